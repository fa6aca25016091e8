/-
  What a sort's world (the library's word) is to a slice that reads as a list. No program is named · polliwogref16.Config, out of a row's reading: a struct of six numbers and a list. No conditions.
-/
import Derived.Test.YtipaobpmojahaaaGreatRow2
import Derived.Shelf.GgSortFunc.InsertionK
import Derived.Test.YtipaobpmojahaaaGreatRf15
import Derived.Lib.SmallJoins
namespace Go.Proofs.YtipaobpmojahaaaGreat
open Go.RowKit Go.Sort

section
variable {α : Type} [Inhabited α] {E : El α} {w : World} {g o c : Nat} {l l' : List α}

theorem flatK_all (E : El α) (l : List α) : (flatK E.enc E.size l.toArray).toList = E.all l := by
 apply List.ext_getElem
 ·simp [E.all_len]
 ·intro t h1 h2
  obtain ⟨i, f, hi, ht, hf, hu⟩ := E.all_get l t _ (List.getElem?_eq_getElem h2)
  have hlt : t < l.toArray.size * E.size := by simpa [E.all_len] using h2
  have hg := get_flatK E.enc E.size l.toArray t hlt
  have h1' : t < (flatK E.enc E.size l.toArray).size := by simpa using hlt
  rw [getElem!_pos _ t h1'] at hg
  rw [Array.getElem_toList, hg]
  have e1 : t / E.size = i := by rw [ht, Nat.mul_comm, Nat.mul_add_div E.pos, Nat.div_eq_of_lt hf, Nat.add_zero]
  have e2 : t % E.size = f := by rw [ht, Nat.mul_comm, Nat.mul_add_mod, Nat.mod_eq_of_lt hf]
  rw [e1, e2]
  have e3 : (l.toArray)[i]! = l[i] := by simp [hi]
  rw [e3, List.getElem!_eq_getElem?_getD, hu]
  rfl

theorem Sl.holdsK (h : Sl E w (some ⟨g, o, none⟩) c l) : HoldsK E.enc E.size w g o l.toArray := fun j hj => by
 refine ⟨?_, h.frozen g o rfl _⟩
 have hj' : j < (E.all l).length := by rw [E.all_len]; simpa using hj
 have := h.cells ⟨g, o, none⟩ rfl j _ (List.getElem?_eq_getElem hj')
 have e : (⟨g, o, none⟩ : Addr).add j = ⟨g, o + j, none⟩ := by simp [Addr.add]
 rw [e] at this
 rw [this, getElem!_pos _ j hj, <- Array.getElem_toList]
 simp only [flatK_all, id]

theorem sorted_blk {cs : List Value} {t : TypeId} (hb : Blk w g t cs) (n : Nat) (d : Array α) (os : Array Obj) :
  Blk (sortWorldK E.enc E.size w g o n d os) g t (putCells id o (flatK E.enc E.size d) cs.toArray).toList := by
 have hlt := hb.lt
 unfold Blk at hb ⊢
 simp only [sortWorldK, grow, putRowK, putRow, mapBlock]
 rw [Array.getElem?_append_left (by simpa using hlt), Array.getElem?_modify, if_pos rfl, show (Go.Sort.ahead w n).heap = w.heap from rfl, hb]
 rfl

theorem sorted_touch (n : Nat) (d : Array α) (os : Array Obj) : Touch (· = g) w (sortWorldK E.enc E.size w g o n d os) where
 os := rfl
 tape := rfl
 output := rfl
 size := by simp [sortWorldK, grow, putRowK, putRow, mapBlock]
 block := fun k hk hs => by
  simp only [sortWorldK, grow, putRowK, putRow, mapBlock]
  rw [Array.getElem?_append_left (by simpa using hk), Array.getElem?_modify, if_neg (fun e => hs e.symm), show (Go.Sort.ahead w n).heap = w.heap from rfl]

theorem Sl.sorted (h : Sl E w (some ⟨g, o, none⟩) c l) (hl : l'.length = l.length) (n : Nat) (os : Array Obj) :
  Sl E (sortWorldK E.enc E.size w g o n l'.toArray os) (some ⟨g, o, none⟩) c l' := by
 refine ⟨by rw [hl]; exact h.1, h.2.1, nofun, fun ad e => ?_⟩
 injection e with e
 subst e
 obtain ⟨hs, cs, hb, hlen, hcs⟩ := h.2.2.2 _ rfl
 refine ⟨rfl, _, sorted_blk hb n _ os, by simpa [putCells] using hlen, ?_⟩
 have hc1 : l.length * E.size <= c * E.size := Nat.mul_le_mul_right _ h.1
 simp only at hlen hcs ⊢
 have hfl : (flatK E.enc E.size l'.toArray).size = l.length * E.size := by simp [hl]
 apply List.ext_getElem?
 intro k
 rw [List.getElem?_take]
 split
 ·rename_i hk
  rw [hl] at hk
  rw [List.getElem?_drop, Array.getElem?_toList]
  unfold putCells
  rw [Array.getElem?_mapIdx]
  have hk2 : o + k < cs.toArray.size := by simp; omega
  rw [Array.getElem?_eq_getElem hk2, Option.map_some, if_pos (by omega), show o + k - o = k by omega, getElem!_pos _ k (by omega), <- flatK_all, Array.getElem?_toList, Array.getElem?_eq_getElem (by omega)]
  rfl
 ·rename_i hk
  rw [eq_comm, List.getElem?_eq_none_iff, E.all_len]
  omega

theorem permIn_list {d d' : Array α} (h : PermIn 0 d.size d d') : d'.toList.Perm d.toList := by
 have h3 := h.2.2
 have e := h.1
 rw [Array.extract_eq_self_of_le (Nat.le_refl _), Array.extract_eq_self_of_le (by omega)] at h3
 exact h3
end

section
variable {α : Type} {E : El α} {w : World} {g o c : Nat} {l : List α}
theorem Sl.put (h : Sl E w (some ⟨g, o, none⟩) c l) {i f : Nat} {a : α} {u : Value} (hi : i < l.length) (hf : f < E.size) (ha : E.enc a = (E.enc l[i]).set f u) :
  Sl E (w.setCell ⟨g, o + (i * E.size + f), none⟩ u) (some ⟨g, o, none⟩) c (l.set i a) := by
 refine ⟨by simpa using h.1, h.2.1, h.2.2.1, fun ad e => ?_⟩
 obtain ⟨hs, cs, hb, hl, he⟩ := h.2.2.2 ad e
 injection e with e
 subst e
 simp only at hb hl he
 refine ⟨rfl, cs.set (o + (i * E.size + f)) u, hb.set _ _, by simpa using hl, ?_⟩
 rw [List.length_set]
 have hset : ∀ (l : List α) (i : Nat) (hi : i < l.length), E.enc a = (E.enc l[i]).set f u -> E.all (l.set i a) = (E.all l).set (i * E.size + f) u := by
  intro l
  induction l with
  |nil => intro i hi; simp at hi
  |cons b l ih =>
   intro i hi ha
   cases i with
   |zero =>
    rw [List.set_cons_zero, E.all_cons, E.all_cons, ha, Nat.zero_mul, Nat.zero_add, List.set_append, if_pos (by rw [E.len]; exact hf)]
    rfl
   |succ i =>
    rw [List.set_cons_succ, E.all_cons, E.all_cons, ih i (by simpa using hi) ha, List.set_append, if_neg (by rw [E.len, Nat.add_mul]; omega), E.len]
    congr 2
    rw [Nat.add_mul]
    omega
 show List.take (l.length * E.size) (List.drop o (cs.set (o + (i * E.size + f)) u)) = _
 rw [hset l i hi ha, <- he, List.drop_set, if_neg (by omega), List.take_set, Nat.add_sub_cancel_left]
end
open Go.RowKit Go.ChangeShapes Go.WideShapes Go.ChangeAt
set_option linter.constructorNameAsVariable false

theorem arr7 {α : Type} {cs : Array α} (h : cs.size = 7) : ∃ c0 c1 c2 c3 c4 c5 c6, cs = #[c0, c1, c2, c3, c4, c5, c6] := by
 obtain ⟨l⟩ := cs
 match l, h with
 |[c0, c1, c2, c3, c4, c5, c6], _ => exact ⟨c0, c1, c2, c3, c4, c5, c6, rfl⟩
set_option maxRecDepth 100000 in
theorem open_config (v : Value) (w : World) {H : Type} {enc : TypeId × Value -> H} {base : Nat} {d : DataW H} {p : List MemPlace} (hv : Value.okWide Tryz.prog w .any base 24 v) (h : DataW.Trod enc Tryz.prog w 0 (fun _ => true) true 24 v d p) :
  ∃ x0 x1 x2 x3 x4 x5 A c L, v = .agg #[.int .i64 x0, .int .i64 x1, .int .i64 x2, .int .i64 x3, .int .i64 x4, .int .i64 x5, .slice A L.length c] ∧ Rd intE w A c L := by
 obtain ⟨cs, rfl, hsz⟩ := okWide_struct Tryz.underlying24 hv
 obtain ⟨v0, v1, v2, v3, v4, v5, v6, rfl⟩ := arr7 (hsz.trans (by kernel_rfl))
 obtain ⟨fuel, hf⟩ := h
 obtain ⟨_, m, hm⟩ := open_fields Tryz.underlying24 (by kernel_rfl) (by kernel_rfl) hf
 obtain ⟨y0, h0⟩ := hm 0 _ rfl
 obtain ⟨y1, h1⟩ := hm 1 _ rfl
 obtain ⟨y2, h2⟩ := hm 2 _ rfl
 obtain ⟨y3, h3⟩ := hm 3 _ rfl
 obtain ⟨y4, h4⟩ := hm 4 _ rfl
 obtain ⟨y5, h5⟩ := hm 5 _ rfl
 obtain ⟨y6, h6⟩ := hm 6 _ rfl
 obtain ⟨x0, e0, _, _⟩ := DataW.trod_int Tryz.underlying3 h0
 obtain ⟨x1, e1, _, _⟩ := DataW.trod_int Tryz.underlying3 h1
 obtain ⟨x2, e2, _, _⟩ := DataW.trod_int Tryz.underlying3 h2
 obtain ⟨x3, e3, _, _⟩ := DataW.trod_int Tryz.underlying3 h3
 obtain ⟨x4, e4, _, _⟩ := DataW.trod_int Tryz.underlying3 h4
 obtain ⟨x5, e5, _, _⟩ := DataW.trod_int Tryz.underlying3 h5
 obtain ⟨A, c, L, rfl, r6, _⟩ := open_rd_cell intE Tryz.underlying22 (by kernel_rfl) (Good := fun _ => True) (fun n cs y hy => by
  obtain ⟨x, rfl, _, _⟩ := DataW.trod_int Tryz.underlying3 hy
  exact ⟨x, rfl, trivial⟩) h6
 injection e0 with e0
 injection e1 with e1
 injection e2 with e2
 injection e3 with e3
 injection e4 with e4
 injection e5 with e5
 subst e0 e1 e2 e3 e4 e5
 exact ⟨_, _, _, _, _, _, A, c, L, rfl, r6⟩
set_option maxRecDepth 100000 in
theorem open_strs (v : Value) (w : World) {H : Type} {enc : TypeId × Value -> H} {base : Nat} {d : DataW H} {p : List MemPlace} (hv : Value.okWide Tryz.prog w .any base 25 v) (h : DataW.Trod enc Tryz.prog w 0 (fun _ => true) true 25 v d p) :
  ∃ A c l, v = .slice A l.length c ∧ Rd strE w A c l ∧ ∀ x ∈ l, x.size <= maxLen :=
 open_rd strE Tryz.underlying25 (by kernel_rfl) (fun n cs y hy => by
  obtain ⟨x, rfl, _, hs⟩ := DataW.trod_string Tryz.underlying9 hy
  exact ⟨x, rfl, hs⟩) hv h
end Go.Proofs.YtipaobpmojahaaaGreat
