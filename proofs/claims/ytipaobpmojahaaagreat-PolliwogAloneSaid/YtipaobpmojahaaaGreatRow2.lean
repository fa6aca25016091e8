/-
  Plain arithmetic as the walk writes it. No program is named · A struct stored whole into a block of its own. No program is named · A struct loaded and stored whole, its cells whatever they are: no cell is looked at. No program is named.
-/
import Derived.WalkKit
import Derived.WalkSpells
import Derived.WalkLawsBesides
import Derived.Test.YtipaobpmojahaaaGreatCnP
import Derived.Deep.MidRow
import Derived.Deep.RegionHeld3
namespace Go.Proofs.YtipaobpmojahaaaGreat
open Go.RowKit

/-- 'a & (2^k - 1)' of an int. -/
theorem and_mask (a : Int) (k m : Nat) (hm : m + 1 = 2 ^ k) (hk : k ≤ 62) : bits .and .i64 a (m : Int) = a % ((m + 1 : Nat) : Int) := by
  have hle : 2 ^ k ≤ 2 ^ 62 := Nat.pow_le_pow_right (by omega) hk
  have h2 : (BitVec.ofInt 64 (m : Int)).toNat = m := by
    rw [BitVec.ofInt_natCast, BitVec.toNat_ofNat]; exact Nat.mod_eq_of_lt (by omega)
  show IntKind.i64.wrap ((BitVec.ofInt 64 a &&& BitVec.ofInt 64 (m : Int)).toNat : Int) = _
  rw [BitVec.toNat_and, h2, BitVec.toNat_ofInt]
  have hm' : m = 2 ^ k - 1 := by omega
  have e1 : ((a % ((2 ^ 64 : Nat) : Int)).toNat &&& m) = (a % ((2 ^ 64 : Nat) : Int)).toNat % (m + 1) := by
    rw [hm, hm', Nat.and_two_pow_sub_one_eq_mod]
  rw [e1]
  have hpos : (0 : Int) ≤ a % ((2 ^ 64 : Nat) : Int) := Int.emod_nonneg _ (by decide)
  have e2 : (((a % ((2 ^ 64 : Nat) : Int)).toNat % (m + 1) : Nat) : Int) = a % ((m + 1 : Nat) : Int) := by
    rw [Int.natCast_emod, Int.toNat_of_nonneg hpos]
    refine Int.emod_emod_of_dvd a ?_
    rw [hm]
    exact Int.natCast_dvd_natCast.2 (Nat.pow_dvd_pow 2 (by omega))
  rw [e2]
  have b1 : 0 ≤ a % ((m + 1 : Nat) : Int) := Int.emod_nonneg _ (by omega)
  have b2 : a % ((m + 1 : Nat) : Int) < ((m + 1 : Nat) : Int) := Int.emod_lt_of_pos _ (by omega)
  exact IntWalk.i64_in _ ⟨by omega, by omega⟩
theorem and_15 (a : Int) : bits .and .i64 a 15 = a % 16 := and_mask a 4 15 rfl (by omega)

theorem Blk.there {w : World} {g : Nat} {t : TypeId} {cs : List Value} (h : Blk w g t cs) {n : Nat} (hn : n ≤ cs.length) : w.there g 0 n := fun j hj => by
  rw [Nat.zero_add]
  exact ⟨by rw [h.cell, List.getElem?_eq_getElem (show j < cs.length by omega)]; rfl, h.frozen j⟩
theorem Touch.setCells {S : Nat → Prop} {g : Nat} (hS : S g) : ∀ (vs : List Value) (o : Nat) {w w' : World}, Touch S w w' → Touch S w (w'.setCells g o vs)
  | [], _, _, _, h => h
  | _v :: r, o, _, _, h => Touch.setCells hS r (o + 1) (h.st hS)
theorem Blk.setCells_at : ∀ (vs : List Value) (o : Nat) {w : World} {g : Nat} {t : TypeId} {cs : List Value}, Blk w g t cs → o + vs.length ≤ cs.length → Blk (w.setCells g o vs) g t (cs.take o ++ vs ++ cs.drop (o + vs.length))
  | [], o, w, g, t, cs, h, _ => by simpa [World.setCells] using h
  | v :: r, o, w, g, t, cs, h, hl => by
    have hl' : o + 1 + r.length ≤ (cs.set o v).length := by simp at hl ⊢; omega
    have := Blk.setCells_at r (o + 1) (h.set o v) hl'
    rw [World.setCells]
    refine this.eq_cells ?_
    have ho : o < cs.length := by simp at hl; omega
    have e1 : (cs.set o v).take (o + 1) = cs.take o ++ [v] := by
      rw [List.take_set, List.take_succ_eq_append_getElem ho, List.set_append_right _ _ (by simp; omega)]
      have : (List.take o cs).length = o := by simp; omega
      rw [this, Nat.sub_self]; rfl
    have e2 : (cs.set o v).drop (o + 1 + r.length) = cs.drop (o + (v :: r).length) := by
      rw [List.drop_set, if_pos (by omega)]
      congr 1
      simp
      omega
    rw [e1, e2]
    simp
theorem Blk.setCells {w : World} {g : Nat} {t : TypeId} {cs vs : List Value} (h : Blk w g t cs) (hl : vs.length = cs.length) : Blk (w.setCells g 0 vs) g t vs := by
  have := Blk.setCells_at vs 0 h (by omega)
  refine this.eq_cells ?_
  rw [Nat.zero_add, hl]
  simp

section
variable {P : Program} {w : World} {b : Nat} {t : TypeId} {cs old : List Value}
theorem Blk.range (h : Blk w b t cs) : w.rangeAt b 0 cs := fun j v hv => by rw [Nat.zero_add, h.cell]; exact hv
theorem Blk.range_at (h : Blk w b t cs) (o : Nat) {vs : List Value} (hv : ∀ (j : Nat) (v : Value), vs[j]? = some v → cs[o + j]? = some v) : w.rangeAt b o vs := fun j v e => by rw [h.cell]; exact hv j v e
theorem Blk.there_at (h : Blk w b t cs) (o : Nat) {n : Nat} (hn : o + n ≤ cs.length) : w.there b o n := fun j hj =>
  ⟨by rw [h.cell, List.getElem?_eq_getElem (show o + j < cs.length by omega)]; rfl, h.frozen (o + j)⟩
variable {ty : TypeId} {d : TypeDesc}
theorem exec_loadB {o : Oper} {ρ : Operand → Value} {x : Operand} (ho : o.op = .load ty x) {k : Nat} (hx : ρ x = .pointer (some ⟨b, k, none⟩)) (hc : w.rangeAt b k cs) (hu : P.underlying ty = some d) (hd : d.isRow = true) (hi : (P.info? ty).map (·.size) = some cs.length) : (execOp ρ o).run P w = .ok (.value (.agg cs.toArray)) w := by
  unfold execOp
  simp only [ho, hx, Instr.loadAt, Instr.sureAddr, Sem.run_bind, Sem.run_pure, Result.andThen_ok, run_loadVar_mid w b k ty cs d hc hu hd hi]
theorem exec_storeB {o : Oper} {ρ : Operand → Value} {x y : Operand} (ho : o.op = .store ty x y) {k : Nat} (hx : ρ x = .pointer (some ⟨b, k, none⟩)) (hy : ρ y = .agg cs.toArray) (ht : w.there b k cs.length) (hi : (P.info? ty).map (·.size) = some cs.length) (h1 : ∀ v ∈ cs, v.oneCell' = true) : (execOp ρ o).run P w = .ok .skip (w.setCells b k cs) := by
  unfold execOp
  simp only [ho, hx, hy, Instr.storeAt, Instr.sureAddr, Sem.run_bind, Sem.run_pure, Result.andThen_ok, run_storeVar_mid w b k ty cs.toArray (by simpa using ht) (by simpa using hi) (all_oneCell_toArray h1)]
theorem exec_buildB {o : Oper} {ρ : Operand → Value} {parts : Array (Nat × Operand)} (ho : o.op = .build ty parts) (cells : Array Value) (h : P.built ty (parts.map fun (i, x) => (i, ρ x)).toList = some cells) : (execOp ρ o).run P w = .ok (.value (.agg cells)) w := by
  unfold execOp
  simp only [ho, Sem.run_bind, run_build w ty _ cells h, Result.andThen_ok]
  rfl
/-- A struct is loaded. -/
theorem wpList_loadB {ops : Array Oper} {rest : List Oper} {op : Oper} {a : Act} {Q : Exit → Act → World → Prop} (hgd : op.guard = none) (ty : TypeId) (x : Operand) (ho : op.op = .load ty x)
    (b k : Nat) (hx : a.eval x = .pointer (some ⟨b, k, none⟩)) (cs : List Value) {d : TypeDesc} (hc : w.rangeAt b k cs) (hu : P.underlying ty = some d) (hd : d.isRow = true) (hi : (P.info? ty).map (·.size) = some cs.length)
    (h : wpList P ops Q rest (a.put op.dst (.agg cs.toArray)) w) : wpList P ops Q (op :: rest) a w :=
  wpList_load_mid hgd ty x ho b k hx cs d hc hu hd hi h
/-- A struct is stored: what the block then holds; the world is any that has it so. -/
theorem wpList_storeB {ops : Array Oper} {rest : List Oper} {op : Oper} {a : Act} {Q : Exit → Act → World → Prop} (hgd : op.guard = none) (ty : TypeId) (x y : Operand) (ho : op.op = .store ty x y)
    (b k : Nat) (hx : a.eval x = .pointer (some ⟨b, k, none⟩)) (cs : List Value) (hy : a.eval y = .agg cs.toArray) {t : TypeId} {old : List Value} (hB : Blk w b t old) (hl : k + cs.length ≤ old.length) (hi : (P.info? ty).map (·.size) = some cs.length) (h1 : ∀ v ∈ cs, v.oneCell' = true)
    (h : ∀ w', Blk w' b t (old.take k ++ cs ++ old.drop (k + cs.length)) → Touch (· = b) w w' → wpList P ops Q rest (a.put op.dst undef) w') : wpList P ops Q (op :: rest) a w :=
  wpList_store_mid hgd ty x y ho b k cs.toArray hx hy (by simpa using hB.there_at k hl) (by simpa using hi) (all_oneCell_toArray h1) (h _ (Blk.setCells_at cs k hB hl) (Touch.setCells (S := (· = b)) rfl cs k (Touch.refl _ _)))
/-! Results that are read out of boxes. -/
theorem loadVar_B {b k : Nat} {cs : List Value} (hc : w.rangeAt b k cs) (hu : P.underlying ty = some d) (hd : d.isRow = true) (hi : (P.info? ty).map (·.size) = some cs.length) : (loadVar ty ⟨b, k, none⟩).run P w = .ok (.agg cs.toArray) w := run_loadVar_mid w b k ty cs d hc hu hd hi
theorem results_c {fn : Func} {t : Tmp} (h : fn.results = #[.cell t ty]) (tmps : Array Value) (ht : tmps.getD t undef = .pointer (some ⟨b, 0, none⟩)) (hc : w.rangeAt b 0 cs) (hu : P.underlying ty = some d) (hd : d.isRow = true) (hi : (P.info? ty).map (·.size) = some cs.length) :
    (results fn tmps).run P w = .ok (.agg cs.toArray) w := by
  have hl := loadVar_B (P := P) hc hu hd hi
  have ht : tmps[t]?.getD undef = .pointer (some ⟨b, 0, none⟩) := by rw [← Array.getD_eq_getD_getElem?]; exact ht
  simp [results, h, ht, asAddr, hl]
theorem results_ct {fn : Func} {t u : Tmp} (h : fn.results = #[.cell t ty, .tmp u]) (tmps : Array Value) (ht : tmps.getD t undef = .pointer (some ⟨b, 0, none⟩)) (hc : w.rangeAt b 0 cs) (hu : P.underlying ty = some d) (hd : d.isRow = true) (hi : (P.info? ty).map (·.size) = some cs.length) :
    (results fn tmps).run P w = .ok (.tuple #[.agg cs.toArray, tmps.getD u undef]) w := by
  have hl := loadVar_B (P := P) hc hu hd hi
  have ht : tmps[t]?.getD undef = .pointer (some ⟨b, 0, none⟩) := by rw [← Array.getD_eq_getD_getElem?]; exact ht
  simp [results, h, ht, asAddr, hl]
theorem results_ctt {fn : Func} {t u v : Tmp} (h : fn.results = #[.cell t ty, .tmp u, .tmp v]) (tmps : Array Value) (ht : tmps.getD t undef = .pointer (some ⟨b, 0, none⟩)) (hc : w.rangeAt b 0 cs) (hu : P.underlying ty = some d) (hd : d.isRow = true) (hi : (P.info? ty).map (·.size) = some cs.length) :
    (results fn tmps).run P w = .ok (.tuple #[.agg cs.toArray, tmps.getD u undef, tmps.getD v undef]) w := by
  have hl := loadVar_B (P := P) hc hu hd hi
  have ht : tmps[t]?.getD undef = .pointer (some ⟨b, 0, none⟩) := by rw [← Array.getD_eq_getD_getElem?]; exact ht
  simp [results, h, ht, asAddr, hl]
theorem results_tc {fn : Func} {t u : Tmp} (h : fn.results = #[.tmp u, .cell t ty]) (tmps : Array Value) (ht : tmps.getD t undef = .pointer (some ⟨b, 0, none⟩)) (hc : w.rangeAt b 0 cs) (hu : P.underlying ty = some d) (hd : d.isRow = true) (hi : (P.info? ty).map (·.size) = some cs.length) :
    (results fn tmps).run P w = .ok (.tuple #[tmps.getD u undef, .agg cs.toArray]) w := by
  have hl := loadVar_B (P := P) hc hu hd hi
  have ht : tmps[t]?.getD undef = .pointer (some ⟨b, 0, none⟩) := by rw [← Array.getD_eq_getD_getElem?]; exact ht
  simp [results, h, ht, asAddr, hl]
variable {b2 : Nat} {ty2 : TypeId} {d2 : TypeDesc} {cs2 : List Value}
theorem results_cc {fn : Func} {t u : Tmp} (h : fn.results = #[.cell t ty, .cell u ty2]) (tmps : Array Value) (ht : tmps.getD t undef = .pointer (some ⟨b, 0, none⟩)) (hc : w.rangeAt b 0 cs) (hu : P.underlying ty = some d) (hd : d.isRow = true) (hi : (P.info? ty).map (·.size) = some cs.length) (ht2 : tmps.getD u undef = .pointer (some ⟨b2, 0, none⟩)) (hc2 : w.rangeAt b2 0 cs2) (hu2 : P.underlying ty2 = some d2) (hd2 : d2.isRow = true) (hi2 : (P.info? ty2).map (·.size) = some cs2.length) :
    (results fn tmps).run P w = .ok (.tuple #[.agg cs.toArray, .agg cs2.toArray]) w := by
  have hl := loadVar_B (P := P) hc hu hd hi
  have hl2 := loadVar_B (P := P) hc2 hu2 hd2 hi2
  have ht : tmps[t]?.getD undef = .pointer (some ⟨b, 0, none⟩) := by rw [← Array.getD_eq_getD_getElem?]; exact ht
  have ht2 : tmps[u]?.getD undef = .pointer (some ⟨b2, 0, none⟩) := by rw [← Array.getD_eq_getD_getElem?]; exact ht2
  simp [results, h, ht, ht2, asAddr, hl, hl2]
theorem results_cct {fn : Func} {t u v : Tmp} (h : fn.results = #[.cell t ty, .cell u ty2, .tmp v]) (tmps : Array Value) (ht : tmps.getD t undef = .pointer (some ⟨b, 0, none⟩)) (hc : w.rangeAt b 0 cs) (hu : P.underlying ty = some d) (hd : d.isRow = true) (hi : (P.info? ty).map (·.size) = some cs.length) (ht2 : tmps.getD u undef = .pointer (some ⟨b2, 0, none⟩)) (hc2 : w.rangeAt b2 0 cs2) (hu2 : P.underlying ty2 = some d2) (hd2 : d2.isRow = true) (hi2 : (P.info? ty2).map (·.size) = some cs2.length) :
    (results fn tmps).run P w = .ok (.tuple #[.agg cs.toArray, .agg cs2.toArray, tmps.getD v undef]) w := by
  have hl := loadVar_B (P := P) hc hu hd hi
  have hl2 := loadVar_B (P := P) hc2 hu2 hd2 hi2
  have ht : tmps[t]?.getD undef = .pointer (some ⟨b, 0, none⟩) := by rw [← Array.getD_eq_getD_getElem?]; exact ht
  have ht2 : tmps[u]?.getD undef = .pointer (some ⟨b2, 0, none⟩) := by rw [← Array.getD_eq_getD_getElem?]; exact ht2
  simp [results, h, ht, ht2, asAddr, hl, hl2]
end
end Go.Proofs.YtipaobpmojahaaaGreat
