/-
  ConnTwo: whoever asks, also both at once, two ends that hear one another come to be Ready both, or Idle both. No conditions.
-/
import Derived.Test.YtkmegkjkbalooaaHear
import Derived.Test.YtkmegkjkbalooaaNum
import Derived.Test.YtkmegkjkbalooaaR01
import Derived.Test.YtkmegkjkbalooaaDag
namespace Go.Proofs.Ytkmegkjkbalooaa
open Go.RowKit Go.Shelf

namespace Tw
/-- Who has asked ahead of end n. -/
def stg (b0 b1 : Bool) (c : Nat) (p : P) (n : Nat) : P := if n = 0 then p else if n = 1 then (if b0 then askW c p else p) else start b0 b1 c p
theorem Good.bnd {N : Nat} {p : P} (h : Good N p) : Bnd 0 N p ∧ Bnd 0 N p.swap := by
  obtain ⟨a, b, q, _, _, hq, h⟩ := h
  have hz : (qs.all fun q => q.wa.isEmpty && q.wb.isEmpty && q.fa.n == 0 && q.fb.n == 0) = true := by decide
  have hz := List.all_eq_true.1 hz q hq
  simp only [Bool.and_eq_true, List.isEmpty_iff, beq_iff_eq] at hz
  obtain ⟨⟨⟨z0, z1⟩, z2⟩, z3⟩ := hz
  have l0 := map_len h.w0
  have l1 := map_len h.w1
  have n0 := h.g0.n
  have n1 := h.g1.n
  rw [z0] at l0
  rw [z1] at l1
  simp at l0 l1
  exact ⟨⟨by simp [l1], by omega⟩, ⟨by show p.w0.length ≤ 0; simp [l0], by show p.t1.length ≤ N; omega⟩⟩
/-- The pick of a number: its last four bits. -/
def pick (v : Int) : Nat := (v % 16).toNat
theorem pick_lt (v : Int) : pick v < 16 := by unfold pick; omega
theorem pick_4 (v : Int) : bits .and .i64 (v / 4) 3 = ((pick v / 4 : Nat) : Int) ∧ pick v / 4 < 4 := by
  have e := and_mask (v / 4) 2 3 rfl (by omega)
  refine ⟨?_, ?_⟩
  · rw [show (3 : Int) = ((3 : Nat) : Int) from rfl, e]
    unfold pick
    omega
  · have := pick_lt v
    omega
/-- What is asked: 0, none, the code. -/
def wk (c : Nat) : Int := if c = 3 then 0 else askK c
theorem wk_ask {c : Nat} (h : ¬ c = 3) : wk c = askK c := if_neg h
theorem askK_ne (c : Nat) : (askK c == 0) = false := by
  unfold askK
  split
  · rfl
  · split <;> rfl
theorem Bnd.by_swap {a b : Nat} {p : P} {y : Cn.SR} (h : Bnd a b p.swap) : Bnd a b (p.by_ y).swap := ⟨h.w1, h.t0⟩
def bit (v : Int) (i : Nat) : Bool := if i = 0 then pick v % 2 == 1 else pick v / 2 % 2 == 1
theorem bit_0 (v : Int) : (bits .and .i64 v 1 == 1) = bit v 0 := by
  rw [and_1]
  unfold bit pick
  rw [if_pos rfl]
  by_cases e : v % 2 = 1
  · rw [e]; have : (v % 16).toNat % 2 = 1 := by omega
    rw [this]; rfl
  · have e0 : v % 2 = 0 := by omega
    rw [e0]; have : (v % 16).toNat % 2 = 0 := by omega
    rw [this]; rfl
theorem bit_1 (v : Int) : (bits .and .i64 (v / 2) 1 == 1) = bit v 1 := by
  rw [and_1]
  unfold bit pick
  rw [if_neg (by decide)]
  by_cases e : v / 2 % 2 = 1
  · rw [e]; have : (v % 16).toNat / 2 % 2 = 1 := by omega
    rw [this]; rfl
  · have e0 : v / 2 % 2 = 0 := by omega
    rw [e0]; have : (v % 16).toNat / 2 % 2 = 0 := by omega
    rw [this]; rfl
theorem stg_two {b0 b1 : Bool} {c : Nat} {p : P} : stg b0 b1 c p (1 + 1) = (if b1 = true then askW c (stg b0 b1 c p 1).swap else (stg b0 b1 c p 1).swap).swap := by
  show start b0 b1 c p = _
  unfold start stg
  cases b1 <;> rfl
end Tw
theorem PairI.swap_if {w : World} {gc g0 g1 ca cb : Nat} {p : Tw.P} {b0 b1 : Bool} {c : Nat} (h : PairI 1 0 w gc g0 g1 cb ca (if b1 = true then Tw.askW c (Tw.stg b0 b1 c p 1).swap else (Tw.stg b0 b1 c p 1).swap)) : PairI 0 1 w gc g0 g1 ca cb (Tw.stg b0 b1 c p (1 + 1)) := by
  rw [Tw.stg_two]
  exact h.swap

/-- Vars makes one thing, and no more. -/
theorem vars_ex {w : World} {c : Nat} {s : Cn.S} (h : ConnAt w c s) :
    Calls Try.prog 13 #[.pointer (some ⟨c, 0, none⟩)] w fun e w' => e = .returned (.agg #[.int .i64 s.state, .int .i64 s.sq, .int .i64 s.peer, .int .i64 s.cc, .int .u32 s.ms]) ∧ ∃ o, w' = w.alloc o := by
  have s2 : w.cell? ⟨c, 2, none⟩ = some (.int .i64 s.state) := Blk.cell h 2
  have s3 : w.cell? ⟨c, 3, none⟩ = some (.int .i64 s.sq) := Blk.cell h 3
  have s4 : w.cell? ⟨c, 4, none⟩ = some (.int .i64 s.peer) := Blk.cell h 4
  have s5 : w.cell? ⟨c, 5, none⟩ = some (.int .i64 s.cc) := Blk.cell h 5
  have s6 : w.cell? ⟨c, 6, none⟩ = some (.int .u32 s.ms) := Blk.cell h 6
  have hl : c < w.heap.size := Blk.lt h
  have s2' : ∀ o, (w.alloc o).cell? ⟨c, 2, none⟩ = some (.int .i64 s.state) := fun o => Blk.cell (Blk.alloc h o) 2
  have s3' : ∀ o, (w.alloc o).cell? ⟨c, 3, none⟩ = some (.int .i64 s.sq) := fun o => Blk.cell (Blk.alloc h o) 3
  have s4' : ∀ o, (w.alloc o).cell? ⟨c, 4, none⟩ = some (.int .i64 s.peer) := fun o => Blk.cell (Blk.alloc h o) 4
  have s5' : ∀ o, (w.alloc o).cell? ⟨c, 5, none⟩ = some (.int .i64 s.cc) := fun o => Blk.cell (Blk.alloc h o) 5
  have s6' : ∀ o, (w.alloc o).cell? ⟨c, 6, none⟩ = some (.int .u32 s.ms) := fun o => Blk.cell (Blk.alloc h o) 6
  clear h hl
  go_enter Try.func13, Try.ntmps13
  go_wp2
  exact bodyPost_ret (v := _) (by simp [results, Try.results13, go_sem]) rfl ⟨rfl, _, rfl⟩

set_option maxHeartbeats 1000000 in
/-- New makes two things, and no more. -/
theorem cnew_ex (most credit : Int) (w : World) :
    Calls Try.prog 8 #[.agg #[.int .i64 most, .int .u32 credit]] w fun e w' => e = .returned (.pointer (some ⟨w.heap.size + 1, 0, none⟩)) ∧ ∃ o, w' = ((w.alloc o).alloc (.cells (connCells (Cn.new most credit)).toArray 68)).drew := by
  obtain ⟨m, hm⟩ : ∃ m, (if 16 < most then (16 : Int) else most) = m := ⟨_, rfl⟩
  obtain ⟨M, hM⟩ : ∃ M, (if 1 < m then m else 1) = M := ⟨_, rfl⟩
  have HL := Lib.hid low_any
  have HM : Hid (max 1 (min most 16) = M) := by unfold Hid; rw [← hM, ← hm]; (split <;> (try split) <;> omega)
  have HB : Hid (1 ≤ M ∧ M ≤ 16) := by have := HM.out; unfold Hid; omega
  go_enter Try.func8, Try.ntmps8
  go_wp2
  go_region_law (go_simp; go_at_call 19; refine (HL.out credit _).mono ?_; rintro e w1 ⟨rfl, rfl⟩)
  all_goals
    clear hm hM
    go_wp2
    go_ret
    have hN : Cn.new most credit = ⟨M, credit % 16777216, 1, 0, -1, 0, credit % 16777216, Cn.no⟩ := by unfold Cn.new; rw [HM.out]
    rw [hN]
    exact ⟨rfl, _, rfl⟩
theorem new35 (w : World) : Calls Try.prog 8 #[.agg #[.int .i64 3, .int .u32 5]] w fun e w' => e = .returned (.pointer (some ⟨w.heap.size + 1, 0, none⟩)) ∧ ∃ o, w' = ((w.alloc o).alloc (.cells #[.int .i64 3, .int .u32 5, .int .i64 1, .int .i64 0, .int .i64 (-1), .int .i64 0, .int .u32 5, .string Cn.no] 68)).drew := cnew_ex 3 5 w
theorem new36 (w : World) : Calls Try.prog 8 #[.agg #[.int .i64 3, .int .u32 6]] w fun e w' => e = .returned (.pointer (some ⟨w.heap.size + 1, 0, none⟩)) ∧ ∃ o, w' = ((w.alloc o).alloc (.cells #[.int .i64 3, .int .u32 6, .int .i64 1, .int .i64 0, .int .i64 (-1), .int .i64 0, .int .u32 6, .string Cn.no] 68)).drew := cnew_ex 3 6 w
theorem Blk.new_at {W : World} {g : Nat} {t : TypeId} {cs : List Value} (h : W.heap.size = g) : Blk (W.alloc (.cells cs.toArray t)) g t cs := h ▸ Blk.new W t cs
/-- What ConnTwo begins with. -/
structure Fst (W w : World) (bp gc g0 g1 ca cb : Nat) : Prop where
  pair : Blk w bp 35 [.slice (some ⟨gc, 0, none⟩) 2 2, .slice (some ⟨g0, 0, none⟩) 2 2, .slice (some ⟨g1, 0, none⟩) 2 2]
  conns : Blk w gc 25 [.pointer (some ⟨ca, 0, none⟩), .pointer (some ⟨cb, 0, none⟩)]
  ways : Blk w g0 39 [.slice none 0 0, .slice none 0 0]
  told : Blk w g1 38 [.slice none 0 0, .slice none 0 0]
  a : Blk w ca 68 [.int .i64 3, .int .u32 5, .int .i64 1, .int .i64 0, .int .i64 (-1), .int .i64 0, .int .u32 5, .string Cn.no]
  b : Blk w cb 68 [.int .i64 3, .int .u32 6, .int .i64 1, .int .i64 0, .int .i64 (-1), .int .i64 0, .int .u32 6, .string Cn.no]
  fresh : Fresh W w
theorem Fst.pairI {W w : World} {bp gc g0 g1 ca cb : Nat} (h : Fst W w bp gc g0 g1 ca cb) : PairI 0 1 w gc g0 g1 ca cb ⟨Cn.new 3 5, Cn.new 3 6, [], [], [], []⟩ :=
  ⟨.inl ⟨rfl, rfl⟩, ⟨_, h.conns, rfl, rfl⟩, ⟨_, none, 0, none, 0, h.ways, rfl, rfl, Sl.nil _ _, Sl.nil _ _⟩, ⟨_, none, 0, none, 0, h.told, rfl, rfl, Sl.nil _ _, Sl.nil _ _⟩, h.a, h.b, ⟨by decide, by decide, by decide, by decide, by decide, by decide⟩, ⟨by decide, by decide, by decide, by decide, by decide, by decide⟩, fun e => by
    subst e
    have := h.a.uniq h.b
    injection this with _ this
    injection this with this _
    injection this with _ this
    omega⟩
theorem mk_ways (W : World) : (Instr.makeSlice 32 (.int .i64 2) (.int .i64 2)).run Try.prog W = .ok (.slice (some ⟨W.heap.size, 0, none⟩) 2 2) (W.alloc (.cells #[.slice none 0 0, .slice none 0 0] 39)) := by kernel_rfl
theorem mk_told (W : World) : (Instr.makeSlice 33 (.int .i64 2) (.int .i64 2)).run Try.prog W = .ok (.slice (some ⟨W.heap.size, 0, none⟩) 2 2) (W.alloc (.cells #[.slice none 0 0, .slice none 0 0] 38)) := by kernel_rfl

theorem Touch.bcell {w w' : World} (f : Fresh w w') : (∀ b o, b < w.heap.size → w'.cell? ⟨b, o, none⟩ = w.cell? ⟨b, o, none⟩) ∧ (∀ x b o, b < w.heap.size → (w'.alloc x).cell? ⟨b, o, none⟩ = w.cell? ⟨b, o, none⟩) ∧ (∀ x y b o, b < w.heap.size → ((w'.alloc x).alloc y).cell? ⟨b, o, none⟩ = w.cell? ⟨b, o, none⟩) ∧ (∀ x y z b o, b < w.heap.size → (((w'.alloc x).alloc y).alloc z).cell? ⟨b, o, none⟩ = w.cell? ⟨b, o, none⟩) :=
  ⟨fun _ _ h => f.cel h (fun e => e), fun x _ _ h => (Touch.alloc f x).cel h (fun e => e), fun x y _ _ h => (Touch.alloc (Touch.alloc f x) y).cel h (fun e => e), fun x y z _ _ h => (Touch.alloc (Touch.alloc (Touch.alloc f x) y) z).cel h (fun e => e)⟩
theorem Touch.bfrz {w w' : World} (f : Fresh w w') : (∀ b o, b < w.heap.size → w'.frozen? ⟨b, o, none⟩ = w.frozen? ⟨b, o, none⟩) ∧ (∀ x b o, b < w.heap.size → (w'.alloc x).frozen? ⟨b, o, none⟩ = w.frozen? ⟨b, o, none⟩) ∧ (∀ x y b o, b < w.heap.size → ((w'.alloc x).alloc y).frozen? ⟨b, o, none⟩ = w.frozen? ⟨b, o, none⟩) ∧ (∀ x y z b o, b < w.heap.size → (((w'.alloc x).alloc y).alloc z).frozen? ⟨b, o, none⟩ = w.frozen? ⟨b, o, none⟩) :=
  ⟨fun _ _ h => f.frz h (fun e => e), fun x _ _ h => (Touch.alloc f x).frz h (fun e => e), fun x y _ _ h => (Touch.alloc (Touch.alloc f x) y).frz h (fun e => e), fun x y z _ _ h => (Touch.alloc (Touch.alloc (Touch.alloc f x) y) z).frz h (fun e => e)⟩

/-! What region 3 has made. -/
def slotT (j : Nat) : Nat := [15, 16, 17, 18, 19, 20, 21, 22, 5].getD j 0
theorem slotT_ne : ∀ i, i < 9 → ∀ j, j < 9 → j ≠ i → slotT j ≠ slotT i := by decide
def IsC5 (w1 w : World) (c : Nat) : Prop := w1.heap.size ≤ c ∧ Blk w c 68 [.int .i64 3, .int .u32 5, .int .i64 1, .int .i64 0, .int .i64 (-1), .int .i64 0, .int .u32 5, .string Cn.no]
def IsC6 (w1 w : World) (c : Nat) : Prop := w1.heap.size ≤ c ∧ Blk w c 68 [.int .i64 3, .int .u32 6, .int .i64 1, .int .i64 0, .int .i64 (-1), .int .i64 0, .int .u32 6, .string Cn.no]
def IsW (w1 w : World) (g : Nat) : Prop := w1.heap.size ≤ g ∧ Blk w g 39 [.slice none 0 0, .slice none 0 0]
def IsT (w1 w : World) (g : Nat) : Prop := w1.heap.size ≤ g ∧ Blk w g 38 [.slice none 0 0, .slice none 0 0]
def IsCC (w1 w : World) (g ca cb : Nat) : Prop := w1.heap.size ≤ g ∧ Blk w g 25 [.pointer (some ⟨ca, 0, none⟩), .pointer (some ⟨cb, 0, none⟩)]
def TwoP (w1 : World) (j : Nat) (v : Value) (w : World) : Prop := match j with
  | 0 => v = .agg #[.int .i64 3, .int .u32 5]
  | 1 => ∃ ca, v = .pointer (some ⟨ca, 0, none⟩) ∧ IsC5 w1 w ca
  | 2 => v = .agg #[.int .i64 3, .int .u32 6]
  | 3 => ∃ cb, v = .pointer (some ⟨cb, 0, none⟩) ∧ IsC6 w1 w cb
  | 4 => ∃ gc ca cb, v = .slice (some ⟨gc, 0, none⟩) 2 2 ∧ IsCC w1 w gc ca cb ∧ IsC5 w1 w ca ∧ IsC6 w1 w cb
  | 5 => ∃ g0, v = .slice (some ⟨g0, 0, none⟩) 2 2 ∧ IsW w1 w g0
  | 6 => ∃ g1, v = .slice (some ⟨g1, 0, none⟩) 2 2 ∧ IsT w1 w g1
  | 7 => ∃ gc g0 g1 ca cb, v = .agg #[.slice (some ⟨gc, 0, none⟩) 2 2, .slice (some ⟨g0, 0, none⟩) 2 2, .slice (some ⟨g1, 0, none⟩) 2 2] ∧ IsCC w1 w gc ca cb ∧ IsC5 w1 w ca ∧ IsC6 w1 w cb ∧ IsW w1 w g0 ∧ IsT w1 w g1
  | _ => ∃ bp, v = .pointer (some ⟨bp, 0, none⟩) ∧ w1.heap.size ≤ bp ∧ Blk w bp 35 [.slice none 0 0, .slice none 0 0, .slice none 0 0]
theorem TwoP.old {w1 w w' : World} {j : Nat} {v : Value} (h : TwoP w1 j v w) (ht : Fresh w w') : TwoP w1 j v w' := by
  have k : ∀ {g : Nat} {t : TypeId} {cs : List Value}, Blk w g t cs → Blk w' g t cs := fun hb => ht.blk hb (fun e => e)
  match j, h with
  | 0, h => exact h
  | 1, ⟨a, e, l, b⟩ => exact ⟨a, e, l, k b⟩
  | 2, h => exact h
  | 3, ⟨a, e, l, b⟩ => exact ⟨a, e, l, k b⟩
  | 4, ⟨a, b, c, e, l1, l2, l3⟩ => exact ⟨a, b, c, e, ⟨l1.1, k l1.2⟩, ⟨l2.1, k l2.2⟩, ⟨l3.1, k l3.2⟩⟩
  | 5, ⟨a, e, l, b⟩ => exact ⟨a, e, l, k b⟩
  | 6, ⟨a, e, l, b⟩ => exact ⟨a, e, l, k b⟩
  | 7, ⟨a, b, c, x, y, e, l1, l2, l3, l4, l5⟩ => exact ⟨a, b, c, x, y, e, ⟨l1.1, k l1.2⟩, ⟨l2.1, k l2.2⟩, ⟨l3.1, k l3.2⟩, ⟨l4.1, k l4.2⟩, ⟨l5.1, k l5.2⟩⟩
  | _ + 8, ⟨a, e, l, b⟩ => exact ⟨a, e, l, k b⟩
structure TwoJ (w1 : World) (d : Nat → Bool) (f : Nat → Value) (w : World) : Prop where
  fr : Fresh w1 w
  p : d 9 = false → ∀ j, j < 9 → d j = true → TwoP w1 j (f (slotT j)) w
  e : d 9 = true → (∀ j, j < 9 → d j = true) ∧ ∃ bp gc g0 g1 ca cb, f 5 = .pointer (some ⟨bp, 0, none⟩) ∧ Fst w1 w bp gc g0 g1 ca cb ∧ w1.heap.size ≤ g0 ∧ w1.heap.size ≤ g1 ∧ w1.heap.size ≤ ca ∧ w1.heap.size ≤ cb
theorem TwoJ.d9 {w1 w : World} {d : Nat → Bool} {f : Nat → Value} {i : Nat} (h : TwoJ w1 d f w) (hi : d i = false) (h9 : i < 9) : d 9 = false := by
  cases hd : d 9 with
  | false => rfl
  | true => rw [(h.e hd).1 i h9] at hi; cases hi
theorem TwoJ.step {w1 w w' : World} {d : Nat → Bool} {f : Nat → Value} {i : Nat} {v : Value} (h : TwoJ w1 d f w) (hi : d i = false) (h9 : i < 9) (ht : Fresh w w') (hn : TwoP w1 i v w') : TwoJ w1 (Dag.upd d i true) (Dag.upd f (slotT i) v) w' := by
  have hd := h.d9 hi h9
  refine ⟨h.fr.trans ht (fun _ _ e => e), fun _ j hj hdj => ?_, fun hc => ?_⟩
  · by_cases e : j = i
    · subst e
      rw [Dag.upd_same]
      exact hn
    · rw [Dag.upd_far _ _ (slotT_ne i h9 j hj e)]
      rw [Dag.upd_far _ _ e] at hdj
      exact (h.p hd j hj hdj).old ht
  · rw [Dag.upd_far _ _ (by omega), hd] at hc
    cases hc

theorem build_pair (gc g0 g1 : Nat) (W : World) : (Instr.build 35 #[(0, .slice (some ⟨gc, 0, none⟩) 2 2), (1, .slice (some ⟨g0, 0, none⟩) 2 2), (2, .slice (some ⟨g1, 0, none⟩) 2 2)]).run Try.prog W = .ok (.agg #[.slice (some ⟨gc, 0, none⟩) 2 2, .slice (some ⟨g0, 0, none⟩) 2 2, .slice (some ⟨g1, 0, none⟩) 2 2]) W := by kernel_rfl
def Ahead (aft : Array Edge) (k : Nat) : Prop := ∃ e ∈ aft, e.on = k ∧ Region.binds .any e = true
theorem Ahead.of_any {aft : Array Edge} {k : Nat} (h : (aft.any fun e => e.on == k && Region.binds .any e) = true) : Ahead aft k := by
  obtain ⟨j, hj, h⟩ := Array.any_eq_true.1 h
  rw [Bool.and_eq_true] at h
  exact ⟨aft[j], Array.getElem_mem hj, by simpa using h.1, h.2⟩
theorem Ahead.done {aft : Array Edge} {k : Nat} (h : Ahead aft k) {d : Nat → Bool} (hp : ∀ e ∈ aft, Region.binds .any e = true → d e.on = true) : d k = true := by
  obtain ⟨e, h1, h2, h3⟩ := h
  rw [← h2]
  exact hp e h1 h3
theorem TwoP.e4 {w1 w : World} {v : Value} (h : TwoP w1 4 v w) : ∃ gc ca cb, v = .slice (some ⟨gc, 0, none⟩) 2 2 ∧ IsCC w1 w gc ca cb ∧ IsC5 w1 w ca ∧ IsC6 w1 w cb := h
theorem TwoP.e5 {w1 w : World} {v : Value} (h : TwoP w1 5 v w) : ∃ g0, v = .slice (some ⟨g0, 0, none⟩) 2 2 ∧ IsW w1 w g0 := h
theorem TwoP.e6 {w1 w : World} {v : Value} (h : TwoP w1 6 v w) : ∃ g1, v = .slice (some ⟨g1, 0, none⟩) 2 2 ∧ IsT w1 w g1 := h
theorem TwoP.e7 {w1 w : World} {v : Value} (h : TwoP w1 7 v w) : ∃ gc g0 g1 ca cb, v = .agg #[.slice (some ⟨gc, 0, none⟩) 2 2, .slice (some ⟨g0, 0, none⟩) 2 2, .slice (some ⟨g1, 0, none⟩) 2 2] ∧ IsCC w1 w gc ca cb ∧ IsC5 w1 w ca ∧ IsC6 w1 w cb ∧ IsW w1 w g0 ∧ IsT w1 w g1 := h
theorem TwoP.e8 {w1 w : World} {v : Value} (h : TwoP w1 8 v w) : ∃ bp, v = .pointer (some ⟨bp, 0, none⟩) ∧ w1.heap.size ≤ bp ∧ Blk w bp 35 [.slice none 0 0, .slice none 0 0, .slice none 0 0] := h
theorem op7 {A : Act} {w : World} {gc g0 g1 : Nat} {o : Oper} (ho : o.op = Op.build 35 #[(0, Operand.tmp 19), (1, Operand.tmp 20), (2, Operand.tmp 21)]) (e1 : A.eval (.tmp 19) = .slice (some ⟨gc, 0, none⟩) 2 2) (e2 : A.eval (.tmp 20) = .slice (some ⟨g0, 0, none⟩) 2 2) (e3 : A.eval (.tmp 21) = .slice (some ⟨g1, 0, none⟩) 2 2) : (execOp A.eval o).run Try.prog w = .ok (.value (.agg #[.slice (some ⟨gc, 0, none⟩) 2 2, .slice (some ⟨g0, 0, none⟩) 2 2, .slice (some ⟨g1, 0, none⟩) 2 2])) w := by
  have hb := build_pair gc g0 g1
  unfold execOp
  rw [ho]
  generalize A.eval = ρ at *
  go_simp
theorem op9 {A : Act} {w : World} {bp gc g0 g1 : Nat} {c0 c1 c2 : Value} {o : Oper} (ho : o.op = Op.store 35 (Operand.tmp 5) (Operand.tmp 22)) (e1 : A.eval (.tmp 5) = .pointer (some ⟨bp, 0, none⟩)) (e2 : A.eval (.tmp 22) = .agg #[.slice (some ⟨gc, 0, none⟩) 2 2, .slice (some ⟨g0, 0, none⟩) 2 2, .slice (some ⟨g1, 0, none⟩) 2 2]) (hb : Blk w bp 35 [c0, c1, c2]) : (execOp A.eval o).run Try.prog w = .ok .skip (((w.setCell ⟨bp, 0, none⟩ (.slice (some ⟨gc, 0, none⟩) 2 2)).setCell ⟨bp, 1, none⟩ (.slice (some ⟨g0, 0, none⟩) 2 2)).setCell ⟨bp, 2, none⟩ (.slice (some ⟨g1, 0, none⟩) 2 2)) := by
  have k0 := hb.cell 0
  have k1 := hb.cell 1
  have k2 := hb.cell 2
  have z0 := hb.frozen 0
  have z1 := hb.frozen 1
  have z2 := hb.frozen 2
  simp only [List.getElem?_cons_zero, List.getElem?_cons_succ] at k0 k1 k2
  clear hb
  unfold execOp
  rw [ho]
  generalize A.eval = ρ at *
  go_simp
theorem stored {w1 w' : World} {d : Nat → Bool} {f : Nat → Value} {bp gc g0 g1 ca cb : Nat} (hJ : TwoJ w1 d f w') (hp : ∀ j, j < 9 → d j = true) (e2 : f 5 = .pointer (some ⟨bp, 0, none⟩)) (c1 : IsCC w1 w' gc ca cb) (c2 : IsC5 w1 w' ca) (c3 : IsC6 w1 w' cb) (c4 : IsW w1 w' g0) (c5 : IsT w1 w' g1) (c6 : w1.heap.size ≤ bp) (c7 : Blk w' bp 35 [.slice none 0 0, .slice none 0 0, .slice none 0 0]) :
    TwoJ w1 (Dag.upd d 9 true) f (((w'.setCell ⟨bp, 0, none⟩ (.slice (some ⟨gc, 0, none⟩) 2 2)).setCell ⟨bp, 1, none⟩ (.slice (some ⟨g0, 0, none⟩) 2 2)).setCell ⟨bp, 2, none⟩ (.slice (some ⟨g1, 0, none⟩) 2 2)) := by
  have far : ∀ {g : Nat} {t : TypeId} {cs : List Value}, Blk w' g t cs → t ≠ 35 → Blk (((w'.setCell ⟨bp, 0, none⟩ (.slice (some ⟨gc, 0, none⟩) 2 2)).setCell ⟨bp, 1, none⟩ (.slice (some ⟨g0, 0, none⟩) 2 2)).setCell ⟨bp, 2, none⟩ (.slice (some ⟨g1, 0, none⟩) 2 2)) g t cs := fun hb ht => ((hb.far (hb.ne_ c7 ht) _).far (hb.ne_ c7 ht) _).far (hb.ne_ c7 ht) _
  have hfr : Fresh w1 (((w'.setCell ⟨bp, 0, none⟩ (.slice (some ⟨gc, 0, none⟩) 2 2)).setCell ⟨bp, 1, none⟩ (.slice (some ⟨g0, 0, none⟩) 2 2)).setCell ⟨bp, 2, none⟩ (.slice (some ⟨g1, 0, none⟩) 2 2)) := ((hJ.fr.setCell (fun h => by have h : bp < w1.heap.size := h; omega) _).setCell (fun h => by have h : bp < w1.heap.size := h; omega) _).setCell (fun h => by have h : bp < w1.heap.size := h; omega) _
  refine ⟨hfr, fun h => ?_, fun _ => ⟨fun j hj => ?_, bp, gc, g0, g1, ca, cb, e2, ⟨((c7.set 0 _).set 1 _).set 2 _, far c1.2 (by decide), far c4.2 (by decide), far c5.2 (by decide), far c2.2 (by decide), far c3.2 (by decide), hfr⟩, c4.1, c5.1, c2.1, c3.1⟩⟩
  · rw [Dag.upd_same] at h; cases h
  · rw [Dag.upd_far _ _ (by omega)]; exact hp j hj
section
variable {w1 w : World} {d : Nat → Bool} {f : Nat → Value}
theorem TwoJ.at4 (h : TwoJ w1 d f w) (hi : d 9 = false) (hd : d 4 = true) : ∃ gc ca cb, f 19 = .slice (some ⟨gc, 0, none⟩) 2 2 ∧ IsCC w1 w gc ca cb ∧ IsC5 w1 w ca ∧ IsC6 w1 w cb := (h.p hi 4 (by decide) hd).e4
theorem TwoJ.at5 (h : TwoJ w1 d f w) (hi : d 9 = false) (hd : d 5 = true) : ∃ g0, f 20 = .slice (some ⟨g0, 0, none⟩) 2 2 ∧ IsW w1 w g0 := (h.p hi 5 (by decide) hd).e5
theorem TwoJ.at6 (h : TwoJ w1 d f w) (hi : d 9 = false) (hd : d 6 = true) : ∃ g1, f 21 = .slice (some ⟨g1, 0, none⟩) 2 2 ∧ IsT w1 w g1 := (h.p hi 6 (by decide) hd).e6
theorem TwoJ.at7 (h : TwoJ w1 d f w) (hi : d 9 = false) (hd : d 7 = true) : ∃ gc g0 g1 ca cb, f 22 = .agg #[.slice (some ⟨gc, 0, none⟩) 2 2, .slice (some ⟨g0, 0, none⟩) 2 2, .slice (some ⟨g1, 0, none⟩) 2 2] ∧ IsCC w1 w gc ca cb ∧ IsC5 w1 w ca ∧ IsC6 w1 w cb ∧ IsW w1 w g0 ∧ IsT w1 w g1 := (h.p hi 7 (by decide) hd).e7
theorem TwoJ.at8 (h : TwoJ w1 d f w) (hi : d 9 = false) (hd : d 8 = true) : ∃ bp, f 5 = .pointer (some ⟨bp, 0, none⟩) ∧ w1.heap.size ≤ bp ∧ Blk w bp 35 [.slice none 0 0, .slice none 0 0, .slice none 0 0] := (h.p hi 8 (by decide) hd).e8
end
theorem TwoJ.ex7 {w1 w : World} {d : Nat → Bool} {f : Nat → Value} {G : Prop} (h : TwoJ w1 d f w) (hi : d 9 = false) (h4 : d 4 = true) (h5 : d 5 = true) (h6 : d 6 = true) (k : ∀ gc g0 g1 : Nat, f 19 = .slice (some ⟨gc, 0, none⟩) 2 2 → f 20 = .slice (some ⟨g0, 0, none⟩) 2 2 → f 21 = .slice (some ⟨g1, 0, none⟩) 2 2 →
    TwoP w1 7 (.agg #[.slice (some ⟨gc, 0, none⟩) 2 2, .slice (some ⟨g0, 0, none⟩) 2 2, .slice (some ⟨g1, 0, none⟩) 2 2]) w → G) : G := by
  obtain ⟨gc, ca, cb, e1, c1, c2, c3⟩ := h.at4 hi h4
  obtain ⟨g0, e2, c4⟩ := h.at5 hi h5
  obtain ⟨g1, e3, c5⟩ := h.at6 hi h6
  exact k gc g0 g1 e1 e2 e3 ⟨gc, g0, g1, ca, cb, rfl, c1, c2, c3, c4, c5⟩
theorem TwoJ.ex9 {w1 w : World} {d : Nat → Bool} {f : Nat → Value} {G : Prop} (h : TwoJ w1 d f w) (hi : d 9 = false) (hp : ∀ j, j < 9 → d j = true) (k : ∀ bp gc g0 g1 : Nat, f 5 = .pointer (some ⟨bp, 0, none⟩) → f 22 = .agg #[.slice (some ⟨gc, 0, none⟩) 2 2, .slice (some ⟨g0, 0, none⟩) 2 2, .slice (some ⟨g1, 0, none⟩) 2 2] → Blk w bp 35 [.slice none 0 0, .slice none 0 0, .slice none 0 0] →
    TwoJ w1 (Dag.upd d 9 true) f (((w.setCell ⟨bp, 0, none⟩ (.slice (some ⟨gc, 0, none⟩) 2 2)).setCell ⟨bp, 1, none⟩ (.slice (some ⟨g0, 0, none⟩) 2 2)).setCell ⟨bp, 2, none⟩ (.slice (some ⟨g1, 0, none⟩) 2 2)) → G) : G := by
  obtain ⟨gc, g0, g1, ca, cb, e1, c1, c2, c3, c4, c5⟩ := h.at7 hi (hp 7 (by decide))
  obtain ⟨bp, e2, c6, c7⟩ := h.at8 hi (hp 8 (by decide))
  exact k bp gc g0 g1 e2 e1 c7 (stored h hp e2 c1 c2 c3 c4 c5 c6 c7)
theorem two_step7 {ops : Array Oper} {Q : Exit → Act → World → Prop} {a : Act} {w1 : World} {ty : TypeId} {pos : String} {aft : Array Edge} (hs : 30 < a.tmps.size) (h4 : Ahead aft 4) (h5 : Ahead aft 5) (h6 : Ahead aft 6) :
    Dag.Step1 Try.prog ops Q a [15, 16, 17, 18, 19, 20, 21, 22, 5] (TwoJ w1) 7 { dst := some 22, op := Op.build 35 #[(0, Operand.tmp 19), (1, Operand.tmp 20), (2, Operand.tmp 21)], type := ty, pos := pos, after := aft, guard := none } := by
  refine Dag.Step1.of ?_
  intro d f w' hi hpre hJ K' hK
  refine hJ.ex7 (hJ.d9 hi (by decide)) (h4.done hpre) (h5.done hpre) (h6.done hpre) ?_
  intro gc g0 g1 e1 e2 e3 q
  have x1 : (Dag.actOf a [15, 16, 17, 18, 19, 20, 21, 22, 5] f).eval (.tmp 19) = .slice (some ⟨gc, 0, none⟩) 2 2 := (Dag.actOf_eval (by decide) (by omega)).trans e1
  have x2 : (Dag.actOf a [15, 16, 17, 18, 19, 20, 21, 22, 5] f).eval (.tmp 20) = .slice (some ⟨g0, 0, none⟩) 2 2 := (Dag.actOf_eval (by decide) (by omega)).trans e2
  have x3 : (Dag.actOf a [15, 16, 17, 18, 19, 20, 21, 22, 5] f).eval (.tmp 21) = .slice (some ⟨g1, 0, none⟩) 2 2 := (Dag.actOf_eval (by decide) (by omega)).trans e3
  have hr := op7 (A := Dag.actOf a [15, 16, 17, 18, 19, 20, 21, 22, 5] f) (w := w') (o := { dst := some 22, op := Op.build 35 #[(0, Operand.tmp 19), (1, Operand.tmp 20), (2, Operand.tmp 21)], type := ty, pos := pos, after := aft, guard := none }) rfl x1 x2 x3
  exact Dag.Done.val rfl hr (Dag.back (hK _ _ (hJ.step hi (by decide) (Touch.refl _ _) q)) (Dag.actOf_put (by decide) _).symm)
theorem two_step9 {ops : Array Oper} {Q : Exit → Act → World → Prop} {a : Act} {w1 : World} {ty : TypeId} {pos : String} {aft : Array Edge} (hs : 30 < a.tmps.size) (hall : ∀ j, j < 9 → Ahead aft j) :
    Dag.Step1 Try.prog ops Q a [15, 16, 17, 18, 19, 20, 21, 22, 5] (TwoJ w1) 9 { dst := none, op := Op.store 35 (Operand.tmp 5) (Operand.tmp 22), type := ty, pos := pos, after := aft, guard := none } := by
  refine Dag.Step1.of ?_
  intro d f w' hi hpre hJ K' hK
  refine hJ.ex9 hi (fun j hj => (hall j hj).done hpre) ?_
  intro bp gc g0 g1 e5 e22 hb q
  have x1 : (Dag.actOf a [15, 16, 17, 18, 19, 20, 21, 22, 5] f).eval (.tmp 5) = .pointer (some ⟨bp, 0, none⟩) := (Dag.actOf_eval (by decide) (by omega)).trans e5
  have x2 : (Dag.actOf a [15, 16, 17, 18, 19, 20, 21, 22, 5] f).eval (.tmp 22) = .agg #[.slice (some ⟨gc, 0, none⟩) 2 2, .slice (some ⟨g0, 0, none⟩) 2 2, .slice (some ⟨g1, 0, none⟩) 2 2] := (Dag.actOf_eval (by decide) (by omega)).trans e22
  have hr := op9 (A := Dag.actOf a [15, 16, 17, 18, 19, 20, 21, 22, 5] f) (w := w') (o := { dst := none, op := Op.store 35 (Operand.tmp 5) (Operand.tmp 22), type := ty, pos := pos, after := aft, guard := none }) rfl x1 x2 hb
  exact Dag.Done.skip rfl hr (hK _ _ q)

set_option maxHeartbeats 100000000 in
set_option maxRecDepth 100000 in
theorem connTwo_dev {W : World} {Af Ax : Option Addr} {cf cx : Nat} {fs : List Int} {ans : List Bool} (hf : Rd intE W Af cf fs) (hr : Rd boolE W Ax cx ans) :
    Calls Try.prog 3 #[.slice Af fs.length cf, .slice Ax ans.length cx] W fun e w' => e = .returned (.bool true) ∧ Below W.heap.size W w' := by
  have HRF := Lib.hid hf
  have HRX := Lib.hid hr
  clear hf hr
  go_enter Try.func3, Try.ntmps3
  go_wp2_with fail
  refine (awake14 W).mono ?_
  rintro e w1 ⟨rfl, f1⟩
  have F1 : Hid (Fresh W w1) := f1
  clear f1
  have hm1 := mk_ways
  have hm2 := mk_told
  go_upto_region 3 with (fail)
  go_cut [5] (fun v wx => ∃ bp gc g0 g1 ca cb : Nat, v = .pointer (some ⟨bp, 0, none⟩) ∧ Hid (Fst w1 wx bp gc g0 g1 ca cb) ∧ Hid (w1.heap.size ≤ g0 ∧ w1.heap.size ≤ g1 ∧ w1.heap.size ≤ ca ∧ w1.heap.size ≤ cb))
  case first =>
   as_aux_lemma =>
    clear F1 HRF HRX
    refine Dag.wp_region_steps (by kernel_rfl) [15, 16, 17, 18, 19, 20, 21, 22, 5] (TwoJ w1) (fun _ => undef) (by kernel_rfl) ⟨(Touch.refl _ _).drew, fun _ j _ h => (by cases h), fun h => (by cases h)⟩ (Dag.top_of (by decide +kernel)) ⟨?_, ?_, ?_, ?_, ?_, ?_, ?_, ?_, ?_, ?_, trivial⟩ ?_
    · intro d f w' hi hpre hJ K' hK
      have HJ := Lib.hid hJ
      have HK := Lib.hid hK
      clear hK hJ hpre
      simp only [Dag.actOf, List.foldl_cons, List.foldl_nil]
      go_simp
      refine Dag.back (HK.out _ _ (HJ.out.step hi (by decide) (Touch.refl _ _) rfl)) ?_
      simp only [Dag.actOf, List.foldl_cons, List.foldl_nil, Dag.upd, slotT]
      go_simp
    · intro d f w' hi hpre hJ K' hK
      have HJ := Lib.hid hJ
      have HK := Lib.hid hK
      have h9 := hJ.d9 hi (by decide)
      replace e0 : f 15 = .agg #[.int .i64 3, .int .u32 5] := (hJ.p h9 0 (by decide) (hpre ⟨0, .data⟩ (by simp) rfl))
      clear hK hJ hpre
      simp only [Dag.actOf, List.foldl_cons, List.foldl_nil]
      go_simp
      go_at_call 8
      with_reducible refine (new35 _).mono ?_
      rintro e w2 ⟨rfl, o1, rfl⟩
      dsimp only
      refine Dag.back (HK.out _ _ (HJ.out.step hi (by decide) (((Touch.refl _ _).alloc _).alloc _).drew ⟨w'.heap.size + 1, rfl, by have := HJ.out.fr.size; omega, Blk.drew (Blk.new_at (by simp))⟩)) ?_
      simp only [Dag.actOf, List.foldl_cons, List.foldl_nil, Dag.upd, slotT]
      go_simp
    · intro d f w' hi hpre hJ K' hK
      have HJ := Lib.hid hJ
      have HK := Lib.hid hK
      clear hK hJ hpre
      simp only [Dag.actOf, List.foldl_cons, List.foldl_nil]
      go_simp
      refine Dag.back (HK.out _ _ (HJ.out.step hi (by decide) (Touch.refl _ _) rfl)) ?_
      simp only [Dag.actOf, List.foldl_cons, List.foldl_nil, Dag.upd, slotT]
      go_simp
    · intro d f w' hi hpre hJ K' hK
      have HJ := Lib.hid hJ
      have HK := Lib.hid hK
      have h9 := hJ.d9 hi (by decide)
      replace e0 : f 17 = .agg #[.int .i64 3, .int .u32 6] := (hJ.p h9 2 (by decide) (hpre ⟨2, .data⟩ (by simp) rfl))
      clear hK hJ hpre
      simp only [Dag.actOf, List.foldl_cons, List.foldl_nil]
      go_simp
      go_at_call 8
      with_reducible refine (new36 _).mono ?_
      rintro e w2 ⟨rfl, o1, rfl⟩
      dsimp only
      refine Dag.back (HK.out _ _ (HJ.out.step hi (by decide) (((Touch.refl _ _).alloc _).alloc _).drew ⟨w'.heap.size + 1, rfl, by have := HJ.out.fr.size; omega, Blk.drew (Blk.new_at (by simp))⟩)) ?_
      simp only [Dag.actOf, List.foldl_cons, List.foldl_nil, Dag.upd, slotT]
      go_simp
    · intro d f w' hi hpre hJ K' hK
      have HJ := Lib.hid hJ
      have HK := Lib.hid hK
      have h9 := hJ.d9 hi (by decide)
      obtain ⟨ca, e1, c1⟩ := (hJ.p h9 1 (by decide) (hpre ⟨1, .data⟩ (by simp) rfl))
      obtain ⟨cb, e2, c2⟩ := (hJ.p h9 3 (by decide) (hpre ⟨3, .data⟩ (by simp) rfl))
      replace e1 : f 16 = .pointer (some ⟨ca, 0, none⟩) := e1
      replace e2 : f 18 = .pointer (some ⟨cb, 0, none⟩) := e2
      have C1 := Lib.hid c1
      have C2 := Lib.hid c2
      clear c1 c2
      clear hK hJ hpre
      simp only [Dag.actOf, List.foldl_cons, List.foldl_nil]
      go_simp
      refine Dag.back (HK.out _ _ (HJ.out.step hi (by decide) ((Touch.refl _ _).alloc _) ⟨w'.heap.size, ca, cb, rfl, ⟨by have := HJ.out.fr.size; omega, Blk.new_at rfl⟩, ⟨C1.out.1, C1.out.2.alloc _⟩, ⟨C2.out.1, C2.out.2.alloc _⟩⟩)) ?_
      simp only [Dag.actOf, List.foldl_cons, List.foldl_nil, Dag.upd, slotT]
      go_simp
    · intro d f w' hi hpre hJ K' hK
      have HJ := Lib.hid hJ
      have HK := Lib.hid hK
      clear hK hJ hpre
      simp only [Dag.actOf, List.foldl_cons, List.foldl_nil]
      go_simp
      refine Dag.back (HK.out _ _ (HJ.out.step hi (by decide) ((Touch.refl _ _).alloc _) ⟨w'.heap.size, rfl, by have := HJ.out.fr.size; omega, Blk.new_at rfl⟩)) ?_
      simp only [Dag.actOf, List.foldl_cons, List.foldl_nil, Dag.upd, slotT]
      go_simp
    · intro d f w' hi hpre hJ K' hK
      have HJ := Lib.hid hJ
      have HK := Lib.hid hK
      clear hK hJ hpre
      simp only [Dag.actOf, List.foldl_cons, List.foldl_nil]
      go_simp
      refine Dag.back (HK.out _ _ (HJ.out.step hi (by decide) ((Touch.refl _ _).alloc _) ⟨w'.heap.size, rfl, by have := HJ.out.fr.size; omega, Blk.new_at rfl⟩)) ?_
      simp only [Dag.actOf, List.foldl_cons, List.foldl_nil, Dag.upd, slotT]
      go_simp
    · exact two_step7 (by simp) ⟨⟨4, .data⟩, by simp, rfl, rfl⟩ ⟨⟨5, .data⟩, by simp, rfl, rfl⟩ ⟨⟨6, .data⟩, by simp, rfl, rfl⟩
    · intro d f w' hi hpre hJ K' hK
      have HJ := Lib.hid hJ
      have HK := Lib.hid hK
      clear hK hJ hpre
      simp only [Dag.actOf, List.foldl_cons, List.foldl_nil]
      go_simp
      refine Dag.back (HK.out _ _ (HJ.out.step hi (by decide) ((Touch.refl _ _).alloc _) ⟨w'.heap.size, rfl, by have := HJ.out.fr.size; omega, Blk.new_at rfl⟩)) ?_
      simp only [Dag.actOf, List.foldl_cons, List.foldl_nil, Dag.upd, slotT]
      go_simp
    · show Dag.Step1 Try.prog _ _ _ _ _ 9 _
      exact @two_step9 _ _ _ w1 0 "law.go:251" #[⟨8, .data⟩, ⟨7, .data⟩, ⟨3, .chain⟩, ⟨0, .phase⟩, ⟨1, .phase⟩, ⟨2, .phase⟩, ⟨3, .phase⟩, ⟨4, .phase⟩, ⟨5, .phase⟩, ⟨6, .phase⟩, ⟨7, .phase⟩, ⟨8, .phase⟩] (by simp) (fun j hj => by
        rcases (show j = 0 ∨ j = 1 ∨ j = 2 ∨ j = 3 ∨ j = 4 ∨ j = 5 ∨ j = 6 ∨ j = 7 ∨ j = 8 by omega) with e | e | e | e | e | e | e | e | e
        all_goals
          subst e
          exact Ahead.of_any (by decide +kernel))
    · intro d f w' hd hJ
      obtain ⟨-, bp, gc, g0, g1, ca, cb, e5, hF, n0, n1, n2, n3⟩ := hJ.e (hd 9 (by decide))
      have HF := Lib.hid hF
      have HNN : Hid (w1.heap.size ≤ g0 ∧ w1.heap.size ≤ g1 ∧ w1.heap.size ≤ ca ∧ w1.heap.size ≤ cb) := ⟨n0, n1, n2, n3⟩
      clear hF n0 n1 n2 n3 hd hJ
      simp only [Dag.actOf, List.foldl_cons, List.foldl_nil]
      rw [e5]
      clear e5
      go_simp
      rename_i h1 h2
      refine h2 _ _ (Met.intro (h1 _ _ ?_))
      repeat apply Exists.intro
      refine ⟨?rel, rfl⟩
      case rel => exact ⟨bp, gc, g0, g1, ca, cb, rfl, HF, HNN⟩
  case rest =>
    obtain ⟨bp, gc, g0, g1, ca, cb, rfl, HFS, HN1⟩ := hcut
    have HP := Lib.hid HFS.out.pair
    have HQ := Lib.hid HFS.out.pairI
    have HF : Hid (Fresh W wc) := F1.out.trans HFS.out.fresh (fun _ _ e => e)
    have HN : Hid (W.heap.size ≤ g0 ∧ W.heap.size ≤ g1 ∧ W.heap.size ≤ ca ∧ W.heap.size ≤ cb) := by have := HN1.out; have := F1.out.size; unfold Hid; omega
    clear HFS HN1
    generalize wc = w2 at *
    clear F1 hm1 hm2
    obtain ⟨cc, hbc, hc0, hc1⟩ := HQ.out.conns
    have b0 : w2.cell? ⟨bp, 0, none⟩ = some (.slice (some ⟨gc, 0, none⟩) 2 2) := HP.out.cell 0
    have b1 : w2.cell? ⟨gc, 0, none⟩ = some (.pointer (some ⟨ca, 0, none⟩)) := (hbc.cell 0).trans hc0
    have b2 : w2.cell? ⟨gc, 1, none⟩ = some (.pointer (some ⟨cb, 0, none⟩)) := (hbc.cell 1).trans hc1
    clear hbc hc0 hc1
    go_wp2_with fail
    have HBT : Hid (∀ wx, Touch (fun x => W.heap.size ≤ x) W wx → Rd intE wx Af cf fs ∧ Rd boolE wx Ax cx ans) := fun wx ht => ⟨HRF.out.touch ht (fun ad e hl => by have := HRF.out.lt hl ad e; omega), HRX.out.touch ht (fun ad e hl => by have := HRX.out.lt hl ad e; omega)⟩
    have HAX : Hid (∀ ad, Ax = some ad → 0 < ans.length → ad.block ≠ g0 ∧ ad.block ≠ g1 ∧ ad.block ≠ ca ∧ ad.block ≠ cb) := fun ad e hl => by have := HRX.out.lt hl ad e; have := HN.out; omega
    have HTT : Hid (Touch (fun x => W.heap.size ≤ x) W w2) := HF.out.mono (fun _ _ e => e.elim)
    clear b0 b1 b2 HRF HRX HF
    go_loopw [6] (fun v wx => ∃ n : Nat, n ≤ 8 ∧ n ≤ fs.length ∧ v = .int .i64 n ∧ ∃ p, Hid (PairI 0 1 wx gc g0 g1 ca cb p) ∧ Hid (Tw.Good (60 * n) p) ∧ Hid (Blk wx bp 35 [.slice (some ⟨gc, 0, none⟩) 2 2, .slice (some ⟨g0, 0, none⟩) 2 2, .slice (some ⟨g1, 0, none⟩) 2 2]) ∧ Hid (Touch (fun x => W.heap.size ≤ x) W wx)) (fun v _ => (8 - intOf v).toNat)
    case atStart => exact ⟨0, by omega, by omega, rfl, _, HQ, Tw.good_new, HP, HTT⟩
    case round =>
      clear HQ HP HTT
      obtain ⟨n, hn, hnl, rfl, p, HQ, HG, HP, HTT⟩ := hrel
      by_cases hlt : n < fs.length ∧ n < 8
      · have hd1 : decide (n < fs.length) = true := decide_eq_true hlt.1
        have hd2 : decide ((n : Int) < 8) = true := decide_eq_true (by omega)
        obtain ⟨gf, of_, rfl, _, hcf⟩ := (HBT.out wr HTT.out).1.int_at n hlt.1
        have HFN := Lib.hid hlt
        clear hlt
        obtain ⟨v, hv⟩ : ∃ v, fs.getD n 0 = v := ⟨_, rfl⟩
        rw [hv] at hcf
        have HV := Lib.hid hv
        clear hv
        go_wp2_with fail
        go_loopw [45] (fun x wx => ∃ m : Nat, m ≤ 2 ∧ x = .int .i64 m ∧ Hid (PairI 0 1 wx gc g0 g1 ca cb (Tw.stg (Tw.bit v 0) (Tw.bit v 1) (Tw.pick v / 4) p m)) ∧ Hid (Tw.Bnd (100 * m) (480 + 100 * m) (Tw.stg (Tw.bit v 0) (Tw.bit v 1) (Tw.pick v / 4) p m) ∧ Tw.Bnd (100 * m) (480 + 100 * m) (Tw.stg (Tw.bit v 0) (Tw.bit v 1) (Tw.pick v / 4) p m).swap) ∧ Hid (Blk wx bp 35 [.slice (some ⟨gc, 0, none⟩) 2 2, .slice (some ⟨g0, 0, none⟩) 2 2, .slice (some ⟨g1, 0, none⟩) 2 2]) ∧ Hid (Touch (fun x => W.heap.size ≤ x) W wx)) (fun x _ => (2 - intOf x).toNat)
        case atStart => exact ⟨0, by omega, rfl, HQ, ⟨HG.out.bnd.1.wide (by omega) (by omega), HG.out.bnd.2.wide (by omega) (by omega)⟩, HP, HTT⟩
        case round =>
          have HCF : Hid (∀ wx, Touch (fun x => W.heap.size ≤ x) W wx → wx.cell? ⟨gf, of_ + n, none⟩ = some (.int .i64 v)) := fun wx ht => by
            obtain ⟨g2, o2, e, _, h⟩ := (HBT.out wx ht).1.int_at n HFN.out.1
            injection e with e
            injection e with e1 e2 _
            rw [← HV.out, e1, e2]
            exact h
          clear HQ HP HTT hcf
          obtain ⟨m, hm, rfl, HQ, HB, HP, HTT⟩ := hrel
          by_cases hml : m < 2
          · have hcf := HCF.out _ HTT.out
            have hfl := HFN.out.1
            rcases (show m = 0 ∨ m = 1 by omega) with e | e
            · subst e
              as_aux_lemma =>
              obtain ⟨q, hq⟩ : ∃ q, (Tw.stg (Tw.bit v 0) (Tw.bit v 1) (Tw.pick v / 4) p 0) = q := ⟨_, rfl⟩
              have HQ3 : Hid (PairI 0 1 wr gc g0 g1 ca cb q) := by rw [← hq]; exact HQ.out
              have HB3 : Hid (Tw.Bnd (100 * 0) (480 + 100 * 0) q) := by rw [← hq]; exact HB.out.1
              have HBS : Hid (Tw.Bnd (100 * 0) (480 + 100 * 0) q.swap) := by rw [← hq]; exact HB.out.2
              have HBK : Hid (∀ wx, PairI 0 1 wx gc g0 g1 ca cb (if Tw.bit v 0 then Tw.askW (Tw.pick v / 4) q else q) → PairI 0 1 wx gc g0 g1 ca cb (Tw.stg (Tw.bit v 0) (Tw.bit v 1) (Tw.pick v / 4) p (0 + 1))) := by rw [← hq]; exact fun wx h => h
              have HBN : Hid (∀ q', Tw.Bnd (100 * 0 + 100) (480 + 100 * 0 + 100) q' → Tw.Bnd (100 * 0 + 100) (480 + 100 * 0 + 100) q'.swap → q' = (if Tw.bit v 0 then Tw.askW (Tw.pick v / 4) q else q) → Tw.Bnd (100 * (0 + 1)) (480 + 100 * (0 + 1)) (Tw.stg (Tw.bit v 0) (Tw.bit v 1) (Tw.pick v / 4) p (0 + 1)) ∧ Tw.Bnd (100 * (0 + 1)) (480 + 100 * (0 + 1)) (Tw.stg (Tw.bit v 0) (Tw.bit v 1) (Tw.pick v / 4) p (0 + 1)).swap) := by
                rw [← hq]
                intro q' h1 h2 e
                subst e; exact ⟨h1.wide (by omega) (by omega), h2.wide (by omega) (by omega)⟩
              clear hq HQ HB
              generalize hbit : Tw.bit v 0 = B at *
              have HBIT := Lib.hid hbit
              clear hbit
              go_upto_region 12 with (fail)
              go_cut [55] (fun x wx => wx = wr ∧ x = .bool B)
              case first =>
                have HBV : Hid (Value.bool (bits .and .i64 v 1 == 1) = .bool B) := by rw [← HBIT.out]; exact congrArg Value.bool (Tw.bit_0 v)
                clear HBIT
                go_wp2_with fail
                go_meet
                case rel => exact ⟨rfl, HBV.out⟩
              case rest =>
                obtain ⟨rfl, rfl⟩ := hcut
                generalize wc = w3 at *
                cases B
                · have HBN2 := Lib.hid (HBN.out q (HB3.out.wide (by omega) (by omega)) (HBS.out.wide (by omega) (by omega)) rfl)
                  have HQ4 := Lib.hid (HBK.out w3 HQ3.out)
                  clear HBN HBK HB3 HBS HQ3 hcf
                  go_wp2
                  go_roundw
                  case rel => exact ⟨0 + 1, by omega, by rfl, HQ4, HBN2, HP, HTT⟩
                  case measure => simp [intOf]
                · have HBK2 : Hid (∀ wx, PairI 0 1 wx gc g0 g1 ca cb (Tw.askW (Tw.pick v / 4) q) → PairI 0 1 wx gc g0 g1 ca cb (Tw.stg true (Tw.bit v 1) (Tw.pick v / 4) p (0 + 1))) := HBK.out
                  clear HBK
                  go_upto_region 13 with (fail)
                  go_cut [8] (fun x wx => Hid (Fresh w3 wx) ∧ x = .int .i64 (Tw.wk (Tw.pick v / 4)))
                  case first =>
                    have HA4 : Hid (bits .and .i64 (v / 4) 3 = ((Tw.pick v / 4 : Nat) : Int) ∧ Tw.pick v / 4 < 4) := Tw.pick_4 v
                    obtain ⟨c, hc⟩ : ∃ c, Tw.pick v / 4 = c := ⟨_, rfl⟩
                    have HC := Lib.hid hc
                    rw [hc] at HA4
                    clear hc HBN HBK2 HB3 HBS HQ3 HBIT
                    have h4 := HA4.out.2
                    have hcf2 : ∀ o, (w3.alloc o).cell? ⟨gf, of_ + n, none⟩ = some (.int .i64 v) := fun o => HCF.out _ (HTT.out.alloc o)
                    clear hcf
                    rcases (show c = 0 ∨ c = 1 ∨ c = 2 ∨ c = 3 by omega) with e | e | e | e <;> subst e
                    · have ha4 : bits .and .i64 (v / 4) 3 = 0 := HA4.out.1
                      go_wp2_with fail
                      go_meet
                      case rel => exact ⟨(Touch.refl _ _).alloc _, by rw [HC.out]; rfl⟩
                    · have ha4 : bits .and .i64 (v / 4) 3 = 1 := HA4.out.1
                      go_wp2_with fail
                      go_meet
                      case rel => exact ⟨(Touch.refl _ _).alloc _, by rw [HC.out]; rfl⟩
                    · have ha4 : bits .and .i64 (v / 4) 3 = 2 := HA4.out.1
                      go_wp2_with fail
                      go_meet
                      case rel => exact ⟨(Touch.refl _ _).alloc _, by rw [HC.out]; rfl⟩
                    · have ha4 : bits .and .i64 (v / 4) 3 = 3 := HA4.out.1
                      go_wp2_with fail
                      go_meet
                      case rel => exact ⟨(Touch.refl _ _).alloc _, by rw [HC.out]; rfl⟩
                  case rest =>
                    obtain ⟨HF4, rfl⟩ := hcut
                    generalize wc = w4 at *
                    have HQ4 := Lib.hid (HQ3.out.old HF4.out)
                    have HP4 : Hid (Blk w4 bp 35 [.slice (some ⟨gc, 0, none⟩) 2 2, .slice (some ⟨g0, 0, none⟩) 2 2, .slice (some ⟨g1, 0, none⟩) 2 2]) := HF4.out.blk HP.out (fun e => e)
                    have HTT4 : Hid (Touch (fun x => W.heap.size ≤ x) W w4) := HTT.out.trans HF4.out (fun _ _ e => e.elim)
                    clear HQ3 HP HTT HF4 hcf
                    obtain ⟨cc, HBC, HC0, -⟩ := HQ4.out.conns
                    have z0 : w4.cell? ⟨bp, 0, none⟩ = some (.slice (some ⟨gc, 0, none⟩) 2 2) := HP4.out.cell 0
                    have z1 : w4.cell? ⟨gc, 0, none⟩ = some (.pointer (some ⟨ca, 0, none⟩)) := (HBC.cell 0).trans HC0
                    clear HBC HC0
                    have HKT : Hid (∀ x, (x = g0 ∨ x = g1) ∨ x = ca → W.heap.size ≤ x) := fun x e => by have := HN.out; omega
                    have HNE : Hid (∀ x t cs, Blk w4 x t cs → 68 ≠ t → 39 ≠ t → 38 ≠ t → ¬ ((x = g0 ∨ x = g1) ∨ x = ca)) := by
                      obtain ⟨_, _, _, _, _, hca, _⟩ := HQ4.out.ways
                      obtain ⟨_, _, _, _, _, hcb, _⟩ := HQ4.out.told
                      intro x t cs hb n1 n2 n3 e
                      rcases e with (e | e) | e
                      · exact Blk.ne_ hb hca n2.symm e
                      · exact Blk.ne_ hb hcb n3.symm e
                      · exact Blk.ne_ hb HQ4.out.s0 n1.symm e
                    have HPK : Hid (∀ wx, Touch (fun x => (x = g0 ∨ x = g1) ∨ x = ca) w4 wx → Blk wx bp 35 [.slice (some ⟨gc, 0, none⟩) 2 2, .slice (some ⟨g0, 0, none⟩) 2 2, .slice (some ⟨g1, 0, none⟩) 2 2]) := fun wx ht => ht.blk HP4.out (HNE.out _ _ _ HP4.out (by decide) (by decide) (by decide))
                    by_cases h3 : Tw.pick v / 4 = 3
                    · have hwk : Tw.wk (Tw.pick v / 4) = 0 := by rw [h3]; rfl
                      have HH3 := Lib.hid h3
                      clear h3
                      rw [hwk]
                      clear hwk
                      have HKEEP : Hid (∀ wx, Touch (fun x => (x = g0 ∨ x = g1) ∨ x = ca) w4 wx → wx.cell? ⟨bp, 0, none⟩ = some (.slice (some ⟨gc, 0, none⟩) 2 2) ∧ wx.cell? ⟨bp, 1, none⟩ = some (.slice (some ⟨g0, 0, none⟩) 2 2) ∧ wx.cell? ⟨bp, 2, none⟩ = some (.slice (some ⟨g1, 0, none⟩) 2 2) ∧ wx.cell? ⟨gc, 0, none⟩ = some (.pointer (some ⟨ca, 0, none⟩))) := by
                        intro wx ht
                        have hb1 := HPK.out wx ht
                        obtain ⟨cc, hcc, hc0, -⟩ := HQ4.out.conns
                        have hb3 := ht.blk hcc (HNE.out _ _ _ hcc (by decide) (by decide) (by decide))
                        exact ⟨hb1.cell 0, hb1.cell 1, hb1.cell 2, (hb3.cell 0).trans hc0⟩
                      have HRC : Hid (∀ wx, Fresh w4 wx → Calls Try.prog 10 #[.pointer (some ⟨ca, 0, none⟩), .int .u8 81] wx fun e w' => ∃ v, e = .returned v ∧ ConnPost w4 ca (Cn.failS q.s0 81) v w') := fun wx ht => (cfail_any (HQ4.out.old ht).s0 (HQ4.out.old ht).o0 81).mono (fun e w' ⟨v, h1, h2⟩ => ⟨v, h1, h2.back ht (Blk.lt HQ4.out.s0)⟩)
                      generalize hY : Cn.failS q.s0 81 = Y at *
                      have HY := Lib.hid hY
                      clear hY HNE z0 z1
                      go_upto_region 15 with (fail)
                      go_region_held3 (fun wx => wx.cell? ⟨bp, 0, none⟩ = some (.slice (some ⟨gc, 0, none⟩) 2 2) ∧ wx.cell? ⟨bp, 1, none⟩ = some (.slice (some ⟨g0, 0, none⟩) 2 2) ∧ wx.cell? ⟨bp, 2, none⟩ = some (.slice (some ⟨g1, 0, none⟩) 2 2) ∧ wx.cell? ⟨gc, 0, none⟩ = some (.pointer (some ⟨ca, 0, none⟩)))
                        (first | exact HKEEP.out _ HT6.out | exact HKEEP.out _ HT5.out | exact HKEEP.out _ (Touch.refl _ _) | exact HKEEP.out _ (Touch.refl _ _).drew)
                        (first
                          | (go_simp; go_at_call 10; with_reducible refine (HRC.out _ (by first | exact Touch.refl _ _ | exact (Touch.refl _ _).drew)).mono ?_; rintro e w5 ⟨v, rfl, hp⟩
                             have HP5 := Lib.hid hp
                             have HT5 : Hid (Touch (fun x => (x = g0 ∨ x = g1) ∨ x = ca) w4 w5) := hp.touch.mono (fun x _ e => .inr e)
                             obtain ⟨C1, e1, C2, e2, rfl, R1, R2, -, -⟩ := hp.res
                             have HR1 := Lib.hid R1
                             have HR2 := Lib.hid R2
                             have HQ5 := Lib.hid (HQ4.out.called hp)
                             clear hp R1 R2)
                          | (go_simp; go_at_call 9; with_reducible refine (give_any0 HQ5.out Y.2.begins Y.2.ends Y.2.ms Y.2.timer HR1.out HR2.out (by have h1 := HB3.out.w1; have h2 := Tw.few_u HP5.out.few; show q.w1.length + _ ≤ _; omega) (by have h1 := HB3.out.t0; have h2 := Tw.few_s HP5.out.few; show q.t0.length + _ ≤ _; omega)).mono ?_; rintro e w6 ⟨rfl, hq6, ht6⟩
                             have HT6 : Hid (Touch (fun x => (x = g0 ∨ x = g1) ∨ x = ca) w4 w6) := HT5.out.trans ht6 (fun x _ e => .inl e)
                             have HQ6 : Hid (PairI 0 1 w6 gc g0 g1 ca cb (q.by_ Y)) := hq6
                             clear hq6 ht6))
                      all_goals
                        have HE : Hid (q.by_ Y = (if true then Tw.askW (Tw.pick v / 4) q else q)) := by unfold Hid Tw.askW; rw [if_pos HH3.out, if_pos rfl, HY.out]
                        have HBN2 := Lib.hid (HBN.out (q.by_ Y) (HB3.out.by_ HP5.out.few) (Tw.Bnd.by_swap (HBS.out.wide (by omega) (by omega))) HE.out)
                        have HQ7 := Lib.hid (HBK2.out w6 (by have e := HE.out; rw [if_pos rfl] at e; rw [← e]; exact HQ6.out))
                        have HP7 := Lib.hid (HPK.out _ HT6.out)
                        have HT7 : Hid (Touch (fun x => W.heap.size ≤ x) W w6) := HTT4.out.trans HT6.out (fun x _ e => HKT.out x e)
                        go_wp2
                        go_roundw
                        case rel => exact ⟨0 + 1, by omega, by rfl, HQ7, HBN2, HP7, HT7⟩
                        case measure => simp [intOf]
                    · have hwk : Tw.wk (Tw.pick v / 4) = Tw.askK (Tw.pick v / 4) := Tw.wk_ask h3
                      have hw0 : (Tw.askK (Tw.pick v / 4) == 0) = false := Tw.askK_ne _
                      have HH3 := Lib.hid h3
                      clear h3
                      rw [hwk]
                      clear hwk
                      obtain ⟨wk, hwk⟩ : ∃ wk, Tw.askK (Tw.pick v / 4) = wk := ⟨_, rfl⟩
                      rw [hwk] at hw0 ⊢
                      have HWK := Lib.hid hwk
                      clear hwk
                      go_wp2_with fail
                      refine (crequest_any HQ4.out.s0 HQ4.out.o0 wk ByteArray.empty (by unfold maxLen; decide)).mono ?_
                      rw [show (ByteArray.empty) = Cn.no from rfl]
                      rintro e w5 ⟨x, rfl, hp⟩
                      obtain ⟨E, hE⟩ : ∃ E, Cn.askErr q.s0 wk Cn.no = E := ⟨_, rfl⟩
                      have HE := Lib.hid hE
                      rw [hE]
                      clear hE
                      obtain ⟨C1, e1, C2, e2, rfl, R1, R2, -, -⟩ := hp.res
                      have HQ5 := Lib.hid (HQ4.out.called hp)
                      have HFW := Lib.hid hp.few
                      have HT5 : Hid (Touch (fun x => (x = g0 ∨ x = g1) ∨ x = ca) w4 w5) := hp.touch.mono (fun x _ e => .inr e)
                      have HR1 := Lib.hid R1
                      have HR2 := Lib.hid R2
                      clear hp R1 R2 z0 z1 HQ4 hw0 HP4 HNE
                      generalize hY : Cn.askS q.s0 wk Cn.no = Y at *
                      have HY := Lib.hid hY
                      clear hY
                      have HFR : Hid (Fresh w5 (w5.alloc (.cells #[.slice C1 Y.2.sigs.length e1, .slice C2 Y.2.units.length e2, .bool Y.2.begins, .bool Y.2.ends, .int .u32 Y.2.ms, .int .i64 Y.2.timer] 41))) := (Touch.refl _ _).alloc _
                      have HBR : Hid (Blk (w5.alloc (.cells #[.slice C1 Y.2.sigs.length e1, .slice C2 Y.2.units.length e2, .bool Y.2.begins, .bool Y.2.ends, .int .u32 Y.2.ms, .int .i64 Y.2.timer] 41)) w5.heap.size 41 [.slice C1 Y.2.sigs.length e1, .slice C2 Y.2.units.length e2, .bool Y.2.begins, .bool Y.2.ends, .int .u32 Y.2.ms, .int .i64 Y.2.timer]) := Blk.new _ _ _
                      go_upto_region 17 with (fail)
                      generalize w5.alloc (.cells #[.slice C1 Y.2.sigs.length e1, .slice C2 Y.2.units.length e2, .bool Y.2.begins, .bool Y.2.ends, .int .u32 Y.2.ms, .int .i64 Y.2.timer] 41) = w6 at *
                      have HQ6 := Lib.hid (HQ5.out.old HFR.out)
                      have HT6 : Hid (Touch (fun x => (x = g0 ∨ x = g1) ∨ x = ca) w4 w6) := HT5.out.trans HFR.out (fun _ _ e => e.elim)
                      have HP6 := Lib.hid (HPK.out _ HT6.out)
                      have HR15 : Hid (Sl sigE w6 C1 e1 Y.2.sigs) := HR1.out.touch HFR.out (fun _ _ e => e)
                      have HR25 : Hid (Sl pduE w6 C2 e2 Y.2.units) := HR2.out.touch HFR.out (fun _ _ e => e)
                      generalize w5.heap.size = br at *
                      by_cases e0 : E = 0
                      · subst e0
                        have b0 : w6.cell? ⟨bp, 0, none⟩ = some (.slice (some ⟨gc, 0, none⟩) 2 2) := HP6.out.cell 0
                        have b1 : w6.cell? ⟨bp, 1, none⟩ = some (.slice (some ⟨g0, 0, none⟩) 2 2) := HP6.out.cell 1
                        have b2 : w6.cell? ⟨bp, 2, none⟩ = some (.slice (some ⟨g1, 0, none⟩) 2 2) := HP6.out.cell 2
                        have r0 : w6.cell? ⟨br, 0, none⟩ = some (.slice C1 Y.2.sigs.length e1) := HBR.out.cell 0
                        have r1 : w6.cell? ⟨br, 1, none⟩ = some (.slice C2 Y.2.units.length e2) := HBR.out.cell 1
                        have r2 : w6.cell? ⟨br, 2, none⟩ = some (.bool Y.2.begins) := HBR.out.cell 2
                        have r3 : w6.cell? ⟨br, 3, none⟩ = some (.bool Y.2.ends) := HBR.out.cell 3
                        have r4 : w6.cell? ⟨br, 4, none⟩ = some (.int .u32 Y.2.ms) := HBR.out.cell 4
                        have r5 : w6.cell? ⟨br, 5, none⟩ = some (.int .i64 Y.2.timer) := HBR.out.cell 5
                        go_wp2_with fail
                        refine (give_any0 HQ6.out Y.2.begins Y.2.ends Y.2.ms Y.2.timer HR15.out HR25.out (by have h1 := HB3.out.w1; have h2 := Tw.few_u HFW.out; show q.w1.length + _ ≤ _; omega) (by have h1 := HB3.out.t0; have h2 := Tw.few_s HFW.out; show q.t0.length + _ ≤ _; omega)).mono ?_
                        rintro e w7 ⟨rfl, hq7, ht7⟩
                        have HQ7 : Hid (PairI 0 1 w7 gc g0 g1 ca cb (q.by_ Y)) := hq7
                        have HT7 : Hid (Touch (fun x => (x = g0 ∨ x = g1) ∨ x = ca) w4 w7) := HT6.out.trans ht7 (fun x _ e => .inl e)
                        clear hq7 ht7 b0 b1 b2 r0 r1 r2 r3 r4 r5
                        have HA : Hid (q.by_ Y = (if true then Tw.askW (Tw.pick v / 4) q else q)) := by unfold Hid Tw.askW; rw [if_neg HH3.out, HWK.out, HE.out, if_pos rfl, if_pos rfl, HY.out]
                        have HBN2 := Lib.hid (HBN.out (q.by_ Y) (HB3.out.by_ HFW.out) (Tw.Bnd.by_swap (HBS.out.wide (by omega) (by omega))) HA.out)
                        have HQ8 := Lib.hid (HBK2.out w7 (by have e := HA.out; rw [if_pos rfl] at e; rw [← e]; exact HQ7.out))
                        have HP8 := Lib.hid (HPK.out _ HT7.out)
                        have HT8 : Hid (Touch (fun x => W.heap.size ≤ x) W w7) := HTT4.out.trans HT7.out (fun x _ e => HKT.out x e)
                        clear HQ7 HT7 HT6 HP6 HQ6
                        go_wp2
                        go_roundw
                        case rel => exact ⟨0 + 1, by omega, by rfl, HQ8, HBN2, HP8, HT8⟩
                        case measure => simp [intOf]
                      · have hb0 : (E == 0) = false := by simpa using e0
                        have HY2 : Hid (Y = (q.s0, Cn.r0)) := by unfold Hid; rw [← HY.out]; exact Tw.askS_no (by rw [HE.out]; exact e0)
                        have HA : Hid (q = (if true then Tw.askW (Tw.pick v / 4) q else q)) := by unfold Hid Tw.askW; rw [if_neg HH3.out, HWK.out, HE.out, if_neg e0, if_pos rfl]
                        have HQ7 : Hid (PairI 0 1 w6 gc g0 g1 ca cb q) := by
                          have e : ({ q with s0 := Y.1 } : Tw.P) = q := by rw [HY2.out]
                          exact e ▸ HQ6.out
                        have HBN2 := Lib.hid (HBN.out q (HB3.out.wide (by omega) (by omega)) (HBS.out.wide (by omega) (by omega)) HA.out)
                        have HQ8 := Lib.hid (HBK2.out w6 (by have e := HA.out; rw [if_pos rfl] at e; rw [← e]; exact HQ7.out))
                        have HT8 : Hid (Touch (fun x => W.heap.size ≤ x) W w6) := HTT4.out.trans HT6.out (fun x _ e => HKT.out x e)
                        clear e0 HQ7 HQ6 HBR HR1 HR2 HQ5 HT5
                        go_wp2
                        go_roundw
                        case rel => exact ⟨0 + 1, by omega, by rfl, HQ8, HBN2, HP6, HT8⟩
                        case measure => simp [intOf]
            · subst e
              as_aux_lemma =>
              obtain ⟨q, hq⟩ : ∃ q, (Tw.stg (Tw.bit v 0) (Tw.bit v 1) (Tw.pick v / 4) p 1).swap = q := ⟨_, rfl⟩
              have HQ3 : Hid (PairI 1 0 wr gc g0 g1 cb ca q) := by rw [← hq]; exact HQ.out.swap
              have HB3 : Hid (Tw.Bnd (100 * 1) (480 + 100 * 1) q) := by rw [← hq]; exact HB.out.2
              have HBS : Hid (Tw.Bnd (100 * 1) (480 + 100 * 1) q.swap) := by rw [← hq]; exact HB.out.1
              have HBK : Hid (∀ wx, PairI 1 0 wx gc g0 g1 cb ca (if Tw.bit v 1 then Tw.askW (Tw.pick v / 4) q else q) → PairI 0 1 wx gc g0 g1 ca cb (Tw.stg (Tw.bit v 0) (Tw.bit v 1) (Tw.pick v / 4) p (1 + 1))) := by rw [← hq]; exact fun wx h => h.swap_if
              have HBN : Hid (∀ q', Tw.Bnd (100 * 1 + 100) (480 + 100 * 1 + 100) q' → Tw.Bnd (100 * 1 + 100) (480 + 100 * 1 + 100) q'.swap → q' = (if Tw.bit v 1 then Tw.askW (Tw.pick v / 4) q else q) → Tw.Bnd (100 * (1 + 1)) (480 + 100 * (1 + 1)) (Tw.stg (Tw.bit v 0) (Tw.bit v 1) (Tw.pick v / 4) p (1 + 1)) ∧ Tw.Bnd (100 * (1 + 1)) (480 + 100 * (1 + 1)) (Tw.stg (Tw.bit v 0) (Tw.bit v 1) (Tw.pick v / 4) p (1 + 1)).swap) := by
                rw [← hq]
                intro q' h1 h2 e
                have e2 : Tw.stg (Tw.bit v 0) (Tw.bit v 1) (Tw.pick v / 4) p (1 + 1) = q'.swap := by rw [e]; exact Tw.stg_two
                rw [e2]
                exact ⟨h2.wide (by omega) (by omega), h1.wide (by omega) (by omega)⟩
              clear hq HQ HB
              generalize hbit : Tw.bit v 1 = B at *
              have HBIT := Lib.hid hbit
              clear hbit
              go_upto_region 12 with (fail)
              go_cut [55] (fun x wx => wx = wr ∧ x = .bool B)
              case first =>
                have HBV : Hid (Value.bool (bits .and .i64 (v / 2) 1 == 1) = .bool B) := by rw [← HBIT.out]; exact congrArg Value.bool (Tw.bit_1 v)
                clear HBIT
                go_wp2_with fail
                go_meet
                case rel => exact ⟨rfl, HBV.out⟩
              case rest =>
                obtain ⟨rfl, rfl⟩ := hcut
                generalize wc = w3 at *
                cases B
                · have HBN2 := Lib.hid (HBN.out q (HB3.out.wide (by omega) (by omega)) (HBS.out.wide (by omega) (by omega)) rfl)
                  have HQ4 := Lib.hid (HBK.out w3 HQ3.out)
                  clear HBN HBK HB3 HBS HQ3 hcf
                  go_wp2
                  go_roundw
                  case rel => exact ⟨1 + 1, by omega, by rfl, HQ4, HBN2, HP, HTT⟩
                  case measure => simp [intOf]
                · have HBK2 : Hid (∀ wx, PairI 1 0 wx gc g0 g1 cb ca (Tw.askW (Tw.pick v / 4) q) → PairI 0 1 wx gc g0 g1 ca cb (Tw.stg (Tw.bit v 0) true (Tw.pick v / 4) p (1 + 1))) := HBK.out
                  clear HBK
                  go_upto_region 13 with (fail)
                  go_cut [8] (fun x wx => Hid (Fresh w3 wx) ∧ x = .int .i64 (Tw.wk (Tw.pick v / 4)))
                  case first =>
                    have HA4 : Hid (bits .and .i64 (v / 4) 3 = ((Tw.pick v / 4 : Nat) : Int) ∧ Tw.pick v / 4 < 4) := Tw.pick_4 v
                    obtain ⟨c, hc⟩ : ∃ c, Tw.pick v / 4 = c := ⟨_, rfl⟩
                    have HC := Lib.hid hc
                    rw [hc] at HA4
                    clear hc HBN HBK2 HB3 HBS HQ3 HBIT
                    have h4 := HA4.out.2
                    have hcf2 : ∀ o, (w3.alloc o).cell? ⟨gf, of_ + n, none⟩ = some (.int .i64 v) := fun o => HCF.out _ (HTT.out.alloc o)
                    clear hcf
                    rcases (show c = 0 ∨ c = 1 ∨ c = 2 ∨ c = 3 by omega) with e | e | e | e <;> subst e
                    · have ha4 : bits .and .i64 (v / 4) 3 = 0 := HA4.out.1
                      go_wp2_with fail
                      go_meet
                      case rel => exact ⟨(Touch.refl _ _).alloc _, by rw [HC.out]; rfl⟩
                    · have ha4 : bits .and .i64 (v / 4) 3 = 1 := HA4.out.1
                      go_wp2_with fail
                      go_meet
                      case rel => exact ⟨(Touch.refl _ _).alloc _, by rw [HC.out]; rfl⟩
                    · have ha4 : bits .and .i64 (v / 4) 3 = 2 := HA4.out.1
                      go_wp2_with fail
                      go_meet
                      case rel => exact ⟨(Touch.refl _ _).alloc _, by rw [HC.out]; rfl⟩
                    · have ha4 : bits .and .i64 (v / 4) 3 = 3 := HA4.out.1
                      go_wp2_with fail
                      go_meet
                      case rel => exact ⟨(Touch.refl _ _).alloc _, by rw [HC.out]; rfl⟩
                  case rest =>
                    obtain ⟨HF4, rfl⟩ := hcut
                    generalize wc = w4 at *
                    have HQ4 := Lib.hid (HQ3.out.old HF4.out)
                    have HP4 : Hid (Blk w4 bp 35 [.slice (some ⟨gc, 0, none⟩) 2 2, .slice (some ⟨g0, 0, none⟩) 2 2, .slice (some ⟨g1, 0, none⟩) 2 2]) := HF4.out.blk HP.out (fun e => e)
                    have HTT4 : Hid (Touch (fun x => W.heap.size ≤ x) W w4) := HTT.out.trans HF4.out (fun _ _ e => e.elim)
                    clear HQ3 HP HTT HF4 hcf
                    obtain ⟨cc, HBC, HC0, -⟩ := HQ4.out.conns
                    have z0 : w4.cell? ⟨bp, 0, none⟩ = some (.slice (some ⟨gc, 0, none⟩) 2 2) := HP4.out.cell 0
                    have z1 : w4.cell? ⟨gc, 1, none⟩ = some (.pointer (some ⟨cb, 0, none⟩)) := (HBC.cell 1).trans HC0
                    clear HBC HC0
                    have HKT : Hid (∀ x, (x = g0 ∨ x = g1) ∨ x = cb → W.heap.size ≤ x) := fun x e => by have := HN.out; omega
                    have HNE : Hid (∀ x t cs, Blk w4 x t cs → 68 ≠ t → 39 ≠ t → 38 ≠ t → ¬ ((x = g0 ∨ x = g1) ∨ x = cb)) := by
                      obtain ⟨_, _, _, _, _, hca, _⟩ := HQ4.out.ways
                      obtain ⟨_, _, _, _, _, hcb, _⟩ := HQ4.out.told
                      intro x t cs hb n1 n2 n3 e
                      rcases e with (e | e) | e
                      · exact Blk.ne_ hb hca n2.symm e
                      · exact Blk.ne_ hb hcb n3.symm e
                      · exact Blk.ne_ hb HQ4.out.s0 n1.symm e
                    have HPK : Hid (∀ wx, Touch (fun x => (x = g0 ∨ x = g1) ∨ x = cb) w4 wx → Blk wx bp 35 [.slice (some ⟨gc, 0, none⟩) 2 2, .slice (some ⟨g0, 0, none⟩) 2 2, .slice (some ⟨g1, 0, none⟩) 2 2]) := fun wx ht => ht.blk HP4.out (HNE.out _ _ _ HP4.out (by decide) (by decide) (by decide))
                    by_cases h3 : Tw.pick v / 4 = 3
                    · have hwk : Tw.wk (Tw.pick v / 4) = 0 := by rw [h3]; rfl
                      have HH3 := Lib.hid h3
                      clear h3
                      rw [hwk]
                      clear hwk
                      have HKEEP : Hid (∀ wx, Touch (fun x => (x = g0 ∨ x = g1) ∨ x = cb) w4 wx → wx.cell? ⟨bp, 0, none⟩ = some (.slice (some ⟨gc, 0, none⟩) 2 2) ∧ wx.cell? ⟨bp, 1, none⟩ = some (.slice (some ⟨g0, 0, none⟩) 2 2) ∧ wx.cell? ⟨bp, 2, none⟩ = some (.slice (some ⟨g1, 0, none⟩) 2 2) ∧ wx.cell? ⟨gc, 1, none⟩ = some (.pointer (some ⟨cb, 0, none⟩))) := by
                        intro wx ht
                        have hb1 := HPK.out wx ht
                        obtain ⟨cc, hcc, hc0, -⟩ := HQ4.out.conns
                        have hb3 := ht.blk hcc (HNE.out _ _ _ hcc (by decide) (by decide) (by decide))
                        exact ⟨hb1.cell 0, hb1.cell 1, hb1.cell 2, (hb3.cell 1).trans hc0⟩
                      have HRC : Hid (∀ wx, Fresh w4 wx → Calls Try.prog 10 #[.pointer (some ⟨cb, 0, none⟩), .int .u8 81] wx fun e w' => ∃ v, e = .returned v ∧ ConnPost w4 cb (Cn.failS q.s0 81) v w') := fun wx ht => (cfail_any (HQ4.out.old ht).s0 (HQ4.out.old ht).o0 81).mono (fun e w' ⟨v, h1, h2⟩ => ⟨v, h1, h2.back ht (Blk.lt HQ4.out.s0)⟩)
                      generalize hY : Cn.failS q.s0 81 = Y at *
                      have HY := Lib.hid hY
                      clear hY HNE z0 z1
                      go_upto_region 15 with (fail)
                      go_region_held3 (fun wx => wx.cell? ⟨bp, 0, none⟩ = some (.slice (some ⟨gc, 0, none⟩) 2 2) ∧ wx.cell? ⟨bp, 1, none⟩ = some (.slice (some ⟨g0, 0, none⟩) 2 2) ∧ wx.cell? ⟨bp, 2, none⟩ = some (.slice (some ⟨g1, 0, none⟩) 2 2) ∧ wx.cell? ⟨gc, 1, none⟩ = some (.pointer (some ⟨cb, 0, none⟩)))
                        (first | exact HKEEP.out _ HT6.out | exact HKEEP.out _ HT5.out | exact HKEEP.out _ (Touch.refl _ _) | exact HKEEP.out _ (Touch.refl _ _).drew)
                        (first
                          | (go_simp; go_at_call 10; with_reducible refine (HRC.out _ (by first | exact Touch.refl _ _ | exact (Touch.refl _ _).drew)).mono ?_; rintro e w5 ⟨v, rfl, hp⟩
                             have HP5 := Lib.hid hp
                             have HT5 : Hid (Touch (fun x => (x = g0 ∨ x = g1) ∨ x = cb) w4 w5) := hp.touch.mono (fun x _ e => .inr e)
                             obtain ⟨C1, e1, C2, e2, rfl, R1, R2, -, -⟩ := hp.res
                             have HR1 := Lib.hid R1
                             have HR2 := Lib.hid R2
                             have HQ5 := Lib.hid (HQ4.out.called hp)
                             clear hp R1 R2)
                          | (go_simp; go_at_call 9; with_reducible refine (give_any1 HQ5.out Y.2.begins Y.2.ends Y.2.ms Y.2.timer HR1.out HR2.out (by have h1 := HB3.out.w1; have h2 := Tw.few_u HP5.out.few; show q.w1.length + _ ≤ _; omega) (by have h1 := HB3.out.t0; have h2 := Tw.few_s HP5.out.few; show q.t0.length + _ ≤ _; omega)).mono ?_; rintro e w6 ⟨rfl, hq6, ht6⟩
                             have HT6 : Hid (Touch (fun x => (x = g0 ∨ x = g1) ∨ x = cb) w4 w6) := HT5.out.trans ht6 (fun x _ e => .inl e)
                             have HQ6 : Hid (PairI 1 0 w6 gc g0 g1 cb ca (q.by_ Y)) := hq6
                             clear hq6 ht6))
                      all_goals
                        have HE : Hid (q.by_ Y = (if true then Tw.askW (Tw.pick v / 4) q else q)) := by unfold Hid Tw.askW; rw [if_pos HH3.out, if_pos rfl, HY.out]
                        have HBN2 := Lib.hid (HBN.out (q.by_ Y) (HB3.out.by_ HP5.out.few) (Tw.Bnd.by_swap (HBS.out.wide (by omega) (by omega))) HE.out)
                        have HQ7 := Lib.hid (HBK2.out w6 (by have e := HE.out; rw [if_pos rfl] at e; rw [← e]; exact HQ6.out))
                        have HP7 := Lib.hid (HPK.out _ HT6.out)
                        have HT7 : Hid (Touch (fun x => W.heap.size ≤ x) W w6) := HTT4.out.trans HT6.out (fun x _ e => HKT.out x e)
                        go_wp2
                        go_roundw
                        case rel => exact ⟨1 + 1, by omega, by rfl, HQ7, HBN2, HP7, HT7⟩
                        case measure => simp [intOf]
                    · have hwk : Tw.wk (Tw.pick v / 4) = Tw.askK (Tw.pick v / 4) := Tw.wk_ask h3
                      have hw0 : (Tw.askK (Tw.pick v / 4) == 0) = false := Tw.askK_ne _
                      have HH3 := Lib.hid h3
                      clear h3
                      rw [hwk]
                      clear hwk
                      obtain ⟨wk, hwk⟩ : ∃ wk, Tw.askK (Tw.pick v / 4) = wk := ⟨_, rfl⟩
                      rw [hwk] at hw0 ⊢
                      have HWK := Lib.hid hwk
                      clear hwk
                      go_wp2_with fail
                      refine (crequest_any HQ4.out.s0 HQ4.out.o0 wk ByteArray.empty (by unfold maxLen; decide)).mono ?_
                      rw [show (ByteArray.empty) = Cn.no from rfl]
                      rintro e w5 ⟨x, rfl, hp⟩
                      obtain ⟨E, hE⟩ : ∃ E, Cn.askErr q.s0 wk Cn.no = E := ⟨_, rfl⟩
                      have HE := Lib.hid hE
                      rw [hE]
                      clear hE
                      obtain ⟨C1, e1, C2, e2, rfl, R1, R2, -, -⟩ := hp.res
                      have HQ5 := Lib.hid (HQ4.out.called hp)
                      have HFW := Lib.hid hp.few
                      have HT5 : Hid (Touch (fun x => (x = g0 ∨ x = g1) ∨ x = cb) w4 w5) := hp.touch.mono (fun x _ e => .inr e)
                      have HR1 := Lib.hid R1
                      have HR2 := Lib.hid R2
                      clear hp R1 R2 z0 z1 HQ4 hw0 HP4 HNE
                      generalize hY : Cn.askS q.s0 wk Cn.no = Y at *
                      have HY := Lib.hid hY
                      clear hY
                      have HFR : Hid (Fresh w5 (w5.alloc (.cells #[.slice C1 Y.2.sigs.length e1, .slice C2 Y.2.units.length e2, .bool Y.2.begins, .bool Y.2.ends, .int .u32 Y.2.ms, .int .i64 Y.2.timer] 41))) := (Touch.refl _ _).alloc _
                      have HBR : Hid (Blk (w5.alloc (.cells #[.slice C1 Y.2.sigs.length e1, .slice C2 Y.2.units.length e2, .bool Y.2.begins, .bool Y.2.ends, .int .u32 Y.2.ms, .int .i64 Y.2.timer] 41)) w5.heap.size 41 [.slice C1 Y.2.sigs.length e1, .slice C2 Y.2.units.length e2, .bool Y.2.begins, .bool Y.2.ends, .int .u32 Y.2.ms, .int .i64 Y.2.timer]) := Blk.new _ _ _
                      go_upto_region 17 with (fail)
                      generalize w5.alloc (.cells #[.slice C1 Y.2.sigs.length e1, .slice C2 Y.2.units.length e2, .bool Y.2.begins, .bool Y.2.ends, .int .u32 Y.2.ms, .int .i64 Y.2.timer] 41) = w6 at *
                      have HQ6 := Lib.hid (HQ5.out.old HFR.out)
                      have HT6 : Hid (Touch (fun x => (x = g0 ∨ x = g1) ∨ x = cb) w4 w6) := HT5.out.trans HFR.out (fun _ _ e => e.elim)
                      have HP6 := Lib.hid (HPK.out _ HT6.out)
                      have HR15 : Hid (Sl sigE w6 C1 e1 Y.2.sigs) := HR1.out.touch HFR.out (fun _ _ e => e)
                      have HR25 : Hid (Sl pduE w6 C2 e2 Y.2.units) := HR2.out.touch HFR.out (fun _ _ e => e)
                      generalize w5.heap.size = br at *
                      by_cases e0 : E = 0
                      · subst e0
                        have b0 : w6.cell? ⟨bp, 0, none⟩ = some (.slice (some ⟨gc, 0, none⟩) 2 2) := HP6.out.cell 0
                        have b1 : w6.cell? ⟨bp, 1, none⟩ = some (.slice (some ⟨g0, 0, none⟩) 2 2) := HP6.out.cell 1
                        have b2 : w6.cell? ⟨bp, 2, none⟩ = some (.slice (some ⟨g1, 0, none⟩) 2 2) := HP6.out.cell 2
                        have r0 : w6.cell? ⟨br, 0, none⟩ = some (.slice C1 Y.2.sigs.length e1) := HBR.out.cell 0
                        have r1 : w6.cell? ⟨br, 1, none⟩ = some (.slice C2 Y.2.units.length e2) := HBR.out.cell 1
                        have r2 : w6.cell? ⟨br, 2, none⟩ = some (.bool Y.2.begins) := HBR.out.cell 2
                        have r3 : w6.cell? ⟨br, 3, none⟩ = some (.bool Y.2.ends) := HBR.out.cell 3
                        have r4 : w6.cell? ⟨br, 4, none⟩ = some (.int .u32 Y.2.ms) := HBR.out.cell 4
                        have r5 : w6.cell? ⟨br, 5, none⟩ = some (.int .i64 Y.2.timer) := HBR.out.cell 5
                        go_wp2_with fail
                        refine (give_any1 HQ6.out Y.2.begins Y.2.ends Y.2.ms Y.2.timer HR15.out HR25.out (by have h1 := HB3.out.w1; have h2 := Tw.few_u HFW.out; show q.w1.length + _ ≤ _; omega) (by have h1 := HB3.out.t0; have h2 := Tw.few_s HFW.out; show q.t0.length + _ ≤ _; omega)).mono ?_
                        rintro e w7 ⟨rfl, hq7, ht7⟩
                        have HQ7 : Hid (PairI 1 0 w7 gc g0 g1 cb ca (q.by_ Y)) := hq7
                        have HT7 : Hid (Touch (fun x => (x = g0 ∨ x = g1) ∨ x = cb) w4 w7) := HT6.out.trans ht7 (fun x _ e => .inl e)
                        clear hq7 ht7 b0 b1 b2 r0 r1 r2 r3 r4 r5
                        have HA : Hid (q.by_ Y = (if true then Tw.askW (Tw.pick v / 4) q else q)) := by unfold Hid Tw.askW; rw [if_neg HH3.out, HWK.out, HE.out, if_pos rfl, if_pos rfl, HY.out]
                        have HBN2 := Lib.hid (HBN.out (q.by_ Y) (HB3.out.by_ HFW.out) (Tw.Bnd.by_swap (HBS.out.wide (by omega) (by omega))) HA.out)
                        have HQ8 := Lib.hid (HBK2.out w7 (by have e := HA.out; rw [if_pos rfl] at e; rw [← e]; exact HQ7.out))
                        have HP8 := Lib.hid (HPK.out _ HT7.out)
                        have HT8 : Hid (Touch (fun x => W.heap.size ≤ x) W w7) := HTT4.out.trans HT7.out (fun x _ e => HKT.out x e)
                        clear HQ7 HT7 HT6 HP6 HQ6
                        go_wp2
                        go_roundw
                        case rel => exact ⟨1 + 1, by omega, by rfl, HQ8, HBN2, HP8, HT8⟩
                        case measure => simp [intOf]
                      · have hb0 : (E == 0) = false := by simpa using e0
                        have HY2 : Hid (Y = (q.s0, Cn.r0)) := by unfold Hid; rw [← HY.out]; exact Tw.askS_no (by rw [HE.out]; exact e0)
                        have HA : Hid (q = (if true then Tw.askW (Tw.pick v / 4) q else q)) := by unfold Hid Tw.askW; rw [if_neg HH3.out, HWK.out, HE.out, if_neg e0, if_pos rfl]
                        have HQ7 : Hid (PairI 1 0 w6 gc g0 g1 cb ca q) := by
                          have e : ({ q with s0 := Y.1 } : Tw.P) = q := by rw [HY2.out]
                          exact e ▸ HQ6.out
                        have HBN2 := Lib.hid (HBN.out q (HB3.out.wide (by omega) (by omega)) (HBS.out.wide (by omega) (by omega)) HA.out)
                        have HQ8 := Lib.hid (HBK2.out w6 (by have e := HA.out; rw [if_pos rfl] at e; rw [← e]; exact HQ7.out))
                        have HT8 : Hid (Touch (fun x => W.heap.size ≤ x) W w6) := HTT4.out.trans HT6.out (fun x _ e => HKT.out x e)
                        clear e0 HQ7 HQ6 HBR HR1 HR2 HQ5 HT5
                        go_wp2
                        go_roundw
                        case rel => exact ⟨1 + 1, by omega, by rfl, HQ8, HBN2, HP6, HT8⟩
                        case measure => simp [intOf]
          · as_aux_lemma =>
            obtain rfl : m = 2 := by omega
            have hn8 := HFN.out.2
            obtain ⟨t1, t2, t3⟩ := Tw.two HG.out (sk := skB ans) (skB_late ans) (Tw.pick v) (Tw.pick_lt v) (M := 60 * (n + 1)) (by omega)
            have HQ2 : Hid (PairI 0 1 wr gc g0 g1 ca cb (Tw.start (Tw.pick v % 2 == 1) (Tw.pick v / 2 % 2 == 1) (Tw.pick v / 4) p)) := HQ.out
            generalize (Tw.start (Tw.pick v % 2 == 1) (Tw.pick v / 2 % 2 == 1) (Tw.pick v / 4) p) = p2 at *
            have HL : Hid (∀ n, n ≤ 60 → Tw.Lim 480 (Tw.runH (skB ans) n p2)) := fun k hk => by
              obtain ⟨l1, l2, l3, l4⟩ := t1 k hk
              exact ⟨l1, l2, by omega, by omega⟩
            have HE := Lib.hid t2
            have HG2 := Lib.hid t3
            clear t1 t2 t3 HQ HB HG
            have b0 : wr.cell? ⟨bp, 0, none⟩ = some (.slice (some ⟨gc, 0, none⟩) 2 2) := HP.out.cell 0
            have b1 : wr.cell? ⟨bp, 1, none⟩ = some (.slice (some ⟨g0, 0, none⟩) 2 2) := HP.out.cell 1
            have b2 : wr.cell? ⟨bp, 2, none⟩ = some (.slice (some ⟨g1, 0, none⟩) 2 2) := HP.out.cell 2
            go_wp2_with fail
            refine (hear_any HQ2.out (HBT.out _ HTT.out).2 HAX.out HL.out ⟨HE.out.1, HE.out.2.1⟩).mono ?_
            rintro e w3 ⟨rfl, hq3, ht3⟩
            have HQ3 := Lib.hid hq3
            have HP3 : Hid (Blk w3 bp 35 [.slice (some ⟨gc, 0, none⟩) 2 2, .slice (some ⟨g0, 0, none⟩) 2 2, .slice (some ⟨g1, 0, none⟩) 2 2]) := by
              obtain ⟨_, _, _, _, _, hca, _⟩ := HQ2.out.ways
              obtain ⟨_, _, _, _, _, hcb, _⟩ := HQ2.out.told
              refine ht3.blk HP.out (fun e => ?_)
              rcases e with (e | e) | e | e
              · exact Blk.ne_ HP.out hca (by decide) e
              · exact Blk.ne_ HP.out hcb (by decide) e
              · exact Blk.ne_ HP.out HQ2.out.s0 (by decide) e
              · exact Blk.ne_ HP.out HQ2.out.s1 (by decide) e
            have HT3 : Hid (Touch (fun x => W.heap.size ≤ x) W w3) := HTT.out.trans ht3 (fun x _ e => by have := HN.out; omega)
            clear hq3 ht3 HQ2 HP HTT HL b0 b1 b2
            generalize Tw.runH (skB ans) 60 p2 = p3 at *
            obtain ⟨cc, HBC, HC0, HC1⟩ := HQ3.out.conns
            have HKE : Hid (∀ wx, Fresh w3 wx → wx.cell? ⟨bp, 0, none⟩ = some (.slice (some ⟨gc, 0, none⟩) 2 2) ∧ wx.cell? ⟨gc, 0, none⟩ = some (.pointer (some ⟨ca, 0, none⟩)) ∧ wx.cell? ⟨gc, 1, none⟩ = some (.pointer (some ⟨cb, 0, none⟩))) := fun wx ht => ⟨(ht.blk HP3.out (fun e => e)).cell 0, ((ht.blk HBC (fun e => e)).cell 0).trans HC0, ((ht.blk HBC (fun e => e)).cell 1).trans HC1⟩
            clear HBC HC0 HC1
            go_upto_region 22 with (fail)
            go_cut [11, 12] (fun v1 v2 wx => ∃ k1 k2 : Nat, v1 = .pointer (some ⟨k1, 0, none⟩) ∧ v2 = .pointer (some ⟨k2, 0, none⟩) ∧ Hid (Blk wx k1 48 [.int .i64 p3.s0.state, .int .i64 p3.s0.sq, .int .i64 p3.s0.peer, .int .i64 p3.s0.cc, .int .u32 p3.s0.ms]) ∧ Hid (Blk wx k2 48 [.int .i64 p3.s1.state, .int .i64 p3.s1.sq, .int .i64 p3.s1.peer, .int .i64 p3.s1.cc, .int .u32 p3.s1.ms]) ∧ Hid (Fresh w3 wx))
            case first =>
              have HV0 : Hid (∀ wx, Fresh w3 wx → Calls Try.prog 13 #[.pointer (some ⟨ca, 0, none⟩)] wx fun e w' => e = .returned (.agg #[.int .i64 p3.s0.state, .int .i64 p3.s0.sq, .int .i64 p3.s0.peer, .int .i64 p3.s0.cc, .int .u32 p3.s0.ms]) ∧ ∃ o, w' = wx.alloc o) := fun wx ht => vars_ex (HQ3.out.old ht).s0
              have HV1 : Hid (∀ wx, Fresh w3 wx → Calls Try.prog 13 #[.pointer (some ⟨cb, 0, none⟩)] wx fun e w' => e = .returned (.agg #[.int .i64 p3.s1.state, .int .i64 p3.s1.sq, .int .i64 p3.s1.peer, .int .i64 p3.s1.cc, .int .u32 p3.s1.ms]) ∧ ∃ o, w' = wx.alloc o) := fun wx ht => vars_ex (HQ3.out.old ht).s1
              clear HQ3 HP3 HT3 HG2 HE HBT HAX HN HFN
              generalize p3.s0 = sa at *
              generalize p3.s1 = sb at *
              go_region_held3 (fun wx => wx.cell? ⟨bp, 0, none⟩ = some (.slice (some ⟨gc, 0, none⟩) 2 2) ∧ wx.cell? ⟨gc, 0, none⟩ = some (.pointer (some ⟨ca, 0, none⟩)) ∧ wx.cell? ⟨gc, 1, none⟩ = some (.pointer (some ⟨cb, 0, none⟩)))
                (exact HKE.out _ (by repeat (first | with_reducible exact Touch.refl _ _ | with_reducible refine Touch.alloc ?_ _ | with_reducible refine Touch.drew ?_)))
                (first
                  | (go_simp; go_at_call 13; with_reducible refine (HV0.out _ (by repeat (first | with_reducible exact Touch.refl _ _ | with_reducible refine Touch.alloc ?_ _ | with_reducible refine Touch.drew ?_))).mono ?_; rintro e w' ⟨rfl, o1, rfl⟩)
                  | (go_simp; go_at_call 13; with_reducible refine (HV1.out _ (by repeat (first | with_reducible exact Touch.refl _ _ | with_reducible refine Touch.alloc ?_ _ | with_reducible refine Touch.drew ?_))).mono ?_; rintro e w' ⟨rfl, o2, rfl⟩))
              all_goals as_aux_lemma =>
                go_wp2_with fail
                go_meet
                case rel => exact ⟨_, _, rfl, rfl, Lib.hid (by repeat (first | with_reducible exact Blk.new_at (by simp) | with_reducible refine Blk.drew ?_ | with_reducible refine Blk.alloc ?_ _)), Lib.hid (by repeat (first | with_reducible exact Blk.new_at (by simp) | with_reducible refine Blk.drew ?_ | with_reducible refine Blk.alloc ?_ _)), Lib.hid (by repeat (first | with_reducible exact Touch.refl _ _ | with_reducible refine Touch.alloc ?_ _ | with_reducible refine Touch.drew ?_))⟩
            case rest =>
              obtain ⟨k1, k2, rfl, rfl, HK1, HK2, HF4⟩ := hcut
              generalize wc = w4 at *
              have hfl := HFN.out.1
              have HQ4 := Lib.hid (HQ3.out.old HF4.out)
              have HP4 : Hid (Blk w4 bp 35 [.slice (some ⟨gc, 0, none⟩) 2 2, .slice (some ⟨g0, 0, none⟩) 2 2, .slice (some ⟨g1, 0, none⟩) 2 2]) := HF4.out.blk HP3.out (fun e => e)
              have HT4 : Hid (Touch (fun x => W.heap.size ≤ x) W w4) := HT3.out.trans HF4.out (fun _ _ e => e.elim)
              have c0 : w4.cell? ⟨k1, 0, none⟩ = some (.int .i64 p3.s0.state) := HK1.out.cell 0
              have c4 : w4.cell? ⟨k1, 4, none⟩ = some (.int .u32 p3.s0.ms) := HK1.out.cell 4
              have d0 : w4.cell? ⟨k2, 0, none⟩ = some (.int .i64 p3.s1.state) := HK2.out.cell 0
              have d4 : w4.cell? ⟨k2, 4, none⟩ = some (.int .u32 p3.s1.ms) := HK2.out.cell 4
              clear HK1 HK2 HQ3 HP3 HT3 HF4 HKE
              rcases HE.out.2.2 with ⟨e1, e2⟩ | ⟨e1, e2, e3, e4⟩
              · rw [e1] at c0
                rw [e2] at d0
                clear e1 e2 HE c4 d4
                go_wp2_with fail
                go_roundw
                case rel => exact ⟨n + 1, by omega, by omega, by go_num, p3, HQ4, HG2, HP4, HT4⟩
                case measure => simp [intOf]; omega
              · rw [e1] at c0
                rw [e2] at d0
                rw [e3] at c4
                rw [e4] at d4
                clear e1 e2 e3 e4 HE
                go_wp2_with fail
                go_roundw
                case rel => exact ⟨n + 1, by omega, by omega, by go_num, p3, HQ4, HG2, HP4, HT4⟩
                case measure => simp [intOf]; omega
      · as_aux_lemma =>
        have HB : Hid (Below W.heap.size W wr) := HTT.out.below (Nat.le_refl _) (fun _ h e => by omega)
        clear HQ HG HP HBT HAX
        have hof := r01of_any 5
        by_cases h1 : n < fs.length
        · have hd1 : decide (n < fs.length) = true := decide_eq_true h1
          have hd2 : decide ((n : Int) < 8) = false := decide_eq_false (by omega)
          go_wp2_with (go_at_call 14; refine (hof _).mono ?_; rintro e w' ⟨rfl, rfl⟩)
          go_ret
          exact ⟨rfl, HB.out⟩
        · have hd1 : decide (n < fs.length) = false := decide_eq_false h1
          go_wp2_with (go_at_call 14; refine (hof _).mono ?_; rintro e w' ⟨rfl, rfl⟩)
          go_ret
          exact ⟨rfl, HB.out⟩
end Go.Proofs.Ytkmegkjkbalooaa
