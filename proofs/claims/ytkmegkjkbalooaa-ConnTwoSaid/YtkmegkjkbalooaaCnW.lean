/-
  polliwoglaw14: awake; a result in its box.
-/
import Derived.Test.YtkmegkjkbalooaaCnJ
import Derived.Test.YtkmegkjkbalooaaCnI
import Derived.Outline
namespace Go.Proofs.Ytkmegkjkbalooaa
open Go.RowKit Go.Shelf

/-- A result, part by part. -/
theorem ConnPost.ex {w w' : World} {c : Nat} {y : Cn.SR} {v : Value} {s' : Cn.S} {sg : List Cn.Sig} {us : List Cn.Pd} {b e : Bool} {ms t : Int} {n1 n2 : Nat} (h : ConnPost w c y v w') (hy : y = (s', ⟨sg, us, b, e, ms, t⟩)) (h1 : sg.length = n1) (h2 : us.length = n2) :
    ∃ A1 c1 A2 c2, v = .agg #[.slice A1 n1 c1, .slice A2 n2 c2, .bool b, .bool e, .int .u32 ms, .int .i64 t] ∧ ConnAt w' c s' ∧ Cn.Ok s' ∧ Sl sigE w' A1 c1 sg ∧ Sl pduE w' A2 c2 us ∧ (∀ ad, A1 = some ad → w.heap.size ≤ ad.block) ∧ (∀ ad, A2 = some ad → w.heap.size ≤ ad.block) ∧ Touch (· = c) w w' := by
  subst hy h1 h2
  obtain ⟨A1, c1, A2, c2, e, s1, s2, b1, b2⟩ := h.res
  exact ⟨A1, c1, A2, c2, e, h.conn, h.ok, s1, s2, b1, b2, h.touch⟩

/-- A unit in its place. -/
theorem Sl.pdu_at {w : World} {A : Option Addr} {c : Nat} {l : List Cn.Pd} (h : Sl pduE w A c l) (k : Nat) (hk : k < l.length) : ∃ g o, A = some ⟨g, o, none⟩ ∧ g < w.heap.size ∧ ∀ f u, (pduE.enc l[k])[f]? = some u → w.cell? ⟨g, o + (k * 8 + f), none⟩ = some u := h.at_ k hk
theorem Sl.sig_at {w : World} {A : Option Addr} {c : Nat} {l : List Cn.Sig} (h : Sl sigE w A c l) (k : Nat) (hk : k < l.length) : ∃ g o, A = some ⟨g, o, none⟩ ∧ g < w.heap.size ∧ ∀ f u, (sigE.enc l[k])[f]? = some u → w.cell? ⟨g, o + (k * 5 + f), none⟩ = some u := h.at_ k hk

namespace Cn
theorem w1 : askErr (new 3 8) 1 no = 0 := by decide +kernel
theorem w2 : askS (new 3 8) 1 no = (⟨3, 8, 2, 1, -1, 1, 8, no⟩, ⟨[], [⟨1, 1, 8, 0, 0, none, 0, 0, false, no⟩], false, false, 0, 1⟩) := by unfold askS; rw [w1]; rfl
theorem w3 : hearS ⟨3, 8, 2, 1, -1, 1, 8, no⟩ ⟨2, 1, 5, 0, 0, none, 0, 0, false, no⟩ = (⟨3, 8, 10, 1, -1, 1, 5, no⟩, ⟨[⟨2, no, false, 0, 0⟩], [], true, false, 5, 2⟩) := by
  unfold hearS
  rw [show Ru.of_ (⟨3, 8, 2, 1, -1, 1, 8, no⟩ : S).state (⟨2, 1, 5, 0, 0, none, 0, 0, false, no⟩ : Pd).kind = 1 from by decide +kernel]
  rfl
end Cn


theorem field_state (a b c d e : Int) (W : World) : (Instr.field 48 (.agg #[.int .i64 a, .int .i64 b, .int .i64 c, .int .i64 d, .int .u32 e]) 0).run Try.prog W = .ok (.int .i64 a) W := by kernel_rfl
theorem field_sq (a b c d e : Int) (W : World) : (Instr.field 48 (.agg #[.int .i64 a, .int .i64 b, .int .i64 c, .int .i64 d, .int .u32 e]) 1).run Try.prog W = .ok (.int .i64 b) W := by kernel_rfl

set_option maxHeartbeats 2000000 in
set_option maxRecDepth 100000 in
theorem awake14 (w : World) : Calls Try.prog 7 #[] w fun e w' => e = .returned (.bool true) ∧ Fresh w w' := by
  go_enter Try.func7, Try.ntmps7
  go_wp2_with fail
  refine (cnew_any 3 8 w).mono ?_
  rintro e w1 ⟨c, rfl, hc, h1, o1, f1⟩
  have HC := Lib.hid hc
  have H1 := Lib.hid h1
  have O1 := Lib.hid o1
  have F1 := Lib.hid f1
  clear hc h1 o1 f1
  go_wp2_with fail
  refine (crequest_any H1.out O1.out 1 ByteArray.empty (by unfold maxLen; decide)).mono ?_
  rw [show (ByteArray.empty) = Cn.no from rfl, Cn.w1]
  rintro e w2 ⟨v, rfl, hp⟩
  obtain ⟨A1, c1, A2, c2, rfl, h2, o2, _, s2, _, b2, t2⟩ := hp.ex (n1 := 0) (n2 := 1) Cn.w2 rfl rfl
  obtain ⟨gU, oU, rfl, hgU, hU⟩ := s2.pdu_at 0 (by simp)
  have hgc : gU ≠ c := s2.blk_ne h2 (by decide) _ rfl
  have hb := b2 _ rfl
  have u1 : w2.cell? ⟨gU, oU + 1, none⟩ = some (.int .i64 1) := hU 1 _ rfl
  have u2 : w2.cell? ⟨gU, oU + 2, none⟩ = some (.int .u32 8) := hU 2 _ rfl
  have H2 := Lib.hid h2
  have O2 := Lib.hid o2
  have T2 : Hid (Fresh w w2) := F1.out.trans t2 (fun k hk e => by have e : k = c := e; have := HC.out; omega)
  have U : Hid (∀ W, Touch (· = c) w2 W → W.cell? ⟨gU, oU + 1, none⟩ = some (.int .i64 1) ∧ W.cell? ⟨gU, oU + 2, none⟩ = some (.int .u32 8)) := fun W ht => by
    have hk := ht.block gU hgU hgc
    exact ⟨(World.cell?_of_block hk).trans u1, (World.cell?_of_block hk).trans u2⟩
  have HCL : Hid (c < w2.heap.size) := Blk.lt h2
  clear hp h2 o2 s2 b2 t2 hU hgc hb hgU u1 u2
  go_upto_region 5 with (fail)
  have T3 : Hid (Touch (· = c) w2 (w2.alloc (.cells #[.slice A1 0 c1, .slice (some ⟨gU, oU, none⟩) 1 c2, .bool false, .bool false, .int .u32 0, .int .i64 1] 41))) := (Touch.refl _ _).alloc _
  have B3 : Hid (Blk (w2.alloc (.cells #[.slice A1 0 c1, .slice (some ⟨gU, oU, none⟩) 1 c2, .bool false, .bool false, .int .u32 0, .int .i64 1] 41)) w2.heap.size 41 [.slice A1 0 c1, .slice (some ⟨gU, oU, none⟩) 1 c2, .bool false, .bool false, .int .u32 0, .int .i64 1]) := Blk.new _ _ _
  have H3 : Hid (ConnAt (w2.alloc (.cells #[.slice A1 0 c1, .slice (some ⟨gU, oU, none⟩) 1 c2, .bool false, .bool false, .int .u32 0, .int .i64 1] 41)) c _) := Blk.alloc H2.out _
  have F3 : Hid (Fresh w (w2.alloc (.cells #[.slice A1 0 c1, .slice (some ⟨gU, oU, none⟩) 1 c2, .bool false, .bool false, .int .u32 0, .int .i64 1] 41))) := T2.out.alloc _
  generalize (w2.alloc (.cells #[.slice A1 0 c1, .slice (some ⟨gU, oU, none⟩) 1 c2, .bool false, .bool false, .int .u32 0, .int .i64 1] 41)) = w3 at *
  go_wp2_with fail
  refine (creceive_any H3.out O2.out ⟨2, 1, 5, 0, 0, none, 0, 0, false, Cn.no⟩).mono ?_
  rintro e w4 ⟨v, rfl, hp⟩
  obtain ⟨A3, c3, A4, c4, rfl, h4, o4, _, _, _, _, t4⟩ := hp.ex (n1 := 1) (n2 := 0) Cn.w3 rfl rfl
  obtain ⟨u1, u2⟩ := U.out _ (T3.out.trans t4 (fun _ _ e => e))
  have b4 := t4.blk B3.out (by intro e; have e : w2.heap.size = c := e; have := HCL.out; omega)
  have b41 : w4.cell? ⟨w2.heap.size, 1, none⟩ = some (.slice (some ⟨gU, oU, none⟩) 1 c2) := b4.cell 1
  have b45 : w4.cell? ⟨w2.heap.size, 5, none⟩ = some (.int .i64 1) := b4.cell 5
  have u1a : ∀ o, (w4.alloc o).cell? ⟨gU, oU + 1, none⟩ = some (.int .i64 1) := fun o => (U.out _ ((T3.out.trans t4 (fun _ _ e => e)).alloc o)).1
  have u2a : ∀ o, (w4.alloc o).cell? ⟨gU, oU + 2, none⟩ = some (.int .u32 8) := fun o => (U.out _ ((T3.out.trans t4 (fun _ _ e => e)).alloc o)).2
  have b41a : ∀ o, (w4.alloc o).cell? ⟨w2.heap.size, 1, none⟩ = some (.slice (some ⟨gU, oU, none⟩) 1 c2) := fun o => (b4.alloc o).cell 1
  have b45a : ∀ o, (w4.alloc o).cell? ⟨w2.heap.size, 5, none⟩ = some (.int .i64 1) := fun o => (b4.alloc o).cell 5
  have HV : Hid (∀ o, Calls Try.prog 13 #[.pointer (some ⟨c, 0, none⟩)] (w4.alloc o) fun e w' => e = .returned (.agg #[.int .i64 10, .int .i64 1, .int .i64 (-1), .int .i64 1, .int .u32 5]) ∧ Fresh (w4.alloc o) w') := fun o => vars_any (Blk.alloc h4 o)
  have F4 : Hid (Fresh w w4) := F3.out.trans t4 (fun k hk e => by have e : k = c := e; have := HC.out; omega)
  clear hp h4 o4 t4 b4
  go_wp2_with fail
  refine (HV.out _).mono ?_
  rintro e w5 ⟨rfl, f5⟩
  have F5 : Hid (Fresh w w5) := (F4.out.alloc _).trans f5 (fun _ _ e => e)
  clear f5
  have hfld := field_state
  go_wp2
  go_ret
  exact ⟨rfl, F5.out⟩
end Go.Proofs.Ytkmegkjkbalooaa
