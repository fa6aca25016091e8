/-
  polliwogref14.Receive of a BGN at a connection that has just been made. Conditions: none but that · polliwogref14.Request of an Accept at a connection that its peer began. Conditions: none but that · polliwogref16.bring of what a BGN brings. Conditions: none but that.
-/
import Derived.Test.YtipaobpmojahaaaGreatOpR
import Derived.Test.YtipaobpmojahaaaGreatRef13b
set_option maxHeartbeats 2000000
namespace Go.Proofs.YtipaobpmojahaaaGreat
open Go.RowKit
set_option maxRecDepth 20000
set_option linter.constructorNameAsVariable false

def RP.nil : RP := ⟨none, 0, none, 0⟩
theorem RIn.nil {K : Nat -> Prop} {w : World} (h : ∀ k, K k -> k < w.heap.size) : RIn K 0 w RP.nil Cn.r0 := ⟨h, Sl.nil _ _, Sl.nil _ _, (fun _ e => nomatch e), (fun _ e => nomatch e), Nat.le_refl _, Nat.le_refl _⟩
def cnI (m c : Int) : Cn.S := ⟨m, c, 1, 0, -1, 0, c, Cn.no⟩
def cnB (m c n : Int) : Cn.S := ⟨m, c, 3, 0, 5, 0, n, Cn.no⟩
def cnR (m c n : Int) : Cn.S := ⟨m, c, 10, 0, 5, 0, n, Cn.no⟩
def ruL (n : Int) : List Value := [.int .i64 1, .int .i64 5, .int .i64 n, .bool false, .string { data := #[] }]
theorem rrecv_bgn (m c n : Int) (w : World) :
  Calls Tryz.prog 217 #[.agg (rcCells (cnI m c)).toArray, .agg (ruL n).toArray] w (RPost (FF w) 9 (cnB m c n, { Cn.r0 with sigs := [Cn.sig 1 false Cn.no] }) w) := by
 obtain ⟨w1, hw1⟩ := xq ((((w.alloc (.cells (rcCells (cnI m c)).toArray 29)).alloc (.cells (ruL n).toArray 276)).alloc (.cells #[.int .i64 0, .int .i64 0, .int .i64 0, .int .i64 0, .int .i64 0, .int .i64 0, .int .i64 0, .string { data := #[] }] 29)).alloc (.cells #[.slice none 0 0, .slice none 0 0, .bool false, .bool false, .int .i64 0, .int .i64 0] 217))
 have HX : Hid (FB (FF w) [w.heap.size, w.heap.size + 1, w.heap.size + 1 + 1, w.heap.size + 1 + 1 + 1] w w1 [⟨w.heap.size, 29, rcCells (cnI m c)⟩, ⟨w.heap.size + 1, 276, ruL n⟩, ⟨w.heap.size + 1 + 1, 29, rcZ⟩, ⟨w.heap.size + 1 + 1 + 1, 217, rrZ⟩]) := by rw [hw1]; exact (((((FB.nil w (fun k e => e)).al _ _ _ (by simp)).al _ _ _ (by simp)).al _ rcZ _ (by simp)).al _ rrZ _ (by simp))
 have HSZ : Hid (w1.heap.size = w.heap.size + 1 + 1 + 1 + 1) := by rw [hw1]; unfold Hid; simp
 go_enter Tryz.func217, Tryz.ntmps217
 go_upto_region 1 with (fail)
 rw [<- hw1]
 clear hw1
 generalize w.heap.size = g at *
 go_upto_region 2 with (fail)
 obtain ⟨w2, hw2⟩ := xq (w1.alloc (.cells #[.slice none 0 0, .slice none 0 0, .bool false, .bool false, .int .i64 0, .int .i64 0] 217))
 have HX2 : Hid (FB (FF w) [g, g + 1, g + 1 + 1, g + 1 + 1 + 1, g + 1 + 1 + 1 + 1] w w2 [⟨g, 29, rcCells (cnI m c)⟩, ⟨g + 1, 276, ruL n⟩, ⟨g + 1 + 1, 29, rcZ⟩, ⟨g + 1 + 1 + 1, 217, rrZ⟩, ⟨g + 1 + 1 + 1 + 1, 217, rrCells RP.nil Cn.r0⟩]) := by rw [hw2]; exact HX.out.al 217 rrZ _ HSZ.out
 rw [<- hw2, HSZ.out]
 clear hw2 HX HSZ
 have HR := lh (RIn.nil HX2.out.klim)
 have c2 : w2.cell? ⟨g, 2, none⟩ = some (.int .i64 1) := (HX2.out.at_ 0 rfl).cell 2
 have u0 : w2.cell? ⟨g + 1, 0, none⟩ = some (.int .i64 1) := (HX2.out.at_ 1 rfl).cell 0
 have hro : Ru.refOf 1 1 = 1 := by decide +kernel
 have HRO := lh (refOf_any 1 1)
 rw [hro] at HRO
 clear hro
 go_wp2_with fail
 refine (HRO.out _).mono ?_
 rintro e w3 ⟨rfl, f3⟩
 have HX := lh (HX2.out.fresh f3)
 have HR := lh (HR.out.old f3)
 clear f3 HX2 c2 u0 HRO
 have c2 : w3.cell? ⟨g, 2, none⟩ = some (.int .i64 1) := (HX.out.at_ 0 rfl).cell 2
 have c3 : w3.cell? ⟨g, 3, none⟩ = some (.int .i64 0) := (HX.out.at_ 0 rfl).cell 3
 have c4 : w3.cell? ⟨g, 4, none⟩ = some (.int .i64 (-1)) := (HX.out.at_ 0 rfl).cell 4
 have g4 : w3.frozen? ⟨g, 4, none⟩ = false := (HX.out.at_ 0 rfl).frozen 4
 have u0 : w3.cell? ⟨g + 1, 0, none⟩ = some (.int .i64 1) := (HX.out.at_ 1 rfl).cell 0
 have u1 : w3.cell? ⟨g + 1, 1, none⟩ = some (.int .i64 5) := (HX.out.at_ 1 rfl).cell 1
 simp only
 go_upto_region 17 with (fail)
 have HX4 := lh (HX.out.put1 0 rfl 4 (.int .i64 5))
 have HR4 := lh (HR.out.box (HX.out.mem 0 rfl) (Touch.set1 w3 g 4 (.int .i64 5)))
 generalize w3.setCell ⟨g, 4, none⟩ (.int .i64 5) = w4 at *
 clear c2 c3 c4 g4 u0 u1 HX HR
 have g6 : w4.frozen? ⟨g, 6, none⟩ = false := (HX4.out.at_ 0 rfl).frozen 6
 have c6 : w4.cell? ⟨g, 6, none⟩ = some (.int .i64 c) := (HX4.out.at_ 0 rfl).cell 6
 have u2 : w4.cell? ⟨g + 1, 2, none⟩ = some (.int .i64 n) := (HX4.out.at_ 1 rfl).cell 2
 go_upto_region 18 with (fail)
 have HX5 := lh (HX4.out.put1 0 rfl 6 (.int .i64 n))
 have HR5 := lh (HR4.out.box (HX4.out.mem 0 rfl) (Touch.set1 w4 g 6 (.int .i64 n)))
 generalize w4.setCell ⟨g, 6, none⟩ (.int .i64 n) = w5 at *
 clear g6 c6 u2 HX4 HR4
 have HX : Hid (FB (FF w) [g, g + 1, g + 1 + 1, g + 1 + 1 + 1, g + 1 + 1 + 1 + 1] w w5 [⟨g, 29, rcCells ⟨m, c, 1, 0, 5, 0, n, Cn.no⟩⟩, ⟨g + 1, 276, ruL n⟩, ⟨g + 1 + 1, 29, rcZ⟩, ⟨g + 1 + 1 + 1, 217, rrZ⟩, ⟨g + 1 + 1 + 1 + 1, 217, rrCells RP.nil Cn.r0⟩]) := HX5.out
 have HR := HR5
 clear HX5 HR5
 have u0 : w5.cell? ⟨g + 1, 0, none⟩ = some (.int .i64 1) := (HX.out.at_ 1 rfl).cell 0
 have u4 : w5.cell? ⟨g + 1, 4, none⟩ = some (.string { data := #[] }) := (HX.out.at_ 1 rfl).cell 4
 go_upto_region 35 with (first
  |(refine ldR rfl (.tmp 6) rfl (by rfl) (HX.out.at_ 4 rfl) ?_)
  |(go_at_call 202; refine (rtell_any HR.out (by decide) 1 false Cn.no).mono ?_; rintro e w6 ⟨P, rfl, hr, ht⟩; have HX := lh (HX.out.act ht); have HR := lh hr; clear hr ht)
  |(refine stR rfl (.tmp 6) (.tmp 144) rfl (by rfl) P _ (by rfl) (HX.out.at_ 4 rfl) rfl ?_; intro w7 hB ht; have HX := lh (HX.out.put 4 rfl hB ht); have HR := lh (HR.out.box (HX.out.mem 4 rfl) ht); clear hB ht))
 go_wp2_with (first
  |(refine ldC rfl (.tmp 2) rfl (by rfl) (HX.out.at_ 0 rfl) ?_)
  |(refine ldR rfl (.tmp 6) rfl (by rfl) (HX.out.at_ 4 rfl) ?_)
  |(go_at_call 192; refine (rto_any HR.out 3 0).mono ?_; rintro e w8 ⟨P2, rfl, hr, ht⟩; have HX := lh (HX.out.act ht); have HR := lh hr; clear hr ht)
  |(refine stC rfl (.tmp 4) (.tmp 150) rfl (by rfl) (cnB m c n) (by rfl) (HX.out.at_ 2 rfl) rfl ?_; intro w9 hB ht; have HX := lh (HX.out.put 2 rfl hB ht); have HR := lh (HR.out.box (HX.out.mem 2 rfl) ht); clear hB ht)
  |(refine stR rfl (.tmp 5) (.tmp 151) rfl (by rfl) P2 { Cn.r0 with sigs := [Cn.sig 1 false Cn.no] } (by rfl) (HX.out.at_ 3 rfl) rfl ?_; intro wa hB ht; have HX := lh (HX.out.put 3 rfl hB ht); have HR := lh (HR.out.box (HX.out.mem 3 rfl) ht); clear hB ht))
 exact bodyPost_ret (v := .tuple #[.agg (rcCells (cnB m c n)).toArray, .agg (rrCells _ _).toArray]) (results_cc Tryz.results217 _ (by rfl) (HX.out.at_ 2 rfl).range Tryz.underlying29 rfl rcI (by rfl) (HX.out.at_ 3 rfl).range Tryz.underlying217 rfl rrI) rfl ⟨_, rfl, (HR.out.unbox (fun k hk => HX.out.klim k (.inl hk))).wide (by decide), HX.out.t⟩
set_option maxRecDepth 20000
set_option linter.constructorNameAsVariable false

def rqR (c n : Int) : Cn.R := ⟨[], [⟨2, 5, c, 0, 0, none, 0, 0, false, Cn.no⟩], true, false, n, 2⟩
def rqaslot (i : Nat) : Nat := [133, 134, 1002, 1003, 8].getD i 2000
def rqaidx (k : Nat) : Nat := [0, 0, 0, 0, 0, 0, 0, 0, 4, 0, 0, 0, 0, 0, 0, 0, 0, 0, 0, 0, 0, 0, 0, 0, 0, 0, 0, 0, 0, 0, 0, 0, 0, 0, 0, 0, 0, 0, 0, 0, 0, 0, 0, 0, 0, 0, 0, 0, 0, 0, 0, 0, 0, 0, 0, 0, 0, 0, 0, 0, 0, 0, 0, 0, 0, 0, 0, 0, 0, 0, 0, 0, 0, 0, 0, 0, 0, 0, 0, 0, 0, 0, 0, 0, 0, 0, 0, 0, 0, 0, 0, 0, 0, 0, 0, 0, 0, 0, 0, 0, 0, 0, 0, 0, 0, 0, 0, 0, 0, 0, 0, 0, 0, 0, 0, 0, 0, 0, 0, 0, 0, 0, 0, 0, 0, 0, 0, 0, 0, 0, 0, 0, 0, 0, 1].getD k 0
def rqaD : List Nat := [8, 133, 134]
def rqaval (m c n : Int) (b : RP) (i : Nat) : Value := [.agg (rcCells (cnR m c n)).toArray, .agg (rrCells b (rqR c n)).toArray, undef, undef, .int .i64 0].getD i undef

def rqaWD (w : World) (g : Nat) (m c n : Int) (b : RP) (d : Nat -> Bool) (W : World) : Prop :=
 FB (FF w) [g, g + 1, g + 1 + 1, g + 1 + 1 + 1] w W [⟨g, 29, rcCells (cnR m c n)⟩, ⟨g + 1, 29, if d 2 = true then rcCells (cnR m c n) else rcZ⟩, ⟨g + 1 + 1, 217, if d 3 = true then rrCells b (rqR c n) else rrZ⟩, ⟨g + 1 + 1 + 1, 217, rrCells b (rqR c n)⟩] ∧ RIn (KB (FF w) [g, g + 1, g + 1 + 1, g + 1 + 1 + 1]) 9 W b (rqR c n)
theorem rqaWD.upd {w : World} {g : Nat} {m c n : Int} {b : RP} {d : Nat -> Bool} {W W' : World} (h : rqaWD w g m c n b d W) {i : Nat} (h1 : i ≠ 2) (h2 : i ≠ 3) (hf : Fresh W W') : rqaWD w g m c n b (Dag.upd d i true) W' := by
 unfold rqaWD
 rw [Dag.upd_far _ _ (Ne.symm h1), Dag.upd_far _ _ (Ne.symm h2)]
 exact ⟨h.1.fresh hf, h.2.old hf⟩
theorem rreq_acc (m c n : Int) (w : World) :
  Calls Tryz.prog 124 #[.agg (rcCells (cnB m c n)).toArray, .int .i64 2, .string { data := #[] }] w fun e w' => ∃ P, e = .returned (.tuple #[rcV (cnR m c n), rrV P (rqR c n), .int .i64 0]) ∧ RIn (FF w) 9 w' P (rqR c n) ∧ Fresh w w' := by
 obtain ⟨w1, hw1⟩ := xq (((w.alloc (.cells (rcCells (cnB m c n)).toArray 29)).alloc (.cells #[.int .i64 0, .int .i64 0, .int .i64 0, .int .i64 0, .int .i64 0, .int .i64 0, .int .i64 0, .string { data := #[] }] 29)).alloc (.cells #[.slice none 0 0, .slice none 0 0, .bool false, .bool false, .int .i64 0, .int .i64 0] 217))
 have HX : Hid (FB (FF w) [w.heap.size, w.heap.size + 1, w.heap.size + 1 + 1] w w1 [⟨w.heap.size, 29, rcCells (cnB m c n)⟩, ⟨w.heap.size + 1, 29, rcZ⟩, ⟨w.heap.size + 1 + 1, 217, rrZ⟩]) := by rw [hw1]; exact ((((FB.nil w (fun k e => e)).al _ _ _ (by simp)).al _ rcZ _ (by simp)).al _ rrZ _ (by simp))
 have HSZ : Hid (w1.heap.size = w.heap.size + 1 + 1 + 1) := by rw [hw1]; unfold Hid; simp
 go_enter Tryz.func124, Tryz.ntmps124
 go_upto_region 1 with (fail)
 rw [<- hw1]
 clear hw1
 generalize w.heap.size = g at *
 go_upto_region 2 with (fail)
 obtain ⟨w2, hw2⟩ := xq (w1.alloc (.cells #[.slice none 0 0, .slice none 0 0, .bool false, .bool false, .int .i64 0, .int .i64 0] 217))
 have HX2 : Hid (FB (FF w) [g, g + 1, g + 1 + 1, g + 1 + 1 + 1] w w2 [⟨g, 29, rcCells (cnB m c n)⟩, ⟨g + 1, 29, rcZ⟩, ⟨g + 1 + 1, 217, rrZ⟩, ⟨g + 1 + 1 + 1, 217, rrCells RP.nil Cn.r0⟩]) := by rw [hw2]; exact HX.out.al 217 rrZ _ HSZ.out
 rw [<- hw2, HSZ.out]
 clear hw2 HX HSZ
 have HR := lh (RIn.nil HX2.out.klim)
 have c2 : w2.cell? ⟨g, 2, none⟩ = some (.int .i64 3) := (HX2.out.at_ 0 rfl).cell 2
 have hrm : Ru.refMay 3 2 = true := by decide +kernel
 have HRM := lh (refMay_any 3 2)
 rw [hrm] at HRM
 clear hrm
 have HX := HX2
 clear HX2
 go_upto_region 12 with (go_at_call 120; refine (HRM.out _).mono ?_; rintro e w3 ⟨rfl, rfl⟩)
 have c4 : w2.cell? ⟨g, 4, none⟩ = some (.int .i64 5) := (HX.out.at_ 0 rfl).cell 4
 go_upto_region 32 with (first
  |(refine ldC rfl (.tmp 3) rfl (by rfl) (HX.out.at_ 0 rfl) ?_)
  |(refine ldR rfl (.tmp 9) rfl (by rfl) (HX.out.at_ 3 rfl) ?_)
  |(go_at_call 190; refine (rout_any HR.out (by decide) 2 5 false Cn.no).mono ?_; rintro e w6 ⟨P, rfl, hr, ht⟩; have HX := lh (HX.out.act ht); have HR := lh hr; clear hr ht)
  |(refine stR rfl (.tmp 9) (.tmp 59) rfl (by rfl) P _ (by rfl) (HX.out.at_ 3 rfl) rfl ?_; intro w7 hB ht; have HX := lh (HX.out.put 3 rfl hB ht); have HR := lh (HR.out.box (HX.out.mem 3 rfl) ht); clear hB ht)
  |(go_at_call 191; refine (rready_any HR.out).mono ?_; rintro e w8 ⟨P2, rfl, hr, ht⟩; have HX := lh (HX.out.act ht); have HR := lh hr; clear hr ht)
  |(refine stC rfl (.tmp 3) (.tmp 64) rfl (by rfl) (cnR m c n) (by rfl) (HX.out.at_ 0 rfl) rfl ?_; intro w9 hB ht; have HX := lh (HX.out.put 0 rfl hB ht); have HR := lh (HR.out.box (HX.out.mem 0 rfl) ht); clear hB ht)
  |(refine stR rfl (.tmp 9) (.tmp 65) rfl (by rfl) P2 (rqR c n) (by rfl) (HX.out.at_ 3 rfl) rfl ?_; intro wa hB ht; have HX := lh (HX.out.put 3 rfl hB ht); have HR := lh (HR.out.box (HX.out.mem 3 rfl) ht); clear hB ht))
 have HX2 : Hid (FB (FF w) [g, g + 1, g + 1 + 1, g + 1 + 1 + 1] w wa [⟨g, 29, rcCells (cnR m c n)⟩, ⟨g + 1, 29, rcZ⟩, ⟨g + 1 + 1, 217, rrZ⟩, ⟨g + 1 + 1 + 1, 217, rrCells P2 (rqR c n)⟩]) := HX.out
 have HR2 : Hid (RIn (KB (FF w) [g, g + 1, g + 1 + 1, g + 1 + 1 + 1]) 9 wa P2 (rqR c n)) := (HR.out.eq (r' := rqR c n) rfl rfl).wide (by decide)
 clear HX HR
 have HX := HX2
 have HR := HR2
 clear HX2 HR2 HRM
 generalize P2 = P at *
 have HINJ : Hid (∀ i, i < 5 -> ∀ j, j < 5 -> rqaslot i = rqaslot j -> i = j) := by
  show ∀ i, i < 5 -> ∀ j, j < 5 -> rqaslot i = rqaslot j -> i = j
  decide +kernel
 have HFD : Hid (∀ k, k ∈ rqaD -> rqaidx k < 5 ∧ rqaslot (rqaidx k) = k) := by
  show ∀ k, k ∈ rqaD -> rqaidx k < 5 ∧ rqaslot (rqaidx k) = k
  decide +kernel
 refine Dag.detP (by kernel_rfl) 5 rqaD rqaslot (rqaval m c n) (rqaWD w g m c n) P (fun b k => rqaval m c n b (rqaidx k)) (by rfl) (fun i j hi hj => HINJ.out i hi j hj) (by decide +kernel) ⟨HX.out.fresh (Touch.refl _ _).drew, HR.out.old (Touch.refl _ _).drew⟩ (by decide +kernel)
  ⟨?_, ?_, ?_, ?_, ?_, trivial⟩ (fun b k hk => ⟨rqaidx k, (HFD.out k hk).1, (HFD.out k hk).2, rfl⟩) ?_
 ·refine Dag.PStep.pure 133 rfl rfl rfl (by decide) (fun b dn W h => h.upd (by decide) (by decide) (Touch.refl _ _)) (fun b dn R W hp hm hW => ?_)
  have q3 : R.eval (.tmp 3) = .pointer (some ⟨g, 0, none⟩) := hm.old 3 (by decide)
  exact exec_loadB rfl q3 (hW.1.at_ 0 rfl).range Tryz.underlying29 rfl rcI
 ·refine Dag.PStep.pure 134 rfl rfl rfl (by decide) (fun b dn W h => h.upd (by decide) (by decide) (Touch.refl _ _)) (fun b dn R W hp hm hW => ?_)
  have q9 : R.eval (.tmp 9) = .pointer (some ⟨g + 1 + 1 + 1, 0, none⟩) := hm.old 9 (by decide)
  exact exec_loadB rfl q9 (hW.1.at_ 3 rfl).range Tryz.underlying217 rfl rrI
 ·refine ⟨rfl, fun s hs => (by cases hs), fun b dn R W hi hp hcl hm hW => ?_⟩
  have q6 : R.eval (.tmp 6) = .pointer (some ⟨g + 1, 0, none⟩) := hm.old 6 (by decide)
  have q133 : R.eval (.tmp 133) = .agg (rcCells (cnR m c n)).toArray := hm.got 0 (by decide) (hp 0 (by decide +kernel)) (by decide) (by show (133 : Nat) < 135; decide)
  have hB := hW.1.at_ 1 rfl
  have ht : Touch (· = g + 1) W (W.setCells (g + 1) 0 (rcCells (cnR m c n))) := Touch.setCells (S := (· = g + 1)) rfl _ _ (Touch.refl _ _)
  rw [hi] at hB
  refine .skip rfl undef (W.setCells (g + 1) 0 (rcCells (cnR m c n))) (exec_storeB rfl q6 q133 (hB.there_at 0 (Nat.le_of_ble_eq_true rfl)) rcI (rcO _)) ⟨b, rfl, fun _ _ _ => rfl, ?_, hW.2.box (hW.1.mem 1 rfl) ht⟩
  have h1 := hW.1.put 1 rfl (hB.setCells (cs := rcZ) (vs := rcCells (cnR m c n)) rfl) ht
  rw [Dag.upd_same, Dag.upd_far _ _ (by decide)]
  exact h1
 ·refine ⟨rfl, fun s hs => (by cases hs), fun b dn R W hi hp hcl hm hW => ?_⟩
  have q7 : R.eval (.tmp 7) = .pointer (some ⟨g + 1 + 1, 0, none⟩) := hm.old 7 (by decide)
  have q134 : R.eval (.tmp 134) = .agg (rrCells b (rqR c n)).toArray := hm.got 1 (by decide) (hp 1 (by decide +kernel)) (by decide) (by show (134 : Nat) < 135; decide)
  have hB := hW.1.at_ 2 rfl
  have ht : Touch (· = g + 1 + 1) W (W.setCells (g + 1 + 1) 0 (rrCells b (rqR c n))) := Touch.setCells (S := (· = g + 1 + 1)) rfl _ _ (Touch.refl _ _)
  rw [hi] at hB
  refine .skip rfl undef (W.setCells (g + 1 + 1) 0 (rrCells b (rqR c n))) (exec_storeB rfl q7 q134 (hB.there_at 0 (Nat.le_of_ble_eq_true rfl)) rrI (rrO _ _)) ⟨b, rfl, fun _ _ _ => rfl, ?_, hW.2.box (hW.1.mem 2 rfl) ht⟩
  have h1 := hW.1.put 2 rfl (hB.setCells (cs := rrZ) (vs := rrCells b (rqR c n)) rfl) ht
  rw [Dag.upd_same, Dag.upd_far _ _ (by decide)]
  exact h1
 ·refine Dag.PStep.pure 8 rfl rfl rfl (by decide) (fun b dn W h => h.upd (by decide) (by decide) (Touch.refl _ _)) (fun b dn R W hp hm hW => ?_)
  have qk0 : R.eval (.const (.int .i64 0)) = .int .i64 0 := hm.cst _ (fun k e => by cases e)
  clear hp hm hW
  show (execOp R.eval _).run Tryz.prog W = .ok (.value (.int .i64 0)) W
  unfold execOp
  generalize R.eval = ρ at *
  go_simp
 ·intro b d w9 hd hW
  obtain ⟨h1, h2⟩ := hW
  rw [hd 2 (by decide), hd 3 (by decide)] at h1
  have HX := lh h1
  have HR := lh h2
  clear h1 h2 hd HINJ HFD
  simp only [rqaD, Dag.actOf, List.foldl_cons, List.foldl_nil, rqaval, rqaidx]
  go_wp2_with fail
  exact bodyPost_ret (v := .tuple #[.agg (rcCells (cnR m c n)).toArray, .agg (rrCells b (rqR c n)).toArray, .int .i64 0]) (results_cct Tryz.results124 _ (by rfl) (HX.out.at_ 1 rfl).range Tryz.underlying29 rfl rcI (by rfl) (HX.out.at_ 2 rfl).range Tryz.underlying217 rfl rrI) rfl ⟨b, rfl, HR.out.unbox (fun k hk => HX.out.klim k (.inl hk)), HX.out.ff⟩
set_option maxRecDepth 20000
set_option linter.constructorNameAsVariable false

def rs16E : El Cn.Sig := { e := 143, size := 5, bytes := 40, zero := .agg #[.int .i64 0, .string ByteArray.empty, .bool false, .int .u8 0, .int .i64 0], zel := ⟨0, ByteArray.empty, false, 0, 0⟩, enc := fun s => [.int .i64 s.kind, .string s.data, .bool s.self, .int .u8 s.code, .int .i64 s.n], len := fun _ => rfl, one := by simp [Value.oneCell'], pos := by decide, zsize := rfl, zenc := rfl }
theorem Tryz.infoRs16 : (Tryz.prog.info? 143).map (fun i => (i.zero, i.size, i.bytes)) = some (some (.agg #[.int .i64 0, .string ByteArray.empty, .bool false, .int .u8 0, .int .i64 0]), 5, 40) := by kernel_rfl
def rp06E : El Cn.Pd := { e := 139, size := 8, bytes := 88, zero := .agg #[.int .i64 0, .int .i64 0, .int .i64 0, .int .i64 0, .int .i64 0, .slice none 0 0, .bool false, .string ByteArray.empty], zel := ⟨0, 0, 0, 0, 0, none, 0, 0, false, ByteArray.empty⟩, enc := fun s => [.int .i64 s.kind, .int .i64 s.sq, .int .i64 s.n, .int .i64 s.ps, .int .i64 s.mr, .slice s.lA s.ln s.lc, .bool s.self, .string s.data], len := fun _ => rfl, one := by simp [Value.oneCell'], pos := by decide, zsize := rfl, zenc := rfl }
theorem Tryz.infoRp06 : (Tryz.prog.info? 139).map (fun i => (i.zero, i.size, i.bytes)) = some (some (.agg #[.int .i64 0, .int .i64 0, .int .i64 0, .int .i64 0, .int .i64 0, .slice none 0 0, .bool false, .string ByteArray.empty]), 8, 88) := by kernel_rfl
theorem app_sig16 {ops : Array Oper} {rest : List Oper} {o : Oper} {a : Act} {Q : Exit -> Act -> World -> Prop} {w : World} (hgd : o.guard = none) {s x : Operand}
  (ho : o.op = .call { callee := .builtin .append, args := #[s, x], argTypes := #[132, 132] })
  {A A2 : Option Addr} {c c2 : Nat} {l l2 : List Cn.Sig} (es : a.eval s = .slice A l.length c) (ex : a.eval x = .slice A2 l2.length c2)
  (h : Sl rs16E w A c l) (h2 : Rd rs16E w A2 c2 l2) (hm : l.length + l2.length <= 1000000000)
  (hK : ∀ A' c' L w', Hid (L = l ++ l2) -> Sl rs16E w' A' c' L -> Touch (fun k => A.map Addr.block = some k) w w' -> (A'.map Addr.block = A.map Addr.block ∨ A'.map Addr.block = some w.heap.size) →
   wpList Tryz.prog ops Q rest (a.put o.dst (.slice A' L.length c')) w') : wpList Tryz.prog ops Q (o :: rest) a w := by
 obtain ⟨i0, hi, hz0, hz1, hz2⟩ := info_parts Tryz.infoRs16
 exact wpList_app rs16E hgd ho i0 Tryz.underlying132 hi hz0 hz1 hz2 es ex h h2 (by simp only [maxLen]; omega) (by show _ * 40 <= _; omega) hK
theorem app_pd06 {ops : Array Oper} {rest : List Oper} {o : Oper} {a : Act} {Q : Exit -> Act -> World -> Prop} {w : World} (hgd : o.guard = none) {s x : Operand}
  (ho : o.op = .call { callee := .builtin .append, args := #[s, x], argTypes := #[38, 38] })
  {A A2 : Option Addr} {c c2 : Nat} {l l2 : List Cn.Pd} (es : a.eval s = .slice A l.length c) (ex : a.eval x = .slice A2 l2.length c2)
  (h : Sl rp06E w A c l) (h2 : Rd rp06E w A2 c2 l2) (hm : l.length + l2.length <= 1000000000)
  (hK : ∀ A' c' L w', Hid (L = l ++ l2) -> Sl rp06E w' A' c' L -> Touch (fun k => A.map Addr.block = some k) w w' -> (A'.map Addr.block = A.map Addr.block ∨ A'.map Addr.block = some w.heap.size) →
   wpList Tryz.prog ops Q rest (a.put o.dst (.slice A' L.length c')) w') : wpList Tryz.prog ops Q (o :: rest) a w := by
 obtain ⟨i0, hi, hz0, hz1, hz2⟩ := info_parts Tryz.infoRp06
 exact wpList_app rp06E hgd ho i0 Tryz.underlying38 hi hz0 hz1 hz2 es ex h h2 (by simp only [maxLen]; omega) (by show _ * 88 <= _; omega) hK
def Nw {α : Type} (E : El α) (n : Nat) (w : World) (A : Option Addr) (c : Nat) (l : List α) : Prop := Sl E w A c l ∧ ∀ ad, A = some ad -> n <= ad.block
def bgR : Cn.R := { Cn.r0 with sigs := [Cn.sig 1 false Cn.no] }
theorem rbring_bgn (z x : Rn) (P : RP) (w : World) (h : Sl rsigE w P.A1 P.c1 bgR.sigs) :
  Calls Tryz.prog 125 #[.agg z.cells.toArray, .agg x.cells.toArray, .agg (rrCells P bgR).toArray] w fun e w' => ∃ A c, e = .returned (.tuple #[.agg x.cells.toArray, .slice A 1 c]) ∧ Nw rs16E w.heap.size w' A c [Cn.sig 1 false Cn.no] ∧ Fresh w w' := by
 obtain ⟨w1, hw1⟩ := xq ((((w.alloc (.cells z.cells.toArray 40)).alloc (.cells x.cells.toArray 40)).alloc (.cells (rrCells P bgR).toArray 217)).alloc (.cells rnZ.toArray 40))
 have HX : Hid (FB (FF w) [w.heap.size, w.heap.size + 1, w.heap.size + 1 + 1, w.heap.size + 1 + 1 + 1] w w1 [⟨w.heap.size, 40, z.cells⟩, ⟨w.heap.size + 1, 40, x.cells⟩, ⟨w.heap.size + 1 + 1, 217, rrCells P bgR⟩, ⟨w.heap.size + 1 + 1 + 1, 40, rnZ⟩]) := by rw [hw1]; exact (((((FB.nil w (fun k e => e)).al _ _ _ (by simp)).al _ _ _ (by simp)).al _ _ _ (by simp)).al _ rnZ _ (by simp))
 have HSZ : Hid (w1.heap.size = w.heap.size + 1 + 1 + 1 + 1) := by rw [hw1]; unfold Hid; simp
 have HSG := lh h
 have hsl := h.lt
 clear h
 unfold rnZ at hw1
 go_enter Tryz.func125, Tryz.ntmps125
 go_upto_region 1 with (fail)
 rw [<- hw1]
 clear hw1
 generalize hg : w.heap.size = g at *
 have r0 : w1.cell? ⟨g + 1 + 1, 0, none⟩ = some (.slice P.A1 1 P.c1) := (HX.out.at_ 2 rfl).cell 0
 go_upto_region 2 with (fail)
 obtain ⟨w2, hw2⟩ := xq (w1.alloc (.cells #[] 143))
 have HX2 : Hid (FB (FF w) [g, g + 1, g + 1 + 1, g + 1 + 1 + 1] w w2 [⟨g, 40, z.cells⟩, ⟨g + 1, 40, x.cells⟩, ⟨g + 1 + 1, 217, rrCells P bgR⟩, ⟨g + 1 + 1 + 1, 40, rnZ⟩]) := by rw [hw2]; exact HX.out.fresh ((Touch.refl _ _).alloc _)
 have HN : Hid (Nw rs16E (g + 1 + 1 + 1 + 1) w2 (some ⟨g + 1 + 1 + 1 + 1, 0, none⟩) 0 []) := ⟨by rw [hw2]; exact Sl.lit rs16E w1 _ HSZ.out #[] [] rfl 0 rfl (by decide), fun ad e => by injection e with e; subst e; exact Nat.le_refl _⟩
 rw [<- hw2, HSZ.out]
 clear hw2 HX HSZ r0
 have HX := HX2
 clear HX2
 have r0 : w2.cell? ⟨g + 1 + 1, 0, none⟩ = some (.slice P.A1 1 P.c1) := (HX.out.at_ 2 rfl).cell 0
 go_upto_block 0 with (fail)
 go_cut [8] (fun v wx => ∃ A c, v = .slice A 1 c ∧ Hid (FB (FF w) [g, g + 1, g + 1 + 1, g + 1 + 1 + 1] w wx [⟨g, 40, z.cells⟩, ⟨g + 1, 40, x.cells⟩, ⟨g + 1 + 1, 217, rrCells P bgR⟩, ⟨g + 1 + 1 + 1, 40, rnZ⟩]) ∧ Hid (Nw rs16E (g + 1 + 1 + 1 + 1) wx A c [Cn.sig 1 false Cn.no]))
 case first =>
  go_wp2_with fail
  go_loopw [20, 8] (fun i v wr => ∃ (j : Nat) (A : Option Addr) (c : Nat), j <= 1 ∧ i = .int .i64 j ∧ v = .slice A ([Cn.sig 1 false Cn.no].take j).length c ∧ Hid (FB (FF w) [g, g + 1, g + 1 + 1, g + 1 + 1 + 1] w wr [⟨g, 40, z.cells⟩, ⟨g + 1, 40, x.cells⟩, ⟨g + 1 + 1, 217, rrCells P bgR⟩, ⟨g + 1 + 1 + 1, 40, rnZ⟩]) ∧ Hid (Nw rs16E (g + 1 + 1 + 1 + 1) wr A c ([Cn.sig 1 false Cn.no].take j))) (fun i _ _ => 1 - (intOf i).toNat)
  case atStart => exact ⟨0, _, 0, by omega, rfl, rfl, HX.out, HN.out⟩
  case round =>
   clear HX HN r0
   obtain ⟨j, A, c, hj, rfl, rfl, HX, HN⟩ := hrel
   rcases (show j = 0 ∨ j = 1 by omega) with rfl | rfl
   ·obtain ⟨gs, os, hA, _, hc⟩ := (HSG.out.touch HX.out.ff (fun _ _ e => e)).at_ 0 (by decide)
    have s0 : wr.cell? ⟨gs, os, none⟩ = some (.int .i64 1) := hc 0 _ rfl
    have s1 : wr.cell? ⟨gs, os + 1, none⟩ = some (.string { data := #[] }) := hc 1 _ rfl
    have s2 : wr.cell? ⟨gs, os + 2, none⟩ = some (.bool false) := hc 2 _ rfl
    have s3 : wr.cell? ⟨gs, os + 3, none⟩ = some (.int .u8 0) := hc 3 _ rfl
    rw [hA]
    have HA := lh hA
    clear hA hc
    go_wp2_with (at_builtin; refine app_sig16 rfl rfl (l := []) (l2 := [Cn.sig 1 false Cn.no]) rfl rfl ((HN.out.1.alloc _).alloc _) (Sl.rd (Sl.lit rs16E (wr.alloc _) _ (by simp) _ [Cn.sig 1 false Cn.no] rfl 1 rfl (by decide))) (by simp) ?_; intro A4 c4 L4 w4 hL4 hs4 ht4 hb4)
    obtain rfl := hL4.out
    have hlt : g + 1 + 1 + 1 < wr.heap.size := HX.out.lt _ (by simp)
    have HX4 := lh ((HX.out.fresh (w' := wr.alloc _) ((Touch.refl _ _).alloc _)).fresh (w' := (wr.alloc _).alloc _) ((Touch.refl _ _).alloc _) |>.act (ht4.mono fun k hk e hkb => by
     cases A with
     |none => cases e
     |some ad =>
      have h5 := HN.out.2 ad rfl
      injection e with e
      have e : ad.block = k := e
      rcases hkb with hkb | hkb
      ·have hkb : k < w.heap.size := hkb
       omega
      ·simp only [List.mem_cons, List.not_mem_nil, or_false] at hkb
       omega))
    have HN4 : Hid (Nw rs16E (g + 1 + 1 + 1 + 1) w4 A4 c4 [Cn.sig 1 false Cn.no]) := ⟨hs4, fun ad e => by
     subst e
     rcases hb4 with hb | hb
     ·cases A with
      |none => cases hb
      |some a2 =>
       injection hb with hb
       have hb : ad.block = a2.block := hb
       rw [hb]
       exact HN.out.2 a2 rfl
     ·injection hb with hb
      have hb : ad.block = ((wr.alloc _).alloc _).heap.size := hb
      rw [hb]
      simp
      omega⟩
    clear hs4 ht4 hb4 hL4 HX HN s0 s1 s2 s3
    go_wp2
    go_roundw
    case rel => exact ⟨1, A4, c4, by omega, by go_num, rfl, HX4, HN4⟩
    case measure => simp [intOf]
   ·go_wp2
    go_meet
    case rel => exact ⟨A, c, rfl, HX, HN⟩
 case rest =>
 clear HX HN r0
 obtain ⟨A, c, rfl, HX, HN⟩ := hcut
 generalize wc = w3 at *
 have r1 : w3.cell? ⟨g + 1 + 1, 1, none⟩ = some (.slice P.A2 0 P.c2) := (HX.out.at_ 2 rfl).cell 1
 have r2 : w3.cell? ⟨g + 1 + 1, 2, none⟩ = some (.bool false) := (HX.out.at_ 2 rfl).cell 2
 have r3 : w3.cell? ⟨g + 1 + 1, 3, none⟩ = some (.bool false) := (HX.out.at_ 2 rfl).cell 3
 have r5 : w3.cell? ⟨g + 1 + 1, 5, none⟩ = some (.int .i64 0) := (HX.out.at_ 2 rfl).cell 5
 go_upto_block 2 with (fail)
 go_cut [40] (fun v wx => wx = w3)
 case first =>
  go_wp2_with fail
  go_loopw [40] (fun i wr => i = .int .i64 0 ∧ wr = w3) (fun i _ => 0)
  case atStart => exact ⟨rfl, rfl⟩
  case round =>
   obtain ⟨rfl, rfl⟩ := hrel
   go_wp2
   go_meet
   case rel => trivial
 case rest =>
 obtain rfl := hcut
 go_upto_region 33 with (fail)
 have HAD := lh HN.out.2
 refine wp_region_lit ?_
 refine ldN rfl (.tmp 4) rfl (by rfl) (y := x) (HX.out.at_ 1 rfl) ?_
 go_wp2_with (refine stN rfl (.tmp 6) (.tmp 144) rfl (by rfl) x (by rfl) (HX.out.at_ 3 rfl) rfl ?_; intro w9 hB ht; have HX := lh (HX.out.put 3 rfl hB ht); have HN := lh (HN.out.1.touch ht (fun ad e e2 => by have h5 := HN.out.2 ad e; have e2 : ad.block = g + 1 + 1 + 1 := e2; omega)); clear hB ht)
 exact bodyPost_ret (v := .tuple #[.agg x.cells.toArray, .slice A 1 c]) (results_ct Tryz.results125 _ (by rfl) (HX.out.at_ 3 rfl).range Tryz.underlying40 rfl rnI) rfl ⟨A, c, rfl, ⟨HN.out, fun ad e => by have := HAD.out ad e; omega⟩, HX.out.ff⟩
end Go.Proofs.YtipaobpmojahaaaGreat
