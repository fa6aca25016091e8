/-
  polliwoglaw16.Step at the third act: both ends say what goes out. Conditions: the end may be, and one unit waits at both.
-/
import Derived.Test.YtipaobpmojahaaaGreatOpT
import Derived.Test.YtipaobpmojahaaaGreatChk
import Derived.Test.YtipaobpmojahaaaGreatEnNc
import Derived.Test.YtipaobpmojahaaaGreatEnZk
set_option maxHeartbeats 4000000
namespace Go.Proofs.YtipaobpmojahaaaGreat
open Go.RowKit
set_option maxRecDepth 20000
set_option linter.constructorNameAsVariable false

def actN : List Value := [.int .i64 3, .int .i64 0, .int .i64 0, .int .i64 0, .int .i64 0, .int .i64 0, .int .i64 0, .int .i64 0, .slice none 0 0, .string { data := #[] }]
def uC (m : Int) : List Value := [.int .i64 2, .int .i64 5, .int .u32 m, .int .u32 0, .int .u32 0, .slice none 0 0, .bool false, .string Cn.no]
def snslot (i : Nat) : Nat := [96, 97, 98, 99, 100, 101, 102, 103, 104, 105, 106, 107, 108, 109, 110, 111, 112, 113, 1018, 7].getD i 2000
def snidx (k : Nat) : Nat := [0, 0, 0, 0, 0, 0, 0, 19, 0, 0, 0, 0, 0, 0, 0, 0, 0, 0, 0, 0, 0, 0, 0, 0, 0, 0, 0, 0, 0, 0, 0, 0, 0, 0, 0, 0, 0, 0, 0, 0, 0, 0, 0, 0, 0, 0, 0, 0, 0, 0, 0, 0, 0, 0, 0, 0, 0, 0, 0, 0, 0, 0, 0, 0, 0, 0, 0, 0, 0, 0, 0, 0, 0, 0, 0, 0, 0, 0, 0, 0, 0, 0, 0, 0, 0, 0, 0, 0, 0, 0, 0, 0, 0, 0, 0, 0, 0, 1, 2, 3, 4, 5, 6, 7, 8, 9, 10, 11, 12, 13, 14, 15, 16, 17].getD k 0
def snD : List Nat := [7, 96, 97, 98, 99, 100, 101, 102, 103, 104, 105, 106, 107, 108, 109, 110, 111, 112, 113]
def snval (y : Rn) (m : Int) (_b : Unit) (i : Nat) : Value := [.agg y.cells.toArray, .bool true, .bool true, .bool true, .bool true, .agg (uC m).toArray, .agg (pdC (bgak m)).toArray, .bool true, .bool true, .bool true, .bool true, .bool false, .bool false, .agg (uC m).toArray, .int .i64 0, .bool true, .bool true, .bool true, undef, .bool true].getD i undef
theorem step_next {k : Nat} {D : Nat -> Nat} {w : World} {n : Nat} {z z2 : En.X} (h : EndAt k D w n z) {hi hi2 : Int} (hf : En.Fit z hi hi2) (m : Int) (hm : 0 <= m ∧ m < 16777216) (hcr : ∃ r, z.ctl = bgak m :: r) (hq : En.next z = (z2, some (bgak m, [])))
  (x : Rn) (A : Option Addr) (c : Nat) (hC : x.C = A) (hn : x.nC = 1) (hc : x.cC = c) (hs : Sl rp06E w A c [bgak m]) :
  Calls Tryz.prog 20 #[.pointer (some ⟨n, 0, none⟩), .agg x.cells.toArray, .agg actN.toArray] w fun e w' => ∃ A' c', e = .returned (.tuple #[.agg (nxC x A' c').cells.toArray, .bool true]) ∧ ∃ D', EndTo k D D' w w' n z2 := by
 have HRN := lh (fun (W : World) hs0 => rnext16_ctl x A c (bgak m) W hC hn hc hs0)
 have HSL := lh hs
 have HMM : Hid (m % 16777216 = m) := by unfold Hid; omega
 have HM4 : Hid (0 <= m ∧ m < 4294967296) := by unfold Hid; omega
 have HPR : Hid (∀ D' W cn pc un sp rp A1 ca B1 cb, EndIn k D' W n cn pc un sp rp A1 ca B1 cb z -> Calls Tryz.prog 14 #[.pointer (some ⟨n, 0, none⟩)] W fun e w' => e = .returned (.tuple #[.agg (uC m).toArray, .bool true]) ∧ ∃ D2, EndTo k D' D2 W w' n z2) := fun D' W cn pc un sp rp A1 ca B1 cb hin => by
  obtain ⟨r, hr⟩ := hcr
  have hl := hf.ctl
  have := nnext_ctl hin (bgak m) r hr (by rw [hr, List.length_cons] at hl; omega)
  rw [show ({ z with ctl := r }, some (bgak m, [])) = En.next z by unfold En.next; rw [hr]] at this
  rw [hq] at this
  refine this.mono ?_
  rintro e w' ⟨D2, u', rfl, h1, h2⟩
  rcases h2 _ _ rfl with ⟨rfl, -⟩ | ⟨A, c, -, -, -, h3⟩
  ·exact ⟨rfl, D2, h1⟩
  ·exact absurd h3 (by show ¬ (11 : Int) <= 2; decide)
 have HEN := lh h
 clear h hf hq hcr hs hC hn hc hm
 obtain ⟨w1, hw1⟩ := xq (((w.alloc (.cells x.cells.toArray 40)).alloc (.cells actN.toArray 79)).alloc (.cells rnZ.toArray 40))
 have HX : Hid (FB (FF w) [w.heap.size, w.heap.size + 1, w.heap.size + 1 + 1] w w1 [⟨w.heap.size, 40, x.cells⟩, ⟨w.heap.size + 1, 79, actN⟩, ⟨w.heap.size + 1 + 1, 40, rnZ⟩]) := by rw [hw1]; exact ((((FB.nil w (fun k e => e)).al _ x.cells _ (by simp)).al _ actN _ (by simp)).al _ rnZ _ (by simp))
 unfold rnZ at hw1
 go_enter Tryz.func20, Tryz.ntmps20
 go_upto_region 1 with (fail)
 rw [<- hw1]
 clear hw1
 generalize hg : w.heap.size = g at *
 have a0 : w1.cell? ⟨g + 1, 0, none⟩ = some (.int .i64 3) := (HX.out.at_ 1 rfl).cell 0
 go_upto_region 13 with (fail)
 clear a0
 refine wp_region_lit ?_
 refine ldN rfl (.tmp 4) rfl (by rfl) (y := x) (HX.out.at_ 0 rfl) ?_
 go_wp2_with fail
 refine (HRN.out _ (HSL.out.touch HX.out.ff (fun _ _ e => e))).mono ?_
 rintro e w3 ⟨A', c', rfl, f3⟩
 have HX := lh (HX.out.fresh f3)
 clear f3 HRN HSL
 obtain ⟨y, hy⟩ := xq (nxC x A' c')
 rw [<- hy]
 have HYY := lh hy
 clear hy
 simp only
 go_upto_region 14 with (first
  |(refine stN rfl (.tmp 16) (.tmp 88) rfl (by rfl) y (by rfl) (((HX.out.al 40 rnZ w3.heap.size rfl).al 139 pdZ (w3.heap.size + 1) (by simp)).at_ 3 rfl) rfl ?_; intro w4 hB ht; have HX := lh (((HX.out.al 40 rnZ w3.heap.size rfl).al 139 pdZ (w3.heap.size + 1) (by simp)).put 3 rfl hB ht); clear hB ht)
  |(refine wpList_storeB rfl _ (.tmp 17) (.tmp 89) rfl (w3.heap.size + 1) 0 (by rfl) (pdC (bgak m)) (by rfl) (HX.out.at_ 4 rfl) (Nat.le_of_ble_eq_true rfl) rp06I (pdO _) ?_; intro w5 hB ht; have HX := lh (HX.out.put 4 rfl (cs := pdC (bgak m)) (hB.eq_cells rfl) ht); clear hB ht))
 generalize w3.heap.size = q at *
 have HX2 : Hid (FB (FF w) [g, g + 1, g + 1 + 1, q, q + 1] w w5 [⟨g, 40, x.cells⟩, ⟨g + 1, 79, actN⟩, ⟨g + 1 + 1, 40, rnZ⟩, ⟨q, 40, y.cells⟩, ⟨q + 1, 139, pdC (bgak m)⟩]) := HX.out
 clear HX
 have HX := HX2
 clear HX2
 generalize hp2 : q + 1 = p2 at *
 have HNE : Hid (q ≠ g + 1 + 1 ∧ p2 ≠ g + 1 + 1 ∧ g <= q ∧ g <= p2) := by
  have h1 := HX.out.nd
  have h3 := HX.out.new q (by simp)
  simp only [List.nodup_cons, List.mem_cons, List.not_mem_nil, or_false, not_or] at h1
  unfold Hid
  omega
 clear hp2
 obtain ⟨D1, hD1⟩ := xq (lab D w.heap.size (k + 8))
 have hff : Fresh w w5 := HX.out.ff
 have HE1 : Hid (EndTo k D D1 w w5 n z) := by rw [hD1]; exact ⟨HEN.out.old hff (fun b hb => lab_old hb), lab_lab k D _ 8 (by omega), hff.mono (fun _ _ e => e.elim)⟩
 have HLB : Hid (D1 (g + 1 + 1) = k + 8 ∧ D1 q = k + 8 ∧ D1 p2 = k + 8) := by
  have hn := HNE.out
  rw [hD1]
  exact ⟨lab_new (by omega), lab_new (by omega), lab_new (by omega)⟩
 clear hD1 hff HEN
 obtain ⟨cn, pc, un, sp, rp, A2, ca2, B2, cb2, hin⟩ := HE1.out.at_
 have HP := lh (HPR.out _ _ _ _ _ _ _ _ _ _ _ hin)
 clear hin HPR
 go_wp2_with fail
 refine HP.out.mono ?_
 rintro e w6 ⟨rfl, D2, h5⟩
 have HBQ : Hid (Blk w6 q 40 y.cells ∧ Blk w6 (g + 1 + 1) 40 rnZ ∧ Blk w6 p2 139 (pdC (bgak m))) :=
  ⟨h5.touch.blk (HX.out.at_ 3 rfl) (fun e => by unfold All at e; rw [HLB.out.2.1] at e; omega), h5.touch.blk (HX.out.at_ 2 rfl) (fun e => by unfold All at e; rw [HLB.out.1] at e; omega), h5.touch.blk (HX.out.at_ 4 rfl) (fun e => by unfold All at e; rw [HLB.out.2.2] at e; omega)⟩
 have HE5 : Hid (EndTo k D D2 w w6 n z2 ∧ D2 (g + 1 + 1) = k + 8) := ⟨HE1.out.then h5, (h5.lab.1 _ (HX.out.at_ 2 rfl).lt).trans HLB.out.1⟩
 clear h5 HE1 HLB HP HX
 simp only
 go_upto_region 15 with (refine wpList_storeB rfl _ (.tmp 19) (.tmp 94) rfl w6.heap.size 0 (by rfl) (uC m) (by rfl) (Blk.new w6 58 uuZ) (Nat.le_of_ble_eq_true rfl) uuI (by simp [uC, Value.oneCell']) ?_; intro w7 hB ht; have HB7 : Hid (Blk w7 w6.heap.size 58 (uC m)) := hB.eq_cells rfl; have HT7 : Hid (Fresh w6 w7) := ((Touch.refl _ w6).alloc (.cells uuZ.toArray 58)).trans ht (fun b hb e => by have e : b = w6.heap.size := e; omega); clear hB ht)
 generalize hp3 : w6.heap.size = p3 at *
 have HBX : Hid (Blk w7 q 40 y.cells ∧ Blk w7 (g + 1 + 1) 40 rnZ ∧ Blk w7 p2 139 (pdC (bgak m)) ∧ p3 ≠ g + 1 + 1) :=
  ⟨HT7.out.blk HBQ.out.1 (fun e => e), HT7.out.blk HBQ.out.2.1 (fun e => e), HT7.out.blk HBQ.out.2.2 (fun e => e), by have := HBQ.out.2.1.lt; omega⟩
 have HE7 : Hid (EndTo k D D2 w w7 n z2 ∧ D2 (g + 1 + 1) = k + 8) := ⟨⟨HE5.out.1.at_.old HT7.out (fun _ _ => rfl), HE5.out.1.lab, HE5.out.1.touch.trans HT7.out (fun _ _ e => e.elim)⟩, HE5.out.2⟩
 clear HBQ HE5 HT7 hp3
 have HINJ : Hid (∀ i, i < 20 -> ∀ j, j < 20 -> snslot i = snslot j -> i = j) := by
  show ∀ i, i < 20 -> ∀ j, j < 20 -> snslot i = snslot j -> i = j
  decide +kernel
 have HFD : Hid (∀ k, k ∈ snD -> snidx k < 20 ∧ snslot (snidx k) = k) := by
  show ∀ k, k ∈ snD -> snidx k < 20 ∧ snslot (snidx k) = k
  decide +kernel
 have ht0 : Fresh w7 w7.drew := (Touch.refl _ _).drew
 refine Dag.detG (by kernel_rfl) 20 snD snslot (snval y m) (ScWD k D w n (g + 1 + 1) y z2 none 0 [] [⟨q, 40, y.cells⟩, ⟨p2, 139, pdC (bgak m)⟩, ⟨p3, 58, uC m⟩] 18) () (fun b k => snval y m b (snidx k)) (by rfl) (fun i j hi hj => HINJ.out i hi j hj) (by decide +kernel) ⟨fun x hx => (by
   rcases List.mem_cons.1 hx with rfl | hx
   ·exact ⟨ht0.blk HBX.out.1 (fun e => e), HNE.out.1⟩
   rcases List.mem_cons.1 hx with rfl | hx
   ·exact ⟨ht0.blk HBX.out.2.2.1 (fun e => e), HNE.out.2.1⟩
   rw [List.mem_singleton.1 hx]
   exact ⟨ht0.blk HB7.out (fun e => e), HBX.out.2.2.2⟩), ht0.blk HBX.out.2.1 (fun e => e), Sl.nil _ _, by omega, D2, ⟨HE7.out.1.at_.old ht0 (fun _ _ => rfl), HE7.out.1.lab, HE7.out.1.touch.trans ht0 (fun _ _ e => e.elim)⟩, HE7.out.2⟩ (by decide +kernel)
  (by refine ⟨?_, ?_, ?_, ?_, ?_, ?_, ?_, ?_, ?_, ?_, ?_, ?_, ?_, ?_, ?_, ?_, ?_, ?_, ?_, ?_, trivial⟩ <;> first | exact .inl rfl | exact .inr ⟨_, _, rfl, by decide +kernel, by decide, by decide, Nat.le_of_ble_eq_true rfl, by rfl, fun b => rfl⟩)
  ⟨?_, ?_, ?_, ?_, ?_, ?_, ?_, ?_, ?_, ?_, ?_, ?_, ?_, ?_, ?_, ?_, ?_, ?_, ?_, ?_, trivial⟩ (fun b k hk => ⟨snidx k, (HFD.out k hk).1, (HFD.out k hk).2, rfl⟩) ?_
 ·refine Dag.PStep2.pure 96 rfl rfl (by decide) (fun b dn W h => h.fresh (Touch.refl _ _) (by decide)) (fun b dn R W hp hm hW => ?_)
  have q16 : R.eval (.tmp 16) = .pointer (some ⟨q, 0, none⟩) := hm.old 16 (by decide)
  exact exec_loadB rfl q16 (hW.at_ 0 rfl).range Tryz.underlying40 rfl rnI
 ·refine Dag.PStep2.pure 97 rfl rfl (by decide) (fun b dn W h => h.fresh (Touch.refl _ _) (by decide)) (fun b dn R W hp hm hW => ?_)
  have q20 : R.eval (.tmp 20) = .bool true := hm.old 20 (by decide)
  clear hp hm hW
  show (execOp R.eval _).run Tryz.prog W = .ok (.value (.bool true)) W
  unfold execOp
  generalize R.eval = ρ at *
  go_simp
 ·refine Dag.PStep2.pure 98 rfl rfl (by decide) (fun b dn W h => h.fresh (Touch.refl _ _) (by decide)) (fun b dn R W hp hm hW => ?_)
  have q18 : R.eval (.tmp 18) = .bool true := hm.old 18 (by decide)
  clear hp hm hW
  show (execOp R.eval _).run Tryz.prog W = .ok (.value (.bool true)) W
  unfold execOp
  generalize R.eval = ρ at *
  go_simp
 ·refine Dag.PStep2.pure 99 rfl rfl (by decide) (fun b dn W h => h.fresh (Touch.refl _ _) (by decide)) (fun b dn R W hp hm hW => ?_)
  have q97 : R.eval (.tmp 97) = .bool true := hm.got 1 (by decide) (hp 1 (by decide +kernel)) (by decide) (Nat.le_of_ble_eq_true rfl)
  have q98 : R.eval (.tmp 98) = .bool true := hm.got 2 (by decide) (hp 2 (by decide +kernel)) (by decide) (Nat.le_of_ble_eq_true rfl)
  clear hp hm hW
  show (execOp R.eval _).run Tryz.prog W = .ok (.value (.bool true)) W
  unfold execOp
  generalize R.eval = ρ at *
  go_simp
 ·refine Dag.PStep2.pure 100 rfl rfl (by decide) (fun b dn W h => h.fresh (Touch.refl _ _) (by decide)) (fun b dn R W hp hm hW => ?_)
  have q99 : R.eval (.tmp 99) = .bool true := hm.got 3 (by decide) (hp 3 (by decide +kernel)) (by decide) (Nat.le_of_ble_eq_true rfl)
  clear hp hm hW
  show (execOp R.eval _).run Tryz.prog W = .ok (.value (.bool true)) W
  unfold execOp
  generalize R.eval = ρ at *
  go_simp
 ·refine Dag.PStep2.pure 101 rfl rfl (by decide) (fun b dn W h => h.fresh (Touch.refl _ _) (by decide)) (fun b dn R W hp hm hW => ?_)
  have q19 : R.eval (.tmp 19) = .pointer (some ⟨p3, 0, none⟩) := hm.old 19 (by decide)
  exact exec_loadB rfl q19 (hW.at_ 2 rfl).range Tryz.underlying58 rfl uuI
 ·refine Dag.PStep2.pure 102 rfl rfl (by decide) (fun b dn W h => h.fresh (Touch.refl _ _) (by decide)) (fun b dn R W hp hm hW => ?_)
  have q17 : R.eval (.tmp 17) = .pointer (some ⟨p2, 0, none⟩) := hm.old 17 (by decide)
  exact exec_loadB rfl q17 (hW.at_ 1 rfl).range Tryz.underlying139 rfl rp06I
 ·refine ⟨fun s hs => (by cases hs; exact ⟨rfl, by decide⟩), fun b dn R W hi hp hcl hm hW => ?_⟩
  have q101 : R.eval (.tmp 101) = .agg (uC m).toArray := hm.got 5 (by decide) (hp 5 (by decide +kernel)) (by decide) (Nat.le_of_ble_eq_true rfl)
  have q102 : R.eval (.tmp 102) = .agg (pdC (bgak m)).toArray := hm.got 6 (by decide) (hp 6 (by decide +kernel)) (by decide) (Nat.le_of_ble_eq_true rfl)
  have qf : R.eval (.func 60) = .func (.func 60) #[] #[] := hm.cst _ (fun k e => by cases e)
  refine .call 103 rfl 60 #[.agg (uC m).toArray, .agg (pdC (bgak m)).toArray] ?_ ((same06_any 2 5 m 0 0 false Cn.no W HM4.out (by decide) (by decide)).mono ?_)
  ·clear hi hp hcl hm hW
   generalize (uC m).toArray = V1 at *
   generalize (pdC (bgak m)).toArray = V2 at *
   unfold execOp
   generalize R.eval = ρ at *
   go_simp
  ·rintro e w' ⟨rfl, f3⟩
   exact ⟨_, rfl, b, rfl, fun _ _ _ => rfl, hW.fresh f3 (by decide)⟩
 ·refine Dag.PStep2.pure 104 rfl rfl (by decide) (fun b dn W h => h.fresh (Touch.refl _ _) (by decide)) (fun b dn R W hp hm hW => ?_)
  have q100 : R.eval (.tmp 100) = .bool true := hm.got 4 (by decide) (hp 4 (by decide +kernel)) (by decide) (Nat.le_of_ble_eq_true rfl)
  have q103 : R.eval (.tmp 103) = .bool true := hm.got 7 (by decide) (hp 7 (by decide +kernel)) (by decide) (Nat.le_of_ble_eq_true rfl)
  have qk2 : R.eval (.const (.bool false)) = .bool false := hm.cst _ (fun k e => by cases e)
  clear hp hm hW
  show (execOp R.eval _).run Tryz.prog W = .ok (.value (.bool true)) W
  unfold execOp
  generalize R.eval = ρ at *
  go_simp
 ·refine Dag.PStep2.pure 105 rfl rfl (by decide) (fun b dn W h => h.fresh (Touch.refl _ _) (by decide)) (fun b dn R W hp hm hW => ?_)
  have q104 : R.eval (.tmp 104) = .bool true := hm.got 8 (by decide) (hp 8 (by decide +kernel)) (by decide) (Nat.le_of_ble_eq_true rfl)
  clear hp hm hW
  show (execOp R.eval _).run Tryz.prog W = .ok (.value (.bool true)) W
  unfold execOp
  generalize R.eval = ρ at *
  go_simp
 ·refine Dag.PStep2.pure 106 rfl rfl (by decide) (fun b dn W h => h.fresh (Touch.refl _ _) (by decide)) (fun b dn R W hp hm hW => ?_)
  have q18 : R.eval (.tmp 18) = .bool true := hm.old 18 (by decide)
  clear hp hm hW
  show (execOp R.eval _).run Tryz.prog W = .ok (.value (.bool true)) W
  unfold execOp
  generalize R.eval = ρ at *
  go_simp
 ·refine Dag.PStep2.pure 107 rfl rfl (by decide) (fun b dn W h => h.fresh (Touch.refl _ _) (by decide)) (fun b dn R W hp hm hW => ?_)
  have q106 : R.eval (.tmp 106) = .bool true := hm.got 10 (by decide) (hp 10 (by decide +kernel)) (by decide) (Nat.le_of_ble_eq_true rfl)
  clear hp hm hW
  show (execOp R.eval _).run Tryz.prog W = .ok (.value (.bool false)) W
  unfold execOp
  generalize R.eval = ρ at *
  go_simp
 ·refine Dag.PStep2.pure 108 rfl rfl (by decide) (fun b dn W h => h.fresh (Touch.refl _ _) (by decide)) (fun b dn R W hp hm hW => ?_)
  have q107 : R.eval (.tmp 107) = .bool false := hm.got 11 (by decide) (hp 11 (by decide +kernel)) (by decide) (Nat.le_of_ble_eq_true rfl)
  clear hp hm hW
  show (execOp R.eval _).run Tryz.prog W = .ok (.value (.bool false)) W
  unfold execOp
  generalize R.eval = ρ at *
  go_simp
 ·refine Dag.PStep2.pure 109 rfl rfl (by decide) (fun b dn W h => h.fresh (Touch.refl _ _) (by decide)) (fun b dn R W hp hm hW => ?_)
  have q19 : R.eval (.tmp 19) = .pointer (some ⟨p3, 0, none⟩) := hm.old 19 (by decide)
  exact exec_loadB rfl q19 (hW.at_ 2 rfl).range Tryz.underlying58 rfl uuI
 ·refine ⟨fun s hs => (by cases hs; exact ⟨rfl, by decide⟩), fun b dn R W hi hp hcl hm hW => ?_⟩
  have q109 : R.eval (.tmp 109) = .agg (uC m).toArray := hm.got 13 (by decide) (hp 13 (by decide +kernel)) (by decide) (Nat.le_of_ble_eq_true rfl)
  have qf : R.eval (.func 61) = .func (.func 61) #[] #[] := hm.cst _ (fun k e => by cases e)
  refine .call 110 rfl 61 #[.agg (uC m).toArray] ?_ ((check_2 5 m (by decide) (by decide) HMM.out W).mono ?_)
  ·clear hi hp hcl hm hW
   generalize (uC m).toArray = V1 at *
   unfold execOp
   generalize R.eval = ρ at *
   go_simp
  ·rintro e w' ⟨rfl, f3⟩
   exact ⟨_, rfl, b, rfl, fun _ _ _ => rfl, hW.fresh f3 (by decide)⟩
 ·refine Dag.PStep2.pure 111 rfl rfl (by decide) (fun b dn W h => h.fresh (Touch.refl _ _) (by decide)) (fun b dn R W hp hm hW => ?_)
  have q110 : R.eval (.tmp 110) = .int .i64 0 := hm.got 14 (by decide) (hp 14 (by decide +kernel)) (by decide) (Nat.le_of_ble_eq_true rfl)
  have qk1 : R.eval (.const (.int .i64 0)) = .int .i64 0 := hm.cst _ (fun k e => by cases e)
  clear hp hm hW
  show (execOp R.eval _).run Tryz.prog W = .ok (.value (.bool true)) W
  unfold execOp
  generalize R.eval = ρ at *
  go_simp
 ·refine Dag.PStep2.pure 112 rfl rfl (by decide) (fun b dn W h => h.fresh (Touch.refl _ _) (by decide)) (fun b dn R W hp hm hW => ?_)
  have q108 : R.eval (.tmp 108) = .bool false := hm.got 12 (by decide) (hp 12 (by decide +kernel)) (by decide) (Nat.le_of_ble_eq_true rfl)
  have q111 : R.eval (.tmp 111) = .bool true := hm.got 15 (by decide) (hp 15 (by decide +kernel)) (by decide) (Nat.le_of_ble_eq_true rfl)
  have qk2 : R.eval (.const (.bool true)) = .bool true := hm.cst _ (fun k e => by cases e)
  clear hp hm hW
  show (execOp R.eval _).run Tryz.prog W = .ok (.value (.bool true)) W
  unfold execOp
  generalize R.eval = ρ at *
  go_simp
 ·refine Dag.PStep2.pure 113 rfl rfl (by decide) (fun b dn W h => h.fresh (Touch.refl _ _) (by decide)) (fun b dn R W hp hm hW => ?_)
  have q105 : R.eval (.tmp 105) = .bool true := hm.got 9 (by decide) (hp 9 (by decide +kernel)) (by decide) (Nat.le_of_ble_eq_true rfl)
  have q112 : R.eval (.tmp 112) = .bool true := hm.got 16 (by decide) (hp 16 (by decide +kernel)) (by decide) (Nat.le_of_ble_eq_true rfl)
  have qk2 : R.eval (.const (.bool false)) = .bool false := hm.cst _ (fun k e => by cases e)
  clear hp hm hW
  show (execOp R.eval _).run Tryz.prog W = .ok (.value (.bool true)) W
  unfold execOp
  generalize R.eval = ρ at *
  go_simp
 ·refine ⟨fun s hs => (by cases hs), fun b dn R W hi hp hcl hm hW => ?_⟩
  have q6 : R.eval (.tmp 6) = .pointer (some ⟨g + 1 + 1, 0, none⟩) := hm.old 6 (by decide)
  have q96 : R.eval (.tmp 96) = .agg y.cells.toArray := hm.got 0 (by decide) (hp 0 (by decide +kernel)) (by decide) (Nat.le_of_ble_eq_true rfl)
  refine .skip rfl undef (W.setCells (g + 1 + 1) 0 y.cells) (exec_storeB rfl q6 q96 (hW.there hi) rnI (rnO _)) ⟨b, rfl, fun _ _ _ => rfl, hW.put hi⟩
 ·refine Dag.PStep2.pure 7 rfl rfl (by decide) (fun b dn W h => h.fresh (Touch.refl _ _) (by decide)) (fun b dn R W hp hm hW => ?_)
  have q113 : R.eval (.tmp 113) = .bool true := hm.got 17 (by decide) (hp 17 (by decide +kernel)) (by decide) (Nat.le_of_ble_eq_true rfl)
  clear hp hm hW
  show (execOp R.eval _).run Tryz.prog W = .ok (.value (.bool true)) W
  unfold execOp
  generalize R.eval = ρ at *
  go_simp
 ·intro b d9 w9 hd hW
  have hB := hW.br
  rw [if_pos (hd 18 (by decide))] at hB
  obtain ⟨D', e1, e2⟩ := hW.et
  have HB := lh hB
  have HE := lh e1
  clear hW hd hB e1 e2 HINJ HFD HBX HE7 HB7
  simp only [snD, Dag.actOf, List.foldl_cons, List.foldl_nil, snval, snidx]
  generalize (uC m).toArray = V1
  generalize (pdC (bgak m)).toArray = V2
  go_simp
  go_wp2_with fail
  exact bodyPost_ret (v := .tuple #[.agg y.cells.toArray, .bool true]) (results_ct Tryz.results20 _ (by rfl) HB.out.range Tryz.underlying40 rfl rnI) rfl ⟨A', c', by rw [HYY.out], D', HE.out⟩
end Go.Proofs.YtipaobpmojahaaaGreat
