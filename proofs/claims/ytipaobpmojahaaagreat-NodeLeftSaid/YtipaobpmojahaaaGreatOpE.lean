/-
  polliwogref11.Open of a sender that was just made, polliwogref12.New, and polliwogref15's calls, as rows of cells. Conditions: the numbers are of 24 bits, and not far apart.
-/
import Derived.Test.YtipaobpmojahaaaGreatOpR
import Derived.Test.YtipaobpmojahaaaGreatSfM
import Derived.Test.YtipaobpmojahaaaGreatRf15
set_option maxHeartbeats 1000000
namespace Go.Proofs.YtipaobpmojahaaaGreat
open Go.RowKit
set_option maxRecDepth 20000
set_option linter.constructorNameAsVariable false

def s11 (a0 a1 a2 a3 a4 a5 a6 a7 : Int) : List Value := [.int .i64 a0, .int .i64 a1, .int .i64 a2, .int .i64 a3, .int .i64 a4, .int .i64 a5, .int .i64 a6, .int .i64 a7, .slice none 0 0, .slice none 0 0, .slice none 0 0, .slice none 0 0]
def s12 (r0 r1 r2 r3 : Int) : List Value := [.int .i64 r0, .int .i64 r1, .int .i64 r2, .int .i64 r3, .slice none 0 0, .slice none 0 0, .slice none 0 0]
theorem s11I : (Tryz.prog.info? 33).map (·.size) = some 12 := by kernel_rfl
theorem s12I : (Tryz.prog.info? 37).map (·.size) = some 7 := by kernel_rfl
theorem p15I : (Tryz.prog.info? 31).map (·.size) = some 2 := by kernel_rfl
theorem rsnew_any (y q p : Int) (hy : 0 <= y ∧ y < 16777216) (hq : 1 <= q ∧ q <= 256) (hp : 1 <= p ∧ p <= 256) (w : World) :
  Calls Tryz.prog 197 #[.int .i64 y, .int .i64 q, .int .i64 p] w fun e w' => e = .returned (.agg (s11 y y y y y 0 p q).toArray) ∧ Fresh w w' := by
 refine (sfnew_any y q p w).mono ?_
 rintro e w' ⟨rfl, hf⟩
 refine ⟨?_, hf⟩
 have h1 : y % 16777216 = y := by omega
 have h2 : max 1 (min p 256) = p := by omega
 have h3 : max 1 (min q 256) = q := by omega
 unfold sfV Sf.new SfP.none s11
 simp only
 rw [h1, h2, h3, show ((q.toNat : Nat) : Int) = q by omega]
 rfl
theorem rsopen_any (y d ms p q : Int) (hy : 0 <= y ∧ y < 16777216) (hd : (ms - y) % 16777216 = d) (hd2 : d <= 8388608) (w : World) :
  Calls Tryz.prog 196 #[.agg (s11 y y y y y 0 p q).toArray, .int .i64 ms] w fun e w' => e = .returned (.agg (s11 y y (y + d) y y 0 p q).toArray) ∧ Fresh w w' := by
 have hd0 : 0 <= d := by omega
 obtain ⟨w1, hw1⟩ := xq ((w.alloc (.cells (s11 y y y y y 0 p q).toArray 33)).alloc (.cells #[.int .i64 0, .int .i64 0, .int .i64 0, .int .i64 0, .int .i64 0, .int .i64 0, .int .i64 0, .int .i64 0, .slice none 0 0, .slice none 0 0, .slice none 0 0, .slice none 0 0] 33))
 have HX : Hid (FB (FF w) [w.heap.size, w.heap.size + 1] w w1 [⟨w.heap.size, 33, s11 y y y y y 0 p q⟩, ⟨w.heap.size + 1, 33, s11 0 0 0 0 0 0 0 0⟩]) := by rw [hw1]; exact ((FB.nil w (fun k e => e)).al _ _ _ (by simp)).al _ (s11 0 0 0 0 0 0 0 0) _ (by simp)
 have HT := lh (r01to_any y ms)
 rw [hd] at HT
 clear hd
 obtain ⟨hy1, hy2⟩ := hy
 have t1 : d <= 8388608 := hd2
 have t2 : y <= y + d := by omega
 go_enter Tryz.func196, Tryz.ntmps196
 go_upto_region 1 with (fail)
 rw [<- hw1]
 clear hw1
 generalize w.heap.size = g at *
 have c1 : w1.cell? ⟨g, 1, none⟩ = some (.int .i64 y) := (HX.out.at_ 0 rfl).cell 1
 have c2 : w1.cell? ⟨g, 2, none⟩ = some (.int .i64 y) := (HX.out.at_ 0 rfl).cell 2
 have f2 : w1.frozen? ⟨g, 2, none⟩ = false := (HX.out.at_ 0 rfl).frozen 2
 go_upto_region 4 with (go_at_call 247; refine (HT.out _).mono ?_; rintro e w3 ⟨rfl, rfl⟩)
 have HX := lh (HX.out.put1 0 rfl 2 (.int .i64 (y + d)))
 clear c1 c2 f2
 generalize w3.setCell ⟨g, 2, none⟩ (.int .i64 (y + d)) = w2 at *
 refine wp_region_lit ?_
 refine wpList_loadB rfl _ (.tmp 2) rfl g 0 (by rfl) (s11 y y (y + d) y y 0 p q) (HX.out.at_ 0 rfl).range Tryz.underlying33 rfl s11I ?_
 refine wpList_storeB rfl _ (.tmp 4) (.tmp 26) rfl (g + 1) 0 (by rfl) (s11 y y (y + d) y y 0 p q) (by rfl) (HX.out.at_ 1 rfl) (Nat.le_of_ble_eq_true rfl) s11I (by simp [s11, Value.oneCell']) ?_
 intro w4 hB ht
 have HX := lh (HX.out.put 1 rfl hB ht)
 clear hB ht
 go_wp2_with fail
 exact bodyPost_ret (v := .agg (s11 y y (y + d) y y 0 p q).toArray) (results_c Tryz.results196 _ (by rfl) (HX.out.at_ 1 rfl).range Tryz.underlying33 rfl s11I) rfl ⟨rfl, HX.out.ff⟩
theorem rr12new_any (y n : Int) (hy : 0 <= y ∧ y < 16777216) (hn : 1 <= n ∧ n <= 64) (w : World) :
  Calls Tryz.prog 198 #[.int .i64 y, .int .i64 n] w fun e w' => e = .returned (.agg (s12 y y (y + n) n).toArray) ∧ Fresh w w' := by
 have HO := lh (r01of_any y)
 rw [show y % 16777216 = y by omega] at HO
 have h2 : min n 64 = n := by omega
 have h3 : max 1 n = n := by omega
 obtain ⟨hy1, hy2⟩ := hy
 obtain ⟨hn1, hn2⟩ := hn
 go_enter Tryz.func198, Tryz.ntmps198
 go_wp2_with fail
 refine (HO.out _).mono ?_
 rintro e w1 ⟨rfl, rfl⟩
 simp only
 go_wp2
 exact bodyPost_ret (v := .agg #[.int .i64 y, .int .i64 y, .int .i64 (y + n), .int .i64 n, .slice none 0 0, .slice none 0 0, .slice none 0 0]) (by simp [results, Tryz.results198, go_sem]) rfl ⟨rfl, (Touch.refl _ _).alloc _⟩
end Go.Proofs.YtipaobpmojahaaaGreat
