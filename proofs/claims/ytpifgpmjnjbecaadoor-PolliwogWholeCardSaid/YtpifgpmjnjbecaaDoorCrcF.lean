/-
  crc: Seal; what is sealed fits.
-/
import Derived.Test.YtpifgpmjnjbecaaDoorCrcS
import Derived.Deep.RegionLaw
import Derived.Deep.RegionHeld3
namespace Go.Proofs.YtpifgpmjnjbecaaDoor
open Go.RowKit

namespace Wh
def sealL (l : List UInt8) : List UInt8 := l ++ four (crcOf l)
theorem sealL_len (l : List UInt8) : (sealL l).length = l.length + 4 := by
  unfold sealL
  rw [List.length_append, four_len]
end Wh

/-- A text with its sum behind it. -/
theorem sum_lit (g : Nat) (l : List UInt8) (w : World) (ht : Wh.Tab w g) (hs : l.length ≤ 1000000) :
    Calls Tryd.prog 46 #[.pointer (some ⟨g, 0, none⟩), .slice (some ⟨w.heap.size, 0, none⟩) 1 1] (w.alloc (.cells #[.string (Wh.B l)] 9)) fun e w' => e = .returned (.int .u32 (Wh.crcOf l)) ∧ Fresh w w' := by
  refine (sum_any g w.heap.size (Wh.B l) _ (ht.fresh ((Touch.refl _ _).alloc _)) ?_ (by rw [Wh.B_size]; omega)).mono ?_
  · exact (Blk.new w 9 [.string (Wh.B l)]).cell 0
  · rintro e w' ⟨rfl, f⟩
    exact ⟨rfl, ((Touch.refl _ _).alloc _).trans f (fun _ _ h => h)⟩

set_option maxRecDepth 10000 in
set_option maxHeartbeats 1000000 in
theorem seal_any (g : Nat) (l : List UInt8) (w : World) (ht : Wh.Tab w g) (hs : l.length ≤ 1000000) :
    Calls Tryd.prog 31 #[.pointer (some ⟨g, 0, none⟩), .string (Wh.B l)] w fun e w' => e = .returned (.string (Wh.B (Wh.sealL l))) ∧ Fresh w w' := by
  have HC := Lib.hid (sum_lit g l w ht hs)
  have HE : Hid (Wh.B l ++ Wh.B (Wh.four (Wh.crcOf l)) = Wh.B (Wh.sealL l)) := Wh.B_app _ _
  have hin := Wh.crcOf_in l
  obtain ⟨h0, h1⟩ := hin
  have hz : (Wh.B l).size ≤ 1000000 := by rw [Wh.B_size]; omega
  have hz4 : (Wh.B (Wh.four (Wh.crcOf l))).size = 4 := Wh.B_size _
  clear ht
  go_enter Tryd.func31, Tryd.ntmps31
  go_wp2_with fail
  refine HC.out.mono ?_
  rintro e w2 ⟨rfl, f2⟩
  have F2 := Lib.hid f2
  clear f2
  go_wp2_with fail
  refine (four_crc _ _ h0 h1).mono ?_
  rintro e w3 ⟨rfl, f3⟩
  have F3 := Lib.hid f3
  clear f3
  go_wp2
  go_ret
  exact ⟨by rw [← HE.out]; rfl, F2.out.trans F3.out (fun _ _ h => h)⟩

set_option maxRecDepth 10000 in
set_option maxHeartbeats 2000000 in
theorem fits_any (g : Nat) (l : List UInt8) (w : World) (ht : Wh.Tab w g) (hs : l.length ≤ 1000000) :
    Calls Tryd.prog 32 #[.pointer (some ⟨g, 0, none⟩), .string (Wh.B (Wh.sealL l))] w fun e w' => e = .returned (.bool true) ∧ Fresh w w' := by
  have hz : (Wh.B (Wh.sealL l)).size = l.length + 4 := by rw [Wh.B_size, Wh.sealL_len]
  have hx1 : (Wh.B (Wh.sealL l)).extract 0 l.length = Wh.B l := Wh.B_front _ _
  have hx2 : (Wh.B (Wh.sealL l)).extract l.length (l.length + 4) = Wh.B (Wh.four (Wh.crcOf l)) := Wh.B_back _ _ _ (Wh.sealL_len l).symm
  have hin := Wh.crcOf_in l
  obtain ⟨h0, h1⟩ := hin
  have HT := Lib.hid ht
  clear ht
  obtain ⟨n, hn⟩ : ∃ n, n = l.length := ⟨_, rfl⟩
  rw [← hn] at hz hx1 hx2 hs
  have HN := Lib.hid hn
  obtain ⟨s, hs'⟩ : ∃ s, s = Wh.B (Wh.sealL l) := ⟨_, rfl⟩
  rw [← hs'] at hz hx1 hx2 ⊢
  clear hn hs'
  have b0 : (0 : Int) ≤ (n : Int) := by omega
  have b1 : (n : Int) ≤ (n : Int) + 4 := by omega
  go_enter Tryd.func32, Tryd.ntmps32
  go_wp2
  have hg0 : decide ((0 : Int) ≤ (n : Int)) = true := decide_eq_true b0
  have heq : ((Wh.B (Wh.four (Wh.crcOf l))).toList == (Wh.B (Wh.four (Wh.crcOf l))).toList) = true := by simp
  obtain ⟨c, hcv⟩ : ∃ c, c = Wh.B (Wh.four (Wh.crcOf l)) := ⟨_, rfl⟩
  rw [← hcv] at hx2 heq
  have HCV := Lib.hid hcv
  clear hcv
  have HSZ : Hid ((Wh.B l).size ≤ 9223372036854775807) := by
    unfold Hid
    rw [Wh.B_size, ← HN.out]
    omega
  have HCL : Hid ((w.alloc (.cells #[.string (Wh.B l)] 9)).drew.cell? ⟨w.heap.size, 0, none⟩ = some (.string (Wh.B l))) := (Blk.new w 9 [.string (Wh.B l)]).cell 0
  go_region_held3 (fun wx => Fresh w wx)
    (first
      | exact (Touch.refl _ _).drew
      | exact Touch.alloc (by assumption) _
      | exact FK.out)
    (first
      | (go_simp; go_at_call 46; refine (sum_any g _ _ _ (HT.out.fresh (by assumption)) HCL.out HSZ.out).mono ?_; rintro e w2 ⟨rfl, f2⟩; have FK : Hid (Fresh w w2) := Touch.trans (by assumption) f2 (fun _ _ h => h); clear f2)
      | (go_simp; go_at_call 45; refine (four_crc _ _ h0 h1).mono ?_; rintro e w3 ⟨rfl, f3⟩; have FK3 : Hid (Fresh w w3) := FK.out.trans f3 (fun _ _ h => h); clear FK; have FK := FK3; clear FK3 f3; rw [← HCV.out]))
  go_wp2
  go_ret
  exact ⟨rfl, FK.out⟩
end Go.Proofs.YtpifgpmjnjbecaaDoor
