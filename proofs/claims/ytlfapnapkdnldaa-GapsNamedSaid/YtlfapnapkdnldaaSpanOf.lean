/-
  SpanOf: of any spans the set is their numbers, written in one way.
-/
import Derived.Test.YtlfapnapkdnldaaSpanRows
namespace Go.Proofs.Ytlfapnapkdnldaa
open Go.RowKit Go.ChangeShapes Go.WideShapes Go.ChangeAt

namespace Sp
theorem few_small (l : List (Int × Int)) (k : Nat) : Small (few l k) := fun x hx => by
  obtain ⟨y, _, rfl⟩ := List.mem_map.1 hx
  have := few1_bd y
  omega
theorem isNums_of {F S : List (Int × Int)} {N : List Int} (h : IsOf F S) (hF : Small F) (hN : Rising N) (hm : ∀ n, n ∈ N ↔ mem F n) : IsNums S N := ⟨h.good, hN, fun n => by rw [hm, h.mem_small hF]⟩
theorem IsOf.uniq {F S T : List (Int × Int)} (h : IsOf F S) (h2 : IsOf F T) : S = T := Canon.uniq h.1 h2.1 fun n => by rw [h.2, h2.2]
end Sp
theorem Mine.apart {α β : Type} {E : El α} {F : El β} {W w w0 : World} {A B : Option Addr} {c d : Nat} {L : List α} {M : List β} (h : Mine E W w A c L) (h2 : Sl F W B d M) : Apart A B := fun ad ad' e e' => by
  have := h.base ad e
  have := h2.lt ad' e'
  omega

theorem few_len (l : List (Int × Int)) : (Sp.few l 12).length ≤ 12 := by unfold Sp.few; simp; omega

set_option maxHeartbeats 4000000 in
set_option maxRecDepth 4000 in
theorem spanOf.core (A : Option Addr) (c : Nat) (l : List (Int × Int)) (x : Int) (w : World) (h : Rd spanE w A c l) :
    Calls Try.prog 9 #[.slice A l.length c, .int .i64 x] w fun e w' => e = .returned (.bool true) ∧ Below w.heap.size w w' := by
  have hlc := h.1
  have hcm := h.2.1
  unfold maxLen at hcm
  have H := Lib.hid h
  clear h
  go_enter Try.func9, Try.ntmps9
  go_wp2_with fail
  refine (awake03 w).mono ?_
  rintro e w1 ⟨rfl, f1⟩
  have F1 := Lib.hid f1
  clear f1
  simp only
  go_wp2_with fail
  refine (few_any A c l w1 (H.out.touch F1.out (fun _ _ _ h => h))).mono ?_
  rintro e w2 ⟨B, d, D, f, N, rfl, MB, MD, hr, hm, hNl⟩
  have HMB := Lib.hid MB
  have HMD := Lib.hid MD
  have F2 := Lib.hid (F1.out.trans MB.fresh (fun _ _ h => h))
  have HF := Lib.hid (Sp.few_small l 12)
  have HRN := Lib.hid (And.intro hr hm)
  have hFl := few_len l
  generalize Sp.few l 12 = F at *
  clear MB MD hr hm H
  simp only
  go_wp2_with fail
  refine (of_any B d F w2 HMB.out.sl.rd (by omega)).mono ?_
  rintro e w3 ⟨C, g, S, rfl, MC, hof, hSl⟩
  have HMC := Lib.hid MC
  have F3 := Lib.hid (F2.out.trans MC.fresh (fun _ _ h => h))
  have HOF := Lib.hid hof
  have HIN := Lib.hid (Sp.isNums_of hof HF.out HRN.out.1 HRN.out.2)
  have HAP : Hid (Apart C B) := Mine.apart (w0 := w) MC HMB.out.sl
  have HB3 := Lib.hid (HMB.out.old MC.fresh)
  have HD3 := Lib.hid (HMD.out.old MC.fresh)
  clear MC hof
  simp only
  go_wp2_with fail
  refine (is_true C g S D f N w3 HMC.out.sl.rd HD3.out.sl.rd HIN.out (by omega)).mono ?_
  rintro e w4 ⟨rfl, f4⟩
  have F4 := Lib.hid (F3.out.trans f4 (fun _ _ h => h))
  have HC4 := Lib.hid (HMC.out.old f4)
  have HB4 := Lib.hid (HB3.out.old f4)
  have HD4 := Lib.hid (HD3.out.old f4)
  clear f4 HMC HB3 HD3 HMB HMD
  simp only
  go_wp2_with fail
  refine (has_any C g S x w4 HC4.out.sl.rd HIN.out.good.1 (by omega)).mono ?_
  rintro e w5 ⟨⟨b, rfl, hb⟩, f5⟩
  obtain rfl : b = decide (x ∈ N) := by
    rw [Bool.eq_iff_iff, hb, decide_eq_true_iff, HIN.out.same]
  have F5 := Lib.hid (F4.out.trans f5 (fun _ _ h => h))
  have HC5 := Lib.hid (HC4.out.old f5)
  have HB5 := Lib.hid (HB4.out.old f5)
  have HD5 := Lib.hid (HD4.out.old f5)
  clear f5 HC4 HB4 HD4 hb
  have HHas := Lib.hid (has03_any D f N x w5 HD5.out.sl.rd)
  generalize decide (x ∈ N) = b at *
  simp only
  go_wp2_with fail
  refine HHas.out.mono ?_
  rintro e w6 ⟨rfl, rfl⟩
  simp only
  go_wp2_with fail
  refine (of_any C g S w5 HC5.out.sl.rd (by omega)).mono ?_
  rintro e w6 ⟨C2, g2, S2, rfl, MC2, hof2, _⟩
  obtain rfl : S2 = S := (Sp.IsOf.uniq HIN.out.good.isOf hof2).symm
  have HC6 := Lib.hid (HC5.out.old MC2.fresh)
  have HB6 := Lib.hid (HB5.out.old MC2.fresh)
  have F6 := Lib.hid (F5.out.trans MC2.fresh (fun _ _ h => h))
  have HE6 := Lib.hid (setSame_any C g S2 C2 g2 S2 w6 HC6.out.sl.rd MC2.sl.rd)
  rw [decide_eq_true rfl] at HE6
  clear MC2 hof2 HC5 HB5 HD5 HHas
  simp only
  go_wp2_with fail
  refine HE6.out.mono ?_
  rintro e w7 ⟨rfl, f7⟩
  have HC7 := Lib.hid (HC6.out.old f7)
  have HB7 := Lib.hid (HB6.out.old f7)
  have F7 := Lib.hid (F6.out.trans f7 (fun _ _ h => h))
  clear f7 HC6 HB6 HE6
  simp only
  go_wp2_with (at_builtin; refine app_span_g Try.underlying23 rfl rfl (l := F) (l2 := F) rfl rfl HB7.out.sl HB7.out.sl.rd (by omega) ?_; intro B8 d8 L8 w8 hL8 hs8 ht8 hB8)
  have HC8 : Hid (Sl spanE w8 C g S2) := HC7.out.sl.touch ht8 HAP.out.not
  have F8 := Lib.hid (F1.out.trans (HB7.out.app hs8 ht8 hB8).fresh (fun _ _ h => h))
  have H8 := Lib.hid hs8
  clear hs8 ht8 hB8 HC7 HB7
  have hl8 : L8.length ≤ 1099511627776 := by rw [hL8.out]; simp; omega
  go_wp2_with fail
  refine (of_any B8 d8 L8 w8 H8.out.rd hl8).mono ?_
  rintro e w9 ⟨C9, g9, S9, rfl, MC9, hof9, _⟩
  obtain rfl : S9 = S2 := Sp.Canon.uniq hof9.1 HOF.out.1 (fun n => by
    rw [hof9.mem, HOF.out.mem, hL8.out]
    simp [or_and_right, exists_or])
  have HC9 : Hid (Sl spanE w9 C g S9) := HC8.out.touch MC9.fresh (fun _ _ h => h)
  have F9 := Lib.hid (F8.out.trans MC9.fresh (fun _ _ h => h))
  have HE9 := Lib.hid (setSame_any C g S9 C9 g9 S9 w9 HC9.out.rd MC9.sl.rd)
  rw [decide_eq_true rfl] at HE9
  clear MC9 hof9 HC8 H8
  simp only
  go_wp2_with fail
  refine HE9.out.mono ?_
  rintro e w10 ⟨rfl, f10⟩
  have F10 := Lib.hid (F9.out.trans f10 (fun _ _ h => h))
  clear f10 HE9 HC9
  simp only
  go_wp2
  go_ret
  exact ⟨rfl, F10.out.below (Nat.le_refl _) (fun _ _ h => h)⟩

theorem spanOf.walk (v : Value) (x : Int) (w : World) {H : Type} {enc : TypeId × Value → H} {base : Nat} {d : DataW H} {p : List MemPlace} (hv : Value.okWide Try.prog w .any base 23 v) (h : DataW.Trod enc Try.prog w 0 (fun _ => true) true 23 v d p) (_hx : (Lit.int .i64 x).wf = true) :
    Calls Try.prog 9 #[v, .int .i64 x] w fun e w' => e = .returned (.bool true) ∧ Below w.heap.size w w' := by
  obtain ⟨A, c, l, rfl, hr⟩ := open_spans hv h
  exact spanOf.core A c l x w hr
end Go.Proofs.Ytlfapnapkdnldaa
