/-
  gaps.List: a set's pairs.
-/
import Derived.Test.YtngljhpplmbglaaSpanQ
import Derived.Test.YtngljhpplmbglaaGapE
import Derived.Test.YtngljhpplmbglaaSeq
import Derived.Test.YtngljhpplmbglaaSpanO
import Derived.Deep.DeepCutAuto
namespace Go.Proofs.Ytngljhpplmbglaa

namespace Sp
def flat (s : List (Int × Int)) : List Int := s.flatMap fun x => [x.1, x.2]
theorem flat_append (s t : List (Int × Int)) : flat (s ++ t) = flat s ++ flat t := by simp [flat]
theorem flat_one (x : Int × Int) : flat [x] = [x.1, x.2] := by simp [flat]
theorem flat_len (s : List (Int × Int)) : (flat s).length = 2 * s.length := by
  induction s with
  | nil => rfl
  | cons x s ih =>
    show (List.flatMap _ (x :: s)).length = _
    rw [List.flatMap_cons, List.length_append]
    unfold flat at ih
    rw [ih]
    simp only [List.length_cons, List.length_nil]
    omega
theorem flat_getD (s : List (Int × Int)) (k : Nat) (hk : k < s.length) : (flat s).getD (2 * k) 0 = (s.getD k (0, 0)).1 ∧ (flat s).getD (2 * k + 1) 0 = (s.getD k (0, 0)).2 := by
  induction s generalizing k with
  | nil => simp at hk
  | cons x s ih =>
    cases k with
    | zero => exact ⟨rfl, rfl⟩
    | succ k =>
      have := ih k (by simpa using hk)
      exact this
end Sp
end Go.Proofs.Ytngljhpplmbglaa

namespace Go.Proofs.Ytngljhpplmbglaa
open Go.RowKit

namespace Gp
/-- The pairs of a set, counted from a base on. -/
def gl (b : Int) (s : List (Int × Int)) : List Int := (Sp.flat s).map fun x => (b + x) % 16777216
theorem gl_len (b : Int) (s : List (Int × Int)) : (gl b s).length = 2 * s.length := by
  unfold gl
  rw [List.length_map, Sp.flat_len]
theorem gl_append (b : Int) (s t : List (Int × Int)) : gl b (s ++ t) = gl b s ++ gl b t := by
  unfold gl
  rw [Sp.flat_append, List.map_append]
theorem gl_one (b : Int) (x : Int × Int) : gl b [x] = [(b + x.1) % 16777216, (b + x.2) % 16777216] := by
  unfold gl
  rw [Sp.flat_one]
  rfl
theorem gl_succ (b : Int) (s : List (Int × Int)) (k : Nat) (hk : k < s.length) : gl b (s.take (k + 1)) = gl b (s.take k) ++ [(b + (s.getD k (0, 0)).1) % 16777216, (b + (s.getD k (0, 0)).2) % 16777216] := by
  rw [Sp.take_succ_getD s k hk, gl_append, gl_one]
/-- Those of a set from nought up to half. -/
def Half (S T : List (Int × Int)) : Prop := Sp.Good T ∧ ∀ n, Sp.mem T n ↔ Sp.mem S n ∧ 0 ≤ n ∧ n < 8388609
theorem Half.uniq {S T T' : List (Int × Int)} (h : Half S T) (h' : Half S T') : T = T' := Sp.Canon.uniq h.1.1 h'.1.1 fun n => by rw [h.2, h'.2]
end Gp

def ListPost (b : Int) (S : List (Int × Int)) (w : World) (e : Ending) (w' : World) : Prop :=
  ∃ B d T, e = .returned (.slice B (Gp.gl b T).length d) ∧ Mine numE w w' B d (Gp.gl b T) ∧ Gp.Half S T

set_option maxHeartbeats 4000000 in
set_option maxRecDepth 4000 in
theorem listg_any (b : Int) (A : Option Addr) (c : Nat) (S : List (Int × Int)) (w : World) (h : Rd spanE w A c S) (hg : Sp.Good S) (hl : S.length ≤ 1000000) :
    Calls Try.prog 33 #[.int .u32 b, .slice A S.length c] w (ListPost b S w) := by
  have H := Lib.hid h
  clear h
  go_enter Try.func33, Try.ntmps33
  go_wp2_with fail
  have R1 : Hid (Rd spanE (w.alloc (.cells #[.int .i64 0, .int .i64 8388609] 97)) (some ⟨w.heap.size, 0, none⟩) 1 [(0, 8388609)]) := Sl.rd (Sl.lit spanE w _ rfl #[.int .i64 0, .int .i64 8388609] [(0, 8388609)] rfl 1 rfl (by decide))
  have F1 : Hid (Fresh w (w.alloc (.cells #[.int .i64 0, .int .i64 8388609] 97))) := (Touch.refl _ w).alloc _
  generalize w.alloc (.cells #[.int .i64 0, .int .i64 8388609] 97) = w1 at *
  refine (of_any _ 1 [(0, 8388609)] w1 R1.out (by simp)).mono ?_
  rintro e w2 ⟨B, d, Q, rfl, MQ, hof, hQl⟩
  obtain rfl : Q = [(0, 8388609)] := Sp.Canon.uniq hof.1 ⟨by simp, by simp⟩ (fun n => by
    rw [hof.mem]
    simp only [List.mem_cons, List.not_mem_nil, or_false, exists_eq_left, show Sp.near (0, 8388609) = (0, 8388609) by decide, Sp.In, Sp.mem_cons, Sp.mem_nil])
  have F2 := Lib.hid (F1.out.trans MQ.fresh (fun _ _ h => h))
  have HG1 := Lib.hid hof.good
  have R2 := Lib.hid MQ.sl.rd
  clear MQ hof F1 R1 hQl
  simp only [List.length_cons, List.length_nil, Nat.zero_add]
  go_wp2_with fail
  refine (both_any A c S B d [(0, 8388609)] w2 (H.out.touch F2.out (fun _ _ _ h => h)) R2.out hg HG1.out hl (by simp)).mono ?_
  rintro e w3 ⟨C, f, T, rfl, MT, hgT, hT⟩
  have HH : Hid (Gp.Half S T) := ⟨hgT, fun n => by
    rw [hT, Sp.mem_cons]
    simp [Sp.mem_nil]⟩
  have F3 := Lib.hid (F2.out.trans MT.fresh (fun _ _ h => h))
  have RT : Hid (Rd spanE w3 C f T) := MT.sl.rd
  have hTl : T.length ≤ 2199023255553 := by
    have := Sp.Canon.len_le hgT.1 (-1099511627776) 1099511627777 (by omega) (fun n hn => hgT.mem_bd hn)
    omega
  have hTm := RT.out.2.1
  have hTc := RT.out.1
  unfold maxLen at hTm
  clear MT hT hgT R2 F2 HG1 H
  simp only
  go_wp2_with fail
  go_loopw [5, 14] (fun s5 i wr => ∃ (k : Nat) (D : Option Addr) (e : Nat) (M : List Int), k ≤ T.length ∧ i = .int .i64 k ∧ s5 = .slice D M.length e ∧ Hid (M = Gp.gl b (T.take k)) ∧ Hid (Mine numE w3 wr D e M) ∧ Hid (M.length = 2 * k)) (fun _ i _ => T.length - (intOf i).toNat)
  case atStart => exact ⟨0, none, 0, [], by omega, rfl, rfl, rfl, Mine.nil _ _, rfl⟩
  case round =>
    obtain ⟨k, D, e, M, hkL, rfl, rfl, HMe, HM, hMl⟩ := hrel
    by_cases hk : k < T.length
    · have hk1 : (k : Int) < (T.length : Int) := by omega
      have hdk1 : decide ((k : Int) < (T.length : Int)) = true := decide_eq_true hk1
      have hk0 : (0 : Int) ≤ (k : Int) := by omega
      obtain ⟨g, o, rfl, _, c0, c1⟩ := (HM.out.keepsR RT.out).span_at k hk
      have HS := Lib.hid (Gp.gl_succ b T k hk)
      rw [← HMe.out] at HS
      generalize T.getD k (0, 0) = y at *
      obtain ⟨p, q⟩ := y
      simp only at c0 c1 HS
      go_upto_region 5 with (fail)
      have B5 := Lib.hid (Blk.new wr 97 [.int .i64 p, .int .i64 q])
      have M5 := Lib.hid (HM.out.alloc (.cells #[.int .i64 p, .int .i64 q] 97))
      generalize wr.alloc (.cells #[.int .i64 p, .int .i64 q] 97) = w5 at *
      have e0 : w5.cell? ⟨wr.heap.size, 0, none⟩ = some (.int .i64 p) := B5.out.cell 0
      have e1 : w5.cell? ⟨wr.heap.size, 1, none⟩ = some (.int .i64 q) := B5.out.cell 1
      have M6 := Lib.hid (M5.out.drewN 1)
      have hMb : M.length + 2 ≤ 17592186044416 := by have := hMl.out; omega
      clear c0 c1 HM HMe
      go_region_law (first
        | (refine stp_num rfl rfl (l := M) (l2 := [(b + p) % 16777216, (b + q) % 16777216]) rfl rfl (by exact Sl.alloc (w := w5.drew) M5.out.sl _) (by exact Sl.rd (Sl.lit numE _ _ rfl _ _ rfl _ rfl (by decide))) (by simp; omega) ?_; intro D7 d7 M7 w7 hM7 hs7 ht7 hD7)
        | (go_simp; go_at_call 25; refine (sadd_any _ _ _).mono ?_; rintro e' w' ⟨rfl, rfl⟩))
      all_goals
        have M7' := Lib.hid ((Mine.alloc (w := w5.drew) ⟨M5.out.sl, M5.out.fresh.drew, M5.out.base⟩ _).app hs7 ht7 hD7)
        have HM7 : Hid (M7 = Gp.gl b (T.take (k + 1))) := by unfold Hid; rw [HS.out, hM7.out]
        have hl7 : Hid (M7.length = 2 * (k + 1)) := by unfold Hid; rw [hM7.out, List.length_append, hMl.out]; simp; omega
        clear hs7 ht7 hD7 hM7 M5 M6 B5 e0 e1 HS
        go_wp2
        go_roundw
        case rel => exact ⟨k + 1, D7, d7, M7, by omega, by go_num, rfl, HM7, M7', hl7⟩
        case measure => simp [intOf]; omega
    · have hkk : k = T.length := by omega
      have HR : Hid (M = Gp.gl b T) := by unfold Hid; rw [HMe.out, hkk, List.take_length]
      have hk' : ¬ ((k : Int) < (T.length : Int)) := by omega
      have MF := Lib.hid (HM.out.back F3.out)
      clear hk HMe hkk HM
      go_wp2
      go_ret
      exact ⟨D, e, T, by rw [← HR.out]; rfl, HR.out ▸ MF.out, HH.out⟩
end Go.Proofs.Ytngljhpplmbglaa
