/-
  pdu.words: the words of a unit ahead of the last one.
-/
import Derived.Test.YtpifgpmjnjbecaaDoorWrd6
import Derived.Deep.DeepCutAuto
import Derived.Deep.CutBlock
namespace Go.Proofs.YtpifgpmjnjbecaaDoor
open Go.RowKit

set_option maxRecDepth 10000 in
set_option maxHeartbeats 4000000 in
theorem words6_any (p : Wh.P) (A : Option Addr) (c : Nat) (w : World) (hr : Rd numE w A c p.l) (hq0 : 0 ≤ p.sq) (hq1 : p.sq ≤ 255) (hl : p.l.length ≤ 128) :
    Calls Tryd.prog 26 #[pV p A c] w fun e w' => ∃ A' c', e = .returned (.slice A' (Wh.wordsS (Wh.shape p.kind) p).length c') ∧ Mine u32E w w' A' c' (Wh.wordsS (Wh.shape p.kind) p) := by
  have hm := hr.1
  have hm2 := hr.2.1
  unfold maxLen at hm2
  have HSA : Hid (∀ W, Calls Tryd.prog 20 #[.int .i64 p.kind] W fun e w' => e = .returned (shV (Wh.shape p.kind)) ∧ Fresh W w') := fun W => shape6_any p.kind W
  have HR := Lib.hid hr
  clear hr
  generalize Wh.shape p.kind = s at *
  obtain ⟨kind, sq, n, ps, mr, l, self, data⟩ := p
  obtain ⟨sd, ssq, sn, sl, sps, smr, sself, sis⟩ := s
  unfold pV
  unfold shV at HSA
  simp only at hm hm2 hq0 hq1 hl HSA HR ⊢
  have HWS : Hid (Wh.wordsS ⟨sd, ssq, sn, sl, sps, smr, sself, sis⟩ ⟨kind, sq, n, ps, mr, l, self, data⟩ = (if ssq then [sq] else []) ++ (l ++ ((if sps then [ps] else []) ++ (if smr then [mr] else [])))) := rfl
  generalize Wh.wordsS ⟨sd, ssq, sn, sl, sps, smr, sself, sis⟩ ⟨kind, sq, n, ps, mr, l, self, data⟩ = R at *
  have HF : Hid (Fresh w (w.alloc (.cells #[.int .i64 kind, .int .i64 sq, .int .u32 n, .int .u32 ps, .int .u32 mr, .slice A l.length c, .bool self, .string data] 32))) := (Touch.refl _ w).alloc _
  have HB : Hid (Blk (w.alloc (.cells #[.int .i64 kind, .int .i64 sq, .int .u32 n, .int .u32 ps, .int .u32 mr, .slice A l.length c, .bool self, .string data] 32)) w.heap.size 32 [.int .i64 kind, .int .i64 sq, .int .u32 n, .int .u32 ps, .int .u32 mr, .slice A l.length c, .bool self, .string data]) := Blk.new _ _ _
  go_enter Tryd.func26, Tryd.ntmps26
  go_wp2_with fail
  refine (HSA.out _).mono ?_
  rintro e w2 ⟨rfl, f2⟩
  have HF2 : Hid (Fresh w (w2.alloc (.cells #[.int .i64 sd, .bool ssq, .bool sn, .int .i64 sl, .bool sps, .bool smr, .bool sself, .bool sis] 61))) := (HF.out.trans f2 (fun _ _ e => e)).alloc _
  have HB2 : Hid (Blk (w2.alloc (.cells #[.int .i64 sd, .bool ssq, .bool sn, .int .i64 sl, .bool sps, .bool smr, .bool sself, .bool sis] 61)) w.heap.size 32 [.int .i64 kind, .int .i64 sq, .int .u32 n, .int .u32 ps, .int .u32 mr, .slice A l.length c, .bool self, .string data]) := (f2.blk HB.out (fun e => e)).alloc _
  have HS2 : Hid (Blk (w2.alloc (.cells #[.int .i64 sd, .bool ssq, .bool sn, .int .i64 sl, .bool sps, .bool smr, .bool sself, .bool sis] 61)) w2.heap.size 61 [.int .i64 sd, .bool ssq, .bool sn, .int .i64 sl, .bool sps, .bool smr, .bool sself, .bool sis]) := Blk.new _ _ _
  clear f2 HF HB HSA
  go_upto_region 2 with (fail)
  generalize (w2.alloc (.cells #[.int .i64 sd, .bool ssq, .bool sn, .int .i64 sl, .bool sps, .bool smr, .bool sself, .bool sis] 61)) = w3 at *
  generalize w2.heap.size = g2 at *
  have hgw : ∃ g, g = w.heap.size := ⟨_, rfl⟩
  obtain ⟨g, hg⟩ := hgw
  rw [← hg] at HB2 ⊢
  clear hg
  have HR3 : Hid (Rd numE w3 A c l) := HR.out.touch HF2.out (fun _ _ _ e => e)
  clear HR
  have s1 : w3.cell? ⟨g2, 1, none⟩ = some (.bool ssq) := HS2.out.cell 1
  have d1 : w3.cell? ⟨g, 1, none⟩ = some (.int .i64 sq) := HB2.out.cell 1
  go_upto_if 11 with (fail)
  go_cut [4] (fun v wx => ∃ A' c' L, v = .slice A' L.length c' ∧ Hid (L = if ssq then [sq] else []) ∧ Hid (Mine u32E w3 wx A' c' L))
  case first =>
    cases ssq
    · go_wp2
      go_meet
      case rel => exact ⟨none, 0, [], rfl, rfl, Mine.nil _ _⟩
    · have M := Lib.hid (Mine.snoc32 (Mine.nil u32E w3) sq)
      go_wp2_with (at_builtin; refine app_u32 rfl rfl (l := []) (l2 := [sq]) (by rfl) (by rfl) M.out.1.sl M.out.2 (by simp) ?_; intro A' c' L w4 hL hs ht hA; have M4 := Lib.hid (M.out.1.app hs ht hA); clear hs ht hA)
      go_meet
      case rel => exact ⟨A', c', L, rfl, hL, M4⟩
  case rest =>
    obtain ⟨A1, c1, L1, rfl, HL1, M1⟩ := hcut
    have HB4 : Hid (Blk wc g 32 [.int .i64 kind, .int .i64 sq, .int .u32 n, .int .u32 ps, .int .u32 mr, .slice A l.length c, .bool self, .string data]) := M1.out.fresh.blk HB2.out (fun h => h)
    have d5 : wc.cell? ⟨g, 5, none⟩ = some (.slice A l.length c) := HB4.out.cell 5
    clear HB4 s1 d1
    have hL1l : L1.length ≤ 1 := by rw [HL1.out]; split <;> simp
    go_wp2
    go_loopw [4, 21] (fun v i wr => ∃ (k : Nat) (A' : Option Addr) (c' : Nat) (L : List Int), k ≤ l.length ∧ i = .int .i64 k ∧ v = .slice A' L.length c' ∧ Hid (L = L1 ++ l.take k) ∧ Hid (Mine u32E w3 wr A' c' L)) (fun _ i _ => l.length - (intOf i).toNat)
    case atStart => exact ⟨0, A1, c1, L1, Nat.zero_le _, rfl, rfl, by show _ = _; simp, M1⟩
    case round =>
      obtain ⟨k, A2, c2, L2, hk, rfl, rfl, HL2, M2⟩ := hrel
      by_cases hlt : k < l.length
      · obtain ⟨gb, o, hA, hgb, hcl⟩ := (M2.out.keepsR HR3.out).num_at k hlt
        have HLN : Hid (L1 ++ l.take (k + 1) = L2 ++ [l.getD k 0]) := by
          show _ = _
          rw [HL2.out, List.append_assoc, List.take_succ_eq_append_getElem hlt]
          simp [List.getD, List.getElem?_eq_getElem hlt]
        have h2l : L2.length ≤ 1000 := by
          rw [HL2.out, List.length_append, List.length_take]
          omega
        subst hA
        obtain ⟨x, hx⟩ : ∃ x, x = l.getD k 0 := ⟨_, rfl⟩
        rw [← hx] at hcl HLN
        clear hx
        have M := Lib.hid (M2.out.snoc32 x)
        go_wp2_with (at_builtin; refine app_u32 rfl rfl (l := L2) (l2 := [x]) (by rfl) (by rfl) M.out.1.sl M.out.2 (by simp; omega) ?_; intro A' c' L w4 hL hs ht hA; have M4 := Lib.hid (M.out.1.app hs ht hA); clear hs ht hA)
        go_roundw
        case rel => exact ⟨k + 1, A', c', L, by omega, by go_num, rfl, by show _ = _; rw [HLN.out]; exact hL.out, M4⟩
        case measure => simp [intOf]; omega
      · have HLE : Hid (L2 = L1 ++ l) := by
          show _ = _
          rw [HL2.out, List.take_of_length_le (by omega)]
        clear HL2 M1
        have HB5 : Hid (Blk wr g 32 [.int .i64 kind, .int .i64 sq, .int .u32 n, .int .u32 ps, .int .u32 mr, .slice A l.length c, .bool self, .string data]) := M2.out.fresh.blk HB2.out (fun h => h)
        have HS5 : Hid (Blk wr g2 61 [.int .i64 sd, .bool ssq, .bool sn, .int .i64 sl, .bool sps, .bool smr, .bool sself, .bool sis]) := M2.out.fresh.blk HS2.out (fun h => h)
        have e3 : wr.cell? ⟨g, 3, none⟩ = some (.int .u32 ps) := HB5.out.cell 3
        have t4 : wr.cell? ⟨g2, 4, none⟩ = some (.bool sps) := HS5.out.cell 4
        go_upto_if 31 with (fail)
        have h2l : L2.length ≤ 200 := by
          rw [HLE.out, List.length_append]
          omega
        go_cut [4] (fun v wx => ∃ A' c' L, v = .slice A' L.length c' ∧ Hid (L = L2 ++ if sps then [ps] else []) ∧ Hid (Mine u32E w3 wx A' c' L))
        case first =>
          cases sps
          · go_wp2
            go_meet
            case rel => exact ⟨A2, c2, L2, rfl, by show _ = _; simp, M2⟩
          · have M := Lib.hid (M2.out.snoc32 ps)
            go_wp2_with (at_builtin; refine app_u32 rfl rfl (l := L2) (l2 := [ps]) (by rfl) (by rfl) M.out.1.sl M.out.2 (by simp; omega) ?_; intro A' c' L w4 hL hs ht hA; have M4 := Lib.hid (M.out.1.app hs ht hA); clear hs ht hA)
            go_meet
            case rel => exact ⟨A', c', L, rfl, hL, M4⟩
        case rest =>
          obtain ⟨A3, c3, L3, rfl, HL3, M3⟩ := hcut
          have h3l : L3.length ≤ 300 := by
            rw [HL3.out, List.length_append]
            split <;> simp <;> omega
          have HB6 : Hid (Blk wc g 32 [.int .i64 kind, .int .i64 sq, .int .u32 n, .int .u32 ps, .int .u32 mr, .slice A l.length c, .bool self, .string data]) := M3.out.fresh.blk HB2.out (fun h => h)
          have HS6 : Hid (Blk wc g2 61 [.int .i64 sd, .bool ssq, .bool sn, .int .i64 sl, .bool sps, .bool smr, .bool sself, .bool sis]) := M3.out.fresh.blk HS2.out (fun h => h)
          have e4 : wc.cell? ⟨g, 4, none⟩ = some (.int .u32 mr) := HB6.out.cell 4
          have t5 : wc.cell? ⟨g2, 5, none⟩ = some (.bool smr) := HS6.out.cell 5
          go_upto_if 38 with (fail)
          go_cut [4] (fun v wx => ∃ A' c' L, v = .slice A' L.length c' ∧ Hid (L = L3 ++ if smr then [mr] else []) ∧ Hid (Mine u32E w3 wx A' c' L))
          case first =>
            cases smr
            · go_wp2
              go_meet
              case rel => exact ⟨A3, c3, L3, rfl, by show _ = _; simp, M3⟩
            · have M := Lib.hid (M3.out.snoc32 mr)
              go_wp2_with (at_builtin; refine app_u32 rfl rfl (l := L3) (l2 := [mr]) (by rfl) (by rfl) M.out.1.sl M.out.2 (by simp; omega) ?_; intro A' c' L w4 hL hs ht hA; have M4 := Lib.hid (M.out.1.app hs ht hA); clear hs ht hA)
              go_meet
              case rel => exact ⟨A', c', L, rfl, hL, M4⟩
          case rest =>
            obtain ⟨A4, c4, L4, rfl, HL4, M4⟩ := hcut
            have HRL : Hid (R = L4) := by
              show _ = _
              rw [HWS.out, HL4.out, HL3.out, HLE.out, HL1.out]
              simp only [List.append_assoc]
            have HM : Hid (Mine u32E w wc A4 c4 R) := by
              rw [HRL.out]
              exact M4.out.back HF2.out
            have HLN : Hid (R.length = L4.length) := by rw [HRL.out]; rfl
            go_wp2
            go_ret
            exact ⟨A4, c4, by rw [HLN.out]; rfl, HM.out⟩
end Go.Proofs.YtpifgpmjnjbecaaDoor
