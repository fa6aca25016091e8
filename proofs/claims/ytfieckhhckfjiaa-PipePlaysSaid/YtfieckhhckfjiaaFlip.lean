/-
  frame.Flip and polliwoglaw02.Turn: the bits of a text turned.
-/
import Derived.Test.YtfieckhhckfjiaaNum2
import Derived.Test.YtfieckhhckfjiaaMem
import Derived.Test.YtfieckhhckfjiaaRows
import Derived.Laws.IdiomStrings
import Derived.RegionTactic
import Derived.ChangeAlike
import Derived.StillTailTactics
import Derived.Deep.QuietTactic
import Derived.BigQuiet
namespace Go.Proofs.Ytfieckhhckfjiaa
open Go.RowKit

/-- Bytes of the call's own, made of a text. -/
def Byt (w : World) (g : Nat) (l : List UInt8) : Prop := ∃ (pad : List Value) (n : Nat), w.heap[g]? = some (.cells (l.map (fun b => Value.int .u8 b.toNat) ++ pad).toArray 5 (n, n + 1)) ∧ l.length + pad.length = n

theorem Byt.lt {w : World} {g : Nat} {l : List UInt8} (h : Byt w g l) : g < w.heap.size := by
  obtain ⟨pad, n, h, _⟩ := h
  rcases Nat.lt_or_ge g w.heap.size with hlt | hge
  · exact hlt
  · rw [Array.getElem?_eq_none hge] at h; cases h
theorem Byt.cell {w : World} {g : Nat} {l : List UInt8} (h : Byt w g l) (i : Nat) (hi : i < l.length) : w.cell? ⟨g, i, none⟩ = some (.int .u8 ((l.getD i 0).toNat : Int)) := by
  obtain ⟨pad, n, h, _⟩ := h
  rw [cell_of_row w g i _ _ _ h]
  simp [List.getElem?_append_left, hi, List.getD]
theorem Byt.frozen {w : World} {g : Nat} {l : List UInt8} (h : Byt w g l) (i : Nat) (hi : i < l.length) : w.frozen? ⟨g, i, none⟩ = false := by
  obtain ⟨pad, n, h, hn⟩ := h
  simp [World.frozen?, h]
  omega
theorem Byt.set {w : World} {g : Nat} {l : List UInt8} (h : Byt w g l) (i : Nat) (hi : i < l.length) (b : UInt8) (x : Int) (hx : x = (b.toNat : Int)) : Byt (w.setCell ⟨g, i, none⟩ (.int .u8 x)) g (l.set i b) := by
  subst hx
  obtain ⟨pad, n, h, hn⟩ := h
  refine ⟨pad, n, ?_, by simpa using hn⟩
  simp [World.setCell, Array.getElem?_modify, h, List.map_set, List.set_append_left, hi]
theorem Byt.drewN {w : World} {g : Nat} {l : List UInt8} (h : Byt w g l) (n : Nat) : Byt (w.drewN n) g l := h
set_option maxRecDepth 10000 in
theorem Byt.made (w : World) (s : ByteArray) (c : Nat) : Byt (w.alloc (.cells (bytesRow s c) 5 ((bytesRow s c).size, (bytesRow s c).size + 1))).drew w.heap.size s.data.toList := by
  refine ⟨List.replicate (c - s.size) (.int .u8 0), (bytesRow s c).size, ?_, ?_⟩
  · have := heap_alloc_new w (.cells (bytesRow s c) 5 ((bytesRow s c).size, (bytesRow s c).size + 1))
    have e : (s.data.toList.map (fun b : UInt8 => Value.int .u8 b.toNat) ++ List.replicate (c - s.size) (Value.int .u8 0)).toArray = bytesRow s c := by
      unfold bytesRow
      apply Array.toList_inj.1
      simp only [Array.toList_append, Array.toList_map, Array.toList_replicate]
    rw [e]
    exact this
  · simp only [bytesRow, List.length_replicate, Array.size_append, Array.size_map, Array.size_replicate, Array.length_toList]

def bit (mask : Int) (i : Nat) : Int := mask / 2 ^ (31 - i) % 2
def flip1 (mask at_ : Int) (l : List UInt8) (i : Nat) : List UInt8 :=
  if 0 ≤ at_ + i ∧ at_ + i < 8 * l.length ∧ bit mask i = 1 then l.set ((at_ + i) / 8).toNat (l.getD ((at_ + i) / 8).toNat 0 ^^^ (128 >>> ((at_ + i) % 8).toNat.toUInt8)) else l
def flipTo (mask at_ : Int) (l : List UInt8) (n : Nat) : List UInt8 := (List.range n).foldl (flip1 mask at_) l
theorem flipTo_succ (mask at_ : Int) (l : List UInt8) (n : Nat) : flipTo mask at_ l (n + 1) = flip1 mask at_ (flipTo mask at_ l n) n := by
  unfold flipTo
  rw [List.range_succ, List.foldl_append]
  rfl
theorem bit_01 (mask : Int) (i : Nat) : bit mask i = 0 ∨ bit mask i = 1 := by unfold bit; omega
theorem and_bit (mask : Int) (m0 : 0 ≤ mask) (m1 : mask ≤ 4294967295) (i : Nat) : bits .and .u32 (mask / 2 ^ (31 - i)) 1 = bit mask i := by
  have h0 : (0 : Int) ≤ mask / 2 ^ (31 - i) := Int.ediv_nonneg m0 (Int.pow_nonneg (by decide))
  have h1 : mask / 2 ^ (31 - i) ≤ mask := Int.ediv_le_self _ m0
  rw [and_1u _ h0 (by omega)]
  rfl
theorem flip1_in (mask at_ : Int) (l : List UInt8) (i j : Nat) (hj : at_ + i = j) (hr : (j : Int) < 8 * l.length) (hb : bit mask i = 1) : flip1 mask at_ l i = l.set (j / 8) (l.getD (j / 8) 0 ^^^ (128 >>> (j % 8).toUInt8)) := by
  unfold flip1
  rw [hj, if_pos ⟨by omega, hr, hb⟩]
  have e1 : ((j : Int) / 8).toNat = j / 8 := by omega
  have e2 : ((j : Int) % 8).toNat = j % 8 := by omega
  rw [e1, e2]
theorem flip1_out (mask at_ : Int) (l : List UInt8) (i : Nat) (h : ¬ (0 ≤ at_ + i ∧ at_ + i < 8 * l.length ∧ bit mask i = 1)) : flip1 mask at_ l i = l := if_neg h
theorem flip1_len (mask at_ : Int) (l : List UInt8) (i : Nat) : (flip1 mask at_ l i).length = l.length := by
  unfold flip1; split <;> simp
theorem flipTo_len (mask at_ : Int) (l : List UInt8) (n : Nat) : (flipTo mask at_ l n).length = l.length := by
  induction n with
  | zero => rfl
  | succ n ih => rw [flipTo_succ, flip1_len, ih]

set_option maxHeartbeats 1000000 in
theorem turn_any (s : ByteArray) (at_ mask : Int) (w : World) (hs : s.size ≤ 1000) (h0 : -1000 ≤ at_) (h1 : at_ ≤ 1000) (m0 : 0 ≤ mask) (m1 : mask ≤ 4294967295) :
    Calls Try.prog 38 #[.string s, .int .i64 at_, .int .u32 mask] w fun e w' => e = .returned (.string ⟨(flipTo mask at_ s.data.toList 32).toArray⟩) ∧ Fresh w w' := by
  have hcv := fun w => run_bytes_of_string (P := Try.prog) w 9 83 5 s Try.underlying9 Try.underlying83 Try.underlying5
  go_enter Try.func38, Try.ntmps38
  go_wp2
  have HB := Lib.hid (Byt.made w s (grownCap w s.size 0 5))
  have HF : Hid (Fresh w (w.alloc (.cells (bytesRow s (grownCap w s.size 0 5)) 5 ((bytesRow s (grownCap w s.size 0 5)).size, (bytesRow s (grownCap w s.size 0 5)).size + 1))).drew) := ((Touch.refl _ w).alloc _).drew
  generalize (w.alloc (.cells (bytesRow s (grownCap w s.size 0 5)) 5 ((bytesRow s (grownCap w s.size 0 5)).size, (bytesRow s (grownCap w s.size 0 5)).size + 1))).drew = wa at *
  generalize grownCap w s.size 0 5 = C at *
  have hge : ∃ g, g = w.heap.size := ⟨_, rfl⟩
  obtain ⟨g, hg⟩ := hge
  rw [← hg] at HB ⊢
  have HG := Lib.hid hg
  have HL : Hid (s.data.toList.length = s.size) := by unfold Hid; rw [Array.length_toList]; rfl
  clear hg hcv
  go_loopw [12] (fun i wr => ∃ k : Nat, k ≤ 32 ∧ i = .int .i64 k ∧ Hid (Byt wr g (flipTo mask at_ s.data.toList k)) ∧ Hid (Fresh w wr)) (fun i _ => 32 - (intOf i).toNat)
  case atStart => exact ⟨0, by omega, rfl, HB, HF⟩
  case round =>
    obtain ⟨k, hk, rfl, hb, ht⟩ := hrel
    by_cases hk32 : k < 32
    · have HS := Lib.hid (flipTo_succ mask at_ s.data.toList k)
      have hlen := flipTo_len mask at_ s.data.toList k
      rw [HL.out] at hlen
      generalize flipTo mask at_ s.data.toList k = l at *
      have HLl := Lib.hid hlen
      clear hlen
      have hab := and_bit mask m0 m1 k
      by_cases hb1 : bit mask k = 1
      · have hbb : (bits .and .u32 (mask / 2 ^ (31 - k)) 1 == 1) = true := by rw [hab, hb1]; rfl
        clear hab
        by_cases hr : 0 ≤ at_ + k ∧ at_ + k < 8 * s.size
        · obtain ⟨j, hj⟩ : ∃ j : Nat, at_ + (k : Int) = j := ⟨(at_ + k).toNat, by omega⟩
          rw [hj] at hr
          obtain ⟨hr0, hr1⟩ := hr
          have HIN := Lib.hid (flip1_in mask at_ l k j hj (by rw [HLl.out]; exact hr1) hb1)
          obtain ⟨q, hq⟩ : ∃ q : Nat, q = j / 8 := ⟨_, rfl⟩
          obtain ⟨r, hr⟩ : ∃ r : Nat, r = j % 8 := ⟨_, rfl⟩
          have hql : q < l.length := by rw [HLl.out]; omega
          have hc := hb.out.cell q hql
          have hf := hb.out.frozen q hql
          have hd1 : decide ((j : Int) < 8 * (s.size : Int)) = true := decide_eq_true hr1
          have hj8 : (q : Int) < (s.size : Int) := by omega
          have hj9 : (0 : Int) ≤ (q : Int) := by omega
          have hw1 : IntKind.i64.wrap ((j : Int) / 8) = (q : Int) := by rw [IntWalk.i64_in _ (by omega)]; omega
          have hw2 : (j : Int).tmod 8 = (r : Int) := by rw [Int.tmod_eq_emod_of_nonneg (by omega)]; omega
          have hr8 : (r : Int) < 8 := by omega
          have hr9 : (0 : Int) ≤ (r : Int) := by omega
          obtain ⟨b, hbq⟩ : ∃ b, b = l.getD q 0 := ⟨_, rfl⟩
          rw [← hbq] at hc
          have HE : Hid (Byt ((wr.setCell ⟨g, q, none⟩ (.int .u8 (bits .xor .u8 (b.toNat : Int) (128 / 2 ^ r)))).drew) g (flipTo mask at_ s.data.toList (k + 1))) := by
            rw [half_128 r (by omega), xor_u8]
            have h2 := (hb.out.set q hql (b ^^^ (128 >>> r.toUInt8)) _ rfl).drewN 1
            have e : flipTo mask at_ s.data.toList (k + 1) = l.set q (b ^^^ (128 >>> r.toUInt8)) := by rw [HS.out, HIN.out, ← hq, ← hr, ← hbq]
            rw [e]
            exact h2
          have HT : Hid (Fresh w ((wr.setCell ⟨g, q, none⟩ (.int .u8 (bits .xor .u8 (b.toNat : Int) (128 / 2 ^ r)))).drew)) := (ht.out.setCell (fun h => by have := HG.out; simp at h; omega) _).drew
          clear hbq hb1 hq hr hql HS HIN hb ht
          go_wp2
          refine wp_region_still_tail 10 (by kernel_rfl) (by kernel_rfl) ?_
          simp only [List.take_succ_cons, List.take_zero, List.drop_succ_cons, List.drop_zero]
          repeat still_step
          try refine wpStill_nil ?_
          go_wp2
          go_roundw
          case rel => exact ⟨k + 1, by omega, by go_num, HE, HT⟩
          case measure => simp [intOf]; omega
        · have HE : Hid (Byt wr g (flipTo mask at_ s.data.toList (k + 1))) := by
            rw [HS.out, flip1_out _ _ _ _ (fun h => hr ⟨h.1, by have := h.2.1; rw [HLl.out] at this; exact this⟩)]
            exact hb
          clear HS hb hb1
          rcases (show (¬ 0 ≤ at_ + k) ∨ (0 ≤ at_ + k ∧ ¬ at_ + k < 8 * s.size) by omega) with hr0 | ⟨hr0, hr1⟩
          · clear hr
            go_wp2
            go_roundw
            case rel => exact ⟨k + 1, by omega, by go_num, HE, ht⟩
            case measure => simp [intOf]; omega
          · clear hr
            have hd1 : decide (at_ + (k : Int) < 8 * (s.size : Int)) = false := decide_eq_false hr1
            go_wp2
            go_roundw
            case rel => exact ⟨k + 1, by omega, by go_num, HE, ht⟩
            case measure => simp [intOf]; omega
      · have hbb : (bits .and .u32 (mask / 2 ^ (31 - k)) 1 == 1) = false := by rw [hab]; exact beq_eq_false_iff_ne.2 hb1
        have HE : Hid (Byt wr g (flipTo mask at_ s.data.toList (k + 1))) := by
          rw [HS.out, flip1_out _ _ _ _ (fun h => hb1 h.2.2)]
          exact hb
        clear HS hb hb1 hab
        go_wp2
        go_roundw
        case rel => exact ⟨k + 1, by omega, by go_num, HE, ht⟩
        case measure => simp [intOf]; omega
    · have e : k = 32 := by omega
      subst e
      have hlen := flipTo_len mask at_ s.data.toList 32
      rw [HL.out] at hlen
      have HR : Hid ((convert 83 9 (.slice (some ⟨g, 0, none⟩) s.size C)).run Try.prog wr = .ok (.string ⟨(flipTo mask at_ s.data.toList 32).toArray⟩) wr) := by
        have := run_convert_bytes_back (P := Try.prog) wr 83 9 5 ⟨g, 0, none⟩ C (flipTo mask at_ s.data.toList 32) Try.underlying83 Try.underlying5 Try.underlying9 (fun j hj => by
          rw [Addr.add_lit, Nat.zero_add, hb.out.cell j hj]
          simp [List.getD, List.getElem?_eq_getElem hj])
        rw [hlen] at this
        exact this
      obtain ⟨lf, hlf⟩ : ∃ lf, lf = flipTo mask at_ s.data.toList 32 := ⟨_, rfl⟩
      rw [← hlf] at HR
      have HLF := Lib.hid hlf
      have hcb := HR.out
      clear hlen HR hb HB HF hlf
      go_wp2
      go_ret
      exact ⟨by rw [← HLF.out]; rfl, ht.out⟩
set_option maxRecDepth 10000 in
set_option maxHeartbeats 1000000 in
theorem flip_any (s : ByteArray) (at_ mask : Int) (w : World) (hs : s.size ≤ 1000) (h0 : -1000 ≤ at_) (h1 : at_ ≤ 1000) (m0 : 0 ≤ mask) (m1 : mask ≤ 4294967295) :
    Calls Try.prog 47 #[.string s, .int .i64 at_, .int .u32 mask] w fun e w' => e = .returned (.string ⟨(flipTo mask at_ s.data.toList 32).toArray⟩) ∧ Fresh w w' := by
  have hcv := fun w => run_bytes_of_string (P := Try.prog) w 9 83 5 s Try.underlying9 Try.underlying83 Try.underlying5
  go_enter Try.func47, Try.ntmps47
  go_wp2
  have HB := Lib.hid (Byt.made w s (grownCap w s.size 0 5))
  have HF : Hid (Fresh w (w.alloc (.cells (bytesRow s (grownCap w s.size 0 5)) 5 ((bytesRow s (grownCap w s.size 0 5)).size, (bytesRow s (grownCap w s.size 0 5)).size + 1))).drew) := ((Touch.refl _ w).alloc _).drew
  generalize (w.alloc (.cells (bytesRow s (grownCap w s.size 0 5)) 5 ((bytesRow s (grownCap w s.size 0 5)).size, (bytesRow s (grownCap w s.size 0 5)).size + 1))).drew = wa at *
  generalize grownCap w s.size 0 5 = C at *
  have hge : ∃ g, g = w.heap.size := ⟨_, rfl⟩
  obtain ⟨g, hg⟩ := hge
  rw [← hg] at HB ⊢
  have HG := Lib.hid hg
  have HL : Hid (s.data.toList.length = s.size) := by unfold Hid; rw [Array.length_toList]; rfl
  clear hg hcv
  go_loopw [16] (fun i wr => ∃ k : Nat, k ≤ 32 ∧ i = .int .i64 k ∧ Hid (Byt wr g (flipTo mask at_ s.data.toList k)) ∧ Hid (Fresh w wr)) (fun i _ => 32 - (intOf i).toNat)
  case atStart => exact ⟨0, by omega, rfl, HB, HF⟩
  case round =>
    obtain ⟨k, hk, rfl, hb, ht⟩ := hrel
    by_cases hk32 : k < 32
    · have HS := Lib.hid (flipTo_succ mask at_ s.data.toList k)
      have hlen := flipTo_len mask at_ s.data.toList k
      rw [HL.out] at hlen
      generalize flipTo mask at_ s.data.toList k = l at *
      have HLl := Lib.hid hlen
      clear hlen
      have hab := and_bit mask m0 m1 k
      by_cases hr : 0 ≤ at_ + k ∧ at_ + k < 8 * s.size
      · obtain ⟨j, hj⟩ : ∃ j : Nat, at_ + (k : Int) = j := ⟨(at_ + k).toNat, by omega⟩
        have ha1 : at_ < 8 * (s.size : Int) - k := by omega
        have ha2 : -(k : Int) ≤ at_ := by omega
        rw [hj] at hr
        obtain ⟨hr0, hr1⟩ := hr
        obtain ⟨q, hq⟩ : ∃ q : Nat, q = j / 8 := ⟨_, rfl⟩
        obtain ⟨r, hr⟩ : ∃ r : Nat, r = j % 8 := ⟨_, rfl⟩
        have hql : q < l.length := by rw [HLl.out]; omega
        have hc := hb.out.cell q hql
        have hf := hb.out.frozen q hql
        have hj8 : (q : Int) < (s.size : Int) := by omega
        have hj9 : (0 : Int) ≤ (q : Int) := by omega
        have hw1 : (j : Int) / 8 = (q : Int) := by omega
        have hw2 : bits .and .i64 (j : Int) 7 = (r : Int) := by rw [and_7]; omega
        have hr8 : (r : Int) < 8 := by omega
        have hr9 : (0 : Int) ≤ (r : Int) := by omega
        obtain ⟨b, hbq⟩ : ∃ b, b = l.getD q 0 := ⟨_, rfl⟩
        rw [← hbq] at hc
        obtain ⟨m, hm⟩ : ∃ m, m = bit mask k := ⟨_, rfl⟩
        rw [← hm] at hab
        have hm01 : 0 ≤ m ∧ m ≤ 1 := by have := bit_01 mask k; omega
        obtain ⟨d1, hd1⟩ : ∃ d1 : Nat, d1 = 31 - k := ⟨_, rfl⟩
        obtain ⟨d2, hd2⟩ : ∃ d2 : Nat, d2 = 7 - r := ⟨_, rfl⟩
        rw [← hd1] at hab
        have hv1 : IntKind.i64.wrap (31 - (k : Int)) = (d1 : Int) := by rw [IntWalk.i64_in _ (by omega)]; omega
        have hv2 : IntKind.i64.wrap (7 - (r : Int)) = (d2 : Int) := by rw [IntWalk.i64_in _ (by omega)]; omega
        have hv3 : IntKind.u8.wrap m = m := by show m % 256 = m; omega
        have hd31 : (d1 : Int) ≤ 31 := by omega
        have hd30 : (0 : Int) ≤ (d1 : Int) := by omega
        have hd27 : (d2 : Int) ≤ 7 := by omega
        have hd20 : (0 : Int) ≤ (d2 : Int) := by omega
        have HD1 := Lib.hid hd1
        have HD2 := Lib.hid hd2
        clear hd1 hd2
        have HE : Hid (Byt ((wr.setCell ⟨g, q, none⟩ (.int .u8 (bits .xor .u8 (b.toNat : Int) (m * 2 ^ d2 % 256)))).drew) g (flipTo mask at_ s.data.toList (k + 1))) := by
          have hd2' := HD2.out
          rcases (show m = 0 ∨ m = 1 by omega) with hm0 | hm1
          · rw [hm0, show (0 : Int) * 2 ^ d2 % 256 = 0 by simp, xor_u8_zero, HS.out, flip1_out _ _ _ _ (fun h => by have := h.2.2; omega)]
            have h2 := (hb.out.set q hql b _ rfl).drewN 1
            have e : l.set q b = l := by
              rw [hbq]
              simp [List.getD, List.getElem?_eq_getElem hql]
            rw [e] at h2
            exact h2
          · rw [hm1, hd2', one_up2 r (by omega), xor_u8]
            have h2 := (hb.out.set q hql (b ^^^ (128 >>> r.toUInt8)) _ rfl).drewN 1
            have e : flipTo mask at_ s.data.toList (k + 1) = l.set q (b ^^^ (128 >>> r.toUInt8)) := by
              rw [HS.out, flip1_in mask at_ l k j hj (by rw [HLl.out]; exact hr1) (by rw [← hm]; exact hm1), ← hq, ← hr, ← hbq]
            rw [e]
            exact h2
        have HT : Hid (Fresh w ((wr.setCell ⟨g, q, none⟩ (.int .u8 (bits .xor .u8 (b.toNat : Int) (m * 2 ^ d2 % 256)))).drew)) := (ht.out.setCell (fun h => by have := HG.out; simp at h; omega) _).drew
        have HQ := Lib.hid hq
        have HRR := Lib.hid hr
        have HBQ := Lib.hid hbq
        have HM := Lib.hid hm
        have HJ := Lib.hid hj
        clear hq hr hbq hm HS hb ht
        go_wp2
        refine wp_region_still_tail 17 (by kernel_rfl) (by kernel_rfl) ?_
        simp only [List.take_succ_cons, List.take_zero, List.drop_succ_cons, List.drop_zero]
        still_step
        still_step
        still_step
        still_step
        still_step
        still_step
        still_step
        still_step
        still_step
        still_step
        still_step
        still_step
        still_step
        still_step
        still_step
        still_step
        still_step
        refine wpStill_nil ?_
        go_wp2
        go_roundw
        case rel => exact ⟨k + 1, by omega, by go_num, HE, HT⟩
        case measure => simp [intOf]; omega
      · have HE : Hid (Byt wr g (flipTo mask at_ s.data.toList (k + 1))) := by
          rw [HS.out, flip1_out _ _ _ _ (fun h => hr ⟨h.1, by have := h.2.1; rw [HLl.out] at this; exact this⟩)]
          exact hb
        clear HS hb hab
        rcases (show (8 * (s.size : Int) - k ≤ at_) ∨ (¬ (8 * (s.size : Int) - k ≤ at_) ∧ at_ < - (k : Int)) by omega) with hr0 | ⟨hr0, hr1⟩
        · clear hr
          go_wp2
          go_roundw
          case rel => exact ⟨k + 1, by omega, by go_num, HE, ht⟩
          case measure => simp [intOf]; omega
        · clear hr
          go_wp2
          go_roundw
          case rel => exact ⟨k + 1, by omega, by go_num, HE, ht⟩
          case measure => simp [intOf]; omega
    · have e : k = 32 := by omega
      subst e
      have hlen := flipTo_len mask at_ s.data.toList 32
      rw [HL.out] at hlen
      have HR : Hid ((convert 83 9 (.slice (some ⟨g, 0, none⟩) s.size C)).run Try.prog wr = .ok (.string ⟨(flipTo mask at_ s.data.toList 32).toArray⟩) wr) := by
        have := run_convert_bytes_back (P := Try.prog) wr 83 9 5 ⟨g, 0, none⟩ C (flipTo mask at_ s.data.toList 32) Try.underlying83 Try.underlying5 Try.underlying9 (fun j hj => by
          rw [Addr.add_lit, Nat.zero_add, hb.out.cell j hj]
          simp [List.getD, List.getElem?_eq_getElem hj])
        rw [hlen] at this
        exact this
      obtain ⟨lf, hlf⟩ : ∃ lf, lf = flipTo mask at_ s.data.toList 32 := ⟨_, rfl⟩
      rw [← hlf] at HR
      have HLF := Lib.hid hlf
      have hcb := HR.out
      clear hlen HR hb HB HF hlf
      go_wp2
      go_ret
      exact ⟨by rw [← HLF.out]; rfl, ht.out⟩
end Go.Proofs.Ytfieckhhckfjiaa
