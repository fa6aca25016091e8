/-
  conn: the functions of an act that hear a unit.
-/
import Derived.Test.YtkmegkjkbalooaaCnB
import Derived.LoopTactic
namespace Go.Proofs.Ytkmegkjkbalooaa
open Go.RowKit

/-- A unit that was boxed. -/
theorem Blk.boxed (w : World) (p : Cn.Pd) : Blk (w.alloc (.cells #[.int .i64 p.kind, .int .i64 p.sq, .int .u32 p.n, .int .u32 p.ps, .int .u32 p.mr, .slice p.lA p.ln p.lc, .bool p.self, .string p.data] 54)) w.heap.size 54 (pduE.enc p) := Blk.new _ _ _

set_option maxHeartbeats 1000000 in
theorem back_any {K : Nat → Prop} {n : Nat} {w : World} {a c : Nat} {x : Cn.SR} (h : InAct K n w a c x) (p : Cn.Pd) (kind : Int) {A : Option Addr} {d : Nat} {ks : List Int} (hr : Rd intE w A d ks) (hA : ∀ ad, A = some ad → 0 < ks.length → K ad.block) (hn : n + ks.length ≤ 90) :
    Calls Try.prog 48 #[.pointer (some ⟨a, 0, none⟩), pduV p, .int .i64 kind, .slice A ks.length d] w fun e w' => e = .returned (.tuple #[]) ∧ InAct K (n + ks.length) w' a c (Cn.backs x p kind ks) ∧ Touch (OfAct K) w w' := by
  unfold pduV
  have HF : Hid (Fresh w (w.alloc (.cells #[.int .i64 p.kind, .int .i64 p.sq, .int .u32 p.n, .int .u32 p.ps, .int .u32 p.mr, .slice p.lA p.ln p.lc, .bool p.self, .string p.data] 54))) := (Touch.refl _ w).alloc _
  have HB := Lib.hid (Blk.boxed w p)
  have HA := Lib.hid (h.keep HF.out)
  have HR := Lib.hid hr
  have HK := Lib.hid hA
  have HG : Hid (Kept K w (w.alloc (.cells #[.int .i64 p.kind, .int .i64 p.sq, .int .u32 p.n, .int .u32 p.ps, .int .u32 p.mr, .slice p.lA p.ln p.lc, .bool p.self, .string p.data] 54)) w.heap.size) := .inr ⟨Nat.le_refl _, by simp⟩
  have HL : Hid (∀ k, K k → Kept K w (w.alloc (.cells #[.int .i64 p.kind, .int .i64 p.sq, .int .u32 p.n, .int .u32 p.ps, .int .u32 p.mr, .slice p.lA p.ln p.lc, .bool p.self, .string p.data] 54)) k) := fun k e => .inl e
  have hlc := hr.1
  have hcm := hr.2.1
  unfold maxLen at hcm
  obtain ⟨st, hst⟩ : ∃ st, x.1.state = st := ⟨_, rfl⟩
  have HS := Lib.hid hst
  clear h hr hA hst
  go_enter Try.func48, Try.ntmps48
  go_upto_region 1 with (fail)
  have HR1 := Lib.hid (HR.out.touch HF.out (fun _ _ _ h => h))
  clear HR
  generalize (w.alloc (.cells #[.int .i64 p.kind, .int .i64 p.sq, .int .u32 p.n, .int .u32 p.ps, .int .u32 p.mr, .slice p.lA p.ln p.lc, .bool p.self, .string p.data] 54)) = w1 at *
  generalize Kept K w w1 = K1 at *
  generalize w.heap.size = g at *
  go_wp2_with fail
  go_loopw [12, 9] (fun i _ wr => ∃ k : Nat, k ≤ ks.length ∧ i = .int .i64 k ∧ Hid (InAct K1 (n + k) wr a c (Cn.backs x p kind (ks.take k))) ∧ Hid (Touch (OfAct K1) w1 wr)) (fun i _ _ => ks.length - (intOf i).toNat)
  case atStart => exact ⟨0, by omega, rfl, HA, Touch.refl _ _⟩
  case round =>
    obtain ⟨k, hk, rfl, hi, ht⟩ := hrel
    by_cases hlt : k < ks.length
    · have hKA : Hid (∀ ad, A = some ad → K1 ad.block) := fun ad e => HL.out _ (HK.out ad e (by omega))
      obtain ⟨gA, oA, rfl, hg, hc⟩ := (HR1.out.touch ht.out (fun ad ha hl e => e (hKA.out ad ha))).int_at k hlt
      have HSN : Hid (Cn.backs x p kind (ks.take (k + 1)) = if ks.getD k 0 = st then Cn.out (Cn.backs x p kind (ks.take k)) (Cn.unit_ kind p.sq false Cn.no) else Cn.backs x p kind (ks.take k)) := by
        unfold Hid
        rw [List.take_succ_eq_append_getElem hlt, Cn.backs_snoc, HS.out]
        simp [List.getD, List.getElem?_eq_getElem hlt]
      generalize ks.getD k 0 = y at *
      have HT : Hid (∀ w1, InAct K1 (n + k) w1 a c (Cn.backs x p kind (ks.take k)) → _) := fun w1 e => out_any e (by omega) (Cn.unit_ kind p.sq false Cn.no)
      have HII := hi
      obtain ⟨A1, c1, A2, c2, hh⟩ := hi.out
      have k0 : wr.cell? ⟨a, 0, none⟩ = some (.pointer (some ⟨c, 0, none⟩)) := hh.blk.cell 0
      have s2 : wr.cell? ⟨c, 2, none⟩ = some (.int .i64 st) := by rw [← HS.out, ← Cn.backs_fst x p kind (ks.take k)]; exact hh.conn.cell 2
      have hb := ht.out.keptB HB.out HG.out
      have b1 : wr.cell? ⟨g, 1, none⟩ = some (.int .i64 p.sq) := hb.cell 1
      clear hh hb hi
      have hk2 : k + 1 ≤ ks.length := by omega
      by_cases hy : y = st
      · subst hy
        rw [if_pos rfl] at HSN
        go_wp2_with fail
        refine (HT.out _ HII.out).mono ?_
        rintro e w2 ⟨rfl, i2, t2⟩
        have HI2 : Hid (InAct K1 (n + (k + 1)) w2 a c (Cn.backs x p kind (ks.take (k + 1)))) := by unfold Hid; rw [HSN.out]; exact i2
        have HT2 := Lib.hid (ht.out.trans t2 (fun _ _ e => e))
        clear i2 t2 HT
        go_wp2
        go_roundw
        case rel => exact ⟨k + 1, hk2, by go_num, HI2, HT2⟩
        case measure => simp [intOf]; omega
      · rw [if_neg hy] at HSN
        have hyb : (y == st) = false := by simpa using hy
        have HI2 : Hid (InAct K1 (n + (k + 1)) wr a c (Cn.backs x p kind (ks.take (k + 1)))) := by unfold Hid; rw [HSN.out]; exact HII.out.wide (by omega)
        clear HT hy
        go_wp2
        go_roundw
        case rel => exact ⟨k + 1, hk2, by go_num, HI2, ht⟩
        case measure => simp [intOf]; omega
    · have hkk : k = ks.length := by omega
      subst hkk
      have HX : Hid (InAct K (n + ks.length) wr a c (Cn.backs x p kind ks) ∧ Touch (OfAct K) w wr) := by
        rw [List.take_length] at hi
        exact ⟨hi.out.less HL.out, (HF.out.mono (fun _ _ e => e.elim)).trans (ht.out.loose HL.out) (fun _ _ e => e)⟩
      clear hi ht
      go_wp2
      go_end0
      exact ⟨rfl, HX.out⟩
end Go.Proofs.Ytkmegkjkbalooaa
