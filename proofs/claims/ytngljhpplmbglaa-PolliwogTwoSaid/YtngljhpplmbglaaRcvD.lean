/-
  recv.Recv: deliver.
-/
import Derived.Test.YtngljhpplmbglaaRcvA
import Derived.Test.YtngljhpplmbglaaCloS
namespace Go.Proofs.Ytngljhpplmbglaa
open Go.RowKit

/-- How many entries a map's block has. -/
def mapSize (w : World) (k : Nat) : Nat := match w.heap[k]? with | some (.map es _) => es.size | _ => 0
theorem MapAt.size {w : World} {k : Nat} {m : MList Int} (h : MapAt numK w k m) : mapSize w k = m.length := by
  obtain ⟨es, cl, hb, hn⟩ := mlen h
  unfold mapSize
  rw [hb]
  exact hn

theorem Rv.dl_none {k : Nat} {r : Int} {m : List (Int × ByteArray)} {L : List ByteArray} (h : mget m r = none) : Rv.dl k r m L = (r, m, L) := by
  cases k with
  | zero => rfl
  | succ k => simp only [Rv.dl, h]
theorem Rv.dl_some {r : Int} {m : List (Int × ByteArray)} {L : List ByteArray} {v : ByteArray} (hn : (m.map (·.1)).Nodup) (h : mget m r = some v) : Rv.dl m.length r m L = Rv.dl (mdel m r).length ((r + 1) % 16777216) (mdel m r) (L ++ [v]) := by
  have := mdel_len m r hn h
  rw [← this]
  simp only [Rv.dl, h]

/-- What a call of a receiver that hands messages back leaves. -/
def RecvOut (w : World) (p : Nat) (F : Nat → Prop) (st : Rv.S) (L : List ByteArray) (e : Ending) (w' : World) : Prop :=
  ∃ F' A' c', e = .returned (.slice A' L.length c') ∧ Sl strE w' A' c' L ∧ RecvAt w' p F' st ∧ Touch F w w' ∧ (∀ x, F' x → F x ∨ w.heap.size ≤ x) ∧ ∀ ad, A' = some ad → w.heap.size ≤ ad.block ∧ ¬ F' ad.block

set_option maxHeartbeats 4000000 in
set_option maxRecDepth 4000 in
theorem rdeliver_any (p : Nat) (F : Nat → Prop) (st : Rv.S) (w : World) (h : RecvAt w p F st) (hi : st.inbox.length + st.m.length ≤ 1000000) :
    Calls Try.prog 30 #[.pointer (some ⟨p, 0, none⟩)] w (RecvOut w p F (Rv.deliver st).1 (Rv.deliver st).2) := by
  obtain ⟨k, A, c, G, d, h1, hF, hL⟩ := h
  have HI := Lib.hid h1
  have HF := Lib.hid hF
  have HL := Lib.hid hL
  have HPW : Hid (p < w.heap.size ∧ k < w.heap.size ∧ (∀ ad, A = some ad → ad.block < w.heap.size) ∧ ∀ ad, G = some ad → ad.block < w.heap.size) := ⟨hL _ hF.p, hL _ hF.k, fun ad e => hL _ (hF.A ad e), fun ad e => hL _ (hF.G ad e)⟩
  have hz := fun w => (show (zeroValue 9).run Try.prog w = .ok (.string ByteArray.empty) w by kernel_rfl)
  have HZ := Lib.hid hz
  clear h1 hF hL hz
  go_enter Try.func30, Try.ntmps30
  go_wp2_with fail
  go_loopw [3] (fun s3 wr => ∃ (r : Int) (m : List (Int × ByteArray)) (L : List ByteArray) (A' : Option Addr) (c' : Nat), s3 = .slice A' L.length c' ∧ Hid (Sl strE wr A' c' L) ∧ Hid (∀ ad, A' = some ad → w.heap.size ≤ ad.block) ∧ Hid (Touch F w wr) ∧
      Hid (RecvIn wr p k A c G d { st with r := r, m := m }) ∧ Hid (Rv.dl st.m.length st.r st.m [] = Rv.dl m.length r m L) ∧ m.length + L.length ≤ st.m.length) (fun _ wr => mapSize wr k)
  case atStart => exact ⟨st.r, st.m, [], none, 0, rfl, Sl.nil _ _, fun _ e => (by cases e), Touch.refl _ _, HI, rfl, by simp⟩
  case round =>
    clear HI
    obtain ⟨r, m, L, A', c', rfl, HS, HB, HT, HI, HD, hlen⟩ := hrel
    have c0 : wr.cell? ⟨p, 0, none⟩ = some (.int .u32 r) := HI.out.blk.cell 0
    have c4 : wr.cell? ⟨p, 4, none⟩ = some (.map (some k)) := HI.out.blk.cell 4
    have hnd : Hid ((m.map (·.1)).Nodup) := by have := HI.out.map.nodup; rw [Rv.bufV_keys] at this; exact this
    have HLK : Hid (∀ n, (Instr.lookup 65 (.map (some k)) (.int .u32 r) true).run Try.prog (wr.drewN n) = .ok (.tuple #[((mget m r).map Value.string).getD (.string ByteArray.empty), .bool ((mget m r).map Value.string).isSome]) (wr.drewN n)) := fun n => by
      have := (HI.out.drewN n).map.look (T := 65) (e := 9) Try.underlying65 (HZ.out _) r true
      rw [Rv.bufV_get] at this
      exact this
    have HMS : Hid (mapSize wr k = m.length) := by have := HI.out.map.size; rw [Rv.bufV_len] at this; exact this
    cases hg : mget m r with
    | some v =>
      have HG := Lib.hid hg
      rw [hg] at HLK
      have hlk : ∀ n, (Instr.lookup 65 (.map (some k)) (.int .u32 r) true).run Try.prog (wr.drewN n) = .ok (.tuple #[.string v, .bool true]) (wr.drewN n) := HLK.out
      clear hg HLK
      go_upto_region 2 with (fail)
      go_quiet (fail)
      have I2 := Lib.hid (HI.out.drewN nq)
      have S2 : Hid (Sl strE (wr.drewN nq) A' c' L) := HS.out
      have T2 := Lib.hid (HT.out.drewN nq)
      have HAV : Hid (∀ x, A'.map Addr.block = some x → w.heap.size ≤ x) := fun x e => by
        cases A' with
        | none => cases e
        | some ad => have := HB.out ad rfl; simp at e; omega
      clear HI HS HT c0 c4 hlk
      generalize wr.drewN nq = w2 at *
      have hLb : L.length ≤ 1000000 := by omega
      go_upto_region 7 with (at_builtin; refine app_str rfl rfl (l := L) (l2 := [v]) rfl rfl (S2.out.alloc _) (Sl.rd (Sl.lit strE w2 _ rfl #[.string v] [v] rfl 1 rfl (by decide))) (by simp; omega) ?_; intro A4 d4 M4 w4 hM4 hs4 ht4 hB4)
      have HM4 := Lib.hid hM4.out
      have S4 := Lib.hid hs4
      have I4 : Hid (RecvIn w4 p k A c G d { st with r := r, m := m }) := (I2.out.old ((Touch.refl (fun _ => False) w2).alloc _)).touch ht4
        (fun e => by have h1 := HAV.out _ e; have h2 := HPW.out.1; omega) (fun e => by have h1 := HAV.out _ e; have h2 := HPW.out.2.1; omega)
        (fun ad ha e => by have h1 := HAV.out _ e; have h2 := HPW.out.2.2.1 ad ha; omega) (fun ad ha e => by have h1 := HAV.out _ e; have h2 := HPW.out.2.2.2 ad ha; omega)
      have T4 : Hid (Touch F w w4) := (T2.out.alloc _).trans ht4 (fun x hx e => by have := HAV.out x e; omega)
      have B4 : Hid (∀ ad, A4 = some ad → w.heap.size ≤ ad.block) := fun ad e => by
        subst e
        rcases hB4 with e | e
        · exact HAV.out _ e.symm
        · have := T2.out.size
          simp at e
          omega
      have hl4 : M4.length = L.length + 1 := by rw [hM4.out]; simp
      clear hM4 hs4 ht4 hB4 S2 I2 T2 HB HAV
      have c0 : w4.cell? ⟨p, 0, none⟩ = some (.int .u32 r) := I4.out.blk.cell 0
      have c4 : w4.cell? ⟨p, 4, none⟩ = some (.map (some k)) := I4.out.blk.cell 4
      refine wp_region_qtail 8 (by kernel_rfl) (by kernel_rfl) rfl (by kernel_rfl) (by kernel_rfl) ?_
      simp only [List.take_succ_cons, List.take_zero, List.drop_succ_cons, List.drop_zero, List.map_cons, List.map_nil, List.cons_append, List.nil_append, blankOp]
      repeat (quiet_step (fail))
      refine wpQuiet_nil ?_
      intro _ hw'
      obtain ⟨nq, hw''⟩ := hw'
      subst hw''
      have I5 := Lib.hid (I4.out.drewN nq)
      have S5 : Hid (Sl strE (w4.drewN nq) A4 d4 M4) := S4.out
      have T5 := Lib.hid (T4.out.drewN nq)
      clear I4 S4 T4 c0 c4
      generalize w4.drewN nq = w5 at *
      go_upto_region 8 with (refine wpList_delM rfl rfl (K := numK) (k := r) rfl rfl I5.out.map Try.underlying65 rfl ?_; intro w6 hm6 ht6)
      rw [Rv.bufV_del] at hm6
      have I6 := Lib.hid (I5.out.mapped hm6 ht6)
      have S6 : Hid (Sl strE w6 A4 d4 M4) := S5.out.touch ht6 (fun ad e => S5.out.ne_map I5.out.map ad e)
      have T6 : Hid (Touch F w w6) := T5.out.trans ht6 (fun x _ e => e ▸ HF.out.k)
      clear hm6 ht6 I5 S5 T5
      have c0 : w6.cell? ⟨p, 0, none⟩ = some (.int .u32 r) := I6.out.blk.cell 0
      have fz := I6.out.blk.frozen 0
      go_wp2_with fail
      refine (sadd_any r 1 w6).mono ?_
      rintro e w7 ⟨rfl, rfl⟩
      have I7 : Hid (RecvIn (w7.setCell ⟨p, 0, none⟩ (.int .u32 ((r + 1) % 16777216))) p k A c G d { st with r := (r + 1) % 16777216, m := mdel m r }) := I6.out.scalar 0 _ rfl rfl rfl rfl
      have S7 : Hid (Sl strE (w7.setCell ⟨p, 0, none⟩ (.int .u32 ((r + 1) % 16777216))) A4 d4 M4) := S6.out.setCell (p := ⟨p, 0, none⟩) (S6.out.blk_ne I6.out.blk (by decide)) _
      have T7 : Hid (Touch F w (w7.setCell ⟨p, 0, none⟩ (.int .u32 ((r + 1) % 16777216)))) := T6.out.st HF.out.p
      have HD7 : Hid (Rv.dl st.m.length st.r st.m [] = Rv.dl (mdel m r).length ((r + 1) % 16777216) (mdel m r) M4) := by
        unfold Hid
        rw [HD.out, Rv.dl_some hnd.out HG.out, HM4.out]
      have hdl := mdel_len m r hnd.out HG.out
      have HMS7 : Hid (mapSize (w7.setCell ⟨p, 0, none⟩ (.int .u32 ((r + 1) % 16777216))) k = (mdel m r).length) := by have := I7.out.map.size; rw [Rv.bufV_len] at this; exact this
      clear I6 S6 T6 HD hnd HG HM4
      generalize (r + 1) % 16777216 = r2 at *
      generalize mdel m r = m2 at *
      simp only
      go_wp2
      go_roundw
      case rel => exact ⟨r2, m2, M4, A4, d4, by rw [hl4], S7, B4, T7, I7, HD7, by omega⟩
      case measure => rw [HMS.out, HMS7.out]; omega
    | none =>
      have HLF : Hid (Rv.deliver st = ({ st with r := r, m := m, inbox := st.inbox ++ L }, L)) := by
        unfold Hid Rv.deliver
        rw [HD.out, Rv.dl_none hg]
      rw [hg] at HLK
      have hlk : ∀ n, (Instr.lookup 65 (.map (some k)) (.int .u32 r) true).run Try.prog (wr.drewN n) = .ok (.tuple #[.string ByteArray.empty, .bool false]) (wr.drewN n) := HLK.out
      clear hg HLK HD HMS hnd
      go_upto_region 2 with (fail)
      go_quiet (fail)
      have I2 := Lib.hid (HI.out.drewN nq)
      have S2 : Hid (Sl strE (wr.drewN nq) A' c' L) := HS.out
      have T2 := Lib.hid (HT.out.drewN nq)
      clear HI HS HT c0 c4 hlk
      generalize wr.drewN nq = w2 at *
      have c5 : w2.cell? ⟨p, 5, none⟩ = some (.slice A st.inbox.length c) := I2.out.blk.cell 5
      have HCL := Lib.hid (cloneStr_any A c st.inbox w2 I2.out.inb.rd (by omega))
      go_wp2_with fail
      refine HCL.out.mono ?_
      rintro e w3 ⟨A3, d3, rfl, s3, f3, b3⟩
      have I3 := Lib.hid (I2.out.old f3)
      have S3 : Hid (Sl strE w3 A' c' L) := S2.out.touch f3 (fun _ _ h => h)
      have T3 : Hid (Touch F w w3) := T2.out.trans f3 (fun _ _ h => h.elim)
      have HA3 : Hid (Sl strE w3 A3 d3 st.inbox) := s3
      have HB3 : Hid (∀ x, A3.map Addr.block = some x → w2.heap.size ≤ x) := fun x e => by
        cases A3 with
        | none => cases e
        | some ad => have := b3 ad rfl; simp at e; omega
      have HAL : Hid (∀ ad, A' = some ad → ad.block < w2.heap.size) := fun ad e => S2.out.lt ad e
      have HWS : Hid (w.heap.size ≤ w2.heap.size ∧ w2.heap.size ≤ w3.heap.size) := ⟨T2.out.size, f3.size⟩
      clear s3 f3 b3 HCL I2 S2 T2 c5
      have hLb : L.length ≤ 1000000 := by omega
      simp only
      have fz := I3.out.blk.frozen 5
      go_wp2_with (at_builtin; refine app_str rfl rfl (l := st.inbox) (l2 := L) rfl rfl HA3.out S3.out.rd (by omega) ?_; intro A4 d4 M4 w4 hM4 hs4 ht4 hB4
                   have HM4 := Lib.hid hM4.out
                   have hnp : ∀ x, A3.map Addr.block = some x → ¬ x < w.heap.size := fun x e => by have h1 := HB3.out x e; have h2 := HWS.out; omega
                   have I4 : Hid (RecvIn w4 p k A c G d { st with r := r, m := m }) := I3.out.touch ht4 (fun e => hnp _ e HPW.out.1) (fun e => hnp _ e HPW.out.2.1) (fun ad ha e => hnp _ e (HPW.out.2.2.1 ad ha)) (fun ad ha e => hnp _ e (HPW.out.2.2.2 ad ha))
                   have S4 : Hid (Sl strE w4 A' c' L) := S3.out.touch ht4 (fun ad ha e => by have h1 := HB3.out _ e; have h2 := HAL.out ad ha; omega)
                   have T4 : Hid (Touch F w w4) := T3.out.trans ht4 (fun x hx e => absurd hx (hnp x e))
                   have B4 : Hid (∀ x, A4.map Addr.block = some x → w2.heap.size ≤ x) := fun x e => by
                     rcases hB4 with e4 | e4
                     · rw [e4] at e; exact HB3.out x e
                     · rw [e4] at e; have h2 := HWS.out; simp at e; omega
                   have Z4 := Lib.hid hs4
                   have c5 : w4.cell? ⟨p, 5, none⟩ = some (.slice A st.inbox.length c) := I4.out.blk.cell 5
                   have fz4 := I4.out.blk.frozen 5
                   have I5 := Lib.hid (I4.out.inboxed Z4.out)
                   have S5 : Hid (Sl strE (w4.setCell ⟨p, 5, none⟩ (.slice A4 M4.length d4)) A' c' L) := S4.out.setCell (p := ⟨p, 5, none⟩) (S4.out.blk_ne I4.out.blk (by decide)) _
                   have T5 : Hid (Touch F w (w4.setCell ⟨p, 5, none⟩ (.slice A4 M4.length d4))) := T4.out.st HF.out.p
                   have L5 : Hid (∀ x, A4.map Addr.block = some x → x < w4.heap.size) := fun x e => by
                     cases A4 with
                     | none => cases e
                     | some ad => have := Z4.out.lt ad rfl; simp at e; omega
                   clear hs4 ht4 hB4 hnp I3 S3 T3 HA3 HB3 hM4 I4 S4 T4 Z4)
      have HX : Hid (RecvAt (w4.setCell ⟨p, 5, none⟩ (.slice A4 M4.length d4)) p (fun x => F x ∨ A4.map Addr.block = some x) (Rv.deliver st).1) := by
        refine ⟨k, A4, d4, G, d, ?_, ⟨.inl HF.out.p, .inl HF.out.k, fun ad e => .inr (by rw [e]; rfl), fun ad e => .inl (HF.out.G ad e)⟩, fun x hx => ?_⟩
        · rw [HLF.out]
          simp only
          rw [← HM4.out]
          exact I5.out
        · have hsz := T5.out.size
          rcases hx with hx | hx
          · exact Nat.lt_of_lt_of_le (HL.out x hx) hsz
          · have := L5.out x hx
            simpa using this
      have HB5 : Hid (∀ x, (F x ∨ A4.map Addr.block = some x) → F x ∨ w.heap.size ≤ x) := fun x hx => by
        rcases hx with hx | hx
        · exact .inl hx
        · have h1 := B4.out x hx; have h2 := HWS.out; exact .inr (by omega)
      have HO5 : Hid (∀ ad, A' = some ad → w.heap.size ≤ ad.block ∧ ¬ (F ad.block ∨ A4.map Addr.block = some ad.block)) := fun ad e => by
        have h1 := HB.out ad e
        refine ⟨h1, fun hx => ?_⟩
        rcases hx with hx | hx
        · have := HL.out _ hx; omega
        · have h2 := B4.out _ hx; have h3 := HAL.out ad e; omega
      have HD2 : Hid ((Rv.deliver st).2 = L) := by unfold Hid; rw [HLF.out]
      clear I5 B4 L5 HB HAL HLF
      go_ret
      exact ⟨_, A', c', by rw [HD2.out]; rfl, by rw [HD2.out]; exact S5.out, HX.out, T5.out, HB5.out, HO5.out⟩
end Go.Proofs.Ytngljhpplmbglaa
