/-
  recv.Recv: Data.
-/
import Derived.Test.YtngljhpplmbglaaRcvD
import Derived.Deep.RegionLaw
namespace Go.Proofs.Ytngljhpplmbglaa
open Go.RowKit

theorem stp_gap {ops : Array Oper} {o : Oper} {a : Act} {K : Act → World → Prop} {Q : Exit → Act → World → Prop} {F : Prop} {w : World} (hgd : o.guard = none) {s x : Operand}
    (ho : o.op = .call { callee := .builtin .append, args := #[s, x], argTypes := #[66, 66] })
    {A A2 : Option Addr} {c c2 : Nat} {l l2 : List (Int × Int)} (es : a.eval s = .slice A l.length c) (ex : a.eval x = .slice A2 l2.length c2)
    (h : Sl gapE w A c l) (h2 : Rd gapE w A2 c2 l2) (hm : l.length + l2.length ≤ 17592186044416)
    (hK : ∀ A' c' L w', Hid (L = l ++ l2) → Sl gapE w' A' c' L → Touch (fun k => A.map Addr.block = some k) w w' → (A'.map Addr.block = A.map Addr.block ∨ A'.map Addr.block = some w.heap.size) →
      K (a.put o.dst (.slice A' L.length c')) w') : if Region.wanted o (yielded ops a.tmps) = true then Oper.wp Try.prog o a w K Q else F := by
  obtain ⟨i0, hi, hz0, hz1, hz2⟩ := info_parts Try.infoGap
  exact step_app gapE hgd ho i0 Try.underlying66 hi hz0 hz1 hz2 es ex h h2 (by simp only [maxLen]; omega) (by show _ * 8 ≤ _; omega) hK

theorem btw_q (a x b : Int) (W : World) {z : Bool} (hz : Hid (decide ((x - a) % 16777216 < (b - a) % 16777216) = z)) :
    Calls Try.prog 29 #[.int .u32 a, .int .u32 x, .int .u32 b] W fun e w' => e = .returned (.bool z) ∧ w' = W := by
  rw [← hz.out]
  exact btw_any a x b W

theorem RecvOut.nil {w w' : World} {p : Nat} {F : Nat → Prop} {st : Rv.S} (h : RecvAt w' p F st) (ht : Touch F w w') : RecvOut w p F st [] (.returned (.slice none 0 0)) w' :=
  ⟨F, none, 0, rfl, Sl.nil _ _, h, ht, fun _ hx => .inl hx, fun _ e => by cases e⟩

/-- The gaps were appended to, and are stored. -/
theorem RecvIn.appGap {w w1 w2 : World} {p k : Nat} {A G G2 : Option Addr} {c d d2 : Nat} {st : Rv.S} {L2 : List (Int × Int)} (h : RecvIn w p k A c G d st) (hf : Fresh w w1) (ht : Touch (fun k => G.map Addr.block = some k) w1 w2) (hs : Sl gapE w2 G2 d2 L2) :
    w2.cell? ⟨p, 6, none⟩ = some (.slice G st.gaps.length d) ∧ w2.frozen? ⟨p, 6, none⟩ = false ∧ RecvIn (w2.setCell ⟨p, 6, none⟩ (.slice G2 L2.length d2)) p k A c G2 d2 { st with gaps := L2 } := by
  have h1 := h.old hf
  have hg : ∀ x, G.map Addr.block = some x → ∃ ad, G = some ad ∧ ad.block = x := fun x e => by
    cases G with
    | none => cases e
    | some ad => exact ⟨ad, rfl, by simpa using e⟩
  have b2 := ht.blk h1.blk (fun e => by obtain ⟨ad, e1, e2⟩ := hg _ e; exact h1.ne_G ad e1 e2)
  have m2 := h1.map.touch ht (fun e => by obtain ⟨ad, e1, e2⟩ := hg _ e; exact h1.G_ne_k ad e1 e2)
  have i2 := h1.inb.touch ht (fun ad ha e => by obtain ⟨ad', e1, e2⟩ := hg _ e; exact h1.A_ne_G ad ha ad' e1 e2.symm)
  exact ⟨b2.cell 6, b2.frozen 6, ⟨b2.set 6 _, m2.setCell (by exact m2.blk_ne b2) _, i2.setCell (p := ⟨p, 6, none⟩) (i2.blk_ne b2 (by decide)) _, hs.setCell (p := ⟨p, 6, none⟩) (hs.blk_ne b2 (by decide)) _⟩⟩

set_option maxHeartbeats 4000000 in
set_option maxRecDepth 4000 in
theorem rdata_any (p : Nat) (F : Nat → Prop) (st : Rv.S) (n : Int) (v : ByteArray) (w : World) (h : RecvAt w p F st) (hi : st.inbox.length + st.m.length + st.gaps.length ≤ 100000) :
    Calls Try.prog 11 #[.pointer (some ⟨p, 0, none⟩), .int .u32 n, .string v] w (RecvOut w p F (Rv.data st n v).1 (Rv.data st n v).2) := by
  obtain ⟨k, A, c, G, d, h1, hF, hL⟩ := h
  have HI := Lib.hid h1
  have HF := Lib.hid hF
  have HL := Lib.hid hL
  have hz := fun w => (show (zeroValue 9).run Try.prog w = .ok (.string ByteArray.empty) w by kernel_rfl)
  have HZ := Lib.hid hz
  clear h1 hF hL hz
  have HD : Hid (Rv.data st n v = if Rv.takes st (n % 16777216) then Rv.deliver (Rv.lay st (n % 16777216) v) else (st, [])) := rfl
  go_enter Try.func11, Try.ntmps11
  go_wp2_with fail
  refine (low_any n w).mono ?_
  rintro e w1 ⟨rfl, rfl⟩
  generalize n % 16777216 = n2 at *
  have c0 : w1.cell? ⟨p, 0, none⟩ = some (.int .u32 st.r) := HI.out.blk.cell 0
  have c2 : w1.cell? ⟨p, 2, none⟩ = some (.int .u32 st.mr) := HI.out.blk.cell 2
  have c4 : w1.cell? ⟨p, 4, none⟩ = some (.map (some k)) := HI.out.blk.cell 4
  have HLK : Hid ((Instr.lookup 65 (.map (some k)) (.int .u32 n2) true).run Try.prog w1 = .ok (.tuple #[((mget st.m n2).map Value.string).getD (.string ByteArray.empty), .bool ((mget st.m n2).map Value.string).isSome]) w1) := by
    have := HI.out.map.look (T := 65) (e := 9) Try.underlying65 (HZ.out _) n2 true
    rw [Rv.bufV_get] at this
    exact this
  obtain ⟨z1, hz1⟩ : ∃ z1 : Bool, Hid (decide ((n2 - st.r) % 16777216 < (st.mr - st.r) % 16777216) = z1) := ⟨_, rfl⟩
  have HTK : Hid (Rv.takes st n2 = (decide (mget st.m n2 = none) && z1)) := by unfold Hid Rv.takes; rw [hz1.out]
  have HQ1 : Hid (∀ n, Calls Try.prog 29 #[.int .u32 st.r, .int .u32 n2, .int .u32 st.mr] (w1.drewN n) fun e w' => e = .returned (.bool z1) ∧ w' = w1.drewN n) := fun n => btw_q _ _ _ _ hz1
  simp only
  cases hg : mget st.m n2 with
  | some x =>
    rw [hg] at HLK HTK
    have HD2 : Hid (Rv.data st n v = (st, [])) := by unfold Hid; rw [HD.out, HTK.out]; rfl
    have hlk : (Instr.lookup 65 (.map (some k)) (.int .u32 n2) true).run Try.prog w1 = .ok (.tuple #[.string x, .bool true]) w1 := HLK.out
    clear HLK HD HTK hg
    go_upto_region 3 with (fail)
    go_quiet (fail)
    have HX : Hid (RecvAt (w1.drewN nq) p F st) := RecvAt.mk' (HI.out.drewN _) HF.out HL.out (Nat.le_refl _)
    go_wp2
    go_ret
    rw [HD2.out]
    exact RecvOut.nil HX.out ((Touch.refl _ _).drewN _)
  | none =>
    rw [hg] at HLK HTK
    have hlk : (Instr.lookup 65 (.map (some k)) (.int .u32 n2) true).run Try.prog w1 = .ok (.tuple #[.string ByteArray.empty, .bool false]) w1 := HLK.out
    clear HLK hg
    go_upto_region 3 with (fail)
    go_quiet ((go_at_call 29; with_reducible refine Calls.quiet_of_same (HQ1.out _)))
    cases z1 with
    | false =>
      have HD2 : Hid (Rv.data st n v = (st, [])) := by unfold Hid; rw [HD.out, HTK.out]; rfl
      have HX : Hid (RecvAt (w1.drewN nq) p F st) := RecvAt.mk' (HI.out.drewN _) HF.out HL.out (Nat.le_refl _)
      clear HD HTK
      go_wp2
      go_ret
      rw [HD2.out]
      exact RecvOut.nil HX.out ((Touch.refl _ _).drewN _)
    | true =>
      have HD2 : Hid (Rv.data st n v = Rv.deliver (Rv.lay st n2 v)) := by unfold Hid; rw [HD.out, HTK.out]; rfl
      have I2 := Lib.hid (HI.out.drewN nq)
      have T2 : Hid (Touch F w1 (w1.drewN nq)) := (Touch.refl _ _).drewN _
      clear HD HTK HQ1 c0 c2 c4 hlk HI
      generalize w1.drewN nq = w2 at *
      have c4 : w2.cell? ⟨p, 4, none⟩ = some (.map (some k)) := I2.out.blk.cell 4
      go_upto_region 6 with (refine wpList_storeM rfl rfl (K := numK) (k := n2) rfl rfl I2.out.map Try.underlying65 ?_; intro w3 hm3 ht3)
      have hm3' : MapAt numK w3 k (mset (Rv.bufV st.m) n2 (.string v)) := hm3
      rw [Rv.bufV_set] at hm3'
      have I3 := Lib.hid (I2.out.mapped hm3' ht3)
      have T3 : Hid (Touch F w1 w3) := T2.out.trans ht3 (fun x _ e => e ▸ HF.out.k)
      clear hm3 hm3' ht3 I2 T2 c4
      have c0 : w3.cell? ⟨p, 0, none⟩ = some (.int .u32 st.r) := I3.out.blk.cell 0
      have c1 : w3.cell? ⟨p, 1, none⟩ = some (.int .u32 st.h) := I3.out.blk.cell 1
      obtain ⟨z2, hz2⟩ : ∃ z2 : Bool, Hid (decide ((n2 - st.r) % 16777216 < (st.h - st.r) % 16777216) = z2) := ⟨_, rfl⟩
      have HQ2 : Hid (∀ n, Calls Try.prog 29 #[.int .u32 st.r, .int .u32 n2, .int .u32 st.h] (w3.drewN n) fun e w' => e = .returned (.bool z2) ∧ w' = w3.drewN n) := fun n => btw_q _ _ _ _ hz2
      have HLY : Hid (Rv.lay st n2 v = if z2 then { st with m := mset st.m n2 v } else { st with m := mset st.m n2 v, gaps := if n2 ≠ st.h ∧ st.gaps.length < 8 then st.gaps ++ [(st.h, n2)] else st.gaps, h := (n2 + 1) % 16777216 }) := by
        unfold Hid Rv.lay
        rw [← hz2.out]
        simp only [decide_eq_true_eq]
      clear hz2 hz1
      go_quiet ((go_at_call 29; with_reducible refine Calls.quiet_of_same (HQ2.out _)))
      have I4 := Lib.hid (I3.out.drewN nq)
      have T4 := Lib.hid (T3.out.drewN nq)
      clear I3 T3 c0 c1 HQ2
      generalize w3.drewN nq = w4 at *
      go_upto_if 50 with (fail)
      go_cut [] (fun wx => ∃ G' d', Hid (RecvIn wx p k A c G' d' (Rv.lay st n2 v)) ∧ Hid (Touch F w1 wx) ∧ Hid (∀ ad, G' = some ad → F ad.block ∨ w1.heap.size ≤ ad.block))
      case first =>
        cases z2 with
        | true =>
          have HE : Hid (Rv.lay st n2 v = { st with m := mset st.m n2 v }) := by unfold Hid; rw [HLY.out]; rfl
          go_wp2
          go_meet
          case rel => exact ⟨G, d, by rw [HE.out]; exact I4, T4, fun ad e => .inl (HF.out.G ad e)⟩
        | false =>
          have HE : Hid (Rv.lay st n2 v = { st with m := mset st.m n2 v, gaps := if n2 ≠ st.h ∧ st.gaps.length < 8 then st.gaps ++ [(st.h, n2)] else st.gaps, h := (n2 + 1) % 16777216 }) := by unfold Hid; rw [HLY.out]; rfl
          clear HLY
          have c1 : w4.cell? ⟨p, 1, none⟩ = some (.int .u32 st.h) := I4.out.blk.cell 1
          have c6 : w4.cell? ⟨p, 6, none⟩ = some (.slice G st.gaps.length d) := I4.out.blk.cell 6
          by_cases hgp : n2 ≠ st.h ∧ st.gaps.length < 8
          · rw [if_pos hgp] at HE
            obtain ⟨hn1, hn2⟩ := hgp
            have hne : (n2 != st.h) = true := by simpa using hn1
            have hl8 : (st.gaps.length : Int) < 8 := by omega
            have hld : decide ((st.gaps.length : Int) < 8) = true := decide_eq_true hl8
            have k6 : ∀ o, (w4.alloc o).cell? ⟨p, 6, none⟩ = some (.slice G st.gaps.length d) := fun o => (I4.out.blk.alloc o).cell 6
            have k1 : ∀ o, (w4.alloc o).cell? ⟨p, 1, none⟩ = some (.int .u32 st.h) := fun o => (I4.out.blk.alloc o).cell 1
            go_upto_region 8 with (fail)
            go_region_law (first
              | (refine stp_gap rfl rfl (l := st.gaps) (l2 := [(st.h, n2)]) rfl rfl (by exact I4.out.gap.alloc _) (by exact Sl.rd (Sl.lit gapE w4 _ rfl _ _ rfl _ rfl (by decide))) (by simp; omega) ?_; intro G2 d2 L2 w5 hL2 hs2 ht2 hA2
                 obtain ⟨q6, z6, I5⟩ := I4.out.appGap (((Touch.refl (fun _ => False) w4).alloc _).drew) ht2 hs2))
            all_goals
              have I6 : Hid (RecvIn (w5.setCell ⟨p, 6, none⟩ (.slice G2 L2.length d2)) p k A c G2 d2 { st with m := mset st.m n2 v, gaps := L2 }) := I5
              have T6 : Hid (Touch F w1 (w5.setCell ⟨p, 6, none⟩ (.slice G2 L2.length d2))) := Touch.st ((((T4.out.alloc _).drew)).trans ht2 (fun x _ e => by
                cases G with
                | none => cases e
                | some ad => have := HF.out.G ad rfl; simp at e; exact e ▸ this)) HF.out.p
              have G6 : Hid (∀ ad, G2 = some ad → F ad.block ∨ w1.heap.size ≤ ad.block) := fun ad e => by
                subst e
                rcases hA2 with e | e
                · cases G with
                  | none => cases e
                  | some ad' => have := HF.out.G ad' rfl; simp at e; exact .inl (e ▸ this)
                · have := T4.out.size
                  simp at e
                  exact .inr (by omega)
              have HE6 : Hid (Rv.lay st n2 v = { st with m := mset st.m n2 v, gaps := L2, h := (n2 + 1) % 16777216 }) := by unfold Hid; rw [HE.out, hL2.out]
              clear hs2 ht2 hA2 hL2 q6 z6 I5 c1 c6 k6 k1 I4 T4 HE
              generalize w5.setCell ⟨p, 6, none⟩ (.slice G2 L2.length d2) = w6 at *
              have c1 : w6.cell? ⟨p, 1, none⟩ = some (.int .u32 st.h) := I6.out.blk.cell 1
              have z1 := I6.out.blk.frozen 1
              have I7 : Hid (RecvIn (w6.setCell ⟨p, 1, none⟩ (.int .u32 ((n2 + 1) % 16777216))) p k A c G2 d2 (Rv.lay st n2 v)) := by
                rw [HE6.out]
                exact I6.out.scalar 1 _ rfl rfl rfl rfl
              have T7 : Hid (Touch F w1 (w6.setCell ⟨p, 1, none⟩ (.int .u32 ((n2 + 1) % 16777216)))) := T6.out.st HF.out.p
              clear I6 T6 HE6
              go_wp2_with fail
              refine (sadd_any n2 1 _).mono ?_
              rintro e w8 ⟨rfl, rfl⟩
              simp only
              go_wp2
              go_meet
              case rel => exact ⟨G2, d2, I7, T7, G6⟩
          · rw [if_neg hgp] at HE
            have z1 := I4.out.blk.frozen 1
            have I7 : Hid (RecvIn (w4.setCell ⟨p, 1, none⟩ (.int .u32 ((n2 + 1) % 16777216))) p k A c G d (Rv.lay st n2 v)) := by
              rw [HE.out]
              exact I4.out.scalar 1 _ rfl rfl rfl rfl
            have T7 : Hid (Touch F w1 (w4.setCell ⟨p, 1, none⟩ (.int .u32 ((n2 + 1) % 16777216)))) := T4.out.st HF.out.p
            have G7 : Hid (∀ ad, G = some ad → F ad.block ∨ w1.heap.size ≤ ad.block) := fun ad e => .inl (HF.out.G ad e)
            clear I4 T4 HE
            by_cases hn1 : n2 = st.h
            · have hne : (n2 != st.h) = false := by simpa using hn1
              clear hn1 hgp
              go_wp2_with fail
              refine (sadd_any n2 1 _).mono ?_
              rintro e w8 ⟨rfl, rfl⟩
              simp only
              go_wp2
              go_meet
              case rel => exact ⟨G, d, I7, T7, G7⟩
            · have hne : (n2 != st.h) = true := by simpa using hn1
              have hl8 : ¬ (st.gaps.length : Int) < 8 := by
                have : ¬ st.gaps.length < 8 := fun hh => hgp ⟨hn1, hh⟩
                omega
              have hld : decide ((st.gaps.length : Int) < 8) = false := decide_eq_false hl8
              clear hn1 hgp
              go_wp2_with fail
              refine (sadd_any n2 1 _).mono ?_
              rintro e w8 ⟨rfl, rfl⟩
              simp only
              go_wp2
              go_meet
              case rel => exact ⟨G, d, I7, T7, G7⟩
      case rest =>
        obtain ⟨G', d', I8, T8, G8⟩ := hcut
        have R8 : Hid (RecvAt wc p (fun x => F x ∨ G'.map Addr.block = some x) (Rv.lay st n2 v)) := by
          refine ⟨k, A, c, G', d', I8.out, ⟨.inl HF.out.p, .inl HF.out.k, fun ad e => .inl (HF.out.A ad e), fun ad e => .inr (by rw [e]; rfl)⟩, fun x hx => ?_⟩
          rcases hx with hx | hx
          · exact Nat.lt_of_lt_of_le (HL.out x hx) T8.out.size
          · cases G' with
            | none => cases hx
            | some ad => have := I8.out.gap.lt ad rfl; simp at hx; omega
        have hlb : (Rv.lay st n2 v).inbox.length + (Rv.lay st n2 v).m.length ≤ 1000000 := by
          have h1 : (Rv.lay st n2 v).inbox = st.inbox := by unfold Rv.lay; split <;> rfl
          have h2 : (Rv.lay st n2 v).m = mset st.m n2 v := by unfold Rv.lay; split <;> rfl
          have h3 : (mset st.m n2 v).length ≤ st.m.length + 1 := by
            unfold mset
            split
            · rw [List.length_map]; omega
            · simp
          rw [h1, h2]
          omega
        have HDV := Lib.hid (rdeliver_any p _ (Rv.lay st n2 v) wc R8.out hlb)
        clear I8 R8 HLY
        go_wp2_with fail
        refine HDV.out.mono ?_
        rintro e w9 ⟨F', A', c', rfl, s9, r9, t9, b9, o9⟩
        have HX : Hid (RecvOut w1 p F (Rv.data st n v).1 (Rv.data st n v).2 (.returned (.slice A' (Rv.deliver (Rv.lay st n2 v)).2.length c')) w9) := by
          have hsz := T8.out.size
          have hG : ∀ x, G'.map Addr.block = some x → F x ∨ w1.heap.size ≤ x := fun x e => by
            cases G' with
            | none => cases e
            | some ad => have := G8.out ad rfl; simp at e; exact e ▸ this
          rw [HD2.out]
          refine ⟨F', A', c', rfl, s9, r9, T8.out.trans t9 (fun x hx e => ?_), fun x hx => ?_, fun ad e => ⟨Nat.le_trans hsz (o9 ad e).1, (o9 ad e).2⟩⟩
          · rcases e with e | e
            · exact e
            · rcases hG x e with e | e
              · exact e
              · omega
          · rcases b9 x hx with e | e
            · rcases e with e | e
              · exact .inl e
              · exact hG x e
            · exact .inr (by omega)
        clear s9 r9 t9 b9 o9 HDV T8 G8
        simp only
        go_wp2
        go_ret
        exact HX.out
end Go.Proofs.Ytngljhpplmbglaa
