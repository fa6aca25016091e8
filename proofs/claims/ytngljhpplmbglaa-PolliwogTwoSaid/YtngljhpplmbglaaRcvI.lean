/-
  recv.Recv: Gap.
-/
import Derived.Test.YtngljhpplmbglaaRcvH
namespace Go.Proofs.Ytngljhpplmbglaa
open Go.RowKit

/-- What Gap tells: of the gaps the first of which something is missing still; those ahead of it, and it, go. -/
def Rv.GapTold (st : Rv.S) (l : List Int) (is : Bool) (st' : Rv.S) : Prop :=
  (is = false ∧ l = [] ∧ st' = { st with gaps := [] } ∧ ∀ g ∈ st.gaps, ∀ n, ¬ Rv.StillIn st g n) ∨
  (is = true ∧ ∃ (pre post : List (Int × Int)) (g : Int × Int) (x : Int × Int) (S : List (Int × Int)), st.gaps = pre ++ g :: post ∧ (∀ g' ∈ pre, ∀ n, ¬ Rv.StillIn st g' n) ∧ Sp.Good (x :: S) ∧ (∀ n, Sp.mem (x :: S) n ↔ Rv.StillIn st g n) ∧
    l = [(st.r + x.1) % 16777216, (st.r + x.2) % 16777216] ∧ st' = Rv.renew { st with gaps := post })

theorem StillIn_gaps (st : Rv.S) (gs : List (Int × Int)) (g : Int × Int) (n : Int) : Rv.StillIn { st with gaps := gs } g n ↔ Rv.StillIn st g n := Iff.rfl

def RGapPost (w : World) (p : Nat) (F : Nat → Prop) (st : Rv.S) (e : Ending) (w' : World) : Prop :=
  ∃ B d l is st', e = .returned (.tuple #[.slice B l.length d, .int .u32 (if is then st'.r else 0), .int .u32 (if is then st'.mr else 0), .bool is]) ∧ Rv.GapTold st l is st' ∧ RecvAt w' p F st' ∧ Touch F w w' ∧
    Sl numE w' B d l ∧ ∀ ad, B = some ad → w.heap.size ≤ ad.block

theorem results_tmp4r {fn : Func} {t u v x : Tmp} (h : fn.results = #[.tmp t, .tmp u, .tmp v, .tmp x]) (tmps : Array Value) (P : Program) (w : World) :
    (results fn tmps).run P w = .ok (.tuple #[tmps.getD t undef, tmps.getD u undef, tmps.getD v undef, tmps.getD x undef]) w := by
  simp [results, h]

set_option maxHeartbeats 8000000 in
set_option maxRecDepth 4000 in
theorem rgap_any (p : Nat) (F : Nat → Prop) (st : Rv.S) (w : World) (h : RecvAt w p F st) (hd : (st.h - st.r) % 16777216 ≤ 100000) (hw : 0 ≤ st.window ∧ st.window ≤ 64) (hi : st.inbox.length ≤ 1000000) (hgl : st.gaps.length ≤ 1000000) :
    Calls Try.prog 12 #[.pointer (some ⟨p, 0, none⟩)] w (RGapPost w p F st) := by
  have H0 := Lib.hid h
  have HL := Lib.hid h.lim
  have HHD : Hid ((st.h - st.r) % 16777216 ≤ 100000) := hd
  have HW : Hid (0 ≤ st.window ∧ st.window ≤ 64) := hw
  clear h hd hw
  go_enter Try.func12, Try.ntmps12
  go_wp2_with fail
  go_loopw [6] (fun _ wr => ∃ (pre post : List (Int × Int)), Hid (st.gaps = pre ++ post) ∧ Hid (∀ g' ∈ pre, ∀ n, ¬ Rv.StillIn st g' n) ∧ Hid (RecvAt wr p F { st with gaps := post }) ∧ Hid (Touch F w wr)) (fun _ wr => match wr.cell? ⟨p, 6, none⟩ with | some (.slice _ n _) => n | _ => 0)
  case atStart => exact ⟨[], st.gaps, rfl, fun _ h => (by cases h), H0, Touch.refl _ _⟩
  case round =>
    clear H0
    obtain ⟨pre, post, HGS, HPR, HR, HT⟩ := hrel
    have HR2 := HR
    obtain ⟨k, A, c, G, d, i1, hF, hL⟩ := HR2.out
    have I1 := Lib.hid i1
    have HF := Lib.hid hF
    have c6 : wr.cell? ⟨p, 6, none⟩ = some (.slice G post.length d) := i1.blk.cell 6
    have C6 := Lib.hid c6
    clear i1 hF hL HR2
    cases hp : post with
    | nil =>
      subst hp
      have HX : Hid (RGapPost w p F st (.returned (.tuple #[.slice none 0 0, .int .u32 0, .int .u32 0, .bool false])) wr) :=
        ⟨none, 0, [], false, { st with gaps := [] }, rfl, .inl ⟨rfl, rfl, rfl, fun g hg => HPR.out g (by rw [HGS.out, List.append_nil] at hg; exact hg)⟩, HR.out, HT.out, Sl.nil _ _, fun _ e => by cases e⟩
      clear HGS HPR HR HT I1 HF C6
      rw [List.length_nil] at c6
      go_wp2
      refine bodyPost_ret (results_tmp4r rfl _ _ _) rfl ?_
      exact HX.out
    | cons g rest =>
      subst hp
      obtain ⟨gg, go, rfl, _, e0, e1⟩ := I1.out.gap.gap_at 0 (by simp)
      simp only [List.getD_cons_zero, Nat.zero_mul, Nat.add_zero] at e0 e1
      have HSI := Lib.hid (rstill_any p F _ g wr HR.out HHD.out)
      obtain ⟨g1, g2⟩ := g
      have hcap := I1.out.gap.1
      have hcapm := I1.out.gap.2.1
      unfold maxLen at hcapm
      rw [List.length_cons] at c6 C6 hcap
      obtain ⟨N, hN⟩ : ∃ N, rest.length = N := ⟨_, rfl⟩
      rw [hN] at c6 C6 hcap
      have HN := Lib.hid hN
      obtain ⟨G2, hG2⟩ : ∃ G2, (if d = 1 then some (⟨gg, go, none⟩ : Addr) else some ⟨gg, go + 2, none⟩) = G2 := ⟨_, rfl⟩
      have HS1 : Hid (∀ W, Fresh wr W → Sl gapE W G2 (d - 1) rest) := fun W hf => by
        have := (I1.out.gap.touch hf (fun _ _ h => h)).from_ (k := 1) (by simp)
        rw [← hG2]
        by_cases h1 : d = 1
        · rw [if_pos h1] at this ⊢
          exact this
        · rw [if_neg h1] at this ⊢
          simpa [Addr.add_lit, gapE] using this
      have HG2 : Hid (∀ ad, G2 = some ad → F ad.block) := fun ad e => by
        have := HF.out.G _ rfl
        rw [← hG2] at e
        split at e <;> (injection e with e; subst e; exact this)
      have hlz : (0 : Int) < (N : Int) + 1 := by omega
      have hdz : decide ((0 : Int) < (N : Int) + 1) = true := decide_eq_true hlz
      have h1c : (1 : Int) ≤ (N : Int) + 1 := by omega
      have hNc : (N : Int) + 1 ≤ (d : Int) := by omega
      clear hN
      simp only at e0 e1
      go_upto_region 3 with (go_at_call 31; refine HSI.out.mono ?_; rintro e w2 ⟨B2, d2, S2, rfl, m2, gs2, hs2⟩; have M2 := Lib.hid m2; have F2 := Lib.hid m2.fresh; have HS2 := Lib.hid (And.intro gs2 hs2); clear m2 gs2 hs2)
      have I2 := Lib.hid (I1.out.old F2.out)
      have C62 : w2.cell? ⟨p, 6, none⟩ = some (.slice (some ⟨gg, go, none⟩) (N + 1) d) := by
        have := (F2.out.blk I1.out.blk (fun h => h)).cell 6
        exact this.trans ((I1.out.blk.cell 6).symm.trans C6.out)
      have fz2 := I2.out.blk.frozen 6
      have I3 : Hid (RecvIn (w2.setCell ⟨p, 6, none⟩ (.slice G2 N (d - 1))) p k A c G2 (d - 1) { st with gaps := rest }) := by
        have := I2.out.gapped (HS1.out w2 F2.out)
        rwa [HN.out] at this
      have T3 : Hid (Touch F w (w2.setCell ⟨p, 6, none⟩ (.slice G2 N (d - 1)))) := (HT.out.trans F2.out (fun _ _ h => h.elim)).st HF.out.p
      have M3 : Hid (Mine spanE w2 (w2.setCell ⟨p, 6, none⟩ (.slice G2 N (d - 1))) none 0 [] → True) := fun _ => trivial
      have SM3 : Hid (Sl spanE (w2.setCell ⟨p, 6, none⟩ (.slice G2 N (d - 1))) B2 d2 S2) := M2.out.sl.setCell (p := ⟨p, 6, none⟩) (M2.out.sl.blk_ne I2.out.blk (by decide)) _
      have R3 : Hid (RecvAt (w2.setCell ⟨p, 6, none⟩ (.slice G2 N (d - 1))) p F { st with gaps := rest }) := RecvAt.mk' I3.out ⟨HF.out.p, HF.out.k, HF.out.A, HG2.out⟩ HL.out T3.out.size
      have HWS : Hid (w.heap.size ≤ wr.heap.size) := HT.out.size
      have HMS : Hid ((match wr.cell? ⟨p, 6, none⟩ with | some (.slice _ n _) => n | _ => 0) = N + 1) := by unfold Hid; rw [C6.out]
      clear M3 HS1 HG2 HR HT I1 c6 C6 e0 e1 HSI I2
      go_cut [] (fun wx => wx = w2.setCell ⟨p, 6, none⟩ (.slice G2 N (d - 1)))
      case first =>
        by_cases h1 : d = 1
        · rw [if_pos h1] at hG2
          subst h1
          have hN0 : N = 0 := by omega
          subst hN0
          subst hG2
          clear I3 T3 SM3 R3 hdz
          go_wp2
          go_meet
          case rel => first | rfl | trivial
        · rw [if_neg h1] at hG2
          subst hG2
          clear I3 T3 SM3 R3 hdz
          go_wp2
          go_meet
          case rel => first | rfl | trivial
      case rest =>
        subst hcut
        have c6n : Hid ((match (w2.setCell ⟨p, 6, none⟩ (.slice G2 N (d - 1))).cell? ⟨p, 6, none⟩ with | some (.slice _ n _) => n | _ => 0) = N) := by
          have := I3.out.blk.cell 6
          unfold Hid
          rw [this]
          exact HN.out
        clear C62 fz2 hG2
        generalize w2.setCell ⟨p, 6, none⟩ (.slice G2 N (d - 1)) = w3 at *
        cases S2 with
        | nil =>
          have HPR2 : Hid (∀ g' ∈ pre ++ [(g1, g2)], ∀ n, ¬ Rv.StillIn st g' n) := fun g' hg n => by
            rcases List.mem_append.1 hg with hg | hg
            · exact HPR.out g' hg n
            · rw [List.mem_singleton.1 hg]
              exact fun hs => by
                have := (HS2.out.2 n).2 hs
                simp [Sp.mem] at this
          have HGS2 : Hid (st.gaps = (pre ++ [(g1, g2)]) ++ rest) := by unfold Hid; rw [HGS.out]; simp
          clear HPR HGS HS2 M2 F2 SM3 I3
          simp only [List.length_nil]
          go_wp2
          go_roundw
          case rel => exact ⟨pre ++ [(g1, g2)], rest, HGS2, HPR2, R3, T3⟩
          case measure => rw [HMS.out, c6n.out]; omega
        | cons x S' =>
          obtain ⟨gb, ob, rfl, hgb, _⟩ := SM3.out.at_ 0 (by simp)
          have HBF : Hid (¬ F gb) := fun hf => by
            have h1 := HL.out gb hf
            have h2 := M2.out.base _ rfl
            have h3 : w.heap.size ≤ wr.heap.size := by have := HWS.out; exact this
            simp only at h2
            omega
          have hx0 : 0 ≤ x.1 ∧ x.1 < x.2 ∧ x.2 ≤ (st.h - st.r) % 16777216 := by
            have hlt := HS2.out.1.1.1 x (by simp)
            have h1 := (HS2.out.2 x.1).1 ⟨x, by simp, by omega, hlt⟩
            have h2 := (HS2.out.2 (x.2 - 1)).1 ⟨x, by simp, by omega, by omega⟩
            have a1 : 0 ≤ x.1 := h1.2.1.1
            have a2 : x.2 - 1 < (st.h - st.r) % 16777216 := h2.2.1.2.1
            omega
          have hgx : Sp.Good [x] := ⟨⟨fun y hy => by rw [List.mem_singleton.1 hy]; omega, by simp⟩, fun y hy => by
            rw [List.mem_singleton.1 hy]
            have := HHD.out
            omega⟩
          have hhd := HHD.out
          obtain ⟨mr2, hmr2⟩ := Rv.renew_eq { st with gaps := rest }
          have HRE := Lib.hid hmr2
          have HRN := Lib.hid (rrenew_any p F { st with gaps := rest } w3 R3.out HW.out hi)
          rw [hmr2] at HRN
          have hnl : (0 : Int) < ((x :: S').length : Int) := by rw [List.length_cons]; omega
          have h1d : (1 : Int) ≤ ((x :: S').length : Int) := by rw [List.length_cons]; omega
          have hcd : ((x :: S').length : Int) ≤ (d2 : Int) := by have := SM3.out.1; omega
          have hcdm := SM3.out.2.1
          unfold maxLen at hcdm
          generalize hNS : (x :: S').length = ns at *
          have hnd : decide ((0 : Int) < (ns : Int)) = true := decide_eq_true hnl
          clear hmr2
          have h1d2 : (1 : Int) ≤ (d2 : Int) := by omega
          go_upto_region 6 with (go_at_call 32; refine HRN.out.mono ?_; rintro e w4 ⟨rfl, r4, t4⟩; have R4 := Lib.hid r4; have T4 := Lib.hid t4; clear r4 t4)
          have S4 : Hid (Rd spanE w4 (some ⟨gb, ob, none⟩) d2 [x]) := by
            have := (SM3.out.touch T4.out (fun ad e => by injection e with e; subst e; exact HBF.out)).rd.upto (k := 1) (by simp)
            exact this
          have HLI : Hid (∀ W, Fresh w4 W → Calls Try.prog 33 #[.int .u32 st.r, .slice (some ⟨gb, ob, none⟩) 1 d2] W fun e w' => ∃ B' d', e = .returned (.slice B' 2 d') ∧ Mine numE W w' B' d' [(st.r + x.1) % 16777216, (st.r + x.2) % 16777216]) := fun W hf => (listg_any st.r _ d2 [x] W (S4.out.touch hf (fun _ _ _ h => h)) hgx (by simp)).mono fun e w' ⟨B', d', T, e1, m1, hh⟩ => by
            obtain rfl : T = [x] := half_near hh hgx (fun n hn => by
              obtain ⟨y, hy, h1, h2⟩ := hn
              rw [List.mem_singleton.1 hy] at h1 h2
              omega)
            rw [Gp.gl_one] at e1 m1
            exact ⟨B', d', e1, m1⟩
          obtain ⟨k4, A4, c4', G4, d4, i4, _, _⟩ := R4.out
          have I4 := Lib.hid i4
          have KE : Hid (∀ W, Fresh w4 W → W.cell? ⟨p, 0, none⟩ = some (.int .u32 st.r) ∧ W.cell? ⟨p, 2, none⟩ = some (.int .u32 mr2)) := fun W hf => ⟨(I4.out.old hf).blk.cell 0, (I4.out.old hf).blk.cell 2⟩
          have hf4 : Fresh w4 w4.drew := (Touch.refl _ _).drew
          have HT4 : Hid (Touch F w w4) := T3.out.trans T4.out (fun _ _ h => h)
          have HGT : Hid (Rv.GapTold st [(st.r + x.1) % 16777216, (st.r + x.2) % 16777216] true { st with gaps := rest, mr := mr2 }) :=
            .inr ⟨rfl, pre, rest, (g1, g2), x, S', HGS.out, HPR.out, HS2.out.1, HS2.out.2, rfl, HRE.out.symm⟩
          clear i4 HRN SM3 M2 F2 HS2 HPR HGS I3 T3 T4 R3 HRE HMS c6n
          go_region_held3 (fun wx => wx.cell? ⟨p, 0, none⟩ = some (.int .u32 st.r) ∧ wx.cell? ⟨p, 2, none⟩ = some (.int .u32 mr2))
            (first
              | with_reducible exact KE.out _ (by with_reducible assumption)
              | with_reducible assumption)
            (first
              | (go_simp; go_at_call 33; with_reducible refine (HLI.out _ (by with_reducible assumption)).mono ?_; rintro e' w7 ⟨B7, d7, rfl, hM7⟩; have hf7 : Fresh w4 w7 := hf4.trans hM7.fresh (fun _ _ h => h)))
          all_goals
            have R7 := Lib.hid (R4.out.old hf7)
            have T7 : Hid (Touch F w w7) := HT4.out.trans hf7 (fun _ _ h => h.elim)
            have S7 : Hid (Sl numE w7 B7 d7 [(st.r + x.1) % 16777216, (st.r + x.2) % 16777216]) := hM7.sl
            have B7b : Hid (∀ ad, B7 = some ad → w.heap.size ≤ ad.block) := fun ad e => by
              have h1 := hM7.base ad e
              have h2 := HT4.out.size
              have h3 := hf4.size
              omega
            have HX : Hid (RGapPost w p F st (.returned (.tuple #[.slice B7 2 d7, .int .u32 st.r, .int .u32 mr2, .bool true])) w7) := ⟨B7, d7, _, true, _, rfl, HGT.out, R7.out, T7.out, S7.out, B7b.out⟩
            clear hM7 hf7 hf4 KE HLI R4 HT4 R7 T7 S7 B7b HGT
            go_wp2
            refine bodyPost_ret (results_tmp4r rfl _ _ _) rfl ?_
            exact HX.out
end Go.Proofs.Ytngljhpplmbglaa
