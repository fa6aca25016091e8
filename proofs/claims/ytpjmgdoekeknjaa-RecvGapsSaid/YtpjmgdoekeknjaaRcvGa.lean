/-
  RecvGaps: each gap is told once, and only while some of it is missing.
-/
import Derived.Test.YtpjmgdoekeknjaaRcvO
import Derived.Test.YtpjmgdoekeknjaaRcvGp
import Derived.Test.YtpjmgdoekeknjaaNmW
import Derived.Test.YtpjmgdoekeknjaaOpen
import Derived.BigFrame
namespace Go.Proofs.Ytpjmgdoekeknjaa
open Go.RowKit Go.ChangeShapes Go.WideShapes Go.ChangeAt

def intK : KT Try.prog Int := KT.int 3 .i64 Try.underlying3
theorem and_63 (a : Int) : bits .and .i64 a 63 = a % 64 := and_mask a 6 63 rfl (by omega)
theorem rvars_r (st : Rv.S) (w : World) : (Instr.field 36 (Rv.varsV st) 0).run Try.prog w = .ok (.int .u32 st.r) w := by
  rw [Rv.varsV_eq]
  kernel_rfl

section
variable {P : Program} {κ : Type} [DecidableEq κ] {K : KT P κ}
/-- A lookup that is wanted. -/
theorem wpList_lookMw {ops : Array Oper} {rest : List Oper} {o : Oper} {a : Act} {w : World} {Q : Exit → Act → World → Prop} (hw : Region.wanted o (yielded ops a.tmps) = true) {x y : Operand} {T e : TypeId} {ok : Bool} (hop : o.op = Op.lookup T x y ok)
    {b : Nat} {m : MList κ} {k : κ} (ex : a.eval x = .map (some b)) (ey : a.eval y = K.enc k) (h : MapAt K w b m) (hT : P.underlying T = some (.map K.t e)) {z : Value} (hz : (zeroValue e).run P w = .ok z w)
    (hK : wpList P ops Q rest (a.put o.dst (if ok then .tuple #[(mget m k).getD z, .bool (mget m k).isSome] else (mget m k).getD z)) w) : wpList P ops Q (o :: rest) a w := by
  refine BigFrame.wpList_want hw fun _ hk => ?_
  unfold Oper.wp
  simp only [execOp, hop, ex, ey, Sem.run_bind, Result.andThen_ok, h.look hT hz k ok, Sem.run_pure]
  exact hk _ _ hK
end

/-- The receiver, and the maps of what came and of what was told. -/
structure GaIn (B w : World) (p kc kt : Nat) (F : Nat → Prop) (st : Rv.S) (mc mt : MList Int) : Prop where
  own : OwnRecv B w p F st
  mc : MapAt intK w kc mc
  mt : MapAt intK w kt mt
  out : ¬ F kc ∧ ¬ F kt
  ne : kc ≠ kt
  low : B.heap.size ≤ kc ∧ B.heap.size ≤ kt
section
variable {B w w' : World} {p kc kt : Nat} {F F' : Nat → Prop} {st st' : Rv.S} {mc mt m : MList Int}
theorem OwnRecv.cell6 (h : OwnRecv B w p F st) : ∃ G d, w.cell? ⟨p, 6, none⟩ = some (.slice G st.gaps.length d) := by
  obtain ⟨k, A, c, G, d, i1, _, _⟩ := h.at_
  exact ⟨G, d, i1.blk.cell 6⟩
theorem GaIn.old (h : GaIn B w p kc kt F st mc mt) (ht : Fresh w w') : GaIn B w' p kc kt F st mc mt := ⟨h.own.old ht, h.mc.touch ht (fun h => h), h.mt.touch ht (fun h => h), h.out, h.ne, h.low⟩
theorem OwnRecv.touch {T : Nat → Prop} (h : OwnRecv B w p F st) (ht : Touch T w w') (hT : ∀ x, F x → ¬ T x) (hB : ∀ x, T x → B.heap.size ≤ x) : OwnRecv B w' p F st :=
  ⟨h.at_.touch ht hT, h.fresh.trans ht (fun k hk e => by have := hB k e; omega), h.base⟩
theorem GaIn.came (h : GaIn B w p kc kt F st mc mt) (hm : MapAt intK w' kc m) (ht : Touch (· = kc) w w') : GaIn B w' p kc kt F st m mt :=
  ⟨h.own.touch ht (fun x hx e => h.out.1 (e ▸ hx)) (fun x e => e ▸ h.low.1), hm, h.mt.touch ht (fun e => h.ne e.symm), h.out, h.ne, h.low⟩
theorem GaIn.told (h : GaIn B w p kc kt F st mc mt) (hm : MapAt intK w' kt m) (ht : Touch (· = kt) w w') : GaIn B w' p kc kt F st mc m :=
  ⟨h.own.touch ht (fun x hx e => h.out.2 (e ▸ hx)) (fun x e => e ▸ h.low.2), h.mc.touch ht (fun e => h.ne e), hm, h.out, h.ne, h.low⟩
theorem GaIn.recv (h : GaIn B w p kc kt F st mc mt) (ho : OwnRecv B w' p F' st') (ht : Touch F w w') (hF : ∀ x, F' x → F x ∨ w.heap.size ≤ x) : GaIn B w' p kc kt F' st' mc mt := by
  refine ⟨ho, h.mc.touch ht h.out.1, h.mt.touch ht h.out.2, ⟨fun hf => ?_, fun hf => ?_⟩, h.ne, h.low⟩
  · rcases hF _ hf with e | e
    · exact h.out.1 e
    · have := h.mc.lt; omega
  · rcases hF _ hf with e | e
    · exact h.out.2 e
    · have := h.mt.lt; omega
end

set_option maxHeartbeats 8000000 in
set_option maxRecDepth 4000 in
theorem recvGaps.core (start : Int) (A : Option Addr) (c : Nat) (l : List Int) (w : World) (h : Rd intE w A c l) :
    Calls Try.prog 3 #[.int .i64 start, .slice A l.length c] w fun e w' => e = .returned (.bool true) ∧ Below w.heap.size w w' := by
  have hlc := h.1
  have hcm := h.2.1
  unfold maxLen at hcm
  have H := Lib.hid h
  clear h
  have hmm := @run_makeMap Try.prog
  go_enter Try.func3, Try.ntmps3
  go_wp2_with fail
  refine (awake12 w).mono ?_
  rintro e w1 ⟨rfl, f1⟩
  have FW : Hid (Fresh w w1) := f1
  clear f1
  simp only
  go_wp2_with fail
  refine (sof_any start w1).mono ?_
  rintro e w2 ⟨rfl, rfl⟩
  have HSO := Lib.hid (sof_any start)
  obtain ⟨s0, hs0⟩ : ∃ s0, s0 = start % 16777216 := ⟨_, rfl⟩
  rw [← hs0] at HSO
  have hsb : 0 ≤ s0 ∧ s0 < 16777216 := by omega
  simp only
  rw [← hs0]
  clear hs0
  go_wp2_with fail
  refine (onewR s0 64 FW.out (st := Rv.new s0 64) rfl).mono ?_
  rintro e w3 ⟨p, F, rfl, h3, _⟩
  have H3 := Lib.hid h3
  clear h3
  simp only
  go_wp2_with fail
  obtain ⟨kc, hkc⟩ : ∃ kc, kc = w3.heap.size := ⟨_, rfl⟩
  obtain ⟨kt, hkt⟩ : ∃ kt, kt = w3.heap.size + 1 := ⟨_, rfl⟩
  rw [← hkt, ← hkc]
  have GI : Hid (GaIn w ((w3.alloc (.map #[] 0)).alloc (.map #[] 0)) p kc kt F (Rv.new s0 64) [] []) := by
    have hlim := H3.out.at_.lim
    have hsz := H3.out.fresh.size
    refine ⟨H3.out.old (((Touch.refl _ _).alloc _).alloc _), by rw [hkc]; exact (MapAt.made intK w3).alloc _, ?_, ⟨fun hf => ?_, fun hf => ?_⟩, by omega, by omega⟩
    · have := MapAt.made intK (w3.alloc (.map #[] 0))
      rw [hkt]
      simpa using this
    · have := hlim _ hf; omega
    · have := hlim _ hf; omega
  generalize (w3.alloc (.map #[] 0)).alloc (.map #[] 0) = w5 at *
  have GP : Hid (Rv.Gi s0 { data := #[109] } 0 (fun _ => False) 0 (Rv.new s0 64)) := Rv.Gi.new s0 hsb _
  clear H3 hkc hkt
  go_loopw [8] (fun i wr => ∃ (i0 T : Nat) (F : Nat → Prop) (st : Rv.S) (mc mt : MList Int) (C : Nat → Prop), i0 ≤ l.length ∧ i0 ≤ 60 ∧ i = .int .i64 i0 ∧ Hid (GaIn w wr p kc kt F st mc mt) ∧ Hid (Rv.Gi s0 { data := #[109] } T C i0 st) ∧ Hid (st.gaps = []) ∧
    Hid (∀ k : Nat, T ≤ k → mget mc (k : Int) = none ∧ mget mt (k : Int) = none) ∧ Hid (∀ x v, mget mc x = some v → ∃ c : Nat, c ≤ i0 ∧ v = .int .i64 c)) (fun i _ => l.length - (intOf i).toNat)
  case atStart => exact ⟨0, 0, F, _, [], [], _, by omega, by omega, rfl, GI, GP, rfl, fun k _ => ⟨rfl, rfl⟩, fun x v h => by cases h⟩
  case round =>
    clear GI GP
    obtain ⟨i0, T, Fx, st, mc, mt, C, hil, hi60, rfl, GI, GP, GG, MN, MC⟩ := hrel
    have hcont : (i0 < l.length ∧ i0 < 60) ∨ ¬ (i0 < l.length ∧ i0 < 60) := Decidable.em _
    rcases hcont with ⟨hk1, hk2⟩ | hstop
    · have hk1' : (i0 : Int) < (l.length : Int) := by omega
      have hdk1 : decide ((i0 : Int) < (l.length : Int)) = true := decide_eq_true hk1'
      have hk2' : (i0 : Int) < 60 := by omega
      have hdk2 : decide ((i0 : Int) < 60) = true := decide_eq_true hk2'
      have hk0 : (0 : Int) ≤ (i0 : Int) := by omega
      obtain ⟨g, o, rfl, _, c0⟩ := (H.out.touch GI.out.own.fresh (fun _ _ _ h => h)).int_at i0 hk1
      have hand := and_63 (l.getD i0 0)
      generalize l.getD i0 0 = y at *
      obtain ⟨n, hn⟩ : ∃ n : Nat, y % 64 = (n : Int) := ⟨(y % 64).toNat, by omega⟩
      have hn64 : n < 64 := by omega
      rw [hn] at hand
      clear hn
      obtain ⟨st', L, hd, gp', hg'⟩ := GP.out.data GG.out n hn64
      have GP2 := Lib.hid gp'
      have GG2 := Lib.hid hg'
      have HD := Lib.hid (odataR ((s0 + (n : Int)) % 16777216) { data := #[109] } GI.out.own (by
        obtain ⟨a, hc⟩ := GP.out.came
        have h1 := hc.len
        have h2 := hc.an
        have h3 := GP.out.top
        rw [hc.inb, GG.out]
        simp
        omega) hd)
      clear gp' hg' hd GP GG
      go_upto_region 12 with (fail)
      clear hand c0
      go_wp2_with fail
      refine (HSO.out _).mono ?_
      rintro e w6 ⟨rfl, rfl⟩
      simp only
      go_wp2_with fail
      refine (sadd_any s0 n w6).mono ?_
      rintro e w7 ⟨rfl, rfl⟩
      simp only
      go_wp2_with fail
      refine HD.out.mono ?_
      rintro e w8 ⟨F8, A8, c8, rfl, _, h8, t8, f8, _⟩
      have GI8 := Lib.hid (GI.out.recv h8 t8 f8)
      clear h8 t8 f8 HD GI
      obtain ⟨v, hv, hvb⟩ : ∃ v : Nat, (mget mc (n : Int)).getD (.int .i64 0) = .int .i64 (v : Int) ∧ v ≤ i0 := by
        cases hm : mget mc (n : Int) with
        | none => exact ⟨0, rfl, Nat.zero_le _⟩
        | some u =>
          obtain ⟨c, h1, h2⟩ := MC.out _ _ hm
          exact ⟨c, by rw [h2]; rfl, h1⟩
      have HV := Lib.hid hv
      have MN2 : Hid (∀ k : Nat, max T (n + 1) ≤ k → mget (mset mc (n : Int) (.int .i64 ((v : Int) + 1))) (k : Int) = none ∧ mget mt (k : Int) = none) := fun k hk => by
        rw [mget_mset, if_neg (by omega)]
        exact MN.out k (by omega)
      have CN : Hid (∀ k : Nat, T ≤ k → k < n → mget (mset mc (n : Int) (.int .i64 ((v : Int) + 1))) (k : Int) = none) := fun k hk hkn => by
        rw [mget_mset, if_neg (by omega)]
        exact (MN.out k hk).1
      have TN : Hid (∀ k : Nat, T ≤ k → mget mt (k : Int) = none) := fun k hk => (MN.out k hk).2
      have MC2 : Hid (∀ x u, mget (mset mc (n : Int) (.int .i64 ((v : Int) + 1))) x = some u → ∃ c : Nat, c ≤ i0 + 1 ∧ u = .int .i64 c) := fun x u hx => by
        rw [mget_mset] at hx
        split at hx
        · injection hx with hx
          exact ⟨v + 1, by omega, by rw [← hx]; rfl⟩
        · obtain ⟨c, h1, h2⟩ := MC.out _ _ hx
          exact ⟨c, by omega, h2⟩
      clear hv MN MC
      simp only
      go_upto_block 2 with (first
        | (refine wpList_lookM rfl rfl (K := intK) (k := (n : Int)) rfl rfl GI8.out.mc Try.underlying29 (zeroInt _) ?_; rw [if_neg (by decide), HV.out])
        | (refine wpList_storeM rfl rfl (K := intK) (k := (n : Int)) rfl rfl GI8.out.mc Try.underlying29 ?_; intro w9 hm9 ht9; have GI9 := Lib.hid (GI8.out.came (show MapAt intK w9 kc (mset mc (n : Int) (.int .i64 ((v : Int) + 1))) from hm9) ht9); clear hm9 ht9))
      generalize hmc2 : mset mc (n : Int) (.int .i64 ((v : Int) + 1)) = mc2 at *
      clear hmc2 HV hvb GI8
      obtain ⟨T', hT'⟩ : ∃ T', T' = max T (n + 1) := ⟨_, rfl⟩
      rw [← hT'] at GP2 MN2
      have hTT : T ≤ T' ∧ n < T' := by omega
      have CT : Hid (∀ k : Nat, T' ≤ k → mget mc2 (k : Int) = none) := fun k hk => (MN2.out k hk).1
      have TT : Hid (∀ k : Nat, T' ≤ k → mget mt (k : Int) = none) := fun k hk => (MN2.out k hk).2
      clear hT' MN2
      simp only [Act.put]
      go_wp2_with fail
      obtain ⟨wd, hwd⟩ : ∃ wd, wd = w9 := ⟨_, rfl⟩
      subst hwd
      go_loopw [10] (fun _ wr => ∃ (Fx : Nat → Prop) (st : Rv.S) (mt : MList Int), Hid (GaIn w wr p kc kt Fx st mc2 mt) ∧ Hid (Rv.Gi s0 { data := #[109] } T' (fun j => C j ∨ j = n) (i0 + 1) st) ∧ Hid (st.gaps = [] ∨ st.gaps = [((s0 + (T : Int)) % 16777216, (s0 + (n : Int)) % 16777216)] ∧ T < n) ∧
        Hid (∀ k : Nat, T' ≤ k → mget mt (k : Int) = none) ∧ Hid (st.gaps ≠ [] → ∀ k : Nat, T ≤ k → mget mt (k : Int) = none)) (fun _ wr => match wr.cell? ⟨p, 6, none⟩ with | some (.slice _ n _) => n | _ => 0)
      case atStart => exact ⟨F8, st', mt, GI9, GP2, GG2, TT, fun _ => TN.out⟩
      case round =>
        clear GI9 GP2 GG2 TT TN
        obtain ⟨Fy, sy, my, GI, GP, GG, TT, TN⟩ := hrel
        obtain ⟨G6, d6, hc6⟩ := GI.out.own.cell6
        have C6 := Lib.hid hc6
        clear hc6
        have HG := Lib.hid (ogapR GI.out.own (by
          obtain ⟨a, hc⟩ := GP.out.came
          have h2 := hc.an
          have h3 := GP.out.top
          rw [hc.r, GP.out.h]
          omega) (by rw [GP.out.win]; decide) (by
          obtain ⟨a, hc⟩ := GP.out.came
          have h2 := hc.an
          have h3 := GP.out.top
          rw [hc.inb]
          simp
          omega) (by rcases GG.out with e | ⟨e, _⟩ <;> rw [e] <;> simp))
        go_wp2_with fail
        refine HG.out.mono ?_
        rintro e w10 ⟨B10, d10, lg, is, s10, rfl, hgt, h10, t10, sl10, nb10⟩
        obtain ⟨hst, htold⟩ := GP.out.told GG.out hn64 hgt
        subst hst
        have GI10 := Lib.hid (GI.out.recv h10 t10 (fun _ hx => Or.inl hx))
        have GP10 := Lib.hid GP.out.none
        clear h10 t10 hgt HG GI
        cases is with
        | false =>
          simp only [Bool.false_eq_true, if_false]
          go_wp2
          go_roundw
          case rel => exact ⟨i0 + 1, T', Fy, _, mc2, my, _, by omega, by omega, by go_num, GI10, GP10, rfl, fun k hk => ⟨CT.out k hk, TT.out k hk⟩, MC2.out⟩
          case measure => simp [intOf]; omega
        | true =>
          obtain ⟨hne, u, v2, huT, huv, hvn, rfl⟩ := htold rfl
          have TN2 := Lib.hid (TN.out hne)
          have HNE : Hid (sy.gaps ≠ []) := hne
          clear hne TN htold
          simp only [if_true, List.length_cons, List.length_nil]
          obtain ⟨gl, ol, rfl, hgl, hl0⟩ := sl10.num_at 0 (by simp)
          obtain ⟨_, _, e7, _, hl1⟩ := sl10.num_at 1 (by simp)
          have e8 := Option.some.inj e7
          injection e8 with e8 e9 _
          subst e8 e9
          have hl0 : w10.cell? ⟨gl, ol, none⟩ = some (.int .u32 ((s0 + (u : Int)) % 16777216)) := hl0
          have hl1 : w10.cell? ⟨gl, ol + 1, none⟩ = some (.int .u32 ((s0 + (v2 : Int)) % 16777216)) := hl1
          have hgk : gl ≠ kt := fun e => by
            obtain ⟨_, cs, hb, _⟩ := sl10.2.2.2 _ rfl
            exact GI10.out.mt.blk_ne hb e.symm
          have HS10 := Lib.hid sl10
          clear sl10 nb10
          have c6' : Hid (0 < (match wr.cell? ⟨p, 6, none⟩ with | some (.slice _ n _) => n | _ => 0)) := by
            unfold Hid
            rw [C6.out]
            exact List.length_pos_iff.2 HNE.out
          have HVR := Lib.hid (ovarsR GI10.out.own)
          have hfr := rvars_r { sy with gaps := [] }
          simp only at hfr
          generalize hvv : Rv.varsV { sy with gaps := [] } = vv at *
          clear hvv hl0 hl1
          go_wp2_with fail
          refine HVR.out.mono ?_
          rintro e w11 ⟨rfl, _, f11⟩
          have GI11 := Lib.hid (GI10.out.old f11)
          have HS11 := Lib.hid (HS10.out.touch f11 (fun _ _ h => h))
          obtain ⟨_, _, e7, _, hl0⟩ := HS11.out.num_at 0 (by simp)
          injection e7 with e7
          injection e7 with e7 e8 _
          subst e7 e8
          have hl0 : w11.cell? ⟨gl, ol, none⟩ = some (.int .u32 ((s0 + (u : Int)) % 16777216)) := hl0
          clear f11 GI10 HS10 HVR
          simp only
          go_wp2_with fail
          obtain ⟨we, hwe⟩ : ∃ we, we = w11 := ⟨_, rfl⟩
          subst hwe
          clear hl0
          go_loopw [14] (fun x wx => ∃ (j : Nat) (mz : MList Int), u ≤ j ∧ j ≤ v2 ∧ x = .int .u32 ((s0 + (j : Int)) % 16777216) ∧ Hid (GaIn w wx p kc kt Fy { sy with gaps := [] } mc2 mz) ∧ Hid (Sl numE wx (some ⟨gl, ol, none⟩) d10 [(s0 + (u : Int)) % 16777216, (s0 + (v2 : Int)) % 16777216]) ∧
            Hid (∀ k : Nat, j ≤ k → mget mz (k : Int) = none)) (fun x _ => (v2 - ((intOf x - s0) % 16777216).toNat))
          case atStart => exact ⟨u, my, by omega, by omega, rfl, GI11, HS11, fun k hk => TN2.out k (by omega)⟩
          case round =>
            clear GI11 HS11 TN2
            obtain ⟨j, mz, huj, hjv, rfl, GI, HS, TJ⟩ := hrel
            obtain ⟨_, _, e7, _, hl1⟩ := HS.out.num_at 1 (by simp)
            injection e7 with e7
            injection e7 with e7 e8 _
            subst e7 e8
            have hl1 : wr.cell? ⟨gl, ol + 1, none⟩ = some (.int .u32 ((s0 + (v2 : Int)) % 16777216)) := hl1
            have htop := GP10.out.top
            rcases Nat.lt_or_ge j v2 with hj | hj
            · have hxx : ¬ (s0 + (j : Int)) % 16777216 = (s0 + (v2 : Int)) % 16777216 := by omega
              have hto : ((s0 + (j : Int)) % 16777216 - s0) % 16777216 = (j : Int) := by omega
              have HTO := Lib.hid (to_any s0 ((s0 + (j : Int)) % 16777216))
              rw [hto] at HTO
              go_wp2_with fail
              refine (HSO.out _).mono ?_
              rintro e w12 ⟨rfl, rfl⟩
              simp only
              go_wp2_with fail
              refine (HTO.out _).mono ?_
              rintro e w13 ⟨rfl, rfl⟩
              simp only
              have T0 : Hid (mget mz (j : Int) = none) := TJ.out j (Nat.le_refl _)
              have C0 : Hid (mget mc2 (j : Int) = none) := CN.out j (by omega) (by omega)
              have TJ2 : Hid (∀ (v : Value) (k : Nat), j + 1 ≤ k → mget (mset mz (j : Int) v) (k : Int) = none) := fun v k hk => by
                rw [mget_mset, if_neg (by omega)]
                exact TJ.out k (by omega)
              have T1 : Hid (∀ v : Value, mget (mset mz (j : Int) v) (j : Int) = some v) := fun v => by rw [mget_mset, if_pos rfl]
              clear TJ
              go_wp2_with (first
                | (refine wpList_lookM rfl rfl (K := intK) (k := (j : Int)) rfl rfl GI.out.mt Try.underlying29 (zeroInt _) ?_; rw [if_neg (by decide), T0.out])
                | (refine wpList_storeM rfl rfl (K := intK) (k := (j : Int)) rfl rfl GI.out.mt Try.underlying29 ?_; intro w14 hm14 ht14; have GI14 := Lib.hid (GI.out.told (show MapAt intK w14 kt _ from hm14) ht14); have HS14 := Lib.hid (HS.out.touch ht14 (fun ad e => by injection e with e; subst e; exact hgk)); clear GI HS T0 hm14 ht14)
                | (refine wpList_lookM rfl rfl (K := intK) (k := (j : Int)) rfl rfl GI14.out.mt Try.underlying29 (zeroInt _) ?_; rw [if_neg (by decide), T1.out])
                | (refine wpList_lookMw rfl rfl (K := intK) (k := (j : Int)) rfl rfl GI14.out.mc Try.underlying29 (zeroInt _) ?_; rw [if_neg (by decide), C0.out]))
              have TJ4 := TJ2.out
              clear TJ2
              generalize hm14 : mset mz (j : Int) _ = m14 at *
              refine (sadd_any _ 1 w14).mono ?_
              rintro e w15 ⟨rfl, rfl⟩
              have TJ3 : Hid (∀ k : Nat, j + 1 ≤ k → mget m14 (k : Int) = none) := hm14 ▸ TJ4 _
              clear TJ4 T1 hm14
              simp only
              go_wp2
              go_roundw
              case rel => exact ⟨j + 1, m14, by omega, by omega, by go_num, GI14, HS14, TJ3⟩
              case measure => simp [intOf]; omega
            · have hjv2 : j = v2 := by omega
              subst hjv2
              have c6 : Hid ((match wr.cell? ⟨p, 6, none⟩ with | some (.slice _ n _) => n | _ => 0) = 0) := by
                obtain ⟨G7, d7, h7⟩ := GI.out.own.cell6
                unfold Hid
                rw [h7]
                rfl
              have HX : Hid (∃ (Fx : Nat → Prop) (st : Rv.S) (mt : MList Int), Hid (GaIn w wr p kc kt Fx st mc2 mt) ∧ Hid (Rv.Gi s0 { data := #[109] } T' (fun j => C j ∨ j = n) (i0 + 1) st) ∧ Hid (st.gaps = [] ∨ st.gaps = [((s0 + (T : Int)) % 16777216, (s0 + (n : Int)) % 16777216)] ∧ T < n) ∧
                Hid (∀ k : Nat, T' ≤ k → mget mt (k : Int) = none) ∧ Hid (st.gaps ≠ [] → ∀ k : Nat, T ≤ k → mget mt (k : Int) = none)) := ⟨Fy, _, mz, GI, GP10, Or.inl rfl, fun k hk => TJ.out k (by omega), fun h => (h rfl).elim⟩
              clear GI GP10 GP GG TT CT CN TJ
              go_wp2
              exact ⟨HX.out, by rw [c6.out]; exact c6'.out⟩
    · have HV := Lib.hid (ovarsR GI.out.own)
      have hfr := rvars_gaps st
      rw [GG.out] at hfr
      generalize hvv : Rv.varsV st = vv at *
      clear hvv GP GG MN MC
      by_cases h1 : i0 < l.length
      · have hk1' : (i0 : Int) < (l.length : Int) := by omega
        have hdk1 : decide ((i0 : Int) < (l.length : Int)) = true := decide_eq_true hk1'
        have hk2' : ¬ (i0 : Int) < 60 := by omega
        have hdk2 : decide ((i0 : Int) < 60) = false := decide_eq_false hk2'
        go_wp2_with fail
        refine HV.out.mono ?_
        rintro e w6 ⟨rfl, h6, _⟩
        have H6 := Lib.hid h6.fresh
        clear h6
        simp only
        go_wp2
        go_ret
        exact ⟨rfl, H6.out.below (Nat.le_refl _) (fun _ _ h => h)⟩
      · have hk1' : ¬ (i0 : Int) < (l.length : Int) := by omega
        have hdk1 : decide ((i0 : Int) < (l.length : Int)) = false := decide_eq_false hk1'
        go_wp2_with fail
        refine HV.out.mono ?_
        rintro e w6 ⟨rfl, h6, _⟩
        have H6 := Lib.hid h6.fresh
        clear h6
        simp only
        go_wp2
        go_ret
        exact ⟨rfl, H6.out.below (Nat.le_refl _) (fun _ _ h => h)⟩

set_option maxRecDepth 4000 in
theorem recvGaps.walk (start : Int) (v : Value) (w : World) (_h0 : (Lit.int .i64 start).wf = true) {H : Type} {enc : TypeId × Value → H} {b0 : Nat} {d : DataW H} {p : List MemPlace} (hv : Value.okWide Try.prog w .any b0 22 v) (h : DataW.Trod enc Try.prog w 0 (fun _ => true) true 22 v d p) :
    Calls Try.prog 3 #[.int .i64 start, v] w fun e w' => e = .returned (.bool true) ∧ Below w.heap.size w w' := by
  obtain ⟨A, c, l, rfl, hr, _⟩ := open_rd_int hv h
  exact recvGaps.core start A c l w hr
end Go.Proofs.Ytpjmgdoekeknjaa
