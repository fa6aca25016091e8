/-
  polliwogref11: Report (printed by mk_sfrep.py).
-/
import Derived.Test.YtajdnllkkekmnaaGreatSfB
import Derived.Test.YtajdnllkkekmnaaGreatSfH
import Derived.Test.YtajdnllkkekmnaaGreatRef09s
import Derived.Test.YtajdnllkkekmnaaGreatSub
import Derived.BigRegion
namespace Go.Proofs.YtajdnllkkekmnaaGreat
open Go.RowKit

def SfRepPost (w : World) (D : Nat → Prop) (z : Sf.S × Int × Int) (e : Ending) (w' : World) : Prop :=
  ∃ V, e = .returned (.tuple #[V, .int .i64 z.2.1, .int .i64 z.2.2]) ∧ SfOut w D z.1 V w'
theorem SfIn.sizes {w : World} {P : SfP} {x : Sf.S} (h : SfIn w P x) : x.kept.length ≤ P.ck ∧ (P.K = Option.none → P.ck = 0) ∧ x.last.length ≤ P.cl ∧ (P.L = Option.none → P.cl = 0) := ⟨h.kept.1, h.kept.2.2.1, h.last.1, h.last.2.2.1⟩

section
variable {lo hi : Int}

set_option maxHeartbeats 8000000 in
set_option maxRecDepth 8000 in
theorem sfrep_true (P : SfP) (D : Nat → Prop) (x : Sf.S) (r mr ps : Int) (A : Option Addr) (c : Nat) (l : List Int) (w : World) (h : SfIn w P x) (hd : SfD P D) (hD : ∀ k, D k → k < w.heap.size) (hok : Sf.Ok x lo hi) (hr : Rd intE w A c l) (hl : l.length ≤ 1000000) :
    Calls Tryz.prog 18 #[sfV x P, .bool true, .int .i64 r, .int .i64 mr, .int .i64 ps, .slice A l.length c] w (SfRepPost w D (Sf.stat x r mr ps l)) := by
  have HB0 : Hid (SfBox w ((w.alloc (.cells #[.int .i64 x.s, .int .i64 x.a, .int .i64 x.ms, .int .i64 x.ps, .int .i64 x.pa, .int .i64 x.units, .int .i64 x.polls, .int .i64 (x.most : Int), .slice P.W x.wait.length P.cw, .slice P.K x.kept.length P.ck, .slice P.L x.last.length P.cl, .slice P.G x.again.length P.cg] 33)).alloc
    (.cells #[.int .i64 0, .int .i64 0, .int .i64 0, .int .i64 0, .int .i64 0, .int .i64 0, .int .i64 0, .int .i64 0, .slice none 0 0, .slice none 0 0, .slice none 0 0, .slice none 0 0] 33)) D P x) := SfBox.new h hd
  have hv : sfV x P = .agg #[.int .i64 x.s, .int .i64 x.a, .int .i64 x.ms, .int .i64 x.ps, .int .i64 x.pa, .int .i64 x.units, .int .i64 x.polls, .int .i64 (x.most : Int), .slice P.W x.wait.length P.cw, .slice P.K x.kept.length P.ck, .slice P.L x.last.length P.cl, .slice P.G x.again.length P.cg] := rfl
  have HDD := Lib.hid hD
  have HOK := Lib.hid hok
  have HR := Lib.hid hr
  have HT1 := Lib.hid (r01to_any x.pa ps)
  have HT2 := Lib.hid (r01to_any x.a r)
  have HD1 : Hid (0 ≤ (ps - x.pa) % 16777216 ∧ (ps - x.pa) % 16777216 < 16777216) := by unfold Hid; omega
  have HD2 : Hid (0 ≤ (r - x.a) % 16777216 ∧ (r - x.a) % 16777216 < 16777216) := by unfold Hid; omega
  have HPE : Hid (Sf.pollAt x ps = x.pa + (ps - x.pa) % 16777216) := rfl
  have HAE : Hid (Sf.at_ x r = x.a + (r - x.a) % 16777216) := rfl
  generalize (ps - x.pa) % 16777216 = d1 at *
  generalize (r - x.a) % 16777216 = d2 at *
  have hpb : 0 ≤ x.pa ∧ x.pa ≤ 16800000 ∧ 0 ≤ x.ps ∧ x.ps ≤ 16800000 := by have := hok.lo0; have := hok.lpa; have := hok.pas; have := hok.phi; have := hok.hl; omega
  have hab : 0 ≤ x.a ∧ x.a ≤ x.s ∧ x.s ≤ 16800000 := by have := hok.lo0; have := hok.la; have := hok.klen; have := hok.shi; have := hok.hl; omega
  have hw1 : IntKind.i64.wrap (x.pa + d1) = x.pa + d1 := IntWalk.i64_in _ (by have := HD1.out; omega)
  have hw2 : IntKind.i64.wrap (x.a + d2) = x.a + d2 := IntWalk.i64_in _ (by have := HD2.out; omega)
  have hkl := hok.kl
  rw [hv]
  clear hv h hd hok hD hr
  go_enter Tryz.func18, Tryz.ntmps18
  go_upto_region 1 with (fail)
  generalize World.alloc (World.alloc w _) _ = w2 at *
  have b4 : w2.cell? ⟨w.heap.size, 4, none⟩ = some (.int .i64 x.pa) := HB0.out.blk.cell 4
  go_quiet ((go_at_call 49; with_reducible refine Calls.quiet_of_same (HT1.out _)))
  have HB1 := Lib.hid (HB0.out.old ((Touch.refl _ _).drewN nq))
  clear HB0 b4 HT1
  generalize w2.drewN nq = w3 at *
  have HPB : Hid (x.pa ≤ x.pa + d1) := by have := HD1.out; unfold Hid; omega
  rw [← HPE.out] at hw1 HPB ⊢
  have HPA := Lib.hid hw1
  clear hw1
  generalize hpp : Sf.pollAt x ps = p at *
  have HPP := Lib.hid hpp
  clear hpp
  have b3 : w3.cell? ⟨w.heap.size, 3, none⟩ = some (.int .i64 x.ps) := HB1.out.blk.cell 3
  by_cases hp : x.ps < p
  · have hpd : decide (x.ps < p) = true := decide_eq_true hp
    have HST : Hid (Sf.stat x r mr ps l = (x, 0, 12)) := by unfold Hid Sf.stat; rw [HPP.out, if_pos hp]
    go_upto_region 3 with (fail)
    clear b3
    obtain ⟨b0, b1, b2, b3, b4, b5, b6, b7, b8, b9, ba, bb⟩ := HB1.out.cells
    obtain ⟨r0, r1, r2, r3, r4, r5, r6, r7, r8, r9, ra, rb⟩ := HB1.out.zeros
    have fz := fun i => HB1.out.res.frozen i
    have HX : Hid (∀ W, Touch (· = w.heap.size + 1) w3 W → SfOut w D x (.agg #[.int .i64 x.s, .int .i64 x.a, .int .i64 x.ms, .int .i64 x.ps, .int .i64 x.pa, .int .i64 x.units, .int .i64 x.polls, .int .i64 (x.most : Int), .slice P.W x.wait.length P.cw, .slice P.K x.kept.length P.ck, .slice P.L x.last.length P.cl, .slice P.G x.again.length P.cg]) W) := fun W ht => HB1.out.done ht HDD.out
    clear HB1 HDD
    go_wp2
    rw [HST.out]
    exact bodyPost_ret (v := .tuple #[.agg #[.int .i64 x.s, .int .i64 x.a, .int .i64 x.ms, .int .i64 x.ps, .int .i64 x.pa, .int .i64 x.units, .int .i64 x.polls, .int .i64 (x.most : Int), .slice P.W x.wait.length P.cw, .slice P.K x.kept.length P.ck, .slice P.L x.last.length P.cl, .slice P.G x.again.length P.cg], .int .i64 0, .int .i64 12]) (by simp [results, Tryz.results18, go_sem, r0, r1, r2, r3, r4, r5, r6, r7, r8, r9, ra, rb]) rfl ⟨_, rfl, HX.out _ (Touch.st12 (S := (· = w.heap.size + 1)) (Touch.refl _ _) rfl)⟩
  · have hpd : decide (x.ps < p) = false := decide_eq_false hp
    have b1 : w3.cell? ⟨w.heap.size, 1, none⟩ = some (.int .i64 x.a) := HB1.out.blk.cell 1
    go_upto_region 7 with (fail)
    go_quiet ((go_at_call 49; with_reducible refine Calls.quiet_of_same (HT2.out _)))
    have HB2 := Lib.hid (HB1.out.old ((Touch.refl _ _).drewN nq))
    clear HB1 b3 b1 HT2
    generalize w3.drewN nq = w4 at *
    have HAB : Hid (x.a ≤ x.a + d2) := by have := HD2.out; unfold Hid; omega
    rw [← HAE.out] at hw2 HAB ⊢
    clear hw2
    generalize haa : Sf.at_ x r = a at *
    have HAA := Lib.hid haa
    clear haa
    have b0 : w4.cell? ⟨w.heap.size, 0, none⟩ = some (.int .i64 x.s) := HB2.out.blk.cell 0
    by_cases hs : x.s < a
    · have HST : Hid (Sf.stat x r mr ps l = (x, 0, 13)) := by unfold Hid Sf.stat; rw [HPP.out, if_neg (by omega)]; rw [if_pos (show Sf.toldOk x r l = false by unfold Sf.toldOk; rw [HAA.out, decide_eq_false (by omega)]; rfl)]
      have hsd : decide (x.s < a) = true := decide_eq_true hs
      go_upto_region 9 with (fail)
      clear b0
      obtain ⟨b0, b1, b2, b3, b4, b5, b6, b7, b8, b9, ba, bb⟩ := HB2.out.cells
      obtain ⟨r0, r1, r2, r3, r4, r5, r6, r7, r8, r9, ra, rb⟩ := HB2.out.zeros
      have fz := fun i => HB2.out.res.frozen i
      have HX : Hid (∀ W, Touch (· = w.heap.size + 1) w4 W → SfOut w D x (.agg #[.int .i64 x.s, .int .i64 x.a, .int .i64 x.ms, .int .i64 x.ps, .int .i64 x.pa, .int .i64 x.units, .int .i64 x.polls, .int .i64 (x.most : Int), .slice P.W x.wait.length P.cw, .slice P.K x.kept.length P.ck, .slice P.L x.last.length P.cl, .slice P.G x.again.length P.cg]) W) := fun W ht => HB2.out.done ht HDD.out
      clear HB2 HDD
      go_wp2
      rw [HST.out]
      exact bodyPost_ret (v := .tuple #[.agg #[.int .i64 x.s, .int .i64 x.a, .int .i64 x.ms, .int .i64 x.ps, .int .i64 x.pa, .int .i64 x.units, .int .i64 x.polls, .int .i64 (x.most : Int), .slice P.W x.wait.length P.cw, .slice P.K x.kept.length P.ck, .slice P.L x.last.length P.cl, .slice P.G x.again.length P.cg], .int .i64 0, .int .i64 13]) (by simp [results, Tryz.results18, go_sem, r0, r1, r2, r3, r4, r5, r6, r7, r8, r9, ra, rb]) rfl ⟨_, rfl, HX.out _ (Touch.st12 (S := (· = w.heap.size + 1)) (Touch.refl _ _) rfl)⟩
    · have hsd : decide (x.s < a) = false := decide_eq_false hs
      have HSET := Lib.hid (rset_any a x.s A c l w4 (HR.out.touch HB2.out.fresh (fun _ _ _ h => h)) hl)
      go_wp2_with fail
      refine HSET.out.mono ?_
      intro e w5 hpo
      cases ht : Gp.okSet a x.s l with
      | false =>
        obtain ⟨rfl, f⟩ := hpo.2 ht
        have HB3 := Lib.hid (HB2.out.old f)
        have HST : Hid (Sf.stat x r mr ps l = (x, 0, 13)) := by unfold Hid Sf.stat; rw [HPP.out, if_neg (by omega)]; rw [if_pos (show Sf.toldOk x r l = false by unfold Sf.toldOk; rw [HAA.out, ht, Bool.and_false])]
        clear hpo f ht HSET HB2 b0
        simp only
        go_upto_region 12 with (fail)
        obtain ⟨b0, b1, b2, b3, b4, b5, b6, b7, b8, b9, ba, bb⟩ := HB3.out.cells
        obtain ⟨r0, r1, r2, r3, r4, r5, r6, r7, r8, r9, ra, rb⟩ := HB3.out.zeros
        have fz := fun i => HB3.out.res.frozen i
        have HX : Hid (∀ W, Touch (· = w.heap.size + 1) w5 W → SfOut w D x (.agg #[.int .i64 x.s, .int .i64 x.a, .int .i64 x.ms, .int .i64 x.ps, .int .i64 x.pa, .int .i64 x.units, .int .i64 x.polls, .int .i64 (x.most : Int), .slice P.W x.wait.length P.cw, .slice P.K x.kept.length P.ck, .slice P.L x.last.length P.cl, .slice P.G x.again.length P.cg]) W) := fun W ht => HB3.out.done ht HDD.out
        clear HB3 HDD
        go_wp2
        rw [HST.out]
        exact bodyPost_ret (v := .tuple #[.agg #[.int .i64 x.s, .int .i64 x.a, .int .i64 x.ms, .int .i64 x.ps, .int .i64 x.pa, .int .i64 x.units, .int .i64 x.polls, .int .i64 (x.most : Int), .slice P.W x.wait.length P.cw, .slice P.K x.kept.length P.ck, .slice P.L x.last.length P.cl, .slice P.G x.again.length P.cg], .int .i64 0, .int .i64 13]) (by simp [results, Tryz.results18, go_sem, r0, r1, r2, r3, r4, r5, r6, r7, r8, r9, ra, rb]) rfl ⟨_, rfl, HX.out _ (Touch.st12 (S := (· = w.heap.size + 1)) (Touch.refl _ _) rfl)⟩
      | true =>
        obtain ⟨C, gc, rfl, m⟩ := hpo.1 ht
        have HTK : Hid (Sf.toldOk x r l = true) := by unfold Hid Sf.toldOk; rw [HAA.out, ht, decide_eq_true (by omega)]; rfl
        have HB3 := Lib.hid (HB2.out.old m.fresh)
        have HM : Hid (Sl intE w5 C gc (Sf.told x a l)) := m.sl
        have HMB : Hid (∀ ad, C = some ad → ad.block < w5.heap.size) := m.sl.lt
        have HTL : Hid ((Sp.nums (Gp.prs (Gp.ats a l))).length = (Sf.told x a l).length) := rfl
        rw [HTL.out]
        have hT := HOK.out.told HTK.out
        rw [HAA.out] at hT
        have HTT := Lib.hid hT
        clear hpo m ht HSET HB2 b0 HTL hT
        generalize hTE : Sf.told x a l = T at *
        have HTE := Lib.hid hTE
        clear hTE
        obtain ⟨K, hK⟩ : ∃ K : Nat, a = x.a + (K : Int) := ⟨(a - x.a).toNat, by have := HAB.out; omega⟩
        have HKE := Lib.hid hK
        have hKk : K ≤ x.kept.length := by have := HOK.out.klen; omega
        have hKl : K ≤ x.last.length := by have := HOK.out.llen; omega
        have hK0 : (0 : Int) ≤ (K : Int) := by omega
        have hka : a - x.a = (K : Int) := by omega
        have hKs : Hid (a ≤ x.s) := by unfold Hid; omega
        have b1 : w5.cell? ⟨w.heap.size, 1, none⟩ = some (.int .i64 x.a) := HB3.out.blk.cell 1
        simp only
        clear hK
        go_upto_region 14 with (fail)
        obtain ⟨hz1, hz2, hz3, hz4⟩ := HB3.out.ins.sizes
        obtain ⟨KB, hKB⟩ : ∃ B, subA P.K P.ck K = B := ⟨_, rfl⟩
        obtain ⟨LB, hLB⟩ : ∃ B, subA P.L P.cl K = B := ⟨_, rfl⟩
        have hsK : ∀ W, (Instr.slice 30 (.slice P.K x.kept.length P.ck) (some (.int .i64 (K : Int))) none none).run Tryz.prog W = .ok (.slice KB (x.kept.length - K) (P.ck - K)) W := fun W => by
          rw [← hKB]
          exact run_slice_from W 30 9 Tryz.underlying30 (fun W => by kernel_rfl) _ _ _ _ hKk hz1 hz2
        have hsL : ∀ W, (Instr.slice 31 (.slice P.L x.last.length P.cl) (some (.int .i64 (K : Int))) none none).run Tryz.prog W = .ok (.slice LB (x.last.length - K) (P.cl - K)) W := fun W => by
          rw [← hLB]
          exact run_slice_from W 31 3 Tryz.underlying31 (fun W => by kernel_rfl) _ _ _ _ hKl hz3 hz4
        have SK : Hid (Sl strE w5 KB (P.ck - K) (x.kept.drop K)) := by have := HB3.out.ins.kept.sub rfl hKk; rw [hKB] at this; exact this
        have SL : Hid (Sl intE w5 LB (P.cl - K) (x.last.drop K)) := by have := HB3.out.ins.last.sub rfl hKl; rw [hLB] at this; exact this
        have HKD : Hid (∀ ad, KB = some ad → D ad.block ∨ w.heap.size ≤ ad.block) := fun ad e => by rw [← hKB] at e; obtain ⟨ad0, e1, e2⟩ := subA_block _ _ _ _ e; rw [e2]; exact HB3.out.dom.K ad0 e1
        have HLD : Hid (∀ ad, LB = some ad → D ad.block ∨ w.heap.size ≤ ad.block) := fun ad e => by rw [← hLB] at e; obtain ⟨ad0, e1, e2⟩ := subA_block _ _ _ _ e; rw [e2]; exact HB3.out.dom.L ad0 e1
        have b9 : w5.cell? ⟨w.heap.size, 9, none⟩ = some (.slice P.K x.kept.length P.ck) := HB3.out.blk.cell 9
        have ba : w5.cell? ⟨w.heap.size, 10, none⟩ = some (.slice P.L x.last.length P.cl) := HB3.out.blk.cell 10
        have fz := fun i => HB3.out.blk.frozen i
        clear hKB hLB hz1 hz2 hz3 hz4 hka
        obtain ⟨y1, hy1⟩ : ∃ y : Sf.S, y = { x with kept := x.kept.drop K, last := x.last.drop K, a := a } := ⟨_, rfl⟩
        obtain ⟨Q, hQ⟩ : ∃ Q : SfP, Q = { P with K := KB, ck := P.ck - K, L := LB, cl := P.cl - K } := ⟨_, rfl⟩
        have BX : Hid (SfBox w (((w5.setCell ⟨w.heap.size, 9, none⟩ (.slice KB (x.kept.length - K) (P.ck - K))).setCell ⟨w.heap.size, 10, none⟩ (.slice LB (x.last.length - K) (P.cl - K))).setCell ⟨w.heap.size, 1, none⟩ (.int .i64 a)) D Q y1) := by
          have h3 := HB3.out
          have hT9 := Touch.set1 w5 w.heap.size 9 (.slice KB (x.kept.length - K) (P.ck - K))
          have h4 := h3.put (P' := { P with K := KB, ck := P.ck - K }) (x' := { x with kept := x.kept.drop K }) 9 (.slice KB (x.kept.length - K) (P.ck - K)) (by rw [← List.length_drop]; rfl) ⟨h3.ins.wait, SK.out, h3.ins.last, h3.ins.again⟩ ⟨h3.dom.W, HKD.out, h3.dom.L, h3.dom.G⟩
          have h5 := h4.put (P' := Q) (x' := { x with kept := x.kept.drop K, last := x.last.drop K }) 10 (.slice LB (x.last.length - K) (P.cl - K)) (by rw [← List.length_drop, hQ]; rfl) (by rw [hQ]; exact ⟨h4.ins.wait, h4.ins.kept, SL.out.touch hT9 (SL.out.blk_ne h3.blk (by decide)), h4.ins.again⟩) (by rw [hQ]; exact ⟨h4.dom.W, h4.dom.K, HLD.out, h4.dom.G⟩)
          rw [hy1]
          exact h5.scalar 1 _ rfl rfl rfl rfl rfl
        have CX : Hid (Sl intE (((w5.setCell ⟨w.heap.size, 9, none⟩ (.slice KB (x.kept.length - K) (P.ck - K))).setCell ⟨w.heap.size, 10, none⟩ (.slice LB (x.last.length - K) (P.cl - K))).setCell ⟨w.heap.size, 1, none⟩ (.int .i64 a)) C gc T) :=
          HM.out.touch (((Touch.set1 w5 w.heap.size 9 (.slice KB (x.kept.length - K) (P.ck - K))).st rfl).st rfl) (HM.out.blk_ne HB3.out.blk (by decide))
        have HY1 := Lib.hid hy1
        have HAGL : Hid (y1.again = x.again) := by rw [hy1]; exact rfl
        have hagl : y1.again.length ≤ 4000 := by rw [HAGL.out]; have := HOK.out.again_len; omega
        clear hy1 hQ SK SL HKD HLD HM HMB
        go_cut [] (fun wx => Hid (SfBox w wx D Q y1) ∧ Hid (Sl intE wx C gc T))
        case first =>
          clear HB3 HDD HOK
          go_region
          all_goals
            go_wp2
            go_meet
            case rel => exact ⟨BX.out.old ((Touch.refl _ _).drew), CX.out⟩
        case rest =>
          obtain ⟨HB6, HC6⟩ := hcut
          clear BX CX HB3 b1 b9 ba fz hsK hsL
          have k11 : ∀ o, (wc.alloc o).cell? ⟨w.heap.size, 11, none⟩ = some (.slice Q.G y1.again.length Q.cg) := fun o => (HB6.out.blk.alloc o).cell 11
          have M0 := Lib.hid (Mine.lit intE wc #[] [] rfl 0 rfl (by decide))
          have hgc := HB6.out.ins.again.1
          have hgm := HB6.out.ins.again.2.1
          unfold maxLen at hgm
          go_wp2_with fail
          clear k11
          go_loopw [21, 90] (fun s21 s90 wr => ∃ (j : Nat) (B : Option Addr) (d : Nat) (M : List Int), j ≤ y1.again.length ∧ s90 = .int .i64 j ∧ s21 = .slice B M.length d ∧ M.length ≤ j ∧ Hid (M = (y1.again.take j).filter fun n => decide (a ≤ n)) ∧ Hid (Mine intE wc wr B d M)) (fun _ s90 _ => y1.again.length - (intOf s90).toNat)
          case atStart => exact ⟨0, _, 0, [], by omega, rfl, rfl, by simp, by unfold Hid; simp, M0⟩
          case round =>
            clear M0
            obtain ⟨j, B, d, M, hj, rfl, rfl, hMj, HME, HM⟩ := hrel
            by_cases hlt : j < y1.again.length
            · have hj1 : (j : Int) < (y1.again.length : Int) := by omega
              have hj0 : (0 : Int) ≤ (j : Int) := by omega
              obtain ⟨gg, og, hge, _, cg⟩ := (HM.out.keeps HB6.out.ins.again).int_at j hlt
              have HTk : Hid (y1.again.take (j + 1) = y1.again.take j ++ [y1.again.getD j 0]) := by
                unfold Hid
                rw [List.take_succ_eq_append_getElem hlt]
                simp [List.getD, List.getElem?_eq_getElem hlt]
              rw [hge]
              generalize y1.again.getD j 0 = n at *
              by_cases han : a ≤ n
              · have hd1 : decide (a ≤ n) = true := decide_eq_true han
                have HM2 : Hid ((y1.again.take (j + 1)).filter (fun n => decide (a ≤ n)) = M ++ [n]) := by unfold Hid; rw [HTk.out, List.filter_append, ← HME.out]; simp [han]
                clear HTk HME
                go_wp2_with (at_builtin; refine app_int rfl rfl (l := M) (l2 := [n]) rfl rfl (HM.out.sl.alloc _) (Sl.rd (Sl.lit intE _ _ rfl _ _ rfl _ rfl (by decide))) (by simp; omega) ?_; intro B4 d4 M4 w7 hM4 hs4 ht4 hB4)
                have HM5 := Lib.hid ((HM.out.alloc (.cells #[.int .i64 n] 3)).app hs4 ht4 hB4)
                have hl4 : M4.length ≤ j + 1 := by rw [hM4.out]; simp; omega
                have HM6 : Hid (M4 = (y1.again.take (j + 1)).filter fun n => decide (a ≤ n)) := by unfold Hid; rw [HM2.out, hM4.out]
                clear hs4 ht4 hB4 hM4 HM cg HM2
                go_roundw
                case rel => exact ⟨j + 1, B4, d4, M4, hlt, by go_num, rfl, hl4, HM6, HM5⟩
                case measure => simp [intOf]; omega
              · have hd1 : decide (a ≤ n) = false := decide_eq_false han
                have HM2 : Hid (M = (y1.again.take (j + 1)).filter (fun n => decide (a ≤ n))) := by unfold Hid; rw [HTk.out, List.filter_append, ← HME.out]; simp [han]
                clear HTk HME
                go_wp2
                go_roundw
                case rel => exact ⟨j + 1, B, d, M, hlt, by go_num, rfl, by omega, HM2, HM⟩
                case measure => simp [intOf]; omega
            · obtain rfl : j = y1.again.length := by omega
              have hj1 : ¬ ((y1.again.length : Nat) : Int) < (y1.again.length : Int) := by omega
              have HAGE : Hid (M = x.again.filter fun n => decide (a ≤ n)) := by have := HME.out; rw [List.take_length, HAGL.out] at this; exact this
              have B7 := Lib.hid (HB6.out.old HM.out.fresh)
              have SC7 : Hid (Sl intE wr C gc T) := HC6.out.touch HM.out.fresh (fun _ _ h => h)
              have SM7 : Hid (Sl intE wr B d M) := HM.out.sl
              have hml : M.length ≤ 4000 := by omega
              clear HME HM HB6 HC6 hlt hMj hj
              obtain ⟨y2, hy2⟩ : ∃ y : Sf.S, y = { y1 with pa := p } := ⟨_, rfl⟩
              obtain ⟨y3, hy3⟩ : ∃ y : Sf.S, y = Sf.opn y2 mr := ⟨_, rfl⟩
              have e1 : y1.a = a := by rw [HY1.out]
              have e2 : y1.s = x.s := by rw [HY1.out]
              have e2m : y1.ms = x.ms := by rw [HY1.out]
              obtain ⟨q1, q2, q3⟩ := Sf.opn_keeps y2 mr
              have q4 : (Sf.opn y2 mr).wait = y2.wait ∧ (Sf.opn y2 mr).kept = y2.kept ∧ (Sf.opn y2 mr).again = y2.again := by unfold Sf.opn; split <;> exact ⟨rfl, rfl, rfl⟩
              rw [← hy3] at q1 q2 q3 q4
              have HYA : Hid (y3.a = a) := by unfold Hid; rw [q1, hy2]; exact e1
              have HYS : Hid (y3.s = x.s) := by unfold Hid; rw [q2, hy2]; exact e2
              have HYL : Hid (y3.last = x.last.drop K) := by unfold Hid; rw [q3, hy2, HY1.out]
              have HYW : Hid (y3.wait = y2.wait ∧ y3.kept = y2.kept ∧ y3.last = y2.last ∧ y3.again = y2.again) := ⟨q4.1, q4.2.1, q3, q4.2.2⟩
              have hm2 : 0 ≤ y2.a ∧ y2.a ≤ 16800000 ∧ 0 ≤ y2.ms ∧ y2.ms ≤ 30000000 := by
                have h1 : y2.a = a := by rw [hy2]; exact e1
                have h2 : y2.ms = x.ms := by rw [hy2]; exact e2m
                have := HOK.out.msa
                have := HOK.out.sms
                have := HOK.out.klen
                have := HKE.out
                rw [h1, h2]
                omega
              have HZE : Hid ({ y3 with again := M } = Sf.opn { Sf.ack x a with pa := p } mr) := by
                unfold Hid
                rw [hy3, Sf.opn_agx]
                congr 1
                have ek : (a - x.a).toNat = K := by have := HKE.out; omega
                rw [hy2, HY1.out]
                unfold Sf.ack
                rw [ek, HAGE.out]
              have HO3 := Lib.hid (fun W => sfopn_b Q y2 mr W hm2)
              rw [← hy3] at HO3
              have HY2 := Lib.hid hy2
              clear hy2 hy3 e1 e2 e2m q1 q2 q3 q4 hm2
              have b4 : wr.cell? ⟨w.heap.size, 4, none⟩ = some (.int .i64 y1.pa) := B7.out.blk.cell 4
              have f4 := B7.out.blk.frozen 4
              have B8 : Hid (SfBox w (wr.setCell ⟨w.heap.size, 4, none⟩ (.int .i64 p)) D Q y2) := by rw [HY2.out]; exact B7.out.scalar 4 _ rfl rfl rfl rfl rfl
              have SC8 : Hid (Sl intE (wr.setCell ⟨w.heap.size, 4, none⟩ (.int .i64 p)) C gc T) := SC7.out.setCell (p := ⟨w.heap.size, 4, none⟩) (SC7.out.blk_ne B7.out.blk (by decide)) _
              have SM8 : Hid (Sl intE (wr.setCell ⟨w.heap.size, 4, none⟩ (.int .i64 p)) B d M) := SM7.out.setCell (p := ⟨w.heap.size, 4, none⟩) (SM7.out.blk_ne B7.out.blk (by decide)) _
              clear B7 SC7 SM7
              go_upto_region 24 with (fail)
              clear b4 f4
              generalize wr.setCell ⟨w.heap.size, 4, none⟩ (.int .i64 p) = w8 at *
              obtain ⟨b0, b1, b2, b3, b4, b5, b6, b7, b8, b9, ba, bb⟩ := B8.out.cells
              have HO8 := Lib.hid (HO3.out w8)
              unfold sfV at HO8
              clear HO3
              go_wp2_with fail
              refine HO8.out.mono ?_
              rintro e w9 ⟨rfl, f9⟩
              have B9 := Lib.hid (B8.out.old f9)
              have SC9 : Hid (Sl intE w9 C gc T) := SC8.out.touch f9 (fun _ _ h => h)
              have SM9 : Hid (Sl intE w9 B d M) := SM8.out.touch f9 (fun _ _ h => h)
              clear b0 b1 b2 b3 b4 b5 b6 b7 b8 b9 ba bb f9 HO8 B8 SC8 SM8
              obtain ⟨b0, b1, b2, b3, b4, b5, b6, b7, b8, b9, ba, bb⟩ := B9.out.cells
              have fz := fun i => B9.out.blk.frozen i
              have B10 := Lib.hid (B9.out.all (x' := y3) HYW.out.1 HYW.out.2.1 HYW.out.2.2.1 HYW.out.2.2.2)
              simp only
              go_upto_region 25 with (fail)
              clear b0 b1 b2 b3 b4 b5 b6 b7 b8 b9 ba bb fz
              have TW : Touch (· = w.heap.size) w9 ((((((((((((w9.setCell ⟨w.heap.size, 0, none⟩ (.int .i64 y3.s)).setCell ⟨w.heap.size, 1, none⟩ (.int .i64 y3.a)).setCell ⟨w.heap.size, 2, none⟩ (.int .i64 y3.ms)).setCell ⟨w.heap.size, 3, none⟩ (.int .i64 y3.ps)).setCell ⟨w.heap.size, 4, none⟩ (.int .i64 y3.pa)).setCell ⟨w.heap.size, 5, none⟩ (.int .i64 y3.units)).setCell ⟨w.heap.size, 6, none⟩ (.int .i64 y3.polls)).setCell ⟨w.heap.size, 7, none⟩ (.int .i64 (y3.most : Int))).setCell ⟨w.heap.size, 8, none⟩ (.slice Q.W y3.wait.length Q.cw)).setCell ⟨w.heap.size, 9, none⟩ (.slice Q.K y3.kept.length Q.ck)).setCell ⟨w.heap.size, 10, none⟩ (.slice Q.L y3.last.length Q.cl)).setCell ⟨w.heap.size, 11, none⟩ (.slice Q.G y3.again.length Q.cg)) := Touch.st12 (S := (· = w.heap.size)) (Touch.refl _ _) rfl
              have SC10 : Hid (Sl intE ((((((((((((w9.setCell ⟨w.heap.size, 0, none⟩ (.int .i64 y3.s)).setCell ⟨w.heap.size, 1, none⟩ (.int .i64 y3.a)).setCell ⟨w.heap.size, 2, none⟩ (.int .i64 y3.ms)).setCell ⟨w.heap.size, 3, none⟩ (.int .i64 y3.ps)).setCell ⟨w.heap.size, 4, none⟩ (.int .i64 y3.pa)).setCell ⟨w.heap.size, 5, none⟩ (.int .i64 y3.units)).setCell ⟨w.heap.size, 6, none⟩ (.int .i64 y3.polls)).setCell ⟨w.heap.size, 7, none⟩ (.int .i64 (y3.most : Int))).setCell ⟨w.heap.size, 8, none⟩ (.slice Q.W y3.wait.length Q.cw)).setCell ⟨w.heap.size, 9, none⟩ (.slice Q.K y3.kept.length Q.ck)).setCell ⟨w.heap.size, 10, none⟩ (.slice Q.L y3.last.length Q.cl)).setCell ⟨w.heap.size, 11, none⟩ (.slice Q.G y3.again.length Q.cg)) C gc T) := SC9.out.touch TW (SC9.out.blk_ne B9.out.blk (by decide))
              have SM10 : Hid (Sl intE ((((((((((((w9.setCell ⟨w.heap.size, 0, none⟩ (.int .i64 y3.s)).setCell ⟨w.heap.size, 1, none⟩ (.int .i64 y3.a)).setCell ⟨w.heap.size, 2, none⟩ (.int .i64 y3.ms)).setCell ⟨w.heap.size, 3, none⟩ (.int .i64 y3.ps)).setCell ⟨w.heap.size, 4, none⟩ (.int .i64 y3.pa)).setCell ⟨w.heap.size, 5, none⟩ (.int .i64 y3.units)).setCell ⟨w.heap.size, 6, none⟩ (.int .i64 y3.polls)).setCell ⟨w.heap.size, 7, none⟩ (.int .i64 (y3.most : Int))).setCell ⟨w.heap.size, 8, none⟩ (.slice Q.W y3.wait.length Q.cw)).setCell ⟨w.heap.size, 9, none⟩ (.slice Q.K y3.kept.length Q.ck)).setCell ⟨w.heap.size, 10, none⟩ (.slice Q.L y3.last.length Q.cl)).setCell ⟨w.heap.size, 11, none⟩ (.slice Q.G y3.again.length Q.cg)) B d M) := SM9.out.touch TW (SM9.out.blk_ne B9.out.blk (by decide))
              clear TW SC9 SM9 B9
              generalize World.setCell _ ⟨w.heap.size, 11, none⟩ (.slice Q.G y3.again.length Q.cg) = w10 at *
              obtain ⟨NN, hNN⟩ : ∃ NN : Nat, a + (NN : Int) = x.s := ⟨(x.s - a).toNat, by have := hKs.out; omega⟩
              have HNN := Lib.hid hNN
              have hNb : NN ≤ 4000 := by have := HOK.out.klen; have := HAB.out; omega
              have HNL : Hid (NN ≤ y3.last.length) := by
                unfold Hid
                rw [HYL.out, List.length_drop]
                have := HOK.out.klen
                have := HOK.out.llen
                have := HKE.out
                omega
              obtain ⟨MO, hMO⟩ : ∃ m, m = Sf.more { y3 with again := M } (some p) T := ⟨_, rfl⟩
              have HMA : Hid (∀ j : Nat, decide (a + (j : Int) ∈ MO) = (!decide (a + (j : Int) ∈ M) && (decide ((j : Int) ∈ T) && Sf.may { y3 with again := M } (some p) (a + (j : Int))))) := fun j => by
                rw [hMO, ← HYA.out]
                exact Sf.more_at { y3 with again := M } (some p) T j
              have HMY : Hid (∀ j : Nat, Sf.may { y3 with again := M } (some p) (a + (j : Int)) = (decide (y3.last.getD j 0 < p) && decide (p - y3.last.getD j 0 < 8388608))) := fun j => by
                unfold Sf.may
                simp only
                rw [HYA.out, show (a + (j : Int) - a).toNat = j by omega]
              have HQB : Hid (∀ j : Nat, 0 ≤ y3.last.getD j 0 ∧ y3.last.getD j 0 ≤ 16800000) := fun j => by
                by_cases hj : j < y3.last.length
                · have e : y3.last.getD j 0 = y3.last[j] := by simp [List.getD, List.getElem?_eq_getElem hj]
                  have hall : ∀ q ∈ y3.last, q ∈ x.last := fun q hq => by rw [HYL.out] at hq; exact List.mem_of_mem_drop hq
                  have hm : y3.last[j] ∈ x.last := hall _ (List.getElem_mem hj)
                  have := HOK.out.lasts _ hm
                  have := HOK.out.lo0
                  rw [e]
                  omega
                · have e : y3.last.getD j 0 = 0 := by simp [List.getD, List.getElem?_eq_none (show y3.last.length ≤ j by omega)]
                  rw [e]
                  omega
              have HFIN : Hid (Sf.stat x r mr ps l = ({ y3 with again := Sf.allJ M MO a NN }, ((Sf.cntJ MO a NN : Nat) : Int), 0)) := by
                unfold Hid Sf.stat
                rw [HPP.out, if_neg (by omega)]; rw [if_neg (by rw [HTK.out]; decide), HAA.out, HTE.out, ← HZE.out]
                have e1 : NN = (y3.s - y3.a).toNat := by rw [HYA.out, HYS.out]; omega
                have e2 : Sf.allJ M MO a NN = Sf.merge { y3 with again := M } MO := by
                  rw [e1, ← HYA.out]
                  exact Sf.allJ_end { y3 with again := M } MO
                have e3 : Sf.cntJ MO a NN = MO.length := by
                  rw [e1, ← HYA.out]
                  refine Sf.cntJ_end { y3 with again := M } (by rw [hMO]; exact Sf.more_rising HTT.out.1) fun n hn => ?_
                  rw [hMO] at hn
                  have h1 := HTT.out.2.1 _ (Sf.more_mem.1 hn).1
                  have h2 := HYA.out
                  have h3 := HYS.out
                  show y3.a ≤ n ∧ n < y3.s
                  have h4 : 0 ≤ n - y3.a ∧ n - y3.a < x.s - a := h1
                  omega
                rw [e2, e3, hMO]
                rfl
              have hab2 : 0 ≤ a ∧ a ≤ 16800000 := by have := HAB.out; have := hKs.out; omega
              have hTl : T.length ≤ 4000 := by have := rise_len T 0 (x.s - a) HTT.out.1 HTT.out.2.1; omega
              clear hMO hNN HZE HTT HTK HTE HAGE HKE HY1 HY2 HYW HAA HPE HAE
              have k1 : ∀ o, (w10.alloc o).cell? ⟨w.heap.size, 1, none⟩ = some (.int .i64 a) := fun o => by rw [← HYA.out]; exact (B10.out.blk.alloc o).cell 1
              have M0 := Lib.hid (Mine.lit intE w10 #[] [] rfl 0 rfl (by decide))
              go_wp2_with fail
              clear k1
              go_loopw [24, 25, 26] (fun s24 s25 s26 wr => ∃ (j : Nat) (B2 : Option Addr) (d2 : Nat) (M2 : List Int) (cN : Nat), j ≤ NN ∧ s26 = .int .i64 (a + (j : Int)) ∧ s25 = .slice B2 M2.length d2 ∧ s24 = .int .i64 (cN : Int) ∧ cN ≤ j ∧ M2.length ≤ j ∧ Hid (cN = Sf.cntJ MO a j) ∧ Hid (M2 = Sf.allJ M MO a j) ∧ Hid (Mine intE w10 wr B2 d2 M2)) (fun _ _ s26 _ => (a + (NN : Int) - intOf s26).toNat)
              case atStart => exact ⟨0, _, 0, [], 0, by omega, by simp, rfl, rfl, by omega, by simp, rfl, rfl, M0⟩
              case round =>
                clear M0
                obtain ⟨j, B2, d2, M2, cN, hj, rfl, rfl, rfl, hcj, hMj, HCN, HM2, HMI⟩ := hrel
                have BR := Lib.hid (B10.out.old HMI.out.fresh)
                have c0 : wr.cell? ⟨w.heap.size, 0, none⟩ = some (.int .i64 x.s) := by rw [← HYS.out]; exact BR.out.blk.cell 0
                by_cases hlt : j < NN
                · have hlt1 : decide (a + (j : Int) < x.s) = true := decide_eq_true (by have := HNN.out; omega)
                  have HAL := Lib.hid (Sf.allJ_succ M MO a j)
                  have HCS := Lib.hid (Sf.cntJ_succ MO a j)
                  rw [HMA.out j, ← HM2.out] at HAL
                  rw [HMA.out j, ← HCN.out] at HCS
                  have HAS1 := Lib.hid (sfhas_any (a + (j : Int)) B d M wr (SM10.out.touch HMI.out.fresh (fun _ _ h => h)).rd (by omega))
                  generalize decide (a + (j : Int) ∈ M) = z1 at *
                  have hsub : a + (j : Int) - a = (j : Int) := by omega
                  have hnx : a + (j : Int) + 1 = a + ((j + 1 : Nat) : Int) := by omega
                  have HNX : Hid (Value.int .i64 (a + (j : Int) + 1) = .int .i64 (a + ((j + 1 : Nat) : Int))) := by unfold Hid; rw [hnx]
                  clear hnx
                  have hmeas : (a + (NN : Int) - (a + (j : Int) + 1)).toNat < (a + (NN : Int) - (a + (j : Int))).toNat := by omega
                  go_wp2_with fail
                  refine HAS1.out.mono ?_
                  rintro e w11 ⟨rfl, f11⟩
                  have HM11 := Lib.hid (HMI.out.old f11)
                  clear f11 HAS1 HMI c0 BR
                  simp only
                  cases z1 with
                  | true =>
                    have HAL2 : Hid (Sf.allJ M MO a (j + 1) = M2 ++ [a + (j : Int)]) := HAL.out
                    have HCS2 : Hid (Sf.cntJ MO a (j + 1) = cN) := HCS.out
                    clear HAL HCS HM2 HCN hsub
                    go_wp2_with (at_builtin; refine app_int rfl rfl (l := M2) (l2 := [a + (j : Int)]) rfl rfl (HM11.out.sl.alloc _) (Sl.rd (Sl.lit intE _ _ rfl _ _ rfl _ rfl (by decide))) (by simp; omega) ?_; intro B4 d4 M4 w13 hM4 hs4 ht4 hB4)
                    have HM13 := Lib.hid ((HM11.out.alloc (.cells #[.int .i64 (a + (j : Int))] 3)).app hs4 ht4 hB4)
                    have hl4 : M4.length ≤ j + 1 := by rw [hM4.out]; simp; omega
                    have HM14 : Hid (M4 = Sf.allJ M MO a (j + 1)) := by unfold Hid; rw [HAL2.out, hM4.out]
                    clear hs4 ht4 hB4 hM4 HM11 HAL2 
                    go_wp2
                    go_roundw
                    case rel => first | exact ⟨j + 1, B4, d4, M4, cN, hlt, HNX.out, rfl, rfl, by omega, hl4, HCS2.out.symm, HM14, HM13⟩ | ((repeat apply Exists.intro); exact ⟨⟨j + 1, B4, d4, M4, cN, hlt, HNX.out, rfl, rfl, by omega, hl4, HCS2.out.symm, HM14, HM13⟩, rfl⟩)
                    case measure => first | (simp only [intOf]; exact hmeas) | exact hmeas
                  | false =>
                    have HAS2 := Lib.hid (sfhas_any (j : Int) C gc T w11 (SC10.out.touch HM11.out.fresh (fun _ _ h => h)).rd (by omega))
                    generalize decide ((j : Int) ∈ T) = z2 at *
                    go_wp2_with fail
                    refine HAS2.out.mono ?_
                    rintro e w12 ⟨rfl, f12⟩
                    have HM12 := Lib.hid (HM11.out.old f12)
                    clear f12 HAS2 HM11
                    simp only
                    cases z2 with
                    | false =>
                      have HAL2 : Hid (Sf.allJ M MO a (j + 1) = M2) := HAL.out
                      have HCS2 : Hid (Sf.cntJ MO a (j + 1) = cN) := HCS.out
                      clear HAL HCS HM2 HCN
                      go_wp2
                      go_roundw
                      case rel => exact ⟨j + 1, B2, d2, M2, cN, hlt, HNX.out, rfl, rfl, by omega, by omega, HCS2.out.symm, HAL2.out.symm, HM12⟩
                      case measure => simp only [intOf]; exact hmeas
                    | true =>
                      obtain ⟨gl, ol, hle, _, cl⟩ := (B10.out.old HM12.out.fresh).ins.last.int_at j (by have := HNL.out; omega)
                      have ba : w12.cell? ⟨w.heap.size, 10, none⟩ = some (.slice Q.L y3.last.length Q.cl) := (B10.out.old HM12.out.fresh).blk.cell 10
                      rw [hle] at ba
                      clear hle
                      have hjl : (j : Int) < (y3.last.length : Int) := by have := HNL.out; omega
                      have hj0 : (0 : Int) ≤ (j : Int) := by omega
                      rw [HMY.out j] at HAL HCS
                      have hqb : 0 ≤ y3.last.getD j 0 ∧ y3.last.getD j 0 ≤ 16800000 := HQB.out j
                      generalize y3.last.getD j 0 = q at *
                      have hqb0 := hqb.1
                      have hqb1 := hqb.2
                      clear hqb
                      by_cases hqp : q < p
                      · have hqd : decide (q < p) = true := decide_eq_true hqp
                        by_cases hqh : p - q < 8388608
                        · have hqhd : decide (p - q < 8388608) = true := decide_eq_true hqh
                          rw [hqd, hqhd] at HAL HCS
                          have HAL2 : Hid (Sf.allJ M MO a (j + 1) = M2 ++ [a + (j : Int)]) := HAL.out
                          have HCS2 : Hid (Sf.cntJ MO a (j + 1) = cN + 1) := HCS.out
                          clear HAL HCS HM2 HCN
                          go_wp2_with (at_builtin; refine app_int rfl rfl (l := M2) (l2 := [a + (j : Int)]) rfl rfl (HM12.out.sl.alloc _) (Sl.rd (Sl.lit intE _ _ rfl _ _ rfl _ rfl (by decide))) (by simp; omega) ?_; intro B4 d4 M4 w13 hM4 hs4 ht4 hB4)
                          have HM13 := Lib.hid ((HM12.out.alloc (.cells #[.int .i64 (a + (j : Int))] 3)).app hs4 ht4 hB4)
                          have hl4 : M4.length ≤ j + 1 := by rw [hM4.out]; simp; omega
                          have HM14 : Hid (M4 = Sf.allJ M MO a (j + 1)) := by unfold Hid; rw [HAL2.out, hM4.out]
                          clear hs4 ht4 hB4 hM4 HM12 HAL2 
                          go_wp2
                          go_roundw
                          case rel => first | exact ⟨j + 1, B4, d4, M4, cN + 1, hlt, HNX.out, rfl, by go_num, by omega, hl4, HCS2.out.symm, HM14, HM13⟩ | ((repeat apply Exists.intro); exact ⟨⟨j + 1, B4, d4, M4, cN + 1, hlt, HNX.out, rfl, by go_num, by omega, hl4, HCS2.out.symm, HM14, HM13⟩, rfl⟩)
                          case measure => first | (simp only [intOf]; exact hmeas) | exact hmeas
                        · have hqhd : decide (p - q < 8388608) = false := decide_eq_false hqh
                          rw [hqd, hqhd] at HAL HCS
                          have HAL2 : Hid (Sf.allJ M MO a (j + 1) = M2) := HAL.out
                          have HCS2 : Hid (Sf.cntJ MO a (j + 1) = cN) := HCS.out
                          clear HAL HCS HM2 HCN
                          go_wp2
                          go_roundw
                          case rel => exact ⟨j + 1, B2, d2, M2, cN, hlt, HNX.out, rfl, rfl, by omega, by omega, HCS2.out.symm, HAL2.out.symm, HM12⟩
                          case measure => simp only [intOf]; exact hmeas
                      · have hqd : decide (q < p) = false := decide_eq_false hqp
                        rw [hqd] at HAL HCS
                        have HAL2 : Hid (Sf.allJ M MO a (j + 1) = M2) := HAL.out
                        have HCS2 : Hid (Sf.cntJ MO a (j + 1) = cN) := HCS.out
                        clear HAL HCS HM2 HCN
                        go_wp2
                        go_roundw
                        case rel => exact ⟨j + 1, B2, d2, M2, cN, hlt, HNX.out, rfl, rfl, by omega, by omega, HCS2.out.symm, HAL2.out.symm, HM12⟩
                        case measure => simp only [intOf]; exact hmeas
                · obtain rfl : j = NN := by omega
                  have hlt1 : decide (a + (j : Int) < x.s) = false := decide_eq_false (by have := HNN.out; omega)
                  have bb : wr.cell? ⟨w.heap.size, 11, none⟩ = some (.slice Q.G y3.again.length Q.cg) := BR.out.blk.cell 11
                  have f11 := BR.out.blk.frozen 11
                  have BY : Hid (SfBox w (wr.setCell ⟨w.heap.size, 11, none⟩ (.slice B2 M2.length d2)) D { Q with G := B2, cg := d2 } { y3 with again := M2 }) := by
                    have h0 := BR.out
                    exact h0.put (P' := { Q with G := B2, cg := d2 }) (x' := { y3 with again := M2 }) 11 _ rfl ⟨h0.ins.wait, h0.ins.kept, h0.ins.last, HMI.out.sl⟩ ⟨h0.dom.W, h0.dom.K, h0.dom.L, fun ad e => .inr (by have h1 := HMI.out.base ad e; have h2 := B10.out.fresh.size; show w.heap.size ≤ _; omega)⟩
                  have HFN : Hid (Sf.stat x r mr ps l = ({ y3 with again := M2 }, (cN : Int), 0)) := by unfold Hid; rw [HFIN.out, ← HM2.out, ← HCN.out]
                  clear HMI HM2 HCN HFIN B10 SC10 SM10 HMA HMY HQB
                  go_upto_region 37 with (fail)
                  clear bb f11 BR c0
                  generalize wr.setCell ⟨w.heap.size, 11, none⟩ (.slice B2 M2.length d2) = wz at *
                  obtain ⟨b0, b1, b2, b3, b4, b5, b6, b7, b8, b9, ba, bb⟩ := BY.out.cells
                  obtain ⟨r0, r1, r2, r3, r4, r5, r6, r7, r8, r9, ra, rb⟩ := BY.out.zeros
                  simp only at b0 b1 b2 b3 b4 b5 b6 b7 b8 b9 ba bb
                  have fz := fun i => BY.out.res.frozen i
                  have HX : Hid (∀ W, Touch (· = w.heap.size + 1) wz W → SfOut w D { y3 with again := M2 } (.agg #[.int .i64 y3.s, .int .i64 y3.a, .int .i64 y3.ms, .int .i64 y3.ps, .int .i64 y3.pa, .int .i64 y3.units, .int .i64 y3.polls, .int .i64 (y3.most : Int), .slice Q.W y3.wait.length Q.cw, .slice Q.K y3.kept.length Q.ck, .slice Q.L y3.last.length Q.cl, .slice B2 M2.length d2]) W) := fun W ht => BY.out.done ht HDD.out
                  clear BY HDD
                  go_wp2
                  rw [HFN.out]
                  exact bodyPost_ret (v := .tuple #[.agg #[.int .i64 y3.s, .int .i64 y3.a, .int .i64 y3.ms, .int .i64 y3.ps, .int .i64 y3.pa, .int .i64 y3.units, .int .i64 y3.polls, .int .i64 (y3.most : Int), .slice Q.W y3.wait.length Q.cw, .slice Q.K y3.kept.length Q.ck, .slice Q.L y3.last.length Q.cl, .slice B2 M2.length d2], .int .i64 (cN : Int), .int .i64 0]) (by simp [results, Tryz.results18, go_sem, r0, r1, r2, r3, r4, r5, r6, r7, r8, r9, ra, rb]) rfl ⟨_, rfl, HX.out _ (Touch.st12 (S := (· = w.heap.size + 1)) (Touch.refl _ _) rfl)⟩
end
end Go.Proofs.YtajdnllkkekmnaaGreat

namespace Go.Proofs.YtajdnllkkekmnaaGreat
open Go.RowKit

section
variable {lo hi : Int}

set_option maxHeartbeats 8000000 in
set_option maxRecDepth 8000 in
theorem sfrep_false (P : SfP) (D : Nat → Prop) (x : Sf.S) (r mr ps : Int) (A : Option Addr) (c : Nat) (l : List Int) (w : World) (h : SfIn w P x) (hd : SfD P D) (hD : ∀ k, D k → k < w.heap.size) (hok : Sf.Ok x lo hi) (hr : Rd intE w A c l) (hl : l.length ≤ 1000000) :
    Calls Tryz.prog 18 #[sfV x P, .bool false, .int .i64 r, .int .i64 mr, .int .i64 ps, .slice A l.length c] w (SfRepPost w D (Sf.ustat x r mr l)) := by
  have HB0 : Hid (SfBox w ((w.alloc (.cells #[.int .i64 x.s, .int .i64 x.a, .int .i64 x.ms, .int .i64 x.ps, .int .i64 x.pa, .int .i64 x.units, .int .i64 x.polls, .int .i64 (x.most : Int), .slice P.W x.wait.length P.cw, .slice P.K x.kept.length P.ck, .slice P.L x.last.length P.cl, .slice P.G x.again.length P.cg] 33)).alloc
    (.cells #[.int .i64 0, .int .i64 0, .int .i64 0, .int .i64 0, .int .i64 0, .int .i64 0, .int .i64 0, .int .i64 0, .slice none 0 0, .slice none 0 0, .slice none 0 0, .slice none 0 0] 33)) D P x) := SfBox.new h hd
  have hv : sfV x P = .agg #[.int .i64 x.s, .int .i64 x.a, .int .i64 x.ms, .int .i64 x.ps, .int .i64 x.pa, .int .i64 x.units, .int .i64 x.polls, .int .i64 (x.most : Int), .slice P.W x.wait.length P.cw, .slice P.K x.kept.length P.ck, .slice P.L x.last.length P.cl, .slice P.G x.again.length P.cg] := rfl
  have HDD := Lib.hid hD
  have HOK := Lib.hid hok
  have HR := Lib.hid hr
  have HT1 := Lib.hid (r01to_any x.pa ps)
  have HT2 := Lib.hid (r01to_any x.a r)
  have HD1 : Hid (0 ≤ (ps - x.pa) % 16777216 ∧ (ps - x.pa) % 16777216 < 16777216) := by unfold Hid; omega
  have HD2 : Hid (0 ≤ (r - x.a) % 16777216 ∧ (r - x.a) % 16777216 < 16777216) := by unfold Hid; omega
  have HPE : Hid (Sf.pollAt x ps = x.pa + (ps - x.pa) % 16777216) := rfl
  have HAE : Hid (Sf.at_ x r = x.a + (r - x.a) % 16777216) := rfl
  generalize (ps - x.pa) % 16777216 = d1 at *
  generalize (r - x.a) % 16777216 = d2 at *
  have hpb : 0 ≤ x.pa ∧ x.pa ≤ 16800000 ∧ 0 ≤ x.ps ∧ x.ps ≤ 16800000 := by have := hok.lo0; have := hok.lpa; have := hok.pas; have := hok.phi; have := hok.hl; omega
  have hab : 0 ≤ x.a ∧ x.a ≤ x.s ∧ x.s ≤ 16800000 := by have := hok.lo0; have := hok.la; have := hok.klen; have := hok.shi; have := hok.hl; omega
  have hw1 : IntKind.i64.wrap (x.pa + d1) = x.pa + d1 := IntWalk.i64_in _ (by have := HD1.out; omega)
  have hw2 : IntKind.i64.wrap (x.a + d2) = x.a + d2 := IntWalk.i64_in _ (by have := HD2.out; omega)
  have hkl := hok.kl
  rw [hv]
  clear hv h hd hok hD hr
  go_enter Tryz.func18, Tryz.ntmps18
  go_upto_region 1 with (fail)
  generalize World.alloc (World.alloc w _) _ = w2 at *
  have b4 : w2.cell? ⟨w.heap.size, 4, none⟩ = some (.int .i64 x.pa) := HB0.out.blk.cell 4
  go_quiet ((go_at_call 49; with_reducible refine Calls.quiet_of_same (HT1.out _)))
  have HB1 := Lib.hid (HB0.out.old ((Touch.refl _ _).drewN nq))
  clear HB0 b4 HT1
  generalize w2.drewN nq = w3 at *
  have HPB : Hid (x.pa ≤ x.pa + d1) := by have := HD1.out; unfold Hid; omega
  rw [← HPE.out] at hw1 HPB ⊢
  have HPA := Lib.hid hw1
  clear hw1
  generalize hpp : Sf.pollAt x ps = p at *
  have HPP := Lib.hid hpp
  clear hpp
  have b3 : w3.cell? ⟨w.heap.size, 3, none⟩ = some (.int .i64 x.ps) := HB1.out.blk.cell 3
  have b1 : w3.cell? ⟨w.heap.size, 1, none⟩ = some (.int .i64 x.a) := HB1.out.blk.cell 1
  go_upto_region 7 with (fail)
  go_quiet ((go_at_call 49; with_reducible refine Calls.quiet_of_same (HT2.out _)))
  have HB2 := Lib.hid (HB1.out.old ((Touch.refl _ _).drewN nq))
  clear HB1 b3 b1 HT2
  generalize w3.drewN nq = w4 at *
  have HAB : Hid (x.a ≤ x.a + d2) := by have := HD2.out; unfold Hid; omega
  rw [← HAE.out] at hw2 HAB ⊢
  clear hw2
  generalize haa : Sf.at_ x r = a at *
  have HAA := Lib.hid haa
  clear haa
  have b0 : w4.cell? ⟨w.heap.size, 0, none⟩ = some (.int .i64 x.s) := HB2.out.blk.cell 0
  by_cases hs : x.s < a
  · have HST : Hid (Sf.ustat x r mr l = (x, 0, 14)) := by unfold Hid Sf.ustat; rw [if_pos (show Sf.toldOk x r l = false by unfold Sf.toldOk; rw [HAA.out, decide_eq_false (by omega)]; rfl)]
    have hsd : decide (x.s < a) = true := decide_eq_true hs
    go_upto_region 9 with (fail)
    clear b0
    obtain ⟨b0, b1, b2, b3, b4, b5, b6, b7, b8, b9, ba, bb⟩ := HB2.out.cells
    obtain ⟨r0, r1, r2, r3, r4, r5, r6, r7, r8, r9, ra, rb⟩ := HB2.out.zeros
    have fz := fun i => HB2.out.res.frozen i
    have HX : Hid (∀ W, Touch (· = w.heap.size + 1) w4 W → SfOut w D x (.agg #[.int .i64 x.s, .int .i64 x.a, .int .i64 x.ms, .int .i64 x.ps, .int .i64 x.pa, .int .i64 x.units, .int .i64 x.polls, .int .i64 (x.most : Int), .slice P.W x.wait.length P.cw, .slice P.K x.kept.length P.ck, .slice P.L x.last.length P.cl, .slice P.G x.again.length P.cg]) W) := fun W ht => HB2.out.done ht HDD.out
    clear HB2 HDD
    go_wp2
    rw [HST.out]
    exact bodyPost_ret (v := .tuple #[.agg #[.int .i64 x.s, .int .i64 x.a, .int .i64 x.ms, .int .i64 x.ps, .int .i64 x.pa, .int .i64 x.units, .int .i64 x.polls, .int .i64 (x.most : Int), .slice P.W x.wait.length P.cw, .slice P.K x.kept.length P.ck, .slice P.L x.last.length P.cl, .slice P.G x.again.length P.cg], .int .i64 0, .int .i64 14]) (by simp [results, Tryz.results18, go_sem, r0, r1, r2, r3, r4, r5, r6, r7, r8, r9, ra, rb]) rfl ⟨_, rfl, HX.out _ (Touch.st12 (S := (· = w.heap.size + 1)) (Touch.refl _ _) rfl)⟩
  · have hsd : decide (x.s < a) = false := decide_eq_false hs
    have HSET := Lib.hid (rset_any a x.s A c l w4 (HR.out.touch HB2.out.fresh (fun _ _ _ h => h)) hl)
    go_wp2_with fail
    refine HSET.out.mono ?_
    intro e w5 hpo
    cases ht : Gp.okSet a x.s l with
    | false =>
      obtain ⟨rfl, f⟩ := hpo.2 ht
      have HB3 := Lib.hid (HB2.out.old f)
      have HST : Hid (Sf.ustat x r mr l = (x, 0, 14)) := by unfold Hid Sf.ustat; rw [if_pos (show Sf.toldOk x r l = false by unfold Sf.toldOk; rw [HAA.out, ht, Bool.and_false])]
      clear hpo f ht HSET HB2 b0
      simp only
      go_upto_region 12 with (fail)
      obtain ⟨b0, b1, b2, b3, b4, b5, b6, b7, b8, b9, ba, bb⟩ := HB3.out.cells
      obtain ⟨r0, r1, r2, r3, r4, r5, r6, r7, r8, r9, ra, rb⟩ := HB3.out.zeros
      have fz := fun i => HB3.out.res.frozen i
      have HX : Hid (∀ W, Touch (· = w.heap.size + 1) w5 W → SfOut w D x (.agg #[.int .i64 x.s, .int .i64 x.a, .int .i64 x.ms, .int .i64 x.ps, .int .i64 x.pa, .int .i64 x.units, .int .i64 x.polls, .int .i64 (x.most : Int), .slice P.W x.wait.length P.cw, .slice P.K x.kept.length P.ck, .slice P.L x.last.length P.cl, .slice P.G x.again.length P.cg]) W) := fun W ht => HB3.out.done ht HDD.out
      clear HB3 HDD
      go_wp2
      rw [HST.out]
      exact bodyPost_ret (v := .tuple #[.agg #[.int .i64 x.s, .int .i64 x.a, .int .i64 x.ms, .int .i64 x.ps, .int .i64 x.pa, .int .i64 x.units, .int .i64 x.polls, .int .i64 (x.most : Int), .slice P.W x.wait.length P.cw, .slice P.K x.kept.length P.ck, .slice P.L x.last.length P.cl, .slice P.G x.again.length P.cg], .int .i64 0, .int .i64 14]) (by simp [results, Tryz.results18, go_sem, r0, r1, r2, r3, r4, r5, r6, r7, r8, r9, ra, rb]) rfl ⟨_, rfl, HX.out _ (Touch.st12 (S := (· = w.heap.size + 1)) (Touch.refl _ _) rfl)⟩
    | true =>
      obtain ⟨C, gc, rfl, m⟩ := hpo.1 ht
      have HTK : Hid (Sf.toldOk x r l = true) := by unfold Hid Sf.toldOk; rw [HAA.out, ht, decide_eq_true (by omega)]; rfl
      have HB3 := Lib.hid (HB2.out.old m.fresh)
      have HM : Hid (Sl intE w5 C gc (Sf.told x a l)) := m.sl
      have HMB : Hid (∀ ad, C = some ad → ad.block < w5.heap.size) := m.sl.lt
      have HTL : Hid ((Sp.nums (Gp.prs (Gp.ats a l))).length = (Sf.told x a l).length) := rfl
      rw [HTL.out]
      have hT := HOK.out.told HTK.out
      rw [HAA.out] at hT
      have HTT := Lib.hid hT
      clear hpo m ht HSET HB2 b0 HTL hT
      generalize hTE : Sf.told x a l = T at *
      have HTE := Lib.hid hTE
      clear hTE
      obtain ⟨K, hK⟩ : ∃ K : Nat, a = x.a + (K : Int) := ⟨(a - x.a).toNat, by have := HAB.out; omega⟩
      have HKE := Lib.hid hK
      have hKk : K ≤ x.kept.length := by have := HOK.out.klen; omega
      have hKl : K ≤ x.last.length := by have := HOK.out.llen; omega
      have hK0 : (0 : Int) ≤ (K : Int) := by omega
      have hka : a - x.a = (K : Int) := by omega
      have hKs : Hid (a ≤ x.s) := by unfold Hid; omega
      have b1 : w5.cell? ⟨w.heap.size, 1, none⟩ = some (.int .i64 x.a) := HB3.out.blk.cell 1
      simp only
      clear hK
      go_upto_region 14 with (fail)
      obtain ⟨hz1, hz2, hz3, hz4⟩ := HB3.out.ins.sizes
      obtain ⟨KB, hKB⟩ : ∃ B, subA P.K P.ck K = B := ⟨_, rfl⟩
      obtain ⟨LB, hLB⟩ : ∃ B, subA P.L P.cl K = B := ⟨_, rfl⟩
      have hsK : ∀ W, (Instr.slice 30 (.slice P.K x.kept.length P.ck) (some (.int .i64 (K : Int))) none none).run Tryz.prog W = .ok (.slice KB (x.kept.length - K) (P.ck - K)) W := fun W => by
        rw [← hKB]
        exact run_slice_from W 30 9 Tryz.underlying30 (fun W => by kernel_rfl) _ _ _ _ hKk hz1 hz2
      have hsL : ∀ W, (Instr.slice 31 (.slice P.L x.last.length P.cl) (some (.int .i64 (K : Int))) none none).run Tryz.prog W = .ok (.slice LB (x.last.length - K) (P.cl - K)) W := fun W => by
        rw [← hLB]
        exact run_slice_from W 31 3 Tryz.underlying31 (fun W => by kernel_rfl) _ _ _ _ hKl hz3 hz4
      have SK : Hid (Sl strE w5 KB (P.ck - K) (x.kept.drop K)) := by have := HB3.out.ins.kept.sub rfl hKk; rw [hKB] at this; exact this
      have SL : Hid (Sl intE w5 LB (P.cl - K) (x.last.drop K)) := by have := HB3.out.ins.last.sub rfl hKl; rw [hLB] at this; exact this
      have HKD : Hid (∀ ad, KB = some ad → D ad.block ∨ w.heap.size ≤ ad.block) := fun ad e => by rw [← hKB] at e; obtain ⟨ad0, e1, e2⟩ := subA_block _ _ _ _ e; rw [e2]; exact HB3.out.dom.K ad0 e1
      have HLD : Hid (∀ ad, LB = some ad → D ad.block ∨ w.heap.size ≤ ad.block) := fun ad e => by rw [← hLB] at e; obtain ⟨ad0, e1, e2⟩ := subA_block _ _ _ _ e; rw [e2]; exact HB3.out.dom.L ad0 e1
      have b9 : w5.cell? ⟨w.heap.size, 9, none⟩ = some (.slice P.K x.kept.length P.ck) := HB3.out.blk.cell 9
      have ba : w5.cell? ⟨w.heap.size, 10, none⟩ = some (.slice P.L x.last.length P.cl) := HB3.out.blk.cell 10
      have fz := fun i => HB3.out.blk.frozen i
      clear hKB hLB hz1 hz2 hz3 hz4 hka
      obtain ⟨y1, hy1⟩ : ∃ y : Sf.S, y = { x with kept := x.kept.drop K, last := x.last.drop K, a := a } := ⟨_, rfl⟩
      obtain ⟨Q, hQ⟩ : ∃ Q : SfP, Q = { P with K := KB, ck := P.ck - K, L := LB, cl := P.cl - K } := ⟨_, rfl⟩
      have BX : Hid (SfBox w (((w5.setCell ⟨w.heap.size, 9, none⟩ (.slice KB (x.kept.length - K) (P.ck - K))).setCell ⟨w.heap.size, 10, none⟩ (.slice LB (x.last.length - K) (P.cl - K))).setCell ⟨w.heap.size, 1, none⟩ (.int .i64 a)) D Q y1) := by
        have h3 := HB3.out
        have hT9 := Touch.set1 w5 w.heap.size 9 (.slice KB (x.kept.length - K) (P.ck - K))
        have h4 := h3.put (P' := { P with K := KB, ck := P.ck - K }) (x' := { x with kept := x.kept.drop K }) 9 (.slice KB (x.kept.length - K) (P.ck - K)) (by rw [← List.length_drop]; rfl) ⟨h3.ins.wait, SK.out, h3.ins.last, h3.ins.again⟩ ⟨h3.dom.W, HKD.out, h3.dom.L, h3.dom.G⟩
        have h5 := h4.put (P' := Q) (x' := { x with kept := x.kept.drop K, last := x.last.drop K }) 10 (.slice LB (x.last.length - K) (P.cl - K)) (by rw [← List.length_drop, hQ]; rfl) (by rw [hQ]; exact ⟨h4.ins.wait, h4.ins.kept, SL.out.touch hT9 (SL.out.blk_ne h3.blk (by decide)), h4.ins.again⟩) (by rw [hQ]; exact ⟨h4.dom.W, h4.dom.K, HLD.out, h4.dom.G⟩)
        rw [hy1]
        exact h5.scalar 1 _ rfl rfl rfl rfl rfl
      have CX : Hid (Sl intE (((w5.setCell ⟨w.heap.size, 9, none⟩ (.slice KB (x.kept.length - K) (P.ck - K))).setCell ⟨w.heap.size, 10, none⟩ (.slice LB (x.last.length - K) (P.cl - K))).setCell ⟨w.heap.size, 1, none⟩ (.int .i64 a)) C gc T) :=
        HM.out.touch (((Touch.set1 w5 w.heap.size 9 (.slice KB (x.kept.length - K) (P.ck - K))).st rfl).st rfl) (HM.out.blk_ne HB3.out.blk (by decide))
      have HY1 := Lib.hid hy1
      have HAGL : Hid (y1.again = x.again) := by rw [hy1]; exact rfl
      have hagl : y1.again.length ≤ 4000 := by rw [HAGL.out]; have := HOK.out.again_len; omega
      clear hy1 hQ SK SL HKD HLD HM HMB
      go_cut [] (fun wx => Hid (SfBox w wx D Q y1) ∧ Hid (Sl intE wx C gc T))
      case first =>
        clear HB3 HDD HOK
        go_region
        all_goals
          go_wp2
          go_meet
          case rel => exact ⟨BX.out.old ((Touch.refl _ _).drew), CX.out⟩
      case rest =>
        obtain ⟨HB6, HC6⟩ := hcut
        clear BX CX HB3 b1 b9 ba fz hsK hsL
        have k11 : ∀ o, (wc.alloc o).cell? ⟨w.heap.size, 11, none⟩ = some (.slice Q.G y1.again.length Q.cg) := fun o => (HB6.out.blk.alloc o).cell 11
        have M0 := Lib.hid (Mine.lit intE wc #[] [] rfl 0 rfl (by decide))
        have hgc := HB6.out.ins.again.1
        have hgm := HB6.out.ins.again.2.1
        unfold maxLen at hgm
        go_wp2_with fail
        clear k11
        go_loopw [21, 90] (fun s21 s90 wr => ∃ (j : Nat) (B : Option Addr) (d : Nat) (M : List Int), j ≤ y1.again.length ∧ s90 = .int .i64 j ∧ s21 = .slice B M.length d ∧ M.length ≤ j ∧ Hid (M = (y1.again.take j).filter fun n => decide (a ≤ n)) ∧ Hid (Mine intE wc wr B d M)) (fun _ s90 _ => y1.again.length - (intOf s90).toNat)
        case atStart => exact ⟨0, _, 0, [], by omega, rfl, rfl, by simp, by unfold Hid; simp, M0⟩
        case round =>
          clear M0
          obtain ⟨j, B, d, M, hj, rfl, rfl, hMj, HME, HM⟩ := hrel
          by_cases hlt : j < y1.again.length
          · have hj1 : (j : Int) < (y1.again.length : Int) := by omega
            have hj0 : (0 : Int) ≤ (j : Int) := by omega
            obtain ⟨gg, og, hge, _, cg⟩ := (HM.out.keeps HB6.out.ins.again).int_at j hlt
            have HTk : Hid (y1.again.take (j + 1) = y1.again.take j ++ [y1.again.getD j 0]) := by
              unfold Hid
              rw [List.take_succ_eq_append_getElem hlt]
              simp [List.getD, List.getElem?_eq_getElem hlt]
            rw [hge]
            generalize y1.again.getD j 0 = n at *
            by_cases han : a ≤ n
            · have hd1 : decide (a ≤ n) = true := decide_eq_true han
              have HM2 : Hid ((y1.again.take (j + 1)).filter (fun n => decide (a ≤ n)) = M ++ [n]) := by unfold Hid; rw [HTk.out, List.filter_append, ← HME.out]; simp [han]
              clear HTk HME
              go_wp2_with (at_builtin; refine app_int rfl rfl (l := M) (l2 := [n]) rfl rfl (HM.out.sl.alloc _) (Sl.rd (Sl.lit intE _ _ rfl _ _ rfl _ rfl (by decide))) (by simp; omega) ?_; intro B4 d4 M4 w7 hM4 hs4 ht4 hB4)
              have HM5 := Lib.hid ((HM.out.alloc (.cells #[.int .i64 n] 3)).app hs4 ht4 hB4)
              have hl4 : M4.length ≤ j + 1 := by rw [hM4.out]; simp; omega
              have HM6 : Hid (M4 = (y1.again.take (j + 1)).filter fun n => decide (a ≤ n)) := by unfold Hid; rw [HM2.out, hM4.out]
              clear hs4 ht4 hB4 hM4 HM cg HM2
              go_roundw
              case rel => exact ⟨j + 1, B4, d4, M4, hlt, by go_num, rfl, hl4, HM6, HM5⟩
              case measure => simp [intOf]; omega
            · have hd1 : decide (a ≤ n) = false := decide_eq_false han
              have HM2 : Hid (M = (y1.again.take (j + 1)).filter (fun n => decide (a ≤ n))) := by unfold Hid; rw [HTk.out, List.filter_append, ← HME.out]; simp [han]
              clear HTk HME
              go_wp2
              go_roundw
              case rel => exact ⟨j + 1, B, d, M, hlt, by go_num, rfl, by omega, HM2, HM⟩
              case measure => simp [intOf]; omega
          · obtain rfl : j = y1.again.length := by omega
            have hj1 : ¬ ((y1.again.length : Nat) : Int) < (y1.again.length : Int) := by omega
            have HAGE : Hid (M = x.again.filter fun n => decide (a ≤ n)) := by have := HME.out; rw [List.take_length, HAGL.out] at this; exact this
            have B7 := Lib.hid (HB6.out.old HM.out.fresh)
            have SC7 : Hid (Sl intE wr C gc T) := HC6.out.touch HM.out.fresh (fun _ _ h => h)
            have SM7 : Hid (Sl intE wr B d M) := HM.out.sl
            have hml : M.length ≤ 4000 := by omega
            clear HME HM HB6 HC6 hlt hMj hj
            obtain ⟨y2, hy2⟩ : ∃ y : Sf.S, y = y1 := ⟨_, rfl⟩
            obtain ⟨y3, hy3⟩ : ∃ y : Sf.S, y = Sf.opn y2 mr := ⟨_, rfl⟩
            have e1 : y1.a = a := by rw [HY1.out]
            have e2 : y1.s = x.s := by rw [HY1.out]
            have e2m : y1.ms = x.ms := by rw [HY1.out]
            obtain ⟨q1, q2, q3⟩ := Sf.opn_keeps y2 mr
            have q4 : (Sf.opn y2 mr).wait = y2.wait ∧ (Sf.opn y2 mr).kept = y2.kept ∧ (Sf.opn y2 mr).again = y2.again := by unfold Sf.opn; split <;> exact ⟨rfl, rfl, rfl⟩
            rw [← hy3] at q1 q2 q3 q4
            have HYA : Hid (y3.a = a) := by unfold Hid; rw [q1, hy2]; exact e1
            have HYS : Hid (y3.s = x.s) := by unfold Hid; rw [q2, hy2]; exact e2
            have HYL : Hid (y3.last = x.last.drop K) := by unfold Hid; rw [q3, hy2, HY1.out]
            have HYW : Hid (y3.wait = y2.wait ∧ y3.kept = y2.kept ∧ y3.last = y2.last ∧ y3.again = y2.again) := ⟨q4.1, q4.2.1, q3, q4.2.2⟩
            have hm2 : 0 ≤ y2.a ∧ y2.a ≤ 16800000 ∧ 0 ≤ y2.ms ∧ y2.ms ≤ 30000000 := by
              have h1 : y2.a = a := by rw [hy2]; exact e1
              have h2 : y2.ms = x.ms := by rw [hy2]; exact e2m
              have := HOK.out.msa
              have := HOK.out.sms
              have := HOK.out.klen
              have := HKE.out
              rw [h1, h2]
              omega
            have HZE : Hid ({ y3 with again := M } = Sf.opn (Sf.ack x a) mr) := by
              unfold Hid
              rw [hy3, Sf.opn_agx]
              congr 1
              have ek : (a - x.a).toNat = K := by have := HKE.out; omega
              rw [hy2, HY1.out]
              unfold Sf.ack
              rw [ek, HAGE.out]
            have HO3 := Lib.hid (fun W => sfopn_b Q y2 mr W hm2)
            rw [← hy3] at HO3
            have HY2 := Lib.hid hy2
            clear hy2 hy3 e1 e2 e2m q1 q2 q3 q4 hm2
            have B8 : Hid (SfBox w wr D Q y2) := by rw [HY2.out]; exact B7.out
            have SC8 := SC7
            have SM8 := SM7
            clear B7 SC7 SM7
            go_upto_region 24 with (fail)
            obtain ⟨w8, hw8⟩ : ∃ w8, w8 = wr := ⟨_, rfl⟩
            subst hw8
            obtain ⟨b0, b1, b2, b3, b4, b5, b6, b7, b8, b9, ba, bb⟩ := B8.out.cells
            have HO8 := Lib.hid (HO3.out w8)
            unfold sfV at HO8
            clear HO3
            go_wp2_with fail
            refine HO8.out.mono ?_
            rintro e w9 ⟨rfl, f9⟩
            have B9 := Lib.hid (B8.out.old f9)
            have SC9 : Hid (Sl intE w9 C gc T) := SC8.out.touch f9 (fun _ _ h => h)
            have SM9 : Hid (Sl intE w9 B d M) := SM8.out.touch f9 (fun _ _ h => h)
            clear b0 b1 b2 b3 b4 b5 b6 b7 b8 b9 ba bb f9 HO8 B8 SC8 SM8
            obtain ⟨b0, b1, b2, b3, b4, b5, b6, b7, b8, b9, ba, bb⟩ := B9.out.cells
            have fz := fun i => B9.out.blk.frozen i
            have B10 := Lib.hid (B9.out.all (x' := y3) HYW.out.1 HYW.out.2.1 HYW.out.2.2.1 HYW.out.2.2.2)
            simp only
            go_upto_region 25 with (fail)
            clear b0 b1 b2 b3 b4 b5 b6 b7 b8 b9 ba bb fz
            have TW : Touch (· = w.heap.size) w9 ((((((((((((w9.setCell ⟨w.heap.size, 0, none⟩ (.int .i64 y3.s)).setCell ⟨w.heap.size, 1, none⟩ (.int .i64 y3.a)).setCell ⟨w.heap.size, 2, none⟩ (.int .i64 y3.ms)).setCell ⟨w.heap.size, 3, none⟩ (.int .i64 y3.ps)).setCell ⟨w.heap.size, 4, none⟩ (.int .i64 y3.pa)).setCell ⟨w.heap.size, 5, none⟩ (.int .i64 y3.units)).setCell ⟨w.heap.size, 6, none⟩ (.int .i64 y3.polls)).setCell ⟨w.heap.size, 7, none⟩ (.int .i64 (y3.most : Int))).setCell ⟨w.heap.size, 8, none⟩ (.slice Q.W y3.wait.length Q.cw)).setCell ⟨w.heap.size, 9, none⟩ (.slice Q.K y3.kept.length Q.ck)).setCell ⟨w.heap.size, 10, none⟩ (.slice Q.L y3.last.length Q.cl)).setCell ⟨w.heap.size, 11, none⟩ (.slice Q.G y3.again.length Q.cg)) := Touch.st12 (S := (· = w.heap.size)) (Touch.refl _ _) rfl
            have SC10 : Hid (Sl intE ((((((((((((w9.setCell ⟨w.heap.size, 0, none⟩ (.int .i64 y3.s)).setCell ⟨w.heap.size, 1, none⟩ (.int .i64 y3.a)).setCell ⟨w.heap.size, 2, none⟩ (.int .i64 y3.ms)).setCell ⟨w.heap.size, 3, none⟩ (.int .i64 y3.ps)).setCell ⟨w.heap.size, 4, none⟩ (.int .i64 y3.pa)).setCell ⟨w.heap.size, 5, none⟩ (.int .i64 y3.units)).setCell ⟨w.heap.size, 6, none⟩ (.int .i64 y3.polls)).setCell ⟨w.heap.size, 7, none⟩ (.int .i64 (y3.most : Int))).setCell ⟨w.heap.size, 8, none⟩ (.slice Q.W y3.wait.length Q.cw)).setCell ⟨w.heap.size, 9, none⟩ (.slice Q.K y3.kept.length Q.ck)).setCell ⟨w.heap.size, 10, none⟩ (.slice Q.L y3.last.length Q.cl)).setCell ⟨w.heap.size, 11, none⟩ (.slice Q.G y3.again.length Q.cg)) C gc T) := SC9.out.touch TW (SC9.out.blk_ne B9.out.blk (by decide))
            have SM10 : Hid (Sl intE ((((((((((((w9.setCell ⟨w.heap.size, 0, none⟩ (.int .i64 y3.s)).setCell ⟨w.heap.size, 1, none⟩ (.int .i64 y3.a)).setCell ⟨w.heap.size, 2, none⟩ (.int .i64 y3.ms)).setCell ⟨w.heap.size, 3, none⟩ (.int .i64 y3.ps)).setCell ⟨w.heap.size, 4, none⟩ (.int .i64 y3.pa)).setCell ⟨w.heap.size, 5, none⟩ (.int .i64 y3.units)).setCell ⟨w.heap.size, 6, none⟩ (.int .i64 y3.polls)).setCell ⟨w.heap.size, 7, none⟩ (.int .i64 (y3.most : Int))).setCell ⟨w.heap.size, 8, none⟩ (.slice Q.W y3.wait.length Q.cw)).setCell ⟨w.heap.size, 9, none⟩ (.slice Q.K y3.kept.length Q.ck)).setCell ⟨w.heap.size, 10, none⟩ (.slice Q.L y3.last.length Q.cl)).setCell ⟨w.heap.size, 11, none⟩ (.slice Q.G y3.again.length Q.cg)) B d M) := SM9.out.touch TW (SM9.out.blk_ne B9.out.blk (by decide))
            clear TW SC9 SM9 B9
            generalize World.setCell _ ⟨w.heap.size, 11, none⟩ (.slice Q.G y3.again.length Q.cg) = w10 at *
            obtain ⟨NN, hNN⟩ : ∃ NN : Nat, a + (NN : Int) = x.s := ⟨(x.s - a).toNat, by have := hKs.out; omega⟩
            have HNN := Lib.hid hNN
            have hNb : NN ≤ 4000 := by have := HOK.out.klen; have := HAB.out; omega
            have HNL : Hid (NN ≤ y3.last.length) := by
              unfold Hid
              rw [HYL.out, List.length_drop]
              have := HOK.out.klen
              have := HOK.out.llen
              have := HKE.out
              omega
            obtain ⟨MO, hMO⟩ : ∃ m, m = Sf.more { y3 with again := M } none T := ⟨_, rfl⟩
            have HMA : Hid (∀ j : Nat, decide (a + (j : Int) ∈ MO) = (!decide (a + (j : Int) ∈ M) && (decide ((j : Int) ∈ T) && Sf.may { y3 with again := M } none (a + (j : Int))))) := fun j => by
              rw [hMO, ← HYA.out]
              exact Sf.more_at { y3 with again := M } none T j
            have HFIN : Hid (Sf.ustat x r mr l = ({ y3 with again := Sf.allJ M MO a NN }, ((Sf.cntJ MO a NN : Nat) : Int), 0)) := by
              unfold Hid Sf.ustat
              rw [if_neg (by rw [HTK.out]; decide), HAA.out, HTE.out, ← HZE.out]
              have e1 : NN = (y3.s - y3.a).toNat := by rw [HYA.out, HYS.out]; omega
              have e2 : Sf.allJ M MO a NN = Sf.merge { y3 with again := M } MO := by
                rw [e1, ← HYA.out]
                exact Sf.allJ_end { y3 with again := M } MO
              have e3 : Sf.cntJ MO a NN = MO.length := by
                rw [e1, ← HYA.out]
                refine Sf.cntJ_end { y3 with again := M } (by rw [hMO]; exact Sf.more_rising HTT.out.1) fun n hn => ?_
                rw [hMO] at hn
                have h1 := HTT.out.2.1 _ (Sf.more_mem.1 hn).1
                have h2 := HYA.out
                have h3 := HYS.out
                show y3.a ≤ n ∧ n < y3.s
                have h4 : 0 ≤ n - y3.a ∧ n - y3.a < x.s - a := h1
                omega
              rw [e2, e3, hMO]
              rfl
            have hab2 : 0 ≤ a ∧ a ≤ 16800000 := by have := HAB.out; have := hKs.out; omega
            have hTl : T.length ≤ 4000 := by have := rise_len T 0 (x.s - a) HTT.out.1 HTT.out.2.1; omega
            clear hMO hNN HZE HTT HTK HTE HAGE HKE HY1 HY2 HYW HAA HPE HAE
            have k1 : ∀ o, (w10.alloc o).cell? ⟨w.heap.size, 1, none⟩ = some (.int .i64 a) := fun o => by rw [← HYA.out]; exact (B10.out.blk.alloc o).cell 1
            have M0 := Lib.hid (Mine.lit intE w10 #[] [] rfl 0 rfl (by decide))
            go_wp2_with fail
            clear k1
            go_loopw [24, 25, 26] (fun s24 s25 s26 wr => ∃ (j : Nat) (B2 : Option Addr) (d2 : Nat) (M2 : List Int) (cN : Nat), j ≤ NN ∧ s26 = .int .i64 (a + (j : Int)) ∧ s25 = .slice B2 M2.length d2 ∧ s24 = .int .i64 (cN : Int) ∧ cN ≤ j ∧ M2.length ≤ j ∧ Hid (cN = Sf.cntJ MO a j) ∧ Hid (M2 = Sf.allJ M MO a j) ∧ Hid (Mine intE w10 wr B2 d2 M2)) (fun _ _ s26 _ => (a + (NN : Int) - intOf s26).toNat)
            case atStart => exact ⟨0, _, 0, [], 0, by omega, by simp, rfl, rfl, by omega, by simp, rfl, rfl, M0⟩
            case round =>
              clear M0
              obtain ⟨j, B2, d2, M2, cN, hj, rfl, rfl, rfl, hcj, hMj, HCN, HM2, HMI⟩ := hrel
              have BR := Lib.hid (B10.out.old HMI.out.fresh)
              have c0 : wr.cell? ⟨w.heap.size, 0, none⟩ = some (.int .i64 x.s) := by rw [← HYS.out]; exact BR.out.blk.cell 0
              by_cases hlt : j < NN
              · have hlt1 : decide (a + (j : Int) < x.s) = true := decide_eq_true (by have := HNN.out; omega)
                have HAL := Lib.hid (Sf.allJ_succ M MO a j)
                have HCS := Lib.hid (Sf.cntJ_succ MO a j)
                rw [HMA.out j, ← HM2.out] at HAL
                rw [HMA.out j, ← HCN.out] at HCS
                have HAS1 := Lib.hid (sfhas_any (a + (j : Int)) B d M wr (SM10.out.touch HMI.out.fresh (fun _ _ h => h)).rd (by omega))
                generalize decide (a + (j : Int) ∈ M) = z1 at *
                have hsub : a + (j : Int) - a = (j : Int) := by omega
                have hnx : a + (j : Int) + 1 = a + ((j + 1 : Nat) : Int) := by omega
                have HNX : Hid (Value.int .i64 (a + (j : Int) + 1) = .int .i64 (a + ((j + 1 : Nat) : Int))) := by unfold Hid; rw [hnx]
                clear hnx
                have hmeas : (a + (NN : Int) - (a + (j : Int) + 1)).toNat < (a + (NN : Int) - (a + (j : Int))).toNat := by omega
                go_wp2_with fail
                refine HAS1.out.mono ?_
                rintro e w11 ⟨rfl, f11⟩
                have HM11 := Lib.hid (HMI.out.old f11)
                clear f11 HAS1 HMI c0 BR
                simp only
                cases z1 with
                | true =>
                  have HAL2 : Hid (Sf.allJ M MO a (j + 1) = M2 ++ [a + (j : Int)]) := HAL.out
                  have HCS2 : Hid (Sf.cntJ MO a (j + 1) = cN) := HCS.out
                  clear HAL HCS HM2 HCN hsub
                  go_wp2_with (at_builtin; refine app_int rfl rfl (l := M2) (l2 := [a + (j : Int)]) rfl rfl (HM11.out.sl.alloc _) (Sl.rd (Sl.lit intE _ _ rfl _ _ rfl _ rfl (by decide))) (by simp; omega) ?_; intro B4 d4 M4 w13 hM4 hs4 ht4 hB4)
                  have HM13 := Lib.hid ((HM11.out.alloc (.cells #[.int .i64 (a + (j : Int))] 3)).app hs4 ht4 hB4)
                  have hl4 : M4.length ≤ j + 1 := by rw [hM4.out]; simp; omega
                  have HM14 : Hid (M4 = Sf.allJ M MO a (j + 1)) := by unfold Hid; rw [HAL2.out, hM4.out]
                  clear hs4 ht4 hB4 hM4 HM11 HAL2 
                  go_wp2
                  go_roundw
                  case rel => first | exact ⟨j + 1, B4, d4, M4, cN, hlt, HNX.out, rfl, rfl, by omega, hl4, HCS2.out.symm, HM14, HM13⟩ | ((repeat apply Exists.intro); exact ⟨⟨j + 1, B4, d4, M4, cN, hlt, HNX.out, rfl, rfl, by omega, hl4, HCS2.out.symm, HM14, HM13⟩, rfl⟩)
                  case measure => first | (simp only [intOf]; exact hmeas) | exact hmeas
                | false =>
                  have HAS2 := Lib.hid (sfhas_any (j : Int) C gc T w11 (SC10.out.touch HM11.out.fresh (fun _ _ h => h)).rd (by omega))
                  generalize decide ((j : Int) ∈ T) = z2 at *
                  go_wp2_with fail
                  refine HAS2.out.mono ?_
                  rintro e w12 ⟨rfl, f12⟩
                  have HM12 := Lib.hid (HM11.out.old f12)
                  clear f12 HAS2 HM11
                  simp only
                  cases z2 with
                  | false =>
                    have HAL2 : Hid (Sf.allJ M MO a (j + 1) = M2) := HAL.out
                    have HCS2 : Hid (Sf.cntJ MO a (j + 1) = cN) := HCS.out
                    clear HAL HCS HM2 HCN
                    go_wp2
                    go_roundw
                    case rel => exact ⟨j + 1, B2, d2, M2, cN, hlt, HNX.out, rfl, rfl, by omega, by omega, HCS2.out.symm, HAL2.out.symm, HM12⟩
                    case measure => simp only [intOf]; exact hmeas
                  | true =>
                    have HAL2 : Hid (Sf.allJ M MO a (j + 1) = M2 ++ [a + (j : Int)]) := HAL.out
                    have HCS2 : Hid (Sf.cntJ MO a (j + 1) = cN + 1) := HCS.out
                    clear HAL HCS HM2 HCN
                    go_wp2_with (at_builtin; refine app_int rfl rfl (l := M2) (l2 := [a + (j : Int)]) rfl rfl (HM12.out.sl.alloc _) (Sl.rd (Sl.lit intE _ _ rfl _ _ rfl _ rfl (by decide))) (by simp; omega) ?_; intro B4 d4 M4 w13 hM4 hs4 ht4 hB4)
                    have HM13 := Lib.hid ((HM12.out.alloc (.cells #[.int .i64 (a + (j : Int))] 3)).app hs4 ht4 hB4)
                    have hl4 : M4.length ≤ j + 1 := by rw [hM4.out]; simp; omega
                    have HM14 : Hid (M4 = Sf.allJ M MO a (j + 1)) := by unfold Hid; rw [HAL2.out, hM4.out]
                    clear hs4 ht4 hB4 hM4 HM12 HAL2 
                    go_wp2
                    go_roundw
                    case rel => first | exact ⟨j + 1, B4, d4, M4, cN + 1, hlt, HNX.out, rfl, by go_num, by omega, hl4, HCS2.out.symm, HM14, HM13⟩ | ((repeat apply Exists.intro); exact ⟨⟨j + 1, B4, d4, M4, cN + 1, hlt, HNX.out, rfl, by go_num, by omega, hl4, HCS2.out.symm, HM14, HM13⟩, rfl⟩)
                    case measure => first | (simp only [intOf]; exact hmeas) | exact hmeas
              · obtain rfl : j = NN := by omega
                have hlt1 : decide (a + (j : Int) < x.s) = false := decide_eq_false (by have := HNN.out; omega)
                have bb : wr.cell? ⟨w.heap.size, 11, none⟩ = some (.slice Q.G y3.again.length Q.cg) := BR.out.blk.cell 11
                have f11 := BR.out.blk.frozen 11
                have BY : Hid (SfBox w (wr.setCell ⟨w.heap.size, 11, none⟩ (.slice B2 M2.length d2)) D { Q with G := B2, cg := d2 } { y3 with again := M2 }) := by
                  have h0 := BR.out
                  exact h0.put (P' := { Q with G := B2, cg := d2 }) (x' := { y3 with again := M2 }) 11 _ rfl ⟨h0.ins.wait, h0.ins.kept, h0.ins.last, HMI.out.sl⟩ ⟨h0.dom.W, h0.dom.K, h0.dom.L, fun ad e => .inr (by have h1 := HMI.out.base ad e; have h2 := B10.out.fresh.size; show w.heap.size ≤ _; omega)⟩
                have HFN : Hid (Sf.ustat x r mr l = ({ y3 with again := M2 }, (cN : Int), 0)) := by unfold Hid; rw [HFIN.out, ← HM2.out, ← HCN.out]
                clear HMI HM2 HCN HFIN B10 SC10 SM10 HMA 
                go_upto_region 37 with (fail)
                clear bb f11 BR c0
                generalize wr.setCell ⟨w.heap.size, 11, none⟩ (.slice B2 M2.length d2) = wz at *
                obtain ⟨b0, b1, b2, b3, b4, b5, b6, b7, b8, b9, ba, bb⟩ := BY.out.cells
                obtain ⟨r0, r1, r2, r3, r4, r5, r6, r7, r8, r9, ra, rb⟩ := BY.out.zeros
                simp only at b0 b1 b2 b3 b4 b5 b6 b7 b8 b9 ba bb
                have fz := fun i => BY.out.res.frozen i
                have HX : Hid (∀ W, Touch (· = w.heap.size + 1) wz W → SfOut w D { y3 with again := M2 } (.agg #[.int .i64 y3.s, .int .i64 y3.a, .int .i64 y3.ms, .int .i64 y3.ps, .int .i64 y3.pa, .int .i64 y3.units, .int .i64 y3.polls, .int .i64 (y3.most : Int), .slice Q.W y3.wait.length Q.cw, .slice Q.K y3.kept.length Q.ck, .slice Q.L y3.last.length Q.cl, .slice B2 M2.length d2]) W) := fun W ht => BY.out.done ht HDD.out
                clear BY HDD
                go_wp2
                rw [HFN.out]
                exact bodyPost_ret (v := .tuple #[.agg #[.int .i64 y3.s, .int .i64 y3.a, .int .i64 y3.ms, .int .i64 y3.ps, .int .i64 y3.pa, .int .i64 y3.units, .int .i64 y3.polls, .int .i64 (y3.most : Int), .slice Q.W y3.wait.length Q.cw, .slice Q.K y3.kept.length Q.ck, .slice Q.L y3.last.length Q.cl, .slice B2 M2.length d2], .int .i64 (cN : Int), .int .i64 0]) (by simp [results, Tryz.results18, go_sem, r0, r1, r2, r3, r4, r5, r6, r7, r8, r9, ra, rb]) rfl ⟨_, rfl, HX.out _ (Touch.st12 (S := (· = w.heap.size + 1)) (Touch.refl _ _) rfl)⟩

/-- A report, of either kind. -/
theorem sfrep_any (st : Bool) (P : SfP) (D : Nat → Prop) (x : Sf.S) (r mr ps : Int) (A : Option Addr) (c : Nat) (l : List Int) (w : World) (h : SfIn w P x) (hd : SfD P D) (hD : ∀ k, D k → k < w.heap.size) (hok : Sf.Ok x lo hi) (hr : Rd intE w A c l) (hl : l.length ≤ 1000000) :
    Calls Tryz.prog 18 #[sfV x P, .bool st, .int .i64 r, .int .i64 mr, .int .i64 ps, .slice A l.length c] w (SfRepPost w D (if st then Sf.stat x r mr ps l else Sf.ustat x r mr l)) := by
  cases st with
  | true => exact sfrep_true P D x r mr ps A c l w h hd hD hok hr hl
  | false => exact sfrep_false P D x r mr ps A c l w h hd hD hok hr hl
end
end Go.Proofs.YtajdnllkkekmnaaGreat
