/-
  PolliwogTwo: a sender and a receiver, some units lost, then polls: all come, in their order. No conditions.
-/
import Derived.Test.YtngljhpplmbglaaOpen
import Derived.Test.YtngljhpplmbglaaTwoM
import Derived.Test.YtngljhpplmbglaaGapC
import Derived.Test.YtngljhpplmbglaaNum
namespace Go.Proofs.Ytngljhpplmbglaa
open Go.RowKit Go.ChangeShapes Go.WideShapes Go.ChangeAt

def boolE : El Bool := { e := 4, size := 1, bytes := 1, zero := .bool false, zel := false, enc := fun x => [.bool x], len := fun _ => rfl, one := by simp [Value.oneCell'], pos := by decide, zsize := rfl, zenc := rfl }
theorem Rd.bool_at {w : World} {A : Option Addr} {c : Nat} {l : List Bool} (h : Rd boolE w A c l) (k : Nat) (hk : k < l.length) : ∃ g o, A = some ⟨g, o, none⟩ ∧ g < w.heap.size ∧ w.cell? ⟨g, o + k, none⟩ = some (.bool (l.getD k false)) := by
  obtain ⟨g, o, hA, hg, hc⟩ := h.at_ k hk
  refine ⟨g, o, hA, hg, ?_⟩
  have := hc 0 (.bool (l.getD k false)) (by simp [boolE, List.getD, List.getElem?_eq_getElem hk])
  simpa [boolE] using this
set_option maxRecDepth 10000 in
theorem open_rd_bool {H : Type} {enc : TypeId × Value → H} {W : World} {base : Nat} {v : Value} {d : DataW H} {p : List MemPlace}
    (hv : Value.okWide Try.prog W .any base 23 v) (h : DataW.Trod enc Try.prog W 0 (fun _ => true) true 23 v d p) :
    ∃ A c l, v = .slice A l.length c ∧ Rd boolE W A c l := by
  obtain ⟨A, c, l, h1, h2, _⟩ := open_rd boolE Try.underlying23 (by kernel_rfl) (Good := fun _ => True) (fun n cs y hy => by
    obtain ⟨x, rfl, _⟩ := DataW.trod_bool Try.underlying4 hy
    exact ⟨x, rfl, trivial⟩) hv h
  exact ⟨A, c, l, h1, h2⟩
set_option maxRecDepth 10000 in
theorem open_rd_str {H : Type} {enc : TypeId × Value → H} {W : World} {base : Nat} {v : Value} {d : DataW H} {p : List MemPlace}
    (hv : Value.okWide Try.prog W .any base 22 v) (h : DataW.Trod enc Try.prog W 0 (fun _ => true) true 22 v d p) :
    ∃ A c l, v = .slice A l.length c ∧ Rd strE W A c l ∧ (∀ s ∈ l, s.size ≤ maxLen) :=
  open_rd strE Try.underlying22 (by kernel_rfl) (fun n cs y hy => by
    obtain ⟨x, rfl, _, hs⟩ := DataW.trod_string Try.underlying9 hy
    exact ⟨x, rfl, hs⟩) hv h
end Go.Proofs.Ytngljhpplmbglaa

namespace Go.Proofs.Ytngljhpplmbglaa
open Go.RowKit Go.ChangeShapes Go.WideShapes Go.ChangeAt
set_option maxRecDepth 20000
set_option linter.constructorNameAsVariable false

/-- A message, cut. -/
def cut6 (v : ByteArray) : ByteArray := if 6 < v.size then v.extract 0 6 else v

theorem Rf.poll_R (x : Rf.S) (n : Int) : (Rf.poll x n).R = x.R := by
  unfold Rf.poll
  split <;> rfl
theorem Sf.wait_nil {x : Sf.S} (h : x.wait = []) : ({ x with wait := [] } : Sf.S) = x := by
  cases x
  simp only at h
  subst h
  rfl

set_option maxHeartbeats 16000000 in
theorem polliwogTwo.core (start window : Int) (Am : Option Addr) (cm : Nat) (M : List ByteArray) (Al : Option Addr) (cl : Nat) (Ls : List Bool) (w : World) (hM : Rd strE w Am cm M) (hMs : ∀ v ∈ M, v.size ≤ maxLen) (hL : Rd boolE w Al cl Ls) :
    Calls Try.prog 3 #[.agg #[.int .i64 start, .int .i64 window, .slice Am M.length cm, .slice Al Ls.length cl]] w fun e w' => e = .returned (.bool true) ∧ Below w.heap.size w w' := by
  have hlc := hM.1
  have hcm := hM.2.1
  have hlc2 := hL.1
  have hcm2 := hL.2.1
  unfold maxLen at hcm hcm2
  have HR := Lib.hid hM
  have HR2 := Lib.hid hL
  have HMS := Lib.hid hMs
  clear hM hL hMs
  have HSO := Lib.hid (sof_any start)
  obtain ⟨s0, hs0⟩ : ∃ s0, start % 16777216 = s0 := ⟨_, rfl⟩
  have HBG : Hid (∀ L : List ByteArray, L.length ≤ 100 → T2.Head s0 L { Sf.opn (Sf.new start 256 256) ((Rf.new start window).MR % 16777216) with wait := L } (Rf.new start window) [] 0) := fun L hL => by
    have := T2.Head.begin start window L hL rfl
    rwa [hs0] at this
  have HNS : Hid (∀ W, Calls Try.prog 4 #[.int .u32 s0, .int .i64 256, .int .i64 256] W fun e w' => ∃ p, e = .returned (.pointer (some ⟨p, 0, none⟩)) ∧ SendAt w' p (fun x => W.heap.size ≤ x) (Sf.prog (Sf.new start 256 256)) ∧ Fresh W w') := fun W => by
    have := snew_any s0 256 256 W
    rw [← hs0, Sd.new_modP] at this
    rw [← hs0]
    exact this.mono fun e w' ⟨p, h1, h2, h3, _⟩ => ⟨p, h1, h2, h3⟩
  have HNR : Hid (∀ W, Calls Try.prog 6 #[.int .u32 s0, .int .i64 window] W fun e w' => ∃ p F, e = .returned (.pointer (some ⟨p, 0, none⟩)) ∧ RecvAt w' p F (Rf.prog (Rf.new start window)) ∧ Fresh W w' ∧ ∀ x, F x → W.heap.size ≤ x) := fun W => by
    have := rnew_any s0 window W
    rw [← hs0, Rv.new_modP] at this
    rw [← hs0]
    exact this
  have HOK0 : Hid (Sf.Ok (Sf.new start 256 256) (start % 16777216) (start % 16777216 + 3000)) := Sf.Ok.new start 256 256 _ (by omega) (by omega)
  rw [hs0] at HSO
  clear hs0
  obtain ⟨x0, hx0⟩ : ∃ x0, Sf.new start 256 256 = x0 := ⟨_, rfl⟩
  obtain ⟨z0, hz0⟩ : ∃ z0, Rf.new start window = z0 := ⟨_, rfl⟩
  have HX0 : Hid (x0.most = 256 ∧ x0.wait = []) := by rw [← hx0]; exact ⟨rfl, rfl⟩
  rw [hx0] at HNS HBG HOK0
  rw [hz0] at HNR HBG
  clear hx0 hz0
  obtain ⟨w0, hw0⟩ : ∃ w0, w0 = w.alloc (.cells #[.int .i64 start, .int .i64 window, .slice Am M.length cm, .slice Al Ls.length cl] 25) := ⟨_, rfl⟩
  have F0 : Hid (Fresh w w0) := by rw [hw0]; exact (Touch.refl _ _).alloc _
  have B0 : Blk w0 w.heap.size 25 [.int .i64 start, .int .i64 window, .slice Am M.length cm, .slice Al Ls.length cl] := by rw [hw0]; exact Blk.new w _ _
  have b0 : w0.cell? ⟨w.heap.size, 0, none⟩ = some (.int .i64 start) := B0.cell 0
  have b1 : w0.cell? ⟨w.heap.size, 1, none⟩ = some (.int .i64 window) := B0.cell 1
  have b2 : w0.cell? ⟨w.heap.size, 2, none⟩ = some (.slice Am M.length cm) := B0.cell 2
  have b3 : w0.cell? ⟨w.heap.size, 3, none⟩ = some (.slice Al Ls.length cl) := B0.cell 3
  clear B0
  go_enter Try.func3, Try.ntmps3
  go_wp2_with fail
  rw [← hw0]
  clear hw0
  go_quiet (fail)
  obtain ⟨w1, hw1⟩ : ∃ w1, w1 = w0.drewN nq := ⟨_, rfl⟩
  have F1 : Hid (Fresh w w1) := by rw [hw1]; exact F0.out.drewN nq
  rw [← hw1]
  clear hw1 F0 b0 b1 b2 b3
  go_wp2_with fail
  refine (HSO.out _).mono ?_
  rintro e w2 ⟨rfl, rfl⟩
  simp only
  go_wp2_with fail
  refine (HNS.out _).mono ?_
  rintro e w3 ⟨p, rfl, s3, f3⟩
  have S3 : Hid (SendAt w3 p (fun k => w.heap.size ≤ k) (Sf.prog x0)) := s3.mono fun k hk => Nat.le_trans F1.out.size hk
  have F3 : Hid (Fresh w w3) := F1.out.trans f3 (fun _ _ e => e)
  clear s3 f3 F1 HNS
  simp only
  go_wp2_with fail
  refine (HSO.out _).mono ?_
  rintro e w4 ⟨rfl, h4⟩
  have h4 := h4.symm
  subst h4
  simp only
  go_wp2_with fail
  refine (HNR.out _).mono ?_
  rintro e w5 ⟨q, F, rfl, r5, f5, hF⟩
  have T5 : Hid (TwoSt w w5 p q x0 z0 none 0 [] none 0 []) := TwoSt.new S3.out F3.out r5 f5 hF
  clear r5 f5 hF S3 F3 HNR
  simp only
  go_wp2_with fail
  refine (trvars T5.out).mono ?_
  rintro e w6 ⟨rfl, t6⟩
  have T6 := Lib.hid t6
  clear t6 T5
  simp only
  obtain ⟨mr, hmr⟩ : ∃ mr, z0.MR % 16777216 = mr := ⟨_, rfl⟩
  have hmr2 : mr % 16777216 = mr := by omega
  rw [hmr] at HBG ⊢
  have hf2 : ∀ (a b c d e : Int) (W : World), (Instr.field 35 (.agg #[.int .u32 a, .int .u32 b, .int .u32 mr, .int .i64 c, .int .i64 d, .int .i64 e]) 2).run Try.prog W = .ok (.int .u32 mr) W := fun a b c d e W => by kernel_rfl
  clear hmr
  go_wp2_with fail
  refine (topn T6.out HOK0.out mr hmr2).mono ?_
  rintro e w7 ⟨rfl, t7⟩
  have T7 := Lib.hid t7
  have HX1 : Hid ((Sf.opn x0 mr).most = 256 ∧ (Sf.opn x0 mr).wait = []) := by unfold Hid Sf.opn; split <;> exact HX0.out
  generalize Sf.opn x0 mr = x1 at *
  clear t7 T6 HOK0 hf2 HX0
  simp only
  obtain ⟨n, hn⟩ : ∃ n, min M.length 100 = n := ⟨_, rfl⟩
  have hn1 : n ≤ M.length := by omega
  have hn100 : n ≤ 100 := by omega
  have HV : Hid (∀ k, k < n → (M.take (k + 1)).map cut6 = (M.take k).map cut6 ++ [cut6 (M.getD k ByteArray.empty)]) := fun k hk => by
    rw [List.take_succ_eq_append_getElem (by omega), List.map_append]
    simp [List.getD, List.getElem?_eq_getElem (show k < M.length by omega)]
  have HVL : Hid (∀ k, k ≤ n → ((M.take k).map cut6).length = k) := fun k hk => by
    rw [List.length_map, List.length_take]
    omega
  go_upto_block 0 with (fail)
  go_cut [9] (fun v wx => ∃ A2 c2, v = .slice A2 ((M.take n).map cut6).length c2 ∧ Hid (TwoSt w wx p q { x1 with wait := (M.take n).map cut6 } z0 none 0 [] A2 c2 ((M.take n).map cut6)))
  case first =>
    go_wp2_with fail
    go_loopw [11, 9] (fun i v wr => ∃ (k : Nat) (A2 : Option Addr) (c2 : Nat), k ≤ n ∧ i = .int .i64 k ∧ v = .slice A2 ((M.take k).map cut6).length c2 ∧ Hid (TwoSt w wr p q { x1 with wait := (M.take k).map cut6 } z0 none 0 [] A2 c2 ((M.take k).map cut6))) (fun i _ _ => n - (intOf i).toNat)
    case atStart => exact ⟨0, none, 0, by omega, rfl, rfl, by have := T7.out; rw [← Sf.wait_nil HX1.out.2] at this; exact this⟩
    case round =>
      clear T7
      obtain ⟨k, A2, c2, hk, rfl, rfl, HT⟩ := hrel
      by_cases hlt : k < n
      · have hk1 : (k : Int) < (M.length : Int) := by omega
        have hdk1 : decide ((k : Int) < (M.length : Int)) = true := decide_eq_true hk1
        have hk2 : (k : Int) < 100 := by omega
        have hdk2 : decide ((k : Int) < 100) = true := decide_eq_true hk2
        have hk0 : (0 : Int) ≤ (k : Int) := by omega
        obtain ⟨g, o, hAe, _, c0⟩ := (HR.out.touch HT.out.fresh (fun _ _ _ h => h)).str_at k (by omega)
        have HVk := Lib.hid (HV.out k hlt)
        have HLk : Hid (((M.take k).map cut6).length = k) := HVL.out k hk
        obtain ⟨P1, hP1⟩ : ∃ P1, (M.take (k + 1)).map cut6 = P1 := ⟨_, rfl⟩
        have HP1 := Lib.hid hP1
        rw [hP1] at HVk
        clear hP1
        generalize (M.take k).map cut6 = P0 at *
        generalize M.getD k ByteArray.empty = v at *
        rw [hAe]
        have HAE := Lib.hid hAe
        clear hAe hn
        go_upto_if 75 with (fail)
        go_cut [12] (fun y wx => wx = wr ∧ y = .string (cut6 v))
        case first =>
          by_cases hs : 6 < v.size
          · have hc : cut6 v = v.extract 0 6 := if_pos hs
            have hs1 : (6 : Int) < (v.size : Int) := by omega
            go_wp2_with fail
            go_meet
            case rel => exact ⟨rfl, by rw [hc]⟩
          · have hc : cut6 v = v := if_neg hs
            have hs1 : ¬ (6 : Int) < (v.size : Int) := by omega
            go_wp2_with fail
            go_meet
            case rel => exact ⟨rfl, by rw [hc]⟩
        case rest =>
        obtain ⟨rfl, rfl⟩ := hcut
        have hql : P0.length < x1.most := by rw [HX1.out.1, HLk.out]; omega
        have HP := Lib.hid (tput HT.out (cut6 v) (by exact hql))
        have hPl : P0.length ≤ 100 := by rw [HLk.out]; omega
        generalize hcv : cut6 v = cv at *
        clear hcv c0 hql HT
        go_wp2_with fail
        refine HP.out.mono ?_
        rintro e w8 ⟨rfl, t8⟩
        have T8 := Lib.hid t8
        clear t8 HP
        simp only
        go_wp2_with (at_builtin; refine app_str rfl rfl (l := P0) (l2 := [cv]) rfl rfl (T8.out.sa.alloc _) (Sl.rd (Sl.lit strE w8 _ rfl #[.string cv] [cv] rfl 1 rfl (by decide))) (by simp; omega) ?_; intro A4 d4 M4 w9 hM4 hs4 ht4 hB4)
        have T9 : Hid (TwoSt w w9 p q { x1 with wait := P1 } z0 none 0 [] A4 d4 P1) := by
          have h1 := ((T8.out.old ((Touch.refl _ _).alloc _)).swap.app hs4 ht4 hB4).swap
          rw [hM4.out] at h1
          rw [HVk.out]
          exact h1
        have hM5 : M4 = P1 := by rw [hM4.out, HVk.out]
        subst hM5
        clear hM4 hs4 ht4 hB4 T8
        go_wp2
        go_roundw
        case rel => exact ⟨k + 1, A4, d4, hlt, by go_num, by rw [HP1.out], by rw [HP1.out]; exact T9⟩
        case measure => simp [intOf]; omega
      · obtain rfl : k = n := by omega
        by_cases hk1 : (k : Int) < (M.length : Int)
        · have hdk1 : decide ((k : Int) < (M.length : Int)) = true := decide_eq_true hk1
          have hk2 : ¬ (k : Int) < 100 := by omega
          have hdk2 : decide ((k : Int) < 100) = false := decide_eq_false hk2
          clear hn
          go_wp2
          go_meet
          case rel => exact ⟨A2, c2, by rw [HVL.out k (Nat.le_refl _)], HT⟩
        · have hdk1 : decide ((k : Int) < (M.length : Int)) = false := decide_eq_false hk1
          clear hn
          go_wp2
          go_meet
          case rel => exact ⟨A2, c2, by rw [HVL.out k (Nat.le_refl _)], HT⟩
  case rest =>
  obtain ⟨A2, c2, rfl, T8⟩ := hcut
  have hLn := HVL.out n (Nat.le_refl _)
  clear T7 HV HMS HR HVL hn
  generalize (M.take n).map cut6 = L at *
  have HH0 := Lib.hid (HBG.out L (by omega))
  have hL100 : L.length ≤ 100 := by omega
  clear HBG HX1 hLn
  generalize ({ x1 with wait := L } : Sf.S) = y0 at *
  go_upto_block 2 with (fail)
  go_cut [10] (fun v wx => ∃ A c x z, v = .slice A L.length c ∧ Hid (TwoSt w wx p q x z A c L A2 c2 L) ∧ Hid (Sf.Ok x s0 (s0 + 3000)) ∧ Hid (x.kept = [] ∧ x.wait = []))
  case first =>
    go_wp2_with fail
    go_loopw [10, 13, 86] (fun v10 v13 v86 wr => ∃ (r k : Nat) (A : Option Addr) (c : Nat) (x : Sf.S) (z : Rf.S) (got : List ByteArray), r ≤ 400 ∧ k ≤ 2000 * r ∧ v10 = .slice A got.length c ∧ v13 = .int .i64 k ∧ v86 = .int .i64 r ∧ Hid (TwoSt w wr p q x z A c got A2 c2 L) ∧ Hid (T2.Head s0 L x z got r)) (fun _ _ v86 _ => 400 - (intOf v86).toNat)
    case atStart => exact ⟨0, 0, none, 0, y0, z0, [], by omega, by omega, rfl, rfl, rfl, T8, HH0⟩
    case round =>
      clear T8 HH0
      obtain ⟨r, k, A, c, x, z, got, hr4, hk2, rfl, rfl, rfl, HT, HH⟩ := hrel
      by_cases hr : r < 400
      · have hr1 : (r : Int) < 400 := by omega
        go_upto_block 4 with (fail)
        go_cut [10, 13] (fun v10 v13 wx => ∃ (k' : Nat) (A : Option Addr) (c : Nat) (x' : Sf.S) (z' : Rf.S) (got' : List ByteArray), k' ≤ 2000 * (r + 1) ∧ v10 = .slice A got'.length c ∧ v13 = .int .i64 k' ∧ Hid (TwoSt w wx p q x' z' A c got' A2 c2 L) ∧ Hid (T2.Mid s0 L x x' z' got' r) ∧ Hid (x'.again = [] ∧ (x'.wait = [] ∨ x'.ms ≤ x'.s)))
        case first =>
          have HPS : Hid (∀ (x' : Sf.S) (z' : Rf.S) (got' : List ByteArray), T2.Mid s0 L x x' z' got' r → x'.ps ≤ s0 + 1000) := fun x' z' got' hm => hm.psb (.inr HH.out.ps) (by omega)
          have HST : Hid ((k : Int) + T2.mea x z ≤ 2000 * (r : Int) + 1500) := by have := HH.out.pot.2; unfold Hid; omega
          have HM0 := Lib.hid HH.out.mid
          clear HH
          go_wp2_with fail
          go_loopw [10, 13] (fun v10 v13 wr => ∃ (k' : Nat) (A : Option Addr) (c : Nat) (x' : Sf.S) (z' : Rf.S) (got' : List ByteArray), v10 = .slice A got'.length c ∧ v13 = .int .i64 k' ∧ Hid (TwoSt w wr p q x' z' A c got' A2 c2 L) ∧ Hid (T2.Mid s0 L x x' z' got' r) ∧ Hid ((k' : Int) + T2.mea x' z' ≤ 2000 * (r : Int) + 1500)) (fun _ v13 _ => (2000 * r + 1500) - (intOf v13).toNat)
          case atStart => exact ⟨k, A, c, x, z, got, rfl, rfl, HT, HM0, HST⟩
          case round =>
            clear HT HM0 HST hk2 hr4
            obtain ⟨k', A', c', x', z', got', rfl, rfl, HT, HM, HK⟩ := hrel
            have hm0 := HM.out.mea0
            have hkb : (k' : Int) ≤ 900000 := by have := HK.out; omega
            obtain ⟨⟨y, m, v, nw, ok⟩, hn⟩ : ∃ s, Sf.next x' = s := ⟨_, rfl⟩
            have HN := Lib.hid (tnext HT.out HM.out.inv.sok hn)
            cases ok
            · have HSTOP : Hid (x'.again = [] ∧ (x'.wait = [] ∨ x'.ms ≤ x'.s)) := (T2.next_stop hn).2
              have hy := (T2.next_stop hn).1
              subst hy
              have hke : k' ≤ 2000 * (r + 1) := by have := HK.out; omega
              clear hn HT HPS HK hm0 hr1
              go_wp2_with fail
              refine HN.out.mono ?_
              rintro e w9 ⟨rfl, t9⟩
              have T9 := Lib.hid t9
              clear t9 HN
              simp only
              go_wp2
              go_meet
              case rel => exact ⟨k', A', c', y, z', got', hke, rfl, rfl, T9, HM, HSTOP⟩
            · have HPL : Hid (r < 50 → T2.Mid s0 L x y z' got' r ∧ T2.mea y z' < T2.mea x' z') := fun hc => HM.out.lost hc (HPS.out _ _ _ HM.out) hn
              have HPC : Hid (T2.Mid2 s0 L x y (Rf.data z' m v).1 (got' ++ (Rf.data z' m v).2) r ∧ T2.mea y (Rf.data z' m v).1 < T2.mea x' z') := HM.out.comes (HPS.out _ _ _ HM.out) hn
              have HRK := HM.out.inv.rok
              obtain ⟨⟨u, LD⟩, hd⟩ : ∃ s, Rf.data z' m v = s := ⟨_, rfl⟩
              have HD : Hid (∀ W, TwoSt w W p q y z' A' c' got' A2 c2 L → Calls Try.prog 11 #[.pointer (some ⟨q, 0, none⟩), .int .u32 (m % 16777216), .string v] W fun e w' => ∃ A4 c4, e = .returned (.slice A4 LD.length c4) ∧ Rd strE w' A4 c4 LD ∧ TwoSt w w' p q y u A' c' got' A2 c2 L) := fun W hW => tdata hW HRK (by omega) m v hd
              rw [hd] at HPC
              have hLD : LD.length ≤ 1000 := by
                have h1 : got' ++ LD = _ := HPC.out.1.inv.got
                have h2 := HPC.out.1.inv.ll
                have h3 := congrArg List.length h1
                rw [List.length_append, List.length_take] at h3
                omega
              have HGL : Hid (got'.length ≤ 100) := by
                have h1 := HM.out.inv.got
                have h2 := HM.out.inv.ll
                unfold Hid
                rw [h1, List.length_take]
                omega
              clear hn HT HM hm0 hr1 HPS hd HRK
              go_wp2_with fail
              refine HN.out.mono ?_
              rintro e w9 ⟨rfl, t9⟩
              have T9 := Lib.hid t9
              clear t9 HN
              simp only
              generalize m % 16777216 = mm at *
              go_upto_region 22 with (fail)
              go_cut [111] (fun y wx => wx = w9 ∧ ∃ b, y = .bool b ∧ Hid (b = true → r < 50))
              case first =>
                clear HD HPC HGL hLD
                have hk0 : (0 : Int) ≤ (k' : Int) := by omega
                by_cases hkl : k' < Ls.length
                · have hk1 : (k' : Int) < (Ls.length : Int) := by omega
                  have hdk1 : decide ((k' : Int) < (Ls.length : Int)) = true := decide_eq_true hk1
                  obtain ⟨g, o, rfl, _, c0⟩ := (HR2.out.touch T9.out.fresh (fun _ _ _ h => h)).bool_at k' hkl
                  generalize Ls.getD k' false = lb at *
                  cases lb
                  · go_wp2_with fail
                    go_meet
                    case rel => exact ⟨rfl, false, rfl, fun h => (by cases h)⟩
                  · by_cases h50 : r < 50
                    · have h50a : (r : Int) < 50 := by omega
                      have h50b : decide ((r : Int) < 50) = true := decide_eq_true h50a
                      go_wp2_with fail
                      go_meet
                      case rel => exact ⟨rfl, true, rfl, fun _ => h50⟩
                    · have h50a : ¬ (r : Int) < 50 := by omega
                      have h50b : decide ((r : Int) < 50) = false := decide_eq_false h50a
                      go_wp2_with fail
                      go_meet
                      case rel => exact ⟨rfl, false, rfl, fun h => (by cases h)⟩
                · have hk1 : ¬ (k' : Int) < (Ls.length : Int) := by omega
                  have hdk1 : decide ((k' : Int) < (Ls.length : Int)) = false := decide_eq_false hk1
                  go_wp2_with fail
                  go_meet
                  case rel => exact ⟨rfl, false, rfl, fun h => (by cases h)⟩
              case rest =>
                obtain ⟨rfl, b, rfl, HB⟩ := hcut
                cases b
                · clear HB HPL
                  go_wp2_with fail
                  refine (HD.out _ T9.out).mono ?_
                  rintro e wa ⟨A4, c4, rfl, r4, ta⟩
                  have TA := Lib.hid ta
                  have RA := Lib.hid r4
                  clear ta r4 HD T9
                  simp only
                  go_wp2_with (at_builtin; refine app_str rfl rfl (l := got') (l2 := LD) rfl rfl TA.out.sg RA.out (by have := HGL.out; omega) ?_; intro A5 c5 G5 wb hG5 hs5 ht5 hB5)
                  have TB : Hid (TwoSt w wb p q y u A5 c5 G5 A2 c2 L) := TA.out.app hs5 ht5 hB5
                  have HM5 : Hid (T2.Mid2 s0 L x y u G5 r) := by rw [hG5.out]; exact HPC.out.1
                  have HK5 : Hid (((k' + 1 : Nat) : Int) + T2.mea y u ≤ 2000 * (r : Int) + 1500) := by
                    have h1 := HK.out
                    have h2 : T2.mea y u < T2.mea x' z' := HPC.out.2
                    unfold Hid
                    omega
                  clear hG5 hs5 ht5 hB5 TA RA HPC HK HGL hLD
                  go_wp2_with fail
                  go_loopw [22] (fun _ wr => ∃ x2 z2, Hid (TwoSt w wr p q x2 z2 A5 c5 G5 A2 c2 L) ∧ Hid (T2.Mid2 s0 L x x2 z2 G5 r) ∧ Hid (((k' + 1 : Nat) : Int) + T2.mea x2 z2 ≤ 2000 * (r : Int) + 1500)) (fun _ wr => match wr.cell? ⟨q, 6, none⟩ with | some (.slice _ n _) => n | _ => 0)
                  case atStart => exact ⟨y, u, TB, HM5, HK5⟩
                  case round =>
                    clear TB HM5 HK5
                    obtain ⟨x2, z2, HT, HM, HK⟩ := hrel
                    obtain ⟨G, dG, hgc⟩ := HT.out.gaps
                    have HGC := Lib.hid hgc
                    clear hgc
                    rcases HM.out.tell with ⟨e, hm, hmea⟩ | ⟨z3, f, t, y3, c3, e, e2, hm3, hmea, hgl⟩
                    · have HN := Lib.hid (tgap_no HT.out HM.out.rok e)
                      have HM2 : Hid (T2.Mid s0 L x x2 { z2 with gaps := [] } G5 r) := hm
                      have HK2 : Hid (((k' + 1 : Nat) : Int) + T2.mea x2 { z2 with gaps := [] } ≤ 2000 * (r : Int) + 1500) := by have := HK.out; unfold Hid; omega
                      clear e hm hmea HT HM HK HGC
                      generalize ({ z2 with gaps := [] } : Rf.S) = z3 at *
                      go_wp2_with fail
                      refine HN.out.mono ?_
                      rintro e w9 ⟨C, d, nn, rfl, t9⟩
                      have T9 := Lib.hid t9
                      clear t9 HN
                      simp only
                      have hke : k' + 1 ≤ 2000 * r + 1500 := by have := HK2.out; have := HM2.out.mea0; omega
                      go_wp2
                      go_roundw
                      case rel => exact ⟨k' + 1, A5, c5, x2, z3, G5, rfl, by rfl, T9, HM2, HK2⟩
                      case measure => simp [intOf]; omega
                    · have HN := Lib.hid (tgap_yes HT.out HM.out.rok e)
                      have hsk := HM.out.sok
                      have HU : Hid (∀ W C d, TwoSt w W p q x2 z3 A5 c5 G5 A2 c2 L → Rd numE W C d [f % 16777216, t % 16777216] → Calls Try.prog 13 #[.pointer (some ⟨p, 0, none⟩), .int .u32 (z3.R % 16777216), .int .u32 (z3.MR % 16777216), .slice C 2 d] W fun e w' => e = .returned (.tuple #[.int .i64 c3, .int .i64 0]) ∧ TwoSt w w' p q y3 z3 A5 c5 G5 A2 c2 L) := fun W C d hW hr => tustat hW hsk _ _ hr (by simp) (by omega) e2
                      have HM2 := Lib.hid hm3
                      have HK2 : Hid (((k' + 1 : Nat) : Int) + T2.mea y3 z3 ≤ 2000 * (r : Int) + 1500) := by have := HK.out; unfold Hid; omega
                      have HGL := Lib.hid hgl
                      clear e e2 hm3 hmea hgl hsk HT HM HK
                      generalize z3.R % 16777216 = rr at *
                      generalize z3.MR % 16777216 = mrr at *
                      go_wp2_with fail
                      refine HN.out.mono ?_
                      rintro e w9 ⟨C, d, rfl, rd9, t9⟩
                      have HU9 := Lib.hid (HU.out w9 C d t9 rd9)
                      clear t9 rd9 HN HU
                      simp only
                      go_wp2_with fail
                      refine HU9.out.mono ?_
                      rintro e wa2 ⟨rfl, t10⟩
                      have T10 := Lib.hid t10
                      obtain ⟨G', dG', hgd⟩ := t10.gaps
                      have HGD := Lib.hid hgd
                      clear t10 HU9 hgd
                      simp only
                      go_wp2
                      go_roundw
                      case rel => exact ⟨y3, z3, T10, HM2, HK2⟩
                      case measure => rw [HGC.out, HGD.out]; exact HGL.out
                · have hl := HPL.out (HB.out rfl)
                  have HM2 := Lib.hid hl.1
                  have HK2 : Hid (((k' + 1 : Nat) : Int) + T2.mea y z' ≤ 2000 * (r : Int) + 1500) := by have := HK.out; have := hl.2; unfold Hid; omega
                  have hke : k' + 1 ≤ 2000 * r + 1500 := by have := HK2.out; have := HM2.out.mea0; omega
                  clear hl HPL HB HPC HD HK HGL hLD
                  go_wp2
                  go_roundw
                  case rel => exact ⟨k' + 1, A', c', y, z', got', rfl, by go_num, T9, HM2, HK2⟩
                  case measure => simp [intOf]; omega
        case rest =>
          obtain ⟨k', A', c', x', z', got', hke, rfl, rfl, HT, HM, HS⟩ := hcut
          by_cases hi : x'.kept = [] ∧ x'.wait = []
          · have HI := Lib.hid (tidle HT.out HM.out.inv.sok (b := true) (by rw [hi.1, hi.2]; rfl))
            have hg := HM.out.idle hi.1 hi.2
            subst hg
            have HOK := Lib.hid HM.out.inv.sok
            have HIW := Lib.hid hi
            clear hi HT HM HS
            go_wp2_with fail
            refine HI.out.mono ?_
            rintro e w9 ⟨rfl, t9⟩
            have T9 := Lib.hid t9
            clear t9 HI
            simp only
            go_wp2
            go_meet
            case rel => exact ⟨A', c', x', z', rfl, T9, HOK, HIW⟩
          · obtain ⟨p1, p2, p3⟩ := HM.out.goes_on HH.out HS.out.1 HS.out.2 hi hr
            have hidle : (decide (x'.wait.length = 0) && decide (x'.kept.length = 0)) = false := by
              rw [Bool.and_eq_false_iff, decide_eq_false_iff_not, decide_eq_false_iff_not]
              by_cases e : x'.wait.length = 0
              · right
                intro e2
                exact hi ⟨List.eq_nil_of_length_eq_zero e2, List.eq_nil_of_length_eq_zero e⟩
              · exact .inl e
            have HI := Lib.hid (tidle HT.out HM.out.inv.sok hidle)
            have hnear := HM.out.near
            have hz1 := (HM.out.inv.rok.poll (x'.s % 16777216)).2
            have hz2 : Rf.Ok { Rf.poll z' (x'.s % 16777216) with inbox := [] } s0 (s0 + 200) := by
              have := hz1.take (Rf.poll z' (x'.s % 16777216)).inbox.length
              rw [List.drop_length] at this
              exact this
            obtain ⟨zz, hzz⟩ : ∃ zz, ({ Rf.poll z' (x'.s % 16777216) with inbox := [] } : Rf.S) = zz := ⟨_, rfl⟩
            have HPO := Lib.hid (fun W (hW : TwoSt w W p q x' z' A' c' got' A2 c2 L) => tspoll hW)
            have HRP : Hid (∀ W, TwoSt w W p q (Sf.poll x') z' A' c' got' A2 c2 L → Calls Try.prog 16 #[.pointer (some ⟨q, 0, none⟩), .int .u32 (x'.s % 16777216)] W fun e w' => e = .returned (.int .i64 0) ∧ TwoSt w w' p q (Sf.poll x') (Rf.poll z' (x'.s % 16777216)) A' c' got' A2 c2 L) := fun W hW => trpoll hW HM.out.inv.rok _ (by omega) p1
            have HTK : Hid (∀ W, TwoSt w W p q (Sf.poll x') (Rf.poll z' (x'.s % 16777216)) A' c' got' A2 c2 L → Calls Try.prog 17 #[.pointer (some ⟨q, 0, none⟩), .int .i64 64] W fun e w' => ∃ A4 c4, e = .returned (.slice A4 (Rf.poll z' (x'.s % 16777216)).inbox.length c4) ∧ TwoSt w w' p q (Sf.poll x') zz A' c' got' A2 c2 L) := fun W hW => by rw [← hzz]; exact ttake hW p2
            have HRS : Hid (∀ W, TwoSt w W p q (Sf.poll x') zz A' c' got' A2 c2 L → Calls Try.prog 18 #[.pointer (some ⟨q, 0, none⟩)] W fun e w' => ∃ C d l y cc, e = .returned (.tuple #[.slice C l.length d, .int .u32 (zz.R % 16777216), .int .u32 ((Rf.renew zz).MR % 16777216)]) ∧ Rd numE w' C d l ∧ l.length ≤ 1000000 ∧ TwoSt w w' p q (Sf.poll x') (Rf.renew zz) A' c' got' A2 c2 L ∧
                Sf.stat (Sf.poll x') (zz.R % 16777216) ((Rf.renew zz).MR % 16777216) ((x'.ps + 1) % 16777216) l = (y, cc, 0) ∧ T2.Head s0 L y (Rf.renew zz) got' (r + 1) ∧ ¬ ((zz.R % 16777216 - x'.s % 16777216) % 16777216 + (x'.s % 16777216 - zz.R % 16777216) % 16777216 < Gp.gc l (l.length / 2))) := fun W hW => by
              have hz3 : Rf.Ok zz s0 (s0 + 200) := by rw [← hzz]; exact hz2
              refine (trstat hW hz3).mono ?_
              rintro e w9 ⟨C, d, T, rfl, rd9, m9, t9⟩
              obtain ⟨y, cc, g1, g2, g3, g4, g5⟩ := p3 (Rf.renew zz) T (by rw [← hzz]) (by rw [hzz]; exact m9)
              have hzR : (Rf.renew zz).R = zz.R := rfl
              rw [hzR] at g1 g3
              have hzR2 : zz.R = z'.R := by rw [← hzz]; exact Rf.poll_R _ _
              have hcnt := Gp.gc_all (zz.R % 16777216) T g4 (fun x hx => by have := g5 x hx; omega)
              refine ⟨C, d, _, y, cc, rfl, rd9, ?_, t9, g1, g2, ?_⟩
              · rw [Gp.gl_len]
                have := m9.len (by rw [hz3.dist]; have := hz3.hm; have := hz3.sum; have := hz3.win; have := hz3.rh; omega)
                omega
              · rw [hcnt]
                split at g3 <;> omega
            have HSS : Hid (∀ W C d l y cc, TwoSt w W p q (Sf.poll x') (Rf.renew zz) A' c' got' A2 c2 L → Rd numE W C d l → l.length ≤ 1000000 → Sf.stat (Sf.poll x') (zz.R % 16777216) ((Rf.renew zz).MR % 16777216) ((x'.ps + 1) % 16777216) l = (y, cc, 0) → Calls Try.prog 21 #[.pointer (some ⟨p, 0, none⟩), .int .u32 (zz.R % 16777216), .int .u32 ((Rf.renew zz).MR % 16777216), .int .u32 ((x'.ps + 1) % 16777216), .slice C l.length d] W fun e w' => e = .returned (.tuple #[.int .i64 cc, .int .i64 0]) ∧ TwoSt w w' p q y (Rf.renew zz) A' c' got' A2 c2 L) := by
              have hps := HM.out.psb (.inr HH.out.ps) (by omega)
              have hpo := HM.out.inv.sok.poll (by omega)
              exact fun W C d l y cc hW hr hl hs => tstat hW hpo _ _ _ hr hl (by omega) hs
            clear hi p1 p2 p3 hidle hz1 hz2 hzz hnear HT HM HS HH
            obtain ⟨nn, hnn⟩ : ∃ nn, x'.s % 16777216 = nn := ⟨_, rfl⟩
            obtain ⟨ps, hps⟩ : ∃ ps, (x'.ps + 1) % 16777216 = ps := ⟨_, rfl⟩
            obtain ⟨aa, haa⟩ : ∃ aa, zz.R % 16777216 = aa := ⟨_, rfl⟩
            obtain ⟨mm, hmm⟩ : ∃ mm, (Rf.renew zz).MR % 16777216 = mm := ⟨_, rfl⟩
            rw [hnn, hps] at HPO
            rw [hnn] at HRP HTK
            rw [hnn, hps, haa, hmm] at HRS
            rw [hps, haa, hmm] at HSS
            clear hnn hps haa hmm
            generalize Rf.poll z' nn = z5 at *
            generalize Sf.poll x' = x5 at *
            generalize Rf.renew zz = z6 at *
            obtain ⟨tA, htA⟩ : ∃ t, (aa - nn) % 16777216 = t := ⟨_, rfl⟩
            obtain ⟨tB, htB⟩ : ∃ t, (nn - aa) % 16777216 = t := ⟨_, rfl⟩
            have hA0 : 0 ≤ tA ∧ tA < 16777216 := by omega
            have hB0 : 0 ≤ tB ∧ tB < 16777216 := by omega
            rw [htA, htB] at HRS
            have HTA := Lib.hid (fun W => to_any nn aa W)
            have HTB := Lib.hid (fun W => to_any aa nn W)
            rw [htA] at HTA
            rw [htB] at HTB
            clear htA htB
            go_wp2_with fail
            refine HI.out.mono ?_
            rintro e w9 ⟨rfl, t9⟩
            have HP9 := Lib.hid (HPO.out _ t9)
            clear t9 HI HPO
            simp only
            go_wp2_with fail
            refine HP9.out.mono ?_
            rintro e wa ⟨rfl, ta⟩
            have HRa := Lib.hid (HRP.out _ ta)
            clear ta HP9 HRP
            simp only
            go_wp2_with fail
            refine HRa.out.mono ?_
            rintro e wb ⟨rfl, tb⟩
            have HTb := Lib.hid (HTK.out _ tb)
            clear tb HRa HTK
            simp only
            go_wp2_with fail
            refine HTb.out.mono ?_
            rintro e wd ⟨A4, c4, rfl, td⟩
            have HSd := Lib.hid (HRS.out _ td)
            clear td HTb HRS
            simp only
            go_wp2_with fail
            refine HSd.out.mono ?_
            rintro e we ⟨C, d, l, y, cc, rfl, rd, hl, te, hst, hhd, hcmp⟩
            have HCN := Lib.hid (count_any C d l we rd hl)
            have HS2 : Hid (∀ W, Fresh we W → _) := fun W (f : Fresh we W) => HSS.out W C d l y cc (te.old f) (rd.touch f (fun _ _ _ h => h)) hl hst
            have HHD := Lib.hid hhd
            obtain ⟨gcv, hgc⟩ : ∃ g, Gp.gc l (l.length / 2) = g := ⟨_, rfl⟩
            rw [hgc] at HCN hcmp
            clear rd hl te hst hhd HSd HSS hgc
            simp only
            go_wp2_with fail
            refine HCN.out.mono ?_
            rintro e wf ⟨rfl, ff⟩
            have HSf := Lib.hid (HS2.out wf ff)
            clear ff HCN HS2
            simp only
            go_wp2_with fail
            refine (HTA.out _).mono ?_
            rintro e wg ⟨rfl, hg⟩
            have hg := hg.symm
            subst hg
            simp only
            go_wp2_with fail
            refine (HTB.out _).mono ?_
            rintro e wg ⟨rfl, hg⟩
            have hg := hg.symm
            subst hg
            simp only
            go_wp2_with fail
            refine HSf.out.mono ?_
            rintro e wh ⟨rfl, th⟩
            have TH := Lib.hid th
            clear th HSf
            simp only
            go_wp2
            go_roundw
            case rel => exact ⟨r + 1, k', A', c', y, z6, got', by omega, hke, rfl, rfl, by go_num, TH, HHD⟩
            case measure => simp [intOf]; omega
      · obtain rfl : r = 400 := by omega
        exact HH.out.enough.elim
  case rest =>
  clear T8 HH0
  obtain ⟨A, c, x, z, rfl, T8, HOK, HIW⟩ := hcut
  have HI := Lib.hid (tidle T8.out HOK.out (b := true) (by rw [HIW.out.1, HIW.out.2]; rfl))
  have hLL : ((L.length : Int) != (L.length : Int)) = false := by simp
  clear T8 HOK HIW
  go_wp2_with fail
  refine HI.out.mono ?_
  rintro e w9 ⟨rfl, t9⟩
  have T9 := Lib.hid t9
  clear t9 HI hLL
  simp only
  go_wp2_with fail
  go_loopw [194] (fun v wr => ∃ t : Nat, t ≤ L.length ∧ v = .int .i64 t ∧ Hid (TwoSt w wr p q x z A c L A2 c2 L)) (fun v _ => L.length - (intOf v).toNat)
  case atStart => exact ⟨0, by omega, rfl, T9⟩
  case round =>
    clear T9
    obtain ⟨t, ht, rfl, HT⟩ := hrel
    by_cases htl : t < L.length
    · have ht1 : (t : Int) < (L.length : Int) := by omega
      have ht0 : (0 : Int) ≤ (t : Int) := by omega
      obtain ⟨g1, o1, rfl, _, d1⟩ := HT.out.sg.str_at t htl
      obtain ⟨g2, o2, rfl, _, d2⟩ := HT.out.sa.str_at t htl
      generalize L.getD t ByteArray.empty = v at *
      have hb : (v.toList == v.toList) = true := beq_self_eq_true _
      go_wp2
      go_quiet (fail)
      have HT2 : Hid (TwoSt w (wr.drewN nq) p q x z (some ⟨g1, o1, none⟩) c L (some ⟨g2, o2, none⟩) c2 L) := HT.out.old ((Touch.refl _ _).drewN nq)
      go_wp2
      go_roundw
      case rel => exact ⟨t + 1, by omega, by go_num, HT2⟩
      case measure => simp [intOf]; omega
    · obtain rfl : t = L.length := by omega
      have ht1 : ¬ (L.length : Int) < (L.length : Int) := by omega
      go_wp2
      go_ret
      exact ⟨rfl, HT.out.fresh.below (Nat.le_refl _) (fun _ _ h => h)⟩
end Go.Proofs.Ytngljhpplmbglaa
