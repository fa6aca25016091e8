/-
  gaps.Named: the numbers that a status names.
-/
import Derived.Test.YtpjmgdoekeknjaaNm
import Derived.Test.YtpjmgdoekeknjaaSeq
import Derived.Deep.DeepCutAuto
import Derived.Deep.QuietTactic
import Derived.BigQuiet
namespace Go.Proofs.Ytpjmgdoekeknjaa
open Go.RowKit

theorem zeroInt (w : World) : (zeroValue 3).run Try.prog w = .ok (.int .i64 0) w := by kernel_rfl

/-- The numbers so far: the cell of their slice, the cell of the map of counts. -/
structure NmIn (W w : World) (g s b : Nat) (C : Option Addr) (d : Nat) (M : List Int) (m : MList Int) : Prop where
  blk : Blk w g 32 [.slice C M.length d]
  sb : Blk w s 99 [.map (some b)]
  map : MapAt numK w b m
  mine : Mine numE W w C d M
  g0 : W.heap.size ≤ g
  s0 : W.heap.size ≤ s
  b0 : W.heap.size ≤ b

section
variable {W w w' : World} {g s b : Nat} {C C' : Option Addr} {d d' : Nat} {M M' : List Int} {m m' : MList Int}
theorem NmIn.upd (h : NmIn W w g s b C d M m) (hm : MapAt numK w' b m') (ht : Touch (· = b) w w') : NmIn W w' g s b C d M m' :=
  ⟨ht.blk h.blk (fun e => h.map.blk_ne h.blk e.symm), ht.blk h.sb (fun e => h.map.blk_ne h.sb e.symm), hm,
   h.mine.own ht (fun k e => e ▸ h.b0) (fun ad e e2 => by
     obtain ⟨_, cs, hb, _⟩ := h.mine.sl.2.2.2 ad e
     exact h.map.blk_ne hb e2.symm), h.g0, h.s0, h.b0⟩
theorem NmIn.alloc (h : NmIn W w g s b C d M m) (o : Obj) : NmIn W (w.alloc o) g s b C d M m := ⟨h.blk.alloc o, h.sb.alloc o, h.map.alloc o, h.mine.alloc o, h.g0, h.s0, h.b0⟩
theorem NmIn.app (h : NmIn W w g s b C d M m) (hs : Sl numE w' C' d' M') (ht : Touch (fun k => C.map Addr.block = some k) w w') (hA : C'.map Addr.block = C.map Addr.block ∨ C'.map Addr.block = some w.heap.size) :
    w'.cell? ⟨g, 0, none⟩ = some (.slice C M.length d) ∧ w'.frozen? ⟨g, 0, none⟩ = false ∧ NmIn W (w'.setCell ⟨g, 0, none⟩ (.slice C' M'.length d')) g s b C' d' M' m := by
  have hg : ¬ C.map Addr.block = some g := fun e => by
    cases C with
    | none => cases e
    | some ad => exact h.mine.sl.blk_ne h.blk (by decide) ad rfl (by simpa using e)
  have hs2 : ¬ C.map Addr.block = some s := fun e => by
    cases C with
    | none => cases e
    | some ad => exact h.mine.sl.blk_ne h.sb (by decide) ad rfl (by simpa using e)
  have hb2 : ¬ C.map Addr.block = some b := fun e => by
    cases C with
    | none => cases e
    | some ad =>
      obtain ⟨_, cs, hb, _⟩ := h.mine.sl.2.2.2 ad rfl
      exact h.map.blk_ne hb (by simpa using e.symm)
  have k1 := ht.blk h.blk hg
  have k2 := ht.blk h.sb hs2
  have k3 := h.map.touch ht hb2
  have k4 := h.mine.app hs ht hA
  refine ⟨k1.cell 0, k1.frozen 0, ⟨k1.set 0 _, k2.far (p := ⟨g, 0, none⟩) (k2.ne_ k1 (by decide)) _, k3.setCell (k3.blk_ne k1) _, k4.own (Touch.set1 w' g 0 _) (fun k e => e ▸ h.g0) (k4.sl.blk_ne k1 (by decide)), h.g0, h.s0, h.b0⟩⟩
end

set_option maxHeartbeats 4000000 in
set_option maxRecDepth 4000 in
theorem nmc_any (a : Int) (n : Nat) (W w : World) (g s b : Nat) (C : Option Addr) (d : Nat) (M : List Int) (m : MList Int) (T : Nat) (h : NmIn W w g s b C d M m) (hs : Gp.Seen m M T) (hl : M.length ≤ 65536) (hn : n ≤ 8388608) (hT : T ≤ 1152921504606846976) :
    Calls Try.prog 49 #[.int .u32 a, .int .i64 n, .pointer (some ⟨g, 0, none⟩), .pointer (some ⟨s, 0, none⟩)] w fun e w' => e = .returned (.tuple #[]) ∧ ∃ C' d' m', NmIn W w' g s b C' d' (Gp.nmRow 65536 a M n) m' ∧ Gp.Seen m' (Gp.nmRow 65536 a M n) (T + n) := by
  have H := Lib.hid h
  have HS := Lib.hid hs
  have HRL := Lib.hid (fun k => Gp.nmRow_len 65536 a M k)
  have HST := Lib.hid (fun k => Gp.nmRow_stop 65536 a M k)
  clear h hs
  go_enter Try.func49, Try.ntmps49
  go_wp2_with fail
  go_loopw [6] (fun i wr => ∃ (k : Nat) (Ck : Option Addr) (dk : Nat) (Mk : List Int) (mk : MList Int), k ≤ n ∧ i = .int .i64 k ∧ Mk.length ≤ 65536 ∧ Hid (Mk = Gp.nmRow 65536 a M k) ∧ Hid (NmIn W wr g s b Ck dk Mk mk) ∧ Hid (Gp.Seen mk Mk (T + k))) (fun i _ => n - (intOf i).toNat)
  case atStart => exact ⟨0, C, d, M, m, by omega, rfl, hl, rfl, H, HS⟩
  case round =>
    clear H HS
    obtain ⟨k, Ck, dk, Mk, mk, hkn, rfl, hMl, HMe, H, HS⟩ := hrel
    have cg : wr.cell? ⟨g, 0, none⟩ = some (.slice Ck Mk.length dk) := H.out.blk.cell 0
    have cs : wr.cell? ⟨s, 0, none⟩ = some (.map (some b)) := H.out.sb.cell 0
    by_cases hk : k < n
    · have hk1 : (k : Int) < (n : Int) := by omega
      have hdk1 : decide ((k : Int) < (n : Int)) = true := decide_eq_true hk1
      by_cases hfull : Mk.length < 65536
      · have hf1 : (Mk.length : Int) < 65536 := by omega
        have hdf1 : decide ((Mk.length : Int) < 65536) = true := decide_eq_true hf1
        have HN : Hid (Gp.nmRow 65536 a M (k + 1) = Gp.nmAdd 65536 Mk ((a + (k : Int)) % 16777216)) := by unfold Hid; rw [HMe.out]; rfl
        go_upto_region 3 with (fail)
        go_wp2_with fail
        refine (sadd_any a k wr).mono ?_
        rintro e w2 ⟨rfl, rfl⟩
        generalize (a + (k : Int)) % 16777216 = x at *
        simp only
        by_cases hx : x ∈ Mk
        · obtain ⟨z, hz, hz1, hz2⟩ := HS.out.ins x hx
          have hzb : 1 ≤ z ∧ z ≤ 2305843009213693952 := by omega
          have HV : Hid ((mget mk x).getD (.int .i64 0) = .int .i64 z) := by unfold Hid; rw [hz]; rfl
          have HV3 : Hid ((mget (mset mk x (.int .i64 (z + 1))) x).getD (.int .i64 0) = .int .i64 (z + 1)) := by unfold Hid; rw [mget_mset, if_pos rfl]; rfl
          have hz0 : (z + 1 == 1) = false := by simp; omega
          have HN2 : Hid (Mk = Gp.nmRow 65536 a M (k + 1)) := by unfold Hid; rw [HN.out, Gp.nmAdd_in hx]
          have HS2 : Hid (Gp.Seen (mset mk x (.int .i64 (z + 1))) Mk (T + (k + 1))) := HS.out.old hx hz1 hz2
          clear hx hz hz1 hz2 HN HMe HS
          go_wp2_with (first
            | (refine wpList_lookM rfl rfl (K := numK) (k := x) rfl rfl H.out.map Try.underlying99 (zeroInt _) ?_; rw [if_neg (by decide), HV.out])
            | (refine wpList_storeM rfl rfl (K := numK) (k := x) rfl rfl H.out.map Try.underlying99 ?_; intro w3 hm3 ht3; have H3 := Lib.hid (H.out.upd (show MapAt numK w3 b (mset mk x (.int .i64 (z + 1))) from hm3) ht3); have cs3 : w3.cell? ⟨s, 0, none⟩ = some (.map (some b)) := H3.out.sb.cell 0; clear hm3 ht3)
            | (refine wpList_lookM rfl rfl (K := numK) (k := x) rfl rfl H3.out.map Try.underlying99 (zeroInt _) ?_; rw [if_neg (by decide), HV3.out]))
          go_roundw
          case rel => exact ⟨k + 1, Ck, dk, Mk, _, by omega, by go_num, hMl, HN2, H3, HS2⟩
          case measure => simp [intOf]; omega
        · have HV : Hid ((mget mk x).getD (.int .i64 0) = .int .i64 0) := by unfold Hid; rw [HS.out.out x hx]; rfl
          have HV3 : Hid ((mget (mset mk x (.int .i64 1)) x).getD (.int .i64 0) = .int .i64 1) := by unfold Hid; rw [mget_mset, if_pos rfl]; rfl
          have HN2 : Hid (Mk ++ [x] = Gp.nmRow 65536 a M (k + 1)) := by unfold Hid; rw [HN.out, Gp.nmAdd_new hfull hx]
          have HS2 : Hid (Gp.Seen (mset mk x (.int .i64 1)) (Mk ++ [x]) (T + (k + 1))) := HS.out.new hx
          clear hx HN HMe HS
          go_wp2_with (first
            | (refine wpList_lookM rfl rfl (K := numK) (k := x) rfl rfl H.out.map Try.underlying99 (zeroInt _) ?_; rw [if_neg (by decide), HV.out])
            | (refine wpList_storeM rfl rfl (K := numK) (k := x) rfl rfl H.out.map Try.underlying99 ?_; intro w3 hm3 ht3; have H3 := Lib.hid (H.out.upd (show MapAt numK w3 b (mset mk x (.int .i64 1)) from hm3) ht3); have cs3 : w3.cell? ⟨s, 0, none⟩ = some (.map (some b)) := H3.out.sb.cell 0; have cg3 : w3.cell? ⟨g, 0, none⟩ = some (.slice Ck Mk.length dk) := H3.out.blk.cell 0; clear hm3 ht3)
            | (refine wpList_lookM rfl rfl (K := numK) (k := x) rfl rfl H3.out.map Try.underlying99 (zeroInt _) ?_; rw [if_neg (by decide), HV3.out])
            | (at_builtin; refine app_num rfl rfl (l := Mk) (l2 := [x]) rfl rfl (H3.out.mine.sl.alloc _) (Sl.rd (Sl.lit numE _ _ rfl _ _ rfl _ rfl (by decide))) (by simp; omega) ?_; intro C4 d4 M4 w4 hM4 hs4 ht4 hB4; obtain ⟨q1, q2, H5⟩ := (H3.out.alloc _).app hs4 ht4 hB4; have HM4 := Lib.hid hM4.out; clear hs4 ht4 hB4 hM4))
          have hl4 : M4.length ≤ 65536 := by rw [HM4.out]; simp; omega
          rw [← HM4.out] at HN2 HS2
          have H6 := Lib.hid H5
          clear H5
          go_roundw
          case rel => exact ⟨k + 1, C4, d4, M4, _, by omega, by go_num, hl4, HN2, H6, HS2⟩
          case measure => simp [intOf]; omega
      · have hf1 : ¬ (Mk.length : Int) < 65536 := by omega
        have hdf1 : decide ((Mk.length : Int) < 65536) = false := decide_eq_false hf1
        have HE : Hid (Mk = Gp.nmRow 65536 a M n) := by
          unfold Hid
          rw [HST.out k (by rw [← HMe.out]; omega) n (by omega)]
          exact HMe.out
        have HS2 : Hid (Gp.Seen mk Mk (T + n)) := HS.out.mono (by omega)
        clear HMe HS HST HRL hk
        go_wp2
        go_end0
        exact ⟨rfl, Ck, dk, mk, by rw [← HE.out]; exact H.out, by rw [← HE.out]; exact HS2.out⟩
    · have hkk : k = n := by omega
      have hk1 : ¬ (k : Int) < (n : Int) := by omega
      have hdk1 : decide ((k : Int) < (n : Int)) = false := decide_eq_false hk1
      have HE : Hid (Mk = Gp.nmRow 65536 a M n) := by unfold Hid; rw [← hkk]; exact HMe.out
      have HS2 : Hid (Gp.Seen mk Mk (T + n)) := by rw [← hkk]; exact HS
      clear HMe HS HST HRL hk
      go_wp2
      go_end0
      exact ⟨rfl, Ck, dk, mk, by rw [← HE.out]; exact H.out, by rw [← HE.out]; exact HS2.out⟩

set_option maxHeartbeats 4000000 in
theorem pairs_nm (A : Option Addr) (c : Nat) (l : List Int) (W w : World) (g s b : Nat) (h : Rd numE W A c l) (H0 : NmIn W w g s b none 0 [] []) (hl : l.length ≤ 1000000) :
    Calls Try.prog 48 #[.slice A l.length c, .func (.func 49) #[] #[.pointer (some ⟨g, 0, none⟩), .pointer (some ⟨s, 0, none⟩)]] w fun e w' => e = .returned (.tuple #[]) ∧ ∃ C d m, NmIn W w' g s b C d (Gp.nm 65536 l (l.length / 2)) m := by
  have H := Lib.hid h
  have HB := Lib.hid H0
  have HNL := Lib.hid (fun k => Gp.nm_len 65536 l k)
  clear h H0
  go_enter Try.func48, Try.ntmps48
  go_wp2_with fail
  go_loopw [4] (fun i wr => ∃ (k : Nat) (C : Option Addr) (d : Nat) (M : List Int) (m : MList Int), 2 * k ≤ l.length ∧ i = .int .i64 (2 * (k : Int)) ∧ Hid (M = Gp.nm 65536 l k) ∧ Hid (NmIn W wr g s b C d M m) ∧ Hid (Gp.Seen m M (k * 8388608))) (fun i _ => (l.length - intOf i).toNat)
  case atStart => exact ⟨0, none, 0, [], [], by omega, by go_num, rfl, HB, Gp.Seen.nil⟩
  case round =>
    clear HB
    obtain ⟨k, C, d, M, m, hkl, rfl, HMe, HB, HS⟩ := hrel
    by_cases hk : 2 * k + 1 < l.length
    · have hk1 : 2 * (k : Int) + 1 < (l.length : Int) := by omega
      have hdk : decide (2 * (k : Int) + 1 < (l.length : Int)) = true := decide_eq_true hk1
      have hk2 : 2 * (k : Int) < (l.length : Int) := by omega
      have hk0 : (0 : Int) ≤ 2 * (k : Int) := by omega
      have hk3 : (0 : Int) ≤ 2 * (k : Int) + 1 := by omega
      have ht1 : (2 * (k : Int)).toNat = 2 * k := by omega
      have ht2 : (2 * (k : Int) + 1).toNat = 2 * k + 1 := by omega
      have HR := Lib.hid (HB.out.mine.keepsR H.out)
      obtain ⟨ga, oa, rfl, _, c0⟩ := HR.out.num_at (2 * k) (by omega)
      obtain ⟨gb, ob, e2, _, c1⟩ := HR.out.num_at (2 * k + 1) (by omega)
      cases e2
      have HN : Hid (Gp.nm 65536 l (k + 1) = Gp.nmPair 65536 M (l.getD (2 * k) 0) (l.getD (2 * k + 1) 0)) := by unfold Hid; rw [HMe.out]; rfl
      have hMl : M.length ≤ 65536 := by rw [HMe.out]; exact (HNL.out k).1
      generalize l.getD (2 * k) 0 = a at *
      generalize l.getD (2 * k + 1) 0 = b2 at *
      clear HR HMe
      go_upto_region 3 with (fail)
      go_quiet ((go_at_call 17; refine Calls.quiet_of_same (to_any _ _ _)))
      have HB2 : Hid (NmIn W (wr.drewN nq) g s b C d M m) := ⟨HB.out.blk.drewN _, HB.out.sb.drewN _, HB.out.map.keep rfl, HB.out.mine.drewN _, HB.out.g0, HB.out.s0, HB.out.b0⟩
      have c0' : (wr.drewN nq).cell? ⟨ga, oa + 2 * k, none⟩ = some (.int .u32 a) := c0
      clear c0 c1 HB
      generalize wr.drewN nq = w2 at *
      have hn0 : 0 ≤ (b2 - a) % 16777216 := by omega
      have HNP : Hid (Gp.nmPair 65536 M a b2 = if (b2 - a) % 16777216 ≤ 8388608 then Gp.nmRow 65536 (a % 16777216) M ((b2 - a) % 16777216).toNat else M) := rfl
      obtain ⟨n, hn⟩ : ∃ n : Nat, (b2 - a) % 16777216 = (n : Int) := ⟨((b2 - a) % 16777216).toNat, by omega⟩
      rw [hn, Int.toNat_natCast] at HNP
      rw [hn]
      clear hn hn0
      by_cases hn8 : n ≤ 8388608
      · have hn8i : (n : Int) ≤ 8388608 := by omega
        rw [if_pos hn8i] at HNP
        go_wp2_with fail
        refine (low_any a w2).mono ?_
        rintro e w3 ⟨rfl, rfl⟩
        simp only
        go_wp2_with fail
        refine (nmc_any (a % 16777216) n W w3 g s b C d M m (k * 8388608) HB2.out HS.out hMl hn8 (by omega)).mono ?_
        rintro e w4 ⟨rfl, C4, d4, m4, h4, s4⟩
        have HB4 : Hid (NmIn W w4 g s b C4 d4 (Gp.nm 65536 l (k + 1)) m4) := by rw [HN.out, HNP.out]; exact h4
        have HS4 : Hid (Gp.Seen m4 (Gp.nm 65536 l (k + 1)) ((k + 1) * 8388608)) := by rw [HN.out, HNP.out]; exact s4.mono (by omega)
        clear h4 s4 HB2 HS HN HNP c0'
        simp only
        go_wp2
        go_roundw
        case rel => exact ⟨k + 1, C4, d4, _, m4, by omega, by first | go_num | (congr 1; omega), rfl, HB4, HS4⟩
        case measure => simp [intOf]; omega
      · have hn8i : ¬ (n : Int) ≤ 8388608 := by omega
        rw [if_neg hn8i] at HNP
        have HB4 : Hid (NmIn W w2 g s b C d (Gp.nm 65536 l (k + 1)) m) := by rw [HN.out, HNP.out]; exact HB2.out
        have HS4 : Hid (Gp.Seen m (Gp.nm 65536 l (k + 1)) ((k + 1) * 8388608)) := by rw [HN.out, HNP.out]; exact HS.out.mono (by omega)
        clear HB2 HS HN HNP c0'
        go_wp2
        go_roundw
        case rel => exact ⟨k + 1, C, d, _, m, by omega, by first | go_num | (congr 1; omega), rfl, HB4, HS4⟩
        case measure => simp [intOf]; omega
    · have hkk : k = l.length / 2 := by omega
      have hk1 : ¬ 2 * (k : Int) + 1 < (l.length : Int) := by omega
      have hdk : decide (2 * (k : Int) + 1 < (l.length : Int)) = false := decide_eq_false hk1
      have HR : Hid (NmIn W wr g s b C d (Gp.nm 65536 l (l.length / 2)) m) := by rw [← hkk, ← HMe.out]; exact HB.out
      clear hk HMe HB HS hkk
      go_wp2
      go_end0
      exact ⟨rfl, C, d, m, HR.out⟩
end Go.Proofs.Ytpjmgdoekeknjaa
