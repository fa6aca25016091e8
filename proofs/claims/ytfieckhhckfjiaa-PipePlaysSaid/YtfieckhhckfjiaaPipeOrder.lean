/-
  polliwoglaw17.PipeOrder: what isn't lost or spoilt comes as it was, in its order.
-/
import Derived.Test.YtfieckhhckfjiaaPipeA
import Derived.Test.YtfieckhhckfjiaaTyB
import Derived.Test.YtfieckhhckfjiaaPipe3
namespace Go.Proofs.Ytfieckhhckfjiaa
open Go.RowKit Go.ChangeShapes Go.WideShapes Go.ChangeAt

/-- A choice: its kind, its place, its mask. -/
def choE : El (Int × Int × Int) := { e := 58, size := 3, bytes := 24, zero := .agg #[.int .i64 0, .int .i64 0, .int .u32 0], zel := (0, 0, 0), enc := fun x => [.int .i64 x.1, .int .i64 x.2.1, .int .u32 x.2.2], len := fun _ => rfl, one := by simp [Value.oneCell'], pos := by decide, zsize := rfl, zenc := rfl }
def GoodCho (x : Int × Int × Int) : Prop := 0 ≤ x.2.2 ∧ x.2.2 ≤ 4294967295
theorem dec_cho {H : Type} {enc : TypeId × Value → H} {W : World} (n : Nat) (cs : List Value) (y : DataW H × List MemPlace) (hy : DataW.trod enc Try.prog W 0 (fun _ => true) true n choE.e cs = some y) : ∃ a, cs = choE.enc a ∧ GoodCho a := by
  obtain ⟨hl, m, hf⟩ := open_fields Try.underlying58 (by kernel_rfl) (by kernel_rfl) hy
  match cs, hl with
  | [c0, c1, c2], _ =>
    obtain ⟨_, f0⟩ := hf 0 _ rfl
    obtain ⟨_, f1⟩ := hf 1 _ rfl
    obtain ⟨_, f2⟩ := hf 2 _ rfl
    obtain ⟨x0, e0, _, _⟩ := DataW.trod_int Try.underlying3 f0
    obtain ⟨x1, e1, _, _⟩ := DataW.trod_int Try.underlying3 f1
    obtain ⟨x2, e2, _, h2⟩ := DataW.trod_int Try.underlying55 f2
    simp at e0 e1 e2
    subst e0 e1 e2
    refine ⟨(x0, x1, x2), rfl, ?_⟩
    have e : (Lit.int .u32 x2).wf = (decide (0 ≤ x2) && decide (x2 ≤ 4294967295)) := rfl
    rw [e] at h2
    simpa [GoodCho] using h2
theorem Rd.cho_at {w : World} {A : Option Addr} {c : Nat} {l : List (Int × Int × Int)} (h : Rd choE w A c l) (k : Nat) (hk : k < l.length) :
    ∃ g o, A = some ⟨g, o, none⟩ ∧ g < w.heap.size ∧ w.cell? ⟨g, o + k * 3, none⟩ = some (.int .i64 (l.getD k (0, 0, 0)).1) ∧ w.cell? ⟨g, o + k * 3 + 1, none⟩ = some (.int .i64 (l.getD k (0, 0, 0)).2.1) ∧ w.cell? ⟨g, o + k * 3 + 2, none⟩ = some (.int .u32 (l.getD k (0, 0, 0)).2.2) := by
  obtain ⟨g, o, hA, hg, hc⟩ := h.at_ k hk
  refine ⟨g, o, hA, hg, ?_, ?_, ?_⟩
  · exact hc 0 _ (by simp [choE, List.getD, List.getElem?_eq_getElem hk])
  · exact hc 1 _ (by simp [choE, List.getD, List.getElem?_eq_getElem hk])
  · exact hc 2 _ (by simp [choE, List.getD, List.getElem?_eq_getElem hk])

theorem PlAt.other {B w w' : World} {gp gr m put came bad gc : Nat} {b : Option Nat} {q : List ByteArray} {A : Option Addr} {c : Nat} {l : List ByteArray} (h : PlAt B w gp gr b m q put came bad A c l) (ht : Touch (· = gc) w w') (hf : ¬ PFoot gp gr b gc) (hs : ∀ ad, A = some ad → ¬ ad.block = gc) (hB : B.heap.size ≤ gc) : PlAt B w' gp gr b m q put came bad A c l :=
  ⟨h.pipe.touch ht (fun k hk e => hf (by have e2 : k = gc := e; rw [← e2]; exact hk)), h.sl.touch ht hs, h.fresh.trans ht (fun k hk e => by have e2 : k = gc := e; omega), h.base, h.baseA, h.hA⟩
theorem PlAt.st {B w : World} {gp gr m put came bad : Nat} {b : Option Nat} {q : List ByteArray} {A : Option Addr} {c : Nat} {l : List ByteArray} (h : PlAt B w gp gr b m q put came bad A c l) : PlSt B w gp m q put came bad A c l := ⟨gr, b, h⟩

namespace Po
def Q (L : List ByteArray) (i : Nat) : ByteArray := cutB (L.getD i ByteArray.empty) 20
def kd (C : List (Int × Int × Int)) (i : Nat) : Int := if i < C.length then (C.getD i (0, 0, 0)).1 else 0
def keep (C : List (Int × Int × Int)) (i : Nat) : Bool := kd C i != 1 && kd C i != 2
def all (L : List ByteArray) (n : Nat) : List ByteArray := (List.range n).map (Q L)
def kept (L : List ByteArray) (C : List (Int × Int × Int)) (n : Nat) : List ByteArray := ((List.range n).filter (keep C)).map (Q L)
theorem all_succ (L : List ByteArray) (n : Nat) : all L (n + 1) = all L n ++ [Q L n] := by simp [all, List.range_succ]
theorem all_len (L : List ByteArray) (n : Nat) : (all L n).length = n := by simp [all]
theorem all_drop (L : List ByteArray) (n k : Nat) (h : k < n) : (all L n).drop k = Q L k :: (all L n).drop (k + 1) := by
  rw [List.drop_eq_getElem_cons (by rw [all_len]; exact h)]
  simp [all]
theorem kept_succ (L : List ByteArray) (C : List (Int × Int × Int)) (n : Nat) : kept L C (n + 1) = kept L C n ++ if keep C n = true then [Q L n] else [] := by
  unfold kept
  rw [List.range_succ, List.filter_append, List.map_append]
  by_cases h : keep C n = true
  · rw [if_pos h]; simp [List.filter_cons, h]
  · rw [if_neg h]; simp [List.filter_cons, h]
theorem kept_len (L : List ByteArray) (C : List (Int × Int × Int)) (n : Nat) : (kept L C n).length ≤ n := by
  unfold kept
  have := List.length_filter_le (keep C) (List.range n)
  simpa using this
theorem kept_pre (L : List ByteArray) (C : List (Int × Int × Int)) (k d : Nat) : ∃ r, kept L C (k + d) = kept L C k ++ r := by
  induction d with
  | zero => exact ⟨[], by simp⟩
  | succ d ih =>
    obtain ⟨r, hr⟩ := ih
    refine ⟨r ++ if keep C (k + d) = true then [Q L (k + d)] else [], ?_⟩
    rw [← Nat.add_assoc, kept_succ, hr, List.append_assoc]
theorem kept_at (L : List ByteArray) (C : List (Int × Int × Int)) (n k : Nat) (h : k < n) (hk : keep C k = true) : (kept L C k).length < (kept L C n).length ∧ (kept L C n).getD (kept L C k).length ByteArray.empty = Q L k := by
  obtain ⟨r, hr⟩ := kept_pre L C (k + 1) (n - (k + 1))
  rw [show k + 1 + (n - (k + 1)) = n by omega, kept_succ, if_pos hk] at hr
  rw [hr]
  constructor
  · simp
  · simp [List.getD]
end Po

set_option maxRecDepth 100000 in
set_option maxHeartbeats 4000000 in
theorem pipeOrder.core (A : Option Addr) (c : Nat) (L : List ByteArray) (A2 : Option Addr) (c2 : Nat) (C : List (Int × Int × Int)) (w : World) (hr : Rd strE w A c L) (hr2 : Rd choE w A2 c2 C) (hL : ∀ s ∈ L, s.size ≤ maxLen) (hC : ∀ x ∈ C, GoodCho x) :
    Calls Try.prog 8 #[.slice A L.length c, .slice A2 C.length c2] w fun e w' => e = .returned (.bool true) ∧ Below w.heap.size w w' := by
  have hlc := hr.1
  have hcm := hr.2.1
  have hlc2 := hr2.1
  have hcm2 := hr2.2.1
  unfold maxLen at hcm hcm2
  have HR := Lib.hid hr
  have HR2 := Lib.hid hr2
  have HLs := Lib.hid hL
  have HCs := Lib.hid hC
  clear hr hr2 hL hC
  obtain ⟨n, hn⟩ : ∃ n : Nat, n = min L.length 150 := ⟨_, rfl⟩
  have hmin : (if (150 : Int) < (L.length : Int) then (150 : Int) else (L.length : Int)) = (n : Int) := by split <;> omega
  have hn150 : n ≤ 150 := by omega
  have hnL : n ≤ L.length := by omega
  clear hn
  go_enter Try.func8, Try.ntmps8
  go_wp2_with fail
  refine (awake17_any _).mono ?_
  rintro e w1 ⟨rfl, t1⟩
  go_wp2_with fail
  refine (pipe_new 200 200 rfl w w1 t1).mono ?_
  rintro e w2 ⟨gp, rfl, h2⟩
  have H2 := Lib.hid h2
  clear h2 t1
  go_wp2_with fail
  go_loopw [7, 27] (fun s7 i wr => ∃ (k : Nat) (Aw : Option Addr) (cw : Nat) (W : List ByteArray), k ≤ n ∧ i = .int .i64 k ∧ s7 = .slice Aw W.length cw ∧ Hid (W = Po.kept L C k) ∧ Hid (PlSt w wr gp 200 (Po.all L k) k 0 0 Aw cw W)) (fun _ i _ => n - (intOf i).toNat)
  case atStart => exact ⟨0, none, 0, [], by omega, rfl, rfl, rfl, H2⟩
  case round =>
    clear H2
    obtain ⟨k, Aw, cw, W, hk, rfl, rfl, hW, HS⟩ := hrel
    by_cases hkn : k < n
    · have hki : (k : Int) < (n : Int) := by omega
      have hk0 : (0 : Int) ≤ (k : Int) := by omega
      have hkL : (k : Int) < (L.length : Int) := by omega
      obtain ⟨gA, oA, rfl, hgA, hc⟩ := (HR.out.touch HS.out.fresh (fun _ _ _ h => h)).str_at k (by omega)
      have hsz : (L.getD k ByteArray.empty).size ≤ maxLen := by
        have : L.getD k ByteArray.empty = L[k]'(by omega) := by simp [List.getD, List.getElem?_eq_getElem (show k < L.length by omega)]
        rw [this]; exact HLs.out _ (List.getElem_mem _)
      have hcut := fun w => cut_any (L.getD k ByteArray.empty) 20 w hsz (by decide)
      have HQ : Hid (Po.Q L k = cutB (L.getD k ByteArray.empty) 20) := rfl
      have HCut := Lib.hid hcut
      have hWl : W.length ≤ 150 := by rw [hW.out]; have := Po.kept_len L C k; omega
      have hal := Po.all_len L k
      have HAS := Lib.hid (Po.all_succ L k)
      have HKS := Lib.hid (Po.kept_succ L C k)
      have hcs := cutB_size (L.getD k ByteArray.empty) 20
      have HCell : Hid (∀ w', Fresh w w' → w'.cell? ⟨gA, oA + k, none⟩ = some (.string (L.getD k ByteArray.empty))) := fun w' ht => by
        obtain ⟨g2, o2, e, _, h⟩ := (HR.out.touch ht (fun _ _ _ h => h)).str_at k (by omega)
        injection e with e
        injection e with e1 e2
        subst e1 e2
        exact h
      generalize cutB (L.getD k ByteArray.empty) 20 = u at *
      generalize L.getD k ByteArray.empty = s0 at *
      clear hcut hsz
      go_wp2_with fail
      refine (HCut.out wr).mono ?_
      rintro e w3 ⟨rfl, rfl⟩
      go_wp2_with fail
      refine (pipe_put u HS.out (by omega)).mono ?_
      rintro e w3 ⟨rfl, h3⟩
      rw [hal, if_pos (by omega), if_pos (by omega), ← HQ.out, ← HAS.out] at h3
      rw [hal, if_pos (by omega)]
      have H3 := Lib.hid h3
      have hc3 := HCell.out w3 h3.fresh
      clear h3 HS hal
      have hcase : (¬ k < C.length ∧ Po.keep C k = true) ∨ (k < C.length ∧ (C.getD k (0, 0, 0)).1 = 1 ∧ Po.keep C k = false) ∨ (k < C.length ∧ ¬ (C.getD k (0, 0, 0)).1 = 1 ∧ (C.getD k (0, 0, 0)).1 = 2 ∧ Po.keep C k = false) ∨ (k < C.length ∧ ¬ (C.getD k (0, 0, 0)).1 = 1 ∧ ¬ (C.getD k (0, 0, 0)).1 = 2 ∧ Po.keep C k = true) := by
        by_cases h : k < C.length
        · by_cases e1 : (C.getD k (0, 0, 0)).1 = 1
          · exact .inr (.inl ⟨h, e1, by unfold Po.keep Po.kd; rw [if_pos h, e1]; rfl⟩)
          · by_cases e2 : (C.getD k (0, 0, 0)).1 = 2
            · exact .inr (.inr (.inl ⟨h, e1, e2, by unfold Po.keep Po.kd; rw [if_pos h, e2]; rfl⟩))
            · exact .inr (.inr (.inr ⟨h, e1, e2, by unfold Po.keep Po.kd; rw [if_pos h]; simp only [bne_iff_ne, ne_eq, Bool.and_eq_true]; exact ⟨e1, e2⟩⟩))
        · exact .inl ⟨h, by unfold Po.keep Po.kd; rw [if_neg h]; rfl⟩
      rcases hcase with ⟨hkc, hkp⟩ | ⟨hkc, h1, hkp⟩ | ⟨hkc, h1, h2, hkp⟩ | ⟨hkc, h1, h2, hkp⟩
      · have hkp := Lib.hid hkp
        have hkc' : ¬ (k : Int) < (C.length : Int) := by omega
        clear hkc
        go_wp2_with fail
        refine (HCut.out _).mono ?_
        rintro e w4 ⟨rfl, rfl⟩
        go_wp2_with (at_builtin; refine app_str rfl rfl (l := W) (l2 := [u]) rfl rfl (H3.out.sl.alloc _) (Sl.rd (Sl.lit strE _ _ rfl _ _ rfl _ rfl (by decide))) (by simp; omega) ?_; intro A5 c5 W5 w5 hW5 hs5 ht5 hA5)
        have H5 := Lib.hid ((H3.out.old ((Touch.refl _ w3).alloc (.cells #[.string u] 9))).slTo ht5 hs5 (fun ad ha => by
          subst ha
          rcases hA5 with e | e
          · cases Aw with
            | none => cases e
            | some a0 => exact .inl ⟨a0, rfl, by simpa using e⟩
          · right; simp at e; simp; omega))
        have HW5 : Hid (W5 = Po.kept L C (k + 1)) := by unfold Hid; rw [HKS.out, if_pos hkp.out, hW5.out, hW.out, HQ.out]
        clear hs5 ht5 hA5 hW5 H3 hW
        go_roundw
        case rel => exact ⟨k + 1, A5, c5, W5, by omega, by go_num, rfl, HW5, H5⟩
        case measure => simp [intOf]; omega
      · have hkp := Lib.hid hkp
        have hkc' : (k : Int) < (C.length : Int) := by omega
        obtain ⟨gC, oC, rfl, hgC, d0, _, _⟩ := (HR2.out.touch H3.out.fresh (fun _ _ _ h => h)).cho_at k hkc
        generalize (C.getD k (0, 0, 0)).1 = kq at *
        subst h1
        clear hkc hgC
        have HW5 : Hid (W = Po.kept L C (k + 1)) := by unfold Hid; rw [HKS.out, if_neg (by rw [hkp.out]; decide), List.append_nil, hW.out]
        clear hW
        go_wp2
        go_roundw
        case rel => exact ⟨k + 1, Aw, cw, W, by omega, by go_num, rfl, HW5, H3⟩
        case measure => simp [intOf]; omega
      · have hkp := Lib.hid hkp
        have hkc' : (k : Int) < (C.length : Int) := by omega
        obtain ⟨gC, oC, rfl, hgC, d0, _, _⟩ := (HR2.out.touch H3.out.fresh (fun _ _ _ h => h)).cho_at k hkc
        generalize (C.getD k (0, 0, 0)).1 = kq at *
        subst h2
        clear h1
        clear hkc hgC
        have HW5 : Hid (W = Po.kept L C (k + 1)) := by unfold Hid; rw [HKS.out, if_neg (by rw [hkp.out]; decide), List.append_nil, hW.out]
        clear hW
        go_wp2
        go_roundw
        case rel => exact ⟨k + 1, Aw, cw, W, by omega, by go_num, rfl, HW5, H3⟩
        case measure => simp [intOf]; omega
      · have hkp := Lib.hid hkp
        have hkc' : (k : Int) < (C.length : Int) := by omega
        obtain ⟨gC, oC, rfl, hgC, d0, _, _⟩ := (HR2.out.touch H3.out.fresh (fun _ _ _ h => h)).cho_at k hkc
        generalize (C.getD k (0, 0, 0)).1 = kq at *
        have e1 : (kq == 1) = false := beq_eq_false_iff_ne.2 h1
        have e2 : (kq == 2) = false := beq_eq_false_iff_ne.2 h2
        have e3 : (kq != 1) = true := by simp [h1]
        have e4 : (kq != 2) = true := by simp [h2]
        clear h1 h2
        clear hkc hgC
        go_wp2_with fail
        refine (HCut.out _).mono ?_
        rintro e w4 ⟨rfl, rfl⟩
        go_wp2_with (at_builtin; refine app_str rfl rfl (l := W) (l2 := [u]) rfl rfl (H3.out.sl.alloc _) (Sl.rd (Sl.lit strE _ _ rfl _ _ rfl _ rfl (by decide))) (by simp; omega) ?_; intro A5 c5 W5 w5 hW5 hs5 ht5 hA5)
        have H5 := Lib.hid ((H3.out.old ((Touch.refl _ w3).alloc (.cells #[.string u] 9))).slTo ht5 hs5 (fun ad ha => by
          subst ha
          rcases hA5 with e | e
          · cases Aw with
            | none => cases e
            | some a0 => exact .inl ⟨a0, rfl, by simpa using e⟩
          · right; simp at e; simp; omega))
        have HW5 : Hid (W5 = Po.kept L C (k + 1)) := by unfold Hid; rw [HKS.out, if_pos hkp.out, hW5.out, hW.out, HQ.out]
        clear hs5 ht5 hA5 hW5 H3 hW
        go_roundw
        case rel => exact ⟨k + 1, A5, c5, W5, by omega, by go_num, rfl, HW5, H5⟩
        case measure => simp [intOf]; omega
    · have e : k = n := by omega
      subst e
      have hki : ¬ (k : Int) < (k : Int) := by omega
      go_wp2_with fail
      go_loopw [9, 67] (fun s9 i wr => ∃ (j K came bad : Nat), j ≤ k ∧ i = .int .i64 j ∧ s9 = .int .i64 K ∧ came + bad = j ∧ K ≤ came ∧ Hid (K = (Po.kept L C j).length) ∧ Hid (PlSt w wr gp 200 ((Po.all L k).drop j) k came bad Aw cw W)) (fun _ i _ => k - (intOf i).toNat)
      case atStart => exact ⟨0, 0, 0, 0, by omega, rfl, rfl, rfl, by omega, rfl, HS⟩
      case round =>
        clear HS
        obtain ⟨j, K, came, bad, hj, rfl, rfl, hcb, hKc, HKK, HS⟩ := hrel
        by_cases hjk : j < k
        · have hji : (j : Int) < (k : Int) := by omega
          have hj0 : (0 : Int) ≤ (j : Int) := by omega
          obtain ⟨gr, b, hpl⟩ := HS.out
          rw [Po.all_drop L k j hjk] at hpl
          have hqs : (Po.Q L j).size ≤ 1000 := by have := cutB_size (L.getD j ByteArray.empty) 20; unfold Po.Q; omega
          have HKS := Lib.hid (Po.kept_succ L C j)
          have hkat := fun h => Po.kept_at L C k j hjk h
          have HKA := Lib.hid hkat
          obtain ⟨q, hq⟩ : ∃ q, q = Po.Q L j := ⟨_, rfl⟩
          rw [← hq] at hpl hqs HKS HKA
          obtain ⟨rest, hrest⟩ : ∃ rest, rest = (Po.all L k).drop (j + 1) := ⟨_, rfl⟩
          rw [← hrest] at hpl
          have HQ := Lib.hid hq
          have HRest := Lib.hid hrest
          have HPl := Lib.hid hpl
          clear hq hrest hpl HS hkat
          by_cases hjc : j < C.length
          · have hjc' : (j : Int) < (C.length : Int) := by omega
            have hkd : Po.kd C j = (C.getD j (0, 0, 0)).1 := if_pos hjc
            obtain ⟨gC, oC, rfl, hgC, d0, d1, d2⟩ := (HR2.out.touch (HPl.out.fresh.alloc (.cells #[.int .i64 0, .int .i64 0, .int .u32 0] 58)) (fun _ _ _ h => h)).cho_at j hjc
            have hgood : GoodCho (C.getD j (0, 0, 0)) := by
              have : C.getD j (0, 0, 0) = C[j]'hjc := by simp [List.getD, List.getElem?_eq_getElem hjc]
              rw [this]; exact HCs.out _ (List.getElem_mem _)
            obtain ⟨kq, hkq⟩ : ∃ kq, kq = (C.getD j (0, 0, 0)).1 := ⟨_, rfl⟩
            obtain ⟨aq, haq⟩ : ∃ aq, aq = (C.getD j (0, 0, 0)).2.1 := ⟨_, rfl⟩
            obtain ⟨mq, hmq⟩ : ∃ mq, mq = (C.getD j (0, 0, 0)).2.2 := ⟨_, rfl⟩
            have hm0 : 0 ≤ mq ∧ mq ≤ 4294967295 := by rw [hmq]; exact hgood
            rw [← hkq] at d0 hkd
            rw [← haq] at d1
            rw [← hmq] at d2
            have HKD := Lib.hid hkd
            clear hkd hkq haq hmq hgood hjc hgC
            have HPa := Lib.hid (HPl.out.old ((Touch.refl _ wr).alloc (.cells #[.int .i64 0, .int .i64 0, .int .u32 0] 58)))
            have HBa := Lib.hid (Blk.new wr 58 [.int .i64 0, .int .i64 0, .int .u32 0])
            have hnf : Hid (¬ PFoot gp gr b wr.heap.size) := fun hf => by have := HPl.out.pipe.wf _ hf; omega
            have hwb := HPl.out.fresh.size
            go_upto_region 20 with (fail)
            generalize wr.alloc (.cells #[.int .i64 0, .int .i64 0, .int .u32 0] 58) = wa at *
            generalize wr.heap.size = gc at *
            obtain ⟨x, hx⟩ : ∃ x : Int, x = max (-40) (min aq 400) := ⟨_, rfl⟩
            have hx0 : -1000 ≤ x := by omega
            have hx1 : x ≤ 1000 := by omega
            have HX := Lib.hid hx
            clear hx HPl
            go_wp2_with fail
            refine (near_any kq aq mq x wa HX.out).mono ?_
            rintro e w4 ⟨rfl, t4⟩
            have HPb := Lib.hid (HPa.out.old t4)
            have HBb := Lib.hid (t4.blk HBa.out (fun h => h))
            have c0 : w4.cell? ⟨gc, 0, none⟩ = some (.int .i64 0) := HBb.out.cell 0
            have c1 : w4.cell? ⟨gc, 1, none⟩ = some (.int .i64 0) := HBb.out.cell 1
            have c2 : w4.cell? ⟨gc, 2, none⟩ = some (.int .u32 0) := HBb.out.cell 2
            have f0 := HBb.out.frozen 0
            have f1 := HBb.out.frozen 1
            have f2 := HBb.out.frozen 2
            clear t4 HPa HBa d0 d1 d2
            go_upto_region 22 with (fail)
            have HB5 := Lib.hid (((HBb.out.set 0 (.int .i64 kq)).set 1 (.int .i64 x)).set 2 (.int .u32 mq))
            have T5 : Touch (· = gc) w4 (((w4.setCell ⟨gc, 0, none⟩ (.int .i64 kq)).setCell ⟨gc, 1, none⟩ (.int .i64 x)).setCell ⟨gc, 2, none⟩ (.int .u32 mq)) := (((Touch.refl (· = gc) w4).st rfl).st rfl).st rfl
            have HP5 := Lib.hid (HPb.out.other T5 hnf.out (HPb.out.sl.blk_ne HBb.out (by decide)) hwb)
            clear HPb HBb T5 c0 c1 c2 f0 f1 f2
            generalize (((w4.setCell ⟨gc, 0, none⟩ (.int .i64 kq)).setCell ⟨gc, 1, none⟩ (.int .i64 x)).setCell ⟨gc, 2, none⟩ (.int .u32 mq)) = w5 at *
            have c0 : w5.cell? ⟨gc, 0, none⟩ = some (.int .i64 kq) := HB5.out.cell 0
            have c1 : w5.cell? ⟨gc, 1, none⟩ = some (.int .i64 x) := HB5.out.cell 1
            have c2 : w5.cell? ⟨gc, 2, none⟩ = some (.int .u32 mq) := HB5.out.cell 2
            by_cases hk1 : kq = 1
            · subst hk1
              have hkeep : Hid (Po.keep C j = false) := by unfold Hid Po.keep; rw [HKD.out]; rfl
              go_wp2_with fail
              refine (pipe_take_lose_at q x mq HP5.out (by omega)).mono ?_
              rintro e w6 ⟨rfl, h6, t6⟩
              have HB6 := Lib.hid (t6.blk HB5.out hnf.out)
              have H6 := Lib.hid h6
              clear h6 t6 HP5 HB5 c0 c1 c2
              have c0 : w6.cell? ⟨gc, 0, none⟩ = some (.int .i64 1) := HB6.out.cell 0
              have HS7 : Hid (PlSt w w6 gp 200 ((Po.all L k).drop (j + 1)) k came (bad + 1) Aw cw W) := by rw [← HRest.out]; exact H6.out.st
              have HK7 : Hid (K = (Po.kept L C (j + 1)).length) := by unfold Hid; rw [HKS.out, if_neg (by rw [hkeep.out]; decide), List.append_nil, HKK.out]
              clear H6 HB6 HKS HKA HKK HRest HQ
              go_wp2
              go_roundw
              case rel => exact ⟨j + 1, K, came, (bad + 1), by omega, by go_num, by first | rfl | go_num, by omega, by omega, HK7, HS7⟩
              case measure => simp [intOf]; omega
            · by_cases hk2 : kq = 2
              · subst hk2
                have hkeep : Hid (Po.keep C j = false) := by unfold Hid Po.keep; rw [HKD.out]; rfl
                clear hk1
                by_cases hfl : flipS mq x q = q
                · go_wp2_with fail
                  refine (pipe_take_spoil_at q x mq HP5.out (by omega) (by omega) hqs hx0 hx1 hm0.1 hm0.2).mono ?_
                  rintro e w6 ⟨rfl, h6, t6⟩
                  rw [if_pos hfl, if_pos hfl] at h6
                  have HFL := Lib.hid hfl
                  clear hfl
                  have HB6 := Lib.hid (t6.blk HB5.out hnf.out)
                  have H6 := Lib.hid h6
                  clear h6 t6 HP5 HB5 c0 c1 c2
                  have c0 : w6.cell? ⟨gc, 0, none⟩ = some (.int .i64 2) := HB6.out.cell 0
                  have HS7 : Hid (PlSt w w6 gp 200 ((Po.all L k).drop (j + 1)) k (came + 1) bad Aw cw W) := by rw [← HRest.out]; exact H6.out.st
                  have HK7 : Hid (K = (Po.kept L C (j + 1)).length) := by unfold Hid; rw [HKS.out, if_neg (by rw [hkeep.out]; decide), List.append_nil, HKK.out]
                  clear H6 HB6 HKS HKA HKK HRest HQ
                  go_wp2
                  go_roundw
                  case rel => exact ⟨j + 1, K, (came + 1), bad, by omega, by go_num, by first | rfl | go_num, by omega, by omega, HK7, HS7⟩
                  case measure => simp [intOf]; omega
                · go_wp2_with fail
                  refine (pipe_take_spoil_at q x mq HP5.out (by omega) (by omega) hqs hx0 hx1 hm0.1 hm0.2).mono ?_
                  rintro e w6 ⟨rfl, h6, t6⟩
                  rw [if_neg hfl, if_neg hfl] at h6
                  have HFL := Lib.hid hfl
                  clear hfl
                  have HB6 := Lib.hid (t6.blk HB5.out hnf.out)
                  have H6 := Lib.hid h6
                  clear h6 t6 HP5 HB5 c0 c1 c2
                  have c0 : w6.cell? ⟨gc, 0, none⟩ = some (.int .i64 2) := HB6.out.cell 0
                  have HS7 : Hid (PlSt w w6 gp 200 ((Po.all L k).drop (j + 1)) k came (bad + 1) Aw cw W) := by rw [← HRest.out]; exact H6.out.st
                  have HK7 : Hid (K = (Po.kept L C (j + 1)).length) := by unfold Hid; rw [HKS.out, if_neg (by rw [hkeep.out]; decide), List.append_nil, HKK.out]
                  clear H6 HB6 HKS HKA HKK HRest HQ
                  go_wp2
                  go_roundw
                  case rel => exact ⟨j + 1, K, came, (bad + 1), by omega, by go_num, by first | rfl | go_num, by omega, by omega, HK7, HS7⟩
                  case measure => simp [intOf]; omega
              · have hkeep : Hid (Po.keep C j = true) := by unfold Hid Po.keep; rw [HKD.out]; simp [hk1, hk2]
                have e1 : (kq == 1) = false := beq_eq_false_iff_ne.2 hk1
                have e2 : (kq == 2) = false := beq_eq_false_iff_ne.2 hk2
                go_wp2_with fail
                refine (pipe_take_carry_at q kq x mq HP5.out hk1 hk2 (by omega)).mono ?_
                rintro e w6 ⟨rfl, h6, t6⟩
                have HB6 := Lib.hid (t6.blk HB5.out hnf.out)
                have H6 := Lib.hid h6
                clear h6 t6 HP5 HB5 c0 c1 c2
                have c0 : w6.cell? ⟨gc, 0, none⟩ = some (.int .i64 kq) := HB6.out.cell 0
                clear hk1 hk2
                have hka := HKA.out hkeep.out
                rw [← hW.out, ← HKK.out] at hka
                obtain ⟨gw, ow, hAw, _, hcw⟩ := H6.out.sl.str_at K hka.1
                rw [hka.2] at hcw
                have hKi : (K : Int) < (W.length : Int) := by have := hka.1; omega
                have hK0 : (0 : Int) ≤ (K : Int) := by omega
                subst hAw
                clear hka
                have HS7 : Hid (PlSt w w6 gp 200 ((Po.all L k).drop (j + 1)) k (came + 1) bad (some ⟨gw, ow, none⟩) cw W) := by rw [← HRest.out]; exact H6.out.st
                have HK7 : Hid ((K + 1) = (Po.kept L C (j + 1)).length) := by unfold Hid; rw [HKS.out, if_pos hkeep.out, List.length_append, HKK.out]; rfl
                clear H6 HB6 HKS HKA HKK HRest HQ
                go_wp2
                go_roundw
                case rel => exact ⟨j + 1, (K + 1), (came + 1), bad, by omega, by go_num, by first | rfl | go_num, by omega, by omega, HK7, HS7⟩
                case measure => simp [intOf]; omega
          · have hkd : Po.kd C j = 0 := if_neg hjc
            have hjc' : ¬ (j : Int) < (C.length : Int) := by omega
            have hkeep : Hid (Po.keep C j = true) := by unfold Hid Po.keep; rw [hkd]; rfl
            have HP5 := Lib.hid (HPl.out.old ((Touch.refl _ wr).alloc (.cells #[.int .i64 0, .int .i64 0, .int .u32 0] 58)))
            have HB5 := Lib.hid (Blk.new wr 58 [.int .i64 0, .int .i64 0, .int .u32 0])
            have hnf : Hid (¬ PFoot gp gr b wr.heap.size) := fun hf => by have := HPl.out.pipe.wf _ hf; omega
            clear hkd hjc HPl
            go_upto_region 20 with (fail)
            generalize wr.alloc (.cells #[.int .i64 0, .int .i64 0, .int .u32 0] 58) = w5 at *
            generalize wr.heap.size = gc at *
            have c0 : w5.cell? ⟨gc, 0, none⟩ = some (.int .i64 0) := HB5.out.cell 0
            have c1 : w5.cell? ⟨gc, 1, none⟩ = some (.int .i64 0) := HB5.out.cell 1
            have c2 : w5.cell? ⟨gc, 2, none⟩ = some (.int .u32 0) := HB5.out.cell 2
            go_wp2_with fail
            refine (pipe_take_carry_at q 0 0 0 HP5.out (by decide) (by decide) (by omega)).mono ?_
            rintro e w6 ⟨rfl, h6, t6⟩
            have HB6 := Lib.hid (t6.blk HB5.out hnf.out)
            have H6 := Lib.hid h6
            clear h6 t6 HP5 HB5 c0 c1 c2
            have c0 : w6.cell? ⟨gc, 0, none⟩ = some (.int .i64 0) := HB6.out.cell 0
            have hka := HKA.out hkeep.out
            rw [← hW.out, ← HKK.out] at hka
            obtain ⟨gw, ow, hAw, _, hcw⟩ := H6.out.sl.str_at K hka.1
            rw [hka.2] at hcw
            have hKi : (K : Int) < (W.length : Int) := by have := hka.1; omega
            have hK0 : (0 : Int) ≤ (K : Int) := by omega
            subst hAw
            clear hka
            have HS7 : Hid (PlSt w w6 gp 200 ((Po.all L k).drop (j + 1)) k (came + 1) bad (some ⟨gw, ow, none⟩) cw W) := by rw [← HRest.out]; exact H6.out.st
            have HK7 : Hid ((K + 1) = (Po.kept L C (j + 1)).length) := by unfold Hid; rw [HKS.out, if_pos hkeep.out, List.length_append, HKK.out]; rfl
            clear H6 HB6 HKS HKA HKK HRest HQ
            go_wp2
            go_roundw
            case rel => exact ⟨j + 1, (K + 1), (came + 1), bad, by omega, by go_num, by first | rfl | go_num, by omega, by omega, HK7, HS7⟩
            case measure => simp [intOf]; omega
        · have e : j = k := by omega
          subst e
          have hji : ¬ (j : Int) < (j : Int) := by omega
          have hdr : (Po.all L j).drop j = [] := List.drop_eq_nil_of_le (by rw [Po.all_len]; exact Nat.le_refl _)
          rw [hdr] at HS
          have hKW : K = W.length := by rw [HKK.out, hW.out]
          have hKWi : (K : Int) = (W.length : Int) := by omega
          have hcbi : (came : Int) + (bad : Int) = (j : Int) := by omega
          have hKci : (K : Int) ≤ (came : Int) := by omega
          have HKW := Lib.hid hKW
          have HCB := Lib.hid hcb
          clear hdr hKW HKK hcb
          go_wp2_with fail
          refine (pipe_counts HS.out).mono ?_
          rintro e w4 ⟨rfl, n4, rfl⟩
          have H4 := Lib.hid (HS.out.drewN n4)
          clear HS
          generalize wr.drewN n4 = w5 at *
          obtain ⟨gr, b, hpl⟩ := H4.out
          have c0 : w5.cell? ⟨gp, 0, none⟩ = some (.pointer (some ⟨gr, 0, none⟩)) := hpl.pipe.blk.cell 0
          have HRg := Lib.hid hpl.pipe.ring
          clear hpl
          go_wp2_with fail
          refine (ringStr_len gr b 200 [] w5 HRg.out).mono ?_
          rintro e w6 ⟨rfl, rfl⟩
          go_wp2
          go_ret
          exact ⟨rfl, H4.out.fresh.below (Nat.le_refl _) (fun _ _ h => h)⟩

theorem pipeOrder.walk (v v2 : Value) (w : World) {H : Type} {enc : TypeId × Value → H} {base base2 : Nat} {d d2 : DataW H} {p p2 : List MemPlace} (hv : Value.okWide Try.prog w .any base 33 v) (h : DataW.Trod enc Try.prog w 0 (fun _ => true) true 33 v d p)
    (hv2 : Value.okWide Try.prog w .any base2 67 v2) (h2 : DataW.Trod enc Try.prog w 0 (fun _ => true) true 67 v2 d2 p2) :
    Calls Try.prog 8 #[v, v2] w fun e w' => e = .returned (.bool true) ∧ Below w.heap.size w w' := by
  obtain ⟨A, c, l, rfl, hr, hl⟩ := open_rd_str hv h
  obtain ⟨A2, c2, l2, rfl, hr2, hl2⟩ := open_rd choE Try.underlying67 (by kernel_rfl) (Good := GoodCho) dec_cho hv2 h2
  exact pipeOrder.core A c l A2 c2 l2 w hr hr2 hl hl2
end Go.Proofs.Ytfieckhhckfjiaa
