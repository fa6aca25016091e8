/-
  polliwoglaw06.Own: the program's unit of the document's.
-/
import Derived.Test.YtpifgpmjnjbecaaDoorOwn6
import Derived.Test.YtpifgpmjnjbecaaDoorMine
import Derived.Deep.RegionLaw
namespace Go.Proofs.YtpifgpmjnjbecaaDoor
open Go.RowKit

theorem mine_far {w wx wy : World} {A : Option Addr} {c : Nat} {L : List Int} {g : Nat} {t : TypeId} {cs : List Value} (m : Mine numE w wx A c L) (ht : Touch (fun k => A.map Addr.block = some k) wx wy) (hb : Blk wx g t cs) (hne : numE.e ≠ t) : Blk wy g t cs := by
  refine ht.blk hb (fun h => ?_)
  cases A with
  | none => cases h
  | some ad =>
    injection h with h
    exact m.sl.blk_ne hb hne ad rfl h

namespace Wh
def own (p : P) : P := { p with n := cl p.n, ps := cl p.ps, mr := cl p.mr, l := p.l.map cl }
end Wh

set_option maxRecDepth 10000 in
set_option maxHeartbeats 4000000 in
theorem own6_any (p : Wh.P) (A : Option Addr) (c : Nat) (w : World) (hr : Rd intE w A c p.l)
    (hw : ∀ x ∈ [p.n, p.ps, p.mr], -9223372036854775808 ≤ x ∧ x ≤ 9223372036854775807) (hwl : ∀ x ∈ p.l, -9223372036854775808 ≤ x ∧ x ≤ 9223372036854775807) (hl : p.l.length ≤ 140) :
    Calls Tryd.prog 6 #[rV p A c] w fun e w' => ∃ A' c', e = .returned (pV (Wh.own p) A' c') ∧ Mine numE w w' A' c' (Wh.own p).l := by
  have hm := hr.1
  have hm2 := hr.2.1
  unfold maxLen at hm2
  have hn := hw p.n (by simp)
  have hps := hw p.ps (by simp)
  have hmr := hw p.mr (by simp)
  have HWL := Lib.hid hwl
  have HR := Lib.hid hr
  clear hr hw hwl
  have HE : Hid (Wh.own p = ⟨p.kind, p.sq, Wh.cl p.n, Wh.cl p.ps, Wh.cl p.mr, p.l.map Wh.cl, p.self, p.data⟩) := rfl
  rw [HE.out]
  clear HE
  obtain ⟨kind, sq, n, ps, mr, l, self, data⟩ := p
  unfold rV pV
  simp only at hm hm2 hn hps hmr hl HWL HR ⊢
  obtain ⟨hn0, hn1⟩ := hn
  obtain ⟨hp0, hp1⟩ := hps
  obtain ⟨hm0, hm1⟩ := hmr
  have HN1 : Hid (∀ W, Calls Tryd.prog 17 #[.int .i64 n] W fun e w' => e = .returned (.int .u32 (Wh.cl n)) ∧ W = w') := fun W => num6_any n W hn0 hn1
  have HN2 : Hid (∀ W, Calls Tryd.prog 17 #[.int .i64 ps] W fun e w' => e = .returned (.int .u32 (Wh.cl ps)) ∧ W = w') := fun W => num6_any ps W hp0 hp1
  have HN3 : Hid (∀ W, Calls Tryd.prog 17 #[.int .i64 mr] W fun e w' => e = .returned (.int .u32 (Wh.cl mr)) ∧ W = w') := fun W => num6_any mr W hm0 hm1
  have HB : Hid (Blk ((w.alloc (.cells #[.int .i64 kind, .int .i64 sq, .int .i64 n, .int .i64 ps, .int .i64 mr, .slice A l.length c, .bool self, .string data] 36)).alloc (.cells #[.int .i64 0, .int .i64 0, .int .u32 0, .int .u32 0, .int .u32 0, .slice none 0 0, .bool false, .string ⟨#[]⟩] 32)) w.heap.size 36 [.int .i64 kind, .int .i64 sq, .int .i64 n, .int .i64 ps, .int .i64 mr, .slice A l.length c, .bool self, .string data]) := (Blk.new _ _ _).alloc _
  have HZ : Hid (Blk ((w.alloc (.cells #[.int .i64 kind, .int .i64 sq, .int .i64 n, .int .i64 ps, .int .i64 mr, .slice A l.length c, .bool self, .string data] 36)).alloc (.cells #[.int .i64 0, .int .i64 0, .int .u32 0, .int .u32 0, .int .u32 0, .slice none 0 0, .bool false, .string ⟨#[]⟩] 32)) (w.heap.size + 1) 32 [.int .i64 0, .int .i64 0, .int .u32 0, .int .u32 0, .int .u32 0, .slice none 0 0, .bool false, .string ⟨#[]⟩]) := by
    have := Blk.new (w.alloc (.cells #[.int .i64 kind, .int .i64 sq, .int .i64 n, .int .i64 ps, .int .i64 mr, .slice A l.length c, .bool self, .string data] 36)) 32 [.int .i64 0, .int .i64 0, .int .u32 0, .int .u32 0, .int .u32 0, .slice none 0 0, .bool false, .string ⟨#[]⟩]
    rw [show (w.alloc (.cells #[.int .i64 kind, .int .i64 sq, .int .i64 n, .int .i64 ps, .int .i64 mr, .slice A l.length c, .bool self, .string data] 36)).heap.size = w.heap.size + 1 by simp] at this
    exact this
  have HF : Hid (Fresh w ((w.alloc (.cells #[.int .i64 kind, .int .i64 sq, .int .i64 n, .int .i64 ps, .int .i64 mr, .slice A l.length c, .bool self, .string data] 36)).alloc (.cells #[.int .i64 0, .int .i64 0, .int .u32 0, .int .u32 0, .int .u32 0, .slice none 0 0, .bool false, .string ⟨#[]⟩] 32))) := ((Touch.refl _ _).alloc _).alloc _
  go_enter Tryd.func6, Tryd.ntmps6
  go_upto_region 1 with (fail)
  generalize ((w.alloc (.cells #[.int .i64 kind, .int .i64 sq, .int .i64 n, .int .i64 ps, .int .i64 mr, .slice A l.length c, .bool self, .string data] 36)).alloc (.cells #[.int .i64 0, .int .i64 0, .int .u32 0, .int .u32 0, .int .u32 0, .slice none 0 0, .bool false, .string ⟨#[]⟩] 32)) = w1 at *
  obtain ⟨b, hb⟩ : ∃ b, b = w.heap.size := ⟨_, rfl⟩
  obtain ⟨rb, hrb⟩ : ∃ rb, rb = w.heap.size + 1 := ⟨_, rfl⟩
  rw [← hrb] at HZ ⊢
  rw [← hb] at HB ⊢
  have HNB : Hid (b = w.heap.size ∧ rb = w.heap.size + 1) := ⟨hb, hrb⟩
  clear hb hrb
  have HC : Hid (∀ W, Fresh w1 W → W.cell? ⟨b, 0, none⟩ = some (.int .i64 kind) ∧ W.cell? ⟨b, 1, none⟩ = some (.int .i64 sq) ∧ W.cell? ⟨b, 2, none⟩ = some (.int .i64 n) ∧ W.cell? ⟨b, 3, none⟩ = some (.int .i64 ps) ∧ W.cell? ⟨b, 4, none⟩ = some (.int .i64 mr) ∧ W.cell? ⟨b, 6, none⟩ = some (.bool self) ∧ W.cell? ⟨b, 7, none⟩ = some (.string data)) := fun W f => by
    have h := f.blk HB.out (fun e => e)
    exact ⟨h.cell 0, h.cell 1, h.cell 2, h.cell 3, h.cell 4, h.cell 6, h.cell 7⟩
  have HP : Hid (Blk (w1.alloc (.cells #[.int .i64 kind, .int .i64 sq, .int .u32 (Wh.cl n), .int .u32 (Wh.cl ps), .int .u32 (Wh.cl mr), .slice none 0 0, .bool self, .string data] 32)).drew w1.heap.size 32 [.int .i64 kind, .int .i64 sq, .int .u32 (Wh.cl n), .int .u32 (Wh.cl ps), .int .u32 (Wh.cl mr), .slice none 0 0, .bool self, .string data]) := (Blk.new w1 _ _).drew
  have HF1 : Hid (Fresh w1 (w1.alloc (.cells #[.int .i64 kind, .int .i64 sq, .int .u32 (Wh.cl n), .int .u32 (Wh.cl ps), .int .u32 (Wh.cl mr), .slice none 0 0, .bool self, .string data] 32)).drew) := ((Touch.refl _ _).alloc _).drew
  have HLE : Hid (w1.heap.size ≤ w1.heap.size) := Nat.le_refl _
  go_region_held3 (fun W => W.cell? ⟨b, 0, none⟩ = some (.int .i64 kind) ∧ W.cell? ⟨b, 1, none⟩ = some (.int .i64 sq) ∧ W.cell? ⟨b, 2, none⟩ = some (.int .i64 n) ∧ W.cell? ⟨b, 3, none⟩ = some (.int .i64 ps) ∧ W.cell? ⟨b, 4, none⟩ = some (.int .i64 mr) ∧ W.cell? ⟨b, 6, none⟩ = some (.bool self) ∧ W.cell? ⟨b, 7, none⟩ = some (.string data))
    (first
      | assumption
      | exact HC.out _ ((Touch.refl _ _).drew)
      | exact HC.out _ (((Touch.refl _ _).alloc _).drew))
    (first
      | (go_simp; go_at_call 17; (with_reducible refine (HN1.out _).mono ?_); rintro e w' ⟨rfl, rfl⟩)
      | (go_simp; go_at_call 17; (with_reducible refine (HN2.out _).mono ?_); rintro e w' ⟨rfl, rfl⟩)
      | (go_simp; go_at_call 17; (with_reducible refine (HN3.out _).mono ?_); rintro e w' ⟨rfl, rfl⟩))
  all_goals as_aux_lemma =>
    generalize (w1.alloc (.cells #[.int .i64 kind, .int .i64 sq, .int .u32 (Wh.cl n), .int .u32 (Wh.cl ps), .int .u32 (Wh.cl mr), .slice none 0 0, .bool self, .string data] 32)).drew = wc at HP HF1 ⊢
    obtain ⟨pb, hpb⟩ : ∃ pb, pb = w1.heap.size := ⟨_, rfl⟩
    rw [← hpb] at HP ⊢
    have HLE : Hid (w1.heap.size ≤ pb) := by
      rw [hpb]
      exact Nat.le_refl _
    clear hpb
    have HB1 : Hid (Blk wc b 36 [.int .i64 kind, .int .i64 sq, .int .i64 n, .int .i64 ps, .int .i64 mr, .slice A l.length c, .bool self, .string data]) := HF1.out.blk HB.out (fun e => e)
    have HZ1 : Hid (Blk wc rb 32 [.int .i64 0, .int .i64 0, .int .u32 0, .int .u32 0, .int .u32 0, .slice none 0 0, .bool false, .string ⟨#[]⟩]) := HF1.out.blk HZ.out (fun e => e)
    have HF2 : Hid (Fresh w wc) := HF.out.trans HF1.out (fun _ _ e => e)
    have HLT : Hid (b < pb ∧ rb < pb) := ⟨Nat.lt_of_lt_of_le HB.out.lt HLE.out, Nat.lt_of_lt_of_le HZ.out.lt HLE.out⟩
    have c5 : wc.cell? ⟨b, 5, none⟩ = some (.slice A l.length c) := HB1.out.cell 5
    clear HB HZ HF HF1 HLE HC HN1 HN2 HN3
    go_wp2_with fail
    go_loopw [27] (fun i wx => ∃ (k : Nat) (A' : Option Addr) (c' : Nat) (L : List Int), k ≤ l.length ∧ i = .int .i64 k ∧ Hid (L = (l.take k).map Wh.cl) ∧ Hid (Blk wx pb 32 [.int .i64 kind, .int .i64 sq, .int .u32 (Wh.cl n), .int .u32 (Wh.cl ps), .int .u32 (Wh.cl mr), (.slice A' L.length c'), .bool self, .string data]) ∧ Hid (Blk wx rb 32 [.int .i64 0, .int .i64 0, .int .u32 0, .int .u32 0, .int .u32 0, .slice none 0 0, .bool false, .string ⟨#[]⟩]) ∧ Hid (Mine numE w wx A' c' L)) (fun i _ => l.length - (intOf i).toNat)
    case atStart => exact ⟨0, none, 0, [], Nat.zero_le _, rfl, rfl, HP, HZ1, ⟨Sl.nil _ _, HF2.out, fun _ h => nomatch h⟩⟩
    case round =>
      obtain ⟨k, A2, c2, L2, hk, rfl, HL2, HP2, HZ2, HM⟩ := hrel
      by_cases hlt : k < l.length
      · obtain ⟨gb, o, hA, hgb, hcl⟩ := (HM.out.keepsR HR.out).int_at k hlt
        have hx := HWL.out (l.getD k 0) (by rw [show l.getD k 0 = l[k] by simp [List.getD, List.getElem?_eq_getElem hlt]]; exact List.getElem_mem hlt)
        have HLK : Hid ((l.take (k + 1)).map Wh.cl = L2 ++ [Wh.cl (l.getD k 0)]) := by
          show _ = _
          rw [HL2.out, List.take_succ_eq_append_getElem hlt, List.map_append, List.map_cons, List.map_nil, show l.getD k 0 = l[k] by simp [List.getD, List.getElem?_eq_getElem hlt]]
        have h2l : L2.length ≤ 200 := by rw [HL2.out]; simp; omega
        subst hA
        obtain ⟨x, hxe⟩ : ∃ x, x = l.getD k 0 := ⟨_, rfl⟩
        rw [← hxe] at hcl hx HLK
        clear hxe HL2
        obtain ⟨hx0, hx1⟩ := hx
        have HNX : Hid (∀ W, Calls Tryd.prog 17 #[.int .i64 x] W fun e w' => e = .returned (.int .u32 (Wh.cl x)) ∧ W = w') := fun W => num6_any x W hx0 hx1
        have p5 : wr.cell? ⟨pb, 5, none⟩ = some (.slice A2 L2.length c2) := HP2.out.cell 5
        have d5 : (wr.alloc (.cells #[.int .u32 (Wh.cl x)] 29)).cell? ⟨pb, 5, none⟩ = some (.slice A2 L2.length c2) := (HP2.out.alloc _).cell 5
        have HMA : Hid (Mine numE w (wr.alloc (.cells #[.int .u32 (Wh.cl x)] 29)).drew A2 c2 L2) := (HM.out.alloc _).old ((Touch.refl _ _).drew)
        have HPA : Hid (Blk (wr.alloc (.cells #[.int .u32 (Wh.cl x)] 29)).drew pb 32 [.int .i64 kind, .int .i64 sq, .int .u32 (Wh.cl n), .int .u32 (Wh.cl ps), .int .u32 (Wh.cl mr), (.slice A2 L2.length c2), .bool self, .string data]) := (HP2.out.alloc _).drew
        have HZA : Hid (Blk (wr.alloc (.cells #[.int .u32 (Wh.cl x)] 29)).drew rb 32 [.int .i64 0, .int .i64 0, .int .u32 0, .int .u32 0, .int .u32 0, .slice none 0 0, .bool false, .string ⟨#[]⟩]) := (HZ2.out.alloc _).drew
        have HRD : Hid (Rd numE (wr.alloc (.cells #[.int .u32 (Wh.cl x)] 29)).drew (some ⟨wr.heap.size, 0, none⟩) 1 [Wh.cl x]) := ((Sl.lit numE wr _ rfl #[.int .u32 (Wh.cl x)] [Wh.cl x] rfl 1 rfl (by unfold maxLen; omega)).drew).rd
        clear HM HP2 HZ2 HP HZ1 HF2
        go_upto_region 5 with (fail)
        go_region_law (first
          | (go_simp; go_at_call 17; refine (HNX.out _).mono ?_; rintro e w8 ⟨rfl, rfl⟩)
          | (refine stp_num rfl (by rfl) (l := L2) (l2 := [Wh.cl x]) (by rfl) (by rfl) HMA.out.sl HRD.out (by simp; omega) ?_; intro A' c' L w9 hL hs ht hA; have HM9 := Lib.hid (HMA.out.app hs ht hA); have HP9 := Lib.hid (mine_far HMA.out ht HPA.out (by decide)); have HZ9 := Lib.hid (mine_far HMA.out ht HZA.out (by decide)); have c9 : w9.cell? ⟨pb, 5, none⟩ = some (.slice A2 L2.length c2) := HP9.out.cell 5; have z9 : w9.frozen? ⟨pb, 5, none⟩ = false := HP9.out.frozen 5; have HL9 := Lib.hid hL.out; clear hs ht hA hL))
        all_goals
          have HPE := Lib.hid (HP9.out.set 5 (.slice A' L.length c'))
          have HZE := Lib.hid (HZ9.out.far (p := ⟨pb, 5, none⟩) (by have := HLT.out; show rb ≠ pb; omega) (.slice A' L.length c'))
          have HME : Hid (Mine numE w (w9.setCell ⟨pb, 5, none⟩ (.slice A' L.length c')) A' c' L) := HM9.out.own (Touch.set1 w9 pb 5 _) (fun k e => by have := HNB.out; have := HLT.out; have e : k = pb := e; omega) (fun ad e => HM9.out.sl.blk_ne HP9.out (by decide) ad e)
          have HLF : Hid (L = (l.take (k + 1)).map Wh.cl) := by
            show _ = _
            rw [HLK.out]
            exact HL9.out
          go_wp2_with fail
          go_roundw
          case rel => exact ⟨k + 1, A', c', L, by omega, by go_num, HLF, by (first
            | exact HPE
            | exact HPE.out.drew), by (first
            | exact HZE
            | exact HZE.out.drew), by (first
            | exact HME
            | exact HME.out.old ((Touch.refl _ _).drew))⟩
          case measure => simp [intOf]; omega
      · have HLL : Hid (L2 = l.map Wh.cl) := by
          show _ = _
          rw [HL2.out, List.take_of_length_le (by omega)]
        have h2l : L2.length = l.length := by rw [HLL.out]; simp
        rw [h2l] at HP2
        have HM2 : Hid (Mine numE w wr A2 c2 (l.map Wh.cl)) := by
          show _
          rw [← HLL.out]
          exact HM.out
        clear HM HL2 HP HZ1 HF2 HLL h2l HR
        have HI : Hid ((Tryd.prog.info? 32).map (·.size) = some (#[.int .i64 kind, .int .i64 sq, .int .u32 (Wh.cl n), .int .u32 (Wh.cl ps), .int .u32 (Wh.cl mr), .slice A2 l.length c2, .bool self, .string data] : Array Value).size) := by
          show _ = _
          kernel_rfl
        have HO1 : Hid ((#[.int .i64 kind, .int .i64 sq, .int .u32 (Wh.cl n), .int .u32 (Wh.cl ps), .int .u32 (Wh.cl mr), .slice A2 l.length c2, .bool self, .string data] : Array Value).all (·.oneCell') = true) := by
          show _ = _
          simp [Value.oneCell']
        have HB11 : Hid (Blk (wr.setRow rb #[.int .i64 kind, .int .i64 sq, .int .u32 (Wh.cl n), .int .u32 (Wh.cl ps), .int .u32 (Wh.cl mr), .slice A2 l.length c2, .bool self, .string data]) rb 32 [.int .i64 kind, .int .i64 sq, .int .u32 (Wh.cl n), .int .u32 (Wh.cl ps), .int .u32 (Wh.cl mr), .slice A2 l.length c2, .bool self, .string data]) := setRow_heap wr rb _ _ _ _ HZ2.out
        have HME : Hid (Mine numE w (wr.setRow rb #[.int .i64 kind, .int .i64 sq, .int .u32 (Wh.cl n), .int .u32 (Wh.cl ps), .int .u32 (Wh.cl mr), .slice A2 l.length c2, .bool self, .string data]) A2 c2 (l.map Wh.cl)) := HM2.out.own (⟨rfl, rfl, rfl, by simp, fun k _ hk => setRow_other wr rb k _ hk⟩ : Touch (· = rb) wr (wr.setRow rb #[.int .i64 kind, .int .i64 sq, .int .u32 (Wh.cl n), .int .u32 (Wh.cl ps), .int .u32 (Wh.cl mr), .slice A2 l.length c2, .bool self, .string data])) (fun k e => by have := HNB.out; have e : k = rb := e; omega) (fun ad e => HM2.out.sl.blk_ne HZ2.out (by decide) ad e)
        clear HM2
        have HU := Lib.hid Tryd.underlying32
        go_upto_region 7 with (fail)
        refine wp_region_lit ?_
        refine wpList_load_row rfl 32 (.tmp 3) rfl pb (by rfl) 32 #[.int .i64 kind, .int .i64 sq, .int .u32 (Wh.cl n), .int .u32 (Wh.cl ps), .int .u32 (Wh.cl mr), .slice A2 l.length c2, .bool self, .string data] (0, 0) _ HP2.out HU.out rfl HI.out ?_
        refine wpList_store_row rfl 32 (.tmp 2) (.tmp 39) rfl rb #[.int .i64 kind, .int .i64 sq, .int .u32 (Wh.cl n), .int .u32 (Wh.cl ps), .int .u32 (Wh.cl mr), .slice A2 l.length c2, .bool self, .string data] (by rfl) (by rfl) 32 #[.int .i64 0, .int .i64 0, .int .u32 0, .int .u32 0, .int .u32 0, .slice none 0 0, .bool false, .string ⟨#[]⟩] HZ2.out HI.out (by rfl) HO1.out ?_
        clear c5 HP2 HZ2
        generalize (wr.setRow rb #[.int .i64 kind, .int .i64 sq, .int .u32 (Wh.cl n), .int .u32 (Wh.cl ps), .int .u32 (Wh.cl mr), .slice A2 l.length c2, .bool self, .string data]) = w11 at *
        have r0 : w11.cell? ⟨rb, 0, none⟩ = some (.int .i64 kind) := HB11.out.cell 0
        have r1 : w11.cell? ⟨rb, 1, none⟩ = some (.int .i64 sq) := HB11.out.cell 1
        have r2 : w11.cell? ⟨rb, 2, none⟩ = some (.int .u32 (Wh.cl n)) := HB11.out.cell 2
        have r3 : w11.cell? ⟨rb, 3, none⟩ = some (.int .u32 (Wh.cl ps)) := HB11.out.cell 3
        have r4 : w11.cell? ⟨rb, 4, none⟩ = some (.int .u32 (Wh.cl mr)) := HB11.out.cell 4
        have r5 : w11.cell? ⟨rb, 5, none⟩ = some (.slice A2 l.length c2) := HB11.out.cell 5
        have r6 : w11.cell? ⟨rb, 6, none⟩ = some (.bool self) := HB11.out.cell 6
        have r7 : w11.cell? ⟨rb, 7, none⟩ = some (.string data) := HB11.out.cell 7
        go_wp2_with fail
        refine bodyPost_ret (v := .agg #[.int .i64 kind, .int .i64 sq, .int .u32 (Wh.cl n), .int .u32 (Wh.cl ps), .int .u32 (Wh.cl mr), .slice A2 l.length c2, .bool self, .string data]) (by simp [results, Tryd.results6, go_sem, r0, r1, r2, r3, r4, r5, r6, r7]) rfl ⟨A2, c2, by simp, HME.out⟩
end Go.Proofs.YtpifgpmjnjbecaaDoor
