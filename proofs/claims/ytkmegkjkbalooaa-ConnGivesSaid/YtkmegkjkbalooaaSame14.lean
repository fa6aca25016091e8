/-
  polliwoglaw14.Same: of equal results it is true.
-/
import Derived.Test.YtkmegkjkbalooaaRc
import Derived.Test.YtkmegkjkbalooaaChk
import Derived.Deep.QuietTactic
import Derived.BigQuiet
namespace Go.Proofs.Ytkmegkjkbalooaa
open Go.RowKit

/-- A unit that pdu.Check takes. -/
def UOk (p : Cn.Pd) : Prop := (p.lA = none ∧ p.ln = 0 ∧ p.lc = 0) ∧ (0 ≤ p.n ∧ p.n < 4294967296) ∧ ∀ w, Calls Try.prog 70 #[pduV p] w fun e w' => e = .returned (.int .i64 0) ∧ Fresh w w'

theorem eqSigSelf (k c n : Int) (d : ByteArray) (s : Bool) (w : World) : (Op.equalIn 10000 63 (.agg #[.int .i64 k, .string d, .bool s, .int .u8 c, .int .i64 n]) (.agg #[.int .i64 k, .string d, .bool s, .int .u8 c, .int .i64 n])).run Try.prog w = .ok true w := by
  have hS : Try.prog.underlying 63 = some (.struct (Try.prog.fieldsOf 63)) := by kernel_rfl
  have u3 := Try.underlying3
  have a3 := Try.isAgg3
  have z3 := Try.sizeOf3
  have u4 := Try.underlying4
  have a4 := Try.isAgg4
  have z4 := Try.sizeOf4
  have u5 := Try.underlying5
  have a5 := Try.isAgg5
  have z5 := Try.sizeOf5
  have u9 := Try.underlying9
  have a9 := Try.isAgg9
  have z9 := Try.sizeOf9
  rw [show (10000 : Nat) = 9999 + 1 from rfl, run_equalIn_agg w 9999 63 _ _ hS (by kernel_rfl)]
  simp only [Program.fieldsOf, Try.underlying63]
  go_simp

theorem Rd.rsig_at {w : World} {A : Option Addr} {c : Nat} {l : List Cn.Sig} (h : Rd rsigE w A c l) (k : Nat) (hk : k < l.length) : ∃ g o, A = some ⟨g, o, none⟩ ∧ g < w.heap.size ∧ ∀ f u, (rsigE.enc l[k])[f]? = some u → w.cell? ⟨g, o + (k * 4 + f), none⟩ = some u := h.at_ k hk
theorem Rd.sig_at {w : World} {A : Option Addr} {c : Nat} {l : List Cn.Sig} (h : Rd sigE w A c l) (k : Nat) (hk : k < l.length) : ∃ g o, A = some ⟨g, o, none⟩ ∧ g < w.heap.size ∧ ∀ f u, (sigE.enc l[k])[f]? = some u → w.cell? ⟨g, o + (k * 5 + f), none⟩ = some u := h.at_ k hk
theorem Rd.pdu_at {w : World} {A : Option Addr} {c : Nat} {l : List Cn.Pd} (h : Rd pduE w A c l) (k : Nat) (hk : k < l.length) : ∃ g o, A = some ⟨g, o, none⟩ ∧ g < w.heap.size ∧ ∀ f u, (pduE.enc l[k])[f]? = some u → w.cell? ⟨g, o + (k * 8 + f), none⟩ = some u := h.at_ k hk
theorem Rd.runit_at {w : World} {A : Option Addr} {c : Nat} {l : List Cn.Pd} (h : Rd runitE w A c l) (k : Nat) (hk : k < l.length) : ∃ g o, A = some ⟨g, o, none⟩ ∧ g < w.heap.size ∧ ∀ f u, (runitE.enc l[k])[f]? = some u → w.cell? ⟨g, o + (k * 5 + f), none⟩ = some u := h.at_ k hk
theorem Rd.old {α : Type} {E : El α} {w w' : World} {A : Option Addr} {c : Nat} {l : List α} (h : Rd E w A c l) (ht : Fresh w w') : Rd E w' A c l := h.touch ht (fun _ _ _ e => e)

set_option maxHeartbeats 4000000 in
set_option maxRecDepth 100000 in
theorem same_any {w : World} {r : Cn.R} {A1 A2 B1 B2 : Option Addr} {c1 c2 e1 e2 : Nat} (h1 : Rd sigE w A1 c1 r.sigs) (h2 : Rd pduE w A2 c2 r.units) (h3 : Rd rsigE w B1 e1 r.sigs) (h4 : Rd runitE w B2 e2 r.units)
    (hs : ∀ s ∈ r.sigs, s.n = 0) (hu : ∀ u ∈ r.units, UOk u) (hms : 0 ≤ r.ms ∧ r.ms < 4294967296) (hl : r.sigs.length ≤ 100 ∧ r.units.length ≤ 100) :
    Calls Try.prog 54 #[.agg #[.slice A1 r.sigs.length c1, .slice A2 r.units.length c2, .bool r.begins, .bool r.ends, .int .u32 r.ms, .int .i64 r.timer], rrV ⟨B1, e1, B2, e2⟩ r] w fun e w' => e = .returned (.bool true) ∧ Fresh w w' := by
  unfold rrV
  dsimp only
  have H1 := Lib.hid h1
  have H2 := Lib.hid h2
  have H3 := Lib.hid h3
  have H4 := Lib.hid h4
  have HS := Lib.hid hs
  have HU := Lib.hid hu
  obtain ⟨m0, m1⟩ := hms
  obtain ⟨l1, l2⟩ := hl
  have HF : Hid (Fresh w ((w.alloc (.cells #[.slice A1 r.sigs.length c1, .slice A2 r.units.length c2, .bool r.begins, .bool r.ends, .int .u32 r.ms, .int .i64 r.timer] 41)).alloc (.cells #[.slice B1 r.sigs.length e1, .slice B2 r.units.length e2, .bool r.begins, .bool r.ends, .int .i64 r.ms, .int .i64 r.timer] 90))) := ((Touch.refl _ w).alloc _).alloc _
  have HB : Hid (Blk ((w.alloc (.cells #[.slice A1 r.sigs.length c1, .slice A2 r.units.length c2, .bool r.begins, .bool r.ends, .int .u32 r.ms, .int .i64 r.timer] 41)).alloc (.cells #[.slice B1 r.sigs.length e1, .slice B2 r.units.length e2, .bool r.begins, .bool r.ends, .int .i64 r.ms, .int .i64 r.timer] 90)) w.heap.size 41 [.slice A1 r.sigs.length c1, .slice A2 r.units.length c2, .bool r.begins, .bool r.ends, .int .u32 r.ms, .int .i64 r.timer]) := (Blk.new w 41 [.slice A1 r.sigs.length c1, .slice A2 r.units.length c2, .bool r.begins, .bool r.ends, .int .u32 r.ms, .int .i64 r.timer]).alloc _
  have HX : Hid (Blk ((w.alloc (.cells #[.slice A1 r.sigs.length c1, .slice A2 r.units.length c2, .bool r.begins, .bool r.ends, .int .u32 r.ms, .int .i64 r.timer] 41)).alloc (.cells #[.slice B1 r.sigs.length e1, .slice B2 r.units.length e2, .bool r.begins, .bool r.ends, .int .i64 r.ms, .int .i64 r.timer] 90)) (w.heap.size + 1) 90 [.slice B1 r.sigs.length e1, .slice B2 r.units.length e2, .bool r.begins, .bool r.ends, .int .i64 r.ms, .int .i64 r.timer]) := by
    have := Blk.new (w.alloc (.cells #[.slice A1 r.sigs.length c1, .slice A2 r.units.length c2, .bool r.begins, .bool r.ends, .int .u32 r.ms, .int .i64 r.timer] 41)) 90 [.slice B1 r.sigs.length e1, .slice B2 r.units.length e2, .bool r.begins, .bool r.ends, .int .i64 r.ms, .int .i64 r.timer]
    rwa [show (w.alloc (.cells #[.slice A1 r.sigs.length c1, .slice A2 r.units.length c2, .bool r.begins, .bool r.ends, .int .u32 r.ms, .int .i64 r.timer] 41)).heap.size = w.heap.size + 1 by simp] at this
  clear h1 h2 h3 h4 hs hu
  go_enter Try.func54, Try.ntmps54
  go_upto_region 1 with (fail)
  generalize ((w.alloc (.cells #[.slice A1 r.sigs.length c1, .slice A2 r.units.length c2, .bool r.begins, .bool r.ends, .int .u32 r.ms, .int .i64 r.timer] 41)).alloc (.cells #[.slice B1 r.sigs.length e1, .slice B2 r.units.length e2, .bool r.begins, .bool r.ends, .int .i64 r.ms, .int .i64 r.timer] 90)) = w1 at *
  generalize w.heap.size = g at *
  have d0 : w1.cell? ⟨g, 0, none⟩ = some (.slice A1 r.sigs.length c1) := HB.out.cell 0
  have d1 : w1.cell? ⟨g, 1, none⟩ = some (.slice A2 r.units.length c2) := HB.out.cell 1
  have d2 : w1.cell? ⟨g, 2, none⟩ = some (.bool r.begins) := HB.out.cell 2
  have d3 : w1.cell? ⟨g, 3, none⟩ = some (.bool r.ends) := HB.out.cell 3
  have d4 : w1.cell? ⟨g, 4, none⟩ = some (.int .u32 r.ms) := HB.out.cell 4
  have d5 : w1.cell? ⟨g, 5, none⟩ = some (.int .i64 r.timer) := HB.out.cell 5
  have x0 : w1.cell? ⟨g + 1, 0, none⟩ = some (.slice B1 r.sigs.length e1) := HX.out.cell 0
  have x1 : w1.cell? ⟨g + 1, 1, none⟩ = some (.slice B2 r.units.length e2) := HX.out.cell 1
  have x2 : w1.cell? ⟨g + 1, 2, none⟩ = some (.bool r.begins) := HX.out.cell 2
  have x3 : w1.cell? ⟨g + 1, 3, none⟩ = some (.bool r.ends) := HX.out.cell 3
  have x4 : w1.cell? ⟨g + 1, 4, none⟩ = some (.int .i64 r.ms) := HX.out.cell 4
  have x5 : w1.cell? ⟨g + 1, 5, none⟩ = some (.int .i64 r.timer) := HX.out.cell 5
  go_wp2_with fail
  go_loopw [58] (fun i wr => ∃ k : Nat, k ≤ r.sigs.length ∧ i = .int .i64 k ∧ Hid (Fresh w1 wr)) (fun i _ => r.sigs.length - (intOf i).toNat)
  case atStart => exact ⟨0, by omega, rfl, Touch.refl _ _⟩
  case round =>
    clear d0 d1 d2 d3 d4 d5 x0 x1 x2 x3 x4 x5
    obtain ⟨k, hk, rfl, ht⟩ := hrel
    by_cases hlt : k < r.sigs.length
    · have HFT : Hid (Fresh w wr) := HF.out.trans ht.out (fun _ _ e => e)
      obtain ⟨gX, oX, rfl, hgX, hX⟩ := (H3.out.old HFT.out).rsig_at k hlt
      obtain ⟨gA, oA, rfl, hgA, hA⟩ := (H1.out.old HFT.out).sig_at k hlt
      have hs0 : r.sigs[k].n = 0 := HS.out _ (List.getElem_mem hlt)
      generalize r.sigs[k] = s at *
      have y0 : wr.cell? ⟨gX, oX + k * 4, none⟩ = some (.int .i64 s.kind) := by have := hX 0 _ rfl; simpa [Nat.add_assoc] using this
      have y1 : wr.cell? ⟨gX, oX + k * 4 + 1, none⟩ = some (.string s.data) := by have := hX 1 _ rfl; simpa [Nat.add_assoc] using this
      have y2 : wr.cell? ⟨gX, oX + k * 4 + 2, none⟩ = some (.bool s.self) := by have := hX 2 _ rfl; simpa [Nat.add_assoc] using this
      have y3 : wr.cell? ⟨gX, oX + k * 4 + 3, none⟩ = some (.int .u8 s.code) := by have := hX 3 _ rfl; simpa [Nat.add_assoc] using this
      have hAo : ∀ (o : Obj) f u, (sigE.enc s)[f]? = some u → (wr.alloc o).cell? ⟨gA, oA + (k * 5 + f), none⟩ = some u := fun o f u h => (World.cell?_of_block (Below.heap_alloc wr o gA hgA)).trans (hA f u h)
      have a0 : ∀ o, (wr.alloc o).cell? ⟨gA, oA + k * 5, none⟩ = some (.int .i64 s.kind) := fun o => by have := hAo o 0 _ rfl; simpa [Nat.add_assoc] using this
      have a1 : ∀ o, (wr.alloc o).cell? ⟨gA, oA + k * 5 + 1, none⟩ = some (.string s.data) := fun o => by have := hAo o 1 _ rfl; simpa [Nat.add_assoc] using this
      have a2 : ∀ o, (wr.alloc o).cell? ⟨gA, oA + k * 5 + 2, none⟩ = some (.bool s.self) := fun o => by have := hAo o 2 _ rfl; simpa [Nat.add_assoc] using this
      have a3 : ∀ o, (wr.alloc o).cell? ⟨gA, oA + k * 5 + 3, none⟩ = some (.int .u8 s.code) := fun o => by have := hAo o 3 _ rfl; simpa [Nat.add_assoc] using this
      have a4 : ∀ o, (wr.alloc o).cell? ⟨gA, oA + k * 5 + 4, none⟩ = some (.int .i64 0) := fun o => by have := hAo o 4 _ rfl; rw [← hs0]; simpa [Nat.add_assoc] using this
      have d0 : ∀ o, (wr.alloc o).cell? ⟨g, 0, none⟩ = some (.slice (some ⟨gA, oA, none⟩) r.sigs.length c1) := fun o => ((ht.out.blk HB.out (fun e => e)).alloc o).cell 0
      have hk0 : (k : Int) < (r.sigs.length : Int) := by omega
      have hq := eqSigSelf
      have HT2 : Hid (∀ o n, Fresh w1 ((wr.alloc o).drewN n)) := fun o n => (ht.out.alloc o).drewN n
      clear hX hA hAo hs0
      go_upto_region 6 with (fail)
      go_quiet (fail)
      have HT3 := Lib.hid (HT2.out (.cells #[.int .i64 s.kind, .string s.data, .bool s.self, .int .u8 s.code] 119) nq)
      go_wp2
      go_roundw
      case rel => exact ⟨k + 1, by omega, by go_num, HT3⟩
      case measure => simp [intOf]; omega
    · have hkk : k = r.sigs.length := by omega
      have hld : decide ((k : Int) < (r.sigs.length : Int)) = false := decide_eq_false (by omega)
      have x1 : wr.cell? ⟨g + 1, 1, none⟩ = some (.slice B2 r.units.length e2) := (ht.out.blk HX.out (fun e => e)).cell 1
      clear hkk
      go_wp2_with fail
      obtain ⟨wo, rfl⟩ : ∃ wo : World, wo = wr := ⟨_, rfl⟩
      go_loopw [82] (fun i wr => ∃ k : Nat, k ≤ r.units.length ∧ i = .int .i64 k ∧ Hid (Fresh w1 wr)) (fun i _ => r.units.length - (intOf i).toNat)
      case atStart => exact ⟨0, by omega, rfl, ht⟩
      case round =>
        clear x1 hld
        obtain ⟨j, hj, rfl, ht2⟩ := hrel
        by_cases hjt : j < r.units.length
        · have HFT : Hid (Fresh w wr) := HF.out.trans ht2.out (fun _ _ e => e)
          obtain ⟨gX, oX, rfl, hgX, hX⟩ := (H4.out.old HFT.out).runit_at j hjt
          obtain ⟨gA, oA, rfl, hgA, hA⟩ := (H2.out.old HFT.out).pdu_at j hjt
          have hok : UOk r.units[j] := HU.out _ (List.getElem_mem hjt)
          generalize r.units[j] = u at *
          obtain ⟨kd, sq, n, ps, mr, lA, ln, lc, sf, da⟩ := u
          obtain ⟨⟨e7, e8, e9⟩, ⟨n0, n1⟩, hck⟩ := hok
          simp only at e7 e8 e9 n0 n1
          subst e7 e8 e9
          have HCK := Lib.hid hck
          have y0 : wr.cell? ⟨gX, oX + j * 5, none⟩ = some (.int .i64 kd) := by have := hX 0 _ rfl; simpa [Nat.add_assoc] using this
          have y1 : wr.cell? ⟨gX, oX + j * 5 + 1, none⟩ = some (.int .i64 sq) := by have := hX 1 _ rfl; simpa [Nat.add_assoc] using this
          have y2 : wr.cell? ⟨gX, oX + j * 5 + 2, none⟩ = some (.int .i64 n) := by have := hX 2 _ rfl; simpa [Nat.add_assoc] using this
          have y3 : wr.cell? ⟨gX, oX + j * 5 + 3, none⟩ = some (.bool sf) := by have := hX 3 _ rfl; simpa [Nat.add_assoc] using this
          have y4 : wr.cell? ⟨gX, oX + j * 5 + 4, none⟩ = some (.string da) := by have := hX 4 _ rfl; simpa [Nat.add_assoc] using this
          have hAo : ∀ (o : Obj) f u, (pduE.enc ⟨kd, sq, n, ps, mr, none, 0, 0, sf, da⟩)[f]? = some u → (wr.alloc o).cell? ⟨gA, oA + (j * 8 + f), none⟩ = some u := fun o f u h => (World.cell?_of_block (Below.heap_alloc wr o gA hgA)).trans (hA f u h)
          have a0 : ∀ o, (wr.alloc o).cell? ⟨gA, oA + j * 8, none⟩ = some (.int .i64 kd) := fun o => by have := hAo o 0 _ rfl; simpa [Nat.add_assoc] using this
          have a1 : ∀ o, (wr.alloc o).cell? ⟨gA, oA + j * 8 + 1, none⟩ = some (.int .i64 sq) := fun o => by have := hAo o 1 _ rfl; simpa [Nat.add_assoc] using this
          have a2 : ∀ o, (wr.alloc o).cell? ⟨gA, oA + j * 8 + 2, none⟩ = some (.int .u32 n) := fun o => by have := hAo o 2 _ rfl; simpa [Nat.add_assoc] using this
          have a3 : ∀ o, (wr.alloc o).cell? ⟨gA, oA + j * 8 + 3, none⟩ = some (.int .u32 ps) := fun o => by have := hAo o 3 _ rfl; simpa [Nat.add_assoc] using this
          have a4 : ∀ o, (wr.alloc o).cell? ⟨gA, oA + j * 8 + 4, none⟩ = some (.int .u32 mr) := fun o => by have := hAo o 4 _ rfl; simpa [Nat.add_assoc] using this
          have a5 : ∀ o, (wr.alloc o).cell? ⟨gA, oA + j * 8 + 5, none⟩ = some (.slice none 0 0) := fun o => by have := hAo o 5 _ rfl; simpa [Nat.add_assoc] using this
          have a6 : ∀ o, (wr.alloc o).cell? ⟨gA, oA + j * 8 + 6, none⟩ = some (.bool sf) := fun o => by have := hAo o 6 _ rfl; simpa [Nat.add_assoc] using this
          have a7 : ∀ o, (wr.alloc o).cell? ⟨gA, oA + j * 8 + 7, none⟩ = some (.string da) := fun o => by have := hAo o 7 _ rfl; simpa [Nat.add_assoc] using this
          have d1 : ∀ o, (wr.alloc o).cell? ⟨g, 1, none⟩ = some (.slice (some ⟨gA, oA, none⟩) r.units.length c2) := fun o => ((ht2.out.blk HB.out (fun e => e)).alloc o).cell 1
          have hj0 : (j : Int) < (r.units.length : Int) := by omega
          have HU2 : Hid (Blk ((wr.alloc (.cells #[.int .i64 kd, .int .i64 sq, .int .i64 n, .bool sf, .string da] 110)).alloc (.cells #[.int .i64 kd, .int .i64 sq, .int .u32 n, .int .u32 ps, .int .u32 mr, .slice none 0 0, .bool sf, .string da] 54)) wr.heap.size 110 [.int .i64 kd, .int .i64 sq, .int .i64 n, .bool sf, .string da]) := (Blk.new wr _ [.int .i64 kd, .int .i64 sq, .int .i64 n, .bool sf, .string da]).alloc _
          have HP2 : Hid (Blk ((wr.alloc (.cells #[.int .i64 kd, .int .i64 sq, .int .i64 n, .bool sf, .string da] 110)).alloc (.cells #[.int .i64 kd, .int .i64 sq, .int .u32 n, .int .u32 ps, .int .u32 mr, .slice none 0 0, .bool sf, .string da] 54)) (wr.heap.size + 1) 54 [.int .i64 kd, .int .i64 sq, .int .u32 n, .int .u32 ps, .int .u32 mr, .slice none 0 0, .bool sf, .string da]) := by
            have := Blk.new (wr.alloc (.cells #[.int .i64 kd, .int .i64 sq, .int .i64 n, .bool sf, .string da] 110)) 54 [.int .i64 kd, .int .i64 sq, .int .u32 n, .int .u32 ps, .int .u32 mr, .slice none 0 0, .bool sf, .string da]
            rwa [show (wr.alloc (.cells #[.int .i64 kd, .int .i64 sq, .int .i64 n, .bool sf, .string da] 110)).heap.size = wr.heap.size + 1 by simp] at this
          have HT2 : Hid (Fresh w1 ((wr.alloc (.cells #[.int .i64 kd, .int .i64 sq, .int .i64 n, .bool sf, .string da] 110)).alloc (.cells #[.int .i64 kd, .int .i64 sq, .int .u32 n, .int .u32 ps, .int .u32 mr, .slice none 0 0, .bool sf, .string da] 54))) := (ht2.out.alloc _).alloc _
          clear hX hA hAo hck
          go_upto_region 13 with (fail)
          clear y0 y1 y2 y3 y4 a0 a1 a2 a3 a4 a5 a6 a7 d1
          generalize ((wr.alloc (.cells #[.int .i64 kd, .int .i64 sq, .int .i64 n, .bool sf, .string da] 110)).alloc (.cells #[.int .i64 kd, .int .i64 sq, .int .u32 n, .int .u32 ps, .int .u32 mr, .slice none 0 0, .bool sf, .string da] 54)) = w3 at *
          generalize wr.heap.size = b at *
          have y0 : w3.cell? ⟨b, 0, none⟩ = some (.int .i64 kd) := HU2.out.cell 0
          have y1 : w3.cell? ⟨b, 1, none⟩ = some (.int .i64 sq) := HU2.out.cell 1
          have y2 : w3.cell? ⟨b, 2, none⟩ = some (.int .i64 n) := HU2.out.cell 2
          have y3 : w3.cell? ⟨b, 3, none⟩ = some (.bool sf) := HU2.out.cell 3
          have y4 : w3.cell? ⟨b, 4, none⟩ = some (.string da) := HU2.out.cell 4
          have a0 : w3.cell? ⟨b + 1, 0, none⟩ = some (.int .i64 kd) := HP2.out.cell 0
          have a1 : w3.cell? ⟨b + 1, 1, none⟩ = some (.int .i64 sq) := HP2.out.cell 1
          have a2 : w3.cell? ⟨b + 1, 2, none⟩ = some (.int .u32 n) := HP2.out.cell 2
          have a3 : w3.cell? ⟨b + 1, 3, none⟩ = some (.int .u32 ps) := HP2.out.cell 3
          have a4 : w3.cell? ⟨b + 1, 4, none⟩ = some (.int .u32 mr) := HP2.out.cell 4
          have a5 : w3.cell? ⟨b + 1, 5, none⟩ = some (.slice none 0 0) := HP2.out.cell 5
          have a6 : w3.cell? ⟨b + 1, 6, none⟩ = some (.bool sf) := HP2.out.cell 6
          have a7 : w3.cell? ⟨b + 1, 7, none⟩ = some (.string da) := HP2.out.cell 7
          go_wp2_with fail
          refine (HCK.out w3).mono ?_
          rintro e w4 ⟨rfl, f4⟩
          have HT4 : Hid (Fresh w1 w4) := HT2.out.trans f4 (fun _ _ e => e)
          clear f4 y0 y1 y2 y3 y4 a0 a1 a2 a3 a4 a5 a6 a7
          go_wp2
          go_roundw
          case rel => exact ⟨j + 1, by omega, by go_num, HT4⟩
          case measure => simp [intOf]; omega
        · have hld : decide ((j : Int) < (r.units.length : Int)) = false := decide_eq_false (by omega)
          have HX3 : Hid (Fresh w wr) := HF.out.trans ht2.out (fun _ _ e => e)
          go_wp2
          go_ret
          exact ⟨rfl, HX3.out⟩
end Go.Proofs.Ytkmegkjkbalooaa
