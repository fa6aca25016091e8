/-
  polliwoglaw11: the fixed fact.
-/
import Derived.Test.YtajdnllkkekmnaaSndC
import Derived.Test.YtajdnllkkekmnaaSndP
namespace Go.Proofs.Ytajdnllkkekmnaa
open Go.RowKit

theorem Grown.low {B w : World} (h : Fresh B w) (x : Nat) (hx : Grown (fun x => B.heap.size ≤ x) w x) : B.heap.size ≤ x := by
  rcases hx with e | e
  · exact e
  · exact Nat.le_trans h.size e
theorem Touch.back {B w w' : World} {F : Nat → Prop} (h : Fresh B w) (ht : Touch F w w') (hF : ∀ x, F x → B.heap.size ≤ x) : Fresh B w' := h.trans ht fun k hk hf => by
  have := hF k hf
  omega

/-- A sender of the law's own: in memory that was not there in B. -/
structure OwnSend (B w : World) (p : Nat) (st : Sd.S) : Prop where
  at_ : SendAt w p (fun x => B.heap.size ≤ x) st
  fresh : Fresh B w
section
variable {B w w' : World} {p : Nat} {st st' : Sd.S}
theorem OwnSend.old (h : OwnSend B w p st) (ht : Fresh w w') : OwnSend B w' p st := ⟨h.at_.old ht, h.fresh.trans ht (fun _ _ h => h)⟩
theorem OwnSend.eq (h : OwnSend B w p st) (e : st = st') : OwnSend B w p st' := e ▸ h
theorem oput (v : ByteArray) (h : OwnSend B w p st) {z : Int} (hz : (if st.q.length < st.most then (0 : Int) else 7) = z) (he : Sd.put st v = st') :
    Calls Try.prog 8 #[.pointer (some ⟨p, 0, none⟩), .string v] w fun e w' => e = .returned (.int .i64 z) ∧ OwnSend B w' p st' := by
  subst hz he
  refine (sput_any p _ st v w h.at_).mono ?_
  rintro e w' ⟨rfl, h1, h2⟩
  exact ⟨rfl, h1.mono (fun x hx => Grown.low h.fresh x hx), Touch.back h.fresh h2 (fun _ h => h)⟩
theorem oopn (x : Int) (h : OwnSend B w p st) (he : Sd.opn st x = st') :
    Calls Try.prog 9 #[.pointer (some ⟨p, 0, none⟩), .int .u32 x] w fun e w' => e = .returned (.tuple #[]) ∧ OwnSend B w' p st' := by
  subst he
  refine (sopn_any p _ st x w h.at_).mono ?_
  rintro e w' ⟨rfl, h1, h2⟩
  exact ⟨rfl, h1, Touch.back h.fresh h2 (fun _ h => h)⟩
theorem onew (start queue polls : Int) (h : Fresh B w) (he : Sd.new start queue polls = st) :
    Calls Try.prog 6 #[.int .u32 start, .int .i64 queue, .int .i64 polls] w fun e w' => ∃ p, e = .returned (.pointer (some ⟨p, 0, none⟩)) ∧ OwnSend B w' p st := by
  subst he
  refine (snew_any start queue polls w).mono ?_
  rintro e w' ⟨p, rfl, h1, h2, h3⟩
  exact ⟨p, rfl, h1.mono (fun x hx => Nat.le_trans h.size hx), h.trans h2 (fun _ _ h => h)⟩
theorem onext_stop (h : OwnSend B w p st) (ha : st.again = []) (hs : st.s = st.ms) :
    Calls Try.prog 11 #[.pointer (some ⟨p, 0, none⟩)] w fun e w' => e = .returned (.tuple #[.int .u32 0, .string ByteArray.empty, .bool false, .bool false]) ∧ OwnSend B w' p st := by
  refine (snext_stop p _ st w h.at_ ha hs).mono ?_
  rintro e w' ⟨rfl, h1, h2⟩
  exact ⟨rfl, h1, Touch.back h.fresh h2 (fun _ h => h)⟩
theorem onext_new {v : ByteArray} {r : List ByteArray} (h : OwnSend B w p st) (ha : st.again = []) (hs : st.s ≠ st.ms) (hq : st.q = v :: r) (hu : 0 ≤ st.units ∧ st.units < 4611686018427387904) {s : Int} (e1 : st.s = s) (e2 : Sd.new1 st v r = st') :
    Calls Try.prog 11 #[.pointer (some ⟨p, 0, none⟩)] w fun e w' => e = .returned (.tuple #[.int .u32 s, .string v, .bool true, .bool true]) ∧ OwnSend B w' p st' := by
  subst e1 e2
  refine (snext_new p _ st v r w h.at_ ha hs hq hu).mono ?_
  rintro e w' ⟨rfl, h1, h2⟩
  exact ⟨rfl, h1, Touch.back h.fresh h2 (fun _ h => h)⟩
theorem olacks (h : OwnSend B w p st) {b : Bool} (hb : (decide (0 < st.q.length) && (st.s == st.ms)) = b) :
    Calls Try.prog 12 #[.pointer (some ⟨p, 0, none⟩)] w fun e w' => e = .returned (.bool b) ∧ OwnSend B w' p st := by
  subst hb
  refine (slacks_any p _ st w h.at_).mono ?_
  rintro e w' ⟨rfl, n, rfl⟩
  exact ⟨rfl, h.old ((Touch.refl _ _).drewN n)⟩
theorem oidle (h : OwnSend B w p st) {b : Bool} (hb : (decide (st.q.length = 0) && decide (st.m.length = 0)) = b) :
    Calls Try.prog 18 #[.pointer (some ⟨p, 0, none⟩)] w fun e w' => e = .returned (.bool b) ∧ OwnSend B w' p st := by
  subst hb
  refine (sidle_any p _ st w h.at_).mono ?_
  rintro e w' ⟨rfl, n, rfl⟩
  exact ⟨rfl, h.old ((Touch.refl _ _).drewN n)⟩
theorem ovars (h : OwnSend B w p st) (hag : st.again.length ≤ 16777216) :
    Calls Try.prog 13 #[.pointer (some ⟨p, 0, none⟩)] w fun e w' => ∃ A' c', e = .returned (Sd.varsV st A' c') ∧ OwnSend B w' p st ∧ Mine numE w w' A' c' st.again := by
  refine (svars_any p _ st w h.at_ hag).mono ?_
  rintro e w' ⟨A', c', rfl, hm⟩
  exact ⟨A', c', rfl, h.old hm.fresh, hm⟩
end

theorem Sd.varsV_eq (st : Sd.S) (A : Option Addr) (c : Nat) : Sd.varsV st A c = .agg #[.int .u32 st.s, .int .u32 st.a, .int .u32 st.ms, .int .u32 st.ps, .int .u32 st.pa, .int .i64 st.units, .int .i64 (st.q.length : Int), .int .i64 (st.m.length : Int), .slice A st.again.length c] := rfl
theorem vars_kept (st : Sd.S) (A : Option Addr) (c : Nat) (w : World) : (Instr.field 36 (Sd.varsV st A c) 7).run Try.prog w = .ok (.int .i64 (st.m.length : Int)) w := by
  rw [Sd.varsV_eq]
  kernel_rfl
theorem vars_queued (st : Sd.S) (A : Option Addr) (c : Nat) (w : World) : (Instr.field 36 (Sd.varsV st A c) 6).run Try.prog w = .ok (.int .i64 (st.q.length : Int)) w := by
  rw [Sd.varsV_eq]
  kernel_rfl

set_option maxHeartbeats 2000000 in
set_option maxRecDepth 4000 in
theorem awake11 (w : World) : Calls Try.prog 5 #[] w fun e w' => e = .returned (.bool true) ∧ Fresh w w' := by
  go_enter Try.func5, Try.ntmps5
  go_wp2_with fail
  obtain ⟨va, hva⟩ : ∃ va : ByteArray, va = { data := #[97] } := ⟨_, rfl⟩
  obtain ⟨vb, hvb⟩ : ∃ vb : ByteArray, vb = { data := #[98] } := ⟨_, rfl⟩
  refine (onew 0 9 9 (Touch.refl _ w) (st := ⟨0, 0, 0, 0, 0, 0, 9, 9, [], [], []⟩) rfl).mono ?_
  rintro e w1 ⟨p, rfl, h1⟩
  have H1 := Lib.hid h1
  clear h1
  simp only
  go_wp2_with fail
  refine (oopn 1 H1.out (st' := ⟨0, 0, 1, 0, 0, 0, 9, 9, [], [], []⟩) rfl).mono ?_
  rintro e w2 ⟨rfl, h2⟩
  have H2 := Lib.hid h2
  clear h2 H1
  simp only
  go_wp2_with fail
  refine (oput _ H2.out (st' := ⟨0, 0, 1, 0, 0, 0, 9, 9, [{ data := #[97] }], [], []⟩) (z := 0) rfl rfl).mono ?_
  rintro e w3 ⟨rfl, h3⟩
  have H3 := Lib.hid h3
  clear h3 H2
  simp only
  go_wp2_with fail
  refine (oput _ H3.out (st' := ⟨0, 0, 1, 0, 0, 0, 9, 9, [{ data := #[97] }, { data := #[98] }], [], []⟩) (z := 0) rfl rfl).mono ?_
  rintro e w4 ⟨rfl, h4⟩
  have H4 := Lib.hid h4
  clear h4 H3
  simp only
  go_wp2_with fail
  refine (onext_new H4.out rfl (by decide) rfl (by decide) (s := 0) rfl (st' := ⟨1, 0, 1, 0, 0, 1, 9, 9, [{ data := #[98] }], [(0, ({ data := #[97] }, 0))], []⟩) rfl).mono ?_
  rintro e w5 ⟨rfl, h5⟩
  have H5 := Lib.hid h5
  clear h5 H4
  simp only
  go_wp2_with fail
  refine (onext_stop H5.out rfl rfl).mono ?_
  rintro e w6 ⟨rfl, h6⟩
  have H6 := Lib.hid h6
  clear h6 H5
  simp only
  go_wp2_with fail
  refine (olacks H6.out (b := true) rfl).mono ?_
  rintro e w7 ⟨rfl, h7⟩
  have H7 := Lib.hid h7
  clear h7 H6
  simp only
  go_wp2_with fail
  refine (oidle H7.out (b := false) rfl).mono ?_
  rintro e w8 ⟨rfl, h8⟩
  have H8 := Lib.hid h8
  clear h8 H7
  simp only
  go_wp2
  go_ret
  exact ⟨rfl, H8.out.fresh⟩
end Go.Proofs.Ytajdnllkkekmnaa
