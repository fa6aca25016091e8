/-
  send.Send: New, Vars.
-/
import Derived.Test.YtajdnllkkekmnaaSndB
import Derived.Lib.SliceRun
import Derived.Test.YtajdnllkkekmnaaRow
namespace Go.Proofs.Ytajdnllkkekmnaa
open Go.RowKit

theorem snew1_any (x : Int) (w : World) :
    Calls Try.prog 20 #[.int .i64 x] w fun e w' => e = .returned (.int .i64 (max 1 (min x 256))) ∧ w' = w := by
  obtain ⟨m, hm⟩ : ∃ m, (if 256 < x then (256 : Int) else x) = m := ⟨_, rfl⟩
  obtain ⟨m', hm'⟩ : ∃ m', (if 1 < m then m else 1) = m' := ⟨_, rfl⟩
  have hx : Hid (max 1 (min x 256) = m') := by
    unfold Hid
    rw [← hm', ← hm]; (split <;> (try split) <;> omega)
  go_enter Try.func20, Try.ntmps20
  go_wp2
  go_ret
  exact ⟨by rw [hx.out]; first | rfl | simp, rfl⟩

set_option maxHeartbeats 1000000 in
theorem snew_any (start queue polls : Int) (w : World) :
    Calls Try.prog 6 #[.int .u32 start, .int .i64 queue, .int .i64 polls] w fun e w' => ∃ p, e = .returned (.pointer (some ⟨p, 0, none⟩)) ∧ SendAt w' p (fun x => w.heap.size ≤ x) (Sd.new start queue polls) ∧ Fresh w w' ∧ w.heap.size ≤ p := by
  obtain ⟨P, hP⟩ : ∃ P : Int, max 1 (min polls 256) = P := ⟨_, rfl⟩
  obtain ⟨Q, hQ⟩ : ∃ Q : Int, max 1 (min queue 256) = Q := ⟨_, rfl⟩
  have HP := Lib.hid hP
  have HQ := Lib.hid hQ
  have HR := Lib.hid (fun w => ringStr_new Q w)
  have hQm : (max 0 (min Q 4096)).toNat = Q.toNat := by omega
  rw [hQm] at HR
  clear hP hQ hQm
  go_enter Try.func6, Try.ntmps6
  go_wp2_with fail
  refine (low_any start w).mono ?_
  rintro e w1 ⟨rfl, rfl⟩
  generalize hs : start % 16777216 = s at *
  simp only
  go_wp2_with fail
  refine (snew1_any polls _).mono ?_
  rintro e w2 ⟨rfl, rfl⟩
  rw [HP.out]
  simp only
  go_wp2_with fail
  refine (snew1_any queue _).mono ?_
  rintro e w3 ⟨rfl, rfl⟩
  rw [HQ.out]
  simp only
  go_wp2_with fail
  refine (HR.out _).mono ?_
  rintro e w4 ⟨rfl, hr, hf⟩
  simp only
  have hmm := @run_makeMap Try.prog
  have F4 : Hid (Fresh w3 w4) := hf
  have R4 := Lib.hid hr
  have hgw := hr.lt
  obtain ⟨g, hg⟩ : ∃ g, g = w3.heap.size := ⟨_, rfl⟩
  have hge : w3.heap.size ≤ g := by omega
  rw [← hg] at R4 hgw ⊢
  clear hg
  have HX : Hid (SendAt ((w4.alloc (.map #[] 0)).alloc (.cells #[.int .u32 s, .int .u32 s, .int .u32 s, .int .u32 s, .int .u32 s, .int .i64 0, .int .i64 P, .pointer (some ⟨g, 0, none⟩), .map (some w4.heap.size), .slice none 0 0] 53)) (w4.heap.size + 1) (fun x => w3.heap.size ≤ x) (Sd.new start queue polls)) := by
    have h1 := hf.size
    have hb := Blk.new (w4.alloc (.map #[] 0)) 53 [.int .u32 s, .int .u32 s, .int .u32 s, .int .u32 s, .int .u32 s, .int .i64 0, .int .i64 P, .pointer (some ⟨g, 0, none⟩), .map (some w4.heap.size), .slice none 0 0]
    have e1 : (w4.alloc (.map #[] 0)).heap.size = w4.heap.size + 1 := by simp
    rw [e1] at hb
    refine SendAt.mk' (g := g) (b := none) (k := w4.heap.size) (A := none) (c := 0) ⟨?_, ?_, ?_, Sl.nil _ _⟩ ⟨by omega, ?_, (fun _ e => by cases e), by omega, (fun _ e => by cases e)⟩
    · unfold sendCells Sd.new
      rw [hs, HP.out]
      exact hb
    · unfold Sd.new
      simp only
      rw [HQ.out]
      exact (R4.out.touch ((Touch.refl (fun _ => False) w4).alloc _) (fun h => h) (fun _ _ h => h)).touch ((Touch.refl (fun _ => False) _).alloc _) (fun h => h) (fun _ _ h => h)
    · exact (MapAt.made numK w4).alloc _
    · exact hge
  have FX : Hid (Fresh w3 ((w4.alloc (.map #[] 0)).alloc (.cells #[.int .u32 s, .int .u32 s, .int .u32 s, .int .u32 s, .int .u32 s, .int .i64 0, .int .i64 P, .pointer (some ⟨g, 0, none⟩), .map (some w4.heap.size), .slice none 0 0] 53))) := (F4.out.alloc _).alloc _
  have hle := F4.out.size
  clear hr hf HR R4 hge hs
  go_wp2
  go_ret
  exact ⟨w4.heap.size + 1, rfl, HX.out, FX.out, by omega⟩

set_option maxHeartbeats 1000000 in
theorem cloneNum_any (A : Option Addr) (c : Nat) (l : List Int) (w : World) (h : Rd numE w A c l) (hl : l.length ≤ 16777216) :
    Calls Try.prog 27 #[.slice A l.length c] w fun e w' => ∃ A' c', e = .returned (.slice A' l.length c') ∧ Mine numE w w' A' c' l := by
  cases A with
  | none =>
    have h0 := h.2.2.1 rfl
    subst h0
    have : l = [] := List.eq_nil_of_length_eq_zero (by have := h.1; omega)
    subst this
    have hz := fun w => Lib.run_eql_slice_nil (P := Try.prog) w 34 27 none 0 0 0 0 Try.underlying34
    go_enter Try.func27, Try.ntmps27
    go_wp2
    go_ret
    exact ⟨none, 0, rfl, Mine.nil _ _⟩
  | some ad =>
    have H := Lib.hid h
    clear h
    have hz := fun w => Lib.run_eql_slice_nil (P := Try.prog) w 34 27 (some ad) l.length c 0 0 Try.underlying34
    have M0 := Lib.hid (Mine.lit numE w #[] [] rfl 0 rfl (by decide))
    go_enter Try.func27, Try.ntmps27
    go_wp2_with (at_builtin; refine app_num rfl rfl (l := []) (l2 := l) rfl rfl (Sl.lit numE w _ rfl _ _ rfl _ rfl (by decide)) (H.out.alloc _) (by simp; omega) ?_; intro A2 c2 L2 w2 hL2 hs2 ht2 hA2)
    have e : L2 = l := hL2.out
    subst e
    have M2 := Lib.hid (M0.out.app hs2 ht2 hA2)
    clear hs2 ht2 hA2 hL2
    go_ret
    exact ⟨A2, c2, rfl, M2.out⟩

theorem Mine.owns {α : Type} {E : El α} {W w w' : World} {A : Option Addr} {c : Nat} {L : List α} {S : Nat → Prop} (h : Mine E W w A c L) (ht : Touch S w w') (hS : ∀ k, S k → W.heap.size ≤ k) (hA : ∀ ad, A = some ad → ¬ S ad.block) : Mine E W w' A c L :=
  ⟨h.sl.touch ht hA, h.fresh.trans ht (fun k hk hs => by have := hS k hs; omega), h.base⟩

/-- What Vars tells. -/
def Sd.varsV (st : Sd.S) (A : Option Addr) (c : Nat) : Value :=
  .agg #[.int .u32 st.s, .int .u32 st.a, .int .u32 st.ms, .int .u32 st.ps, .int .u32 st.pa, .int .i64 st.units, .int .i64 (st.q.length : Int), .int .i64 (st.m.length : Int), .slice A st.again.length c]

set_option maxHeartbeats 4000000 in
set_option maxRecDepth 4000 in
theorem svars_any (p : Nat) (F : Nat → Prop) (st : Sd.S) (w : World) (h : SendAt w p F st) (hag : st.again.length ≤ 16777216) :
    Calls Try.prog 13 #[.pointer (some ⟨p, 0, none⟩)] w fun e w' => ∃ A' c', e = .returned (Sd.varsV st A' c') ∧ Mine numE w w' A' c' st.again := by
  obtain ⟨g, b, k, A, c, h1, hF⟩ := h.open_
  have HI := Lib.hid h1
  obtain ⟨es, cl, hes, hen⟩ := mlen h1.map
  rw [Sd.mapV_len] at hen
  have hkl := h1.map.lt
  have KEEP : Hid (∀ W, Fresh w W → W.cell? ⟨p, 0, none⟩ = some (.int .u32 st.s) ∧ W.cell? ⟨p, 1, none⟩ = some (.int .u32 st.a) ∧ W.cell? ⟨p, 2, none⟩ = some (.int .u32 st.ms) ∧ W.cell? ⟨p, 3, none⟩ = some (.int .u32 st.ps) ∧ W.cell? ⟨p, 4, none⟩ = some (.int .u32 st.pa) ∧
      W.cell? ⟨p, 5, none⟩ = some (.int .i64 st.units) ∧ W.cell? ⟨p, 7, none⟩ = some (.pointer (some ⟨g, 0, none⟩)) ∧ W.cell? ⟨p, 8, none⟩ = some (.map (some k)) ∧ W.cell? ⟨p, 9, none⟩ = some (.slice A st.again.length c) ∧ W.heap[k]? = some (.map es cl)) := fun W hf => by
    have hb := hf.blk h1.blk (fun h => h)
    exact ⟨hb.cell 0, hb.cell 1, hb.cell 2, hb.cell 3, hb.cell 4, hb.cell 5, hb.cell 7, hb.cell 8, hb.cell 9, (hf.block k hkl (fun h => h)).trans hes⟩
  have HLEN : Hid (∀ W, Fresh w W → Calls Try.prog 26 #[.pointer (some ⟨g, 0, none⟩)] W fun e w' => e = .returned (.int .i64 st.q.length) ∧ w' = W) := fun W hf => ringStr_len g b st.most st.q W (h1.ring.touch hf (fun h => h) (fun _ _ h => h))
  have HCL : Hid (∀ W, Fresh w W → Calls Try.prog 27 #[.slice A st.again.length c] W fun e w' => ∃ A' c', e = .returned (.slice A' st.again.length c') ∧ Mine numE W w' A' c' st.again) := fun W hf => cloneNum_any A c st.again W (h1.ag.touch hf (fun _ _ h => h)).rd hag
  have hml : ∀ W : World, W.heap[k]? = some (.map es cl) → (Builtin.len_ #[51] 3 #[.map (some k)]).run Try.prog W = .ok (.int .i64 (st.m.length : Int)) W := fun W hw => by
    rw [← hen]
    exact run_len_map W _ _ k es cl (by simp [Program.mapKeyOf, Program.mapElemOf, Try.underlying51]) hw
  clear hes hen hkl
  clear h h1 hF
  unfold Sd.varsV
  go_enter Try.func13, Try.ntmps13
  go_wp2_with fail
  have F1 : Hid (Fresh w (w.alloc (.cells #[.int .u32 0, .int .u32 0, .int .u32 0, .int .u32 0, .int .u32 0, .int .i64 0, .int .i64 0, .int .i64 0, .slice none 0 0] 36))) := (Touch.refl _ _).alloc _
  have B1 : Hid (Blk (w.alloc (.cells #[.int .u32 0, .int .u32 0, .int .u32 0, .int .u32 0, .int .u32 0, .int .i64 0, .int .i64 0, .int .i64 0, .slice none 0 0] 36)) w.heap.size 36 [.int .u32 0, .int .u32 0, .int .u32 0, .int .u32 0, .int .u32 0, .int .i64 0, .int .i64 0, .int .i64 0, .slice none 0 0]) := Blk.new w _ _
  generalize w.alloc (.cells #[.int .u32 0, .int .u32 0, .int .u32 0, .int .u32 0, .int .u32 0, .int .i64 0, .int .i64 0, .int .i64 0, .slice none 0 0] 36) = w1 at *
  have hpr : p < w.heap.size := HI.out.blk.lt
  obtain ⟨r, hr⟩ : ∃ r, r = w.heap.size := ⟨_, rfl⟩
  rw [← hr] at B1 hpr ⊢
  have HRr := Lib.hid hr
  clear hr
  have K1 : Hid (∀ W, Fresh w1 W → W.cell? ⟨p, 0, none⟩ = some (.int .u32 st.s) ∧ W.cell? ⟨p, 1, none⟩ = some (.int .u32 st.a) ∧ W.cell? ⟨p, 2, none⟩ = some (.int .u32 st.ms) ∧ W.cell? ⟨p, 3, none⟩ = some (.int .u32 st.ps) ∧ W.cell? ⟨p, 4, none⟩ = some (.int .u32 st.pa) ∧
      W.cell? ⟨p, 5, none⟩ = some (.int .i64 st.units) ∧ W.cell? ⟨p, 7, none⟩ = some (.pointer (some ⟨g, 0, none⟩)) ∧ W.cell? ⟨p, 8, none⟩ = some (.map (some k)) ∧ W.cell? ⟨p, 9, none⟩ = some (.slice A st.again.length c) ∧ W.heap[k]? = some (.map es cl)) := fun W hf => by
    exact KEEP.out W (F1.out.trans hf (fun _ _ h => h))
  have K2 : Hid (∀ W v0 v1 v2 v3 v4 v5 v6 v7 v8, Fresh w1 W → (((((((((W.setCell ⟨r, 0, none⟩ v0).setCell ⟨r, 1, none⟩ v1).setCell ⟨r, 2, none⟩ v2).setCell ⟨r, 3, none⟩ v3).setCell ⟨r, 4, none⟩ v4).setCell ⟨r, 5, none⟩ v5).setCell ⟨r, 6, none⟩ v6).setCell ⟨r, 7, none⟩ v7).setCell ⟨r, 8, none⟩ v8).cell? ⟨p, 0, none⟩ = some (.int .u32 st.s) ∧ (((((((((W.setCell ⟨r, 0, none⟩ v0).setCell ⟨r, 1, none⟩ v1).setCell ⟨r, 2, none⟩ v2).setCell ⟨r, 3, none⟩ v3).setCell ⟨r, 4, none⟩ v4).setCell ⟨r, 5, none⟩ v5).setCell ⟨r, 6, none⟩ v6).setCell ⟨r, 7, none⟩ v7).setCell ⟨r, 8, none⟩ v8).cell? ⟨p, 1, none⟩ = some (.int .u32 st.a) ∧ (((((((((W.setCell ⟨r, 0, none⟩ v0).setCell ⟨r, 1, none⟩ v1).setCell ⟨r, 2, none⟩ v2).setCell ⟨r, 3, none⟩ v3).setCell ⟨r, 4, none⟩ v4).setCell ⟨r, 5, none⟩ v5).setCell ⟨r, 6, none⟩ v6).setCell ⟨r, 7, none⟩ v7).setCell ⟨r, 8, none⟩ v8).cell? ⟨p, 2, none⟩ = some (.int .u32 st.ms) ∧ (((((((((W.setCell ⟨r, 0, none⟩ v0).setCell ⟨r, 1, none⟩ v1).setCell ⟨r, 2, none⟩ v2).setCell ⟨r, 3, none⟩ v3).setCell ⟨r, 4, none⟩ v4).setCell ⟨r, 5, none⟩ v5).setCell ⟨r, 6, none⟩ v6).setCell ⟨r, 7, none⟩ v7).setCell ⟨r, 8, none⟩ v8).cell? ⟨p, 3, none⟩ = some (.int .u32 st.ps) ∧ (((((((((W.setCell ⟨r, 0, none⟩ v0).setCell ⟨r, 1, none⟩ v1).setCell ⟨r, 2, none⟩ v2).setCell ⟨r, 3, none⟩ v3).setCell ⟨r, 4, none⟩ v4).setCell ⟨r, 5, none⟩ v5).setCell ⟨r, 6, none⟩ v6).setCell ⟨r, 7, none⟩ v7).setCell ⟨r, 8, none⟩ v8).cell? ⟨p, 4, none⟩ = some (.int .u32 st.pa) ∧ (((((((((W.setCell ⟨r, 0, none⟩ v0).setCell ⟨r, 1, none⟩ v1).setCell ⟨r, 2, none⟩ v2).setCell ⟨r, 3, none⟩ v3).setCell ⟨r, 4, none⟩ v4).setCell ⟨r, 5, none⟩ v5).setCell ⟨r, 6, none⟩ v6).setCell ⟨r, 7, none⟩ v7).setCell ⟨r, 8, none⟩ v8).cell? ⟨p, 5, none⟩ = some (.int .i64 st.units) ∧ (((((((((W.setCell ⟨r, 0, none⟩ v0).setCell ⟨r, 1, none⟩ v1).setCell ⟨r, 2, none⟩ v2).setCell ⟨r, 3, none⟩ v3).setCell ⟨r, 4, none⟩ v4).setCell ⟨r, 5, none⟩ v5).setCell ⟨r, 6, none⟩ v6).setCell ⟨r, 7, none⟩ v7).setCell ⟨r, 8, none⟩ v8).cell? ⟨p, 7, none⟩ = some (.pointer (some ⟨g, 0, none⟩)) ∧ (((((((((W.setCell ⟨r, 0, none⟩ v0).setCell ⟨r, 1, none⟩ v1).setCell ⟨r, 2, none⟩ v2).setCell ⟨r, 3, none⟩ v3).setCell ⟨r, 4, none⟩ v4).setCell ⟨r, 5, none⟩ v5).setCell ⟨r, 6, none⟩ v6).setCell ⟨r, 7, none⟩ v7).setCell ⟨r, 8, none⟩ v8).cell? ⟨p, 8, none⟩ = some (.map (some k)) ∧ (((((((((W.setCell ⟨r, 0, none⟩ v0).setCell ⟨r, 1, none⟩ v1).setCell ⟨r, 2, none⟩ v2).setCell ⟨r, 3, none⟩ v3).setCell ⟨r, 4, none⟩ v4).setCell ⟨r, 5, none⟩ v5).setCell ⟨r, 6, none⟩ v6).setCell ⟨r, 7, none⟩ v7).setCell ⟨r, 8, none⟩ v8).cell? ⟨p, 9, none⟩ = some (.slice A st.again.length c) ∧ (((((((((W.setCell ⟨r, 0, none⟩ v0).setCell ⟨r, 1, none⟩ v1).setCell ⟨r, 2, none⟩ v2).setCell ⟨r, 3, none⟩ v3).setCell ⟨r, 4, none⟩ v4).setCell ⟨r, 5, none⟩ v5).setCell ⟨r, 6, none⟩ v6).setCell ⟨r, 7, none⟩ v7).setCell ⟨r, 8, none⟩ v8).heap[k]? = some (.map es cl)) := fun W v0 v1 v2 v3 v4 v5 v6 v7 v8 hf => by
    have hs : Fresh w (((((((((W.setCell ⟨r, 0, none⟩ v0).setCell ⟨r, 1, none⟩ v1).setCell ⟨r, 2, none⟩ v2).setCell ⟨r, 3, none⟩ v3).setCell ⟨r, 4, none⟩ v4).setCell ⟨r, 5, none⟩ v5).setCell ⟨r, 6, none⟩ v6).setCell ⟨r, 7, none⟩ v7).setCell ⟨r, 8, none⟩ v8) := Touch.trans (F1.out.trans hf (fun _ _ h => h)) (show Touch (fun x => x = r) W _ from Touch.st (S := fun x => x = r) (Touch.st (S := fun x => x = r) (Touch.st (S := fun x => x = r) (Touch.st (S := fun x => x = r) (Touch.st (S := fun x => x = r) (Touch.st (S := fun x => x = r) (Touch.st (S := fun x => x = r) (Touch.st (S := fun x => x = r) (Touch.st (S := fun x => x = r) (Touch.refl (fun x => x = r) W) (g := r) (i := 0) (u := v0) rfl) (g := r) (i := 1) (u := v1) rfl) (g := r) (i := 2) (u := v2) rfl) (g := r) (i := 3) (u := v3) rfl) (g := r) (i := 4) (u := v4) rfl) (g := r) (i := 5) (u := v5) rfl) (g := r) (i := 6) (u := v6) rfl) (g := r) (i := 7) (u := v7) rfl) (g := r) (i := 8) (u := v8) rfl) (fun x hx e => by have := HRr.out; omega)
    exact KEEP.out _ hs
  have B2 : Hid (∀ W, Fresh w1 W → W.cell? ⟨r, 0, none⟩ = some (.int .u32 0) ∧ W.frozen? ⟨r, 0, none⟩ = false ∧ W.cell? ⟨r, 1, none⟩ = some (.int .u32 0) ∧ W.frozen? ⟨r, 1, none⟩ = false ∧ W.cell? ⟨r, 2, none⟩ = some (.int .u32 0) ∧ W.frozen? ⟨r, 2, none⟩ = false ∧ W.cell? ⟨r, 3, none⟩ = some (.int .u32 0) ∧ W.frozen? ⟨r, 3, none⟩ = false ∧ W.cell? ⟨r, 4, none⟩ = some (.int .u32 0) ∧ W.frozen? ⟨r, 4, none⟩ = false ∧ W.cell? ⟨r, 5, none⟩ = some (.int .i64 0) ∧ W.frozen? ⟨r, 5, none⟩ = false ∧ W.cell? ⟨r, 6, none⟩ = some (.int .i64 0) ∧ W.frozen? ⟨r, 6, none⟩ = false ∧ W.cell? ⟨r, 7, none⟩ = some (.int .i64 0) ∧ W.frozen? ⟨r, 7, none⟩ = false ∧ W.cell? ⟨r, 8, none⟩ = some (.slice none 0 0) ∧ W.frozen? ⟨r, 8, none⟩ = false) := fun W hf => by
    have hb := hf.blk B1.out (fun h => h)
    exact ⟨hb.cell 0, hb.frozen 0, hb.cell 1, hb.frozen 1, hb.cell 2, hb.frozen 2, hb.cell 3, hb.frozen 3, hb.cell 4, hb.frozen 4, hb.cell 5, hb.frozen 5, hb.cell 6, hb.frozen 6, hb.cell 7, hb.frozen 7, hb.cell 8, hb.frozen 8⟩
  have CL1 : Hid (∀ W, Fresh w1 W → Calls Try.prog 27 #[.slice A st.again.length c] W fun e w' => ∃ A' c', e = .returned (.slice A' st.again.length c') ∧ Mine numE W w' A' c' st.again) := fun W hf => HCL.out W (F1.out.trans hf (fun _ _ h => h))
  have LN1 : Hid (∀ W, Fresh w1 W → Calls Try.prog 26 #[.pointer (some ⟨g, 0, none⟩)] W fun e w' => e = .returned (.int .i64 st.q.length) ∧ w' = W) := fun W hf => HLEN.out W (F1.out.trans hf (fun _ _ h => h))
  have hf1 : Fresh w1 w1.drew := (Touch.refl _ _).drew
  clear KEEP HLEN HCL
  go_region_held3 (fun wx => wx.cell? ⟨p, 0, none⟩ = some (.int .u32 st.s) ∧ wx.cell? ⟨p, 1, none⟩ = some (.int .u32 st.a) ∧ wx.cell? ⟨p, 2, none⟩ = some (.int .u32 st.ms) ∧ wx.cell? ⟨p, 3, none⟩ = some (.int .u32 st.ps) ∧ wx.cell? ⟨p, 4, none⟩ = some (.int .u32 st.pa) ∧
      wx.cell? ⟨p, 5, none⟩ = some (.int .i64 st.units) ∧ wx.cell? ⟨p, 7, none⟩ = some (.pointer (some ⟨g, 0, none⟩)) ∧ wx.cell? ⟨p, 8, none⟩ = some (.map (some k)) ∧ wx.cell? ⟨p, 9, none⟩ = some (.slice A st.again.length c) ∧ wx.heap[k]? = some (.map es cl))
    (first
      | with_reducible exact K1.out _ (by with_reducible assumption)
      | with_reducible exact K2.out _ _ _ _ _ _ _ _ _ _ (by with_reducible assumption)
      | with_reducible assumption)
    (first
      | (go_simp; go_at_call 26; refine (LN1.out _ (by with_reducible assumption)).mono ?_; rintro e' w' ⟨rfl, rfl⟩)
      | (go_simp; go_at_call 27; refine (CL1.out _ (by with_reducible assumption)).mono ?_; rintro e' w' ⟨A', c', rfl, hM⟩; have hf2 : Fresh w1 w' := hf1.trans hM.fresh (fun _ _ h => h); obtain ⟨q0, z0, q1, z1, q2, z2, q3, z3, q4, z4, q5, z5, q6, z6, q7, z7, q8, z8⟩ := B2.out _ hf2))
  all_goals
    have B3 := hf2.blk B1.out (fun h => h)
    have M3 : Mine numE w w' A' c' st.again := ⟨hM.sl, F1.out.trans hf2 (fun _ _ h => h), fun ad e => Nat.le_trans F1.out.size (Nat.le_trans hf1.size (hM.base ad e))⟩
    have hAr : ∀ ad, A' = some ad → ¬ ad.block = r := fun ad e e2 => by
      have h1 := hM.base ad e
      have h2 := hf1.size
      have h3 := B1.out.lt
      omega
    have BF : Hid (Blk (((((((((w'.setCell ⟨r, 0, none⟩ (.int .u32 st.s)).setCell ⟨r, 1, none⟩ (.int .u32 st.a)).setCell ⟨r, 2, none⟩ (.int .u32 st.ms)).setCell ⟨r, 3, none⟩ (.int .u32 st.ps)).setCell ⟨r, 4, none⟩ (.int .u32 st.pa)).setCell ⟨r, 5, none⟩ (.int .i64 st.units)).setCell ⟨r, 6, none⟩ (.int .i64 (st.q.length : Int))).setCell ⟨r, 7, none⟩ (.int .i64 (st.m.length : Int))).setCell ⟨r, 8, none⟩ (.slice A' st.again.length c')) r 36 [.int .u32 st.s, .int .u32 st.a, .int .u32 st.ms, .int .u32 st.ps, .int .u32 st.pa, .int .i64 st.units, .int .i64 (st.q.length : Int), .int .i64 (st.m.length : Int), .slice A' st.again.length c']) := (((((((((B3.set 0 (.int .u32 st.s)).set 1 (.int .u32 st.a)).set 2 (.int .u32 st.ms)).set 3 (.int .u32 st.ps)).set 4 (.int .u32 st.pa)).set 5 (.int .i64 st.units)).set 6 (.int .i64 (st.q.length : Int))).set 7 (.int .i64 (st.m.length : Int))).set 8 (.slice A' st.again.length c'))
    have MF : Hid (Mine numE w (((((((((w'.setCell ⟨r, 0, none⟩ (.int .u32 st.s)).setCell ⟨r, 1, none⟩ (.int .u32 st.a)).setCell ⟨r, 2, none⟩ (.int .u32 st.ms)).setCell ⟨r, 3, none⟩ (.int .u32 st.ps)).setCell ⟨r, 4, none⟩ (.int .u32 st.pa)).setCell ⟨r, 5, none⟩ (.int .i64 st.units)).setCell ⟨r, 6, none⟩ (.int .i64 (st.q.length : Int))).setCell ⟨r, 7, none⟩ (.int .i64 (st.m.length : Int))).setCell ⟨r, 8, none⟩ (.slice A' st.again.length c')) A' c' st.again) := M3.owns (S := fun x => x = r) (Touch.st (S := fun x => x = r) (Touch.st (S := fun x => x = r) (Touch.st (S := fun x => x = r) (Touch.st (S := fun x => x = r) (Touch.st (S := fun x => x = r) (Touch.st (S := fun x => x = r) (Touch.st (S := fun x => x = r) (Touch.st (S := fun x => x = r) (Touch.st (S := fun x => x = r) (Touch.refl (fun x => x = r) w') (g := r) (i := 0) (u := .int .u32 st.s) rfl) (g := r) (i := 1) (u := .int .u32 st.a) rfl) (g := r) (i := 2) (u := .int .u32 st.ms) rfl) (g := r) (i := 3) (u := .int .u32 st.ps) rfl) (g := r) (i := 4) (u := .int .u32 st.pa) rfl) (g := r) (i := 5) (u := .int .i64 st.units) rfl) (g := r) (i := 6) (u := .int .i64 (st.q.length : Int)) rfl) (g := r) (i := 7) (u := .int .i64 (st.m.length : Int)) rfl) (g := r) (i := 8) (u := .slice A' st.again.length c') rfl) (fun x e => by have := HRr.out; omega) hAr
    clear B3 M3 hAr hM hf2 hf1 q0 q1 q2 q3 q4 q5 q6 q7 q8 z0 z1 z2 z3 z4 z5 z6 z7 z8 K1 K2 B1 B2 CL1 LN1 HI F1 hml
    generalize (((((((((w'.setCell ⟨r, 0, none⟩ (.int .u32 st.s)).setCell ⟨r, 1, none⟩ (.int .u32 st.a)).setCell ⟨r, 2, none⟩ (.int .u32 st.ms)).setCell ⟨r, 3, none⟩ (.int .u32 st.ps)).setCell ⟨r, 4, none⟩ (.int .u32 st.pa)).setCell ⟨r, 5, none⟩ (.int .i64 st.units)).setCell ⟨r, 6, none⟩ (.int .i64 (st.q.length : Int))).setCell ⟨r, 7, none⟩ (.int .i64 (st.m.length : Int))).setCell ⟨r, 8, none⟩ (.slice A' st.again.length c')) = wf at *
    have e0 := BF.out.cell 0
    have e1 := BF.out.cell 1
    have e2 := BF.out.cell 2
    have e3 := BF.out.cell 3
    have e4 := BF.out.cell 4
    have e5 := BF.out.cell 5
    have e6 := BF.out.cell 6
    have e7 := BF.out.cell 7
    have e8 := BF.out.cell 8
    simp only [List.getElem?_cons_zero, List.getElem?_cons_succ] at e0 e1 e2 e3 e4 e5 e6 e7 e8
    go_wp2
    exact bodyPost_ret (v := .agg #[.int .u32 st.s, .int .u32 st.a, .int .u32 st.ms, .int .u32 st.ps, .int .u32 st.pa, .int .i64 st.units, .int .i64 (st.q.length : Int), .int .i64 (st.m.length : Int), .slice A' st.again.length c']) (by simp [results, Try.results13, go_sem, e0, e1, e2, e3, e4, e5, e6, e7, e8]) rfl ⟨A', c', rfl, MF.out⟩
end Go.Proofs.Ytajdnllkkekmnaa
