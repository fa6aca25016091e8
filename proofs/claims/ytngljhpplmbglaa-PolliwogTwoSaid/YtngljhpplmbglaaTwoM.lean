/-
  A sender and a receiver of the law's own, and two lists beside them: what each call leaves of all of them. No conditions.
-/
import Derived.Test.YtngljhpplmbglaaNxP
import Derived.Test.YtngljhpplmbglaaRcvO
import Derived.Test.YtngljhpplmbglaaSndD
import Derived.Test.YtngljhpplmbglaaT2
namespace Go.Proofs.Ytngljhpplmbglaa
open Go.RowKit

/-- All that the law holds, behind B: the sender within Fs, the receiver within Fr, what came, what was asked. -/
structure TwoAt (B w : World) (p q : Nat) (x : Sf.S) (z : Rf.S) (A : Option Addr) (c : Nat) (got : List ByteArray) (A2 : Option Addr) (c2 : Nat) (asked : List ByteArray) (Fs Fr : Nat → Prop) : Prop where
  s : SendAt w p Fs (Sf.prog x)
  slo : ∀ k, Fs k → B.heap.size ≤ k ∧ k < w.heap.size
  r : RecvAt w q Fr (Rf.prog z)
  rlo : ∀ k, Fr k → B.heap.size ≤ k
  ap : ∀ k, Fs k → ¬ Fr k
  fr : Fresh B w
  g : Sl strE w A c got
  gf : ∀ ad, A = some ad → ¬ Fs ad.block ∧ ¬ Fr ad.block ∧ B.heap.size ≤ ad.block
  a : Sl strE w A2 c2 asked
  af : ∀ ad, A2 = some ad → ¬ Fs ad.block ∧ ¬ Fr ad.block ∧ B.heap.size ≤ ad.block
  ne : ∀ ad bd, A = some ad → A2 = some bd → ad.block ≠ bd.block
def TwoSt (B w : World) (p q : Nat) (x : Sf.S) (z : Rf.S) (A : Option Addr) (c : Nat) (got : List ByteArray) (A2 : Option Addr) (c2 : Nat) (asked : List ByteArray) : Prop := ∃ Fs Fr, TwoAt B w p q x z A c got A2 c2 asked Fs Fr

section
variable {B w w' : World} {p q : Nat} {x y : Sf.S} {z u : Rf.S} {A A2 A' : Option Addr} {c c2 c' : Nat} {got asked L : List ByteArray} {Fs Fr F' : Nat → Prop} {lo hi rlo rhi : Int}
theorem TwoAt.sent (h : TwoAt B w p q x z A c got A2 c2 asked Fs Fr) (hs : SendAt w' p (Grown Fs w) (Sf.prog y)) (ht : Touch Fs w w') : TwoSt B w' p q y z A c got A2 c2 asked := by
  have hsz := ht.size
  have hB := h.fr.size
  refine ⟨fun k => Grown Fs w k ∧ k < w'.heap.size, Fr, hs.cut, fun k hk => ⟨?_, hk.2⟩, h.r.touch ht (fun k hr hs => h.ap k hs hr), h.rlo, fun k hk hr => ?_, h.fr.trans ht (fun k hk hs => by have := (h.slo k hs).1; omega), h.g.touch ht (fun ad e => (h.gf ad e).1), fun ad e => ⟨fun hk => ?_, (h.gf ad e).2⟩, h.a.touch ht (fun ad e => (h.af ad e).1), fun ad e => ⟨fun hk => ?_, (h.af ad e).2⟩, h.ne⟩
  · rcases hk.1 with e | e
    · exact (h.slo k e).1
    · omega
  · rcases hk.1 with e | e
    · exact h.ap k e hr
    · have := h.r.lim k hr; omega
  · rcases hk.1 with e2 | e2
    · exact (h.gf ad e).1 e2
    · have := h.g.lt ad e; omega
  · rcases hk.1 with e2 | e2
    · exact (h.af ad e).1 e2
    · have := h.a.lt ad e; omega
theorem TwoAt.recvd (h : TwoAt B w p q x z A c got A2 c2 asked Fs Fr) (hr : RecvAt w' q F' (Rf.prog u)) (ht : Touch Fr w w') (hF : ∀ k, F' k → Fr k ∨ w.heap.size ≤ k) : TwoAt B w' p q x u A c got A2 c2 asked Fs F' := by
  have hsz := ht.size
  have hB := h.fr.size
  refine ⟨h.s.touch ht (fun k hk _ hf => h.ap k hk hf), fun k hk => ⟨(h.slo k hk).1, by have := (h.slo k hk).2; omega⟩, hr, fun k hk => ?_, fun k hk hk2 => ?_, h.fr.trans ht (fun k hk hs => by have := h.rlo k hs; omega), h.g.touch ht (fun ad e => (h.gf ad e).2.1), fun ad e => ⟨(h.gf ad e).1, fun hk => ?_, (h.gf ad e).2.2⟩, h.a.touch ht (fun ad e => (h.af ad e).2.1), fun ad e => ⟨(h.af ad e).1, fun hk => ?_, (h.af ad e).2.2⟩, h.ne⟩
  · rcases hF k hk with e | e
    · exact h.rlo k e
    · omega
  · rcases hF k hk2 with e | e
    · exact h.ap k hk e
    · have := (h.slo k hk).2; omega
  · rcases hF _ hk with e2 | e2
    · exact (h.gf ad e).2.1 e2
    · have := h.g.lt ad e; omega
  · rcases hF _ hk with e2 | e2
    · exact (h.af ad e).2.1 e2
    · have := h.a.lt ad e; omega
theorem TwoAt.old (h : TwoAt B w p q x z A c got A2 c2 asked Fs Fr) (ht : Fresh w w') : TwoAt B w' p q x z A c got A2 c2 asked Fs Fr :=
  ⟨h.s.old ht, fun k hk => ⟨(h.slo k hk).1, by have := (h.slo k hk).2; have := ht.size; omega⟩, h.r.old ht, h.rlo, h.ap, h.fr.trans ht (fun _ _ e => e), h.g.touch ht (fun _ _ e => e), h.gf, h.a.touch ht (fun _ _ e => e), h.af, h.ne⟩
theorem TwoSt.old (h : TwoSt B w p q x z A c got A2 c2 asked) (ht : Fresh w w') : TwoSt B w' p q x z A c got A2 c2 asked := by
  obtain ⟨Fs, Fr, h⟩ := h
  exact ⟨Fs, Fr, h.old ht⟩
theorem TwoSt.fresh (h : TwoSt B w p q x z A c got A2 c2 asked) : Fresh B w := by
  obtain ⟨Fs, Fr, h⟩ := h
  exact h.fr
theorem TwoSt.sg (h : TwoSt B w p q x z A c got A2 c2 asked) : Sl strE w A c got := by
  obtain ⟨Fs, Fr, h⟩ := h
  exact h.g
theorem TwoSt.sa (h : TwoSt B w p q x z A c got A2 c2 asked) : Sl strE w A2 c2 asked := by
  obtain ⟨Fs, Fr, h⟩ := h
  exact h.a
theorem TwoSt.swap (h : TwoSt B w p q x z A c got A2 c2 asked) : TwoSt B w p q x z A2 c2 asked A c got := by
  obtain ⟨Fs, Fr, h⟩ := h
  exact ⟨Fs, Fr, h.s, h.slo, h.r, h.rlo, h.ap, h.fr, h.a, h.af, h.g, h.gf, fun ad bd e1 e2 e => h.ne bd ad e2 e1 e.symm⟩
/-- Something was appended to what came. -/
theorem TwoSt.app (h : TwoSt B w p q x z A c got A2 c2 asked) (hl : Sl strE w' A' c' L) (ht : Touch (fun k => A.map Addr.block = some k) w w') (hb : A'.map Addr.block = A.map Addr.block ∨ A'.map Addr.block = some w.heap.size) : TwoSt B w' p q x z A' c' L A2 c2 asked := by
  obtain ⟨Fs, Fr, h⟩ := h
  have hsz := ht.size
  have hB := h.fr.size
  have out : ∀ k, (A.map Addr.block = some k) → ¬ Fs k ∧ ¬ Fr k ∧ B.heap.size ≤ k := fun k e => by
    cases A with
    | none => cases e
    | some ad =>
      injection e with e
      subst e
      exact h.gf ad rfl
  have new : ∀ ad, A' = some ad → ¬ Fs ad.block ∧ ¬ Fr ad.block ∧ B.heap.size ≤ ad.block := fun ad e => by
    subst e
    rcases hb with e | e
    · exact out _ e.symm
    · injection e with e
      rw [e]
      exact ⟨fun hk => by have := (h.slo _ hk).2; omega, fun hk => by have := h.r.lim _ hk; omega, hB⟩
  refine ⟨Fs, Fr, h.s.touch ht (fun k hk _ e => (out k e).1 hk), fun k hk => ⟨(h.slo k hk).1, by have := (h.slo k hk).2; omega⟩, h.r.touch ht (fun k hk e => (out k e).2.1 hk), h.rlo, h.ap, h.fr.trans ht (fun k hk e => by have := (out k e).2.2; omega), hl, new, h.a.touch ht (fun bd e2 e => ?_), h.af, fun ad bd e1 e2 e => ?_⟩
  · cases A with
    | none => cases e
    | some ad =>
      injection e with e
      exact h.ne ad bd rfl e2 e
  · subst e1
    rcases hb with e3 | e3
    · cases A with
      | none => cases e3
      | some a0 =>
        injection e3 with e3
        exact h.ne a0 bd rfl e2 (e3 ▸ e)
    · injection e3 with e3
      have := h.a.lt bd e2
      omega

theorem Rf.Ok.ilenP {x : Rf.S} {lo hi : Int} (h : Rf.Ok x lo hi) : x.inbox.length ≤ 64 := by
  have h1 := h.sum
  have h2 := h.win
  have h3 := h.rh
  have h4 := h.hm
  omega
/-- Two ends that were just made. -/
theorem TwoSt.new {w1 : World} {F : Nat → Prop} (hs : SendAt w1 p (fun k => B.heap.size ≤ k) (Sf.prog x)) (f1 : Fresh B w1) (hr : RecvAt w q F (Rf.prog z)) (f2 : Fresh w1 w) (hF : ∀ k, F k → w1.heap.size ≤ k) : TwoSt B w p q x z none 0 [] none 0 [] := by
  have h1 := f1.size
  have h2 := f2.size
  refine ⟨fun k => B.heap.size ≤ k ∧ k < w1.heap.size, F, hs.cut.old f2, fun k hk => ⟨hk.1, by have := hk.2; omega⟩, hr, fun k hk => by have := hF k hk; omega, fun k hk hk2 => by have := hF k hk2; have := hk.2; omega, f1.trans f2 (fun _ _ e => e), Sl.nil _ _, fun _ e => (by cases e), Sl.nil _ _, fun _ e => (by cases e), fun _ _ e => (by cases e)⟩
theorem TwoSt.gaps (h : TwoSt B w p q x z A c got A2 c2 asked) : ∃ G d, w.cell? ⟨q, 6, none⟩ = some (.slice G z.gaps.length d) := by
  obtain ⟨Fs, Fr, h⟩ := h
  obtain ⟨k, A0, c0, G, d, h1, hF, hL⟩ := h.r
  have c6 := h1.blk.cell 6
  have e : (Rf.prog z).gaps.length = z.gaps.length := by show (Rf.pg z.gaps).length = _; simp [Rf.pg]
  refine ⟨G, d, c6.trans ?_⟩
  rw [← e]
  rfl
theorem Sd.new_modP (start queue polls : Int) : Sd.new (start % 16777216) queue polls = Sf.prog (Sf.new start queue polls) := by
  rw [← Sf.prog_new]
  unfold Sd.new
  congr 1 <;> omega
theorem Rv.new_modP (start window : Int) : Rv.new (start % 16777216) window = Rf.prog (Rf.new start window) := by
  rw [← Rf.prog_new]
  unfold Rv.new
  congr 1 <;> omega

/-! The sender's calls. -/
theorem tput (h : TwoSt B w p q x z A c got A2 c2 asked) (v : ByteArray) (hq : x.wait.length < x.most) :
    Calls Try.prog 9 #[.pointer (some ⟨p, 0, none⟩), .string v] w fun e w' => e = .returned (.int .i64 0) ∧ TwoSt B w' p q { x with wait := x.wait ++ [v] } z A c got A2 c2 asked := by
  obtain ⟨Fs, Fr, h⟩ := h
  refine (sput_any p Fs _ v w h.s).mono ?_
  rintro e w' ⟨rfl, h1, h2⟩
  rw [Sf.prog_put] at h1
  have e1 : Sf.put x v = { x with wait := x.wait ++ [v] } := if_pos hq
  rw [e1] at h1
  exact ⟨by rw [if_pos (show (Sf.prog x).q.length < (Sf.prog x).most from hq)], h.sent h1 h2⟩
theorem topn (h : TwoSt B w p q x z A c got A2 c2 asked) (hok : Sf.Ok x lo hi) (m : Int) (hm : m % 16777216 = m) :
    Calls Try.prog 7 #[.pointer (some ⟨p, 0, none⟩), .int .u32 m] w fun e w' => e = .returned (.tuple #[]) ∧ TwoSt B w' p q (Sf.opn x m) z A c got A2 c2 asked := by
  obtain ⟨Fs, Fr, h⟩ := h
  refine (sopn_any p Fs _ m w h.s).mono ?_
  rintro e w' ⟨rfl, h1, h2⟩
  have e1 := hok.prog_opn m
  rw [hm] at e1
  rw [e1] at h1
  exact ⟨rfl, h.sent (h1.mono (fun _ h => .inl h)) h2⟩
theorem tnext (h : TwoSt B w p q x z A c got A2 c2 asked) (hok : Sf.Ok x lo hi) {n : Int} {m : ByteArray} {nw ok : Bool} (hn : Sf.next x = (y, n, m, nw, ok)) :
    Calls Try.prog 10 #[.pointer (some ⟨p, 0, none⟩)] w fun e w' => e = .returned (.tuple #[.int .u32 (n % 16777216), .string m, .bool nw, .bool ok]) ∧ TwoSt B w' p q y z A c got A2 c2 asked := by
  obtain ⟨Fs, Fr, h⟩ := h
  refine (snextP_any p Fs x lo hi hok w h.s).mono ?_
  rintro e w' ⟨rfl, h1, h2⟩
  rw [hn] at h1 ⊢
  exact ⟨rfl, h.sent h1 h2⟩
theorem tidle (h : TwoSt B w p q x z A c got A2 c2 asked) (hok : Sf.Ok x lo hi) {b : Bool} (hb : (decide (x.wait.length = 0) && decide (x.kept.length = 0)) = b) :
    Calls Try.prog 14 #[.pointer (some ⟨p, 0, none⟩)] w fun e w' => e = .returned (.bool b) ∧ TwoSt B w' p q x z A c got A2 c2 asked := by
  obtain ⟨Fs, Fr, h⟩ := h
  refine (sidle_any p Fs _ w h.s).mono ?_
  rintro e w' ⟨rfl, n, rfl⟩
  rw [hok.m_len]
  exact ⟨by rw [← hb]; rfl, ⟨Fs, Fr, h.old ((Touch.refl _ _).drewN n)⟩⟩
theorem tspoll (h : TwoSt B w p q x z A c got A2 c2 asked) :
    Calls Try.prog 15 #[.pointer (some ⟨p, 0, none⟩)] w fun e w' => e = .returned (.tuple #[.int .u32 ((x.ps + 1) % 16777216), .int .u32 (x.s % 16777216)]) ∧ TwoSt B w' p q (Sf.poll x) z A c got A2 c2 asked := by
  obtain ⟨Fs, Fr, h⟩ := h
  refine (spoll_any p Fs _ w h.s).mono ?_
  rintro e w' ⟨rfl, h1, h2⟩
  rw [Sf.prog_poll] at h1
  refine ⟨?_, h.sent (h1.mono (fun _ h => .inl h)) h2⟩
  show Ending.returned (.tuple #[.int .u32 ((x.ps % 16777216 + 1) % 16777216), .int .u32 (x.s % 16777216)]) = _
  rw [show (x.ps % 16777216 + 1) % 16777216 = (x.ps + 1) % 16777216 by omega]
theorem tustat (h : TwoSt B w p q x z A c got A2 c2 asked) (hok : Sf.Ok x lo hi) (r mr : Int) {C : Option Addr} {d : Nat} {l : List Int} (hr : Rd numE w C d l) (hl : l.length ≤ 1000000) (hmr : 0 ≤ mr ∧ mr < 16777216) {n e0 : Int} (hs : Sf.ustat x r mr l = (y, n, e0)) :
    Calls Try.prog 13 #[.pointer (some ⟨p, 0, none⟩), .int .u32 r, .int .u32 mr, .slice C l.length d] w fun e w' => e = .returned (.tuple #[.int .i64 n, .int .i64 e0]) ∧ TwoSt B w' p q y z A c got A2 c2 asked := by
  obtain ⟨Fs, Fr, h⟩ := h
  refine (sustat_any p Fs x lo hi hok r mr C d l w h.s hr hl hmr).mono ?_
  rintro e w' ⟨rfl, h1, h2⟩
  rw [hs] at h1 ⊢
  exact ⟨rfl, h.sent h1 h2⟩
theorem tstat (h : TwoSt B w p q x z A c got A2 c2 asked) (hok : Sf.Ok x lo hi) (r mr ps : Int) {C : Option Addr} {d : Nat} {l : List Int} (hr : Rd numE w C d l) (hl : l.length ≤ 1000000) (hmr : 0 ≤ mr ∧ mr < 16777216) {n e0 : Int} (hs : Sf.stat x r mr ps l = (y, n, e0)) :
    Calls Try.prog 21 #[.pointer (some ⟨p, 0, none⟩), .int .u32 r, .int .u32 mr, .int .u32 ps, .slice C l.length d] w fun e w' => e = .returned (.tuple #[.int .i64 n, .int .i64 e0]) ∧ TwoSt B w' p q y z A c got A2 c2 asked := by
  obtain ⟨Fs, Fr, h⟩ := h
  refine (sstat_any p Fs x lo hi hok r mr ps C d l w h.s hr hl hmr).mono ?_
  rintro e w' ⟨rfl, h1, h2⟩
  rw [hs] at h1 ⊢
  exact ⟨rfl, h.sent h1 h2⟩

/-! The receiver's calls. -/
theorem trvars (h : TwoSt B w p q x z A c got A2 c2 asked) : Calls Try.prog 8 #[.pointer (some ⟨q, 0, none⟩)] w fun e w' => e = .returned (.agg #[.int .u32 (z.R % 16777216), .int .u32 (z.H % 16777216), .int .u32 (z.MR % 16777216), .int .i64 (z.buf.length : Int), .int .i64 (z.inbox.length : Int), .int .i64 (z.gaps.length : Int)]) ∧ TwoSt B w' p q x z A c got A2 c2 asked := by
  obtain ⟨Fs, Fr, h⟩ := h
  refine (rvars_any q Fr _ w h.r).mono ?_
  rintro e w' ⟨rfl, f⟩
  refine ⟨?_, ⟨Fs, Fr, h.old f⟩⟩
  unfold Rv.varsV Rf.prog Rf.pm Rf.pg
  simp
theorem tdata (h : TwoSt B w p q x z A c got A2 c2 asked) (ok : Rf.Ok z rlo rhi) (hh : rhi + 64 - rlo ≤ 8000000) (n : Int) (v : ByteArray) (hd : Rf.data z n v = (u, L)) :
    Calls Try.prog 11 #[.pointer (some ⟨q, 0, none⟩), .int .u32 (n % 16777216), .string v] w fun e w' => ∃ A' c', e = .returned (.slice A' L.length c') ∧ Rd strE w' A' c' L ∧ TwoSt B w' p q x u A c got A2 c2 asked := by
  obtain ⟨Fs, Fr, h⟩ := h
  have hil := ok.ilenP
  have hbl := ok.blen
  have hgl := ok.glen
  have h0 := (ok.data n v hh).1
  rw [hd] at h0
  have h1 := rdata_any q Fr (Rf.prog z) (n % 16777216) v w h.r (by show z.inbox.length + (Rf.pm z.buf).length + (Rf.pg z.gaps).length ≤ 100000; simp [Rf.pm, Rf.pg]; omega)
  rw [h0] at h1
  refine h1.mono ?_
  rintro e w' ⟨F', A', c', rfl, s1, r1, t1, b1, o1⟩
  exact ⟨A', c', rfl, s1.rd, Fs, F', h.recvd r1 t1 b1⟩
theorem tgap (h : TwoSt B w p q x z A c got A2 c2 asked) (ok : Rf.Ok z rlo rhi) {f t : Int} {is : Bool} (hg : Rf.gap z = (u, f, t, is)) :
    Calls Try.prog 12 #[.pointer (some ⟨q, 0, none⟩)] w fun e w' => ∃ C d l, e = .returned (.tuple #[.slice C l.length d, .int .u32 (if is then u.R % 16777216 else 0), .int .u32 (if is then u.MR % 16777216 else 0), .bool is]) ∧ (is = true → l = [f % 16777216, t % 16777216]) ∧ Rd numE w' C d l ∧ TwoSt B w' p q x u A c got A2 c2 asked := by
  obtain ⟨Fs, Fr, h⟩ := h
  have b5 := ok.hm
  have b6 := ok.sum
  have b7 := ok.win
  have b8 := ok.rh
  have hil := ok.ilenP
  have hgl := ok.glen
  refine (rgap_any q Fr _ w h.r (by rw [ok.dist]; omega) (by show 0 ≤ z.window ∧ z.window ≤ 64; omega) (by show z.inbox.length ≤ 1000000; omega) (by show (Rf.pg z.gaps).length ≤ 1000000; simp [Rf.pg]; omega)).mono ?_
  rintro e w' ⟨C, d, l, is', st', rfl, g1, r1, t1, s1, b1⟩
  obtain ⟨k1, k2, k3, k4, k5, k6⟩ := ok.told g1
  rw [hg] at k1 k2 k3 k4 k5
  subst k1 k2
  exact ⟨C, d, l, rfl, k5, s1.rd, Fs, Fr, h.recvd r1 t1 (fun k hk => .inl hk)⟩
theorem tgap_no (h : TwoSt B w p q x z A c got A2 c2 asked) (ok : Rf.Ok z rlo rhi) {f t : Int} (hg : Rf.gap z = (u, f, t, false)) :
    Calls Try.prog 12 #[.pointer (some ⟨q, 0, none⟩)] w fun e w' => ∃ C d n, e = .returned (.tuple #[.slice C n d, .int .u32 0, .int .u32 0, .bool false]) ∧ TwoSt B w' p q x u A c got A2 c2 asked := by
  refine (tgap h ok hg).mono ?_
  rintro e w' ⟨C, d, l, rfl, _, _, h1⟩
  exact ⟨C, d, l.length, rfl, h1⟩
theorem tgap_yes (h : TwoSt B w p q x z A c got A2 c2 asked) (ok : Rf.Ok z rlo rhi) {f t : Int} (hg : Rf.gap z = (u, f, t, true)) :
    Calls Try.prog 12 #[.pointer (some ⟨q, 0, none⟩)] w fun e w' => ∃ C d, e = .returned (.tuple #[.slice C 2 d, .int .u32 (u.R % 16777216), .int .u32 (u.MR % 16777216), .bool true]) ∧ Rd numE w' C d [f % 16777216, t % 16777216] ∧ TwoSt B w' p q x u A c got A2 c2 asked := by
  refine (tgap h ok hg).mono ?_
  rintro e w' ⟨C, d, l, rfl, hl, hr, h1⟩
  have hl := hl rfl
  subst hl
  exact ⟨C, d, rfl, hr, h1⟩
theorem trpoll (h : TwoSt B w p q x z A c got A2 c2 asked) (ok : Rf.Ok z rlo rhi) (n : Int) (hn : n % 16777216 = n) (hp : Rf.pollOk z n = true) :
    Calls Try.prog 16 #[.pointer (some ⟨q, 0, none⟩), .int .u32 n] w fun e w' => e = .returned (.int .i64 0) ∧ TwoSt B w' p q x (Rf.poll z n) A c got A2 c2 asked := by
  obtain ⟨Fs, Fr, h⟩ := h
  have e1 := ok.pollOk n
  have e2 := (ok.poll n).1
  rw [hn] at e1
  refine (rpoll_any q Fr _ n w h.r e1).mono ?_
  rintro e w' ⟨rfl, r1, t1⟩
  rw [e2] at r1
  exact ⟨by rw [hp]; rfl, Fs, Fr, h.recvd r1 t1 (fun k hk => .inl hk)⟩
theorem ttake (h : TwoSt B w p q x z A c got A2 c2 asked) (hi : z.inbox.length ≤ 64) :
    Calls Try.prog 17 #[.pointer (some ⟨q, 0, none⟩), .int .i64 64] w fun e w' => ∃ A' c', e = .returned (.slice A' z.inbox.length c') ∧ TwoSt B w' p q x { z with inbox := [] } A c got A2 c2 asked := by
  obtain ⟨Fs, Fr, h⟩ := h
  refine (rtake_any q Fr _ 64 w h.r (by show z.inbox.length ≤ 100000; omega) z.inbox.length (by show max 0 (min 64 ((z.inbox.length : Nat) : Int)) = _; omega)).mono ?_
  rintro e w' ⟨F', A', c', rfl, s1, r1, t1, b1, o1⟩
  have e1 : ({ Rf.prog z with inbox := (Rf.prog z).inbox.drop z.inbox.length } : Rv.S) = Rf.prog { z with inbox := [] } := by
    have : (Rf.prog z).inbox.drop z.inbox.length = [] := List.drop_eq_nil_of_le (Nat.le_refl _)
    rw [this]
    rfl
  rw [e1] at r1
  have e2 : ((Rf.prog z).inbox.take z.inbox.length).length = z.inbox.length := by
    show (z.inbox.take z.inbox.length).length = _
    simp
  rw [e2]
  exact ⟨A', c', rfl, Fs, F', h.recvd r1 t1 b1⟩
theorem trstat (h : TwoSt B w p q x z A c got A2 c2 asked) (ok : Rf.Ok z rlo rhi) :
    Calls Try.prog 18 #[.pointer (some ⟨q, 0, none⟩)] w fun e w' => ∃ C d T, e = .returned (.tuple #[.slice C (Gp.gl (z.R % 16777216) T).length d, .int .u32 (z.R % 16777216), .int .u32 ((Rf.renew z).MR % 16777216)]) ∧ Rd numE w' C d (Gp.gl (z.R % 16777216) T) ∧ Rv.Miss (Rf.prog z) T ∧ TwoSt B w' p q x (Rf.renew z) A c got A2 c2 asked := by
  obtain ⟨Fs, Fr, h⟩ := h
  have b5 := ok.hm
  have b6 := ok.sum
  have b7 := ok.win
  have b8 := ok.rh
  have hil := ok.ilenP
  refine (rstat_any q Fr _ w h.r (by rw [ok.dist]; omega) (by show 0 ≤ z.window ∧ z.window ≤ 64; omega) (by show z.inbox.length ≤ 1000000; omega)).mono ?_
  rintro e w' ⟨C, d, T, rfl, r1, t1, s1, b1, m1⟩
  rw [ok.renew.1] at r1 ⊢
  exact ⟨C, d, T, rfl, s1.rd, m1, Fs, Fr, h.recvd r1 t1 (fun k hk => .inl hk)⟩
end
end Go.Proofs.Ytngljhpplmbglaa
