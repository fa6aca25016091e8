/-
  polliwoglaw12: how the acts come in; a receiver and the document's beside it.
-/
import Derived.Test.YtpjmgdoekeknjaaStp12d
import Derived.Test.YtpjmgdoekeknjaaOpen
namespace Go.Proofs.Ytpjmgdoekeknjaa
open Go.RowKit Go.ChangeShapes Go.WideShapes Go.ChangeAt

def act12E : El Act12 := { e := 57, size := 4, bytes := 40, zero := .agg #[.int .i64 0, .int .i64 0, .bool false, .string ByteArray.empty], zel := ⟨0, 0, false, ByteArray.empty⟩, enc := fun x => [.int .i64 x.kind, .int .i64 x.n, .bool x.raw, .string x.m], len := fun _ => rfl, one := by simp [Value.oneCell'], pos := by decide, zsize := rfl, zenc := rfl }

theorem dec_act12 {H : Type} {enc : TypeId × Value → H} {W : World} (n : Nat) (cs : List Value) (y : DataW H × List MemPlace) (hy : DataW.trod enc Try.prog W 0 (fun _ => true) true n act12E.e cs = some y) : ∃ a : Act12, cs = act12E.enc a ∧ a.m.size ≤ maxLen := by
  obtain ⟨hl, m, hf⟩ := open_fields Try.underlying57 (by kernel_rfl) (by kernel_rfl) hy
  match cs, hl with
  | [c0, c1, c2, c3], _ =>
    obtain ⟨_, f0⟩ := hf 0 _ rfl
    obtain ⟨_, f1⟩ := hf 1 _ rfl
    obtain ⟨_, f2⟩ := hf 2 _ rfl
    obtain ⟨_, f3⟩ := hf 3 _ rfl
    obtain ⟨x0, e0, _, _⟩ := DataW.trod_int Try.underlying3 f0
    obtain ⟨x1, e1, _, _⟩ := DataW.trod_int Try.underlying3 f1
    obtain ⟨x2, e2, _⟩ := DataW.trod_bool Try.underlying4 f2
    obtain ⟨x3, e3, _, hs⟩ := DataW.trod_string Try.underlying9 f3
    simp at e0 e1 e2 e3
    subst e0 e1 e2 e3
    exact ⟨⟨x0, x1, x2, x3⟩, rfl, hs⟩
set_option maxRecDepth 10000 in
theorem open_rd_act12 {H : Type} {enc : TypeId × Value → H} {W : World} {base : Nat} {v : Value} {d : DataW H} {p : List MemPlace}
    (hv : Value.okWide Try.prog W .any base 48 v) (h : DataW.Trod enc Try.prog W 0 (fun _ => true) true 48 v d p) :
    ∃ A c l, v = .slice A l.length c ∧ Rd act12E W A c l ∧ ∀ a ∈ l, a.m.size ≤ maxLen :=
  open_rd act12E Try.underlying48 (by kernel_rfl) dec_act12 hv h

/-- Act k's cells. -/
theorem Rd.act12_at {w : World} {A : Option Addr} {c : Nat} {l : List Act12} (h : Rd act12E w A c l) (k : Nat) (hk : k < l.length) :
    ∃ g o, A = some ⟨g, o, none⟩ ∧ g < w.heap.size ∧ w.cell? ⟨g, o + k * 4, none⟩ = some (.int .i64 (l.getD k ⟨0, 0, false, ByteArray.empty⟩).kind) ∧ w.cell? ⟨g, o + k * 4 + 1, none⟩ = some (.int .i64 (l.getD k ⟨0, 0, false, ByteArray.empty⟩).n) ∧
      w.cell? ⟨g, o + k * 4 + 2, none⟩ = some (.bool (l.getD k ⟨0, 0, false, ByteArray.empty⟩).raw) ∧ w.cell? ⟨g, o + k * 4 + 3, none⟩ = some (.string (l.getD k ⟨0, 0, false, ByteArray.empty⟩).m) := by
  obtain ⟨g, o, hA, hg, hc⟩ := h.at_ k hk
  refine ⟨g, o, hA, hg, ?_, ?_, ?_, ?_⟩
  · exact hc 0 _ (by simp [act12E, List.getD, List.getElem?_eq_getElem hk])
  · exact hc 1 _ (by simp [act12E, List.getD, List.getElem?_eq_getElem hk])
  · exact hc 2 _ (by simp [act12E, List.getD, List.getElem?_eq_getElem hk])
  · exact hc 3 _ (by simp [act12E, List.getD, List.getElem?_eq_getElem hk])

/-- A receiver of the law's own, and the document's in a box beside it. -/
structure PlSt (B w : World) (p b : Nat) (F D : Nat → Prop) (A : Option Addr) (c : Nat) (I : Option Addr) (ci : Nat) (G : Option Addr) (cg : Nat) (L : List (Option Nat)) (x : Rf.S) (lo hi : Int) : Prop where
  st : StIn w p F D A c I ci G cg L x lo hi
  box : Blk w b 52 (rfCells x A c I ci G cg)
  nf : ¬ F b
  fresh : Fresh B w
  base : B.heap.size ≤ b ∧ ∀ k, F k → B.heap.size ≤ k
section
variable {B w w' : World} {p b : Nat} {F D F' D' : Nat → Prop} {A I G : Option Addr} {c ci cg : Nat} {L : List (Option Nat)} {x y : Rf.S} {lo hi : Int} {v : Value}
theorem PlSt.old (h : PlSt B w p b F D A c I ci G cg L x lo hi) (ht : Fresh w w') : PlSt B w' p b F D A c I ci G cg L x lo hi :=
  ⟨⟨h.st.recv.old ht, h.st.ins.old ht, h.st.dom, fun k hk => Nat.lt_of_lt_of_le (h.st.lim k hk) ht.size, h.st.off, h.st.ok⟩, ht.blk h.box (fun h => h), h.nf, h.fresh.trans ht (fun _ _ h => h), h.base⟩
theorem PlSt.own (h : PlSt B w p b F D A c I ci G cg L x lo hi) : OwnRecv B w p F (Rf.prog x) := ⟨h.st.recv, h.fresh, h.base.2⟩
theorem PlSt.cells (h : PlSt B w p b F D A c I ci G cg L x lo hi) : w.cell? ⟨b, 0, none⟩ = some (.int .i64 x.R) ∧ w.cell? ⟨b, 1, none⟩ = some (.int .i64 x.H) ∧ w.cell? ⟨b, 2, none⟩ = some (.int .i64 x.MR) ∧ w.cell? ⟨b, 3, none⟩ = some (.int .i64 x.window) ∧ w.cell? ⟨b, 4, none⟩ = some (.slice A x.buf.length c) ∧ w.cell? ⟨b, 5, none⟩ = some (.slice I x.inbox.length ci) ∧ w.cell? ⟨b, 6, none⟩ = some (.slice G x.gaps.length cg) :=
  ⟨h.box.cell 0, h.box.cell 1, h.box.cell 2, h.box.cell 3, h.box.cell 4, h.box.cell 5, h.box.cell 6⟩
/-- Behind a call of Step, and the store of what it gave. -/
theorem PlSt.next (h : PlSt B w p b F D A c I ci G cg L x lo hi) (hr : RecvAt w' p F' (Rf.prog y)) (ha : RfAt w' v y D') (ho : ∀ k, F' k → ¬ D' k) (ht : Touch F w w') (hF : ∀ k, F' k → F k ∨ w.heap.size ≤ k) (hD : ∀ k, D' k → D k ∨ w.heap.size ≤ k) {hi' : Int} (hok : Rf.Ok y lo hi') :
    ∃ A' c' I' ci' G' cg' L', v = .agg #[.int .i64 y.R, .int .i64 y.H, .int .i64 y.MR, .int .i64 y.window, .slice A' y.buf.length c', .slice I' y.inbox.length ci', .slice G' y.gaps.length cg'] ∧ w'.frozen? ⟨b, 0, none⟩ = false ∧ PlSt B (((((((w'.setCell ⟨b, 0, none⟩ (.int .i64 y.R)).setCell ⟨b, 1, none⟩ (.int .i64 y.H)).setCell ⟨b, 2, none⟩ (.int .i64 y.MR)).setCell ⟨b, 3, none⟩ (.int .i64 y.window)).setCell ⟨b, 4, none⟩ (.slice A' y.buf.length c')).setCell ⟨b, 5, none⟩ (.slice I' y.inbox.length ci')).setCell ⟨b, 6, none⟩ (.slice G' y.gaps.length cg')) p b F' D' A' c' I' ci' G' cg' L' y lo hi' := by
  obtain ⟨A', c', I', ci', G', cg', L', e, h1, h2, h3⟩ := ha
  have hb := ht.blk h.box h.nf
  have hlb := h.box.lt
  have hT : Touch (· = b) w' (((((((w'.setCell ⟨b, 0, none⟩ (.int .i64 y.R)).setCell ⟨b, 1, none⟩ (.int .i64 y.H)).setCell ⟨b, 2, none⟩ (.int .i64 y.MR)).setCell ⟨b, 3, none⟩ (.int .i64 y.window)).setCell ⟨b, 4, none⟩ (.slice A' y.buf.length c')).setCell ⟨b, 5, none⟩ (.slice I' y.inbox.length ci')).setCell ⟨b, 6, none⟩ (.slice G' y.gaps.length cg')) := Touch.st7 (S := (· = b)) (Touch.refl _ w') rfl
  refine ⟨A', c', I', ci', G', cg', L', e, hb.frozen 0, ⟨hr.touch hT (fun k hk e => ?_), h1.far hb hT, h2, fun k hk => Nat.lt_of_lt_of_le (h3 k hk) hT.size, ho, hok⟩, Blk.set7 hb _ _ _ _ _ _ _, fun hf => ?_, ?_, h.base.1, fun k hk => ?_⟩
  · subst e
    rcases hF k hk with e | e
    · exact h.nf e
    · omega
  · rcases hF b hf with e | e
    · exact h.nf e
    · omega
  · exact (h.fresh.trans ht (fun k hk hf => by have := h.base.2 k hf; omega)).trans hT (fun k hk e => by have := h.base.1; omega)
  · rcases hF k hk with e | e
    · exact h.base.2 k e
    · exact Nat.le_trans h.fresh.size e
theorem Rv.new_mod (start window : Int) : Rv.new (start % 16777216) window = Rf.prog (Rf.new start window) := by
  rw [← Rf.prog_new]
  unfold Rv.new
  congr 1 <;> omega
theorem PlSt.new {start window : Int} (h : OwnRecv B w p F (Rf.prog (Rf.new start window))) (hb : Blk w b 52 (rfCells (Rf.new start window) none 0 none 0 none 0)) (hnf : ¬ F b) (hB : B.heap.size ≤ b) : PlSt B w p b F (fun _ => False) none 0 none 0 none 0 [] (Rf.new start window) (start % 16777216) (start % 16777216) :=
  ⟨⟨h.at_, ⟨Sl.nil _ _, Sl.nil _ _, Sl.nil _ _, trivial⟩, ⟨fun _ e => (by cases e), fun _ e => (by cases e), fun _ e => (by cases e), fun _ e => (by cases e)⟩, fun _ h => h.elim, fun _ _ h => h, Rf.Ok.new start window _ (Int.le_refl _) (by omega)⟩, hb, hnf, h.fresh, hB, h.base⟩
end

/-- A call of Step on both. -/
theorem plstep {B w : World} {p b : Nat} {F D : Nat → Prop} {A I G : Option Addr} {c ci cg : Nat} {L : List (Option Nat)} {x : Rf.S} {lo hi : Int} (h : PlSt B w p b F D A c I ci G cg L x lo hi) (a : Act12) (hh : hi + 64 - lo ≤ 8000000) (ham : a.m.size ≤ maxLen) :
    Calls Try.prog 24 #[.pointer (some ⟨p, 0, none⟩), .agg #[.int .i64 x.R, .int .i64 x.H, .int .i64 x.MR, .int .i64 x.window, .slice A x.buf.length c, .slice I x.inbox.length ci, .slice G x.gaps.length cg], act12V a] w fun e w' => ∃ F' D' A' c' I' ci' G' cg' L', e = .returned (.tuple #[.agg #[.int .i64 (Rf.step x a).R, .int .i64 (Rf.step x a).H, .int .i64 (Rf.step x a).MR, .int .i64 (Rf.step x a).window, .slice A' (Rf.step x a).buf.length c', .slice I' (Rf.step x a).inbox.length ci', .slice G' (Rf.step x a).gaps.length cg'], .bool true]) ∧
      ((∀ i, w'.frozen? ⟨b, i, none⟩ = false) ∧ w'.cell? ⟨b, 0, none⟩ = some (.int .i64 x.R) ∧ w'.cell? ⟨b, 1, none⟩ = some (.int .i64 x.H) ∧ w'.cell? ⟨b, 2, none⟩ = some (.int .i64 x.MR) ∧ w'.cell? ⟨b, 3, none⟩ = some (.int .i64 x.window) ∧ w'.cell? ⟨b, 4, none⟩ = some (.slice A x.buf.length c) ∧ w'.cell? ⟨b, 5, none⟩ = some (.slice I x.inbox.length ci) ∧ w'.cell? ⟨b, 6, none⟩ = some (.slice G x.gaps.length cg)) ∧ PlSt B (((((((w'.setCell ⟨b, 0, none⟩ (.int .i64 (Rf.step x a).R)).setCell ⟨b, 1, none⟩ (.int .i64 (Rf.step x a).H)).setCell ⟨b, 2, none⟩ (.int .i64 (Rf.step x a).MR)).setCell ⟨b, 3, none⟩ (.int .i64 (Rf.step x a).window)).setCell ⟨b, 4, none⟩ (.slice A' (Rf.step x a).buf.length c')).setCell ⟨b, 5, none⟩ (.slice I' (Rf.step x a).inbox.length ci')).setCell ⟨b, 6, none⟩ (.slice G' (Rf.step x a).gaps.length cg')) p b F' D' A' c' I' ci' G' cg' L' (Rf.step x a) lo (hi + 64) := by
  refine (step12_any p F D A c I ci G cg L x a w h.st hh ham).mono ?_
  rintro e w' ⟨v', F', D', rfl, r1, r2, r3, r4, r5, r6⟩
  obtain ⟨A', c', I', ci', G', cg', L', rfl, _, hp⟩ := h.next r1 r2 r3 r4 r5 r6 (h.st.ok.step a hh)
  have hb := r4.blk h.box h.nf
  exact ⟨F', D', A', c', I', ci', G', cg', L', rfl, ⟨fun i => hb.frozen i, hb.cell 0, hb.cell 1, hb.cell 2, hb.cell 3, hb.cell 4, hb.cell 5, hb.cell 6⟩, hp⟩
end Go.Proofs.Ytpjmgdoekeknjaa

namespace Go.Proofs.Ytpjmgdoekeknjaa
open Go.RowKit

theorem gapL_window (x : Rf.S) : ∀ gs, (Rf.gapL x gs).1.window = x.window
  | [] => rfl
  | g :: gs => by
    have e : Rf.gapL x (g :: gs) = if 0 ≤ (Rf.ft x g).1 then (Rf.renew { x with gaps := gs }, (Rf.ft x g).1, (Rf.ft x g).2, true) else Rf.gapL x gs := rfl
    rw [e]
    split
    · rfl
    · exact gapL_window x gs
theorem step_window (x : Rf.S) (a : Act12) : (Rf.step x a).window = x.window := by
  unfold Rf.step
  split
  · unfold Rf.poll; split <;> rfl
  · split
    · rfl
    · split
      · exact gapL_window x _
      · split
        · rfl
        · split
          · rfl
          · unfold Rf.data
            split
            · unfold Rf.deliver Rf.lay; rfl
            · rfl
/-- R, H and MR stand in their order; what is kept is no more than the window. -/
theorem rv_bounds {y : Rf.S} {lo hi : Int} (h : Rf.Ok y lo hi) : y.H - y.R ≤ y.MR - y.R ∧ y.MR - y.R ≤ y.window ∧ (y.buf.length : Int) + (y.inbox.length : Int) ≤ y.window ∧ y.gaps.length ≤ 8 ∧ (y.buf.length : Int) ≤ y.H - y.R := by
  have h2 := h.hm
  have h3 := h.sum
  have h4 := h.win
  have h5 := h.rh
  have hb : (y.buf.length : Int) ≤ y.H - y.R := by
    have := Rf.nodup_len y.R (y.H - y.R).toNat (y.buf.map (·.1)) h.nod (fun n hn => by
      obtain ⟨p, hp, rfl⟩ := List.mem_map.1 hn
      have := h.keys p hp
      omega)
    simp at this
    omega
  exact ⟨by omega, by omega, by omega, h.glen, hb⟩
theorem rv_vars {B w : World} {p b : Nat} {F D : Nat → Prop} {A I G : Option Addr} {c ci cg : Nat} {L : List (Option Nat)} {x : Rf.S} {lo hi : Int} (h : PlSt B w p b F D A c I ci G cg L x lo hi) :
    Calls Try.prog 16 #[.pointer (some ⟨p, 0, none⟩)] w fun e w' => e = .returned (.agg #[.int .u32 (x.R % 16777216), .int .u32 (x.H % 16777216), .int .u32 (x.MR % 16777216), .int .i64 (x.buf.length : Int), .int .i64 (x.inbox.length : Int), .int .i64 (x.gaps.length : Int)]) ∧ Fresh w w' := by
  refine (rvars_any p F _ w h.st.recv).mono ?_
  rintro e w' ⟨rfl, f⟩
  refine ⟨?_, f⟩
  unfold Rv.varsV Rf.prog Rf.pm Rf.pg
  simp
end Go.Proofs.Ytpjmgdoekeknjaa

namespace Go.Proofs.Ytpjmgdoekeknjaa
open Go.RowKit

namespace Rf
theorem mget_pair {m : List (Int × ByteArray)} {n : Int} {v : ByteArray} (h : mget m n = some v) : (n, v) ∈ m := by
  unfold mget at h
  obtain ⟨p, hp, e⟩ := Option.map_eq_some_iff.1 h
  have h1 := List.find?_some hp
  have h2 := List.mem_of_find?_eq_some hp
  have h3 : p.1 = n := by simpa using h1
  obtain ⟨p1, p2⟩ := p
  simp only at h3 e
  subst h3 e
  exact h2
theorem dl_outs : ∀ (k : Nat) (r : Int) (m : List (Int × ByteArray)) (out : List ByteArray), ∃ O : List ByteArray, (dl k r m out).2.2 = out ++ O ∧ (dl k r m out).1 = r + O.length ∧ ∀ (i : Nat) (hi : i < O.length), (r + (i : Int), O[i]) ∈ m
  | 0, r, m, out => ⟨[], by simp [dl], by simp [dl], fun i hi => by simp at hi⟩
  | k + 1, r, m, out => by
    unfold dl
    cases hg : mget m r with
    | none => exact ⟨[], by simp, by simp, fun i hi => by simp at hi⟩
    | some v =>
      obtain ⟨O, h1, h2, h3⟩ := dl_outs k (r + 1) (mdel m r) (out ++ [v])
      refine ⟨v :: O, by simp only; rw [h1]; simp, by simp only; rw [h2]; simp; omega, fun i hi => ?_⟩
      cases i with
      | zero => simpa using mget_pair hg
      | succ i =>
        have := (mdel_sub m r _ (h3 i (by simpa using hi))).1
        rw [show r + ((i + 1 : Nat) : Int) = r + 1 + (i : Int) by omega]
        simpa using this

/-- What came first under each number. -/
structure Fst (x : S) (fl : List (Int × ByteArray)) (lo : Int) : Prop where
  buf : ∀ p ∈ x.buf, mget fl (p.1 % 16777216) = some p.2
  src : ∀ k, mget fl k ≠ none → ∃ N, lo ≤ N ∧ k = N % 16777216 ∧ (N < x.R ∨ has x N = true)
theorem Fst.same {x y : S} {fl : List (Int × ByteArray)} {lo : Int} (h : Fst x fl lo) (hb : y.buf = x.buf) (hR : y.R = x.R) : Fst y fl lo :=
  ⟨by rw [hb]; exact h.buf, fun k hk => by
    obtain ⟨N, h1, h2, h3⟩ := h.src k hk
    refine ⟨N, h1, h2, ?_⟩
    rw [hR]
    unfold has at h3 ⊢
    rw [hb]
    exact h3⟩
theorem Fst.none_iff {x : S} {fl : List (Int × ByteArray)} {lo hi : Int} (h : Fst x fl lo) (ok : Ok x lo hi) {N : Int} (h1 : x.R ≤ N) (h2 : N ≤ x.R + 64) : mget fl (N % 16777216) = none ↔ has x N = false := by
  have a1 := ok.lo0
  have a2 := ok.lor
  have a3 := ok.rhi
  have a4 := ok.hl
  constructor
  · intro hn
    cases hh : has x N with
    | false => rfl
    | true =>
      obtain ⟨p, hp, e⟩ := List.mem_map.1 ((has_iff x N).1 hh)
      have := h.buf p hp
      rw [e, hn] at this
      cases this
  · intro hh
    cases hg : mget fl (N % 16777216) with
    | none => rfl
    | some v =>
      obtain ⟨N0, e1, e2, e3⟩ := h.src (N % 16777216) (by rw [hg]; simp)
      rcases e3 with e3 | e3
      · omega
      · obtain ⟨p, hp, e⟩ := List.mem_map.1 ((has_iff x N0).1 e3)
        have := ok.near p hp
        have : N0 = N := by omega
        rw [this, hh] at e3
        cases e3

section
variable {x : S} {fl : List (Int × ByteArray)} {lo hi : Int}
/-- A message comes: what is handed over came first, each under its number. -/
theorem fst_data (h : Fst x fl lo) (ok : Ok x lo hi) (hh : hi + 64 - lo ≤ 8000000) (n : Int) (m : ByteArray) :
    (Fst (data x n m).1 (if takes x (at_ x n) = true then mset fl (n % 16777216) m else fl) lo) ∧ (data x n m).1.R = x.R + ((data x n m).2.length : Int) ∧
    ∀ (i : Nat) (hi : i < (data x n m).2.length), mget (if takes x (at_ x n) = true then mset fl (n % 16777216) m else fl) ((x.R + (i : Int)) % 16777216) = some (data x n m).2[i] := by
  obtain ⟨b1, b2, b3⟩ := ok.at_bd n
  have a1 := ok.lo0
  have a2 := ok.lor
  have a3 := ok.rhi
  have a4 := ok.hl
  have a5 := ok.hm
  have a6 := ok.sum
  have a7 := ok.win
  unfold data
  by_cases ht : takes x (at_ x n) = true
  · simp only [ht, if_true]
    obtain ⟨l1, l2, l3, l4, l5, l6⟩ := ok.laid m b1 ht
    have ht' := ht
    unfold takes at ht'
    simp only [Bool.and_eq_true, decide_eq_true_eq, Bool.not_eq_true'] at ht'
    obtain ⟨t1, t2⟩ := ht'
    rw [← b3]
    generalize hN : at_ x n = N at *
    have hB : (lay x N m).buf = x.buf ++ [(N, m)] := rfl
    have hR : (lay x N m).R = x.R := rfl
    have hy : ∀ p ∈ (lay x N m).buf, mget (mset fl (N % 16777216) m) (p.1 % 16777216) = some p.2 := fun p hp => by
      rw [hB] at hp
      rw [mget_mset]
      rcases List.mem_append.1 hp with hp | hp
      · have h1 := ok.near p hp
        have hne : p.1 ≠ N := fun e => by
          have : has x N = true := (has_iff x N).2 (List.mem_map.2 ⟨p, hp, e⟩)
          rw [t2] at this
          cases this
        rw [if_neg (by omega)]
        exact h.buf p hp
      · rw [List.mem_singleton.1 hp, if_pos rfl]
    obtain ⟨O, o1, o2, o3⟩ := dl_outs (lay x N m).buf.length x.R (lay x N m).buf []
    obtain ⟨d1, d2, d3⟩ := dl_spec (lay x N m).buf.length x.R (lay x N m).buf [] (fun p hp => (l2 p hp).1)
    unfold deliver
    rw [hR]
    rw [List.nil_append] at o1
    simp only [o1]
    refine ⟨⟨fun p hp => hy p ((d2 p).1 hp).1, fun k hk => ?_⟩, o2, fun i hi2 => hy _ (o3 i hi2)⟩
    have hcase : ∀ N0, (∃ q ∈ (lay x N m).buf, q.1 = N0) → N0 < (dl (lay x N m).buf.length x.R (lay x N m).buf []).1 ∨ has { lay x N m with R := (dl (lay x N m).buf.length x.R (lay x N m).buf []).1, buf := (dl (lay x N m).buf.length x.R (lay x N m).buf []).2.1, inbox := (lay x N m).inbox ++ O } N0 = true := fun N0 ⟨q, hq, e⟩ => by
      rcases Int.lt_or_le N0 (dl (lay x N m).buf.length x.R (lay x N m).buf []).1 with hlt | hle
      · exact .inl hlt
      · exact .inr ((has_iff _ _).2 (List.mem_map.2 ⟨q, (d2 q).2 ⟨hq, by omega⟩, e⟩))
    rw [mget_mset] at hk
    by_cases hkn : k = N % 16777216
    · exact ⟨N, by omega, hkn, hcase N ⟨(N, m), by rw [hB]; simp, rfl⟩⟩
    · rw [if_neg hkn] at hk
      obtain ⟨N0, e1, e2, e3⟩ := h.src k hk
      refine ⟨N0, e1, e2, ?_⟩
      rcases e3 with e3 | e3
      · exact .inl (Int.lt_of_lt_of_le e3 d1)
      · obtain ⟨q, hq, e⟩ := List.mem_map.1 ((has_iff x N0).1 e3)
        exact hcase N0 ⟨q, by rw [hB]; exact List.mem_append.2 (.inl hq), e⟩
  · have ht2 : takes x (at_ x n) = false := by simpa using ht
    simp only [ht2, Bool.false_eq_true, if_false]
    exact ⟨h, by simp, fun i hi2 => by simp at hi2⟩
/-- Whether it is the first under its number: as the law asks. -/
theorem fst_cond (h : Fst x fl lo) (ok : Ok x lo hi) (n : Int) : takes x (at_ x n) = (decide ((n % 16777216 - x.R % 16777216) % 16777216 < (x.MR % 16777216 - x.R % 16777216) % 16777216) && (mget fl (n % 16777216)).isNone) := by
  obtain ⟨b1, b2, b3⟩ := ok.at_bd n
  have a5 := ok.hm
  have a6 := ok.sum
  have a7 := ok.win
  have a8 := ok.rh
  rw [← b3]
  generalize at_ x n = N at *
  unfold takes
  by_cases hN : N < x.MR
  · rw [decide_eq_true hN, decide_eq_true (show (N % 16777216 - x.R % 16777216) % 16777216 < (x.MR % 16777216 - x.R % 16777216) % 16777216 by omega)]
    have := h.none_iff ok b1 (show N ≤ x.R + 64 by omega)
    cases hg : mget fl (N % 16777216) with
    | none => rw [this.1 hg]; rfl
    | some v =>
      have : has x N ≠ false := fun e => by rw [this.2 e] at hg; cases hg
      cases hh : has x N with
      | false => exact absurd hh this
      | true => rfl
  · rw [decide_eq_false hN, decide_eq_false (show ¬ (N % 16777216 - x.R % 16777216) % 16777216 < (x.MR % 16777216 - x.R % 16777216) % 16777216 by omega)]
    rfl
end
end Rf
theorem step_keeps (x : Rf.S) (a : Act12) (h1 : 1 ≤ a.kind) (h2 : a.kind ≤ 5) : (Rf.step x a).buf = x.buf ∧ (Rf.step x a).R = x.R := by
  have hg : ∀ gs, (Rf.gapL x gs).1.buf = x.buf ∧ (Rf.gapL x gs).1.R = x.R := by
    intro gs
    induction gs with
    | nil => exact ⟨rfl, rfl⟩
    | cons g gs ih =>
      have e : Rf.gapL x (g :: gs) = if 0 ≤ (Rf.ft x g).1 then (Rf.renew { x with gaps := gs }, (Rf.ft x g).1, (Rf.ft x g).2, true) else Rf.gapL x gs := rfl
      rw [e]
      split
      · exact ⟨rfl, rfl⟩
      · exact ih
  unfold Rf.step
  split
  · unfold Rf.poll; split <;> exact ⟨rfl, rfl⟩
  · split
    · exact ⟨rfl, rfl⟩
    · split
      · exact hg _
      · split
        · exact ⟨rfl, rfl⟩
        · split
          · exact ⟨rfl, rfl⟩
          · omega
section
variable {P : Program} {κ : Type} [DecidableEq κ] {K : KT P κ}
/-- A lookup that is wanted. -/
theorem wpList_lookMg {ops : Array Oper} {rest : List Oper} {o : Oper} {a : Act} {w : World} {Q : Exit → Act → World → Prop} (hw : Region.wanted o (yielded ops a.tmps) = true) {x y : Operand} {T e : TypeId} {ok : Bool} (hop : o.op = Op.lookup T x y ok)
    {b : Nat} {m : MList κ} {k : κ} (ex : a.eval x = .map (some b)) (ey : a.eval y = K.enc k) (h : MapAt K w b m) (hT : P.underlying T = some (.map K.t e)) {z : Value} (hz : (zeroValue e).run P w = .ok z w)
    (hK : wpList P ops Q rest (a.put o.dst (if ok then .tuple #[(mget m k).getD z, .bool (mget m k).isSome] else (mget m k).getD z)) w) : wpList P ops Q (o :: rest) a w := by
  refine BigFrame.wpList_want hw fun _ hk => ?_
  unfold Oper.wp
  simp only [execOp, hop, ex, ey, Sem.run_bind, Result.andThen_ok, h.look hT hz k ok, Sem.run_pure]
  exact hk _ _ hK
end

/-- What came first under each number, in memory. -/
structure FirstAt (B w : World) (F : Nat → Prop) (kf : Nat) (fl : List (Int × ByteArray)) : Prop where
  map : ∃ m, MapAt numK w kf m ∧ (∀ k, mget fl k = none → mget m k = none) ∧ ∀ k v, mget fl k = some v → ∃ b, mget m k = some (.slice (some ⟨b, 0, none⟩) 1 1) ∧ Blk w b 9 [.string v] ∧ B.heap.size ≤ b ∧ ¬ F b
  low : B.heap.size ≤ kf
  off : ¬ F kf
section
variable {B w w' : World} {F F' D : Nat → Prop} {kf p b : Nat} {fl : List (Int × ByteArray)} {A I G : Option Addr} {c ci cg : Nat} {L : List (Option Nat)} {x : Rf.S} {lo hi : Int}
theorem FirstAt.step (h : FirstAt B w F kf fl) (ht : Touch F w w') (hF : ∀ k, F' k → F k ∨ w.heap.size ≤ k) : FirstAt B w' F' kf fl := by
  obtain ⟨m, h1, h2, h3⟩ := h.map
  refine ⟨⟨m, h1.touch ht h.off, h2, fun k v hk => ?_⟩, h.low, fun hf => ?_⟩
  · obtain ⟨b, e1, e2, e3, e4⟩ := h3 k v hk
    refine ⟨b, e1, ht.blk e2 e4, e3, fun hf => ?_⟩
    rcases hF b hf with e | e
    · exact e4 e
    · have := e2.lt; omega
  · rcases hF kf hf with e | e
    · exact h.off e
    · have := h1.lt; omega
theorem FirstAt.old (h : FirstAt B w F kf fl) (ht : Fresh w w') : FirstAt B w' F kf fl := by
  refine h.step (ht.mono (fun _ _ h => h.elim)) (fun _ h => .inl h)
theorem FirstAt.far {g : Nat} {cs : List Value} (h : FirstAt B w F kf fl) (hb : Blk w g 52 cs) (ht : Touch (· = g) w w') : FirstAt B w' F kf fl := by
  obtain ⟨m, h1, h2, h3⟩ := h.map
  refine ⟨⟨m, h1.touch ht (h1.blk_ne hb), h2, fun k v hk => ?_⟩, h.low, h.off⟩
  obtain ⟨b, e1, e2, e3, e4⟩ := h3 k v hk
  exact ⟨b, e1, ht.blk e2 (e2.ne_ hb (by decide)), e3, e4⟩
theorem FirstAt.add {m : MList Int} {k : Int} {v : ByteArray} {b : Nat} (h : FirstAt B w F kf fl) (hn : ∀ k, mget fl k = none → mget m k = none) (hs : ∀ k v, mget fl k = some v → ∃ b, mget m k = some (.slice (some ⟨b, 0, none⟩) 1 1) ∧ Blk w b 9 [.string v] ∧ B.heap.size ≤ b ∧ ¬ F b)
    (hm : MapAt numK w' kf (mset m k (.slice (some ⟨b, 0, none⟩) 1 1))) (ht : Touch (· = kf) w w') (hm0 : MapAt numK w kf m) (hb : Blk w b 9 [.string v]) (hB : B.heap.size ≤ b) (hF : ¬ F b) : FirstAt B w' F kf (mset fl k v) := by
  refine ⟨⟨_, hm, fun k' hk => ?_, fun k' v' hk => ?_⟩, h.low, h.off⟩
  · rw [mget_mset] at hk ⊢
    by_cases e : k' = k
    · rw [if_pos e] at hk; cases hk
    · rw [if_neg e] at hk ⊢
      exact hn k' hk
  · rw [mget_mset] at hk ⊢
    by_cases e : k' = k
    · rw [if_pos e] at hk ⊢
      injection hk with hk
      subst hk
      exact ⟨b, rfl, ht.blk hb (fun e => hm0.blk_ne hb e.symm), hB, hF⟩
    · rw [if_neg e] at hk ⊢
      obtain ⟨b', e1, e2, e3, e4⟩ := hs k' v' hk
      exact ⟨b', e1, ht.blk e2 (fun e => hm0.blk_ne e2 e.symm), e3, e4⟩
theorem Sl.off_map {α : Type} {E : El α} {l : List α} {m : MList Int} (h : Sl E w A c l) (hm : MapAt numK w kf m) : ∀ ad, A = some ad → ad.block ≠ kf := fun ad ha e => by
  obtain ⟨_, cs, hb, _⟩ := h.2.2.2 ad ha
  exact hm.blk_ne hb e.symm
theorem GapRows.off_map {m : MList Int} (hm : MapAt numK w kf m) (ht : Touch (· = kf) w w') : ∀ {L : List (Option Nat)} {l : List (Int × Int)}, GapRows w L l → GapRows w' L l
  | [], [], _ => trivial
  | o :: L, g' :: l, ⟨⟨b, e, hb'⟩, h⟩ => ⟨⟨b, e, ht.blk hb' (fun e => hm.blk_ne hb' e.symm)⟩, GapRows.off_map hm ht h⟩
theorem PlSt.mapped {m : MList Int} (h : PlSt B w p b F D A c I ci G cg L x lo hi) (hm : MapAt numK w kf m) (hf : ¬ F kf) (ht : Touch (· = kf) w w') (hB : B.heap.size ≤ kf) : PlSt B w' p b F D A c I ci G cg L x lo hi :=
  ⟨⟨h.st.recv.touch ht (fun k hk e => hf (e ▸ hk)), ⟨h.st.ins.buf.touch ht (h.st.ins.buf.off_map hm), h.st.ins.inb.touch ht (h.st.ins.inb.off_map hm), h.st.ins.gap.touch ht (h.st.ins.gap.off_map hm), GapRows.off_map hm ht h.st.ins.rows⟩, h.st.dom, fun k hk => Nat.lt_of_lt_of_le (h.st.lim k hk) ht.size, h.st.off, h.st.ok⟩,
    ht.blk h.box (fun e => hm.blk_ne h.box e.symm), h.nf, h.fresh.trans ht (fun k hk e => by omega), h.base⟩
end

theorem GapRows.lt {w : World} : ∀ {L : List (Option Nat)} {l : List (Int × Int)}, GapRows w L l → ∀ b, some b ∈ L → b < w.heap.size
  | [], [], _, b, h => by cases h
  | o :: L, g' :: l, ⟨⟨b', e, hb'⟩, h⟩, b, hm => by
    rcases List.mem_cons.1 hm with e2 | e2
    · rw [← e2] at e
      injection e with e
      exact e ▸ hb'.lt
    · exact GapRows.lt h b e2
theorem RfD.lim {w : World} {A I G : Option Addr} {c ci cg : Nat} {L : List (Option Nat)} {x : Rf.S} {P : Nat → Prop} (hd : RfD A I G L P) (h : RfIn w A c I ci G cg L x) : RfD A I G L (fun k => P k ∧ k < w.heap.size) :=
  ⟨fun ad e => ⟨hd.A ad e, h.buf.lt ad e⟩, fun ad e => ⟨hd.I ad e, h.inb.lt ad e⟩, fun ad e => ⟨hd.G ad e, h.gap.lt ad e⟩, fun b e => ⟨hd.L b e, h.rows.lt b e⟩⟩

/-- A call of Step on both; what it touches. -/
theorem plstep2 {B w : World} {p b kf : Nat} {F D : Nat → Prop} {A I G : Option Addr} {c ci cg : Nat} {L : List (Option Nat)} {x : Rf.S} {lo hi : Int} {fl : List (Int × ByteArray)} (h : PlSt B w p b F D A c I ci G cg L x lo hi) (hf : FirstAt B w F kf fl) (a : Act12) (hh : hi + 64 - lo ≤ 8000000) (ham : a.m.size ≤ maxLen) :
    Calls Try.prog 24 #[.pointer (some ⟨p, 0, none⟩), .agg #[.int .i64 x.R, .int .i64 x.H, .int .i64 x.MR, .int .i64 x.window, .slice A x.buf.length c, .slice I x.inbox.length ci, .slice G x.gaps.length cg], act12V a] w fun e w' => ∃ F' D' A' c' I' ci' G' cg' L', e = .returned (.tuple #[.agg #[.int .i64 (Rf.step x a).R, .int .i64 (Rf.step x a).H, .int .i64 (Rf.step x a).MR, .int .i64 (Rf.step x a).window, .slice A' (Rf.step x a).buf.length c', .slice I' (Rf.step x a).inbox.length ci', .slice G' (Rf.step x a).gaps.length cg'], .bool true]) ∧
      ((∀ i, w'.frozen? ⟨b, i, none⟩ = false) ∧ w'.cell? ⟨b, 0, none⟩ = some (.int .i64 x.R) ∧ w'.cell? ⟨b, 1, none⟩ = some (.int .i64 x.H) ∧ w'.cell? ⟨b, 2, none⟩ = some (.int .i64 x.MR) ∧ w'.cell? ⟨b, 3, none⟩ = some (.int .i64 x.window) ∧ w'.cell? ⟨b, 4, none⟩ = some (.slice A x.buf.length c) ∧ w'.cell? ⟨b, 5, none⟩ = some (.slice I x.inbox.length ci) ∧ w'.cell? ⟨b, 6, none⟩ = some (.slice G x.gaps.length cg)) ∧ PlSt B (((((((w'.setCell ⟨b, 0, none⟩ (.int .i64 (Rf.step x a).R)).setCell ⟨b, 1, none⟩ (.int .i64 (Rf.step x a).H)).setCell ⟨b, 2, none⟩ (.int .i64 (Rf.step x a).MR)).setCell ⟨b, 3, none⟩ (.int .i64 (Rf.step x a).window)).setCell ⟨b, 4, none⟩ (.slice A' (Rf.step x a).buf.length c')).setCell ⟨b, 5, none⟩ (.slice I' (Rf.step x a).inbox.length ci')).setCell ⟨b, 6, none⟩ (.slice G' (Rf.step x a).gaps.length cg')) p b F' D' A' c' I' ci' G' cg' L' (Rf.step x a) lo (hi + 64) ∧
      FirstAt B (((((((w'.setCell ⟨b, 0, none⟩ (.int .i64 (Rf.step x a).R)).setCell ⟨b, 1, none⟩ (.int .i64 (Rf.step x a).H)).setCell ⟨b, 2, none⟩ (.int .i64 (Rf.step x a).MR)).setCell ⟨b, 3, none⟩ (.int .i64 (Rf.step x a).window)).setCell ⟨b, 4, none⟩ (.slice A' (Rf.step x a).buf.length c')).setCell ⟨b, 5, none⟩ (.slice I' (Rf.step x a).inbox.length ci')).setCell ⟨b, 6, none⟩ (.slice G' (Rf.step x a).gaps.length cg')) F' kf fl := by
  refine (step12_any p F D A c I ci G cg L x a w h.st hh ham).mono ?_
  rintro e w' ⟨v', F', D', rfl, r1, r2, r3, r4, r5, r6⟩
  obtain ⟨A', c', I', ci', G', cg', L', rfl, _, hp⟩ := h.next r1 r2 r3 r4 r5 r6 (h.st.ok.step a hh)
  have hb := r4.blk h.box h.nf
  exact ⟨F', D', A', c', I', ci', G', cg', L', rfl, ⟨fun i => hb.frozen i, hb.cell 0, hb.cell 1, hb.cell 2, hb.cell 3, hb.cell 4, hb.cell 5, hb.cell 6⟩, hp, (hf.step r4 r5).far hb (Touch.st7 (S := (· = b)) (Touch.refl _ w') rfl)⟩
end Go.Proofs.Ytpjmgdoekeknjaa
