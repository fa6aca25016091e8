/-
  polliwoglaw12: how the acts come in; a receiver and the document's beside it.
-/
import Derived.Test.YtpjmgdoekeknjaaStp12d
import Derived.Test.YtpjmgdoekeknjaaOpen
namespace Go.Proofs.Ytpjmgdoekeknjaa
open Go.RowKit Go.ChangeShapes Go.WideShapes Go.ChangeAt

def act12E : El Act12 := { e := 57, size := 4, bytes := 40, zero := .agg #[.int .i64 0, .int .i64 0, .bool false, .string ByteArray.empty], zel := ⟨0, 0, false, ByteArray.empty⟩, enc := fun x => [.int .i64 x.kind, .int .i64 x.n, .bool x.raw, .string x.m], len := fun _ => rfl, one := by simp [Value.oneCell'], pos := by decide, zsize := rfl, zenc := rfl }

theorem dec_act12 {H : Type} {enc : TypeId × Value → H} {W : World} (n : Nat) (cs : List Value) (y : DataW H × List MemPlace) (hy : DataW.trod enc Try.prog W 0 (fun _ => true) true n act12E.e cs = some y) : ∃ a : Act12, cs = act12E.enc a ∧ a.m.size ≤ maxLen := by
  obtain ⟨hl, m, hf⟩ := open_fields Try.underlying57 (by kernel_rfl) (by kernel_rfl) hy
  match cs, hl with
  | [c0, c1, c2, c3], _ =>
    obtain ⟨_, f0⟩ := hf 0 _ rfl
    obtain ⟨_, f1⟩ := hf 1 _ rfl
    obtain ⟨_, f2⟩ := hf 2 _ rfl
    obtain ⟨_, f3⟩ := hf 3 _ rfl
    obtain ⟨x0, e0, _, _⟩ := DataW.trod_int Try.underlying3 f0
    obtain ⟨x1, e1, _, _⟩ := DataW.trod_int Try.underlying3 f1
    obtain ⟨x2, e2, _⟩ := DataW.trod_bool Try.underlying4 f2
    obtain ⟨x3, e3, _, hs⟩ := DataW.trod_string Try.underlying9 f3
    simp at e0 e1 e2 e3
    subst e0 e1 e2 e3
    exact ⟨⟨x0, x1, x2, x3⟩, rfl, hs⟩
set_option maxRecDepth 10000 in
theorem open_rd_act12 {H : Type} {enc : TypeId × Value → H} {W : World} {base : Nat} {v : Value} {d : DataW H} {p : List MemPlace}
    (hv : Value.okWide Try.prog W .any base 48 v) (h : DataW.Trod enc Try.prog W 0 (fun _ => true) true 48 v d p) :
    ∃ A c l, v = .slice A l.length c ∧ Rd act12E W A c l ∧ ∀ a ∈ l, a.m.size ≤ maxLen :=
  open_rd act12E Try.underlying48 (by kernel_rfl) dec_act12 hv h

/-- Act k's cells. -/
theorem Rd.act12_at {w : World} {A : Option Addr} {c : Nat} {l : List Act12} (h : Rd act12E w A c l) (k : Nat) (hk : k < l.length) :
    ∃ g o, A = some ⟨g, o, none⟩ ∧ g < w.heap.size ∧ w.cell? ⟨g, o + k * 4, none⟩ = some (.int .i64 (l.getD k ⟨0, 0, false, ByteArray.empty⟩).kind) ∧ w.cell? ⟨g, o + k * 4 + 1, none⟩ = some (.int .i64 (l.getD k ⟨0, 0, false, ByteArray.empty⟩).n) ∧
      w.cell? ⟨g, o + k * 4 + 2, none⟩ = some (.bool (l.getD k ⟨0, 0, false, ByteArray.empty⟩).raw) ∧ w.cell? ⟨g, o + k * 4 + 3, none⟩ = some (.string (l.getD k ⟨0, 0, false, ByteArray.empty⟩).m) := by
  obtain ⟨g, o, hA, hg, hc⟩ := h.at_ k hk
  refine ⟨g, o, hA, hg, ?_, ?_, ?_, ?_⟩
  · exact hc 0 _ (by simp [act12E, List.getD, List.getElem?_eq_getElem hk])
  · exact hc 1 _ (by simp [act12E, List.getD, List.getElem?_eq_getElem hk])
  · exact hc 2 _ (by simp [act12E, List.getD, List.getElem?_eq_getElem hk])
  · exact hc 3 _ (by simp [act12E, List.getD, List.getElem?_eq_getElem hk])

/-- A receiver of the law's own, and the document's in a box beside it. -/
structure PlSt (B w : World) (p b : Nat) (F D : Nat → Prop) (A : Option Addr) (c : Nat) (I : Option Addr) (ci : Nat) (G : Option Addr) (cg : Nat) (L : List (Option Nat)) (x : Rf.S) (lo hi : Int) : Prop where
  st : StIn w p F D A c I ci G cg L x lo hi
  box : Blk w b 52 (rfCells x A c I ci G cg)
  nf : ¬ F b
  fresh : Fresh B w
  base : B.heap.size ≤ b ∧ ∀ k, F k → B.heap.size ≤ k
section
variable {B w w' : World} {p b : Nat} {F D F' D' : Nat → Prop} {A I G : Option Addr} {c ci cg : Nat} {L : List (Option Nat)} {x y : Rf.S} {lo hi : Int} {v : Value}
theorem PlSt.old (h : PlSt B w p b F D A c I ci G cg L x lo hi) (ht : Fresh w w') : PlSt B w' p b F D A c I ci G cg L x lo hi :=
  ⟨⟨h.st.recv.old ht, h.st.ins.old ht, h.st.dom, fun k hk => Nat.lt_of_lt_of_le (h.st.lim k hk) ht.size, h.st.off, h.st.ok⟩, ht.blk h.box (fun h => h), h.nf, h.fresh.trans ht (fun _ _ h => h), h.base⟩
theorem PlSt.own (h : PlSt B w p b F D A c I ci G cg L x lo hi) : OwnRecv B w p F (Rf.prog x) := ⟨h.st.recv, h.fresh, h.base.2⟩
theorem PlSt.cells (h : PlSt B w p b F D A c I ci G cg L x lo hi) : w.cell? ⟨b, 0, none⟩ = some (.int .i64 x.R) ∧ w.cell? ⟨b, 1, none⟩ = some (.int .i64 x.H) ∧ w.cell? ⟨b, 2, none⟩ = some (.int .i64 x.MR) ∧ w.cell? ⟨b, 3, none⟩ = some (.int .i64 x.window) ∧ w.cell? ⟨b, 4, none⟩ = some (.slice A x.buf.length c) ∧ w.cell? ⟨b, 5, none⟩ = some (.slice I x.inbox.length ci) ∧ w.cell? ⟨b, 6, none⟩ = some (.slice G x.gaps.length cg) :=
  ⟨h.box.cell 0, h.box.cell 1, h.box.cell 2, h.box.cell 3, h.box.cell 4, h.box.cell 5, h.box.cell 6⟩
/-- Behind a call of Step, and the store of what it gave. -/
theorem PlSt.next (h : PlSt B w p b F D A c I ci G cg L x lo hi) (hr : RecvAt w' p F' (Rf.prog y)) (ha : RfAt w' v y D') (ho : ∀ k, F' k → ¬ D' k) (ht : Touch F w w') (hF : ∀ k, F' k → F k ∨ w.heap.size ≤ k) (hD : ∀ k, D' k → D k ∨ w.heap.size ≤ k) {hi' : Int} (hok : Rf.Ok y lo hi') :
    ∃ A' c' I' ci' G' cg' L', v = .agg #[.int .i64 y.R, .int .i64 y.H, .int .i64 y.MR, .int .i64 y.window, .slice A' y.buf.length c', .slice I' y.inbox.length ci', .slice G' y.gaps.length cg'] ∧ w'.frozen? ⟨b, 0, none⟩ = false ∧ PlSt B (((((((w'.setCell ⟨b, 0, none⟩ (.int .i64 y.R)).setCell ⟨b, 1, none⟩ (.int .i64 y.H)).setCell ⟨b, 2, none⟩ (.int .i64 y.MR)).setCell ⟨b, 3, none⟩ (.int .i64 y.window)).setCell ⟨b, 4, none⟩ (.slice A' y.buf.length c')).setCell ⟨b, 5, none⟩ (.slice I' y.inbox.length ci')).setCell ⟨b, 6, none⟩ (.slice G' y.gaps.length cg')) p b F' D' A' c' I' ci' G' cg' L' y lo hi' := by
  obtain ⟨A', c', I', ci', G', cg', L', e, h1, h2, h3⟩ := ha
  have hb := ht.blk h.box h.nf
  have hlb := h.box.lt
  have hT : Touch (· = b) w' (((((((w'.setCell ⟨b, 0, none⟩ (.int .i64 y.R)).setCell ⟨b, 1, none⟩ (.int .i64 y.H)).setCell ⟨b, 2, none⟩ (.int .i64 y.MR)).setCell ⟨b, 3, none⟩ (.int .i64 y.window)).setCell ⟨b, 4, none⟩ (.slice A' y.buf.length c')).setCell ⟨b, 5, none⟩ (.slice I' y.inbox.length ci')).setCell ⟨b, 6, none⟩ (.slice G' y.gaps.length cg')) := Touch.st7 (S := (· = b)) (Touch.refl _ w') rfl
  refine ⟨A', c', I', ci', G', cg', L', e, hb.frozen 0, ⟨hr.touch hT (fun k hk e => ?_), h1.far hb hT, h2, fun k hk => Nat.lt_of_lt_of_le (h3 k hk) hT.size, ho, hok⟩, Blk.set7 hb _ _ _ _ _ _ _, fun hf => ?_, ?_, h.base.1, fun k hk => ?_⟩
  · subst e
    rcases hF k hk with e | e
    · exact h.nf e
    · omega
  · rcases hF b hf with e | e
    · exact h.nf e
    · omega
  · exact (h.fresh.trans ht (fun k hk hf => by have := h.base.2 k hf; omega)).trans hT (fun k hk e => by have := h.base.1; omega)
  · rcases hF k hk with e | e
    · exact h.base.2 k e
    · exact Nat.le_trans h.fresh.size e
theorem Rv.new_mod (start window : Int) : Rv.new (start % 16777216) window = Rf.prog (Rf.new start window) := by
  rw [← Rf.prog_new]
  unfold Rv.new
  congr 1 <;> omega
theorem PlSt.new {start window : Int} (h : OwnRecv B w p F (Rf.prog (Rf.new start window))) (hb : Blk w b 52 (rfCells (Rf.new start window) none 0 none 0 none 0)) (hnf : ¬ F b) (hB : B.heap.size ≤ b) : PlSt B w p b F (fun _ => False) none 0 none 0 none 0 [] (Rf.new start window) (start % 16777216) (start % 16777216) :=
  ⟨⟨h.at_, ⟨Sl.nil _ _, Sl.nil _ _, Sl.nil _ _, trivial⟩, ⟨fun _ e => (by cases e), fun _ e => (by cases e), fun _ e => (by cases e), fun _ e => (by cases e)⟩, fun _ h => h.elim, fun _ _ h => h, Rf.Ok.new start window _ (Int.le_refl _) (by omega)⟩, hb, hnf, h.fresh, hB, h.base⟩
end

/-- A call of Step on both. -/
theorem plstep {B w : World} {p b : Nat} {F D : Nat → Prop} {A I G : Option Addr} {c ci cg : Nat} {L : List (Option Nat)} {x : Rf.S} {lo hi : Int} (h : PlSt B w p b F D A c I ci G cg L x lo hi) (a : Act12) (hh : hi + 64 - lo ≤ 8000000) (ham : a.m.size ≤ maxLen) :
    Calls Try.prog 24 #[.pointer (some ⟨p, 0, none⟩), .agg #[.int .i64 x.R, .int .i64 x.H, .int .i64 x.MR, .int .i64 x.window, .slice A x.buf.length c, .slice I x.inbox.length ci, .slice G x.gaps.length cg], act12V a] w fun e w' => ∃ F' D' A' c' I' ci' G' cg' L', e = .returned (.tuple #[.agg #[.int .i64 (Rf.step x a).R, .int .i64 (Rf.step x a).H, .int .i64 (Rf.step x a).MR, .int .i64 (Rf.step x a).window, .slice A' (Rf.step x a).buf.length c', .slice I' (Rf.step x a).inbox.length ci', .slice G' (Rf.step x a).gaps.length cg'], .bool true]) ∧
      ((∀ i, w'.frozen? ⟨b, i, none⟩ = false) ∧ w'.cell? ⟨b, 0, none⟩ = some (.int .i64 x.R) ∧ w'.cell? ⟨b, 1, none⟩ = some (.int .i64 x.H) ∧ w'.cell? ⟨b, 2, none⟩ = some (.int .i64 x.MR) ∧ w'.cell? ⟨b, 3, none⟩ = some (.int .i64 x.window) ∧ w'.cell? ⟨b, 4, none⟩ = some (.slice A x.buf.length c) ∧ w'.cell? ⟨b, 5, none⟩ = some (.slice I x.inbox.length ci) ∧ w'.cell? ⟨b, 6, none⟩ = some (.slice G x.gaps.length cg)) ∧ PlSt B (((((((w'.setCell ⟨b, 0, none⟩ (.int .i64 (Rf.step x a).R)).setCell ⟨b, 1, none⟩ (.int .i64 (Rf.step x a).H)).setCell ⟨b, 2, none⟩ (.int .i64 (Rf.step x a).MR)).setCell ⟨b, 3, none⟩ (.int .i64 (Rf.step x a).window)).setCell ⟨b, 4, none⟩ (.slice A' (Rf.step x a).buf.length c')).setCell ⟨b, 5, none⟩ (.slice I' (Rf.step x a).inbox.length ci')).setCell ⟨b, 6, none⟩ (.slice G' (Rf.step x a).gaps.length cg')) p b F' D' A' c' I' ci' G' cg' L' (Rf.step x a) lo (hi + 64) := by
  refine (step12_any p F D A c I ci G cg L x a w h.st hh ham).mono ?_
  rintro e w' ⟨v', F', D', rfl, r1, r2, r3, r4, r5, r6⟩
  obtain ⟨A', c', I', ci', G', cg', L', rfl, _, hp⟩ := h.next r1 r2 r3 r4 r5 r6 (h.st.ok.step a hh)
  have hb := r4.blk h.box h.nf
  exact ⟨F', D', A', c', I', ci', G', cg', L', rfl, ⟨fun i => hb.frozen i, hb.cell 0, hb.cell 1, hb.cell 2, hb.cell 3, hb.cell 4, hb.cell 5, hb.cell 6⟩, hp⟩
end Go.Proofs.Ytpjmgdoekeknjaa

namespace Go.Proofs.Ytpjmgdoekeknjaa
open Go.RowKit

theorem gapL_window (x : Rf.S) : ∀ gs, (Rf.gapL x gs).1.window = x.window
  | [] => rfl
  | g :: gs => by
    have e : Rf.gapL x (g :: gs) = if 0 ≤ (Rf.ft x g).1 then (Rf.renew { x with gaps := gs }, (Rf.ft x g).1, (Rf.ft x g).2, true) else Rf.gapL x gs := rfl
    rw [e]
    split
    · rfl
    · exact gapL_window x gs
theorem step_window (x : Rf.S) (a : Act12) : (Rf.step x a).window = x.window := by
  unfold Rf.step
  split
  · unfold Rf.poll; split <;> rfl
  · split
    · rfl
    · split
      · exact gapL_window x _
      · split
        · rfl
        · split
          · rfl
          · unfold Rf.data
            split
            · unfold Rf.deliver Rf.lay; rfl
            · rfl
/-- R, H and MR stand in their order; what is kept is no more than the window. -/
theorem rv_bounds {y : Rf.S} {lo hi : Int} (h : Rf.Ok y lo hi) : y.H - y.R ≤ y.MR - y.R ∧ y.MR - y.R ≤ y.window ∧ (y.buf.length : Int) + (y.inbox.length : Int) ≤ y.window ∧ y.gaps.length ≤ 8 ∧ (y.buf.length : Int) ≤ y.H - y.R := by
  have h2 := h.hm
  have h3 := h.sum
  have h4 := h.win
  have h5 := h.rh
  have hb : (y.buf.length : Int) ≤ y.H - y.R := by
    have := Rf.nodup_len y.R (y.H - y.R).toNat (y.buf.map (·.1)) h.nod (fun n hn => by
      obtain ⟨p, hp, rfl⟩ := List.mem_map.1 hn
      have := h.keys p hp
      omega)
    simp at this
    omega
  exact ⟨by omega, by omega, by omega, h.glen, hb⟩
theorem rv_vars {B w : World} {p b : Nat} {F D : Nat → Prop} {A I G : Option Addr} {c ci cg : Nat} {L : List (Option Nat)} {x : Rf.S} {lo hi : Int} (h : PlSt B w p b F D A c I ci G cg L x lo hi) :
    Calls Try.prog 16 #[.pointer (some ⟨p, 0, none⟩)] w fun e w' => e = .returned (.agg #[.int .u32 (x.R % 16777216), .int .u32 (x.H % 16777216), .int .u32 (x.MR % 16777216), .int .i64 (x.buf.length : Int), .int .i64 (x.inbox.length : Int), .int .i64 (x.gaps.length : Int)]) ∧ Fresh w w' := by
  refine (rvars_any p F _ w h.st.recv).mono ?_
  rintro e w' ⟨rfl, f⟩
  refine ⟨?_, f⟩
  unfold Rv.varsV Rf.prog Rf.pm Rf.pg
  simp
end Go.Proofs.Ytpjmgdoekeknjaa
