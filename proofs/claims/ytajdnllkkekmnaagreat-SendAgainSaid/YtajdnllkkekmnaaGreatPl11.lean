/-
  polliwoglaw11: how the acts come in; a sender and the document's beside it.
-/
import Derived.Test.YtajdnllkkekmnaaGreatStp11a
import Derived.Test.YtajdnllkkekmnaaGreatOpen
import Derived.Test.YtajdnllkkekmnaaGreatOpen2
import Derived.Test.YtajdnllkkekmnaaGreatSnd
namespace Go.Proofs.YtajdnllkkekmnaaGreat
open Go.RowKit Go.ChangeShapes Go.WideShapes Go.ChangeAt

/-- An act, and where its list stands. -/
structure Act11b where
  a : Act11
  A : Option Addr
  c : Nat
def Act11b.none : Act11b := ⟨⟨0, 0, 0, 0, [], false, ByteArray.empty⟩, .none, 0⟩
def act11E : El Act11b := { e := 38, size := 7, bytes := 80, zero := .agg #[.int .i64 0, .int .i64 0, .int .i64 0, .int .i64 0, .slice none 0 0, .bool false, .string ByteArray.empty], zel := Act11b.none, enc := fun x => act11C x.a x.A x.c, len := fun _ => rfl, one := by simp [act11C, Value.oneCell'], pos := by decide, zsize := rfl, zenc := rfl }
def Act11b.Good (W : World) (b : Act11b) : Prop := Rd intE W b.A b.c b.a.l ∧ b.a.m.size ≤ maxLen
theorem Act11b.Good.len {W : World} {b : Act11b} (h : b.Good W) : b.a.l.length ≤ 9223372036854775807 := by
  have h1 := h.1.1
  have h2 := h.1.2.1
  unfold maxLen at h2
  omega

theorem dec_act11 {H : Type} {enc : TypeId × Value → H} {W : World} (n : Nat) (cs : List Value) (y : DataW H × List MemPlace) (hy : DataW.trod enc Tryz.prog W 0 (fun _ => true) true n act11E.e cs = some y) : ∃ a : Act11b, cs = act11E.enc a ∧ a.Good W := by
  obtain ⟨hl, m, hf⟩ := open_fields Tryz.underlying38 (by kernel_rfl) (by kernel_rfl) hy
  match cs, hl with
  | [c0, c1, c2, c3, c4, c5, c6], _ =>
    obtain ⟨_, f0⟩ := hf 0 _ rfl
    obtain ⟨_, f1⟩ := hf 1 _ rfl
    obtain ⟨_, f2⟩ := hf 2 _ rfl
    obtain ⟨_, f3⟩ := hf 3 _ rfl
    obtain ⟨_, f4⟩ := hf 4 _ rfl
    obtain ⟨_, f5⟩ := hf 5 _ rfl
    obtain ⟨_, f6⟩ := hf 6 _ rfl
    obtain ⟨x0, e0, _, _⟩ := DataW.trod_int Tryz.underlying3 f0
    obtain ⟨x1, e1, _, _⟩ := DataW.trod_int Tryz.underlying3 f1
    obtain ⟨x2, e2, _, _⟩ := DataW.trod_int Tryz.underlying3 f2
    obtain ⟨x3, e3, _, _⟩ := DataW.trod_int Tryz.underlying3 f3
    obtain ⟨A, c, l, e4, r4, _⟩ := open_rd_cell intE Tryz.underlying31 (by kernel_rfl) (Good := fun _ => True) (fun n cs y hy => by
      obtain ⟨x, rfl, _, hw⟩ := DataW.trod_int Tryz.underlying3 hy
      exact ⟨x, rfl, trivial⟩) f4
    obtain ⟨x5, e5, _⟩ := DataW.trod_bool Tryz.underlying4 f5
    obtain ⟨x6, e6, _, hs⟩ := DataW.trod_string Tryz.underlying9 f6
    simp at e0 e1 e2 e3 e4 e5 e6
    subst e0 e1 e2 e3 e4 e5 e6
    exact ⟨⟨⟨x0, x1, x2, x3, l, x5, x6⟩, A, c⟩, rfl, r4, hs⟩
set_option maxRecDepth 10000 in
theorem open_rd_act11 {H : Type} {enc : TypeId × Value → H} {W : World} {base : Nat} {v : Value} {d : DataW H} {p : List MemPlace}
    (hv : Value.okWide Tryz.prog W .any base 22 v) (h : DataW.Trod enc Tryz.prog W 0 (fun _ => true) true 22 v d p) :
    ∃ A c l, v = .slice A l.length c ∧ Rd act11E W A c l ∧ ∀ a ∈ l, a.Good W :=
  open_rd act11E Tryz.underlying22 (by kernel_rfl) dec_act11 hv h

/-- Act k's cells. -/
theorem Rd.act11_at {w : World} {A : Option Addr} {c : Nat} {l : List Act11b} (h : Rd act11E w A c l) (k : Nat) (hk : k < l.length) {z : Act11b} (hz : l.getD k Act11b.none = z) :
    ∃ g o, A = some ⟨g, o, none⟩ ∧ g < w.heap.size ∧ w.cell? ⟨g, o + k * 7, none⟩ = some (.int .i64 z.a.kind) ∧ w.cell? ⟨g, o + k * 7 + 1, none⟩ = some (.int .i64 z.a.r) ∧ w.cell? ⟨g, o + k * 7 + 2, none⟩ = some (.int .i64 z.a.mr) ∧ w.cell? ⟨g, o + k * 7 + 3, none⟩ = some (.int .i64 z.a.ps) ∧ w.cell? ⟨g, o + k * 7 + 4, none⟩ = some (.slice z.A z.a.l.length z.c) ∧ w.cell? ⟨g, o + k * 7 + 5, none⟩ = some (.bool z.a.raw) ∧ w.cell? ⟨g, o + k * 7 + 6, none⟩ = some (.string z.a.m) := by
  subst hz
  obtain ⟨g, o, hA, hg, hc⟩ := h.at_ k hk
  refine ⟨g, o, hA, hg, ?_, ?_, ?_, ?_, ?_, ?_, ?_⟩
  · exact hc 0 _ (by simp [act11E, act11C, List.getD, List.getElem?_eq_getElem hk])
  · exact hc 1 _ (by simp [act11E, act11C, List.getD, List.getElem?_eq_getElem hk])
  · exact hc 2 _ (by simp [act11E, act11C, List.getD, List.getElem?_eq_getElem hk])
  · exact hc 3 _ (by simp [act11E, act11C, List.getD, List.getElem?_eq_getElem hk])
  · exact hc 4 _ (by simp [act11E, act11C, List.getD, List.getElem?_eq_getElem hk])
  · exact hc 5 _ (by simp [act11E, act11C, List.getD, List.getElem?_eq_getElem hk])
  · exact hc 6 _ (by simp [act11E, act11C, List.getD, List.getElem?_eq_getElem hk])
theorem Act11b.good_at {W w : World} {l : List Act11b} (h : ∀ a ∈ l, a.Good W) (hf : Fresh W w) (k : Nat) (hk : k < l.length) {z : Act11b} (hz : l.getD k Act11b.none = z) : Rd intE w z.A z.c z.a.l ∧ z.a.l.length ≤ 9223372036854775807 ∧ z.a.m.size ≤ maxLen := by
  have e : z ∈ l := by
    rw [← hz]
    have e : l.getD k Act11b.none = l[k] := by simp [List.getD, List.getElem?_eq_getElem hk]
    rw [e]
    exact List.getElem_mem _
  have g := h z e
  exact ⟨g.1.touch hf (fun _ _ _ h => h), g.len, g.2⟩

/-- A sender of the law's own, and the document's in a box beside it. -/
structure PlSt11 (B w : World) (p b : Nat) (F D : Nat → Prop) (P : SfP) (x : Sf.S) (lo hi : Int) : Prop where
  st : St11 w p F D P x lo hi
  box : Blk w b 33 (sfCells x P)
  nf : ¬ F b
  fresh : Fresh B w
  base : B.heap.size ≤ b ∧ ∀ k, F k → B.heap.size ≤ k
section
variable {B w w' : World} {p b : Nat} {F D F' D' : Nat → Prop} {P P' : SfP} {x y : Sf.S} {lo hi hi' : Int} {v : Value}
theorem St11.old (h : St11 w p F D P x lo hi) (ht : Fresh w w') : St11 w' p F D P x lo hi :=
  ⟨h.send.old ht, fun k hk => Nat.lt_of_lt_of_le (h.lim k hk) ht.size, h.ins.old ht, h.dom, fun k hk => Nat.lt_of_lt_of_le (h.dlim k hk) ht.size, h.off, h.ok⟩
theorem PlSt11.old (h : PlSt11 B w p b F D P x lo hi) (ht : Fresh w w') : PlSt11 B w' p b F D P x lo hi :=
  ⟨h.st.old ht, ht.blk h.box (fun h => h), h.nf, h.fresh.trans ht (fun _ _ h => h), h.base⟩
theorem PlSt11.cells (h : PlSt11 B w p b F D P x lo hi) : w.cell? ⟨b, 0, none⟩ = some (.int .i64 x.s) ∧ w.cell? ⟨b, 1, none⟩ = some (.int .i64 x.a) ∧ w.cell? ⟨b, 2, none⟩ = some (.int .i64 x.ms) ∧ w.cell? ⟨b, 3, none⟩ = some (.int .i64 x.ps) ∧ w.cell? ⟨b, 4, none⟩ = some (.int .i64 x.pa) ∧ w.cell? ⟨b, 5, none⟩ = some (.int .i64 x.units) ∧ w.cell? ⟨b, 6, none⟩ = some (.int .i64 x.polls) ∧ w.cell? ⟨b, 7, none⟩ = some (.int .i64 (x.most : Int)) ∧ w.cell? ⟨b, 8, none⟩ = some (.slice P.W x.wait.length P.cw) ∧ w.cell? ⟨b, 9, none⟩ = some (.slice P.K x.kept.length P.ck) ∧ w.cell? ⟨b, 10, none⟩ = some (.slice P.L x.last.length P.cl) ∧ w.cell? ⟨b, 11, none⟩ = some (.slice P.G x.again.length P.cg) :=
  ⟨h.box.cell 0, h.box.cell 1, h.box.cell 2, h.box.cell 3, h.box.cell 4, h.box.cell 5, h.box.cell 6, h.box.cell 7, h.box.cell 8, h.box.cell 9, h.box.cell 10, h.box.cell 11⟩
/-- Behind a call of Step, and the store of what it gave. -/
theorem PlSt11.next (h : PlSt11 B w p b F D P x lo hi) (hs : St11 w' p F' D' P' y lo hi') (ht : Touch F w w') (hF : ∀ k, F' k → F k ∨ w.heap.size ≤ k) :
    PlSt11 B ((((((((((((w'.setCell ⟨b, 0, none⟩ (.int .i64 y.s)).setCell ⟨b, 1, none⟩ (.int .i64 y.a)).setCell ⟨b, 2, none⟩ (.int .i64 y.ms)).setCell ⟨b, 3, none⟩ (.int .i64 y.ps)).setCell ⟨b, 4, none⟩ (.int .i64 y.pa)).setCell ⟨b, 5, none⟩ (.int .i64 y.units)).setCell ⟨b, 6, none⟩ (.int .i64 y.polls)).setCell ⟨b, 7, none⟩ (.int .i64 (y.most : Int))).setCell ⟨b, 8, none⟩ (.slice P'.W y.wait.length P'.cw)).setCell ⟨b, 9, none⟩ (.slice P'.K y.kept.length P'.ck)).setCell ⟨b, 10, none⟩ (.slice P'.L y.last.length P'.cl)).setCell ⟨b, 11, none⟩ (.slice P'.G y.again.length P'.cg)) p b F' D' P' y lo hi' := by
  have hb := ht.blk h.box h.nf
  have hlb := h.box.lt
  have hnf : ¬ F' b := fun hf => by
    rcases hF b hf with e | e
    · exact h.nf e
    · omega
  have hT : Touch (· = b) w' ((((((((((((w'.setCell ⟨b, 0, none⟩ (.int .i64 y.s)).setCell ⟨b, 1, none⟩ (.int .i64 y.a)).setCell ⟨b, 2, none⟩ (.int .i64 y.ms)).setCell ⟨b, 3, none⟩ (.int .i64 y.ps)).setCell ⟨b, 4, none⟩ (.int .i64 y.pa)).setCell ⟨b, 5, none⟩ (.int .i64 y.units)).setCell ⟨b, 6, none⟩ (.int .i64 y.polls)).setCell ⟨b, 7, none⟩ (.int .i64 (y.most : Int))).setCell ⟨b, 8, none⟩ (.slice P'.W y.wait.length P'.cw)).setCell ⟨b, 9, none⟩ (.slice P'.K y.kept.length P'.ck)).setCell ⟨b, 10, none⟩ (.slice P'.L y.last.length P'.cl)).setCell ⟨b, 11, none⟩ (.slice P'.G y.again.length P'.cg)) := Touch.st12 (S := (· = b)) (Touch.refl _ w') rfl
  refine ⟨⟨hs.send.away hT (fun k hk hf => ?_), fun k hk => Nat.lt_of_lt_of_le (hs.lim k hk) hT.size, hs.ins.far hb hT, hs.dom, fun k hk => Nat.lt_of_lt_of_le (hs.dlim k hk) hT.size, hs.off, hs.ok⟩, Blk.set12 hb _ _ _ _ _ _ _ _ _ _ _ _, hnf, ?_, h.base.1, fun k hk => ?_⟩
  · have hk : k = b := hk
    subst hk
    exact hnf hf
  · exact (h.fresh.trans ht (fun k hk hf => by have := h.base.2 k hf; omega)).trans hT (fun k hk e => by have := h.base.1; have e : k = b := e; omega)
  · rcases hF k hk with e | e
    · exact h.base.2 k e
    · exact Nat.le_trans h.fresh.size e
theorem Sd.new_mod (start queue polls : Int) : Sd.new (start % 16777216) queue polls = Sf.prog (Sf.new start queue polls) := by
  rw [← Sf.prog_new]
  unfold Sd.new
  congr 1 <;> omega
theorem SfIn.new (w : World) (start queue polls : Int) : SfIn w SfP.none (Sf.new start queue polls) := ⟨Sl.nil _ _, Sl.nil _ _, Sl.nil _ _, Sl.nil _ _⟩
/-- A law's own sender, and the document's new one, laid into a box. -/
theorem PlSt11.new {start queue polls : Int} (h : OwnSend B w p (Sf.prog (Sf.new start queue polls))) :
    PlSt11 B (w.alloc (.cells #[.int .i64 (Sf.new start queue polls).s, .int .i64 (Sf.new start queue polls).a, .int .i64 (Sf.new start queue polls).ms, .int .i64 (Sf.new start queue polls).ps, .int .i64 (Sf.new start queue polls).pa, .int .i64 (Sf.new start queue polls).units, .int .i64 (Sf.new start queue polls).polls, .int .i64 ((Sf.new start queue polls).most : Int), .slice SfP.none.W (Sf.new start queue polls).wait.length SfP.none.cw, .slice SfP.none.K (Sf.new start queue polls).kept.length SfP.none.ck, .slice SfP.none.L (Sf.new start queue polls).last.length SfP.none.cl, .slice SfP.none.G (Sf.new start queue polls).again.length SfP.none.cg] 33)) p w.heap.size (fun k => B.heap.size ≤ k ∧ k < w.heap.size) (fun _ => False) SfP.none (Sf.new start queue polls) (start % 16777216) (start % 16777216) := by
  have t : Fresh w (w.alloc (.cells (sfCells (Sf.new start queue polls) SfP.none).toArray 33)) := (Touch.refl _ _).alloc _
  exact ⟨⟨h.at_.cut.old t, fun k hk => Nat.lt_of_lt_of_le hk.2 t.size, SfIn.new _ _ _ _, ⟨fun _ e => (by cases e), fun _ e => (by cases e), fun _ e => (by cases e), fun _ e => (by cases e)⟩, fun _ h => h.elim, fun _ _ h => h, Sf.Ok.new start queue polls _ (Int.le_refl _) (by omega)⟩, Blk.new w _ _, fun hf => Nat.lt_irrefl _ hf.2, h.fresh.trans t (fun _ _ h => h), h.fresh.size, fun k hk => hk.1⟩
theorem St11.went {w1 w2 : World} (h : St11 w p F D P x lo hi) (h1 : SendAt w1 p (Grown F w) (Sf.prog y)) (t1 : Touch F w w1) (h2 : SfIn w2 P' y) (h3 : SfD P' (Within D w1.heap.size w2.heap.size)) (t2 : Fresh w1 w2) (hok : Sf.Ok y lo hi') :
    St11 w2 p (Within F w.heap.size w1.heap.size) (Within D w1.heap.size w2.heap.size) P' y lo hi' := by
  have hs1 := t1.size
  have hs2 := t2.size
  refine ⟨(SendAt.within h1).old t2, fun k hk => ?_, h2, h3, fun k hk => ?_, fun k hk hk2 => ?_, hok⟩
  · rcases hk with hk | hk
    · have := h.lim k hk; omega
    · omega
  · rcases hk with hk | hk
    · have := h.dlim k hk; omega
    · omega
  · rcases hk with hk | hk
    · rcases hk2 with hk2 | hk2
      · exact h.off k hk hk2
      · have := h.lim k hk; omega
    · rcases hk2 with hk2 | hk2
      · have := h.dlim k hk2; omega
      · omega
/-- Behind a call on the program's, one on the document's, and its store. -/
theorem PlSt11.went {w1 w2 : World} (h : PlSt11 B w p b F D P x lo hi) (h1 : SendAt w1 p (Grown F w) (Sf.prog y)) (t1 : Touch F w w1) (h2 : SfIn w2 P' y) (h3 : SfD P' (Within D w1.heap.size w2.heap.size)) (t2 : Fresh w1 w2) (hok : Sf.Ok y lo hi') :
    PlSt11 B ((((((((((((w2.setCell ⟨b, 0, none⟩ (.int .i64 y.s)).setCell ⟨b, 1, none⟩ (.int .i64 y.a)).setCell ⟨b, 2, none⟩ (.int .i64 y.ms)).setCell ⟨b, 3, none⟩ (.int .i64 y.ps)).setCell ⟨b, 4, none⟩ (.int .i64 y.pa)).setCell ⟨b, 5, none⟩ (.int .i64 y.units)).setCell ⟨b, 6, none⟩ (.int .i64 y.polls)).setCell ⟨b, 7, none⟩ (.int .i64 (y.most : Int))).setCell ⟨b, 8, none⟩ (.slice P'.W y.wait.length P'.cw)).setCell ⟨b, 9, none⟩ (.slice P'.K y.kept.length P'.ck)).setCell ⟨b, 10, none⟩ (.slice P'.L y.last.length P'.cl)).setCell ⟨b, 11, none⟩ (.slice P'.G y.again.length P'.cg)) p b (Within F w.heap.size w1.heap.size) (Within D w1.heap.size w2.heap.size) P' y lo hi' :=
  h.next (h.st.went h1 t1 h2 h3 t2 hok) (t1.trans t2 (fun _ _ h => h.elim)) (fun k hk => by
    rcases hk with hk | hk
    · exact .inl hk
    · exact .inr hk.1)
/-- Behind a call on the program's that changes nothing. -/
theorem PlSt11.same {w1 : World} (h : PlSt11 B w p b F D P x lo hi) (h1 : SendAt w1 p (Grown F w) (Sf.prog x)) (t1 : Touch F w w1) : PlSt11 B w1 p b (Within F w.heap.size w1.heap.size) D P x lo hi := by
  have hs1 := t1.size
  have hlb := h.box.lt
  refine ⟨⟨SendAt.within h1, fun k hk => ?_, h.st.ins.touch h.st.dom t1 (fun k hd hf => h.st.off k hf hd), h.st.dom, fun k hk => Nat.lt_of_lt_of_le (h.st.dlim k hk) hs1, fun k hk hk2 => ?_, h.st.ok⟩, t1.blk h.box h.nf, fun hf => ?_, h.fresh.trans t1 (fun k hk hf => by have := h.base.2 k hf; omega), h.base.1, fun k hk => ?_⟩
  · rcases hk with hk | hk
    · have := h.st.lim k hk; omega
    · omega
  · rcases hk with hk | hk
    · exact h.st.off k hk hk2
    · have := h.st.dlim k hk2; omega
  · rcases hf with hk | hk
    · exact h.nf hk
    · omega
  · rcases hk with hk | hk
    · exact h.base.2 k hk
    · exact Nat.le_trans h.fresh.size hk.1
theorem PlSt11.vars (h : PlSt11 B w p b F D P x lo hi) : Calls Tryz.prog 13 #[.pointer (some ⟨p, 0, none⟩)] w fun e w' => ∃ A' c', e = .returned (.agg #[.int .u32 (x.s % 16777216), .int .u32 (x.a % 16777216), .int .u32 (x.ms % 16777216), .int .u32 (x.ps % 16777216), .int .u32 (x.pa % 16777216), .int .i64 x.units, .int .i64 (x.wait.length : Int), .int .i64 (x.kept.length : Int), .slice A' x.again.length c']) ∧ Mine numE w w' A' c' (Sf.pa x.again) := by
  have hl : (Sf.prog x).again.length ≤ 16777216 := by show (Sf.pa x.again).length ≤ _; have := h.st.ok.again_len; have := h.st.ok.kl; simp [Sf.pa]; omega
  refine (svars_any p F (Sf.prog x) w h.st.send hl).mono ?_
  rintro e w' ⟨A', c', rfl, m⟩
  refine ⟨A', c', ?_, m⟩
  have e1 : (Sf.prog x).m.length = x.kept.length := h.st.ok.m_len
  have e2 : (Sf.prog x).again.length = x.again.length := by show (Sf.pa x.again).length = _; simp [Sf.pa]
  rw [Sd.varsV]
  rw [e1, e2]
  rfl
end

/-- A call of Step on both. -/
theorem plstep11 {B w : World} {p b : Nat} {F D : Nat → Prop} {P : SfP} {x : Sf.S} {lo hi : Int} (h : PlSt11 B w p b F D P x lo hi) (a : Act11) (A : Option Addr) (c : Nat) (hA : Rd intE w A c a.l) (hAl : a.l.length ≤ 9223372036854775807) (ham : a.m.size ≤ maxLen) (hh : hi + 4 - lo ≤ 4000) {y : Sf.S} (hy : Sf.step x a (cut5 a.m) = y) :
    Calls Tryz.prog 11 #[.pointer (some ⟨p, 0, none⟩), .agg #[.int .i64 x.s, .int .i64 x.a, .int .i64 x.ms, .int .i64 x.ps, .int .i64 x.pa, .int .i64 x.units, .int .i64 x.polls, .int .i64 (x.most : Int), .slice P.W x.wait.length P.cw, .slice P.K x.kept.length P.ck, .slice P.L x.last.length P.cl, .slice P.G x.again.length P.cg], .agg #[.int .i64 a.kind, .int .i64 a.r, .int .i64 a.mr, .int .i64 a.ps, .slice A a.l.length c, .bool a.raw, .string a.m]] w fun e w' => ∃ F' D' P', e = .returned (.tuple #[.agg #[.int .i64 y.s, .int .i64 y.a, .int .i64 y.ms, .int .i64 y.ps, .int .i64 y.pa, .int .i64 y.units, .int .i64 y.polls, .int .i64 (y.most : Int), .slice P'.W y.wait.length P'.cw, .slice P'.K y.kept.length P'.ck, .slice P'.L y.last.length P'.cl, .slice P'.G y.again.length P'.cg], .bool true]) ∧
      ((∀ i, w'.frozen? ⟨b, i, none⟩ = false) ∧ w'.cell? ⟨b, 0, none⟩ = some (.int .i64 x.s) ∧ w'.cell? ⟨b, 1, none⟩ = some (.int .i64 x.a) ∧ w'.cell? ⟨b, 2, none⟩ = some (.int .i64 x.ms) ∧ w'.cell? ⟨b, 3, none⟩ = some (.int .i64 x.ps) ∧ w'.cell? ⟨b, 4, none⟩ = some (.int .i64 x.pa) ∧ w'.cell? ⟨b, 5, none⟩ = some (.int .i64 x.units) ∧ w'.cell? ⟨b, 6, none⟩ = some (.int .i64 x.polls) ∧ w'.cell? ⟨b, 7, none⟩ = some (.int .i64 (x.most : Int)) ∧ w'.cell? ⟨b, 8, none⟩ = some (.slice P.W x.wait.length P.cw) ∧ w'.cell? ⟨b, 9, none⟩ = some (.slice P.K x.kept.length P.ck) ∧ w'.cell? ⟨b, 10, none⟩ = some (.slice P.L x.last.length P.cl) ∧ w'.cell? ⟨b, 11, none⟩ = some (.slice P.G x.again.length P.cg)) ∧ PlSt11 B ((((((((((((w'.setCell ⟨b, 0, none⟩ (.int .i64 y.s)).setCell ⟨b, 1, none⟩ (.int .i64 y.a)).setCell ⟨b, 2, none⟩ (.int .i64 y.ms)).setCell ⟨b, 3, none⟩ (.int .i64 y.ps)).setCell ⟨b, 4, none⟩ (.int .i64 y.pa)).setCell ⟨b, 5, none⟩ (.int .i64 y.units)).setCell ⟨b, 6, none⟩ (.int .i64 y.polls)).setCell ⟨b, 7, none⟩ (.int .i64 (y.most : Int))).setCell ⟨b, 8, none⟩ (.slice P'.W y.wait.length P'.cw)).setCell ⟨b, 9, none⟩ (.slice P'.K y.kept.length P'.ck)).setCell ⟨b, 10, none⟩ (.slice P'.L y.last.length P'.cl)).setCell ⟨b, 11, none⟩ (.slice P'.G y.again.length P'.cg)) p b F' D' P' y lo (hi + 4) ∧ Touch F w w' ∧ (∀ k, F' k → F k ∨ w.heap.size ≤ k) := by
  subst hy
  refine (step11_any p F D P x a A c w h.st hA hAl ham hh).mono ?_
  rintro e w' ⟨P', F', D', rfl, r1, r2, r3, _⟩
  have hb := r2.blk h.box h.nf
  exact ⟨F', D', P', rfl, ⟨fun i => hb.frozen i, hb.cell 0, hb.cell 1, hb.cell 2, hb.cell 3, hb.cell 4, hb.cell 5, hb.cell 6, hb.cell 7, hb.cell 8, hb.cell 9, hb.cell 10, hb.cell 11⟩, h.next r1 r2 r3, r2, r3⟩
end Go.Proofs.YtajdnllkkekmnaaGreat
