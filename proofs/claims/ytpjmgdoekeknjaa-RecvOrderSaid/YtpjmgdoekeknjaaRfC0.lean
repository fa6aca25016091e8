/-
  polliwogref12: the receiver in a box of the call's own.
-/
import Derived.Test.YtpjmgdoekeknjaaRfM
import Derived.Test.YtpjmgdoekeknjaaCut
import Derived.Deep.RegionHeld3
import Derived.Deep.AppendLies
namespace Go.Proofs.Ytpjmgdoekeknjaa
open Go.RowKit

def rfCells (x : Rf.S) (A : Option Addr) (c : Nat) (I : Option Addr) (ci : Nat) (G : Option Addr) (cg : Nat) : List Value :=
  [.int .i64 x.R, .int .i64 x.H, .int .i64 x.MR, .int .i64 x.window, .slice A x.buf.length c, .slice I x.inbox.length ci, .slice G x.gaps.length cg]
def rfZero : List Value := [.int .i64 0, .int .i64 0, .int .i64 0, .int .i64 0, .slice none 0 0, .slice none 0 0, .slice none 0 0]

theorem Blk.new1 (w : World) (o : Obj) (t : TypeId) (cs : List Value) : Blk ((w.alloc o).alloc (.cells cs.toArray t)) (w.heap.size + 1) t cs := by
  have := Blk.new (w.alloc o) t cs
  rwa [show (w.alloc o).heap.size = w.heap.size + 1 by simp] at this
/-- The receiver in a box of the call's own, behind it the place of the result. -/
structure RfBox (w wr : World) (D : Nat → Prop) (A : Option Addr) (c : Nat) (I : Option Addr) (ci : Nat) (G : Option Addr) (cg : Nat) (L : List (Option Nat)) (x : Rf.S) : Prop where
  blk : Blk wr w.heap.size 52 (rfCells x A c I ci G cg)
  res : Blk wr (w.heap.size + 1) 52 rfZero
  ins : RfIn wr A c I ci G cg L x
  dom : RfD A I G L fun k => D k ∨ w.heap.size ≤ k
  fresh : Fresh w wr
section
variable {w wr wr' : World} {D : Nat → Prop} {A : Option Addr} {c : Nat} {I : Option Addr} {ci : Nat} {G : Option Addr} {cg : Nat} {L : List (Option Nat)} {x x' : Rf.S}
theorem RfBox.new (h : RfIn w A c I ci G cg L x) (hd : RfD A I G L D) : RfBox w ((w.alloc (.cells #[.int .i64 x.R, .int .i64 x.H, .int .i64 x.MR, .int .i64 x.window, .slice A x.buf.length c, .slice I x.inbox.length ci, .slice G x.gaps.length cg] 52)).alloc
    (.cells #[.int .i64 0, .int .i64 0, .int .i64 0, .int .i64 0, .slice none 0 0, .slice none 0 0, .slice none 0 0] 52)) D A c I ci G cg L x := by
  refine ⟨(Blk.new _ _ (rfCells x A c I ci G cg)).alloc _, ?_, h.old (((Touch.refl _ w).alloc _).alloc _), ⟨fun ad e => .inl (hd.A ad e), fun ad e => .inl (hd.I ad e), fun ad e => .inl (hd.G ad e), fun b e => .inl (hd.L b e)⟩, ((Touch.refl _ w).alloc _).alloc _⟩
  have hb := Blk.new (w.alloc (.cells #[.int .i64 x.R, .int .i64 x.H, .int .i64 x.MR, .int .i64 x.window, .slice A x.buf.length c, .slice I x.inbox.length ci, .slice G x.gaps.length cg] 52)) 52 rfZero
  rw [show ∀ o, (w.alloc o).heap.size = w.heap.size + 1 from fun o => by simp] at hb
  exact hb
theorem RfBox.old (h : RfBox w wr D A c I ci G cg L x) (ht : Fresh wr wr') : RfBox w wr' D A c I ci G cg L x :=
  ⟨ht.blk h.blk (fun h => h), ht.blk h.res (fun h => h), h.ins.old ht, h.dom, h.fresh.trans ht (fun _ _ h => h)⟩
/-- A store of a number. -/
theorem RfBox.scalar (h : RfBox w wr D A c I ci G cg L x) (i : Nat) (u : Value) (hc : (rfCells x A c I ci G cg).set i u = rfCells x' A c I ci G cg) (h1 : x'.buf = x.buf) (h2 : x'.inbox = x.inbox) (h3 : x'.gaps = x.gaps) : RfBox w (wr.setCell ⟨w.heap.size, i, none⟩ u) D A c I ci G cg L x' := by
  have ht := Touch.set1 wr w.heap.size i u
  have hi := h.ins.far h.blk ht
  exact ⟨hc ▸ h.blk.set i u, h.res.far (by simp) _, ⟨h1 ▸ hi.buf, h2 ▸ hi.inb, hi.gap, h3 ▸ hi.rows⟩, h.dom, h.fresh.setCell (fun h => by simp at h) _⟩
/-- Other messages, another inbox, other gaps are stored. -/
theorem RfBox.bufd {A' : Option Addr} {c' : Nat} {l : List (Int × ByteArray)} (h : RfBox w wr D A c I ci G cg L x) (hs : Sl itemE wr A' c' l) (hd : ∀ ad, A' = some ad → w.heap.size ≤ ad.block) : RfBox w (wr.setCell ⟨w.heap.size, 4, none⟩ (.slice A' l.length c')) D A' c' I ci G cg L { x with buf := l } := by
  have ht := Touch.set1 wr w.heap.size 4 (.slice A' l.length c')
  have hi := h.ins.far h.blk ht
  exact ⟨h.blk.set 4 _, h.res.far (by simp) _, ⟨hs.touch ht (hs.blk_ne h.blk (by decide)), hi.inb, hi.gap, hi.rows⟩, ⟨fun ad e => .inr (hd ad e), h.dom.I, h.dom.G, h.dom.L⟩, h.fresh.setCell (fun h => by simp at h) _⟩
theorem RfBox.inbd {I' : Option Addr} {c' : Nat} {l : List ByteArray} (h : RfBox w wr D A c I ci G cg L x) (hs : Sl strE wr I' c' l) (hd : ∀ ad, I' = some ad → w.heap.size ≤ ad.block) : RfBox w (wr.setCell ⟨w.heap.size, 5, none⟩ (.slice I' l.length c')) D A c I' c' G cg L { x with inbox := l } := by
  have ht := Touch.set1 wr w.heap.size 5 (.slice I' l.length c')
  have hi := h.ins.far h.blk ht
  exact ⟨h.blk.set 5 _, h.res.far (by simp) _, ⟨hi.buf, hs.touch ht (hs.blk_ne h.blk (by decide)), hi.gap, hi.rows⟩, ⟨h.dom.A, fun ad e => .inr (hd ad e), h.dom.G, h.dom.L⟩, h.fresh.setCell (fun h => by simp at h) _⟩
theorem RfBox.gapd {G' : Option Addr} {c' b : Nat} {g : Int × Int} (h : RfBox w wr D A c I ci G cg L x) (hs : Sl gsE wr G' c' (L ++ [some b])) (hb : Blk wr b 3 [.int .i64 g.1, .int .i64 g.2]) (hd : ∀ ad, G' = some ad → w.heap.size ≤ ad.block) (hbd : w.heap.size ≤ b) :
    RfBox w (wr.setCell ⟨w.heap.size, 6, none⟩ (.slice G' (x.gaps.length + 1) c')) D A c I ci G' c' (L ++ [some b]) { x with gaps := x.gaps ++ [g] } := by
  have ht := Touch.set1 wr w.heap.size 6 (.slice G' (x.gaps.length + 1) c')
  have hi := h.ins.far h.blk ht
  refine ⟨?_, h.res.far (by simp) _, ⟨hi.buf, hi.inb, hs.touch ht (hs.blk_ne h.blk (by decide)), hi.rows.snoc (ht.blk hb (fun e => h.blk.ne_ hb (by decide) e.symm))⟩, ⟨h.dom.A, h.dom.I, fun ad e => .inr (hd ad e), fun b' e => ?_⟩, h.fresh.setCell (fun h => by simp at h) _⟩
  · have := h.blk.set 6 (.slice G' (x.gaps.length + 1) c')
    unfold rfCells at this ⊢
    simpa using this
  · rcases List.mem_append.1 e with e | e
    · exact h.dom.L b' e
    · have := List.mem_singleton.1 e
      injection this with this
      subst this
      exact .inr hbd
theorem RfBox.cells (h : RfBox w wr D A c I ci G cg L x) : wr.cell? ⟨w.heap.size, 0, none⟩ = some (.int .i64 x.R) ∧ wr.cell? ⟨w.heap.size, 1, none⟩ = some (.int .i64 x.H) ∧ wr.cell? ⟨w.heap.size, 2, none⟩ = some (.int .i64 x.MR) ∧ wr.cell? ⟨w.heap.size, 3, none⟩ = some (.int .i64 x.window) ∧
    wr.cell? ⟨w.heap.size, 4, none⟩ = some (.slice A x.buf.length c) ∧ wr.cell? ⟨w.heap.size, 5, none⟩ = some (.slice I x.inbox.length ci) ∧ wr.cell? ⟨w.heap.size, 6, none⟩ = some (.slice G x.gaps.length cg) :=
  ⟨h.blk.cell 0, h.blk.cell 1, h.blk.cell 2, h.blk.cell 3, h.blk.cell 4, h.blk.cell 5, h.blk.cell 6⟩
theorem RfBox.zeros (h : RfBox w wr D A c I ci G cg L x) : wr.cell? ⟨w.heap.size + 1, 0, none⟩ = some (.int .i64 0) ∧ wr.cell? ⟨w.heap.size + 1, 1, none⟩ = some (.int .i64 0) ∧ wr.cell? ⟨w.heap.size + 1, 2, none⟩ = some (.int .i64 0) ∧ wr.cell? ⟨w.heap.size + 1, 3, none⟩ = some (.int .i64 0) ∧
    wr.cell? ⟨w.heap.size + 1, 4, none⟩ = some (.slice none 0 0) ∧ wr.cell? ⟨w.heap.size + 1, 5, none⟩ = some (.slice none 0 0) ∧ wr.cell? ⟨w.heap.size + 1, 6, none⟩ = some (.slice none 0 0) :=
  ⟨h.res.cell 0, h.res.cell 1, h.res.cell 2, h.res.cell 3, h.res.cell 4, h.res.cell 5, h.res.cell 6⟩
/-- What it is behind the store of the result. -/
theorem RfBox.done (h : RfBox w wr D A c I ci G cg L x) (ht : Touch (· = w.heap.size + 1) wr wr') : RfIn wr' A c I ci G cg L x ∧ RfD A I G L (fun k => D k ∨ w.heap.size ≤ k) ∧ Fresh w wr' :=
  ⟨h.ins.far h.res ht, h.dom, h.fresh.trans ht (fun k hk e => by omega)⟩
end

section
variable {w wr wr' : World} {D : Nat → Prop} {A : Option Addr} {c : Nat} {I : Option Addr} {ci : Nat} {G : Option Addr} {cg : Nat} {L : List (Option Nat)} {x x' : Rf.S}
theorem Sl.apart {α β : Type} {E : El α} {F : El β} {wr : World} {A B : Option Addr} {c d : Nat} {l : List α} {m : List β} (h : Sl E wr A c l) (h' : Sl F wr B d m) (hne : E.e ≠ F.e) : ∀ ad, A = some ad → ¬ (B.map Addr.block = some ad.block) := fun ad e e2 => by
  cases B with
  | none => cases e2
  | some bd =>
    injection e2 with e2
    obtain ⟨_, cs, hb, _⟩ := h'.2.2.2 _ rfl
    exact h.blk_ne hb hne ad e e2.symm
theorem Sl.far_blk {β : Type} {F : El β} {wr : World} {B : Option Addr} {d g : Nat} {t : TypeId} {cs : List Value} {m : List β} (h' : Sl F wr B d m) (hb : Blk wr g t cs) (hne : F.e ≠ t) : ¬ (B.map Addr.block = some g) := fun e => by
  cases B with
  | none => cases e
  | some bd =>
    injection e with e
    exact h'.blk_ne hb hne _ rfl e
theorem GapRows.apart {β : Type} {F : El β} {B : Option Addr} {d : Nat} {m : List β} (h' : Sl F wr B d m) (ht : Touch (fun k => B.map Addr.block = some k) wr wr') (hne : F.e ≠ 3) : ∀ {L : List (Option Nat)} {l : List (Int × Int)}, GapRows wr L l → GapRows wr' L l
  | [], [], _ => trivial
  | o :: L, g' :: l, ⟨⟨b, e, hb'⟩, h⟩ => ⟨⟨b, e, ht.blk hb' (h'.far_blk hb' hne)⟩, GapRows.apart h' ht hne h⟩
/-- What is got is put behind what was got. -/
theorem RfBox.out {B : Option Addr} {d : Nat} {O : List ByteArray} (h : RfBox w wr D A c I ci G cg L x) (hI : ∀ ad, I = some ad → ad.block < w.heap.size) (hB : Sl strE wr B d O) (hb : ∀ ad, B = some ad → w.heap.size ≤ ad.block) (ht : Touch (fun k => B.map Addr.block = some k) wr wr') : RfBox w wr' D A c I ci G cg L x := by
  refine ⟨ht.blk h.blk (hB.far_blk h.blk (by decide)), ht.blk h.res (hB.far_blk h.res (by decide)), ⟨h.ins.buf.touch ht (h.ins.buf.apart hB (by decide)), h.ins.inb.touch ht (fun ad e e2 => ?_), h.ins.gap.touch ht (h.ins.gap.apart hB (by decide)), GapRows.apart hB ht (by decide) h.ins.rows⟩, h.dom, h.fresh.trans ht (fun k hk e => ?_)⟩
  · cases B with
    | none => cases e2
    | some bd =>
      injection e2 with e2
      have h1 := hI ad e
      have h2 := hb bd rfl
      omega
  · cases B with
    | none => cases e
    | some bd =>
      injection e with e
      have h2 := hb bd rfl
      omega
/-- What stays is put behind what stays. -/
theorem RfBox.rest {b0 : Nat} {T : Option Addr} {d : Nat} {l : List (Int × ByteArray)} (h : RfBox w wr D A c I ci G cg L x) (hA : ∀ ad, A = some ad → ad.block < b0) (hT : Sl itemE wr T d l) (hb : ∀ ad, T = some ad → b0 ≤ ad.block) (hw : w.heap.size ≤ b0) (ht : Touch (fun k => T.map Addr.block = some k) wr wr') : RfBox w wr' D A c I ci G cg L x := by
  refine ⟨ht.blk h.blk (hT.far_blk h.blk (by decide)), ht.blk h.res (hT.far_blk h.res (by decide)), ⟨h.ins.buf.touch ht (fun ad e e2 => ?_), h.ins.inb.touch ht (h.ins.inb.apart hT (by decide)), h.ins.gap.touch ht (h.ins.gap.apart hT (by decide)), GapRows.apart hT ht (by decide) h.ins.rows⟩, h.dom, h.fresh.trans ht (fun k hk e => ?_)⟩
  · cases T with
    | none => cases e2
    | some bd =>
      injection e2 with e2
      have h1 := hA ad e
      have h2 := hb bd rfl
      omega
  · cases T with
    | none => cases e
    | some bd =>
      injection e with e
      have h2 := hb bd rfl
      omega
end
section
variable {w wr W w9 : World} {D : Nat → Prop} {A : Option Addr} {c : Nat} {I : Option Addr} {ci : Nat} {G : Option Addr} {cg : Nat} {L : List (Option Nat)} {x : Rf.S} {B B2 T T2 : Option Addr} {d d2 t t2 b0 : Nat} {O O2 : List ByteArray} {M M2 : List (Int × ByteArray)}
theorem RfBox.restEnd (h : RfBox w wr D A c I ci G cg L x) (hm : Mine strE w wr B d O) (hT : Sl itemE wr T t M ∧ (∀ ad, T = some ad → b0 ≤ ad.block) ∧ b0 ≤ wr.heap.size) (hf : Fresh wr W) (hA : ∀ ad, A = some ad → ad.block < b0) (hw : w.heap.size ≤ b0)
    (hs : Sl itemE w9 T2 t2 M2) (ht : Touch (fun k => T.map Addr.block = some k) W w9) (h2 : T2.map Addr.block = T.map Addr.block ∨ T2.map Addr.block = some W.heap.size) :
    RfBox w w9 D A c I ci G cg L x ∧ Mine strE w w9 B d O ∧ (Sl itemE w9 T2 t2 M2 ∧ (∀ ad, T2 = some ad → b0 ≤ ad.block) ∧ b0 ≤ w9.heap.size) := by
  have hT' : Sl itemE W T t M := hT.1.touch hf (fun _ _ h => h)
  have hm' := hm.old hf
  refine ⟨(h.old hf).rest hA hT' hT.2.1 hw ht, ⟨hm'.sl.touch ht (hm'.sl.apart hT' (by decide)), hm'.fresh.trans ht (fun k hk e => ?_), hm'.base⟩, hs, fun ad e => ?_, ?_⟩
  · cases T with
    | none => cases e
    | some bd => injection e with e; have := hT.2.1 bd rfl; omega
  · subst e
    rcases h2 with e | e
    · cases T with
      | none => cases e
      | some bd => have := hT.2.1 bd rfl; simp at e; omega
    · have h3 := hf.size
      have h4 := hT.2.2
      simp at e
      omega
  · have h3 := hf.size
    have h4 := hT.2.2
    have h5 := ht.size
    omega
theorem RfBox.outEnd (h : RfBox w wr D A c I ci G cg L x) (hm : Mine strE w wr B d O) (hT : Sl itemE wr T t M ∧ (∀ ad, T = some ad → b0 ≤ ad.block) ∧ b0 ≤ wr.heap.size) (hf : Fresh wr W) (hI : ∀ ad, I = some ad → ad.block < w.heap.size)
    (hs : Sl strE w9 B2 d2 O2) (ht : Touch (fun k => B.map Addr.block = some k) W w9) (h2 : B2.map Addr.block = B.map Addr.block ∨ B2.map Addr.block = some W.heap.size) :
    RfBox w w9 D A c I ci G cg L x ∧ Mine strE w w9 B2 d2 O2 ∧ (Sl itemE w9 T t M ∧ (∀ ad, T = some ad → b0 ≤ ad.block) ∧ b0 ≤ w9.heap.size) := by
  have hT' : Sl itemE W T t M := hT.1.touch hf (fun _ _ h => h)
  have hm' := hm.old hf
  refine ⟨(h.old hf).out hI hm'.sl hm'.base ht, hm'.app hs ht h2, hT'.touch ht (hT'.apart hm'.sl (by decide)), hT.2.1, ?_⟩
  have h3 := hf.size
  have h4 := hT.2.2
  have h5 := ht.size
  omega
end
theorem Rf.mdel_snoc (l : List (Int × ByteArray)) (y : Int × ByteArray) (r : Int) : mdel (l ++ [y]) r = mdel l r ++ (if y.1 = r then [] else [y]) := by
  unfold mdel
  rw [List.filter_append]
  by_cases h : y.1 = r <;> simp [h]
theorem Rf.mget_snoc (l : List (Int × ByteArray)) (y : Int × ByteArray) (r : Int) : mget (l ++ [y]) r = (mget l r).or (if y.1 = r then some y.2 else none) := by
  rw [mget_append, mget_cons]
  rfl
theorem Rf.mget_once {m : List (Int × ByteArray)} (hn : (m.map (·.1)).Nodup) {k : Nat} (hk : k < m.length) {r : Int} {u : ByteArray} (h : mget (m.take k) r = some u) : (m.getD k (0, ByteArray.empty)).1 ≠ r := fun e => by
  obtain ⟨p, hp, e2⟩ := mget_mem h
  obtain ⟨j, hj, rfl⟩ := List.getElem_of_mem hp
  rw [List.getElem_take] at e2
  have hjk : j < k := by simp at hj; omega
  have e3 : (m.getD k (0, ByteArray.empty)) = m[k] := by simp [List.getD, List.getElem?_eq_getElem hk]
  rw [e3] at e
  have := List.pairwise_iff_getElem.1 hn j k (by simp; omega) (by simpa using hk) hjk
  simp only [List.getElem_map] at this
  exact this (e2.trans e.symm)
theorem Rf.dl_none {k : Nat} {r : Int} {m : List (Int × ByteArray)} {out : List ByteArray} (h : mget m r = none) : Rf.dl k r m out = (r, m, out) := by
  cases k with
  | zero => rfl
  | succ k => unfold Rf.dl; rw [h]
theorem Rf.dl_some {k : Nat} {r : Int} {m : List (Int × ByteArray)} {out : List ByteArray} {v : ByteArray} (h : mget m r = some v) : Rf.dl (k + 1) r m out = Rf.dl k (r + 1) (mdel m r) (out ++ [v]) := by
  conv => lhs; unfold Rf.dl
  rw [h]

def RfDataPost (w : World) (D : Nat → Prop) (y : Rf.S) (O : List ByteArray) (e : Ending) (w' : World) : Prop :=
  ∃ A c I ci G cg L B d, e = .returned (.tuple #[rfV y A c I ci G cg, .slice B O.length d]) ∧ RfIn w' A c I ci G cg L y ∧ RfD A I G L (fun k => D k ∨ w.heap.size ≤ k) ∧ Fresh w w' ∧ Sl strE w' B d O ∧ ∀ ad, B = some ad → w.heap.size ≤ ad.block

end Go.Proofs.Ytpjmgdoekeknjaa
