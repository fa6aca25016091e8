/-
  polliwoglaw16.NodeUnits: a new end, or one that is Ready, and the document's beside it. No conditions.
-/
import Derived.Test.YtipaobpmojahaaaGreatAwk
import Derived.Test.YtipaobpmojahaaaGreatUnP
set_option maxHeartbeats 16000000
namespace Go.Proofs.YtipaobpmojahaaaGreat
open Go.RowKit
set_option maxRecDepth 20000
set_option linter.constructorNameAsVariable false

namespace Un
structure B where
 n : Nat
 x : En.X
 g : Nat
 L : Option Addr
 cL : Nat
structure W5 (w w5 : World) (bc b8 : Nat) (cin : List Value) (y0 y1 y2 y3 y4 y5 : Int) (X : Rn) (Q : En.X -> Prop) (b : B) (d : Nat -> Bool) (W : World) : Prop where
 t : Touch (· = b8) w5 W
 c1 : Blk W bc 24 cin
 bx : Blk W b8 40 (if d 6 = true then (rn0 y0 y1 y2 y3 y4 y5 (some ⟨b.g, 0, none⟩) 5 b.L b.cL).cells else X.cells)
 ex : d 1 = true -> Held (· = b8) w W b.n b.x ∧ Q b.x
 fr : Fresh w W
 nb : bc ≠ b8 ∧ w.heap.size <= b8
section
variable {w w5 W W' : World} {bc b8 : Nat} {cin : List Value} {y0 y1 y2 y3 y4 y5 : Int} {X : Rn} {Q : En.X -> Prop} {b : B} {d : Nat -> Bool}
theorem W5.more (h : W5 w w5 bc b8 cin y0 y1 y2 y3 y4 y5 X Q b d W) (hf : Fresh W W') {i : Nat} (h1 : i ≠ 1) (h6 : i ≠ 6) : W5 w w5 bc b8 cin y0 y1 y2 y3 y4 y5 X Q b (Dag.upd d i true) W' := by
 refine ⟨h.t.trans hf (fun _ _ e => e.elim), hf.blk h.c1 (fun e => e), ?_, ?_, h.fr.trans hf (fun _ _ e => e), h.nb⟩
 ·rw [Dag.upd_far _ _ (Ne.symm h6)]; exact hf.blk h.bx (fun e => e)
 ·rw [Dag.upd_far _ _ (Ne.symm h1)]; exact fun e => ⟨(h.ex e).1.old hf, (h.ex e).2⟩
theorem W5.start {n : Nat} {x : En.X} (h : W5 w w5 bc b8 cin y0 y1 y2 y3 y4 y5 X Q b d W) (hn : Held NK W W' n x) (hk : Q x) : W5 w w5 bc b8 cin y0 y1 y2 y3 y4 y5 X Q { b with n := n, x := x } (Dag.upd d 1 true) W' := by
 have hf := hn.fresh
 refine ⟨h.t.trans hf (fun _ _ e => e.elim), hf.blk h.c1 (fun e => e), ?_, fun _ => ⟨hn.rebase h.fr (fun k e => ?_), hk⟩, h.fr.trans hf (fun _ _ e => e), h.nb⟩
 ·rw [Dag.upd_far _ _ (by decide)]; exact hf.blk h.bx (fun e => e)
 ·have e : k = b8 := e
  rw [e]
  exact ⟨h.nb.2, h.bx.lt⟩
theorem W5.turn {g : Nat} (h : W5 w w5 bc b8 cin y0 y1 y2 y3 y4 y5 X Q b d W) (hf : Fresh W W') (h6 : d 6 = false) : W5 w w5 bc b8 cin y0 y1 y2 y3 y4 y5 X Q { b with g := g } (Dag.upd d 3 true) W' := by
 have := h.more hf (i := 3) (by decide) (by decide)
 have e : Dag.upd d 3 true 6 = false := by rw [Dag.upd_far _ _ (by decide)]; exact h6
 refine ⟨this.t, this.c1, ?_, this.ex, this.fr, this.nb⟩
 have hb := this.bx
 rw [e] at hb ⊢
 exact hb
theorem W5.newd {L : Option Addr} {cL : Nat} (h : W5 w w5 bc b8 cin y0 y1 y2 y3 y4 y5 X Q b d W) (hf : Fresh W W') (h6 : d 6 = false) : W5 w w5 bc b8 cin y0 y1 y2 y3 y4 y5 X Q { b with L := L, cL := cL } (Dag.upd d 4 true) W' := by
 have := h.more hf (i := 4) (by decide) (by decide)
 have e : Dag.upd d 4 true 6 = false := by rw [Dag.upd_far _ _ (by decide)]; exact h6
 refine ⟨this.t, this.c1, ?_, this.ex, this.fr, this.nb⟩
 have hb := this.bx
 rw [e] at hb ⊢
 exact hb
theorem W5.at8 (h : W5 w w5 bc b8 cin y0 y1 y2 y3 y4 y5 X Q b d W) (h6 : d 6 = false) : Blk W b8 40 X.cells := by
 have := h.bx
 rw [if_neg (by rw [h6]; decide)] at this
 exact this
theorem W5.there (h : W5 w w5 bc b8 cin y0 y1 y2 y3 y4 y5 X Q b d W) (h6 : d 6 = false) : W.there b8 0 43 := (h.at8 h6).there_at 0 (Nat.le_of_ble_eq_true rfl)
theorem W5.put (h : W5 w w5 bc b8 cin y0 y1 y2 y3 y4 y5 X Q b d W) (h6 : d 6 = false) : W5 w w5 bc b8 cin y0 y1 y2 y3 y4 y5 X Q b (Dag.upd d 6 true) (W.setCells b8 0 (rn0 y0 y1 y2 y3 y4 y5 (some ⟨b.g, 0, none⟩) 5 b.L b.cL).cells) := by
 have hB := h.at8 h6
 have ht : Touch (· = b8) W (W.setCells b8 0 (rn0 y0 y1 y2 y3 y4 y5 (some ⟨b.g, 0, none⟩) 5 b.L b.cL).cells) := Touch.setCells (S := (· = b8)) rfl _ _ (Touch.refl _ _)
 refine ⟨h.t.trans ht (fun _ _ e => e), ht.blk h.c1 h.nb.1, ?_, ?_, h.fr.trans ht (fun k hk e => ?_), h.nb⟩
 ·rw [Dag.upd_same, if_pos rfl]; exact hB.setCells (cs := X.cells) rfl
 ·rw [Dag.upd_far _ _ (by decide)]
  exact fun e => ⟨(h.ex e).1.put ht (fun k e _ => e) (fun k e => .inl e), (h.ex e).2⟩
 ·have e : k = b8 := e
  have := h.nb.2
  omega
end
end Un
def unslot (i : Nat) : Nat := [32, 33, 34, 35, 36, 7, 1006].getD i 2000
def unidx (k : Nat) : Nat := [0, 0, 0, 0, 0, 0, 0, 5, 0, 0, 0, 0, 0, 0, 0, 0, 0, 0, 0, 0, 0, 0, 0, 0, 0, 0, 0, 0, 0, 0, 0, 0, 0, 1, 2, 3, 4].getD k 0
def unD : List Nat := [7, 32, 33, 34, 35, 36]
def unval (cin : List Value) (y0 y1 y2 y3 y4 y5 : Int) (b : Un.B) (i : Nat) : Value := [.agg cin.toArray, .pointer (some ⟨b.n, 0, none⟩), .agg cin.toArray, .agg (cfL y0 y1 y2 y3 y4 y5 (some ⟨b.g, 0, none⟩) 5).toArray, .agg (rn0 y0 y1 y2 y3 y4 y5 (some ⟨b.g, 0, none⟩) 5 b.L b.cL).cells.toArray, .pointer (some ⟨b.n, 0, none⟩), undef].getD i undef
theorem vars_units (x : En.X) (A : Option Addr) (c : Nat) (W : World) : (Instr.field 72 (.agg (En.varsC x A c).toArray) 4).run Tryz.prog W = .ok (.int .i64 (x.units.length : Int)) W := by
 obtain ⟨x0, x1, x2, x3, x4, x5, x6, x7, x8, x9, ep⟩ := x
 cases ep <;> kernel_rfl
namespace Un
def AskU (K : Nat -> Prop) (w W : World) (n : Nat) (lo : Int) (x : En.X) (us : List Cn.Pd) (u : Cn.Pd) (e : Ending) (w' : World) : Prop := ∃ A1 l1 c1 er x1, e = .returned (.tuple #[.slice A1 l1 c1, .int .i64 er]) ∧ Held K w w' n x1 ∧ Touch (fun b => ¬ K b) W w' ∧ x1.c = x.c ∧ ((er = 0 ∧ (us.length : Int) < x.c.units ∧ U lo x1 (us ++ [u])) ∨ (er = 7 ∧ ¬ (us.length : Int) < x.c.units ∧ U lo x1 us))
section
variable {K : Nat -> Prop} {w W : World} {n : Nat} {lo : Int} {x : En.X} {us : List Cn.Pd}
theorem ask_unit (h : Held K w W n x) (hU : U lo x us) {d : ByteArray} (hd : d.size <= 9) : Calls Tryz.prog 12 #[.pointer (some ⟨n, 0, none⟩), .agg #[.int .i64 8, .string d, .int .i64 0]] W (AskU K w W n lo x us (En.umsg 13 d)) := by
 have h1 := h.request (kd := 8) (d := d) (m := 0) fun hin => nrequest_of hin hU.fit (by rw [hU.lf]; exact Nat.zero_le _) 8 d 0 fun _ _ h0 _ => nask_unit h0 d 0
 have h2 : En.request x 8 d 0 = if (us.length : Int) < x.c.units then ({ x with units := x.units ++ [En.umsg 13 d] }, [], 0) else (x, [], 7) := hU.ask false hd
 rw [h2] at h1
 refine h1.mono ?_
 rintro e w' ⟨A, c, rfl, h3, h4, h5, h6⟩
 by_cases hl : (us.length : Int) < x.c.units
 ·rw [if_pos hl] at h3 ⊢
  exact ⟨A, _, c, 0, _, rfl, h3, h5, rfl, .inl ⟨rfl, hl, hU.put _ hl⟩⟩
 ·rw [if_neg hl] at h3 ⊢
  exact ⟨A, _, c, 7, _, rfl, h3, h5, rfl, .inr ⟨rfl, hl, hU⟩⟩
theorem ask_manage (h : Held K w W n x) (hU : U lo x us) {d : ByteArray} (hd : d.size <= 9) : Calls Tryz.prog 12 #[.pointer (some ⟨n, 0, none⟩), .agg #[.int .i64 9, .string d, .int .i64 0]] W (AskU K w W n lo x us (En.umsg 14 d)) := by
 have h1 := h.request (kd := 9) (d := d) (m := 0) fun hin => nrequest_of hin hU.fit (by rw [hU.lf]; exact Nat.zero_le _) 9 d 0 fun _ _ h0 _ => nask_manage h0 d 0
 have h2 : En.request x 9 d 0 = if (us.length : Int) < x.c.units then ({ x with units := x.units ++ [En.umsg 14 d] }, [], 0) else (x, [], 7) := hU.ask true hd
 rw [h2] at h1
 refine h1.mono ?_
 rintro e w' ⟨A, c, rfl, h3, h4, h5, h6⟩
 by_cases hl : (us.length : Int) < x.c.units
 ·rw [if_pos hl] at h3 ⊢
  exact ⟨A, _, c, 0, _, rfl, h3, h5, rfl, .inl ⟨rfl, hl, hU.put _ hl⟩⟩
 ·rw [if_neg hl] at h3 ⊢
  exact ⟨A, _, c, 7, _, rfl, h3, h5, rfl, .inr ⟨rfl, hl, hU⟩⟩
theorem hear_u (h : Held K w W n x) (hU : U lo x us) (b : Bool) (d : ByteArray) : Calls Tryz.prog 13 #[.pointer (some ⟨n, 0, none⟩), pduV (En.umsg (if b then 14 else 13) d)] W fun e w' => ∃ g o c, e = .returned (.slice (some ⟨g, o, none⟩) 1 c) ∧ Held K w w' n x ∧ Touch (fun b => ¬ K b) W w' ∧ ∀ f u, (sigE.enc (En.msg (if b then 10 else 9) d))[f]? = some u -> w'.cell? ⟨g, o + f, none⟩ = some u := by
 have h1 := h.receive (u := En.umsg (if b then 14 else 13) d) (by show (0 : Int) <= 0 ∧ (0 : Int) < 16777216; decide) (by show (0 : Int) <= 0 ∧ (0 : Int) < 16777216; decide) ⟨rfl, rfl, rfl⟩ fun hin hu => nreceive_conn hin hU.fit _ [] hu (by cases b <;> rfl)
 rw [hU.hear] at h1
 refine h1.mono ?_
 rintro e w' ⟨A, c, rfl, h3, h4, h5, -⟩
 obtain ⟨g, o, rfl, -, h6⟩ := h4.rd.psig_at 0 (Nat.lt_succ_self 0)
 exact ⟨g, o, c, rfl, h3, h5, fun f u hf => by have := h6 f u hf; simpa using this⟩
theorem next_u (h : Held K w W n x) {u : Cn.Pd} (hU : U lo x (u :: us)) : Calls Tryz.prog 14 #[.pointer (some ⟨n, 0, none⟩)] W fun e w' => ∃ a b c f A m d s, e = .returned (.tuple #[.agg #[.int .i64 u.kind, .int .i64 a, .int .u32 b, .int .u32 c, .int .u32 f, .slice A m d, .bool s, .string u.data], .bool true]) ∧ Held K w w' n { x with units := us } ∧ Touch (fun b => ¬ K b) W w' := by
 have h1 := h.next hU.fit (fun s r e => hU.calm e)
 rw [hU.next.1] at h1
 refine h1.mono ?_
 rintro e w' ⟨u', rfl, h3, h4, h5⟩
 obtain ⟨g1, -, -, g2⟩ := h5 _ _ rfl
 exact ⟨u'.sq, u'.n, u'.ps, u'.mr, u'.lA, u'.ln, u'.lc, u'.self, by unfold pduV; rw [g1, g2]; rfl, h3, h4⟩
theorem next_0 (h : Held K w W n x) (hU : U lo x []) : Calls Tryz.prog 14 #[.pointer (some ⟨n, 0, none⟩)] W fun e w' => ∃ (u' : Cn.Pd) (x' : En.X), e = .returned (.tuple #[pduV u', .bool false]) ∧ Held K w w' n x' ∧ U lo x' [] := by
 have h1 := h.next hU.fit (fun s r e => hU.calm e)
 obtain ⟨h2, h3⟩ := hU.none_
 rw [h2] at h1
 exact h1.mono fun e w' ⟨u', h4, h5, _⟩ => ⟨u', _, h4, h5, h3⟩
end
end Un
theorem nodeUnits.core (x0 x1 x2 x3 x4 x5 : Int) (A : Option Addr) (c : Nat) (L : List Int) (Am : Option Addr) (cm : Nat) (M : List ByteArray) (how : Int) (w : World) (h : Rd intE w A c L) (hM : Rd strE w Am cm M) :
  Calls Tryz.prog 3 #[.agg #[.int .i64 x0, .int .i64 x1, .int .i64 x2, .int .i64 x3, .int .i64 x4, .int .i64 x5, .slice A L.length c], .slice Am M.length cm, .int .i64 how] w fun e w' => e = .returned (.bool true) ∧ Fresh w w' := by
 have HR := lh h
 have HM := lh hM
 have HCU : Hid (∀ v W, Calls Tryz.prog 11 #[.string v, .int .i64 9] W fun e w' => e = .returned (.string (cutN v 9)) ∧ w' = W) := fun v W => cutN_any v 9 (by decide) W
 have HOP : Hid (∀ W, Fresh w W -> Calls Tryz.prog 7 #[.agg #[.int .i64 x0, .int .i64 x1, .int .i64 x2, .int .i64 x3, .int .i64 x4, .int .i64 x5, .slice A L.length c]] W fun e w' => ∃ m X x lo, e = .returned (.tuple #[.pointer (some ⟨m, 0, none⟩), .agg (Rn.cells X).toArray]) ∧ Held NK w w' m x ∧ (Un.U lo x [] ∧ X.y3 = x.c.units) ∧ Fresh W w') := fun W hW => by
  refine (held_opened x0 x1 x2 x3 x4 x5 A c L w W (HR.out.touch hW (fun _ _ _ e => e)) hW).mono ?_
  rintro e w' ⟨m, q, X, rfl, hq, hx, hh, hf⟩
  have hu := hq.units
  exact ⟨m, X, _, _, rfl, hh, ⟨Un.U.opened (by omega) _, by show X.y3 = q.units; omega⟩, hf⟩
 have HST : Hid (∀ W, Fresh w W -> Calls Tryz.prog 8 #[.agg #[.int .i64 x0, .int .i64 x1, .int .i64 x2, .int .i64 x3, .int .i64 x4, .int .i64 x5, .slice A L.length c]] W fun e w' => ∃ n x, e = .returned (.pointer (some ⟨n, 0, none⟩)) ∧ Held NK W w' n x ∧ (∃ lo, Un.U lo x [] ∧ x.c.units = max 1 (min x3 64))) := fun W hW => by
  refine (held_start x0 x1 x2 x3 x4 x5 A c L W W (HR.out.touch hW (fun _ _ _ e => e)) (Touch.refl _ _)).mono ?_
  rintro e w' ⟨n, q, rfl, hq, hh, hf⟩
  have hu := hq.units
  exact ⟨n, _, rfl, hh, _, Un.U.new (by omega), hu⟩
 have HRT : Hid (∀ W, Fresh w W -> Calls Tryz.prog 10 #[.agg #[.int .i64 x0, .int .i64 x1, .int .i64 x2, .int .i64 x3, .int .i64 x4, .int .i64 x5, .slice A L.length c]] W fun e w' => ∃ g, e = .returned (.agg (cfL (max 1 (min x0 16)) (max 1 (min x1 64)) (max 1 (min x2 256)) (max 1 (min x3 64)) (max 1 (min x4 256)) (x5 % 16777216) (some ⟨g, 0, none⟩) 5).toArray) ∧ Fresh W w') := fun W hW => by
  refine (right16_any x0 x1 x2 x3 x4 x5 A c L W (HR.out.touch hW (fun _ _ _ e => e))).mono ?_
  rintro e w' ⟨g, c0, c1, c2, c3, c4, rfl, -, -, hf, -⟩
  exact ⟨g, rfl, hf⟩
 clear h hM HR
 obtain ⟨cin, hcin⟩ : ∃ cin : List Value, cin = [.int .i64 x0, .int .i64 x1, .int .i64 x2, .int .i64 x3, .int .i64 x4, .int .i64 x5, .slice A L.length c] := ⟨_, rfl⟩
 have hcin2 : cin.toArray = #[.int .i64 x0, .int .i64 x1, .int .i64 x2, .int .i64 x3, .int .i64 x4, .int .i64 x5, .slice A L.length c] := by rw [hcin]
 have HCL : Hid (cin.length = 7) := by rw [hcin]; rfl
 rw [<- hcin2] at HOP HST HRT ⊢
 have HYB : Hid (0 <= max 1 (min x1 64) ∧ max 1 (min x1 64) <= 64 ∧ 0 <= x5 % 16777216 ∧ x5 % 16777216 < 16777216) := by unfold Hid; omega
 generalize max 1 (min x0 16) = y0 at *
 generalize max 1 (min x1 64) = y1 at *
 generalize max 1 (min x2 256) = y2 at *
 generalize max 1 (min x3 64) = y3 at *
 generalize max 1 (min x4 256) = y4 at *
 generalize x5 % 16777216 = y5 at *
 obtain ⟨Q, hQ⟩ : ∃ Q : En.X -> Prop, Q = fun x => ∃ lo, Un.U lo x [] ∧ x.c.units = y3 := ⟨_, rfl⟩
 have HST2 : Hid (∀ W, Fresh w W -> Calls Tryz.prog 8 #[.agg cin.toArray] W fun e w' => ∃ n x, e = .returned (.pointer (some ⟨n, 0, none⟩)) ∧ Held NK W w' n x ∧ Q x) := by rw [hQ]; exact HST.out
 have HQQ := lh hQ
 clear HST hQ
 have HST := HST2
 clear HST2
 obtain ⟨w1, hw1⟩ := xq (w.alloc (.cells cin.toArray 24))
 obtain ⟨bc, hbc⟩ := xq w.heap.size
 have HB1 : Hid (Blk w1 bc 24 cin) := by rw [hw1, hbc]; exact Blk.new w _ _
 have HF1 : Hid (Fresh w w1) := by rw [hw1]; exact (Touch.refl _ _).alloc _
 clear hcin hcin2
 have HAW := lh awake16
 go_enter Tryz.func3, Tryz.ntmps3
 go_upto_region 1 with (fail)
 rw [<- hw1, <- hbc]
 clear hw1 hbc
 go_wp2_with fail
 refine (HAW.out _).mono ?_
 rintro e w2 ⟨rfl, f2⟩
 have HB2 := lh (f2.blk HB1.out (fun e => e))
 have HF2 := lh (HF1.out.trans f2 (fun _ _ e => e))
 clear f2 HB1 HF1 HAW
 simp only
 go_upto_region 3 with (fail)
 refine wp_region_lit ?_
 refine wpList_loadB rfl _ (.tmp 3) rfl bc 0 (by rfl) cin HB2.out.range Tryz.underlying24 rfl (by rw [HCL.out]; exact cfI) ?_
 go_wp2_with fail
 refine (HOP.out _ HF2.out).mono ?_
 rintro e w3 ⟨m, X, x, lo, rfl, hh, ⟨hg, hx⟩, hf⟩
 have HH := lh hh
 have HG := lh hg
 have HXC := lh hx
 have HB3 := lh (hf.blk HB2.out (fun e => e))
 clear hh hg hx hf HOP HB2 HF2
 simp only
 go_upto_region 4 with (refine stN rfl (.tmp 8) (.tmp 28) rfl (by rfl) X (by rfl) (Blk.new w3 40 rnZ) rfl ?_; intro w4 hB ht; have HB8 : Hid (Blk w4 w3.heap.size 40 X.cells) := hB; have HF4 : Hid (Fresh w3 w4) := ((Touch.refl _ w3).alloc (.cells rnZ.toArray 40)).trans ht (fun b hb e => by have e : b = w3.heap.size := e; omega); clear hB ht)
 obtain ⟨b8, hb8⟩ := xq w3.heap.size
 rw [<- hb8] at HB8 ⊢
 have HB4 := lh (HF4.out.blk HB3.out (fun e => e))
 have HH4 : Hid (Held (· = b8) w w4 m x) := HH.out.put HF4.out (fun _ e => e.elim) (fun b e => .inr (by have e : b = b8 := e; subst e; exact ⟨Nat.le_of_eq hb8.symm, HB8.out.lt⟩))
 have HNB : Hid (bc ≠ b8 ∧ w.heap.size <= b8) := by
  have h1 := HB3.out.lt
  have h2 := HH.out.fresh.size
  unfold Hid
  omega
 clear HH HB3 HF4 hb8
 go_upto_if 31 with (fail)
 go_cut [7] (fun v wx => ∃ n x lo X, v = .pointer (some ⟨n, 0, none⟩) ∧ Hid (Held (· = b8) w wx n x) ∧ Hid (Un.U lo x []) ∧ Hid (Blk wx b8 40 (Rn.cells X)) ∧ Hid (X.y3 = x.c.units))
 case first =>
  by_cases he : bits BinOp.and .i64 how 1 = 0
  ·have hb : (bits BinOp.and .i64 how 1 == 0) = true := by rw [he]; rfl
   clear he
   go_upto_region 5 with (fail)
   have HINJ : Hid (∀ i, i < 7 -> ∀ j, j < 7 -> unslot i = unslot j -> i = j) := by
    show ∀ i, i < 7 -> ∀ j, j < 7 -> unslot i = unslot j -> i = j
    decide +kernel
   have HFD : Hid (∀ k, k ∈ unD -> unidx k < 7 ∧ unslot (unidx k) = k) := by
    show ∀ k, k ∈ unD -> unidx k < 7 ∧ unslot (unidx k) = k
    decide +kernel
   refine Dag.detG (by kernel_rfl) 7 unD unslot (unval cin y0 y1 y2 y3 y4 y5) (Un.W5 w w4 bc b8 cin y0 y1 y2 y3 y4 y5 X Q) (⟨0, En.new ⟨0, 0, 0, 0, 0, 0, 0, 0, 0, 0, 0⟩, 0, none, 0⟩ : Un.B) (fun b k => unval cin y0 y1 y2 y3 y4 y5 b (unidx k)) (by rfl) (fun i j hi hj => HINJ.out i hi j hj) (by decide +kernel) ⟨(Touch.refl _ _).drew, (Touch.refl (fun _ => False) w4).drew.blk HB4.out (fun e => e), (Touch.refl (fun _ => False) w4).drew.blk HB8.out (fun e => e), fun e => (by cases e), HH4.out.fresh.trans (Touch.refl _ _).drew (fun _ _ e => e), HNB.out⟩ (by decide +kernel)
    (by refine ⟨?_, ?_, ?_, ?_, ?_, ?_, ?_, trivial⟩ <;> first | exact .inl rfl | exact .inr ⟨_, _, rfl, by decide +kernel, by decide, by decide, Nat.le_of_ble_eq_true rfl, by rfl, fun b => rfl⟩)
    ⟨?_, ?_, ?_, ?_, ?_, ?_, ?_, trivial⟩ (fun b k hk => ⟨unidx k, (HFD.out k hk).1, (HFD.out k hk).2, rfl⟩) ?_
   ·refine Dag.PStep2.pure 32 rfl rfl (by decide) (fun b dn W h => h.more (Touch.refl _ _) (by decide) (by decide)) (fun b dn R W hp hm hW => ?_)
    have q3 : R.eval (.tmp 3) = .pointer (some ⟨bc, 0, none⟩) := hm.old 3 (by decide)
    exact exec_loadB rfl q3 hW.c1.range Tryz.underlying24 rfl (by rw [HCL.out]; exact cfI)
   ·refine ⟨fun s hs => (by cases hs; exact ⟨rfl, by decide⟩), fun b dn R W hi hp hcl hm hW => ?_⟩
    have q32 : R.eval (.tmp 32) = .agg cin.toArray := hm.got 0 (by decide) (hp 0 (by decide +kernel)) (by decide) (Nat.le_of_ble_eq_true rfl)
    have qf : R.eval (.func 8) = .func (.func 8) #[] #[] := hm.cst _ (fun k e => by cases e)
    have h5 : dn 5 = false := by
     cases e : dn 5 with
     |false => rfl
     |true => have := hcl 5 1 (by decide +kernel) e; rw [hi] at this; cases this
    refine .call 33 rfl 8 #[.agg cin.toArray] ?_ ((HST.out W hW.fr).mono ?_)
    ·clear hi hp hcl hm hW
     generalize cin.toArray = V1 at *
     unfold execOp
     generalize R.eval = ρ at *
     go_simp
    ·rintro e w' ⟨n, x, rfl, hn, hk⟩
     refine ⟨_, rfl, { b with n := n, x := x }, rfl, fun j hj hdj => ?_, hW.start hn hk⟩
     rcases (show j = 0 ∨ j = 1 ∨ j = 2 ∨ j = 3 ∨ j = 4 ∨ j = 5 ∨ j = 6 by omega) with rfl | rfl | rfl | rfl | rfl | rfl | rfl <;> first | rfl | (rw [hi] at hdj; cases hdj) | (rw [h5] at hdj; cases hdj)
   ·refine Dag.PStep2.pure 34 rfl rfl (by decide) (fun b dn W h => h.more (Touch.refl _ _) (by decide) (by decide)) (fun b dn R W hp hm hW => ?_)
    have q3 : R.eval (.tmp 3) = .pointer (some ⟨bc, 0, none⟩) := hm.old 3 (by decide)
    exact exec_loadB rfl q3 hW.c1.range Tryz.underlying24 rfl (by rw [HCL.out]; exact cfI)
   ·refine ⟨fun s hs => (by cases hs; exact ⟨rfl, by decide⟩), fun b dn R W hi hp hcl hm hW => ?_⟩
    have q34 : R.eval (.tmp 34) = .agg cin.toArray := hm.got 2 (by decide) (hp 2 (by decide +kernel)) (by decide) (Nat.le_of_ble_eq_true rfl)
    have qf : R.eval (.func 10) = .func (.func 10) #[] #[] := hm.cst _ (fun k e => by cases e)
    have h4 : dn 4 = false := by
     cases e : dn 4 with
     |false => rfl
     |true => have := hcl 4 3 (by decide +kernel) e; rw [hi] at this; cases this
    refine .call 35 rfl 10 #[.agg cin.toArray] ?_ ((HRT.out W hW.fr).mono ?_)
    ·clear hi hp hcl hm hW
     generalize cin.toArray = V1 at *
     unfold execOp
     generalize R.eval = ρ at *
     go_simp
    ·rintro e w' ⟨g, rfl, hf⟩
     have h6 : dn 6 = false := by
      cases e : dn 6 with
      |false => rfl
      |true => have := hcl 6 4 (by decide +kernel) e; rw [h4] at this; cases this
     refine ⟨_, rfl, { b with g := g }, rfl, fun j hj hdj => ?_, hW.turn hf h6⟩
     rcases (show j = 0 ∨ j = 1 ∨ j = 2 ∨ j = 3 ∨ j = 4 ∨ j = 5 ∨ j = 6 by omega) with rfl | rfl | rfl | rfl | rfl | rfl | rfl <;> first | rfl | (rw [hi] at hdj; cases hdj) | (rw [h4] at hdj; cases hdj)
   ·refine ⟨fun s hs => (by cases hs; exact ⟨rfl, by decide⟩), fun b dn R W hi hp hcl hm hW => ?_⟩
    have q35 : R.eval (.tmp 35) = .agg (cfL y0 y1 y2 y3 y4 y5 (some ⟨b.g, 0, none⟩) 5).toArray := hm.got 3 (by decide) (hp 3 (by decide +kernel)) (by decide) (Nat.le_of_ble_eq_true rfl)
    have qf : R.eval (.func 9) = .func (.func 9) #[] #[] := hm.cst _ (fun k e => by cases e)
    have h6 : dn 6 = false := by
     cases e : dn 6 with
     |false => rfl
     |true => have := hcl 6 4 (by decide +kernel) e; rw [hi] at this; cases this
    refine .call 36 rfl 9 #[.agg (cfL y0 y1 y2 y3 y4 y5 (some ⟨b.g, 0, none⟩) 5).toArray] ?_ ((rnew_any16 y0 y1 y2 y3 y4 y5 (some ⟨b.g, 0, none⟩) 5 W HYB.out).mono ?_)
    ·clear hi hp hcl hm hW
     generalize (cfL y0 y1 y2 y3 y4 y5 (some ⟨b.g, 0, none⟩) 5).toArray = V1 at *
     unfold execOp
     generalize R.eval = ρ at *
     go_simp
    ·rintro e w' ⟨L, cL, rfl, -, hf⟩
     refine ⟨_, rfl, { b with L := L, cL := cL }, rfl, fun j hj hdj => ?_, hW.newd hf h6⟩
     rcases (show j = 0 ∨ j = 1 ∨ j = 2 ∨ j = 3 ∨ j = 4 ∨ j = 5 ∨ j = 6 by omega) with rfl | rfl | rfl | rfl | rfl | rfl | rfl <;> first | rfl | (rw [hi] at hdj; cases hdj) | (rw [h6] at hdj; cases hdj)
   ·refine Dag.PStep2.pure 7 rfl rfl (by decide) (fun b dn W h => h.more (Touch.refl _ _) (by decide) (by decide)) (fun b dn R W hp hm hW => ?_)
    have q33 : R.eval (.tmp 33) = .pointer (some ⟨b.n, 0, none⟩) := hm.got 1 (by decide) (hp 1 (by decide +kernel)) (by decide) (Nat.le_of_ble_eq_true rfl)
    clear hp hm hW
    show (execOp R.eval _).run Tryz.prog W = .ok (.value (.pointer (some ⟨b.n, 0, none⟩))) W
    unfold execOp
    generalize R.eval = ρ at *
    go_simp
   ·refine ⟨fun s hs => (by cases hs), fun b dn R W hi hp hcl hm hW => ?_⟩
    have q8 : R.eval (.tmp 8) = .pointer (some ⟨b8, 0, none⟩) := hm.old 8 (by decide)
    have q36 : R.eval (.tmp 36) = .agg (rn0 y0 y1 y2 y3 y4 y5 (some ⟨b.g, 0, none⟩) 5 b.L b.cL).cells.toArray := hm.got 4 (by decide) (hp 4 (by decide +kernel)) (by decide) (Nat.le_of_ble_eq_true rfl)
    refine .skip rfl undef (W.setCells b8 0 (rn0 y0 y1 y2 y3 y4 y5 (some ⟨b.g, 0, none⟩) 5 b.L b.cL).cells) (exec_storeB rfl q8 q36 (hW.there hi) rnI (rnO _)) ⟨b, rfl, fun _ _ _ => rfl, hW.put hi⟩
   ·intro b dn w9 hd hW
    obtain ⟨hh, hq⟩ := hW.ex (hd 1 (by decide))
    have hb8 := hW.bx
    rw [if_pos (hd 6 (by decide))] at hb8
    rw [HQQ.out] at hq
    obtain ⟨lo2, hu, hy⟩ := hq
    have HH9 := lh hh
    have HU9 := lh hu
    have HY9 := lh hy
    have HB9 := lh hb8
    clear hW hd hb8 hh hu hy HINJ HFD HST HRT HB4 HB8 HH4 HG HXC
    simp only [unD, Dag.actOf, List.foldl_cons, List.foldl_nil, unval, unidx]
    go_simp
    go_wp2_with fail
    go_meet
    case rel => exact ⟨b.n, b.x, lo2, rn0 y0 y1 y2 y3 y4 y5 (some ⟨b.g, 0, none⟩) 5 b.L b.cL, rfl, HH9, HU9, HB9, by show y3 = _; rw [HY9.out]⟩
  ·have hb : (bits BinOp.and .i64 how 1 == 0) = false := beq_eq_false_iff_ne.2 he
   clear he
   go_wp2_with fail
   go_meet
   case rel => exact ⟨m, x, lo, X, rfl, HH4, HG, HB8, HXC⟩
 case rest =>
 clear HH4 HG HB8 HXC HST HRT HB4 HQQ
 obtain ⟨n, xa, lo, X, rfl, HH, HU, HB8, HXC⟩ := hcut
 generalize wc = w5 at *
 have HX3 : Hid (∀ wx, Blk wx b8 40 (Rn.cells X) -> wx.cell? ⟨b8, 3, none⟩ = some (.int .i64 X.y3)) := fun wx h => h.cell 3
 generalize Rn.cells X = XC at *
 generalize X.y3 = yu at *
 have HK0 : Hid (∃ x, Un.U lo x [] ∧ x.c.units = yu ∧ Held (KA b8 none) w w5 n x) := ⟨xa, HU.out, HXC.out.symm, HH.out.mono (fun b e => by rcases e with e | e; exact e; cases e)⟩
 clear HH HU HXC
 go_upto_block 0 with (fail)
 go_cut [9] (fun v wx => ∃ us A ca, v = .slice A (List.length us) ca ∧ Hid (∃ x, Un.U lo x us ∧ x.c.units = yu ∧ Held (KA b8 A) w wx n x) ∧ Hid (Sl pduE wx A ca us))
 case first =>
  go_wp2_with fail
  go_loopw [10, 9] (fun i v wr => ∃ (k : Nat) (us : List Cn.Pd) (A : Option Addr) (ca : Nat), k <= 70 ∧ i = .int .i64 k ∧ v = .slice A us.length ca ∧ Hid (∃ x, Un.U lo x us ∧ x.c.units = yu ∧ Held (KA b8 A) w wr n x) ∧ Hid (Sl pduE wr A ca us) ∧ Hid (Blk wr b8 40 XC)) (fun i _ _ => 70 - (intOf i).toNat)
  case atStart => exact ⟨0, [], none, 0, by omega, rfl, rfl, HK0.out, Sl.nil _ _, HB8.out⟩
  case round =>
   clear HK0 HB8
   obtain ⟨k, us, A, ca, hk, rfl, rfl, HK, HSL, HB⟩ := hrel
   by_cases hlt : k < M.length ∧ k < 70
   ·obtain ⟨hl1, hl2⟩ := hlt
    have hk1 : (k : Int) < (M.length : Int) := by omega
    have hdk1 : decide ((k : Int) < (M.length : Int)) = true := decide_eq_true hk1
    have hk2 : (k : Int) < 70 := by omega
    have hdk2 : decide ((k : Int) < 70) = true := decide_eq_true hk2
    have hk0 : (0 : Int) <= (k : Int) := by omega
    obtain ⟨x, hu, hy, hh⟩ := HK.out
    obtain ⟨g, o, hAe, _, c0⟩ := (HM.out.touch hh.fresh (fun _ _ _ h => h)).str_at k hl1
    generalize M.getD k ByteArray.empty = v at c0
    rw [hAe]
    have HAE := lh hAe
    have HH := lh hh
    have HU := lh hu
    have HY := lh hy
    clear hAe hh hu hy HK hl1
    go_upto_region 13 with (go_at_call 11; (with_reducible refine (HCU.out v _).mono ?_); rintro e w6 ⟨rfl, rfl⟩; simp only)
    have HD : Hid ((cutN v 9).size <= 9) := cutN_size v 9
    generalize cutN v 9 = d at *
    have HUL : Hid (us.length <= 64) := by have h1 := HU.out.ul; have h2 := HU.out.cu; unfold Hid; omega
    rcases Nat.mod_two_eq_zero_or_one k with hpar | hpar
    ·have htm : Int.tmod (k : Int) 2 = 0 := by rw [Int.tmod_eq_emod_of_nonneg hk0]; omega
     clear hpar c0
     have HRQ := lh (Un.ask_unit HH.out HU.out HD.out)
     go_upto_region 15 with (go_at_call 12; (with_reducible refine HRQ.out.mono ?_); rintro e w6 ⟨A1, l1, c1, er, x1, rfl, h1, h2, h3, h4⟩; have HH1 := lh h1; have HS1 := lh (HSL.out.touch h2 (fun ad e e2 => e2 (.inr (by rw [e]; rfl)))); have HB1 := lh (h2.blk HB.out (fun e => e (.inl rfl))); have HY1 : Hid (x1.c.units = yu) := (by rw [h3]; exact HY.out); have HC1 := lh h4; clear h1 h2 h3 h4; simp only)
     clear HRQ HH HSL HB
     rw [HY.out] at HC1
     have d3 : w6.cell? ⟨b8, 3, none⟩ = some (.int .i64 yu) := HX3.out _ HB1.out
     have HNA : Hid (¬ A.map Addr.block = some b8) := fun e => by
      cases A with
      |none => cases e
      |some ad =>
       injection e with e
       exact HS1.out.blk_ne HB1.out (show pduE.e ≠ 40 by decide) ad rfl e
     rcases HC1.out with ⟨rfl, hr, hu1⟩ | ⟨rfl, hr, hu1⟩
     ·have hdr : decide ((us.length : Int) < yu) = true := decide_eq_true hr
      have HU1 := lh hu1
      clear HC1 hu1 HU HY
      go_upto_region 19 with (at_builtin; refine app_pdu rfl rfl (l := us) (l2 := [En.umsg 13 d]) rfl rfl (HS1.out.alloc _) (Sl.rd (Sl.lit pduE w6 _ rfl _ [En.umsg 13 d] rfl 1 rfl (by decide))) (by have := HUL.out; simp; omega) ?_; intro A4 c4 L4 w8 hL4 hs4 ht4 hB4; have HH4 := lh ((HH1.out.old ((Touch.refl _ w6).alloc _)).app hs4 ht4 hB4); have HS4 := lh hs4; have HB4 := lh (ht4.blk (Touch.blk ((Touch.refl (fun _ => False) w6).alloc _) HB1.out (fun e => e)) HNA.out); have HU4 : Hid (Un.U lo x1 L4) := (by rw [hL4.out]; exact HU1.out); clear hL4 hs4 ht4 hB4)
      clear HH1 HS1 HB1 HU1 HNA d3 hr hdr
      have HRC : Hid (Calls Tryz.prog 13 #[.pointer (some ⟨n, 0, none⟩), .agg #[.int .i64 13, .int .i64 0, .int .u32 0, .int .u32 0, .int .u32 0, .slice none 0 0, .bool false, .string d]] w8 fun e w' => ∃ g o c, e = .returned (.slice (some ⟨g, o, none⟩) 1 c) ∧ Held (KA b8 A4) w w' n x1 ∧ Touch (fun b => ¬ KA b8 A4 b) w8 w' ∧ ∀ f u, (sigE.enc (En.msg 9 d))[f]? = some u -> w'.cell? ⟨g, o + f, none⟩ = some u) := Un.hear_u HH4.out HU4.out false d
      go_upto_region 20 with (go_at_call 13; (with_reducible refine HRC.out.mono ?_); rintro e w9 ⟨gs, os, cs, rfl, h1, h2, h3⟩; have HH9 := lh h1; have HS9 := lh (HS4.out.touch h2 (fun ad e e2 => e2 (.inr (by rw [e]; rfl)))); have HB9 := lh (h2.blk HB4.out (fun e => e (.inl rfl))); have HC9 := lh h3; clear h1 h2 h3; simp only)
      have s0 : w9.cell? ⟨gs, os, none⟩ = some (.int .i64 9) := HC9.out 0 _ rfl
      have s1 : w9.cell? ⟨gs, os + 1, none⟩ = some (.string d) := HC9.out 1 _ rfl
      have s2 : w9.cell? ⟨gs, os + 2, none⟩ = some (.bool false) := HC9.out 2 _ rfl
      have s3 : w9.cell? ⟨gs, os + 3, none⟩ = some (.int .u8 0) := HC9.out 3 _ rfl
      have s4 : w9.cell? ⟨gs, os + 4, none⟩ = some (.int .i64 0) := HC9.out 4 _ rfl
      have hq := eqSig16
      clear HRC HC9 HH4 HS4 HB4
      go_wp2_with fail
      go_roundw
      case rel => exact ⟨k + 1, L4, A4, c4, by omega, by go_num, rfl, ⟨x1, HU4.out, HY1.out, HH9.out⟩, HS9.out, HB9.out⟩
      case measure => simp [intOf]; omega
     ·have hdr : decide ((us.length : Int) < yu) = false := decide_eq_false hr
      have HU1 := lh hu1
      clear HC1 hu1 HU HY HNA
      go_upto_region 19 with (fail)
      clear d3 hr hdr
      have HRC : Hid (Calls Tryz.prog 13 #[.pointer (some ⟨n, 0, none⟩), .agg #[.int .i64 13, .int .i64 0, .int .u32 0, .int .u32 0, .int .u32 0, .slice none 0 0, .bool false, .string d]] w6 fun e w' => ∃ g o c, e = .returned (.slice (some ⟨g, o, none⟩) 1 c) ∧ Held (KA b8 A) w w' n x1 ∧ Touch (fun b => ¬ KA b8 A b) w6 w' ∧ ∀ f u, (sigE.enc (En.msg 9 d))[f]? = some u -> w'.cell? ⟨g, o + f, none⟩ = some u) := Un.hear_u HH1.out HU1.out false d
      go_upto_region 20 with (go_at_call 13; (with_reducible refine HRC.out.mono ?_); rintro e w9 ⟨gs, os, cs, rfl, h1, h2, h3⟩; have HH9 := lh h1; have HS9 := lh (HS1.out.touch h2 (fun ad e e2 => e2 (.inr (by rw [e]; rfl)))); have HB9 := lh (h2.blk HB1.out (fun e => e (.inl rfl))); have HC9 := lh h3; clear h1 h2 h3; simp only)
      have s0 : w9.cell? ⟨gs, os, none⟩ = some (.int .i64 9) := HC9.out 0 _ rfl
      have s1 : w9.cell? ⟨gs, os + 1, none⟩ = some (.string d) := HC9.out 1 _ rfl
      have s2 : w9.cell? ⟨gs, os + 2, none⟩ = some (.bool false) := HC9.out 2 _ rfl
      have s3 : w9.cell? ⟨gs, os + 3, none⟩ = some (.int .u8 0) := HC9.out 3 _ rfl
      have s4 : w9.cell? ⟨gs, os + 4, none⟩ = some (.int .i64 0) := HC9.out 4 _ rfl
      have hq := eqSig16
      clear HRC HC9 HH1 HS1 HB1
      go_wp2_with fail
      go_roundw
      case rel => exact ⟨k + 1, us, A, ca, by omega, by go_num, rfl, ⟨x1, HU1.out, HY1.out, HH9.out⟩, HS9.out, HB9.out⟩
      case measure => simp [intOf]; omega
    ·have htm : Int.tmod (k : Int) 2 = 1 := by rw [Int.tmod_eq_emod_of_nonneg hk0]; omega
     clear hpar c0
     have HRQ := lh (Un.ask_manage HH.out HU.out HD.out)
     go_upto_region 15 with (go_at_call 12; (with_reducible refine HRQ.out.mono ?_); rintro e w6 ⟨A1, l1, c1, er, x1, rfl, h1, h2, h3, h4⟩; have HH1 := lh h1; have HS1 := lh (HSL.out.touch h2 (fun ad e e2 => e2 (.inr (by rw [e]; rfl)))); have HB1 := lh (h2.blk HB.out (fun e => e (.inl rfl))); have HY1 : Hid (x1.c.units = yu) := (by rw [h3]; exact HY.out); have HC1 := lh h4; clear h1 h2 h3 h4; simp only)
     clear HRQ HH HSL HB
     rw [HY.out] at HC1
     have d3 : w6.cell? ⟨b8, 3, none⟩ = some (.int .i64 yu) := HX3.out _ HB1.out
     have HNA : Hid (¬ A.map Addr.block = some b8) := fun e => by
      cases A with
      |none => cases e
      |some ad =>
       injection e with e
       exact HS1.out.blk_ne HB1.out (show pduE.e ≠ 40 by decide) ad rfl e
     rcases HC1.out with ⟨rfl, hr, hu1⟩ | ⟨rfl, hr, hu1⟩
     ·have hdr : decide ((us.length : Int) < yu) = true := decide_eq_true hr
      have HU1 := lh hu1
      clear HC1 hu1 HU HY
      go_upto_region 19 with (at_builtin; refine app_pdu rfl rfl (l := us) (l2 := [En.umsg 14 d]) rfl rfl (HS1.out.alloc _) (Sl.rd (Sl.lit pduE w6 _ rfl _ [En.umsg 14 d] rfl 1 rfl (by decide))) (by have := HUL.out; simp; omega) ?_; intro A4 c4 L4 w8 hL4 hs4 ht4 hB4; have HH4 := lh ((HH1.out.old ((Touch.refl _ w6).alloc _)).app hs4 ht4 hB4); have HS4 := lh hs4; have HB4 := lh (ht4.blk (Touch.blk ((Touch.refl (fun _ => False) w6).alloc _) HB1.out (fun e => e)) HNA.out); have HU4 : Hid (Un.U lo x1 L4) := (by rw [hL4.out]; exact HU1.out); clear hL4 hs4 ht4 hB4)
      clear HH1 HS1 HB1 HU1 HNA d3 hr hdr
      have HRC : Hid (Calls Tryz.prog 13 #[.pointer (some ⟨n, 0, none⟩), .agg #[.int .i64 14, .int .i64 0, .int .u32 0, .int .u32 0, .int .u32 0, .slice none 0 0, .bool false, .string d]] w8 fun e w' => ∃ g o c, e = .returned (.slice (some ⟨g, o, none⟩) 1 c) ∧ Held (KA b8 A4) w w' n x1 ∧ Touch (fun b => ¬ KA b8 A4 b) w8 w' ∧ ∀ f u, (sigE.enc (En.msg 10 d))[f]? = some u -> w'.cell? ⟨g, o + f, none⟩ = some u) := Un.hear_u HH4.out HU4.out true d
      go_upto_region 20 with (go_at_call 13; (with_reducible refine HRC.out.mono ?_); rintro e w9 ⟨gs, os, cs, rfl, h1, h2, h3⟩; have HH9 := lh h1; have HS9 := lh (HS4.out.touch h2 (fun ad e e2 => e2 (.inr (by rw [e]; rfl)))); have HB9 := lh (h2.blk HB4.out (fun e => e (.inl rfl))); have HC9 := lh h3; clear h1 h2 h3; simp only)
      have s0 : w9.cell? ⟨gs, os, none⟩ = some (.int .i64 10) := HC9.out 0 _ rfl
      have s1 : w9.cell? ⟨gs, os + 1, none⟩ = some (.string d) := HC9.out 1 _ rfl
      have s2 : w9.cell? ⟨gs, os + 2, none⟩ = some (.bool false) := HC9.out 2 _ rfl
      have s3 : w9.cell? ⟨gs, os + 3, none⟩ = some (.int .u8 0) := HC9.out 3 _ rfl
      have s4 : w9.cell? ⟨gs, os + 4, none⟩ = some (.int .i64 0) := HC9.out 4 _ rfl
      have hq := eqSig16
      clear HRC HC9 HH4 HS4 HB4
      go_wp2_with fail
      go_roundw
      case rel => exact ⟨k + 1, L4, A4, c4, by omega, by go_num, rfl, ⟨x1, HU4.out, HY1.out, HH9.out⟩, HS9.out, HB9.out⟩
      case measure => simp [intOf]; omega
     ·have hdr : decide ((us.length : Int) < yu) = false := decide_eq_false hr
      have HU1 := lh hu1
      clear HC1 hu1 HU HY HNA
      go_upto_region 19 with (fail)
      clear d3 hr hdr
      have HRC : Hid (Calls Tryz.prog 13 #[.pointer (some ⟨n, 0, none⟩), .agg #[.int .i64 14, .int .i64 0, .int .u32 0, .int .u32 0, .int .u32 0, .slice none 0 0, .bool false, .string d]] w6 fun e w' => ∃ g o c, e = .returned (.slice (some ⟨g, o, none⟩) 1 c) ∧ Held (KA b8 A) w w' n x1 ∧ Touch (fun b => ¬ KA b8 A b) w6 w' ∧ ∀ f u, (sigE.enc (En.msg 10 d))[f]? = some u -> w'.cell? ⟨g, o + f, none⟩ = some u) := Un.hear_u HH1.out HU1.out true d
      go_upto_region 20 with (go_at_call 13; (with_reducible refine HRC.out.mono ?_); rintro e w9 ⟨gs, os, cs, rfl, h1, h2, h3⟩; have HH9 := lh h1; have HS9 := lh (HS1.out.touch h2 (fun ad e e2 => e2 (.inr (by rw [e]; rfl)))); have HB9 := lh (h2.blk HB1.out (fun e => e (.inl rfl))); have HC9 := lh h3; clear h1 h2 h3; simp only)
      have s0 : w9.cell? ⟨gs, os, none⟩ = some (.int .i64 10) := HC9.out 0 _ rfl
      have s1 : w9.cell? ⟨gs, os + 1, none⟩ = some (.string d) := HC9.out 1 _ rfl
      have s2 : w9.cell? ⟨gs, os + 2, none⟩ = some (.bool false) := HC9.out 2 _ rfl
      have s3 : w9.cell? ⟨gs, os + 3, none⟩ = some (.int .u8 0) := HC9.out 3 _ rfl
      have s4 : w9.cell? ⟨gs, os + 4, none⟩ = some (.int .i64 0) := HC9.out 4 _ rfl
      have hq := eqSig16
      clear HRC HC9 HH1 HS1 HB1
      go_wp2_with fail
      go_roundw
      case rel => exact ⟨k + 1, us, A, ca, by omega, by go_num, rfl, ⟨x1, HU1.out, HY1.out, HH9.out⟩, HS9.out, HB9.out⟩
      case measure => simp [intOf]; omega
   ·have hsum : ¬ (decide ((k : Int) < (M.length : Int)) = true ∧ decide ((k : Int) < 70) = true) := by simp; omega
    by_cases hl1 : (k : Int) < (M.length : Int)
    ·have hk2 : ¬ (k : Int) < 70 := by omega
     have hdk1 : decide ((k : Int) < (M.length : Int)) = true := decide_eq_true hl1
     have hdk2 : decide ((k : Int) < 70) = false := decide_eq_false hk2
     go_wp2_with fail
     go_meet
     case rel => exact ⟨us, A, ca, rfl, HK, HSL⟩
    ·have hdk1 : decide ((k : Int) < (M.length : Int)) = false := decide_eq_false hl1
     go_wp2_with fail
     go_meet
     case rel => exact ⟨us, A, ca, rfl, HK, HSL⟩
 case rest =>
 clear HK0 HB8
 obtain ⟨us, A, ca, rfl, HK, HSL⟩ := hcut
 generalize wc = w6 at *
 obtain ⟨x1, hu, -, hh⟩ := HK.out
 have HH1 := lh hh
 have HU1 := lh hu
 have HUL : Hid (us.length <= 64) := by have h1 := hu.ul; have h2 := hu.cu; unfold Hid; omega
 clear HK hu hh HCU HM HX3
 go_upto_block 2 with (fail)
 go_wp2_with fail
 go_loopw [115] (fun i wr => ∃ (k : Nat) (x : En.X), k <= us.length ∧ i = .int .i64 k ∧ Hid (Un.U lo x (us.drop k)) ∧ Hid (Held (KA b8 A) w wr n x) ∧ Hid (Sl pduE wr A ca us)) (fun i _ => us.length - (intOf i).toNat)
 case atStart => exact ⟨0, x1, by omega, rfl, HU1.out, HH1.out, HSL.out⟩
 case round =>
  clear HU1 HH1 HSL
  obtain ⟨k, x, hk, rfl, HU, HH, HS⟩ := hrel
  by_cases hl : k < us.length
  ·have hk1 : (k : Int) < (us.length : Int) := by omega
   have hk0 : (0 : Int) <= (k : Int) := by omega
   have hul : (us.length : Int) <= 64 := by have := HUL.out; omega
   obtain ⟨gA, oA, hA, hgA, hc⟩ := HS.out.pdu_at k hl
   have hdr := List.drop_eq_getElem_cons hl
   rw [hdr] at HU
   have HUN := lh HU.out.next.2
   clear hdr
   generalize us[k] = u at *
   generalize hrest : us.drop (k + 1) = rest at *
   have HRS := lh hrest
   clear hrest
   have y0 : wr.cell? ⟨gA, oA + k * 8, none⟩ = some (.int .i64 u.kind) := by have := hc 0 _ rfl; simpa [Nat.add_assoc] using this
   have y1 : wr.cell? ⟨gA, oA + k * 8 + 1, none⟩ = some (.int .i64 u.sq) := by have := hc 1 _ rfl; simpa [Nat.add_assoc] using this
   have y2 : wr.cell? ⟨gA, oA + k * 8 + 2, none⟩ = some (.int .u32 u.n) := by have := hc 2 _ rfl; simpa [Nat.add_assoc] using this
   have y3 : wr.cell? ⟨gA, oA + k * 8 + 3, none⟩ = some (.int .u32 u.ps) := by have := hc 3 _ rfl; simpa [Nat.add_assoc] using this
   have y4 : wr.cell? ⟨gA, oA + k * 8 + 4, none⟩ = some (.int .u32 u.mr) := by have := hc 4 _ rfl; simpa [Nat.add_assoc] using this
   have y5 : wr.cell? ⟨gA, oA + k * 8 + 5, none⟩ = some (.slice u.lA u.ln u.lc) := by have := hc 5 _ rfl; simpa [Nat.add_assoc] using this
   have y6 : wr.cell? ⟨gA, oA + k * 8 + 6, none⟩ = some (.bool u.self) := by have := hc 6 _ rfl; simpa [Nat.add_assoc] using this
   have y7 : wr.cell? ⟨gA, oA + k * 8 + 7, none⟩ = some (.string u.data) := by have := hc 7 _ rfl; simpa [Nat.add_assoc] using this
   rw [hA]
   have HA := lh hA
   clear hA hc
   go_upto_region 25 with (fail)
   clear y0 y1 y2 y3 y4 y5 y6 y7
   obtain ⟨wb, hwb⟩ := xq (wr.alloc (.cells #[.int .i64 u.kind, .int .i64 u.sq, .int .u32 u.n, .int .u32 u.ps, .int .u32 u.mr, .slice u.lA u.ln u.lc, .bool u.self, .string u.data] 58))
   obtain ⟨bb, hbb⟩ := xq wr.heap.size
   have hfb : Fresh wr wb := by rw [hwb]; exact (Touch.refl _ _).alloc _
   have HBB : Hid (Blk wb bb 58 [.int .i64 u.kind, .int .i64 u.sq, .int .u32 u.n, .int .u32 u.ps, .int .u32 u.mr, .slice u.lA u.ln u.lc, .bool u.self, .string u.data]) := by rw [hwb, hbb]; exact Blk.new wr _ _
   have HHb : Hid (Held (fun b => KA b8 A b ∨ b = bb) w wb n x) := HH.out.put hfb (fun _ e => e.elim) (fun b e => e.elim .inl (fun e => .inr (by have h1 := HBB.out.lt; omega)))
   have HSb := lh (HS.out.touch hfb (fun _ _ e => e))
   have HN := lh (Un.next_u HHb.out HU.out)
   rw [<- hwb, <- hbb]
   clear hwb hbb hfb HU HH HS
   go_upto_region 26 with (go_at_call 14; (with_reducible refine HN.out.mono ?_); rintro e wc ⟨a, b, c1, f, A9, m9, d9, s9, rfl, h1, h2⟩; have HHc := lh (h1.mono (K' := KA b8 A) (fun _ e => .inl e)); have HBc := lh (h2.blk HBB.out (fun e => e (.inr rfl))); have HSc := lh (HSb.out.touch h2 (fun ad e e2 => e2 (.inl (.inr (by rw [e]; rfl))))); clear h1 h2; simp only)
   obtain ⟨wd, hwd⟩ := xq (wc.alloc (.cells #[.int .i64 u.kind, .int .i64 a, .int .u32 b, .int .u32 c1, .int .u32 f, .slice A9 m9 d9, .bool s9, .string u.data] 58))
   obtain ⟨bd, hbd⟩ := xq wc.heap.size
   have hfd : Fresh wc wd := by rw [hwd]; exact (Touch.refl _ _).alloc _
   have hbk : Blk wd bd 58 [.int .i64 u.kind, .int .i64 a, .int .u32 b, .int .u32 c1, .int .u32 f, .slice A9 m9 d9, .bool s9, .string u.data] := by rw [hwd, hbd]; exact Blk.new wc _ _
   have hbb := hfd.blk HBc.out (fun e => e)
   have z0 : wd.cell? ⟨bd, 0, none⟩ = some (.int .i64 u.kind) := hbk.cell 0
   have z7 : wd.cell? ⟨bd, 7, none⟩ = some (.string u.data) := hbk.cell 7
   have v0 : wd.cell? ⟨bb, 0, none⟩ = some (.int .i64 u.kind) := hbb.cell 0
   have v7 : wd.cell? ⟨bb, 7, none⟩ = some (.string u.data) := hbb.cell 7
   have HHd := lh (HHc.out.old hfd)
   have HSd := lh (HSc.out.touch hfd (fun _ _ e => e))
   rw [<- hwd, <- hbd]
   clear hwd hbd hfd hbk hbb HHc HBc HSc HN HHb HSb HBB
   generalize u.kind = kd at *
   generalize u.data = dd at *
   go_wp2_with fail
   go_roundw
   case rel => exact ⟨k + 1, { x with units := rest }, by omega, by go_num, by rw [HRS.out]; exact HUN.out, by rw [<- HA.out]; exact HHd.out, by rw [<- HA.out]; exact HSd.out⟩
   case measure => simp [intOf]; omega
  ·obtain rfl : k = us.length := by omega
   have HU0 : Hid (Un.U lo x []) := by have h1 := HU.out; rw [List.drop_length] at h1; exact h1
   have HN := lh (Un.next_0 HH.out HU0.out)
   clear HU HU0 HS HH
   go_upto_region 30 with (go_at_call 14; (with_reducible refine HN.out.mono ?_); rintro e wc ⟨u', x', rfl, h1, h2⟩; have HHc := lh h1; have HUc := lh h2; clear h1 h2; unfold pduV; simp only)
   have HV : Hid (∀ W, Fresh wc W -> Calls Tryz.prog 15 #[.pointer (some ⟨n, 0, none⟩)] W fun e w' => ∃ A' c', e = .returned (.agg (En.varsC x' A' c').toArray) ∧ Fresh W w') := fun W hW => (HHc.out.old hW).vars (fun e he => by
    rcases HUc.out.ep with e2 | ⟨s, r, e2, -, -, ha, -⟩
    ·rw [e2] at he; cases he
    ·rw [e2] at he; injection he with he; subst he; rw [ha]; exact Nat.zero_le _)
   have fu := fun A c W => vars_units x' A c W
   rw [HUc.out.un] at fu
   have HFA : Hid (∀ o, Fresh wc (wc.alloc o)) := fun o => (Touch.refl _ _).alloc _
   clear HN
   go_wp2_with (go_at_call 15; (with_reducible refine (HV.out _ (HFA.out _)).mono ?_); rintro e we ⟨A', c', rfl, f3⟩; have HFE := lh ((HHc.out.fresh.trans (HFA.out _) (fun _ _ e => e)).trans f3 (fun _ _ e => e)); clear f3; simp only)
   go_ret
   exact ⟨rfl, HFE.out⟩
end Go.Proofs.YtipaobpmojahaaaGreat
