/-
  polliwoglaw12.Step: what it leaves; Poll.
-/
import Derived.Test.YtpjmgdoekeknjaaSt12
import Derived.Test.YtpjmgdoekeknjaaRfB
import Derived.Test.YtpjmgdoekeknjaaRfC
import Derived.Test.YtpjmgdoekeknjaaClo12
import Derived.Test.YtpjmgdoekeknjaaSameS
import Derived.Test.YtpjmgdoekeknjaaCut
namespace Go.Proofs.Ytpjmgdoekeknjaa
open Go.RowKit

/-- The document's receiver behind a call. -/
def Rf.step (x : Rf.S) (a : Act12) : Rf.S :=
  if a.kind = 1 then Rf.poll x (near12 a x.H)
  else if a.kind = 2 then Rf.renew x
  else if a.kind = 3 then (Rf.gap x).1
  else if a.kind = 4 then { x with inbox := x.inbox.drop (max 0 (min a.n (x.inbox.length : Int))).toNat }
  else if a.kind = 5 then x
  else (Rf.data x (near12 a x.R) (cut5 a.m)).1
theorem Rf.Ok.gap {x : Rf.S} {lo hi : Int} (h : Rf.Ok x lo hi) : Rf.Ok (Rf.gap x).1 lo hi := by
  suffices hs : ∀ gs : List (Int × Int), (∀ g ∈ gs, g ∈ x.gaps) → gs.length ≤ 8 → Rf.Ok (Rf.gapL x gs).1 lo hi from hs x.gaps (fun g hg => hg) h.glen
  intro gs
  induction gs with
  | nil => intro _ _; exact h.gapless [] (fun _ hg => by cases hg) (by simp)
  | cons g gs ih =>
    intro h1 h2
    have e : Rf.gapL x (g :: gs) = if 0 ≤ (Rf.ft x g).1 then (Rf.renew { x with gaps := gs }, (Rf.ft x g).1, (Rf.ft x g).2, true) else Rf.gapL x gs := rfl
    have h3 : gs.length ≤ 8 := by simp at h2; omega
    rw [e]
    split
    · exact ((h.gapless gs (fun a ha => h1 a (by simp [ha])) h3).renew).2
    · exact ih (fun a ha => h1 a (by simp [ha])) h3
theorem Rf.Ok.step {x : Rf.S} {lo hi : Int} (h : Rf.Ok x lo hi) (a : Act12) (hh : hi + 64 - lo ≤ 8000000) : Rf.Ok (Rf.step x a) lo (hi + 64) := by
  unfold Rf.step
  split
  · exact ((h.poll _).2).mono (by omega) hh
  · split
    · exact (h.renew.2).mono (by omega) hh
    · split
      · exact h.gap.mono (by omega) hh
      · split
        · exact (h.take _).mono (by omega) hh
        · split
          · exact h.mono (by omega) hh
          · exact (h.data _ _ hh).2

/-- What a call of Step leaves. -/
def StepPost (w : World) (p : Nat) (F D : Nat → Prop) (y : Rf.S) (e : Ending) (w' : World) : Prop :=
  ∃ v' F' D', e = .returned (.tuple #[v', .bool true]) ∧ RecvAt w' p F' (Rf.prog y) ∧ RfAt w' v' y D' ∧ (∀ k, F' k → ¬ D' k) ∧ Touch F w w' ∧ (∀ k, F' k → F k ∨ w.heap.size ≤ k) ∧ ∀ k, D' k → D k ∨ w.heap.size ≤ k

/-- The boxes of a call of Step: the document's receiver, the act, the result. -/
structure StBox (w wr : World) (A : Option Addr) (c : Nat) (I : Option Addr) (ci : Nat) (G : Option Addr) (cg : Nat) (x : Rf.S) (a : Act12) : Prop where
  rf : Blk wr w.heap.size 52 (rfCells x A c I ci G cg)
  act : Blk wr (w.heap.size + 1) 57 [.int .i64 a.kind, .int .i64 a.n, .bool a.raw, .string a.m]
  res : Blk wr (w.heap.size + 1 + 1) 52 rfZero
section
variable {w wr wr' : World} {A I G : Option Addr} {c ci cg : Nat} {x : Rf.S} {a : Act12} {L : List (Option Nat)} {D P : Nat → Prop}
theorem StBox.touch {T : Nat → Prop} (h : StBox w wr A c I ci G cg x a) (ht : Touch T wr wr') (hT : ∀ k, T k → k < w.heap.size) : StBox w wr' A c I ci G cg x a :=
  ⟨ht.blk h.rf (fun e => by have := hT _ e; omega), ht.blk h.act (fun e => by have := hT _ e; omega), ht.blk h.res (fun e => by have := hT _ e; omega)⟩
theorem StBox.cells (h : StBox w wr A c I ci G cg x a) : wr.cell? ⟨w.heap.size, 0, none⟩ = some (.int .i64 x.R) ∧ wr.cell? ⟨w.heap.size, 1, none⟩ = some (.int .i64 x.H) ∧ wr.cell? ⟨w.heap.size, 2, none⟩ = some (.int .i64 x.MR) ∧ wr.cell? ⟨w.heap.size, 3, none⟩ = some (.int .i64 x.window) ∧
    wr.cell? ⟨w.heap.size, 4, none⟩ = some (.slice A x.buf.length c) ∧ wr.cell? ⟨w.heap.size, 5, none⟩ = some (.slice I x.inbox.length ci) ∧ wr.cell? ⟨w.heap.size, 6, none⟩ = some (.slice G x.gaps.length cg) :=
  ⟨h.rf.cell 0, h.rf.cell 1, h.rf.cell 2, h.rf.cell 3, h.rf.cell 4, h.rf.cell 5, h.rf.cell 6⟩
theorem StBox.acts (h : StBox w wr A c I ci G cg x a) : wr.cell? ⟨w.heap.size + 1, 0, none⟩ = some (.int .i64 a.kind) ∧ wr.cell? ⟨w.heap.size + 1, 1, none⟩ = some (.int .i64 a.n) ∧ wr.cell? ⟨w.heap.size + 1, 2, none⟩ = some (.bool a.raw) ∧ wr.cell? ⟨w.heap.size + 1, 3, none⟩ = some (.string a.m) :=
  ⟨h.act.cell 0, h.act.cell 1, h.act.cell 2, h.act.cell 3⟩
theorem StBox.zeros (h : StBox w wr A c I ci G cg x a) : wr.cell? ⟨w.heap.size + 1 + 1, 0, none⟩ = some (.int .i64 0) ∧ wr.cell? ⟨w.heap.size + 1 + 1, 1, none⟩ = some (.int .i64 0) ∧ wr.cell? ⟨w.heap.size + 1 + 1, 2, none⟩ = some (.int .i64 0) ∧ wr.cell? ⟨w.heap.size + 1 + 1, 3, none⟩ = some (.int .i64 0) ∧
    wr.cell? ⟨w.heap.size + 1 + 1, 4, none⟩ = some (.slice none 0 0) ∧ wr.cell? ⟨w.heap.size + 1 + 1, 5, none⟩ = some (.slice none 0 0) ∧ wr.cell? ⟨w.heap.size + 1 + 1, 6, none⟩ = some (.slice none 0 0) :=
  ⟨h.res.cell 0, h.res.cell 1, h.res.cell 2, h.res.cell 3, h.res.cell 4, h.res.cell 5, h.res.cell 6⟩
theorem StBox.new (w : World) (A : Option Addr) (c : Nat) (I : Option Addr) (ci : Nat) (G : Option Addr) (cg : Nat) (x : Rf.S) (a : Act12) : StBox w (((w.alloc (.cells #[.int .i64 x.R, .int .i64 x.H, .int .i64 x.MR, .int .i64 x.window, .slice A x.buf.length c, .slice I x.inbox.length ci, .slice G x.gaps.length cg] 52)).alloc
    (.cells #[.int .i64 a.kind, .int .i64 a.n, .bool a.raw, .string a.m] 57)).alloc (.cells #[.int .i64 0, .int .i64 0, .int .i64 0, .int .i64 0, .slice none 0 0, .slice none 0 0, .slice none 0 0] 52)) A c I ci G cg x a := by
  refine ⟨((Blk.new w _ (rfCells x A c I ci G cg)).alloc _).alloc _, (Blk.new1 w _ _ [.int .i64 a.kind, .int .i64 a.n, .bool a.raw, .string a.m]).alloc _, ?_⟩
  have := Blk.new1 (w.alloc (.cells #[.int .i64 x.R, .int .i64 x.H, .int .i64 x.MR, .int .i64 x.window, .slice A x.buf.length c, .slice I x.inbox.length ci, .slice G x.gaps.length cg] 52)) (.cells #[.int .i64 a.kind, .int .i64 a.n, .bool a.raw, .string a.m] 57) 52 rfZero
  rw [show ∀ o, (w.alloc o).heap.size = w.heap.size + 1 from fun o => by simp] at this
  exact this
theorem RfIn.at_ (h : RfIn wr A c I ci G cg L x) (hd : RfD A I G L P) (hp : ∀ k, P k → k < wr.heap.size → D k) (hl : ∀ k, D k → k < wr.heap.size) : RfAt wr (rfV x A c I ci G cg) x D := by
  refine ⟨A, c, I, ci, G, cg, L, rfl, h, ⟨fun ad e => hp _ (hd.A ad e) (h.buf.lt ad e), fun ad e => hp _ (hd.I ad e) (h.inb.lt ad e), fun ad e => hp _ (hd.G ad e) (h.gap.lt ad e), fun b e => ?_⟩, hl⟩
  refine hp _ (hd.L b e) ?_
  have hr := h.rows
  revert e
  generalize x.gaps = gs at hr
  clear h hd
  induction L generalizing gs with
  | nil => intro e; cases e
  | cons o L ih =>
    cases gs with
    | nil => exact hr.elim
    | cons g gs =>
      obtain ⟨⟨b', e', hb⟩, hr⟩ := hr
      intro e
      rcases List.mem_cons.1 e with e | e
      · rw [← e] at e'
        injection e' with e'
        exact e' ▸ hb.lt
      · exact ih gs hr e
end

/-- What Step is given. -/
structure StIn (w : World) (p : Nat) (F D : Nat → Prop) (A : Option Addr) (c : Nat) (I : Option Addr) (ci : Nat) (G : Option Addr) (cg : Nat) (L : List (Option Nat)) (x : Rf.S) (lo hi : Int) : Prop where
  recv : RecvAt w p F (Rf.prog x)
  ins : RfIn w A c I ci G cg L x
  dom : RfD A I G L D
  lim : ∀ k, D k → k < w.heap.size
  off : ∀ k, F k → ¬ D k
  ok : Rf.Ok x lo hi
theorem Rf.Ok.ilen {x : Rf.S} {lo hi : Int} (h : Rf.Ok x lo hi) : x.inbox.length ≤ 64 := by
  have h1 := h.sum
  have h2 := h.win
  have h3 := h.hm
  have h4 := h.rh
  omega

/-- The parts are those that came in. -/
theorem StIn.same {w W : World} {p : Nat} {F D : Nat → Prop} {A I G : Option Addr} {c ci cg : Nat} {L : List (Option Nat)} {x y : Rf.S} {lo hi : Int} (h : StIn w p F D A c I ci G cg L x lo hi) (ht : Touch F w W) (hr : RecvAt W p F (Rf.prog y)) (hy : y.buf = x.buf ∧ y.inbox = x.inbox ∧ y.gaps = x.gaps) :
    StepPost w p F D y (.returned (.tuple #[rfV y A c I ci G cg, .bool true])) W := by
  have hi2 := h.ins.touch h.dom ht (fun k hk hf => h.off k hf hk)
  refine ⟨_, F, D, rfl, hr, RfIn.at_ (L := L) ⟨?_, ?_, hi2.gap, ?_⟩ h.dom (fun _ h _ => h) (fun k hk => Nat.lt_of_lt_of_le (h.lim k hk) ht.size), h.off, ht, fun _ h => .inl h, fun _ h => .inl h⟩
  · rw [hy.1]; exact hi2.buf
  · rw [hy.2.1]; exact hi2.inb
  · rw [hy.2.2]; exact hi2.rows
theorem Rf.poll_parts (x : Rf.S) (n : Int) : (Rf.poll x n).buf = x.buf ∧ (Rf.poll x n).inbox = x.inbox ∧ (Rf.poll x n).gaps = x.gaps := by
  unfold Rf.poll
  split <;> exact ⟨rfl, rfl, rfl⟩

set_option maxHeartbeats 8000000 in
set_option maxRecDepth 4000 in
theorem step12_poll {lo hi : Int} (p : Nat) (F D : Nat → Prop) (A : Option Addr) (c : Nat) (I : Option Addr) (ci : Nat) (G : Option Addr) (cg : Nat) (L : List (Option Nat)) (x : Rf.S) (a : Act12) (w : World) (h : StIn w p F D A c I ci G cg L x lo hi) (hk : a.kind = 1) {y : Rf.S} (hy : Rf.poll x (near12 a x.H) = y) :
    Calls Try.prog 24 #[.pointer (some ⟨p, 0, none⟩), rfV x A c I ci G cg, act12V a] w (StepPost w p F D y) := by
  have HI := Lib.hid h
  have b1 := h.ok.lo0
  have b2 := h.ok.lor
  have b3 := h.ok.rhi
  have b4 := h.ok.hl
  have b5 := h.ok.hm
  have b6 := h.ok.sum
  have b7 := h.ok.win
  have b8 := h.ok.rh
  have HB := Lib.hid (StBox.new w A c I ci G cg x a)
  have F1 : Hid (Fresh w (((w.alloc (.cells #[.int .i64 x.R, .int .i64 x.H, .int .i64 x.MR, .int .i64 x.window, .slice A x.buf.length c, .slice I x.inbox.length ci, .slice G x.gaps.length cg] 52)).alloc
    (.cells #[.int .i64 a.kind, .int .i64 a.n, .bool a.raw, .string a.m] 57)).alloc (.cells #[.int .i64 0, .int .i64 0, .int .i64 0, .int .i64 0, .slice none 0 0, .slice none 0 0, .slice none 0 0] 52))) := (((Touch.refl _ _).alloc _).alloc _).alloc _
  have HNE := Lib.hid (near_any a x.H (by omega))
  have hnb := near_bd a x.H
  have HY := Lib.hid hy
  clear hy
  have HNP := Lib.hid (h.ok.pollOk (near12 a x.H))
  have HPL := Lib.hid (h.ok.poll (near12 a x.H)).1
  have HPP := Lib.hid (Rf.poll_parts x (near12 a x.H))
  generalize near12 a x.H = n at *
  have hnm : n % 16777216 = n := by omega
  have HSO := Lib.hid (sof_any n)
  rw [hnm] at HNP HSO
  have HRP := Lib.hid (fun W => rfpoll_any A c I ci G cg L x n W h.ok)
  have HNM : Hid (n % 16777216 = n) := hnm
  clear h hnm
  unfold rfV at HRP ⊢
  unfold act12V at HNE ⊢
  rw [hk] at HB F1 HNE ⊢
  have hk0 : Hid (a.kind = 1) := hk
  clear hk
  go_enter Try.func24, Try.ntmps24
  go_upto_region 3 with (fail)
  generalize (World.alloc (World.alloc (World.alloc w _) _) _) = w1 at HB F1 ⊢
  obtain ⟨c0, c1, c2, c3, c4, c5, c6⟩ := HB.out.cells
  obtain ⟨a0, a1, a2, a3⟩ := HB.out.acts
  rw [hk0.out] at a0
  go_wp2_with fail
  refine (HNE.out w1).mono ?_
  rintro e w2 ⟨rfl, f2⟩
  have HB2 := Lib.hid (HB.out.touch f2 (fun _ h => h.elim))
  have F2 := Lib.hid (F1.out.trans f2 (fun _ _ h => h))
  clear f2 HB F1 HNE c0 c1 c2 c3 c4 c5 c6 a0 a1 a2 a3
  obtain ⟨c0, c1, c2, c3, c4, c5, c6⟩ := HB2.out.cells
  simp only
  go_wp2_with fail
  refine (HRP.out w2).mono ?_
  rintro e w3 ⟨rfl, f3⟩
  have HB3 := Lib.hid (HB2.out.touch f3 (fun _ h => h.elim))
  have F3 := Lib.hid (F2.out.trans f3 (fun _ _ h => h))
  clear f3 HB2 F2 HRP c0 c1 c2 c3 c4 c5 c6
  simp only
  go_upto_region 5 with (fail)
  rw [HY.out] at HPL HPP ⊢
  clear HY
  have B4 := Lib.hid (Blk.new w3 52 (rfCells y A c I ci G cg))
  have HB4 := Lib.hid (HB3.out.touch ((Touch.refl (fun _ => False) w3).alloc (.cells (rfCells y A c I ci G cg).toArray 52)) (fun _ h => h.elim))
  have F4 := Lib.hid (F3.out.alloc (.cells (rfCells y A c I ci G cg).toArray 52))
  have hsz3 : w.heap.size ≤ w3.heap.size := F3.out.size
  clear HB3 F3
  generalize hw4 : World.alloc w3 _ = w4
  have B4' : Hid (Blk w4 w3.heap.size 52 (rfCells y A c I ci G cg)) := hw4 ▸ B4.out
  have HB4' : Hid (StBox w w4 A c I ci G cg x a) := hw4 ▸ HB4.out
  have F4' : Hid (Fresh w w4) := hw4 ▸ F4.out
  clear B4 HB4 F4 hw4
  go_wp2_with fail
  refine (HSO.out w4).mono ?_
  rintro e w5 ⟨rfl, rfl⟩
  simp only
  go_wp2_with fail
  refine (rpoll_any p F (Rf.prog x) n w5 (HI.out.recv.old F4'.out) HNP.out).mono ?_
  rintro e w6 ⟨rfl, h6, t6⟩
  have hF : ∀ k, F k → k < w.heap.size := HI.out.recv.lim
  have H6 : Hid (RecvAt w6 p F (Rf.prog y)) := by
    rw [HNM.out] at h6
    have e := HPL.out
    rw [HNM.out] at e
    rw [← e]
    exact h6
  have T6 : Hid (Touch F w w6) := (F4'.out.mono (fun _ _ h => h.elim)).trans t6 (fun _ _ h => h)
  have B6 := Lib.hid (t6.blk B4'.out (fun e => by have := hF _ e; omega))
  have HB6 := Lib.hid (HB4'.out.touch t6 hF)
  clear h6 t6 B4' HB4' F4' HNP HPL
  simp only
  have d0 : w6.cell? ⟨w3.heap.size, 0, none⟩ = _ := B6.out.cell 0
  have d1 : w6.cell? ⟨w3.heap.size, 1, none⟩ = _ := B6.out.cell 1
  have d2 : w6.cell? ⟨w3.heap.size, 2, none⟩ = _ := B6.out.cell 2
  have d3 : w6.cell? ⟨w3.heap.size, 3, none⟩ = _ := B6.out.cell 3
  have d4 : w6.cell? ⟨w3.heap.size, 4, none⟩ = _ := B6.out.cell 4
  have d5 : w6.cell? ⟨w3.heap.size, 5, none⟩ = _ := B6.out.cell 5
  have d6 : w6.cell? ⟨w3.heap.size, 6, none⟩ = _ := B6.out.cell 6
  simp only [rfCells, List.getElem?_cons_succ, List.getElem?_cons_zero] at d0 d1 d2 d3 d4 d5 d6
  obtain ⟨z0, z1, z2, z3, z4, z5, z6⟩ := HB6.out.zeros
  have fz := fun i => HB6.out.res.frozen i
  have HX : Hid (∀ W, Touch (· = w.heap.size + 1 + 1) w6 W → StepPost w p F D y (.returned (.tuple #[.agg #[.int .i64 y.R, .int .i64 y.H, .int .i64 y.MR, .int .i64 y.window, .slice A y.buf.length c, .slice I y.inbox.length ci, .slice G y.gaps.length cg], .bool true])) W) := fun W hT =>
    HI.out.same (T6.out.trans hT (fun k hk e => by omega)) (H6.out.touch hT (fun k hk e => by have := hF k hk; omega)) HPP.out
  clear B6 HB6 T6 H6 HI HPP HSO hF
  cases Rf.pollOk x n
  · simp only [Bool.false_eq_true, if_false]
    go_wp2
    refine bodyPost_ret (v := _) (by simp [results, Try.results24, go_sem, z0, z1, z2, z3, z4, z5, z6]) rfl (HX.out _ ?_)
    repeat (first | with_reducible refine Touch.st ?_ rfl | with_reducible exact Touch.refl _ _)
  · simp only [if_true]
    go_wp2
    refine bodyPost_ret (v := _) (by simp [results, Try.results24, go_sem, z0, z1, z2, z3, z4, z5, z6]) rfl (HX.out _ ?_)
    repeat (first | with_reducible refine Touch.st ?_ rfl | with_reducible exact Touch.refl _ _)
end Go.Proofs.Ytpjmgdoekeknjaa
