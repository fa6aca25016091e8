/-
  polliwogref12.Recv: what it is in memory.
-/
import Derived.Test.YtpjmgdoekeknjaaTy
import Derived.Test.YtpjmgdoekeknjaaMine
import Derived.Test.YtpjmgdoekeknjaaRf
import Derived.Test.YtpjmgdoekeknjaaR01
import Derived.Deep.DeepCutAuto
import Derived.Deep.QuietTactic
import Derived.BigQuiet
import Derived.StillTailTactics
namespace Go.Proofs.Ytpjmgdoekeknjaa
open Go.RowKit

def itemE : El (Int × ByteArray) := { e := 98, size := 2, bytes := 24, zero := .agg #[.int .i64 0, .string ByteArray.empty], zel := (0, ByteArray.empty), enc := fun x => [.int .i64 x.1, .string x.2], len := fun _ => rfl, one := by simp [Value.oneCell'], pos := by decide, zsize := rfl, zenc := rfl }
theorem Try.infoItem : (Try.prog.info? 98).map (fun i => (i.zero, i.size, i.bytes)) = some (some (.agg #[.int .i64 0, .string ByteArray.empty]), 2, 24) := by kernel_rfl
theorem Sl.item_at {w : World} {A : Option Addr} {c : Nat} {l : List (Int × ByteArray)} (h : Sl itemE w A c l) (k : Nat) (hk : k < l.length) : ∃ g o, A = some ⟨g, o, none⟩ ∧ g < w.heap.size ∧ w.cell? ⟨g, o + k * 2, none⟩ = some (.int .i64 (l.getD k (0, ByteArray.empty)).1) ∧ w.cell? ⟨g, o + k * 2 + 1, none⟩ = some (.string (l.getD k (0, ByteArray.empty)).2) := by
  obtain ⟨g, o, hA, hg, hc⟩ := h.at_ k hk
  have e : l.getD k (0, ByteArray.empty) = l[k] := by simp [List.getD, List.getElem?_eq_getElem hk]
  rw [e]
  refine ⟨g, o, hA, hg, ?_, ?_⟩
  · have := hc 0 (.int .i64 l[k].1) rfl
    simpa [itemE, Nat.add_assoc] using this
  · have := hc 1 (.string l[k].2) rfl
    simpa [itemE, Nat.add_assoc] using this
theorem app_item {ops : Array Oper} {rest : List Oper} {o : Oper} {a : Act} {Q : Exit → Act → World → Prop} {w : World} (hgd : o.guard = none) {s x : Operand}
    (ho : o.op = .call { callee := .builtin .append, args := #[s, x], argTypes := #[49, 49] })
    {A A2 : Option Addr} {c c2 : Nat} {l l2 : List (Int × ByteArray)} (es : a.eval s = .slice A l.length c) (ex : a.eval x = .slice A2 l2.length c2)
    (h : Sl itemE w A c l) (h2 : Rd itemE w A2 c2 l2) (hm : l.length + l2.length ≤ 1000000000000)
    (hK : ∀ A' c' L w', Hid (L = l ++ l2) → Sl itemE w' A' c' L → Touch (fun k => A.map Addr.block = some k) w w' → (A'.map Addr.block = A.map Addr.block ∨ A'.map Addr.block = some w.heap.size) →
      wpList Try.prog ops Q rest (a.put o.dst (.slice A' L.length c')) w') : wpList Try.prog ops Q (o :: rest) a w := by
  obtain ⟨i0, hi, hz0, hz1, hz2⟩ := info_parts Try.infoItem
  exact wpList_app itemE hgd ho i0 Try.underlying49 hi hz0 hz1 hz2 es ex h h2 (by simp only [maxLen]; omega) (by show _ * 24 ≤ _; omega) hK

/-- Slices of two whole numbers, each from the beginning of its block. -/
def gsV : Option Nat → Value
  | none => .slice none 0 0
  | some b => .slice (some ⟨b, 0, none⟩) 2 2
def gsE : El (Option Nat) := { e := 22, size := 1, bytes := 24, zero := .slice none 0 0, zel := none, enc := fun x => [gsV x], len := fun _ => rfl, one := by rintro (_ | b) u hu <;> (rw [List.mem_singleton] at hu; subst hu; rfl), pos := by decide, zsize := rfl, zenc := rfl }
theorem Try.infoGs : (Try.prog.info? 22).map (fun i => (i.zero, i.size, i.bytes)) = some (some (.slice none 0 0), 1, 24) := by kernel_rfl
theorem Sl.gs_at {w : World} {A : Option Addr} {c : Nat} {l : List (Option Nat)} (h : Sl gsE w A c l) (k : Nat) (hk : k < l.length) : ∃ g o, A = some ⟨g, o, none⟩ ∧ g < w.heap.size ∧ w.cell? ⟨g, o + k, none⟩ = some (gsV (l.getD k none)) := by
  obtain ⟨g, o, hA, hg, hc⟩ := h.at_ k hk
  refine ⟨g, o, hA, hg, ?_⟩
  have := hc 0 (gsV (l.getD k none)) (by simp [gsE, List.getD, List.getElem?_eq_getElem hk])
  simpa [gsE] using this
theorem app_gs {ops : Array Oper} {rest : List Oper} {o : Oper} {a : Act} {Q : Exit → Act → World → Prop} {w : World} (hgd : o.guard = none) {s x : Operand}
    (ho : o.op = .call { callee := .builtin .append, args := #[s, x], argTypes := #[50, 50] })
    {A A2 : Option Addr} {c c2 : Nat} {l l2 : List (Option Nat)} (es : a.eval s = .slice A l.length c) (ex : a.eval x = .slice A2 l2.length c2)
    (h : Sl gsE w A c l) (h2 : Rd gsE w A2 c2 l2) (hm : l.length + l2.length ≤ 1000000000000)
    (hK : ∀ A' c' L w', Hid (L = l ++ l2) → Sl gsE w' A' c' L → Touch (fun k => A.map Addr.block = some k) w w' → (A'.map Addr.block = A.map Addr.block ∨ A'.map Addr.block = some w.heap.size) →
      wpList Try.prog ops Q rest (a.put o.dst (.slice A' L.length c')) w') : wpList Try.prog ops Q (o :: rest) a w := by
  obtain ⟨i0, hi, hz0, hz1, hz2⟩ := info_parts Try.infoGs
  exact wpList_app gsE hgd ho i0 Try.underlying50 hi hz0 hz1 hz2 es ex h h2 (by simp only [maxLen]; omega) (by show _ * 24 ≤ _; omega) hK

theorem stp_gs {ops : Array Oper} {o : Oper} {a : Act} {K : Act → World → Prop} {Q : Exit → Act → World → Prop} {F : Prop} {w : World} (hgd : o.guard = none) {s x : Operand}
    (ho : o.op = .call { callee := .builtin .append, args := #[s, x], argTypes := #[50, 50] })
    {A A2 : Option Addr} {c c2 : Nat} {l l2 : List (Option Nat)} (es : a.eval s = .slice A l.length c) (ex : a.eval x = .slice A2 l2.length c2)
    (h : Sl gsE w A c l) (h2 : Rd gsE w A2 c2 l2) (hm : l.length + l2.length ≤ 1000000000000)
    (hK : ∀ A' c' L w', Hid (L = l ++ l2) → Sl gsE w' A' c' L → Touch (fun k => A.map Addr.block = some k) w w' → (A'.map Addr.block = A.map Addr.block ∨ A'.map Addr.block = some w.heap.size) →
      K (a.put o.dst (.slice A' L.length c')) w') : if Region.wanted o (yielded ops a.tmps) = true then Oper.wp Try.prog o a w K Q else F := by
  obtain ⟨i0, hi, hz0, hz1, hz2⟩ := info_parts Try.infoGs
  exact step_app gsE hgd ho i0 Try.underlying50 hi hz0 hz1 hz2 es ex h h2 (by simp only [maxLen]; omega) (by show _ * 24 ≤ _; omega) hK

/-- The gaps' ends lie each in a block of their own. -/
def GapRows (w : World) : List (Option Nat) → List (Int × Int) → Prop
  | [], [] => True
  | o :: L, g :: l => (∃ b, o = some b ∧ Blk w b 3 [.int .i64 g.1, .int .i64 g.2]) ∧ GapRows w L l
  | _, _ => False
theorem GapRows.touch {w w' : World} {T : Nat → Prop} (ht : Touch T w w') : ∀ {L : List (Option Nat)} {l : List (Int × Int)}, GapRows w L l → (∀ b, some b ∈ L → ¬ T b) → GapRows w' L l
  | [], [], _, _ => trivial
  | o :: L, g :: l, ⟨⟨b, e, hb⟩, h⟩, hs => ⟨⟨b, e, ht.blk hb (hs b (by simp [e]))⟩, GapRows.touch ht h fun c hc => hs c (by simp [hc])⟩
theorem GapRows.len {w : World} : ∀ {L : List (Option Nat)} {l : List (Int × Int)}, GapRows w L l → L.length = l.length
  | [], [], _ => rfl
  | o :: L, g :: l, ⟨_, h⟩ => by rw [List.length_cons, List.length_cons, h.len]
theorem GapRows.snoc {w : World} {b : Nat} {g : Int × Int} (hb : Blk w b 3 [.int .i64 g.1, .int .i64 g.2]) : ∀ {L : List (Option Nat)} {l : List (Int × Int)}, GapRows w L l → GapRows w (L ++ [some b]) (l ++ [g])
  | [], [], _ => ⟨⟨b, rfl, hb⟩, trivial⟩
  | o :: L, g' :: l, ⟨h1, h⟩ => ⟨h1, GapRows.snoc hb h⟩

theorem GapRows.far {w w' : World} {g : Nat} {t : TypeId} {cs : List Value} (hb : Blk w g t cs) (ht : Touch (· = g) w w') (hne : t ≠ 3) : ∀ {L : List (Option Nat)} {l : List (Int × Int)}, GapRows w L l → GapRows w' L l
  | [], [], _ => trivial
  | o :: L, g' :: l, ⟨⟨b, e, hb'⟩, h⟩ => ⟨⟨b, e, ht.blk hb' (fun e => hb.ne_ hb' hne e.symm)⟩, GapRows.far hb ht hne h⟩

def rfV (x : Rf.S) (A : Option Addr) (c : Nat) (I : Option Addr) (ci : Nat) (G : Option Addr) (cg : Nat) : Value :=
  .agg #[.int .i64 x.R, .int .i64 x.H, .int .i64 x.MR, .int .i64 x.window, .slice A x.buf.length c, .slice I x.inbox.length ci, .slice G x.gaps.length cg]

/-- Where its parts lie. -/
structure RfIn (w : World) (A : Option Addr) (c : Nat) (I : Option Addr) (ci : Nat) (G : Option Addr) (cg : Nat) (L : List (Option Nat)) (x : Rf.S) : Prop where
  buf : Sl itemE w A c x.buf
  inb : Sl strE w I ci x.inbox
  gap : Sl gsE w G cg L
  rows : GapRows w L x.gaps
/-- Its parts lie within D. -/
structure RfD (A I G : Option Addr) (L : List (Option Nat)) (D : Nat → Prop) : Prop where
  A : ∀ ad, A = some ad → D ad.block
  I : ∀ ad, I = some ad → D ad.block
  G : ∀ ad, G = some ad → D ad.block
  L : ∀ b, some b ∈ L → D b
/-- The value v is x, its parts within D; D is of what is there. -/
def RfAt (w : World) (v : Value) (x : Rf.S) (D : Nat → Prop) : Prop := ∃ A c I ci G cg L, v = rfV x A c I ci G cg ∧ RfIn w A c I ci G cg L x ∧ RfD A I G L D ∧ ∀ k, D k → k < w.heap.size

section
variable {w w' : World} {A I G : Option Addr} {c ci cg : Nat} {L : List (Option Nat)} {x : Rf.S} {D : Nat → Prop} {v : Value}
theorem RfIn.touch {T : Nat → Prop} (h : RfIn w A c I ci G cg L x) (hd : RfD A I G L D) (ht : Touch T w w') (hT : ∀ k, D k → ¬ T k) : RfIn w' A c I ci G cg L x :=
  ⟨h.buf.touch ht (fun ad e => hT _ (hd.A ad e)), h.inb.touch ht (fun ad e => hT _ (hd.I ad e)), h.gap.touch ht (fun ad e => hT _ (hd.G ad e)), GapRows.touch ht h.rows fun b e => hT _ (hd.L b e)⟩
theorem RfIn.old (h : RfIn w A c I ci G cg L x) (ht : Fresh w w') : RfIn w' A c I ci G cg L x :=
  ⟨h.buf.touch ht (fun _ _ h => h), h.inb.touch ht (fun _ _ h => h), h.gap.touch ht (fun _ _ h => h), GapRows.touch ht h.rows fun _ _ h => h⟩
theorem RfIn.far {g : Nat} {cs : List Value} (h : RfIn w A c I ci G cg L x) (hb : Blk w g 52 cs) (ht : Touch (· = g) w w') : RfIn w' A c I ci G cg L x :=
  ⟨h.buf.touch ht (h.buf.blk_ne hb (by decide)), h.inb.touch ht (h.inb.blk_ne hb (by decide)), h.gap.touch ht (h.gap.blk_ne hb (by decide)), GapRows.far hb ht (by decide) h.rows⟩
theorem RfAt.touch {T : Nat → Prop} (h : RfAt w v x D) (ht : Touch T w w') (hT : ∀ k, D k → ¬ T k) : RfAt w' v x D := by
  obtain ⟨A, c, I, ci, G, cg, L, e, h1, h2, h3⟩ := h
  exact ⟨A, c, I, ci, G, cg, L, e, h1.touch h2 ht hT, h2, fun k hk => Nat.lt_of_lt_of_le (h3 k hk) ht.size⟩
theorem RfAt.old (h : RfAt w v x D) (ht : Fresh w w') : RfAt w' v x D := h.touch ht (fun _ _ h => h)
theorem RfAt.lim (h : RfAt w v x D) : ∀ k, D k → k < w.heap.size := by
  obtain ⟨A, c, I, ci, G, cg, L, e, h1, h2, h3⟩ := h
  exact h3
end

/-- Behind a call that writes nothing that was there: the value is y; its parts may be new ones. -/
def RfOut (w : World) (D : Nat → Prop) (y : Rf.S) (v : Value) (w' : World) : Prop := ∃ D', RfAt w' v y D' ∧ Fresh w w' ∧ ∀ k, D' k → D k ∨ w.heap.size ≤ k
end Go.Proofs.Ytpjmgdoekeknjaa

namespace Go.Proofs.Ytpjmgdoekeknjaa
open Go.RowKit

set_option maxHeartbeats 4000000 in
theorem rfnew_any (start window : Int) (w : World) :
    Calls Try.prog 23 #[.int .i64 start, .int .i64 window] w fun e w' => e = .returned (rfV (Rf.new start window) none 0 none 0 none 0) ∧ Fresh w w' := by
  have hv : rfV (Rf.new start window) none 0 none 0 none 0 = .agg #[.int .i64 (start % 16777216), .int .i64 (start % 16777216), .int .i64 (start % 16777216 + max 1 (min window 64)), .int .i64 (max 1 (min window 64)), .slice none 0 0, .slice none 0 0, .slice none 0 0] := rfl
  rw [hv]
  clear hv
  obtain ⟨m, hm⟩ : ∃ m : Int, max 1 (min window 64) = m := ⟨_, rfl⟩
  rw [hm]
  have hm1 : (if 64 < window then 64 else window) = min window 64 := by split <;> omega
  go_enter Try.func23, Try.ntmps23
  go_wp2_with fail
  refine (r01of_any start _).mono ?_
  rintro e w1 ⟨rfl, rfl⟩
  simp only
  go_wp2
  exact bodyPost_ret (v := _) (by simp [results, Try.results23, go_sem]) rfl ⟨rfl, (Touch.refl _ _).alloc _⟩

set_option maxHeartbeats 4000000 in
theorem rfhas_any (A : Option Addr) (c : Nat) (I : Option Addr) (ci : Nat) (G : Option Addr) (cg : Nat) (L : List (Option Nat)) (x : Rf.S) (n : Int) (w : World) (h : RfIn w A c I ci G cg L x) :
    Calls Try.prog 47 #[rfV x A c I ci G cg, .int .i64 n] w fun e w' => e = .returned (.bool (Rf.has x n)) ∧ Fresh w w' := by
  have hlc := h.buf.1
  have hcm := h.buf.2.1
  unfold maxLen at hcm
  have H := Lib.hid h.buf
  clear h
  unfold rfV
  generalize x.inbox.length = a1
  generalize x.gaps.length = a2
  have HX : Hid (Rf.has x n = true ↔ n ∈ x.buf.map (·.1)) := by unfold Hid Rf.has; simp
  generalize Rf.has x n = q at *
  generalize x.buf = l at *
  go_enter Try.func47, Try.ntmps47
  go_wp2_with fail
  go_loopw [10] (fun i wr => ∃ k : Nat, k ≤ l.length ∧ i = .int .i64 k ∧ Hid (∀ y ∈ l.take k, y.1 ≠ n) ∧ Hid (Fresh w wr)) (fun i _ => l.length - (intOf i).toNat)
  case atStart => exact ⟨0, by omega, rfl, fun y hy => by simp at hy, (Touch.refl _ _).alloc _⟩
  case round =>
    obtain ⟨k, hk, rfl, he, HT⟩ := hrel
    by_cases hlt : k < l.length
    · obtain ⟨g, o, rfl, hg, c0, c1⟩ := (H.out.touch HT.out (fun _ _ h => h)).item_at k hlt
      have hkl : (k : Int) < (l.length : Int) := by omega
      have hk0 : (0 : Int) ≤ (k : Int) := by omega
      have HY : Hid (l.getD k (0, ByteArray.empty) ∈ l ∧ l.take (k + 1) = l.take k ++ [l.getD k (0, ByteArray.empty)]) := by
        have e : l.getD k (0, ByteArray.empty) = l[k] := by simp [List.getD, List.getElem?_eq_getElem hlt]
        rw [e]
        exact ⟨List.getElem_mem _, List.take_succ_eq_append_getElem hlt⟩
      generalize l.getD k (0, ByteArray.empty) = y at *
      obtain ⟨y1, y2⟩ := y
      simp only at c0 c1
      by_cases hyn : y1 = n
      · have hb : (y1 == n) = true := by simpa using hyn
        have HQ : Hid (q = true) := HX.out.2 (List.mem_map.2 ⟨(y1, y2), HY.out.1, hyn⟩)
        clear hyn HY HX he
        go_wp2
        go_ret
        exact ⟨by rw [HQ.out]; rfl, HT.out.alloc _⟩
      · have hb : (y1 == n) = false := by simpa using hyn
        have HE : Hid (∀ y ∈ l.take (k + 1), y.1 ≠ n) := fun y hy => by
          rw [HY.out.2] at hy
          rcases List.mem_append.1 hy with hy | hy
          · exact he.out y hy
          · rw [List.mem_singleton.1 hy]
            exact hyn
        clear hyn HY he
        go_wp2
        go_roundw
        case rel => exact ⟨k + 1, by omega, by go_num, HE, HT.out.alloc _⟩
        case measure => simp [intOf]; omega
    · obtain rfl : k = l.length := by omega
      have HQ : Hid (q = false) := by
        cases hq : q with
        | false => exact rfl
        | true =>
          obtain ⟨p, hp, e⟩ := List.mem_map.1 (HX.out.1 hq)
          exact absurd e (he.out p (by rw [List.take_length]; exact hp))
      clear HX he
      go_wp2
      go_ret
      exact ⟨by rw [HQ.out]; rfl, HT.out⟩

section
variable {lo hi : Int}
set_option maxHeartbeats 4000000 in
theorem rfpoll_any (A : Option Addr) (c : Nat) (I : Option Addr) (ci : Nat) (G : Option Addr) (cg : Nat) (L : List (Option Nat)) (x : Rf.S) (n : Int) (w : World) (h : Rf.Ok x lo hi) :
    Calls Try.prog 38 #[rfV x A c I ci G cg, .int .i64 n] w fun e w' => e = .returned (.tuple #[rfV (Rf.poll x n) A c I ci G cg, .bool (Rf.pollOk x n)]) ∧ Fresh w w' := by
  have h1 := h.lo0
  have h2 := h.lor
  have h3 := h.rhi
  have h4 := h.hl
  have h5 := h.hm
  have h6 := h.sum
  have h7 := h.win
  have h8 := h.rh
  obtain ⟨b1, b2, _⟩ := h.at_bd n
  have HT := Lib.hid (r01to_any x.R n)
  obtain ⟨d, hd⟩ : ∃ d, d = (n - x.R) % 16777216 := ⟨_, rfl⟩
  rw [← hd] at HT
  have ea : Rf.at_ x n = x.R + d := by unfold Rf.at_; rw [hd]
  have hd0 : 0 ≤ d ∧ d < 16777216 := by omega
  have HP : Hid (Rf.pollOk x n = (decide (x.H ≤ x.R + d) && decide (x.R + d ≤ x.MR))) := by unfold Hid Rf.pollOk; rw [ea]
  have HY : Hid (Rf.poll x n = if Rf.pollOk x n then { x with H := x.R + d } else x) := by unfold Hid Rf.poll; rw [ea]
  clear h hd ea b1 b2
  obtain ⟨R, H, MR, W, B, J, gs⟩ := x
  simp only at *
  generalize Rf.pollOk _ n = q at *
  generalize Rf.poll _ n = y at *
  unfold rfV
  simp only
  by_cases c1 : R + d < H
  · have hc1 : decide (R + d < H) = true := decide_eq_true c1
    have hq : q = false := by rw [HP.out, decide_eq_false (by omega)]; rfl
    subst hq
    have hy : y = ⟨R, H, MR, W, B, J, gs⟩ := HY.out
    subst hy
    clear HP HY
    go_enter Try.func38, Try.ntmps38
    go_wp2_with fail
    go_quiet ((go_at_call 46; with_reducible refine Calls.quiet_of_same (HT.out _)))
    go_wp2
    exact bodyPost_ret (v := _) (by simp [results, Try.results38, go_sem]) rfl ⟨rfl, by repeat (first | with_reducible refine Touch.setCell ?_ (fun h => by simp at h <;> omega) _ | with_reducible refine Touch.drewN ?_ _ | with_reducible refine Touch.alloc ?_ _ | with_reducible exact Touch.refl _ _)⟩
  · have hc1 : decide (R + d < H) = false := decide_eq_false c1
    by_cases c2 : MR < R + d
    · have hc2 : decide (MR < R + d) = true := decide_eq_true c2
      have hq : q = false := by rw [HP.out, decide_eq_false (show ¬ R + d ≤ MR by omega), Bool.and_false]
      subst hq
      have hy : y = ⟨R, H, MR, W, B, J, gs⟩ := HY.out
      subst hy
      clear HP HY
      go_enter Try.func38, Try.ntmps38
      go_wp2_with fail
      go_quiet ((go_at_call 46; with_reducible refine Calls.quiet_of_same (HT.out _)))
      go_wp2
      exact bodyPost_ret (v := _) (by simp [results, Try.results38, go_sem]) rfl ⟨rfl, by repeat (first | with_reducible refine Touch.setCell ?_ (fun h => by simp at h <;> omega) _ | with_reducible refine Touch.drewN ?_ _ | with_reducible refine Touch.alloc ?_ _ | with_reducible exact Touch.refl _ _)⟩
    · have hc2 : decide (MR < R + d) = false := decide_eq_false c2
      have hq : q = true := by rw [HP.out, decide_eq_true (show H ≤ R + d by omega), decide_eq_true (show R + d ≤ MR by omega)]; rfl
      subst hq
      have hy : y = ⟨R, R + d, MR, W, B, J, gs⟩ := HY.out
      subst hy
      clear HP HY
      go_enter Try.func38, Try.ntmps38
      go_wp2_with fail
      go_quiet ((go_at_call 46; with_reducible refine Calls.quiet_of_same (HT.out _)))
      go_wp2
      exact bodyPost_ret (v := _) (by simp [results, Try.results38, go_sem]) rfl ⟨rfl, by repeat (first | with_reducible refine Touch.setCell ?_ (fun h => by simp at h <;> omega) _ | with_reducible refine Touch.drewN ?_ _ | with_reducible refine Touch.alloc ?_ _ | with_reducible exact Touch.refl _ _)⟩

set_option maxHeartbeats 4000000 in
theorem rfrenew_any (A : Option Addr) (c : Nat) (I : Option Addr) (ci : Nat) (G : Option Addr) (cg : Nat) (x : Rf.S) (w : World) (h : Rf.Ok x lo hi) :
    Calls Try.prog 40 #[rfV x A c I ci G cg] w fun e w' => e = .returned (rfV (Rf.renew x) A c I ci G cg) ∧ Fresh w w' := by
  have h1 := h.lo0
  have h2 := h.lor
  have h3 := h.rhi
  have h4 := h.hl
  have h5 := h.hm
  have h6 := h.sum
  have h7 := h.win
  have h8 := h.rh
  obtain ⟨m, hm⟩ : ∃ m : Int, max x.MR (x.R + x.window - (x.inbox.length : Int)) = m := ⟨_, rfl⟩
  have HV : Hid (rfV (Rf.renew x) A c I ci G cg = .agg #[.int .i64 x.R, .int .i64 x.H, .int .i64 m, .int .i64 x.window, .slice A x.buf.length c, .slice I x.inbox.length ci, .slice G x.gaps.length cg]) := by rw [← hm]; rfl
  rw [HV.out]
  clear HV
  unfold rfV
  go_enter Try.func40, Try.ntmps40
  go_wp2
  exact bodyPost_ret (v := _) (by simp [results, Try.results40, go_sem]) rfl ⟨rfl, by repeat (first | with_reducible refine Touch.setCell ?_ (fun h => by simp at h <;> omega) _ | with_reducible refine Touch.drewN ?_ _ | with_reducible refine Touch.alloc ?_ _ | with_reducible exact Touch.refl _ _)⟩

set_option maxHeartbeats 4000000 in
theorem rfmissing_any (A : Option Addr) (c : Nat) (I : Option Addr) (ci : Nat) (G : Option Addr) (cg : Nat) (L : List (Option Nat)) (x : Rf.S) (w : World) (hi2 : RfIn w A c I ci G cg L x) (h : Rf.Ok x lo hi) :
    Calls Try.prog 43 #[rfV x A c I ci G cg] w fun e w' => ∃ A' c', e = .returned (.slice A' (Rf.missing x).length c') ∧ Mine intE w w' A' c' (Rf.missing x) := by
  have h1 := h.lo0
  have h2 := h.lor
  have h3 := h.rhi
  have h4 := h.hl
  have h5 := h.hm
  have h6 := h.sum
  have h7 := h.win
  have h8 := h.rh
  obtain ⟨N, hN⟩ : ∃ N : Nat, x.H = x.R + N := ⟨(x.H - x.R).toNat, by omega⟩
  have HM : Hid (Rf.missing x = Rf.missK x N) := by
    show _ = _
    unfold Rf.missing Rf.missK
    rw [show (x.H - x.R).toNat = N by omega]
  rw [HM.out]
  clear HM h
  have hN64 : N ≤ 64 := by omega
  have HH : Hid (∀ (n : Int) (W : World), Fresh w W → Calls Try.prog 47 #[rfV x A c I ci G cg, .int .i64 n] W fun e w' => e = .returned (.bool (Rf.has x n)) ∧ Fresh W w') := fun n W hf => rfhas_any A c I ci G cg L x n W (hi2.old hf)
  have HS : Hid (∀ k, Rf.missK x (k + 1) = if Rf.has x (x.R + (k : Int)) = true then Rf.missK x k else Rf.missK x k ++ [x.R + (k : Int)]) := Rf.missK_succ x
  have HL : Hid (∀ k, (Rf.missK x k).length ≤ k) := Rf.missK_len x
  have HK0 : Hid (Rf.missK x 0 = []) := rfl
  clear hi2
  unfold rfV at *
  rw [hN] at HH ⊢
  generalize x.R = R at *
  generalize x.MR = MR at *
  generalize x.window = W at *
  generalize x.buf.length = a1 at *
  generalize x.inbox.length = a2 at *
  generalize x.gaps.length = a3 at *
  generalize Rf.missK x = K at *
  generalize Rf.has x = q at *
  go_enter Try.func43, Try.ntmps43
  go_wp2_with fail
  go_loopw [3, 4] (fun s i wr => ∃ (k : Nat) (D : Option Addr) (f : Nat), k ≤ N ∧ i = .int .i64 (R + (k : Int)) ∧ s = .slice D (K k).length f ∧ Hid (Mine intE w wr D f (K k)) ∧ Hid (Blk wr w.heap.size 52 [.int .i64 R, .int .i64 (R + (N : Int)), .int .i64 MR, .int .i64 W, .slice A a1 c, .slice I a2 ci, .slice G a3 cg])) (fun _ i _ => (R + N - intOf i).toNat)
  case atStart =>
    refine ⟨0, some ⟨_, 0, none⟩, 0, by omega, by simp, by rw [HK0.out]; rfl, ?_, (Blk.new _ _ _).alloc _⟩
    rw [HK0.out]
    have h := (Mine.lit intE (w.alloc (.cells #[.int .i64 R, .int .i64 (R + (N : Int)), .int .i64 MR, .int .i64 W, .slice A a1 c, .slice I a2 ci, .slice G a3 cg] 52)) #[] [] rfl 0 rfl (by decide)).back ((Touch.refl _ w).alloc _)
    rw [show ∀ o, (w.alloc o).heap.size = w.heap.size + 1 from fun o => by simp] at h
    exact h
  case round =>
    obtain ⟨k, D, f, hk, rfl, rfl, HMi, HB⟩ := hrel
    have b0 : wr.cell? ⟨w.heap.size, 0, none⟩ = _ := HB.out.cell 0
    have b1 : wr.cell? ⟨w.heap.size, 1, none⟩ = _ := HB.out.cell 1
    have b2 : wr.cell? ⟨w.heap.size, 2, none⟩ = _ := HB.out.cell 2
    have b3 : wr.cell? ⟨w.heap.size, 3, none⟩ = _ := HB.out.cell 3
    have b4 : wr.cell? ⟨w.heap.size, 4, none⟩ = _ := HB.out.cell 4
    have b5 : wr.cell? ⟨w.heap.size, 5, none⟩ = _ := HB.out.cell 5
    have b6 : wr.cell? ⟨w.heap.size, 6, none⟩ = _ := HB.out.cell 6
    simp only [List.getElem?_cons_succ, List.getElem?_cons_zero] at b0 b1 b2 b3 b4 b5 b6
    have hKL := HL.out k
    by_cases hlt : k < N
    · have hlt' : R + (k : Int) < R + (N : Int) := by omega
      have hdt : decide (R + (k : Int) < R + (N : Int)) = true := decide_eq_true hlt'
      have HHk := Lib.hid (HH.out (R + (k : Int)) wr HMi.out.fresh)
      have HSk := Lib.hid (HS.out k)
      clear HH HS
      go_wp2_with fail
      refine HHk.out.mono ?_
      rintro e w3 ⟨rfl, f3⟩
      have M3 := Lib.hid (HMi.out.old f3)
      have B3 := Lib.hid (f3.blk HB.out (fun h => h))
      clear f3 HHk HMi HB b0 b1 b2 b3 b4 b5 b6
      simp only
      cases hq : q (R + (k : Int)) with
      | true =>
        rw [hq, if_pos rfl] at HSk
        go_wp2
        go_roundw
        case rel => exact ⟨k + 1, D, f, by omega, by go_num, by rw [HSk.out], by rw [HSk.out]; exact M3, B3⟩
        case measure => simp [intOf]; omega
      | false =>
        rw [hq, if_neg (by decide)] at HSk
        obtain ⟨Kk, hKk⟩ : ∃ Kk, Kk = K k := ⟨_, rfl⟩
        rw [← hKk] at HSk M3 hKL ⊢
        clear hKk
        go_wp2_with (at_builtin; refine app_int rfl rfl (l := Kk) (l2 := [R + (k : Int)]) rfl rfl (M3.out.sl.alloc _) (Sl.rd (Sl.lit intE _ _ rfl _ _ rfl _ rfl (by decide))) (by simp; omega) ?_; intro D4 f4 L4 w4 hL4 hs4 ht4 hD4)
        have M4 := Lib.hid ((M3.out.alloc (.cells #[.int .i64 (R + (k : Int))] 3)).app hs4 ht4 hD4)
        have B4 := Lib.hid (ht4.blk (B3.out.alloc (.cells #[.int .i64 (R + (k : Int))] 3)) (fun e => by
          cases hD : D with
          | none => rw [hD] at e; cases e
          | some ad =>
            rw [hD] at e
            injection e with e
            exact M3.out.sl.blk_ne B3.out (by decide) ad hD e))
        have HK2 : Hid (K (k + 1) = L4) := HSk.out.trans hL4.out.symm
        clear hs4 ht4 hD4 M3 B3 HSk hL4
        go_roundw
        case rel => exact ⟨k + 1, D4, f4, by omega, by go_num, by rw [HK2.out], by rw [HK2.out]; exact M4, B4⟩
        case measure => simp [intOf]; omega
    · obtain rfl : k = N := by omega
      have hdt : decide (R + (k : Int) < R + (k : Int)) = false := decide_eq_false (by omega)
      clear HH HS
      go_wp2
      go_ret
      exact ⟨D, f, rfl, HMi.out⟩
end
end Go.Proofs.Ytpjmgdoekeknjaa
