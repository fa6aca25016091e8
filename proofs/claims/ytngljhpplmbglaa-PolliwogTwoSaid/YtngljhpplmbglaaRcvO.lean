/-
  A receiver of the law's own.
-/
import Derived.Test.YtngljhpplmbglaaRcvI
import Derived.Test.YtngljhpplmbglaaRcvF
namespace Go.Proofs.Ytngljhpplmbglaa
open Go.RowKit

/-- A receiver in memory that was not there in B. -/
structure OwnRecv (B w : World) (p : Nat) (F : Nat → Prop) (st : Rv.S) : Prop where
  at_ : RecvAt w p F st
  fresh : Fresh B w
  base : ∀ x, F x → B.heap.size ≤ x

/-- What a call that hands messages back leaves, of a receiver of the law's own. -/
def OutR (B w : World) (p : Nat) (F : Nat → Prop) (st : Rv.S) (L : List ByteArray) (e : Ending) (w' : World) : Prop :=
  ∃ F' A' c', e = .returned (.slice A' L.length c') ∧ Sl strE w' A' c' L ∧ OwnRecv B w' p F' st ∧ Touch F w w' ∧ (∀ x, F' x → F x ∨ w.heap.size ≤ x) ∧ ∀ ad, A' = some ad → w.heap.size ≤ ad.block ∧ ¬ F' ad.block

section
variable {B w w' : World} {p : Nat} {F : Nat → Prop} {st st' : Rv.S} {L : List ByteArray}
theorem OwnRecv.old (h : OwnRecv B w p F st) (ht : Fresh w w') : OwnRecv B w' p F st := ⟨h.at_.old ht, h.fresh.trans ht (fun _ _ h => h), h.base⟩
theorem OwnRecv.eq (h : OwnRecv B w p F st) (e : st = st') : OwnRecv B w p F st' := e ▸ h
theorem OwnRecv.step (h : OwnRecv B w p F st) (ht : Touch F w w') : Fresh B w' := h.fresh.trans ht fun k hk hf => by have := h.base k hf; omega
theorem OutR.of {e : Ending} (h : OwnRecv B w p F st) (ho : RecvOut w p F st' L e w') : OutR B w p F st' L e w' := by
  obtain ⟨F', A', c', rfl, s, r, t, b, o⟩ := ho
  refine ⟨F', A', c', rfl, s, ⟨r, h.step t, fun x hx => ?_⟩, t, b, o⟩
  rcases b x hx with e | e
  · exact h.base x e
  · exact Nat.le_trans h.fresh.size e

theorem onewR (start window : Int) (h : Fresh B w) (he : Rv.new start window = st) :
    Calls Try.prog 6 #[.int .u32 start, .int .i64 window] w fun e w' => ∃ p F, e = .returned (.pointer (some ⟨p, 0, none⟩)) ∧ OwnRecv B w' p F st ∧ Fresh w w' ∧ ∀ x, F x → w.heap.size ≤ x := by
  subst he
  refine (rnew_any start window w).mono ?_
  rintro e w' ⟨p, F, rfl, h1, h2, h3⟩
  exact ⟨p, F, rfl, ⟨h1, h.trans h2 (fun _ _ h => h), fun x hx => Nat.le_trans h.size (h3 x hx)⟩, h2, h3⟩
theorem odataR (n : Int) (v : ByteArray) (h : OwnRecv B w p F st) (hi : st.inbox.length + st.m.length + st.gaps.length ≤ 100000) (he : Rv.data st n v = (st', L)) :
    Calls Try.prog 11 #[.pointer (some ⟨p, 0, none⟩), .int .u32 n, .string v] w (OutR B w p F st' L) := by
  have := rdata_any p F st n v w h.at_ hi
  rw [he] at this
  exact this.mono fun e w' ho => OutR.of h ho
theorem otakeR (n : Int) (h : OwnRecv B w p F st) (hi : st.inbox.length ≤ 100000) (j : Nat) (hj : max 0 (min n (st.inbox.length : Int)) = (j : Int)) :
    Calls Try.prog 17 #[.pointer (some ⟨p, 0, none⟩), .int .i64 n] w (OutR B w p F { st with inbox := st.inbox.drop j } (st.inbox.take j)) :=
  (rtake_any p F st n w h.at_ hi j hj).mono fun e w' ho => OutR.of h ho
theorem ovarsR (h : OwnRecv B w p F st) :
    Calls Try.prog 8 #[.pointer (some ⟨p, 0, none⟩)] w fun e w' => e = .returned (Rv.varsV st) ∧ OwnRecv B w' p F st ∧ Fresh w w' :=
  (rvars_any p F st w h.at_).mono fun e w' ⟨e1, f⟩ => ⟨e1, h.old f, f⟩
theorem ostatR (h : OwnRecv B w p F st) (hd : (st.h - st.r) % 16777216 ≤ 100000) (hw : 0 ≤ st.window ∧ st.window ≤ 64) (hi : st.inbox.length ≤ 1000000) (he : Rv.renew st = st') :
    Calls Try.prog 18 #[.pointer (some ⟨p, 0, none⟩)] w fun e w' => ∃ B' d S, e = .returned (.tuple #[.slice B' (Gp.gl st.r S).length d, .int .u32 st.r, .int .u32 st'.mr]) ∧ OwnRecv B w' p F st' ∧ Touch F w w' ∧ Sl numE w' B' d (Gp.gl st.r S) ∧ (∀ ad, B' = some ad → w.heap.size ≤ ad.block) ∧ Rv.Miss st S := by
  subst he
  refine (rstat_any p F st w h.at_ hd hw hi).mono ?_
  rintro e w' ⟨B', d, S, rfl, r, t, s, b, m⟩
  exact ⟨B', d, S, rfl, ⟨r, h.step t, h.base⟩, t, s, b, m⟩
theorem ogapR (h : OwnRecv B w p F st) (hd : (st.h - st.r) % 16777216 ≤ 100000) (hw : 0 ≤ st.window ∧ st.window ≤ 64) (hi : st.inbox.length ≤ 1000000) (hgl : st.gaps.length ≤ 1000000) :
    Calls Try.prog 12 #[.pointer (some ⟨p, 0, none⟩)] w fun e w' => ∃ B' d l is st', e = .returned (.tuple #[.slice B' l.length d, .int .u32 (if is then st'.r else 0), .int .u32 (if is then st'.mr else 0), .bool is]) ∧ Rv.GapTold st l is st' ∧ OwnRecv B w' p F st' ∧ Touch F w w' ∧
      Sl numE w' B' d l ∧ ∀ ad, B' = some ad → ¬ F ad.block := by
  refine (rgap_any p F st w h.at_ hd hw hi hgl).mono ?_
  rintro e w' ⟨B', d, l, is, st', rfl, g, r, t, s, b⟩
  exact ⟨B', d, l, is, st', rfl, g, ⟨r, h.step t, h.base⟩, t, s, fun ad e hf => Nat.lt_irrefl _ (Nat.lt_of_lt_of_le (h.at_.lim _ hf) (b ad e))⟩
end

theorem Rv.varsV_eq (st : Rv.S) : Rv.varsV st = .agg #[.int .u32 st.r, .int .u32 st.h, .int .u32 st.mr, .int .i64 (st.m.length : Int), .int .i64 (st.inbox.length : Int), .int .i64 (st.gaps.length : Int)] := rfl
theorem rvars_h (st : Rv.S) (w : World) : (Instr.field 35 (Rv.varsV st) 1).run Try.prog w = .ok (.int .u32 st.h) w := by
  rw [Rv.varsV_eq]
  kernel_rfl
theorem rvars_inbox (st : Rv.S) (w : World) : (Instr.field 35 (Rv.varsV st) 4).run Try.prog w = .ok (.int .i64 (st.inbox.length : Int)) w := by
  rw [Rv.varsV_eq]
  kernel_rfl
theorem rvars_m (st : Rv.S) (w : World) : (Instr.field 35 (Rv.varsV st) 3).run Try.prog w = .ok (.int .i64 (st.m.length : Int)) w := by
  rw [Rv.varsV_eq]
  kernel_rfl
theorem rvars_gaps (st : Rv.S) (w : World) : (Instr.field 35 (Rv.varsV st) 5).run Try.prog w = .ok (.int .i64 (st.gaps.length : Int)) w := by
  rw [Rv.varsV_eq]
  kernel_rfl

/-- The fixed fact's gap: what is told. -/
theorem gap_awake {b : ByteArray} {l : List Int} {is : Bool} {st' : Rv.S} (h : Rv.GapTold ⟨0, 2, 8, 8, [(1, b)], [], [(0, 1)]⟩ l is st') : is = true ∧ l = [0, 1] ∧ st' = ⟨0, 2, 8, 8, [(1, b)], [], []⟩ := by
  have hst : ∀ n, Rv.StillIn ⟨0, 2, 8, 8, [(1, b)], [], [(0, 1)]⟩ (0, 1) n ↔ n = 0 := fun n => by
    unfold Rv.StillIn
    simp only [List.mem_singleton, forall_eq]
    constructor
    · rintro ⟨_, _, _, _⟩; omega
    · rintro rfl; decide
  rcases h with ⟨_, _, _, h4⟩ | ⟨h1, pre, post, g, x, S, h2, h3, h4, h5, h6, h7⟩
  · exact absurd ((hst 0).2 rfl) (h4 (0, 1) (by simp) 0)
  · have h2' : [((0 : Int), (1 : Int))] = pre ++ g :: post := h2
    cases pre with
    | cons a pre =>
      have := congrArg List.length h2'
      simp at this
    | nil =>
      rw [List.nil_append] at h2'
      injection h2' with e1 e2
      subst e1 e2
      have hone : x :: S = [(0, 1)] := Sp.Canon.uniq h4.1 ⟨by simp, by simp⟩ fun n => by
        rw [h5, hst, mem_one]
        unfold Sp.In
        simp only
        omega
      injection hone with e3 e4
      subst e3 e4
      exact ⟨h1, h6, h7⟩

end Go.Proofs.Ytngljhpplmbglaa
