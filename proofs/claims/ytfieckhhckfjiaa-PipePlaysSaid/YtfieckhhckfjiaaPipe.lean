/-
  pipe.Pipe: what each call does; a list of texts may stand beside it.
-/
import Derived.Test.YtfieckhhckfjiaaFlip
import Derived.Test.YtfieckhhckfjiaaRingWStr
import Derived.Deep.RegionHeld3
import Derived.BigRegion
namespace Go.Proofs.Ytfieckhhckfjiaa
open Go.RowKit

def flipS (mask at_ : Int) (s : ByteArray) : ByteArray := ⟨(flipTo mask at_ s.data.toList 32).toArray⟩

/-- What a call on it may turn. -/
def PFoot (gp gr : Nat) (b : Option Nat) (k : Nat) : Prop := k = gp ∨ Foot gr b k

structure PipeAt (w : World) (gp gr : Nat) (b : Option Nat) (m : Nat) (q : List ByteArray) (put came bad : Nat) : Prop where
  blk : Blk w gp 69 [.pointer (some ⟨gr, 0, none⟩), .int .i64 put, .int .i64 came, .int .i64 bad]
  ring : RingStr w gr b m q

section
variable {B w w' : World} {gp gr m put came bad put' came' bad' : Nat} {b b' : Option Nat} {q q' : List ByteArray} {A A' : Option Addr} {c c' : Nat} {l l' : List ByteArray} {S : Nat → Prop}

theorem PipeAt.ne (h : PipeAt w gp gr b m q put came bad) : ¬ Foot gr b gp := by
  rintro (e | e)
  · obtain ⟨A, c, a, buf, h1, _⟩ := h.ring
    exact h.blk.ne_ h1 (by decide) e
  · obtain ⟨A, c, a, buf, h1, h2, rfl, _⟩ := h.ring
    cases A with
    | none => cases e
    | some ad => exact h2.blk_ne h.blk (by decide) ad rfl (by simpa using e)
theorem PipeAt.wf (h : PipeAt w gp gr b m q put came bad) : ∀ k, PFoot gp gr b k → k < w.heap.size := by
  rintro k (rfl | e)
  · exact h.blk.lt
  · exact h.ring.wf k e
theorem PipeAt.touch (h : PipeAt w gp gr b m q put came bad) (ht : Touch S w w') (hs : ∀ k, PFoot gp gr b k → ¬ S k) : PipeAt w' gp gr b m q put came bad :=
  ⟨ht.blk h.blk (hs _ (.inl rfl)), h.ring.touch ht (hs _ (.inr (.inl rfl))) (fun k hk => hs _ (.inr (.inr hk)))⟩
theorem PipeAt.ringTo (h : PipeAt w gp gr b m q put came bad) (hr : RingStr w' gr b' m q') (ht : Touch (Foot gr b) w w') : PipeAt w' gp gr b' m q' put came bad :=
  ⟨ht.blk h.blk h.ne, hr⟩
theorem PipeAt.blkTo (h : PipeAt w gp gr b m q put came bad) (hb : Blk w' gp 69 [.pointer (some ⟨gr, 0, none⟩), .int .i64 put', .int .i64 came', .int .i64 bad']) (ht : Touch (· = gp) w w') : PipeAt w' gp gr b m q put' came' bad' :=
  ⟨hb, h.ring.touch ht (fun e => h.ne (.inl (by rw [← show gr = gp from e]))) (fun k hk e => h.ne (.inr (by rw [← show k = gp from e]; exact hk)))⟩

/-- A pipe, and a list of texts, each in memory of its own, made behind B. -/
structure PlAt (B w : World) (gp gr : Nat) (b : Option Nat) (m : Nat) (q : List ByteArray) (put came bad : Nat) (A : Option Addr) (c : Nat) (l : List ByteArray) : Prop where
  pipe : PipeAt w gp gr b m q put came bad
  sl : Sl strE w A c l
  fresh : Fresh B w
  base : ∀ k, PFoot gp gr b k → B.heap.size ≤ k
  baseA : ∀ ad, A = some ad → B.heap.size ≤ ad.block
  hA : ∀ ad, A = some ad → ¬ PFoot gp gr b ad.block

theorem PlAt.old (h : PlAt B w gp gr b m q put came bad A c l) (ht : Fresh w w') : PlAt B w' gp gr b m q put came bad A c l :=
  ⟨h.pipe.touch ht (fun _ _ h => h), h.sl.touch ht (fun _ _ h => h), h.fresh.trans ht (fun _ _ h => h), h.base, h.baseA, h.hA⟩
theorem PlAt.pipeTo (h : PlAt B w gp gr b m q put came bad A c l) (h' : PipeAt w' gp gr b' m q' put' came' bad') (ht : Touch (PFoot gp gr b) w w') (hb' : ∀ k, b' = some k → b = some k ∨ w.heap.size ≤ k) : PlAt B w' gp gr b' m q' put' came' bad' A c l := by
  refine ⟨h', h.sl.touch ht h.hA, h.fresh.trans ht (fun k hk hf => absurd hk (by have := h.base k hf; omega)), fun k hk => ?_, h.baseA, fun ad ha hf => ?_⟩
  · rcases hk with e | e | e
    · exact h.base k (.inl e)
    · exact h.base k (.inr (.inl e))
    · rcases hb' k e with e | e
      · exact h.base k (.inr (.inr e))
      · have := h.fresh.size; omega
  · rcases hf with e | e | e
    · exact h.hA ad ha (.inl e)
    · exact h.hA ad ha (.inr (.inl e))
    · rcases hb' _ e with e | e
      · exact h.hA ad ha (.inr (.inr e))
      · have := h.sl.lt ad ha; omega
/-- The list has become another: one of fresh memory, or grown where it was. -/
theorem PlAt.slTo (h : PlAt B w gp gr b m q put came bad A c l) (ht : Touch (fun k => A.map Addr.block = some k) w w') (hs : Sl strE w' A' c' l') (hA' : ∀ ad, A' = some ad → (∃ a0, A = some a0 ∧ ad.block = a0.block) ∨ w.heap.size ≤ ad.block) : PlAt B w' gp gr b m q put came bad A' c' l' := by
  have hn : ∀ k, PFoot gp gr b k → ¬ (A.map Addr.block = some k) := fun k hk e => by
    cases A with
    | none => cases e
    | some a0 => simp at e; subst e; exact h.hA a0 rfl hk
  refine ⟨h.pipe.touch ht hn, hs, h.fresh.trans ht (fun k hk hf => ?_), h.base, fun ad ha => ?_, fun ad ha hf => ?_⟩
  · cases A with
    | none => cases hf
    | some a0 => simp at hf; subst hf; have := h.baseA a0 rfl; omega
  · rcases hA' ad ha with ⟨a0, e, e2⟩ | e
    · rw [e2]; exact h.baseA a0 e
    · have := h.fresh.size; omega
  · rcases hA' ad ha with ⟨a0, e, e2⟩ | e
    · rw [e2] at hf; exact h.hA a0 e hf
    · have := h.pipe.wf _ hf; omega
/-- Without its first one. -/
theorem PlAt.tail (h : PlAt B w gp gr b m q put came bad A c l) (hl : 1 ≤ l.length) : PlAt B w gp gr b m q put came bad (if c = 1 then A else A.map (·.add 1)) (c - 1) l.tail := by
  have hb : ∀ ad, (if c = 1 then A else A.map (·.add 1)) = some ad → ∃ a0, A = some a0 ∧ ad.block = a0.block := fun ad ha => by
    split at ha
    · exact ⟨ad, ha, rfl⟩
    · cases A with
      | none => cases ha
      | some a0 => simp only [Option.map_some, Option.some.injEq] at ha; subst ha; exact ⟨a0, rfl, block_of_add _ _⟩
  refine ⟨h.pipe, ?_, h.fresh, h.base, fun ad ha => ?_, fun ad ha => ?_⟩
  · have := h.sl.from_ hl
    rw [List.drop_one] at this
    exact this
  · obtain ⟨a0, e, e2⟩ := hb ad ha; rw [e2]; exact h.baseA a0 e
  · obtain ⟨a0, e, e2⟩ := hb ad ha; rw [e2]; exact h.hA a0 e

def PlSt (B w : World) (gp m : Nat) (q : List ByteArray) (put came bad : Nat) (A : Option Addr) (c : Nat) (l : List ByteArray) : Prop := ∃ gr b, PlAt B w gp gr b m q put came bad A c l
theorem PlSt.old (h : PlSt B w gp m q put came bad A c l) (ht : Fresh w w') : PlSt B w' gp m q put came bad A c l := by
  obtain ⟨gr, b, h⟩ := h; exact ⟨gr, b, h.old ht⟩
theorem PlSt.drewN (h : PlSt B w gp m q put came bad A c l) (n : Nat) : PlSt B (w.drewN n) gp m q put came bad A c l := h.old ((Touch.refl _ w).drewN n)
theorem PlSt.slTo (h : PlSt B w gp m q put came bad A c l) (ht : Touch (fun k => A.map Addr.block = some k) w w') (hs : Sl strE w' A' c' l') (hA' : ∀ ad, A' = some ad → (∃ a0, A = some a0 ∧ ad.block = a0.block) ∨ w.heap.size ≤ ad.block) : PlSt B w' gp m q put came bad A' c' l' := by
  obtain ⟨gr, b, h⟩ := h; exact ⟨gr, b, h.slTo ht hs hA'⟩
theorem PlSt.tail (h : PlSt B w gp m q put came bad A c l) (hl : 1 ≤ l.length) : PlSt B w gp m q put came bad (if c = 1 then A else A.map (·.add 1)) (c - 1) l.tail := by
  obtain ⟨gr, b, h⟩ := h; exact ⟨gr, b, h.tail hl⟩
theorem PlSt.fresh (h : PlSt B w gp m q put came bad A c l) : Fresh B w := by obtain ⟨gr, b, h⟩ := h; exact h.fresh
theorem PlSt.sl (h : PlSt B w gp m q put came bad A c l) : Sl strE w A c l := by obtain ⟨gr, b, h⟩ := h; exact h.sl
theorem PlSt.len_le (h : PlSt B w gp m q put came bad A c l) : q.length ≤ m ∧ m ≤ 4096 := by obtain ⟨gr, b, h⟩ := h; exact h.pipe.ring.len_le
end

theorem pipe_new (n : Int) (m : Nat) (hm : Hid ((max 1 (min n 256)).toNat = m)) (B w : World) (hB : Fresh B w) :
    Calls Try.prog 33 #[.int .i64 n] w fun e w' => ∃ gp, e = .returned (.pointer (some ⟨gp, 0, none⟩)) ∧ PlSt B w' gp m [] 0 0 0 none 0 [] := by
  obtain ⟨x, hx⟩ : ∃ x : Int, max 1 (min n 256) = x := ⟨_, rfl⟩
  have hm1 : Hid ((max 0 (min x 4096)).toNat = m) := by unfold Hid; rw [← hm.out, ← hx]; omega
  have hK : Hid (∀ gr w1, RingStr w1 gr none m [] → Fresh w w1 → w.heap.size ≤ gr → PlSt B (w1.alloc (.cells #[.pointer (some ⟨gr, 0, none⟩), .int .i64 0, .int .i64 0, .int .i64 0] 69)) w1.heap.size m [] 0 0 0 none 0 []) := fun gr w1 hr ht hg =>
    have hbase : ∀ k, PFoot w1.heap.size gr none k → B.heap.size ≤ k := fun k hk => by
      have h1 := hB.size
      have h2 := ht.size
      rcases hk with e | e | e
      · omega
      · omega
      · exact nomatch e
    ⟨gr, none, ⟨Blk.new w1 _ [.pointer (some ⟨gr, 0, none⟩), .int .i64 0, .int .i64 0, .int .i64 0], hr.touch ((Touch.refl (fun _ => False) w1).alloc _) (fun h => h) (fun _ _ h => h)⟩, Sl.nil _ _, ((hB.trans ht (fun _ _ h => h)).alloc _), hbase, (fun ad e => nomatch e), (fun ad e => nomatch e)⟩
  rcases (show x = 256 ∧ 256 < n ∨ x = n ∧ ¬ 256 < n ∧ 1 < n ∨ x = 1 ∧ ¬ 256 < n ∧ ¬ 1 < n by omega) with ⟨rfl, h1⟩ | ⟨rfl, h1, h2⟩ | ⟨rfl, h1, h2⟩
  all_goals
    go_enter Try.func33, Try.ntmps33
    go_wp2_with fail
    refine (ringStr_new _ w).mono ?_
    rintro e w1 ⟨rfl, r1, t1⟩
    rw [hm1.out] at r1
    have HP := Lib.hid (hK.out _ _ r1 t1 (Nat.le_refl _))
    clear r1
    go_wp2
    go_ret
    exact ⟨_, rfl, HP.out⟩
end Go.Proofs.Ytfieckhhckfjiaa
