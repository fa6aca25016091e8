/-
  pipe.Pipe: Take, with what it may turn.
-/
import Derived.Test.YtfieckhhckfjiaaPipe2
namespace Go.Proofs.Ytfieckhhckfjiaa
open Go.RowKit

section
variable {B w : World} {gp gr m put came bad : Nat} {b : Option Nat} {q : List ByteArray} {A : Option Addr} {c : Nat} {l : List ByteArray}

set_option maxHeartbeats 1000000 in
theorem pipe_take_none_at (k at_ mask : Int) (h : PlAt B w gp gr b m [] put came bad A c l) :
    Calls Try.prog 35 #[.pointer (some ⟨gp, 0, none⟩), .agg #[.int .i64 k, .int .i64 at_, .int .u32 mask]] w fun e w' => e = .returned (.tuple #[.string ByteArray.empty, .bool false, .bool false]) ∧ PlAt B w' gp gr b m [] put came bad A c l ∧ Touch (PFoot gp gr b) w w' := by
  have h0 := h.old ((Touch.refl _ w).alloc (.cells #[.int .i64 k, .int .i64 at_, .int .u32 mask] 58))
  have c0 : (w.alloc (.cells #[.int .i64 k, .int .i64 at_, .int .u32 mask] 58)).cell? ⟨gp, 0, none⟩ = some (.pointer (some ⟨gr, 0, none⟩)) := h0.pipe.blk.cell 0
  have HC := Lib.hid (ringStr_take gr b m [] _ h0.pipe.ring)
  have H := Lib.hid h0
  clear h h0
  go_enter Try.func35, Try.ntmps35
  go_wp2_with fail
  refine HC.out.mono ?_
  rintro e w1 ⟨rfl, r1, t1⟩
  have H1 := Lib.hid (H.out.pipeTo (H.out.pipe.ringTo r1 t1) (t1.mono (fun _ _ h => .inr h)) (fun k hk => .inl hk))
  have T1 : Hid (Touch (PFoot gp gr b) w w1) := (((Touch.refl _ w).alloc _).trans t1 (fun _ _ h => .inr h))
  clear r1 t1 HC c0
  go_wp2
  go_ret3
  exact ⟨rfl, H1.out, T1.out⟩

set_option maxHeartbeats 1000000 in
theorem pipe_take_lose_at (s : ByteArray) (at_ mask : Int) (h : PlAt B w gp gr b m (s :: q) put came bad A c l) (hbad : bad < 1000000000) :
    Calls Try.prog 35 #[.pointer (some ⟨gp, 0, none⟩), .agg #[.int .i64 1, .int .i64 at_, .int .u32 mask]] w fun e w' => e = .returned (.tuple #[.string ByteArray.empty, .bool true, .bool false]) ∧ PlAt B w' gp gr b m q put came (bad + 1) A c l ∧ Touch (PFoot gp gr b) w w' := by
  have h0 := h.old ((Touch.refl _ w).alloc (.cells #[.int .i64 1, .int .i64 at_, .int .u32 mask] 58))
  have c0 : (w.alloc (.cells #[.int .i64 1, .int .i64 at_, .int .u32 mask] 58)).cell? ⟨gp, 0, none⟩ = some (.pointer (some ⟨gr, 0, none⟩)) := h0.pipe.blk.cell 0
  have HC := Lib.hid (ringStr_take gr b m (s :: q) _ h0.pipe.ring)
  have HBx := Lib.hid (Blk.new w 58 [.int .i64 1, .int .i64 at_, .int .u32 mask])
  have hnf : Hid (¬ Foot gr b w.heap.size) := fun hf => by have := h.pipe.wf _ (.inr hf); omega
  have H := Lib.hid h0
  clear h h0
  go_enter Try.func35, Try.ntmps35
  go_wp2_with fail
  refine HC.out.mono ?_
  rintro e w1 ⟨rfl, r1, t1⟩
  have P1 := H.out.pipe.ringTo r1 t1
  have H1 := Lib.hid (H.out.pipeTo P1 (t1.mono (fun _ _ h => .inr h)) (fun k hk => .inl hk))
  have T1 : Hid (Touch (PFoot gp gr b) w w1) := (((Touch.refl _ w).alloc _).trans t1 (fun _ _ h => .inr h))
  have x0 : w1.cell? ⟨w.heap.size, 0, none⟩ = some (.int .i64 1) := (t1.blk HBx.out hnf.out).cell 0
  have c3 : w1.cell? ⟨gp, 3, none⟩ = some (.int .i64 bad) := P1.blk.cell 3
  have f3 := P1.blk.frozen 3
  have BB := Lib.hid P1.blk
  clear r1 t1 HC c0 P1
  go_wp2
  go_ret3
  refine ⟨rfl, ?_, T1.out.trans ((Touch.set1 _ _ _ _).mono (fun k _ e => .inl e)) (fun _ _ h => h)⟩
  have hset := BB.out.set 3 (.int .i64 ((bad + 1 : Nat) : Int))
  exact H1.out.pipeTo (H1.out.pipe.blkTo (put' := put) (came' := came) (bad' := bad + 1) hset (Touch.set1 _ _ _ _)) ((Touch.set1 _ _ _ _).mono (fun k _ e => .inl e)) (fun k hk => .inl hk)

set_option maxHeartbeats 1000000 in
theorem pipe_take_carry_at (s : ByteArray) (k at_ mask : Int) (h : PlAt B w gp gr b m (s :: q) put came bad A c l) (hk1 : k ≠ 1) (hk2 : k ≠ 2) (hcame : came < 1000000000) :
    Calls Try.prog 35 #[.pointer (some ⟨gp, 0, none⟩), .agg #[.int .i64 k, .int .i64 at_, .int .u32 mask]] w fun e w' => e = .returned (.tuple #[.string s, .bool true, .bool true]) ∧ PlAt B w' gp gr b m q put (came + 1) bad A c l ∧ Touch (PFoot gp gr b) w w' := by
  have h0 := h.old ((Touch.refl _ w).alloc (.cells #[.int .i64 k, .int .i64 at_, .int .u32 mask] 58))
  have c0 : (w.alloc (.cells #[.int .i64 k, .int .i64 at_, .int .u32 mask] 58)).cell? ⟨gp, 0, none⟩ = some (.pointer (some ⟨gr, 0, none⟩)) := h0.pipe.blk.cell 0
  have HC := Lib.hid (ringStr_take gr b m (s :: q) _ h0.pipe.ring)
  have HBx := Lib.hid (Blk.new w 58 [.int .i64 k, .int .i64 at_, .int .u32 mask])
  have hnf : Hid (¬ Foot gr b w.heap.size) := fun hf => by have := h.pipe.wf _ (.inr hf); omega
  have H := Lib.hid h0
  have e1 : (k == 1) = false := beq_eq_false_iff_ne.2 hk1
  have e2 : (k == 2) = false := beq_eq_false_iff_ne.2 hk2
  clear h h0 hk1 hk2
  go_enter Try.func35, Try.ntmps35
  go_wp2_with fail
  refine HC.out.mono ?_
  rintro e w1 ⟨rfl, r1, t1⟩
  have P1 := H.out.pipe.ringTo r1 t1
  have H1 := Lib.hid (H.out.pipeTo P1 (t1.mono (fun _ _ h => .inr h)) (fun k hk => .inl hk))
  have T1 : Hid (Touch (PFoot gp gr b) w w1) := (((Touch.refl _ w).alloc _).trans t1 (fun _ _ h => .inr h))
  have x0 : w1.cell? ⟨w.heap.size, 0, none⟩ = some (.int .i64 k) := (t1.blk HBx.out hnf.out).cell 0
  have c2 : w1.cell? ⟨gp, 2, none⟩ = some (.int .i64 came) := P1.blk.cell 2
  have f2 := P1.blk.frozen 2
  have BB := Lib.hid P1.blk
  clear r1 t1 HC c0 P1
  go_wp2
  go_ret3
  refine ⟨rfl, ?_, T1.out.trans ((Touch.set1 _ _ _ _).mono (fun k _ e => .inl e)) (fun _ _ h => h)⟩
  have hset := BB.out.set 2 (.int .i64 ((came + 1 : Nat) : Int))
  exact H1.out.pipeTo (H1.out.pipe.blkTo (put' := put) (came' := came + 1) (bad' := bad) hset (Touch.set1 _ _ _ _)) ((Touch.set1 _ _ _ _).mono (fun k _ e => .inl e)) (fun k hk => .inl hk)

set_option maxHeartbeats 1000000 in
theorem pipe_take_spoil_at (s : ByteArray) (at_ mask : Int) (h : PlAt B w gp gr b m (s :: q) put came bad A c l) (hcame : came < 1000000000) (hbad : bad < 1000000000)
    (hs : s.size ≤ 1000) (a0 : -1000 ≤ at_) (a1 : at_ ≤ 1000) (m0 : 0 ≤ mask) (m1 : mask ≤ 4294967295) :
    Calls Try.prog 35 #[.pointer (some ⟨gp, 0, none⟩), .agg #[.int .i64 2, .int .i64 at_, .int .u32 mask]] w fun e w' => e = .returned (.tuple #[.string (flipS mask at_ s), .bool true, .bool true]) ∧ PlAt B w' gp gr b m q put (if flipS mask at_ s = s then came + 1 else came) (if flipS mask at_ s = s then bad else bad + 1) A c l ∧ Touch (PFoot gp gr b) w w' := by
  have h0 := h.old ((Touch.refl _ w).alloc (.cells #[.int .i64 2, .int .i64 at_, .int .u32 mask] 58))
  have c0 : (w.alloc (.cells #[.int .i64 2, .int .i64 at_, .int .u32 mask] 58)).cell? ⟨gp, 0, none⟩ = some (.pointer (some ⟨gr, 0, none⟩)) := h0.pipe.blk.cell 0
  have HC := Lib.hid (ringStr_take gr b m (s :: q) _ h0.pipe.ring)
  have HBx := Lib.hid (Blk.new w 58 [.int .i64 2, .int .i64 at_, .int .u32 mask])
  have hnf : Hid (¬ Foot gr b w.heap.size) := fun hf => by have := h.pipe.wf _ (.inr hf); omega
  have H := Lib.hid h0
  have HFl := Lib.hid (fun w => flip_s s at_ mask w hs a0 a1 m0 m1)
  clear h h0
  by_cases hx : flipS mask at_ s = s
  · simp only [if_pos hx]
    have hxe : ((flipS mask at_ s).toList == s.toList) = true := str_eq hx
    have HX := Lib.hid hx
    clear hx
    go_enter Try.func35, Try.ntmps35
    go_wp2_with fail
    refine HC.out.mono ?_
    rintro e w1 ⟨rfl, r1, t1⟩
    have P1 := H.out.pipe.ringTo r1 t1
    have H1 := Lib.hid (H.out.pipeTo P1 (t1.mono (fun _ _ h => .inr h)) (fun k hk => .inl hk))
    have T1 : Hid (Touch (PFoot gp gr b) w w1) := (((Touch.refl _ w).alloc _).trans t1 (fun _ _ h => .inr h))
    have Bx := t1.blk HBx.out hnf.out
    have x0 : w1.cell? ⟨w.heap.size, 0, none⟩ = some (.int .i64 2) := Bx.cell 0
    have x1 : w1.cell? ⟨w.heap.size, 1, none⟩ = some (.int .i64 at_) := Bx.cell 1
    have x2 : w1.cell? ⟨w.heap.size, 2, none⟩ = some (.int .u32 mask) := Bx.cell 2
    clear r1 t1 HC c0 P1 Bx
    go_wp2_with fail
    refine (HFl.out _).mono ?_
    rintro e w2 ⟨rfl, t2⟩
    have H2 := Lib.hid (H1.out.old t2)
    have T2 : Hid (Touch (PFoot gp gr b) w w2) := T1.out.trans t2 (fun _ _ h => absurd h (fun h => h))
    have c2 : w2.cell? ⟨gp, 2, none⟩ = some (.int .i64 came) := H2.out.pipe.blk.cell 2
    have f2 := H2.out.pipe.blk.frozen 2
    clear t2 H1
    go_wp2
    go_ret3
    refine ⟨rfl, ?_, T2.out.trans ((Touch.set1 _ _ _ _).mono (fun k _ e => .inl e)) (fun _ _ h => h)⟩
    have hset := H2.out.pipe.blk.set 2 (.int .i64 ((came + 1 : Nat) : Int))
    exact H2.out.pipeTo (H2.out.pipe.blkTo (put' := put) (came' := came + 1) (bad' := bad) hset (Touch.set1 _ _ _ _)) ((Touch.set1 _ _ _ _).mono (fun k _ e => .inl e)) (fun k hk => .inl hk)
  · simp only [if_neg hx]
    have hxe : ((flipS mask at_ s).toList == s.toList) = false := str_ne hx
    have HX := Lib.hid hx
    clear hx
    go_enter Try.func35, Try.ntmps35
    go_wp2_with fail
    refine HC.out.mono ?_
    rintro e w1 ⟨rfl, r1, t1⟩
    have P1 := H.out.pipe.ringTo r1 t1
    have H1 := Lib.hid (H.out.pipeTo P1 (t1.mono (fun _ _ h => .inr h)) (fun k hk => .inl hk))
    have T1 : Hid (Touch (PFoot gp gr b) w w1) := (((Touch.refl _ w).alloc _).trans t1 (fun _ _ h => .inr h))
    have Bx := t1.blk HBx.out hnf.out
    have x0 : w1.cell? ⟨w.heap.size, 0, none⟩ = some (.int .i64 2) := Bx.cell 0
    have x1 : w1.cell? ⟨w.heap.size, 1, none⟩ = some (.int .i64 at_) := Bx.cell 1
    have x2 : w1.cell? ⟨w.heap.size, 2, none⟩ = some (.int .u32 mask) := Bx.cell 2
    clear r1 t1 HC c0 P1 Bx
    go_wp2_with fail
    refine (HFl.out _).mono ?_
    rintro e w2 ⟨rfl, t2⟩
    have H2 := Lib.hid (H1.out.old t2)
    have T2 : Hid (Touch (PFoot gp gr b) w w2) := T1.out.trans t2 (fun _ _ h => absurd h (fun h => h))
    have c3 : w2.cell? ⟨gp, 3, none⟩ = some (.int .i64 bad) := H2.out.pipe.blk.cell 3
    have f3 := H2.out.pipe.blk.frozen 3
    clear t2 H1
    go_wp2
    go_ret3
    refine ⟨rfl, ?_, T2.out.trans ((Touch.set1 _ _ _ _).mono (fun k _ e => .inl e)) (fun _ _ h => h)⟩
    have hset := H2.out.pipe.blk.set 3 (.int .i64 ((bad + 1 : Nat) : Int))
    exact H2.out.pipeTo (H2.out.pipe.blkTo (put' := put) (came' := came) (bad' := bad + 1) hset (Touch.set1 _ _ _ _)) ((Touch.set1 _ _ _ _).mono (fun k _ e => .inl e)) (fun k hk => .inl hk)

end
end Go.Proofs.Ytfieckhhckfjiaa
