/-
  pipe.Pipe: Put, Take, Counts, Clone.
-/
import Derived.Test.YtfieckhhckfjiaaPipe
import Derived.Lib.Strings
namespace Go.Proofs.Ytfieckhhckfjiaa
open Go.RowKit

section
variable {B w : World} {gp m put came bad : Nat} {q : List ByteArray} {A : Option Addr} {c : Nat} {l : List ByteArray}

set_option maxHeartbeats 1000000 in
theorem pipe_put (s : ByteArray) (h : PlSt B w gp m q put came bad A c l) (hput : put < 1000000000) :
    Calls Try.prog 34 #[.pointer (some ⟨gp, 0, none⟩), .string s] w fun e w' => e = .returned (.int .i64 (if q.length < m then 0 else 7)) ∧ PlSt B w' gp m (if q.length < m then q ++ [s] else q) (if q.length < m then put + 1 else put) came bad A c l := by
  obtain ⟨gr, b, h⟩ := h
  have c0 : w.cell? ⟨gp, 0, none⟩ = some (.pointer (some ⟨gr, 0, none⟩)) := h.pipe.blk.cell 0
  have HC := Lib.hid (ringStr_put gr b m q s w h.pipe.ring)
  have H := Lib.hid h
  clear h
  by_cases hlt : q.length < m
  · simp only [if_pos hlt] at HC ⊢
    go_enter Try.func34, Try.ntmps34
    go_wp2_with fail
    refine HC.out.mono ?_
    rintro e w1 ⟨rfl, b1, r1, t1, hb1⟩
    have P1 := H.out.pipe.ringTo r1 t1
    have H1 := Lib.hid (H.out.pipeTo P1 (t1.mono (fun _ _ h => .inr h)) hb1)
    have c1 : w1.cell? ⟨gp, 1, none⟩ = some (.int .i64 put) := P1.blk.cell 1
    have f1 := P1.blk.frozen 1
    have BB := Lib.hid P1.blk
    clear r1 t1 hb1 P1 HC c0
    go_wp2
    go_ret
    refine ⟨rfl, gr, b1, ?_⟩
    have hset := BB.out.set 1 (.int .i64 ((put + 1 : Nat) : Int))
    exact H1.out.pipeTo (H1.out.pipe.blkTo (put' := put + 1) (came' := came) (bad' := bad) hset (Touch.set1 _ _ _ _)) ((Touch.set1 _ _ _ _).mono (fun k _ e => .inl e)) (fun k hk => .inl hk)
  · simp only [if_neg hlt] at HC ⊢
    go_enter Try.func34, Try.ntmps34
    go_wp2_with fail
    refine HC.out.mono ?_
    rintro e w1 ⟨rfl, b1, r1, t1, hb1⟩
    have H1 := Lib.hid (H.out.pipeTo (H.out.pipe.ringTo r1 t1) (t1.mono (fun _ _ h => .inr h)) hb1)
    clear r1 t1 hb1 HC c0
    go_wp2
    go_ret
    exact ⟨rfl, gr, b1, H1.out⟩

theorem pipe_take_none (k at_ mask : Int) (h : PlSt B w gp m [] put came bad A c l) :
    Calls Try.prog 35 #[.pointer (some ⟨gp, 0, none⟩), .agg #[.int .i64 k, .int .i64 at_, .int .u32 mask]] w fun e w' => e = .returned (.tuple #[.string ByteArray.empty, .bool false, .bool false]) ∧ PlSt B w' gp m [] put came bad A c l := by
  obtain ⟨gr, b, h⟩ := h
  have h0 := h.old ((Touch.refl _ w).alloc (.cells #[.int .i64 k, .int .i64 at_, .int .u32 mask] 58))
  have c0 : (w.alloc (.cells #[.int .i64 k, .int .i64 at_, .int .u32 mask] 58)).cell? ⟨gp, 0, none⟩ = some (.pointer (some ⟨gr, 0, none⟩)) := h0.pipe.blk.cell 0
  have HC := Lib.hid (ringStr_take gr b m [] _ h0.pipe.ring)
  have H := Lib.hid h0
  clear h h0
  go_enter Try.func35, Try.ntmps35
  go_wp2_with fail
  refine HC.out.mono ?_
  rintro e w1 ⟨rfl, r1, t1⟩
  have H1 := Lib.hid (H.out.pipeTo (H.out.pipe.ringTo r1 t1) (t1.mono (fun _ _ h => .inr h)) (fun k hk => .inl hk))
  clear r1 t1 HC c0
  go_wp2
  go_ret3
  exact ⟨rfl, gr, b, H1.out⟩

theorem str_eq {s t : ByteArray} (h : s = t) : (s.toList == t.toList) = true := by rw [h]; exact beq_iff_eq.2 rfl
theorem str_ne {s t : ByteArray} (h : ¬ s = t) : (s.toList == t.toList) = false := by
  refine beq_eq_false_iff_ne.2 fun e => h ?_
  rw [Lib.toList_data, Lib.toList_data] at e
  exact Go.WideShapes.bytes_inj e
theorem flip_s (s : ByteArray) (at_ mask : Int) (w : World) (hs : s.size ≤ 1000) (h0 : -1000 ≤ at_) (h1 : at_ ≤ 1000) (m0 : 0 ≤ mask) (m1 : mask ≤ 4294967295) :
    Calls Try.prog 47 #[.string s, .int .i64 at_, .int .u32 mask] w fun e w' => e = .returned (.string (flipS mask at_ s)) ∧ Fresh w w' := flip_any s at_ mask w hs h0 h1 m0 m1

set_option maxHeartbeats 1000000 in
theorem pipe_take_lose (s : ByteArray) (at_ mask : Int) (h : PlSt B w gp m (s :: q) put came bad A c l) (hbad : bad < 1000000000) :
    Calls Try.prog 35 #[.pointer (some ⟨gp, 0, none⟩), .agg #[.int .i64 1, .int .i64 at_, .int .u32 mask]] w fun e w' => e = .returned (.tuple #[.string ByteArray.empty, .bool true, .bool false]) ∧ PlSt B w' gp m q put came (bad + 1) A c l := by
  obtain ⟨gr, b, h⟩ := h
  have h0 := h.old ((Touch.refl _ w).alloc (.cells #[.int .i64 1, .int .i64 at_, .int .u32 mask] 58))
  have c0 : (w.alloc (.cells #[.int .i64 1, .int .i64 at_, .int .u32 mask] 58)).cell? ⟨gp, 0, none⟩ = some (.pointer (some ⟨gr, 0, none⟩)) := h0.pipe.blk.cell 0
  have HC := Lib.hid (ringStr_take gr b m (s :: q) _ h0.pipe.ring)
  have HBx := Lib.hid (Blk.new w 58 [.int .i64 1, .int .i64 at_, .int .u32 mask])
  have hnf : Hid (¬ Foot gr b w.heap.size) := fun hf => by have := h.pipe.wf _ (.inr hf); omega
  have H := Lib.hid h0
  clear h h0
  go_enter Try.func35, Try.ntmps35
  go_wp2_with fail
  refine HC.out.mono ?_
  rintro e w1 ⟨rfl, r1, t1⟩
  have P1 := H.out.pipe.ringTo r1 t1
  have H1 := Lib.hid (H.out.pipeTo P1 (t1.mono (fun _ _ h => .inr h)) (fun k hk => .inl hk))
  have x0 : w1.cell? ⟨w.heap.size, 0, none⟩ = some (.int .i64 1) := (t1.blk HBx.out hnf.out).cell 0
  have c3 : w1.cell? ⟨gp, 3, none⟩ = some (.int .i64 bad) := P1.blk.cell 3
  have f3 := P1.blk.frozen 3
  have BB := Lib.hid P1.blk
  clear r1 t1 HC c0 P1
  go_wp2
  go_ret3
  refine ⟨rfl, gr, b, ?_⟩
  have hset := BB.out.set 3 (.int .i64 ((bad + 1 : Nat) : Int))
  exact H1.out.pipeTo (H1.out.pipe.blkTo (put' := put) (came' := came) (bad' := bad + 1) hset (Touch.set1 _ _ _ _)) ((Touch.set1 _ _ _ _).mono (fun k _ e => .inl e)) (fun k hk => .inl hk)

set_option maxHeartbeats 1000000 in
theorem pipe_take_carry (s : ByteArray) (k at_ mask : Int) (h : PlSt B w gp m (s :: q) put came bad A c l) (hk1 : k ≠ 1) (hk2 : k ≠ 2) (hcame : came < 1000000000) :
    Calls Try.prog 35 #[.pointer (some ⟨gp, 0, none⟩), .agg #[.int .i64 k, .int .i64 at_, .int .u32 mask]] w fun e w' => e = .returned (.tuple #[.string s, .bool true, .bool true]) ∧ PlSt B w' gp m q put (came + 1) bad A c l := by
  obtain ⟨gr, b, h⟩ := h
  have h0 := h.old ((Touch.refl _ w).alloc (.cells #[.int .i64 k, .int .i64 at_, .int .u32 mask] 58))
  have c0 : (w.alloc (.cells #[.int .i64 k, .int .i64 at_, .int .u32 mask] 58)).cell? ⟨gp, 0, none⟩ = some (.pointer (some ⟨gr, 0, none⟩)) := h0.pipe.blk.cell 0
  have HC := Lib.hid (ringStr_take gr b m (s :: q) _ h0.pipe.ring)
  have HBx := Lib.hid (Blk.new w 58 [.int .i64 k, .int .i64 at_, .int .u32 mask])
  have hnf : Hid (¬ Foot gr b w.heap.size) := fun hf => by have := h.pipe.wf _ (.inr hf); omega
  have H := Lib.hid h0
  have e1 : (k == 1) = false := beq_eq_false_iff_ne.2 hk1
  have e2 : (k == 2) = false := beq_eq_false_iff_ne.2 hk2
  clear h h0 hk1 hk2
  go_enter Try.func35, Try.ntmps35
  go_wp2_with fail
  refine HC.out.mono ?_
  rintro e w1 ⟨rfl, r1, t1⟩
  have P1 := H.out.pipe.ringTo r1 t1
  have H1 := Lib.hid (H.out.pipeTo P1 (t1.mono (fun _ _ h => .inr h)) (fun k hk => .inl hk))
  have x0 : w1.cell? ⟨w.heap.size, 0, none⟩ = some (.int .i64 k) := (t1.blk HBx.out hnf.out).cell 0
  have c2 : w1.cell? ⟨gp, 2, none⟩ = some (.int .i64 came) := P1.blk.cell 2
  have f2 := P1.blk.frozen 2
  have BB := Lib.hid P1.blk
  clear r1 t1 HC c0 P1
  go_wp2
  go_ret3
  refine ⟨rfl, gr, b, ?_⟩
  have hset := BB.out.set 2 (.int .i64 ((came + 1 : Nat) : Int))
  exact H1.out.pipeTo (H1.out.pipe.blkTo (put' := put) (came' := came + 1) (bad' := bad) hset (Touch.set1 _ _ _ _)) ((Touch.set1 _ _ _ _).mono (fun k _ e => .inl e)) (fun k hk => .inl hk)

set_option maxHeartbeats 1000000 in
theorem pipe_take_spoil (s : ByteArray) (at_ mask : Int) (h : PlSt B w gp m (s :: q) put came bad A c l) (hcame : came < 1000000000) (hbad : bad < 1000000000)
    (hs : s.size ≤ 1000) (a0 : -1000 ≤ at_) (a1 : at_ ≤ 1000) (m0 : 0 ≤ mask) (m1 : mask ≤ 4294967295) :
    Calls Try.prog 35 #[.pointer (some ⟨gp, 0, none⟩), .agg #[.int .i64 2, .int .i64 at_, .int .u32 mask]] w fun e w' => e = .returned (.tuple #[.string (flipS mask at_ s), .bool true, .bool true]) ∧ PlSt B w' gp m q put (if flipS mask at_ s = s then came + 1 else came) (if flipS mask at_ s = s then bad else bad + 1) A c l := by
  obtain ⟨gr, b, h⟩ := h
  have h0 := h.old ((Touch.refl _ w).alloc (.cells #[.int .i64 2, .int .i64 at_, .int .u32 mask] 58))
  have c0 : (w.alloc (.cells #[.int .i64 2, .int .i64 at_, .int .u32 mask] 58)).cell? ⟨gp, 0, none⟩ = some (.pointer (some ⟨gr, 0, none⟩)) := h0.pipe.blk.cell 0
  have HC := Lib.hid (ringStr_take gr b m (s :: q) _ h0.pipe.ring)
  have HBx := Lib.hid (Blk.new w 58 [.int .i64 2, .int .i64 at_, .int .u32 mask])
  have hnf : Hid (¬ Foot gr b w.heap.size) := fun hf => by have := h.pipe.wf _ (.inr hf); omega
  have H := Lib.hid h0
  have HFl := Lib.hid (fun w => flip_s s at_ mask w hs a0 a1 m0 m1)
  clear h h0
  by_cases hx : flipS mask at_ s = s
  · simp only [if_pos hx]
    have hxe : ((flipS mask at_ s).toList == s.toList) = true := str_eq hx
    have HX := Lib.hid hx
    clear hx
    go_enter Try.func35, Try.ntmps35
    go_wp2_with fail
    refine HC.out.mono ?_
    rintro e w1 ⟨rfl, r1, t1⟩
    have P1 := H.out.pipe.ringTo r1 t1
    have H1 := Lib.hid (H.out.pipeTo P1 (t1.mono (fun _ _ h => .inr h)) (fun k hk => .inl hk))
    have Bx := t1.blk HBx.out hnf.out
    have x0 : w1.cell? ⟨w.heap.size, 0, none⟩ = some (.int .i64 2) := Bx.cell 0
    have x1 : w1.cell? ⟨w.heap.size, 1, none⟩ = some (.int .i64 at_) := Bx.cell 1
    have x2 : w1.cell? ⟨w.heap.size, 2, none⟩ = some (.int .u32 mask) := Bx.cell 2
    clear r1 t1 HC c0 P1 Bx
    go_wp2_with fail
    refine (HFl.out _).mono ?_
    rintro e w2 ⟨rfl, t2⟩
    have H2 := Lib.hid (H1.out.old t2)
    have c2 : w2.cell? ⟨gp, 2, none⟩ = some (.int .i64 came) := H2.out.pipe.blk.cell 2
    have f2 := H2.out.pipe.blk.frozen 2
    clear t2 H1
    go_wp2
    go_ret3
    refine ⟨rfl, gr, b, ?_⟩
    have hset := H2.out.pipe.blk.set 2 (.int .i64 ((came + 1 : Nat) : Int))
    exact H2.out.pipeTo (H2.out.pipe.blkTo (put' := put) (came' := came + 1) (bad' := bad) hset (Touch.set1 _ _ _ _)) ((Touch.set1 _ _ _ _).mono (fun k _ e => .inl e)) (fun k hk => .inl hk)
  · simp only [if_neg hx]
    have hxe : ((flipS mask at_ s).toList == s.toList) = false := str_ne hx
    have HX := Lib.hid hx
    clear hx
    go_enter Try.func35, Try.ntmps35
    go_wp2_with fail
    refine HC.out.mono ?_
    rintro e w1 ⟨rfl, r1, t1⟩
    have P1 := H.out.pipe.ringTo r1 t1
    have H1 := Lib.hid (H.out.pipeTo P1 (t1.mono (fun _ _ h => .inr h)) (fun k hk => .inl hk))
    have Bx := t1.blk HBx.out hnf.out
    have x0 : w1.cell? ⟨w.heap.size, 0, none⟩ = some (.int .i64 2) := Bx.cell 0
    have x1 : w1.cell? ⟨w.heap.size, 1, none⟩ = some (.int .i64 at_) := Bx.cell 1
    have x2 : w1.cell? ⟨w.heap.size, 2, none⟩ = some (.int .u32 mask) := Bx.cell 2
    clear r1 t1 HC c0 P1 Bx
    go_wp2_with fail
    refine (HFl.out _).mono ?_
    rintro e w2 ⟨rfl, t2⟩
    have H2 := Lib.hid (H1.out.old t2)
    have c3 : w2.cell? ⟨gp, 3, none⟩ = some (.int .i64 bad) := H2.out.pipe.blk.cell 3
    have f3 := H2.out.pipe.blk.frozen 3
    clear t2 H1
    go_wp2
    go_ret3
    refine ⟨rfl, gr, b, ?_⟩
    have hset := H2.out.pipe.blk.set 3 (.int .i64 ((bad + 1 : Nat) : Int))
    exact H2.out.pipeTo (H2.out.pipe.blkTo (put' := put) (came' := came) (bad' := bad + 1) hset (Touch.set1 _ _ _ _)) ((Touch.set1 _ _ _ _).mono (fun k _ e => .inl e)) (fun k hk => .inl hk)

theorem pipe_counts (h : PlSt B w gp m q put came bad A c l) :
    Calls Try.prog 36 #[.pointer (some ⟨gp, 0, none⟩)] w fun e w' => e = .returned (.tuple #[.int .i64 put, .int .i64 came, .int .i64 bad]) ∧ ∃ n, w' = w.drewN n := by
  obtain ⟨gr, b, h⟩ := h
  have c1 : w.cell? ⟨gp, 1, none⟩ = some (.int .i64 put) := h.pipe.blk.cell 1
  have c2 : w.cell? ⟨gp, 2, none⟩ = some (.int .i64 came) := h.pipe.blk.cell 2
  have c3 : w.cell? ⟨gp, 3, none⟩ = some (.int .i64 bad) := h.pipe.blk.cell 3
  clear h
  go_enter Try.func36, Try.ntmps36
  go_wp2
  go_quiet (fail)
  go_wp2
  go_ret3
  exact ⟨rfl, _, rfl⟩

set_option maxHeartbeats 1000000 in
theorem pipe_clone (h : PlSt B w gp m q put came bad A c l) :
    Calls Try.prog 39 #[.pointer (some ⟨gp, 0, none⟩)] w fun e w' => ∃ g', e = .returned (.pointer (some ⟨g', 0, none⟩)) ∧ PlSt w w' g' m q put came bad none 0 [] := by
  obtain ⟨gr, b, h⟩ := h
  have hb := h.pipe.blk
  have hr := h.pipe.ring
  clear h
  go_enter Try.func39, Try.ntmps39
  go_upto_region 1 with (fail)
  go_region_held3 (fun wx => wx.cell? ⟨gp, 0, none⟩ = some (.pointer (some ⟨gr, 0, none⟩)) ∧ wx.cell? ⟨gp, 1, none⟩ = some (.int .i64 put) ∧ wx.cell? ⟨gp, 2, none⟩ = some (.int .i64 came) ∧ wx.cell? ⟨gp, 3, none⟩ = some (.int .i64 bad))
    (first | exact ⟨hb.cell 0, hb.cell 1, hb.cell 2, hb.cell 3⟩ | exact ⟨(t2.blk hb (fun h => h)).cell 0, (t2.blk hb (fun h => h)).cell 1, (t2.blk hb (fun h => h)).cell 2, (t2.blk hb (fun h => h)).cell 3⟩ | exact ⟨((t2.blk hb (fun h => h)).alloc _).cell 0, ((t2.blk hb (fun h => h)).alloc _).cell 1, ((t2.blk hb (fun h => h)).alloc _).cell 2, ((t2.blk hb (fun h => h)).alloc _).cell 3⟩)
    (first | (go_at_call 48; refine (ringStr_clone gr b m q _ (by exact hr)).mono ?_; rintro e w2 ⟨g2, b2, rfl, r2, t2, hg2, hb2⟩))
  all_goals
    go_wp2
    go_ret
    have hbase : ∀ k, PFoot w2.heap.size g2 b2 k → w.heap.size ≤ k := fun k hk => by
      have h2 : w.heap.size ≤ w2.heap.size := t2.size
      have h3 : w.heap.size ≤ g2 := hg2
      rcases hk with e | e | e
      · omega
      · omega
      · exact hb2 k e
    exact ⟨w2.heap.size, rfl, g2, b2, ⟨Blk.new w2 _ [.pointer (some ⟨g2, 0, none⟩), .int .i64 put, .int .i64 came, .int .i64 bad], r2.touch ((Touch.refl (fun _ => False) w2).alloc _) (fun h => h) (fun _ _ h => h)⟩, Sl.nil _ _, (((Touch.refl _ w).drew.trans t2 (fun _ _ h => h)).alloc _), hbase, (fun ad e => nomatch e), (fun ad e => nomatch e)⟩
end
end Go.Proofs.Ytfieckhhckfjiaa
