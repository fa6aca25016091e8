/-
  recv.Recv: New, Vars, Poll, renew; seq.Between, seq.Max.
-/
import Derived.Test.YtipaobpmojahaaaGreatRcv
import Derived.RegionTactic
import Derived.ChangeAlike
import Derived.Deep.QuietTactic
import Derived.BigQuiet
import Derived.StillTailTactics
import Derived.Deep.DeepCutAuto
import Derived.Deep.CutBlock
import Derived.Test.YtipaobpmojahaaaGreatQTail
namespace Go.Proofs.YtipaobpmojahaaaGreat
open Go.RowKit

theorem rnew_any (start window : Int) (w : World) :
  Calls Tryz.prog 106 #[.int .u32 start, .int .i64 window] w fun e w' => ∃ p F, e = .returned (.pointer (some ⟨p, 0, none⟩)) ∧ RecvAt w' p F (Rv.new start window) ∧ Fresh w w' ∧ ∀ x, F x -> w.heap.size <= x := by
 obtain ⟨m, hm⟩ := qx ((if 64 < window then (64 : Int) else window))
 obtain ⟨W, hW⟩ := qx ((if 1 < m then m else 1))
 have hx : Hid (max 1 (min window 64) = W) := by
  unfold Hid
  rw [<- hW, <- hm]; (split <;> (try split) <;> omega)
 have hmm := @run_makeMap Tryz.prog
 have HZ : Hid (∀ s mr : Int, RecvAt ((w.alloc (.map #[] 0)).alloc (.cells #[.int .u32 s, .int .u32 s, .int .u32 mr, .int .i64 W, .map (some w.heap.size), .slice none 0 0, .slice none 0 0] 175)) (w.heap.size + 1) (fun x => x = w.heap.size ∨ x = w.heap.size + 1) { r := s, h := s, mr := mr, window := W, m := [], inbox := [], gaps := [] }) := fun s mr => by
  have hb := Blk.new (w.alloc (.map #[] 0)) 175 [.int .u32 s, .int .u32 s, .int .u32 mr, .int .i64 W, .map (some w.heap.size), .slice none 0 0, .slice none 0 0]
  have e1 : (w.alloc (.map #[] 0)).heap.size = w.heap.size + 1 := by simp
  rw [e1] at hb
  exact ⟨w.heap.size, none, 0, none, 0, ⟨hb, (MapAt.made numK w).alloc _, Sl.nil _ _, Sl.nil _ _⟩, ⟨.inr rfl, .inl rfl, (fun _ e => by cases e), (fun _ e => by cases e)⟩, fun x hx => by simp; omega⟩
 have HF : Hid (∀ o1 o2, Fresh w ((w.alloc o1).alloc o2)) := fun o1 o2 => ((Touch.refl _ w).alloc o1).alloc o2
 have HN : Hid (Rv.new start window = { r := start % 16777216, h := start % 16777216, mr := (start % 16777216 + W) % 16777216, window := W, m := [], inbox := [], gaps := [] }) := by
  unfold Hid Rv.new
  rw [hx.out]
  congr 1
  omega
 go_enter Tryz.func106, Tryz.ntmps106
 go_wp2_with fail
 refine (low_any start w).mono ?_
 rintro e w1 ⟨rfl, rfl⟩
 generalize start % 16777216 = s at *
 simp only
 go_wp2_with fail
 try rw [hx.out]
 refine (sadd_any s W _).mono ?_
 rintro e w2 ⟨rfl, rfl⟩
 generalize (s + W) % 16777216 = mr at *
 simp only
 go_wp2
 go_ret
 exact ⟨w2.heap.size + 1, _, rfl, by rw [HN.out]; exact HZ.out s mr, HF.out _ _, fun x hx => by omega⟩

def Rv.varsV (st : Rv.S) : Value := .agg #[.int .u32 st.r, .int .u32 st.h, .int .u32 st.mr, .int .i64 (st.m.length : Int), .int .i64 (st.inbox.length : Int), .int .i64 (st.gaps.length : Int)]

theorem rvars_any (p : Nat) (F : Nat -> Prop) (st : Rv.S) (w : World) (h : RecvAt w p F st) :
  Calls Tryz.prog 46 #[.pointer (some ⟨p, 0, none⟩)] w fun e w' => e = .returned (Rv.varsV st) ∧ Fresh w w' := by
 obtain ⟨k, A, c, G, d, h1, hF, hL⟩ := h
 have F1 : Hid (Fresh w (w.alloc (.cells #[.int .u32 0, .int .u32 0, .int .u32 0, .int .i64 0, .int .i64 0, .int .i64 0] 69))) := (Touch.refl _ _).alloc _
 have B1 : Hid (Blk (w.alloc (.cells #[.int .u32 0, .int .u32 0, .int .u32 0, .int .i64 0, .int .i64 0, .int .i64 0] 69)) w.heap.size 69 [.int .u32 0, .int .u32 0, .int .u32 0, .int .i64 0, .int .i64 0, .int .i64 0]) := Blk.new w _ _
 have HI : Hid (RecvIn (w.alloc (.cells #[.int .u32 0, .int .u32 0, .int .u32 0, .int .i64 0, .int .i64 0, .int .i64 0] 69)) p k A c G d st) := h1.old F1.out
 have hpr : p < w.heap.size := h1.blk.lt
 clear h1 hF hL
 unfold Rv.varsV
 go_enter Tryz.func46, Tryz.ntmps46
 go_wp2_with fail
 generalize w.alloc (.cells #[.int .u32 0, .int .u32 0, .int .u32 0, .int .i64 0, .int .i64 0, .int .i64 0] 69) = w1 at *
 obtain ⟨g, hg⟩ := xq w.heap.size
 rw [<- hg] at B1 hpr ⊢
 have HG := lh hg
 clear hg
 have c0 : w1.cell? ⟨p, 0, none⟩ = some (.int .u32 st.r) := HI.out.blk.cell 0
 have c1 : w1.cell? ⟨p, 1, none⟩ = some (.int .u32 st.h) := HI.out.blk.cell 1
 have c2 : w1.cell? ⟨p, 2, none⟩ = some (.int .u32 st.mr) := HI.out.blk.cell 2
 have c4 : w1.cell? ⟨p, 4, none⟩ = some (.map (some k)) := HI.out.blk.cell 4
 have c5 : w1.cell? ⟨p, 5, none⟩ = some (.slice A st.inbox.length c) := HI.out.blk.cell 5
 have c6 : w1.cell? ⟨p, 6, none⟩ = some (.slice G st.gaps.length d) := HI.out.blk.cell 6
 have hln : ∀ n, (Builtin.len_ #[172] 3 #[.map (some k)]).run Tryz.prog (w1.drewN n) = .ok (.int .i64 (st.m.length : Int)) (w1.drewN n) := fun n => by
  have := len_map (P := Tryz.prog) (ty := 3) Tryz.underlying172 (HI.out.drewN n).map
  rwa [Rv.bufV_len] at this
 clear HI
 refine wp_region_qtail 28 (by kernel_rfl) (by kernel_rfl) rfl (by kernel_rfl) (by kernel_rfl) ?_
 simp only [List.take_succ_cons, List.take_zero, List.drop_succ_cons, List.drop_zero, List.map_cons, List.map_nil, List.cons_append, List.nil_append, blankOp]
 repeat (quiet_step (fail))
 refine wpQuiet_nil ?_
 intro _ hw'
 obtain ⟨nq, hw''⟩ := hw'
 subst hw''
 have B2 := lh (B1.out.drewN nq)
 have F2 := lh (F1.out.drewN nq)
 generalize w1.drewN nq = w2 at *
 have q0 : w2.cell? ⟨g, 0, none⟩ = some (.int .u32 0) := B2.out.cell 0
 have z0 := B2.out.frozen 0
 have q1 : w2.cell? ⟨g, 1, none⟩ = some (.int .u32 0) := B2.out.cell 1
 have z1 := B2.out.frozen 1
 have q2 : w2.cell? ⟨g, 2, none⟩ = some (.int .u32 0) := B2.out.cell 2
 have z2 := B2.out.frozen 2
 have q3 : w2.cell? ⟨g, 3, none⟩ = some (.int .i64 0) := B2.out.cell 3
 have z3 := B2.out.frozen 3
 have q4 : w2.cell? ⟨g, 4, none⟩ = some (.int .i64 0) := B2.out.cell 4
 have z4 := B2.out.frozen 4
 have q5 : w2.cell? ⟨g, 5, none⟩ = some (.int .i64 0) := B2.out.cell 5
 have z5 := B2.out.frozen 5
 have BF : Hid (Blk ((((((w2.setCell ⟨g, 0, none⟩ (.int .u32 st.r)).setCell ⟨g, 1, none⟩ (.int .u32 st.h)).setCell ⟨g, 2, none⟩ (.int .u32 st.mr)).setCell ⟨g, 3, none⟩ (.int .i64 (st.m.length : Int))).setCell ⟨g, 4, none⟩ (.int .i64 (st.inbox.length : Int))).setCell ⟨g, 5, none⟩ (.int .i64 (st.gaps.length : Int))) g 69 [.int .u32 st.r, .int .u32 st.h, .int .u32 st.mr, .int .i64 (st.m.length : Int), .int .i64 (st.inbox.length : Int), .int .i64 (st.gaps.length : Int)]) := ((((((B2.out.set 0 (.int .u32 st.r)).set 1 (.int .u32 st.h)).set 2 (.int .u32 st.mr)).set 3 (.int .i64 (st.m.length : Int))).set 4 (.int .i64 (st.inbox.length : Int))).set 5 (.int .i64 (st.gaps.length : Int)))
 have FF : Hid (Fresh w ((((((w2.setCell ⟨g, 0, none⟩ (.int .u32 st.r)).setCell ⟨g, 1, none⟩ (.int .u32 st.h)).setCell ⟨g, 2, none⟩ (.int .u32 st.mr)).setCell ⟨g, 3, none⟩ (.int .i64 (st.m.length : Int))).setCell ⟨g, 4, none⟩ (.int .i64 (st.inbox.length : Int))).setCell ⟨g, 5, none⟩ (.int .i64 (st.gaps.length : Int)))) := ((((((((((((F2.out).setCell (p := ⟨g, 0, none⟩) (fun hh => by have := HG.out; simp only at hh; omega) (.int .u32 st.r))).setCell (p := ⟨g, 1, none⟩) (fun hh => by have := HG.out; simp only at hh; omega) (.int .u32 st.h))).setCell (p := ⟨g, 2, none⟩) (fun hh => by have := HG.out; simp only at hh; omega) (.int .u32 st.mr))).setCell (p := ⟨g, 3, none⟩) (fun hh => by have := HG.out; simp only at hh; omega) (.int .i64 (st.m.length : Int)))).setCell (p := ⟨g, 4, none⟩) (fun hh => by have := HG.out; simp only at hh; omega) (.int .i64 (st.inbox.length : Int)))).setCell (p := ⟨g, 5, none⟩) (fun hh => by have := HG.out; simp only at hh; omega) (.int .i64 (st.gaps.length : Int)))
 clear B1 B2 F1 F2 c0 c1 c2 c4 c5 c6 hln
 go_wp2
 generalize ((((((w2.setCell ⟨g, 0, none⟩ (.int .u32 st.r)).setCell ⟨g, 1, none⟩ (.int .u32 st.h)).setCell ⟨g, 2, none⟩ (.int .u32 st.mr)).setCell ⟨g, 3, none⟩ (.int .i64 (st.m.length : Int))).setCell ⟨g, 4, none⟩ (.int .i64 (st.inbox.length : Int))).setCell ⟨g, 5, none⟩ (.int .i64 (st.gaps.length : Int))) = wf at *
 have e0 : wf.cell? ⟨g, 0, none⟩ = some (.int .u32 st.r) := BF.out.cell 0
 have e1 : wf.cell? ⟨g, 1, none⟩ = some (.int .u32 st.h) := BF.out.cell 1
 have e2 : wf.cell? ⟨g, 2, none⟩ = some (.int .u32 st.mr) := BF.out.cell 2
 have e3 : wf.cell? ⟨g, 3, none⟩ = some (.int .i64 (st.m.length : Int)) := BF.out.cell 3
 have e4 : wf.cell? ⟨g, 4, none⟩ = some (.int .i64 (st.inbox.length : Int)) := BF.out.cell 4
 have e5 : wf.cell? ⟨g, 5, none⟩ = some (.int .i64 (st.gaps.length : Int)) := BF.out.cell 5
 exact bodyPost_ret (v := .agg #[.int .u32 st.r, .int .u32 st.h, .int .u32 st.mr, .int .i64 (st.m.length : Int), .int .i64 (st.inbox.length : Int), .int .i64 (st.gaps.length : Int)]) (by simp [results, Tryz.results46, go_sem, e0, e1, e2, e3, e4, e5]) rfl ⟨rfl, FF.out⟩
end Go.Proofs.YtipaobpmojahaaaGreat
