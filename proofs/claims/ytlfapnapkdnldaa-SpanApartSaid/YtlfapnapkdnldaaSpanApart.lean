/-
  SpanApart: with and without spans that don't touch one another, in any order, the set is the same.
-/
import Derived.Test.YtlfapnapkdnldaaSpanOrder
import Derived.Deep.RegionHeld3
import Derived.Deep.CutBlock
namespace Go.Proofs.Ytlfapnapkdnldaa
open Go.RowKit Go.ChangeShapes Go.WideShapes Go.ChangeAt

theorem fresh_step {w6 wa wb : World} (h : Fresh wa wb) (h0 : Fresh w6 wa) : Fresh w6 wb := h0.trans h (fun _ _ h => h)
/-- The slice reads as a good set of just the numbers that are told, near nought. -/
structure Res (w : World) (A : Option Addr) (c : Nat) (R : List (Int × Int)) (φ : Int → Prop) : Prop where
  rd : Rd spanE w A c R
  good : Sp.Good R
  mem : ∀ n, Sp.mem R n ↔ φ n
  bd : ∀ n, φ n → -100 ≤ n ∧ n < 100
theorem Res.touch {w w' : World} {A : Option Addr} {c : Nat} {R : List (Int × Int)} {φ : Int → Prop} (h : Res w A c R φ) (ht : Fresh w w') : Res w' A c R φ := ⟨h.rd.touch ht (fun _ _ _ h => h), h.good, h.mem, h.bd⟩
theorem Res.short {w : World} {A : Option Addr} {c : Nat} {R : List (Int × Int)} {φ : Int → Prop} (h : Res w A c R φ) : R.length ≤ 200 := h.good.short fun n hn => h.bd n ((h.mem n).1 hn)
/-- A span near nought, as it is. -/
def Nigh (x : Int × Int) : Prop := Sp.near x = x ∧ (∀ n, Sp.In x n → -100 ≤ n ∧ n < 100) ∧ (Sp.near x).2 - (Sp.near x).1 ≤ 1000000
theorem nigh_few1 (x : Int × Int) : Nigh (Sp.few1 x) := ⟨Sp.near_id _ (by have := Sp.few1_bd x; omega) (by have := Sp.few1_bd x; omega) (by have := Sp.few1_bd x; omega) (by have := Sp.few1_bd x; omega), fun n hn => by have := Sp.few1_bd x; unfold Sp.In at hn; omega, by
  rw [Sp.near_id _ (by have := Sp.few1_bd x; omega) (by have := Sp.few1_bd x; omega) (by have := Sp.few1_bd x; omega) (by have := Sp.few1_bd x; omega)]
  have := Sp.few1_bd x
  omega⟩

def ResPost (φ : Int → Prop) (w : World) (e : Ending) (w' : World) : Prop := ∃ B d S, e = .returned (.slice B S.length d) ∧ Res w' B d S φ ∧ Fresh w w'
theorem add_res {w : World} {A : Option Addr} {c : Nat} {s : List (Int × Int)} {φ : Int → Prop} {u v : Int} (h : Res w A c s φ) (hx : Nigh (u, v)) :
    Calls Try.prog 27 #[.slice A s.length c, .agg #[.int .i64 u, .int .i64 v]] w (ResPost (fun n => φ n ∨ Sp.In (u, v) n) w) := by
  have hs := h.short
  refine (add_any A c s (u, v) w h.rd h.good (by omega)).mono ?_
  rintro e w' ⟨B, d, S, rfl, M, hg, hm⟩
  refine ⟨B, d, S, rfl, ⟨M.sl.rd, hg, fun n => ?_, fun n hn => hn.elim (h.bd n) (hx.2.1 n)⟩, M.fresh⟩
  rw [hm, hx.1, h.mem]
theorem drop_res {w : World} {A : Option Addr} {c : Nat} {s : List (Int × Int)} {φ : Int → Prop} {u v : Int} (h : Res w A c s φ) (hx : Nigh (u, v)) :
    Calls Try.prog 28 #[.slice A s.length c, .agg #[.int .i64 u, .int .i64 v]] w (ResPost (fun n => φ n ∧ ¬ Sp.In (u, v) n) w) := by
  have hs := h.short
  refine (drop_any A c s (u, v) w h.rd h.good (by omega)).mono ?_
  rintro e w' ⟨B, d, S, rfl, M, hg, hm⟩
  refine ⟨B, d, S, rfl, ⟨M.sl.rd, hg, fun n => ?_, fun n hn => h.bd n hn.1⟩, M.fresh⟩
  rw [hm, hx.1, h.mem]
theorem gaps_res {w : World} {A : Option Addr} {c : Nat} {s : List (Int × Int)} {φ : Int → Prop} {u v : Int} (h : Res w A c s φ) (hx : Nigh (u, v)) :
    Calls Try.prog 30 #[.slice A s.length c, .agg #[.int .i64 u, .int .i64 v]] w (ResPost (fun n => Sp.In (u, v) n ∧ ¬ φ n) w) := by
  have hs := h.short
  refine (gaps_any A c s (u, v) w h.rd h.good (by omega) hx.2.2).mono ?_
  rintro e w' ⟨B, d, S, rfl, M, hg, hm⟩
  refine ⟨B, d, S, rfl, ⟨M.sl.rd, hg, fun n => ?_, fun n hn => hx.2.1 n hn.1⟩, M.fresh⟩
  rw [hm, hx.1, h.mem]
theorem same_res {w : World} {A B : Option Addr} {c d : Nat} {s t : List (Int × Int)} {φ ψ : Int → Prop} (h : Res w A c s φ) (h2 : Res w B d t ψ) (he : ∀ n, φ n ↔ ψ n) :
    Calls Try.prog 25 #[.slice A s.length c, .slice B t.length d] w fun e w' => e = .returned (.bool true) ∧ Fresh w w' := by
  have e1 : s = t := Sp.Canon.uniq h.good.1 h2.good.1 fun n => by rw [h.mem, h2.mem, he]
  have := setSame_any A c s B d t w h.rd h2.rd
  rwa [decide_eq_true e1] at this
theorem len_res {w : World} {A : Option Addr} {c : Nat} {s : List (Int × Int)} {φ : Int → Prop} (h : Res w A c s φ) :
    Calls Try.prog 39 #[.slice A s.length c] w fun e w' => e = .returned (.int .i64 (Sp.nums s).length) ∧ Fresh w w' := len_any A c s w h.rd h.good
theorem nums_add {S R T : List (Int × Int)} {φ : Int → Prop} {x : Int × Int} {w w2 w3 : World} {A B C : Option Addr} {a b c : Nat} (h : Res w A a S φ) (hR : Res w2 B b R (fun n => φ n ∨ Sp.In x n)) (hT : Res w3 C c T (fun n => Sp.In x n ∧ ¬ φ n)) : (Sp.nums R).length = (Sp.nums S).length + (Sp.nums T).length := by
  have hp : (Sp.nums R).Perm (Sp.nums S ++ Sp.nums T) := by
    refine (List.perm_ext_iff_of_nodup ?_ ?_).2 fun n => ?_
    · exact (Sp.nums_rising R hR.good.1).imp fun h => Int.ne_of_lt h
    · refine List.nodup_append.2 ⟨(Sp.nums_rising S h.good.1).imp fun h => Int.ne_of_lt h, (Sp.nums_rising T hT.good.1).imp fun h => Int.ne_of_lt h, fun n hn m hm e => ?_⟩
      subst e
      rw [Sp.mem_nums, h.mem] at hn
      rw [Sp.mem_nums, hT.mem] at hm
      exact hm.2 hn
    · rw [List.mem_append, Sp.mem_nums, Sp.mem_nums, Sp.mem_nums, hR.mem, h.mem, hT.mem]
      by_cases hf : φ n <;> simp [hf]
  rw [hp.length_eq, List.length_append]

theorem gaps_len {S R T : List (Int × Int)} {φ : Int → Prop} {x : Int × Int} {w w2 w3 : World} {A B C : Option Addr} {a b c : Nat} (h : Res w A a S φ) (hR : Res w2 B b R (fun n => φ n ∨ Sp.In x n)) (hT : Res w3 C c T (fun n => Sp.In x n ∧ ¬ φ n)) : (((Sp.nums T).length : Int) == IntKind.i64.wrap (((Sp.nums R).length : Int) - ((Sp.nums S).length : Int))) = true := by
  have hs := nums_add h hR hT
  have hb := hT.good.total_bd
  rw [← Sp.nums_total _ hT.good.1.1] at hb
  rw [hs, show (((Sp.nums S).length + (Sp.nums T).length : Nat) : Int) - ((Sp.nums S).length : Int) = ((Sp.nums T).length : Int) by omega]
  rw [IntWalk.i64_in _ ⟨by omega, by omega⟩]
  exact beq_self_eq_true _

set_option maxHeartbeats 8000000 in
set_option maxRecDepth 8000 in
theorem spanApart.core (A : Option Addr) (c : Nat) (l : List (Int × Int)) (x1 x2 y1 y2 : Int) (w : World) (h : Rd spanE w A c l) :
    Calls Try.prog 11 #[.slice A l.length c, .agg #[.int .i64 x1, .int .i64 x2], .agg #[.int .i64 y1, .int .i64 y2]] w fun e w' => e = .returned (.bool true) ∧ Below w.heap.size w w' := by
  have H := Lib.hid h
  clear h
  go_enter Try.func11, Try.ntmps11
  go_wp2_with fail
  have BX0 := Lib.hid ((Blk.new w 45 [.int .i64 x1, .int .i64 x2]).alloc (.cells #[.int .i64 y1, .int .i64 y2] 45))
  have BY0 := Lib.hid (Blk.new (w.alloc (.cells #[.int .i64 x1, .int .i64 x2] 45)) 45 [.int .i64 y1, .int .i64 y2])
  have F0 : Hid (Fresh w ((w.alloc (.cells #[.int .i64 x1, .int .i64 x2] 45)).alloc (.cells #[.int .i64 y1, .int .i64 y2] 45))) := ((Touch.refl _ w).alloc _).alloc _
  have hsz : (w.alloc (.cells #[.int .i64 x1, .int .i64 x2] 45)).heap.size = w.heap.size + 1 := by simp
  rw [hsz] at BY0
  generalize (w.alloc (.cells #[.int .i64 x1, .int .i64 x2] 45)).alloc (.cells #[.int .i64 y1, .int .i64 y2] 45) = w0 at *
  clear hsz
  refine (awake03 w0).mono ?_
  rintro e w1 ⟨rfl, f1⟩
  have FW : Hid (Fresh w w1) := F0.out.trans f1 (fun _ _ h => h)
  have BX := Lib.hid (f1.blk BX0.out (fun h => h))
  have BY := Lib.hid (f1.blk BY0.out (fun h => h))
  replace H := Lib.hid (H.out.touch FW.out (fun _ _ _ h => h))
  clear f1 F0 BX0 BY0
  simp only
  go_wp2_with fail
  refine (few_any A c l w1 H.out).mono ?_
  rintro e w2 ⟨B, d, D, f, N, rfl, MB, MD, hr, hm, hlN⟩
  have RB : Hid (Rd spanE w2 B d (Sp.few l 12)) := MB.sl.rd
  have RN : Hid (Rd intE w2 D f N) := MD.sl.rd
  replace FW := Lib.hid (FW.out.trans MB.fresh (fun _ _ h => h))
  replace BX := Lib.hid (MB.fresh.blk BX.out (fun h => h))
  replace BY := Lib.hid (MB.fresh.blk BY.out (fun h => h))
  have HF := Lib.hid (Sp.few_small l 12)
  have HFB := Lib.hid (Sp.few_bd l 12)
  have HRN := Lib.hid (And.intro hr hm)
  have hlF := few_len l
  generalize Sp.few l 12 = F at *
  clear MB MD hr hm H
  have e0 : w2.cell? ⟨w.heap.size, 0, none⟩ = some (.int .i64 x1) := BX.out.cell 0
  have e1 : w2.cell? ⟨w.heap.size, 1, none⟩ = some (.int .i64 x2) := BX.out.cell 1
  have e2 : w2.cell? ⟨w.heap.size + 1, 0, none⟩ = some (.int .i64 y1) := BY.out.cell 0
  have e3 : w2.cell? ⟨w.heap.size + 1, 1, none⟩ = some (.int .i64 y2) := BY.out.cell 1
  simp only
  go_wp2_with fail
  have RX := Lib.hid (Sl.rd (Sl.lit spanE w2 _ rfl #[.int .i64 x1, .int .i64 x2, .int .i64 y1, .int .i64 y2] [(x1, x2), (y1, y2)] rfl 2 rfl (by decide)))
  have FA : Hid (Fresh w2 (w2.alloc (.cells #[.int .i64 x1, .int .i64 x2, .int .i64 y1, .int .i64 y2] 45))) := (Touch.refl _ w2).alloc _
  have RX' : Hid (Rd spanE (w2.alloc (.cells #[.int .i64 x1, .int .i64 x2, .int .i64 y1, .int .i64 y2] 45)) (some ⟨w2.heap.size, 0, none⟩) 2 [(x1, x2), (y1, y2)]) := RX
  replace RB := Lib.hid (RB.out.touch FA.out (fun _ _ _ h => h))
  replace RN := Lib.hid (RN.out.touch FA.out (fun _ _ _ h => h))
  replace FW := Lib.hid (FW.out.trans FA.out (fun _ _ h => h))
  clear RX FA e0 e1 e2 e3 BX BY
  generalize w2.alloc (.cells #[.int .i64 x1, .int .i64 x2, .int .i64 y1, .int .i64 y2] 45) = w3 at *
  refine (few_any _ 2 [(x1, x2), (y1, y2)] w3 RX'.out).mono ?_
  rintro e w4 ⟨B2, d2, D2, f2, M, rfl, MB, MD, hr, hm, hlM⟩
  have hfew : Sp.few [(x1, x2), (y1, y2)] 12 = [Sp.few1 (x1, x2), Sp.few1 (y1, y2)] := rfl
  rw [hfew] at MB ⊢
  have HNX := Lib.hid (nigh_few1 (x1, x2))
  have HNY := Lib.hid (nigh_few1 (y1, y2))
  generalize Sp.few1 (x1, x2) = p at *
  generalize Sp.few1 (y1, y2) = q at *
  obtain ⟨p1, p2⟩ := p
  obtain ⟨q1, q2⟩ := q
  have RB2 : Hid (Rd spanE w4 B2 d2 [(p1, p2), (q1, q2)]) := MB.sl.rd
  replace RB := Lib.hid (RB.out.touch MB.fresh (fun _ _ _ h => h))
  replace RN := Lib.hid (RN.out.touch MB.fresh (fun _ _ _ h => h))
  replace FW := Lib.hid (FW.out.trans MB.fresh (fun _ _ h => h))
  clear MB MD hr hm hfew RX' hlM
  simp only [List.length_cons, List.length_nil, Nat.zero_add, Nat.reduceAdd]
  obtain ⟨gB, oB, rfl, _, b0, b1⟩ := RB2.out.span_at 0 (by simp)
  obtain ⟨gB', oB', eB, _, b2, b3⟩ := RB2.out.span_at 1 (by simp)
  cases eB
  simp at b0 b1 b2 b3
  have KEEP : Hid (∀ wx, Fresh w4 wx → wx.cell? ⟨gB, oB, none⟩ = some (.int .i64 p1) ∧ wx.cell? ⟨gB, oB + 1, none⟩ = some (.int .i64 p2) ∧ wx.cell? ⟨gB, oB + 2, none⟩ = some (.int .i64 q1) ∧ wx.cell? ⟨gB, oB + 2 + 1, none⟩ = some (.int .i64 q2)) := fun wx hf => by
    obtain ⟨g1, o1, e1, _, k0, k1⟩ := (RB2.out.touch hf (fun _ _ _ h => h)).span_at 0 (by simp)
    cases e1
    obtain ⟨g1, o1, e1, _, k2, k3⟩ := (RB2.out.touch hf (fun _ _ _ h => h)).span_at 1 (by simp)
    cases e1
    simp at k0 k1 k2 k3
    exact ⟨k0, k1, k2, k3⟩
  clear RB2
  have hsP : (w4.alloc (.cells #[.int .i64 p1, .int .i64 p2] 45)).heap.size = w4.heap.size + 1 := by simp
  have hsQ : (w4.alloc (.cells #[.int .i64 q1, .int .i64 q2] 45)).heap.size = w4.heap.size + 1 := by simp
  have BP1 := Lib.hid (((Blk.new w4 45 [.int .i64 p1, .int .i64 p2]).alloc (.cells #[.int .i64 q1, .int .i64 q2] 45)).drew)
  have BP2 := Lib.hid ((Blk.new (w4.alloc (.cells #[.int .i64 p1, .int .i64 p2] 45)) 45 [.int .i64 q1, .int .i64 q2]).drew)
  have BQ1 := Lib.hid (((Blk.new w4 45 [.int .i64 q1, .int .i64 q2]).alloc (.cells #[.int .i64 p1, .int .i64 p2] 45)).drew)
  have BQ2 := Lib.hid ((Blk.new (w4.alloc (.cells #[.int .i64 q1, .int .i64 q2] 45)) 45 [.int .i64 p1, .int .i64 p2]).drew)
  rw [hsP] at BP2
  rw [hsQ] at BQ2
  have FPQ : Hid (Fresh w4 ((w4.alloc (.cells #[.int .i64 p1, .int .i64 p2] 45)).alloc (.cells #[.int .i64 q1, .int .i64 q2] 45)).drew) := (((Touch.refl _ w4).alloc _).alloc _).drew
  have FQP : Hid (Fresh w4 ((w4.alloc (.cells #[.int .i64 q1, .int .i64 q2] 45)).alloc (.cells #[.int .i64 p1, .int .i64 p2] 45)).drew) := (((Touch.refl _ w4).alloc _).alloc _).drew
  clear hsP hsQ
  go_upto_region 5 with (fail)
  go_cut [11, 12] (fun a b wx => ∃ na nb : Nat, a = .pointer (some ⟨na, 0, none⟩) ∧ b = .pointer (some ⟨nb, 0, none⟩) ∧ Hid (Blk wx na 45 [.int .i64 p1, .int .i64 p2]) ∧ Hid (Blk wx nb 45 [.int .i64 q1, .int .i64 q2]) ∧ Hid (Fresh w4 wx))
  case first =>
    go_region_held3 (fun wx => wx.cell? ⟨gB, oB, none⟩ = some (.int .i64 p1) ∧ wx.cell? ⟨gB, oB + 1, none⟩ = some (.int .i64 p2) ∧ wx.cell? ⟨gB, oB + 2, none⟩ = some (.int .i64 q1) ∧ wx.cell? ⟨gB, oB + 2 + 1, none⟩ = some (.int .i64 q2))
      (first
        | exact ⟨b0, b1, b2, b3⟩
        | exact KEEP.out _ ((Touch.refl _ _).drew)
        | exact KEEP.out _ (((Touch.refl _ _).alloc _).drew)
        | exact KEEP.out _ ((((Touch.refl _ _).alloc _).alloc _).drew)
        | exact KEEP.out _ ((Touch.refl _ _).alloc _)
        | exact KEEP.out _ (((Touch.refl _ _).alloc _).alloc _))
      (fail)
    all_goals
      clear b0 b1 b2 b3
      go_wp2
      go_meet
      case rel => first | exact ⟨_, _, rfl, rfl, BP1, BP2, FPQ⟩ | exact ⟨_, _, rfl, rfl, BQ2, BQ1, FQP⟩
  case rest =>
    obtain ⟨na, nb, rfl, rfl, BA, BB, F5⟩ := hcut
    replace RB := Lib.hid (RB.out.touch F5.out (fun _ _ _ h => h))
    replace RN := Lib.hid (RN.out.touch F5.out (fun _ _ _ h => h))
    replace FW := Lib.hid (FW.out.trans F5.out (fun _ _ h => h))
    clear KEEP b0 b1 b2 b3 BP1 BP2 BQ1 BQ2 FPQ FQP F5
    go_wp2_with fail
    refine (of_any B d F _ RB.out (by omega)).mono ?_
    rintro e w6 ⟨C, g, S, rfl, MC, hof, hlS⟩
    have HS6 : Hid (Res w6 C g S (fun n => Sp.mem S n)) := ⟨MC.sl.rd, hof.good, fun n => Iff.rfl, fun n hn => HFB.out n ((hof.mem_small HF.out n).1 hn)⟩
    have HIN := Lib.hid (Sp.isNums_of hof HF.out HRN.out.1 HRN.out.2)
    replace RN := Lib.hid (RN.out.touch MC.fresh (fun _ _ _ h => h))
    replace BA := Lib.hid (MC.fresh.blk BA.out (fun h => h))
    replace BB := Lib.hid (MC.fresh.blk BB.out (fun h => h))
    replace FW := Lib.hid (FW.out.trans MC.fresh (fun _ _ h => h))
    clear MC hof RB HF HFB HRN
    have a0 : w6.cell? ⟨na, 0, none⟩ = some (.int .i64 p1) := BA.out.cell 0
    have a1 : w6.cell? ⟨na, 1, none⟩ = some (.int .i64 p2) := BA.out.cell 1
    have a2 : w6.cell? ⟨nb, 0, none⟩ = some (.int .i64 q1) := BB.out.cell 0
    have a3 : w6.cell? ⟨nb, 1, none⟩ = some (.int .i64 q2) := BB.out.cell 1
    simp only
    by_cases htouch : max p1 q1 ≤ min p2 q2
    · have hdt : decide (max p1 q1 ≤ min p2 q2) = true := decide_eq_true htouch
      go_wp2_with fail
      refine (is_true C g S D f N w6 HS6.out.rd RN.out HIN.out (by omega)).mono ?_
      rintro e w7 ⟨rfl, f7⟩
      have F7 := Lib.hid (FW.out.trans f7 (fun _ _ h => h))
      clear f7 a0 a1 a2 a3
      simp only
      go_wp2
      go_ret
      exact ⟨rfl, F7.out.below (Nat.le_refl _) (fun _ _ h => h)⟩
    · have hdt : decide (max p1 q1 ≤ min p2 q2) = false := decide_eq_false htouch
      have HAP : Hid (∀ n, ¬ (Sp.In (p1, p2) n ∧ Sp.In (q1, q2) n)) := fun n => by unfold Sp.In; simp only; omega
      clear htouch
      have KEEP6 : Hid (∀ wx, Fresh w6 wx → wx.cell? ⟨na, 0, none⟩ = some (.int .i64 p1) ∧ wx.cell? ⟨na, 1, none⟩ = some (.int .i64 p2) ∧ wx.cell? ⟨nb, 0, none⟩ = some (.int .i64 q1) ∧ wx.cell? ⟨nb, 1, none⟩ = some (.int .i64 q2)) := fun wx hf => ⟨(hf.blk BA.out (fun h => h)).cell 0, (hf.blk BA.out (fun h => h)).cell 1, (hf.blk BB.out (fun h => h)).cell 0, (hf.blk BB.out (fun h => h)).cell 1⟩
      clear RN HIN BA BB
      go_upto_region 9 with (fail)
      clear hdt
      have HSa : Hid (∀ n, ((Sp.mem S n ∨ Sp.In (p1, p2) n) ∧ ¬ Sp.In (q1, q2) n) ↔ ((Sp.mem S n ∧ ¬ Sp.In (q1, q2) n) ∨ Sp.In (p1, p2) n)) := fun n => by
        have := HAP.out n
        by_cases h1 : Sp.mem S n <;> by_cases h2 : Sp.In (p1, p2) n <;> by_cases h3 : Sp.In (q1, q2) n <;> simp_all
      have HSb : Hid (∀ n, ((Sp.mem S n ∨ Sp.In (p1, p2) n) ∨ Sp.In (q1, q2) n) ↔ ((Sp.mem S n ∨ Sp.In (q1, q2) n) ∨ Sp.In (p1, p2) n)) := fun n => or_right_comm
      have HSc : Hid (∀ n, ((Sp.mem S n ∧ ¬ Sp.In (p1, p2) n) ∧ ¬ Sp.In (q1, q2) n) ↔ ((Sp.mem S n ∧ ¬ Sp.In (q1, q2) n) ∧ ¬ Sp.In (p1, p2) n)) := fun n => and_right_comm
      go_region_held3 (fun wx => wx.cell? ⟨na, 0, none⟩ = some (.int .i64 p1) ∧ wx.cell? ⟨na, 1, none⟩ = some (.int .i64 p2) ∧ wx.cell? ⟨nb, 0, none⟩ = some (.int .i64 q1) ∧ wx.cell? ⟨nb, 1, none⟩ = some (.int .i64 q2))
        (first
          | exact ⟨a0, a1, a2, a3⟩
          | exact KEEP6.out _ ((Touch.refl _ _).drew)
          | exact KEEP6.out _ (by assumption)
          | assumption)
        (first
          | (go_simp; go_at_call 27; refine (add_res (by first | assumption | exact HS6.out.touch (by first | assumption | exact (Touch.refl _ _).drew)) (by first | exact HNX.out | exact HNY.out)).mono ?_; rintro e' w' ⟨P', p', R', rfl, hres, hfr⟩; have hFN : Fresh w6 _ := fresh_step hfr (by first | assumption | exact (Touch.refl _ _).drew); have hK := KEEP6.out _ hFN; have hG := hfr; clear hfr)
          | (go_simp; go_at_call 28; refine (drop_res (by first | assumption | exact HS6.out.touch (by first | assumption | exact (Touch.refl _ _).drew)) (by first | exact HNX.out | exact HNY.out)).mono ?_; rintro e' w' ⟨P', p', R', rfl, hres, hfr⟩; have hFN : Fresh w6 _ := fresh_step hfr (by first | assumption | exact (Touch.refl _ _).drew); have hK := KEEP6.out _ hFN; have hG := hfr; clear hfr)
          | (go_simp; go_at_call 30; refine (gaps_res (by first | assumption | exact HS6.out.touch (by first | assumption | exact (Touch.refl _ _).drew)) (by first | exact HNX.out | exact HNY.out)).mono ?_; rintro e' w' ⟨P', p', R', rfl, hres, hfr⟩; have hFN : Fresh w6 _ := fresh_step hfr (by first | assumption | exact (Touch.refl _ _).drew); have hK := KEEP6.out _ hFN; have hG := hfr; clear hfr)
          | (go_simp; go_at_call 25; refine (same_res (by first | assumption | exact Res.touch (by assumption) (by assumption) | exact Res.touch (by assumption) (fresh_step (by assumption) (by assumption))) (by assumption) (by first | exact HSa.out | exact HSb.out | exact HSc.out)).mono ?_; rintro e' w' ⟨rfl, hfr⟩; have hFN : Fresh w6 _ := fresh_step hfr (by first | assumption | exact (Touch.refl _ _).drew); have hK := KEEP6.out _ hFN; have hG := hfr; clear hfr)
          | (go_simp; go_at_call 39; refine (len_res (by first | assumption | exact HS6.out.touch (by first | assumption | exact (Touch.refl _ _).drew))).mono ?_; rintro e' w' ⟨rfl, hfr⟩; have hFN : Fresh w6 _ := fresh_step hfr (by first | assumption | exact (Touch.refl _ _).drew); have hK := KEEP6.out _ hFN; have hG := hfr; clear hfr))
      all_goals
        have hfin := gaps_len HS6.out hres (by assumption)
        have F7 := Lib.hid (FW.out.trans hFN (fun _ _ h => h))
        rw [hfin]
        clear hfin hres hK hG HSa HSb HSc HAP KEEP6 HS6 hFN
        go_wp2
        go_ret
        exact ⟨rfl, F7.out.below (Nat.le_refl _) (fun _ _ h => h)⟩

theorem spanApart.walk (v v2 v3 : Value) (w : World) {H : Type} {enc : TypeId × Value → H} {base : Nat} {d d2 d3 : DataW H} {p p2 p3 : List MemPlace} (hv : Value.okWide Try.prog w .any base 23 v) (h : DataW.Trod enc Try.prog w 0 (fun _ => true) true 23 v d p) (hv2 : Value.okWide Try.prog w .any base 45 v2) (h2 : DataW.Trod enc Try.prog w 0 (fun _ => true) true 45 v2 d2 p2) (hv3 : Value.okWide Try.prog w .any base 45 v3) (h3 : DataW.Trod enc Try.prog w 0 (fun _ => true) true 45 v3 d3 p3) :
    Calls Try.prog 11 #[v, v2, v3] w fun e w' => e = .returned (.bool true) ∧ Below w.heap.size w w' := by
  obtain ⟨A, c, l, rfl, hr⟩ := open_spans hv h
  obtain ⟨x, rfl⟩ := open_span hv2 h2
  obtain ⟨y, rfl⟩ := open_span hv3 h3
  exact spanApart.core A c l x.1 x.2 y.1 y.2 w hr
end Go.Proofs.Ytlfapnapkdnldaa
