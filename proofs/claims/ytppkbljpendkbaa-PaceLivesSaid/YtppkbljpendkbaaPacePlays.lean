/-
  polliwoglaw15.PacePlays: behind any calls the timers have what the document says.
-/
import Derived.Test.YtppkbljpendkbaaStep15b
import Derived.Test.YtppkbljpendkbaaOpen2
namespace Go.Proofs.Ytppkbljpendkbaa
open Go.RowKit Go.ChangeShapes Go.WideShapes Go.ChangeAt

def act15E : El (Int × Bool) := { e := 51, size := 2, bytes := 16, zero := .agg #[.int .i64 0, .bool false], zel := (0, false), enc := fun x => [.int .i64 x.1, .bool x.2], len := fun _ => rfl, one := by simp [Value.oneCell'], pos := by decide, zsize := rfl, zenc := rfl }
theorem dec_act15 {H : Type} {enc : TypeId × Value → H} {W : World} (n : Nat) (cs : List Value) (y : DataW H × List MemPlace) (hy : DataW.trod enc Try.prog W 0 (fun _ => true) true n act15E.e cs = some y) : ∃ a, cs = act15E.enc a ∧ True := by
  obtain ⟨hl, m, hf⟩ := open_fields Try.underlying51 (by kernel_rfl) (by kernel_rfl) hy
  match cs, hl with
  | [c0, c1], _ =>
    obtain ⟨_, f0⟩ := hf 0 _ rfl
    obtain ⟨_, f1⟩ := hf 1 _ rfl
    obtain ⟨x0, e0, _, _⟩ := DataW.trod_int Try.underlying3 f0
    obtain ⟨x1, e1, _⟩ := DataW.trod_bool Try.underlying4 f1
    simp at e0 e1
    subst e0 e1
    exact ⟨(x0, x1), rfl, trivial⟩
theorem Rd.act15_at {w : World} {A : Option Addr} {c : Nat} {l : List (Int × Bool)} (h : Rd act15E w A c l) (k : Nat) (hk : k < l.length) :
    ∃ g o, A = some ⟨g, o, none⟩ ∧ g < w.heap.size ∧ w.cell? ⟨g, o + k * 2, none⟩ = some (.int .i64 (l.getD k (0, false)).1) ∧ w.cell? ⟨g, o + k * 2 + 1, none⟩ = some (.bool (l.getD k (0, false)).2) := by
  obtain ⟨g, o, hA, hg, hc⟩ := h.at_ k hk
  refine ⟨g, o, hA, hg, ?_, ?_⟩
  · exact hc 0 _ (by simp [act15E, List.getD, List.getElem?_eq_getElem hk])
  · exact hc 1 _ (by simp [act15E, List.getD, List.getElem?_eq_getElem hk])

/-- A pace, and the document's beside it. -/
structure PxSt (B w : World) (gp gx : Nat) (l : List Int) (c0 c1 c2 c3 c4 : Int) (Tk : Option Addr) (ck : Nat) (A : Option Addr) (d : Nat) : Prop where
  pk : Pk w gp l c0 c1 c2 c3 c4
  left : Sl intE w A d l
  ticks : Sl intE w Tk ck [c0, c1, c2, c3, c4]
  blk : Blk w gx 46 [.slice Tk 5 ck, .slice A 5 d]
  fresh : Fresh B w
  hp : B.heap.size ≤ gp
  hx : B.heap.size ≤ gx
  ne : gx ≠ gp
theorem PxSt.old {B w w' : World} {gp gx : Nat} {l : List Int} {c0 c1 c2 c3 c4 : Int} {Tk A : Option Addr} {ck d : Nat} (h : PxSt B w gp gx l c0 c1 c2 c3 c4 Tk ck A d) (ht : Fresh w w') : PxSt B w' gp gx l c0 c1 c2 c3 c4 Tk ck A d :=
  ⟨Bk.touch h.pk ht (fun h => h), h.left.touch ht (fun _ _ h => h), h.ticks.touch ht (fun _ _ h => h), ht.blk h.blk (fun h => h), h.fresh.trans ht (fun _ _ h => h), h.hp, h.hx, h.ne⟩
theorem PxSt.drewN {B w : World} {gp gx : Nat} {l : List Int} {c0 c1 c2 c3 c4 : Int} {Tk A : Option Addr} {ck d : Nat} (h : PxSt B w gp gx l c0 c1 c2 c3 c4 Tk ck A d) (n : Nat) : PxSt B (w.drewN n) gp gx l c0 c1 c2 c3 c4 Tk ck A d := h.old ((Touch.refl _ w).drewN n)
/-- Behind a step, and its store. -/
theorem PxSt.step {B w w' : World} {gp gx : Nat} {l l' : List Int} {c0 c1 c2 c3 c4 : Int} {Tk A A' : Option Addr} {ck d d' : Nat} (h : PxSt B w gp gx l c0 c1 c2 c3 c4 Tk ck A d)
    (hp : Pk w' gp l' c0 c1 c2 c3 c4) (hl : Sl intE w' A' d' l') (hk : Sl intE w' Tk ck [c0, c1, c2, c3, c4]) (ht : Touch (· = gp) w w') :
    PxSt B ((w'.setCell ⟨gx, 0, none⟩ (.slice Tk 5 ck)).setCell ⟨gx, 1, none⟩ (.slice A' 5 d')) gp gx l' c0 c1 c2 c3 c4 Tk ck A' d' := by
  have hb := ht.blk h.blk h.ne
  refine ⟨⟨hp.1, hp.2.1, (hp.2.2.far (p := ⟨gx, 0, none⟩) h.ne.symm _).far (p := ⟨gx, 1, none⟩) h.ne.symm _⟩,
    (hl.setCell (p := ⟨gx, 0, none⟩) (hl.blk_ne hb (by decide)) _).setCell (p := ⟨gx, 1, none⟩) (hl.blk_ne hb (by decide)) _,
    (hk.setCell (p := ⟨gx, 0, none⟩) (hk.blk_ne hb (by decide)) _).setCell (p := ⟨gx, 1, none⟩) (hk.blk_ne hb (by decide)) _,
    (hb.set 0 _).set 1 _, ?_, h.hp, h.hx, h.ne⟩
  exact ((h.fresh.trans ht (fun k hk e => by have e2 : k = gp := e; have := h.hp; omega)).setCell (fun e => by have := h.hx; simp at e; omega) _).setCell (fun e => by have := h.hx; simp at e; omega) _

set_option maxRecDepth 10000 in
set_option maxHeartbeats 4000000 in
theorem pacePlays.core (A : Option Addr) (c : Nat) (L : List Int) (A2 : Option Addr) (ca2 : Nat) (L2 : List (Int × Bool)) (w : World) (hr : Rd intE w A c L) (hr2 : Rd act15E w A2 ca2 L2) :
    Calls Try.prog 5 #[.slice A L.length c, .slice A2 L2.length ca2] w fun e w' => e = .returned (.bool true) ∧ Below w.heap.size w w' := by
  have hlc := hr2.1
  have hcm := hr2.2.1
  unfold maxLen at hcm
  have HR := Lib.hid hr
  have HR2 := Lib.hid hr2
  clear hr hr2
  go_enter Try.func5, Try.ntmps5
  go_wp2_with fail
  refine (awake15_any _).mono ?_
  rintro e w1 ⟨rfl, t1⟩
  go_wp2_with fail
  refine (right_any A c L w1 (HR.out.touch t1 (fun _ _ _ h => h))).mono ?_
  rintro e w2 ⟨g, c0, c1, c2, c3, c4, rfl, s2, hG, t2, hg2⟩
  have HG := Lib.hid hG
  have T2 := Lib.hid (t1.trans t2 (fun _ _ h => h))
  clear t1 t2 hG HR
  go_wp2_with fail
  refine (own15_any g c0 c1 c2 c3 c4 w2 s2).mono ?_
  rintro e w3 ⟨rfl, t3⟩
  have S3 := Lib.hid (s2.touch t3 (fun _ _ h => h))
  have T3 := Lib.hid (T2.out.trans t3 (fun _ _ h => h))
  clear s2 t3 T2
  go_wp2_with fail
  refine (new15_any c0 c1 c2 c3 c4 w3 HG.out).mono ?_
  rintro e w4 ⟨gp, rfl, h4, t4, hgp⟩
  have S4 := Lib.hid (S3.out.touch t4 (fun _ _ h => h))
  have T4 := Lib.hid (T3.out.trans t4 (fun _ _ h => h))
  have H4 := Lib.hid h4
  have hwp := T3.out.size
  have hgp4 : gp < w4.heap.size := Bk.lt h4
  clear t4 h4 T3 S3
  go_wp2_with fail
  refine (ref_new (some ⟨g, 0, none⟩) 5 w4).mono ?_
  rintro e w5 ⟨A5, d5, rfl, s5, t5⟩
  have HX : Hid (PxSt w (w5.alloc (.cells #[.slice (some ⟨g, 0, none⟩) 5 5, .slice A5 5 d5] 46)) gp w5.heap.size [0, 0, 0, 0, 0] c0 c1 c2 c3 c4 (some ⟨g, 0, none⟩) 5 A5 d5) := by
    have h5 := t5.size
    have h6 := (T4.out.trans t5 (fun _ _ h => h)).size
    exact ⟨Bk.alloc (Bk.touch H4.out t5 (fun h => h)) _, s5.alloc _, (S4.out.touch t5 (fun _ _ h => h)).alloc _, Blk.new w5 _ [.slice (some ⟨g, 0, none⟩) 5 5, .slice A5 5 d5], (T4.out.trans t5 (fun _ _ h => h)).alloc _, by omega, h6, by omega⟩
  clear s5 t5 S4 T4 H4 hgp4 hgp hwp hg2
  go_wp2_with fail
  generalize w5.heap.size = gx at *
  go_loopw [8, 9] (fun s8 i wr => ∃ (k : Nat) (b : Bool) (l : List Int) (Ax : Option Addr) (dx : Nat), k ≤ 150 ∧ k ≤ L2.length ∧ i = .int .i64 k ∧ s8 = .bool b ∧ Hid (PxSt w wr gp gx l c0 c1 c2 c3 c4 (some ⟨g, 0, none⟩) 5 Ax dx)) (fun _ i _ => 150 - (intOf i).toNat)
  case atStart => exact ⟨0, false, _, A5, d5, by omega, by omega, rfl, rfl, HX⟩
  case round =>
    clear HX
    obtain ⟨k, b, l, Ax, dx, hk150, hkL, rfl, rfl, HX⟩ := hrel
    rcases (show (k < L2.length ∧ k < 150) ∨ ¬ ((k : Int) < (L2.length : Int)) ∨ ((k : Int) < (L2.length : Int) ∧ ¬ ((k : Int) < 150)) by omega) with ⟨hkl, hk2⟩ | hend
    · have hk1 : (k : Int) < (L2.length : Int) := by omega
      have hk2 : (k : Int) < 150 := by omega
      have hd1 : decide ((k : Int) < (L2.length : Int)) = true := decide_eq_true hk1
      have hd2 : decide ((k : Int) < 150) = true := decide_eq_true hk2
      have hk0 : (0 : Int) ≤ (k : Int) := by omega
      obtain ⟨gA, oA, rfl, hgA, hc0, hc1⟩ := (HR2.out.touch HX.out.fresh (fun _ _ _ h => h)).act15_at k hkl
      generalize (L2.getD k (0, false)).1 = kd at *
      generalize (L2.getD k (0, false)).2 = idle at *
      have x0 : wr.cell? ⟨gx, 0, none⟩ = some (.slice (some ⟨g, 0, none⟩) 5 5) := HX.out.blk.cell 0
      have x1 : wr.cell? ⟨gx, 1, none⟩ = some (.slice Ax 5 dx) := HX.out.blk.cell 1
      go_wp2
      go_region_law (go_simp; go_at_call 21; refine (step15_any gp l c0 c1 c2 c3 c4 (some ⟨g, 0, none⟩) Ax 5 dx kd idle _ (by exact HX.out.pk) (by exact HX.out.ticks) (by exact HX.out.left) HG.out).mono ?_; rintro e w6 ⟨A6, d6, rfl, p6, s6, k6, t6⟩; have x60 : w6.cell? ⟨gx, 0, none⟩ = some (.slice (some ⟨g, 0, none⟩) 5 5) := (t6.blk HX.out.blk HX.out.ne).cell 0; have x61 : w6.cell? ⟨gx, 1, none⟩ = some (.slice Ax 5 dx) := (t6.blk HX.out.blk HX.out.ne).cell 1; have f60 := (t6.blk HX.out.blk HX.out.ne).frozen 0; have f61 := (t6.blk HX.out.blk HX.out.ne).frozen 1)
      all_goals
        have HX6 := Lib.hid (HX.out.step p6 s6 k6 (((Touch.refl _ wr).drew).trans t6 (fun _ _ h => h)))
        clear p6 s6 k6 t6 x60 x61 f60 f61 x0 x1 hc0 hc1
        generalize ((w6.setCell ⟨gx, 0, none⟩ (.slice (some ⟨g, 0, none⟩) 5 5)).setCell ⟨gx, 1, none⟩ (.slice A6 5 d6)) = w7 at *
        have y0 : w7.cell? ⟨gx, 0, none⟩ = some (.slice (some ⟨g, 0, none⟩) 5 5) := HX6.out.blk.cell 0
        have y1 : w7.cell? ⟨gx, 1, none⟩ = some (.slice A6 5 d6) := HX6.out.blk.cell 1
        go_wp2_with fail
        refine (is15_any gp c0 c1 c2 c3 c4 (some ⟨g, 0, none⟩) A6 5 d6 _ w7 HX6.out.pk HX6.out.left).mono ?_
        rintro e w8 ⟨rfl, t8⟩
        have HX8 := Lib.hid (HX6.out.old t8)
        clear t8 HX6 HX y0 y1
        go_wp2
        go_roundw
        case rel => exact ⟨k + 1, true, _, A6, d6, by omega, by omega, by go_num, rfl, HX8⟩
        case measure => simp [intOf]; omega
    · rcases hend with hk1 | ⟨hk1, hk2⟩
      all_goals
        go_wp2
        go_ret
        exact ⟨rfl, HX.out.fresh.below (Nat.le_refl _) (fun _ _ h => h)⟩

theorem pacePlays.walk (v v2 : Value) (w : World) {H : Type} {enc : TypeId × Value → H} {base base2 : Nat} {d d2 : DataW H} {p p2 : List MemPlace} (hv : Value.okWide Try.prog w .any base 22 v) (h : DataW.Trod enc Try.prog w 0 (fun _ => true) true 22 v d p)
    (hv2 : Value.okWide Try.prog w .any base2 44 v2) (h2 : DataW.Trod enc Try.prog w 0 (fun _ => true) true 44 v2 d2 p2) :
    Calls Try.prog 5 #[v, v2] w fun e w' => e = .returned (.bool true) ∧ Below w.heap.size w w' := by
  obtain ⟨A, c, l, rfl, hr, _⟩ := open_rd_int hv h
  obtain ⟨A2, c2, l2, rfl, hr2, _⟩ := open_rd act15E Try.underlying44 (by kernel_rfl) (Good := fun _ => True) dec_act15 hv2 h2
  exact pacePlays.core A c l A2 c2 l2 w hr hr2
end Go.Proofs.Ytppkbljpendkbaa
