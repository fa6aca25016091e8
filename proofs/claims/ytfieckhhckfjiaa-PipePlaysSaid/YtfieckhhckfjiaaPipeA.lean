/-
  polliwoglaw17: the fixed fact; PipeSpoils: bits that are turned twice alike come as they were; of none none comes.
-/
import Derived.Test.YtfieckhhckfjiaaFlipP
namespace Go.Proofs.Ytfieckhhckfjiaa
open Go.RowKit

set_option maxRecDepth 10000 in
set_option maxHeartbeats 2000000 in
theorem awake17_any (w : World) : Calls Try.prog 30 #[] w fun e w' => e = .returned (.bool true) ∧ Fresh w w' := by
  go_enter Try.func30, Try.ntmps30
  go_wp2_with fail
  refine (pipe_new 2 2 rfl w w (Touch.refl _ w)).mono ?_
  rintro e w1 ⟨gp, rfl, h1⟩
  have H1 := Lib.hid h1
  clear h1
  go_wp2_with fail
  refine (pipe_put ⟨#[97]⟩ H1.out (by decide)).mono ?_
  rintro e w2 ⟨rfl, h2⟩
  have H2 : Hid (PlSt w w2 gp 2 [⟨#[97]⟩] 1 0 0 none 0 []) := h2
  clear h2 H1
  go_wp2_with fail
  refine (pipe_put ⟨#[98]⟩ H2.out (by decide)).mono ?_
  rintro e w3 ⟨rfl, h3⟩
  have H3 : Hid (PlSt w w3 gp 2 [⟨#[97]⟩, ⟨#[98]⟩] 2 0 0 none 0 []) := h3
  clear h3 H2
  go_wp2_with fail
  refine (pipe_put ⟨#[99]⟩ H3.out (by decide)).mono ?_
  rintro e w4 ⟨rfl, h4⟩
  have H4 : Hid (PlSt w w4 gp 2 [⟨#[97]⟩, ⟨#[98]⟩] 2 0 0 none 0 []) := h4
  clear h4 H3
  go_wp2_with fail
  refine (pipe_take_lose ⟨#[97]⟩ 0 0 H4.out (by decide)).mono ?_
  rintro e w5 ⟨rfl, h5⟩
  have H5 := Lib.hid h5
  clear h5 H4
  go_wp2_with fail
  refine (pipe_take_carry ⟨#[98]⟩ 0 0 0 H5.out (by decide) (by decide) (by decide)).mono ?_
  rintro e w6 ⟨rfl, h6⟩
  have H6 := Lib.hid h6
  obtain ⟨gr, b, h⟩ := h6
  have c0 : w6.cell? ⟨gp, 0, none⟩ = some (.pointer (some ⟨gr, 0, none⟩)) := h.pipe.blk.cell 0
  have HR := Lib.hid h.pipe.ring
  clear h H5
  go_wp2_with fail
  refine (ringStr_room gr b 2 [] w6 HR.out).mono ?_
  rintro e w7 ⟨rfl, n7, rfl⟩
  go_wp2
  go_ret
  exact ⟨rfl, H6.out.fresh.drewN _⟩

set_option maxRecDepth 100000 in
set_option maxHeartbeats 4000000 in
theorem pipeSpoils.core (s : ByteArray) (at_ mask : Int) (w : World) (hs : s.size ≤ maxLen) (m0 : 0 ≤ mask) (m1 : mask ≤ 4294967295) :
    Calls Try.prog 7 #[.string s, .int .i64 at_, .int .u32 mask] w fun e w' => e = .returned (.bool true) ∧ Below w.heap.size w w' := by
  obtain ⟨x, hx⟩ : ∃ x : Int, x = max (-40) (min at_ 400) := ⟨_, rfl⟩
  have hx0 : -1000 ≤ x := by omega
  have hx1 : x ≤ 1000 := by omega
  have HX := Lib.hid hx
  clear hx
  go_enter Try.func7, Try.ntmps7
  go_wp2_with fail
  refine (awake17_any _).mono ?_
  rintro e w1 ⟨rfl, t1⟩
  go_wp2_with fail
  refine (cut_any s 60 w1 hs (by decide)).mono ?_
  rintro e w2 ⟨rfl, rfl⟩
  have hc := cutB_size s 60
  generalize cutB s 60 = u at *
  clear hs
  go_wp2_with fail
  refine (near_any 2 at_ mask x _ HX.out).mono ?_
  rintro e w3 ⟨rfl, t3⟩
  go_wp2_with fail
  have HB := Lib.hid (Blk.new w3 58 [.int .i64 2, .int .i64 x, .int .u32 mask])
  have FW : Hid (Fresh w (w3.alloc (.cells #[.int .i64 2, .int .i64 x, .int .u32 mask] 58))) := (t1.trans t3 (fun _ _ h => h)).alloc _
  obtain ⟨wb, hwb⟩ : ∃ wb, wb = w3.alloc (.cells #[.int .i64 2, .int .i64 x, .int .u32 mask] 58) := ⟨_, rfl⟩
  have HB : Hid (Blk wb w3.heap.size 58 [.int .i64 2, .int .i64 x, .int .u32 mask]) := by rw [hwb]; exact HB
  rw [← hwb] at FW ⊢
  generalize w3.heap.size = gc at *
  clear hwb t1 t3
  refine (pipe_new 1 1 rfl wb wb (Touch.refl _ wb)).mono ?_
  rintro e w4 ⟨gp, rfl, h4⟩
  have H4 := Lib.hid h4
  clear h4
  go_wp2_with fail
  refine (pipe_put u H4.out (by decide)).mono ?_
  rintro e w5 ⟨rfl, h5⟩
  have H : Hid (PlSt wb w5 gp 1 [u] 1 0 0 none 0 []) := h5
  clear h5 H4
  have x0 : w5.cell? ⟨gc, 0, none⟩ = some (.int .i64 2) := (H.out.fresh.blk HB.out (fun h => h)).cell 0
  have x1 : w5.cell? ⟨gc, 1, none⟩ = some (.int .i64 x) := (H.out.fresh.blk HB.out (fun h => h)).cell 1
  have x2 : w5.cell? ⟨gc, 2, none⟩ = some (.int .u32 mask) := (H.out.fresh.blk HB.out (fun h => h)).cell 2
  have H5 := H
  clear H
  go_wp2_with fail
  refine (pipe_take_spoil u x mask H5.out (by decide) (by decide) (by omega) hx0 hx1 m0 m1).mono ?_
  rintro e w6 ⟨rfl, h6⟩
  have HT : Hid (flipS mask x (flipS mask x u) = u) := flipS_twice mask x u
  have hsz := flipS_size mask x u
  generalize hv : flipS mask x u = v at *
  have HV := Lib.hid hv
  clear hv H5 x0 x1 x2
  by_cases huv : v = u
  · subst huv
    rw [if_pos rfl, if_pos rfl] at h6
    have H6 := Lib.hid h6
    clear h6
    go_wp2_with fail
    refine (pipe_put v H6.out (by decide)).mono ?_
    rintro e w7 ⟨rfl, h7⟩
    have H : Hid (PlSt wb w7 gp 1 [v] 2 1 0 none 0 []) := h7
    clear h7 H6
    have x0 : w7.cell? ⟨gc, 0, none⟩ = some (.int .i64 2) := (H.out.fresh.blk HB.out (fun h => h)).cell 0
    have x1 : w7.cell? ⟨gc, 1, none⟩ = some (.int .i64 x) := (H.out.fresh.blk HB.out (fun h => h)).cell 1
    have x2 : w7.cell? ⟨gc, 2, none⟩ = some (.int .u32 mask) := (H.out.fresh.blk HB.out (fun h => h)).cell 2
    have H7 := H
    clear H
    go_wp2_with fail
    refine (pipe_take_spoil v x mask H7.out (by decide) (by decide) (by omega) hx0 hx1 m0 m1).mono ?_
    rintro e w8 ⟨rfl, h8⟩
    rw [HT.out] at h8 ⊢
    rw [if_pos rfl, if_pos rfl] at h8
    have H : Hid (PlSt wb w8 gp 1 [] 2 2 0 none 0 []) := h8
    clear h8 H7 x0 x1 x2
    have x0 : w8.cell? ⟨gc, 0, none⟩ = some (.int .i64 2) := (H.out.fresh.blk HB.out (fun h => h)).cell 0
    have x1 : w8.cell? ⟨gc, 1, none⟩ = some (.int .i64 x) := (H.out.fresh.blk HB.out (fun h => h)).cell 1
    have x2 : w8.cell? ⟨gc, 2, none⟩ = some (.int .u32 mask) := (H.out.fresh.blk HB.out (fun h => h)).cell 2
    have H8 := H
    clear H
    go_wp2_with fail
    refine (pipe_take_none 2 x mask H8.out).mono ?_
    rintro e w9 ⟨rfl, h9⟩
    have H9 := Lib.hid h9
    clear h9 H8
    go_wp2_with fail
    refine (pipe_counts H9.out).mono ?_
    rintro e w10 ⟨rfl, n10, rfl⟩
    go_wp2
    go_ret
    exact ⟨rfl, ((FW.out.trans H9.out.fresh (fun _ _ h => h)).drewN _).below (Nat.le_refl _) (fun _ _ h => h)⟩
  · rw [if_neg huv, if_neg huv] at h6
    have H6 := Lib.hid h6
    clear h6
    have hne : (v.toList == u.toList) = false := str_ne huv
    have HN := Lib.hid huv
    clear huv
    go_wp2_with fail
    refine (pipe_put v H6.out (by decide)).mono ?_
    rintro e w7 ⟨rfl, h7⟩
    have H : Hid (PlSt wb w7 gp 1 [v] 2 0 1 none 0 []) := h7
    clear h7 H6
    have x0 : w7.cell? ⟨gc, 0, none⟩ = some (.int .i64 2) := (H.out.fresh.blk HB.out (fun h => h)).cell 0
    have x1 : w7.cell? ⟨gc, 1, none⟩ = some (.int .i64 x) := (H.out.fresh.blk HB.out (fun h => h)).cell 1
    have x2 : w7.cell? ⟨gc, 2, none⟩ = some (.int .u32 mask) := (H.out.fresh.blk HB.out (fun h => h)).cell 2
    have H7 := H
    clear H
    go_wp2_with fail
    refine (pipe_take_spoil v x mask H7.out (by decide) (by decide) (by omega) hx0 hx1 m0 m1).mono ?_
    rintro e w8 ⟨rfl, h8⟩
    rw [HT.out] at h8 ⊢
    rw [if_neg (fun e => HN.out e.symm), if_neg (fun e => HN.out e.symm)] at h8
    have H : Hid (PlSt wb w8 gp 1 [] 2 0 2 none 0 []) := h8
    clear h8 H7 x0 x1 x2
    have x0 : w8.cell? ⟨gc, 0, none⟩ = some (.int .i64 2) := (H.out.fresh.blk HB.out (fun h => h)).cell 0
    have x1 : w8.cell? ⟨gc, 1, none⟩ = some (.int .i64 x) := (H.out.fresh.blk HB.out (fun h => h)).cell 1
    have x2 : w8.cell? ⟨gc, 2, none⟩ = some (.int .u32 mask) := (H.out.fresh.blk HB.out (fun h => h)).cell 2
    have H8 := H
    clear H
    go_wp2_with fail
    refine (pipe_take_none 2 x mask H8.out).mono ?_
    rintro e w9 ⟨rfl, h9⟩
    have H9 := Lib.hid h9
    clear h9 H8
    go_wp2_with fail
    refine (pipe_counts H9.out).mono ?_
    rintro e w10 ⟨rfl, n10, rfl⟩
    go_wp2
    go_ret
    exact ⟨rfl, ((FW.out.trans H9.out.fresh (fun _ _ h => h)).drewN _).below (Nat.le_refl _) (fun _ _ h => h)⟩

theorem pipeSpoils.walk (s : ByteArray) (a1 a2 : Int) (w : World) (hs : s.size ≤ maxLen) (_h1 : (Lit.int .i64 a1).wf = true) (h2 : (Lit.int .u32 a2).wf = true) :
    Calls Try.prog 7 #[.string s, .int .i64 a1, .int .u32 a2] w fun e w' => e = .returned (.bool true) ∧ Below w.heap.size w w' := by
  have hb : 0 ≤ a2 ∧ a2 ≤ 4294967295 := by
    have e : (Lit.int .u32 a2).wf = (decide (0 ≤ a2) && decide (a2 ≤ 4294967295)) := rfl
    rw [e] at h2
    simpa using h2
  exact pipeSpoils.core s a1 a2 w hs hb.1 hb.2
end Go.Proofs.Ytfieckhhckfjiaa
