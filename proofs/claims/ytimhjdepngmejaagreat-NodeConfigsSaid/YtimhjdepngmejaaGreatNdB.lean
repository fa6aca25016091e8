/-
  node.Node: an end without an epoch: ready, credit, what a connection's first unit brings. No conditions.
-/
import Derived.Test.YtimhjdepngmejaaGreatNdT
import Derived.RegionTactic
import Derived.StillTailTactics
import Derived.Deep.DeepCutAuto
import Derived.Deep.RegionLaw
import Derived.Deep.RegionHeld3
namespace Go.Proofs.YtimhjdepngmejaaGreat
open Go.RowKit
set_option maxRecDepth 20000

theorem pidx0 (f : Value) (w : World) :
    Calls Tryz.prog 222 #[.slice none 0 0, f] w fun e w' => e = .returned (.int .i64 (-1)) ∧ w' = w := by
  go_enter Tryz.func222, Tryz.ntmps222
  go_wp2_with fail
  go_loopw [8] (fun i wr => i = .int .i64 0 ∧ wr = w) (fun _ _ => 0)
  case atStart => exact ⟨rfl, rfl⟩
  case round =>
    obtain ⟨rfl, rfl⟩ := hrel
    go_wp2
    go_ret
    exact ⟨rfl, rfl⟩
theorem pdel0 (f : Value) (w : World) :
    Calls Tryz.prog 145 #[.slice none 0 0, f] w fun e w' => e = .returned (.slice none 0 0) ∧ w' = w := by
  go_enter Tryz.func145, Tryz.ntmps145
  go_wp2_with fail
  refine (pidx0 f w).mono ?_
  rintro e w1 ⟨rfl, h1⟩
  have h1 := h1.symm
  subst h1
  simp only
  go_wp2
  go_ret
  exact ⟨rfl, rfl⟩

section
variable {w : World} {n cn pc un : Nat} {bu : Option Nat} {A B : Option Addr} {ca cl : Nat} {st : Nd.S}
theorem nready0 (h : NodeIn w n cn pc un bu A ca B cl st) :
    Calls Tryz.prog 45 #[.pointer (some ⟨n, 0, none⟩)] w fun e w' => e = .returned (.bool false) ∧ w' = w := by
  have c13 : w.cell? ⟨n, 13, none⟩ = some (.pointer none) := h.blk.cell 13
  clear h
  go_enter Tryz.func45, Tryz.ntmps45
  go_wp2
  go_ret
  exact ⟨rfl, rfl⟩
/-- Credit isn't lacking, and wasn't. -/
theorem ncredit0 (h : NodeIn w n cn pc un bu A ca B cl st) (hl : st.lacks = false) (Al : Option Addr) (nl cc : Nat) :
    Calls Tryz.prog 41 #[.pointer (some ⟨n, 0, none⟩), .slice Al nl cc] w fun e w' => e = .returned (.slice Al nl cc) ∧ NodeIn w' n cn pc un bu A ca B cl st ∧ Touch (· = n) w w' := by
  have c20 : w.cell? ⟨n, 20, none⟩ = some (.bool false) := by
    have := h.blk.cell 20
    rw [show (st.cells cn pc un A ca B cl)[20]? = some (.bool st.lacks) from rfl, hl] at this
    exact this
  have f20 := h.blk.frozen 20
  have HRD := Lib.hid (nready0 h)
  have HX : Hid (NodeIn (w.setCell ⟨n, 20, none⟩ (.bool false)) n cn pc un bu A ca B cl st) := by
    have hb := h.blk.set 20 (.bool false)
    have e : (st.cells cn pc un A ca B cl).set 20 (.bool false) = st.cells cn pc un A ca B cl := by
      show (st.cells cn pc un A ca B cl).set 20 (.bool false) = _
      unfold Nd.S.cells
      rw [hl]
      rfl
    rw [e] at hb
    exact ⟨hb, h.conn.far (h.conn.ne_ h.blk (by decide)) _, h.cok, ⟨h.pace.1, h.pace.2.1, h.pace.2.2.far (h.pace.2.2.ne_ h.blk (by decide)) _⟩, h.units.touch (Touch.set1 w n 20 _) (fun e => by obtain ⟨A', c', a', buf, b1, _⟩ := h.units; exact b1.ne_ h.blk (by decide) e) (fun k hk e => by obtain ⟨A', c', a', buf, b1, b2, b3, _⟩ := h.units; subst b3; cases A' with | none => cases hk | some ad => exact b2.blk_ne h.blk (by decide) ad rfl (by injection hk with hk; exact hk.trans e)), h.ctl.setCell (p := ⟨n, 20, none⟩) (h.ctl.blk_ne h.blk (by decide)) _, h.left.setCell (p := ⟨n, 20, none⟩) (h.left.blk_ne h.blk (by decide)) _, h.ap⟩
  have HT : Hid (Touch (· = n) w (w.setCell ⟨n, 20, none⟩ (.bool false))) := Touch.set1 w n 20 _
  have d20 : (w.setCell ⟨n, 20, none⟩ (.bool false)).cell? ⟨n, 20, none⟩ = some (.bool false) := by
    have := HX.out.blk.cell 20
    rw [show (st.cells cn pc un A ca B cl)[20]? = some (.bool st.lacks) from rfl, hl] at this
    exact this
  clear h
  go_enter Tryz.func41, Tryz.ntmps41
  go_wp2_with fail
  refine HRD.out.mono ?_
  rintro e w1 ⟨rfl, h1⟩
  have h1 := h1.symm
  subst h1
  simp only
  go_wp2
  go_ret
  exact ⟨rfl, HX.out, HT.out⟩
end
end Go.Proofs.YtimhjdepngmejaaGreat
