/-
  polliwoglaw14: awake; a result in its box.
-/
import Derived.Test.YtimhjdepngmejaaGreatCnJ
import Derived.Test.YtimhjdepngmejaaGreatCnI
import Derived.Outline
namespace Go.Proofs.YtimhjdepngmejaaGreat
open Go.RowKit Go.Shelf

/-- A result, part by part. -/
theorem ConnPost.ex {w w' : World} {c : Nat} {y : Cn.SR} {v : Value} {s' : Cn.S} {sg : List Cn.Sig} {us : List Cn.Pd} {b e : Bool} {ms t : Int} {n1 n2 : Nat} (h : ConnPost w c y v w') (hy : y = (s', ⟨sg, us, b, e, ms, t⟩)) (h1 : sg.length = n1) (h2 : us.length = n2) :
    ∃ A1 c1 A2 c2, v = .agg #[.slice A1 n1 c1, .slice A2 n2 c2, .bool b, .bool e, .int .u32 ms, .int .i64 t] ∧ ConnAt w' c s' ∧ Cn.Ok s' ∧ Sl sigE w' A1 c1 sg ∧ Sl pduE w' A2 c2 us ∧ (∀ ad, A1 = some ad → w.heap.size ≤ ad.block) ∧ (∀ ad, A2 = some ad → w.heap.size ≤ ad.block) ∧ Touch (· = c) w w' := by
  subst hy h1 h2
  obtain ⟨A1, c1, A2, c2, e, s1, s2, b1, b2⟩ := h.res
  exact ⟨A1, c1, A2, c2, e, h.conn, h.ok, s1, s2, b1, b2, h.touch⟩

/-- A unit in its place. -/
theorem Sl.pdu_at {w : World} {A : Option Addr} {c : Nat} {l : List Cn.Pd} (h : Sl pduE w A c l) (k : Nat) (hk : k < l.length) : ∃ g o, A = some ⟨g, o, none⟩ ∧ g < w.heap.size ∧ ∀ f u, (pduE.enc l[k])[f]? = some u → w.cell? ⟨g, o + (k * 8 + f), none⟩ = some u := h.at_ k hk
theorem Sl.sig_at {w : World} {A : Option Addr} {c : Nat} {l : List Cn.Sig} (h : Sl sigE w A c l) (k : Nat) (hk : k < l.length) : ∃ g o, A = some ⟨g, o, none⟩ ∧ g < w.heap.size ∧ ∀ f u, (sigE.enc l[k])[f]? = some u → w.cell? ⟨g, o + (k * 5 + f), none⟩ = some u := h.at_ k hk

namespace Cn
theorem w1 : askErr (new 3 8) 1 no = 0 := by decide +kernel
theorem w2 : askS (new 3 8) 1 no = (⟨3, 8, 2, 1, -1, 1, 8, no⟩, ⟨[], [⟨1, 1, 8, 0, 0, none, 0, 0, false, no⟩], false, false, 0, 1⟩) := by unfold askS; rw [w1]; rfl
theorem w3 : hearS ⟨3, 8, 2, 1, -1, 1, 8, no⟩ ⟨2, 1, 5, 0, 0, none, 0, 0, false, no⟩ = (⟨3, 8, 10, 1, -1, 1, 5, no⟩, ⟨[⟨2, no, false, 0, 0⟩], [], true, false, 5, 2⟩) := by
  unfold hearS
  rw [show Ru.of_ (⟨3, 8, 2, 1, -1, 1, 8, no⟩ : S).state (⟨2, 1, 5, 0, 0, none, 0, 0, false, no⟩ : Pd).kind = 1 from by decide +kernel]
  rfl
end Cn


theorem field_state (a b c d e : Int) (W : World) : (Instr.field 74 (.agg #[.int .i64 a, .int .i64 b, .int .i64 c, .int .i64 d, .int .u32 e]) 0).run Tryz.prog W = .ok (.int .i64 a) W := by kernel_rfl
theorem field_sq (a b c d e : Int) (W : World) : (Instr.field 74 (.agg #[.int .i64 a, .int .i64 b, .int .i64 c, .int .i64 d, .int .u32 e]) 1).run Tryz.prog W = .ok (.int .i64 b) W := by kernel_rfl

end Go.Proofs.YtimhjdepngmejaaGreat
