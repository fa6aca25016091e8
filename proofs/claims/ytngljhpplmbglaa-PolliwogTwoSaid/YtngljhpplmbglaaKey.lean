/-
  Maps whose keys are seq.Num.
-/
import Derived.Test.YtngljhpplmbglaaRows
import Derived.Test.YtngljhpplmbglaaMap
namespace Go.Proofs.Ytngljhpplmbglaa
open Go.RowKit

def numK : KT Try.prog Int := KT.int 29 .u32 Try.underlying29
theorem len_map {P : Program} {w : World} {t ty kt e : TypeId} (hu : P.underlying t = some (.map kt e)) {κ : Type} [DecidableEq κ] {K : KT P κ} {b : Nat} {m : MList κ} (h : MapAt K w b m) :
    (Builtin.len_ #[t] ty #[.map (some b)]).run P w = .ok (.int .i64 (m.length : Int)) w := by
  obtain ⟨es, cl, hb, hn⟩ := mlen h
  rw [← hn]
  exact run_len_map w t ty b es cl (by simp [Program.mapKeyOf, Program.mapElemOf, hu]) hb
/-- 'len' of a map, inside a region. -/
theorem step_lenM {P : Program} {w : World} {ops : Array Oper} {o : Oper} {a : Act} {J : Act → World → Prop} {Q : Exit → Act → World → Prop} {F : Prop} (hgd : o.guard = none) {x : Operand} {T kt e : TypeId}
    (ho : o.op = .call { callee := .builtin .len, args := #[x], argTypes := #[T] }) (hT : P.underlying T = some (.map kt e)) {κ : Type} [DecidableEq κ] {K : KT P κ} {b : Nat} {m : MList κ} (ex : a.eval x = .map (some b)) (h : MapAt K w b m) {n : Nat} (hn : m.length = n)
    (hK : J (a.put o.dst (.int .i64 (n : Int))) w) : if Region.wanted o (yielded ops a.tmps) = true then Oper.wp P o a w J Q else F := by
  have hw : Region.wanted o (yielded ops a.tmps) = true := by simp [Region.wanted, hgd]
  rw [if_pos hw]
  subst hn
  have hr := len_map (P := P) (t := T) (ty := o.type) hT h
  unfold Oper.wp execOp
  simp only [ho, resolve, invoke, builtin, Sem.run_bind, Sem.run_pure, Result.andThen_ok, List.map_toArray, List.map_cons, List.map_nil, ex, hr]
  exact hK
end Go.Proofs.Ytngljhpplmbglaa
