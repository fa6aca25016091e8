/-
  How a span is built of two numbers, and what == says of two spans.
-/
import Derived.Test.YtngljhpplmbglaaSpanE
namespace Go.Proofs.Ytngljhpplmbglaa
open Go.RowKit

@[go_sem] theorem buildSpan (a b : Int) (w : World) : (Instr.build 97 #[(0, .int .i64 a), (1, .int .i64 b)]).run Try.prog w = .ok (.agg #[.int .i64 a, .int .i64 b]) w := run_build w 97 _ _ (by kernel_rfl)
@[go_sem] theorem eqSpan (a b c d : Int) (w : World) : (Op.equalIn 10000 97 (.agg #[.int .i64 a, .int .i64 b]) (.agg #[.int .i64 c, .int .i64 d])).run Try.prog w = .ok (a == c && b == d) w := by
  have hS : Try.prog.underlying 97 = some (.struct (Try.prog.fieldsOf 97)) := by kernel_rfl
  have u3 := Try.underlying3
  have a3 := Try.isAgg3
  have z3 := Try.sizeOf3
  rw [show (10000 : Nat) = 9999 + 1 from rfl, run_equalIn_agg w 9999 97 _ _ hS (by kernel_rfl)]
  simp only [Program.fieldsOf, Try.underlying97]
  go_simp
  by_cases h1 : a = c <;> by_cases h2 : b = d <;> simp [h1, h2]
@[go_sem] theorem eqNilSet (a : Option Addr) (n c : Nat) (w : World) : (binOp .eql 80 (.slice a n c) (.slice none 0 0)).run Try.prog w = .ok (.bool a.isNone) w := Lib.run_eql_slice_nil w 80 97 a n c 0 0 Try.underlying80
end Go.Proofs.Ytngljhpplmbglaa
