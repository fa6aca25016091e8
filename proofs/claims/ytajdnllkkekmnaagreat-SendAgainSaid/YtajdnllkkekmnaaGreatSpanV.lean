/-
  How a span is built of two numbers, and what == says of two spans.
-/
import Derived.Test.YtajdnllkkekmnaaGreatSpanE
namespace Go.Proofs.YtajdnllkkekmnaaGreat
open Go.RowKit

@[go_sem] theorem buildSpan (a b : Int) (w : World) : (Instr.build 111 #[(0, .int .i64 a), (1, .int .i64 b)]).run Tryz.prog w = .ok (.agg #[.int .i64 a, .int .i64 b]) w := run_build w 111 _ _ (by kernel_rfl)
@[go_sem] theorem eqSpan (a b c d : Int) (w : World) : (Op.equalIn 10000 111 (.agg #[.int .i64 a, .int .i64 b]) (.agg #[.int .i64 c, .int .i64 d])).run Tryz.prog w = .ok (a == c && b == d) w := by
  have hS : Tryz.prog.underlying 111 = some (.struct (Tryz.prog.fieldsOf 111)) := by kernel_rfl
  have u3 := Tryz.underlying3
  have a3 := Tryz.isAgg3
  have z3 := Tryz.sizeOf3
  rw [show (10000 : Nat) = 9999 + 1 from rfl, run_equalIn_agg w 9999 111 _ _ hS (by kernel_rfl)]
  simp only [Program.fieldsOf, Tryz.underlying111]
  go_simp
  by_cases h1 : a = c <;> by_cases h2 : b = d <;> simp [h1, h2]
@[go_sem] theorem eqNilSet (a : Option Addr) (n c : Nat) (w : World) : (binOp .eql 84 (.slice a n c) (.slice none 0 0)).run Tryz.prog w = .ok (.bool a.isNone) w := Lib.run_eql_slice_nil w 84 111 a n c 0 0 Tryz.underlying84
end Go.Proofs.YtajdnllkkekmnaaGreat
