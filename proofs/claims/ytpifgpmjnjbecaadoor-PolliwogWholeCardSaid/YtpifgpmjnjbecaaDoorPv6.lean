/-
  A unit as a value.
-/
import Derived.Test.YtpifgpmjnjbecaaDoorChk6
namespace Go.Proofs.YtpifgpmjnjbecaaDoor
open Go.RowKit

def pV (p : Wh.P) (A : Option Addr) (c : Nat) : Value := .agg #[.int .i64 p.kind, .int .i64 p.sq, .int .u32 p.n, .int .u32 p.ps, .int .u32 p.mr, .slice A p.l.length c, .bool p.self, .string p.data]
end Go.Proofs.YtpifgpmjnjbecaaDoor
