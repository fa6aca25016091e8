/-
  gaps.Named: the numbers that a status names · gaps.Named, ref09.Named: the numbers that a status names · recv.Recv: New, Vars, Poll, renew; seq.Between, seq.Max.
-/
import Derived.Test.YtipaobpmojahaaaGreatRef13b
import Derived.Test.YtipaobpmojahaaaGreatRows
import Derived.Test.YtipaobpmojahaaaGreatEvD
import Derived.Test.YtipaobpmojahaaaGreatRow2
import Derived.Deep.DeepCutAuto
import Derived.Deep.QuietTactic
import Derived.BigQuiet
import Derived.Test.YtipaobpmojahaaaGreatRcvZ
import Derived.RegionTactic
import Derived.ChangeAlike
import Derived.StillTailTactics
import Derived.Deep.CutBlock
import Derived.Test.YtipaobpmojahaaaGreatQTail
set_option maxHeartbeats 1000000
namespace Go.Proofs.YtipaobpmojahaaaGreat
open Go.RowKit

theorem zeroInt_NmW (w : World) : (zeroValue 3).run Tryz.prog w = .ok (.int .i64 0) w := by kernel_rfl

def pduV_Nm9 (kind sq n ps mr : Int) (A : Option Addr) (len c : Nat) (self : Bool) (data : ByteArray) : Value :=
 .agg #[.int .i64 kind, .int .i64 sq, .int .u32 n, .int .u32 ps, .int .u32 mr, .slice A len c, .bool self, .string data]

end Go.Proofs.YtipaobpmojahaaaGreat
