/-
  No cell of these rows narrows 'for every input' (looked for: loops, veiled, ifaces, maps, wideKeys, modest, calm, conditions, laid).
  DERIVED. THE GIVEN ROWS OF THIS SEAT. 3 by the template 'for every input the law returns true; each argument reads behind the call as it read before'; 0 by the template 'total and deterministic' (their statements: YtimhjdepngmejaaGreatTotals.lean).
  GIVEN WITH THE SEED: the statements are not yours to turn. If you find one false, say at which input.
  Laid BY PROGRAM, IN A SANDBOX (cutbox-rows.mjs): the forced cells as the released guide's own fill.sh prints them over the translation b7fd02513bff88ed… (all of the seat's roots in one cut). By AI agents, Wed Nov 11 2026. No macro, syntax, notation, axiom, sorry.
-/
import Derived.Test.YtimhjdepngmejaaGreatChecked
import GoSem.Claim
import GoSem.ClaimJoined
import GoSem.ClaimMapViews
import Derived.JoinedTies
import Derived.KernelRfl
namespace Go.Proofs.YtimhjdepngmejaaGreat
/- THE CELL 'sum', in the pinned program and in every row, IS THE sha256 OF THE DUMP (.gsa) THAT YtimhjdepngmejaaGreatProg.lean LOADS. Nothing in Lean hashes anything: it is a label: what it is worth is what the hold of that sum in a sandbox is worth. -/
noncomputable def Tryz.pinned : Pinned := { name := "ytimhjdepngmejaagreat", sum := "b7fd02513bff88eda9b83fb34cb0b727a2314746e18881256b1a0e9d2d302a2d", checked := Tryz.checked }
namespace Rows
def none {H : Type} : Left H := { results := [], args := [] }

/-- 'polliwoglaw16.NodeConfigs': WHATEVER THE INPUT: true; the input reads as it did. -/
def nodeConfigsSpec : ChangeSpec := { name := "nodeConfigs", fn := fun _ => fun
  | [d] => { results := [.lit (.bool true)], args := [d] }
  | _ => none }
def nodeConfigsRow : OpenClaim := { program := "ytimhjdepngmejaagreat", sum := "b7fd02513bff88eda9b83fb34cb0b727a2314746e18881256b1a0e9d2d302a2d", func := "polliwog/polliwoglaw16.NodeConfigs", spec := "nodeConfigs", unfollowed := true, recurses := true, plainKeys := false, apart := false }
def NodeConfigsSaid : Prop := nodeConfigsRow.holds Tryz.pinned (OpenSpec.ofChange nodeConfigsSpec)

/-- ITS FALSE NEIGHBOUR: 'it returns false'. Refute it at one input. -/
def nodeConfigsWrong : ChangeSpec := { name := "nodeConfigs", fn := fun _ => fun
  | [d] => { results := [.lit (.bool false)], args := [d] }
  | _ => none }
def NodeConfigsWrongFalsely : Prop := nodeConfigsRow.holds Tryz.pinned (OpenSpec.ofChange nodeConfigsWrong)

/-- 'polliwoglaw16.NodeUnits': WHATEVER THE INPUT: true; the input reads as it did. -/
def nodeUnitsSpec : ChangeSpec := { name := "nodeUnits", fn := fun _ => fun
  | [d1, d2, d3] => { results := [.lit (.bool true)], args := [d1, d2, d3] }
  | _ => none }
def nodeUnitsRow : OpenClaim := { program := "ytimhjdepngmejaagreat", sum := "b7fd02513bff88eda9b83fb34cb0b727a2314746e18881256b1a0e9d2d302a2d", func := "polliwog/polliwoglaw16.NodeUnits", spec := "nodeUnits", inPlace := ["maps.clone"], unfollowed := true, recurses := true, plainKeys := false, apart := false }
def NodeUnitsSaid : Prop := nodeUnitsRow.holds Tryz.pinned (OpenSpec.ofChange nodeUnitsSpec)

/-- ITS FALSE NEIGHBOUR: 'it returns false'. Refute it at one input. -/
def nodeUnitsWrong : ChangeSpec := { name := "nodeUnits", fn := fun _ => fun
  | [d1, d2, d3] => { results := [.lit (.bool false)], args := [d1, d2, d3] }
  | _ => none }
def NodeUnitsWrongFalsely : Prop := nodeUnitsRow.holds Tryz.pinned (OpenSpec.ofChange nodeUnitsWrong)

/-- 'polliwoglaw16.NodeLeft': WHATEVER THE INPUT: true; the input reads as it did. -/
def nodeLeftSpec : ChangeSpec := { name := "nodeLeft", fn := fun _ => fun
  | [d1, d2, d3] => { results := [.lit (.bool true)], args := [d1, d2, d3] }
  | _ => none }
def nodeLeftRow : OpenClaim := { program := "ytimhjdepngmejaagreat", sum := "b7fd02513bff88eda9b83fb34cb0b727a2314746e18881256b1a0e9d2d302a2d", func := "polliwog/polliwoglaw16.NodeLeft", spec := "nodeLeft", inPlace := ["maps.clone"], unfollowed := true, recurses := true, plainKeys := false, apart := false }
def NodeLeftSaid : Prop := nodeLeftRow.holds Tryz.pinned (OpenSpec.ofChange nodeLeftSpec)

/-- ITS FALSE NEIGHBOUR: 'it returns false'. Refute it at one input. -/
def nodeLeftWrong : ChangeSpec := { name := "nodeLeft", fn := fun _ => fun
  | [d1, d2, d3] => { results := [.lit (.bool false)], args := [d1, d2, d3] }
  | _ => none }
def NodeLeftWrongFalsely : Prop := nodeLeftRow.holds Tryz.pinned (OpenSpec.ofChange nodeLeftWrong)

/- THE SECOND FORM. 'bulk': how many values and letters a reading holds, each counted each time it is reached (what is shared counts as often as it is met; a slice's spare places count too). A statement '..UptoSaid' is the law's where the arguments, and the package variables that the reading takes, are together of bulk at most 1048576: NARROWER than '..Said'. Prove '..Said' where nothing that the law and all that it calls make is longer than what came in: it says more and counts as full. Else prove '..UptoSaid'. A law counts once. -/
mutual
def uptoBulk {H : Type} : DataW H → Nat
  | .lit (.string bytes) => bytes.length + 1
  | .lit _ => 1
  | .nil => 1
  | .ptr d => uptoBulk d + 1
  | .slice elems spare => uptoBulkAll elems + uptoBulkAll spare + 1
  | .agg parts => uptoBulkAll parts + 1
  | .iface _ d => uptoBulk d + 1
  | .map entries => uptoBulkEntries entries + 1
  | .held _ => 1
def uptoBulkAll {H : Type} : List (DataW H) → Nat
  | [] => 0
  | d :: r => uptoBulk d + uptoBulkAll r
def uptoBulkEntries {H : Type} : List (Lit × DataW H) → Nat
  | [] => 0
  | x :: r => uptoBulkEntry x + uptoBulkEntries r
def uptoBulkEntry {H : Type} : Lit × DataW H → Nat
  | (.string bytes, d) => bytes.length + uptoBulk d + 1
  | (_, d) => uptoBulk d + 1
 end
def uptoSmall : (H : Type) → List (DataW H) → Bool := fun _ ds => decide (uptoBulkAll ds ≤ 1048576)
def OpenSpec.upto (s : _root_.Go.ChangeSpec) : _root_.Go.OpenSpec := { _root_.Go.OpenSpec.ofChange s with cond := some uptoSmall }

/-- 'polliwoglaw16.NodeConfigs', WHERE WHAT IT READS IS OF BULK AT MOST 1048576: true; the input reads as it did. -/
def nodeConfigsUptoRow : OpenClaim := { program := "ytimhjdepngmejaagreat", sum := "b7fd02513bff88eda9b83fb34cb0b727a2314746e18881256b1a0e9d2d302a2d", func := "polliwog/polliwoglaw16.NodeConfigs", spec := "nodeConfigs", unfollowed := true, recurses := true, plainKeys := false, apart := false, narrowed := true }
def NodeConfigsUptoSaid : Prop := nodeConfigsUptoRow.holds Tryz.pinned (OpenSpec.upto nodeConfigsSpec)

/-- 'polliwoglaw16.NodeUnits', WHERE WHAT IT READS IS OF BULK AT MOST 1048576: true; the input reads as it did. -/
def nodeUnitsUptoRow : OpenClaim := { program := "ytimhjdepngmejaagreat", sum := "b7fd02513bff88eda9b83fb34cb0b727a2314746e18881256b1a0e9d2d302a2d", func := "polliwog/polliwoglaw16.NodeUnits", spec := "nodeUnits", inPlace := ["maps.clone"], unfollowed := true, recurses := true, plainKeys := false, apart := false, narrowed := true }
def NodeUnitsUptoSaid : Prop := nodeUnitsUptoRow.holds Tryz.pinned (OpenSpec.upto nodeUnitsSpec)

/-- 'polliwoglaw16.NodeLeft', WHERE WHAT IT READS IS OF BULK AT MOST 1048576: true; the input reads as it did. -/
def nodeLeftUptoRow : OpenClaim := { program := "ytimhjdepngmejaagreat", sum := "b7fd02513bff88eda9b83fb34cb0b727a2314746e18881256b1a0e9d2d302a2d", func := "polliwog/polliwoglaw16.NodeLeft", spec := "nodeLeft", inPlace := ["maps.clone"], unfollowed := true, recurses := true, plainKeys := false, apart := false, narrowed := true }
def NodeLeftUptoSaid : Prop := nodeLeftUptoRow.holds Tryz.pinned (OpenSpec.upto nodeLeftSpec)

end Rows
end Go.Proofs.YtimhjdepngmejaaGreat
