/-
  No cell of these rows narrows 'for every input' (looked for: loops, veiled, ifaces, maps, wideKeys, modest, calm, conditions, laid).
  DERIVED. THE GIVEN ROWS OF THIS SEAT. 3 by the template 'for every input the law returns true; each argument reads behind the call as it read before'; 0 by the template 'total and deterministic' (their statements: YtipaobpmojahaaaGreatTotals.lean).
  GIVEN WITH THE SEED: the statements are not yours to turn. If you find one false, say at which input.
  Laid BY PROGRAM, IN A SANDBOX (cutbox-rows.mjs): the forced cells as the released guide's own fill.sh prints them over the translation 9a8e5875eb78c30b… (all of the seat's roots in one cut). By AI agents, Wed Nov 11 2026. No macro, syntax, notation, axiom, sorry.
-/
import Derived.Test.YtipaobpmojahaaaGreatChecked
import GoSem.Claim
import GoSem.ClaimJoined
import GoSem.ClaimMapViews
import Derived.JoinedTies
import Derived.KernelRfl
namespace Go.Proofs.YtipaobpmojahaaaGreat
/- THE CELL 'sum', in the pinned program and in every row, IS THE sha256 OF THE DUMP (.gsa) THAT YtipaobpmojahaaaGreatProg.lean LOADS. Nothing in Lean hashes anything: it is a label: what it is worth is what the hold of that sum in a sandbox is worth. -/
noncomputable def Tryz.pinned : Pinned := { name := "ytipaobpmojahaaagreat", sum := "9a8e5875eb78c30bf4f3556015015b2855124e3939553781afb6cd218b2244bf", checked := Tryz.checked }
namespace Rows
def none {H : Type} : Left H := { results := [], args := [] }

/-- 'polliwoglaw16.NodeUnits': WHATEVER THE INPUT: true; the input reads as it did. -/
def nodeUnitsSpec : ChangeSpec := { name := "nodeUnits", fn := fun _ => fun
  | [d1, d2, d3] => { results := [.lit (.bool true)], args := [d1, d2, d3] }
  | _ => none }
def nodeUnitsRow : OpenClaim := { program := "ytipaobpmojahaaagreat", sum := "9a8e5875eb78c30bf4f3556015015b2855124e3939553781afb6cd218b2244bf", func := "polliwog/polliwoglaw16.NodeUnits", spec := "nodeUnits", inPlace := ["maps.clone"], unfollowed := true, recurses := true, plainKeys := false, apart := false }
def NodeUnitsSaid : Prop := nodeUnitsRow.holds Tryz.pinned (OpenSpec.ofChange nodeUnitsSpec)

/-- ITS FALSE NEIGHBOUR: 'it returns false'. Refute it at one input. -/
def nodeUnitsWrong : ChangeSpec := { name := "nodeUnits", fn := fun _ => fun
  | [d1, d2, d3] => { results := [.lit (.bool false)], args := [d1, d2, d3] }
  | _ => none }
def NodeUnitsWrongFalsely : Prop := nodeUnitsRow.holds Tryz.pinned (OpenSpec.ofChange nodeUnitsWrong)

/-- 'polliwoglaw16.NodeLeft': WHATEVER THE INPUT: true; the input reads as it did. -/
def nodeLeftSpec : ChangeSpec := { name := "nodeLeft", fn := fun _ => fun
  | [d1, d2, d3] => { results := [.lit (.bool true)], args := [d1, d2, d3] }
  | _ => none }
def nodeLeftRow : OpenClaim := { program := "ytipaobpmojahaaagreat", sum := "9a8e5875eb78c30bf4f3556015015b2855124e3939553781afb6cd218b2244bf", func := "polliwog/polliwoglaw16.NodeLeft", spec := "nodeLeft", inPlace := ["maps.clone"], unfollowed := true, recurses := true, plainKeys := false, apart := false }
def NodeLeftSaid : Prop := nodeLeftRow.holds Tryz.pinned (OpenSpec.ofChange nodeLeftSpec)

/-- ITS FALSE NEIGHBOUR: 'it returns false'. Refute it at one input. -/
def nodeLeftWrong : ChangeSpec := { name := "nodeLeft", fn := fun _ => fun
  | [d1, d2, d3] => { results := [.lit (.bool false)], args := [d1, d2, d3] }
  | _ => none }
def NodeLeftWrongFalsely : Prop := nodeLeftRow.holds Tryz.pinned (OpenSpec.ofChange nodeLeftWrong)

/-- 'polliwogtop.PolliwogAlone': WHATEVER THE INPUT: true; the input reads as it did. -/
def polliwogAloneSpec : ChangeSpec := { name := "polliwogAlone", fn := fun _ => fun
  | [d1, d2, d3] => { results := [.lit (.bool true)], args := [d1, d2, d3] }
  | _ => none }
def polliwogAloneRow : OpenClaim := { program := "ytipaobpmojahaaagreat", sum := "9a8e5875eb78c30bf4f3556015015b2855124e3939553781afb6cd218b2244bf", func := "polliwog/polliwogtop.PolliwogAlone", spec := "polliwogAlone", inPlace := ["maps.clone"], unfollowed := true, recurses := true, plainKeys := false, apart := false }
def PolliwogAloneSaid : Prop := polliwogAloneRow.holds Tryz.pinned (OpenSpec.ofChange polliwogAloneSpec)

/-- ITS FALSE NEIGHBOUR: 'it returns false'. Refute it at one input. -/
def polliwogAloneWrong : ChangeSpec := { name := "polliwogAlone", fn := fun _ => fun
  | [d1, d2, d3] => { results := [.lit (.bool false)], args := [d1, d2, d3] }
  | _ => none }
def PolliwogAloneWrongFalsely : Prop := polliwogAloneRow.holds Tryz.pinned (OpenSpec.ofChange polliwogAloneWrong)

/- THE SECOND FORM. 'bulk': how many values and letters a reading holds, each counted each time it is reached (what is shared counts as often as it is met; a slice's spare places count too). A statement '..UptoSaid' is the law's where the arguments, and the package variables that the reading takes, are together of bulk at most 1048576: NARROWER than '..Said'. Prove '..Said' where nothing that the law and all that it calls make is longer than what came in: it says more and counts as full. Else prove '..UptoSaid'. A law counts once. -/
mutual
def uptoBulk {H : Type} : DataW H → Nat
  | .lit (.string bytes) => bytes.length + 1
  | .lit _ => 1
  | .nil => 1
  | .ptr d => uptoBulk d + 1
  | .slice elems spare => uptoBulkAll elems + uptoBulkAll spare + 1
  | .agg parts => uptoBulkAll parts + 1
  | .iface _ d => uptoBulk d + 1
  | .map entries => uptoBulkEntries entries + 1
  | .held _ => 1
def uptoBulkAll {H : Type} : List (DataW H) → Nat
  | [] => 0
  | d :: r => uptoBulk d + uptoBulkAll r
def uptoBulkEntries {H : Type} : List (Lit × DataW H) → Nat
  | [] => 0
  | x :: r => uptoBulkEntry x + uptoBulkEntries r
def uptoBulkEntry {H : Type} : Lit × DataW H → Nat
  | (.string bytes, d) => bytes.length + uptoBulk d + 1
  | (_, d) => uptoBulk d + 1
 end
def uptoSmall : (H : Type) → List (DataW H) → Bool := fun _ ds => decide (uptoBulkAll ds ≤ 1048576)
def OpenSpec.upto (s : _root_.Go.ChangeSpec) : _root_.Go.OpenSpec := { _root_.Go.OpenSpec.ofChange s with cond := some uptoSmall }

/-- 'polliwoglaw16.NodeUnits', WHERE WHAT IT READS IS OF BULK AT MOST 1048576: true; the input reads as it did. -/
def nodeUnitsUptoRow : OpenClaim := { program := "ytipaobpmojahaaagreat", sum := "9a8e5875eb78c30bf4f3556015015b2855124e3939553781afb6cd218b2244bf", func := "polliwog/polliwoglaw16.NodeUnits", spec := "nodeUnits", inPlace := ["maps.clone"], unfollowed := true, recurses := true, plainKeys := false, apart := false, narrowed := true }
def NodeUnitsUptoSaid : Prop := nodeUnitsUptoRow.holds Tryz.pinned (OpenSpec.upto nodeUnitsSpec)

/-- 'polliwoglaw16.NodeLeft', WHERE WHAT IT READS IS OF BULK AT MOST 1048576: true; the input reads as it did. -/
def nodeLeftUptoRow : OpenClaim := { program := "ytipaobpmojahaaagreat", sum := "9a8e5875eb78c30bf4f3556015015b2855124e3939553781afb6cd218b2244bf", func := "polliwog/polliwoglaw16.NodeLeft", spec := "nodeLeft", inPlace := ["maps.clone"], unfollowed := true, recurses := true, plainKeys := false, apart := false, narrowed := true }
def NodeLeftUptoSaid : Prop := nodeLeftUptoRow.holds Tryz.pinned (OpenSpec.upto nodeLeftSpec)

/-- 'polliwogtop.PolliwogAlone', WHERE WHAT IT READS IS OF BULK AT MOST 1048576: true; the input reads as it did. -/
def polliwogAloneUptoRow : OpenClaim := { program := "ytipaobpmojahaaagreat", sum := "9a8e5875eb78c30bf4f3556015015b2855124e3939553781afb6cd218b2244bf", func := "polliwog/polliwogtop.PolliwogAlone", spec := "polliwogAlone", inPlace := ["maps.clone"], unfollowed := true, recurses := true, plainKeys := false, apart := false, narrowed := true }
def PolliwogAloneUptoSaid : Prop := polliwogAloneUptoRow.holds Tryz.pinned (OpenSpec.upto polliwogAloneSpec)

end Rows
end Go.Proofs.YtipaobpmojahaaaGreat
