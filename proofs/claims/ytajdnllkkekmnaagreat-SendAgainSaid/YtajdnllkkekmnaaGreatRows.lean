/-
  No cell of these rows narrows 'for every input' (looked for: loops, veiled, ifaces, maps, wideKeys, modest, calm, conditions, laid).
  DERIVED. THE GIVEN ROWS OF THIS SEAT. 4 by the template 'for every input the law returns true; each argument reads behind the call as it read before'; 0 by the template 'total and deterministic' (their statements: YtajdnllkkekmnaaGreatTotals.lean).
  GIVEN WITH THE SEED: the statements are not yours to turn. If you find one false, say at which input.
  Laid BY PROGRAM, IN A SANDBOX (cutbox-rows.mjs): the forced cells as the released guide's own fill.sh prints them over the translation f0bbe699df4d6550… (all of the seat's roots in one cut). By AI agents, Wed Nov 11 2026. No macro, syntax, notation, axiom, sorry.
-/
import Derived.Test.YtajdnllkkekmnaaGreatChecked
import GoSem.Claim
import GoSem.ClaimJoined
import GoSem.ClaimMapViews
import Derived.JoinedTies
import Derived.KernelRfl
namespace Go.Proofs.YtajdnllkkekmnaaGreat
/- THE CELL 'sum', in the pinned program and in every row, IS THE sha256 OF THE DUMP (.gsa) THAT YtajdnllkkekmnaaGreatProg.lean LOADS. Nothing in Lean hashes anything: it is a label: what it is worth is what the hold of that sum in a sandbox is worth. -/
noncomputable def Tryz.pinned : Pinned := { name := "ytajdnllkkekmnaagreat", sum := "f0bbe699df4d6550d73aebe417676382b58452f4c86f452550254ff9b90e7d69", checked := Tryz.checked }
namespace Rows
def none {H : Type} : Left H := { results := [], args := [] }

/-- 'polliwoglaw11.SendPlays': WHATEVER THE INPUT: true; the input reads as it did. -/
def sendPlaysSpec : ChangeSpec := { name := "sendPlays", fn := fun _ => fun
  | [d1, d2, d3] => { results := [.lit (.bool true)], args := [d1, d2, d3] }
  | _ => none }
def sendPlaysRow : OpenClaim := { program := "ytajdnllkkekmnaagreat", sum := "f0bbe699df4d6550d73aebe417676382b58452f4c86f452550254ff9b90e7d69", func := "polliwog/polliwoglaw11.SendPlays", spec := "sendPlays", inPlace := ["maps.clone"], unfollowed := true, recurses := true, apart := false }
def SendPlaysSaid : Prop := sendPlaysRow.holds Tryz.pinned (OpenSpec.ofChange sendPlaysSpec)

/-- ITS FALSE NEIGHBOUR: 'it returns false'. Refute it at one input. -/
def sendPlaysWrong : ChangeSpec := { name := "sendPlays", fn := fun _ => fun
  | [d1, d2, d3] => { results := [.lit (.bool false)], args := [d1, d2, d3] }
  | _ => none }
def SendPlaysWrongFalsely : Prop := sendPlaysRow.holds Tryz.pinned (OpenSpec.ofChange sendPlaysWrong)

/-- 'polliwoglaw11.SendBounds': WHATEVER THE INPUT: true; the input reads as it did. -/
def sendBoundsSpec : ChangeSpec := { name := "sendBounds", fn := fun _ => fun
  | [d1, d2] => { results := [.lit (.bool true)], args := [d1, d2] }
  | _ => none }
def sendBoundsRow : OpenClaim := { program := "ytajdnllkkekmnaagreat", sum := "f0bbe699df4d6550d73aebe417676382b58452f4c86f452550254ff9b90e7d69", func := "polliwog/polliwoglaw11.SendBounds", spec := "sendBounds", inPlace := ["maps.clone"], unfollowed := true, recurses := true, apart := false }
def SendBoundsSaid : Prop := sendBoundsRow.holds Tryz.pinned (OpenSpec.ofChange sendBoundsSpec)

/-- ITS FALSE NEIGHBOUR: 'it returns false'. Refute it at one input. -/
def sendBoundsWrong : ChangeSpec := { name := "sendBounds", fn := fun _ => fun
  | [d1, d2] => { results := [.lit (.bool false)], args := [d1, d2] }
  | _ => none }
def SendBoundsWrongFalsely : Prop := sendBoundsRow.holds Tryz.pinned (OpenSpec.ofChange sendBoundsWrong)

/-- 'polliwoglaw11.SendTells': WHATEVER THE INPUT: true; the input reads as it did. -/
def sendTellsSpec : ChangeSpec := { name := "sendTells", fn := fun _ => fun
  | [d1, d2, d3] => { results := [.lit (.bool true)], args := [d1, d2, d3] }
  | _ => none }
def sendTellsRow : OpenClaim := { program := "ytajdnllkkekmnaagreat", sum := "f0bbe699df4d6550d73aebe417676382b58452f4c86f452550254ff9b90e7d69", func := "polliwog/polliwoglaw11.SendTells", spec := "sendTells", inPlace := ["maps.clone"], unfollowed := true, recurses := true, apart := false }
def SendTellsSaid : Prop := sendTellsRow.holds Tryz.pinned (OpenSpec.ofChange sendTellsSpec)

/-- ITS FALSE NEIGHBOUR: 'it returns false'. Refute it at one input. -/
def sendTellsWrong : ChangeSpec := { name := "sendTells", fn := fun _ => fun
  | [d1, d2, d3] => { results := [.lit (.bool false)], args := [d1, d2, d3] }
  | _ => none }
def SendTellsWrongFalsely : Prop := sendTellsRow.holds Tryz.pinned (OpenSpec.ofChange sendTellsWrong)

/-- 'polliwoglaw11.SendAgain': WHATEVER THE INPUT: true; the input reads as it did. -/
def sendAgainSpec : ChangeSpec := { name := "sendAgain", fn := fun _ => fun
  | [d1, d2] => { results := [.lit (.bool true)], args := [d1, d2] }
  | _ => none }
def sendAgainRow : OpenClaim := { program := "ytajdnllkkekmnaagreat", sum := "f0bbe699df4d6550d73aebe417676382b58452f4c86f452550254ff9b90e7d69", func := "polliwog/polliwoglaw11.SendAgain", spec := "sendAgain", inPlace := ["maps.clone"], unfollowed := true, recurses := true, apart := false }
def SendAgainSaid : Prop := sendAgainRow.holds Tryz.pinned (OpenSpec.ofChange sendAgainSpec)

/-- ITS FALSE NEIGHBOUR: 'it returns false'. Refute it at one input. -/
def sendAgainWrong : ChangeSpec := { name := "sendAgain", fn := fun _ => fun
  | [d1, d2] => { results := [.lit (.bool false)], args := [d1, d2] }
  | _ => none }
def SendAgainWrongFalsely : Prop := sendAgainRow.holds Tryz.pinned (OpenSpec.ofChange sendAgainWrong)

/- THE SECOND FORM. 'bulk': how many values and letters a reading holds, each counted each time it is reached (what is shared counts as often as it is met; a slice's spare places count too). A statement '..UptoSaid' is the law's where the arguments, and the package variables that the reading takes, are together of bulk at most 1048576: NARROWER than '..Said'. Prove '..Said' where nothing that the law and all that it calls make is longer than what came in: it says more and counts as full. Else prove '..UptoSaid'. A law counts once. -/
mutual
def uptoBulk {H : Type} : DataW H → Nat
  | .lit (.string bytes) => bytes.length + 1
  | .lit _ => 1
  | .nil => 1
  | .ptr d => uptoBulk d + 1
  | .slice elems spare => uptoBulkAll elems + uptoBulkAll spare + 1
  | .agg parts => uptoBulkAll parts + 1
  | .iface _ d => uptoBulk d + 1
  | .map entries => uptoBulkEntries entries + 1
  | .held _ => 1
def uptoBulkAll {H : Type} : List (DataW H) → Nat
  | [] => 0
  | d :: r => uptoBulk d + uptoBulkAll r
def uptoBulkEntries {H : Type} : List (Lit × DataW H) → Nat
  | [] => 0
  | x :: r => uptoBulkEntry x + uptoBulkEntries r
def uptoBulkEntry {H : Type} : Lit × DataW H → Nat
  | (.string bytes, d) => bytes.length + uptoBulk d + 1
  | (_, d) => uptoBulk d + 1
 end
def uptoSmall : (H : Type) → List (DataW H) → Bool := fun _ ds => decide (uptoBulkAll ds ≤ 1048576)
def OpenSpec.upto (s : _root_.Go.ChangeSpec) : _root_.Go.OpenSpec := { _root_.Go.OpenSpec.ofChange s with cond := some uptoSmall }

/-- 'polliwoglaw11.SendPlays', WHERE WHAT IT READS IS OF BULK AT MOST 1048576: true; the input reads as it did. -/
def sendPlaysUptoRow : OpenClaim := { program := "ytajdnllkkekmnaagreat", sum := "f0bbe699df4d6550d73aebe417676382b58452f4c86f452550254ff9b90e7d69", func := "polliwog/polliwoglaw11.SendPlays", spec := "sendPlays", inPlace := ["maps.clone"], unfollowed := true, recurses := true, apart := false, narrowed := true }
def SendPlaysUptoSaid : Prop := sendPlaysUptoRow.holds Tryz.pinned (OpenSpec.upto sendPlaysSpec)

/-- 'polliwoglaw11.SendBounds', WHERE WHAT IT READS IS OF BULK AT MOST 1048576: true; the input reads as it did. -/
def sendBoundsUptoRow : OpenClaim := { program := "ytajdnllkkekmnaagreat", sum := "f0bbe699df4d6550d73aebe417676382b58452f4c86f452550254ff9b90e7d69", func := "polliwog/polliwoglaw11.SendBounds", spec := "sendBounds", inPlace := ["maps.clone"], unfollowed := true, recurses := true, apart := false, narrowed := true }
def SendBoundsUptoSaid : Prop := sendBoundsUptoRow.holds Tryz.pinned (OpenSpec.upto sendBoundsSpec)

/-- 'polliwoglaw11.SendTells', WHERE WHAT IT READS IS OF BULK AT MOST 1048576: true; the input reads as it did. -/
def sendTellsUptoRow : OpenClaim := { program := "ytajdnllkkekmnaagreat", sum := "f0bbe699df4d6550d73aebe417676382b58452f4c86f452550254ff9b90e7d69", func := "polliwog/polliwoglaw11.SendTells", spec := "sendTells", inPlace := ["maps.clone"], unfollowed := true, recurses := true, apart := false, narrowed := true }
def SendTellsUptoSaid : Prop := sendTellsUptoRow.holds Tryz.pinned (OpenSpec.upto sendTellsSpec)

/-- 'polliwoglaw11.SendAgain', WHERE WHAT IT READS IS OF BULK AT MOST 1048576: true; the input reads as it did. -/
def sendAgainUptoRow : OpenClaim := { program := "ytajdnllkkekmnaagreat", sum := "f0bbe699df4d6550d73aebe417676382b58452f4c86f452550254ff9b90e7d69", func := "polliwog/polliwoglaw11.SendAgain", spec := "sendAgain", inPlace := ["maps.clone"], unfollowed := true, recurses := true, apart := false, narrowed := true }
def SendAgainUptoSaid : Prop := sendAgainUptoRow.holds Tryz.pinned (OpenSpec.upto sendAgainSpec)

end Rows
end Go.Proofs.YtajdnllkkekmnaaGreat
