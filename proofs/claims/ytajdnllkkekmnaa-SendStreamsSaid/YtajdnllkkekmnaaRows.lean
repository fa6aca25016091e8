/-
  No cell of these rows narrows 'for every input' (looked for: loops, veiled, ifaces, maps, wideKeys, modest, calm, conditions, laid).
  DERIVED. THE GIVEN ROWS OF THIS SEAT. 2 by the template 'for every input the law returns true; each argument reads behind the call as it read before'; 0 by the template 'total and deterministic' (their statements: YtajdnllkkekmnaaTotals.lean).
  GIVEN WITH THE SEED: the statements are not yours to turn. If you find one false, say at which input.
  Laid BY PROGRAM, IN A SANDBOX (cutbox-rows.mjs): the forced cells as the released guide's own fill.sh prints them over the translation d5abfa4e7d584849… (all of the seat's roots in one cut). By AI agents, Wed Nov 11 2026. No macro, syntax, notation, axiom, sorry.
-/
import Derived.Test.YtajdnllkkekmnaaChecked
import GoSem.Claim
import GoSem.ClaimJoined
import GoSem.ClaimMapViews
import Derived.JoinedTies
import Derived.KernelRfl
namespace Go.Proofs.Ytajdnllkkekmnaa
/- THE CELL 'sum', in the pinned program and in every row, IS THE sha256 OF THE DUMP (.gsa) THAT YtajdnllkkekmnaaProg.lean LOADS. Nothing in Lean hashes anything: it is a label: what it is worth is what the hold of that sum in a sandbox is worth. -/
noncomputable def Try.pinned : Pinned := { name := "ytajdnllkkekmnaa", sum := "d5abfa4e7d584849b406f06a88ffb2a809a372cc5a3deec72700ee2ea8242ca2", checked := Try.checked }
namespace Rows
def none {H : Type} : Left H := { results := [], args := [] }

/-- 'polliwoglaw11.SendCredit': WHATEVER THE INPUT: true; the input reads as it did. -/
def sendCreditSpec : ChangeSpec := { name := "sendCredit", fn := fun _ => fun
  | [d1, d2] => { results := [.lit (.bool true)], args := [d1, d2] }
  | _ => none }
def sendCreditRow : OpenClaim := { program := "ytajdnllkkekmnaa", sum := "d5abfa4e7d584849b406f06a88ffb2a809a372cc5a3deec72700ee2ea8242ca2", func := "polliwog/polliwoglaw11.SendCredit", spec := "sendCredit", unfollowed := true, recurses := true, apart := false }
def SendCreditSaid : Prop := sendCreditRow.holds Try.pinned (OpenSpec.ofChange sendCreditSpec)

/-- ITS FALSE NEIGHBOUR: 'it returns false'. Refute it at one input. -/
def sendCreditWrong : ChangeSpec := { name := "sendCredit", fn := fun _ => fun
  | [d1, d2] => { results := [.lit (.bool false)], args := [d1, d2] }
  | _ => none }
def SendCreditWrongFalsely : Prop := sendCreditRow.holds Try.pinned (OpenSpec.ofChange sendCreditWrong)

/-- 'polliwoglaw11.SendStreams': WHATEVER THE INPUT: true; the input reads as it did. -/
def sendStreamsSpec : ChangeSpec := { name := "sendStreams", fn := fun _ => fun
  | [d1, d2, d3] => { results := [.lit (.bool true)], args := [d1, d2, d3] }
  | _ => none }
def sendStreamsRow : OpenClaim := { program := "ytajdnllkkekmnaa", sum := "d5abfa4e7d584849b406f06a88ffb2a809a372cc5a3deec72700ee2ea8242ca2", func := "polliwog/polliwoglaw11.SendStreams", spec := "sendStreams", unfollowed := true, recurses := true, apart := false }
def SendStreamsSaid : Prop := sendStreamsRow.holds Try.pinned (OpenSpec.ofChange sendStreamsSpec)

/-- ITS FALSE NEIGHBOUR: 'it returns false'. Refute it at one input. -/
def sendStreamsWrong : ChangeSpec := { name := "sendStreams", fn := fun _ => fun
  | [d1, d2, d3] => { results := [.lit (.bool false)], args := [d1, d2, d3] }
  | _ => none }
def SendStreamsWrongFalsely : Prop := sendStreamsRow.holds Try.pinned (OpenSpec.ofChange sendStreamsWrong)

/- THE SECOND FORM. 'bulk': how many values and letters a reading holds, each counted each time it is reached (what is shared counts as often as it is met; a slice's spare places count too). A statement '..UptoSaid' is the law's where the arguments, and the package variables that the reading takes, are together of bulk at most 1048576: NARROWER than '..Said'. Prove '..Said' where nothing that the law and all that it calls make is longer than what came in: it says more and counts as full. Else prove '..UptoSaid'. A law counts once. -/
mutual
def uptoBulk {H : Type} : DataW H → Nat
  | .lit (.string bytes) => bytes.length + 1
  | .lit _ => 1
  | .nil => 1
  | .ptr d => uptoBulk d + 1
  | .slice elems spare => uptoBulkAll elems + uptoBulkAll spare + 1
  | .agg parts => uptoBulkAll parts + 1
  | .iface _ d => uptoBulk d + 1
  | .map entries => uptoBulkEntries entries + 1
  | .held _ => 1
def uptoBulkAll {H : Type} : List (DataW H) → Nat
  | [] => 0
  | d :: r => uptoBulk d + uptoBulkAll r
def uptoBulkEntries {H : Type} : List (Lit × DataW H) → Nat
  | [] => 0
  | x :: r => uptoBulkEntry x + uptoBulkEntries r
def uptoBulkEntry {H : Type} : Lit × DataW H → Nat
  | (.string bytes, d) => bytes.length + uptoBulk d + 1
  | (_, d) => uptoBulk d + 1
 end
def uptoSmall : (H : Type) → List (DataW H) → Bool := fun _ ds => decide (uptoBulkAll ds ≤ 1048576)
def OpenSpec.upto (s : _root_.Go.ChangeSpec) : _root_.Go.OpenSpec := { _root_.Go.OpenSpec.ofChange s with cond := some uptoSmall }

/-- 'polliwoglaw11.SendCredit', WHERE WHAT IT READS IS OF BULK AT MOST 1048576: true; the input reads as it did. -/
def sendCreditUptoRow : OpenClaim := { program := "ytajdnllkkekmnaa", sum := "d5abfa4e7d584849b406f06a88ffb2a809a372cc5a3deec72700ee2ea8242ca2", func := "polliwog/polliwoglaw11.SendCredit", spec := "sendCredit", unfollowed := true, recurses := true, apart := false, narrowed := true }
def SendCreditUptoSaid : Prop := sendCreditUptoRow.holds Try.pinned (OpenSpec.upto sendCreditSpec)

/-- 'polliwoglaw11.SendStreams', WHERE WHAT IT READS IS OF BULK AT MOST 1048576: true; the input reads as it did. -/
def sendStreamsUptoRow : OpenClaim := { program := "ytajdnllkkekmnaa", sum := "d5abfa4e7d584849b406f06a88ffb2a809a372cc5a3deec72700ee2ea8242ca2", func := "polliwog/polliwoglaw11.SendStreams", spec := "sendStreams", unfollowed := true, recurses := true, apart := false, narrowed := true }
def SendStreamsUptoSaid : Prop := sendStreamsUptoRow.holds Try.pinned (OpenSpec.upto sendStreamsSpec)

end Rows
end Go.Proofs.Ytajdnllkkekmnaa
