/-
  No cell of these rows narrows 'for every input' (looked for: loops, veiled, ifaces, maps, wideKeys, modest, calm, conditions, laid).
  DERIVED. THE GIVEN ROWS OF THIS SEAT. 4 by the template 'for every input the law returns true; each argument reads behind the call as it read before'; 0 by the template 'total and deterministic' (their statements: YtkmegkjkbalooaaTotals.lean).
  GIVEN WITH THE SEED: the statements are not yours to turn. If you find one false, say at which input.
  Laid BY PROGRAM, IN A SANDBOX (cutbox-rows.mjs): the forced cells as the released guide's own fill.sh prints them over the translation b0a4bbad3b817313… (all of the seat's roots in one cut). By AI agents, Wed Nov 11 2026. No macro, syntax, notation, axiom, sorry.
-/
import Derived.Test.YtkmegkjkbalooaaChecked
import GoSem.Claim
import GoSem.ClaimJoined
import GoSem.ClaimMapViews
import Derived.JoinedTies
import Derived.KernelRfl
namespace Go.Proofs.Ytkmegkjkbalooaa
/- THE CELL 'sum', in the pinned program and in every row, IS THE sha256 OF THE DUMP (.gsa) THAT YtkmegkjkbalooaaProg.lean LOADS. Nothing in Lean hashes anything: it is a label: what it is worth is what the hold of that sum in a sandbox is worth. -/
noncomputable def Try.pinned : Pinned := { name := "ytkmegkjkbalooaa", sum := "b0a4bbad3b817313e061795f69fe87998478277bb0a6b17207366cc7bc69e45d", checked := Try.checked }
namespace Rows
def none {H : Type} : Left H := { results := [], args := [] }

/-- 'polliwoglaw14.ConnTwo': WHATEVER THE INPUT: true; the input reads as it did. -/
def connTwoSpec : ChangeSpec := { name := "connTwo", fn := fun _ => fun
  | [d1, d2] => { results := [.lit (.bool true)], args := [d1, d2] }
  | _ => none }
def connTwoRow : OpenClaim := { program := "ytkmegkjkbalooaa", sum := "b0a4bbad3b817313e061795f69fe87998478277bb0a6b17207366cc7bc69e45d", func := "polliwog/polliwoglaw14.ConnTwo", spec := "connTwo", unfollowed := true, recurses := true, plainKeys := false, apart := false }
def ConnTwoSaid : Prop := connTwoRow.holds Try.pinned (OpenSpec.ofChange connTwoSpec)

/-- ITS FALSE NEIGHBOUR: 'it returns false'. Refute it at one input. -/
def connTwoWrong : ChangeSpec := { name := "connTwo", fn := fun _ => fun
  | [d1, d2] => { results := [.lit (.bool false)], args := [d1, d2] }
  | _ => none }
def ConnTwoWrongFalsely : Prop := connTwoRow.holds Try.pinned (OpenSpec.ofChange connTwoWrong)

/-- 'polliwoglaw14.ConnNumbers': WHATEVER THE INPUT: true; the input reads as it did. -/
def connNumbersSpec : ChangeSpec := { name := "connNumbers", fn := fun _ => fun
  | [d] => { results := [.lit (.bool true)], args := [d] }
  | _ => none }
def connNumbersRow : OpenClaim := { program := "ytkmegkjkbalooaa", sum := "b0a4bbad3b817313e061795f69fe87998478277bb0a6b17207366cc7bc69e45d", func := "polliwog/polliwoglaw14.ConnNumbers", spec := "connNumbers", unfollowed := true, recurses := true, plainKeys := false, apart := false }
def ConnNumbersSaid : Prop := connNumbersRow.holds Try.pinned (OpenSpec.ofChange connNumbersSpec)

/-- ITS FALSE NEIGHBOUR: 'it returns false'. Refute it at one input. -/
def connNumbersWrong : ChangeSpec := { name := "connNumbers", fn := fun _ => fun
  | [d] => { results := [.lit (.bool false)], args := [d] }
  | _ => none }
def ConnNumbersWrongFalsely : Prop := connNumbersRow.holds Try.pinned (OpenSpec.ofChange connNumbersWrong)

/-- 'polliwoglaw14.ConnGives': WHATEVER THE INPUT: true; the input reads as it did. -/
def connGivesSpec : ChangeSpec := { name := "connGives", fn := fun _ => fun
  | [d1, d2, d3] => { results := [.lit (.bool true)], args := [d1, d2, d3] }
  | _ => none }
def connGivesRow : OpenClaim := { program := "ytkmegkjkbalooaa", sum := "b0a4bbad3b817313e061795f69fe87998478277bb0a6b17207366cc7bc69e45d", func := "polliwog/polliwoglaw14.ConnGives", spec := "connGives", unfollowed := true, recurses := true, plainKeys := false, apart := false }
def ConnGivesSaid : Prop := connGivesRow.holds Try.pinned (OpenSpec.ofChange connGivesSpec)

/-- ITS FALSE NEIGHBOUR: 'it returns false'. Refute it at one input. -/
def connGivesWrong : ChangeSpec := { name := "connGives", fn := fun _ => fun
  | [d1, d2, d3] => { results := [.lit (.bool false)], args := [d1, d2, d3] }
  | _ => none }
def ConnGivesWrongFalsely : Prop := connGivesRow.holds Try.pinned (OpenSpec.ofChange connGivesWrong)

/-- 'polliwoglaw14.ConnFails': WHATEVER THE INPUT: true; the input reads as it did. -/
def connFailsSpec : ChangeSpec := { name := "connFails", fn := fun _ => fun
  | [d1, d2] => { results := [.lit (.bool true)], args := [d1, d2] }
  | _ => none }
def connFailsRow : OpenClaim := { program := "ytkmegkjkbalooaa", sum := "b0a4bbad3b817313e061795f69fe87998478277bb0a6b17207366cc7bc69e45d", func := "polliwog/polliwoglaw14.ConnFails", spec := "connFails", unfollowed := true, recurses := true, plainKeys := false, apart := false }
def ConnFailsSaid : Prop := connFailsRow.holds Try.pinned (OpenSpec.ofChange connFailsSpec)

/-- ITS FALSE NEIGHBOUR: 'it returns false'. Refute it at one input. -/
def connFailsWrong : ChangeSpec := { name := "connFails", fn := fun _ => fun
  | [d1, d2] => { results := [.lit (.bool false)], args := [d1, d2] }
  | _ => none }
def ConnFailsWrongFalsely : Prop := connFailsRow.holds Try.pinned (OpenSpec.ofChange connFailsWrong)

/- THE SECOND FORM. 'bulk': how many values and letters a reading holds, each counted each time it is reached (what is shared counts as often as it is met; a slice's spare places count too). A statement '..UptoSaid' is the law's where the arguments, and the package variables that the reading takes, are together of bulk at most 1048576: NARROWER than '..Said'. Prove '..Said' where nothing that the law and all that it calls make is longer than what came in: it says more and counts as full. Else prove '..UptoSaid'. A law counts once. -/
mutual
def uptoBulk {H : Type} : DataW H → Nat
  | .lit (.string bytes) => bytes.length + 1
  | .lit _ => 1
  | .nil => 1
  | .ptr d => uptoBulk d + 1
  | .slice elems spare => uptoBulkAll elems + uptoBulkAll spare + 1
  | .agg parts => uptoBulkAll parts + 1
  | .iface _ d => uptoBulk d + 1
  | .map entries => uptoBulkEntries entries + 1
  | .held _ => 1
def uptoBulkAll {H : Type} : List (DataW H) → Nat
  | [] => 0
  | d :: r => uptoBulk d + uptoBulkAll r
def uptoBulkEntries {H : Type} : List (Lit × DataW H) → Nat
  | [] => 0
  | x :: r => uptoBulkEntry x + uptoBulkEntries r
def uptoBulkEntry {H : Type} : Lit × DataW H → Nat
  | (.string bytes, d) => bytes.length + uptoBulk d + 1
  | (_, d) => uptoBulk d + 1
 end
def uptoSmall : (H : Type) → List (DataW H) → Bool := fun _ ds => decide (uptoBulkAll ds ≤ 1048576)
def OpenSpec.upto (s : _root_.Go.ChangeSpec) : _root_.Go.OpenSpec := { _root_.Go.OpenSpec.ofChange s with cond := some uptoSmall }

/-- 'polliwoglaw14.ConnTwo', WHERE WHAT IT READS IS OF BULK AT MOST 1048576: true; the input reads as it did. -/
def connTwoUptoRow : OpenClaim := { program := "ytkmegkjkbalooaa", sum := "b0a4bbad3b817313e061795f69fe87998478277bb0a6b17207366cc7bc69e45d", func := "polliwog/polliwoglaw14.ConnTwo", spec := "connTwo", unfollowed := true, recurses := true, plainKeys := false, apart := false, narrowed := true }
def ConnTwoUptoSaid : Prop := connTwoUptoRow.holds Try.pinned (OpenSpec.upto connTwoSpec)

/-- 'polliwoglaw14.ConnNumbers', WHERE WHAT IT READS IS OF BULK AT MOST 1048576: true; the input reads as it did. -/
def connNumbersUptoRow : OpenClaim := { program := "ytkmegkjkbalooaa", sum := "b0a4bbad3b817313e061795f69fe87998478277bb0a6b17207366cc7bc69e45d", func := "polliwog/polliwoglaw14.ConnNumbers", spec := "connNumbers", unfollowed := true, recurses := true, plainKeys := false, apart := false, narrowed := true }
def ConnNumbersUptoSaid : Prop := connNumbersUptoRow.holds Try.pinned (OpenSpec.upto connNumbersSpec)

/-- 'polliwoglaw14.ConnGives', WHERE WHAT IT READS IS OF BULK AT MOST 1048576: true; the input reads as it did. -/
def connGivesUptoRow : OpenClaim := { program := "ytkmegkjkbalooaa", sum := "b0a4bbad3b817313e061795f69fe87998478277bb0a6b17207366cc7bc69e45d", func := "polliwog/polliwoglaw14.ConnGives", spec := "connGives", unfollowed := true, recurses := true, plainKeys := false, apart := false, narrowed := true }
def ConnGivesUptoSaid : Prop := connGivesUptoRow.holds Try.pinned (OpenSpec.upto connGivesSpec)

/-- 'polliwoglaw14.ConnFails', WHERE WHAT IT READS IS OF BULK AT MOST 1048576: true; the input reads as it did. -/
def connFailsUptoRow : OpenClaim := { program := "ytkmegkjkbalooaa", sum := "b0a4bbad3b817313e061795f69fe87998478277bb0a6b17207366cc7bc69e45d", func := "polliwog/polliwoglaw14.ConnFails", spec := "connFails", unfollowed := true, recurses := true, plainKeys := false, apart := false, narrowed := true }
def ConnFailsUptoSaid : Prop := connFailsUptoRow.holds Try.pinned (OpenSpec.upto connFailsSpec)

end Rows
end Go.Proofs.Ytkmegkjkbalooaa
