/-
  No cell of these rows narrows 'for every input' (looked for: loops, veiled, ifaces, maps, wideKeys, modest, calm, conditions, laid).
  DERIVED. THE GIVEN ROWS OF THIS SEAT. 8 by the template 'for every input the law returns true; each argument reads behind the call as it read before'; 0 by the template 'total and deterministic' (their statements: YtmhhjfajhlefcaaTotals.lean).
  GIVEN WITH THE SEED: the statements are not yours to turn. If you find one false, say at which input.
  Laid BY PROGRAM, IN A SANDBOX (cutbox-rows.mjs): the forced cells as the released guide's own fill.sh prints them over the translation 3e037e3280d2e4c1… (all of the seat's roots in one cut). By AI agents, Wed Nov 11 2026. No macro, syntax, notation, axiom, sorry.
-/
import Derived.Test.YtmhhjfajhlefcaaChecked
import GoSem.Claim
import GoSem.ClaimJoined
import GoSem.ClaimMapViews
import Derived.JoinedTies
import Derived.KernelRfl
namespace Go.Proofs.Ytmhhjfajhlefcaa
/- THE CELL 'sum', in the pinned program and in every row, IS THE sha256 OF THE DUMP (.gsa) THAT YtmhhjfajhlefcaaProg.lean LOADS. Nothing in Lean hashes anything: it is a label: what it is worth is what the hold of that sum in a sandbox is worth. -/
noncomputable def Try.pinned : Pinned := { name := "ytmhhjfajhlefcaa", sum := "3e037e3280d2e4c1d53b42eef3dcb7fad6551bdaa517373edc333f36c79ff580", checked := Try.checked }
namespace Rows
def none {H : Type} : Left H := { results := [], args := [] }

/-- 'polliwoglaw08.TimerAlone': WHATEVER THE INPUT: true; the input reads as it did. -/
def timerAloneSpec : ChangeSpec := { name := "timerAlone", fn := fun _ => fun
  | [d1, d2, d3] => { results := [.lit (.bool true)], args := [d1, d2, d3] }
  | _ => none }
def timerAloneRow : OpenClaim := { program := "ytmhhjfajhlefcaa", sum := "3e037e3280d2e4c1d53b42eef3dcb7fad6551bdaa517373edc333f36c79ff580", func := "polliwog/polliwoglaw08.TimerAlone", spec := "timerAlone", plainKeys := false, apart := false }
def TimerAloneSaid : Prop := timerAloneRow.holds Try.pinned (OpenSpec.ofChange timerAloneSpec)

/-- ITS FALSE NEIGHBOUR: 'it returns false'. Refute it at one input. -/
def timerAloneWrong : ChangeSpec := { name := "timerAlone", fn := fun _ => fun
  | [d1, d2, d3] => { results := [.lit (.bool false)], args := [d1, d2, d3] }
  | _ => none }
def TimerAloneWrongFalsely : Prop := timerAloneRow.holds Try.pinned (OpenSpec.ofChange timerAloneWrong)

/-- 'polliwoglaw08.TimerNext': WHATEVER THE INPUT: true; the input reads as it did. -/
def timerNextSpec : ChangeSpec := { name := "timerNext", fn := fun _ => fun
  | [d] => { results := [.lit (.bool true)], args := [d] }
  | _ => none }
def timerNextRow : OpenClaim := { program := "ytmhhjfajhlefcaa", sum := "3e037e3280d2e4c1d53b42eef3dcb7fad6551bdaa517373edc333f36c79ff580", func := "polliwog/polliwoglaw08.TimerNext", spec := "timerNext", plainKeys := false, apart := false }
def TimerNextSaid : Prop := timerNextRow.holds Try.pinned (OpenSpec.ofChange timerNextSpec)

/-- ITS FALSE NEIGHBOUR: 'it returns false'. Refute it at one input. -/
def timerNextWrong : ChangeSpec := { name := "timerNext", fn := fun _ => fun
  | [d] => { results := [.lit (.bool false)], args := [d] }
  | _ => none }
def TimerNextWrongFalsely : Prop := timerNextRow.holds Try.pinned (OpenSpec.ofChange timerNextWrong)

/-- 'polliwoglaw08.TimerPlays': WHATEVER THE INPUT: true; the input reads as it did. -/
def timerPlaysSpec : ChangeSpec := { name := "timerPlays", fn := fun _ => fun
  | [d] => { results := [.lit (.bool true)], args := [d] }
  | _ => none }
def timerPlaysRow : OpenClaim := { program := "ytmhhjfajhlefcaa", sum := "3e037e3280d2e4c1d53b42eef3dcb7fad6551bdaa517373edc333f36c79ff580", func := "polliwog/polliwoglaw08.TimerPlays", spec := "timerPlays", plainKeys := false, apart := false }
def TimerPlaysSaid : Prop := timerPlaysRow.holds Try.pinned (OpenSpec.ofChange timerPlaysSpec)

/-- ITS FALSE NEIGHBOUR: 'it returns false'. Refute it at one input. -/
def timerPlaysWrong : ChangeSpec := { name := "timerPlays", fn := fun _ => fun
  | [d] => { results := [.lit (.bool false)], args := [d] }
  | _ => none }
def TimerPlaysWrongFalsely : Prop := timerPlaysRow.holds Try.pinned (OpenSpec.ofChange timerPlaysWrong)

/-- 'polliwoglaw13.RulesOf': WHATEVER THE INPUT: true; the input reads as it did. -/
def rulesOfSpec : ChangeSpec := { name := "rulesOf", fn := fun _ => fun
  | [d1, d2] => { results := [.lit (.bool true)], args := [d1, d2] }
  | _ => none }
def rulesOfRow : OpenClaim := { program := "ytmhhjfajhlefcaa", sum := "3e037e3280d2e4c1d53b42eef3dcb7fad6551bdaa517373edc333f36c79ff580", func := "polliwog/polliwoglaw13.RulesOf", spec := "rulesOf", plainKeys := false, apart := false }
def RulesOfSaid : Prop := rulesOfRow.holds Try.pinned (OpenSpec.ofChange rulesOfSpec)

/-- ITS FALSE NEIGHBOUR: 'it returns false'. Refute it at one input. -/
def rulesOfWrong : ChangeSpec := { name := "rulesOf", fn := fun _ => fun
  | [d1, d2] => { results := [.lit (.bool false)], args := [d1, d2] }
  | _ => none }
def RulesOfWrongFalsely : Prop := rulesOfRow.holds Try.pinned (OpenSpec.ofChange rulesOfWrong)

/-- 'polliwoglaw13.RulesMay': WHATEVER THE INPUT: true; the input reads as it did. -/
def rulesMaySpec : ChangeSpec := { name := "rulesMay", fn := fun _ => fun
  | [d1, d2] => { results := [.lit (.bool true)], args := [d1, d2] }
  | _ => none }
def rulesMayRow : OpenClaim := { program := "ytmhhjfajhlefcaa", sum := "3e037e3280d2e4c1d53b42eef3dcb7fad6551bdaa517373edc333f36c79ff580", func := "polliwog/polliwoglaw13.RulesMay", spec := "rulesMay", plainKeys := false, apart := false }
def RulesMaySaid : Prop := rulesMayRow.holds Try.pinned (OpenSpec.ofChange rulesMaySpec)

/-- ITS FALSE NEIGHBOUR: 'it returns false'. Refute it at one input. -/
def rulesMayWrong : ChangeSpec := { name := "rulesMay", fn := fun _ => fun
  | [d1, d2] => { results := [.lit (.bool false)], args := [d1, d2] }
  | _ => none }
def RulesMayWrongFalsely : Prop := rulesMayRow.holds Try.pinned (OpenSpec.ofChange rulesMayWrong)

/-- 'polliwoglaw13.RulesCovered': WHATEVER THE INPUT: true; the input reads as it did. -/
def rulesCoveredSpec : ChangeSpec := { name := "rulesCovered", fn := fun _ => fun
  | [d] => { results := [.lit (.bool true)], args := [d] }
  | _ => none }
def rulesCoveredRow : OpenClaim := { program := "ytmhhjfajhlefcaa", sum := "3e037e3280d2e4c1d53b42eef3dcb7fad6551bdaa517373edc333f36c79ff580", func := "polliwog/polliwoglaw13.RulesCovered", spec := "rulesCovered", plainKeys := false, apart := false }
def RulesCoveredSaid : Prop := rulesCoveredRow.holds Try.pinned (OpenSpec.ofChange rulesCoveredSpec)

/-- ITS FALSE NEIGHBOUR: 'it returns false'. Refute it at one input. -/
def rulesCoveredWrong : ChangeSpec := { name := "rulesCovered", fn := fun _ => fun
  | [d] => { results := [.lit (.bool false)], args := [d] }
  | _ => none }
def RulesCoveredWrongFalsely : Prop := rulesCoveredRow.holds Try.pinned (OpenSpec.ofChange rulesCoveredWrong)

/-- 'polliwoglaw13.RulesEnds': WHATEVER THE INPUT: true; the input reads as it did. -/
def rulesEndsSpec : ChangeSpec := { name := "rulesEnds", fn := fun _ => fun
  | [d] => { results := [.lit (.bool true)], args := [d] }
  | _ => none }
def rulesEndsRow : OpenClaim := { program := "ytmhhjfajhlefcaa", sum := "3e037e3280d2e4c1d53b42eef3dcb7fad6551bdaa517373edc333f36c79ff580", func := "polliwog/polliwoglaw13.RulesEnds", spec := "rulesEnds", plainKeys := false, apart := false }
def RulesEndsSaid : Prop := rulesEndsRow.holds Try.pinned (OpenSpec.ofChange rulesEndsSpec)

/-- ITS FALSE NEIGHBOUR: 'it returns false'. Refute it at one input. -/
def rulesEndsWrong : ChangeSpec := { name := "rulesEnds", fn := fun _ => fun
  | [d] => { results := [.lit (.bool false)], args := [d] }
  | _ => none }
def RulesEndsWrongFalsely : Prop := rulesEndsRow.holds Try.pinned (OpenSpec.ofChange rulesEndsWrong)

/-- 'polliwoglaw13.RulesRequests': WHATEVER THE INPUT: true; the input reads as it did. -/
def rulesRequestsSpec : ChangeSpec := { name := "rulesRequests", fn := fun _ => fun
  | [d] => { results := [.lit (.bool true)], args := [d] }
  | _ => none }
def rulesRequestsRow : OpenClaim := { program := "ytmhhjfajhlefcaa", sum := "3e037e3280d2e4c1d53b42eef3dcb7fad6551bdaa517373edc333f36c79ff580", func := "polliwog/polliwoglaw13.RulesRequests", spec := "rulesRequests", plainKeys := false, apart := false }
def RulesRequestsSaid : Prop := rulesRequestsRow.holds Try.pinned (OpenSpec.ofChange rulesRequestsSpec)

/-- ITS FALSE NEIGHBOUR: 'it returns false'. Refute it at one input. -/
def rulesRequestsWrong : ChangeSpec := { name := "rulesRequests", fn := fun _ => fun
  | [d] => { results := [.lit (.bool false)], args := [d] }
  | _ => none }
def RulesRequestsWrongFalsely : Prop := rulesRequestsRow.holds Try.pinned (OpenSpec.ofChange rulesRequestsWrong)

/- THE SECOND FORM. 'bulk': how many values and letters a reading holds, each counted each time it is reached (what is shared counts as often as it is met; a slice's spare places count too). A statement '..UptoSaid' is the law's where the arguments, and the package variables that the reading takes, are together of bulk at most 1048576: NARROWER than '..Said'. Prove '..Said' where nothing that the law and all that it calls make is longer than what came in: it says more and counts as full. Else prove '..UptoSaid'. A law counts once. -/
mutual
def uptoBulk {H : Type} : DataW H → Nat
  | .lit (.string bytes) => bytes.length + 1
  | .lit _ => 1
  | .nil => 1
  | .ptr d => uptoBulk d + 1
  | .slice elems spare => uptoBulkAll elems + uptoBulkAll spare + 1
  | .agg parts => uptoBulkAll parts + 1
  | .iface _ d => uptoBulk d + 1
  | .map entries => uptoBulkEntries entries + 1
  | .held _ => 1
def uptoBulkAll {H : Type} : List (DataW H) → Nat
  | [] => 0
  | d :: r => uptoBulk d + uptoBulkAll r
def uptoBulkEntries {H : Type} : List (Lit × DataW H) → Nat
  | [] => 0
  | x :: r => uptoBulkEntry x + uptoBulkEntries r
def uptoBulkEntry {H : Type} : Lit × DataW H → Nat
  | (.string bytes, d) => bytes.length + uptoBulk d + 1
  | (_, d) => uptoBulk d + 1
 end
def uptoSmall : (H : Type) → List (DataW H) → Bool := fun _ ds => decide (uptoBulkAll ds ≤ 1048576)
def OpenSpec.upto (s : _root_.Go.ChangeSpec) : _root_.Go.OpenSpec := { _root_.Go.OpenSpec.ofChange s with cond := some uptoSmall }

/-- 'polliwoglaw08.TimerAlone', WHERE WHAT IT READS IS OF BULK AT MOST 1048576: true; the input reads as it did. -/
def timerAloneUptoRow : OpenClaim := { program := "ytmhhjfajhlefcaa", sum := "3e037e3280d2e4c1d53b42eef3dcb7fad6551bdaa517373edc333f36c79ff580", func := "polliwog/polliwoglaw08.TimerAlone", spec := "timerAlone", plainKeys := false, apart := false, narrowed := true }
def TimerAloneUptoSaid : Prop := timerAloneUptoRow.holds Try.pinned (OpenSpec.upto timerAloneSpec)

/-- 'polliwoglaw08.TimerNext', WHERE WHAT IT READS IS OF BULK AT MOST 1048576: true; the input reads as it did. -/
def timerNextUptoRow : OpenClaim := { program := "ytmhhjfajhlefcaa", sum := "3e037e3280d2e4c1d53b42eef3dcb7fad6551bdaa517373edc333f36c79ff580", func := "polliwog/polliwoglaw08.TimerNext", spec := "timerNext", plainKeys := false, apart := false, narrowed := true }
def TimerNextUptoSaid : Prop := timerNextUptoRow.holds Try.pinned (OpenSpec.upto timerNextSpec)

/-- 'polliwoglaw08.TimerPlays', WHERE WHAT IT READS IS OF BULK AT MOST 1048576: true; the input reads as it did. -/
def timerPlaysUptoRow : OpenClaim := { program := "ytmhhjfajhlefcaa", sum := "3e037e3280d2e4c1d53b42eef3dcb7fad6551bdaa517373edc333f36c79ff580", func := "polliwog/polliwoglaw08.TimerPlays", spec := "timerPlays", plainKeys := false, apart := false, narrowed := true }
def TimerPlaysUptoSaid : Prop := timerPlaysUptoRow.holds Try.pinned (OpenSpec.upto timerPlaysSpec)

/-- 'polliwoglaw13.RulesOf', WHERE WHAT IT READS IS OF BULK AT MOST 1048576: true; the input reads as it did. -/
def rulesOfUptoRow : OpenClaim := { program := "ytmhhjfajhlefcaa", sum := "3e037e3280d2e4c1d53b42eef3dcb7fad6551bdaa517373edc333f36c79ff580", func := "polliwog/polliwoglaw13.RulesOf", spec := "rulesOf", plainKeys := false, apart := false, narrowed := true }
def RulesOfUptoSaid : Prop := rulesOfUptoRow.holds Try.pinned (OpenSpec.upto rulesOfSpec)

/-- 'polliwoglaw13.RulesMay', WHERE WHAT IT READS IS OF BULK AT MOST 1048576: true; the input reads as it did. -/
def rulesMayUptoRow : OpenClaim := { program := "ytmhhjfajhlefcaa", sum := "3e037e3280d2e4c1d53b42eef3dcb7fad6551bdaa517373edc333f36c79ff580", func := "polliwog/polliwoglaw13.RulesMay", spec := "rulesMay", plainKeys := false, apart := false, narrowed := true }
def RulesMayUptoSaid : Prop := rulesMayUptoRow.holds Try.pinned (OpenSpec.upto rulesMaySpec)

/-- 'polliwoglaw13.RulesCovered', WHERE WHAT IT READS IS OF BULK AT MOST 1048576: true; the input reads as it did. -/
def rulesCoveredUptoRow : OpenClaim := { program := "ytmhhjfajhlefcaa", sum := "3e037e3280d2e4c1d53b42eef3dcb7fad6551bdaa517373edc333f36c79ff580", func := "polliwog/polliwoglaw13.RulesCovered", spec := "rulesCovered", plainKeys := false, apart := false, narrowed := true }
def RulesCoveredUptoSaid : Prop := rulesCoveredUptoRow.holds Try.pinned (OpenSpec.upto rulesCoveredSpec)

/-- 'polliwoglaw13.RulesEnds', WHERE WHAT IT READS IS OF BULK AT MOST 1048576: true; the input reads as it did. -/
def rulesEndsUptoRow : OpenClaim := { program := "ytmhhjfajhlefcaa", sum := "3e037e3280d2e4c1d53b42eef3dcb7fad6551bdaa517373edc333f36c79ff580", func := "polliwog/polliwoglaw13.RulesEnds", spec := "rulesEnds", plainKeys := false, apart := false, narrowed := true }
def RulesEndsUptoSaid : Prop := rulesEndsUptoRow.holds Try.pinned (OpenSpec.upto rulesEndsSpec)

/-- 'polliwoglaw13.RulesRequests', WHERE WHAT IT READS IS OF BULK AT MOST 1048576: true; the input reads as it did. -/
def rulesRequestsUptoRow : OpenClaim := { program := "ytmhhjfajhlefcaa", sum := "3e037e3280d2e4c1d53b42eef3dcb7fad6551bdaa517373edc333f36c79ff580", func := "polliwog/polliwoglaw13.RulesRequests", spec := "rulesRequests", plainKeys := false, apart := false, narrowed := true }
def RulesRequestsUptoSaid : Prop := rulesRequestsUptoRow.holds Try.pinned (OpenSpec.upto rulesRequestsSpec)

end Rows
end Go.Proofs.Ytmhhjfajhlefcaa
