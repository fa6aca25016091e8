/-
  No cell of these rows narrows 'for every input' (looked for: loops, veiled, ifaces, maps, wideKeys, modest, calm, conditions, laid).
  DERIVED. THE GIVEN ROWS OF THIS SEAT. 7 by the template 'for every input the law returns true; each argument reads behind the call as it read before'; 0 by the template 'total and deterministic' (their statements: YtpjmgdoekeknjaaTotals.lean).
  GIVEN WITH THE SEED: the statements are not yours to turn. If you find one false, say at which input.
  Laid BY PROGRAM, IN A SANDBOX (cutbox-rows.mjs): the forced cells as the released guide's own fill.sh prints them over the translation 227702b09722dc85… (all of the seat's roots in one cut). By AI agents, Wed Nov 11 2026. No macro, syntax, notation, axiom, sorry.
-/
import Derived.Test.YtpjmgdoekeknjaaChecked
import GoSem.Claim
import GoSem.ClaimJoined
import GoSem.ClaimMapViews
import Derived.JoinedTies
import Derived.KernelRfl
namespace Go.Proofs.Ytpjmgdoekeknjaa
/- THE CELL 'sum', in the pinned program and in every row, IS THE sha256 OF THE DUMP (.gsa) THAT YtpjmgdoekeknjaaProg.lean LOADS. Nothing in Lean hashes anything: it is a label: what it is worth is what the hold of that sum in a sandbox is worth. -/
noncomputable def Try.pinned : Pinned := { name := "ytpjmgdoekeknjaa", sum := "227702b09722dc85074062305cb5e171a6ca663ef5e4abc6ee7b3ab8769be542", checked := Try.checked }
namespace Rows
def none {H : Type} : Left H := { results := [], args := [] }

/-- 'polliwoglaw12.RecvGaps': WHATEVER THE INPUT: true; the input reads as it did. -/
def recvGapsSpec : ChangeSpec := { name := "recvGaps", fn := fun _ => fun
  | [d1, d2] => { results := [.lit (.bool true)], args := [d1, d2] }
  | _ => none }
def recvGapsRow : OpenClaim := { program := "ytpjmgdoekeknjaa", sum := "227702b09722dc85074062305cb5e171a6ca663ef5e4abc6ee7b3ab8769be542", func := "polliwog/polliwoglaw12.RecvGaps", spec := "recvGaps", unfollowed := true, recurses := true, apart := false }
def RecvGapsSaid : Prop := recvGapsRow.holds Try.pinned (OpenSpec.ofChange recvGapsSpec)

/-- ITS FALSE NEIGHBOUR: 'it returns false'. Refute it at one input. -/
def recvGapsWrong : ChangeSpec := { name := "recvGaps", fn := fun _ => fun
  | [d1, d2] => { results := [.lit (.bool false)], args := [d1, d2] }
  | _ => none }
def RecvGapsWrongFalsely : Prop := recvGapsRow.holds Try.pinned (OpenSpec.ofChange recvGapsWrong)

/-- 'polliwoglaw12.RecvAnyOrder': WHATEVER THE INPUT: true; the input reads as it did. -/
def recvAnyOrderSpec : ChangeSpec := { name := "recvAnyOrder", fn := fun _ => fun
  | [d1, d2, d3] => { results := [.lit (.bool true)], args := [d1, d2, d3] }
  | _ => none }
def recvAnyOrderRow : OpenClaim := { program := "ytpjmgdoekeknjaa", sum := "227702b09722dc85074062305cb5e171a6ca663ef5e4abc6ee7b3ab8769be542", func := "polliwog/polliwoglaw12.RecvAnyOrder", spec := "recvAnyOrder", unfollowed := true, recurses := true, apart := false }
def RecvAnyOrderSaid : Prop := recvAnyOrderRow.holds Try.pinned (OpenSpec.ofChange recvAnyOrderSpec)

/-- ITS FALSE NEIGHBOUR: 'it returns false'. Refute it at one input. -/
def recvAnyOrderWrong : ChangeSpec := { name := "recvAnyOrder", fn := fun _ => fun
  | [d1, d2, d3] => { results := [.lit (.bool false)], args := [d1, d2, d3] }
  | _ => none }
def RecvAnyOrderWrongFalsely : Prop := recvAnyOrderRow.holds Try.pinned (OpenSpec.ofChange recvAnyOrderWrong)

/-- 'polliwoglaw12.RecvCredit': WHATEVER THE INPUT: true; the input reads as it did. -/
def recvCreditSpec : ChangeSpec := { name := "recvCredit", fn := fun _ => fun
  | [d1, d2, d3] => { results := [.lit (.bool true)], args := [d1, d2, d3] }
  | _ => none }
def recvCreditRow : OpenClaim := { program := "ytpjmgdoekeknjaa", sum := "227702b09722dc85074062305cb5e171a6ca663ef5e4abc6ee7b3ab8769be542", func := "polliwog/polliwoglaw12.RecvCredit", spec := "recvCredit", unfollowed := true, recurses := true, apart := false }
def RecvCreditSaid : Prop := recvCreditRow.holds Try.pinned (OpenSpec.ofChange recvCreditSpec)

/-- ITS FALSE NEIGHBOUR: 'it returns false'. Refute it at one input. -/
def recvCreditWrong : ChangeSpec := { name := "recvCredit", fn := fun _ => fun
  | [d1, d2, d3] => { results := [.lit (.bool false)], args := [d1, d2, d3] }
  | _ => none }
def RecvCreditWrongFalsely : Prop := recvCreditRow.holds Try.pinned (OpenSpec.ofChange recvCreditWrong)

/-- 'polliwoglaw12.RecvPlays': WHATEVER THE INPUT: true; the input reads as it did. -/
def recvPlaysSpec : ChangeSpec := { name := "recvPlays", fn := fun _ => fun
  | [d1, d2, d3] => { results := [.lit (.bool true)], args := [d1, d2, d3] }
  | _ => none }
def recvPlaysRow : OpenClaim := { program := "ytpjmgdoekeknjaa", sum := "227702b09722dc85074062305cb5e171a6ca663ef5e4abc6ee7b3ab8769be542", func := "polliwog/polliwoglaw12.RecvPlays", spec := "recvPlays", inPlace := ["maps.clone"], unfollowed := true, recurses := true, apart := false }
def RecvPlaysSaid : Prop := recvPlaysRow.holds Try.pinned (OpenSpec.ofChange recvPlaysSpec)

/-- ITS FALSE NEIGHBOUR: 'it returns false'. Refute it at one input. -/
def recvPlaysWrong : ChangeSpec := { name := "recvPlays", fn := fun _ => fun
  | [d1, d2, d3] => { results := [.lit (.bool false)], args := [d1, d2, d3] }
  | _ => none }
def RecvPlaysWrongFalsely : Prop := recvPlaysRow.holds Try.pinned (OpenSpec.ofChange recvPlaysWrong)

/-- 'polliwoglaw12.RecvBounds': WHATEVER THE INPUT: true; the input reads as it did. -/
def recvBoundsSpec : ChangeSpec := { name := "recvBounds", fn := fun _ => fun
  | [d1, d2, d3] => { results := [.lit (.bool true)], args := [d1, d2, d3] }
  | _ => none }
def recvBoundsRow : OpenClaim := { program := "ytpjmgdoekeknjaa", sum := "227702b09722dc85074062305cb5e171a6ca663ef5e4abc6ee7b3ab8769be542", func := "polliwog/polliwoglaw12.RecvBounds", spec := "recvBounds", inPlace := ["maps.clone"], unfollowed := true, recurses := true, apart := false }
def RecvBoundsSaid : Prop := recvBoundsRow.holds Try.pinned (OpenSpec.ofChange recvBoundsSpec)

/-- ITS FALSE NEIGHBOUR: 'it returns false'. Refute it at one input. -/
def recvBoundsWrong : ChangeSpec := { name := "recvBounds", fn := fun _ => fun
  | [d1, d2, d3] => { results := [.lit (.bool false)], args := [d1, d2, d3] }
  | _ => none }
def RecvBoundsWrongFalsely : Prop := recvBoundsRow.holds Try.pinned (OpenSpec.ofChange recvBoundsWrong)

/-- 'polliwoglaw12.RecvOrder': WHATEVER THE INPUT: true; the input reads as it did. -/
def recvOrderSpec : ChangeSpec := { name := "recvOrder", fn := fun _ => fun
  | [d1, d2, d3] => { results := [.lit (.bool true)], args := [d1, d2, d3] }
  | _ => none }
def recvOrderRow : OpenClaim := { program := "ytpjmgdoekeknjaa", sum := "227702b09722dc85074062305cb5e171a6ca663ef5e4abc6ee7b3ab8769be542", func := "polliwog/polliwoglaw12.RecvOrder", spec := "recvOrder", inPlace := ["maps.clone"], unfollowed := true, recurses := true, apart := false }
def RecvOrderSaid : Prop := recvOrderRow.holds Try.pinned (OpenSpec.ofChange recvOrderSpec)

/-- ITS FALSE NEIGHBOUR: 'it returns false'. Refute it at one input. -/
def recvOrderWrong : ChangeSpec := { name := "recvOrder", fn := fun _ => fun
  | [d1, d2, d3] => { results := [.lit (.bool false)], args := [d1, d2, d3] }
  | _ => none }
def RecvOrderWrongFalsely : Prop := recvOrderRow.holds Try.pinned (OpenSpec.ofChange recvOrderWrong)

/-- 'polliwoglaw12.RecvNames': WHATEVER THE INPUT: true; the input reads as it did. -/
def recvNamesSpec : ChangeSpec := { name := "recvNames", fn := fun _ => fun
  | [d1, d2] => { results := [.lit (.bool true)], args := [d1, d2] }
  | _ => none }
def recvNamesRow : OpenClaim := { program := "ytpjmgdoekeknjaa", sum := "227702b09722dc85074062305cb5e171a6ca663ef5e4abc6ee7b3ab8769be542", func := "polliwog/polliwoglaw12.RecvNames", spec := "recvNames", inPlace := ["maps.clone"], unfollowed := true, recurses := true, apart := false }
def RecvNamesSaid : Prop := recvNamesRow.holds Try.pinned (OpenSpec.ofChange recvNamesSpec)

/-- ITS FALSE NEIGHBOUR: 'it returns false'. Refute it at one input. -/
def recvNamesWrong : ChangeSpec := { name := "recvNames", fn := fun _ => fun
  | [d1, d2] => { results := [.lit (.bool false)], args := [d1, d2] }
  | _ => none }
def RecvNamesWrongFalsely : Prop := recvNamesRow.holds Try.pinned (OpenSpec.ofChange recvNamesWrong)

/- THE SECOND FORM. 'bulk': how many values and letters a reading holds, each counted each time it is reached (what is shared counts as often as it is met; a slice's spare places count too). A statement '..UptoSaid' is the law's where the arguments, and the package variables that the reading takes, are together of bulk at most 1048576: NARROWER than '..Said'. Prove '..Said' where nothing that the law and all that it calls make is longer than what came in: it says more and counts as full. Else prove '..UptoSaid'. A law counts once. -/
mutual
def uptoBulk {H : Type} : DataW H → Nat
  | .lit (.string bytes) => bytes.length + 1
  | .lit _ => 1
  | .nil => 1
  | .ptr d => uptoBulk d + 1
  | .slice elems spare => uptoBulkAll elems + uptoBulkAll spare + 1
  | .agg parts => uptoBulkAll parts + 1
  | .iface _ d => uptoBulk d + 1
  | .map entries => uptoBulkEntries entries + 1
  | .held _ => 1
def uptoBulkAll {H : Type} : List (DataW H) → Nat
  | [] => 0
  | d :: r => uptoBulk d + uptoBulkAll r
def uptoBulkEntries {H : Type} : List (Lit × DataW H) → Nat
  | [] => 0
  | x :: r => uptoBulkEntry x + uptoBulkEntries r
def uptoBulkEntry {H : Type} : Lit × DataW H → Nat
  | (.string bytes, d) => bytes.length + uptoBulk d + 1
  | (_, d) => uptoBulk d + 1
 end
def uptoSmall : (H : Type) → List (DataW H) → Bool := fun _ ds => decide (uptoBulkAll ds ≤ 1048576)
def OpenSpec.upto (s : _root_.Go.ChangeSpec) : _root_.Go.OpenSpec := { _root_.Go.OpenSpec.ofChange s with cond := some uptoSmall }

/-- 'polliwoglaw12.RecvGaps', WHERE WHAT IT READS IS OF BULK AT MOST 1048576: true; the input reads as it did. -/
def recvGapsUptoRow : OpenClaim := { program := "ytpjmgdoekeknjaa", sum := "227702b09722dc85074062305cb5e171a6ca663ef5e4abc6ee7b3ab8769be542", func := "polliwog/polliwoglaw12.RecvGaps", spec := "recvGaps", unfollowed := true, recurses := true, apart := false, narrowed := true }
def RecvGapsUptoSaid : Prop := recvGapsUptoRow.holds Try.pinned (OpenSpec.upto recvGapsSpec)

/-- 'polliwoglaw12.RecvAnyOrder', WHERE WHAT IT READS IS OF BULK AT MOST 1048576: true; the input reads as it did. -/
def recvAnyOrderUptoRow : OpenClaim := { program := "ytpjmgdoekeknjaa", sum := "227702b09722dc85074062305cb5e171a6ca663ef5e4abc6ee7b3ab8769be542", func := "polliwog/polliwoglaw12.RecvAnyOrder", spec := "recvAnyOrder", unfollowed := true, recurses := true, apart := false, narrowed := true }
def RecvAnyOrderUptoSaid : Prop := recvAnyOrderUptoRow.holds Try.pinned (OpenSpec.upto recvAnyOrderSpec)

/-- 'polliwoglaw12.RecvCredit', WHERE WHAT IT READS IS OF BULK AT MOST 1048576: true; the input reads as it did. -/
def recvCreditUptoRow : OpenClaim := { program := "ytpjmgdoekeknjaa", sum := "227702b09722dc85074062305cb5e171a6ca663ef5e4abc6ee7b3ab8769be542", func := "polliwog/polliwoglaw12.RecvCredit", spec := "recvCredit", unfollowed := true, recurses := true, apart := false, narrowed := true }
def RecvCreditUptoSaid : Prop := recvCreditUptoRow.holds Try.pinned (OpenSpec.upto recvCreditSpec)

/-- 'polliwoglaw12.RecvPlays', WHERE WHAT IT READS IS OF BULK AT MOST 1048576: true; the input reads as it did. -/
def recvPlaysUptoRow : OpenClaim := { program := "ytpjmgdoekeknjaa", sum := "227702b09722dc85074062305cb5e171a6ca663ef5e4abc6ee7b3ab8769be542", func := "polliwog/polliwoglaw12.RecvPlays", spec := "recvPlays", inPlace := ["maps.clone"], unfollowed := true, recurses := true, apart := false, narrowed := true }
def RecvPlaysUptoSaid : Prop := recvPlaysUptoRow.holds Try.pinned (OpenSpec.upto recvPlaysSpec)

/-- 'polliwoglaw12.RecvBounds', WHERE WHAT IT READS IS OF BULK AT MOST 1048576: true; the input reads as it did. -/
def recvBoundsUptoRow : OpenClaim := { program := "ytpjmgdoekeknjaa", sum := "227702b09722dc85074062305cb5e171a6ca663ef5e4abc6ee7b3ab8769be542", func := "polliwog/polliwoglaw12.RecvBounds", spec := "recvBounds", inPlace := ["maps.clone"], unfollowed := true, recurses := true, apart := false, narrowed := true }
def RecvBoundsUptoSaid : Prop := recvBoundsUptoRow.holds Try.pinned (OpenSpec.upto recvBoundsSpec)

/-- 'polliwoglaw12.RecvOrder', WHERE WHAT IT READS IS OF BULK AT MOST 1048576: true; the input reads as it did. -/
def recvOrderUptoRow : OpenClaim := { program := "ytpjmgdoekeknjaa", sum := "227702b09722dc85074062305cb5e171a6ca663ef5e4abc6ee7b3ab8769be542", func := "polliwog/polliwoglaw12.RecvOrder", spec := "recvOrder", inPlace := ["maps.clone"], unfollowed := true, recurses := true, apart := false, narrowed := true }
def RecvOrderUptoSaid : Prop := recvOrderUptoRow.holds Try.pinned (OpenSpec.upto recvOrderSpec)

/-- 'polliwoglaw12.RecvNames', WHERE WHAT IT READS IS OF BULK AT MOST 1048576: true; the input reads as it did. -/
def recvNamesUptoRow : OpenClaim := { program := "ytpjmgdoekeknjaa", sum := "227702b09722dc85074062305cb5e171a6ca663ef5e4abc6ee7b3ab8769be542", func := "polliwog/polliwoglaw12.RecvNames", spec := "recvNames", inPlace := ["maps.clone"], unfollowed := true, recurses := true, apart := false, narrowed := true }
def RecvNamesUptoSaid : Prop := recvNamesUptoRow.holds Try.pinned (OpenSpec.upto recvNamesSpec)

end Rows
end Go.Proofs.Ytpjmgdoekeknjaa
