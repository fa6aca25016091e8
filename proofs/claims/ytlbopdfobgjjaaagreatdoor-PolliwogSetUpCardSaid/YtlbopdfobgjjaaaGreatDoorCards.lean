/-
  DERIVED. GIVEN WITH THE SEED: THE CARDS: each row of YtlbopdfobgjjaaaGreatDoorRows.lean that lists a variable, with what it lists TIED to the program's text (the seventh form; the later family's looks); each row that meets fmt, with fmt's text TOLD by the authors' own Lean function (tested against real Go, not proved from fmt's source: count such statements apart). THE CARD IS WHAT COUNTS. Prove the row's statement (the work); the ties are given (YtlbopdfobgjjaaaGreatDoorTie.lean); close each card by the builder's one call (the guide's Derived/Test/ToyasCard.lean, 'card_holds'). Laid BY PROGRAM, IN A SANDBOX (cutbox-door.mjs). By AI agents, Wed Nov 11 2026. No macro, syntax, notation, axiom, sorry.
-/
import Derived.Test.YtlbopdfobgjjaaaGreatDoorRows
import GoSem.ClaimSeven
namespace Go.Proofs.YtlbopdfobgjjaaaGreatDoor
namespace Rows

/-- THE TIED CARD OF 'polliwogtop.PolliwogSetUp'. -/
def polliwogSetUpCard : Claim7 := { stood := { row := polliwogSetUpRow, standIns := [], harness := (true, "c0f6502006a0edf7ff400ec5256b594f515f588c110635d59d79d0feda447cdc"), looks := false }, kinds := [], alts := [], laidByText := true, laidKinds := [.data, .pinned], laidTests := true, laidLooks := .later }
def PolliwogSetUpCardSaid : Prop := Claim7.holds Tryz.pinned (.plain (OpenSpec.ofChange polliwogSetUpSpec)) polliwogSetUpCard

/-- THE SECOND FORM's CARD OF 'polliwogtop.PolliwogSetUp'. -/
def polliwogSetUpUptoCard : Claim7 := { stood := { row := polliwogSetUpUptoRow, standIns := [], harness := (true, "c0f6502006a0edf7ff400ec5256b594f515f588c110635d59d79d0feda447cdc"), looks := false }, kinds := [], alts := [], laidByText := true, laidKinds := [.data, .pinned], laidTests := true, laidLooks := .later }
def PolliwogSetUpUptoCardSaid : Prop := Claim7.holds Tryz.pinned (.plain (OpenSpec.upto polliwogSetUpSpec)) polliwogSetUpUptoCard
end Rows
end Go.Proofs.YtlbopdfobgjjaaaGreatDoor
