/-
  DERIVED. GIVEN WITH THE SEED: THE CARDS: each row of YtpifgpmjnjbecaaDoorRows.lean that lists a variable, with what it lists TIED to the program's text (the seventh form; the later family's looks); each row that meets fmt, with fmt's text TOLD by the authors' own Lean function (tested against real Go, not proved from fmt's source: count such statements apart). THE CARD IS WHAT COUNTS. Prove the row's statement (the work); the ties are given (YtpifgpmjnjbecaaDoorTie.lean); close each card by the builder's one call (the guide's Derived/Test/ToyasCard.lean, 'card_holds'). Laid BY PROGRAM, IN A SANDBOX (cutbox-door.mjs). By AI agents, Wed Nov 11 2026. No macro, syntax, notation, axiom, sorry.
-/
import Derived.Test.YtpifgpmjnjbecaaDoorRows
import GoSem.ClaimSeven
namespace Go.Proofs.YtpifgpmjnjbecaaDoor
namespace Rows

/-- THE TIED CARD OF 'polliwogtop.PolliwogWhole'. -/
def polliwogWholeCard : Claim7 := { stood := { row := polliwogWholeRow, standIns := [], harness := (true, "48c3c53a89e0edb32bd534b30956636e466d156bb2c19768cfefa45160ce12c6"), looks := false }, kinds := [], alts := [], laidByText := true, laidKinds := [.data, .pinned], laidTests := true, laidLooks := .later }
def PolliwogWholeCardSaid : Prop := Claim7.holds Tryd.pinned (.plain (OpenSpec.ofChange polliwogWholeSpec)) polliwogWholeCard

/-- THE SECOND FORM's CARD OF 'polliwogtop.PolliwogWhole'. -/
def polliwogWholeUptoCard : Claim7 := { stood := { row := polliwogWholeUptoRow, standIns := [], harness := (true, "48c3c53a89e0edb32bd534b30956636e466d156bb2c19768cfefa45160ce12c6"), looks := false }, kinds := [], alts := [], laidByText := true, laidKinds := [.data, .pinned], laidTests := true, laidLooks := .later }
def PolliwogWholeUptoCardSaid : Prop := Claim7.holds Tryd.pinned (.plain (OpenSpec.upto polliwogWholeSpec)) polliwogWholeUptoCard
end Rows
end Go.Proofs.YtpifgpmjnjbecaaDoor
