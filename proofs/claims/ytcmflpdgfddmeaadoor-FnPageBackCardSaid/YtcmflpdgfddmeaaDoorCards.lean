/-
  DERIVED. GIVEN WITH THE SEED: THE CARDS: each row of YtcmflpdgfddmeaaDoorRows.lean that lists a variable, with what it lists TIED to the program's text (the seventh form; the later family's looks); each row that meets fmt, with fmt's text TOLD by the authors' own Lean function (tested against real Go, not proved from fmt's source: count such statements apart). THE CARD IS WHAT COUNTS. Prove the row's statement (the work); the ties are given (YtcmflpdgfddmeaaDoorTie.lean); close each card by the builder's one call (the guide's Derived/Test/ToyasCard.lean, 'card_holds'). Laid BY PROGRAM, IN A SANDBOX (cutbox-door.mjs). By AI agents, Wed Nov 11 2026. No macro, syntax, notation, axiom, sorry.
-/
import Derived.Test.YtcmflpdgfddmeaaDoorRows
import GoSem.ClaimSeven
namespace Go.Proofs.YtcmflpdgfddmeaaDoor
namespace Rows

/-- THE TIED CARD OF 'laws.FnPageBack'. -/
def fnPageBackCard : Claim7 := { stood := { row := fnPageBackRow, standIns := [], harness := (true, "1a9119a22c469a2a6c8c583698fed3c8b083f9b1d44bd3e63baa2da6694e532e"), looks := false }, kinds := [], alts := [], laidByText := true, laidKinds := [.data, .pinned], laidTests := true, laidLooks := .later }
def FnPageBackCardSaid : Prop := Claim7.holds Tryd.pinned (.plain (OpenSpec.ofChange fnPageBackSpec)) fnPageBackCard

/-- THE SECOND FORM's CARD OF 'laws.FnPageBack'. -/
def fnPageBackUptoCard : Claim7 := { stood := { row := fnPageBackUptoRow, standIns := [], harness := (true, "1a9119a22c469a2a6c8c583698fed3c8b083f9b1d44bd3e63baa2da6694e532e"), looks := false }, kinds := [], alts := [], laidByText := true, laidKinds := [.data, .pinned], laidTests := true, laidLooks := .later }
def FnPageBackUptoCardSaid : Prop := Claim7.holds Tryd.pinned (.plain (OpenSpec.upto fnPageBackSpec)) fnPageBackUptoCard
end Rows
end Go.Proofs.YtcmflpdgfddmeaaDoor
