/-
  DERIVED. GIVEN WITH THE SEED: THE CARDS: each row of YtmacpgoclhgafaaDoorRows.lean that lists a variable, with what it lists TIED to the program's text (the seventh form; the later family's looks); each row that meets fmt, with fmt's text TOLD by the authors' own Lean function (tested against real Go, not proved from fmt's source: count such statements apart). THE CARD IS WHAT COUNTS. Prove the row's statement (the work); the ties are given (YtmacpgoclhgafaaDoorTie.lean); close each card by the builder's one call (the guide's Derived/Test/ToyasCard.lean, 'card_holds'). Laid BY PROGRAM, IN A SANDBOX (cutbox-door.mjs). By AI agents, Wed Nov 11 2026. No macro, syntax, notation, axiom, sorry.
-/
import Derived.Test.YtmacpgoclhgafaaDoorRows
import GoSem.ClaimSeven
namespace Go.Proofs.YtmacpgoclhgafaaDoor
namespace Rows

/-- THE TIED CARD OF 'laws.FnExactRoomApply'. -/
def fnExactRoomApplyCard : Claim7 := { stood := { row := fnExactRoomApplyRow, standIns := [], harness := (true, "11a5d3a430c755a531dcb7778d2f01ce6bd8d4ff297248a57fbc30feb4ff92b6"), looks := false }, kinds := [], alts := [], laidByText := true, laidKinds := [.data, .pinned], laidTests := true, laidLooks := .later }
def FnExactRoomApplyCardSaid : Prop := Claim7.holds Tryd.pinned (.plain (OpenSpec.ofChange fnExactRoomApplySpec)) fnExactRoomApplyCard

/-- THE TIED CARD OF 'laws.FnApply'. -/
def fnApplyCard : Claim7 := { stood := { row := fnApplyRow, standIns := [], harness := (true, "11a5d3a430c755a531dcb7778d2f01ce6bd8d4ff297248a57fbc30feb4ff92b6"), looks := false }, kinds := [], alts := [], laidByText := true, laidKinds := [.data, .pinned], laidTests := true, laidLooks := .later }
def FnApplyCardSaid : Prop := Claim7.holds Tryd.pinned (.plain (OpenSpec.ofChange fnApplySpec)) fnApplyCard

/-- THE TIED CARD OF 'laws.FnRoomMay'. -/
def fnRoomMayCard : Claim7 := { stood := { row := fnRoomMayRow, standIns := [], harness := (true, "11a5d3a430c755a531dcb7778d2f01ce6bd8d4ff297248a57fbc30feb4ff92b6"), looks := false }, kinds := [], alts := [], laidByText := true, laidKinds := [.data, .pinned], laidTests := true, laidLooks := .later }
def FnRoomMayCardSaid : Prop := Claim7.holds Tryd.pinned (.plain (OpenSpec.ofChange fnRoomMaySpec)) fnRoomMayCard

/-- THE TIED CARD OF 'laws.FnExactPageOf'. -/
def fnExactPageOfCard : Claim7 := { stood := { row := fnExactPageOfRow, standIns := [], harness := (true, "11a5d3a430c755a531dcb7778d2f01ce6bd8d4ff297248a57fbc30feb4ff92b6"), looks := false }, kinds := [], alts := [], laidByText := true, laidKinds := [.data, .pinned], laidTests := true, laidLooks := .later }
def FnExactPageOfCardSaid : Prop := Claim7.holds Tryd.pinned (.plain (OpenSpec.ofChange fnExactPageOfSpec)) fnExactPageOfCard

/-- THE TIED CARD OF 'laws.FnPage'. -/
def fnPageCard : Claim7 := { stood := { row := fnPageRow, standIns := [], harness := (true, "11a5d3a430c755a531dcb7778d2f01ce6bd8d4ff297248a57fbc30feb4ff92b6"), looks := false }, kinds := [], alts := [], laidByText := true, laidKinds := [.data, .pinned], laidTests := true, laidLooks := .later }
def FnPageCardSaid : Prop := Claim7.holds Tryd.pinned (.plain (OpenSpec.ofChange fnPageSpec)) fnPageCard

/-- THE TIED CARD OF 'laws.FnPageWalk'. -/
def fnPageWalkCard : Claim7 := { stood := { row := fnPageWalkRow, standIns := [], harness := (true, "11a5d3a430c755a531dcb7778d2f01ce6bd8d4ff297248a57fbc30feb4ff92b6"), looks := false }, kinds := [], alts := [], laidByText := true, laidKinds := [.data, .pinned], laidTests := true, laidLooks := .later }
def FnPageWalkCardSaid : Prop := Claim7.holds Tryd.pinned (.plain (OpenSpec.ofChange fnPageWalkSpec)) fnPageWalkCard

/-- THE SECOND FORM's CARD OF 'laws.FnExactRoomApply'. -/
def fnExactRoomApplyUptoCard : Claim7 := { stood := { row := fnExactRoomApplyUptoRow, standIns := [], harness := (true, "11a5d3a430c755a531dcb7778d2f01ce6bd8d4ff297248a57fbc30feb4ff92b6"), looks := false }, kinds := [], alts := [], laidByText := true, laidKinds := [.data, .pinned], laidTests := true, laidLooks := .later }
def FnExactRoomApplyUptoCardSaid : Prop := Claim7.holds Tryd.pinned (.plain (OpenSpec.upto fnExactRoomApplySpec)) fnExactRoomApplyUptoCard

/-- THE SECOND FORM's CARD OF 'laws.FnApply'. -/
def fnApplyUptoCard : Claim7 := { stood := { row := fnApplyUptoRow, standIns := [], harness := (true, "11a5d3a430c755a531dcb7778d2f01ce6bd8d4ff297248a57fbc30feb4ff92b6"), looks := false }, kinds := [], alts := [], laidByText := true, laidKinds := [.data, .pinned], laidTests := true, laidLooks := .later }
def FnApplyUptoCardSaid : Prop := Claim7.holds Tryd.pinned (.plain (OpenSpec.upto fnApplySpec)) fnApplyUptoCard

/-- THE SECOND FORM's CARD OF 'laws.FnRoomMay'. -/
def fnRoomMayUptoCard : Claim7 := { stood := { row := fnRoomMayUptoRow, standIns := [], harness := (true, "11a5d3a430c755a531dcb7778d2f01ce6bd8d4ff297248a57fbc30feb4ff92b6"), looks := false }, kinds := [], alts := [], laidByText := true, laidKinds := [.data, .pinned], laidTests := true, laidLooks := .later }
def FnRoomMayUptoCardSaid : Prop := Claim7.holds Tryd.pinned (.plain (OpenSpec.upto fnRoomMaySpec)) fnRoomMayUptoCard

/-- THE SECOND FORM's CARD OF 'laws.FnExactPageOf'. -/
def fnExactPageOfUptoCard : Claim7 := { stood := { row := fnExactPageOfUptoRow, standIns := [], harness := (true, "11a5d3a430c755a531dcb7778d2f01ce6bd8d4ff297248a57fbc30feb4ff92b6"), looks := false }, kinds := [], alts := [], laidByText := true, laidKinds := [.data, .pinned], laidTests := true, laidLooks := .later }
def FnExactPageOfUptoCardSaid : Prop := Claim7.holds Tryd.pinned (.plain (OpenSpec.upto fnExactPageOfSpec)) fnExactPageOfUptoCard

/-- THE SECOND FORM's CARD OF 'laws.FnPage'. -/
def fnPageUptoCard : Claim7 := { stood := { row := fnPageUptoRow, standIns := [], harness := (true, "11a5d3a430c755a531dcb7778d2f01ce6bd8d4ff297248a57fbc30feb4ff92b6"), looks := false }, kinds := [], alts := [], laidByText := true, laidKinds := [.data, .pinned], laidTests := true, laidLooks := .later }
def FnPageUptoCardSaid : Prop := Claim7.holds Tryd.pinned (.plain (OpenSpec.upto fnPageSpec)) fnPageUptoCard

/-- THE SECOND FORM's CARD OF 'laws.FnPageWalk'. -/
def fnPageWalkUptoCard : Claim7 := { stood := { row := fnPageWalkUptoRow, standIns := [], harness := (true, "11a5d3a430c755a531dcb7778d2f01ce6bd8d4ff297248a57fbc30feb4ff92b6"), looks := false }, kinds := [], alts := [], laidByText := true, laidKinds := [.data, .pinned], laidTests := true, laidLooks := .later }
def FnPageWalkUptoCardSaid : Prop := Claim7.holds Tryd.pinned (.plain (OpenSpec.upto fnPageWalkSpec)) fnPageWalkUptoCard
end Rows
end Go.Proofs.YtmacpgoclhgafaaDoor
