/-
  DERIVED. GIVEN WITH THE SEED: THE CARDS: each row of YtmacpgoclhgafaaGreatDoorRows.lean that lists a variable, with what it lists TIED to the program's text (the seventh form; the later family's looks); each row that meets fmt, with fmt's text TOLD by the authors' own Lean function (tested against real Go, not proved from fmt's source: count such statements apart). THE CARD IS WHAT COUNTS. Prove the row's statement (the work); the ties are given (YtmacpgoclhgafaaGreatDoorTie.lean); close each card by the builder's one call (the guide's Derived/Test/ToyasCard.lean, 'card_holds'). Laid BY PROGRAM, IN A SANDBOX (cutbox-door.mjs). By AI agents, Wed Nov 11 2026. No macro, syntax, notation, axiom, sorry.
-/
import Derived.Test.YtmacpgoclhgafaaGreatDoorRows
import GoSem.ClaimSeven
namespace Go.Proofs.YtmacpgoclhgafaaGreatDoor
namespace Rows

/-- THE TIED CARD OF 'laws.FnRoomDo'. -/
def fnRoomDoCard : Claim7 := { stood := { row := fnRoomDoRow, standIns := [], harness := (true, "44a46c2a8fca79e61795b2b5caed4cff144c982e337cc33ebcb0a7f706d02efa"), looks := false }, kinds := [], alts := [], laidByText := true, laidKinds := [.data, .pinned], laidTests := true, laidLooks := .later }
def FnRoomDoCardSaid : Prop := Claim7.holds Tryz.pinned (.plain (OpenSpec.ofChange fnRoomDoSpec)) fnRoomDoCard

/-- THE TIED CARD OF 'laws.FnRoomOwner'. -/
def fnRoomOwnerCard : Claim7 := { stood := { row := fnRoomOwnerRow, standIns := [], harness := (true, "44a46c2a8fca79e61795b2b5caed4cff144c982e337cc33ebcb0a7f706d02efa"), looks := false }, kinds := [], alts := [], laidByText := true, laidKinds := [.data, .pinned], laidTests := true, laidLooks := .later }
def FnRoomOwnerCardSaid : Prop := Claim7.holds Tryz.pinned (.plain (OpenSpec.ofChange fnRoomOwnerSpec)) fnRoomOwnerCard

/-- THE TIED CARD OF 'laws.FnRoomSame'. -/
def fnRoomSameCard : Claim7 := { stood := { row := fnRoomSameRow, standIns := [], harness := (true, "44a46c2a8fca79e61795b2b5caed4cff144c982e337cc33ebcb0a7f706d02efa"), looks := false }, kinds := [], alts := [], laidByText := true, laidKinds := [.data, .pinned], laidTests := true, laidLooks := .later }
def FnRoomSameCardSaid : Prop := Claim7.holds Tryz.pinned (.plain (OpenSpec.ofChange fnRoomSameSpec)) fnRoomSameCard

/-- THE TIED CARD OF 'laws.FnRoomHere'. -/
def fnRoomHereCard : Claim7 := { stood := { row := fnRoomHereRow, standIns := [], harness := (true, "44a46c2a8fca79e61795b2b5caed4cff144c982e337cc33ebcb0a7f706d02efa"), looks := false }, kinds := [], alts := [], laidByText := true, laidKinds := [.data, .pinned], laidTests := true, laidLooks := .later }
def FnRoomHereCardSaid : Prop := Claim7.holds Tryz.pinned (.plain (OpenSpec.ofChange fnRoomHereSpec)) fnRoomHereCard

/-- THE TIED CARD OF 'laws.FnRoomOut'. -/
def fnRoomOutCard : Claim7 := { stood := { row := fnRoomOutRow, standIns := [], harness := (true, "44a46c2a8fca79e61795b2b5caed4cff144c982e337cc33ebcb0a7f706d02efa"), looks := false }, kinds := [], alts := [], laidByText := true, laidKinds := [.data, .pinned], laidTests := true, laidLooks := .later }
def FnRoomOutCardSaid : Prop := Claim7.holds Tryz.pinned (.plain (OpenSpec.ofChange fnRoomOutSpec)) fnRoomOutCard

/-- THE TIED CARD OF 'laws.FnRoomTwice'. -/
def fnRoomTwiceCard : Claim7 := { stood := { row := fnRoomTwiceRow, standIns := [], harness := (true, "44a46c2a8fca79e61795b2b5caed4cff144c982e337cc33ebcb0a7f706d02efa"), looks := false }, kinds := [], alts := [], laidByText := true, laidKinds := [.data, .pinned], laidTests := true, laidLooks := .later }
def FnRoomTwiceCardSaid : Prop := Claim7.holds Tryz.pinned (.plain (OpenSpec.ofChange fnRoomTwiceSpec)) fnRoomTwiceCard

/-- THE SECOND FORM's CARD OF 'laws.FnRoomDo'. -/
def fnRoomDoUptoCard : Claim7 := { stood := { row := fnRoomDoUptoRow, standIns := [], harness := (true, "44a46c2a8fca79e61795b2b5caed4cff144c982e337cc33ebcb0a7f706d02efa"), looks := false }, kinds := [], alts := [], laidByText := true, laidKinds := [.data, .pinned], laidTests := true, laidLooks := .later }
def FnRoomDoUptoCardSaid : Prop := Claim7.holds Tryz.pinned (.plain (OpenSpec.upto fnRoomDoSpec)) fnRoomDoUptoCard

/-- THE SECOND FORM's CARD OF 'laws.FnRoomOwner'. -/
def fnRoomOwnerUptoCard : Claim7 := { stood := { row := fnRoomOwnerUptoRow, standIns := [], harness := (true, "44a46c2a8fca79e61795b2b5caed4cff144c982e337cc33ebcb0a7f706d02efa"), looks := false }, kinds := [], alts := [], laidByText := true, laidKinds := [.data, .pinned], laidTests := true, laidLooks := .later }
def FnRoomOwnerUptoCardSaid : Prop := Claim7.holds Tryz.pinned (.plain (OpenSpec.upto fnRoomOwnerSpec)) fnRoomOwnerUptoCard

/-- THE SECOND FORM's CARD OF 'laws.FnRoomSame'. -/
def fnRoomSameUptoCard : Claim7 := { stood := { row := fnRoomSameUptoRow, standIns := [], harness := (true, "44a46c2a8fca79e61795b2b5caed4cff144c982e337cc33ebcb0a7f706d02efa"), looks := false }, kinds := [], alts := [], laidByText := true, laidKinds := [.data, .pinned], laidTests := true, laidLooks := .later }
def FnRoomSameUptoCardSaid : Prop := Claim7.holds Tryz.pinned (.plain (OpenSpec.upto fnRoomSameSpec)) fnRoomSameUptoCard

/-- THE SECOND FORM's CARD OF 'laws.FnRoomHere'. -/
def fnRoomHereUptoCard : Claim7 := { stood := { row := fnRoomHereUptoRow, standIns := [], harness := (true, "44a46c2a8fca79e61795b2b5caed4cff144c982e337cc33ebcb0a7f706d02efa"), looks := false }, kinds := [], alts := [], laidByText := true, laidKinds := [.data, .pinned], laidTests := true, laidLooks := .later }
def FnRoomHereUptoCardSaid : Prop := Claim7.holds Tryz.pinned (.plain (OpenSpec.upto fnRoomHereSpec)) fnRoomHereUptoCard

/-- THE SECOND FORM's CARD OF 'laws.FnRoomOut'. -/
def fnRoomOutUptoCard : Claim7 := { stood := { row := fnRoomOutUptoRow, standIns := [], harness := (true, "44a46c2a8fca79e61795b2b5caed4cff144c982e337cc33ebcb0a7f706d02efa"), looks := false }, kinds := [], alts := [], laidByText := true, laidKinds := [.data, .pinned], laidTests := true, laidLooks := .later }
def FnRoomOutUptoCardSaid : Prop := Claim7.holds Tryz.pinned (.plain (OpenSpec.upto fnRoomOutSpec)) fnRoomOutUptoCard

/-- THE SECOND FORM's CARD OF 'laws.FnRoomTwice'. -/
def fnRoomTwiceUptoCard : Claim7 := { stood := { row := fnRoomTwiceUptoRow, standIns := [], harness := (true, "44a46c2a8fca79e61795b2b5caed4cff144c982e337cc33ebcb0a7f706d02efa"), looks := false }, kinds := [], alts := [], laidByText := true, laidKinds := [.data, .pinned], laidTests := true, laidLooks := .later }
def FnRoomTwiceUptoCardSaid : Prop := Claim7.holds Tryz.pinned (.plain (OpenSpec.upto fnRoomTwiceSpec)) fnRoomTwiceUptoCard
end Rows
end Go.Proofs.YtmacpgoclhgafaaGreatDoor
