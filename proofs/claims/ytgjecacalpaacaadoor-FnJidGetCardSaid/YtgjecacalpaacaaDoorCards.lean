/-
  DERIVED. GIVEN WITH THE SEED: THE CARDS: each row of YtgjecacalpaacaaDoorRows.lean that lists a variable, with what it lists TIED to the program's text (the seventh form; the later family's looks); each row that meets fmt, with fmt's text TOLD by the authors' own Lean function (tested against real Go, not proved from fmt's source: count such statements apart). THE CARD IS WHAT COUNTS. Prove the row's statement (the work); the ties are given (YtgjecacalpaacaaDoorTie.lean); close each card by the builder's one call (the guide's Derived/Test/ToyasCard.lean, 'card_holds'). Laid BY PROGRAM, IN A SANDBOX (cutbox-door.mjs). By AI agents, Wed Nov 11 2026. No macro, syntax, notation, axiom, sorry.
-/
import Derived.Test.YtgjecacalpaacaaDoorRows
import GoSem.ClaimSeven
namespace Go.Proofs.YtgjecacalpaacaaDoor
namespace Rows

/-- THE TIED CARD OF 'laws.FnExactTextOk'. -/
def fnExactTextOkCard : Claim7 := { stood := { row := fnExactTextOkRow, standIns := [], harness := (true, "ae9c118bfdabc902fd53997157f58f71210ba7c13d5d3f5817aee2b93a25e6ca"), looks := false }, kinds := [], alts := [], laidByText := true, laidKinds := [.data, .pinned], laidTests := true, laidLooks := .later }
def FnExactTextOkCardSaid : Prop := Claim7.holds Tryd.pinned (.plain (OpenSpec.ofChange fnExactTextOkSpec)) fnExactTextOkCard

/-- THE TIED CARD OF 'laws.FnTextCut'. -/
def fnTextCutCard : Claim7 := { stood := { row := fnTextCutRow, standIns := [], harness := (true, "ae9c118bfdabc902fd53997157f58f71210ba7c13d5d3f5817aee2b93a25e6ca"), looks := false }, kinds := [], alts := [], laidByText := true, laidKinds := [.data, .pinned], laidTests := true, laidLooks := .later }
def FnTextCutCardSaid : Prop := Claim7.holds Tryd.pinned (.plain (OpenSpec.ofChange fnTextCutSpec)) fnTextCutCard

/-- THE TIED CARD OF 'laws.FnExactJidOk'. -/
def fnExactJidOkCard : Claim7 := { stood := { row := fnExactJidOkRow, standIns := [], harness := (true, "ae9c118bfdabc902fd53997157f58f71210ba7c13d5d3f5817aee2b93a25e6ca"), looks := false }, kinds := [], alts := [], laidByText := true, laidKinds := [.data, .pinned], laidTests := true, laidLooks := .later }
def FnExactJidOkCardSaid : Prop := Claim7.holds Tryd.pinned (.plain (OpenSpec.ofChange fnExactJidOkSpec)) fnExactJidOkCard

/-- THE TIED CARD OF 'laws.FnExactJidPut'. -/
def fnExactJidPutCard : Claim7 := { stood := { row := fnExactJidPutRow, standIns := [], harness := (true, "ae9c118bfdabc902fd53997157f58f71210ba7c13d5d3f5817aee2b93a25e6ca"), looks := false }, kinds := [], alts := [], laidByText := true, laidKinds := [.data, .pinned], laidTests := true, laidLooks := .later }
def FnExactJidPutCardSaid : Prop := Claim7.holds Tryd.pinned (.plain (OpenSpec.ofChange fnExactJidPutSpec)) fnExactJidPutCard

/-- THE TIED CARD OF 'laws.FnExactJidGet'. -/
def fnExactJidGetCard : Claim7 := { stood := { row := fnExactJidGetRow, standIns := [], harness := (true, "ae9c118bfdabc902fd53997157f58f71210ba7c13d5d3f5817aee2b93a25e6ca"), looks := false }, kinds := [], alts := [], laidByText := true, laidKinds := [.data, .pinned], laidTests := true, laidLooks := .later }
def FnExactJidGetCardSaid : Prop := Claim7.holds Tryd.pinned (.plain (OpenSpec.ofChange fnExactJidGetSpec)) fnExactJidGetCard

/-- THE TIED CARD OF 'laws.FnJidParts'. -/
def fnJidPartsCard : Claim7 := { stood := { row := fnJidPartsRow, standIns := [], harness := (true, "ae9c118bfdabc902fd53997157f58f71210ba7c13d5d3f5817aee2b93a25e6ca"), looks := false }, kinds := [], alts := [], laidByText := true, laidKinds := [.data, .pinned], laidTests := true, laidLooks := .later }
def FnJidPartsCardSaid : Prop := Claim7.holds Tryd.pinned (.plain (OpenSpec.ofChange fnJidPartsSpec)) fnJidPartsCard

/-- THE TIED CARD OF 'laws.FnJidPut'. -/
def fnJidPutCard : Claim7 := { stood := { row := fnJidPutRow, standIns := [], harness := (true, "ae9c118bfdabc902fd53997157f58f71210ba7c13d5d3f5817aee2b93a25e6ca"), looks := false }, kinds := [], alts := [], laidByText := true, laidKinds := [.data, .pinned], laidTests := true, laidLooks := .later }
def FnJidPutCardSaid : Prop := Claim7.holds Tryd.pinned (.plain (OpenSpec.ofChange fnJidPutSpec)) fnJidPutCard

/-- THE TIED CARD OF 'laws.FnJidGet'. -/
def fnJidGetCard : Claim7 := { stood := { row := fnJidGetRow, standIns := [], harness := (true, "ae9c118bfdabc902fd53997157f58f71210ba7c13d5d3f5817aee2b93a25e6ca"), looks := false }, kinds := [], alts := [], laidByText := true, laidKinds := [.data, .pinned], laidTests := true, laidLooks := .later }
def FnJidGetCardSaid : Prop := Claim7.holds Tryd.pinned (.plain (OpenSpec.ofChange fnJidGetSpec)) fnJidGetCard

/-- THE TIED CARD OF 'laws.FnExactSayOk'. -/
def fnExactSayOkCard : Claim7 := { stood := { row := fnExactSayOkRow, standIns := [], harness := (true, "ae9c118bfdabc902fd53997157f58f71210ba7c13d5d3f5817aee2b93a25e6ca"), looks := false }, kinds := [], alts := [], laidByText := true, laidKinds := [.data, .pinned], laidTests := true, laidLooks := .later }
def FnExactSayOkCardSaid : Prop := Claim7.holds Tryd.pinned (.plain (OpenSpec.ofChange fnExactSayOkSpec)) fnExactSayOkCard

/-- THE TIED CARD OF 'laws.FnExactEntryOk'. -/
def fnExactEntryOkCard : Claim7 := { stood := { row := fnExactEntryOkRow, standIns := [], harness := (true, "ae9c118bfdabc902fd53997157f58f71210ba7c13d5d3f5817aee2b93a25e6ca"), looks := false }, kinds := [], alts := [], laidByText := true, laidKinds := [.data, .pinned], laidTests := true, laidLooks := .later }
def FnExactEntryOkCardSaid : Prop := Claim7.holds Tryd.pinned (.plain (OpenSpec.ofChange fnExactEntryOkSpec)) fnExactEntryOkCard

/-- THE TIED CARD OF 'laws.FnExactRoomOk'. -/
def fnExactRoomOkCard : Claim7 := { stood := { row := fnExactRoomOkRow, standIns := [], harness := (true, "ae9c118bfdabc902fd53997157f58f71210ba7c13d5d3f5817aee2b93a25e6ca"), looks := false }, kinds := [], alts := [], laidByText := true, laidKinds := [.data, .pinned], laidTests := true, laidLooks := .later }
def FnExactRoomOkCardSaid : Prop := Claim7.holds Tryd.pinned (.plain (OpenSpec.ofChange fnExactRoomOkSpec)) fnExactRoomOkCard

/-- THE SECOND FORM's CARD OF 'laws.FnExactTextOk'. -/
def fnExactTextOkUptoCard : Claim7 := { stood := { row := fnExactTextOkUptoRow, standIns := [], harness := (true, "ae9c118bfdabc902fd53997157f58f71210ba7c13d5d3f5817aee2b93a25e6ca"), looks := false }, kinds := [], alts := [], laidByText := true, laidKinds := [.data, .pinned], laidTests := true, laidLooks := .later }
def FnExactTextOkUptoCardSaid : Prop := Claim7.holds Tryd.pinned (.plain (OpenSpec.upto fnExactTextOkSpec)) fnExactTextOkUptoCard

/-- THE SECOND FORM's CARD OF 'laws.FnTextCut'. -/
def fnTextCutUptoCard : Claim7 := { stood := { row := fnTextCutUptoRow, standIns := [], harness := (true, "ae9c118bfdabc902fd53997157f58f71210ba7c13d5d3f5817aee2b93a25e6ca"), looks := false }, kinds := [], alts := [], laidByText := true, laidKinds := [.data, .pinned], laidTests := true, laidLooks := .later }
def FnTextCutUptoCardSaid : Prop := Claim7.holds Tryd.pinned (.plain (OpenSpec.upto fnTextCutSpec)) fnTextCutUptoCard

/-- THE SECOND FORM's CARD OF 'laws.FnExactJidOk'. -/
def fnExactJidOkUptoCard : Claim7 := { stood := { row := fnExactJidOkUptoRow, standIns := [], harness := (true, "ae9c118bfdabc902fd53997157f58f71210ba7c13d5d3f5817aee2b93a25e6ca"), looks := false }, kinds := [], alts := [], laidByText := true, laidKinds := [.data, .pinned], laidTests := true, laidLooks := .later }
def FnExactJidOkUptoCardSaid : Prop := Claim7.holds Tryd.pinned (.plain (OpenSpec.upto fnExactJidOkSpec)) fnExactJidOkUptoCard

/-- THE SECOND FORM's CARD OF 'laws.FnExactJidPut'. -/
def fnExactJidPutUptoCard : Claim7 := { stood := { row := fnExactJidPutUptoRow, standIns := [], harness := (true, "ae9c118bfdabc902fd53997157f58f71210ba7c13d5d3f5817aee2b93a25e6ca"), looks := false }, kinds := [], alts := [], laidByText := true, laidKinds := [.data, .pinned], laidTests := true, laidLooks := .later }
def FnExactJidPutUptoCardSaid : Prop := Claim7.holds Tryd.pinned (.plain (OpenSpec.upto fnExactJidPutSpec)) fnExactJidPutUptoCard

/-- THE SECOND FORM's CARD OF 'laws.FnExactJidGet'. -/
def fnExactJidGetUptoCard : Claim7 := { stood := { row := fnExactJidGetUptoRow, standIns := [], harness := (true, "ae9c118bfdabc902fd53997157f58f71210ba7c13d5d3f5817aee2b93a25e6ca"), looks := false }, kinds := [], alts := [], laidByText := true, laidKinds := [.data, .pinned], laidTests := true, laidLooks := .later }
def FnExactJidGetUptoCardSaid : Prop := Claim7.holds Tryd.pinned (.plain (OpenSpec.upto fnExactJidGetSpec)) fnExactJidGetUptoCard

/-- THE SECOND FORM's CARD OF 'laws.FnJidParts'. -/
def fnJidPartsUptoCard : Claim7 := { stood := { row := fnJidPartsUptoRow, standIns := [], harness := (true, "ae9c118bfdabc902fd53997157f58f71210ba7c13d5d3f5817aee2b93a25e6ca"), looks := false }, kinds := [], alts := [], laidByText := true, laidKinds := [.data, .pinned], laidTests := true, laidLooks := .later }
def FnJidPartsUptoCardSaid : Prop := Claim7.holds Tryd.pinned (.plain (OpenSpec.upto fnJidPartsSpec)) fnJidPartsUptoCard

/-- THE SECOND FORM's CARD OF 'laws.FnJidPut'. -/
def fnJidPutUptoCard : Claim7 := { stood := { row := fnJidPutUptoRow, standIns := [], harness := (true, "ae9c118bfdabc902fd53997157f58f71210ba7c13d5d3f5817aee2b93a25e6ca"), looks := false }, kinds := [], alts := [], laidByText := true, laidKinds := [.data, .pinned], laidTests := true, laidLooks := .later }
def FnJidPutUptoCardSaid : Prop := Claim7.holds Tryd.pinned (.plain (OpenSpec.upto fnJidPutSpec)) fnJidPutUptoCard

/-- THE SECOND FORM's CARD OF 'laws.FnJidGet'. -/
def fnJidGetUptoCard : Claim7 := { stood := { row := fnJidGetUptoRow, standIns := [], harness := (true, "ae9c118bfdabc902fd53997157f58f71210ba7c13d5d3f5817aee2b93a25e6ca"), looks := false }, kinds := [], alts := [], laidByText := true, laidKinds := [.data, .pinned], laidTests := true, laidLooks := .later }
def FnJidGetUptoCardSaid : Prop := Claim7.holds Tryd.pinned (.plain (OpenSpec.upto fnJidGetSpec)) fnJidGetUptoCard

/-- THE SECOND FORM's CARD OF 'laws.FnExactSayOk'. -/
def fnExactSayOkUptoCard : Claim7 := { stood := { row := fnExactSayOkUptoRow, standIns := [], harness := (true, "ae9c118bfdabc902fd53997157f58f71210ba7c13d5d3f5817aee2b93a25e6ca"), looks := false }, kinds := [], alts := [], laidByText := true, laidKinds := [.data, .pinned], laidTests := true, laidLooks := .later }
def FnExactSayOkUptoCardSaid : Prop := Claim7.holds Tryd.pinned (.plain (OpenSpec.upto fnExactSayOkSpec)) fnExactSayOkUptoCard

/-- THE SECOND FORM's CARD OF 'laws.FnExactEntryOk'. -/
def fnExactEntryOkUptoCard : Claim7 := { stood := { row := fnExactEntryOkUptoRow, standIns := [], harness := (true, "ae9c118bfdabc902fd53997157f58f71210ba7c13d5d3f5817aee2b93a25e6ca"), looks := false }, kinds := [], alts := [], laidByText := true, laidKinds := [.data, .pinned], laidTests := true, laidLooks := .later }
def FnExactEntryOkUptoCardSaid : Prop := Claim7.holds Tryd.pinned (.plain (OpenSpec.upto fnExactEntryOkSpec)) fnExactEntryOkUptoCard

/-- THE SECOND FORM's CARD OF 'laws.FnExactRoomOk'. -/
def fnExactRoomOkUptoCard : Claim7 := { stood := { row := fnExactRoomOkUptoRow, standIns := [], harness := (true, "ae9c118bfdabc902fd53997157f58f71210ba7c13d5d3f5817aee2b93a25e6ca"), looks := false }, kinds := [], alts := [], laidByText := true, laidKinds := [.data, .pinned], laidTests := true, laidLooks := .later }
def FnExactRoomOkUptoCardSaid : Prop := Claim7.holds Tryd.pinned (.plain (OpenSpec.upto fnExactRoomOkSpec)) fnExactRoomOkUptoCard
end Rows
end Go.Proofs.YtgjecacalpaacaaDoor
