/-
  NARROWER THAN 'FOR EVERY INPUT', by the rows' own cells (each row's printed sentence says how): FnExactRoomApply: laid · FnApply: laid · FnRoomMay: laid · FnExactPageOf: laid · FnPage: laid · FnPageWalk: laid.
  DERIVED. THE GIVEN ROWS OF THIS SEAT. 6 by the template 'for every input the law returns true; each argument reads behind the call as it read before'; 0 by the template 'total and deterministic' (their statements: YtmacpgoclhgafaaDoorTotals.lean).
  GIVEN WITH THE SEED: the statements are not yours to turn. If you find one false, say at which input.
  Laid BY PROGRAM, IN A SANDBOX (cutbox-rows.mjs): the forced cells as the released guide's own fill.sh prints them over the translation 6b09441b683129cf… (all of the seat's roots in one cut). By AI agents, Wed Nov 11 2026. No macro, syntax, notation, axiom, sorry.
-/
import Derived.Test.YtmacpgoclhgafaaDoorChecked
import GoSem.PinnedTables
import GoSem.Claim
import GoSem.ClaimJoined
import GoSem.ClaimMapViews
import Derived.JoinedTies
import Derived.KernelRfl
namespace Go.Proofs.YtmacpgoclhgafaaDoor
/- THE CELL 'sum', in the pinned program and in every row, IS THE sha256 OF THE DUMP (.gsa) THAT YtmacpgoclhgafaaDoorProg.lean LOADS. Nothing in Lean hashes anything: it is a label: what it is worth is what the hold of that sum in a sandbox is worth. -/
noncomputable def Tryd.pinned : Pinned := { name := "ytmacpgoclhgafaadoor", sum := "6b09441b683129cf1d956f65f62cb32197baf3008704ba10fbaed91b54b49523", checked := Tryd.checked }
namespace Rows
def none {H : Type} : Left H := { results := [], args := [] }

/- WHAT THE LISTED PACKAGE-LEVEL VARIABLES READ AS WHEN THE CALL BEGINS. Each datum BY PROGRAM (the guide's laid-datum.mjs) off the statement by which the dump's own 'gosem.cut.vars' lays the variable. In a bare row this is a premise. The card (YtmacpgoclhgafaaDoorCards.lean) ties it to the program's text. -/
def laid_unicode_utf8_acceptRanges {H : Type} : DataW H := .agg [.agg [.lit (.int .u8 128), .lit (.int .u8 191)], .agg [.lit (.int .u8 160), .lit (.int .u8 191)], .agg [.lit (.int .u8 128), .lit (.int .u8 159)], .agg [.lit (.int .u8 144), .lit (.int .u8 191)], .agg [.lit (.int .u8 128), .lit (.int .u8 143)], .agg [.lit (.int .u8 0), .lit (.int .u8 0)], .agg [.lit (.int .u8 0), .lit (.int .u8 0)], .agg [.lit (.int .u8 0), .lit (.int .u8 0)], .agg [.lit (.int .u8 0), .lit (.int .u8 0)], .agg [.lit (.int .u8 0), .lit (.int .u8 0)], .agg [.lit (.int .u8 0), .lit (.int .u8 0)], .agg [.lit (.int .u8 0), .lit (.int .u8 0)], .agg [.lit (.int .u8 0), .lit (.int .u8 0)], .agg [.lit (.int .u8 0), .lit (.int .u8 0)], .agg [.lit (.int .u8 0), .lit (.int .u8 0)], .agg [.lit (.int .u8 0), .lit (.int .u8 0)]]
/-- One of Go's own tables, pinned by name: the form's constant. -/
def laid_unicode_utf8_first : DataW Unit := Go.Pinned.utf8First

/-- 'laws.FnExactRoomApply': WHATEVER THE INPUT: true; the input reads as it did. -/
def fnExactRoomApplySpec : ChangeSpec := { name := "fnExactRoomApply", fn := fun _ => fun
  | [d1, d2] => { results := [.lit (.bool true)], args := [d1, d2] }
  | _ => none }
def fnExactRoomApplyRow : OpenClaim := { program := "ytmacpgoclhgafaadoor", sum := "6b09441b683129cf1d956f65f62cb32197baf3008704ba10fbaed91b54b49523", func := "loop.example/hubbub/laws.FnExactRoomApply", spec := "fnExactRoomApply", inPlace := ["slices.overlaps[loop.example/hubbub/impl.Rank]"], unfollowed := true, recurses := true, named := ["unicode/utf8.first", "unicode/utf8.acceptRanges"], apart := false, laid := [("unicode/utf8.acceptRanges", laid_unicode_utf8_acceptRanges), ("unicode/utf8.first", laid_unicode_utf8_first)] }
def FnExactRoomApplySaid : Prop := fnExactRoomApplyRow.holds Tryd.pinned (OpenSpec.ofChange fnExactRoomApplySpec)

/-- ITS FALSE NEIGHBOUR: 'it returns false'. Refute it at one input. -/
def fnExactRoomApplyWrong : ChangeSpec := { name := "fnExactRoomApply", fn := fun _ => fun
  | [d1, d2] => { results := [.lit (.bool false)], args := [d1, d2] }
  | _ => none }
def FnExactRoomApplyWrongFalsely : Prop := fnExactRoomApplyRow.holds Tryd.pinned (OpenSpec.ofChange fnExactRoomApplyWrong)

/-- 'laws.FnApply': WHATEVER THE INPUT: true; the input reads as it did. -/
def fnApplySpec : ChangeSpec := { name := "fnApply", fn := fun _ => fun
  | [d] => { results := [.lit (.bool true)], args := [d] }
  | _ => none }
def fnApplyRow : OpenClaim := { program := "ytmacpgoclhgafaadoor", sum := "6b09441b683129cf1d956f65f62cb32197baf3008704ba10fbaed91b54b49523", func := "loop.example/hubbub/laws.FnApply", spec := "fnApply", inPlace := ["slices.overlaps[loop.example/hubbub/impl.Rank]"], unfollowed := true, recurses := true, named := ["unicode/utf8.first", "unicode/utf8.acceptRanges"], apart := false, laid := [("unicode/utf8.acceptRanges", laid_unicode_utf8_acceptRanges), ("unicode/utf8.first", laid_unicode_utf8_first)] }
def FnApplySaid : Prop := fnApplyRow.holds Tryd.pinned (OpenSpec.ofChange fnApplySpec)

/-- ITS FALSE NEIGHBOUR: 'it returns false'. Refute it at one input. -/
def fnApplyWrong : ChangeSpec := { name := "fnApply", fn := fun _ => fun
  | [d] => { results := [.lit (.bool false)], args := [d] }
  | _ => none }
def FnApplyWrongFalsely : Prop := fnApplyRow.holds Tryd.pinned (OpenSpec.ofChange fnApplyWrong)

/-- 'laws.FnRoomMay': WHATEVER THE INPUT: true; the input reads as it did. -/
def fnRoomMaySpec : ChangeSpec := { name := "fnRoomMay", fn := fun _ => fun
  | [d] => { results := [.lit (.bool true)], args := [d] }
  | _ => none }
def fnRoomMayRow : OpenClaim := { program := "ytmacpgoclhgafaadoor", sum := "6b09441b683129cf1d956f65f62cb32197baf3008704ba10fbaed91b54b49523", func := "loop.example/hubbub/laws.FnRoomMay", spec := "fnRoomMay", unfollowed := true, recurses := true, named := ["unicode/utf8.first", "unicode/utf8.acceptRanges"], apart := false, laid := [("unicode/utf8.acceptRanges", laid_unicode_utf8_acceptRanges), ("unicode/utf8.first", laid_unicode_utf8_first)] }
def FnRoomMaySaid : Prop := fnRoomMayRow.holds Tryd.pinned (OpenSpec.ofChange fnRoomMaySpec)

/-- ITS FALSE NEIGHBOUR: 'it returns false'. Refute it at one input. -/
def fnRoomMayWrong : ChangeSpec := { name := "fnRoomMay", fn := fun _ => fun
  | [d] => { results := [.lit (.bool false)], args := [d] }
  | _ => none }
def FnRoomMayWrongFalsely : Prop := fnRoomMayRow.holds Tryd.pinned (OpenSpec.ofChange fnRoomMayWrong)

/-- 'laws.FnExactPageOf': WHATEVER THE INPUT: true; the input reads as it did. -/
def fnExactPageOfSpec : ChangeSpec := { name := "fnExactPageOf", fn := fun _ => fun
  | [d1, d2] => { results := [.lit (.bool true)], args := [d1, d2] }
  | _ => none }
def fnExactPageOfRow : OpenClaim := { program := "ytmacpgoclhgafaadoor", sum := "6b09441b683129cf1d956f65f62cb32197baf3008704ba10fbaed91b54b49523", func := "loop.example/hubbub/laws.FnExactPageOf", spec := "fnExactPageOf", unfollowed := true, recurses := true, named := ["unicode/utf8.first", "unicode/utf8.acceptRanges"], apart := false, laid := [("unicode/utf8.acceptRanges", laid_unicode_utf8_acceptRanges), ("unicode/utf8.first", laid_unicode_utf8_first)] }
def FnExactPageOfSaid : Prop := fnExactPageOfRow.holds Tryd.pinned (OpenSpec.ofChange fnExactPageOfSpec)

/-- ITS FALSE NEIGHBOUR: 'it returns false'. Refute it at one input. -/
def fnExactPageOfWrong : ChangeSpec := { name := "fnExactPageOf", fn := fun _ => fun
  | [d1, d2] => { results := [.lit (.bool false)], args := [d1, d2] }
  | _ => none }
def FnExactPageOfWrongFalsely : Prop := fnExactPageOfRow.holds Tryd.pinned (OpenSpec.ofChange fnExactPageOfWrong)

/-- 'laws.FnPage': WHATEVER THE INPUT: true; the input reads as it did. -/
def fnPageSpec : ChangeSpec := { name := "fnPage", fn := fun _ => fun
  | [d] => { results := [.lit (.bool true)], args := [d] }
  | _ => none }
def fnPageRow : OpenClaim := { program := "ytmacpgoclhgafaadoor", sum := "6b09441b683129cf1d956f65f62cb32197baf3008704ba10fbaed91b54b49523", func := "loop.example/hubbub/laws.FnPage", spec := "fnPage", unfollowed := true, recurses := true, named := ["unicode/utf8.first", "unicode/utf8.acceptRanges"], apart := false, laid := [("unicode/utf8.acceptRanges", laid_unicode_utf8_acceptRanges), ("unicode/utf8.first", laid_unicode_utf8_first)] }
def FnPageSaid : Prop := fnPageRow.holds Tryd.pinned (OpenSpec.ofChange fnPageSpec)

/-- ITS FALSE NEIGHBOUR: 'it returns false'. Refute it at one input. -/
def fnPageWrong : ChangeSpec := { name := "fnPage", fn := fun _ => fun
  | [d] => { results := [.lit (.bool false)], args := [d] }
  | _ => none }
def FnPageWrongFalsely : Prop := fnPageRow.holds Tryd.pinned (OpenSpec.ofChange fnPageWrong)

/-- 'laws.FnPageWalk': WHATEVER THE INPUT: true; the input reads as it did. -/
def fnPageWalkSpec : ChangeSpec := { name := "fnPageWalk", fn := fun _ => fun
  | [d1, d2] => { results := [.lit (.bool true)], args := [d1, d2] }
  | _ => none }
def fnPageWalkRow : OpenClaim := { program := "ytmacpgoclhgafaadoor", sum := "6b09441b683129cf1d956f65f62cb32197baf3008704ba10fbaed91b54b49523", func := "loop.example/hubbub/laws.FnPageWalk", spec := "fnPageWalk", unfollowed := true, recurses := true, named := ["unicode/utf8.first", "unicode/utf8.acceptRanges"], apart := false, laid := [("unicode/utf8.acceptRanges", laid_unicode_utf8_acceptRanges), ("unicode/utf8.first", laid_unicode_utf8_first)] }
def FnPageWalkSaid : Prop := fnPageWalkRow.holds Tryd.pinned (OpenSpec.ofChange fnPageWalkSpec)

/-- ITS FALSE NEIGHBOUR: 'it returns false'. Refute it at one input. -/
def fnPageWalkWrong : ChangeSpec := { name := "fnPageWalk", fn := fun _ => fun
  | [d1, d2] => { results := [.lit (.bool false)], args := [d1, d2] }
  | _ => none }
def FnPageWalkWrongFalsely : Prop := fnPageWalkRow.holds Tryd.pinned (OpenSpec.ofChange fnPageWalkWrong)

/- THE SECOND FORM. 'bulk': how many values and letters a reading holds, each counted each time it is reached (what is shared counts as often as it is met; a slice's spare places count too). A statement '..UptoSaid' is the law's where the arguments, and the package variables that the reading takes, are together of bulk at most 1048576: NARROWER than '..Said'. Prove '..Said' where nothing that the law and all that it calls make is longer than what came in: it says more and counts as full. Else prove '..UptoSaid'. A law counts once. -/
mutual
def uptoBulk {H : Type} : DataW H → Nat
  | .lit (.string bytes) => bytes.length + 1
  | .lit _ => 1
  | .nil => 1
  | .ptr d => uptoBulk d + 1
  | .slice elems spare => uptoBulkAll elems + uptoBulkAll spare + 1
  | .agg parts => uptoBulkAll parts + 1
  | .iface _ d => uptoBulk d + 1
  | .map entries => uptoBulkEntries entries + 1
  | .held _ => 1
def uptoBulkAll {H : Type} : List (DataW H) → Nat
  | [] => 0
  | d :: r => uptoBulk d + uptoBulkAll r
def uptoBulkEntries {H : Type} : List (Lit × DataW H) → Nat
  | [] => 0
  | x :: r => uptoBulkEntry x + uptoBulkEntries r
def uptoBulkEntry {H : Type} : Lit × DataW H → Nat
  | (.string bytes, d) => bytes.length + uptoBulk d + 1
  | (_, d) => uptoBulk d + 1
 end
def uptoSmall : (H : Type) → List (DataW H) → Bool := fun _ ds => decide (uptoBulkAll ds ≤ 1048576)
def OpenSpec.upto (s : _root_.Go.ChangeSpec) : _root_.Go.OpenSpec := { _root_.Go.OpenSpec.ofChange s with cond := some uptoSmall }

/-- 'laws.FnExactRoomApply', WHERE WHAT IT READS IS OF BULK AT MOST 1048576: true; the input reads as it did. -/
def fnExactRoomApplyUptoRow : OpenClaim := { program := "ytmacpgoclhgafaadoor", sum := "6b09441b683129cf1d956f65f62cb32197baf3008704ba10fbaed91b54b49523", func := "loop.example/hubbub/laws.FnExactRoomApply", spec := "fnExactRoomApply", inPlace := ["slices.overlaps[loop.example/hubbub/impl.Rank]"], unfollowed := true, recurses := true, named := ["unicode/utf8.first", "unicode/utf8.acceptRanges"], apart := false, laid := [("unicode/utf8.acceptRanges", laid_unicode_utf8_acceptRanges), ("unicode/utf8.first", laid_unicode_utf8_first)], narrowed := true }
def FnExactRoomApplyUptoSaid : Prop := fnExactRoomApplyUptoRow.holds Tryd.pinned (OpenSpec.upto fnExactRoomApplySpec)

/-- 'laws.FnApply', WHERE WHAT IT READS IS OF BULK AT MOST 1048576: true; the input reads as it did. -/
def fnApplyUptoRow : OpenClaim := { program := "ytmacpgoclhgafaadoor", sum := "6b09441b683129cf1d956f65f62cb32197baf3008704ba10fbaed91b54b49523", func := "loop.example/hubbub/laws.FnApply", spec := "fnApply", inPlace := ["slices.overlaps[loop.example/hubbub/impl.Rank]"], unfollowed := true, recurses := true, named := ["unicode/utf8.first", "unicode/utf8.acceptRanges"], apart := false, laid := [("unicode/utf8.acceptRanges", laid_unicode_utf8_acceptRanges), ("unicode/utf8.first", laid_unicode_utf8_first)], narrowed := true }
def FnApplyUptoSaid : Prop := fnApplyUptoRow.holds Tryd.pinned (OpenSpec.upto fnApplySpec)

/-- 'laws.FnRoomMay', WHERE WHAT IT READS IS OF BULK AT MOST 1048576: true; the input reads as it did. -/
def fnRoomMayUptoRow : OpenClaim := { program := "ytmacpgoclhgafaadoor", sum := "6b09441b683129cf1d956f65f62cb32197baf3008704ba10fbaed91b54b49523", func := "loop.example/hubbub/laws.FnRoomMay", spec := "fnRoomMay", unfollowed := true, recurses := true, named := ["unicode/utf8.first", "unicode/utf8.acceptRanges"], apart := false, laid := [("unicode/utf8.acceptRanges", laid_unicode_utf8_acceptRanges), ("unicode/utf8.first", laid_unicode_utf8_first)], narrowed := true }
def FnRoomMayUptoSaid : Prop := fnRoomMayUptoRow.holds Tryd.pinned (OpenSpec.upto fnRoomMaySpec)

/-- 'laws.FnExactPageOf', WHERE WHAT IT READS IS OF BULK AT MOST 1048576: true; the input reads as it did. -/
def fnExactPageOfUptoRow : OpenClaim := { program := "ytmacpgoclhgafaadoor", sum := "6b09441b683129cf1d956f65f62cb32197baf3008704ba10fbaed91b54b49523", func := "loop.example/hubbub/laws.FnExactPageOf", spec := "fnExactPageOf", unfollowed := true, recurses := true, named := ["unicode/utf8.first", "unicode/utf8.acceptRanges"], apart := false, laid := [("unicode/utf8.acceptRanges", laid_unicode_utf8_acceptRanges), ("unicode/utf8.first", laid_unicode_utf8_first)], narrowed := true }
def FnExactPageOfUptoSaid : Prop := fnExactPageOfUptoRow.holds Tryd.pinned (OpenSpec.upto fnExactPageOfSpec)

/-- 'laws.FnPage', WHERE WHAT IT READS IS OF BULK AT MOST 1048576: true; the input reads as it did. -/
def fnPageUptoRow : OpenClaim := { program := "ytmacpgoclhgafaadoor", sum := "6b09441b683129cf1d956f65f62cb32197baf3008704ba10fbaed91b54b49523", func := "loop.example/hubbub/laws.FnPage", spec := "fnPage", unfollowed := true, recurses := true, named := ["unicode/utf8.first", "unicode/utf8.acceptRanges"], apart := false, laid := [("unicode/utf8.acceptRanges", laid_unicode_utf8_acceptRanges), ("unicode/utf8.first", laid_unicode_utf8_first)], narrowed := true }
def FnPageUptoSaid : Prop := fnPageUptoRow.holds Tryd.pinned (OpenSpec.upto fnPageSpec)

/-- 'laws.FnPageWalk', WHERE WHAT IT READS IS OF BULK AT MOST 1048576: true; the input reads as it did. -/
def fnPageWalkUptoRow : OpenClaim := { program := "ytmacpgoclhgafaadoor", sum := "6b09441b683129cf1d956f65f62cb32197baf3008704ba10fbaed91b54b49523", func := "loop.example/hubbub/laws.FnPageWalk", spec := "fnPageWalk", unfollowed := true, recurses := true, named := ["unicode/utf8.first", "unicode/utf8.acceptRanges"], apart := false, laid := [("unicode/utf8.acceptRanges", laid_unicode_utf8_acceptRanges), ("unicode/utf8.first", laid_unicode_utf8_first)], narrowed := true }
def FnPageWalkUptoSaid : Prop := fnPageWalkUptoRow.holds Tryd.pinned (OpenSpec.upto fnPageWalkSpec)

end Rows
end Go.Proofs.YtmacpgoclhgafaaDoor
