/-
  NARROWER THAN 'FOR EVERY INPUT', by the rows' own cells (each row's printed sentence says how): FnRoomDo: laid · FnRoomOwner: laid · FnRoomSame: laid · FnRoomHere: laid · FnRoomOut: laid · FnRoomTwice: laid.
  DERIVED. THE GIVEN ROWS OF THIS SEAT. 6 by the template 'for every input the law returns true; each argument reads behind the call as it read before'; 0 by the template 'total and deterministic' (their statements: YtmacpgoclhgafaaGreatDoorTotals.lean).
  GIVEN WITH THE SEED: the statements are not yours to turn. If you find one false, say at which input.
  Laid BY PROGRAM, IN A SANDBOX (cutbox-rows.mjs): the forced cells as the released guide's own fill.sh prints them over the translation 76ff4aa9c6ccf530… (all of the seat's roots in one cut). By AI agents, Wed Nov 11 2026. No macro, syntax, notation, axiom, sorry.
-/
import Derived.Test.YtmacpgoclhgafaaGreatDoorChecked
import GoSem.PinnedTables
import GoSem.Claim
import GoSem.ClaimJoined
import GoSem.ClaimMapViews
import Derived.JoinedTies
import Derived.KernelRfl
namespace Go.Proofs.YtmacpgoclhgafaaGreatDoor
/- THE CELL 'sum', in the pinned program and in every row, IS THE sha256 OF THE DUMP (.gsa) THAT YtmacpgoclhgafaaGreatDoorProg.lean LOADS. Nothing in Lean hashes anything: it is a label: what it is worth is what the hold of that sum in a sandbox is worth. -/
noncomputable def Tryz.pinned : Pinned := { name := "ytmacpgoclhgafaagreatdoor", sum := "76ff4aa9c6ccf530c38affe0b8acc4729e469687eca04c959073ee529a6412aa", checked := Tryz.checked }
namespace Rows
def none {H : Type} : Left H := { results := [], args := [] }

/- WHAT THE LISTED PACKAGE-LEVEL VARIABLES READ AS WHEN THE CALL BEGINS. Each datum BY PROGRAM (the guide's laid-datum.mjs) off the statement by which the dump's own 'gosem.cut.vars' lays the variable. In a bare row this is a premise. The card (YtmacpgoclhgafaaGreatDoorCards.lean) ties it to the program's text. -/
def laid_unicode_utf8_acceptRanges {H : Type} : DataW H := .agg [.agg [.lit (.int .u8 128), .lit (.int .u8 191)], .agg [.lit (.int .u8 160), .lit (.int .u8 191)], .agg [.lit (.int .u8 128), .lit (.int .u8 159)], .agg [.lit (.int .u8 144), .lit (.int .u8 191)], .agg [.lit (.int .u8 128), .lit (.int .u8 143)], .agg [.lit (.int .u8 0), .lit (.int .u8 0)], .agg [.lit (.int .u8 0), .lit (.int .u8 0)], .agg [.lit (.int .u8 0), .lit (.int .u8 0)], .agg [.lit (.int .u8 0), .lit (.int .u8 0)], .agg [.lit (.int .u8 0), .lit (.int .u8 0)], .agg [.lit (.int .u8 0), .lit (.int .u8 0)], .agg [.lit (.int .u8 0), .lit (.int .u8 0)], .agg [.lit (.int .u8 0), .lit (.int .u8 0)], .agg [.lit (.int .u8 0), .lit (.int .u8 0)], .agg [.lit (.int .u8 0), .lit (.int .u8 0)], .agg [.lit (.int .u8 0), .lit (.int .u8 0)]]
/-- One of Go's own tables, pinned by name: the form's constant. -/
def laid_unicode_utf8_first : DataW Unit := Go.Pinned.utf8First

/-- 'laws.FnRoomDo': WHATEVER THE INPUT: true; the input reads as it did. -/
def fnRoomDoSpec : ChangeSpec := { name := "fnRoomDo", fn := fun _ => fun
  | [d] => { results := [.lit (.bool true)], args := [d] }
  | _ => none }
def fnRoomDoRow : OpenClaim := { program := "ytmacpgoclhgafaagreatdoor", sum := "76ff4aa9c6ccf530c38affe0b8acc4729e469687eca04c959073ee529a6412aa", func := "loop.example/hubbub/laws.FnRoomDo", spec := "fnRoomDo", inPlace := ["slices.overlaps[loop.example/hubbub/impl.Rank]"], unfollowed := true, recurses := true, named := ["unicode/utf8.first", "unicode/utf8.acceptRanges"], apart := false, laid := [("unicode/utf8.acceptRanges", laid_unicode_utf8_acceptRanges), ("unicode/utf8.first", laid_unicode_utf8_first)] }
def FnRoomDoSaid : Prop := fnRoomDoRow.holds Tryz.pinned (OpenSpec.ofChange fnRoomDoSpec)

/-- ITS FALSE NEIGHBOUR: 'it returns false'. Refute it at one input. -/
def fnRoomDoWrong : ChangeSpec := { name := "fnRoomDo", fn := fun _ => fun
  | [d] => { results := [.lit (.bool false)], args := [d] }
  | _ => none }
def FnRoomDoWrongFalsely : Prop := fnRoomDoRow.holds Tryz.pinned (OpenSpec.ofChange fnRoomDoWrong)

/-- 'laws.FnRoomOwner': WHATEVER THE INPUT: true; the input reads as it did. -/
def fnRoomOwnerSpec : ChangeSpec := { name := "fnRoomOwner", fn := fun _ => fun
  | [d] => { results := [.lit (.bool true)], args := [d] }
  | _ => none }
def fnRoomOwnerRow : OpenClaim := { program := "ytmacpgoclhgafaagreatdoor", sum := "76ff4aa9c6ccf530c38affe0b8acc4729e469687eca04c959073ee529a6412aa", func := "loop.example/hubbub/laws.FnRoomOwner", spec := "fnRoomOwner", inPlace := ["slices.overlaps[loop.example/hubbub/impl.Rank]"], unfollowed := true, recurses := true, named := ["unicode/utf8.first", "unicode/utf8.acceptRanges"], apart := false, laid := [("unicode/utf8.acceptRanges", laid_unicode_utf8_acceptRanges), ("unicode/utf8.first", laid_unicode_utf8_first)] }
def FnRoomOwnerSaid : Prop := fnRoomOwnerRow.holds Tryz.pinned (OpenSpec.ofChange fnRoomOwnerSpec)

/-- ITS FALSE NEIGHBOUR: 'it returns false'. Refute it at one input. -/
def fnRoomOwnerWrong : ChangeSpec := { name := "fnRoomOwner", fn := fun _ => fun
  | [d] => { results := [.lit (.bool false)], args := [d] }
  | _ => none }
def FnRoomOwnerWrongFalsely : Prop := fnRoomOwnerRow.holds Tryz.pinned (OpenSpec.ofChange fnRoomOwnerWrong)

/-- 'laws.FnRoomSame': WHATEVER THE INPUT: true; the input reads as it did. -/
def fnRoomSameSpec : ChangeSpec := { name := "fnRoomSame", fn := fun _ => fun
  | [d] => { results := [.lit (.bool true)], args := [d] }
  | _ => none }
def fnRoomSameRow : OpenClaim := { program := "ytmacpgoclhgafaagreatdoor", sum := "76ff4aa9c6ccf530c38affe0b8acc4729e469687eca04c959073ee529a6412aa", func := "loop.example/hubbub/laws.FnRoomSame", spec := "fnRoomSame", inPlace := ["slices.overlaps[loop.example/hubbub/impl.Rank]"], unfollowed := true, recurses := true, named := ["unicode/utf8.first", "unicode/utf8.acceptRanges"], apart := false, laid := [("unicode/utf8.acceptRanges", laid_unicode_utf8_acceptRanges), ("unicode/utf8.first", laid_unicode_utf8_first)] }
def FnRoomSameSaid : Prop := fnRoomSameRow.holds Tryz.pinned (OpenSpec.ofChange fnRoomSameSpec)

/-- ITS FALSE NEIGHBOUR: 'it returns false'. Refute it at one input. -/
def fnRoomSameWrong : ChangeSpec := { name := "fnRoomSame", fn := fun _ => fun
  | [d] => { results := [.lit (.bool false)], args := [d] }
  | _ => none }
def FnRoomSameWrongFalsely : Prop := fnRoomSameRow.holds Tryz.pinned (OpenSpec.ofChange fnRoomSameWrong)

/-- 'laws.FnRoomHere': WHATEVER THE INPUT: true; the input reads as it did. -/
def fnRoomHereSpec : ChangeSpec := { name := "fnRoomHere", fn := fun _ => fun
  | [d] => { results := [.lit (.bool true)], args := [d] }
  | _ => none }
def fnRoomHereRow : OpenClaim := { program := "ytmacpgoclhgafaagreatdoor", sum := "76ff4aa9c6ccf530c38affe0b8acc4729e469687eca04c959073ee529a6412aa", func := "loop.example/hubbub/laws.FnRoomHere", spec := "fnRoomHere", inPlace := ["slices.overlaps[loop.example/hubbub/impl.Rank]"], unfollowed := true, recurses := true, named := ["unicode/utf8.first", "unicode/utf8.acceptRanges"], apart := false, laid := [("unicode/utf8.acceptRanges", laid_unicode_utf8_acceptRanges), ("unicode/utf8.first", laid_unicode_utf8_first)] }
def FnRoomHereSaid : Prop := fnRoomHereRow.holds Tryz.pinned (OpenSpec.ofChange fnRoomHereSpec)

/-- ITS FALSE NEIGHBOUR: 'it returns false'. Refute it at one input. -/
def fnRoomHereWrong : ChangeSpec := { name := "fnRoomHere", fn := fun _ => fun
  | [d] => { results := [.lit (.bool false)], args := [d] }
  | _ => none }
def FnRoomHereWrongFalsely : Prop := fnRoomHereRow.holds Tryz.pinned (OpenSpec.ofChange fnRoomHereWrong)

/-- 'laws.FnRoomOut': WHATEVER THE INPUT: true; the input reads as it did. -/
def fnRoomOutSpec : ChangeSpec := { name := "fnRoomOut", fn := fun _ => fun
  | [d] => { results := [.lit (.bool true)], args := [d] }
  | _ => none }
def fnRoomOutRow : OpenClaim := { program := "ytmacpgoclhgafaagreatdoor", sum := "76ff4aa9c6ccf530c38affe0b8acc4729e469687eca04c959073ee529a6412aa", func := "loop.example/hubbub/laws.FnRoomOut", spec := "fnRoomOut", inPlace := ["slices.overlaps[loop.example/hubbub/impl.Rank]"], unfollowed := true, recurses := true, named := ["unicode/utf8.first", "unicode/utf8.acceptRanges"], apart := false, laid := [("unicode/utf8.acceptRanges", laid_unicode_utf8_acceptRanges), ("unicode/utf8.first", laid_unicode_utf8_first)] }
def FnRoomOutSaid : Prop := fnRoomOutRow.holds Tryz.pinned (OpenSpec.ofChange fnRoomOutSpec)

/-- ITS FALSE NEIGHBOUR: 'it returns false'. Refute it at one input. -/
def fnRoomOutWrong : ChangeSpec := { name := "fnRoomOut", fn := fun _ => fun
  | [d] => { results := [.lit (.bool false)], args := [d] }
  | _ => none }
def FnRoomOutWrongFalsely : Prop := fnRoomOutRow.holds Tryz.pinned (OpenSpec.ofChange fnRoomOutWrong)

/-- 'laws.FnRoomTwice': WHATEVER THE INPUT: true; the input reads as it did. -/
def fnRoomTwiceSpec : ChangeSpec := { name := "fnRoomTwice", fn := fun _ => fun
  | [d] => { results := [.lit (.bool true)], args := [d] }
  | _ => none }
def fnRoomTwiceRow : OpenClaim := { program := "ytmacpgoclhgafaagreatdoor", sum := "76ff4aa9c6ccf530c38affe0b8acc4729e469687eca04c959073ee529a6412aa", func := "loop.example/hubbub/laws.FnRoomTwice", spec := "fnRoomTwice", inPlace := ["slices.overlaps[loop.example/hubbub/impl.Rank]"], unfollowed := true, recurses := true, named := ["unicode/utf8.first", "unicode/utf8.acceptRanges"], apart := false, laid := [("unicode/utf8.acceptRanges", laid_unicode_utf8_acceptRanges), ("unicode/utf8.first", laid_unicode_utf8_first)] }
def FnRoomTwiceSaid : Prop := fnRoomTwiceRow.holds Tryz.pinned (OpenSpec.ofChange fnRoomTwiceSpec)

/-- ITS FALSE NEIGHBOUR: 'it returns false'. Refute it at one input. -/
def fnRoomTwiceWrong : ChangeSpec := { name := "fnRoomTwice", fn := fun _ => fun
  | [d] => { results := [.lit (.bool false)], args := [d] }
  | _ => none }
def FnRoomTwiceWrongFalsely : Prop := fnRoomTwiceRow.holds Tryz.pinned (OpenSpec.ofChange fnRoomTwiceWrong)

/- THE SECOND FORM. 'bulk': how many values and letters a reading holds, each counted each time it is reached (what is shared counts as often as it is met; a slice's spare places count too). A statement '..UptoSaid' is the law's where the arguments, and the package variables that the reading takes, are together of bulk at most 1048576: NARROWER than '..Said'. Prove '..Said' where nothing that the law and all that it calls make is longer than what came in: it says more and counts as full. Else prove '..UptoSaid'. A law counts once. -/
mutual
def uptoBulk {H : Type} : DataW H → Nat
  | .lit (.string bytes) => bytes.length + 1
  | .lit _ => 1
  | .nil => 1
  | .ptr d => uptoBulk d + 1
  | .slice elems spare => uptoBulkAll elems + uptoBulkAll spare + 1
  | .agg parts => uptoBulkAll parts + 1
  | .iface _ d => uptoBulk d + 1
  | .map entries => uptoBulkEntries entries + 1
  | .held _ => 1
def uptoBulkAll {H : Type} : List (DataW H) → Nat
  | [] => 0
  | d :: r => uptoBulk d + uptoBulkAll r
def uptoBulkEntries {H : Type} : List (Lit × DataW H) → Nat
  | [] => 0
  | x :: r => uptoBulkEntry x + uptoBulkEntries r
def uptoBulkEntry {H : Type} : Lit × DataW H → Nat
  | (.string bytes, d) => bytes.length + uptoBulk d + 1
  | (_, d) => uptoBulk d + 1
 end
def uptoSmall : (H : Type) → List (DataW H) → Bool := fun _ ds => decide (uptoBulkAll ds ≤ 1048576)
def OpenSpec.upto (s : _root_.Go.ChangeSpec) : _root_.Go.OpenSpec := { _root_.Go.OpenSpec.ofChange s with cond := some uptoSmall }

/-- 'laws.FnRoomDo', WHERE WHAT IT READS IS OF BULK AT MOST 1048576: true; the input reads as it did. -/
def fnRoomDoUptoRow : OpenClaim := { program := "ytmacpgoclhgafaagreatdoor", sum := "76ff4aa9c6ccf530c38affe0b8acc4729e469687eca04c959073ee529a6412aa", func := "loop.example/hubbub/laws.FnRoomDo", spec := "fnRoomDo", inPlace := ["slices.overlaps[loop.example/hubbub/impl.Rank]"], unfollowed := true, recurses := true, named := ["unicode/utf8.first", "unicode/utf8.acceptRanges"], apart := false, laid := [("unicode/utf8.acceptRanges", laid_unicode_utf8_acceptRanges), ("unicode/utf8.first", laid_unicode_utf8_first)], narrowed := true }
def FnRoomDoUptoSaid : Prop := fnRoomDoUptoRow.holds Tryz.pinned (OpenSpec.upto fnRoomDoSpec)

/-- 'laws.FnRoomOwner', WHERE WHAT IT READS IS OF BULK AT MOST 1048576: true; the input reads as it did. -/
def fnRoomOwnerUptoRow : OpenClaim := { program := "ytmacpgoclhgafaagreatdoor", sum := "76ff4aa9c6ccf530c38affe0b8acc4729e469687eca04c959073ee529a6412aa", func := "loop.example/hubbub/laws.FnRoomOwner", spec := "fnRoomOwner", inPlace := ["slices.overlaps[loop.example/hubbub/impl.Rank]"], unfollowed := true, recurses := true, named := ["unicode/utf8.first", "unicode/utf8.acceptRanges"], apart := false, laid := [("unicode/utf8.acceptRanges", laid_unicode_utf8_acceptRanges), ("unicode/utf8.first", laid_unicode_utf8_first)], narrowed := true }
def FnRoomOwnerUptoSaid : Prop := fnRoomOwnerUptoRow.holds Tryz.pinned (OpenSpec.upto fnRoomOwnerSpec)

/-- 'laws.FnRoomSame', WHERE WHAT IT READS IS OF BULK AT MOST 1048576: true; the input reads as it did. -/
def fnRoomSameUptoRow : OpenClaim := { program := "ytmacpgoclhgafaagreatdoor", sum := "76ff4aa9c6ccf530c38affe0b8acc4729e469687eca04c959073ee529a6412aa", func := "loop.example/hubbub/laws.FnRoomSame", spec := "fnRoomSame", inPlace := ["slices.overlaps[loop.example/hubbub/impl.Rank]"], unfollowed := true, recurses := true, named := ["unicode/utf8.first", "unicode/utf8.acceptRanges"], apart := false, laid := [("unicode/utf8.acceptRanges", laid_unicode_utf8_acceptRanges), ("unicode/utf8.first", laid_unicode_utf8_first)], narrowed := true }
def FnRoomSameUptoSaid : Prop := fnRoomSameUptoRow.holds Tryz.pinned (OpenSpec.upto fnRoomSameSpec)

/-- 'laws.FnRoomHere', WHERE WHAT IT READS IS OF BULK AT MOST 1048576: true; the input reads as it did. -/
def fnRoomHereUptoRow : OpenClaim := { program := "ytmacpgoclhgafaagreatdoor", sum := "76ff4aa9c6ccf530c38affe0b8acc4729e469687eca04c959073ee529a6412aa", func := "loop.example/hubbub/laws.FnRoomHere", spec := "fnRoomHere", inPlace := ["slices.overlaps[loop.example/hubbub/impl.Rank]"], unfollowed := true, recurses := true, named := ["unicode/utf8.first", "unicode/utf8.acceptRanges"], apart := false, laid := [("unicode/utf8.acceptRanges", laid_unicode_utf8_acceptRanges), ("unicode/utf8.first", laid_unicode_utf8_first)], narrowed := true }
def FnRoomHereUptoSaid : Prop := fnRoomHereUptoRow.holds Tryz.pinned (OpenSpec.upto fnRoomHereSpec)

/-- 'laws.FnRoomOut', WHERE WHAT IT READS IS OF BULK AT MOST 1048576: true; the input reads as it did. -/
def fnRoomOutUptoRow : OpenClaim := { program := "ytmacpgoclhgafaagreatdoor", sum := "76ff4aa9c6ccf530c38affe0b8acc4729e469687eca04c959073ee529a6412aa", func := "loop.example/hubbub/laws.FnRoomOut", spec := "fnRoomOut", inPlace := ["slices.overlaps[loop.example/hubbub/impl.Rank]"], unfollowed := true, recurses := true, named := ["unicode/utf8.first", "unicode/utf8.acceptRanges"], apart := false, laid := [("unicode/utf8.acceptRanges", laid_unicode_utf8_acceptRanges), ("unicode/utf8.first", laid_unicode_utf8_first)], narrowed := true }
def FnRoomOutUptoSaid : Prop := fnRoomOutUptoRow.holds Tryz.pinned (OpenSpec.upto fnRoomOutSpec)

/-- 'laws.FnRoomTwice', WHERE WHAT IT READS IS OF BULK AT MOST 1048576: true; the input reads as it did. -/
def fnRoomTwiceUptoRow : OpenClaim := { program := "ytmacpgoclhgafaagreatdoor", sum := "76ff4aa9c6ccf530c38affe0b8acc4729e469687eca04c959073ee529a6412aa", func := "loop.example/hubbub/laws.FnRoomTwice", spec := "fnRoomTwice", inPlace := ["slices.overlaps[loop.example/hubbub/impl.Rank]"], unfollowed := true, recurses := true, named := ["unicode/utf8.first", "unicode/utf8.acceptRanges"], apart := false, laid := [("unicode/utf8.acceptRanges", laid_unicode_utf8_acceptRanges), ("unicode/utf8.first", laid_unicode_utf8_first)], narrowed := true }
def FnRoomTwiceUptoSaid : Prop := fnRoomTwiceUptoRow.holds Tryz.pinned (OpenSpec.upto fnRoomTwiceSpec)

end Rows
end Go.Proofs.YtmacpgoclhgafaaGreatDoor
