/-
  NARROWER THAN 'FOR EVERY INPUT', by the rows' own cells (each row's printed sentence says how): FnExactTextOk: laid · FnTextCut: laid · FnExactJidOk: laid · FnExactJidPut: laid · FnExactJidGet: laid · FnJidParts: laid · FnJidPut: laid · FnJidGet: laid · FnExactSayOk: laid · FnExactEntryOk: laid · FnExactRoomOk: laid.
  DERIVED. THE GIVEN ROWS OF THIS SEAT. 11 by the template 'for every input the law returns true; each argument reads behind the call as it read before'; 0 by the template 'total and deterministic' (their statements: YtgjecacalpaacaaDoorTotals.lean).
  GIVEN WITH THE SEED: the statements are not yours to turn. If you find one false, say at which input.
  Laid BY PROGRAM, IN A SANDBOX (cutbox-rows.mjs): the forced cells as the released guide's own fill.sh prints them over the translation 79164a7faffc2cfd… (all of the seat's roots in one cut). By AI agents, Wed Nov 11 2026. No macro, syntax, notation, axiom, sorry.
-/
import Derived.Test.YtgjecacalpaacaaDoorChecked
import GoSem.PinnedTables
import GoSem.Claim
import GoSem.ClaimJoined
import GoSem.ClaimMapViews
import Derived.JoinedTies
import Derived.KernelRfl
namespace Go.Proofs.YtgjecacalpaacaaDoor
/- THE CELL 'sum', in the pinned program and in every row, IS THE sha256 OF THE DUMP (.gsa) THAT YtgjecacalpaacaaDoorProg.lean LOADS. Nothing in Lean hashes anything: it is a label: what it is worth is what the hold of that sum in a sandbox is worth. -/
noncomputable def Tryd.pinned : Pinned := { name := "ytgjecacalpaacaadoor", sum := "79164a7faffc2cfd279490f71422ec6c8d74d3b7846ee667d116534b9977734a", checked := Tryd.checked }
namespace Rows
def none {H : Type} : Left H := { results := [], args := [] }

/- WHAT THE LISTED PACKAGE-LEVEL VARIABLES READ AS WHEN THE CALL BEGINS. Each datum BY PROGRAM (the guide's laid-datum.mjs) off the statement by which the dump's own 'gosem.cut.vars' lays the variable. In a bare row this is a premise. The card (YtgjecacalpaacaaDoorCards.lean) ties it to the program's text. -/
def laid_unicode_utf8_acceptRanges {H : Type} : DataW H := .agg [.agg [.lit (.int .u8 128), .lit (.int .u8 191)], .agg [.lit (.int .u8 160), .lit (.int .u8 191)], .agg [.lit (.int .u8 128), .lit (.int .u8 159)], .agg [.lit (.int .u8 144), .lit (.int .u8 191)], .agg [.lit (.int .u8 128), .lit (.int .u8 143)], .agg [.lit (.int .u8 0), .lit (.int .u8 0)], .agg [.lit (.int .u8 0), .lit (.int .u8 0)], .agg [.lit (.int .u8 0), .lit (.int .u8 0)], .agg [.lit (.int .u8 0), .lit (.int .u8 0)], .agg [.lit (.int .u8 0), .lit (.int .u8 0)], .agg [.lit (.int .u8 0), .lit (.int .u8 0)], .agg [.lit (.int .u8 0), .lit (.int .u8 0)], .agg [.lit (.int .u8 0), .lit (.int .u8 0)], .agg [.lit (.int .u8 0), .lit (.int .u8 0)], .agg [.lit (.int .u8 0), .lit (.int .u8 0)], .agg [.lit (.int .u8 0), .lit (.int .u8 0)]]
/-- One of Go's own tables, pinned by name: the form's constant. -/
def laid_unicode_utf8_first : DataW Unit := Go.Pinned.utf8First

/-- 'laws.FnExactTextOk': WHATEVER THE INPUT: true; the input reads as it did. -/
def fnExactTextOkSpec : ChangeSpec := { name := "fnExactTextOk", fn := fun _ => fun
  | [d] => { results := [.lit (.bool true)], args := [d] }
  | _ => none }
def fnExactTextOkRow : OpenClaim := { program := "ytgjecacalpaacaadoor", sum := "79164a7faffc2cfd279490f71422ec6c8d74d3b7846ee667d116534b9977734a", func := "loop.example/hubbub/laws.FnExactTextOk", spec := "fnExactTextOk", named := ["unicode/utf8.first", "unicode/utf8.acceptRanges"], apart := false, laid := [("unicode/utf8.acceptRanges", laid_unicode_utf8_acceptRanges), ("unicode/utf8.first", laid_unicode_utf8_first)] }
def FnExactTextOkSaid : Prop := fnExactTextOkRow.holds Tryd.pinned (OpenSpec.ofChange fnExactTextOkSpec)

/-- ITS FALSE NEIGHBOUR: 'it returns false'. Refute it at one input. -/
def fnExactTextOkWrong : ChangeSpec := { name := "fnExactTextOk", fn := fun _ => fun
  | [d] => { results := [.lit (.bool false)], args := [d] }
  | _ => none }
def FnExactTextOkWrongFalsely : Prop := fnExactTextOkRow.holds Tryd.pinned (OpenSpec.ofChange fnExactTextOkWrong)

/-- 'laws.FnTextCut': WHATEVER THE INPUT: true; the input reads as it did. -/
def fnTextCutSpec : ChangeSpec := { name := "fnTextCut", fn := fun _ => fun
  | [d1, d2] => { results := [.lit (.bool true)], args := [d1, d2] }
  | _ => none }
def fnTextCutRow : OpenClaim := { program := "ytgjecacalpaacaadoor", sum := "79164a7faffc2cfd279490f71422ec6c8d74d3b7846ee667d116534b9977734a", func := "loop.example/hubbub/laws.FnTextCut", spec := "fnTextCut", named := ["unicode/utf8.first", "unicode/utf8.acceptRanges"], apart := false, laid := [("unicode/utf8.acceptRanges", laid_unicode_utf8_acceptRanges), ("unicode/utf8.first", laid_unicode_utf8_first)] }
def FnTextCutSaid : Prop := fnTextCutRow.holds Tryd.pinned (OpenSpec.ofChange fnTextCutSpec)

/-- ITS FALSE NEIGHBOUR: 'it returns false'. Refute it at one input. -/
def fnTextCutWrong : ChangeSpec := { name := "fnTextCut", fn := fun _ => fun
  | [d1, d2] => { results := [.lit (.bool false)], args := [d1, d2] }
  | _ => none }
def FnTextCutWrongFalsely : Prop := fnTextCutRow.holds Tryd.pinned (OpenSpec.ofChange fnTextCutWrong)

/-- 'laws.FnExactJidOk': WHATEVER THE INPUT: true; the input reads as it did. -/
def fnExactJidOkSpec : ChangeSpec := { name := "fnExactJidOk", fn := fun _ => fun
  | [d] => { results := [.lit (.bool true)], args := [d] }
  | _ => none }
def fnExactJidOkRow : OpenClaim := { program := "ytgjecacalpaacaadoor", sum := "79164a7faffc2cfd279490f71422ec6c8d74d3b7846ee667d116534b9977734a", func := "loop.example/hubbub/laws.FnExactJidOk", spec := "fnExactJidOk", inPlace := ["internal/bytealg.IndexByteString", "internal/bytealg.IndexString"], unfollowed := true, recurses := true, named := ["unicode/utf8.first", "unicode/utf8.acceptRanges", "internal/bytealg.MaxLen"], apart := false, laid := [("unicode/utf8.acceptRanges", laid_unicode_utf8_acceptRanges), ("unicode/utf8.first", laid_unicode_utf8_first)] }
def FnExactJidOkSaid : Prop := fnExactJidOkRow.holds Tryd.pinned (OpenSpec.ofChange fnExactJidOkSpec)

/-- ITS FALSE NEIGHBOUR: 'it returns false'. Refute it at one input. -/
def fnExactJidOkWrong : ChangeSpec := { name := "fnExactJidOk", fn := fun _ => fun
  | [d] => { results := [.lit (.bool false)], args := [d] }
  | _ => none }
def FnExactJidOkWrongFalsely : Prop := fnExactJidOkRow.holds Tryd.pinned (OpenSpec.ofChange fnExactJidOkWrong)

/-- 'laws.FnExactJidPut': WHATEVER THE INPUT: true; the input reads as it did. -/
def fnExactJidPutSpec : ChangeSpec := { name := "fnExactJidPut", fn := fun _ => fun
  | [d] => { results := [.lit (.bool true)], args := [d] }
  | _ => none }
def fnExactJidPutRow : OpenClaim := { program := "ytgjecacalpaacaadoor", sum := "79164a7faffc2cfd279490f71422ec6c8d74d3b7846ee667d116534b9977734a", func := "loop.example/hubbub/laws.FnExactJidPut", spec := "fnExactJidPut", inPlace := ["internal/bytealg.IndexByteString", "internal/bytealg.IndexString"], unfollowed := true, recurses := true, named := ["unicode/utf8.first", "unicode/utf8.acceptRanges", "internal/bytealg.MaxLen"], apart := false, laid := [("unicode/utf8.acceptRanges", laid_unicode_utf8_acceptRanges), ("unicode/utf8.first", laid_unicode_utf8_first)] }
def FnExactJidPutSaid : Prop := fnExactJidPutRow.holds Tryd.pinned (OpenSpec.ofChange fnExactJidPutSpec)

/-- ITS FALSE NEIGHBOUR: 'it returns false'. Refute it at one input. -/
def fnExactJidPutWrong : ChangeSpec := { name := "fnExactJidPut", fn := fun _ => fun
  | [d] => { results := [.lit (.bool false)], args := [d] }
  | _ => none }
def FnExactJidPutWrongFalsely : Prop := fnExactJidPutRow.holds Tryd.pinned (OpenSpec.ofChange fnExactJidPutWrong)

/-- 'laws.FnExactJidGet': WHATEVER THE INPUT: true; the input reads as it did. -/
def fnExactJidGetSpec : ChangeSpec := { name := "fnExactJidGet", fn := fun _ => fun
  | [d] => { results := [.lit (.bool true)], args := [d] }
  | _ => none }
def fnExactJidGetRow : OpenClaim := { program := "ytgjecacalpaacaadoor", sum := "79164a7faffc2cfd279490f71422ec6c8d74d3b7846ee667d116534b9977734a", func := "loop.example/hubbub/laws.FnExactJidGet", spec := "fnExactJidGet", inPlace := ["internal/bytealg.IndexByteString", "internal/bytealg.IndexString"], unfollowed := true, recurses := true, named := ["internal/bytealg.MaxLen", "unicode/utf8.first", "unicode/utf8.acceptRanges"], apart := false, laid := [("unicode/utf8.acceptRanges", laid_unicode_utf8_acceptRanges), ("unicode/utf8.first", laid_unicode_utf8_first)] }
def FnExactJidGetSaid : Prop := fnExactJidGetRow.holds Tryd.pinned (OpenSpec.ofChange fnExactJidGetSpec)

/-- ITS FALSE NEIGHBOUR: 'it returns false'. Refute it at one input. -/
def fnExactJidGetWrong : ChangeSpec := { name := "fnExactJidGet", fn := fun _ => fun
  | [d] => { results := [.lit (.bool false)], args := [d] }
  | _ => none }
def FnExactJidGetWrongFalsely : Prop := fnExactJidGetRow.holds Tryd.pinned (OpenSpec.ofChange fnExactJidGetWrong)

/-- 'laws.FnJidParts': WHATEVER THE INPUT: true; the input reads as it did. -/
def fnJidPartsSpec : ChangeSpec := { name := "fnJidParts", fn := fun _ => fun
  | [d] => { results := [.lit (.bool true)], args := [d] }
  | _ => none }
def fnJidPartsRow : OpenClaim := { program := "ytgjecacalpaacaadoor", sum := "79164a7faffc2cfd279490f71422ec6c8d74d3b7846ee667d116534b9977734a", func := "loop.example/hubbub/laws.FnJidParts", spec := "fnJidParts", inPlace := ["internal/bytealg.IndexByteString", "internal/bytealg.IndexString"], unfollowed := true, recurses := true, named := ["unicode/utf8.first", "unicode/utf8.acceptRanges", "internal/bytealg.MaxLen"], apart := false, laid := [("unicode/utf8.acceptRanges", laid_unicode_utf8_acceptRanges), ("unicode/utf8.first", laid_unicode_utf8_first)] }
def FnJidPartsSaid : Prop := fnJidPartsRow.holds Tryd.pinned (OpenSpec.ofChange fnJidPartsSpec)

/-- ITS FALSE NEIGHBOUR: 'it returns false'. Refute it at one input. -/
def fnJidPartsWrong : ChangeSpec := { name := "fnJidParts", fn := fun _ => fun
  | [d] => { results := [.lit (.bool false)], args := [d] }
  | _ => none }
def FnJidPartsWrongFalsely : Prop := fnJidPartsRow.holds Tryd.pinned (OpenSpec.ofChange fnJidPartsWrong)

/-- 'laws.FnJidPut': WHATEVER THE INPUT: true; the input reads as it did. -/
def fnJidPutSpec : ChangeSpec := { name := "fnJidPut", fn := fun _ => fun
  | [d] => { results := [.lit (.bool true)], args := [d] }
  | _ => none }
def fnJidPutRow : OpenClaim := { program := "ytgjecacalpaacaadoor", sum := "79164a7faffc2cfd279490f71422ec6c8d74d3b7846ee667d116534b9977734a", func := "loop.example/hubbub/laws.FnJidPut", spec := "fnJidPut", inPlace := ["internal/bytealg.IndexByteString", "internal/bytealg.IndexString"], unfollowed := true, recurses := true, named := ["unicode/utf8.first", "unicode/utf8.acceptRanges", "internal/bytealg.MaxLen"], apart := false, laid := [("unicode/utf8.acceptRanges", laid_unicode_utf8_acceptRanges), ("unicode/utf8.first", laid_unicode_utf8_first)] }
def FnJidPutSaid : Prop := fnJidPutRow.holds Tryd.pinned (OpenSpec.ofChange fnJidPutSpec)

/-- ITS FALSE NEIGHBOUR: 'it returns false'. Refute it at one input. -/
def fnJidPutWrong : ChangeSpec := { name := "fnJidPut", fn := fun _ => fun
  | [d] => { results := [.lit (.bool false)], args := [d] }
  | _ => none }
def FnJidPutWrongFalsely : Prop := fnJidPutRow.holds Tryd.pinned (OpenSpec.ofChange fnJidPutWrong)

/-- 'laws.FnJidGet': WHATEVER THE INPUT: true; the input reads as it did. -/
def fnJidGetSpec : ChangeSpec := { name := "fnJidGet", fn := fun _ => fun
  | [d] => { results := [.lit (.bool true)], args := [d] }
  | _ => none }
def fnJidGetRow : OpenClaim := { program := "ytgjecacalpaacaadoor", sum := "79164a7faffc2cfd279490f71422ec6c8d74d3b7846ee667d116534b9977734a", func := "loop.example/hubbub/laws.FnJidGet", spec := "fnJidGet", inPlace := ["internal/bytealg.IndexByteString", "internal/bytealg.IndexString"], unfollowed := true, recurses := true, named := ["internal/bytealg.MaxLen", "unicode/utf8.first", "unicode/utf8.acceptRanges"], apart := false, laid := [("unicode/utf8.acceptRanges", laid_unicode_utf8_acceptRanges), ("unicode/utf8.first", laid_unicode_utf8_first)] }
def FnJidGetSaid : Prop := fnJidGetRow.holds Tryd.pinned (OpenSpec.ofChange fnJidGetSpec)

/-- ITS FALSE NEIGHBOUR: 'it returns false'. Refute it at one input. -/
def fnJidGetWrong : ChangeSpec := { name := "fnJidGet", fn := fun _ => fun
  | [d] => { results := [.lit (.bool false)], args := [d] }
  | _ => none }
def FnJidGetWrongFalsely : Prop := fnJidGetRow.holds Tryd.pinned (OpenSpec.ofChange fnJidGetWrong)

/-- 'laws.FnExactSayOk': WHATEVER THE INPUT: true; the input reads as it did. -/
def fnExactSayOkSpec : ChangeSpec := { name := "fnExactSayOk", fn := fun _ => fun
  | [d] => { results := [.lit (.bool true)], args := [d] }
  | _ => none }
def fnExactSayOkRow : OpenClaim := { program := "ytgjecacalpaacaadoor", sum := "79164a7faffc2cfd279490f71422ec6c8d74d3b7846ee667d116534b9977734a", func := "loop.example/hubbub/laws.FnExactSayOk", spec := "fnExactSayOk", unfollowed := true, recurses := true, named := ["unicode/utf8.first", "unicode/utf8.acceptRanges"], apart := false, laid := [("unicode/utf8.acceptRanges", laid_unicode_utf8_acceptRanges), ("unicode/utf8.first", laid_unicode_utf8_first)] }
def FnExactSayOkSaid : Prop := fnExactSayOkRow.holds Tryd.pinned (OpenSpec.ofChange fnExactSayOkSpec)

/-- ITS FALSE NEIGHBOUR: 'it returns false'. Refute it at one input. -/
def fnExactSayOkWrong : ChangeSpec := { name := "fnExactSayOk", fn := fun _ => fun
  | [d] => { results := [.lit (.bool false)], args := [d] }
  | _ => none }
def FnExactSayOkWrongFalsely : Prop := fnExactSayOkRow.holds Tryd.pinned (OpenSpec.ofChange fnExactSayOkWrong)

/-- 'laws.FnExactEntryOk': WHATEVER THE INPUT: true; the input reads as it did. -/
def fnExactEntryOkSpec : ChangeSpec := { name := "fnExactEntryOk", fn := fun _ => fun
  | [d] => { results := [.lit (.bool true)], args := [d] }
  | _ => none }
def fnExactEntryOkRow : OpenClaim := { program := "ytgjecacalpaacaadoor", sum := "79164a7faffc2cfd279490f71422ec6c8d74d3b7846ee667d116534b9977734a", func := "loop.example/hubbub/laws.FnExactEntryOk", spec := "fnExactEntryOk", unfollowed := true, recurses := true, named := ["unicode/utf8.first", "unicode/utf8.acceptRanges"], apart := false, laid := [("unicode/utf8.acceptRanges", laid_unicode_utf8_acceptRanges), ("unicode/utf8.first", laid_unicode_utf8_first)] }
def FnExactEntryOkSaid : Prop := fnExactEntryOkRow.holds Tryd.pinned (OpenSpec.ofChange fnExactEntryOkSpec)

/-- ITS FALSE NEIGHBOUR: 'it returns false'. Refute it at one input. -/
def fnExactEntryOkWrong : ChangeSpec := { name := "fnExactEntryOk", fn := fun _ => fun
  | [d] => { results := [.lit (.bool false)], args := [d] }
  | _ => none }
def FnExactEntryOkWrongFalsely : Prop := fnExactEntryOkRow.holds Tryd.pinned (OpenSpec.ofChange fnExactEntryOkWrong)

/-- 'laws.FnExactRoomOk': WHATEVER THE INPUT: true; the input reads as it did. -/
def fnExactRoomOkSpec : ChangeSpec := { name := "fnExactRoomOk", fn := fun _ => fun
  | [d] => { results := [.lit (.bool true)], args := [d] }
  | _ => none }
def fnExactRoomOkRow : OpenClaim := { program := "ytgjecacalpaacaadoor", sum := "79164a7faffc2cfd279490f71422ec6c8d74d3b7846ee667d116534b9977734a", func := "loop.example/hubbub/laws.FnExactRoomOk", spec := "fnExactRoomOk", unfollowed := true, recurses := true, named := ["unicode/utf8.first", "unicode/utf8.acceptRanges"], apart := false, laid := [("unicode/utf8.acceptRanges", laid_unicode_utf8_acceptRanges), ("unicode/utf8.first", laid_unicode_utf8_first)] }
def FnExactRoomOkSaid : Prop := fnExactRoomOkRow.holds Tryd.pinned (OpenSpec.ofChange fnExactRoomOkSpec)

/-- ITS FALSE NEIGHBOUR: 'it returns false'. Refute it at one input. -/
def fnExactRoomOkWrong : ChangeSpec := { name := "fnExactRoomOk", fn := fun _ => fun
  | [d] => { results := [.lit (.bool false)], args := [d] }
  | _ => none }
def FnExactRoomOkWrongFalsely : Prop := fnExactRoomOkRow.holds Tryd.pinned (OpenSpec.ofChange fnExactRoomOkWrong)

/- THE SECOND FORM. 'bulk': how many values and letters a reading holds, each counted each time it is reached (what is shared counts as often as it is met; a slice's spare places count too). A statement '..UptoSaid' is the law's where the arguments, and the package variables that the reading takes, are together of bulk at most 1048576: NARROWER than '..Said'. Prove '..Said' where nothing that the law and all that it calls make is longer than what came in: it says more and counts as full. Else prove '..UptoSaid'. A law counts once. -/
mutual
def uptoBulk {H : Type} : DataW H → Nat
  | .lit (.string bytes) => bytes.length + 1
  | .lit _ => 1
  | .nil => 1
  | .ptr d => uptoBulk d + 1
  | .slice elems spare => uptoBulkAll elems + uptoBulkAll spare + 1
  | .agg parts => uptoBulkAll parts + 1
  | .iface _ d => uptoBulk d + 1
  | .map entries => uptoBulkEntries entries + 1
  | .held _ => 1
def uptoBulkAll {H : Type} : List (DataW H) → Nat
  | [] => 0
  | d :: r => uptoBulk d + uptoBulkAll r
def uptoBulkEntries {H : Type} : List (Lit × DataW H) → Nat
  | [] => 0
  | x :: r => uptoBulkEntry x + uptoBulkEntries r
def uptoBulkEntry {H : Type} : Lit × DataW H → Nat
  | (.string bytes, d) => bytes.length + uptoBulk d + 1
  | (_, d) => uptoBulk d + 1
 end
def uptoSmall : (H : Type) → List (DataW H) → Bool := fun _ ds => decide (uptoBulkAll ds ≤ 1048576)
def OpenSpec.upto (s : _root_.Go.ChangeSpec) : _root_.Go.OpenSpec := { _root_.Go.OpenSpec.ofChange s with cond := some uptoSmall }

/-- 'laws.FnExactTextOk', WHERE WHAT IT READS IS OF BULK AT MOST 1048576: true; the input reads as it did. -/
def fnExactTextOkUptoRow : OpenClaim := { program := "ytgjecacalpaacaadoor", sum := "79164a7faffc2cfd279490f71422ec6c8d74d3b7846ee667d116534b9977734a", func := "loop.example/hubbub/laws.FnExactTextOk", spec := "fnExactTextOk", named := ["unicode/utf8.first", "unicode/utf8.acceptRanges"], apart := false, laid := [("unicode/utf8.acceptRanges", laid_unicode_utf8_acceptRanges), ("unicode/utf8.first", laid_unicode_utf8_first)], narrowed := true }
def FnExactTextOkUptoSaid : Prop := fnExactTextOkUptoRow.holds Tryd.pinned (OpenSpec.upto fnExactTextOkSpec)

/-- 'laws.FnTextCut', WHERE WHAT IT READS IS OF BULK AT MOST 1048576: true; the input reads as it did. -/
def fnTextCutUptoRow : OpenClaim := { program := "ytgjecacalpaacaadoor", sum := "79164a7faffc2cfd279490f71422ec6c8d74d3b7846ee667d116534b9977734a", func := "loop.example/hubbub/laws.FnTextCut", spec := "fnTextCut", named := ["unicode/utf8.first", "unicode/utf8.acceptRanges"], apart := false, laid := [("unicode/utf8.acceptRanges", laid_unicode_utf8_acceptRanges), ("unicode/utf8.first", laid_unicode_utf8_first)], narrowed := true }
def FnTextCutUptoSaid : Prop := fnTextCutUptoRow.holds Tryd.pinned (OpenSpec.upto fnTextCutSpec)

/-- 'laws.FnExactJidOk', WHERE WHAT IT READS IS OF BULK AT MOST 1048576: true; the input reads as it did. -/
def fnExactJidOkUptoRow : OpenClaim := { program := "ytgjecacalpaacaadoor", sum := "79164a7faffc2cfd279490f71422ec6c8d74d3b7846ee667d116534b9977734a", func := "loop.example/hubbub/laws.FnExactJidOk", spec := "fnExactJidOk", inPlace := ["internal/bytealg.IndexByteString", "internal/bytealg.IndexString"], unfollowed := true, recurses := true, named := ["unicode/utf8.first", "unicode/utf8.acceptRanges", "internal/bytealg.MaxLen"], apart := false, laid := [("unicode/utf8.acceptRanges", laid_unicode_utf8_acceptRanges), ("unicode/utf8.first", laid_unicode_utf8_first)], narrowed := true }
def FnExactJidOkUptoSaid : Prop := fnExactJidOkUptoRow.holds Tryd.pinned (OpenSpec.upto fnExactJidOkSpec)

/-- 'laws.FnExactJidPut', WHERE WHAT IT READS IS OF BULK AT MOST 1048576: true; the input reads as it did. -/
def fnExactJidPutUptoRow : OpenClaim := { program := "ytgjecacalpaacaadoor", sum := "79164a7faffc2cfd279490f71422ec6c8d74d3b7846ee667d116534b9977734a", func := "loop.example/hubbub/laws.FnExactJidPut", spec := "fnExactJidPut", inPlace := ["internal/bytealg.IndexByteString", "internal/bytealg.IndexString"], unfollowed := true, recurses := true, named := ["unicode/utf8.first", "unicode/utf8.acceptRanges", "internal/bytealg.MaxLen"], apart := false, laid := [("unicode/utf8.acceptRanges", laid_unicode_utf8_acceptRanges), ("unicode/utf8.first", laid_unicode_utf8_first)], narrowed := true }
def FnExactJidPutUptoSaid : Prop := fnExactJidPutUptoRow.holds Tryd.pinned (OpenSpec.upto fnExactJidPutSpec)

/-- 'laws.FnExactJidGet', WHERE WHAT IT READS IS OF BULK AT MOST 1048576: true; the input reads as it did. -/
def fnExactJidGetUptoRow : OpenClaim := { program := "ytgjecacalpaacaadoor", sum := "79164a7faffc2cfd279490f71422ec6c8d74d3b7846ee667d116534b9977734a", func := "loop.example/hubbub/laws.FnExactJidGet", spec := "fnExactJidGet", inPlace := ["internal/bytealg.IndexByteString", "internal/bytealg.IndexString"], unfollowed := true, recurses := true, named := ["internal/bytealg.MaxLen", "unicode/utf8.first", "unicode/utf8.acceptRanges"], apart := false, laid := [("unicode/utf8.acceptRanges", laid_unicode_utf8_acceptRanges), ("unicode/utf8.first", laid_unicode_utf8_first)], narrowed := true }
def FnExactJidGetUptoSaid : Prop := fnExactJidGetUptoRow.holds Tryd.pinned (OpenSpec.upto fnExactJidGetSpec)

/-- 'laws.FnJidParts', WHERE WHAT IT READS IS OF BULK AT MOST 1048576: true; the input reads as it did. -/
def fnJidPartsUptoRow : OpenClaim := { program := "ytgjecacalpaacaadoor", sum := "79164a7faffc2cfd279490f71422ec6c8d74d3b7846ee667d116534b9977734a", func := "loop.example/hubbub/laws.FnJidParts", spec := "fnJidParts", inPlace := ["internal/bytealg.IndexByteString", "internal/bytealg.IndexString"], unfollowed := true, recurses := true, named := ["unicode/utf8.first", "unicode/utf8.acceptRanges", "internal/bytealg.MaxLen"], apart := false, laid := [("unicode/utf8.acceptRanges", laid_unicode_utf8_acceptRanges), ("unicode/utf8.first", laid_unicode_utf8_first)], narrowed := true }
def FnJidPartsUptoSaid : Prop := fnJidPartsUptoRow.holds Tryd.pinned (OpenSpec.upto fnJidPartsSpec)

/-- 'laws.FnJidPut', WHERE WHAT IT READS IS OF BULK AT MOST 1048576: true; the input reads as it did. -/
def fnJidPutUptoRow : OpenClaim := { program := "ytgjecacalpaacaadoor", sum := "79164a7faffc2cfd279490f71422ec6c8d74d3b7846ee667d116534b9977734a", func := "loop.example/hubbub/laws.FnJidPut", spec := "fnJidPut", inPlace := ["internal/bytealg.IndexByteString", "internal/bytealg.IndexString"], unfollowed := true, recurses := true, named := ["unicode/utf8.first", "unicode/utf8.acceptRanges", "internal/bytealg.MaxLen"], apart := false, laid := [("unicode/utf8.acceptRanges", laid_unicode_utf8_acceptRanges), ("unicode/utf8.first", laid_unicode_utf8_first)], narrowed := true }
def FnJidPutUptoSaid : Prop := fnJidPutUptoRow.holds Tryd.pinned (OpenSpec.upto fnJidPutSpec)

/-- 'laws.FnJidGet', WHERE WHAT IT READS IS OF BULK AT MOST 1048576: true; the input reads as it did. -/
def fnJidGetUptoRow : OpenClaim := { program := "ytgjecacalpaacaadoor", sum := "79164a7faffc2cfd279490f71422ec6c8d74d3b7846ee667d116534b9977734a", func := "loop.example/hubbub/laws.FnJidGet", spec := "fnJidGet", inPlace := ["internal/bytealg.IndexByteString", "internal/bytealg.IndexString"], unfollowed := true, recurses := true, named := ["internal/bytealg.MaxLen", "unicode/utf8.first", "unicode/utf8.acceptRanges"], apart := false, laid := [("unicode/utf8.acceptRanges", laid_unicode_utf8_acceptRanges), ("unicode/utf8.first", laid_unicode_utf8_first)], narrowed := true }
def FnJidGetUptoSaid : Prop := fnJidGetUptoRow.holds Tryd.pinned (OpenSpec.upto fnJidGetSpec)

/-- 'laws.FnExactSayOk', WHERE WHAT IT READS IS OF BULK AT MOST 1048576: true; the input reads as it did. -/
def fnExactSayOkUptoRow : OpenClaim := { program := "ytgjecacalpaacaadoor", sum := "79164a7faffc2cfd279490f71422ec6c8d74d3b7846ee667d116534b9977734a", func := "loop.example/hubbub/laws.FnExactSayOk", spec := "fnExactSayOk", unfollowed := true, recurses := true, named := ["unicode/utf8.first", "unicode/utf8.acceptRanges"], apart := false, laid := [("unicode/utf8.acceptRanges", laid_unicode_utf8_acceptRanges), ("unicode/utf8.first", laid_unicode_utf8_first)], narrowed := true }
def FnExactSayOkUptoSaid : Prop := fnExactSayOkUptoRow.holds Tryd.pinned (OpenSpec.upto fnExactSayOkSpec)

/-- 'laws.FnExactEntryOk', WHERE WHAT IT READS IS OF BULK AT MOST 1048576: true; the input reads as it did. -/
def fnExactEntryOkUptoRow : OpenClaim := { program := "ytgjecacalpaacaadoor", sum := "79164a7faffc2cfd279490f71422ec6c8d74d3b7846ee667d116534b9977734a", func := "loop.example/hubbub/laws.FnExactEntryOk", spec := "fnExactEntryOk", unfollowed := true, recurses := true, named := ["unicode/utf8.first", "unicode/utf8.acceptRanges"], apart := false, laid := [("unicode/utf8.acceptRanges", laid_unicode_utf8_acceptRanges), ("unicode/utf8.first", laid_unicode_utf8_first)], narrowed := true }
def FnExactEntryOkUptoSaid : Prop := fnExactEntryOkUptoRow.holds Tryd.pinned (OpenSpec.upto fnExactEntryOkSpec)

/-- 'laws.FnExactRoomOk', WHERE WHAT IT READS IS OF BULK AT MOST 1048576: true; the input reads as it did. -/
def fnExactRoomOkUptoRow : OpenClaim := { program := "ytgjecacalpaacaadoor", sum := "79164a7faffc2cfd279490f71422ec6c8d74d3b7846ee667d116534b9977734a", func := "loop.example/hubbub/laws.FnExactRoomOk", spec := "fnExactRoomOk", unfollowed := true, recurses := true, named := ["unicode/utf8.first", "unicode/utf8.acceptRanges"], apart := false, laid := [("unicode/utf8.acceptRanges", laid_unicode_utf8_acceptRanges), ("unicode/utf8.first", laid_unicode_utf8_first)], narrowed := true }
def FnExactRoomOkUptoSaid : Prop := fnExactRoomOkUptoRow.holds Tryd.pinned (OpenSpec.upto fnExactRoomOkSpec)

end Rows
end Go.Proofs.YtgjecacalpaacaaDoor
