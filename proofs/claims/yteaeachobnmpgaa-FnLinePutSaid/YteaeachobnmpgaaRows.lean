/-
  No cell of these rows narrows 'for every input' (looked for: loops, veiled, ifaces, maps, wideKeys, modest, calm, conditions, laid).
  DERIVED. THE GIVEN ROWS OF THIS SEAT. 11 by the template 'for every input the law returns true; each argument reads behind the call as it read before'; 0 by the template 'total and deterministic' (their statements: YteaeachobnmpgaaTotals.lean).
  GIVEN WITH THE SEED: the statements are not yours to turn. If you find one false, say at which input.
  Laid BY PROGRAM, IN A SANDBOX (cutbox-rows.mjs): the forced cells as the released guide's own fill.sh prints them over the translation 1befdd1ddf42afdd… (all of the seat's roots in one cut). By AI agents, Wed Nov 11 2026. No macro, syntax, notation, axiom, sorry.
-/
import Derived.Test.YteaeachobnmpgaaChecked
import GoSem.Claim
import GoSem.ClaimJoined
import GoSem.ClaimMapViews
import Derived.JoinedTies
import Derived.KernelRfl
namespace Go.Proofs.Yteaeachobnmpgaa
/- THE CELL 'sum', in the pinned program and in every row, IS THE sha256 OF THE DUMP (.gsa) THAT YteaeachobnmpgaaProg.lean LOADS. Nothing in Lean hashes anything: it is a label: what it is worth is what the hold of that sum in a sandbox is worth. -/
noncomputable def Try.pinned : Pinned := { name := "yteaeachobnmpgaa", sum := "1befdd1ddf42afdd83aa46ad9820671d31900a5fd2dcff8e03fa96845262dfff", checked := Try.checked }
namespace Rows
def none {H : Type} : Left H := { results := [], args := [] }

/-- 'laws.FnExactConstants': WHATEVER THE INPUT: true; the input reads as it did. -/
def fnExactConstantsSpec : ChangeSpec := { name := "fnExactConstants", fn := fun _ => fun
  | [] => { results := [.lit (.bool true)], args := [] }
  | _ => none }
def fnExactConstantsRow : OpenClaim := { program := "yteaeachobnmpgaa", sum := "1befdd1ddf42afdd83aa46ad9820671d31900a5fd2dcff8e03fa96845262dfff", func := "loop.example/hubbub/laws.FnExactConstants", spec := "fnExactConstants", apart := false }
def FnExactConstantsSaid : Prop := fnExactConstantsRow.holds Try.pinned (OpenSpec.ofChange fnExactConstantsSpec)

/-- ITS FALSE NEIGHBOUR: 'it returns false'. Refute it at one input. -/
def fnExactConstantsWrong : ChangeSpec := { name := "fnExactConstants", fn := fun _ => fun
  | [] => { results := [.lit (.bool false)], args := [] }
  | _ => none }
def FnExactConstantsWrongFalsely : Prop := fnExactConstantsRow.holds Try.pinned (OpenSpec.ofChange fnExactConstantsWrong)

/-- 'laws.FnExactSignPut': WHATEVER THE INPUT: true; the input reads as it did. -/
def fnExactSignPutSpec : ChangeSpec := { name := "fnExactSignPut", fn := fun _ => fun
  | [d] => { results := [.lit (.bool true)], args := [d] }
  | _ => none }
def fnExactSignPutRow : OpenClaim := { program := "yteaeachobnmpgaa", sum := "1befdd1ddf42afdd83aa46ad9820671d31900a5fd2dcff8e03fa96845262dfff", func := "loop.example/hubbub/laws.FnExactSignPut", spec := "fnExactSignPut", apart := false }
def FnExactSignPutSaid : Prop := fnExactSignPutRow.holds Try.pinned (OpenSpec.ofChange fnExactSignPutSpec)

/-- ITS FALSE NEIGHBOUR: 'it returns false'. Refute it at one input. -/
def fnExactSignPutWrong : ChangeSpec := { name := "fnExactSignPut", fn := fun _ => fun
  | [d] => { results := [.lit (.bool false)], args := [d] }
  | _ => none }
def FnExactSignPutWrongFalsely : Prop := fnExactSignPutRow.holds Try.pinned (OpenSpec.ofChange fnExactSignPutWrong)

/-- 'laws.FnExactNameOk': WHATEVER THE INPUT: true; the input reads as it did. -/
def fnExactNameOkSpec : ChangeSpec := { name := "fnExactNameOk", fn := fun _ => fun
  | [d] => { results := [.lit (.bool true)], args := [d] }
  | _ => none }
def fnExactNameOkRow : OpenClaim := { program := "yteaeachobnmpgaa", sum := "1befdd1ddf42afdd83aa46ad9820671d31900a5fd2dcff8e03fa96845262dfff", func := "loop.example/hubbub/laws.FnExactNameOk", spec := "fnExactNameOk", apart := false }
def FnExactNameOkSaid : Prop := fnExactNameOkRow.holds Try.pinned (OpenSpec.ofChange fnExactNameOkSpec)

/-- ITS FALSE NEIGHBOUR: 'it returns false'. Refute it at one input. -/
def fnExactNameOkWrong : ChangeSpec := { name := "fnExactNameOk", fn := fun _ => fun
  | [d] => { results := [.lit (.bool false)], args := [d] }
  | _ => none }
def FnExactNameOkWrongFalsely : Prop := fnExactNameOkRow.holds Try.pinned (OpenSpec.ofChange fnExactNameOkWrong)

/-- 'laws.FnExactLineOk': WHATEVER THE INPUT: true; the input reads as it did. -/
def fnExactLineOkSpec : ChangeSpec := { name := "fnExactLineOk", fn := fun _ => fun
  | [d] => { results := [.lit (.bool true)], args := [d] }
  | _ => none }
def fnExactLineOkRow : OpenClaim := { program := "yteaeachobnmpgaa", sum := "1befdd1ddf42afdd83aa46ad9820671d31900a5fd2dcff8e03fa96845262dfff", func := "loop.example/hubbub/laws.FnExactLineOk", spec := "fnExactLineOk", unfollowed := true, recurses := true, apart := false }
def FnExactLineOkSaid : Prop := fnExactLineOkRow.holds Try.pinned (OpenSpec.ofChange fnExactLineOkSpec)

/-- ITS FALSE NEIGHBOUR: 'it returns false'. Refute it at one input. -/
def fnExactLineOkWrong : ChangeSpec := { name := "fnExactLineOk", fn := fun _ => fun
  | [d] => { results := [.lit (.bool false)], args := [d] }
  | _ => none }
def FnExactLineOkWrongFalsely : Prop := fnExactLineOkRow.holds Try.pinned (OpenSpec.ofChange fnExactLineOkWrong)

/-- 'laws.FnExactLineSent': WHATEVER THE INPUT: true; the input reads as it did. -/
def fnExactLineSentSpec : ChangeSpec := { name := "fnExactLineSent", fn := fun _ => fun
  | [d] => { results := [.lit (.bool true)], args := [d] }
  | _ => none }
def fnExactLineSentRow : OpenClaim := { program := "yteaeachobnmpgaa", sum := "1befdd1ddf42afdd83aa46ad9820671d31900a5fd2dcff8e03fa96845262dfff", func := "loop.example/hubbub/laws.FnExactLineSent", spec := "fnExactLineSent", unfollowed := true, recurses := true, apart := false }
def FnExactLineSentSaid : Prop := fnExactLineSentRow.holds Try.pinned (OpenSpec.ofChange fnExactLineSentSpec)

/-- ITS FALSE NEIGHBOUR: 'it returns false'. Refute it at one input. -/
def fnExactLineSentWrong : ChangeSpec := { name := "fnExactLineSent", fn := fun _ => fun
  | [d] => { results := [.lit (.bool false)], args := [d] }
  | _ => none }
def FnExactLineSentWrongFalsely : Prop := fnExactLineSentRow.holds Try.pinned (OpenSpec.ofChange fnExactLineSentWrong)

/-- 'laws.FnLineSent': WHATEVER THE INPUT: true; the input reads as it did. -/
def fnLineSentSpec : ChangeSpec := { name := "fnLineSent", fn := fun _ => fun
  | [d] => { results := [.lit (.bool true)], args := [d] }
  | _ => none }
def fnLineSentRow : OpenClaim := { program := "yteaeachobnmpgaa", sum := "1befdd1ddf42afdd83aa46ad9820671d31900a5fd2dcff8e03fa96845262dfff", func := "loop.example/hubbub/laws.FnLineSent", spec := "fnLineSent", unfollowed := true, recurses := true, apart := false }
def FnLineSentSaid : Prop := fnLineSentRow.holds Try.pinned (OpenSpec.ofChange fnLineSentSpec)

/-- ITS FALSE NEIGHBOUR: 'it returns false'. Refute it at one input. -/
def fnLineSentWrong : ChangeSpec := { name := "fnLineSent", fn := fun _ => fun
  | [d] => { results := [.lit (.bool false)], args := [d] }
  | _ => none }
def FnLineSentWrongFalsely : Prop := fnLineSentRow.holds Try.pinned (OpenSpec.ofChange fnLineSentWrong)

/-- 'laws.FnLineHeard': WHATEVER THE INPUT: true; the input reads as it did. -/
def fnLineHeardSpec : ChangeSpec := { name := "fnLineHeard", fn := fun _ => fun
  | [d] => { results := [.lit (.bool true)], args := [d] }
  | _ => none }
def fnLineHeardRow : OpenClaim := { program := "yteaeachobnmpgaa", sum := "1befdd1ddf42afdd83aa46ad9820671d31900a5fd2dcff8e03fa96845262dfff", func := "loop.example/hubbub/laws.FnLineHeard", spec := "fnLineHeard", unfollowed := true, recurses := true, apart := false }
def FnLineHeardSaid : Prop := fnLineHeardRow.holds Try.pinned (OpenSpec.ofChange fnLineHeardSpec)

/-- ITS FALSE NEIGHBOUR: 'it returns false'. Refute it at one input. -/
def fnLineHeardWrong : ChangeSpec := { name := "fnLineHeard", fn := fun _ => fun
  | [d] => { results := [.lit (.bool false)], args := [d] }
  | _ => none }
def FnLineHeardWrongFalsely : Prop := fnLineHeardRow.holds Try.pinned (OpenSpec.ofChange fnLineHeardWrong)

/-- 'laws.FnExactLineHeard': WHATEVER THE INPUT: true; the input reads as it did. -/
def fnExactLineHeardSpec : ChangeSpec := { name := "fnExactLineHeard", fn := fun _ => fun
  | [d] => { results := [.lit (.bool true)], args := [d] }
  | _ => none }
def fnExactLineHeardRow : OpenClaim := { program := "yteaeachobnmpgaa", sum := "1befdd1ddf42afdd83aa46ad9820671d31900a5fd2dcff8e03fa96845262dfff", func := "loop.example/hubbub/laws.FnExactLineHeard", spec := "fnExactLineHeard", unfollowed := true, recurses := true, apart := false }
def FnExactLineHeardSaid : Prop := fnExactLineHeardRow.holds Try.pinned (OpenSpec.ofChange fnExactLineHeardSpec)

/-- ITS FALSE NEIGHBOUR: 'it returns false'. Refute it at one input. -/
def fnExactLineHeardWrong : ChangeSpec := { name := "fnExactLineHeard", fn := fun _ => fun
  | [d] => { results := [.lit (.bool false)], args := [d] }
  | _ => none }
def FnExactLineHeardWrongFalsely : Prop := fnExactLineHeardRow.holds Try.pinned (OpenSpec.ofChange fnExactLineHeardWrong)

/-- 'laws.FnExactLinePut': WHATEVER THE INPUT: true; the input reads as it did. -/
def fnExactLinePutSpec : ChangeSpec := { name := "fnExactLinePut", fn := fun _ => fun
  | [d1, d2] => { results := [.lit (.bool true)], args := [d1, d2] }
  | _ => none }
def fnExactLinePutRow : OpenClaim := { program := "yteaeachobnmpgaa", sum := "1befdd1ddf42afdd83aa46ad9820671d31900a5fd2dcff8e03fa96845262dfff", func := "loop.example/hubbub/laws.FnExactLinePut", spec := "fnExactLinePut", unfollowed := true, recurses := true, apart := false }
def FnExactLinePutSaid : Prop := fnExactLinePutRow.holds Try.pinned (OpenSpec.ofChange fnExactLinePutSpec)

/-- ITS FALSE NEIGHBOUR: 'it returns false'. Refute it at one input. -/
def fnExactLinePutWrong : ChangeSpec := { name := "fnExactLinePut", fn := fun _ => fun
  | [d1, d2] => { results := [.lit (.bool false)], args := [d1, d2] }
  | _ => none }
def FnExactLinePutWrongFalsely : Prop := fnExactLinePutRow.holds Try.pinned (OpenSpec.ofChange fnExactLinePutWrong)

/-- 'laws.FnExactLineAck': WHATEVER THE INPUT: true; the input reads as it did. -/
def fnExactLineAckSpec : ChangeSpec := { name := "fnExactLineAck", fn := fun _ => fun
  | [d1, d2] => { results := [.lit (.bool true)], args := [d1, d2] }
  | _ => none }
def fnExactLineAckRow : OpenClaim := { program := "yteaeachobnmpgaa", sum := "1befdd1ddf42afdd83aa46ad9820671d31900a5fd2dcff8e03fa96845262dfff", func := "loop.example/hubbub/laws.FnExactLineAck", spec := "fnExactLineAck", unfollowed := true, recurses := true, apart := false }
def FnExactLineAckSaid : Prop := fnExactLineAckRow.holds Try.pinned (OpenSpec.ofChange fnExactLineAckSpec)

/-- ITS FALSE NEIGHBOUR: 'it returns false'. Refute it at one input. -/
def fnExactLineAckWrong : ChangeSpec := { name := "fnExactLineAck", fn := fun _ => fun
  | [d1, d2] => { results := [.lit (.bool false)], args := [d1, d2] }
  | _ => none }
def FnExactLineAckWrongFalsely : Prop := fnExactLineAckRow.holds Try.pinned (OpenSpec.ofChange fnExactLineAckWrong)

/-- 'laws.FnLinePut': WHATEVER THE INPUT: true; the input reads as it did. -/
def fnLinePutSpec : ChangeSpec := { name := "fnLinePut", fn := fun _ => fun
  | [d] => { results := [.lit (.bool true)], args := [d] }
  | _ => none }
def fnLinePutRow : OpenClaim := { program := "yteaeachobnmpgaa", sum := "1befdd1ddf42afdd83aa46ad9820671d31900a5fd2dcff8e03fa96845262dfff", func := "loop.example/hubbub/laws.FnLinePut", spec := "fnLinePut", unfollowed := true, recurses := true, apart := false }
def FnLinePutSaid : Prop := fnLinePutRow.holds Try.pinned (OpenSpec.ofChange fnLinePutSpec)

/-- ITS FALSE NEIGHBOUR: 'it returns false'. Refute it at one input. -/
def fnLinePutWrong : ChangeSpec := { name := "fnLinePut", fn := fun _ => fun
  | [d] => { results := [.lit (.bool false)], args := [d] }
  | _ => none }
def FnLinePutWrongFalsely : Prop := fnLinePutRow.holds Try.pinned (OpenSpec.ofChange fnLinePutWrong)

/- THE SECOND FORM. 'bulk': how many values and letters a reading holds, each counted each time it is reached (what is shared counts as often as it is met; a slice's spare places count too). A statement '..UptoSaid' is the law's where the arguments, and the package variables that the reading takes, are together of bulk at most 1048576: NARROWER than '..Said'. Prove '..Said' where nothing that the law and all that it calls make is longer than what came in: it says more and counts as full. Else prove '..UptoSaid'. A law counts once. -/
mutual
def uptoBulk {H : Type} : DataW H → Nat
  | .lit (.string bytes) => bytes.length + 1
  | .lit _ => 1
  | .nil => 1
  | .ptr d => uptoBulk d + 1
  | .slice elems spare => uptoBulkAll elems + uptoBulkAll spare + 1
  | .agg parts => uptoBulkAll parts + 1
  | .iface _ d => uptoBulk d + 1
  | .map entries => uptoBulkEntries entries + 1
  | .held _ => 1
def uptoBulkAll {H : Type} : List (DataW H) → Nat
  | [] => 0
  | d :: r => uptoBulk d + uptoBulkAll r
def uptoBulkEntries {H : Type} : List (Lit × DataW H) → Nat
  | [] => 0
  | x :: r => uptoBulkEntry x + uptoBulkEntries r
def uptoBulkEntry {H : Type} : Lit × DataW H → Nat
  | (.string bytes, d) => bytes.length + uptoBulk d + 1
  | (_, d) => uptoBulk d + 1
 end
def uptoSmall : (H : Type) → List (DataW H) → Bool := fun _ ds => decide (uptoBulkAll ds ≤ 1048576)
def OpenSpec.upto (s : _root_.Go.ChangeSpec) : _root_.Go.OpenSpec := { _root_.Go.OpenSpec.ofChange s with cond := some uptoSmall }

/-- 'laws.FnExactConstants', WHERE WHAT IT READS IS OF BULK AT MOST 1048576: true; the input reads as it did. -/
def fnExactConstantsUptoRow : OpenClaim := { program := "yteaeachobnmpgaa", sum := "1befdd1ddf42afdd83aa46ad9820671d31900a5fd2dcff8e03fa96845262dfff", func := "loop.example/hubbub/laws.FnExactConstants", spec := "fnExactConstants", apart := false, narrowed := true }
def FnExactConstantsUptoSaid : Prop := fnExactConstantsUptoRow.holds Try.pinned (OpenSpec.upto fnExactConstantsSpec)

/-- 'laws.FnExactSignPut', WHERE WHAT IT READS IS OF BULK AT MOST 1048576: true; the input reads as it did. -/
def fnExactSignPutUptoRow : OpenClaim := { program := "yteaeachobnmpgaa", sum := "1befdd1ddf42afdd83aa46ad9820671d31900a5fd2dcff8e03fa96845262dfff", func := "loop.example/hubbub/laws.FnExactSignPut", spec := "fnExactSignPut", apart := false, narrowed := true }
def FnExactSignPutUptoSaid : Prop := fnExactSignPutUptoRow.holds Try.pinned (OpenSpec.upto fnExactSignPutSpec)

/-- 'laws.FnExactNameOk', WHERE WHAT IT READS IS OF BULK AT MOST 1048576: true; the input reads as it did. -/
def fnExactNameOkUptoRow : OpenClaim := { program := "yteaeachobnmpgaa", sum := "1befdd1ddf42afdd83aa46ad9820671d31900a5fd2dcff8e03fa96845262dfff", func := "loop.example/hubbub/laws.FnExactNameOk", spec := "fnExactNameOk", apart := false, narrowed := true }
def FnExactNameOkUptoSaid : Prop := fnExactNameOkUptoRow.holds Try.pinned (OpenSpec.upto fnExactNameOkSpec)

/-- 'laws.FnExactLineOk', WHERE WHAT IT READS IS OF BULK AT MOST 1048576: true; the input reads as it did. -/
def fnExactLineOkUptoRow : OpenClaim := { program := "yteaeachobnmpgaa", sum := "1befdd1ddf42afdd83aa46ad9820671d31900a5fd2dcff8e03fa96845262dfff", func := "loop.example/hubbub/laws.FnExactLineOk", spec := "fnExactLineOk", unfollowed := true, recurses := true, apart := false, narrowed := true }
def FnExactLineOkUptoSaid : Prop := fnExactLineOkUptoRow.holds Try.pinned (OpenSpec.upto fnExactLineOkSpec)

/-- 'laws.FnExactLineSent', WHERE WHAT IT READS IS OF BULK AT MOST 1048576: true; the input reads as it did. -/
def fnExactLineSentUptoRow : OpenClaim := { program := "yteaeachobnmpgaa", sum := "1befdd1ddf42afdd83aa46ad9820671d31900a5fd2dcff8e03fa96845262dfff", func := "loop.example/hubbub/laws.FnExactLineSent", spec := "fnExactLineSent", unfollowed := true, recurses := true, apart := false, narrowed := true }
def FnExactLineSentUptoSaid : Prop := fnExactLineSentUptoRow.holds Try.pinned (OpenSpec.upto fnExactLineSentSpec)

/-- 'laws.FnLineSent', WHERE WHAT IT READS IS OF BULK AT MOST 1048576: true; the input reads as it did. -/
def fnLineSentUptoRow : OpenClaim := { program := "yteaeachobnmpgaa", sum := "1befdd1ddf42afdd83aa46ad9820671d31900a5fd2dcff8e03fa96845262dfff", func := "loop.example/hubbub/laws.FnLineSent", spec := "fnLineSent", unfollowed := true, recurses := true, apart := false, narrowed := true }
def FnLineSentUptoSaid : Prop := fnLineSentUptoRow.holds Try.pinned (OpenSpec.upto fnLineSentSpec)

/-- 'laws.FnLineHeard', WHERE WHAT IT READS IS OF BULK AT MOST 1048576: true; the input reads as it did. -/
def fnLineHeardUptoRow : OpenClaim := { program := "yteaeachobnmpgaa", sum := "1befdd1ddf42afdd83aa46ad9820671d31900a5fd2dcff8e03fa96845262dfff", func := "loop.example/hubbub/laws.FnLineHeard", spec := "fnLineHeard", unfollowed := true, recurses := true, apart := false, narrowed := true }
def FnLineHeardUptoSaid : Prop := fnLineHeardUptoRow.holds Try.pinned (OpenSpec.upto fnLineHeardSpec)

/-- 'laws.FnExactLineHeard', WHERE WHAT IT READS IS OF BULK AT MOST 1048576: true; the input reads as it did. -/
def fnExactLineHeardUptoRow : OpenClaim := { program := "yteaeachobnmpgaa", sum := "1befdd1ddf42afdd83aa46ad9820671d31900a5fd2dcff8e03fa96845262dfff", func := "loop.example/hubbub/laws.FnExactLineHeard", spec := "fnExactLineHeard", unfollowed := true, recurses := true, apart := false, narrowed := true }
def FnExactLineHeardUptoSaid : Prop := fnExactLineHeardUptoRow.holds Try.pinned (OpenSpec.upto fnExactLineHeardSpec)

/-- 'laws.FnExactLinePut', WHERE WHAT IT READS IS OF BULK AT MOST 1048576: true; the input reads as it did. -/
def fnExactLinePutUptoRow : OpenClaim := { program := "yteaeachobnmpgaa", sum := "1befdd1ddf42afdd83aa46ad9820671d31900a5fd2dcff8e03fa96845262dfff", func := "loop.example/hubbub/laws.FnExactLinePut", spec := "fnExactLinePut", unfollowed := true, recurses := true, apart := false, narrowed := true }
def FnExactLinePutUptoSaid : Prop := fnExactLinePutUptoRow.holds Try.pinned (OpenSpec.upto fnExactLinePutSpec)

/-- 'laws.FnExactLineAck', WHERE WHAT IT READS IS OF BULK AT MOST 1048576: true; the input reads as it did. -/
def fnExactLineAckUptoRow : OpenClaim := { program := "yteaeachobnmpgaa", sum := "1befdd1ddf42afdd83aa46ad9820671d31900a5fd2dcff8e03fa96845262dfff", func := "loop.example/hubbub/laws.FnExactLineAck", spec := "fnExactLineAck", unfollowed := true, recurses := true, apart := false, narrowed := true }
def FnExactLineAckUptoSaid : Prop := fnExactLineAckUptoRow.holds Try.pinned (OpenSpec.upto fnExactLineAckSpec)

/-- 'laws.FnLinePut', WHERE WHAT IT READS IS OF BULK AT MOST 1048576: true; the input reads as it did. -/
def fnLinePutUptoRow : OpenClaim := { program := "yteaeachobnmpgaa", sum := "1befdd1ddf42afdd83aa46ad9820671d31900a5fd2dcff8e03fa96845262dfff", func := "loop.example/hubbub/laws.FnLinePut", spec := "fnLinePut", unfollowed := true, recurses := true, apart := false, narrowed := true }
def FnLinePutUptoSaid : Prop := fnLinePutUptoRow.holds Try.pinned (OpenSpec.upto fnLinePutSpec)

end Rows
end Go.Proofs.Yteaeachobnmpgaa
