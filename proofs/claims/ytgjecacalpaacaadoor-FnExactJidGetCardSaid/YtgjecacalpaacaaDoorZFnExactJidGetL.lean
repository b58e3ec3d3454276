-- laid by xprint.py and pack.py, programs of this session's; Lean checks it
import Derived.Test.YtgjecacalpaacaaDoorZFnExactJidGetW0
import Derived.WalkKit
import Derived.ProofKit
import Derived.OpenShut
import Derived.ShutString
import Derived.ChangeOld
import Derived.Below
import Derived.DataReads
import Derived.DataElems
import Derived.Deep.Slices
import Derived.Lib.LaidTab
import Derived.Test.YtgjecacalpaacaaDoorRows
import Derived.Lib.LaidU8
import Derived.LaidByTextLater
section

namespace Go.Proofs.YtgjecacalpaacaaDoorW.XRow
end Go.Proofs.YtgjecacalpaacaaDoorW.XRow
end
section
namespace Go.Proofs.YtgjecacalpaacaaDoorW.XWords
open Go.Shelf Go.RowKit
theorem u8x : U8Extra Tryd.prog Tryd.lays260_ren := {
  n3 := by kernel_rfl
  n4 := by kernel_rfl
  y3 := by kernel_rfl
  y4 := by kernel_rfl
  c5 := by kernel_rfl
  c119 := by kernel_rfl
  c138 := by kernel_rfl }
theorem firstD : Go.Pinned.utf8First = Lib.firstData := by kernel_rfl
theorem acceptD : (Go.Proofs.YtgjecacalpaacaaDoor.Rows.laid_unicode_utf8_acceptRanges : DataW Unit) = Lib.acceptData := by kernel_rfl
theorem Tabs_of_laid {W : World} (h : laidMetH Tryd.prog Go.Proofs.YtgjecacalpaacaaDoor.Rows.fnExactTextOkRow.laid W) : Tabs W := by
  have h' : laidMet Tryd.prog Go.Proofs.YtgjecacalpaacaaDoor.Rows.fnExactTextOkRow.laid W := by
    rw [← MakeChecks.laidMetH_plain _ _ _ (by kernel_rfl)]
    exact h
  refine utf8Tabs_of_reads Tryd.lays260 u8x ?_ ?_
  · rw [← firstD]
    exact Lib.laidMet.reads h' (List.mem_cons_of_mem _ (List.mem_cons_self ..))
  · rw [← acceptD]
    exact Lib.laidMet.reads h' (List.mem_cons_self ..)
def laidIn (cs : List Value) : Obj → Obj
  | .cells _ t frozen => .cells cs.toArray t frozen
  | o => o
def firstCells : List Value := Lib.firstTab.map fun z => Value.int .u8 z
def acceptCells : List Value := (List.range 16).flatMap fun i => [Value.int .u8 (Lib.accLo i), Value.int .u8 (Lib.accHi i)]
noncomputable def laidWorld (os : Os) : World :=
  { World.holding Tryd.prog os ⟨#[], #[], []⟩ with heap := ((World.holding Tryd.prog os ⟨#[], #[], []⟩).heap.modify (Tryd.lays260_ren.g 3) (laidIn firstCells)).modify (Tryd.lays260_ren.g 4) (laidIn acceptCells) }
end Go.Proofs.YtgjecacalpaacaaDoorW.XWords
end
