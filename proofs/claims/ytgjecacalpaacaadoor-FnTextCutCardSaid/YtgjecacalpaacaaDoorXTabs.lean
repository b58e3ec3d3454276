/- Words of this session's own for a seat whose rows list the tables of unicode/utf8: how they live on, and the decoder's contract. -/
import Derived.Test.YtgjecacalpaacaaDoorXShelf
import Derived.Below
namespace Go.Proofs.YtgjecacalpaacaaDoorW.XWords
open Go.Shelf Go.RowKit
/-- The two tables of unicode/utf8 stand in memory as their initialisers lay them. -/
def Tabs (w : World) : Prop := Lib.Utf8Tabs (Tryd.lays260_ren.g 3) (Tryd.lays260_ren.g 4) w
theorem Tabs_below {w w' : World} (h : Tabs w) (hb : Below w.heap.size w w') : Tabs w' := Utf8Tabs_below h hb
theorem decode_calls (s : ByteArray) (w : World) (hT : Tabs w) : Calls Tryd.prog (Tryd.lays197_ren.f 197) #[.string s] w fun e w' => e = .returned (.tuple #[.int .i32 (Lib.decodeGo s).1, .int .i64 (Lib.decodeGo s).2]) ∧ Below w.heap.size w w' :=
  Any.utf8_DecodeRuneInString Tryd.lays197 s w hT
end Go.Proofs.YtgjecacalpaacaaDoorW.XWords
