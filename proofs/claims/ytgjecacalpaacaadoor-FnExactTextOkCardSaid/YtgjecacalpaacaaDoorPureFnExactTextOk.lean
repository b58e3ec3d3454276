/- TextOk of the program answers as the reference's TextOk for every text. No condition. -/
import Derived.Test.YtgjecacalpaacaaDoorPureTextS
import Derived.Test.YtgjecacalpaacaaDoorPAllxlawsFnExactTextOkf55a
namespace Go.Proofs.YtgjecacalpaacaaDoor.Pure
open Go.RowKit Go.Proofs.YtgjecacalpaacaaDoor.PAll Go.Proofs.YtgjecacalpaacaaDoorW.PrintWords Go.Proofs.YtgjecacalpaacaaDoorW.PrintLast Go.Proofs.YtgjecacalpaacaaDoorW.PrintMore Go.Proofs.YtgjecacalpaacaaDoorW.XWords
open Go.Proofs.YtgjecacalpaacaaDoor.Text
theorem FnExactTextOk (s : ByteArray) (_hs : s.size ≤ maxLen) : ∃ k, laws_FnExactTextOk.f k s = some true := by
  refine ⟨s.size + 9, ?_⟩
  unfold laws_FnExactTextOk.f
  by_cases h : (s.size : Int) > 1048576
  · rw [if_pos h]
  · rw [if_neg h, spec_ok s (by omega) _ (by omega), Option.bind_some, impl_ok s (by omega) _ (by omega), Option.bind_some]
    simp
end Go.Proofs.YtgjecacalpaacaaDoor.Pure
