/- Of every line the program and the reference tell alike whether it is ok, and the line reads as before. No condition. -/
import Derived.Test.YteaeachobnmpgaaPureExLine
import Derived.Test.YteaeachobnmpgaaPureLine
import Derived.Test.YteaeachobnmpgaaPAllxlawsFnExactLineOk1c87
namespace Go.Proofs.Yteaeachobnmpgaa.Pure
open Go.RowKit Go.Proofs.Yteaeachobnmpgaa.PAll Go.Proofs.YteaeachobnmpgaaW.PrintWords Go.Proofs.YteaeachobnmpgaaW.PrintLast Go.Proofs.YteaeachobnmpgaaW.PrintMore Go.Proofs.YteaeachobnmpgaaW.XWords
open Go.Proofs.Yteaeachobnmpgaa.Draw Go.Proofs.Yteaeachobnmpgaa.Lines Go.Proofs.Yteaeachobnmpgaa.ExLine
theorem FnExactLineOk (b : Int) (q : List ByteArray) (g : Int) (o : Bool) (hb : (Lit.int .i64 b).wf = true) (hl : q.length ≤ maxLen) (hs : ∀ x ∈ q, x.size ≤ maxLen) (hg : (Lit.int .i64 g).wf = true) : ∃ k, laws_FnExactLineOk.f k b q g o = some true := by
  refine ⟨q.length + 1, ?_⟩
  obtain ⟨r, h1, h2⟩ := sz_line b q g o hl hs (q.length + 1) (by omega)
  unfold laws_FnExactLineOk.f
  rw [h1, Option.bind_some]
  by_cases h : r < 0
  · rw [if_pos h]
  · obtain ⟨h3, h4⟩ := h2 (by omega)
    rw [if_neg h, to_line b q g o h3 _ (by omega), Option.bind_some]
    unfold spec_LineOk.f
    simp only []
    rw [spec_ok b q g o (by omega) _ (by omega), Option.bind_some, Option.bind_some, Option.bind_some, impl_ok, Option.bind_some, if_neg (by simp), Option.bind_some]
    simp only []
    rw [eq_line b q g o h3 _ (by omega), Option.bind_some, if_pos rfl]
end Go.Proofs.Yteaeachobnmpgaa.Pure
