/- Of every line the program and the reference tell alike what it sent, and the line reads as before. No condition. -/
import Derived.Test.YteaeachobnmpgaaPureExLine
import Derived.Test.YteaeachobnmpgaaPureLine
import Derived.Test.YteaeachobnmpgaaPAllxlawsFnExactLineSentf51e
namespace Go.Proofs.Yteaeachobnmpgaa.Pure
open Go.RowKit Go.Proofs.Yteaeachobnmpgaa.PAll Go.Proofs.YteaeachobnmpgaaW.PrintWords Go.Proofs.YteaeachobnmpgaaW.PrintLast Go.Proofs.YteaeachobnmpgaaW.PrintMore Go.Proofs.YteaeachobnmpgaaW.XWords
open Go.Proofs.Yteaeachobnmpgaa.Draw Go.Proofs.Yteaeachobnmpgaa.Lines Go.Proofs.Yteaeachobnmpgaa.ExLine
theorem FnExactLineSent (b : Int) (q : List ByteArray) (g : Int) (o : Bool) (_ : (Lit.int .i64 b).wf = true) (hl : q.length ≤ maxLen) (hs : ∀ x ∈ q, x.size ≤ maxLen) (_ : (Lit.int .i64 g).wf = true) : ∃ k, laws_FnExactLineSent.f k b q g o = some true := by
  refine ⟨q.length + 1, ?_⟩
  obtain ⟨r, h1, h2⟩ := sz_line b q g o hl hs (q.length + 1) (by omega)
  unfold laws_FnExactLineSent.f
  rw [h1, Option.bind_some]
  by_cases h : r < 0
  · rw [if_pos h]
  · obtain ⟨h3, h4⟩ := h2 (by omega)
    have hsp : spec_LineSent.f (q.length + 1) b q g o = some (if okB b q g o = true then Int.tmod (wrap64 (b + (q.length : Int))) 256 else -1) := by
      unfold spec_LineSent.f
      rw [spec_ok b q g o (by omega) _ (by omega), Option.bind_some]
      split <;> rfl
    have hi : impl_LineSent.f b q g o = some (if okB b q g o = true then Int.tmod (wrap64 (b + (q.length : Int))) 256 else -1) := by
      unfold impl_LineSent.f
      rw [impl_ok, Option.bind_some]
      split <;> rfl
    rw [if_neg h, to_line b q g o h3 _ (by omega), Option.bind_some]
    simp only []
    rw [hsp, Option.bind_some, Option.bind_some, hi, Option.bind_some, if_pos rfl, Option.bind_some]
    simp only []
    rw [eq_line b q g o h3 _ (by omega), Option.bind_some, if_pos rfl]
end Go.Proofs.Yteaeachobnmpgaa.Pure
