/- The program's constants are those that the law names: FnExactConstants answers true. No condition. -/
import Derived.Test.YteaeachobnmpgaaPAllxlawsFnExactConstants306e
namespace Go.Proofs.Yteaeachobnmpgaa.Pure
open Go.RowKit Go.Proofs.Yteaeachobnmpgaa.PAll Go.Proofs.YteaeachobnmpgaaW.PrintWords Go.Proofs.YteaeachobnmpgaaW.PrintLast

/-- YOURS: laws_FnExactConstants.f  = some true
What it reaches (each with k first where it has rounds; `.mono`: more rounds tell the same; `.l0`, ..: its loops, with `.mono_l`): laws_FnExactConstants.f -/
theorem FnExactConstants : laws_FnExactConstants.Pure := by
  unfold laws_FnExactConstants.Pure laws_FnExactConstants.f; rfl

end Go.Proofs.Yteaeachobnmpgaa.Pure
