/- A line's weight, copy and equality. No condition. -/
import Derived.Test.YteaeachobnmpgaaPureStrs
import Derived.Test.YteaeachobnmpgaaPAllxlawsszLinec45e
import Derived.Test.YteaeachobnmpgaaPAllxlawstoLined4ff
import Derived.Test.YteaeachobnmpgaaPAllxlawseqLinefdc0
namespace Go.Proofs.Yteaeachobnmpgaa.ExLine
open Go.RowKit Go.Proofs.Yteaeachobnmpgaa.PAll Go.Proofs.YteaeachobnmpgaaW.PrintWords Go.Proofs.YteaeachobnmpgaaW.PrintLast Go.Proofs.YteaeachobnmpgaaW.PrintMore Go.Proofs.YteaeachobnmpgaaW.XWords
open Go.Proofs.Yteaeachobnmpgaa.Draw Go.Proofs.Yteaeachobnmpgaa.Strs
theorem sz_line (b : Int) (q : List ByteArray) (g : Int) (o : Bool) (hl : q.length ≤ maxLen) (hs : ∀ x ∈ q, x.size ≤ maxLen) (k : Nat) (hk : q.length < k) :
    ∃ r : Int, laws_szLine.f k b q g o 1048576 = some r ∧ (0 ≤ r → q.length ≤ 1048576 ∧ ∀ x ∈ q, x.size ≤ 1048576) := by
  obtain ⟨r, h1, h2, h3⟩ := sz_ok q hl hs 1048576 (by omega) (by omega) k hk
  unfold laws_szLine.f
  rw [h1, Option.bind_some]
  by_cases h : r < 0
  · exact ⟨-1, by rw [if_pos h], fun h => by omega⟩
  · exact ⟨r, by rw [if_neg h], fun h => ⟨by have := (h3 h).1; omega, (h3 h).2⟩⟩
theorem to_line (b : Int) (q : List ByteArray) (g : Int) (o : Bool) (hl : q.length ≤ 1048576) (k : Nat) (hk : q.length < k) : laws_toLine.f k b q g o = some (b, q, g, o) := by
  unfold laws_toLine.f
  rw [to_ok q hl k hk]
  rfl
theorem eq_line (b : Int) (q : List ByteArray) (g : Int) (o : Bool) (hl : q.length ≤ 1048576) (k : Nat) (hk : q.length < k) : laws_eqLine.f k b q g o b q g o = some true := by
  unfold laws_eqLine.f
  rw [if_pos rfl, eq_ok q hl k hk, Option.bind_some, if_pos rfl, if_pos rfl]
  simp
end Go.Proofs.Yteaeachobnmpgaa.ExLine
