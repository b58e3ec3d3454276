-- laid by xprint.py, a program of this session's over the kit's print; Lean checks it
import Derived.Test.YteaeachobnmpgaaPAllx0
namespace Go.Proofs.Yteaeachobnmpgaa.PAll
open Go.RowKit Go.Proofs.YteaeachobnmpgaaW.XWords Go.Proofs.YteaeachobnmpgaaW.PrintWords Go.Proofs.YteaeachobnmpgaaW.PrintLast Go.Proofs.YteaeachobnmpgaaW.PrintMore
attribute [local go_sem] isSome_setCell max2_int min2_int max_two min_two max_three min_three max_four min_four   -- for this text's walks alone
set_option linter.unusedVariables false
set_option linter.unusedSimpArgs false

/-! ### slices_ContainsFunc_string_string_impl_LineOk_1: function 49, told by hand -/

def slices_ContainsFunc_string_string_impl_LineOk_1.f (l0 : List ByteArray) : Option Bool := some (l0.any fun s => decide (3000 < s.size))
theorem slices_ContainsFunc_string_string_impl_LineOk_1.closure (s : ByteArray) (r : Bool) (w : World) (h : decide (3000 < s.size) = r) : Calls Try.prog 50 #[.string s] w fun e w' => e = .returned (.bool r) ∧ Drawn0 w w' := by
  subst h
  go_enter Try.func50, Try.ntmps50
  go_wp2
  go_ret
  exact ⟨by first | rfl | (simp; done) | (simp; omega), by repeat (first | exact Drawn0.refl _ | apply Drawn0.step)⟩
set_option maxHeartbeats 8000000 in
set_option maxRecDepth 100000 in
theorem slices_ContainsFunc_string_string_impl_LineOk_1.index (A0 : Option Addr) (c0 : Nat) (l0 : List ByteArray) (w : World) (hr0 : Kd.C Kd.string w A0 l0.length l0) :
    Calls Try.prog 67 #[.slice A0 l0.length c0, .func (.func 50) #[] #[]] w fun e w' => ∃ i : Int, e = .returned (.int .i64 i) ∧ decide (0 ≤ i) = (l0.any fun s => decide (3000 < s.size)) ∧ Drawn0 w w' := by
  have HM : l0.length ≤ 9223372036854775807 := Kd.C_max hr0
  have HR := Aside0.mk hr0
  clear hr0
  go_enter Try.func67, Try.ntmps67
  go_wp2
  go_loopg [8] (l0.length + 1) (fun kq v8 w' => ∃ j : Nat, v8 = .int .i64 (j : Int) ∧ j ≤ l0.length ∧ Aside0 (kq + j = l0.length + 1) ∧ Aside0 ((l0.any fun s => decide (3000 < s.size)) = ((l0.drop j).any fun s => decide (3000 < s.size))) ∧ Drawn0 w w')
  case atStart => exact ⟨0, rfl, Nat.zero_le _, ⟨by omega⟩, ⟨by rw [List.drop_zero]⟩, by repeat (first | exact Drawn0.refl _ | apply Drawn0.step)⟩
  case round =>
    obtain ⟨j, rfl, hj, HK, HA, ⟨m1, rfl⟩⟩ := hrel
    by_cases hlt : j < l0.length
    · obtain ⟨ad, e, hx⟩ := Kd.at_string HR.out (j : Int) (by omega) (by omega)
      cases e
      simp only [Int.toNat_natCast] at hx
      have HA' := Aside0.mk (HA.out.trans (any_drop_strs (fun s => decide (3000 < s.size)) l0 j hlt))
      by_cases hb : 3000 < (rdOf ByteArray.empty l0 (j : Int)).size
      · have A := Aside0.mk (decide_eq_true hb)
        clear hb
        go_wp2_with (go_at_call 50; (with_reducible refine (slices_ContainsFunc_string_string_impl_LineOk_1.closure (rdOf ByteArray.empty l0 (j : Int)) true _ (A.out)).mono ?_); rintro e w' ⟨rfl, ⟨nd, rfl⟩⟩)
        go_ret
        exact ⟨_, rfl, by rw [HA'.out, decide_eq_true (Int.natCast_nonneg j), A.out]; rfl, by repeat (first | exact Drawn0.refl _ | apply Drawn0.step)⟩
      · have A := Aside0.mk (decide_eq_false hb)
        have HA2 := Aside0.mk (HA'.out.trans (by rw [A.out, Bool.false_or]))
        clear hb HA HA'
        go_wp2_with (go_at_call 50; (with_reducible refine (slices_ContainsFunc_string_string_impl_LineOk_1.closure (rdOf ByteArray.empty l0 (j : Int)) false _ (A.out)).mono ?_); rintro e w' ⟨rfl, ⟨nd, rfl⟩⟩)
        go_roundg (gk - 1)
        case measure => have := HK.out; omega
        case rel => exact ⟨j + 1, by go_num, by omega, ⟨by have := HK.out; omega⟩, HA2, by repeat (first | exact Drawn0.refl _ | apply Drawn0.step)⟩
    · obtain rfl : j = l0.length := by omega
      have HA' := Aside0.mk (HA.out.trans (by rw [List.drop_length]; rfl) : _ = false)
      clear HA
      go_wp2
      go_ret
      exact ⟨_, rfl, HA'.out.symm ▸ rfl, by repeat (first | exact Drawn0.refl _ | apply Drawn0.step)⟩
theorem slices_ContainsFunc_string_string_impl_LineOk_1.calls (A0 : Option Addr) (c0 : Nat) (l0 : List ByteArray) (r : Bool) (w : World) (hr0 : Kd.C Kd.string w A0 l0.length l0) (hc0 : l0.length ≤ c0) (h : slices_ContainsFunc_string_string_impl_LineOk_1.f l0 = some r) :
    Calls Try.prog 49 #[.slice A0 l0.length c0, .func (.func 50) #[] #[]] w fun e w' => e = .returned (.bool r) ∧ Drawn0 w w' := by
  have H := Aside0.mk (Option.some.inj h)
  have HR := Aside0.mk hr0
  clear h hr0
  go_enter Try.func49, Try.ntmps49
  go_wp2_with (go_at_call 67; (with_reducible refine (slices_ContainsFunc_string_string_impl_LineOk_1.index A0 c0 l0 _ HR.out).mono ?_); rintro e w' ⟨i, rfl, hi, ⟨nd, rfl⟩⟩; have HI := Aside0.mk hi; clear hi)
  go_ret
  exact ⟨by rw [← H.out, ← HI.out]; rfl, by repeat (first | exact Drawn0.refl _ | apply Drawn0.step)⟩


end Go.Proofs.Yteaeachobnmpgaa.PAll
