/- NameOk of the program answers as the reference's NameOk for every text. No condition. -/
import Derived.Test.YteaeachobnmpgaaPAllxlawsFnExactNameOk377d
import Derived.Test.YteaeachobnmpgaaPAllxspecl1In08d2
import Derived.Test.YteaeachobnmpgaaPAllxspecl2Leadab8d
import Derived.Test.YteaeachobnmpgaaPAllxspecl2Incc5d
import Derived.Test.YteaeachobnmpgaaPAllxspecl1Figure312f
import Derived.Test.YteaeachobnmpgaaPAllxspecl2Namea862
import Derived.Test.YteaeachobnmpgaaPAllxspecNameOkf68a
import Derived.Test.YteaeachobnmpgaaPAllximplNameOkc35a
namespace Go.Proofs.Yteaeachobnmpgaa.PureName
open Go.RowKit Go.Proofs.Yteaeachobnmpgaa.PAll Go.Proofs.YteaeachobnmpgaaW.PrintWords Go.Proofs.YteaeachobnmpgaaW.PrintLast Go.Proofs.YteaeachobnmpgaaW.PrintMore Go.Proofs.YteaeachobnmpgaaW.XWords

theorem in_eq (n lo hi : Int) : spec_l1In.f n lo hi = some (decide (lo ≤ n) && decide (n ≤ hi)) := by
  unfold spec_l1In.f
  split <;> rw [Option.some.injEq, Bool.eq_iff_iff] <;> simp <;> omega
theorem lead_eq (b : Int) : spec_l2Lead.f b = some (impl_NameOk.lead b) := by
  unfold spec_l2Lead.f impl_NameOk.lead
  (repeat' split) <;> rw [Option.some.injEq, Bool.eq_iff_iff] <;> simp <;> omega
theorem fig_eq (b : Int) : spec_l1Figure.f b = some (decide (48 ≤ b) && decide (b ≤ 57)) := by
  unfold spec_l1Figure.f
  split <;> rw [Option.some.injEq, Bool.eq_iff_iff] <;> simp <;> omega
theorem inB_eq (b : Int) : spec_l2In.f b = some (impl_NameOk.inB b) := by
  unfold spec_l2In.f impl_NameOk.inB
  rw [lead_eq b, fig_eq b, Option.bind_some, Option.bind_some]
  cases impl_NameOk.lead b <;> (repeat' split) <;> rw [Option.some.injEq, Bool.eq_iff_iff] <;> simp_all <;> omega
theorem loop (s : ByteArray) (hs : s.size ≤ 140737488351232) (d : Nat) : ∀ (k j : Nat), j ≤ s.size → s.size - j = d → d < k →
    spec_l2Name.l0 k s (j : Int) = some (((bytesOf s).drop j).all impl_NameOk.inB && (decide (1 ≤ s.size) && decide (s.size ≤ 12) && impl_NameOk.lead (bt s 0))) := by
  induction d with
  | zero =>
    intro k j hj hd hk
    obtain ⟨k, rfl⟩ : ∃ m, k = m + 1 := ⟨k - 1, by omega⟩
    obtain rfl : j = s.size := by omega
    rw [List.drop_of_length_le (by rw [bytesOf_length]; exact Nat.le_refl _)]
    simp only [spec_l2Name.l0]
    rw [if_neg (by omega), in_eq, Option.bind_some]
    by_cases h1 : 1 ≤ s.size
    · by_cases h2 : s.size ≤ 12
      · rw [if_pos (by simp; omega), if_pos (by omega), lead_eq, Option.bind_some]
        simp [h1, h2]
      · rw [if_neg (by simp; omega)]
        simp [h2]
    · rw [if_neg (by simp; omega)]
      simp [h1]
  | succ d ih =>
    intro k j hj hd hk
    obtain ⟨k, rfl⟩ : ∃ m, k = m + 1 := ⟨k - 1, by omega⟩
    have hlt : j < s.size := by omega
    simp only [spec_l2Name.l0]
    rw [if_pos (by omega), if_pos (by omega), inB_eq, Option.bind_some, all_drop_bytes _ _ _ hlt]
    cases hb : impl_NameOk.inB (bt s (j : Int)) with
    | true =>
      rw [if_pos rfl, show wrap64 ((j : Int) + 1) = ((j + 1 : Nat) : Int) by unfold wrap64; omega, ih k (j + 1) (by omega) (by omega) (by omega)]
      simp
    | false => simp
theorem name_eq (s : ByteArray) (hs : s.size ≤ 140737488351232) : spec_NameOk.f (s.size + 1) s = impl_NameOk.f s := by
  unfold spec_NameOk.f spec_l2Name.f impl_NameOk.f
  have := loop s hs s.size (s.size + 1) 0 (by omega) (by omega) (by omega)
  rw [show ((0 : Nat) : Int) = 0 from rfl] at this
  rw [this, if_pos hs, List.drop_zero]
  rfl
end Go.Proofs.Yteaeachobnmpgaa.PureName
namespace Go.Proofs.Yteaeachobnmpgaa.Pure
open Go.RowKit Go.Proofs.Yteaeachobnmpgaa.PAll Go.Proofs.YteaeachobnmpgaaW.PrintWords Go.Proofs.YteaeachobnmpgaaW.PrintLast Go.Proofs.YteaeachobnmpgaaW.PrintMore Go.Proofs.YteaeachobnmpgaaW.XWords
theorem FnExactNameOk : laws_FnExactNameOk.Pure := by
  intro s hs
  refine ⟨s.size + 1, ?_⟩
  unfold laws_FnExactNameOk.f
  by_cases h : (s.size : Int) > 1048576
  · rw [if_pos h]
  · rw [if_neg h, PureName.name_eq s hs]
    unfold impl_NameOk.f
    rw [if_pos hs]
    simp
end Go.Proofs.Yteaeachobnmpgaa.Pure
