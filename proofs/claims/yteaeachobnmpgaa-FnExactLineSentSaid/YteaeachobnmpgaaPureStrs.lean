/- Of a row of strings: its weight tells a bound or less than nothing, its copy is the row, it equals itself. No condition. -/
import Derived.Test.YteaeachobnmpgaaPureDraw
import Derived.Test.YteaeachobnmpgaaPAllxlawsszStringS1029
import Derived.Test.YteaeachobnmpgaaPAllxlawstoStringSd3be
import Derived.Test.YteaeachobnmpgaaPAllxlawseqStringS2b60
namespace Go.Proofs.Yteaeachobnmpgaa.Strs
open Go.RowKit Go.Proofs.Yteaeachobnmpgaa.PAll Go.Proofs.YteaeachobnmpgaaW.PrintWords Go.Proofs.YteaeachobnmpgaaW.PrintLast Go.Proofs.YteaeachobnmpgaaW.PrintMore Go.Proofs.YteaeachobnmpgaaW.XWords
open Go.Proofs.Yteaeachobnmpgaa.Draw
theorem rdOf_at {α : Type} (d : α) (l : List α) (j : Nat) (h : j < l.length) : rdOf d l (j : Int) = l[j] := by
  unfold rdOf
  simp [h]
theorem sz_loop (l : List ByteArray) (hl : l.length ≤ 1048576) (hs : ∀ x ∈ l, x.size ≤ maxLen) (d : Nat) : ∀ (k j : Nat) (n : Int), 0 ≤ n → n ≤ 1048576 → j ≤ l.length → l.length - j = d → d < k →
    ∃ r : Int, laws_szStringS.l0 k l n (j : Int) = some r ∧ r ≤ n ∧ (0 ≤ r → ∀ i (h : i < l.length), j ≤ i → l[i].size ≤ 1048576) := by
  induction d with
  | zero =>
    intro k j n h0 h1 hj hd hk
    obtain ⟨k, rfl⟩ : ∃ m, k = m + 1 := ⟨k - 1, by omega⟩
    refine ⟨n, ?_, by omega, fun _ i h hji => by omega⟩
    simp only [laws_szStringS.l0]
    rw [if_neg (by omega)]
  | succ d ih =>
    intro k j n h0 h1 hj hd hk
    obtain ⟨k, rfl⟩ : ∃ m, k = m + 1 := ⟨k - 1, by omega⟩
    have hm := hs _ (List.getElem_mem (show j < l.length by omega))
    unfold maxLen at hm
    simp only [laws_szStringS.l0]
    rw [if_pos (by omega), if_pos (by omega), rdOf_at _ l j (by omega), wrap_in (n - _) (by omega) (by omega)]
    by_cases hn : n - (l[j].size : Int) < 0
    · rw [if_pos hn]
      exact ⟨-1, rfl, by omega, fun h => by omega⟩
    · rw [if_neg hn, show wrap64 ((j : Int) + 1) = ((j + 1 : Nat) : Int) by unfold wrap64; omega]
      obtain ⟨r, h2, h3, h4⟩ := ih k (j + 1) _ (by omega) (show n - (l[j].size : Int) ≤ 1048576 by omega) (by omega) (by omega) (by omega)
      refine ⟨r, h2, by omega, fun hr i h hji => ?_⟩
      rcases Nat.lt_or_ge j i with h5 | h5
      · exact h4 hr i h (by omega)
      · obtain rfl : i = j := by omega
        omega
theorem sz_ok (l : List ByteArray) (hl : l.length ≤ maxLen) (hs : ∀ x ∈ l, x.size ≤ maxLen) (n : Int) (h0 : 0 ≤ n) (h1 : n ≤ 1048576) (k : Nat) (hk : l.length < k) :
    ∃ r : Int, laws_szStringS.f k l n = some r ∧ r ≤ n ∧ (0 ≤ r → (l.length : Int) ≤ n ∧ ∀ x ∈ l, x.size ≤ 1048576) := by
  unfold maxLen at hl
  unfold laws_szStringS.f
  rw [wrap_in _ (by omega) (by omega)]
  by_cases hn : n - (l.length : Int) < 0
  · rw [if_pos hn]
    exact ⟨-1, rfl, by omega, fun h => by omega⟩
  · rw [if_neg hn]
    obtain ⟨r, h2, h3, h4⟩ := sz_loop l (by omega) hs l.length k 0 (n - (l.length : Int)) (by omega) (by omega) (by omega) (by omega) hk
    refine ⟨r, h2, by omega, fun hr => ⟨by omega, fun x hx => ?_⟩⟩
    obtain ⟨i, hi, rfl⟩ := List.mem_iff_getElem.1 hx
    exact h4 hr i hi (by omega)
theorem to_loop (l : List ByteArray) (hl : l.length ≤ 1048576) (d : Nat) : ∀ (k j : Nat) (m : List ByteArray), m.length = l.length → m.take j = l.take j → j ≤ l.length → l.length - j = d → d < k →
    laws_toStringS.l0 k l m (j : Int) = some l := by
  induction d with
  | zero =>
    intro k j m hm ht hj hd hk
    obtain ⟨k, rfl⟩ : ∃ m, k = m + 1 := ⟨k - 1, by omega⟩
    simp only [laws_toStringS.l0]
    rw [if_neg (by omega)]
    obtain rfl : j = l.length := by omega
    rw [← hm, List.take_length, hm, List.take_length] at ht
    rw [ht]
  | succ d ih =>
    intro k j m hm ht hj hd hk
    obtain ⟨k, rfl⟩ : ∃ m, k = m + 1 := ⟨k - 1, by omega⟩
    simp only [laws_toStringS.l0]
    rw [if_pos (by omega), if_pos (by omega), if_pos (by omega), rdOf_at _ l j (by omega), show wrap64 ((j : Int) + 1) = ((j + 1 : Nat) : Int) by unfold wrap64; omega]
    refine ih k (j + 1) _ (by simpa using hm) ?_ (by omega) (by omega) (by omega)
    rw [show ((j : Int)).toNat = j by omega]
    apply List.ext_getElem?
    intro i
    rcases Nat.lt_trichotomy i j with h | h | h
    · have := congrArg (fun q => q[i]?) ht
      simp only [List.getElem?_take, h, if_true] at this
      rw [List.getElem?_take, List.getElem?_take, if_pos (by omega), if_pos (by omega), List.getElem?_set_ne (by omega)]
      exact this
    · subst h
      rw [List.getElem?_take, List.getElem?_take, if_pos (by omega), if_pos (by omega), List.getElem?_set_self (by omega), List.getElem?_eq_getElem (by omega)]
    · rw [List.getElem?_take, List.getElem?_take, if_neg (by omega), if_neg (by omega)]
theorem to_ok (l : List ByteArray) (hl : l.length ≤ 1048576) (k : Nat) (hk : l.length < k) : laws_toStringS.f k l = some l := by
  unfold laws_toStringS.f
  rw [if_pos (by omega), if_pos (by omega)]
  exact to_loop l hl l.length k 0 _ (by simp) (by simp) (by omega) (by omega) hk
theorem eq_loop (l : List ByteArray) (hl : l.length ≤ 1048576) (d : Nat) : ∀ (k j : Nat), j ≤ l.length → l.length - j = d → d < k → laws_eqStringS.l0 k l l (j : Int) = some true := by
  induction d with
  | zero =>
    intro k j hj hd hk
    obtain ⟨k, rfl⟩ : ∃ m, k = m + 1 := ⟨k - 1, by omega⟩
    simp only [laws_eqStringS.l0]
    rw [if_neg (by omega)]
  | succ d ih =>
    intro k j hj hd hk
    obtain ⟨k, rfl⟩ : ∃ m, k = m + 1 := ⟨k - 1, by omega⟩
    simp only [laws_eqStringS.l0]
    rw [if_pos (by omega), if_pos (by omega), if_pos (by omega), if_pos trivial, show wrap64 ((j : Int) + 1) = ((j + 1 : Nat) : Int) by unfold wrap64; omega]
    exact ih k (j + 1) (by omega) (by omega) (by omega)
theorem eq_ok (l : List ByteArray) (hl : l.length ≤ 1048576) (k : Nat) (hk : l.length < k) : laws_eqStringS.f k l l = some true := by
  unfold laws_eqStringS.f
  rw [if_pos rfl]
  exact eq_loop l hl l.length k 0 (by omega) (by omega) hk
end Go.Proofs.Yteaeachobnmpgaa.Strs
