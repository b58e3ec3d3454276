-- the plain law: this session's
import Derived.Test.YtgjecacalpaacaaZFnExactServerNewK0
import Derived.Test.YtgjecacalpaacaaZFnExactServerNewK3
import Derived.Test.YtgjecacalpaacaaZFnExactServerNewK1
import Derived.Test.YtgjecacalpaacaaZFnExactServerNewK4
namespace Go.Proofs.Ytgjecacalpaacaa.Wrap
open Go.RowKit Go.Proofs.Ytgjecacalpaacaa.PAll Go.Proofs.YtgjecacalpaacaaW.PrintWords Go.Proofs.YtgjecacalpaacaaW.PrintLast Go.Proofs.YtgjecacalpaacaaW.PrintMore Go.Proofs.YtgjecacalpaacaaW.XWords
theorem wrap_in (x : Int) (h1 : -9223372036854775808 ≤ x) (h2 : x ≤ 9223372036854775807) : wrap64 x = x := by unfold wrap64; omega
end Go.Proofs.Ytgjecacalpaacaa.Wrap
set_option linter.unusedVariables false
set_option linter.unusedSimpArgs false
namespace Go.Proofs.Ytgjecacalpaacaa.Words
open Go.RowKit Go.Proofs.Ytgjecacalpaacaa.PAll Go.Proofs.YtgjecacalpaacaaW.PrintWords Go.Proofs.YtgjecacalpaacaaW.PrintLast Go.Proofs.YtgjecacalpaacaaW.PrintMore Go.Proofs.YtgjecacalpaacaaW.XWords
def userB (s : ByteArray) : Bool := (bytesOf s).all impl_userOk.inB && (decide (1 ≤ s.size) && decide (s.size ≤ 8))
def wordB (s : ByteArray) : Bool := (bytesOf s).all impl_wordOk.inB && (decide (1 ≤ s.size) && decide (s.size ≤ 12))
theorem wrap_small' (n : Nat) (h : n ≤ 9223372036854775807) : wrap64 (n : Int) = (n : Int) := by unfold wrap64; omega
theorem within_eq (n lo hi : Int) : impl_within.f n lo hi = some (decide (lo ≤ n) && decide (n ≤ hi)) := by
  unfold impl_within.f
  split <;> rw [Option.some.injEq, Bool.eq_iff_iff] <;> simp <;> omega
theorem in_eq (n lo hi : Int) : spec_l1In.f n lo hi = some (decide (lo ≤ n) && decide (n ≤ hi)) := by
  unfold spec_l1In.f
  split <;> rw [Option.some.injEq, Bool.eq_iff_iff] <;> simp <;> omega
theorem wrap_next (s : ByteArray) (hs : s.size ≤ 140737488351232) (j : Nat) (hj : j < s.size) : wrap64 ((j : Int) + 1) = ((j + 1 : Nat) : Int) := by
  rw [show ((j : Int) + 1) = ((j + 1 : Nat) : Int) by omega]
  exact wrap_small' (j + 1) (by omega)
theorem all_end (p : Int → Bool) (s : ByteArray) : ((bytesOf s).drop s.size).all p = true := by
  rw [List.drop_of_length_le (by rw [bytesOf_length]; exact Nat.le_refl _)]
  rfl
theorem impl_user (s : ByteArray) (hs : s.size ≤ 140737488351232) : impl_userOk.f s = some (userB s) := by
  unfold impl_userOk.f
  rw [if_pos hs]
  rfl
theorem small_eq (b : Int) : spec_l4Small.f b = some (impl_userOk.smB b) := by
  unfold spec_l4Small.f spec_l1Figure.f impl_userOk.smB
  (repeat' split) <;> (try simp only [Option.bind_some]) <;> rw [Option.some.injEq, Bool.eq_iff_iff] <;> simp_all <;> omega
theorem user_loop (s : ByteArray) (hs : s.size ≤ 140737488351232) (d : Nat) : ∀ (k j : Nat), j ≤ s.size → s.size - j = d → d < k →
    spec_l4User.l0 k s (j : Int) = some (((bytesOf s).drop j).all impl_userOk.inB && (decide (1 ≤ s.size) && decide (s.size ≤ 8))) := by
  induction d with
  | zero =>
    intro k j hj hd hk
    obtain ⟨k, rfl⟩ : ∃ m, k = m + 1 := ⟨k - 1, by omega⟩
    obtain rfl : j = s.size := by omega
    simp only [spec_l4User.l0]
    rw [if_neg (by omega), in_eq, Option.bind_some, all_end, Bool.true_and, Option.some.injEq, Bool.eq_iff_iff]
    simp
    omega
  | succ d ih =>
    intro k j hj hd hk
    obtain ⟨k, rfl⟩ : ∃ m, k = m + 1 := ⟨k - 1, by omega⟩
    have hlt : j < s.size := by omega
    have hih := ih k (j + 1) (by omega) (by omega) (by omega)
    have hw := Aside0.mk (wrap_next s hs j hlt)
    simp only [spec_l4User.l0]
    rw [if_pos (by omega), if_pos (by omega), small_eq, Option.bind_some, all_drop_bytes _ _ _ hlt, hw.out]
    by_cases h1 : impl_userOk.smB (bt s (j : Int)) = true
    · rw [if_pos h1, hih, show impl_userOk.inB (bt s (j : Int)) = true by unfold impl_userOk.inB; unfold impl_userOk.smB at h1; rw [h1]; rfl, Bool.true_and]
    · rw [if_neg h1]
      have hI : impl_userOk.inB (bt s (j : Int)) = (bt s (j : Int) == 45 || bt s (j : Int) == 46 || bt s (j : Int) == 95) := by
        unfold impl_userOk.inB
        unfold impl_userOk.smB at h1
        rw [Bool.not_eq_true] at h1
        rw [h1]
        simp
      rw [hI]
      by_cases h45 : bt s (j : Int) = 45
      · rw [if_pos h45, hih, h45]; simp
      rw [if_neg h45]
      by_cases h46 : bt s (j : Int) = 46
      · rw [if_pos h46, hih, h46]; simp
      rw [if_neg h46]
      by_cases h95 : bt s (j : Int) = 95
      · rw [if_pos h95, hih, h95]; simp
      rw [if_neg h95, show (bt s (j : Int) == 45) = false by simpa using h45, show (bt s (j : Int) == 46) = false by simpa using h46, show (bt s (j : Int) == 95) = false by simpa using h95]
      simp
theorem spec_user (s : ByteArray) (hs : s.size ≤ 140737488351232) (k : Nat) (hk : s.size < k) : spec_l4User.f k s = some (userB s) := by
  have h := user_loop s hs s.size k 0 (by omega) (by omega) hk
  rw [List.drop_zero] at h
  exact h
theorem impl_word (s : ByteArray) (hs : s.size ≤ 140737488351232) : impl_wordOk.f s = some (wordB s) := by
  unfold impl_wordOk.f
  rw [if_pos hs]
  rfl
theorem word_loop (s : ByteArray) (hs : s.size ≤ 140737488351232) (d : Nat) : ∀ (k j : Nat), j ≤ s.size → s.size - j = d → d < k →
    spec_l5Word.l0 k s (j : Int) = some (((bytesOf s).drop j).all impl_wordOk.inB && (decide (1 ≤ s.size) && decide (s.size ≤ 12))) := by
  induction d with
  | zero =>
    intro k j hj hd hk
    obtain ⟨k, rfl⟩ : ∃ m, k = m + 1 := ⟨k - 1, by omega⟩
    obtain rfl : j = s.size := by omega
    simp only [spec_l5Word.l0]
    rw [if_neg (by omega), in_eq, Option.bind_some, all_end, Bool.true_and, Option.some.injEq, Bool.eq_iff_iff]
    simp
    omega
  | succ d ih =>
    intro k j hj hd hk
    obtain ⟨k, rfl⟩ : ∃ m, k = m + 1 := ⟨k - 1, by omega⟩
    have hlt : j < s.size := by omega
    have hih := ih k (j + 1) (by omega) (by omega) (by omega)
    have hw := Aside0.mk (wrap_next s hs j hlt)
    simp only [spec_l5Word.l0]
    rw [if_pos (by omega), if_pos (by omega), all_drop_bytes _ _ _ hlt, hw.out]
    unfold impl_wordOk.inB at hih ⊢
    by_cases h1 : bt s (j : Int) ≤ 32
    · rw [if_pos h1, decide_eq_false (show ¬ (33 ≤ bt s (j : Int)) by omega)]; simp
    rw [if_neg h1]
    by_cases h2 : bt s (j : Int) ≥ 127
    · rw [if_pos h2, decide_eq_false (show ¬ (bt s (j : Int) ≤ 126) by omega)]; simp
    rw [if_neg h2, hih, decide_eq_true (show 33 ≤ bt s (j : Int) by omega), decide_eq_true (show bt s (j : Int) ≤ 126 by omega)]
    simp
theorem spec_word (s : ByteArray) (hs : s.size ≤ 140737488351232) (k : Nat) (hk : s.size < k) : spec_l5Word.f k s = some (wordB s) := by
  have h := word_loop s hs s.size k 0 (by omega) (by omega) hk
  rw [List.drop_zero] at h
  exact h
end Go.Proofs.Ytgjecacalpaacaa.Words
namespace Go.Proofs.Ytgjecacalpaacaa.Marks
open Go.RowKit Go.Proofs.Ytgjecacalpaacaa.PAll Go.Proofs.YtgjecacalpaacaaW.PrintWords Go.Proofs.YtgjecacalpaacaaW.PrintLast Go.Proofs.YtgjecacalpaacaaW.PrintMore Go.Proofs.YtgjecacalpaacaaW.XWords
open Go.Proofs.Ytgjecacalpaacaa.Wrap
theorem one_size (x : Int) : (strOfNums [x]).size = 1 := rfl
theorem text_loop (d : Nat) : ∀ (x : Int) (s : ByteArray), 0 ≤ x → x < 10 ^ d → x < 1000000000000000000 → s.size + d ≤ 100 → ∃ r, ∀ k, d < k → laws_markText.l0 k x s = some r := by
  induction d with
  | zero =>
    intro x s h0 h1 _ hs
    refine ⟨(⟨#[109]⟩ : ByteArray) ++ s, fun k hk => ?_⟩
    obtain ⟨k, rfl⟩ : ∃ m, k = m + 1 := ⟨k - 1, by omega⟩
    simp only [laws_markText.l0]
    rw [if_neg (by omega), if_pos (by omega)]
  | succ d ih =>
    intro x s h0 h1 h9 hs
    by_cases hx : x > 0
    · obtain ⟨r, hr⟩ := ih (x / 10) (strOfNums [(wrap64 (48 + (Int.tmod x 10))) % 256] ++ s) (by omega) (by rw [Int.pow_succ] at h1; omega) (by omega) (by rw [ByteArray.size_append, one_size]; omega)
      refine ⟨r, fun k hk => ?_⟩
      obtain ⟨k, rfl⟩ : ∃ m, k = m + 1 := ⟨k - 1, by omega⟩
      simp only [laws_markText.l0]
      rw [if_pos hx, Option.bind_some, one_size, if_pos (by omega), Int.tdiv_eq_ediv_of_nonneg h0, wrap_in _ (by omega) (by omega)]
      exact hr k (by omega)
    · refine ⟨(⟨#[109]⟩ : ByteArray) ++ s, fun k hk => ?_⟩
      obtain ⟨k, rfl⟩ : ∃ m, k = m + 1 := ⟨k - 1, by omega⟩
      simp only [laws_markText.l0]
      rw [if_neg hx, if_pos (by omega)]
theorem text_ok (n : Int) (h0 : 0 ≤ n) (h1 : n < 1000000000000000000) : ∃ r, ∀ k, 18 < k → laws_markText.f k n = some r := by
  obtain ⟨r, hr⟩ := text_loop 18 n (⟨#[]⟩ : ByteArray) h0 (by omega) h1 (by decide)
  by_cases h : n ≤ 0
  · exact ⟨_, fun k _ => by unfold laws_markText.f; rw [if_pos h]⟩
  · exact ⟨r, fun k hk => by unfold laws_markText.f; rw [if_neg h]; exact hr k hk⟩
open Classical in
noncomputable def mt (n : Int) : ByteArray := if h : ∃ r, ∀ k, 18 < k → laws_markText.f k n = some r then h.choose else ⟨#[]⟩
theorem mt_eq (n : Int) (h0 : 0 ≤ n) (h1 : n < 1000000000000000000) (k : Nat) (hk : 18 < k) : laws_markText.f k n = some (mt n) := by
  unfold mt
  rw [dif_pos (text_ok n h0 h1)]
  exact (text_ok n h0 h1).choose_spec k hk
end Go.Proofs.Ytgjecacalpaacaa.Marks
namespace Go.Proofs.Ytgjecacalpaacaa.Rws
open Go.RowKit Go.Proofs.Ytgjecacalpaacaa.PAll Go.Proofs.YtgjecacalpaacaaW.PrintWords Go.Proofs.YtgjecacalpaacaaW.PrintLast Go.Proofs.YtgjecacalpaacaaW.PrintMore Go.Proofs.YtgjecacalpaacaaW.XWords
open Go.Proofs.Ytgjecacalpaacaa.Wrap
theorem rdOf_at {α : Type} (d : α) (l : List α) (j : Nat) (h : j < l.length) : rdOf d l (j : Int) = l[j] := by
  unfold rdOf
  simp [h]
def toAccount (x : S38) : S40 := ⟨x.f0, x.f1⟩
theorem szAccount (a0 : ByteArray) (a1 : ByteArray) (ha0 : a0.size ≤ maxLen) (ha1 : a1.size ≤ maxLen) (n : Int) (h0 : 0 ≤ n) (h1 : n ≤ 1048576) : ∃ z, laws_szAccount.f a0 a1 n = some z ∧ z ≤ n ∧ (0 ≤ z → a0.size ≤ 1048576 ∧ a1.size ≤ 1048576) := by
  unfold maxLen at ha0 ha1
  unfold laws_szAccount.f
  rw [wrap_in (n - _) (by omega) (by omega)]
  by_cases c0 : n - (a0.size : Int) < 0
  · rw [if_pos c0]
    exact ⟨-1, rfl, by omega, fun h => by omega⟩
  rw [if_neg c0]
  rw [wrap_in (n - (a0.size : Int) - _) (by omega) (by omega)]
  by_cases c1 : n - (a0.size : Int) - (a1.size : Int) < 0
  · rw [if_pos c1]
    exact ⟨-1, rfl, by omega, fun h => by omega⟩
  rw [if_neg c1]
  exact ⟨_, rfl, by omega, fun _ => ⟨by omega, by omega⟩⟩
theorem szAccount_loop (l : List S38) (hl : l.length ≤ 1048576) (hs : ∀ x ∈ l, x.f0.size ≤ maxLen ∧ x.f1.size ≤ maxLen) (d : Nat) : ∀ (k j : Nat) (n : Int), 0 ≤ n → n ≤ 1048576 → j ≤ l.length → l.length - j = d → d < k →
    ∃ r : Int, laws_szAccountS.l0 k l n (j : Int) = some r ∧ r ≤ n ∧ (0 ≤ r → ∀ i (h : i < l.length), j ≤ i → l[i].f0.size ≤ 1048576 ∧ l[i].f1.size ≤ 1048576) := by
  induction d with
  | zero =>
    intro k j n h0 h1 hj hd hk
    obtain ⟨k, rfl⟩ : ∃ m, k = m + 1 := ⟨k - 1, by omega⟩
    refine ⟨n, ?_, by omega, fun _ i h hji => by omega⟩
    simp only [laws_szAccountS.l0]
    rw [if_neg (by omega)]
  | succ d ih =>
    intro k j n h0 h1 hj hd hk
    obtain ⟨k, rfl⟩ : ∃ m, k = m + 1 := ⟨k - 1, by omega⟩
    have hm := hs _ (List.getElem_mem (show j < l.length by omega))
    simp only [laws_szAccountS.l0]
    rw [if_pos (by omega), if_pos (by omega), show rd_T38 l (j : Int) = l[j] from rdOf_at _ l j (by omega)]
    obtain ⟨z, hz, hz1, hz2⟩ := szAccount _ _ hm.1 hm.2 n h0 h1
    rw [hz, Option.bind_some]
    by_cases hn : z < 0
    · rw [if_pos hn]
      exact ⟨-1, rfl, by omega, fun h => by omega⟩
    · rw [if_neg hn, show wrap64 ((j : Int) + 1) = ((j + 1 : Nat) : Int) by unfold wrap64; omega]
      obtain ⟨r, h2, h3, h4⟩ := ih k (j + 1) z (by omega) (by omega) (by omega) (by omega) (by omega)
      refine ⟨r, h2, by omega, fun hr i h hji => ?_⟩
      rcases Nat.lt_or_ge j i with h5 | h5
      · exact h4 hr i h (by omega)
      · obtain rfl : i = j := by omega
        exact hz2 (by omega)
theorem szAccountS (l : List S38) (hl : l.length ≤ maxLen) (hs : ∀ x ∈ l, x.f0.size ≤ maxLen ∧ x.f1.size ≤ maxLen) (n : Int) (h0 : 0 ≤ n) (h1 : n ≤ 1048576) (k : Nat) (hk : l.length < k) :
    ∃ r : Int, laws_szAccountS.f k l n = some r ∧ r ≤ n ∧ (0 ≤ r → (l.length : Int) ≤ n ∧ ∀ x ∈ l, x.f0.size ≤ 1048576 ∧ x.f1.size ≤ 1048576) := by
  unfold maxLen at hl
  unfold laws_szAccountS.f
  rw [wrap_in _ (by omega) (by omega)]
  by_cases hn : n - (l.length : Int) < 0
  · rw [if_pos hn]
    exact ⟨-1, rfl, by omega, fun h => by omega⟩
  · rw [if_neg hn]
    obtain ⟨r, h2, h3, h4⟩ := szAccount_loop l (by omega) hs l.length k 0 (n - (l.length : Int)) (by omega) (by omega) (by omega) (by omega) hk
    refine ⟨r, h2, by omega, fun hr => ⟨by omega, fun x hx => ?_⟩⟩
    obtain ⟨i, hi, rfl⟩ := List.mem_iff_getElem.1 hx
    exact h4 hr i hi (by omega)
theorem toAccount_loop (l : List S38) (hl : l.length ≤ 1048576) (d : Nat) : ∀ (k j : Nat) (m : List S40), m.length = l.length → m.take j = (l.map toAccount).take j → j ≤ l.length → l.length - j = d → d < k →
    laws_toAccountS.l0 k l m (j : Int) = some (l.map toAccount) := by
  induction d with
  | zero =>
    intro k j m hm ht hj hd hk
    obtain ⟨k, rfl⟩ : ∃ m, k = m + 1 := ⟨k - 1, by omega⟩
    simp only [laws_toAccountS.l0]
    rw [if_neg (by omega)]
    obtain rfl : j = l.length := by omega
    rw [← hm, List.take_length, hm, List.take_of_length_le (by simp)] at ht
    rw [ht]
  | succ d ih =>
    intro k j m hm ht hj hd hk
    obtain ⟨k, rfl⟩ : ∃ m, k = m + 1 := ⟨k - 1, by omega⟩
    simp only [laws_toAccountS.l0]
    rw [if_pos (by omega), if_pos (by omega), show rd_T38 l (j : Int) = l[j] from rdOf_at _ l j (by omega)]
    simp only [laws_toAccount.f, Option.bind_some]
    rw [if_pos (by omega), show wrap64 ((j : Int) + 1) = ((j + 1 : Nat) : Int) by unfold wrap64; omega]
    refine ih k (j + 1) _ (by simpa using hm) ?_ (by omega) (by omega) (by omega)
    rw [show ((j : Int)).toNat = j by omega]
    apply List.ext_getElem?
    intro i
    rcases Nat.lt_trichotomy i j with h | h | h
    · have := congrArg (fun q => q[i]?) ht
      simp only [List.getElem?_take, h, if_true] at this
      rw [List.getElem?_take, List.getElem?_take, if_pos (by omega), if_pos (by omega), List.getElem?_set_ne (by omega)]
      exact this
    · subst h
      rw [List.getElem?_take, List.getElem?_take, if_pos (by omega), if_pos (by omega), List.getElem?_set_self (by omega), List.getElem?_map, List.getElem?_eq_getElem (by omega)]
      rfl
    · rw [List.getElem?_take, List.getElem?_take, if_neg (by omega), if_neg (by omega)]
theorem toAccountS (l : List S38) (hl : l.length ≤ 1048576) (k : Nat) (hk : l.length < k) : laws_toAccountS.f k l = some (l.map toAccount) := by
  unfold laws_toAccountS.f
  rw [if_pos (by omega), if_pos (by omega)]
  exact toAccount_loop l hl l.length k 0 _ (by simp) (by simp) (by omega) (by omega) hk
theorem eqAccount (x : S40) : laws_eqAccount.f x.f0 x.f1 x.f0 x.f1 = some true := by simp [laws_eqAccount.f]
theorem eqAccount_loop (l : List S40) (hl : l.length ≤ 1048576) (d : Nat) : ∀ (k j : Nat), j ≤ l.length → l.length - j = d → d < k → laws_eqAccountS.l0 k l l (j : Int) = some true := by
  induction d with
  | zero =>
    intro k j hj hd hk
    obtain ⟨k, rfl⟩ : ∃ m, k = m + 1 := ⟨k - 1, by omega⟩
    simp only [laws_eqAccountS.l0]
    rw [if_neg (by omega)]
  | succ d ih =>
    intro k j hj hd hk
    obtain ⟨k, rfl⟩ : ∃ m, k = m + 1 := ⟨k - 1, by omega⟩
    simp only [laws_eqAccountS.l0]
    rw [if_pos (by omega), if_pos (by omega), if_pos (by omega), eqAccount, Option.bind_some, if_pos rfl, show wrap64 ((j : Int) + 1) = ((j + 1 : Nat) : Int) by unfold wrap64; omega]
    exact ih k (j + 1) (by omega) (by omega) (by omega)
theorem eqAccountS (l : List S40) (hl : l.length ≤ 1048576) (k : Nat) (hk : l.length < k) : laws_eqAccountS.f k l l = some true := by
  unfold laws_eqAccountS.f
  rw [if_pos rfl]
  exact eqAccount_loop l hl l.length k 0 (by omega) (by omega) hk
end Go.Proofs.Ytgjecacalpaacaa.Rws
set_option linter.unusedVariables false
namespace Go.Proofs.Ytgjecacalpaacaa.Server
open Go.RowKit Go.Proofs.Ytgjecacalpaacaa.PAll Go.Proofs.YtgjecacalpaacaaW.PrintWords Go.Proofs.YtgjecacalpaacaaW.PrintLast Go.Proofs.YtgjecacalpaacaaW.PrintMore Go.Proofs.YtgjecacalpaacaaW.XWords
open Go.Proofs.Ytgjecacalpaacaa.Wrap Go.Proofs.Ytgjecacalpaacaa.Words Go.Proofs.Ytgjecacalpaacaa.Marks Go.Proofs.Ytgjecacalpaacaa.Rws
abbrev SA := S40
abbrev LA := S38
theorem rdA (l : List SA) (j : Nat) (h : j < l.length) : rd_T40 l (j : Int) = l[j] := Rws.rdOf_at _ l j h
theorem wrap_up (j n : Nat) (h : j < n) (hn : n ≤ 1048576) : wrap64 ((j : Int) + 1) = ((j + 1 : Nat) : Int) := by unfold wrap64; omega
def less : Option ByteArray → ByteArray → Bool
  | none, _ => true
  | some y, x => Op.bytesLess y.toList x.toList
def accB : List SA → Option ByteArray → Bool
  | [], _ => true
  | x :: t, p => userB x.f0 && (wordB x.f1 && (less p x.f0 && accB t (some x.f0)))
def prev (l : List SA) (j : Nat) : Option ByteArray := if j = 0 then none else some (rd_T40 l ((j - 1 : Nat) : Int)).f0
def AS (l : List SA) : Prop := ∀ x ∈ l, x.f0.size ≤ 1048576 ∧ x.f1.size ≤ 1048576
def numB (l : List SA) : Bool := decide (1 ≤ (l.length : Int)) && decide ((l.length : Int) ≤ 4)
theorem prev_next (l : List SA) (j : Nat) (h : j < l.length) : prev l (j + 1) = some l[j].f0 := by
  unfold prev
  rw [if_neg (by omega), show j + 1 - 1 = j by omega, rdA l j h]
theorem acc_i (l : List SA) (hm : AS l) (hl : l.length ≤ 1048576) (d : Nat) : ∀ (k j : Nat), j ≤ l.length → l.length - j = d → d < k →
    impl_accountsOk.l0 k l l (l.length : Int) (j : Int) = some (accB (l.drop j) (prev l j) && numB l) := by
  induction d with
  | zero =>
    intro k j hj hd hk
    obtain ⟨k, rfl⟩ : ∃ m, k = m + 1 := ⟨k - 1, by omega⟩
    simp only [impl_accountsOk.l0]
    rw [if_neg (by omega), List.drop_of_length_le (by omega), within_eq, Option.bind_some]
    rfl
  | succ d ih =>
    intro k j hj hd hk
    obtain ⟨k, rfl⟩ : ∃ m, k = m + 1 := ⟨k - 1, by omega⟩
    have hx := hm l[j] (List.getElem_mem (by omega))
    have hI := ih k (j + 1) (by omega) (by omega) (by omega)
    rw [prev_next l j (by omega)] at hI
    simp only [impl_accountsOk.l0]
    rw [if_pos (by omega), if_pos (by omega), if_pos (by omega), rdA l j (by omega), impl_user _ (by omega), Option.bind_some, impl_word _ (by omega), Option.bind_some, wrap_up j l.length (by omega) hl, hI, List.drop_eq_getElem_cons (show j < l.length by omega)]
    simp only [accB]
    generalize userB l[j].f0 = b1
    generalize wordB l[j].f1 = b3
    generalize accB (l.drop (j + 1)) (some l[j].f0) = b4
    generalize numB l = b5
    by_cases h0 : j = 0
    · have hl : less (prev l j) l[j].f0 = true := by unfold prev; rw [if_pos h0]; rfl
      rw [hl, if_neg (show ¬ (j : Int) > 0 by omega)]
      cases b1 <;> cases b3 <;> simp
    · have hw : wrap64 ((j : Int) - 1) = ((j - 1 : Nat) : Int) := by unfold wrap64; omega
      have hl : less (prev l j) l[j].f0 = Op.bytesLess l[j - 1].f0.toList l[j].f0.toList := by
        unfold prev
        rw [if_neg h0, rdA l (j - 1) (by omega)]
        rfl
      rw [hl, if_pos (show (j : Int) > 0 by omega), hw, if_pos (show (0 : Int) ≤ ((j - 1 : Nat) : Int) by omega), if_pos (show ((j - 1 : Nat) : Int) < (l.length : Int) by omega), rdA l (j - 1) (by omega)]
      generalize Op.bytesLess l[j - 1].f0.toList l[j].f0.toList = b2
      cases b1 <;> cases b2 <;> cases b3 <;> simp
theorem acc_s (l : List SA) (hm : AS l) (hl : l.length ≤ 1048576) (d : Nat) : ∀ (k j : Nat), j ≤ l.length → l.length - j = d → d + 2000000 < k →
    spec_l10AccountsOk.l0 k l (j : Int) = some (accB (l.drop j) (prev l j) && numB l) := by
  induction d with
  | zero =>
    intro k j hj hd hk
    obtain ⟨k, rfl⟩ : ∃ m, k = m + 1 := ⟨k - 1, by omega⟩
    simp only [spec_l10AccountsOk.l0]
    rw [if_neg (by omega), List.drop_of_length_le (by omega), in_eq, Option.bind_some]
    rfl
  | succ d ih =>
    intro k j hj hd hk
    obtain ⟨k, rfl⟩ : ∃ m, k = m + 1 := ⟨k - 1, by omega⟩
    have hx := hm l[j] (List.getElem_mem (by omega))
    have hI := ih k (j + 1) (by omega) (by omega) (by omega)
    rw [prev_next l j (by omega)] at hI
    simp only [spec_l10AccountsOk.l0]
    rw [if_pos (by omega), if_pos (by omega), rdA l j (by omega), spec_user _ (by omega) k (by omega), Option.bind_some, spec_word _ (by omega) k (by omega), Option.bind_some, wrap_up j l.length (by omega) hl, hI, List.drop_eq_getElem_cons (show j < l.length by omega)]
    simp only [accB]
    generalize userB l[j].f0 = b1
    generalize wordB l[j].f1 = b3
    generalize accB (l.drop (j + 1)) (some l[j].f0) = b4
    generalize numB l = b5
    by_cases h0 : j = 0
    · have hl : less (prev l j) l[j].f0 = true := by unfold prev; rw [if_pos h0]; rfl
      rw [hl, if_neg (show ¬ (j : Int) > 0 by omega)]
      cases b1 <;> cases b3 <;> simp
    · have hw : wrap64 ((j : Int) - 1) = ((j - 1 : Nat) : Int) := by unfold wrap64; omega
      have hl : less (prev l j) l[j].f0 = Op.bytesLess l[j - 1].f0.toList l[j].f0.toList := by
        unfold prev
        rw [if_neg h0, rdA l (j - 1) (by omega)]
        rfl
      rw [hl, if_pos (show (j : Int) > 0 by omega), hw, if_pos (show (0 : Int) ≤ ((j - 1 : Nat) : Int) by omega), if_pos (show ((j - 1 : Nat) : Int) < (l.length : Int) by omega), rdA l (j - 1) (by omega)]
      generalize Op.bytesLess l[j - 1].f0.toList l[j].f0.toList = b2
      cases b1 <;> cases b2 <;> cases b3 <;> simp
def accs (l : List SA) : List SA := if (accB l none && numB l) = true then l else []
theorem accs_length (l : List SA) : (accs l).length ≤ l.length := by
  unfold accs
  split
  · exact Nat.le_refl _
  · exact Nat.zero_le _
theorem impl_new (l : List SA) (hm : AS l) (hl : l.length ≤ 1048576) (k : Nat) (hk : 4000000 < k) : impl_ServerNew.f k l = some (accs l, [], ⟨#[]⟩, [], 0) := by
  unfold impl_ServerNew.f accs
  rw [show impl_accountsOk.f k l = some (accB l none && numB l) from acc_i l hm hl l.length k 0 (by omega) (by omega) (by omega), Option.bind_some]
  by_cases h : (accB l none && numB l) = true
  · rw [if_pos h, if_pos h]
    unfold impl_Account_18.f impl_Account_17.f
    rw [if_pos (by omega)]
    rfl
  · rw [if_neg h, if_neg h]
theorem spec_new (l : List SA) (hm : AS l) (hl : l.length ≤ 1048576) (k : Nat) (hk : 4000000 < k) : spec_ServerNew.f k l = some (accs l, [], ⟨#[]⟩, [], 0) := by
  unfold spec_ServerNew.f accs
  rw [show spec_l10AccountsOk.f k l = some (accB l none && numB l) from acc_s l hm hl l.length k 0 (by omega) (by omega) (by omega), Option.bind_some]
  by_cases h : (accB l none && numB l) = true
  · rw [if_pos h, if_pos h, Option.bind_some, if_pos (by simp only [List.length_nil]; omega)]
    rfl
  · rw [if_neg h, if_neg h]
noncomputable def am (m : Nat) (n : Int) : List SA := (List.range m).map fun i : Nat => ⟨mt (n + 2 * (i : Int)), mt (n + 2 * (i : Int) + 1)⟩
theorem am_length (m : Nat) (n : Int) : (am m n).length = m := by simp [am]
theorem am_at (m : Nat) (n : Int) (j : Nat) (h : j < m) : (am m n)[j]? = some ⟨mt (n + 2 * (j : Int)), mt (n + 2 * (j : Int) + 1)⟩ := by simp [am, h]
theorem mark_loop (L : Nat) (n : Int) (hL : L ≤ 1048576) (h0 : 0 ≤ n) (h1 : n < 1000000000) (d : Nat) : ∀ (k j : Nat) (x : List SA) (m : Int), x.length = L → x.take j = (am L n).take j → m = n + 2 * (j : Int) → j ≤ L → L - j = d → d + 18 < k →
    laws_markAccountS.l0 k x m (j : Int) = some (n + 2 * (L : Int), am L n) := by
  induction d with
  | zero =>
    intro k j x m hx ht hm hj hd hk
    obtain ⟨k, rfl⟩ : ∃ m, k = m + 1 := ⟨k - 1, by omega⟩
    simp only [laws_markAccountS.l0]
    rw [if_neg (by omega)]
    obtain rfl : j = L := by omega
    have e1 : x.take j = x := List.take_of_length_le (by omega)
    have e2 : (am j n).take j = am j n := List.take_of_length_le (by rw [am_length]; omega)
    rw [e1, e2] at ht
    rw [ht, hm]
  | succ d ih =>
    intro k j x m hx ht hm hj hd hk
    obtain ⟨k, rfl⟩ : ∃ m, k = m + 1 := ⟨k - 1, by omega⟩
    have w1 : wrap64 (m + 1) = m + 1 := wrap_in _ (by omega) (by omega)
    have w2 : wrap64 (m + 1 + 1) = m + 1 + 1 := wrap_in _ (by omega) (by omega)
    simp only [laws_markAccountS.l0]
    rw [if_pos (by omega), mt_eq m (by omega) (by omega) k (by omega), Option.bind_some, if_pos (by omega), Option.bind_some, w1, mt_eq (m + 1) (by omega) (by omega) k (by omega), Option.bind_some, w2, show wrap64 ((j : Int) + 1) = ((j + 1 : Nat) : Int) by unfold wrap64; omega, show ((j : Int)).toNat = j by omega, rdA x j (by omega), rdA _ j (by rw [List.length_set]; omega), List.getElem_set_self, List.set_set]
    refine ih k (j + 1) _ (m + 1 + 1) (by simpa using hx) ?_ (by omega) (by omega) (by omega) (by omega)
    apply List.ext_getElem?
    intro i
    rcases Nat.lt_trichotomy i j with h | h | h
    · have := congrArg (fun q => q[i]?) ht
      simp only [List.getElem?_take, h, if_true] at this
      rw [List.getElem?_take, List.getElem?_take, if_pos (by omega), if_pos (by omega), List.getElem?_set_ne (by omega)]
      exact this
    · subst h
      rw [List.getElem?_take, List.getElem?_take, if_pos (by omega), if_pos (by omega), List.getElem?_set_self (by omega), am_at L n i (by omega), hm]
    · rw [List.getElem?_take, List.getElem?_take, if_neg (by omega), if_neg (by omega)]
theorem mark_ok (l : List SA) (n : Int) (hL : l.length ≤ 1048576) (h0 : 0 ≤ n) (h1 : n < 1000000000) (k : Nat) (hk : l.length + 18 < k) : laws_markAccountS.f k l n = some (n + 2 * (l.length : Int), am l.length n) :=
  mark_loop l.length n hL h0 h1 l.length k 0 l n rfl (by simp) (by omega) (by omega) (by omega) hk
theorem held_loop (L : Nat) (n : Int) (hL : L ≤ 1048576) (h0 : 0 ≤ n) (h1 : n < 1000000000) (d : Nat) : ∀ (k j : Nat) (m : Int), m = n + 2 * (j : Int) → j ≤ L → L - j = d → d + 18 < k → laws_heldAccountS.l0 k (am L n) m (j : Int) = some (n + 2 * (L : Int)) := by
  induction d with
  | zero =>
    intro k j m hm hj hd hk
    obtain ⟨k, rfl⟩ : ∃ m, k = m + 1 := ⟨k - 1, by omega⟩
    simp only [laws_heldAccountS.l0]
    rw [if_neg (by rw [am_length]; omega), hm, show j = L by omega]
  | succ d ih =>
    intro k j m hm hj hd hk
    obtain ⟨k, rfl⟩ : ∃ m, k = m + 1 := ⟨k - 1, by omega⟩
    have hr : rd_T40 (am L n) (j : Int) = ⟨mt m, mt (m + 1)⟩ := by
      rw [rdA _ j (by rw [am_length]; omega)]
      have := am_at L n j (by omega)
      rw [List.getElem?_eq_getElem (by rw [am_length]; omega)] at this
      rw [Option.some.inj this, hm]
    have w1 : wrap64 (m + 1) = m + 1 := wrap_in _ (by omega) (by omega)
    have w2 : wrap64 (m + 1 + 1) = m + 1 + 1 := wrap_in _ (by omega) (by omega)
    simp only [laws_heldAccountS.l0]
    rw [if_pos (by rw [am_length]; omega), if_pos (by omega), mt_eq m (by omega) (by omega) k (by omega), Option.bind_some, hr, if_pos rfl, w1, mt_eq (m + 1) (by omega) (by omega) k (by omega), Option.bind_some, if_pos rfl, w2, show wrap64 ((j : Int) + 1) = ((j + 1 : Nat) : Int) by unfold wrap64; omega]
    exact ih k (j + 1) (m + 1 + 1) (by omega) (by omega) (by omega) (by omega)
theorem held_ok (L : Nat) (n : Int) (hL : L ≤ 1048576) (h0 : 0 ≤ n) (h1 : n < 1000000000) (k : Nat) (hk : L + 18 < k) : laws_heldAccountS.f k (am L n) n = some (n + 2 * (L : Int)) :=
  held_loop L n hL h0 h1 L k 0 n (by omega) (by omega) (by omega) hk
theorem eq_server (l : List SA) (hl : l.length ≤ 1048576) (k : Nat) (hk : l.length < k) : laws_eqServer.f k l [] ⟨#[]⟩ [] 0 l [] ⟨#[]⟩ [] 0 = some true := by
  obtain ⟨k, rfl⟩ : ∃ m, k = m + 1 := ⟨k - 1, by omega⟩
  unfold laws_eqServer.f
  rw [eqAccountS l hl (k + 1) hk, Option.bind_some, if_pos rfl]
  simp [laws_eqEntryS.f, laws_eqEntryS.l0, laws_eqSessS.f, laws_eqSessS.l0]
theorem mark_server (l : List SA) (hl : l.length ≤ 1048576) (k : Nat) (hk : l.length + 18 < k) : laws_markServer.f k l [] ⟨#[]⟩ [] 0 1 = some (1 + 2 * (l.length : Int), am l.length 1, []) := by
  obtain ⟨k, rfl⟩ : ∃ m, k = m + 1 := ⟨k - 1, by omega⟩
  unfold laws_markServer.f
  rw [mark_ok l 1 hl (by omega) (by omega) (k + 1) hk, Option.bind_some]
  simp [laws_markEntryS.f, laws_markEntryS.l0, laws_markSessS.f]
theorem held_server (L : Nat) (hl : L ≤ 1048576) (k : Nat) (hk : L + 18 < k) : laws_heldServer.f k (am L 1) [] ⟨#[]⟩ [] 0 1 = some (1 + 2 * (L : Int)) := by
  unfold laws_heldServer.f
  rw [held_ok L 1 hl (by omega) (by omega) k hk, Option.bind_some, if_neg (by omega)]
  simp only [laws_heldEntryS.f, laws_heldSessS.f, List.length_nil, if_true, Option.bind_some]
  rw [if_neg (by omega), if_neg (by omega)]
theorem as_to (l : List LA) (h : ∀ x ∈ l, x.f0.size ≤ 1048576 ∧ x.f1.size ≤ 1048576) : AS (l.map toAccount) := by
  intro y hy
  obtain ⟨x, hx, rfl⟩ := List.mem_map.1 hy
  exact h x hx
end Go.Proofs.Ytgjecacalpaacaa.Server
set_option linter.unusedVariables false
namespace Go.Proofs.Ytgjecacalpaacaa.Pure
open Go.RowKit Go.Proofs.Ytgjecacalpaacaa.PAll Go.Proofs.YtgjecacalpaacaaW.PrintWords Go.Proofs.YtgjecacalpaacaaW.PrintLast Go.Proofs.YtgjecacalpaacaaW.PrintMore Go.Proofs.YtgjecacalpaacaaW.XWords
open Go.Proofs.Ytgjecacalpaacaa.Server Go.Proofs.Ytgjecacalpaacaa.Rws
theorem FnExactServerNew (l : List LA) (hl : l.length ≤ maxLen) (hq : ∀ x ∈ l, (x.f0.size ≤ maxLen ∧ x.f1.size ≤ maxLen)) : ∃ k, laws_FnExactServerNew.f k l = some true := by
  obtain ⟨K, hK⟩ : ∃ K, K = l.length + 4999999 := ⟨_, rfl⟩
  refine ⟨K + 1, ?_⟩
  obtain ⟨z, hz, hz1, hz2⟩ := szAccountS l hl hq 1048576 (by omega) (by omega) (K + 1) (by omega)
  unfold laws_FnExactServerNew.f
  rw [hz, Option.bind_some]
  by_cases c : z < 0
  · rw [if_pos c]
  · rw [if_neg c]
    obtain ⟨a1, a2⟩ := hz2 (by omega)
    have hm := as_to l a2
    have hn : (l.map toAccount).length = l.length := List.length_map ..
    have ha := accs_length (l.map toAccount)
    have hto := toAccountS l (by omega) (K + 1) (by omega)
    have hto' := toAccountS l (by omega) K (by omega)
    rw [hto, Option.bind_some, spec_new _ hm (by omega) _ (by omega), Option.bind_some, Option.bind_some, impl_new _ hm (by omega) _ (by omega), Option.bind_some]
    simp only []
    rw [eq_server _ (by omega) _ (by omega), Option.bind_some, if_pos rfl, Option.bind_some, eqAccountS _ (by omega) _ (by omega), Option.bind_some, if_pos rfl, mark_ok _ 1 (by omega) (by omega) (by omega) _ (by omega), Option.bind_some]
    simp only []
    rw [if_neg (by omega), Option.bind_some]
    simp only [laws_FnExactServerNew.j0]
    rw [if_neg (by decide), mark_server _ (by omega) _ (by omega), Option.bind_some]
    simp only []
    rw [held_server _ (by omega) _ (by omega), Option.bind_some, if_neg (by omega), if_pos rfl, hto', Option.bind_some, impl_new _ hm (by omega) _ (by omega), Option.bind_some]
    simp only []
    rw [eq_server _ (by omega) _ (by omega), Option.bind_some, if_pos rfl, Option.bind_some, if_neg (by omega), if_pos rfl]
end Go.Proofs.Ytgjecacalpaacaa.Pure
