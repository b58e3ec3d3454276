/- What the program and the reference tell of texts in UTF-8: both look at the same bytes (plain facts over the printed functions). -/
import Derived.Test.YtgjecacalpaacaaDoorPAllximplsignOk51b0
import Derived.Test.YtgjecacalpaacaaDoorPAllximplsignfed0
import Derived.Test.YtgjecacalpaacaaDoorPAllximplTextOk49e0
import Derived.Test.YtgjecacalpaacaaDoorPAllximplwithin4168
import Derived.Test.YtgjecacalpaacaaDoorPAllxspecl1In08d2
import Derived.Test.YtgjecacalpaacaaDoorPAllxspecl1Lead5e8d
import Derived.Test.YtgjecacalpaacaaDoorPAllxspecl1Second1728
import Derived.Test.YtgjecacalpaacaaDoorPAllxspecl1Sign97c8
import Derived.Test.YtgjecacalpaacaaDoorPAllxspecl1Nextfd05
import Derived.Test.YtgjecacalpaacaaDoorPAllxspecl1Utf3be7
import Derived.Test.YtgjecacalpaacaaDoorPAllxspecTextOk181e
import Derived.Test.YtgjecacalpaacaaDoorPAllxutf8DecodeRuneInStringb65b
set_option linter.unusedVariables false
set_option linter.unusedSimpArgs false
namespace Go.Proofs.YtgjecacalpaacaaDoor.Text
open Go.RowKit Go.Proofs.YtgjecacalpaacaaDoor.PAll Go.Proofs.YtgjecacalpaacaaDoorW.PrintWords Go.Proofs.YtgjecacalpaacaaDoorW.PrintLast Go.Proofs.YtgjecacalpaacaaDoorW.PrintMore Go.Proofs.YtgjecacalpaacaaDoorW.XWords
open Go.Lib
abbrev cont (b : Nat) : Prop := 128 ≤ b ∧ b ≤ 191
abbrev sgN (n : Nat) : Prop := n = 9 ∨ n = 10 ∨ (32 ≤ n ∧ n ≤ 55295) ∨ (57344 ≤ n ∧ n ≤ 65533) ∨ (65536 ≤ n ∧ n ≤ 1114111)
/-- How many bytes a sign has that begins with these four; 0, if none does. -/
def widN (a b c d : Nat) : Nat :=
  if a < 128 then (if a = 9 ∨ a = 10 ∨ 32 ≤ a then 1 else 0)
  else if 194 ≤ a ∧ a ≤ 223 then (if cont b then 2 else 0)
  else if 224 ≤ a ∧ a ≤ 239 then (if cont b ∧ cont c ∧ (a = 224 → 160 ≤ b) ∧ (a = 237 → b < 160) ∧ ¬ (a = 239 ∧ b = 191 ∧ 190 ≤ c) then 3 else 0)
  else if 240 ≤ a ∧ a ≤ 244 then (if cont b ∧ cont c ∧ cont d ∧ (a = 240 → 144 ≤ b) ∧ (a = 244 → b < 144) then 4 else 0)
  else 0
/-- Its number. -/
def valN (a b c d : Nat) : Nat := if a < 128 then a else if a < 224 then a % 32 * 64 + b % 64 else if a < 240 then a % 16 * 4096 + b % 64 * 64 + c % 64 else a % 8 * 262144 + b % 64 * 4096 + c % 64 * 64 + d % 64
set_option maxHeartbeats 4000000 in
theorem dec_wid (n a b c d : Nat) (hb : 1 < n ∨ b = 0) (hc : 2 < n ∨ c = 0) (hd : 3 < n ∨ d = 0) :
    (sgN (decodeN n a b c d).1 ∧ ((decodeN n a b c d).1 ≠ 65533 ∨ (decodeN n a b c d).2 = 3) → widN a b c d = (decodeN n a b c d).2 ∧ valN a b c d = (decodeN n a b c d).1) ∧
    (¬ (sgN (decodeN n a b c d).1 ∧ ((decodeN n a b c d).1 ≠ 65533 ∨ (decodeN n a b c d).2 = 3)) → widN a b c d = 0) := by
  unfold decodeN widN valN sgN
  by_cases h1 : a < 128
  · simp only [h1, if_true]
    constructor
    · intro h
      have h9 : a = 9 ∨ a = 10 ∨ 32 ≤ a := by have := h.1; omega
      exact ⟨if_pos h9, trivial⟩
    · intro h
      by_cases h9 : a = 9 ∨ a = 10 ∨ 32 ≤ a
      · exact absurd ⟨by omega, .inl (by omega)⟩ h
      · exact if_neg h9
  simp only [h1, if_false]
  by_cases h2 : a / 32 = 6 ∧ (1 < n ∧ b / 64 = 2)
  · rw [if_pos h2]
    constructor
    · intro h
      by_cases h3 : a % 32 * 64 + b % 64 ≥ 128
      · rw [if_pos h3] at h ⊢; dsimp only at h ⊢; repeat' split
        all_goals omega
      · rw [if_neg h3] at h; dsimp only at h; omega
    · intro h
      by_cases h3 : a % 32 * 64 + b % 64 ≥ 128
      · rw [if_pos h3] at h; dsimp only at h; repeat' split
        all_goals omega
      · repeat' split
        all_goals omega
  rw [if_neg h2]
  by_cases h4 : a / 16 = 14 ∧ (1 < n ∧ b / 64 = 2) ∧ (2 < n ∧ c / 64 = 2)
  · rw [if_pos h4]
    constructor
    · intro h
      split at h
      · rename_i h3; rw [if_pos h3]; dsimp only at h ⊢; repeat' split
        all_goals omega
      · dsimp only at h; omega
    · intro h
      split at h
      · dsimp only at h; repeat' split
        all_goals omega
      · repeat' split
        all_goals omega
  rw [if_neg h4]
  by_cases h5 : a / 8 = 30 ∧ (1 < n ∧ b / 64 = 2) ∧ (2 < n ∧ c / 64 = 2) ∧ (3 < n ∧ d / 64 = 2)
  · rw [if_pos h5]
    constructor
    · intro h
      split at h
      · rename_i h3; rw [if_pos h3]; dsimp only at h ⊢; repeat' split
        all_goals omega
      · dsimp only at h; omega
    · intro h
      split at h
      · dsimp only at h; repeat' split
        all_goals omega
      · repeat' split
        all_goals omega
  rw [if_neg h5]
  constructor
  · intro h; dsimp only at h; omega
  · intro h; repeat' split
    all_goals omega
theorem dec_bound (n a b c d : Nat) (hn : 0 < n) : 1 ≤ (decodeN n a b c d).2 ∧ (decodeN n a b c d).2 ≤ n ∧ (decodeN n a b c d).1 ≤ 2097152 := by
  unfold decodeN
  repeat' split
  all_goals (dsimp only; omega)
/-! ### the bytes of a text -/
def b4 (s : ByteArray) (i : Nat) : Nat := (bt s (i : Int)).toNat
theorem b4_cast (s : ByteArray) (i : Nat) : (b4 s i : Int) = bt s (i : Int) := by
  have := bt_range s (i : Int)
  unfold b4
  omega
theorem b4_lt (s : ByteArray) (i : Nat) : b4 s i < 256 := by
  have := bt_range s (i : Int)
  unfold b4
  omega
theorem b4_out (s : ByteArray) (i : Nat) (h : s.size ≤ i) : b4 s i = 0 := by
  unfold b4 bt
  rw [dif_neg (by simp; omega)]
  rfl
theorem b4_in (s : ByteArray) (i : Nat) (h : i < s.size) : b4 s i = (s[i]'h).toNat := by
  unfold b4 bt
  rw [dif_pos (by simpa using h)]
  simp
theorem get_b4 (s : ByteArray) (i : Nat) : (s.get! i).toNat = b4 s i := by
  by_cases h : i < s.size
  · rw [b4_in s i h]
    have e : s.get! i = s[i]'h := by
      obtain ⟨d⟩ := s
      exact getElem!_pos d i h
    rw [e]
  · rw [b4_out s i (by omega)]
    have e : s.get! i = default := by
      obtain ⟨d⟩ := s
      exact getElem!_neg d i h
    rw [e]
    rfl
theorem b4_extract (s : ByteArray) (i n j : Nat) (hn : n ≤ s.size) : b4 (s.extract i n) j = if i + j < n then b4 s (i + j) else 0 := by
  by_cases h : i + j < n
  · rw [if_pos h, b4_in _ j (by rw [ByteArray.size_extract]; omega), b4_in s (i + j) (by omega), ByteArray.getElem_extract]
  · rw [if_neg h, b4_out _ j (by rw [ByteArray.size_extract]; omega)]
/-- How many bytes the sign has with which a text goes on at a place; 0, if none does. -/
def wid (s : ByteArray) (i : Nat) : Nat := widN (b4 s i) (b4 s (i + 1)) (b4 s (i + 2)) (b4 s (i + 3))
def val (s : ByteArray) (i : Nat) : Nat := valN (b4 s i) (b4 s (i + 1)) (b4 s (i + 2)) (b4 s (i + 3))
theorem wid_le (s : ByteArray) (i : Nat) (h : i < s.size) : i + wid s i ≤ s.size := by
  have h1 : 1 < s.size - i ∨ b4 s (i + 1) = 0 := by
    rcases Nat.lt_or_ge 1 (s.size - i) with q | q
    · exact .inl q
    · exact .inr (b4_out s _ (by omega))
  have h2 : 2 < s.size - i ∨ b4 s (i + 2) = 0 := by
    rcases Nat.lt_or_ge 2 (s.size - i) with q | q
    · exact .inl q
    · exact .inr (b4_out s _ (by omega))
  have h3 : 3 < s.size - i ∨ b4 s (i + 3) = 0 := by
    rcases Nat.lt_or_ge 3 (s.size - i) with q | q
    · exact .inl q
    · exact .inr (b4_out s _ (by omega))
  unfold wid widN
  repeat' split
  all_goals omega
theorem wid_four (s : ByteArray) (i : Nat) : wid s i ≤ 4 := by
  unfold wid widN
  repeat' split
  all_goals omega
/-- All of a text, from a place on, is signs. -/
def okAt : Nat → ByteArray → Nat → Bool
  | 0, _, _ => true
  | f + 1, s, i => if s.size ≤ i then true else if wid s i = 0 then false else okAt f s (i + wid s i)
theorem okAt_more (s : ByteArray) : ∀ (f g i : Nat), s.size - i ≤ f → s.size - i ≤ g → okAt f s i = okAt g s i := by
  intro f
  induction f with
  | zero =>
    intro g i hf _
    cases g with
    | zero => rfl
    | succ g => simp only [okAt]; rw [if_pos (by omega)]
  | succ f ih =>
    intro g i hf hg
    cases g with
    | zero => simp only [okAt]; rw [if_pos (by omega)]
    | succ g =>
      simp only [okAt]
      by_cases h : s.size ≤ i
      · rw [if_pos h, if_pos h]
      · rw [if_neg h, if_neg h]
        by_cases hz : wid s i = 0
        · rw [if_pos hz, if_pos hz]
        · rw [if_neg hz, if_neg hz]
          exact ih g _ (by omega) (by omega)
def ok (s : ByteArray) : Bool := okAt s.size s 0
theorem ok_step (s : ByteArray) (i : Nat) : okAt (s.size - i) s i = if s.size ≤ i then true else if wid s i = 0 then false else okAt (s.size - (i + wid s i)) s (i + wid s i) := by
  by_cases h : s.size ≤ i
  · rw [if_pos h, show s.size - i = 0 by omega]
    rfl
  · rw [if_neg h]
    obtain ⟨m, hm⟩ : ∃ m, s.size - i = m + 1 := ⟨s.size - i - 1, by omega⟩
    rw [hm]
    simp only [okAt]
    rw [if_neg h]
    by_cases hz : wid s i = 0
    · rw [if_pos hz, if_pos hz]
    · rw [if_neg hz, if_neg hz]
      exact okAt_more s _ _ _ (by omega) (by omega)
/-! ### the program -/
theorem within_eq (n lo hi : Int) : impl_within.f n lo hi = some (decide (lo ≤ n) && decide (n ≤ hi)) := by
  unfold impl_within.f
  split <;> rw [Option.some.injEq, Bool.eq_iff_iff] <;> simp <;> omega
theorem in_eq (n lo hi : Int) : spec_l1In.f n lo hi = some (decide (lo ≤ n) && decide (n ≤ hi)) := by
  unfold spec_l1In.f
  split <;> rw [Option.some.injEq, Bool.eq_iff_iff] <;> simp <;> omega
theorem sign_impl (n : Nat) : impl_signOk.f (n : Int) = some (decide (sgN n)) := by
  unfold impl_signOk.f
  simp only [within_eq, Option.bind_some]
  (repeat' split) <;> rw [Option.some.injEq, Bool.eq_iff_iff] <;> simp_all <;> omega
theorem sign_spec (n : Nat) : spec_l1Sign.f (n : Int) = some (decide (sgN n)) := by
  unfold spec_l1Sign.f
  simp only [in_eq, Option.bind_some]
  (repeat' split) <;> rw [Option.some.injEq, Bool.eq_iff_iff] <;> simp_all <;> omega
theorem wrap_small (n : Nat) (h : n ≤ 9223372036854775807) : wrap64 (n : Int) = (n : Int) := by unfold wrap64; omega
theorem sign_eq (s : ByteArray) (h : 0 < s.size) : ∃ m : Nat, m ≤ s.size ∧ impl_sign.f s = some (s.extract 0 m, decide (0 < wid s 0)) ∧ (0 < wid s 0 → m = wid s 0) := by
  have hd : Lib.decodeGo s = decodeN (s.size - 0) (b4 s 0) (b4 s 1) (b4 s 2) (b4 s 3) := by
    unfold Lib.decodeGo
    rw [if_neg (by omega), decode_at, get_b4, get_b4, get_b4, get_b4]
  obtain ⟨q1, q2, q3⟩ := dec_bound (s.size - 0) (b4 s 0) (b4 s 1) (b4 s 2) (b4 s 3) (by omega)
  have hw := dec_wid (s.size - 0) (b4 s 0) (b4 s 1) (b4 s 2) (b4 s 3)
    (by rcases Nat.lt_or_ge 1 (s.size - 0) with q | q; exact .inl q; exact .inr (b4_out s _ (by omega)))
    (by rcases Nat.lt_or_ge 2 (s.size - 0) with q | q; exact .inl q; exact .inr (b4_out s _ (by omega)))
    (by rcases Nat.lt_or_ge 3 (s.size - 0) with q | q; exact .inl q; exact .inr (b4_out s _ (by omega)))
  have hww : wid s 0 = widN (b4 s 0) (b4 s 1) (b4 s 2) (b4 s 3) := rfl
  unfold impl_sign.f utf8_DecodeRuneInString.f
  rw [Option.bind_some, hd]
  generalize hD : decodeN (s.size - 0) (b4 s 0) (b4 s 1) (b4 s 2) (b4 s 3) = D at hw q1 q2 q3
  obtain ⟨R, K⟩ := D
  dsimp only at hw q1 q2 q3 ⊢
  refine ⟨K, by omega, ?_, ?_⟩
  · rw [if_pos (by omega), if_pos (by omega), wrap_small R (by omega), sign_impl, Option.bind_some, hww, Int.toNat_natCast]
    by_cases hs : sgN R
    · rw [if_pos (by simpa using hs)]
      by_cases h5 : R = 65533
      · rw [if_pos (by omega)]
        by_cases hk : K = 3
        · rw [(hw.1 ⟨hs, .inr hk⟩).1, hk]
          rfl
        · rw [hw.2 (fun z => z.2.elim (fun z => z h5) hk), show ((K : Int) == 3) = false from by rw [beq_eq_false_iff_ne]; omega]
          rfl
      · rw [if_neg (by omega), (hw.1 ⟨hs, .inl h5⟩).1, show decide (0 < K) = true from decide_eq_true (by omega)]
    · rw [if_neg (by simpa using hs), hw.2 (fun z => hs z.1)]
      rfl
  · intro hp
    rw [hww] at hp ⊢
    by_cases hs : sgN R ∧ (R ≠ 65533 ∨ K = 3)
    · exact (hw.1 hs).1.symm
    · rw [hw.2 hs] at hp
      omega
theorem toList_empty (s : ByteArray) : s.toList = ([] : List UInt8) ↔ s.size = 0 := by
  rw [Lib.toList_data]
  constructor
  · intro h
    have := congrArg List.length h
    rw [data_length] at this
    exact this
  · intro h
    exact List.eq_nil_of_length_eq_zero (by rw [data_length]; exact h)
theorem wid_extract (s : ByteArray) (i : Nat) (j : Nat) (hi : i ≤ s.size) : wid (s.extract i s.size) j = wid s (i + j) := by
  have e : ∀ q, b4 (s.extract i s.size) q = b4 s (i + q) := fun q => by
    rw [b4_extract s i s.size q (Nat.le_refl _)]
    by_cases h : i + q < s.size
    · rw [if_pos h]
    · rw [if_neg h, b4_out s _ (by omega)]
  unfold wid
  rw [e, e, e, e]
  rfl
theorem extract_extract (s : ByteArray) (i m : Nat) (h : i + m ≤ s.size) : (s.extract i s.size).extract m (s.extract i s.size).size = s.extract (i + m) s.size := by
  rw [ByteArray.extract_extract, ByteArray.size_extract]
  congr 1
  omega
theorem impl_loop (s : ByteArray) (hs : s.size ≤ 140737488351232) (d : Nat) : ∀ (k i : Nat), i ≤ s.size → s.size - i ≤ d → d < k → impl_TextOk.l0 k (s.extract i s.size) = some (okAt (s.size - i) s i) := by
  induction d with
  | zero =>
    intro k i hi hd hk
    obtain ⟨k, rfl⟩ : ∃ m, k = m + 1 := ⟨k - 1, by omega⟩
    simp only [impl_TextOk.l0]
    rw [if_pos ((toList_empty _).2 (by rw [ByteArray.size_extract]; omega)), show s.size - i = 0 by omega]
    rfl
  | succ d ih =>
    intro k i hi hd hk
    obtain ⟨k, rfl⟩ : ∃ m, k = m + 1 := ⟨k - 1, by omega⟩
    simp only [impl_TextOk.l0]
    by_cases h0 : s.size ≤ i
    · rw [if_pos ((toList_empty _).2 (by rw [ByteArray.size_extract]; omega)), show s.size - i = 0 by omega]
      rfl
    · rw [if_neg (fun z => by have := (toList_empty _).1 z; rw [ByteArray.size_extract] at this; omega)]
      obtain ⟨m, hm, he, hw⟩ := sign_eq (s.extract i s.size) (by rw [ByteArray.size_extract]; omega)
      have wx := wid_extract s i 0 hi
      rw [Nat.add_zero] at wx
      rw [wx] at he hw
      rw [ok_step s i, if_neg h0, he, Option.bind_some]
      by_cases hz : wid s i = 0
      · rw [if_pos hz, if_neg (by simp [hz])]
      · have hp : 0 < wid s i := by omega
        obtain rfl := hw hp
        have hle := wid_le s i (by omega)
        have hl : ((s.extract i s.size).extract 0 (wid s i)).size = wid s i := by rw [ByteArray.size_extract, ByteArray.size_extract]; omega
        rw [if_neg hz, if_pos (by simpa using hp)]
        rw [if_pos (Int.natCast_nonneg _), if_pos (show (((s.extract i s.size).extract 0 (wid s i)).size : Int) ≤ ((s.extract i s.size).size : Int) by rw [hl, ByteArray.size_extract]; omega)]
        show impl_TextOk.l0 k ((s.extract i s.size).extract ((((s.extract i s.size).extract 0 (wid s i)).size : Nat) : Int).toNat (s.extract i s.size).size) = _
        rw [hl, Int.toNat_natCast, extract_extract s i _ hle]
        exact ih k _ hle (by omega) (by omega)
theorem impl_ok (s : ByteArray) (hs : s.size ≤ 140737488351232) (k : Nat) (hk : s.size < k) : impl_TextOk.f k s = some (ok s) := by
  have h := impl_loop s hs s.size k 0 (Nat.zero_le _) (by omega) hk
  rw [show s.extract 0 s.size = s from ByteArray.extract_zero_size] at h
  exact h
end Go.Proofs.YtgjecacalpaacaaDoor.Text
