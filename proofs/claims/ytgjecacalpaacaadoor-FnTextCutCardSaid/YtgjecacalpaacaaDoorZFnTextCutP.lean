-- the plain law: this session's
import Derived.Test.YtgjecacalpaacaaDoorZFnTextCutK0
/- What the program and the reference tell of texts in UTF-8: both look at the same bytes (plain facts over the printed functions). -/
set_option linter.unusedVariables false
set_option linter.unusedSimpArgs false
namespace Go.Proofs.YtgjecacalpaacaaDoor.Text
open Go.RowKit Go.Proofs.YtgjecacalpaacaaDoor.PAll Go.Proofs.YtgjecacalpaacaaDoorW.PrintWords Go.Proofs.YtgjecacalpaacaaDoorW.PrintLast Go.Proofs.YtgjecacalpaacaaDoorW.PrintMore Go.Proofs.YtgjecacalpaacaaDoorW.XWords
open Go.Lib
abbrev cont (b : Nat) : Prop := 128 ≤ b ∧ b ≤ 191
abbrev sgN (n : Nat) : Prop := n = 9 ∨ n = 10 ∨ (32 ≤ n ∧ n ≤ 55295) ∨ (57344 ≤ n ∧ n ≤ 65533) ∨ (65536 ≤ n ∧ n ≤ 1114111)
/-- How many bytes a sign has that begins with these four; 0, if none does. -/
def widN (a b c d : Nat) : Nat :=
  if a < 128 then (if a = 9 ∨ a = 10 ∨ 32 ≤ a then 1 else 0)
  else if 194 ≤ a ∧ a ≤ 223 then (if cont b then 2 else 0)
  else if 224 ≤ a ∧ a ≤ 239 then (if cont b ∧ cont c ∧ (a = 224 → 160 ≤ b) ∧ (a = 237 → b < 160) ∧ ¬ (a = 239 ∧ b = 191 ∧ 190 ≤ c) then 3 else 0)
  else if 240 ≤ a ∧ a ≤ 244 then (if cont b ∧ cont c ∧ cont d ∧ (a = 240 → 144 ≤ b) ∧ (a = 244 → b < 144) then 4 else 0)
  else 0
/-- Its number. -/
def valN (a b c d : Nat) : Nat := if a < 128 then a else if a < 224 then a % 32 * 64 + b % 64 else if a < 240 then a % 16 * 4096 + b % 64 * 64 + c % 64 else a % 8 * 262144 + b % 64 * 4096 + c % 64 * 64 + d % 64
set_option maxHeartbeats 4000000 in
theorem dec_wid (n a b c d : Nat) (hb : 1 < n ∨ b = 0) (hc : 2 < n ∨ c = 0) (hd : 3 < n ∨ d = 0) :
    (sgN (decodeN n a b c d).1 ∧ ((decodeN n a b c d).1 ≠ 65533 ∨ (decodeN n a b c d).2 = 3) → widN a b c d = (decodeN n a b c d).2 ∧ valN a b c d = (decodeN n a b c d).1) ∧
    (¬ (sgN (decodeN n a b c d).1 ∧ ((decodeN n a b c d).1 ≠ 65533 ∨ (decodeN n a b c d).2 = 3)) → widN a b c d = 0) := by
  unfold decodeN widN valN sgN
  by_cases h1 : a < 128
  · simp only [h1, if_true]
    constructor
    · intro h
      have h9 : a = 9 ∨ a = 10 ∨ 32 ≤ a := by have := h.1; omega
      exact ⟨if_pos h9, trivial⟩
    · intro h
      by_cases h9 : a = 9 ∨ a = 10 ∨ 32 ≤ a
      · exact absurd ⟨by omega, .inl (by omega)⟩ h
      · exact if_neg h9
  simp only [h1, if_false]
  by_cases h2 : a / 32 = 6 ∧ (1 < n ∧ b / 64 = 2)
  · rw [if_pos h2]
    constructor
    · intro h
      by_cases h3 : a % 32 * 64 + b % 64 ≥ 128
      · rw [if_pos h3] at h ⊢; dsimp only at h ⊢; repeat' split
        all_goals omega
      · rw [if_neg h3] at h; dsimp only at h; omega
    · intro h
      by_cases h3 : a % 32 * 64 + b % 64 ≥ 128
      · rw [if_pos h3] at h; dsimp only at h; repeat' split
        all_goals omega
      · repeat' split
        all_goals omega
  rw [if_neg h2]
  by_cases h4 : a / 16 = 14 ∧ (1 < n ∧ b / 64 = 2) ∧ (2 < n ∧ c / 64 = 2)
  · rw [if_pos h4]
    constructor
    · intro h
      split at h
      · rename_i h3; rw [if_pos h3]; dsimp only at h ⊢; repeat' split
        all_goals omega
      · dsimp only at h; omega
    · intro h
      split at h
      · dsimp only at h; repeat' split
        all_goals omega
      · repeat' split
        all_goals omega
  rw [if_neg h4]
  by_cases h5 : a / 8 = 30 ∧ (1 < n ∧ b / 64 = 2) ∧ (2 < n ∧ c / 64 = 2) ∧ (3 < n ∧ d / 64 = 2)
  · rw [if_pos h5]
    constructor
    · intro h
      split at h
      · rename_i h3; rw [if_pos h3]; dsimp only at h ⊢; repeat' split
        all_goals omega
      · dsimp only at h; omega
    · intro h
      split at h
      · dsimp only at h; repeat' split
        all_goals omega
      · repeat' split
        all_goals omega
  rw [if_neg h5]
  constructor
  · intro h; dsimp only at h; omega
  · intro h; repeat' split
    all_goals omega
theorem dec_bound (n a b c d : Nat) (hn : 0 < n) : 1 ≤ (decodeN n a b c d).2 ∧ (decodeN n a b c d).2 ≤ n ∧ (decodeN n a b c d).1 ≤ 2097152 := by
  unfold decodeN
  repeat' split
  all_goals (dsimp only; omega)
/-! ### the bytes of a text -/
def b4 (s : ByteArray) (i : Nat) : Nat := (bt s (i : Int)).toNat
theorem b4_cast (s : ByteArray) (i : Nat) : (b4 s i : Int) = bt s (i : Int) := by
  have := bt_range s (i : Int)
  unfold b4
  omega
theorem b4_lt (s : ByteArray) (i : Nat) : b4 s i < 256 := by
  have := bt_range s (i : Int)
  unfold b4
  omega
theorem b4_out (s : ByteArray) (i : Nat) (h : s.size ≤ i) : b4 s i = 0 := by
  unfold b4 bt
  rw [dif_neg (by simp; omega)]
  rfl
theorem b4_in (s : ByteArray) (i : Nat) (h : i < s.size) : b4 s i = (s[i]'h).toNat := by
  unfold b4 bt
  rw [dif_pos (by simpa using h)]
  simp
theorem get_b4 (s : ByteArray) (i : Nat) : (s.get! i).toNat = b4 s i := by
  by_cases h : i < s.size
  · rw [b4_in s i h]
    have e : s.get! i = s[i]'h := by
      obtain ⟨d⟩ := s
      exact getElem!_pos d i h
    rw [e]
  · rw [b4_out s i (by omega)]
    have e : s.get! i = default := by
      obtain ⟨d⟩ := s
      exact getElem!_neg d i h
    rw [e]
    rfl
theorem b4_extract (s : ByteArray) (i n j : Nat) (hn : n ≤ s.size) : b4 (s.extract i n) j = if i + j < n then b4 s (i + j) else 0 := by
  by_cases h : i + j < n
  · rw [if_pos h, b4_in _ j (by rw [ByteArray.size_extract]; omega), b4_in s (i + j) (by omega), ByteArray.getElem_extract]
  · rw [if_neg h, b4_out _ j (by rw [ByteArray.size_extract]; omega)]
/-- How many bytes the sign has with which a text goes on at a place; 0, if none does. -/
def wid (s : ByteArray) (i : Nat) : Nat := widN (b4 s i) (b4 s (i + 1)) (b4 s (i + 2)) (b4 s (i + 3))
def val (s : ByteArray) (i : Nat) : Nat := valN (b4 s i) (b4 s (i + 1)) (b4 s (i + 2)) (b4 s (i + 3))
theorem wid_le (s : ByteArray) (i : Nat) (h : i < s.size) : i + wid s i ≤ s.size := by
  have h1 : 1 < s.size - i ∨ b4 s (i + 1) = 0 := by
    rcases Nat.lt_or_ge 1 (s.size - i) with q | q
    · exact .inl q
    · exact .inr (b4_out s _ (by omega))
  have h2 : 2 < s.size - i ∨ b4 s (i + 2) = 0 := by
    rcases Nat.lt_or_ge 2 (s.size - i) with q | q
    · exact .inl q
    · exact .inr (b4_out s _ (by omega))
  have h3 : 3 < s.size - i ∨ b4 s (i + 3) = 0 := by
    rcases Nat.lt_or_ge 3 (s.size - i) with q | q
    · exact .inl q
    · exact .inr (b4_out s _ (by omega))
  unfold wid widN
  repeat' split
  all_goals omega
theorem wid_four (s : ByteArray) (i : Nat) : wid s i ≤ 4 := by
  unfold wid widN
  repeat' split
  all_goals omega
/-- All of a text, from a place on, is signs. -/
def okAt : Nat → ByteArray → Nat → Bool
  | 0, _, _ => true
  | f + 1, s, i => if s.size ≤ i then true else if wid s i = 0 then false else okAt f s (i + wid s i)
theorem okAt_more (s : ByteArray) : ∀ (f g i : Nat), s.size - i ≤ f → s.size - i ≤ g → okAt f s i = okAt g s i := by
  intro f
  induction f with
  | zero =>
    intro g i hf _
    cases g with
    | zero => rfl
    | succ g => simp only [okAt]; rw [if_pos (by omega)]
  | succ f ih =>
    intro g i hf hg
    cases g with
    | zero => simp only [okAt]; rw [if_pos (by omega)]
    | succ g =>
      simp only [okAt]
      by_cases h : s.size ≤ i
      · rw [if_pos h, if_pos h]
      · rw [if_neg h, if_neg h]
        by_cases hz : wid s i = 0
        · rw [if_pos hz, if_pos hz]
        · rw [if_neg hz, if_neg hz]
          exact ih g _ (by omega) (by omega)
def ok (s : ByteArray) : Bool := okAt s.size s 0
theorem ok_step (s : ByteArray) (i : Nat) : okAt (s.size - i) s i = if s.size ≤ i then true else if wid s i = 0 then false else okAt (s.size - (i + wid s i)) s (i + wid s i) := by
  by_cases h : s.size ≤ i
  · rw [if_pos h, show s.size - i = 0 by omega]
    rfl
  · rw [if_neg h]
    obtain ⟨m, hm⟩ : ∃ m, s.size - i = m + 1 := ⟨s.size - i - 1, by omega⟩
    rw [hm]
    simp only [okAt]
    rw [if_neg h]
    by_cases hz : wid s i = 0
    · rw [if_pos hz, if_pos hz]
    · rw [if_neg hz, if_neg hz]
      exact okAt_more s _ _ _ (by omega) (by omega)
/-! ### the program -/
theorem within_eq (n lo hi : Int) : impl_within.f n lo hi = some (decide (lo ≤ n) && decide (n ≤ hi)) := by
  unfold impl_within.f
  split <;> rw [Option.some.injEq, Bool.eq_iff_iff] <;> simp <;> omega
theorem in_eq (n lo hi : Int) : spec_l1In.f n lo hi = some (decide (lo ≤ n) && decide (n ≤ hi)) := by
  unfold spec_l1In.f
  split <;> rw [Option.some.injEq, Bool.eq_iff_iff] <;> simp <;> omega
theorem sign_impl (n : Nat) : impl_signOk.f (n : Int) = some (decide (sgN n)) := by
  unfold impl_signOk.f
  simp only [within_eq, Option.bind_some]
  (repeat' split) <;> rw [Option.some.injEq, Bool.eq_iff_iff] <;> simp_all <;> omega
theorem sign_spec (n : Nat) : spec_l1Sign.f (n : Int) = some (decide (sgN n)) := by
  unfold spec_l1Sign.f
  simp only [in_eq, Option.bind_some]
  (repeat' split) <;> rw [Option.some.injEq, Bool.eq_iff_iff] <;> simp_all <;> omega
theorem wrap_small (n : Nat) (h : n ≤ 9223372036854775807) : wrap64 (n : Int) = (n : Int) := by unfold wrap64; omega
theorem sign_eq (s : ByteArray) (h : 0 < s.size) : ∃ m : Nat, m ≤ s.size ∧ impl_sign.f s = some (s.extract 0 m, decide (0 < wid s 0)) ∧ (0 < wid s 0 → m = wid s 0) := by
  have hd : Lib.decodeGo s = decodeN (s.size - 0) (b4 s 0) (b4 s 1) (b4 s 2) (b4 s 3) := by
    unfold Lib.decodeGo
    rw [if_neg (by omega), decode_at, get_b4, get_b4, get_b4, get_b4]
  obtain ⟨q1, q2, q3⟩ := dec_bound (s.size - 0) (b4 s 0) (b4 s 1) (b4 s 2) (b4 s 3) (by omega)
  have hw := dec_wid (s.size - 0) (b4 s 0) (b4 s 1) (b4 s 2) (b4 s 3)
    (by rcases Nat.lt_or_ge 1 (s.size - 0) with q | q; exact .inl q; exact .inr (b4_out s _ (by omega)))
    (by rcases Nat.lt_or_ge 2 (s.size - 0) with q | q; exact .inl q; exact .inr (b4_out s _ (by omega)))
    (by rcases Nat.lt_or_ge 3 (s.size - 0) with q | q; exact .inl q; exact .inr (b4_out s _ (by omega)))
  have hww : wid s 0 = widN (b4 s 0) (b4 s 1) (b4 s 2) (b4 s 3) := rfl
  unfold impl_sign.f utf8_DecodeRuneInString.f
  rw [Option.bind_some, hd]
  generalize hD : decodeN (s.size - 0) (b4 s 0) (b4 s 1) (b4 s 2) (b4 s 3) = D at hw q1 q2 q3
  obtain ⟨R, K⟩ := D
  dsimp only at hw q1 q2 q3 ⊢
  refine ⟨K, by omega, ?_, ?_⟩
  · rw [if_pos (by omega), if_pos (by omega), wrap_small R (by omega), sign_impl, Option.bind_some, hww, Int.toNat_natCast]
    by_cases hs : sgN R
    · rw [if_pos (by simpa using hs)]
      by_cases h5 : R = 65533
      · rw [if_pos (by omega)]
        by_cases hk : K = 3
        · rw [(hw.1 ⟨hs, .inr hk⟩).1, hk]
          rfl
        · rw [hw.2 (fun z => z.2.elim (fun z => z h5) hk), show ((K : Int) == 3) = false from by rw [beq_eq_false_iff_ne]; omega]
          rfl
      · rw [if_neg (by omega), (hw.1 ⟨hs, .inl h5⟩).1, show decide (0 < K) = true from decide_eq_true (by omega)]
    · rw [if_neg (by simpa using hs), hw.2 (fun z => hs z.1)]
      rfl
  · intro hp
    rw [hww] at hp ⊢
    by_cases hs : sgN R ∧ (R ≠ 65533 ∨ K = 3)
    · exact (hw.1 hs).1.symm
    · rw [hw.2 hs] at hp
      omega
theorem toList_empty (s : ByteArray) : s.toList = ([] : List UInt8) ↔ s.size = 0 := by
  rw [Lib.toList_data]
  constructor
  · intro h
    have := congrArg List.length h
    rw [data_length] at this
    exact this
  · intro h
    exact List.eq_nil_of_length_eq_zero (by rw [data_length]; exact h)
theorem wid_extract (s : ByteArray) (i : Nat) (j : Nat) (hi : i ≤ s.size) : wid (s.extract i s.size) j = wid s (i + j) := by
  have e : ∀ q, b4 (s.extract i s.size) q = b4 s (i + q) := fun q => by
    rw [b4_extract s i s.size q (Nat.le_refl _)]
    by_cases h : i + q < s.size
    · rw [if_pos h]
    · rw [if_neg h, b4_out s _ (by omega)]
  unfold wid
  rw [e, e, e, e]
  rfl
theorem extract_extract (s : ByteArray) (i m : Nat) (h : i + m ≤ s.size) : (s.extract i s.size).extract m (s.extract i s.size).size = s.extract (i + m) s.size := by
  rw [ByteArray.extract_extract, ByteArray.size_extract]
  congr 1
  omega
theorem impl_loop (s : ByteArray) (hs : s.size ≤ 140737488351232) (d : Nat) : ∀ (k i : Nat), i ≤ s.size → s.size - i ≤ d → d < k → impl_TextOk.l0 k (s.extract i s.size) = some (okAt (s.size - i) s i) := by
  induction d with
  | zero =>
    intro k i hi hd hk
    obtain ⟨k, rfl⟩ : ∃ m, k = m + 1 := ⟨k - 1, by omega⟩
    simp only [impl_TextOk.l0]
    rw [if_pos ((toList_empty _).2 (by rw [ByteArray.size_extract]; omega)), show s.size - i = 0 by omega]
    rfl
  | succ d ih =>
    intro k i hi hd hk
    obtain ⟨k, rfl⟩ : ∃ m, k = m + 1 := ⟨k - 1, by omega⟩
    simp only [impl_TextOk.l0]
    by_cases h0 : s.size ≤ i
    · rw [if_pos ((toList_empty _).2 (by rw [ByteArray.size_extract]; omega)), show s.size - i = 0 by omega]
      rfl
    · rw [if_neg (fun z => by have := (toList_empty _).1 z; rw [ByteArray.size_extract] at this; omega)]
      obtain ⟨m, hm, he, hw⟩ := sign_eq (s.extract i s.size) (by rw [ByteArray.size_extract]; omega)
      have wx := wid_extract s i 0 hi
      rw [Nat.add_zero] at wx
      rw [wx] at he hw
      rw [ok_step s i, if_neg h0, he, Option.bind_some]
      by_cases hz : wid s i = 0
      · rw [if_pos hz, if_neg (by simp [hz])]
      · have hp : 0 < wid s i := by omega
        obtain rfl := hw hp
        have hle := wid_le s i (by omega)
        have hl : ((s.extract i s.size).extract 0 (wid s i)).size = wid s i := by rw [ByteArray.size_extract, ByteArray.size_extract]; omega
        rw [if_neg hz, if_pos (by simpa using hp)]
        rw [if_pos (Int.natCast_nonneg _), if_pos (show (((s.extract i s.size).extract 0 (wid s i)).size : Int) ≤ ((s.extract i s.size).size : Int) by rw [hl, ByteArray.size_extract]; omega)]
        show impl_TextOk.l0 k ((s.extract i s.size).extract ((((s.extract i s.size).extract 0 (wid s i)).size : Nat) : Int).toNat (s.extract i s.size).size) = _
        rw [hl, Int.toNat_natCast, extract_extract s i _ hle]
        exact ih k _ hle (by omega) (by omega)
theorem impl_ok (s : ByteArray) (hs : s.size ≤ 140737488351232) (k : Nat) (hk : s.size < k) : impl_TextOk.f k s = some (ok s) := by
  have h := impl_loop s hs s.size k 0 (Nat.zero_le _) (by omega) hk
  rw [show s.extract 0 s.size = s from ByteArray.extract_zero_size] at h
  exact h
end Go.Proofs.YtgjecacalpaacaaDoor.Text
/- What the reference tells of texts in UTF-8 (plain facts over the printed functions). -/
set_option linter.unusedVariables false
set_option linter.unusedSimpArgs false
namespace Go.Proofs.YtgjecacalpaacaaDoor.Text
open Go.RowKit Go.Proofs.YtgjecacalpaacaaDoor.PAll Go.Proofs.YtgjecacalpaacaaDoorW.PrintWords Go.Proofs.YtgjecacalpaacaaDoorW.PrintLast Go.Proofs.YtgjecacalpaacaaDoorW.PrintMore Go.Proofs.YtgjecacalpaacaaDoorW.XWords
open Go.Lib
theorem lead_eq (a : Nat) (ha : a < 256) : spec_l1Lead.f (a : Int) = some (if a < 128 then 1 else if 194 ≤ a ∧ a ≤ 223 then 2 else if 224 ≤ a ∧ a ≤ 239 then 3 else if 240 ≤ a ∧ a ≤ 244 then 4 else 0) := by
  unfold spec_l1Lead.f
  rw [wrap_small a (by omega)]
  simp only [in_eq, Option.bind_some]
  by_cases h1 : a < 128
  · rw [if_pos (by omega), if_pos h1]
  rw [if_neg (by omega), if_neg h1]
  by_cases h2 : 194 ≤ a ∧ a ≤ 223
  · rw [if_pos (by simp; omega), if_pos h2]
  rw [if_neg (by simp; omega), if_neg h2]
  by_cases h3 : 224 ≤ a ∧ a ≤ 239
  · rw [if_pos (by simp; omega), if_pos h3]
  rw [if_neg (by simp; omega), if_neg h3]
  by_cases h4 : 240 ≤ a ∧ a ≤ 244
  · rw [if_pos (by simp; omega), if_pos h4]
  rw [if_neg (by simp; omega), if_neg h4]
abbrev sec (a b : Nat) : Prop := (a = 224 → 160 ≤ b) ∧ (a = 237 → b < 160) ∧ (a = 240 → 144 ≤ b) ∧ (a = 244 → b < 144)
theorem sec_eq (a b : Nat) : spec_l1Second.f (a : Int) (b : Int) = some (decide (sec a b)) := by
  unfold spec_l1Second.f
  (repeat' split) <;> rw [Option.some.injEq, Bool.eq_iff_iff] <;> simp <;> omega
set_option maxHeartbeats 4000000 in
/-- One more byte. -/
theorem step_eq (k : Nat) (s : ByteArray) (hs : s.size ≤ 140737488351232) (i m n j : Nat) (hi : i < s.size) (hj : j < m) (h1 : 1 ≤ j) (hm : m ≤ 4) (hn : n ≤ 2000000) :
    spec_l1Next.l0 (k + 1) s (i : Int) (m : Int) (n : Int) (j : Int) =
      if s.size ≤ i + j then some (0, -1) else if cont (b4 s (i + j)) ∧ (j = 1 → sec (b4 s i) (b4 s (i + 1))) then spec_l1Next.l0 k s (i : Int) (m : Int) ((n * 64 + b4 s (i + j) - 128 : Nat) : Int) ((j + 1 : Nat) : Int) else some (0, 0) := by
  have hb := b4_lt s (i + j)
  have hw : Aside0 (wrap64 ((i : Int) + (j : Int)) = ((i + j : Nat) : Int)) := ⟨by rw [← Int.natCast_add]; exact wrap_small _ (by omega)⟩
  have hbw : Aside0 (wrap64 (bt s ((i + j : Nat) : Int)) = (b4 s (i + j) : Int)) := ⟨by rw [← b4_cast]; exact wrap_small _ (by omega)⟩
  have hbi : Aside0 (wrap64 (bt s (i : Int)) = (b4 s i : Int)) := ⟨by rw [← b4_cast]; exact wrap_small _ (by have := b4_lt s i; omega)⟩
  have hj1 : Aside0 (wrap64 ((j : Int) + 1) = ((j + 1 : Nat) : Int)) := ⟨by rw [show ((j : Int) + 1) = ((j + 1 : Nat) : Int) by omega]; exact wrap_small _ (by omega)⟩
  simp only [spec_l1Next.l0]
  rw [if_pos (by omega), hw.out]
  by_cases ho : s.size ≤ i + j
  · rw [if_pos (by omega), if_pos ho]
  rw [if_neg (by omega), if_neg ho, if_pos (by omega), if_pos (by omega), hbw.out, in_eq, Option.bind_some]
  by_cases hc : cont (b4 s (i + j))
  · have hval : Aside0 (wrap64 (wrap64 (wrap64 ((n : Int) * 64) + (b4 s (i + j) : Int)) - 128) = ((n * 64 + b4 s (i + j) - 128 : Nat) : Int)) := by
      constructor
      rw [show ((n : Int) * 64) = ((n * 64 : Nat) : Int) by omega, wrap_small _ (by omega), ← Int.natCast_add, wrap_small _ (by omega), show (((n * 64 + b4 s (i + j) : Nat) : Int) - 128) = ((n * 64 + b4 s (i + j) - 128 : Nat) : Int) by omega]
      exact wrap_small _ (by omega)
    rw [if_pos (by simp; omega), hval.out, hj1.out]
    by_cases h1' : j = 1
    · subst h1'
      rw [if_pos (by rfl), if_pos (by omega), if_pos (by omega), hbi.out, sec_eq, Option.bind_some]
      by_cases hz : sec (b4 s i) (b4 s (i + 1))
      · rw [if_pos (decide_eq_true hz), if_pos ⟨hc, fun _ => hz⟩]
      · rw [if_neg (fun z => hz (of_decide_eq_true z)), if_neg (fun z => hz (z.2 rfl))]
    · rw [if_neg (by omega), if_pos ⟨hc, fun z => absurd z h1'⟩]
  · rw [if_neg (by simp; omega), if_neg (fun z => hc z.1)]
theorem last_eq (k : Nat) (s : ByteArray) (i m n j : Nat) (hj : m ≤ j) : spec_l1Next.l0 (k + 1) s (i : Int) (m : Int) (n : Int) (j : Int) = if m = 0 then some (0, 0) else if sgN n then some ((n : Int), (m : Int)) else some (0, 0) := by
  simp only [spec_l1Next.l0]
  rw [if_neg (by omega), sign_spec, Option.bind_some]
  by_cases h0 : m = 0
  · rw [if_pos (by omega), if_pos h0]
  · rw [if_neg (by omega), if_neg h0]
    by_cases hs : sgN n
    · rw [if_pos (decide_eq_true hs), if_pos hs]
    · rw [if_neg (fun z => hs (of_decide_eq_true z)), if_neg hs]
set_option maxHeartbeats 4000000 in
theorem next_eq (s : ByteArray) (hs : s.size ≤ 140737488351232) (i : Nat) (hi : i < s.size) (k : Nat) (hk : 8 ≤ k) :
    ∃ n m : Int, spec_l1Next.f k s (i : Int) = some (n, m) ∧ (wid s i ≠ 0 → m = (wid s i : Int) ∧ n = (val s i : Int)) ∧ (wid s i = 0 → m < 1 ∧ n = 0) := by
  obtain ⟨k, rfl⟩ : ∃ q, k = q + 8 := ⟨k - 8, by omega⟩
  have ha := b4_lt s i
  have hw : ∀ q, wid s i = q ↔ widN (b4 s i) (b4 s (i + 1)) (b4 s (i + 2)) (b4 s (i + 3)) = q := fun q => Iff.rfl
  have hv : ∀ q, val s i = q ↔ valN (b4 s i) (b4 s (i + 1)) (b4 s (i + 2)) (b4 s (i + 3)) = q := fun q => Iff.rfl
  have hbi : Aside0 (wrap64 (bt s (i : Int)) = (b4 s i : Int)) := ⟨by rw [← b4_cast]; exact wrap_small _ (by omega)⟩
  have o1 := b4_out s (i + 1)
  have o2 := b4_out s (i + 2)
  have o3 := b4_out s (i + 3)
  have w0 : wid s i = widN (b4 s i) (b4 s (i + 1)) (b4 s (i + 2)) (b4 s (i + 3)) := rfl
  have v0 : val s i = valN (b4 s i) (b4 s (i + 1)) (b4 s (i + 2)) (b4 s (i + 3)) := rfl
  unfold spec_l1Next.f
  rw [if_pos (by omega), if_pos (by omega), hbi.out, show bt s (i : Int) = (b4 s i : Int) from (b4_cast s i).symm, lead_eq _ ha, Option.bind_some, Option.bind_some]
  by_cases h1 : b4 s i < 128
  · rw [if_pos h1, if_neg (by decide)]
    simp only [spec_l1Next.j0]
    rw [show (1 : Int) = ((1 : Nat) : Int) from rfl, last_eq _ s i 1 (b4 s i) 1 (Nat.le_refl _), if_neg (by decide)]
    have hwd : wid s i = if b4 s i = 9 ∨ b4 s i = 10 ∨ 32 ≤ b4 s i then 1 else 0 := by rw [w0]; unfold widN; rw [if_pos h1]
    have hvl : val s i = b4 s i := by rw [v0]; unfold valN; rw [if_pos h1]
    by_cases hg : sgN (b4 s i)
    · rw [if_pos hg]
      refine ⟨_, _, rfl, fun _ => ⟨?_, by rw [hvl]⟩, fun h => ?_⟩
      · rw [hwd, if_pos (by omega)]
      · rw [hwd, if_pos (by omega)] at h
        omega
    · rw [if_neg hg]
      refine ⟨_, _, rfl, fun h => ?_, fun _ => ⟨by omega, rfl⟩⟩
      rw [hwd, if_neg (by omega)] at h
      omega
  rw [if_neg h1]
  have hl2 : ∀ m : Int, (some (([0, 0, 32, 16, 8] : List Int) : List Int)).bind (fun y => if 0 ≤ m then (if m < (y.length : Int) then (if (rd y m) = 0 then (none : Option (Int × Int)) else spec_l1Next.j0 (k + 8) s (i : Int) m (Int.tmod (b4 s i : Int) (rd y m))) else none) else none) = (if 0 ≤ m then (if m < 5 then (if (rd [0, 0, 32, 16, 8] m) = 0 then (none : Option (Int × Int)) else spec_l1Next.j0 (k + 8) s (i : Int) m (Int.tmod (b4 s i : Int) (rd [0, 0, 32, 16, 8] m))) else none) else none) := fun m => rfl
  by_cases h2 : 194 ≤ b4 s i ∧ b4 s i ≤ 223
  · rw [if_pos h2, if_pos (by decide), show (2 : Int) = ((2 : Nat) : Int) from rfl]
    rw [if_pos (by decide), if_pos (by decide), if_neg (by decide), show rd ([0, 0, 32, 16, 8] : List Int) ((2 : Nat) : Int) = ((32 : Nat) : Int) from rfl, Int.tmod_eq_emod_of_nonneg (by omega), ← Int.natCast_emod]
    simp only [spec_l1Next.j0]
    rw [show (1 : Int) = ((1 : Nat) : Int) from rfl, step_eq _ s hs i 2 _ 1 hi (by omega) (by omega) (by omega) (by omega)]
    have hwd : wid s i = if cont (b4 s (i + 1)) then 2 else 0 := by rw [w0]; unfold widN; rw [if_neg h1, if_pos h2]
    have hvl : val s i = b4 s i % 32 * 64 + b4 s (i + 1) % 64 := by rw [v0]; unfold valN; rw [if_neg h1, if_pos (by omega)]
    by_cases ho : s.size ≤ i + 1
    · rw [if_pos ho]
      refine ⟨_, _, rfl, fun h => ?_, fun _ => ⟨by omega, rfl⟩⟩
      rw [hwd, if_neg (by have := o1 ho; omega)] at h
      omega
    rw [if_neg ho]
    by_cases hc : cont (b4 s (i + 1))
    · rw [if_pos ⟨hc, fun _ => by omega⟩, last_eq _ s i 2 _ _ (Nat.le_refl _), if_neg (by decide), if_pos (by omega)]
      refine ⟨_, _, rfl, fun _ => ⟨?_, ?_⟩, fun h => ?_⟩
      · rw [hwd, if_pos hc]
      · rw [hvl]; omega
      · rw [hwd, if_pos hc] at h
        omega
    · rw [if_neg (fun z => hc z.1)]
      refine ⟨_, _, rfl, fun h => ?_, fun _ => ⟨by omega, rfl⟩⟩
      rw [hwd, if_neg hc] at h
      omega
  rw [if_neg h2]
  by_cases h3 : 224 ≤ b4 s i ∧ b4 s i ≤ 239
  · rw [if_pos h3, if_pos (by decide), show (3 : Int) = ((3 : Nat) : Int) from rfl]
    rw [if_pos (by decide), if_pos (by decide), if_neg (by decide), show rd ([0, 0, 32, 16, 8] : List Int) ((3 : Nat) : Int) = ((16 : Nat) : Int) from rfl, Int.tmod_eq_emod_of_nonneg (by omega), ← Int.natCast_emod]
    simp only [spec_l1Next.j0]
    rw [show (1 : Int) = ((1 : Nat) : Int) from rfl, step_eq _ s hs i 3 _ 1 hi (by omega) (by omega) (by omega) (by omega)]
    have hwd : wid s i = if cont (b4 s (i + 1)) ∧ cont (b4 s (i + 2)) ∧ (b4 s i = 224 → 160 ≤ b4 s (i + 1)) ∧ (b4 s i = 237 → b4 s (i + 1) < 160) ∧ ¬ (b4 s i = 239 ∧ b4 s (i + 1) = 191 ∧ 190 ≤ b4 s (i + 2)) then 3 else 0 := by rw [w0]; unfold widN; rw [if_neg h1, if_neg h2, if_pos h3]
    have hvl : val s i = b4 s i % 16 * 4096 + b4 s (i + 1) % 64 * 64 + b4 s (i + 2) % 64 := by rw [v0]; unfold valN; rw [if_neg h1, if_neg (by omega), if_pos (by omega)]
    by_cases ho : s.size ≤ i + 1
    · rw [if_pos ho]
      refine ⟨_, _, rfl, fun h => ?_, fun _ => ⟨by omega, rfl⟩⟩
      rw [hwd, if_neg (by have := o1 ho; omega)] at h
      omega
    rw [if_neg ho]
    by_cases hc : cont (b4 s (i + 1)) ∧ (1 = 1 → sec (b4 s i) (b4 s (i + 1)))
    · rw [if_pos hc, step_eq _ s hs i 3 _ 2 hi (by omega) (by omega) (by omega) (by omega)]
      have hsec := hc.2 rfl
      by_cases ho2 : s.size ≤ i + 2
      · rw [if_pos ho2]
        refine ⟨_, _, rfl, fun h => ?_, fun _ => ⟨by omega, rfl⟩⟩
        rw [hwd, if_neg (by have := o2 ho2; omega)] at h
        omega
      rw [if_neg ho2]
      by_cases hc2 : cont (b4 s (i + 2))
      · rw [if_pos ⟨hc2, fun z => absurd z (by decide)⟩, last_eq _ s i 3 _ _ (Nat.le_refl _), if_neg (by decide)]
        by_cases hg : sgN ((b4 s i % 16 * 64 + b4 s (i + 1) - 128) * 64 + b4 s (i + 2) - 128)
        · rw [if_pos hg]
          refine ⟨_, _, rfl, fun _ => ⟨?_, ?_⟩, fun h => ?_⟩
          · rw [hwd, if_pos (by omega)]
          · rw [hvl]; omega
          · rw [hwd, if_pos (by omega)] at h
            omega
        · rw [if_neg hg]
          refine ⟨_, _, rfl, fun h => ?_, fun _ => ⟨by omega, rfl⟩⟩
          rw [hwd, if_neg (by omega)] at h
          omega
      · rw [if_neg (fun z => hc2 z.1)]
        refine ⟨_, _, rfl, fun h => ?_, fun _ => ⟨by omega, rfl⟩⟩
        rw [hwd, if_neg (by omega)] at h
        omega
    · rw [if_neg hc]
      refine ⟨_, _, rfl, fun h => ?_, fun _ => ⟨by omega, rfl⟩⟩
      rw [hwd, if_neg (by omega)] at h
      omega
  rw [if_neg h3]
  by_cases h4 : 240 ≤ b4 s i ∧ b4 s i ≤ 244
  · rw [if_pos h4, if_pos (by decide), show (4 : Int) = ((4 : Nat) : Int) from rfl]
    rw [if_pos (by decide), if_pos (by decide), if_neg (by decide), show rd ([0, 0, 32, 16, 8] : List Int) ((4 : Nat) : Int) = ((8 : Nat) : Int) from rfl, Int.tmod_eq_emod_of_nonneg (by omega), ← Int.natCast_emod]
    simp only [spec_l1Next.j0]
    rw [show (1 : Int) = ((1 : Nat) : Int) from rfl, step_eq _ s hs i 4 _ 1 hi (by omega) (by omega) (by omega) (by omega)]
    have hwd : wid s i = if cont (b4 s (i + 1)) ∧ cont (b4 s (i + 2)) ∧ cont (b4 s (i + 3)) ∧ (b4 s i = 240 → 144 ≤ b4 s (i + 1)) ∧ (b4 s i = 244 → b4 s (i + 1) < 144) then 4 else 0 := by rw [w0]; unfold widN; rw [if_neg h1, if_neg h2, if_neg h3, if_pos h4]
    have hvl : val s i = b4 s i % 8 * 262144 + b4 s (i + 1) % 64 * 4096 + b4 s (i + 2) % 64 * 64 + b4 s (i + 3) % 64 := by rw [v0]; unfold valN; rw [if_neg h1, if_neg (by omega), if_neg (by omega)]
    by_cases ho : s.size ≤ i + 1
    · rw [if_pos ho]
      refine ⟨_, _, rfl, fun h => ?_, fun _ => ⟨by omega, rfl⟩⟩
      rw [hwd, if_neg (by have := o1 ho; omega)] at h
      omega
    rw [if_neg ho]
    by_cases hc : cont (b4 s (i + 1)) ∧ (1 = 1 → sec (b4 s i) (b4 s (i + 1)))
    · rw [if_pos hc, step_eq _ s hs i 4 _ 2 hi (by omega) (by omega) (by omega) (by omega)]
      have hsec := hc.2 rfl
      by_cases ho2 : s.size ≤ i + 2
      · rw [if_pos ho2]
        refine ⟨_, _, rfl, fun h => ?_, fun _ => ⟨by omega, rfl⟩⟩
        rw [hwd, if_neg (by have := o2 ho2; omega)] at h
        omega
      rw [if_neg ho2]
      by_cases hc2 : cont (b4 s (i + 2))
      · rw [if_pos ⟨hc2, fun z => absurd z (by decide)⟩, step_eq _ s hs i 4 _ 3 hi (by omega) (by omega) (by omega) (by omega)]
        by_cases ho3 : s.size ≤ i + 3
        · rw [if_pos ho3]
          refine ⟨_, _, rfl, fun h => ?_, fun _ => ⟨by omega, rfl⟩⟩
          rw [hwd, if_neg (by have := o3 ho3; omega)] at h
          omega
        rw [if_neg ho3]
        by_cases hc3 : cont (b4 s (i + 3))
        · rw [if_pos ⟨hc3, fun z => absurd z (by decide)⟩, last_eq _ s i 4 _ _ (Nat.le_refl _), if_neg (by decide), if_pos (by omega)]
          refine ⟨_, _, rfl, fun _ => ⟨?_, ?_⟩, fun h => ?_⟩
          · rw [hwd, if_pos (by omega)]
          · rw [hvl]; omega
          · rw [hwd, if_pos (by omega)] at h
            omega
        · rw [if_neg (fun z => hc3 z.1)]
          refine ⟨_, _, rfl, fun h => ?_, fun _ => ⟨by omega, rfl⟩⟩
          rw [hwd, if_neg (by omega)] at h
          omega
      · rw [if_neg (fun z => hc2 z.1)]
        refine ⟨_, _, rfl, fun h => ?_, fun _ => ⟨by omega, rfl⟩⟩
        rw [hwd, if_neg (by omega)] at h
        omega
    · rw [if_neg hc]
      refine ⟨_, _, rfl, fun h => ?_, fun _ => ⟨by omega, rfl⟩⟩
      rw [hwd, if_neg (by omega)] at h
      omega
  rw [if_neg h4, if_neg (by decide)]
  simp only [spec_l1Next.j0]
  rw [show (0 : Int) = ((0 : Nat) : Int) from rfl, show (1 : Int) = ((1 : Nat) : Int) from rfl, last_eq _ s i 0 _ 1 (by omega), if_pos rfl]
  refine ⟨_, _, rfl, fun h => ?_, fun _ => ⟨by omega, rfl⟩⟩
  have hwd : wid s i = 0 := by rw [w0]; unfold widN; rw [if_neg h1, if_neg h2, if_neg h3, if_neg h4]
  exact absurd hwd h
theorem spec_loop (s : ByteArray) (hs : s.size ≤ 140737488351232) (d : Nat) : ∀ (k i : Nat), i ≤ s.size → s.size - i ≤ d → d + 8 < k → spec_l1Utf.l0 k s (i : Int) = some (okAt (s.size - i) s i) := by
  induction d with
  | zero =>
    intro k i hi hd hk
    obtain ⟨k, rfl⟩ : ∃ m, k = m + 1 := ⟨k - 1, by omega⟩
    simp only [spec_l1Utf.l0]
    rw [if_neg (by omega), show s.size - i = 0 by omega]
    rfl
  | succ d ih =>
    intro k i hi hd hk
    obtain ⟨k, rfl⟩ : ∃ m, k = m + 1 := ⟨k - 1, by omega⟩
    simp only [spec_l1Utf.l0]
    by_cases h0 : s.size ≤ i
    · rw [if_neg (by omega), show s.size - i = 0 by omega]
      rfl
    · obtain ⟨n, m, he, hp, hz⟩ := next_eq s hs i (by omega) k (by omega)
      rw [if_pos (by omega), he, Option.bind_some, ok_step s i, if_neg h0]
      by_cases hw : wid s i = 0
      · rw [if_pos hw, if_pos (hz hw).1]
      · obtain ⟨rfl, -⟩ := hp hw
        have hle := wid_le s i (by omega)
        rw [if_neg hw, if_neg (show ¬ ((wid s i : Int) < 1) by omega), show wrap64 ((i : Int) + (wid s i : Int)) = ((i + wid s i : Nat) : Int) by rw [← Int.natCast_add]; exact wrap_small _ (by omega)]
        exact ih k _ hle (by omega) (by omega)
theorem utf_ok (s : ByteArray) (hs : s.size ≤ 140737488351232) (k : Nat) (hk : s.size + 8 < k) : spec_l1Utf.f k s = some (ok s) := spec_loop s hs s.size k 0 (Nat.zero_le _) (by omega) hk
theorem spec_ok (s : ByteArray) (hs : s.size ≤ 140737488351232) (k : Nat) (hk : s.size + 8 < k) : spec_TextOk.f k s = some (ok s) := by
  unfold spec_TextOk.f
  rw [utf_ok s hs k hk, Option.bind_some]
end Go.Proofs.YtgjecacalpaacaaDoor.Text
/- A text in UTF-8, cut: both pieces are texts just where no sign is cut (plain facts). -/
set_option linter.unusedVariables false
set_option linter.unusedSimpArgs false
namespace Go.Proofs.YtgjecacalpaacaaDoor.Text
open Go.RowKit Go.Proofs.YtgjecacalpaacaaDoor.PAll Go.Proofs.YtgjecacalpaacaaDoorW.PrintWords Go.Proofs.YtgjecacalpaacaaDoorW.PrintLast Go.Proofs.YtgjecacalpaacaaDoorW.PrintMore Go.Proofs.YtgjecacalpaacaaDoorW.XWords
/-- A byte that goes on with a sign. -/
abbrev inner (s : ByteArray) (k : Nat) : Prop := 128 ≤ b4 s k ∧ b4 s k ≤ 191
theorem wid_inner (s : ByteArray) (k : Nat) (h : inner s k) : wid s k = 0 := by
  unfold wid widN
  rw [if_neg (by omega), if_neg (by omega), if_neg (by omega), if_neg (by omega)]
theorem inner_in (s : ByteArray) (i q : Nat) (h : q < wid s i) : (q = 0 → ¬ inner s i) ∧ (1 ≤ q → inner s (i + q)) := by
  unfold wid widN at h
  have c1 : q = 0 ∨ q = 1 ∨ q = 2 ∨ q = 3 ∨ 4 ≤ q := by omega
  rcases c1 with rfl | rfl | rfl | rfl | h4
  · refine ⟨fun _ z => ?_, fun z => by omega⟩
    rw [if_neg (by omega), if_neg (by omega), if_neg (by omega), if_neg (by omega)] at h
    omega
  · refine ⟨fun z => by omega, fun _ => ?_⟩
    revert h
    repeat' split
    all_goals (intro h; omega)
  · refine ⟨fun z => by omega, fun _ => ?_⟩
    revert h
    repeat' split
    all_goals (intro h; omega)
  · refine ⟨fun z => by omega, fun _ => ?_⟩
    revert h
    repeat' split
    all_goals (intro h; omega)
  · exfalso
    revert h
    repeat' split
    all_goals (intro h; omega)
theorem wid_keep (s : ByteArray) (k j : Nat) (hk : k ≤ s.size) (h : 0 < wid s j) (hj : j + wid s j ≤ k) : wid (s.extract 0 k) j = wid s j := by
  have e : ∀ q, q < wid s j → b4 (s.extract 0 k) (j + q) = b4 s (j + q) := fun q hq => by
    rw [b4_extract s 0 k (j + q) hk, if_pos (by omega), Nat.zero_add]
  have e0 := e 0 h
  have e1 := e 1
  have e2 := e 2
  have e3 := e 3
  rw [Nat.add_zero] at e0
  have hw : wid s j = 1 ∨ wid s j = 2 ∨ wid s j = 3 ∨ wid s j = 4 := by have := wid_four s j; omega
  have u : ∀ t : ByteArray, wid t j = widN (b4 t j) (b4 t (j + 1)) (b4 t (j + 2)) (b4 t (j + 3)) := fun t => rfl
  rcases hw with w | w | w | w
  · rw [w]; rw [u] at w ⊢; rw [e0]
    unfold widN at w ⊢
    revert w
    repeat' split
    all_goals (intro w; omega)
  · rw [w]; rw [w] at e1; rw [u] at w ⊢; rw [e0, e1 (by omega)]
    unfold widN at w ⊢
    revert w
    repeat' split
    all_goals (intro w; omega)
  · rw [w]; rw [w] at e1 e2; rw [u] at w ⊢; rw [e0, e1 (by omega), e2 (by omega)]
    unfold widN at w ⊢
    revert w
    repeat' split
    all_goals (intro w; omega)
  · rw [w]; rw [w] at e1 e2 e3; rw [u] at w ⊢; rw [e0, e1 (by omega), e2 (by omega), e3 (by omega)]
    exact w
theorem wid_lost (s : ByteArray) (k j : Nat) (hk : k ≤ s.size) (h1 : j < k) (h2 : k < j + wid s j) : wid (s.extract 0 k) j = 0 := by
  obtain ⟨q, rfl⟩ : ∃ q, k = j + q := ⟨k - j, by omega⟩
  have hq : 1 ≤ q := by omega
  have hin : ∀ p, p < q → b4 (s.extract 0 (j + q)) (j + p) = b4 s (j + p) := fun p hp => by
    rw [b4_extract s 0 (j + q) (j + p) hk, if_pos (by omega), Nat.zero_add]
  have hz := b4_extract s 0 (j + q) (j + q) hk
  rw [if_neg (by omega)] at hz
  have e0 := hin 0 (by omega)
  have e1 := hin 1
  have e2 := hin 2
  rw [Nat.add_zero] at e0
  have hw := wid_four s j
  have u : ∀ t : ByteArray, wid t j = widN (b4 t j) (b4 t (j + 1)) (b4 t (j + 2)) (b4 t (j + 3)) := fun t => rfl
  have hwq : q < wid s j := by omega
  have hc : q = 1 ∨ q = 2 ∨ q = 3 := by omega
  rw [u] at hwq ⊢
  rcases hc with rfl | rfl | rfl
  · rw [e0, hz]
    unfold widN at hwq ⊢
    revert hwq
    repeat' split
    all_goals (intro w; omega)
  · rw [e0, e1 (by omega), hz]
    unfold widN at hwq ⊢
    revert hwq
    repeat' split
    all_goals (intro w; omega)
  · rw [e0, e1 (by omega), e2 (by omega), hz]
    unfold widN at hwq ⊢
    revert hwq
    repeat' split
    all_goals (intro w; omega)
theorem cut_from (s : ByteArray) (d : Nat) : ∀ i, i ≤ s.size → s.size - i ≤ d → okAt (s.size - i) s i = true → ∀ k, i ≤ k → k ≤ s.size →
    (¬ (k < s.size ∧ inner s k) → okAt (s.size - k) s k = true ∧ okAt (k - i) (s.extract 0 k) i = true) ∧ ((k < s.size ∧ inner s k) → okAt (s.size - k) s k = false ∧ okAt (k - i) (s.extract 0 k) i = false) := by
  have hsz : ∀ k, k ≤ s.size → (s.extract 0 k).size = k := fun k hk => by rw [ByteArray.size_extract]; omega
  have stp : ∀ k i, k ≤ s.size → okAt (k - i) (s.extract 0 k) i = if k ≤ i then true else if wid (s.extract 0 k) i = 0 then false else okAt (k - (i + wid (s.extract 0 k) i)) (s.extract 0 k) (i + wid (s.extract 0 k) i) := fun k i hk => by
    have := ok_step (s.extract 0 k) i
    rw [hsz k hk] at this
    exact this
  induction d with
  | zero =>
    intro i hi hd hok k h1 h2
    obtain rfl : k = s.size := by omega
    refine ⟨fun _ => ⟨?_, ?_⟩, fun z => by omega⟩
    · rw [Nat.sub_self]; rfl
    · rw [stp _ _ (Nat.le_refl _), if_pos (by omega)]
  | succ d ih =>
    intro i hi hd hok k h1 h2
    rw [ok_step s i] at hok
    by_cases h0 : s.size ≤ i
    · obtain rfl : k = s.size := by omega
      refine ⟨fun _ => ⟨?_, ?_⟩, fun z => by omega⟩
      · rw [Nat.sub_self]; rfl
      · rw [stp _ _ (Nat.le_refl _), if_pos (by omega)]
    · rw [if_neg h0] at hok
      by_cases hz : wid s i = 0
      · rw [if_pos hz] at hok
        cases hok
      · rw [if_neg hz] at hok
        have hle := wid_le s i (by omega)
        by_cases hki : k = i
        · subst hki
          have hn := (inner_in s k 0 (by omega)).1 rfl
          refine ⟨fun _ => ⟨?_, ?_⟩, fun z => absurd z.2 hn⟩
          · rw [ok_step s k, if_neg h0, if_neg hz]
            exact hok
          · rw [stp _ _ h2, if_pos (Nat.le_refl _)]
        · by_cases hkw : k < i + wid s i
          · have hin : inner s k := by
              have := (inner_in s i (k - i) (by omega)).2 (by omega)
              rw [show i + (k - i) = k by omega] at this
              exact this
            refine ⟨fun z => absurd ⟨by omega, hin⟩ z, fun _ => ⟨?_, ?_⟩⟩
            · rw [ok_step s k, if_neg (by omega), if_pos (wid_inner s k hin)]
            · rw [stp _ _ h2, if_neg (by omega), if_pos (wid_lost s k i h2 (by omega) hkw)]
          · have hkeep := wid_keep s k i h2 (by omega) (by omega)
            have := ih (i + wid s i) hle (by omega) hok k (by omega) h2
            rw [stp _ _ h2, if_neg (by omega), hkeep, if_neg hz]
            exact this
theorem ok_shift (s : ByteArray) (k : Nat) (hk : k ≤ s.size) : ∀ d j, okAt d (s.extract k s.size) j = okAt d s (k + j) := by
  intro d
  induction d with
  | zero => intro j; rfl
  | succ d ih =>
    intro j
    simp only [okAt]
    rw [wid_extract s k j hk, ByteArray.size_extract]
    by_cases h : s.size ≤ k + j
    · rw [if_pos (by omega), if_pos h]
    · rw [if_neg (by omega), if_neg h]
      by_cases hz : wid s (k + j) = 0
      · rw [if_pos hz, if_pos hz]
      · rw [if_neg hz, if_neg hz, ih, Nat.add_assoc]
theorem ok_cut (s : ByteArray) (hok : ok s = true) (k : Nat) (hk : k ≤ s.size) : ok (s.extract 0 k) = !decide (k < s.size ∧ inner s k) ∧ ok (s.extract k s.size) = !decide (k < s.size ∧ inner s k) := by
  have h := cut_from s s.size 0 (Nat.zero_le _) (by omega) hok k (Nat.zero_le _) hk
  have e1 : ok (s.extract 0 k) = okAt (k - 0) (s.extract 0 k) 0 := by
    unfold ok
    rw [ByteArray.size_extract]
    exact okAt_more _ _ _ _ (by rw [ByteArray.size_extract]; omega) (by rw [ByteArray.size_extract]; omega)
  have e2 : ok (s.extract k s.size) = okAt (s.size - k) s k := by
    unfold ok
    rw [ok_shift s k hk, ByteArray.size_extract, Nat.add_zero, Nat.min_self]
  rw [e1, e2]
  by_cases hc : k < s.size ∧ inner s k
  · rw [decide_eq_true hc]
    exact ⟨(h.2 hc).2, (h.2 hc).1⟩
  · rw [decide_eq_false hc]
    exact ⟨(h.1 hc).2, (h.1 hc).1⟩
end Go.Proofs.YtgjecacalpaacaaDoor.Text
/- What the reference's reader of codes picks lies within its bounds (plain facts over the printed functions). -/
namespace Go.Proofs.YtgjecacalpaacaaDoor.Draw
open Go.RowKit Go.Proofs.YtgjecacalpaacaaDoor.PAll Go.Proofs.YtgjecacalpaacaaDoorW.PrintWords Go.Proofs.YtgjecacalpaacaaDoorW.PrintLast Go.Proofs.YtgjecacalpaacaaDoorW.PrintMore Go.Proofs.YtgjecacalpaacaaDoorW.XWords
theorem xor_nonneg (a b : Int) (h1 : 0 ≤ a) (h2 : a < 4611686018427387904) (h3 : 0 ≤ b) (h4 : b < 4611686018427387904) : 0 ≤ Go.bits .xor .i64 a b := by
  obtain ⟨A, rfl⟩ := Int.eq_ofNat_of_zero_le h1
  obtain ⟨B, rfl⟩ := Int.eq_ofNat_of_zero_le h3
  have hx : A ^^^ B < 2 ^ 62 := Nat.xor_lt_two_pow (by omega) (by omega)
  have e1 : (BitVec.ofInt 64 (A : Int)).toNat = A := by
    rw [BitVec.ofInt_natCast, BitVec.toNat_ofNat]; exact Nat.mod_eq_of_lt (by omega)
  have e2 : (BitVec.ofInt 64 (B : Int)).toNat = B := by
    rw [BitVec.ofInt_natCast, BitVec.toNat_ofNat]; exact Nat.mod_eq_of_lt (by omega)
  show 0 ≤ IntKind.i64.wrap ((BitVec.ofInt 64 (A : Int) ^^^ BitVec.ofInt 64 (B : Int)).toNat : Int)
  rw [BitVec.toNat_xor, e1, e2]
  generalize hq : A ^^^ B = q at hx
  unfold IntKind.wrap
  simp [IntKind.bits, IntKind.signed]
  omega
/-- A byte of a code. -/
def CodeOk (l : List Int) : Prop := ∀ x ∈ l, 0 ≤ x ∧ x ≤ 255
theorem rd_code {l : List Int} (h : CodeOk l) (i : Int) : 0 ≤ rd l i ∧ rd l i ≤ 255 := by
  unfold rd
  by_cases hi : i.toNat < l.length
  · simp only [List.getD_eq_getElem?_getD, List.getElem?_eq_getElem hi, Option.getD_some]
    exact h _ (List.getElem_mem hi)
  · rw [List.getD_eq_getElem?_getD, List.getElem?_eq_none (Nat.le_of_not_lt hi)]
    exact ⟨Int.le_refl 0, by decide⟩
theorem code_take {l : List Int} (h : CodeOk l) (n : Nat) : CodeOk (l.take n) := fun x hx => h x (List.mem_of_mem_take hx)
theorem wrap_in (x : Int) (h1 : -9223372036854775808 ≤ x) (h2 : x ≤ 9223372036854775807) : wrap64 x = x := by unfold wrap64; omega
theorem tmod_in (x n : Int) (h : 0 ≤ x) (hn : 1 ≤ n) : 0 ≤ Int.tmod x n ∧ Int.tmod x n < n := by
  rw [Int.tmod_eq_emod_of_nonneg h]
  exact ⟨Int.emod_nonneg _ (by omega), Int.emod_lt_of_pos _ (by omega)⟩
theorem pick_ok (b : List Int) (hb : CodeOk b) (hl : b.length ≤ 140737488351232) (p n : Int) (h0 : 0 ≤ p) (h1 : p < 1000000000000) (hn : 1 ≤ n) :
    ∃ v, 0 ≤ v ∧ v < n ∧ ∀ k, 1 ≤ k → spec_l16Rd_pick.f k b p n = some (v, p + 1) := by
  have hw : wrap64 (p + 1) = p + 1 := wrap_in _ (by omega) (by omega)
  have hq : wrap64 (p + 1 - 1) = p := by rw [show p + 1 - 1 = p by omega]; exact wrap_in _ (by omega) (by omega)
  by_cases hz : b.length = 0
  · refine ⟨0, by omega, by omega, fun k hk => ?_⟩
    obtain ⟨k, rfl⟩ : ∃ m, k = m + 1 := ⟨k - 1, by omega⟩
    unfold spec_l16Rd_pick.f
    rw [if_neg (by omega), hw]
    simp [spec_l16Rd_pick.j0, hz]
  · have hz' : ((b.length : Int) == 0) = false := beq_eq_false_iff_ne.mpr (by omega)
    by_cases hlt : p < (b.length : Int)
    · have hr := rd_code hb p
      have hrw : wrap64 (rd b p) = rd b p := wrap_in _ (by omega) (by omega)
      obtain ⟨t0, t1⟩ := tmod_in (rd b p) n hr.1 hn
      refine ⟨Int.tmod (rd b p) n, t0, t1, fun k hk => ?_⟩
      obtain ⟨k, rfl⟩ : ∃ m, k = m + 1 := ⟨k - 1, by omega⟩
      unfold spec_l16Rd_pick.f
      rw [if_neg (by omega), hw]
      simp only [spec_l16Rd_pick.j0, hq]
      rw [if_neg (by rw [hz']; decide), if_pos hlt, if_pos h0, if_neg (by omega), hrw]
    · have hL : (1 : Int) ≤ (b.length : Int) := by omega
      obtain ⟨i0, i1⟩ := tmod_in p (b.length : Int) h0 hL
      have hm7 : wrap64 (p * 7) = p * 7 := wrap_in _ (by omega) (by omega)
      have hm73 : wrap64 (p * 7 + 3) = p * 7 + 3 := wrap_in _ (by omega) (by omega)
      obtain ⟨j0, j1⟩ := tmod_in (p * 7 + 3) (b.length : Int) (by omega) hL
      have hr1 := rd_code hb (Int.tmod p (b.length : Int))
      have hr2 := rd_code hb (Int.tmod (p * 7 + 3) (b.length : Int))
      generalize g1 : rd b (Int.tmod p (b.length : Int)) = x1 at hr1
      generalize g2 : rd b (Int.tmod (p * 7 + 3) (b.length : Int)) = x2 at hr2
      have hd : 0 ≤ Int.tdiv p (b.length : Int) ∧ Int.tdiv p (b.length : Int) ≤ p := by
        rw [Int.tdiv_eq_ediv_of_nonneg h0]
        exact ⟨Int.ediv_nonneg h0 (by omega), Int.ediv_le_self _ h0⟩
      generalize g3 : Int.tdiv p (b.length : Int) = y at hd
      have e1 : wrap64 x1 = x1 := wrap_in _ (by omega) (by omega)
      have e2 : wrap64 x2 = x2 := wrap_in _ (by omega) (by omega)
      have e3 : wrap64 (x1 * 131) = x1 * 131 := wrap_in _ (by omega) (by omega)
      have e4 : wrap64 (x2 * 1117) = x2 * 1117 := wrap_in _ (by omega) (by omega)
      have e5 : wrap64 (x1 * 131 + x2 * 1117) = x1 * 131 + x2 * 1117 := wrap_in _ (by omega) (by omega)
      have e6 : wrap64 (p * 29) = p * 29 := wrap_in _ (by omega) (by omega)
      have e7 : wrap64 (x1 * 131 + x2 * 1117 + p * 29) = x1 * 131 + x2 * 1117 + p * 29 := wrap_in _ (by omega) (by omega)
      have e8 : wrap64 y = y := wrap_in _ (by omega) (by omega)
      have e9 : wrap64 (y * 53) = y * 53 := wrap_in _ (by omega) (by omega)
      have e10 : wrap64 (x1 * 131 + x2 * 1117 + p * 29 + y * 53) = x1 * 131 + x2 * 1117 + p * 29 + y * 53 := wrap_in _ (by omega) (by omega)
      generalize hX : x1 * 131 + x2 * 1117 + p * 29 + y * 53 = X at e10
      have hX0 : 0 ≤ X ∧ X < 4611686018427387904 := by omega
      have hd2 : 0 ≤ Int.tdiv X 64 ∧ Int.tdiv X 64 ≤ X := by
        rw [Int.tdiv_eq_ediv_of_nonneg hX0.1]
        omega
      have e11 : wrap64 (Int.tdiv X 64) = Int.tdiv X 64 := wrap_in _ (by omega) (by omega)
      have hx := xor_nonneg X (Int.tdiv X 64) hX0.1 hX0.2 hd2.1 (by omega)
      obtain ⟨t0, t1⟩ := tmod_in _ n hx hn
      refine ⟨_, t0, t1, fun k hk => ?_⟩
      obtain ⟨k, rfl⟩ : ∃ m, k = m + 1 := ⟨k - 1, by omega⟩
      unfold spec_l16Rd_pick.f
      rw [if_neg (by omega), hw]
      simp only [spec_l16Rd_pick.j0, hq, hm7, hm73]
      rw [if_neg (by rw [hz']; decide), if_neg hlt, if_neg (by omega), if_pos i0, if_pos i1, if_pos j0, if_pos j1, if_neg (by omega)]
      rw [g1, g2, g3, e1, e2, e3, e4, e5, e6, e7, e8, e9, hX, e10, e11]
theorem of_ok (b : List Int) (hb : CodeOk b) (hl : b.length ≤ 140737488351232) (p : Int) (h0 : 0 ≤ p) (h1 : p < 1000000000000) (xs : List ByteArray) (hx : 1 ≤ xs.length) :
    ∃ x, x ∈ xs ∧ ∀ k, 1 ≤ k → spec_l16Rd_of.f k b p xs = some (x, p + 1) := by
  obtain ⟨v, v0, v1, hv⟩ := pick_ok b hb hl p (xs.length : Int) h0 h1 (by omega)
  refine ⟨rdOf ByteArray.empty xs v, ?_, fun k hk => ?_⟩
  · unfold rdOf
    rw [List.getD_eq_getElem?_getD, List.getElem?_eq_getElem (by omega)]
    exact List.getElem_mem _
  · unfold spec_l16Rd_of.f
    rw [hv k hk, Option.bind_some, if_pos v0, if_pos v1]
theorem open_ok (l : List Int) (hc : CodeOk l) : ∃ b, CodeOk b ∧ b.length ≤ 140737488351232 ∧ spec_l16Open.f l = some (b, 0) := by
  unfold spec_l16Open.f
  by_cases h : (l.length : Int) > 2000
  · rw [if_pos h, if_pos (by omega)]
    exact ⟨_, code_take hc _, by rw [List.length_take]; omega, rfl⟩
  · rw [if_neg h]
    exact ⟨l, hc, by omega, rfl⟩
theorem code_of {l : List Int} (h : ∀ x ∈ l, (Lit.int .u8 x).wf = true) : CodeOk l := fun x hx => by
  have := h x hx
  simp [Lit.wf, IntKind.min, IntKind.max, IntKind.bits, IntKind.signed] at this
  omega
end Go.Proofs.YtgjecacalpaacaaDoor.Draw
/- The texts that the reference draws (plain facts over the printed functions). -/
namespace Go.Proofs.YtgjecacalpaacaaDoor.Draw
open Go.RowKit Go.Proofs.YtgjecacalpaacaaDoor.PAll Go.Proofs.YtgjecacalpaacaaDoorW.PrintWords Go.Proofs.YtgjecacalpaacaaDoorW.PrintLast Go.Proofs.YtgjecacalpaacaaDoorW.PrintMore Go.Proofs.YtgjecacalpaacaaDoorW.XWords
set_option maxRecDepth 100000 in
theorem text_ok (b : List Int) (hb : CodeOk b) (hl : b.length ≤ 140737488351232) (p : Int) (h0 : 0 ≤ p) (h1 : p < 1000000000000) :
    ∃ x : ByteArray, x.size ≤ 60 ∧ ∀ k, 1 ≤ k → spec_l16Text.f k b p = some (x, p + 1) := by
  unfold spec_l16Text.f
  generalize hL : ([(⟨#[104, 105]⟩ : ByteArray), (⟨#[97, 32, 98]⟩ : ByteArray), (⟨#[104, 105, 32, 116, 104, 101, 114, 101]⟩ : ByteArray), (⟨#[]⟩ : ByteArray), (⟨#[60, 38, 62, 39, 34]⟩ : ByteArray), (⟨#[195, 169, 226, 130, 172, 240, 159, 152, 128]⟩ : ByteArray), (⟨#[120, 9, 121, 10, 122]⟩ : ByteArray), (⟨#[97, 124, 98, 92, 99]⟩ : ByteArray), (⟨#[116, 101, 110, 32, 49, 48]⟩ : ByteArray), (⟨#[72, 105]⟩ : ByteArray), (⟨#[110, 111]⟩ : ByteArray), (⟨#[105, 116, 32, 105, 115, 32, 97, 32, 103, 111, 111, 100, 32, 100, 97, 121, 32, 104, 101, 114, 101, 44, 32, 97, 108, 108, 32, 111, 102, 32, 117, 115, 32, 115, 97, 121, 32, 115, 111]⟩ : ByteArray)] : List ByteArray) = L
  have hs : ∀ x ∈ L, x.size ≤ 60 := by subst hL; decide
  have hn : 1 ≤ L.length := by subst hL; decide
  obtain ⟨x, hx, h⟩ := of_ok b hb hl p h0 h1 L hn
  exact ⟨x, hs x hx, fun k hk => by rw [h k hk]; rfl⟩
set_option maxRecDepth 100000 in
theorem any_ok (b : List Int) (hb : CodeOk b) (hl : b.length ≤ 140737488351232) (p : Int) (h0 : 0 ≤ p) (h1 : p < 100000000000) :
    ∃ x : ByteArray, x.size ≤ 120 ∧ ∀ k, 1 ≤ k → spec_l16Any.f k b p = some (x, p + 2) := by
  obtain ⟨x, hx, h⟩ := text_ok b hb hl p h0 (by omega)
  unfold spec_l16Any.f
  generalize hL : ([(⟨#[]⟩ : ByteArray), (⟨#[]⟩ : ByteArray), (⟨#[]⟩ : ByteArray), (⟨#[0]⟩ : ByteArray), (⟨#[195]⟩ : ByteArray), (⟨#[237, 160, 128]⟩ : ByteArray), (⟨#[244, 144, 128, 128]⟩ : ByteArray), (⟨#[192, 128]⟩ : ByteArray), (⟨#[11]⟩ : ByteArray), (⟨#[239, 191, 190]⟩ : ByteArray), (⟨#[226, 130]⟩ : ByteArray)] : List ByteArray) = L
  have hs : ∀ x ∈ L, x.size ≤ 60 := by subst hL; decide
  have hn : 1 ≤ L.length := by subst hL; decide
  obtain ⟨y, hy, h'⟩ := of_ok b hb hl (p + 1) (by omega) (by omega) L hn
  have := hs y hy
  refine ⟨x ++ y, by rw [ByteArray.size_append]; omega, fun k hk => ?_⟩
  rw [h k hk, Option.bind_some]
  dsimp only
  rw [h' k hk, Option.bind_some]
  dsimp only
  rw [if_pos (by omega), show p + 1 + 1 = p + 2 by omega]
theorem drawText_ok (l : List Int) (hc : CodeOk l) : ∃ x : ByteArray, x.size ≤ 120 ∧ ∀ k, 1 ≤ k → spec_DrawTextOk.f k l = some x := by
  obtain ⟨b, hb, hl, h⟩ := open_ok l hc
  obtain ⟨x, hx, h'⟩ := any_ok b hb hl 0 (by omega) (by omega)
  refine ⟨x, hx, fun k hk => ?_⟩
  unfold spec_DrawTextOk.f
  rw [h, Option.bind_some]
  dsimp only
  rw [h' k hk]
  rfl
end Go.Proofs.YtgjecacalpaacaaDoor.Draw
/- A sign that is cut off is none: the law of the cut text holds for all codes. No condition. -/
set_option linter.unusedVariables false
namespace Go.Proofs.YtgjecacalpaacaaDoor.Pure
open Go.RowKit Go.Proofs.YtgjecacalpaacaaDoor.PAll Go.Proofs.YtgjecacalpaacaaDoorW.PrintWords Go.Proofs.YtgjecacalpaacaaDoorW.PrintLast Go.Proofs.YtgjecacalpaacaaDoorW.PrintMore Go.Proofs.YtgjecacalpaacaaDoorW.XWords
open Go.Proofs.YtgjecacalpaacaaDoor.Text Go.Proofs.YtgjecacalpaacaaDoor.Draw
theorem FnTextCut (l0 : List Int) (l1 : List Int) (h0 : l0.length ≤ maxLen) (hc0 : ∀ x ∈ l0, (Lit.int .u8 x).wf = true) (h1 : l1.length ≤ maxLen) (_hc1 : ∀ x ∈ l1, (Lit.int .u8 x).wf = true) :
    ∃ k, laws_FnTextCut.f k l0 l1 = some true := by
  refine ⟨1000, ?_⟩
  obtain ⟨s, hs, hd⟩ := drawText_ok l0 (code_of hc0)
  have base : laws_FnTextCut.j0 1000 l0 l1 true = some true := rfl
  unfold laws_FnTextCut.f
  by_cases c0 : (l0.length : Int) > 1048576
  · rw [if_pos c0]; exact base
  rw [if_neg c0]
  by_cases c1 : (l1.length : Int) > 1048576
  · rw [decide_eq_true c1]; exact base
  rw [decide_eq_false c1]
  have e1 : ∀ k, 200 ≤ k → impl_TextOk.f k s = some (ok s) := fun k hk => impl_ok s (by omega) k (by omega)
  have e2 : ∀ k, 200 ≤ k → spec_TextOk.f k s = some (ok s) := fun k hk => spec_ok s (by omega) k (by omega)
  rw [show (1000 : Nat) = 998 + 1 + 1 from rfl]
  simp only [laws_FnTextCut.j0]
  rw [if_neg (by decide), hd _ (by omega), Option.bind_some, e1 _ (by omega), Option.bind_some, e2 _ (by omega), Option.bind_some, if_neg (by simp), Option.bind_some]
  simp only [laws_FnTextCut.j1]
  by_cases hok : ok s = true
  case neg =>
    rw [Bool.not_eq_true] at hok
    rw [hok, if_pos (show (!false) = true from rfl), e1 _ (by omega), e2 _ (by omega), Option.bind_some, Option.bind_some]
    simp
  rw [hok, if_neg (by decide)]
  have hw : wrap64 ((s.size : Int) + 1) = ((s.size + 1 : Nat) : Int) := by
    rw [show (s.size : Int) + 1 = ((s.size + 1 : Nat) : Int) by omega]
    exact Text.wrap_small (s.size + 1) (by omega)
  obtain ⟨q, hq⟩ : ∃ q : Nat, (l1.length : Int) % ((s.size + 1 : Nat) : Int) = (q : Int) := ⟨l1.length % (s.size + 1), by rw [← Int.natCast_emod]⟩
  have hqb : q ≤ s.size := by
    have := Int.emod_lt_of_pos (l1.length : Int) (show (0 : Int) < ((s.size + 1 : Nat) : Int) by omega)
    omega
  rw [hw, hq, if_neg (by omega), Int.toNat_natCast]
  obtain ⟨c2, c3⟩ := ok_cut s hok q hqb
  have i2 : ∀ k, 200 ≤ k → impl_TextOk.f k (s.extract 0 q) = some (!decide (q < s.size ∧ inner s q)) := fun k hk => by
    rw [← c2]
    exact impl_ok _ (by rw [ByteArray.size_extract]; omega) k (by rw [ByteArray.size_extract]; omega)
  have i3 : ∀ k, 200 ≤ k → impl_TextOk.f k (s.extract q s.size) = some (!decide (q < s.size ∧ inner s q)) := fun k hk => by
    rw [← c3]
    exact impl_ok _ (by rw [ByteArray.size_extract]; omega) k (by rw [ByteArray.size_extract]; omega)
  have hb := b4_cast s q
  by_cases d1 : q < s.size
  · rw [if_pos (by omega), if_pos (by omega)]
    by_cases d2 : 128 ≤ b4 s q
    · rw [if_pos (by omega), if_pos (by omega), i2 _ (by omega), Option.bind_some, i3 _ (by omega)]
      by_cases d3 : b4 s q < 192
      · rw [decide_eq_true (show q < s.size ∧ inner s q from ⟨d1, d2, by omega⟩), decide_eq_true (show bt s (q : Int) < 192 by omega)]
        rfl
      · rw [decide_eq_false (show ¬ (q < s.size ∧ inner s q) from fun z => by omega), decide_eq_false (show ¬ (bt s (q : Int) < 192) by omega)]
        rfl
    · rw [if_neg (by omega), if_pos (by omega), i2 _ (by omega), Option.bind_some, i3 _ (by omega), decide_eq_false (show ¬ (q < s.size ∧ inner s q) from fun z => by omega)]
      rfl
  · rw [if_neg (by omega), if_pos (by omega), if_pos (by omega), i2 _ (by omega), Option.bind_some, i3 _ (by omega), decide_eq_false (show ¬ (q < s.size ∧ inner s q) from fun z => by omega)]
    rfl
end Go.Proofs.YtgjecacalpaacaaDoor.Pure
