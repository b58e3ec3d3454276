-- the plain law: this session's
import Derived.Test.YtgjecacalpaacaaDoorZFnJidGetK0
import Derived.Test.YtgjecacalpaacaaDoorZFnJidGetK3
import Derived.Test.YtgjecacalpaacaaDoorZFnJidGetK1
import Derived.Test.YtgjecacalpaacaaDoorZFnJidGetK2
set_option linter.unusedVariables false
set_option linter.unusedSimpArgs false
namespace Go.Proofs.YtgjecacalpaacaaDoor.Text
open Go.RowKit Go.Proofs.YtgjecacalpaacaaDoor.PAll Go.Proofs.YtgjecacalpaacaaDoorW.PrintWords Go.Proofs.YtgjecacalpaacaaDoorW.PrintLast Go.Proofs.YtgjecacalpaacaaDoorW.PrintMore Go.Proofs.YtgjecacalpaacaaDoorW.XWords
open Go.Lib
abbrev cont (b : Nat) : Prop := 128 ≤ b ∧ b ≤ 191
abbrev sgN (n : Nat) : Prop := n = 9 ∨ n = 10 ∨ (32 ≤ n ∧ n ≤ 55295) ∨ (57344 ≤ n ∧ n ≤ 65533) ∨ (65536 ≤ n ∧ n ≤ 1114111)
def widN (a b c d : Nat) : Nat :=
  if a < 128 then (if a = 9 ∨ a = 10 ∨ 32 ≤ a then 1 else 0)
  else if 194 ≤ a ∧ a ≤ 223 then (if cont b then 2 else 0)
  else if 224 ≤ a ∧ a ≤ 239 then (if cont b ∧ cont c ∧ (a = 224 → 160 ≤ b) ∧ (a = 237 → b < 160) ∧ ¬ (a = 239 ∧ b = 191 ∧ 190 ≤ c) then 3 else 0)
  else if 240 ≤ a ∧ a ≤ 244 then (if cont b ∧ cont c ∧ cont d ∧ (a = 240 → 144 ≤ b) ∧ (a = 244 → b < 144) then 4 else 0)
  else 0
def valN (a b c d : Nat) : Nat := if a < 128 then a else if a < 224 then a % 32 * 64 + b % 64 else if a < 240 then a % 16 * 4096 + b % 64 * 64 + c % 64 else a % 8 * 262144 + b % 64 * 4096 + c % 64 * 64 + d % 64
set_option maxHeartbeats 4000000 in
theorem dec_wid (n a b c d : Nat) (hb : 1 < n ∨ b = 0) (hc : 2 < n ∨ c = 0) (hd : 3 < n ∨ d = 0) :
    (sgN (decodeN n a b c d).1 ∧ ((decodeN n a b c d).1 ≠ 65533 ∨ (decodeN n a b c d).2 = 3) → widN a b c d = (decodeN n a b c d).2 ∧ valN a b c d = (decodeN n a b c d).1) ∧
    (¬ (sgN (decodeN n a b c d).1 ∧ ((decodeN n a b c d).1 ≠ 65533 ∨ (decodeN n a b c d).2 = 3)) → widN a b c d = 0) := by
  unfold decodeN widN valN sgN
  by_cases h1 : a < 128
  · simp only [h1, if_true]
    constructor
    · intro h
      have h9 : a = 9 ∨ a = 10 ∨ 32 ≤ a := by have := h.1; omega
      exact ⟨if_pos h9, trivial⟩
    · intro h
      by_cases h9 : a = 9 ∨ a = 10 ∨ 32 ≤ a
      · exact absurd ⟨by omega, .inl (by omega)⟩ h
      · exact if_neg h9
  simp only [h1, if_false]
  by_cases h2 : a / 32 = 6 ∧ (1 < n ∧ b / 64 = 2)
  · rw [if_pos h2]
    constructor
    · intro h
      by_cases h3 : a % 32 * 64 + b % 64 ≥ 128
      · rw [if_pos h3] at h ⊢; dsimp only at h ⊢; repeat' split
        all_goals omega
      · rw [if_neg h3] at h; dsimp only at h; omega
    · intro h
      by_cases h3 : a % 32 * 64 + b % 64 ≥ 128
      · rw [if_pos h3] at h; dsimp only at h; repeat' split
        all_goals omega
      · repeat' split
        all_goals omega
  rw [if_neg h2]
  by_cases h4 : a / 16 = 14 ∧ (1 < n ∧ b / 64 = 2) ∧ (2 < n ∧ c / 64 = 2)
  · rw [if_pos h4]
    constructor
    · intro h
      split at h
      · rename_i h3; rw [if_pos h3]; dsimp only at h ⊢; repeat' split
        all_goals omega
      · dsimp only at h; omega
    · intro h
      split at h
      · dsimp only at h; repeat' split
        all_goals omega
      · repeat' split
        all_goals omega
  rw [if_neg h4]
  by_cases h5 : a / 8 = 30 ∧ (1 < n ∧ b / 64 = 2) ∧ (2 < n ∧ c / 64 = 2) ∧ (3 < n ∧ d / 64 = 2)
  · rw [if_pos h5]
    constructor
    · intro h
      split at h
      · rename_i h3; rw [if_pos h3]; dsimp only at h ⊢; repeat' split
        all_goals omega
      · dsimp only at h; omega
    · intro h
      split at h
      · dsimp only at h; repeat' split
        all_goals omega
      · repeat' split
        all_goals omega
  rw [if_neg h5]
  constructor
  · intro h; dsimp only at h; omega
  · intro h; repeat' split
    all_goals omega
theorem dec_bound (n a b c d : Nat) (hn : 0 < n) : 1 ≤ (decodeN n a b c d).2 ∧ (decodeN n a b c d).2 ≤ n ∧ (decodeN n a b c d).1 ≤ 2097152 := by
  unfold decodeN
  repeat' split
  all_goals (dsimp only; omega)
def b4 (s : ByteArray) (i : Nat) : Nat := (bt s (i : Int)).toNat
theorem b4_cast (s : ByteArray) (i : Nat) : (b4 s i : Int) = bt s (i : Int) := by
  have := bt_range s (i : Int)
  unfold b4
  omega
theorem b4_lt (s : ByteArray) (i : Nat) : b4 s i < 256 := by
  have := bt_range s (i : Int)
  unfold b4
  omega
theorem b4_out (s : ByteArray) (i : Nat) (h : s.size ≤ i) : b4 s i = 0 := by
  unfold b4 bt
  rw [dif_neg (by simp; omega)]
  rfl
theorem b4_in (s : ByteArray) (i : Nat) (h : i < s.size) : b4 s i = (s[i]'h).toNat := by
  unfold b4 bt
  rw [dif_pos (by simpa using h)]
  simp
theorem get_b4 (s : ByteArray) (i : Nat) : (s.get! i).toNat = b4 s i := by
  by_cases h : i < s.size
  · rw [b4_in s i h]
    have e : s.get! i = s[i]'h := by
      obtain ⟨d⟩ := s
      exact getElem!_pos d i h
    rw [e]
  · rw [b4_out s i (by omega)]
    have e : s.get! i = default := by
      obtain ⟨d⟩ := s
      exact getElem!_neg d i h
    rw [e]
    rfl
theorem b4_extract (s : ByteArray) (i n j : Nat) (hn : n ≤ s.size) : b4 (s.extract i n) j = if i + j < n then b4 s (i + j) else 0 := by
  by_cases h : i + j < n
  · rw [if_pos h, b4_in _ j (by rw [ByteArray.size_extract]; omega), b4_in s (i + j) (by omega), ByteArray.getElem_extract]
  · rw [if_neg h, b4_out _ j (by rw [ByteArray.size_extract]; omega)]
def wid (s : ByteArray) (i : Nat) : Nat := widN (b4 s i) (b4 s (i + 1)) (b4 s (i + 2)) (b4 s (i + 3))
def val (s : ByteArray) (i : Nat) : Nat := valN (b4 s i) (b4 s (i + 1)) (b4 s (i + 2)) (b4 s (i + 3))
theorem wid_le (s : ByteArray) (i : Nat) (h : i < s.size) : i + wid s i ≤ s.size := by
  have h1 : 1 < s.size - i ∨ b4 s (i + 1) = 0 := by
    rcases Nat.lt_or_ge 1 (s.size - i) with q | q
    · exact .inl q
    · exact .inr (b4_out s _ (by omega))
  have h2 : 2 < s.size - i ∨ b4 s (i + 2) = 0 := by
    rcases Nat.lt_or_ge 2 (s.size - i) with q | q
    · exact .inl q
    · exact .inr (b4_out s _ (by omega))
  have h3 : 3 < s.size - i ∨ b4 s (i + 3) = 0 := by
    rcases Nat.lt_or_ge 3 (s.size - i) with q | q
    · exact .inl q
    · exact .inr (b4_out s _ (by omega))
  unfold wid widN
  repeat' split
  all_goals omega
def okAt : Nat → ByteArray → Nat → Bool
  | 0, _, _ => true
  | f + 1, s, i => if s.size ≤ i then true else if wid s i = 0 then false else okAt f s (i + wid s i)
theorem okAt_more (s : ByteArray) : ∀ (f g i : Nat), s.size - i ≤ f → s.size - i ≤ g → okAt f s i = okAt g s i := by
  intro f
  induction f with
  | zero =>
    intro g i hf _
    cases g with
    | zero => rfl
    | succ g => simp only [okAt]; rw [if_pos (by omega)]
  | succ f ih =>
    intro g i hf hg
    cases g with
    | zero => simp only [okAt]; rw [if_pos (by omega)]
    | succ g =>
      simp only [okAt]
      by_cases h : s.size ≤ i
      · rw [if_pos h, if_pos h]
      · rw [if_neg h, if_neg h]
        by_cases hz : wid s i = 0
        · rw [if_pos hz, if_pos hz]
        · rw [if_neg hz, if_neg hz]
          exact ih g _ (by omega) (by omega)
def ok (s : ByteArray) : Bool := okAt s.size s 0
theorem ok_step (s : ByteArray) (i : Nat) : okAt (s.size - i) s i = if s.size ≤ i then true else if wid s i = 0 then false else okAt (s.size - (i + wid s i)) s (i + wid s i) := by
  by_cases h : s.size ≤ i
  · rw [if_pos h, show s.size - i = 0 by omega]
    rfl
  · rw [if_neg h]
    obtain ⟨m, hm⟩ : ∃ m, s.size - i = m + 1 := ⟨s.size - i - 1, by omega⟩
    rw [hm]
    simp only [okAt]
    rw [if_neg h]
    by_cases hz : wid s i = 0
    · rw [if_pos hz, if_pos hz]
    · rw [if_neg hz, if_neg hz]
      exact okAt_more s _ _ _ (by omega) (by omega)
theorem within_eq (n lo hi : Int) : impl_within.f n lo hi = some (decide (lo ≤ n) && decide (n ≤ hi)) := by
  unfold impl_within.f
  split <;> rw [Option.some.injEq, Bool.eq_iff_iff] <;> simp <;> omega
theorem in_eq (n lo hi : Int) : spec_l1In.f n lo hi = some (decide (lo ≤ n) && decide (n ≤ hi)) := by
  unfold spec_l1In.f
  split <;> rw [Option.some.injEq, Bool.eq_iff_iff] <;> simp <;> omega
theorem sign_impl (n : Nat) : impl_signOk.f (n : Int) = some (decide (sgN n)) := by
  unfold impl_signOk.f
  simp only [within_eq, Option.bind_some]
  (repeat' split) <;> rw [Option.some.injEq, Bool.eq_iff_iff] <;> simp_all <;> omega
theorem sign_spec (n : Nat) : spec_l1Sign.f (n : Int) = some (decide (sgN n)) := by
  unfold spec_l1Sign.f
  simp only [in_eq, Option.bind_some]
  (repeat' split) <;> rw [Option.some.injEq, Bool.eq_iff_iff] <;> simp_all <;> omega
theorem wrap_small (n : Nat) (h : n ≤ 9223372036854775807) : wrap64 (n : Int) = (n : Int) := by unfold wrap64; omega
theorem sign_eq (s : ByteArray) (h : 0 < s.size) : ∃ m : Nat, m ≤ s.size ∧ impl_sign.f s = some (s.extract 0 m, decide (0 < wid s 0)) ∧ (0 < wid s 0 → m = wid s 0) := by
  have hd : Lib.decodeGo s = decodeN (s.size - 0) (b4 s 0) (b4 s 1) (b4 s 2) (b4 s 3) := by
    unfold Lib.decodeGo
    rw [if_neg (by omega), decode_at, get_b4, get_b4, get_b4, get_b4]
  obtain ⟨q1, q2, q3⟩ := dec_bound (s.size - 0) (b4 s 0) (b4 s 1) (b4 s 2) (b4 s 3) (by omega)
  have hw := dec_wid (s.size - 0) (b4 s 0) (b4 s 1) (b4 s 2) (b4 s 3)
    (by rcases Nat.lt_or_ge 1 (s.size - 0) with q | q; exact .inl q; exact .inr (b4_out s _ (by omega)))
    (by rcases Nat.lt_or_ge 2 (s.size - 0) with q | q; exact .inl q; exact .inr (b4_out s _ (by omega)))
    (by rcases Nat.lt_or_ge 3 (s.size - 0) with q | q; exact .inl q; exact .inr (b4_out s _ (by omega)))
  have hww : wid s 0 = widN (b4 s 0) (b4 s 1) (b4 s 2) (b4 s 3) := rfl
  unfold impl_sign.f utf8_DecodeRuneInString.f
  rw [Option.bind_some, hd]
  generalize hD : decodeN (s.size - 0) (b4 s 0) (b4 s 1) (b4 s 2) (b4 s 3) = D at hw q1 q2 q3
  obtain ⟨R, K⟩ := D
  dsimp only at hw q1 q2 q3 ⊢
  refine ⟨K, by omega, ?_, ?_⟩
  · rw [if_pos (by omega), if_pos (by omega), wrap_small R (by omega), sign_impl, Option.bind_some, hww, Int.toNat_natCast]
    by_cases hs : sgN R
    · rw [if_pos (by simpa using hs)]
      by_cases h5 : R = 65533
      · rw [if_pos (by omega)]
        by_cases hk : K = 3
        · rw [(hw.1 ⟨hs, .inr hk⟩).1, hk]
          rfl
        · rw [hw.2 (fun z => z.2.elim (fun z => z h5) hk), show ((K : Int) == 3) = false from by rw [beq_eq_false_iff_ne]; omega]
          rfl
      · rw [if_neg (by omega), (hw.1 ⟨hs, .inl h5⟩).1, show decide (0 < K) = true from decide_eq_true (by omega)]
    · rw [if_neg (by simpa using hs), hw.2 (fun z => hs z.1)]
      rfl
  · intro hp
    rw [hww] at hp ⊢
    by_cases hs : sgN R ∧ (R ≠ 65533 ∨ K = 3)
    · exact (hw.1 hs).1.symm
    · rw [hw.2 hs] at hp
      omega
theorem toList_empty (s : ByteArray) : s.toList = ([] : List UInt8) ↔ s.size = 0 := by
  rw [Lib.toList_data]
  constructor
  · intro h
    have := congrArg List.length h
    rw [data_length] at this
    exact this
  · intro h
    exact List.eq_nil_of_length_eq_zero (by rw [data_length]; exact h)
theorem wid_extract (s : ByteArray) (i : Nat) (j : Nat) (hi : i ≤ s.size) : wid (s.extract i s.size) j = wid s (i + j) := by
  have e : ∀ q, b4 (s.extract i s.size) q = b4 s (i + q) := fun q => by
    rw [b4_extract s i s.size q (Nat.le_refl _)]
    by_cases h : i + q < s.size
    · rw [if_pos h]
    · rw [if_neg h, b4_out s _ (by omega)]
  unfold wid
  rw [e, e, e, e]
  rfl
theorem extract_extract (s : ByteArray) (i m : Nat) (h : i + m ≤ s.size) : (s.extract i s.size).extract m (s.extract i s.size).size = s.extract (i + m) s.size := by
  rw [ByteArray.extract_extract, ByteArray.size_extract]
  congr 1
  omega
theorem impl_loop (s : ByteArray) (hs : s.size ≤ 140737488351232) (d : Nat) : ∀ (k i : Nat), i ≤ s.size → s.size - i ≤ d → d < k → impl_TextOk.l0 k (s.extract i s.size) = some (okAt (s.size - i) s i) := by
  induction d with
  | zero =>
    intro k i hi hd hk
    obtain ⟨k, rfl⟩ : ∃ m, k = m + 1 := ⟨k - 1, by omega⟩
    simp only [impl_TextOk.l0]
    rw [if_pos ((toList_empty _).2 (by rw [ByteArray.size_extract]; omega)), show s.size - i = 0 by omega]
    rfl
  | succ d ih =>
    intro k i hi hd hk
    obtain ⟨k, rfl⟩ : ∃ m, k = m + 1 := ⟨k - 1, by omega⟩
    simp only [impl_TextOk.l0]
    by_cases h0 : s.size ≤ i
    · rw [if_pos ((toList_empty _).2 (by rw [ByteArray.size_extract]; omega)), show s.size - i = 0 by omega]
      rfl
    · rw [if_neg (fun z => by have := (toList_empty _).1 z; rw [ByteArray.size_extract] at this; omega)]
      obtain ⟨m, hm, he, hw⟩ := sign_eq (s.extract i s.size) (by rw [ByteArray.size_extract]; omega)
      have wx := wid_extract s i 0 hi
      rw [Nat.add_zero] at wx
      rw [wx] at he hw
      rw [ok_step s i, if_neg h0, he, Option.bind_some]
      by_cases hz : wid s i = 0
      · rw [if_pos hz, if_neg (by simp [hz])]
      · have hp : 0 < wid s i := by omega
        obtain rfl := hw hp
        have hle := wid_le s i (by omega)
        have hl : ((s.extract i s.size).extract 0 (wid s i)).size = wid s i := by rw [ByteArray.size_extract, ByteArray.size_extract]; omega
        rw [if_neg hz, if_pos (by simpa using hp)]
        rw [if_pos (Int.natCast_nonneg _), if_pos (show (((s.extract i s.size).extract 0 (wid s i)).size : Int) ≤ ((s.extract i s.size).size : Int) by rw [hl, ByteArray.size_extract]; omega)]
        show impl_TextOk.l0 k ((s.extract i s.size).extract ((((s.extract i s.size).extract 0 (wid s i)).size : Nat) : Int).toNat (s.extract i s.size).size) = _
        rw [hl, Int.toNat_natCast, extract_extract s i _ hle]
        exact ih k _ hle (by omega) (by omega)
theorem impl_ok (s : ByteArray) (hs : s.size ≤ 140737488351232) (k : Nat) (hk : s.size < k) : impl_TextOk.f k s = some (ok s) := by
  have h := impl_loop s hs s.size k 0 (Nat.zero_le _) (by omega) hk
  rw [show s.extract 0 s.size = s from ByteArray.extract_zero_size] at h
  exact h
end Go.Proofs.YtgjecacalpaacaaDoor.Text
set_option linter.unusedVariables false
set_option linter.unusedSimpArgs false
namespace Go.Proofs.YtgjecacalpaacaaDoor.Text
open Go.RowKit Go.Proofs.YtgjecacalpaacaaDoor.PAll Go.Proofs.YtgjecacalpaacaaDoorW.PrintWords Go.Proofs.YtgjecacalpaacaaDoorW.PrintLast Go.Proofs.YtgjecacalpaacaaDoorW.PrintMore Go.Proofs.YtgjecacalpaacaaDoorW.XWords
open Go.Lib
theorem lead_eq (a : Nat) (ha : a < 256) : spec_l1Lead.f (a : Int) = some (if a < 128 then 1 else if 194 ≤ a ∧ a ≤ 223 then 2 else if 224 ≤ a ∧ a ≤ 239 then 3 else if 240 ≤ a ∧ a ≤ 244 then 4 else 0) := by
  unfold spec_l1Lead.f
  rw [wrap_small a (by omega)]
  simp only [in_eq, Option.bind_some]
  by_cases h1 : a < 128
  · rw [if_pos (by omega), if_pos h1]
  rw [if_neg (by omega), if_neg h1]
  by_cases h2 : 194 ≤ a ∧ a ≤ 223
  · rw [if_pos (by simp; omega), if_pos h2]
  rw [if_neg (by simp; omega), if_neg h2]
  by_cases h3 : 224 ≤ a ∧ a ≤ 239
  · rw [if_pos (by simp; omega), if_pos h3]
  rw [if_neg (by simp; omega), if_neg h3]
  by_cases h4 : 240 ≤ a ∧ a ≤ 244
  · rw [if_pos (by simp; omega), if_pos h4]
  rw [if_neg (by simp; omega), if_neg h4]
abbrev sec (a b : Nat) : Prop := (a = 224 → 160 ≤ b) ∧ (a = 237 → b < 160) ∧ (a = 240 → 144 ≤ b) ∧ (a = 244 → b < 144)
theorem sec_eq (a b : Nat) : spec_l1Second.f (a : Int) (b : Int) = some (decide (sec a b)) := by
  unfold spec_l1Second.f
  (repeat' split) <;> rw [Option.some.injEq, Bool.eq_iff_iff] <;> simp <;> omega
set_option maxHeartbeats 4000000 in
theorem step_eq (k : Nat) (s : ByteArray) (hs : s.size ≤ 140737488351232) (i m n j : Nat) (hi : i < s.size) (hj : j < m) (h1 : 1 ≤ j) (hm : m ≤ 4) (hn : n ≤ 2000000) :
    spec_l1Next.l0 (k + 1) s (i : Int) (m : Int) (n : Int) (j : Int) =
      if s.size ≤ i + j then some (0, -1) else if cont (b4 s (i + j)) ∧ (j = 1 → sec (b4 s i) (b4 s (i + 1))) then spec_l1Next.l0 k s (i : Int) (m : Int) ((n * 64 + b4 s (i + j) - 128 : Nat) : Int) ((j + 1 : Nat) : Int) else some (0, 0) := by
  have hb := b4_lt s (i + j)
  have hw : Aside0 (wrap64 ((i : Int) + (j : Int)) = ((i + j : Nat) : Int)) := ⟨by rw [← Int.natCast_add]; exact wrap_small _ (by omega)⟩
  have hbw : Aside0 (wrap64 (bt s ((i + j : Nat) : Int)) = (b4 s (i + j) : Int)) := ⟨by rw [← b4_cast]; exact wrap_small _ (by omega)⟩
  have hbi : Aside0 (wrap64 (bt s (i : Int)) = (b4 s i : Int)) := ⟨by rw [← b4_cast]; exact wrap_small _ (by have := b4_lt s i; omega)⟩
  have hj1 : Aside0 (wrap64 ((j : Int) + 1) = ((j + 1 : Nat) : Int)) := ⟨by rw [show ((j : Int) + 1) = ((j + 1 : Nat) : Int) by omega]; exact wrap_small _ (by omega)⟩
  simp only [spec_l1Next.l0]
  rw [if_pos (by omega), hw.out]
  by_cases ho : s.size ≤ i + j
  · rw [if_pos (by omega), if_pos ho]
  rw [if_neg (by omega), if_neg ho, if_pos (by omega), if_pos (by omega), hbw.out, in_eq, Option.bind_some]
  by_cases hc : cont (b4 s (i + j))
  · have hval : Aside0 (wrap64 (wrap64 (wrap64 ((n : Int) * 64) + (b4 s (i + j) : Int)) - 128) = ((n * 64 + b4 s (i + j) - 128 : Nat) : Int)) := by
      constructor
      rw [show ((n : Int) * 64) = ((n * 64 : Nat) : Int) by omega, wrap_small _ (by omega), ← Int.natCast_add, wrap_small _ (by omega), show (((n * 64 + b4 s (i + j) : Nat) : Int) - 128) = ((n * 64 + b4 s (i + j) - 128 : Nat) : Int) by omega]
      exact wrap_small _ (by omega)
    rw [if_pos (by simp; omega), hval.out, hj1.out]
    by_cases h1' : j = 1
    · subst h1'
      rw [if_pos (by rfl), if_pos (by omega), if_pos (by omega), hbi.out, sec_eq, Option.bind_some]
      by_cases hz : sec (b4 s i) (b4 s (i + 1))
      · rw [if_pos (decide_eq_true hz), if_pos ⟨hc, fun _ => hz⟩]
      · rw [if_neg (fun z => hz (of_decide_eq_true z)), if_neg (fun z => hz (z.2 rfl))]
    · rw [if_neg (by omega), if_pos ⟨hc, fun z => absurd z h1'⟩]
  · rw [if_neg (by simp; omega), if_neg (fun z => hc z.1)]
theorem last_eq (k : Nat) (s : ByteArray) (i m n j : Nat) (hj : m ≤ j) : spec_l1Next.l0 (k + 1) s (i : Int) (m : Int) (n : Int) (j : Int) = if m = 0 then some (0, 0) else if sgN n then some ((n : Int), (m : Int)) else some (0, 0) := by
  simp only [spec_l1Next.l0]
  rw [if_neg (by omega), sign_spec, Option.bind_some]
  by_cases h0 : m = 0
  · rw [if_pos (by omega), if_pos h0]
  · rw [if_neg (by omega), if_neg h0]
    by_cases hs : sgN n
    · rw [if_pos (decide_eq_true hs), if_pos hs]
    · rw [if_neg (fun z => hs (of_decide_eq_true z)), if_neg hs]
set_option maxHeartbeats 4000000 in
theorem next_eq (s : ByteArray) (hs : s.size ≤ 140737488351232) (i : Nat) (hi : i < s.size) (k : Nat) (hk : 8 ≤ k) :
    ∃ n m : Int, spec_l1Next.f k s (i : Int) = some (n, m) ∧ (wid s i ≠ 0 → m = (wid s i : Int) ∧ n = (val s i : Int)) ∧ (wid s i = 0 → m < 1 ∧ n = 0) := by
  obtain ⟨k, rfl⟩ : ∃ q, k = q + 8 := ⟨k - 8, by omega⟩
  have ha := b4_lt s i
  have hw : ∀ q, wid s i = q ↔ widN (b4 s i) (b4 s (i + 1)) (b4 s (i + 2)) (b4 s (i + 3)) = q := fun q => Iff.rfl
  have hv : ∀ q, val s i = q ↔ valN (b4 s i) (b4 s (i + 1)) (b4 s (i + 2)) (b4 s (i + 3)) = q := fun q => Iff.rfl
  have hbi : Aside0 (wrap64 (bt s (i : Int)) = (b4 s i : Int)) := ⟨by rw [← b4_cast]; exact wrap_small _ (by omega)⟩
  have o1 := b4_out s (i + 1)
  have o2 := b4_out s (i + 2)
  have o3 := b4_out s (i + 3)
  have w0 : wid s i = widN (b4 s i) (b4 s (i + 1)) (b4 s (i + 2)) (b4 s (i + 3)) := rfl
  have v0 : val s i = valN (b4 s i) (b4 s (i + 1)) (b4 s (i + 2)) (b4 s (i + 3)) := rfl
  unfold spec_l1Next.f
  rw [if_pos (by omega), if_pos (by omega), hbi.out, show bt s (i : Int) = (b4 s i : Int) from (b4_cast s i).symm, lead_eq _ ha, Option.bind_some, Option.bind_some]
  by_cases h1 : b4 s i < 128
  · rw [if_pos h1, if_neg (by decide)]
    simp only [spec_l1Next.j0]
    rw [show (1 : Int) = ((1 : Nat) : Int) from rfl, last_eq _ s i 1 (b4 s i) 1 (Nat.le_refl _), if_neg (by decide)]
    have hwd : wid s i = if b4 s i = 9 ∨ b4 s i = 10 ∨ 32 ≤ b4 s i then 1 else 0 := by rw [w0]; unfold widN; rw [if_pos h1]
    have hvl : val s i = b4 s i := by rw [v0]; unfold valN; rw [if_pos h1]
    by_cases hg : sgN (b4 s i)
    · rw [if_pos hg]
      refine ⟨_, _, rfl, fun _ => ⟨?_, by rw [hvl]⟩, fun h => ?_⟩
      · rw [hwd, if_pos (by omega)]
      · rw [hwd, if_pos (by omega)] at h
        omega
    · rw [if_neg hg]
      refine ⟨_, _, rfl, fun h => ?_, fun _ => ⟨by omega, rfl⟩⟩
      rw [hwd, if_neg (by omega)] at h
      omega
  rw [if_neg h1]
  have hl2 : ∀ m : Int, (some (([0, 0, 32, 16, 8] : List Int) : List Int)).bind (fun y => if 0 ≤ m then (if m < (y.length : Int) then (if (rd y m) = 0 then (none : Option (Int × Int)) else spec_l1Next.j0 (k + 8) s (i : Int) m (Int.tmod (b4 s i : Int) (rd y m))) else none) else none) = (if 0 ≤ m then (if m < 5 then (if (rd [0, 0, 32, 16, 8] m) = 0 then (none : Option (Int × Int)) else spec_l1Next.j0 (k + 8) s (i : Int) m (Int.tmod (b4 s i : Int) (rd [0, 0, 32, 16, 8] m))) else none) else none) := fun m => rfl
  by_cases h2 : 194 ≤ b4 s i ∧ b4 s i ≤ 223
  · rw [if_pos h2, if_pos (by decide), show (2 : Int) = ((2 : Nat) : Int) from rfl]
    rw [if_pos (by decide), if_pos (by decide), if_neg (by decide), show rd ([0, 0, 32, 16, 8] : List Int) ((2 : Nat) : Int) = ((32 : Nat) : Int) from rfl, Int.tmod_eq_emod_of_nonneg (by omega), ← Int.natCast_emod]
    simp only [spec_l1Next.j0]
    rw [show (1 : Int) = ((1 : Nat) : Int) from rfl, step_eq _ s hs i 2 _ 1 hi (by omega) (by omega) (by omega) (by omega)]
    have hwd : wid s i = if cont (b4 s (i + 1)) then 2 else 0 := by rw [w0]; unfold widN; rw [if_neg h1, if_pos h2]
    have hvl : val s i = b4 s i % 32 * 64 + b4 s (i + 1) % 64 := by rw [v0]; unfold valN; rw [if_neg h1, if_pos (by omega)]
    by_cases ho : s.size ≤ i + 1
    · rw [if_pos ho]
      refine ⟨_, _, rfl, fun h => ?_, fun _ => ⟨by omega, rfl⟩⟩
      rw [hwd, if_neg (by have := o1 ho; omega)] at h
      omega
    rw [if_neg ho]
    by_cases hc : cont (b4 s (i + 1))
    · rw [if_pos ⟨hc, fun _ => by omega⟩, last_eq _ s i 2 _ _ (Nat.le_refl _), if_neg (by decide), if_pos (by omega)]
      refine ⟨_, _, rfl, fun _ => ⟨?_, ?_⟩, fun h => ?_⟩
      · rw [hwd, if_pos hc]
      · rw [hvl]; omega
      · rw [hwd, if_pos hc] at h
        omega
    · rw [if_neg (fun z => hc z.1)]
      refine ⟨_, _, rfl, fun h => ?_, fun _ => ⟨by omega, rfl⟩⟩
      rw [hwd, if_neg hc] at h
      omega
  rw [if_neg h2]
  by_cases h3 : 224 ≤ b4 s i ∧ b4 s i ≤ 239
  · rw [if_pos h3, if_pos (by decide), show (3 : Int) = ((3 : Nat) : Int) from rfl]
    rw [if_pos (by decide), if_pos (by decide), if_neg (by decide), show rd ([0, 0, 32, 16, 8] : List Int) ((3 : Nat) : Int) = ((16 : Nat) : Int) from rfl, Int.tmod_eq_emod_of_nonneg (by omega), ← Int.natCast_emod]
    simp only [spec_l1Next.j0]
    rw [show (1 : Int) = ((1 : Nat) : Int) from rfl, step_eq _ s hs i 3 _ 1 hi (by omega) (by omega) (by omega) (by omega)]
    have hwd : wid s i = if cont (b4 s (i + 1)) ∧ cont (b4 s (i + 2)) ∧ (b4 s i = 224 → 160 ≤ b4 s (i + 1)) ∧ (b4 s i = 237 → b4 s (i + 1) < 160) ∧ ¬ (b4 s i = 239 ∧ b4 s (i + 1) = 191 ∧ 190 ≤ b4 s (i + 2)) then 3 else 0 := by rw [w0]; unfold widN; rw [if_neg h1, if_neg h2, if_pos h3]
    have hvl : val s i = b4 s i % 16 * 4096 + b4 s (i + 1) % 64 * 64 + b4 s (i + 2) % 64 := by rw [v0]; unfold valN; rw [if_neg h1, if_neg (by omega), if_pos (by omega)]
    by_cases ho : s.size ≤ i + 1
    · rw [if_pos ho]
      refine ⟨_, _, rfl, fun h => ?_, fun _ => ⟨by omega, rfl⟩⟩
      rw [hwd, if_neg (by have := o1 ho; omega)] at h
      omega
    rw [if_neg ho]
    by_cases hc : cont (b4 s (i + 1)) ∧ (1 = 1 → sec (b4 s i) (b4 s (i + 1)))
    · rw [if_pos hc, step_eq _ s hs i 3 _ 2 hi (by omega) (by omega) (by omega) (by omega)]
      have hsec := hc.2 rfl
      by_cases ho2 : s.size ≤ i + 2
      · rw [if_pos ho2]
        refine ⟨_, _, rfl, fun h => ?_, fun _ => ⟨by omega, rfl⟩⟩
        rw [hwd, if_neg (by have := o2 ho2; omega)] at h
        omega
      rw [if_neg ho2]
      by_cases hc2 : cont (b4 s (i + 2))
      · rw [if_pos ⟨hc2, fun z => absurd z (by decide)⟩, last_eq _ s i 3 _ _ (Nat.le_refl _), if_neg (by decide)]
        by_cases hg : sgN ((b4 s i % 16 * 64 + b4 s (i + 1) - 128) * 64 + b4 s (i + 2) - 128)
        · rw [if_pos hg]
          refine ⟨_, _, rfl, fun _ => ⟨?_, ?_⟩, fun h => ?_⟩
          · rw [hwd, if_pos (by omega)]
          · rw [hvl]; omega
          · rw [hwd, if_pos (by omega)] at h
            omega
        · rw [if_neg hg]
          refine ⟨_, _, rfl, fun h => ?_, fun _ => ⟨by omega, rfl⟩⟩
          rw [hwd, if_neg (by omega)] at h
          omega
      · rw [if_neg (fun z => hc2 z.1)]
        refine ⟨_, _, rfl, fun h => ?_, fun _ => ⟨by omega, rfl⟩⟩
        rw [hwd, if_neg (by omega)] at h
        omega
    · rw [if_neg hc]
      refine ⟨_, _, rfl, fun h => ?_, fun _ => ⟨by omega, rfl⟩⟩
      rw [hwd, if_neg (by omega)] at h
      omega
  rw [if_neg h3]
  by_cases h4 : 240 ≤ b4 s i ∧ b4 s i ≤ 244
  · rw [if_pos h4, if_pos (by decide), show (4 : Int) = ((4 : Nat) : Int) from rfl]
    rw [if_pos (by decide), if_pos (by decide), if_neg (by decide), show rd ([0, 0, 32, 16, 8] : List Int) ((4 : Nat) : Int) = ((8 : Nat) : Int) from rfl, Int.tmod_eq_emod_of_nonneg (by omega), ← Int.natCast_emod]
    simp only [spec_l1Next.j0]
    rw [show (1 : Int) = ((1 : Nat) : Int) from rfl, step_eq _ s hs i 4 _ 1 hi (by omega) (by omega) (by omega) (by omega)]
    have hwd : wid s i = if cont (b4 s (i + 1)) ∧ cont (b4 s (i + 2)) ∧ cont (b4 s (i + 3)) ∧ (b4 s i = 240 → 144 ≤ b4 s (i + 1)) ∧ (b4 s i = 244 → b4 s (i + 1) < 144) then 4 else 0 := by rw [w0]; unfold widN; rw [if_neg h1, if_neg h2, if_neg h3, if_pos h4]
    have hvl : val s i = b4 s i % 8 * 262144 + b4 s (i + 1) % 64 * 4096 + b4 s (i + 2) % 64 * 64 + b4 s (i + 3) % 64 := by rw [v0]; unfold valN; rw [if_neg h1, if_neg (by omega), if_neg (by omega)]
    by_cases ho : s.size ≤ i + 1
    · rw [if_pos ho]
      refine ⟨_, _, rfl, fun h => ?_, fun _ => ⟨by omega, rfl⟩⟩
      rw [hwd, if_neg (by have := o1 ho; omega)] at h
      omega
    rw [if_neg ho]
    by_cases hc : cont (b4 s (i + 1)) ∧ (1 = 1 → sec (b4 s i) (b4 s (i + 1)))
    · rw [if_pos hc, step_eq _ s hs i 4 _ 2 hi (by omega) (by omega) (by omega) (by omega)]
      have hsec := hc.2 rfl
      by_cases ho2 : s.size ≤ i + 2
      · rw [if_pos ho2]
        refine ⟨_, _, rfl, fun h => ?_, fun _ => ⟨by omega, rfl⟩⟩
        rw [hwd, if_neg (by have := o2 ho2; omega)] at h
        omega
      rw [if_neg ho2]
      by_cases hc2 : cont (b4 s (i + 2))
      · rw [if_pos ⟨hc2, fun z => absurd z (by decide)⟩, step_eq _ s hs i 4 _ 3 hi (by omega) (by omega) (by omega) (by omega)]
        by_cases ho3 : s.size ≤ i + 3
        · rw [if_pos ho3]
          refine ⟨_, _, rfl, fun h => ?_, fun _ => ⟨by omega, rfl⟩⟩
          rw [hwd, if_neg (by have := o3 ho3; omega)] at h
          omega
        rw [if_neg ho3]
        by_cases hc3 : cont (b4 s (i + 3))
        · rw [if_pos ⟨hc3, fun z => absurd z (by decide)⟩, last_eq _ s i 4 _ _ (Nat.le_refl _), if_neg (by decide), if_pos (by omega)]
          refine ⟨_, _, rfl, fun _ => ⟨?_, ?_⟩, fun h => ?_⟩
          · rw [hwd, if_pos (by omega)]
          · rw [hvl]; omega
          · rw [hwd, if_pos (by omega)] at h
            omega
        · rw [if_neg (fun z => hc3 z.1)]
          refine ⟨_, _, rfl, fun h => ?_, fun _ => ⟨by omega, rfl⟩⟩
          rw [hwd, if_neg (by omega)] at h
          omega
      · rw [if_neg (fun z => hc2 z.1)]
        refine ⟨_, _, rfl, fun h => ?_, fun _ => ⟨by omega, rfl⟩⟩
        rw [hwd, if_neg (by omega)] at h
        omega
    · rw [if_neg hc]
      refine ⟨_, _, rfl, fun h => ?_, fun _ => ⟨by omega, rfl⟩⟩
      rw [hwd, if_neg (by omega)] at h
      omega
  rw [if_neg h4, if_neg (by decide)]
  simp only [spec_l1Next.j0]
  rw [show (0 : Int) = ((0 : Nat) : Int) from rfl, show (1 : Int) = ((1 : Nat) : Int) from rfl, last_eq _ s i 0 _ 1 (by omega), if_pos rfl]
  refine ⟨_, _, rfl, fun h => ?_, fun _ => ⟨by omega, rfl⟩⟩
  have hwd : wid s i = 0 := by rw [w0]; unfold widN; rw [if_neg h1, if_neg h2, if_neg h3, if_neg h4]
  exact absurd hwd h
theorem spec_loop (s : ByteArray) (hs : s.size ≤ 140737488351232) (d : Nat) : ∀ (k i : Nat), i ≤ s.size → s.size - i ≤ d → d + 8 < k → spec_l1Utf.l0 k s (i : Int) = some (okAt (s.size - i) s i) := by
  induction d with
  | zero =>
    intro k i hi hd hk
    obtain ⟨k, rfl⟩ : ∃ m, k = m + 1 := ⟨k - 1, by omega⟩
    simp only [spec_l1Utf.l0]
    rw [if_neg (by omega), show s.size - i = 0 by omega]
    rfl
  | succ d ih =>
    intro k i hi hd hk
    obtain ⟨k, rfl⟩ : ∃ m, k = m + 1 := ⟨k - 1, by omega⟩
    simp only [spec_l1Utf.l0]
    by_cases h0 : s.size ≤ i
    · rw [if_neg (by omega), show s.size - i = 0 by omega]
      rfl
    · obtain ⟨n, m, he, hp, hz⟩ := next_eq s hs i (by omega) k (by omega)
      rw [if_pos (by omega), he, Option.bind_some, ok_step s i, if_neg h0]
      by_cases hw : wid s i = 0
      · rw [if_pos hw, if_pos (hz hw).1]
      · obtain ⟨rfl, -⟩ := hp hw
        have hle := wid_le s i (by omega)
        rw [if_neg hw, if_neg (show ¬ ((wid s i : Int) < 1) by omega), show wrap64 ((i : Int) + (wid s i : Int)) = ((i + wid s i : Nat) : Int) by rw [← Int.natCast_add]; exact wrap_small _ (by omega)]
        exact ih k _ hle (by omega) (by omega)
theorem utf_ok (s : ByteArray) (hs : s.size ≤ 140737488351232) (k : Nat) (hk : s.size + 8 < k) : spec_l1Utf.f k s = some (ok s) := spec_loop s hs s.size k 0 (Nat.zero_le _) (by omega) hk
end Go.Proofs.YtgjecacalpaacaaDoor.Text
set_option linter.unusedVariables false
set_option linter.unusedSimpArgs false
namespace Go.Proofs.YtgjecacalpaacaaDoor.Words
open Go.RowKit Go.Proofs.YtgjecacalpaacaaDoor.PAll Go.Proofs.YtgjecacalpaacaaDoorW.PrintWords Go.Proofs.YtgjecacalpaacaaDoorW.PrintLast Go.Proofs.YtgjecacalpaacaaDoorW.PrintMore Go.Proofs.YtgjecacalpaacaaDoorW.XWords
open Go.Proofs.YtgjecacalpaacaaDoor.Text
def userB (s : ByteArray) : Bool := (bytesOf s).all impl_userOk.inB && (decide (1 ≤ s.size) && decide (s.size ≤ 8))
def nickB (s : ByteArray) : Bool := (bytesOf s).all impl_nickOk.inB && ((decide (1 ≤ s.size) && decide (s.size ≤ 10)) && (ok s && (bt s 0 != 32 && bt s ((s.size : Int) - 1) != 32)))
theorem wrap_next (s : ByteArray) (hs : s.size ≤ 140737488351232) (j : Nat) (hj : j < s.size) : wrap64 ((j : Int) + 1) = ((j + 1 : Nat) : Int) := by
  rw [show ((j : Int) + 1) = ((j + 1 : Nat) : Int) by omega]
  exact Text.wrap_small (j + 1) (by omega)
theorem all_end (p : Int → Bool) (s : ByteArray) : ((bytesOf s).drop s.size).all p = true := by
  rw [List.drop_of_length_le (by rw [bytesOf_length]; exact Nat.le_refl _)]
  rfl
theorem impl_user (s : ByteArray) (hs : s.size ≤ 140737488351232) : impl_userOk.f s = some (userB s) := by
  unfold impl_userOk.f
  rw [if_pos hs]
  rfl
theorem small_eq (b : Int) : spec_l4Small.f b = some (impl_userOk.smB b) := by
  unfold spec_l4Small.f spec_l1Figure.f impl_userOk.smB
  (repeat' split) <;> (try simp only [Option.bind_some]) <;> rw [Option.some.injEq, Bool.eq_iff_iff] <;> simp_all <;> omega
theorem user_loop (s : ByteArray) (hs : s.size ≤ 140737488351232) (d : Nat) : ∀ (k j : Nat), j ≤ s.size → s.size - j = d → d < k →
    spec_l4User.l0 k s (j : Int) = some (((bytesOf s).drop j).all impl_userOk.inB && (decide (1 ≤ s.size) && decide (s.size ≤ 8))) := by
  induction d with
  | zero =>
    intro k j hj hd hk
    obtain ⟨k, rfl⟩ : ∃ m, k = m + 1 := ⟨k - 1, by omega⟩
    obtain rfl : j = s.size := by omega
    simp only [spec_l4User.l0]
    rw [if_neg (by omega), in_eq, Option.bind_some, all_end, Bool.true_and, Option.some.injEq, Bool.eq_iff_iff]
    simp
    omega
  | succ d ih =>
    intro k j hj hd hk
    obtain ⟨k, rfl⟩ : ∃ m, k = m + 1 := ⟨k - 1, by omega⟩
    have hlt : j < s.size := by omega
    have hih := ih k (j + 1) (by omega) (by omega) (by omega)
    have hw := Aside0.mk (wrap_next s hs j hlt)
    simp only [spec_l4User.l0]
    rw [if_pos (by omega), if_pos (by omega), small_eq, Option.bind_some, all_drop_bytes _ _ _ hlt, hw.out]
    by_cases h1 : impl_userOk.smB (bt s (j : Int)) = true
    · rw [if_pos h1, hih, show impl_userOk.inB (bt s (j : Int)) = true by unfold impl_userOk.inB; unfold impl_userOk.smB at h1; rw [h1]; rfl, Bool.true_and]
    · rw [if_neg h1]
      have hI : impl_userOk.inB (bt s (j : Int)) = (bt s (j : Int) == 45 || bt s (j : Int) == 46 || bt s (j : Int) == 95) := by
        unfold impl_userOk.inB
        unfold impl_userOk.smB at h1
        rw [Bool.not_eq_true] at h1
        rw [h1]
        simp
      rw [hI]
      by_cases h45 : bt s (j : Int) = 45
      · rw [if_pos h45, hih, h45]; simp
      rw [if_neg h45]
      by_cases h46 : bt s (j : Int) = 46
      · rw [if_pos h46, hih, h46]; simp
      rw [if_neg h46]
      by_cases h95 : bt s (j : Int) = 95
      · rw [if_pos h95, hih, h95]; simp
      rw [if_neg h95, show (bt s (j : Int) == 45) = false by simpa using h45, show (bt s (j : Int) == 46) = false by simpa using h46, show (bt s (j : Int) == 95) = false by simpa using h95]
      simp
theorem spec_user (s : ByteArray) (hs : s.size ≤ 140737488351232) (k : Nat) (hk : s.size < k) : spec_l4User.f k s = some (userB s) := by
  have h := user_loop s hs s.size k 0 (by omega) (by omega) hk
  rw [List.drop_zero] at h
  exact h
def emp (s : ByteArray) : Bool := s.toList == ([] : List UInt8)
theorem toLn (s : ByteArray) : (s.toList = ([] : List UInt8)) = (emp s = true) := by unfold emp; rw [beq_iff_eq]
theorem emp_size (s : ByteArray) : emp s = decide (s.size = 0) := by
  rw [Bool.eq_iff_iff, ← toLn, decide_eq_true_iff]
  exact toList_empty s
theorem toL0 : (⟨#[]⟩ : ByteArray).toList = ([] : List UInt8) := by rw [toList_empty]; rfl
theorem impl_nick (s : ByteArray) (hs : s.size ≤ 140737488351232) (k : Nat) (hk : s.size < k) : impl_nickOk.f k s = some (nickB s) := by
  unfold impl_nickOk.f nickB
  rw [if_pos hs, impl_ok s hs k hk, Option.bind_some]
  cases (bytesOf s).all impl_nickOk.inB with
  | false => simp
  | true =>
    rw [if_pos rfl]
    by_cases h1 : 1 ≤ s.size
    · by_cases h2 : s.size ≤ 10
      · rw [if_pos h1, if_pos h2, decide_eq_true h1, decide_eq_true h2]
        cases ok s with
        | false => simp
        | true =>
          by_cases h3 : bt s 0 = 32
          · rw [if_pos rfl, if_pos h3, h3]; simp
          · rw [if_pos rfl, if_neg h3, show (bt s 0 != 32) = true by simpa using h3]; simp
      · rw [if_pos h1, if_neg h2, decide_eq_false h2]; simp
    · rw [if_neg h1, decide_eq_false h1]; simp
theorem nick_loop (s : ByteArray) (hs : s.size ≤ 140737488351232) (d : Nat) : ∀ (k j : Nat), j ≤ s.size → s.size - j = d → d + s.size + 9 < k →
    spec_l4Nick.l0 k s (j : Int) = some (((bytesOf s).drop j).all impl_nickOk.inB && ((decide (1 ≤ s.size) && decide (s.size ≤ 10)) && (ok s && (bt s 0 != 32 && bt s ((s.size : Int) - 1) != 32)))) := by
  induction d with
  | zero =>
    intro k j hj hd hk
    obtain ⟨k, rfl⟩ : ∃ m, k = m + 1 := ⟨k - 1, by omega⟩
    obtain rfl : j = s.size := by omega
    simp only [spec_l4Nick.l0]
    rw [if_neg (by omega), utf_ok s hs k (by omega), Option.bind_some, in_eq, Option.bind_some, all_end, Bool.true_and]
    cases ok s with
    | false => simp
    | true =>
      rw [if_pos rfl]
      by_cases h1 : 1 ≤ s.size
      · by_cases h2 : s.size ≤ 10
        · have hw := Aside0.mk (show wrap64 ((s.size : Int) - 1) = (s.size : Int) - 1 by rw [show (s.size : Int) - 1 = ((s.size - 1 : Nat) : Int) by omega]; exact Text.wrap_small (s.size - 1) (by omega))
          rw [if_pos (by simp; omega), if_pos (by omega), decide_eq_true h1, decide_eq_true h2, hw.out]
          by_cases h3 : bt s 0 = 32
          · rw [if_pos h3, h3]; simp
          · rw [if_neg h3, if_pos (by omega), if_pos (by omega), show (bt s 0 != 32) = true by simpa using h3]; simp
        · rw [if_neg (by simp; omega), decide_eq_false h2]; simp
      · rw [if_neg (by simp; omega), decide_eq_false h1]; simp
  | succ d ih =>
    intro k j hj hd hk
    obtain ⟨k, rfl⟩ : ∃ m, k = m + 1 := ⟨k - 1, by omega⟩
    have hlt : j < s.size := by omega
    have hih := ih k (j + 1) (by omega) (by omega) (by omega)
    have hw := Aside0.mk (wrap_next s hs j hlt)
    simp only [spec_l4Nick.l0]
    rw [if_pos (by omega), if_pos (by omega), all_drop_bytes _ _ _ hlt, hw.out]
    unfold impl_nickOk.inB at hih ⊢
    by_cases h1 : bt s (j : Int) < 32
    · rw [if_pos h1, decide_eq_true h1]; simp
    rw [if_neg h1]
    by_cases h2 : bt s (j : Int) = 127
    · rw [if_pos h2, h2]; simp
    rw [if_neg h2, hih, decide_eq_false h1, show (bt s (j : Int) == 127) = false by simpa using h2]
    simp
theorem spec_nick (s : ByteArray) (hs : s.size ≤ 140737488351232) (k : Nat) (hk : 2 * s.size + 9 < k) : spec_l4Nick.f k s = some (nickB s) := by
  have h := nick_loop s hs s.size k 0 (by omega) (by omega) (by omega)
  rw [List.drop_zero] at h
  exact h
end Go.Proofs.YtgjecacalpaacaaDoor.Words
namespace Go.Proofs.YtgjecacalpaacaaDoor.Words
open Go.RowKit Go.Proofs.YtgjecacalpaacaaDoor.PAll Go.Proofs.YtgjecacalpaacaaDoorW.PrintWords Go.Proofs.YtgjecacalpaacaaDoorW.PrintLast Go.Proofs.YtgjecacalpaacaaDoorW.PrintMore Go.Proofs.YtgjecacalpaacaaDoorW.XWords
open Go.Proofs.YtgjecacalpaacaaDoor.Text
def inB (n lo hi : Int) : Bool := decide (lo ≤ n) && decide (n ≤ hi)
end Go.Proofs.YtgjecacalpaacaaDoor.Words
set_option linter.unusedVariables false
set_option linter.unusedSimpArgs false
namespace Go.Proofs.YtgjecacalpaacaaDoor.Jid
open Go.RowKit Go.Proofs.YtgjecacalpaacaaDoor.PAll Go.Proofs.YtgjecacalpaacaaDoorW.PrintWords Go.Proofs.YtgjecacalpaacaaDoorW.PrintLast Go.Proofs.YtgjecacalpaacaaDoorW.PrintMore Go.Proofs.YtgjecacalpaacaaDoorW.XWords
open Go.Proofs.YtgjecacalpaacaaDoor.Text Go.Proofs.YtgjecacalpaacaaDoor.Words
def ix (s : ByteArray) (c : UInt8) : Int := Lib.indexByte s.data.toList c
theorem ix_at (c : UInt8) : ∀ (l : List UInt8) (n : Nat), (∀ j : Nat, j < n → l[j]? ≠ some c) → l[n]? = some c → Lib.indexByte l c = (n : Int)
  | [], n, _, h => by simp at h
  | b :: t, 0, _, h => by
    simp only [List.getElem?_cons_zero, Option.some.injEq] at h
    simp [Lib.indexByte, h]
  | b :: t, n + 1, h0, h => by
    have hb : ¬ (b == c) = true := fun e => h0 0 (by omega) (by simpa using e)
    have ih := ix_at c t n (fun j hj => by have := h0 (j + 1) (by omega); simpa using this) (by simpa using h)
    simp only [Lib.indexByte]
    rw [if_neg hb, ih, if_neg (by rw [beq_iff_eq]; omega)]
    omega
theorem ix_no (c : UInt8) : ∀ (l : List UInt8), (∀ j : Nat, l[j]? ≠ some c) → Lib.indexByte l c = -1
  | [], _ => rfl
  | b :: t, h0 => by
    have hb : ¬ (b == c) = true := fun e => h0 0 (by simpa using e)
    have ih := ix_no c t (fun j => by have := h0 (j + 1); simpa using this)
    simp only [Lib.indexByte]
    rw [if_neg hb, ih]
    rfl
theorem ix_lt (c : UInt8) : ∀ (l : List UInt8), Lib.indexByte l c < (l.length : Int) ∧ -1 ≤ Lib.indexByte l c
  | [] => by simp [Lib.indexByte]
  | b :: t => by
    have ih := ix_lt c t
    have hl : ((b :: t).length : Int) = t.length + 1 := by simp
    simp only [Lib.indexByte]
    split
    · omega
    · split
      · omega
      · omega
theorem ix_size (s : ByteArray) (c : UInt8) : ix s c < (s.size : Int) ∧ -1 ≤ ix s c := by
  have := ix_lt c s.data.toList
  unfold ix
  rwa [data_length] at this
theorem bt_list (s : ByteArray) (c : UInt8) (j : Nat) (hj : j < s.size) : bt s (j : Int) = (c.toNat : Int) ↔ s.data.toList[j]? = some c := by
  have h' : j < s.data.toList.length := by rw [data_length]; exact hj
  rw [← rd_bytesOf, List.getElem?_eq_getElem h']
  unfold rd bytesOf
  rw [Int.toNat_natCast, List.getD_eq_getElem?_getD, List.getElem?_map, List.getElem?_eq_getElem h']
  simp only [Option.map_some, Option.getD_some, Option.some.injEq]
  constructor
  · intro h; exact UInt8.toNat_inj.mp (by omega)
  · intro h; rw [h]
theorem rest_list (s : ByteArray) (a j : Nat) : (s.extract a s.size).data.toList[j]? = s.data.toList[a + j]? := by
  rw [ByteArray.data_extract, Array.getElem?_toList, Array.getElem?_toList, Array.getElem?_extract]
  have : s.data.size = s.size := rfl
  by_cases h : a + j < s.size
  · rw [if_pos (by omega)]
  · rw [if_neg (by omega), Array.getElem?_eq_none (by omega)]
theorem ix_rest (s : ByteArray) (c : UInt8) (a n : Nat) (hn : a + n < s.size) (h : ∀ j, a ≤ j → j < a + n → bt s (j : Int) ≠ (c.toNat : Int)) (hc : bt s ((a + n : Nat) : Int) = (c.toNat : Int)) : ix (s.extract a s.size) c = (n : Int) := by
  unfold ix
  refine ix_at c _ n (fun j hj => ?_) ?_
  · rw [rest_list]
    intro e
    exact h (a + j) (by omega) (by omega) ((bt_list s c (a + j) (by omega)).2 e)
  · rw [rest_list]
    exact (bt_list s c (a + n) hn).1 hc
theorem ix_rest_no (s : ByteArray) (c : UInt8) (a : Nat) (h : ∀ j, a ≤ j → j < s.size → bt s (j : Int) ≠ (c.toNat : Int)) : ix (s.extract a s.size) c = -1 := by
  unfold ix
  refine ix_no c _ (fun j => ?_)
  rw [rest_list]
  intro e
  by_cases hj : a + j < s.size
  · exact h (a + j) (by omega) hj ((bt_list s c (a + j) hj).2 e)
  · rw [List.getElem?_eq_none (by rw [data_length]; omega)] at e
    cases e
def cuts (c : UInt8) : Nat → Nat → ByteArray → List ByteArray
  | 0, _, s => [s]
  | _ + 1, 0, s => [s]
  | m + 1, f + 1, s => if ix s c < 0 then [s] else s.extract 0 (ix s c).toNat :: cuts c m f (s.extract (ix s c + 1).toNat s.size)
theorem cuts_no (c : UInt8) (s : ByteArray) (h : ix s c < 0) : ∀ m f, cuts c m f s = [s]
  | 0, _ => rfl
  | _ + 1, 0 => rfl
  | m + 1, f + 1 => by simp only [cuts]; rw [if_pos h]
theorem wrap_nx (s : ByteArray) (hs : s.size ≤ 1048576) (j : Nat) (hj : j < s.size) : wrap64 ((j : Int) + 1) = ((j + 1 : Nat) : Int) := wrap_next s (by omega) j hj
theorem cut_loop (s : ByteArray) (hs : s.size ≤ 1048576) (c : UInt8) (most : Nat) (d : Nat) : ∀ (k a i F : Nat) (acc : List ByteArray), a ≤ i → i ≤ s.size → acc.length ≤ a → acc.length ≤ most → (∀ j, a ≤ j → j < i → bt s (j : Int) ≠ (c.toNat : Int)) → s.size - i = d → 2 * d + 2 ≤ k → s.size - a < F →
    spec_l1Cut.l0 k s (c.toNat : Int) (most : Int) acc (a : Int) (i : Int) = some (acc ++ cuts c (most - acc.length) F (s.extract a s.size)) := by
  induction d with
  | zero =>
    intro k a i F acc hai hi hla hlm hno hd hk hF
    obtain ⟨k, rfl⟩ : ∃ m, k = m + 1 + 1 := ⟨k - 2, by omega⟩
    obtain rfl : i = s.size := by omega
    have hx : ix (s.extract a s.size) c < 0 := by rw [ix_rest_no s c a hno]; omega
    rw [cuts_no c _ hx]
    simp only [spec_l1Cut.l0]
    rw [if_neg (by omega)]
    simp only [spec_l1Cut.j1]
    rw [if_neg (by decide), if_pos (by omega), if_pos (by omega), if_pos (by omega)]
    simp
  | succ d ih =>
    intro k a i F acc hai hi hla hlm hno hd hk hF
    obtain ⟨k, rfl⟩ : ∃ m, k = m + 1 + 1 := ⟨k - 2, by omega⟩
    have hlt : i < s.size := by omega
    have hw := Aside0.mk (wrap_nx s hs i hlt)
    simp only [spec_l1Cut.l0]
    rw [if_pos (by omega)]
    simp only [spec_l1Cut.j1]
    by_cases hm : acc.length < most
    · rw [if_pos (by rw [decide_eq_true_iff]; omega), if_pos (by omega), if_pos (by omega), hw.out]
      by_cases hb : bt s (i : Int) = (c.toNat : Int)
      · obtain ⟨F, rfl⟩ : ∃ m, F = m + 1 := ⟨F - 1, by omega⟩
        obtain ⟨m, hm'⟩ : ∃ m, most - acc.length = m + 1 := ⟨most - acc.length - 1, by omega⟩
        have hx : ix (s.extract a s.size) c = ((i - a : Nat) : Int) := ix_rest s c a (i - a) (by omega) (fun j h1 h2 => hno j h1 (by omega)) (by rw [show a + (i - a) = i by omega]; exact hb)
        have e1 : (s.extract a s.size).extract 0 (i - a) = s.extract a i := by rw [ByteArray.extract_extract]; congr 1; omega
        have e2 : (s.extract a s.size).extract (i - a + 1) (s.extract a s.size).size = s.extract (i + 1) s.size := by
          rw [ByteArray.extract_extract, ByteArray.size_extract]; congr 1 <;> omega
        rw [if_pos hb, if_pos (by omega), if_pos (by omega), if_pos (by omega), if_pos (by omega)]
        rw [ih k (i + 1) (i + 1) F _ (by omega) (by omega) (by simp; omega) (by simp; omega) (fun j h1 h2 => by omega) (by omega) (by omega) (by omega), hm']
        simp only [cuts]
        rw [hx, if_neg (by omega), show (((i - a : Nat) : Int)).toNat = i - a by omega, e1, show (((i - a : Nat) : Int) + 1).toNat = i - a + 1 by omega, e2, List.append_assoc, show ∀ q : ByteArray, most - (acc ++ [q]).length = m from fun q => by simp; omega]
        simp
      · rw [if_neg hb]
        exact ih k a (i + 1) F acc (by omega) (by omega) hla hlm (fun j h1 h2 => by
          by_cases hj : j = i
          · rw [hj]; exact hb
          · exact hno j h1 (by omega)) (by omega) (by omega) hF
    · rw [if_neg (by rw [decide_eq_true_iff]; omega), if_pos (by omega), if_pos (by omega), if_pos (by omega), show most - acc.length = 0 by omega]
      simp [cuts]
theorem spec_cut (s : ByteArray) (hs : s.size ≤ 1048576) (c : UInt8) (most : Nat) (k : Nat) (hk : 2 * s.size + 2 ≤ k) : spec_l1Cut.f k s (c.toNat : Int) (most : Int) = some (cuts c most (s.size + 1) s) := by
  have h := cut_loop s hs c most s.size k 0 0 (s.size + 1) [] (by omega) (by omega) (by simp) (by simp) (fun j h1 h2 => by omega) (by omega) hk (by omega)
  rw [ByteArray.extract_zero_size] at h
  exact h
theorem parts_cuts : ∀ (f m : Nat) (s : ByteArray), f ≤ m → impl_hostOk.parts f s = cuts 46 m f s
  | 0, 0, s, _ => rfl
  | 0, _ + 1, s, _ => rfl
  | f + 1, 0, s, h => by omega
  | f + 1, m + 1, s, h => by
    simp only [impl_hostOk.parts, cuts]
    rw [parts_cuts f m _ (by omega)]
    rfl
theorem cuts_parts (s : ByteArray) : cuts 46 s.size (s.size + 1) s = impl_hostOk.parts (s.size + 1) s := by
  rw [parts_cuts (s.size + 1) (s.size + 1) s (by omega)]
  have h : ∀ (n : Nat) (m f : Nat) (s : ByteArray), s.size ≤ n → n ≤ m → cuts 46 m f s = cuts 46 (m + 1) f s := by
    intro n
    induction n with
    | zero =>
      intro m f s h0 hm
      have := (ix_size s 46)
      rw [cuts_no 46 s (by omega), cuts_no 46 s (by omega)]
    | succ n ih =>
      intro m f s h0 hm
      obtain ⟨m, rfl⟩ : ∃ q, m = q + 1 := ⟨m - 1, by omega⟩
      cases f with
      | zero => rfl
      | succ f =>
        simp only [cuts]
        by_cases hx : ix s 46 < 0
        · rw [if_pos hx, if_pos hx]
        · rw [if_neg hx, if_neg hx, ih m f _ (by rw [ByteArray.size_extract]; omega) (by omega)]
  exact h s.size s.size (s.size + 1) s (by omega) (by omega)
def okAt (p : ByteArray) (q : Nat) : Bool := impl_hostOk.smB (bt p (q : Int)) || (bt p (q : Int) == 45 && !(q == 0) && !(q + 1 == p.size))
def tailOk (p : ByteArray) : Nat → Nat → Bool
  | _, 0 => true
  | j, d + 1 => okAt p j && tailOk p (j + 1) d
theorem sm45 : impl_hostOk.smB 45 = false := by decide
theorem tail_iff (p : ByteArray) (hp : 0 < p.size) : ∀ (d j : Nat), j + d = p.size →
    tailOk p j d = (((bytesOf p).drop j).all impl_hostOk.inB && ((!(decide (j = 0 ∧ 0 < d)) || !(bt p 0 == 45)) && (!(decide (0 < d)) || !(bt p ((p.size : Int) - 1) == 45))))
  | 0, j, h => by
    simp only [tailOk]
    rw [List.drop_of_length_le (by rw [bytesOf_length]; omega)]
    simp
  | d + 1, j, h => by
    have ih := tail_iff p hp d (j + 1) (by omega)
    simp only [tailOk]
    rw [ih, all_drop_bytes impl_hostOk.inB p j (by omega)]
    have e1 : (decide (j + 1 = 0 ∧ 0 < d)) = false := decide_eq_false (by omega)
    have e2 : decide (0 < d + 1) = true := decide_eq_true (by omega)
    rw [e1, e2]
    generalize hA : ((bytesOf p).drop (j + 1)).all impl_hostOk.inB = A
    unfold okAt impl_hostOk.inB
    by_cases hs : impl_hostOk.smB (bt p (j : Int)) = true
    · have n45 : bt p (j : Int) ≠ 45 := fun e => by rw [e, sm45] at hs; cases hs
      have z0 : ((!(decide (j = 0 ∧ 0 < d + 1))) || !(bt p 0 == 45)) = true := by
        by_cases hj : j = 0
        · subst hj
          have : (bt p 0 == 45) = false := beq_eq_false_iff_ne.mpr n45
          rw [this]; simp
        · rw [decide_eq_false (by omega)]; rfl
      rw [hs, z0]
      by_cases hd : d = 0
      · have hl : (bt p ((p.size : Int) - 1) == 45) = false := by
          rw [show ((p.size : Int) - 1) = (j : Int) by omega]; exact beq_eq_false_iff_ne.mpr n45
        rw [hl, decide_eq_false (show ¬ 0 < d by omega)]
        cases A <;> rfl
      · rw [decide_eq_true (show 0 < d by omega)]
        cases A <;> rfl
    · have hs' : impl_hostOk.smB (bt p (j : Int)) = false := by simpa using hs
      rw [hs']
      by_cases h45 : bt p (j : Int) = 45
      · rw [beq_iff_eq.mpr h45]
        by_cases hj : j = 0
        · subst hj
          have b0 : (bt p 0 == 45) = true := beq_iff_eq.mpr h45
          rw [decide_eq_true (show (0 : Nat) = 0 ∧ 0 < d + 1 from ⟨rfl, by omega⟩), b0]
          cases A <;> simp
        · rw [decide_eq_false (show ¬ (j = 0 ∧ 0 < d + 1) by omega), beq_eq_false_iff_ne.mpr hj]
          by_cases hd : d = 0
          · have hl : (bt p ((p.size : Int) - 1) == 45) = true := by
              rw [show ((p.size : Int) - 1) = (j : Int) by omega]; exact beq_iff_eq.mpr h45
            rw [hl, beq_iff_eq.mpr (show j + 1 = p.size by omega)]
            cases A <;> simp
          · rw [decide_eq_true (show 0 < d by omega), beq_eq_false_iff_ne.mpr (show j + 1 ≠ p.size by omega)]
            cases A <;> simp
      · rw [beq_eq_false_iff_ne.mpr h45]
        simp
theorem part_tail (p : ByteArray) : impl_hostOk.partB p = (!(emp p) && tailOk p 0 p.size) := by
  unfold impl_hostOk.partB
  cases he : emp p with
  | true =>
    have : (p.toList == ([] : List UInt8)) = true := he
    rw [this]; rfl
  | false =>
    have h0 : (p.toList == ([] : List UInt8)) = false := he
    have hp : 0 < p.size := by
      rw [emp_size] at he
      have := of_decide_eq_false he
      omega
    rw [h0, tail_iff p hp p.size 0 (by omega), List.drop_zero, decide_eq_true (show (0 : Nat) = 0 ∧ 0 < p.size from ⟨rfl, hp⟩), decide_eq_true hp]
    generalize (bytesOf p).all impl_hostOk.inB = A
    generalize (bt p 0 == 45) = B
    generalize (bt p ((p.size : Int) - 1) == 45) = C
    cases A <;> cases B <;> cases C <;> rfl
theorem small_host (b : Int) : spec_l4Small.f b = some (impl_hostOk.smB b) := small_eq b
theorem part_loop (x0 : ByteArray) (l : List ByteArray) (i : Nat) (hi : i < l.length) (hl : l.length ≤ 2097152) (hp : l[i].size ≤ 1048576) (d : Nat) : ∀ (k j : Nat), j + d = l[i].size → d + 1 ≤ k →
    spec_l4Host.l1 k x0 l (i : Int) (j : Int) = if tailOk l[i] j d = true then (if emp l[i] = true then some false else spec_l4Host.l0 (k - d - 1) x0 l ((i + 1 : Nat) : Int)) else some false := by
  have hr : rdOf ByteArray.empty l (i : Int) = l[i] := by
    unfold rdOf
    rw [Int.toNat_natCast, List.getD_eq_getElem?_getD, List.getElem?_eq_getElem hi]
    rfl
  induction d with
  | zero =>
    intro k j hj hk
    obtain ⟨k, rfl⟩ : ∃ m, k = m + 1 := ⟨k - 1, by omega⟩
    simp only [spec_l4Host.l1, toLn]
    rw [if_pos (by omega), if_pos (by omega), hr, if_neg (by omega), show wrap64 ((i : Int) + 1) = ((i + 1 : Nat) : Int) from Text.wrap_small (i + 1) (by omega)]
    rfl
  | succ d ih =>
    intro k j hj hk
    obtain ⟨k, rfl⟩ : ∃ m, k = m + 1 := ⟨k - 1, by omega⟩
    have hI := ih k (j + 1) (by omega) (by omega)
    have hw := Aside0.mk (wrap_nx l[i] hp j (by omega))
    have hw2 := Aside0.mk (show wrap64 ((l[i].size : Int) - 1) = ((l[i].size - 1 : Nat) : Int) by unfold wrap64; omega)
    have hT : tailOk l[i] j (d + 1) = (okAt l[i] j && tailOk l[i] (j + 1) d) := rfl
    rw [hT]
    simp only [spec_l4Host.l1]
    rw [if_pos (by omega), if_pos (by omega), hr, if_pos (by omega), if_pos (by omega), small_host, Option.bind_some, hw.out, hw2.out, hI, show k - d - 1 = k + 1 - (d + 1) - 1 by omega]
    by_cases hs : impl_hostOk.smB (bt l[i] (j : Int)) = true
    · rw [if_pos hs, show okAt l[i] j = true by unfold okAt; rw [hs]; rfl, Bool.true_and]
    · rw [if_neg hs]
      have hs' : impl_hostOk.smB (bt l[i] (j : Int)) = false := by simpa using hs
      by_cases h45 : bt l[i] (j : Int) = 45
      · rw [if_pos h45]
        by_cases hj0 : j = 0
        · rw [if_pos (by omega), show okAt l[i] j = false by unfold okAt; rw [hs', beq_iff_eq.mpr h45, beq_iff_eq.mpr hj0]; rfl]
          rfl
        · rw [if_neg (by omega)]
          by_cases hj1 : j + 1 = l[i].size
          · rw [if_pos (by omega), show okAt l[i] j = false by unfold okAt; rw [hs', beq_iff_eq.mpr h45, beq_iff_eq.mpr hj1]; simp]
            rfl
          · rw [if_neg (by omega), show okAt l[i] j = true by unfold okAt; rw [hs', beq_iff_eq.mpr h45, beq_eq_false_iff_ne.mpr hj1, beq_eq_false_iff_ne.mpr hj0]; rfl, Bool.true_and]
      · rw [if_neg h45, show okAt l[i] j = false by unfold okAt; rw [hs', beq_eq_false_iff_ne.mpr h45]; rfl]
        rfl
def need : List ByteArray → Nat
  | [] => 1
  | p :: t => p.size + 2 + need t
theorem host_loop (x0 : ByteArray) (l : List ByteArray) (hl : l.length ≤ 2097152) (hp : ∀ p ∈ l, p.size ≤ 1048576) : ∀ (t : List ByteArray) (i k : Nat), l.drop i = t → need t ≤ k →
    spec_l4Host.l0 k x0 l (i : Int) = some (t.all impl_hostOk.partB && decide (x0.size ≤ 20))
  | [], i, k, ht, hk => by
    obtain ⟨k, rfl⟩ : ∃ m, k = m + 1 := ⟨k - 1, by simp only [need] at hk; omega⟩
    have : l.length ≤ i := by
      have := congrArg List.length ht
      simp at this
      omega
    simp only [spec_l4Host.l0]
    rw [if_neg (by omega), List.all_nil, Bool.true_and, decide_eq_decide.mpr (show ((x0.size : Int) ≤ 20) ↔ x0.size ≤ 20 by omega)]
  | p :: t, i, k, ht, hk => by
    obtain ⟨k, rfl⟩ : ∃ m, k = m + 1 := ⟨k - 1, by simp only [need] at hk; omega⟩
    simp only [need] at hk
    have hi : i < l.length := by
      have := congrArg List.length ht
      simp at this
      omega
    have h1 := List.drop_eq_getElem_cons hi
    rw [ht] at h1
    injection h1 with h1 h2
    have ih := host_loop x0 l hl hp t (i + 1) (k - p.size - 1) h2.symm (by omega)
    have hpl := part_loop x0 l i hi hl (hp _ (List.getElem_mem hi)) l[i].size k 0 (by omega) (by rw [← h1]; omega)
    simp only [spec_l4Host.l0]
    rw [if_pos (by omega), show (0 : Int) = ((0 : Nat) : Int) from rfl, hpl, ← h1, ih, List.all_cons, part_tail p]
    cases emp p <;> cases tailOk p 0 p.size <;> simp
def hostB (s : ByteArray) : Bool := (impl_hostOk.parts (s.size + 1) s).all impl_hostOk.partB && decide (s.size ≤ 20)
theorem cuts_need (c : UInt8) : ∀ (m f : Nat) (s : ByteArray), need (cuts c m f s) ≤ 2 * s.size + 3
  | 0, _, s => by simp only [cuts, need]; omega
  | _ + 1, 0, s => by simp only [cuts, need]; omega
  | m + 1, f + 1, s => by
    simp only [cuts]
    by_cases h : ix s c < 0
    · rw [if_pos h]; simp only [need]; omega
    · rw [if_neg h]
      have hx := ix_size s c
      have ih := cuts_need c m f (s.extract (ix s c + 1).toNat s.size)
      simp only [need]
      rw [ByteArray.size_extract] at ih ⊢
      omega
theorem cuts_small (c : UInt8) : ∀ (m f : Nat) (s : ByteArray), ∀ p ∈ cuts c m f s, p.size ≤ s.size
  | 0, _, s, p, h => by simp only [cuts, List.mem_singleton] at h; rw [h]; exact Nat.le_refl _
  | _ + 1, 0, s, p, h => by simp only [cuts, List.mem_singleton] at h; rw [h]; exact Nat.le_refl _
  | m + 1, f + 1, s, p, h => by
    simp only [cuts] at h
    by_cases hx : ix s c < 0
    · rw [if_pos hx, List.mem_singleton] at h; rw [h]; exact Nat.le_refl _
    · rw [if_neg hx] at h
      rcases List.mem_cons.1 h with rfl | h
      · rw [ByteArray.size_extract]; omega
      · have := cuts_small c m f _ p h
        rw [ByteArray.size_extract] at this
        omega
theorem need_len : ∀ l : List ByteArray, 2 * l.length ≤ need l
  | [] => by simp [need]
  | p :: t => by have := need_len t; simp only [need, List.length_cons]; omega
theorem spec_host (s : ByteArray) (hs : s.size ≤ 1048576) (k : Nat) (hk : 2 * s.size + 3 ≤ k) : spec_l4Host.f k s = some (hostB s) := by
  have hn := cuts_need 46 s.size (s.size + 1) s
  have hc := spec_cut s hs 46 s.size k (by omega)
  unfold spec_l4Host.f
  rw [show (46 : Int) = ((46 : UInt8).toNat : Int) from rfl, hc, Option.bind_some]
  have hl := need_len (cuts 46 s.size (s.size + 1) s)
  rw [show (0 : Int) = ((0 : Nat) : Int) from rfl, host_loop s (cuts 46 s.size (s.size + 1) s) (by omega) (fun p hp => Nat.le_trans (cuts_small 46 _ _ _ p hp) hs) _ 0 k rfl (by rw [List.drop_zero]; omega), List.drop_zero, cuts_parts]
  rfl
theorem impl_host (s : ByteArray) (hs : s.size ≤ 1048576) : impl_hostOk.f s = some (hostB s) := by
  unfold impl_hostOk.f
  rw [if_pos hs]
  rfl
end Go.Proofs.YtgjecacalpaacaaDoor.Jid
set_option linter.unusedVariables false
set_option linter.unusedSimpArgs false
namespace Go.Proofs.YtgjecacalpaacaaDoor.Jid
open Go.RowKit Go.Proofs.YtgjecacalpaacaaDoor.PAll Go.Proofs.YtgjecacalpaacaaDoorW.PrintWords Go.Proofs.YtgjecacalpaacaaDoorW.PrintLast Go.Proofs.YtgjecacalpaacaaDoorW.PrintMore Go.Proofs.YtgjecacalpaacaaDoorW.XWords
open Go.Proofs.YtgjecacalpaacaaDoor.Text Go.Proofs.YtgjecacalpaacaaDoor.Words
abbrev E0 : ByteArray := ⟨#[]⟩
theorem emp0 : emp E0 = true := by unfold emp; rw [toL0]; rfl
def jidB (u h n : ByteArray) : Bool := (emp u || userB u) && (hostB h && (emp n || nickB n))
abbrev Sz (s : ByteArray) : Prop := s.size ≤ 1048576
theorem impl_jid (u h n : ByteArray) (hu : Sz u) (hh : Sz h) (hn : Sz n) (k : Nat) (hk : 1048576 < k) : impl_JidOk.f k u h n = some (jidB u h n) := by
  unfold impl_JidOk.f jidB
  simp only [toLn]
  rw [impl_host h hh, impl_user u (by omega), impl_nick n (by omega) k (by omega)]
  simp only [Option.bind_some]
  cases emp u <;> cases userB u <;> cases hostB h <;> cases emp n <;> rfl
theorem spec_jid (u h n : ByteArray) (hu : Sz u) (hh : Sz h) (hn : Sz n) (k : Nat) (hk : 2097200 < k) : spec_l4Ok.f k u h n = some (jidB u h n) := by
  unfold spec_l4Ok.f jidB
  simp only [toLn]
  rw [spec_host h hh k (by omega), spec_user u (by omega) k (by omega), spec_nick n (by omega) k (by omega)]
  simp only [Option.bind_some]
  cases emp u <;> cases userB u <;> cases hostB h <;> cases emp n <;> rfl
def putT (u h n : ByteArray) : ByteArray := if emp u = true then (if emp n = true then h else h ++ (⟨#[47]⟩ ++ n)) else (if emp n = true then (u ++ ⟨#[64]⟩) ++ h else ((u ++ ⟨#[64]⟩) ++ h) ++ (⟨#[47]⟩ ++ n))
def putB (u h n : ByteArray) : ByteArray := if jidB u h n = true then putT u h n else E0
theorem one47 : (⟨#[47]⟩ : ByteArray).size = 1 := rfl
theorem one64 : (⟨#[64]⟩ : ByteArray).size = 1 := rfl
theorem impl_put (u h n : ByteArray) (hu : Sz u) (hh : Sz h) (hn : Sz n) (k : Nat) (hk : 1048576 < k) : impl_JidPut.f k u h n = some (putB u h n) := by
  unfold impl_JidPut.f putB putT
  simp only [toLn, ByteArray.size_append, one47, one64]
  rw [impl_jid u h n hu hh hn k hk, Option.bind_some]
  simp only [eq_true (show 1 + n.size ≤ 9223372036854775807 by omega), eq_true (show h.size + (1 + n.size) ≤ 9223372036854775807 by omega), eq_true (show u.size + 1 ≤ 9223372036854775807 by omega), eq_true (show u.size + 1 + h.size ≤ 9223372036854775807 by omega), eq_true (show u.size + 1 + h.size + (1 + n.size) ≤ 9223372036854775807 by omega), if_true]
  cases emp u <;> cases emp n <;> cases jidB u h n <;> rfl
theorem spec_putT (u h n : ByteArray) (hu : Sz u) (hh : Sz h) (hn : Sz n) : spec_l4Put.f u h n = some (putT u h n) := by
  unfold spec_l4Put.f putT
  simp only [toLn, ByteArray.size_append, one47, one64]
  simp only [eq_true (show h.size + 1 ≤ 9223372036854775807 by omega), eq_true (show h.size + 1 + n.size ≤ 9223372036854775807 by omega), eq_true (show u.size + 1 ≤ 9223372036854775807 by omega), eq_true (show u.size + 1 + h.size ≤ 9223372036854775807 by omega), eq_true (show u.size + 1 + h.size + 1 ≤ 9223372036854775807 by omega), eq_true (show u.size + 1 + h.size + 1 + n.size ≤ 9223372036854775807 by omega), if_true]
  cases emp u <;> cases emp n <;> simp [ByteArray.append_assoc]
theorem spec_put (u h n : ByteArray) (hu : Sz u) (hh : Sz h) (hn : Sz n) (k : Nat) (hk : 2097200 < k) : spec_JidPut.f k u h n = some (putB u h n) := by
  unfold spec_JidPut.f putB
  rw [spec_jid u h n hu hh hn k hk, Option.bind_some, spec_putT u h n hu hh hn]
  cases jidB u h n <;> rfl
def low (x : ByteArray) : ByteArray := strOfNums ((bytesOf x).map impl_lower.lo)
def lo8 (b : UInt8) : UInt8 := if 65 ≤ b.toNat ∧ b.toNat ≤ 90 then b + 32 else b
theorem lo_lo8 (b : UInt8) : (impl_lower.lo (b.toNat : Int)).toNat.toUInt8 = lo8 b := by
  unfold impl_lower.lo lo8
  by_cases h : 65 ≤ b.toNat ∧ b.toNat ≤ 90
  · rw [if_pos h, if_pos (by omega)]
    apply UInt8.toNat_inj.mp
    rw [show ((b.toNat : Int) + 32).toNat = b.toNat + 32 by omega, UInt8.toNat_add]
    simp
  · rw [if_neg h, if_neg (by omega), Int.toNat_natCast]
    simp
theorem low_data (x : ByteArray) : (low x).data.toList = x.data.toList.map lo8 := by
  unfold low strOfNums bytesOf
  simp only [List.map_map]
  refine (List.map_congr_left (fun b _ => ?_) : _)
  exact lo_lo8 b
theorem eq_of_list (x y : ByteArray) (h : x.data.toList = y.data.toList) : x = y := ByteArray.ext (Array.toList_inj.mp h)
theorem low_size (x : ByteArray) : (low x).size = x.size := by
  have h := congrArg List.length (low_data x)
  rw [List.length_map, data_length, data_length] at h
  exact h
theorem low_extract (x : ByteArray) (a b : Nat) : low (x.extract a b) = (low x).extract a b := by
  apply eq_of_list
  rw [low_data, ByteArray.data_extract, ByteArray.data_extract, Array.toList_extract, Array.toList_extract, low_data]
  simp [List.extract_eq_take_drop, List.map_take, List.map_drop]
theorem ix_map : ∀ l : List UInt8, Lib.indexByte (l.map lo8) 64 = Lib.indexByte l 64
  | [] => rfl
  | b :: t => by
    have hb : (lo8 b == 64) = (b == 64) := by
      unfold lo8
      by_cases h : 65 ≤ b.toNat ∧ b.toNat ≤ 90
      · rw [if_pos h, Bool.eq_iff_iff, beq_iff_eq, beq_iff_eq]
        constructor
        · intro e
          have := congrArg UInt8.toNat e
          rw [UInt8.toNat_add] at this
          simp at this
          omega
        · intro e
          rw [e] at h
          exact absurd h (by decide)
      · rw [if_neg h]
    simp only [List.map_cons, Lib.indexByte, hb, ix_map t]
theorem ix_low (x : ByteArray) : ix (low x) 64 = ix x 64 := by unfold ix; rw [low_data, ix_map]
theorem impl_low (x : ByteArray) (hx : Sz x) : impl_lower.f x = some (low x) := by
  unfold impl_lower.f
  rw [if_pos (by omega)]
  rfl
theorem fold_loop (x : ByteArray) (hx : Sz x) (d : Nat) : ∀ (k j : Nat), j + d = x.size → d < k →
    spec_l4Fold.l0 k x (((bytesOf x).map impl_lower.lo).take j) (j : Int) = some (low x) := by
  induction d with
  | zero =>
    intro k j hj hk
    obtain ⟨k, rfl⟩ : ∃ m, k = m + 1 := ⟨k - 1, by omega⟩
    simp only [spec_l4Fold.l0]
    rw [if_neg (by omega), List.take_of_length_le (by rw [List.length_map, bytesOf_length]; omega)]
    rfl
  | succ d ih =>
    intro k j hj hk
    obtain ⟨k, rfl⟩ : ∃ m, k = m + 1 := ⟨k - 1, by omega⟩
    have hI := ih k (j + 1) (by omega) (by omega)
    have hw := Aside0.mk (wrap_nx x hx j (by omega))
    have hlb : j < (bytesOf x).length := by rw [bytesOf_length]; omega
    have hb : (bytesOf x)[j] = bt x (j : Int) := by
      rw [← rd_bytesOf]
      unfold rd
      rw [Int.toNat_natCast, List.getD_eq_getElem?_getD, List.getElem?_eq_getElem hlb, Option.getD_some]
    have ht : ((bytesOf x).map impl_lower.lo).take (j + 1) = ((bytesOf x).map impl_lower.lo).take j ++ [impl_lower.lo (bt x (j : Int))] := by
      rw [List.take_succ_eq_append_getElem (by rw [List.length_map]; exact hlb), List.getElem_map, hb]
    have hl : (((bytesOf x).map impl_lower.lo).take j).length < 140737488355328 := by
      rw [List.length_take, List.length_map, bytesOf_length]; omega
    rw [ht] at hI
    simp only [spec_l4Fold.l0]
    rw [if_pos (by omega), if_pos (by omega), if_pos hl, hw.out]
    have hr := bt_range x (j : Int)
    unfold impl_lower.lo at hI
    by_cases h1 : bt x (j : Int) ≥ 65
    · rw [if_pos h1]
      by_cases h2 : bt x (j : Int) ≤ 90
      · rw [if_pos h2, show (bt x (j : Int) + 32) % 256 = bt x (j : Int) + 32 by omega]
        rw [if_pos (show 65 ≤ bt x (j : Int) ∧ bt x (j : Int) ≤ 90 by omega)] at hI
        exact hI
      · rw [if_neg h2, if_pos hl]
        rw [if_neg (show ¬ (65 ≤ bt x (j : Int) ∧ bt x (j : Int) ≤ 90) by omega)] at hI
        exact hI
    · rw [if_neg h1, if_pos hl]
      rw [if_neg (show ¬ (65 ≤ bt x (j : Int) ∧ bt x (j : Int) ≤ 90) by omega)] at hI
      exact hI
theorem spec_fold (x : ByteArray) (hx : Sz x) (k : Nat) (hk : x.size < k) : spec_l4Fold.f k x = some (low x) := fold_loop x hx x.size k 0 (by omega) hk
theorem cut_f (s a1 : ByteArray) (c : UInt8) (hs : Sz s) (h1 : a1 = ⟨#[c]⟩) : strings_Cut.f s a1 = some (if ix s c < 0 then (s, E0, false) else (s.extract 0 (ix s c).toNat, s.extract (ix s c + 1).toNat s.size, true)) := by
  subst h1
  have hx := ix_size s c
  have hsz : ((⟨#[c]⟩ : ByteArray).size : Int) = 1 := rfl
  have hb : (bt (⟨#[c]⟩ : ByteArray) 0).toNat.toUInt8 = c := by
    show ((c.toNat : Int)).toNat.toUInt8 = c
    simp
  unfold strings_Cut.f stringslite_Cut.f stringslite_Index.f
  rw [if_pos (show (⟨#[c]⟩ : ByteArray).size = 1 from rfl), Option.bind_some, hb, hsz]
  have hix : Lib.indexByte s.data.toList c = ix s c := rfl
  rw [hix]
  have hw : wrap64 (ix s c + 1) = ix s c + 1 := by unfold wrap64; omega
  rw [hw]
  by_cases h : ix s c < 0
  · rw [if_neg (by omega), if_pos h]
    rfl
  · rw [if_pos (by omega), if_pos (by omega), if_pos (by omega), if_pos (by omega), if_pos (by omega), if_neg h]
    rfl
def bareOf (s : ByteArray) : ByteArray := if ix s 47 < 0 then s else s.extract 0 (ix s 47).toNat
def nickOf (s : ByteArray) : ByteArray := if ix s 47 < 0 then E0 else s.extract (ix s 47 + 1).toNat s.size
def userOf (b : ByteArray) : ByteArray := if ix b 64 < 0 then E0 else low (b.extract 0 (ix b 64).toNat)
def hostOf (b : ByteArray) : ByteArray := if ix b 64 < 0 then low b else low (b.extract (ix b 64 + 1).toNat b.size)
def getB (s : ByteArray) : Bool := decide (s.size ≤ 60) && (jidB (userOf (bareOf s)) (hostOf (bareOf s)) (nickOf s) && ((decide (ix (bareOf s) 64 < 0) || !(emp (userOf (bareOf s)))) && (decide (ix s 47 < 0) || !(emp (nickOf s)))))
abbrev J4 := ByteArray × ByteArray × ByteArray × Bool
def getR (s : ByteArray) : J4 := if getB s = true then (userOf (bareOf s), hostOf (bareOf s), nickOf s, true) else (E0, E0, E0, false)
theorem ext_sz (s : ByteArray) (hs : Sz s) (a b : Nat) : Sz (s.extract a b) := by unfold Sz; rw [ByteArray.size_extract]; unfold Sz at hs; omega
theorem low_sz (s : ByteArray) (hs : Sz s) : Sz (low s) := by unfold Sz; rw [low_size]; exact hs
theorem bare_sz (s : ByteArray) (hs : Sz s) : Sz (bareOf s) := by
  unfold bareOf
  split
  · exact hs
  · exact ext_sz s hs _ _
theorem nick_sz (s : ByteArray) (hs : Sz s) : Sz (nickOf s) := by
  unfold nickOf
  split
  · exact by decide
  · exact ext_sz s hs _ _
theorem user_sz (s : ByteArray) (hs : Sz s) : Sz (userOf s) := by
  unfold userOf
  split
  · exact by decide
  · exact low_sz _ (ext_sz s hs _ _)
theorem host_sz (s : ByteArray) (hs : Sz s) : Sz (hostOf s) := by
  unfold hostOf
  split
  · exact low_sz _ hs
  · exact low_sz _ (ext_sz s hs _ _)
theorem clone_f (x : ByteArray) (hx : Sz x) : strings_Clone.f x = some x := by
  unfold strings_Clone.f stringslite_Clone.f
  rw [if_pos (by omega), Option.bind_some]
theorem impl_get (s : ByteArray) (hs : Sz s) (k : Nat) (hk : 1048578 < k) : impl_JidGet.f k s = some (getR s) := by
  obtain ⟨k, rfl⟩ : ∃ m, k = m + 1 := ⟨k - 1, by omega⟩
  unfold impl_JidGet.f getR getB
  rw [cut_f s _ 47 hs rfl, Option.bind_some]
  have e1 : (if ix s 47 < 0 then (s, E0, false) else (s.extract 0 (ix s 47).toNat, s.extract (ix s 47 + 1).toNat s.size, true)) = (bareOf s, nickOf s, !(decide (ix s 47 < 0))) := by
    unfold bareOf nickOf
    by_cases h : ix s 47 < 0
    · simp only [if_pos h, decide_eq_true h]; rfl
    · simp only [if_neg h, decide_eq_false h]; rfl
  rw [e1]
  dsimp only
  have hb := bare_sz s hs
  have hn := nick_sz s hs
  generalize bareOf s = b at hb
  generalize nickOf s = n at hn
  generalize decide (ix s 47 < 0) = c1
  rw [impl_low b hb, Option.bind_some, cut_f (low b) _ 64 (low_sz b hb) rfl, Option.bind_some, ix_low, low_size, ← low_extract, ← low_extract]
  have hu := user_sz b hb
  have hh := host_sz b hb
  by_cases h : ix b 64 < 0
  · have e2 : hostOf b = low b := by unfold hostOf; rw [if_pos h]
    have e3 : userOf b = E0 := by unfold userOf; rw [if_pos h]
    rw [if_pos h, e2, e3]
    rw [e2] at hh
    dsimp only
    rw [if_neg (by decide)]
    simp only [impl_JidGet.j0, toLn]
    rw [clone_f n hn, Option.bind_some, impl_jid E0 (low b) n (by decide) hh hn k (by omega), Option.bind_some, decide_eq_true h]
    generalize jidB E0 (low b) n = j
    by_cases hz : s.size ≤ 60
    · rw [if_neg (show ¬ (s.size : Int) > 60 by omega), decide_eq_true hz]
      cases j <;> cases c1 <;> cases emp n <;> rfl
    · rw [if_pos (show (s.size : Int) > 60 by omega), decide_eq_false hz]
      rfl
  · have e2 : hostOf b = low (b.extract (ix b 64 + 1).toNat b.size) := by unfold hostOf; rw [if_neg h]
    have e3 : userOf b = low (b.extract 0 (ix b 64).toNat) := by unfold userOf; rw [if_neg h]
    rw [if_neg h]
    dsimp only
    rw [if_pos rfl, ← e2, ← e3]
    generalize userOf b = u at hu
    generalize hostOf b = ho at hh
    simp only [impl_JidGet.j0, toLn]
    rw [clone_f n hn, Option.bind_some, impl_jid u ho n hu hh hn k (by omega), Option.bind_some, decide_eq_false h]
    generalize jidB u ho n = j
    by_cases hz : s.size ≤ 60
    · rw [if_neg (show ¬ (s.size : Int) > 60 by omega), decide_eq_true hz]
      cases j <;> cases c1 <;> cases emp n <;> cases emp u <;> rfl
    · rw [if_pos (show (s.size : Int) > 60 by omega), decide_eq_false hz]
      rfl
theorem cuts_one (s : ByteArray) (c : UInt8) : cuts c 1 (s.size + 1) s = if ix s c < 0 then [s] else [s.extract 0 (ix s c).toNat, s.extract (ix s c + 1).toNat s.size] := by
  simp only [cuts]
theorem spec_get_j0 (l : List ByteArray) (b n : ByteArray) (hl : 0 < l.length) (h0 : rdOf ByteArray.empty l 0 = b) (hb : Sz b) (hn : Sz n) (k : Nat) (hk : 2097210 < k) :
    spec_l4Get.j0 k l E0 E0 n = some (if (jidB (userOf b) (hostOf b) n && (decide (ix b 64 < 0) || !(emp (userOf b)))) = true then (userOf b, hostOf b, n, true) else (E0, E0, E0, false)) := by
  obtain ⟨k, rfl⟩ : ∃ m, k = m + 1 := ⟨k - 1, by omega⟩
  have hu := user_sz b hb
  have hh := host_sz b hb
  have hc := spec_cut b hb 64 1 k (by unfold Sz at hb; omega)
  rw [cuts_one] at hc
  simp only [spec_l4Get.j0, toLn]
  rw [if_pos (by omega), h0, show (64 : Int) = ((64 : UInt8).toNat : Int) from rfl, show (1 : Int) = ((1 : Nat) : Int) from rfl, hc, Option.bind_some]
  by_cases h : ix b 64 < 0
  · have e2 : hostOf b = low b := by unfold hostOf; rw [if_pos h]
    have e3 : userOf b = E0 := by unfold userOf; rw [if_pos h]
    rw [if_pos h, decide_eq_true h, e2, e3]
    rw [e2] at hh
    have hw : wrap64 ((([b] : List ByteArray).length : Int) - ((1 : Nat) : Int)) = 0 := by
      show wrap64 ((1 : Int) - 1) = 0
      unfold wrap64
      omega
    rw [hw, if_pos (by decide), if_pos (by simp), show rdOf ByteArray.empty [b] 0 = b from rfl, spec_fold b hb k (by unfold Sz at hb; omega), Option.bind_some, if_neg (by simp), spec_jid E0 (low b) n (by decide) hh hn k (by omega), Option.bind_some]
    cases jidB E0 (low b) n <;> rfl
  · have e2 : hostOf b = low (b.extract (ix b 64 + 1).toNat b.size) := by unfold hostOf; rw [if_neg h]
    have e3 : userOf b = low (b.extract 0 (ix b 64).toNat) := by unfold userOf; rw [if_neg h]
    rw [if_neg h, decide_eq_false h]
    generalize hA : b.extract 0 (ix b 64).toNat = A at e3
    generalize hB : b.extract (ix b 64 + 1).toNat b.size = B at e2
    have sA : Sz A := by rw [← hA]; exact ext_sz b hb _ _
    have sB : Sz B := by rw [← hB]; exact ext_sz b hb _ _
    have hw : wrap64 ((([A, B] : List ByteArray).length : Int) - ((1 : Nat) : Int)) = 1 := by
      show wrap64 ((2 : Int) - 1) = 1
      unfold wrap64
      omega
    rw [hw, if_pos (by decide), if_pos (by simp), show rdOf ByteArray.empty [A, B] 1 = B from rfl, spec_fold B sB k (by unfold Sz at sB; omega), Option.bind_some, if_pos (by rfl), if_pos (by simp), show rdOf ByteArray.empty [A, B] 0 = A from rfl, spec_fold A sA k (by unfold Sz at sA; omega), Option.bind_some, ← e2, ← e3, spec_jid (userOf b) (hostOf b) n hu hh hn k (by omega), Option.bind_some]
    generalize jidB (userOf b) (hostOf b) n = j
    cases emp (userOf b) <;> cases j <;> rfl
theorem spec_get (s : ByteArray) (hs : Sz s) (k : Nat) (hk : 2097220 < k) : spec_JidGet.f k s = some (getR s) := by
  unfold spec_JidGet.f getR getB
  by_cases hz : s.size ≤ 60
  case neg =>
    rw [if_pos (by omega), decide_eq_false hz]
    rfl
  rw [if_neg (by omega), decide_eq_true hz, Bool.true_and]
  unfold spec_l4Get.f
  have hc := spec_cut s hs 47 1 k (by unfold Sz at hs; omega)
  rw [cuts_one] at hc
  simp only [toLn]
  rw [show (47 : Int) = ((47 : UInt8).toNat : Int) from rfl, show (1 : Int) = ((1 : Nat) : Int) from rfl, hc, Option.bind_some]
  have hb := bare_sz s hs
  have hn := nick_sz s hs
  by_cases h : ix s 47 < 0
  · have e2 : bareOf s = s := by unfold bareOf; rw [if_pos h]
    have e3 : nickOf s = E0 := by unfold nickOf; rw [if_pos h]
    rw [if_pos h, decide_eq_true h, e2, e3, if_neg (by simp), spec_get_j0 [s] s E0 (by simp) rfl hs (by decide) k (by omega), Option.bind_some]
    generalize jidB (userOf s) (hostOf s) E0 = j
    generalize (decide (ix s 64 < 0) || !(emp (userOf s))) = q
    cases j <;> cases q <;> rfl
  · rw [if_neg h, decide_eq_false h]
    have e2 : bareOf s = s.extract 0 (ix s 47).toNat := by unfold bareOf; rw [if_neg h]
    have e3 : nickOf s = s.extract (ix s 47 + 1).toNat s.size := by unfold nickOf; rw [if_neg h]
    rw [← e2, ← e3]
    generalize bareOf s = b at hb
    generalize nickOf s = n at hn
    rw [if_pos (by rfl), if_pos (by simp), show rdOf ByteArray.empty [b, n] ((1 : Nat) : Int) = n from rfl, spec_get_j0 [b, n] b n (by simp) rfl hb hn k (by omega)]
    generalize jidB (userOf b) (hostOf b) n = j
    generalize (decide (ix b 64 < 0) || !(emp (userOf b))) = q
    cases emp n <;> cases j <;> cases q <;> rfl
end Go.Proofs.YtgjecacalpaacaaDoor.Jid
set_option linter.unusedVariables false
set_option linter.unusedSimpArgs false
namespace Go.Proofs.YtgjecacalpaacaaDoor.Jid
open Go.RowKit Go.Proofs.YtgjecacalpaacaaDoor.PAll Go.Proofs.YtgjecacalpaacaaDoorW.PrintWords Go.Proofs.YtgjecacalpaacaaDoorW.PrintLast Go.Proofs.YtgjecacalpaacaaDoorW.PrintMore Go.Proofs.YtgjecacalpaacaaDoorW.XWords
open Go.Proofs.YtgjecacalpaacaaDoor.Text Go.Proofs.YtgjecacalpaacaaDoor.Words
def Clean (x : ByteArray) (c : UInt8) : Prop := ∀ b ∈ x.data.toList, b ≠ c
theorem ix_clean (x : ByteArray) (c : UInt8) (h : Clean x c) : ix x c = -1 := by
  unfold ix
  refine ix_no c _ (fun j e => ?_)
  exact h c (List.mem_of_getElem? e) rfl
theorem ix_app (x y : ByteArray) (c : UInt8) (h : Clean x c) : ix (x ++ (⟨#[c]⟩ ++ y)) c = (x.size : Int) := by
  unfold ix
  have e : (x ++ ((⟨#[c]⟩ : ByteArray) ++ y)).data.toList = x.data.toList ++ c :: y.data.toList := by
    rw [ByteArray.data_append, ByteArray.data_append, Array.toList_append, Array.toList_append]
    rfl
  rw [e, ix_at c _ x.size ?_ ?_]
  · intro j hj e
    rw [List.getElem?_append_left (by rw [data_length]; exact hj)] at e
    exact h c (List.mem_of_getElem? e) rfl
  · rw [List.getElem?_append_right (by rw [data_length]; exact Nat.le_refl _), data_length, Nat.sub_self]
    rfl
theorem ix_get (c : UInt8) : ∀ l : List UInt8, 0 ≤ Lib.indexByte l c → l[(Lib.indexByte l c).toNat]? = some c
  | [], h => by simp [Lib.indexByte] at h
  | b :: t, h => by
    have ih := ix_get c t
    simp only [Lib.indexByte] at h ⊢
    by_cases hb : (b == c) = true
    · rw [if_pos hb]
      simpa using hb
    · rw [if_neg hb] at h ⊢
      by_cases h1 : (Lib.indexByte t c == -1) = true
      · rw [if_pos h1] at h
        omega
      · rw [if_neg h1] at h ⊢
        have hg := (ix_lt c t).2
        have h2 : Lib.indexByte t c ≠ -1 := by simpa using h1
        have h3 : 0 ≤ Lib.indexByte t c := by omega
        rw [show (Lib.indexByte t c + 1).toNat = (Lib.indexByte t c).toNat + 1 by omega, List.getElem?_cons_succ]
        exact ih h3
theorem parts_mem : ∀ (f : Nat) (s : ByteArray), ∀ b ∈ s.data.toList, b = 46 ∨ ∃ p ∈ impl_hostOk.parts f s, b ∈ p.data.toList
  | 0, s, b, hb => .inr ⟨s, by simp [impl_hostOk.parts], hb⟩
  | f + 1, s, b, hb => by
    simp only [impl_hostOk.parts]
    have hx := ix_size s 46
    have he : impl_hostOk.idx s = ix s 46 := rfl
    rw [he]
    by_cases h : ix s 46 < 0
    · rw [if_pos h]
      exact .inr ⟨s, by simp, hb⟩
    · rw [if_neg h]
      obtain ⟨j, hj⟩ := List.mem_iff_getElem?.1 hb
      have hjs : j < s.size := by
        rw [← data_length]
        exact (List.getElem?_eq_some_iff.1 hj).1
      rcases Nat.lt_trichotomy j (ix s 46).toNat with h1 | h1 | h1
      · refine .inr ⟨s.extract 0 (ix s 46).toNat, by simp, List.mem_iff_getElem?.2 ⟨j, ?_⟩⟩
        rw [ByteArray.data_extract, Array.getElem?_toList, Array.getElem?_extract, if_pos (by have : s.data.size = s.size := rfl; omega), Nat.zero_add, ← Array.getElem?_toList]
        exact hj
      · have := ix_get 46 s.data.toList (by unfold ix at h; omega)
        rw [h1] at hj
        unfold ix at hj
        rw [this] at hj
        exact .inl (Option.some.inj hj).symm
      · have hm : b ∈ (s.extract (ix s 46 + 1).toNat s.size).data.toList := by
          refine List.mem_iff_getElem?.2 ⟨j - (ix s 46 + 1).toNat, ?_⟩
          rw [rest_list, show (ix s 46 + 1).toNat + (j - (ix s 46 + 1).toNat) = j by omega]
          exact hj
        rcases parts_mem f _ b hm with h2 | ⟨p, hp, h2⟩
        · exact .inl h2
        · exact .inr ⟨p, List.mem_cons_of_mem _ hp, h2⟩
def Plain (x : ByteArray) : Prop := ∀ b ∈ x.data.toList, (97 ≤ b.toNat ∧ b.toNat ≤ 122) ∨ (48 ≤ b.toNat ∧ b.toNat ≤ 57) ∨ b.toNat = 45 ∨ b.toNat = 46 ∨ b.toNat = 95
theorem plain_clean (x : ByteArray) (h : Plain x) (c : UInt8) (hc : c = 47 ∨ c = 64) : Clean x c := fun b hb e => by
  have := h b hb
  rw [e] at this
  rcases hc with rfl | rfl <;> exact absurd this (by decide)
theorem plain_low (x : ByteArray) (h : Plain x) : low x = x := by
  apply eq_of_list
  rw [low_data]
  refine (List.map_congr_left (fun b hb => ?_)).trans (List.map_id _)
  have := h b hb
  unfold lo8
  rw [if_neg (by omega)]
  rfl
theorem all_mem (p : Int → Bool) (x : ByteArray) (h : (bytesOf x).all p = true) : ∀ b ∈ x.data.toList, p (b.toNat : Int) = true := fun b hb =>
  List.all_eq_true.1 h _ (List.mem_map.2 ⟨b, hb, rfl⟩)
theorem user_plain (u : ByteArray) (h : userB u = true) : Plain u := fun b hb => by
  unfold userB at h
  rw [Bool.and_eq_true] at h
  have := all_mem _ u h.1 b hb
  unfold impl_userOk.inB at this
  simp at this
  omega
theorem host_plain (h : ByteArray) (hh : hostB h = true) : Plain h := fun b hb => by
  unfold hostB at hh
  rw [Bool.and_eq_true] at hh
  rcases parts_mem (h.size + 1) h b hb with rfl | ⟨p, hp, hm⟩
  · exact .inr (.inr (.inr (.inl rfl)))
  · have hpb := List.all_eq_true.1 hh.1 p hp
    unfold impl_hostOk.partB at hpb
    simp only [Bool.and_eq_true] at hpb
    have := all_mem _ p hpb.2.2.2 b hm
    unfold impl_hostOk.inB impl_hostOk.smB at this
    simp at this
    omega
theorem emp_eq (u : ByteArray) (h : emp u = true) : u = E0 := by
  rw [emp_size] at h
  have := of_decide_eq_true h
  apply eq_of_list
  exact List.eq_nil_of_length_eq_zero (by rw [data_length]; exact this)
def bareT (u h : ByteArray) : ByteArray := if emp u = true then h else (u ++ ⟨#[64]⟩) ++ h
theorem putT_bare (u h n : ByteArray) : putT u h n = if emp n = true then bareT u h else bareT u h ++ (⟨#[47]⟩ ++ n) := by
  unfold putT bareT
  cases emp u <;> cases emp n <;> rfl
theorem ext_left (x y : ByteArray) : (x ++ y).extract 0 x.size = x := by
  apply eq_of_list
  rw [ByteArray.data_extract, Array.toList_extract, ByteArray.data_append, Array.toList_append, List.extract_eq_take_drop, List.drop_zero, Nat.sub_zero, ← data_length, List.take_left]
theorem ext_right (x z y : ByteArray) (n : Nat) (hz : z.size = n) : (x ++ (z ++ y)).extract (x.size + n) (x ++ (z ++ y)).size = y := by
  apply eq_of_list
  rw [ByteArray.data_extract, Array.toList_extract, List.extract_eq_take_drop, ByteArray.data_append, ByteArray.data_append, Array.toList_append, Array.toList_append, ← List.append_assoc, List.drop_left' (by rw [List.length_append, data_length, data_length, hz]), List.take_of_length_le]
  rw [data_length, ByteArray.size_append, ByteArray.size_append]
  omega
theorem bare_clean (u h : ByteArray) (hu : emp u = true ∨ Plain u) (hh : Plain h) : Clean (bareT u h) 47 := by
  unfold bareT
  by_cases e : emp u = true
  · rw [if_pos e]
    exact plain_clean h hh 47 (.inl rfl)
  · rw [if_neg e]
    intro b hb
    rw [ByteArray.data_append, ByteArray.data_append, Array.toList_append, Array.toList_append] at hb
    rcases List.mem_append.1 hb with hb | hb
    · rcases List.mem_append.1 hb with hb | hb
      · exact plain_clean u (hu.resolve_left e) 47 (.inl rfl) b hb
      · have : b = 64 := by simpa using hb
        rw [this]; decide
    · exact plain_clean h hh 47 (.inl rfl) b hb
theorem back (u h n : ByteArray) (hj : jidB u h n = true) : getR (putT u h n) = (u, h, n, true) := by
  have hj0 := hj
  unfold jidB at hj
  simp only [Bool.and_eq_true, Bool.or_eq_true] at hj
  obtain ⟨hu, hh, hn⟩ := hj
  have pu : emp u = true ∨ Plain u := hu.imp id (user_plain u)
  have ph := host_plain h hh
  have hc := bare_clean u h pu ph
  have su : u.size ≤ 8 := by
    rcases hu with hu | hu
    · rw [emp_size] at hu
      have := of_decide_eq_true hu
      omega
    · unfold userB at hu
      simp at hu
      exact hu.2.2
  have sh : h.size ≤ 20 := by
    unfold hostB at hh
    rw [Bool.and_eq_true] at hh
    exact of_decide_eq_true hh.2
  have sn : n.size ≤ 10 := by
    rcases hn with hn | hn
    · rw [emp_size] at hn
      have := of_decide_eq_true hn
      omega
    · unfold nickB at hn
      simp only [Bool.and_eq_true] at hn
      exact of_decide_eq_true hn.2.1.2
  have sb : (bareT u h).size ≤ 29 := by
    unfold bareT
    split
    · omega
    · rw [ByteArray.size_append, ByteArray.size_append, one64]; omega
  have hB : bareOf (putT u h n) = bareT u h := by
    rw [putT_bare]
    unfold bareOf
    by_cases e : emp n = true
    · rw [if_pos e, ix_clean _ _ hc, if_pos (by decide)]
    · rw [if_neg e, ix_app _ _ _ hc, if_neg (by omega), Int.toNat_natCast, ext_left]
  have hN : nickOf (putT u h n) = n ∧ (decide (ix (putT u h n) 47 < 0) || !(emp (nickOf (putT u h n)))) = true := by
    rw [putT_bare]
    unfold nickOf
    by_cases e : emp n = true
    · rw [if_pos e, ix_clean _ _ hc, if_pos (by decide)]
      exact ⟨(emp_eq n e).symm, rfl⟩
    · rw [if_neg e, ix_app _ _ _ hc, if_neg (by omega), show ((bareT u h).size + 1 : Int).toNat = (bareT u h).size + 1 by omega, ext_right _ _ _ 1 rfl]
      exact ⟨rfl, by rw [show emp n = false by simpa using e]; simp⟩
  have hU : userOf (bareT u h) = u ∧ hostOf (bareT u h) = h ∧ (decide (ix (bareT u h) 64 < 0) || !(emp u)) = true := by
    unfold userOf hostOf bareT
    by_cases e : emp u = true
    · rw [if_pos e, ix_clean _ _ (plain_clean h ph 64 (.inr rfl)), if_pos (by decide), if_pos (by decide)]
      exact ⟨(emp_eq u e).symm, plain_low h ph, rfl⟩
    · have hp := pu.resolve_left e
      rw [if_neg e, ByteArray.append_assoc, ix_app _ _ _ (plain_clean u hp 64 (.inr rfl)), if_neg (by omega), if_neg (by omega), Int.toNat_natCast, ext_left, show (u.size + 1 : Int).toNat = u.size + 1 by omega, ext_right _ _ _ 1 rfl]
      exact ⟨plain_low u hp, plain_low h ph, by rw [show emp u = false by simpa using e]; simp⟩
  have hS : decide ((putT u h n).size ≤ 60) = true := by
    rw [putT_bare]
    apply decide_eq_true
    split
    · omega
    · rw [ByteArray.size_append, ByteArray.size_append, one47]; omega
  have hG : getB (putT u h n) = true := by
    unfold getB
    rw [hB, hU.1, hU.2.1, hN.2, hU.2.2, hN.1, hj0, hS]
    rfl
  unfold getR
  rw [if_pos hG, hB, hU.1, hU.2.1, hN.1]
theorem size_back (s : ByteArray) (hg : getB s = true) : (putT (userOf (bareOf s)) (hostOf (bareOf s)) (nickOf s)).size = s.size := by
  unfold getB at hg
  simp only [Bool.and_eq_true, Bool.or_eq_true, decide_eq_true_iff, Bool.not_eq_true'] at hg
  obtain ⟨_, _, hu, hn⟩ := hg
  have hx := ix_size s 47
  have hb := ix_size (bareOf s) 64
  have h1 : (bareT (userOf (bareOf s)) (hostOf (bareOf s))).size = (bareOf s).size := by
    unfold bareT
    by_cases c : ix (bareOf s) 64 < 0
    · have e : emp (userOf (bareOf s)) = true := by unfold userOf; rw [if_pos c]; exact emp0
      rw [if_pos e]
      unfold hostOf
      rw [if_pos c, low_size]
    · have e := hu.resolve_left c
      rw [e, if_neg (by decide)]
      unfold userOf hostOf
      rw [if_neg c, if_neg c, ByteArray.size_append, ByteArray.size_append, low_size, low_size, one64, ByteArray.size_extract, ByteArray.size_extract]
      omega
  rw [putT_bare]
  by_cases c : ix s 47 < 0
  · have e : emp (nickOf s) = true := by unfold nickOf; rw [if_pos c]; exact emp0
    rw [if_pos e, h1]
    unfold bareOf
    rw [if_pos c]
  · have e := hn.resolve_left c
    rw [e, if_neg (by decide), ByteArray.size_append, ByteArray.size_append, h1, one47]
    unfold bareOf nickOf
    rw [if_neg c, if_neg c, ByteArray.size_extract, ByteArray.size_extract]
    omega
end Go.Proofs.YtgjecacalpaacaaDoor.Jid
namespace Go.Proofs.YtgjecacalpaacaaDoor.Draw
open Go.RowKit Go.Proofs.YtgjecacalpaacaaDoor.PAll Go.Proofs.YtgjecacalpaacaaDoorW.PrintWords Go.Proofs.YtgjecacalpaacaaDoorW.PrintLast Go.Proofs.YtgjecacalpaacaaDoorW.PrintMore Go.Proofs.YtgjecacalpaacaaDoorW.XWords
theorem xor_nonneg (a b : Int) (h1 : 0 ≤ a) (h2 : a < 4611686018427387904) (h3 : 0 ≤ b) (h4 : b < 4611686018427387904) : 0 ≤ Go.bits .xor .i64 a b := by
  obtain ⟨A, rfl⟩ := Int.eq_ofNat_of_zero_le h1
  obtain ⟨B, rfl⟩ := Int.eq_ofNat_of_zero_le h3
  have hx : A ^^^ B < 2 ^ 62 := Nat.xor_lt_two_pow (by omega) (by omega)
  have e1 : (BitVec.ofInt 64 (A : Int)).toNat = A := by
    rw [BitVec.ofInt_natCast, BitVec.toNat_ofNat]; exact Nat.mod_eq_of_lt (by omega)
  have e2 : (BitVec.ofInt 64 (B : Int)).toNat = B := by
    rw [BitVec.ofInt_natCast, BitVec.toNat_ofNat]; exact Nat.mod_eq_of_lt (by omega)
  show 0 ≤ IntKind.i64.wrap ((BitVec.ofInt 64 (A : Int) ^^^ BitVec.ofInt 64 (B : Int)).toNat : Int)
  rw [BitVec.toNat_xor, e1, e2]
  generalize hq : A ^^^ B = q at hx
  unfold IntKind.wrap
  simp [IntKind.bits, IntKind.signed]
  omega
def CodeOk (l : List Int) : Prop := ∀ x ∈ l, 0 ≤ x ∧ x ≤ 255
theorem rd_code {l : List Int} (h : CodeOk l) (i : Int) : 0 ≤ rd l i ∧ rd l i ≤ 255 := by
  unfold rd
  by_cases hi : i.toNat < l.length
  · simp only [List.getD_eq_getElem?_getD, List.getElem?_eq_getElem hi, Option.getD_some]
    exact h _ (List.getElem_mem hi)
  · rw [List.getD_eq_getElem?_getD, List.getElem?_eq_none (Nat.le_of_not_lt hi)]
    exact ⟨Int.le_refl 0, by decide⟩
theorem code_take {l : List Int} (h : CodeOk l) (n : Nat) : CodeOk (l.take n) := fun x hx => h x (List.mem_of_mem_take hx)
theorem wrap_in (x : Int) (h1 : -9223372036854775808 ≤ x) (h2 : x ≤ 9223372036854775807) : wrap64 x = x := by unfold wrap64; omega
theorem tmod_in (x n : Int) (h : 0 ≤ x) (hn : 1 ≤ n) : 0 ≤ Int.tmod x n ∧ Int.tmod x n < n := by
  rw [Int.tmod_eq_emod_of_nonneg h]
  exact ⟨Int.emod_nonneg _ (by omega), Int.emod_lt_of_pos _ (by omega)⟩
theorem pick_ok (b : List Int) (hb : CodeOk b) (hl : b.length ≤ 140737488351232) (p n : Int) (h0 : 0 ≤ p) (h1 : p < 1000000000000) (hn : 1 ≤ n) :
    ∃ v, 0 ≤ v ∧ v < n ∧ ∀ k, 1 ≤ k → spec_l16Rd_pick.f k b p n = some (v, p + 1) := by
  have hw : wrap64 (p + 1) = p + 1 := wrap_in _ (by omega) (by omega)
  have hq : wrap64 (p + 1 - 1) = p := by rw [show p + 1 - 1 = p by omega]; exact wrap_in _ (by omega) (by omega)
  by_cases hz : b.length = 0
  · refine ⟨0, by omega, by omega, fun k hk => ?_⟩
    obtain ⟨k, rfl⟩ : ∃ m, k = m + 1 := ⟨k - 1, by omega⟩
    unfold spec_l16Rd_pick.f
    rw [if_neg (by omega), hw]
    simp [spec_l16Rd_pick.j0, hz]
  · have hz' : ((b.length : Int) == 0) = false := beq_eq_false_iff_ne.mpr (by omega)
    by_cases hlt : p < (b.length : Int)
    · have hr := rd_code hb p
      have hrw : wrap64 (rd b p) = rd b p := wrap_in _ (by omega) (by omega)
      obtain ⟨t0, t1⟩ := tmod_in (rd b p) n hr.1 hn
      refine ⟨Int.tmod (rd b p) n, t0, t1, fun k hk => ?_⟩
      obtain ⟨k, rfl⟩ : ∃ m, k = m + 1 := ⟨k - 1, by omega⟩
      unfold spec_l16Rd_pick.f
      rw [if_neg (by omega), hw]
      simp only [spec_l16Rd_pick.j0, hq]
      rw [if_neg (by rw [hz']; decide), if_pos hlt, if_pos h0, if_neg (by omega), hrw]
    · have hL : (1 : Int) ≤ (b.length : Int) := by omega
      obtain ⟨i0, i1⟩ := tmod_in p (b.length : Int) h0 hL
      have hm7 : wrap64 (p * 7) = p * 7 := wrap_in _ (by omega) (by omega)
      have hm73 : wrap64 (p * 7 + 3) = p * 7 + 3 := wrap_in _ (by omega) (by omega)
      obtain ⟨j0, j1⟩ := tmod_in (p * 7 + 3) (b.length : Int) (by omega) hL
      have hr1 := rd_code hb (Int.tmod p (b.length : Int))
      have hr2 := rd_code hb (Int.tmod (p * 7 + 3) (b.length : Int))
      generalize g1 : rd b (Int.tmod p (b.length : Int)) = x1 at hr1
      generalize g2 : rd b (Int.tmod (p * 7 + 3) (b.length : Int)) = x2 at hr2
      have hd : 0 ≤ Int.tdiv p (b.length : Int) ∧ Int.tdiv p (b.length : Int) ≤ p := by
        rw [Int.tdiv_eq_ediv_of_nonneg h0]
        exact ⟨Int.ediv_nonneg h0 (by omega), Int.ediv_le_self _ h0⟩
      generalize g3 : Int.tdiv p (b.length : Int) = y at hd
      have e1 : wrap64 x1 = x1 := wrap_in _ (by omega) (by omega)
      have e2 : wrap64 x2 = x2 := wrap_in _ (by omega) (by omega)
      have e3 : wrap64 (x1 * 131) = x1 * 131 := wrap_in _ (by omega) (by omega)
      have e4 : wrap64 (x2 * 1117) = x2 * 1117 := wrap_in _ (by omega) (by omega)
      have e5 : wrap64 (x1 * 131 + x2 * 1117) = x1 * 131 + x2 * 1117 := wrap_in _ (by omega) (by omega)
      have e6 : wrap64 (p * 29) = p * 29 := wrap_in _ (by omega) (by omega)
      have e7 : wrap64 (x1 * 131 + x2 * 1117 + p * 29) = x1 * 131 + x2 * 1117 + p * 29 := wrap_in _ (by omega) (by omega)
      have e8 : wrap64 y = y := wrap_in _ (by omega) (by omega)
      have e9 : wrap64 (y * 53) = y * 53 := wrap_in _ (by omega) (by omega)
      have e10 : wrap64 (x1 * 131 + x2 * 1117 + p * 29 + y * 53) = x1 * 131 + x2 * 1117 + p * 29 + y * 53 := wrap_in _ (by omega) (by omega)
      generalize hX : x1 * 131 + x2 * 1117 + p * 29 + y * 53 = X at e10
      have hX0 : 0 ≤ X ∧ X < 4611686018427387904 := by omega
      have hd2 : 0 ≤ Int.tdiv X 64 ∧ Int.tdiv X 64 ≤ X := by
        rw [Int.tdiv_eq_ediv_of_nonneg hX0.1]
        omega
      have e11 : wrap64 (Int.tdiv X 64) = Int.tdiv X 64 := wrap_in _ (by omega) (by omega)
      have hx := xor_nonneg X (Int.tdiv X 64) hX0.1 hX0.2 hd2.1 (by omega)
      obtain ⟨t0, t1⟩ := tmod_in _ n hx hn
      refine ⟨_, t0, t1, fun k hk => ?_⟩
      obtain ⟨k, rfl⟩ : ∃ m, k = m + 1 := ⟨k - 1, by omega⟩
      unfold spec_l16Rd_pick.f
      rw [if_neg (by omega), hw]
      simp only [spec_l16Rd_pick.j0, hq, hm7, hm73]
      rw [if_neg (by rw [hz']; decide), if_neg hlt, if_neg (by omega), if_pos i0, if_pos i1, if_pos j0, if_pos j1, if_neg (by omega)]
      rw [g1, g2, g3, e1, e2, e3, e4, e5, e6, e7, e8, e9, hX, e10, e11]
theorem of_ok (b : List Int) (hb : CodeOk b) (hl : b.length ≤ 140737488351232) (p : Int) (h0 : 0 ≤ p) (h1 : p < 1000000000000) (xs : List ByteArray) (hx : 1 ≤ xs.length) :
    ∃ x, x ∈ xs ∧ ∀ k, 1 ≤ k → spec_l16Rd_of.f k b p xs = some (x, p + 1) := by
  obtain ⟨v, v0, v1, hv⟩ := pick_ok b hb hl p (xs.length : Int) h0 h1 (by omega)
  refine ⟨rdOf ByteArray.empty xs v, ?_, fun k hk => ?_⟩
  · unfold rdOf
    rw [List.getD_eq_getElem?_getD, List.getElem?_eq_getElem (by omega)]
    exact List.getElem_mem _
  · unfold spec_l16Rd_of.f
    rw [hv k hk, Option.bind_some, if_pos v0, if_pos v1]
theorem open_ok (l : List Int) (hc : CodeOk l) : ∃ b, CodeOk b ∧ b.length ≤ 140737488351232 ∧ spec_l16Open.f l = some (b, 0) := by
  unfold spec_l16Open.f
  by_cases h : (l.length : Int) > 2000
  · rw [if_pos h, if_pos (by omega)]
    exact ⟨_, code_take hc _, by rw [List.length_take]; omega, rfl⟩
  · rw [if_neg h]
    exact ⟨l, hc, by omega, rfl⟩
theorem code_of {l : List Int} (h : ∀ x ∈ l, (Lit.int .u8 x).wf = true) : CodeOk l := fun x hx => by
  have := h x hx
  simp [Lit.wf, IntKind.min, IntKind.max, IntKind.bits, IntKind.signed] at this
  omega
end Go.Proofs.YtgjecacalpaacaaDoor.Draw
set_option linter.unusedVariables false
namespace Go.Proofs.YtgjecacalpaacaaDoor.Draw
open Go.RowKit Go.Proofs.YtgjecacalpaacaaDoor.PAll Go.Proofs.YtgjecacalpaacaaDoorW.PrintWords Go.Proofs.YtgjecacalpaacaaDoorW.PrintLast Go.Proofs.YtgjecacalpaacaaDoorW.PrintMore Go.Proofs.YtgjecacalpaacaaDoorW.XWords
open Go.Proofs.YtgjecacalpaacaaDoor.Jid
theorem of_small (b : List Int) (hb : CodeOk b) (hl : b.length ≤ 140737488351232) (p : Int) (h0 : 0 ≤ p) (h1 : p < 1000000000000) (xs : List ByteArray) (m : Nat) (hx : xs.all (fun x => decide (x.size ≤ m)) = true) (hn : 1 ≤ xs.length) :
    ∃ x : ByteArray, x.size ≤ m ∧ ∀ k, 1 ≤ k → spec_l16Rd_of.f k b p xs = some (x, p + 1) := by
  obtain ⟨x, hm, h⟩ := of_ok b hb hl p h0 h1 xs hn
  exact ⟨x, of_decide_eq_true (List.all_eq_true.1 hx x hm), h⟩
def US : List ByteArray := [(⟨#[]⟩ : ByteArray), (⟨#[97, 110, 110]⟩ : ByteArray), (⟨#[98, 111, 98]⟩ : ByteArray), (⟨#[100, 101, 110]⟩ : ByteArray), (⟨#[97, 46, 98, 45, 99, 95, 100]⟩ : ByteArray), (⟨#[65, 110, 110]⟩ : ByteArray), (⟨#[97, 98, 99, 100, 101, 102, 103, 104, 105]⟩ : ByteArray), (⟨#[195, 169]⟩ : ByteArray)]
def HS : List ByteArray := [(⟨#[114, 111, 111, 109, 115, 46, 108, 111, 99, 97, 108]⟩ : ByteArray), (⟨#[104]⟩ : ByteArray), (⟨#[97, 45, 98, 46, 99]⟩ : ByteArray), (⟨#[]⟩ : ByteArray), (⟨#[45, 97]⟩ : ByteArray), (⟨#[97, 46, 46, 98]⟩ : ByteArray), (⟨#[114, 111, 111, 109, 115, 46, 108, 111, 99, 97, 108]⟩ : ByteArray)]
def NS : List ByteArray := [(⟨#[]⟩ : ByteArray), (⟨#[]⟩ : ByteArray), (⟨#[66, 111]⟩ : ByteArray), (⟨#[97, 32, 98]⟩ : ByteArray), (⟨#[32, 120]⟩ : ByteArray), (⟨#[195, 169]⟩ : ByteArray), (⟨#[97, 47, 98]⟩ : ByteArray), (⟨#[97, 98, 99, 100, 101, 102, 103, 104, 105, 106, 107]⟩ : ByteArray), (⟨#[1]⟩ : ByteArray)]
set_option maxRecDepth 100000 in
theorem jid_ok (b : List Int) (hb : CodeOk b) (hl : b.length ≤ 140737488351232) (p : Int) (h0 : 0 ≤ p) (h1 : p < 100000000000) :
    ∃ u h n : ByteArray, u.size ≤ 20 ∧ h.size ≤ 20 ∧ n.size ≤ 20 ∧ ∀ k, 1 ≤ k → spec_l16Jid.f k b p = some (u, h, n, p + 3) := by
  obtain ⟨u, hu, d1⟩ := of_small b hb hl p h0 (by omega) US 20 (by decide) (by decide)
  obtain ⟨h, hh, d2⟩ := of_small b hb hl (p + 1) (by omega) (by omega) HS 20 (by decide) (by decide)
  obtain ⟨n, hn, d3⟩ := of_small b hb hl (p + 1 + 1) (by omega) (by omega) NS 20 (by decide) (by decide)
  refine ⟨u, h, n, hu, hh, hn, fun k hk => ?_⟩
  have e1 := d1 k hk
  have e2 := d2 k hk
  have e3 := d3 k hk
  unfold US at e1
  unfold HS at e2
  unfold NS at e3
  unfold spec_l16Jid.f
  rw [e1, Option.bind_some]
  dsimp only
  rw [e2, Option.bind_some]
  dsimp only
  rw [e3, Option.bind_some]
  dsimp only
  rw [show p + 1 + 1 + 1 = p + 3 by omega]
def B1 : List ByteArray := [(⟨#[60]⟩ : ByteArray), (⟨#[62]⟩ : ByteArray), (⟨#[38]⟩ : ByteArray), (⟨#[39]⟩ : ByteArray), (⟨#[47]⟩ : ByteArray), (⟨#[32]⟩ : ByteArray), (⟨#[120]⟩ : ByteArray), (⟨#[61]⟩ : ByteArray), (⟨#[1]⟩ : ByteArray), (⟨#[255]⟩ : ByteArray), (⟨#[124]⟩ : ByteArray), (⟨#[48]⟩ : ByteArray)]
def B2 : List ByteArray := [(⟨#[120]⟩ : ByteArray), (⟨#[32]⟩ : ByteArray), (⟨#[60]⟩ : ByteArray), (⟨#[47, 62]⟩ : ByteArray), (⟨#[59]⟩ : ByteArray)]
def B3 : List ByteArray := [(⟨#[60]⟩ : ByteArray), (⟨#[38]⟩ : ByteArray), (⟨#[39]⟩ : ByteArray), (⟨#[32]⟩ : ByteArray), (⟨#[60, 97, 47, 62]⟩ : ByteArray), (⟨#[195]⟩ : ByteArray), (⟨#[124]⟩ : ByteArray)]
set_option maxRecDepth 100000 in
theorem bent_ok (b : List Int) (hb : CodeOk b) (hl : b.length ≤ 140737488351232) (p : Int) (h0 : 0 ≤ p) (h1 : p < 100000000000) (s : ByteArray) (hs : s.size ≤ 1000000) :
    ∃ (x : ByteArray) (q : Int), x.size ≤ s.size + 10 ∧ p ≤ q ∧ q ≤ p + 3 ∧ ∀ k, 1 ≤ k → spec_l16Bent.f k b p s = some (x, q) := by
  have hw : wrap64 ((s.size : Int) + 1) = (s.size : Int) + 1 := wrap_in _ (by omega) (by omega)
  obtain ⟨v, v0, v1, hv⟩ := pick_ok b hb hl p ((s.size : Int) + 1) h0 (by omega) (by omega)
  obtain ⟨c, c0, c1, hc⟩ := pick_ok b hb hl (p + 1) 6 (by omega) (by omega) (by omega)
  obtain ⟨x1, hx1, e1⟩ := of_small b hb hl (p + 1 + 1) (by omega) (by omega) B1 10 (by decide) (by decide)
  obtain ⟨x2, hx2, e2⟩ := of_small b hb hl (p + 1 + 1) (by omega) (by omega) B2 10 (by decide) (by decide)
  obtain ⟨x3, hx3, e3⟩ := of_small b hb hl (p + 1 + 1) (by omega) (by omega) B3 10 (by decide) (by decide)
  unfold B1 at e1
  unfold B2 at e2
  unfold B3 at e3
  by_cases k0 : c = 0
  · by_cases q1 : v < (s.size : Int)
    · have hw2 : wrap64 (v + 1) = v + 1 := wrap_in _ (by omega) (by omega)
      refine ⟨s.extract 0 v.toNat ++ x1 ++ s.extract (v + 1).toNat s.size, p + 1 + 1 + 1, by simp only [ByteArray.size_append, ByteArray.size_extract]; omega, by omega, by omega, fun k hk => ?_⟩
      unfold spec_l16Bent.f
      rw [hw, hv k hk, Option.bind_some]
      dsimp only
      rw [hc k hk, Option.bind_some]
      dsimp only
      rw [if_pos k0, if_pos q1, if_pos v0, if_pos (by omega), e1 k hk, Option.bind_some]
      dsimp only
      rw [hw2, if_pos (by simp only [ByteArray.size_extract]; omega), if_pos (by omega), if_pos (by omega), if_pos (by simp only [ByteArray.size_append, ByteArray.size_extract]; omega)]
    · refine ⟨s, p + 1 + 1, by omega, by omega, by omega, fun k hk => ?_⟩
      unfold spec_l16Bent.f
      rw [hw, hv k hk, Option.bind_some]
      dsimp only
      rw [hc k hk, Option.bind_some]
      dsimp only
      rw [if_pos k0, if_neg q1]
  by_cases k1 : c = 1
  · refine ⟨s.extract 0 v.toNat, p + 1 + 1, by simp only [ByteArray.size_extract]; omega, by omega, by omega, fun k hk => ?_⟩
    unfold spec_l16Bent.f
    rw [hw, hv k hk, Option.bind_some]
    dsimp only
    rw [hc k hk, Option.bind_some]
    dsimp only
    rw [if_neg k0, if_pos k1, if_pos v0, if_pos (by omega)]
  by_cases k2 : c = 2
  · refine ⟨s ++ x2, p + 1 + 1 + 1, by simp only [ByteArray.size_append]; omega, by omega, by omega, fun k hk => ?_⟩
    unfold spec_l16Bent.f
    rw [hw, hv k hk, Option.bind_some]
    dsimp only
    rw [hc k hk, Option.bind_some]
    dsimp only
    rw [if_neg k0, if_neg k1, if_pos k2, e2 k hk, Option.bind_some]
    dsimp only
    rw [if_pos (by omega)]
  by_cases k3 : c = 3
  · refine ⟨s.extract 0 v.toNat ++ x3 ++ s.extract v.toNat s.size, p + 1 + 1 + 1, by simp only [ByteArray.size_append, ByteArray.size_extract]; omega, by omega, by omega, fun k hk => ?_⟩
    unfold spec_l16Bent.f
    rw [hw, hv k hk, Option.bind_some]
    dsimp only
    rw [hc k hk, Option.bind_some]
    dsimp only
    rw [if_neg k0, if_neg k1, if_neg k2, if_pos k3, if_pos v0, if_pos (by omega), e3 k hk, Option.bind_some]
    dsimp only
    rw [if_pos (by simp only [ByteArray.size_extract]; omega), if_pos (by simp only [ByteArray.size_append, ByteArray.size_extract]; omega)]
  · refine ⟨s, p + 1 + 1, by omega, by omega, by omega, fun k hk => ?_⟩
    unfold spec_l16Bent.f
    rw [hw, hv k hk, Option.bind_some]
    dsimp only
    rw [hc k hk, Option.bind_some]
    dsimp only
    rw [if_neg k0, if_neg k1, if_neg k2, if_neg k3]
theorem putB_size (u h n : ByteArray) (hu : u.size ≤ 20) (hh : h.size ≤ 20) (hn : n.size ≤ 20) : (putB u h n).size ≤ 80 := by
  unfold putB putT
  repeat' split
  all_goals ((try simp only [ByteArray.size_append, one47, one64]); first | omega | decide)
def G1 : List ByteArray := [(⟨#[]⟩ : ByteArray), (⟨#[64, 104]⟩ : ByteArray), (⟨#[97, 64]⟩ : ByteArray), (⟨#[104, 47]⟩ : ByteArray), (⟨#[97, 64, 98, 64, 99]⟩ : ByteArray), (⟨#[65, 78, 78, 64, 82, 111, 111, 109, 115, 46, 76, 111, 99, 97, 108, 47, 66, 111]⟩ : ByteArray), (⟨#[104, 47, 97, 47, 98]⟩ : ByteArray), (⟨#[97, 64, 104, 47, 32, 120]⟩ : ByteArray), (⟨#[68, 101, 110, 64, 82, 79, 79, 77, 83, 46, 108, 111, 99, 97, 108]⟩ : ByteArray)]
set_option maxRecDepth 100000 in
theorem drawJidGet_ok (l : List Int) (hc : CodeOk l) : ∃ x : ByteArray, x.size ≤ 1000 ∧ ∀ k, 2097300 ≤ k → spec_DrawJidGet.f k l = some x := by
  obtain ⟨b, hb, hl, h⟩ := open_ok l hc
  obtain ⟨v, v0, v1, hv⟩ := pick_ok b hb hl 0 4 (by omega) (by omega) (by omega)
  obtain ⟨x1, hx1, e1⟩ := of_small b hb hl (0 + 1) (by omega) (by omega) G1 30 (by decide) (by decide)
  unfold G1 at e1
  obtain ⟨u, ho, n, a1, a2, a3, d⟩ := jid_ok b hb hl (0 + 1) (by omega) (by omega)
  have hp := putB_size u ho n a1 a2 a3
  obtain ⟨y, q, hy, q1, q2, e2⟩ := bent_ok b hb hl (0 + 1 + 3) (by omega) (by omega) (putB u ho n) (by omega)
  have e3 : ∀ k, 2097300 ≤ k → spec_JidPut.f k u ho n = some (putB u ho n) := fun k hk => spec_put u ho n (by unfold Sz; omega) (by unfold Sz; omega) (by unfold Sz; omega) k (by omega)
  unfold spec_DrawJidGet.f
  by_cases k0 : v = 0
  · refine ⟨x1, by omega, fun k hk => ?_⟩
    rw [h, Option.bind_some]
    dsimp only
    rw [hv k (by omega), Option.bind_some]
    dsimp only
    rw [if_pos k0, e1 k (by omega), Option.bind_some]
  by_cases k1 : v = 1
  · refine ⟨y, by omega, fun k hk => ?_⟩
    rw [h, Option.bind_some]
    dsimp only
    rw [hv k (by omega), Option.bind_some]
    dsimp only
    rw [if_neg k0, if_pos k1, d k (by omega), Option.bind_some]
    dsimp only
    rw [e3 k hk, Option.bind_some, e2 k (by omega), Option.bind_some]
  · refine ⟨putB u ho n, by omega, fun k hk => ?_⟩
    rw [h, Option.bind_some]
    dsimp only
    rw [hv k (by omega), Option.bind_some]
    dsimp only
    rw [if_neg k0, if_neg k1, d k (by omega), Option.bind_some]
    dsimp only
    rw [e3 k hk, Option.bind_some]
end Go.Proofs.YtgjecacalpaacaaDoor.Draw
set_option linter.unusedVariables false
namespace Go.Proofs.YtgjecacalpaacaaDoor.Pure
open Go.RowKit Go.Proofs.YtgjecacalpaacaaDoor.PAll Go.Proofs.YtgjecacalpaacaaDoorW.PrintWords Go.Proofs.YtgjecacalpaacaaDoorW.PrintLast Go.Proofs.YtgjecacalpaacaaDoorW.PrintMore Go.Proofs.YtgjecacalpaacaaDoorW.XWords
open Go.Proofs.YtgjecacalpaacaaDoor.Jid Go.Proofs.YtgjecacalpaacaaDoor.Draw Go.Proofs.YtgjecacalpaacaaDoor.Words
theorem FnJidGet (l0 : List Int) (hl : l0.length ≤ maxLen) (hw : ∀ x ∈ l0, (Lit.int .u8 x).wf = true) : ∃ k, laws_FnJidGet.f k l0 = some true := by
  obtain ⟨K, hK⟩ : ∃ K, K = 2999999 := ⟨_, rfl⟩
  refine ⟨K + 1, ?_⟩
  unfold laws_FnJidGet.f
  by_cases h : (l0.length : Int) > 1048576
  · rw [if_pos h]
  rw [if_neg h]
  obtain ⟨s, hs, hd⟩ := drawJidGet_ok l0 (code_of hw)
  have hz : Sz s := by unfold Sz; omega
  rw [hd _ (by omega), Option.bind_some, impl_get s hz _ (by omega), Option.bind_some, spec_get s hz _ (by omega), Option.bind_some]
  rw [if_neg (by simp), if_neg (by simp)]
  simp only [laws_FnJidGet.j0]
  unfold getR
  by_cases hg : getB s = true
  · rw [if_pos hg]
    dsimp only
    have hb := size_back s hg
    have hg0 := hg
    unfold getB at hg
    simp only [Bool.and_eq_true] at hg
    have hj := hg.2.1
    have s1 := user_sz _ (bare_sz s hz)
    have s2 := host_sz _ (bare_sz s hz)
    have s3 := nick_sz s hz
    clear hg
    generalize userOf (bareOf s) = u at *
    generalize hostOf (bareOf s) = ho at *
    generalize nickOf s = n at *
    have hp : putB u ho n = putT u ho n := by unfold putB; rw [if_pos hj]
    rw [if_neg (by decide), impl_put u ho n s1 s2 s3 _ (by omega), Option.bind_some, hp, impl_get _ (by unfold Sz; omega) _ (by omega), Option.bind_some, back u ho n hj, impl_jid u ho n s1 s2 s3 _ (by omega), Option.bind_some, hj, if_pos rfl]
    dsimp only
    rw [if_pos rfl, if_pos (by simp), hb]
    simp
  · rw [if_neg hg]
    simp
end Go.Proofs.YtgjecacalpaacaaDoor.Pure
