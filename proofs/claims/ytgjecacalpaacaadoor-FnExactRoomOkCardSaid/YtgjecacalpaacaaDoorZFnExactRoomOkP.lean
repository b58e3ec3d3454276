-- the plain law: this session's
import Derived.Test.YtgjecacalpaacaaDoorZFnExactRoomOkK2
import Derived.Test.YtgjecacalpaacaaDoorZFnExactRoomOkK3
import Derived.Test.YtgjecacalpaacaaDoorZFnExactRoomOkK0
import Derived.Test.YtgjecacalpaacaaDoorZFnExactRoomOkK5
import Derived.Test.YtgjecacalpaacaaDoorZFnExactRoomOkK4
import Derived.Test.YtgjecacalpaacaaDoorZFnExactRoomOkK1
set_option linter.unusedVariables false
set_option linter.unusedSimpArgs false
namespace Go.Proofs.YtgjecacalpaacaaDoor.Text
open Go.RowKit Go.Proofs.YtgjecacalpaacaaDoor.PAll Go.Proofs.YtgjecacalpaacaaDoorW.PrintWords Go.Proofs.YtgjecacalpaacaaDoorW.PrintLast Go.Proofs.YtgjecacalpaacaaDoorW.PrintMore Go.Proofs.YtgjecacalpaacaaDoorW.XWords
open Go.Lib
abbrev cont (b : Nat) : Prop := 128 ≤ b ∧ b ≤ 191
abbrev sgN (n : Nat) : Prop := n = 9 ∨ n = 10 ∨ (32 ≤ n ∧ n ≤ 55295) ∨ (57344 ≤ n ∧ n ≤ 65533) ∨ (65536 ≤ n ∧ n ≤ 1114111)
def widN (a b c d : Nat) : Nat :=
  if a < 128 then (if a = 9 ∨ a = 10 ∨ 32 ≤ a then 1 else 0)
  else if 194 ≤ a ∧ a ≤ 223 then (if cont b then 2 else 0)
  else if 224 ≤ a ∧ a ≤ 239 then (if cont b ∧ cont c ∧ (a = 224 → 160 ≤ b) ∧ (a = 237 → b < 160) ∧ ¬ (a = 239 ∧ b = 191 ∧ 190 ≤ c) then 3 else 0)
  else if 240 ≤ a ∧ a ≤ 244 then (if cont b ∧ cont c ∧ cont d ∧ (a = 240 → 144 ≤ b) ∧ (a = 244 → b < 144) then 4 else 0)
  else 0
def valN (a b c d : Nat) : Nat := if a < 128 then a else if a < 224 then a % 32 * 64 + b % 64 else if a < 240 then a % 16 * 4096 + b % 64 * 64 + c % 64 else a % 8 * 262144 + b % 64 * 4096 + c % 64 * 64 + d % 64
set_option maxHeartbeats 4000000 in
theorem dec_wid (n a b c d : Nat) (hb : 1 < n ∨ b = 0) (hc : 2 < n ∨ c = 0) (hd : 3 < n ∨ d = 0) :
    (sgN (decodeN n a b c d).1 ∧ ((decodeN n a b c d).1 ≠ 65533 ∨ (decodeN n a b c d).2 = 3) → widN a b c d = (decodeN n a b c d).2 ∧ valN a b c d = (decodeN n a b c d).1) ∧
    (¬ (sgN (decodeN n a b c d).1 ∧ ((decodeN n a b c d).1 ≠ 65533 ∨ (decodeN n a b c d).2 = 3)) → widN a b c d = 0) := by
  unfold decodeN widN valN sgN
  by_cases h1 : a < 128
  · simp only [h1, if_true]
    constructor
    · intro h
      have h9 : a = 9 ∨ a = 10 ∨ 32 ≤ a := by have := h.1; omega
      exact ⟨if_pos h9, trivial⟩
    · intro h
      by_cases h9 : a = 9 ∨ a = 10 ∨ 32 ≤ a
      · exact absurd ⟨by omega, .inl (by omega)⟩ h
      · exact if_neg h9
  simp only [h1, if_false]
  by_cases h2 : a / 32 = 6 ∧ (1 < n ∧ b / 64 = 2)
  · rw [if_pos h2]
    constructor
    · intro h
      by_cases h3 : a % 32 * 64 + b % 64 ≥ 128
      · rw [if_pos h3] at h ⊢; dsimp only at h ⊢; repeat' split
        all_goals omega
      · rw [if_neg h3] at h; dsimp only at h; omega
    · intro h
      by_cases h3 : a % 32 * 64 + b % 64 ≥ 128
      · rw [if_pos h3] at h; dsimp only at h; repeat' split
        all_goals omega
      · repeat' split
        all_goals omega
  rw [if_neg h2]
  by_cases h4 : a / 16 = 14 ∧ (1 < n ∧ b / 64 = 2) ∧ (2 < n ∧ c / 64 = 2)
  · rw [if_pos h4]
    constructor
    · intro h
      split at h
      · rename_i h3; rw [if_pos h3]; dsimp only at h ⊢; repeat' split
        all_goals omega
      · dsimp only at h; omega
    · intro h
      split at h
      · dsimp only at h; repeat' split
        all_goals omega
      · repeat' split
        all_goals omega
  rw [if_neg h4]
  by_cases h5 : a / 8 = 30 ∧ (1 < n ∧ b / 64 = 2) ∧ (2 < n ∧ c / 64 = 2) ∧ (3 < n ∧ d / 64 = 2)
  · rw [if_pos h5]
    constructor
    · intro h
      split at h
      · rename_i h3; rw [if_pos h3]; dsimp only at h ⊢; repeat' split
        all_goals omega
      · dsimp only at h; omega
    · intro h
      split at h
      · dsimp only at h; repeat' split
        all_goals omega
      · repeat' split
        all_goals omega
  rw [if_neg h5]
  constructor
  · intro h; dsimp only at h; omega
  · intro h; repeat' split
    all_goals omega
theorem dec_bound (n a b c d : Nat) (hn : 0 < n) : 1 ≤ (decodeN n a b c d).2 ∧ (decodeN n a b c d).2 ≤ n ∧ (decodeN n a b c d).1 ≤ 2097152 := by
  unfold decodeN
  repeat' split
  all_goals (dsimp only; omega)
def b4 (s : ByteArray) (i : Nat) : Nat := (bt s (i : Int)).toNat
theorem b4_cast (s : ByteArray) (i : Nat) : (b4 s i : Int) = bt s (i : Int) := by
  have := bt_range s (i : Int)
  unfold b4
  omega
theorem b4_lt (s : ByteArray) (i : Nat) : b4 s i < 256 := by
  have := bt_range s (i : Int)
  unfold b4
  omega
theorem b4_out (s : ByteArray) (i : Nat) (h : s.size ≤ i) : b4 s i = 0 := by
  unfold b4 bt
  rw [dif_neg (by simp; omega)]
  rfl
theorem b4_in (s : ByteArray) (i : Nat) (h : i < s.size) : b4 s i = (s[i]'h).toNat := by
  unfold b4 bt
  rw [dif_pos (by simpa using h)]
  simp
theorem get_b4 (s : ByteArray) (i : Nat) : (s.get! i).toNat = b4 s i := by
  by_cases h : i < s.size
  · rw [b4_in s i h]
    have e : s.get! i = s[i]'h := by
      obtain ⟨d⟩ := s
      exact getElem!_pos d i h
    rw [e]
  · rw [b4_out s i (by omega)]
    have e : s.get! i = default := by
      obtain ⟨d⟩ := s
      exact getElem!_neg d i h
    rw [e]
    rfl
theorem b4_extract (s : ByteArray) (i n j : Nat) (hn : n ≤ s.size) : b4 (s.extract i n) j = if i + j < n then b4 s (i + j) else 0 := by
  by_cases h : i + j < n
  · rw [if_pos h, b4_in _ j (by rw [ByteArray.size_extract]; omega), b4_in s (i + j) (by omega), ByteArray.getElem_extract]
  · rw [if_neg h, b4_out _ j (by rw [ByteArray.size_extract]; omega)]
def wid (s : ByteArray) (i : Nat) : Nat := widN (b4 s i) (b4 s (i + 1)) (b4 s (i + 2)) (b4 s (i + 3))
def val (s : ByteArray) (i : Nat) : Nat := valN (b4 s i) (b4 s (i + 1)) (b4 s (i + 2)) (b4 s (i + 3))
theorem wid_le (s : ByteArray) (i : Nat) (h : i < s.size) : i + wid s i ≤ s.size := by
  have h1 : 1 < s.size - i ∨ b4 s (i + 1) = 0 := by
    rcases Nat.lt_or_ge 1 (s.size - i) with q | q
    · exact .inl q
    · exact .inr (b4_out s _ (by omega))
  have h2 : 2 < s.size - i ∨ b4 s (i + 2) = 0 := by
    rcases Nat.lt_or_ge 2 (s.size - i) with q | q
    · exact .inl q
    · exact .inr (b4_out s _ (by omega))
  have h3 : 3 < s.size - i ∨ b4 s (i + 3) = 0 := by
    rcases Nat.lt_or_ge 3 (s.size - i) with q | q
    · exact .inl q
    · exact .inr (b4_out s _ (by omega))
  unfold wid widN
  repeat' split
  all_goals omega
def okAt : Nat → ByteArray → Nat → Bool
  | 0, _, _ => true
  | f + 1, s, i => if s.size ≤ i then true else if wid s i = 0 then false else okAt f s (i + wid s i)
theorem okAt_more (s : ByteArray) : ∀ (f g i : Nat), s.size - i ≤ f → s.size - i ≤ g → okAt f s i = okAt g s i := by
  intro f
  induction f with
  | zero =>
    intro g i hf _
    cases g with
    | zero => rfl
    | succ g => simp only [okAt]; rw [if_pos (by omega)]
  | succ f ih =>
    intro g i hf hg
    cases g with
    | zero => simp only [okAt]; rw [if_pos (by omega)]
    | succ g =>
      simp only [okAt]
      by_cases h : s.size ≤ i
      · rw [if_pos h, if_pos h]
      · rw [if_neg h, if_neg h]
        by_cases hz : wid s i = 0
        · rw [if_pos hz, if_pos hz]
        · rw [if_neg hz, if_neg hz]
          exact ih g _ (by omega) (by omega)
def ok (s : ByteArray) : Bool := okAt s.size s 0
theorem ok_step (s : ByteArray) (i : Nat) : okAt (s.size - i) s i = if s.size ≤ i then true else if wid s i = 0 then false else okAt (s.size - (i + wid s i)) s (i + wid s i) := by
  by_cases h : s.size ≤ i
  · rw [if_pos h, show s.size - i = 0 by omega]
    rfl
  · rw [if_neg h]
    obtain ⟨m, hm⟩ : ∃ m, s.size - i = m + 1 := ⟨s.size - i - 1, by omega⟩
    rw [hm]
    simp only [okAt]
    rw [if_neg h]
    by_cases hz : wid s i = 0
    · rw [if_pos hz, if_pos hz]
    · rw [if_neg hz, if_neg hz]
      exact okAt_more s _ _ _ (by omega) (by omega)
theorem within_eq (n lo hi : Int) : impl_within.f n lo hi = some (decide (lo ≤ n) && decide (n ≤ hi)) := by
  unfold impl_within.f
  split <;> rw [Option.some.injEq, Bool.eq_iff_iff] <;> simp <;> omega
theorem in_eq (n lo hi : Int) : spec_l1In.f n lo hi = some (decide (lo ≤ n) && decide (n ≤ hi)) := by
  unfold spec_l1In.f
  split <;> rw [Option.some.injEq, Bool.eq_iff_iff] <;> simp <;> omega
theorem sign_impl (n : Nat) : impl_signOk.f (n : Int) = some (decide (sgN n)) := by
  unfold impl_signOk.f
  simp only [within_eq, Option.bind_some]
  (repeat' split) <;> rw [Option.some.injEq, Bool.eq_iff_iff] <;> simp_all <;> omega
theorem sign_spec (n : Nat) : spec_l1Sign.f (n : Int) = some (decide (sgN n)) := by
  unfold spec_l1Sign.f
  simp only [in_eq, Option.bind_some]
  (repeat' split) <;> rw [Option.some.injEq, Bool.eq_iff_iff] <;> simp_all <;> omega
theorem wrap_small (n : Nat) (h : n ≤ 9223372036854775807) : wrap64 (n : Int) = (n : Int) := by unfold wrap64; omega
theorem sign_eq (s : ByteArray) (h : 0 < s.size) : ∃ m : Nat, m ≤ s.size ∧ impl_sign.f s = some (s.extract 0 m, decide (0 < wid s 0)) ∧ (0 < wid s 0 → m = wid s 0) := by
  have hd : Lib.decodeGo s = decodeN (s.size - 0) (b4 s 0) (b4 s 1) (b4 s 2) (b4 s 3) := by
    unfold Lib.decodeGo
    rw [if_neg (by omega), decode_at, get_b4, get_b4, get_b4, get_b4]
  obtain ⟨q1, q2, q3⟩ := dec_bound (s.size - 0) (b4 s 0) (b4 s 1) (b4 s 2) (b4 s 3) (by omega)
  have hw := dec_wid (s.size - 0) (b4 s 0) (b4 s 1) (b4 s 2) (b4 s 3)
    (by rcases Nat.lt_or_ge 1 (s.size - 0) with q | q; exact .inl q; exact .inr (b4_out s _ (by omega)))
    (by rcases Nat.lt_or_ge 2 (s.size - 0) with q | q; exact .inl q; exact .inr (b4_out s _ (by omega)))
    (by rcases Nat.lt_or_ge 3 (s.size - 0) with q | q; exact .inl q; exact .inr (b4_out s _ (by omega)))
  have hww : wid s 0 = widN (b4 s 0) (b4 s 1) (b4 s 2) (b4 s 3) := rfl
  unfold impl_sign.f utf8_DecodeRuneInString.f
  rw [Option.bind_some, hd]
  generalize hD : decodeN (s.size - 0) (b4 s 0) (b4 s 1) (b4 s 2) (b4 s 3) = D at hw q1 q2 q3
  obtain ⟨R, K⟩ := D
  dsimp only at hw q1 q2 q3 ⊢
  refine ⟨K, by omega, ?_, ?_⟩
  · rw [if_pos (by omega), if_pos (by omega), wrap_small R (by omega), sign_impl, Option.bind_some, hww, Int.toNat_natCast]
    by_cases hs : sgN R
    · rw [if_pos (by simpa using hs)]
      by_cases h5 : R = 65533
      · rw [if_pos (by omega)]
        by_cases hk : K = 3
        · rw [(hw.1 ⟨hs, .inr hk⟩).1, hk]
          rfl
        · rw [hw.2 (fun z => z.2.elim (fun z => z h5) hk), show ((K : Int) == 3) = false from by rw [beq_eq_false_iff_ne]; omega]
          rfl
      · rw [if_neg (by omega), (hw.1 ⟨hs, .inl h5⟩).1, show decide (0 < K) = true from decide_eq_true (by omega)]
    · rw [if_neg (by simpa using hs), hw.2 (fun z => hs z.1)]
      rfl
  · intro hp
    rw [hww] at hp ⊢
    by_cases hs : sgN R ∧ (R ≠ 65533 ∨ K = 3)
    · exact (hw.1 hs).1.symm
    · rw [hw.2 hs] at hp
      omega
theorem toList_empty (s : ByteArray) : s.toList = ([] : List UInt8) ↔ s.size = 0 := by
  rw [Lib.toList_data]
  constructor
  · intro h
    have := congrArg List.length h
    rw [data_length] at this
    exact this
  · intro h
    exact List.eq_nil_of_length_eq_zero (by rw [data_length]; exact h)
theorem wid_extract (s : ByteArray) (i : Nat) (j : Nat) (hi : i ≤ s.size) : wid (s.extract i s.size) j = wid s (i + j) := by
  have e : ∀ q, b4 (s.extract i s.size) q = b4 s (i + q) := fun q => by
    rw [b4_extract s i s.size q (Nat.le_refl _)]
    by_cases h : i + q < s.size
    · rw [if_pos h]
    · rw [if_neg h, b4_out s _ (by omega)]
  unfold wid
  rw [e, e, e, e]
  rfl
theorem extract_extract (s : ByteArray) (i m : Nat) (h : i + m ≤ s.size) : (s.extract i s.size).extract m (s.extract i s.size).size = s.extract (i + m) s.size := by
  rw [ByteArray.extract_extract, ByteArray.size_extract]
  congr 1
  omega
theorem impl_loop (s : ByteArray) (hs : s.size ≤ 140737488351232) (d : Nat) : ∀ (k i : Nat), i ≤ s.size → s.size - i ≤ d → d < k → impl_TextOk.l0 k (s.extract i s.size) = some (okAt (s.size - i) s i) := by
  induction d with
  | zero =>
    intro k i hi hd hk
    obtain ⟨k, rfl⟩ : ∃ m, k = m + 1 := ⟨k - 1, by omega⟩
    simp only [impl_TextOk.l0]
    rw [if_pos ((toList_empty _).2 (by rw [ByteArray.size_extract]; omega)), show s.size - i = 0 by omega]
    rfl
  | succ d ih =>
    intro k i hi hd hk
    obtain ⟨k, rfl⟩ : ∃ m, k = m + 1 := ⟨k - 1, by omega⟩
    simp only [impl_TextOk.l0]
    by_cases h0 : s.size ≤ i
    · rw [if_pos ((toList_empty _).2 (by rw [ByteArray.size_extract]; omega)), show s.size - i = 0 by omega]
      rfl
    · rw [if_neg (fun z => by have := (toList_empty _).1 z; rw [ByteArray.size_extract] at this; omega)]
      obtain ⟨m, hm, he, hw⟩ := sign_eq (s.extract i s.size) (by rw [ByteArray.size_extract]; omega)
      have wx := wid_extract s i 0 hi
      rw [Nat.add_zero] at wx
      rw [wx] at he hw
      rw [ok_step s i, if_neg h0, he, Option.bind_some]
      by_cases hz : wid s i = 0
      · rw [if_pos hz, if_neg (by simp [hz])]
      · have hp : 0 < wid s i := by omega
        obtain rfl := hw hp
        have hle := wid_le s i (by omega)
        have hl : ((s.extract i s.size).extract 0 (wid s i)).size = wid s i := by rw [ByteArray.size_extract, ByteArray.size_extract]; omega
        rw [if_neg hz, if_pos (by simpa using hp)]
        rw [if_pos (Int.natCast_nonneg _), if_pos (show (((s.extract i s.size).extract 0 (wid s i)).size : Int) ≤ ((s.extract i s.size).size : Int) by rw [hl, ByteArray.size_extract]; omega)]
        show impl_TextOk.l0 k ((s.extract i s.size).extract ((((s.extract i s.size).extract 0 (wid s i)).size : Nat) : Int).toNat (s.extract i s.size).size) = _
        rw [hl, Int.toNat_natCast, extract_extract s i _ hle]
        exact ih k _ hle (by omega) (by omega)
theorem impl_ok (s : ByteArray) (hs : s.size ≤ 140737488351232) (k : Nat) (hk : s.size < k) : impl_TextOk.f k s = some (ok s) := by
  have h := impl_loop s hs s.size k 0 (Nat.zero_le _) (by omega) hk
  rw [show s.extract 0 s.size = s from ByteArray.extract_zero_size] at h
  exact h
end Go.Proofs.YtgjecacalpaacaaDoor.Text
set_option linter.unusedVariables false
set_option linter.unusedSimpArgs false
namespace Go.Proofs.YtgjecacalpaacaaDoor.Text
open Go.RowKit Go.Proofs.YtgjecacalpaacaaDoor.PAll Go.Proofs.YtgjecacalpaacaaDoorW.PrintWords Go.Proofs.YtgjecacalpaacaaDoorW.PrintLast Go.Proofs.YtgjecacalpaacaaDoorW.PrintMore Go.Proofs.YtgjecacalpaacaaDoorW.XWords
open Go.Lib
theorem lead_eq (a : Nat) (ha : a < 256) : spec_l1Lead.f (a : Int) = some (if a < 128 then 1 else if 194 ≤ a ∧ a ≤ 223 then 2 else if 224 ≤ a ∧ a ≤ 239 then 3 else if 240 ≤ a ∧ a ≤ 244 then 4 else 0) := by
  unfold spec_l1Lead.f
  rw [wrap_small a (by omega)]
  simp only [in_eq, Option.bind_some]
  by_cases h1 : a < 128
  · rw [if_pos (by omega), if_pos h1]
  rw [if_neg (by omega), if_neg h1]
  by_cases h2 : 194 ≤ a ∧ a ≤ 223
  · rw [if_pos (by simp; omega), if_pos h2]
  rw [if_neg (by simp; omega), if_neg h2]
  by_cases h3 : 224 ≤ a ∧ a ≤ 239
  · rw [if_pos (by simp; omega), if_pos h3]
  rw [if_neg (by simp; omega), if_neg h3]
  by_cases h4 : 240 ≤ a ∧ a ≤ 244
  · rw [if_pos (by simp; omega), if_pos h4]
  rw [if_neg (by simp; omega), if_neg h4]
abbrev sec (a b : Nat) : Prop := (a = 224 → 160 ≤ b) ∧ (a = 237 → b < 160) ∧ (a = 240 → 144 ≤ b) ∧ (a = 244 → b < 144)
theorem sec_eq (a b : Nat) : spec_l1Second.f (a : Int) (b : Int) = some (decide (sec a b)) := by
  unfold spec_l1Second.f
  (repeat' split) <;> rw [Option.some.injEq, Bool.eq_iff_iff] <;> simp <;> omega
set_option maxHeartbeats 4000000 in
theorem step_eq (k : Nat) (s : ByteArray) (hs : s.size ≤ 140737488351232) (i m n j : Nat) (hi : i < s.size) (hj : j < m) (h1 : 1 ≤ j) (hm : m ≤ 4) (hn : n ≤ 2000000) :
    spec_l1Next.l0 (k + 1) s (i : Int) (m : Int) (n : Int) (j : Int) =
      if s.size ≤ i + j then some (0, -1) else if cont (b4 s (i + j)) ∧ (j = 1 → sec (b4 s i) (b4 s (i + 1))) then spec_l1Next.l0 k s (i : Int) (m : Int) ((n * 64 + b4 s (i + j) - 128 : Nat) : Int) ((j + 1 : Nat) : Int) else some (0, 0) := by
  have hb := b4_lt s (i + j)
  have hw : Aside0 (wrap64 ((i : Int) + (j : Int)) = ((i + j : Nat) : Int)) := ⟨by rw [← Int.natCast_add]; exact wrap_small _ (by omega)⟩
  have hbw : Aside0 (wrap64 (bt s ((i + j : Nat) : Int)) = (b4 s (i + j) : Int)) := ⟨by rw [← b4_cast]; exact wrap_small _ (by omega)⟩
  have hbi : Aside0 (wrap64 (bt s (i : Int)) = (b4 s i : Int)) := ⟨by rw [← b4_cast]; exact wrap_small _ (by have := b4_lt s i; omega)⟩
  have hj1 : Aside0 (wrap64 ((j : Int) + 1) = ((j + 1 : Nat) : Int)) := ⟨by rw [show ((j : Int) + 1) = ((j + 1 : Nat) : Int) by omega]; exact wrap_small _ (by omega)⟩
  simp only [spec_l1Next.l0]
  rw [if_pos (by omega), hw.out]
  by_cases ho : s.size ≤ i + j
  · rw [if_pos (by omega), if_pos ho]
  rw [if_neg (by omega), if_neg ho, if_pos (by omega), if_pos (by omega), hbw.out, in_eq, Option.bind_some]
  by_cases hc : cont (b4 s (i + j))
  · have hval : Aside0 (wrap64 (wrap64 (wrap64 ((n : Int) * 64) + (b4 s (i + j) : Int)) - 128) = ((n * 64 + b4 s (i + j) - 128 : Nat) : Int)) := by
      constructor
      rw [show ((n : Int) * 64) = ((n * 64 : Nat) : Int) by omega, wrap_small _ (by omega), ← Int.natCast_add, wrap_small _ (by omega), show (((n * 64 + b4 s (i + j) : Nat) : Int) - 128) = ((n * 64 + b4 s (i + j) - 128 : Nat) : Int) by omega]
      exact wrap_small _ (by omega)
    rw [if_pos (by simp; omega), hval.out, hj1.out]
    by_cases h1' : j = 1
    · subst h1'
      rw [if_pos (by rfl), if_pos (by omega), if_pos (by omega), hbi.out, sec_eq, Option.bind_some]
      by_cases hz : sec (b4 s i) (b4 s (i + 1))
      · rw [if_pos (decide_eq_true hz), if_pos ⟨hc, fun _ => hz⟩]
      · rw [if_neg (fun z => hz (of_decide_eq_true z)), if_neg (fun z => hz (z.2 rfl))]
    · rw [if_neg (by omega), if_pos ⟨hc, fun z => absurd z h1'⟩]
  · rw [if_neg (by simp; omega), if_neg (fun z => hc z.1)]
theorem last_eq (k : Nat) (s : ByteArray) (i m n j : Nat) (hj : m ≤ j) : spec_l1Next.l0 (k + 1) s (i : Int) (m : Int) (n : Int) (j : Int) = if m = 0 then some (0, 0) else if sgN n then some ((n : Int), (m : Int)) else some (0, 0) := by
  simp only [spec_l1Next.l0]
  rw [if_neg (by omega), sign_spec, Option.bind_some]
  by_cases h0 : m = 0
  · rw [if_pos (by omega), if_pos h0]
  · rw [if_neg (by omega), if_neg h0]
    by_cases hs : sgN n
    · rw [if_pos (decide_eq_true hs), if_pos hs]
    · rw [if_neg (fun z => hs (of_decide_eq_true z)), if_neg hs]
set_option maxHeartbeats 4000000 in
theorem next_eq (s : ByteArray) (hs : s.size ≤ 140737488351232) (i : Nat) (hi : i < s.size) (k : Nat) (hk : 8 ≤ k) :
    ∃ n m : Int, spec_l1Next.f k s (i : Int) = some (n, m) ∧ (wid s i ≠ 0 → m = (wid s i : Int) ∧ n = (val s i : Int)) ∧ (wid s i = 0 → m < 1 ∧ n = 0) := by
  obtain ⟨k, rfl⟩ : ∃ q, k = q + 8 := ⟨k - 8, by omega⟩
  have ha := b4_lt s i
  have hw : ∀ q, wid s i = q ↔ widN (b4 s i) (b4 s (i + 1)) (b4 s (i + 2)) (b4 s (i + 3)) = q := fun q => Iff.rfl
  have hv : ∀ q, val s i = q ↔ valN (b4 s i) (b4 s (i + 1)) (b4 s (i + 2)) (b4 s (i + 3)) = q := fun q => Iff.rfl
  have hbi : Aside0 (wrap64 (bt s (i : Int)) = (b4 s i : Int)) := ⟨by rw [← b4_cast]; exact wrap_small _ (by omega)⟩
  have o1 := b4_out s (i + 1)
  have o2 := b4_out s (i + 2)
  have o3 := b4_out s (i + 3)
  have w0 : wid s i = widN (b4 s i) (b4 s (i + 1)) (b4 s (i + 2)) (b4 s (i + 3)) := rfl
  have v0 : val s i = valN (b4 s i) (b4 s (i + 1)) (b4 s (i + 2)) (b4 s (i + 3)) := rfl
  unfold spec_l1Next.f
  rw [if_pos (by omega), if_pos (by omega), hbi.out, show bt s (i : Int) = (b4 s i : Int) from (b4_cast s i).symm, lead_eq _ ha, Option.bind_some, Option.bind_some]
  by_cases h1 : b4 s i < 128
  · rw [if_pos h1, if_neg (by decide)]
    simp only [spec_l1Next.j0]
    rw [show (1 : Int) = ((1 : Nat) : Int) from rfl, last_eq _ s i 1 (b4 s i) 1 (Nat.le_refl _), if_neg (by decide)]
    have hwd : wid s i = if b4 s i = 9 ∨ b4 s i = 10 ∨ 32 ≤ b4 s i then 1 else 0 := by rw [w0]; unfold widN; rw [if_pos h1]
    have hvl : val s i = b4 s i := by rw [v0]; unfold valN; rw [if_pos h1]
    by_cases hg : sgN (b4 s i)
    · rw [if_pos hg]
      refine ⟨_, _, rfl, fun _ => ⟨?_, by rw [hvl]⟩, fun h => ?_⟩
      · rw [hwd, if_pos (by omega)]
      · rw [hwd, if_pos (by omega)] at h
        omega
    · rw [if_neg hg]
      refine ⟨_, _, rfl, fun h => ?_, fun _ => ⟨by omega, rfl⟩⟩
      rw [hwd, if_neg (by omega)] at h
      omega
  rw [if_neg h1]
  have hl2 : ∀ m : Int, (some (([0, 0, 32, 16, 8] : List Int) : List Int)).bind (fun y => if 0 ≤ m then (if m < (y.length : Int) then (if (rd y m) = 0 then (none : Option (Int × Int)) else spec_l1Next.j0 (k + 8) s (i : Int) m (Int.tmod (b4 s i : Int) (rd y m))) else none) else none) = (if 0 ≤ m then (if m < 5 then (if (rd [0, 0, 32, 16, 8] m) = 0 then (none : Option (Int × Int)) else spec_l1Next.j0 (k + 8) s (i : Int) m (Int.tmod (b4 s i : Int) (rd [0, 0, 32, 16, 8] m))) else none) else none) := fun m => rfl
  by_cases h2 : 194 ≤ b4 s i ∧ b4 s i ≤ 223
  · rw [if_pos h2, if_pos (by decide), show (2 : Int) = ((2 : Nat) : Int) from rfl]
    rw [if_pos (by decide), if_pos (by decide), if_neg (by decide), show rd ([0, 0, 32, 16, 8] : List Int) ((2 : Nat) : Int) = ((32 : Nat) : Int) from rfl, Int.tmod_eq_emod_of_nonneg (by omega), ← Int.natCast_emod]
    simp only [spec_l1Next.j0]
    rw [show (1 : Int) = ((1 : Nat) : Int) from rfl, step_eq _ s hs i 2 _ 1 hi (by omega) (by omega) (by omega) (by omega)]
    have hwd : wid s i = if cont (b4 s (i + 1)) then 2 else 0 := by rw [w0]; unfold widN; rw [if_neg h1, if_pos h2]
    have hvl : val s i = b4 s i % 32 * 64 + b4 s (i + 1) % 64 := by rw [v0]; unfold valN; rw [if_neg h1, if_pos (by omega)]
    by_cases ho : s.size ≤ i + 1
    · rw [if_pos ho]
      refine ⟨_, _, rfl, fun h => ?_, fun _ => ⟨by omega, rfl⟩⟩
      rw [hwd, if_neg (by have := o1 ho; omega)] at h
      omega
    rw [if_neg ho]
    by_cases hc : cont (b4 s (i + 1))
    · rw [if_pos ⟨hc, fun _ => by omega⟩, last_eq _ s i 2 _ _ (Nat.le_refl _), if_neg (by decide), if_pos (by omega)]
      refine ⟨_, _, rfl, fun _ => ⟨?_, ?_⟩, fun h => ?_⟩
      · rw [hwd, if_pos hc]
      · rw [hvl]; omega
      · rw [hwd, if_pos hc] at h
        omega
    · rw [if_neg (fun z => hc z.1)]
      refine ⟨_, _, rfl, fun h => ?_, fun _ => ⟨by omega, rfl⟩⟩
      rw [hwd, if_neg hc] at h
      omega
  rw [if_neg h2]
  by_cases h3 : 224 ≤ b4 s i ∧ b4 s i ≤ 239
  · rw [if_pos h3, if_pos (by decide), show (3 : Int) = ((3 : Nat) : Int) from rfl]
    rw [if_pos (by decide), if_pos (by decide), if_neg (by decide), show rd ([0, 0, 32, 16, 8] : List Int) ((3 : Nat) : Int) = ((16 : Nat) : Int) from rfl, Int.tmod_eq_emod_of_nonneg (by omega), ← Int.natCast_emod]
    simp only [spec_l1Next.j0]
    rw [show (1 : Int) = ((1 : Nat) : Int) from rfl, step_eq _ s hs i 3 _ 1 hi (by omega) (by omega) (by omega) (by omega)]
    have hwd : wid s i = if cont (b4 s (i + 1)) ∧ cont (b4 s (i + 2)) ∧ (b4 s i = 224 → 160 ≤ b4 s (i + 1)) ∧ (b4 s i = 237 → b4 s (i + 1) < 160) ∧ ¬ (b4 s i = 239 ∧ b4 s (i + 1) = 191 ∧ 190 ≤ b4 s (i + 2)) then 3 else 0 := by rw [w0]; unfold widN; rw [if_neg h1, if_neg h2, if_pos h3]
    have hvl : val s i = b4 s i % 16 * 4096 + b4 s (i + 1) % 64 * 64 + b4 s (i + 2) % 64 := by rw [v0]; unfold valN; rw [if_neg h1, if_neg (by omega), if_pos (by omega)]
    by_cases ho : s.size ≤ i + 1
    · rw [if_pos ho]
      refine ⟨_, _, rfl, fun h => ?_, fun _ => ⟨by omega, rfl⟩⟩
      rw [hwd, if_neg (by have := o1 ho; omega)] at h
      omega
    rw [if_neg ho]
    by_cases hc : cont (b4 s (i + 1)) ∧ (1 = 1 → sec (b4 s i) (b4 s (i + 1)))
    · rw [if_pos hc, step_eq _ s hs i 3 _ 2 hi (by omega) (by omega) (by omega) (by omega)]
      have hsec := hc.2 rfl
      by_cases ho2 : s.size ≤ i + 2
      · rw [if_pos ho2]
        refine ⟨_, _, rfl, fun h => ?_, fun _ => ⟨by omega, rfl⟩⟩
        rw [hwd, if_neg (by have := o2 ho2; omega)] at h
        omega
      rw [if_neg ho2]
      by_cases hc2 : cont (b4 s (i + 2))
      · rw [if_pos ⟨hc2, fun z => absurd z (by decide)⟩, last_eq _ s i 3 _ _ (Nat.le_refl _), if_neg (by decide)]
        by_cases hg : sgN ((b4 s i % 16 * 64 + b4 s (i + 1) - 128) * 64 + b4 s (i + 2) - 128)
        · rw [if_pos hg]
          refine ⟨_, _, rfl, fun _ => ⟨?_, ?_⟩, fun h => ?_⟩
          · rw [hwd, if_pos (by omega)]
          · rw [hvl]; omega
          · rw [hwd, if_pos (by omega)] at h
            omega
        · rw [if_neg hg]
          refine ⟨_, _, rfl, fun h => ?_, fun _ => ⟨by omega, rfl⟩⟩
          rw [hwd, if_neg (by omega)] at h
          omega
      · rw [if_neg (fun z => hc2 z.1)]
        refine ⟨_, _, rfl, fun h => ?_, fun _ => ⟨by omega, rfl⟩⟩
        rw [hwd, if_neg (by omega)] at h
        omega
    · rw [if_neg hc]
      refine ⟨_, _, rfl, fun h => ?_, fun _ => ⟨by omega, rfl⟩⟩
      rw [hwd, if_neg (by omega)] at h
      omega
  rw [if_neg h3]
  by_cases h4 : 240 ≤ b4 s i ∧ b4 s i ≤ 244
  · rw [if_pos h4, if_pos (by decide), show (4 : Int) = ((4 : Nat) : Int) from rfl]
    rw [if_pos (by decide), if_pos (by decide), if_neg (by decide), show rd ([0, 0, 32, 16, 8] : List Int) ((4 : Nat) : Int) = ((8 : Nat) : Int) from rfl, Int.tmod_eq_emod_of_nonneg (by omega), ← Int.natCast_emod]
    simp only [spec_l1Next.j0]
    rw [show (1 : Int) = ((1 : Nat) : Int) from rfl, step_eq _ s hs i 4 _ 1 hi (by omega) (by omega) (by omega) (by omega)]
    have hwd : wid s i = if cont (b4 s (i + 1)) ∧ cont (b4 s (i + 2)) ∧ cont (b4 s (i + 3)) ∧ (b4 s i = 240 → 144 ≤ b4 s (i + 1)) ∧ (b4 s i = 244 → b4 s (i + 1) < 144) then 4 else 0 := by rw [w0]; unfold widN; rw [if_neg h1, if_neg h2, if_neg h3, if_pos h4]
    have hvl : val s i = b4 s i % 8 * 262144 + b4 s (i + 1) % 64 * 4096 + b4 s (i + 2) % 64 * 64 + b4 s (i + 3) % 64 := by rw [v0]; unfold valN; rw [if_neg h1, if_neg (by omega), if_neg (by omega)]
    by_cases ho : s.size ≤ i + 1
    · rw [if_pos ho]
      refine ⟨_, _, rfl, fun h => ?_, fun _ => ⟨by omega, rfl⟩⟩
      rw [hwd, if_neg (by have := o1 ho; omega)] at h
      omega
    rw [if_neg ho]
    by_cases hc : cont (b4 s (i + 1)) ∧ (1 = 1 → sec (b4 s i) (b4 s (i + 1)))
    · rw [if_pos hc, step_eq _ s hs i 4 _ 2 hi (by omega) (by omega) (by omega) (by omega)]
      have hsec := hc.2 rfl
      by_cases ho2 : s.size ≤ i + 2
      · rw [if_pos ho2]
        refine ⟨_, _, rfl, fun h => ?_, fun _ => ⟨by omega, rfl⟩⟩
        rw [hwd, if_neg (by have := o2 ho2; omega)] at h
        omega
      rw [if_neg ho2]
      by_cases hc2 : cont (b4 s (i + 2))
      · rw [if_pos ⟨hc2, fun z => absurd z (by decide)⟩, step_eq _ s hs i 4 _ 3 hi (by omega) (by omega) (by omega) (by omega)]
        by_cases ho3 : s.size ≤ i + 3
        · rw [if_pos ho3]
          refine ⟨_, _, rfl, fun h => ?_, fun _ => ⟨by omega, rfl⟩⟩
          rw [hwd, if_neg (by have := o3 ho3; omega)] at h
          omega
        rw [if_neg ho3]
        by_cases hc3 : cont (b4 s (i + 3))
        · rw [if_pos ⟨hc3, fun z => absurd z (by decide)⟩, last_eq _ s i 4 _ _ (Nat.le_refl _), if_neg (by decide), if_pos (by omega)]
          refine ⟨_, _, rfl, fun _ => ⟨?_, ?_⟩, fun h => ?_⟩
          · rw [hwd, if_pos (by omega)]
          · rw [hvl]; omega
          · rw [hwd, if_pos (by omega)] at h
            omega
        · rw [if_neg (fun z => hc3 z.1)]
          refine ⟨_, _, rfl, fun h => ?_, fun _ => ⟨by omega, rfl⟩⟩
          rw [hwd, if_neg (by omega)] at h
          omega
      · rw [if_neg (fun z => hc2 z.1)]
        refine ⟨_, _, rfl, fun h => ?_, fun _ => ⟨by omega, rfl⟩⟩
        rw [hwd, if_neg (by omega)] at h
        omega
    · rw [if_neg hc]
      refine ⟨_, _, rfl, fun h => ?_, fun _ => ⟨by omega, rfl⟩⟩
      rw [hwd, if_neg (by omega)] at h
      omega
  rw [if_neg h4, if_neg (by decide)]
  simp only [spec_l1Next.j0]
  rw [show (0 : Int) = ((0 : Nat) : Int) from rfl, show (1 : Int) = ((1 : Nat) : Int) from rfl, last_eq _ s i 0 _ 1 (by omega), if_pos rfl]
  refine ⟨_, _, rfl, fun h => ?_, fun _ => ⟨by omega, rfl⟩⟩
  have hwd : wid s i = 0 := by rw [w0]; unfold widN; rw [if_neg h1, if_neg h2, if_neg h3, if_neg h4]
  exact absurd hwd h
theorem spec_loop (s : ByteArray) (hs : s.size ≤ 140737488351232) (d : Nat) : ∀ (k i : Nat), i ≤ s.size → s.size - i ≤ d → d + 8 < k → spec_l1Utf.l0 k s (i : Int) = some (okAt (s.size - i) s i) := by
  induction d with
  | zero =>
    intro k i hi hd hk
    obtain ⟨k, rfl⟩ : ∃ m, k = m + 1 := ⟨k - 1, by omega⟩
    simp only [spec_l1Utf.l0]
    rw [if_neg (by omega), show s.size - i = 0 by omega]
    rfl
  | succ d ih =>
    intro k i hi hd hk
    obtain ⟨k, rfl⟩ : ∃ m, k = m + 1 := ⟨k - 1, by omega⟩
    simp only [spec_l1Utf.l0]
    by_cases h0 : s.size ≤ i
    · rw [if_neg (by omega), show s.size - i = 0 by omega]
      rfl
    · obtain ⟨n, m, he, hp, hz⟩ := next_eq s hs i (by omega) k (by omega)
      rw [if_pos (by omega), he, Option.bind_some, ok_step s i, if_neg h0]
      by_cases hw : wid s i = 0
      · rw [if_pos hw, if_pos (hz hw).1]
      · obtain ⟨rfl, -⟩ := hp hw
        have hle := wid_le s i (by omega)
        rw [if_neg hw, if_neg (show ¬ ((wid s i : Int) < 1) by omega), show wrap64 ((i : Int) + (wid s i : Int)) = ((i + wid s i : Nat) : Int) by rw [← Int.natCast_add]; exact wrap_small _ (by omega)]
        exact ih k _ hle (by omega) (by omega)
theorem utf_ok (s : ByteArray) (hs : s.size ≤ 140737488351232) (k : Nat) (hk : s.size + 8 < k) : spec_l1Utf.f k s = some (ok s) := spec_loop s hs s.size k 0 (Nat.zero_le _) (by omega) hk
end Go.Proofs.YtgjecacalpaacaaDoor.Text
set_option linter.unusedVariables false
set_option linter.unusedSimpArgs false
namespace Go.Proofs.YtgjecacalpaacaaDoor.Words
open Go.RowKit Go.Proofs.YtgjecacalpaacaaDoor.PAll Go.Proofs.YtgjecacalpaacaaDoorW.PrintWords Go.Proofs.YtgjecacalpaacaaDoorW.PrintLast Go.Proofs.YtgjecacalpaacaaDoorW.PrintMore Go.Proofs.YtgjecacalpaacaaDoorW.XWords
open Go.Proofs.YtgjecacalpaacaaDoor.Text
def userB (s : ByteArray) : Bool := (bytesOf s).all impl_userOk.inB && (decide (1 ≤ s.size) && decide (s.size ≤ 8))
def bodyB (s : ByteArray) : Bool := (decide (1 ≤ s.size) && decide (s.size ≤ 60)) && ok s
def nickB (s : ByteArray) : Bool := (bytesOf s).all impl_nickOk.inB && ((decide (1 ≤ s.size) && decide (s.size ≤ 10)) && (ok s && (bt s 0 != 32 && bt s ((s.size : Int) - 1) != 32)))
theorem wrap_next (s : ByteArray) (hs : s.size ≤ 140737488351232) (j : Nat) (hj : j < s.size) : wrap64 ((j : Int) + 1) = ((j + 1 : Nat) : Int) := by
  rw [show ((j : Int) + 1) = ((j + 1 : Nat) : Int) by omega]
  exact Text.wrap_small (j + 1) (by omega)
theorem all_end (p : Int → Bool) (s : ByteArray) : ((bytesOf s).drop s.size).all p = true := by
  rw [List.drop_of_length_le (by rw [bytesOf_length]; exact Nat.le_refl _)]
  rfl
theorem impl_user (s : ByteArray) (hs : s.size ≤ 140737488351232) : impl_userOk.f s = some (userB s) := by
  unfold impl_userOk.f
  rw [if_pos hs]
  rfl
theorem small_eq (b : Int) : spec_l4Small.f b = some (impl_userOk.smB b) := by
  unfold spec_l4Small.f spec_l1Figure.f impl_userOk.smB
  (repeat' split) <;> (try simp only [Option.bind_some]) <;> rw [Option.some.injEq, Bool.eq_iff_iff] <;> simp_all <;> omega
theorem user_loop (s : ByteArray) (hs : s.size ≤ 140737488351232) (d : Nat) : ∀ (k j : Nat), j ≤ s.size → s.size - j = d → d < k →
    spec_l4User.l0 k s (j : Int) = some (((bytesOf s).drop j).all impl_userOk.inB && (decide (1 ≤ s.size) && decide (s.size ≤ 8))) := by
  induction d with
  | zero =>
    intro k j hj hd hk
    obtain ⟨k, rfl⟩ : ∃ m, k = m + 1 := ⟨k - 1, by omega⟩
    obtain rfl : j = s.size := by omega
    simp only [spec_l4User.l0]
    rw [if_neg (by omega), in_eq, Option.bind_some, all_end, Bool.true_and, Option.some.injEq, Bool.eq_iff_iff]
    simp
    omega
  | succ d ih =>
    intro k j hj hd hk
    obtain ⟨k, rfl⟩ : ∃ m, k = m + 1 := ⟨k - 1, by omega⟩
    have hlt : j < s.size := by omega
    have hih := ih k (j + 1) (by omega) (by omega) (by omega)
    have hw := Aside0.mk (wrap_next s hs j hlt)
    simp only [spec_l4User.l0]
    rw [if_pos (by omega), if_pos (by omega), small_eq, Option.bind_some, all_drop_bytes _ _ _ hlt, hw.out]
    by_cases h1 : impl_userOk.smB (bt s (j : Int)) = true
    · rw [if_pos h1, hih, show impl_userOk.inB (bt s (j : Int)) = true by unfold impl_userOk.inB; unfold impl_userOk.smB at h1; rw [h1]; rfl, Bool.true_and]
    · rw [if_neg h1]
      have hI : impl_userOk.inB (bt s (j : Int)) = (bt s (j : Int) == 45 || bt s (j : Int) == 46 || bt s (j : Int) == 95) := by
        unfold impl_userOk.inB
        unfold impl_userOk.smB at h1
        rw [Bool.not_eq_true] at h1
        rw [h1]
        simp
      rw [hI]
      by_cases h45 : bt s (j : Int) = 45
      · rw [if_pos h45, hih, h45]; simp
      rw [if_neg h45]
      by_cases h46 : bt s (j : Int) = 46
      · rw [if_pos h46, hih, h46]; simp
      rw [if_neg h46]
      by_cases h95 : bt s (j : Int) = 95
      · rw [if_pos h95, hih, h95]; simp
      rw [if_neg h95, show (bt s (j : Int) == 45) = false by simpa using h45, show (bt s (j : Int) == 46) = false by simpa using h46, show (bt s (j : Int) == 95) = false by simpa using h95]
      simp
theorem spec_user (s : ByteArray) (hs : s.size ≤ 140737488351232) (k : Nat) (hk : s.size < k) : spec_l4User.f k s = some (userB s) := by
  have h := user_loop s hs s.size k 0 (by omega) (by omega) hk
  rw [List.drop_zero] at h
  exact h
def emp (s : ByteArray) : Bool := s.toList == ([] : List UInt8)
theorem toL (s : ByteArray) : (s.toList == ([] : List UInt8)) = emp s := rfl
theorem toLn (s : ByteArray) : (s.toList = ([] : List UInt8)) = (emp s = true) := by unfold emp; rw [beq_iff_eq]
theorem impl_body (s : ByteArray) (hs : s.size ≤ 140737488351232) (k : Nat) (hk : s.size < k) : impl_bodyOk.f k s = some (bodyB s) := by
  unfold impl_bodyOk.f bodyB
  rw [within_eq, Option.bind_some, impl_ok s hs k hk, Option.bind_some]
  by_cases h1 : 1 ≤ s.size <;> by_cases h2 : s.size ≤ 60
  · rw [if_pos (by simp; omega), decide_eq_true h1, decide_eq_true h2]; rfl
  · rw [if_neg (by simp; omega), decide_eq_false h2]; simp
  · rw [if_neg (by simp; omega), decide_eq_false h1]; simp
  · rw [if_neg (by simp; omega), decide_eq_false h1]; simp
theorem spec_body (s : ByteArray) (hs : s.size ≤ 140737488351232) (k : Nat) (hk : s.size + 8 < k) : spec_l5Body.f k s = some (bodyB s) := by
  unfold spec_l5Body.f bodyB
  rw [utf_ok s hs k hk, Option.bind_some, in_eq, Option.bind_some]
  cases ok s with
  | false => simp
  | true =>
    rw [if_pos rfl, Bool.and_true, Option.some.injEq, Bool.eq_iff_iff]
    simp
    omega
theorem impl_nick (s : ByteArray) (hs : s.size ≤ 140737488351232) (k : Nat) (hk : s.size < k) : impl_nickOk.f k s = some (nickB s) := by
  unfold impl_nickOk.f nickB
  rw [if_pos hs, impl_ok s hs k hk, Option.bind_some]
  cases (bytesOf s).all impl_nickOk.inB with
  | false => simp
  | true =>
    rw [if_pos rfl]
    by_cases h1 : 1 ≤ s.size
    · by_cases h2 : s.size ≤ 10
      · rw [if_pos h1, if_pos h2, decide_eq_true h1, decide_eq_true h2]
        cases ok s with
        | false => simp
        | true =>
          by_cases h3 : bt s 0 = 32
          · rw [if_pos rfl, if_pos h3, h3]; simp
          · rw [if_pos rfl, if_neg h3, show (bt s 0 != 32) = true by simpa using h3]; simp
      · rw [if_pos h1, if_neg h2, decide_eq_false h2]; simp
    · rw [if_neg h1, decide_eq_false h1]; simp
theorem nick_loop (s : ByteArray) (hs : s.size ≤ 140737488351232) (d : Nat) : ∀ (k j : Nat), j ≤ s.size → s.size - j = d → d + s.size + 9 < k →
    spec_l4Nick.l0 k s (j : Int) = some (((bytesOf s).drop j).all impl_nickOk.inB && ((decide (1 ≤ s.size) && decide (s.size ≤ 10)) && (ok s && (bt s 0 != 32 && bt s ((s.size : Int) - 1) != 32)))) := by
  induction d with
  | zero =>
    intro k j hj hd hk
    obtain ⟨k, rfl⟩ : ∃ m, k = m + 1 := ⟨k - 1, by omega⟩
    obtain rfl : j = s.size := by omega
    simp only [spec_l4Nick.l0]
    rw [if_neg (by omega), utf_ok s hs k (by omega), Option.bind_some, in_eq, Option.bind_some, all_end, Bool.true_and]
    cases ok s with
    | false => simp
    | true =>
      rw [if_pos rfl]
      by_cases h1 : 1 ≤ s.size
      · by_cases h2 : s.size ≤ 10
        · have hw := Aside0.mk (show wrap64 ((s.size : Int) - 1) = (s.size : Int) - 1 by rw [show (s.size : Int) - 1 = ((s.size - 1 : Nat) : Int) by omega]; exact Text.wrap_small (s.size - 1) (by omega))
          rw [if_pos (by simp; omega), if_pos (by omega), decide_eq_true h1, decide_eq_true h2, hw.out]
          by_cases h3 : bt s 0 = 32
          · rw [if_pos h3, h3]; simp
          · rw [if_neg h3, if_pos (by omega), if_pos (by omega), show (bt s 0 != 32) = true by simpa using h3]; simp
        · rw [if_neg (by simp; omega), decide_eq_false h2]; simp
      · rw [if_neg (by simp; omega), decide_eq_false h1]; simp
  | succ d ih =>
    intro k j hj hd hk
    obtain ⟨k, rfl⟩ : ∃ m, k = m + 1 := ⟨k - 1, by omega⟩
    have hlt : j < s.size := by omega
    have hih := ih k (j + 1) (by omega) (by omega) (by omega)
    have hw := Aside0.mk (wrap_next s hs j hlt)
    simp only [spec_l4Nick.l0]
    rw [if_pos (by omega), if_pos (by omega), all_drop_bytes _ _ _ hlt, hw.out]
    unfold impl_nickOk.inB at hih ⊢
    by_cases h1 : bt s (j : Int) < 32
    · rw [if_pos h1, decide_eq_true h1]; simp
    rw [if_neg h1]
    by_cases h2 : bt s (j : Int) = 127
    · rw [if_pos h2, h2]; simp
    rw [if_neg h2, hih, decide_eq_false h1, show (bt s (j : Int) == 127) = false by simpa using h2]
    simp
theorem spec_nick (s : ByteArray) (hs : s.size ≤ 140737488351232) (k : Nat) (hk : 2 * s.size + 9 < k) : spec_l4Nick.f k s = some (nickB s) := by
  have h := nick_loop s hs s.size k 0 (by omega) (by omega) (by omega)
  rw [List.drop_zero] at h
  exact h
end Go.Proofs.YtgjecacalpaacaaDoor.Words
namespace Go.Proofs.YtgjecacalpaacaaDoor.Words
open Go.RowKit Go.Proofs.YtgjecacalpaacaaDoor.PAll Go.Proofs.YtgjecacalpaacaaDoorW.PrintWords Go.Proofs.YtgjecacalpaacaaDoorW.PrintLast Go.Proofs.YtgjecacalpaacaaDoorW.PrintMore Go.Proofs.YtgjecacalpaacaaDoorW.XWords
open Go.Proofs.YtgjecacalpaacaaDoor.Text
def inB (n lo hi : Int) : Bool := decide (lo ≤ n) && decide (n ≤ hi)
theorem in_eq' (n lo hi : Int) : spec_l1In.f n lo hi = some (inB n lo hi) := in_eq n lo hi
theorem within_eq' (n lo hi : Int) : impl_within.f n lo hi = some (inB n lo hi) := within_eq n lo hi
end Go.Proofs.YtgjecacalpaacaaDoor.Words
namespace Go.Proofs.YtgjecacalpaacaaDoor.Wrap
open Go.RowKit Go.Proofs.YtgjecacalpaacaaDoor.PAll Go.Proofs.YtgjecacalpaacaaDoorW.PrintWords Go.Proofs.YtgjecacalpaacaaDoorW.PrintLast Go.Proofs.YtgjecacalpaacaaDoorW.PrintMore Go.Proofs.YtgjecacalpaacaaDoorW.XWords
theorem wrap_in (x : Int) (h1 : -9223372036854775808 ≤ x) (h2 : x ≤ 9223372036854775807) : wrap64 x = x := by unfold wrap64; omega
end Go.Proofs.YtgjecacalpaacaaDoor.Wrap
namespace Go.Proofs.YtgjecacalpaacaaDoor.Rws
open Go.RowKit Go.Proofs.YtgjecacalpaacaaDoor.PAll Go.Proofs.YtgjecacalpaacaaDoorW.PrintWords Go.Proofs.YtgjecacalpaacaaDoorW.PrintLast Go.Proofs.YtgjecacalpaacaaDoorW.PrintMore Go.Proofs.YtgjecacalpaacaaDoorW.XWords
open Go.Proofs.YtgjecacalpaacaaDoor.Wrap
theorem rdOf_at {α : Type} (d : α) (l : List α) (j : Nat) (h : j < l.length) : rdOf d l (j : Int) = l[j] := by
  unfold rdOf
  simp [h]
def toMember (x : S109) : S89 := ⟨x.f0, x.f1, x.f2⟩
theorem szMember (a0 : ByteArray) (a1 : ByteArray) (a2 : Int) (ha0 : a0.size ≤ maxLen) (ha1 : a1.size ≤ maxLen) (n : Int) (h0 : 0 ≤ n) (h1 : n ≤ 1048576) : ∃ z, laws_szMember.f a0 a1 a2 n = some z ∧ z ≤ n ∧ (0 ≤ z → a0.size ≤ 1048576 ∧ a1.size ≤ 1048576) := by
  unfold maxLen at ha0 ha1
  unfold laws_szMember.f
  rw [wrap_in (n - _) (by omega) (by omega)]
  by_cases c0 : n - (a0.size : Int) < 0
  · rw [if_pos c0]
    exact ⟨-1, rfl, by omega, fun h => by omega⟩
  rw [if_neg c0]
  rw [wrap_in (n - (a0.size : Int) - _) (by omega) (by omega)]
  by_cases c1 : n - (a0.size : Int) - (a1.size : Int) < 0
  · rw [if_pos c1]
    exact ⟨-1, rfl, by omega, fun h => by omega⟩
  rw [if_neg c1]
  exact ⟨_, rfl, by omega, fun _ => ⟨by omega, by omega⟩⟩
theorem szMember_loop (l : List S109) (hl : l.length ≤ 1048576) (hs : ∀ x ∈ l, x.f0.size ≤ maxLen ∧ x.f1.size ≤ maxLen) (d : Nat) : ∀ (k j : Nat) (n : Int), 0 ≤ n → n ≤ 1048576 → j ≤ l.length → l.length - j = d → d < k →
    ∃ r : Int, laws_szMemberS.l0 k l n (j : Int) = some r ∧ r ≤ n ∧ (0 ≤ r → ∀ i (h : i < l.length), j ≤ i → l[i].f0.size ≤ 1048576 ∧ l[i].f1.size ≤ 1048576) := by
  induction d with
  | zero =>
    intro k j n h0 h1 hj hd hk
    obtain ⟨k, rfl⟩ : ∃ m, k = m + 1 := ⟨k - 1, by omega⟩
    refine ⟨n, ?_, by omega, fun _ i h hji => by omega⟩
    simp only [laws_szMemberS.l0]
    rw [if_neg (by omega)]
  | succ d ih =>
    intro k j n h0 h1 hj hd hk
    obtain ⟨k, rfl⟩ : ∃ m, k = m + 1 := ⟨k - 1, by omega⟩
    have hm := hs _ (List.getElem_mem (show j < l.length by omega))
    simp only [laws_szMemberS.l0]
    rw [if_pos (by omega), if_pos (by omega), show rd_T109 l (j : Int) = l[j] from rdOf_at _ l j (by omega)]
    obtain ⟨z, hz, hz1, hz2⟩ := szMember _ _ _ hm.1 hm.2 n h0 h1
    rw [hz, Option.bind_some]
    by_cases hn : z < 0
    · rw [if_pos hn]
      exact ⟨-1, rfl, by omega, fun h => by omega⟩
    · rw [if_neg hn, show wrap64 ((j : Int) + 1) = ((j + 1 : Nat) : Int) by unfold wrap64; omega]
      obtain ⟨r, h2, h3, h4⟩ := ih k (j + 1) z (by omega) (by omega) (by omega) (by omega) (by omega)
      refine ⟨r, h2, by omega, fun hr i h hji => ?_⟩
      rcases Nat.lt_or_ge j i with h5 | h5
      · exact h4 hr i h (by omega)
      · obtain rfl : i = j := by omega
        exact hz2 (by omega)
theorem szMemberS (l : List S109) (hl : l.length ≤ maxLen) (hs : ∀ x ∈ l, x.f0.size ≤ maxLen ∧ x.f1.size ≤ maxLen) (n : Int) (h0 : 0 ≤ n) (h1 : n ≤ 1048576) (k : Nat) (hk : l.length < k) :
    ∃ r : Int, laws_szMemberS.f k l n = some r ∧ r ≤ n ∧ (0 ≤ r → (l.length : Int) ≤ n ∧ ∀ x ∈ l, x.f0.size ≤ 1048576 ∧ x.f1.size ≤ 1048576) := by
  unfold maxLen at hl
  unfold laws_szMemberS.f
  rw [wrap_in _ (by omega) (by omega)]
  by_cases hn : n - (l.length : Int) < 0
  · rw [if_pos hn]
    exact ⟨-1, rfl, by omega, fun h => by omega⟩
  · rw [if_neg hn]
    obtain ⟨r, h2, h3, h4⟩ := szMember_loop l (by omega) hs l.length k 0 (n - (l.length : Int)) (by omega) (by omega) (by omega) (by omega) hk
    refine ⟨r, h2, by omega, fun hr => ⟨by omega, fun x hx => ?_⟩⟩
    obtain ⟨i, hi, rfl⟩ := List.mem_iff_getElem.1 hx
    exact h4 hr i hi (by omega)
theorem toMember_loop (l : List S109) (hl : l.length ≤ 1048576) (d : Nat) : ∀ (k j : Nat) (m : List S89), m.length = l.length → m.take j = (l.map toMember).take j → j ≤ l.length → l.length - j = d → d < k →
    laws_toMemberS.l0 k l m (j : Int) = some (l.map toMember) := by
  induction d with
  | zero =>
    intro k j m hm ht hj hd hk
    obtain ⟨k, rfl⟩ : ∃ m, k = m + 1 := ⟨k - 1, by omega⟩
    simp only [laws_toMemberS.l0]
    rw [if_neg (by omega)]
    obtain rfl : j = l.length := by omega
    rw [← hm, List.take_length, hm, List.take_of_length_le (by simp)] at ht
    rw [ht]
  | succ d ih =>
    intro k j m hm ht hj hd hk
    obtain ⟨k, rfl⟩ : ∃ m, k = m + 1 := ⟨k - 1, by omega⟩
    simp only [laws_toMemberS.l0]
    rw [if_pos (by omega), if_pos (by omega), show rd_T109 l (j : Int) = l[j] from rdOf_at _ l j (by omega)]
    simp only [laws_toMember.f, Option.bind_some]
    rw [if_pos (by omega), show wrap64 ((j : Int) + 1) = ((j + 1 : Nat) : Int) by unfold wrap64; omega]
    refine ih k (j + 1) _ (by simpa using hm) ?_ (by omega) (by omega) (by omega)
    rw [show ((j : Int)).toNat = j by omega]
    apply List.ext_getElem?
    intro i
    rcases Nat.lt_trichotomy i j with h | h | h
    · have := congrArg (fun q => q[i]?) ht
      simp only [List.getElem?_take, h, if_true] at this
      rw [List.getElem?_take, List.getElem?_take, if_pos (by omega), if_pos (by omega), List.getElem?_set_ne (by omega)]
      exact this
    · subst h
      rw [List.getElem?_take, List.getElem?_take, if_pos (by omega), if_pos (by omega), List.getElem?_set_self (by omega), List.getElem?_map, List.getElem?_eq_getElem (by omega)]
      rfl
    · rw [List.getElem?_take, List.getElem?_take, if_neg (by omega), if_neg (by omega)]
theorem toMemberS (l : List S109) (hl : l.length ≤ 1048576) (k : Nat) (hk : l.length < k) : laws_toMemberS.f k l = some (l.map toMember) := by
  unfold laws_toMemberS.f
  rw [if_pos (by omega), if_pos (by omega)]
  exact toMember_loop l hl l.length k 0 _ (by simp) (by simp) (by omega) (by omega) hk
theorem eqMember (x : S89) : laws_eqMember.f x.f0 x.f1 x.f2 x.f0 x.f1 x.f2 = some true := by simp [laws_eqMember.f]
theorem eqMember_loop (l : List S89) (hl : l.length ≤ 1048576) (d : Nat) : ∀ (k j : Nat), j ≤ l.length → l.length - j = d → d < k → laws_eqMemberS.l0 k l l (j : Int) = some true := by
  induction d with
  | zero =>
    intro k j hj hd hk
    obtain ⟨k, rfl⟩ : ∃ m, k = m + 1 := ⟨k - 1, by omega⟩
    simp only [laws_eqMemberS.l0]
    rw [if_neg (by omega)]
  | succ d ih =>
    intro k j hj hd hk
    obtain ⟨k, rfl⟩ : ∃ m, k = m + 1 := ⟨k - 1, by omega⟩
    simp only [laws_eqMemberS.l0]
    rw [if_pos (by omega), if_pos (by omega), if_pos (by omega), eqMember, Option.bind_some, if_pos rfl, show wrap64 ((j : Int) + 1) = ((j + 1 : Nat) : Int) by unfold wrap64; omega]
    exact ih k (j + 1) (by omega) (by omega) (by omega)
theorem eqMemberS (l : List S89) (hl : l.length ≤ 1048576) (k : Nat) (hk : l.length < k) : laws_eqMemberS.f k l l = some true := by
  unfold laws_eqMemberS.f
  rw [if_pos rfl]
  exact eqMember_loop l hl l.length k 0 (by omega) (by omega) hk
def toRank (x : S111) : S92 := ⟨x.f0, x.f1⟩
theorem szRank (a0 : ByteArray) (a1 : Int) (ha0 : a0.size ≤ maxLen) (n : Int) (h0 : 0 ≤ n) (h1 : n ≤ 1048576) : ∃ z, laws_szRank.f a0 a1 n = some z ∧ z ≤ n ∧ (0 ≤ z → a0.size ≤ 1048576) := by
  unfold maxLen at ha0
  unfold laws_szRank.f
  rw [wrap_in (n - _) (by omega) (by omega)]
  by_cases c0 : n - (a0.size : Int) < 0
  · rw [if_pos c0]
    exact ⟨-1, rfl, by omega, fun h => by omega⟩
  rw [if_neg c0]
  exact ⟨_, rfl, by omega, fun _ => by omega⟩
theorem szRank_loop (l : List S111) (hl : l.length ≤ 1048576) (hs : ∀ x ∈ l, x.f0.size ≤ maxLen) (d : Nat) : ∀ (k j : Nat) (n : Int), 0 ≤ n → n ≤ 1048576 → j ≤ l.length → l.length - j = d → d < k →
    ∃ r : Int, laws_szRankS.l0 k l n (j : Int) = some r ∧ r ≤ n ∧ (0 ≤ r → ∀ i (h : i < l.length), j ≤ i → l[i].f0.size ≤ 1048576) := by
  induction d with
  | zero =>
    intro k j n h0 h1 hj hd hk
    obtain ⟨k, rfl⟩ : ∃ m, k = m + 1 := ⟨k - 1, by omega⟩
    refine ⟨n, ?_, by omega, fun _ i h hji => by omega⟩
    simp only [laws_szRankS.l0]
    rw [if_neg (by omega)]
  | succ d ih =>
    intro k j n h0 h1 hj hd hk
    obtain ⟨k, rfl⟩ : ∃ m, k = m + 1 := ⟨k - 1, by omega⟩
    have hm := hs _ (List.getElem_mem (show j < l.length by omega))
    simp only [laws_szRankS.l0]
    rw [if_pos (by omega), if_pos (by omega), show rd_T111 l (j : Int) = l[j] from rdOf_at _ l j (by omega)]
    obtain ⟨z, hz, hz1, hz2⟩ := szRank _ _ hm n h0 h1
    rw [hz, Option.bind_some]
    by_cases hn : z < 0
    · rw [if_pos hn]
      exact ⟨-1, rfl, by omega, fun h => by omega⟩
    · rw [if_neg hn, show wrap64 ((j : Int) + 1) = ((j + 1 : Nat) : Int) by unfold wrap64; omega]
      obtain ⟨r, h2, h3, h4⟩ := ih k (j + 1) z (by omega) (by omega) (by omega) (by omega) (by omega)
      refine ⟨r, h2, by omega, fun hr i h hji => ?_⟩
      rcases Nat.lt_or_ge j i with h5 | h5
      · exact h4 hr i h (by omega)
      · obtain rfl : i = j := by omega
        exact hz2 (by omega)
theorem szRankS (l : List S111) (hl : l.length ≤ maxLen) (hs : ∀ x ∈ l, x.f0.size ≤ maxLen) (n : Int) (h0 : 0 ≤ n) (h1 : n ≤ 1048576) (k : Nat) (hk : l.length < k) :
    ∃ r : Int, laws_szRankS.f k l n = some r ∧ r ≤ n ∧ (0 ≤ r → (l.length : Int) ≤ n ∧ ∀ x ∈ l, x.f0.size ≤ 1048576) := by
  unfold maxLen at hl
  unfold laws_szRankS.f
  rw [wrap_in _ (by omega) (by omega)]
  by_cases hn : n - (l.length : Int) < 0
  · rw [if_pos hn]
    exact ⟨-1, rfl, by omega, fun h => by omega⟩
  · rw [if_neg hn]
    obtain ⟨r, h2, h3, h4⟩ := szRank_loop l (by omega) hs l.length k 0 (n - (l.length : Int)) (by omega) (by omega) (by omega) (by omega) hk
    refine ⟨r, h2, by omega, fun hr => ⟨by omega, fun x hx => ?_⟩⟩
    obtain ⟨i, hi, rfl⟩ := List.mem_iff_getElem.1 hx
    exact h4 hr i hi (by omega)
theorem toRank_loop (l : List S111) (hl : l.length ≤ 1048576) (d : Nat) : ∀ (k j : Nat) (m : List S92), m.length = l.length → m.take j = (l.map toRank).take j → j ≤ l.length → l.length - j = d → d < k →
    laws_toRankS.l0 k l m (j : Int) = some (l.map toRank) := by
  induction d with
  | zero =>
    intro k j m hm ht hj hd hk
    obtain ⟨k, rfl⟩ : ∃ m, k = m + 1 := ⟨k - 1, by omega⟩
    simp only [laws_toRankS.l0]
    rw [if_neg (by omega)]
    obtain rfl : j = l.length := by omega
    rw [← hm, List.take_length, hm, List.take_of_length_le (by simp)] at ht
    rw [ht]
  | succ d ih =>
    intro k j m hm ht hj hd hk
    obtain ⟨k, rfl⟩ : ∃ m, k = m + 1 := ⟨k - 1, by omega⟩
    simp only [laws_toRankS.l0]
    rw [if_pos (by omega), if_pos (by omega), show rd_T111 l (j : Int) = l[j] from rdOf_at _ l j (by omega)]
    simp only [laws_toRank.f, Option.bind_some]
    rw [if_pos (by omega), show wrap64 ((j : Int) + 1) = ((j + 1 : Nat) : Int) by unfold wrap64; omega]
    refine ih k (j + 1) _ (by simpa using hm) ?_ (by omega) (by omega) (by omega)
    rw [show ((j : Int)).toNat = j by omega]
    apply List.ext_getElem?
    intro i
    rcases Nat.lt_trichotomy i j with h | h | h
    · have := congrArg (fun q => q[i]?) ht
      simp only [List.getElem?_take, h, if_true] at this
      rw [List.getElem?_take, List.getElem?_take, if_pos (by omega), if_pos (by omega), List.getElem?_set_ne (by omega)]
      exact this
    · subst h
      rw [List.getElem?_take, List.getElem?_take, if_pos (by omega), if_pos (by omega), List.getElem?_set_self (by omega), List.getElem?_map, List.getElem?_eq_getElem (by omega)]
      rfl
    · rw [List.getElem?_take, List.getElem?_take, if_neg (by omega), if_neg (by omega)]
theorem toRankS (l : List S111) (hl : l.length ≤ 1048576) (k : Nat) (hk : l.length < k) : laws_toRankS.f k l = some (l.map toRank) := by
  unfold laws_toRankS.f
  rw [if_pos (by omega), if_pos (by omega)]
  exact toRank_loop l hl l.length k 0 _ (by simp) (by simp) (by omega) (by omega) hk
theorem eqRank (x : S92) : laws_eqRank.f x.f0 x.f1 x.f0 x.f1 = some true := by simp [laws_eqRank.f]
theorem eqRank_loop (l : List S92) (hl : l.length ≤ 1048576) (d : Nat) : ∀ (k j : Nat), j ≤ l.length → l.length - j = d → d < k → laws_eqRankS.l0 k l l (j : Int) = some true := by
  induction d with
  | zero =>
    intro k j hj hd hk
    obtain ⟨k, rfl⟩ : ∃ m, k = m + 1 := ⟨k - 1, by omega⟩
    simp only [laws_eqRankS.l0]
    rw [if_neg (by omega)]
  | succ d ih =>
    intro k j hj hd hk
    obtain ⟨k, rfl⟩ : ∃ m, k = m + 1 := ⟨k - 1, by omega⟩
    simp only [laws_eqRankS.l0]
    rw [if_pos (by omega), if_pos (by omega), if_pos (by omega), eqRank, Option.bind_some, if_pos rfl, show wrap64 ((j : Int) + 1) = ((j + 1 : Nat) : Int) by unfold wrap64; omega]
    exact ih k (j + 1) (by omega) (by omega) (by omega)
theorem eqRankS (l : List S92) (hl : l.length ≤ 1048576) (k : Nat) (hk : l.length < k) : laws_eqRankS.f k l l = some true := by
  unfold laws_eqRankS.f
  rw [if_pos rfl]
  exact eqRank_loop l hl l.length k 0 (by omega) (by omega) hk
end Go.Proofs.YtgjecacalpaacaaDoor.Rws
set_option linter.unusedVariables false
namespace Go.Proofs.YtgjecacalpaacaaDoor.Room
open Go.RowKit Go.Proofs.YtgjecacalpaacaaDoor.PAll Go.Proofs.YtgjecacalpaacaaDoorW.PrintWords Go.Proofs.YtgjecacalpaacaaDoorW.PrintLast Go.Proofs.YtgjecacalpaacaaDoorW.PrintMore Go.Proofs.YtgjecacalpaacaaDoorW.XWords
open Go.Proofs.YtgjecacalpaacaaDoor.Text Go.Proofs.YtgjecacalpaacaaDoor.Words
abbrev SM := S89
abbrev SK := S92
theorem rdM (l : List SM) (j : Nat) (h : j < l.length) : rd_T89 l (j : Int) = l[j] := Rws.rdOf_at _ l j h
theorem rdK (l : List SK) (j : Nat) (h : j < l.length) : rd_T92 l (j : Int) = l[j] := Rws.rdOf_at _ l j h
theorem wrap_up (j n : Nat) (h : j < n) (hn : n ≤ 1048576) : wrap64 ((j : Int) + 1) = ((j + 1 : Nat) : Int) := by unfold wrap64; omega
theorem idx_at {α : Type} (p : α → Bool) (l : List α) (j : Nat) (h : j < l.length) : idxF p (l.drop j) (j : Int) = if p l[j] = true then (j : Int) else idxF p (l.drop (j + 1)) ((j + 1 : Nat) : Int) := by
  rw [List.drop_eq_getElem_cons h]
  rfl
theorem of_loop (n : ByteArray) (q : Int) (ms : List SM) (ks : List SK) (s u : ByteArray) (hl : ms.length ≤ 1048576) (d : Nat) : ∀ (k j : Nat), j ≤ ms.length → ms.length - j = d → d < k →
    spec_l6Of.l0 k u (j : Int) n q ms ks s = some (idxF (fun x : SM => x.f0.toList == u.toList) (ms.drop j) (j : Int)) := by
  induction d with
  | zero =>
    intro k j hj hd hk
    obtain ⟨k, rfl⟩ : ∃ m, k = m + 1 := ⟨k - 1, by omega⟩
    simp only [spec_l6Of.l0]
    rw [if_neg (by omega), List.drop_of_length_le (by omega)]
    rfl
  | succ d ih =>
    intro k j hj hd hk
    obtain ⟨k, rfl⟩ : ∃ m, k = m + 1 := ⟨k - 1, by omega⟩
    simp only [spec_l6Of.l0]
    rw [if_pos (by omega), if_pos (by omega), rdM ms j (by omega), idx_at _ ms j (by omega), wrap_up j ms.length (by omega) hl, ih k (j + 1) (by omega) (by omega) (by omega)]
    by_cases h : ms[j].f0.toList = u.toList
    · rw [if_pos h, if_pos (beq_iff_eq.mpr h)]
    · rw [if_neg h, if_neg (fun e => h (beq_iff_eq.mp e))]
theorem nick_loop (n : ByteArray) (q : Int) (ms : List SM) (ks : List SK) (s u : ByteArray) (hl : ms.length ≤ 1048576) (d : Nat) : ∀ (k j : Nat), j ≤ ms.length → ms.length - j = d → d < k →
    spec_l6Nick.l0 k u (j : Int) n q ms ks s = some (idxF (fun x : SM => x.f1.toList == u.toList) (ms.drop j) (j : Int)) := by
  induction d with
  | zero =>
    intro k j hj hd hk
    obtain ⟨k, rfl⟩ : ∃ m, k = m + 1 := ⟨k - 1, by omega⟩
    simp only [spec_l6Nick.l0]
    rw [if_neg (by omega), List.drop_of_length_le (by omega)]
    rfl
  | succ d ih =>
    intro k j hj hd hk
    obtain ⟨k, rfl⟩ : ∃ m, k = m + 1 := ⟨k - 1, by omega⟩
    simp only [spec_l6Nick.l0]
    rw [if_pos (by omega), if_pos (by omega), rdM ms j (by omega), idx_at _ ms j (by omega), wrap_up j ms.length (by omega) hl, ih k (j + 1) (by omega) (by omega) (by omega)]
    by_cases h : ms[j].f1.toList = u.toList
    · rw [if_pos h, if_pos (beq_iff_eq.mpr h)]
    · rw [if_neg h, if_neg (fun e => h (beq_iff_eq.mp e))]
def rankB : List SK → ByteArray → Int
  | [], _ => 1
  | x :: t, u => if x.f0.toList = u.toList then x.f1 else rankB t u
theorem rank_at (ks : List SK) (u : ByteArray) (j : Nat) (h : j < ks.length) : rankB (ks.drop j) u = if ks[j].f0.toList = u.toList then ks[j].f1 else rankB (ks.drop (j + 1)) u := by
  rw [List.drop_eq_getElem_cons h]
  rfl
theorem rank_s (n : ByteArray) (q : Int) (ms : List SM) (ks : List SK) (s u : ByteArray) (hl : ks.length ≤ 1048576) (d : Nat) : ∀ (k j : Nat), j ≤ ks.length → ks.length - j = d → d < k →
    spec_l6Rank.l0 k u (j : Int) n q ms ks s = some (rankB (ks.drop j) u) := by
  induction d with
  | zero =>
    intro k j hj hd hk
    obtain ⟨k, rfl⟩ : ∃ m, k = m + 1 := ⟨k - 1, by omega⟩
    simp only [spec_l6Rank.l0]
    rw [if_neg (by omega), List.drop_of_length_le (by omega)]
    rfl
  | succ d ih =>
    intro k j hj hd hk
    obtain ⟨k, rfl⟩ : ∃ m, k = m + 1 := ⟨k - 1, by omega⟩
    simp only [spec_l6Rank.l0]
    rw [if_pos (by omega), if_pos (by omega), rdK ks j (by omega), rank_at ks u j (by omega), wrap_up j ks.length (by omega) hl, ih k (j + 1) (by omega) (by omega) (by omega)]
    by_cases h : ks[j].f0.toList = u.toList
    · rw [if_pos h, if_pos h]
    · rw [if_neg h, if_neg h]
theorem rank_i (ks : List SK) (u : ByteArray) (hl : ks.length ≤ 1048576) (d : Nat) : ∀ (k j : Nat), j ≤ ks.length → ks.length - j = d → d < k →
    impl_Room_rank.l0 k u ks (ks.length : Int) (j : Int) = some (rankB (ks.drop j) u) := by
  induction d with
  | zero =>
    intro k j hj hd hk
    obtain ⟨k, rfl⟩ : ∃ m, k = m + 1 := ⟨k - 1, by omega⟩
    simp only [impl_Room_rank.l0]
    rw [if_neg (by omega), List.drop_of_length_le (by omega)]
    rfl
  | succ d ih =>
    intro k j hj hd hk
    obtain ⟨k, rfl⟩ : ∃ m, k = m + 1 := ⟨k - 1, by omega⟩
    simp only [impl_Room_rank.l0]
    rw [if_pos (by omega), if_pos (by omega), if_pos (by omega), rdK ks j (by omega), rank_at ks u j (by omega), wrap_up j ks.length (by omega) hl, ih k (j + 1) (by omega) (by omega) (by omega)]
    by_cases h : ks[j].f0.toList = u.toList
    · rw [if_pos h, if_pos h]
    · rw [if_neg h, if_neg h]
def ownB : List SK → Nat
  | [] => 0
  | x :: t => (if x.f1 = 4 then 1 else 0) + ownB t
theorem own_at (ks : List SK) (j : Nat) (h : j < ks.length) : ownB (ks.drop j) = (if ks[j].f1 = 4 then 1 else 0) + ownB (ks.drop (j + 1)) := by
  rw [List.drop_eq_getElem_cons h]
  rfl
theorem own_s (n : ByteArray) (q : Int) (ms : List SM) (ks : List SK) (s : ByteArray) (hl : ks.length ≤ 1048576) (d : Nat) : ∀ (k j c : Nat), j ≤ ks.length → c ≤ j → ks.length - j = d → d < k →
    spec_l6Owners.l0 k (c : Int) (j : Int) n q ms ks s = some ((c + ownB (ks.drop j) : Nat) : Int) := by
  induction d with
  | zero =>
    intro k j c hj hc hd hk
    obtain ⟨k, rfl⟩ : ∃ m, k = m + 1 := ⟨k - 1, by omega⟩
    simp only [spec_l6Owners.l0]
    rw [if_neg (by omega), List.drop_of_length_le (by omega)]
    rfl
  | succ d ih =>
    intro k j c hj hc hd hk
    obtain ⟨k, rfl⟩ : ∃ m, k = m + 1 := ⟨k - 1, by omega⟩
    simp only [spec_l6Owners.l0]
    rw [if_pos (by omega), if_pos (by omega), rdK ks j (by omega), own_at ks j (by omega), wrap_up j ks.length (by omega) hl, wrap_up c ks.length (by omega) hl]
    by_cases h : ks[j].f1 = 4
    · rw [if_pos h, if_pos h, ih k (j + 1) (c + 1) (by omega) (by omega) (by omega) (by omega)]
      congr 2
      omega
    · rw [if_neg h, if_neg h, ih k (j + 1) c (by omega) (by omega) (by omega) (by omega)]
      congr 2
      omega
theorem own_i (ks : List SK) (hl : ks.length ≤ 1048576) (d : Nat) : ∀ (k j c : Nat), j ≤ ks.length → c ≤ j → ks.length - j = d → d < k →
    impl_Room_owners.l0 k (c : Int) ks (ks.length : Int) (j : Int) = some ((c + ownB (ks.drop j) : Nat) : Int) := by
  induction d with
  | zero =>
    intro k j c hj hc hd hk
    obtain ⟨k, rfl⟩ : ∃ m, k = m + 1 := ⟨k - 1, by omega⟩
    simp only [impl_Room_owners.l0]
    rw [if_neg (by omega), List.drop_of_length_le (by omega)]
    rfl
  | succ d ih =>
    intro k j c hj hc hd hk
    obtain ⟨k, rfl⟩ : ∃ m, k = m + 1 := ⟨k - 1, by omega⟩
    simp only [impl_Room_owners.l0]
    rw [if_pos (by omega), if_pos (by omega), if_pos (by omega), rdK ks j (by omega), own_at ks j (by omega), wrap_up j ks.length (by omega) hl, wrap_up c ks.length (by omega) hl]
    by_cases h : ks[j].f1 = 4
    · rw [if_pos h, if_pos h, ih k (j + 1) (c + 1) (by omega) (by omega) (by omega) (by omega)]
      congr 2
      omega
    · rw [if_neg h, if_neg h, ih k (j + 1) c (by omega) (by omega) (by omega) (by omega)]
      congr 2
      omega
def memB (ms : List SM) (ks : List SK) : List SM → Int → Bool
  | [], _ => true
  | x :: t, i => userB x.f0 && (nickB x.f1 && ((idxF (fun y : SM => y.f0.toList == x.f0.toList) ms 0 == i) && ((idxF (fun y : SM => y.f1.toList == x.f1.toList) ms 0 == i) && (inB x.f2 1 3 && ((!(rankB ks x.f0 == 0)) && memB ms ks t (i + 1))))))
def rksB : List SK → Option ByteArray → Bool
  | [], _ => true
  | x :: t, p => userB x.f0 && (impl_RoomOk.less p x.f0 && (inB x.f1 0 4 && ((!(x.f1 == 1)) && rksB t (some x.f0))))
def MS (ms : List SM) : Prop := ∀ x ∈ ms, x.f0.size ≤ 1048576 ∧ x.f1.size ≤ 1048576
def KS (ks : List SK) : Prop := ∀ x ∈ ks, x.f0.size ≤ 1048576
theorem mem_i (n : ByteArray) (q : Int) (ms : List SM) (ks : List SK) (s : ByteArray) (hk : ks.length ≤ 1048576) (k : Nat) (kk : 1048577 < k) : ∀ (t : List SM), MS t → ∀ i : Int,
    impl_RoomOk.mem k n q ms ks s t i = some (memB ms ks t i)
  | [], _, _ => rfl
  | x :: t, ht, i => by
    have hx := ht x (List.mem_cons_self ..)
    simp only [impl_RoomOk.mem]
    rw [impl_user x.f0 (by omega), Option.bind_some, impl_nick x.f1 (by omega) k (by omega), Option.bind_some]
    simp only [impl_Room_member.f, impl_Room_nick.f, Option.bind_some]
    rw [within_eq', Option.bind_some, show impl_Room_rank.f k n q ms ks s x.f0 = some (rankB ks x.f0) from rank_i ks x.f0 hk ks.length k 0 (by omega) (by omega) (by omega), Option.bind_some, mem_i n q ms ks s hk k kk t (fun y hy => ht y (List.mem_cons_of_mem _ hy)) (i + 1), Option.bind_some]
    rfl
theorem mem_s (n : ByteArray) (q : Int) (ms : List SM) (ks : List SK) (s : ByteArray) (hm : MS ms) (hl : ms.length ≤ 1048576) (hk : ks.length ≤ 1048576) (d : Nat) : ∀ (k j : Nat), j ≤ ms.length → ms.length - j = d → d + 3000000 < k →
    spec_l6MembersOk.l0 k (j : Int) n q ms ks s = some (memB ms ks (ms.drop j) (j : Int) && decide ((ms.length : Int) ≤ 5)) := by
  induction d with
  | zero =>
    intro k j hj hd hk'
    obtain ⟨k, rfl⟩ : ∃ m, k = m + 1 := ⟨k - 1, by omega⟩
    simp only [spec_l6MembersOk.l0]
    rw [if_neg (by omega), List.drop_of_length_le (by omega)]
    rfl
  | succ d ih =>
    intro k j hj hd hk'
    obtain ⟨k, rfl⟩ : ∃ m, k = m + 1 := ⟨k - 1, by omega⟩
    have hx := hm ms[j] (List.getElem_mem (by omega))
    simp only [spec_l6MembersOk.l0]
    rw [if_pos (by omega), if_pos (by omega), rdM ms j (by omega), spec_user _ (by omega) k (by omega), Option.bind_some, spec_nick _ (by omega) k (by omega), Option.bind_some, in_eq', Option.bind_some,
      show spec_l6Of.f k n q ms ks s ms[j].f0 = some (idxF (fun x : SM => x.f0.toList == ms[j].f0.toList) ms 0) from of_loop n q ms ks s ms[j].f0 hl ms.length k 0 (by omega) (by omega) (by omega), Option.bind_some,
      show spec_l6Nick.f k n q ms ks s ms[j].f1 = some (idxF (fun x : SM => x.f1.toList == ms[j].f1.toList) ms 0) from nick_loop n q ms ks s ms[j].f1 hl ms.length k 0 (by omega) (by omega) (by omega), Option.bind_some,
      show spec_l6Rank.f k n q ms ks s ms[j].f0 = some (rankB ks ms[j].f0) from rank_s n q ms ks s ms[j].f0 hk ks.length k 0 (by omega) (by omega) (by omega), Option.bind_some,
      wrap_up j ms.length (by omega) hl, ih k (j + 1) (by omega) (by omega) (by omega), List.drop_eq_getElem_cons (show j < ms.length by omega)]
    simp only [memB]
    rw [show (((j + 1 : Nat) : Int)) = (j : Int) + 1 by omega]
    generalize userB ms[j].f0 = b1
    generalize nickB ms[j].f1 = b2
    generalize inB ms[j].f2 1 3 = b3
    generalize memB ms ks (ms.drop (j + 1)) ((j : Int) + 1) = b4
    generalize idxF (fun x : SM => x.f0.toList == ms[j].f0.toList) ms 0 = i1
    generalize idxF (fun x : SM => x.f1.toList == ms[j].f1.toList) ms 0 = i2
    generalize rankB ks ms[j].f0 = i3
    by_cases e1 : i1 = (j : Int) <;> by_cases e2 : i2 = (j : Int) <;> by_cases e3 : i3 = 0 <;> cases b1 <;> cases b2 <;> cases b3 <;> first | (simp [e1, e2, beq_eq_false_iff_ne.mpr e3, e3]; done) | (simp [e1, e2, e3]; done)
theorem rks_i : ∀ (t : List SK), KS t → ∀ p : Option ByteArray, impl_RoomOk.rks t p = some (rksB t p)
  | [], _, _ => rfl
  | x :: t, ht, p => by
    have hx := ht x (List.mem_cons_self ..)
    simp only [impl_RoomOk.rks]
    rw [impl_user x.f0 (by omega), Option.bind_some, within_eq', Option.bind_some, rks_i t (fun y hy => ht y (List.mem_cons_of_mem _ hy)) _, Option.bind_some]
    rfl
theorem rks_s (n : ByteArray) (q : Int) (ms : List SM) (ks : List SK) (s : ByteArray) (hm : KS ks) (hk : ks.length ≤ 1048576) (d : Nat) : ∀ (k j : Nat), j ≤ ks.length → ks.length - j = d → d + 3000000 < k →
    spec_l6RanksOk.l0 k (j : Int) n q ms ks s = some (rksB (ks.drop j) (impl_RoomOk.prev ks j) && decide ((ks.length : Int) ≤ 6)) := by
  induction d with
  | zero =>
    intro k j hj hd hk'
    obtain ⟨k, rfl⟩ : ∃ m, k = m + 1 := ⟨k - 1, by omega⟩
    simp only [spec_l6RanksOk.l0]
    rw [if_neg (by omega), List.drop_of_length_le (by omega)]
    rfl
  | succ d ih =>
    intro k j hj hd hk'
    obtain ⟨k, rfl⟩ : ∃ m, k = m + 1 := ⟨k - 1, by omega⟩
    have hx := hm ks[j] (List.getElem_mem (by omega))
    have hp : impl_RoomOk.prev ks (j + 1) = some ks[j].f0 := by
      unfold impl_RoomOk.prev
      rw [if_neg (by omega), show (((j + 1 : Nat) : Int) - 1) = (j : Int) by omega, rdK ks j (by omega)]
    have hI := ih k (j + 1) (by omega) (by omega) (by omega)
    rw [hp] at hI
    simp only [spec_l6RanksOk.l0]
    rw [if_pos (by omega), if_pos (by omega), rdK ks j (by omega), spec_user _ (by omega) k (by omega), Option.bind_some, in_eq', Option.bind_some, wrap_up j ks.length (by omega) hk, hI, List.drop_eq_getElem_cons (show j < ks.length by omega)]
    simp only [rksB]
    generalize userB ks[j].f0 = b1
    generalize inB ks[j].f1 0 4 = b3
    generalize rksB (ks.drop (j + 1)) (some ks[j].f0) = b4
    by_cases h0 : j = 0
    · have hl : impl_RoomOk.less (impl_RoomOk.prev ks j) ks[j].f0 = true := by unfold impl_RoomOk.prev; rw [if_pos h0]; rfl
      rw [hl, if_neg (show ¬ (j : Int) > 0 by omega)]
      by_cases e1 : ks[j].f1 = 1 <;> cases b1 <;> cases b3 <;> first | (simp [beq_eq_false_iff_ne.mpr e1, e1]; done) | (simp [e1]; done)
    · have hw : wrap64 ((j : Int) - 1) = ((j - 1 : Nat) : Int) := by unfold wrap64; omega
      have hl : impl_RoomOk.less (impl_RoomOk.prev ks j) ks[j].f0 = Op.bytesLess ks[j - 1].f0.toList ks[j].f0.toList := by
        unfold impl_RoomOk.prev
        rw [if_neg h0, show ((j : Int) - 1) = ((j - 1 : Nat) : Int) by omega, rdK ks (j - 1) (by omega)]
        rfl
      rw [hl, if_pos (show (j : Int) > 0 by omega), hw, if_pos (show (0 : Int) ≤ ((j - 1 : Nat) : Int) by omega), if_pos (show ((j - 1 : Nat) : Int) < (ks.length : Int) by omega), rdK ks (j - 1) (by omega)]
      generalize Op.bytesLess ks[j - 1].f0.toList ks[j].f0.toList = b2
      by_cases e1 : ks[j].f1 = 1 <;> cases b1 <;> cases b2 <;> cases b3 <;> first | (simp [beq_eq_false_iff_ne.mpr e1, e1]; done) | (simp [e1]; done)
def orBodyB (s : ByteArray) : Bool := emp s || bodyB s
theorem impl_orBody (s : ByteArray) (hs : s.size ≤ 140737488351232) (k : Nat) (hk : s.size < k) : impl_orEmpty_impl_bodyOk.f k s = some (orBodyB s) := by
  unfold impl_orEmpty_impl_bodyOk.f orBodyB
  cases h : emp s with
  | true => rw [if_pos (Eq.mpr (toLn s) h)]; rfl
  | false => rw [if_neg (fun e => by have q := Eq.mp (toLn s) e; rw [h] at q; cases q), impl_body s hs k hk]; rfl
def tailB (q : Int) (ms : List SM) (ks : List SK) (s : ByteArray) : Bool := decide (0 < ((ownB ks : Nat) : Int)) || ((q == 0) && (decide (ms.length = 0) && (decide (ks.length = 0) && emp s)))
def roomB (n : ByteArray) (q : Int) (ms : List SM) (ks : List SK) (s : ByteArray) : Bool := userB n && (inB q 0 9999 && (orBodyB s && ((memB ms ks ms 0 && decide ((ms.length : Int) ≤ 5)) && ((rksB ks none && decide ((ks.length : Int) ≤ 6)) && tailB q ms ks s))))
theorem impl_room (n : ByteArray) (q : Int) (ms : List SM) (ks : List SK) (s : ByteArray) (hn : n.size ≤ 1048576) (hs : s.size ≤ 1048576) (hm : MS ms) (hk : KS ks) (hl : ms.length ≤ 1048576) (hl' : ks.length ≤ 1048576) (k : Nat) (kk : 5000000 < k) :
    impl_RoomOk.f k n q ms ks s = some (roomB n q ms ks s) := by
  unfold impl_RoomOk.f
  rw [impl_user n (by omega), Option.bind_some, within_eq', Option.bind_some, impl_orBody s (by omega) k (by omega), Option.bind_some, mem_i n q ms ks s hl' k (by omega) ms hm 0, Option.bind_some, rks_i ks hk none, Option.bind_some,
    show impl_Room_owners.f k n q ms ks s = some ((ownB ks : Nat) : Int) from (own_i ks hl' ks.length k 0 0 (by omega) (by omega) (by omega) (by omega)).trans (by rw [List.drop_zero, Nat.zero_add]), Option.bind_some]
  have h1 : decide ((ms.length : Int) ≤ 5) = decide (ms.length ≤ 5) := decide_eq_decide.mpr (by omega)
  have h2 : decide ((ks.length : Int) ≤ 6) = decide (ks.length ≤ 6) := decide_eq_decide.mpr (by omega)
  unfold roomB tailB impl_RoomOk.tail
  rw [h1, h2, toL s]
  generalize userB n = b1
  generalize inB q 0 9999 = b2
  generalize orBodyB s = b3
  generalize memB ms ks ms 0 = b4
  generalize decide (ms.length ≤ 5) = b5
  generalize rksB ks none = b6
  generalize decide (ks.length ≤ 6) = b7
  cases b1 <;> cases b2 <;> cases b3 <;> cases b4 <;> cases b5 <;> cases b6 <;> cases b7 <;> rfl
theorem tail_s (q : Int) (ms : List SM) (ks : List SK) (s : ByteArray) : (if ((ownB ks : Nat) : Int) > 0 then some true else (if q = 0 then (if (ms.length : Int) = 0 then (if (ks.length : Int) = 0 then some (emp s) else some false) else some false) else some false)) = some (tailB q ms ks s) := by
  unfold tailB
  by_cases c1 : ((ownB ks : Nat) : Int) > 0
  · rw [if_pos c1, decide_eq_true c1]; rfl
  rw [if_neg c1, decide_eq_false c1]
  by_cases c2 : q = 0
  · rw [if_pos c2, beq_iff_eq.mpr c2]
    by_cases c3 : (ms.length : Int) = 0
    · rw [if_pos c3, decide_eq_true (show ms.length = 0 by omega)]
      by_cases c4 : (ks.length : Int) = 0
      · rw [if_pos c4, decide_eq_true (show ks.length = 0 by omega)]; rfl
      · rw [if_neg c4, decide_eq_false (show ¬ ks.length = 0 by omega)]; rfl
    · rw [if_neg c3, decide_eq_false (show ¬ ms.length = 0 by omega)]; rfl
  · rw [if_neg c2, beq_eq_false_iff_ne.mpr c2]; rfl
theorem spec_room (n : ByteArray) (q : Int) (ms : List SM) (ks : List SK) (s : ByteArray) (hn : n.size ≤ 1048576) (hs : s.size ≤ 1048576) (hm : MS ms) (hk : KS ks) (hl : ms.length ≤ 1048576) (hl' : ks.length ≤ 1048576) (k : Nat) (kk : 5000000 < k) :
    spec_RoomOk.f k n q ms ks s = some (roomB n q ms ks s) := by
  unfold spec_RoomOk.f spec_l6Ok.f
  rw [spec_user n (by omega) k (by omega), Option.bind_some, in_eq', Option.bind_some, spec_body s (by omega) k (by omega), Option.bind_some,
    show spec_l6MembersOk.f k n q ms ks s = some (memB ms ks ms 0 && decide ((ms.length : Int) ≤ 5)) from mem_s n q ms ks s hm hl hl' ms.length k 0 (by omega) (by omega) (by omega), Option.bind_some,
    show spec_l6RanksOk.f k n q ms ks s = some (rksB ks none && decide ((ks.length : Int) ≤ 6)) from rks_s n q ms ks s hk hl' ks.length k 0 (by omega) (by omega) (by omega), Option.bind_some,
    show spec_l6Owners.f k n q ms ks s = some ((ownB ks : Nat) : Int) from (own_s n q ms ks s hl' ks.length k 0 0 (by omega) (by omega) (by omega) (by omega)).trans (by rw [List.drop_zero, Nat.zero_add]), Option.bind_some]
  simp only [toL, toLn]
  have ht := tail_s q ms ks s
  unfold roomB orBodyB
  generalize userB n = b1
  generalize inB q 0 9999 = b2
  generalize bodyB s = b3
  generalize (memB ms ks ms 0 && decide ((ms.length : Int) ≤ 5)) = b4
  generalize (rksB ks none && decide ((ks.length : Int) ≤ 6)) = b5
  rw [ht]
  generalize tailB q ms ks s = b6
  cases emp s <;> cases b1 <;> cases b2 <;> cases b3 <;> cases b4 <;> cases b5 <;> rfl
end Go.Proofs.YtgjecacalpaacaaDoor.Room
set_option linter.unusedVariables false
namespace Go.Proofs.YtgjecacalpaacaaDoor.Room
open Go.RowKit Go.Proofs.YtgjecacalpaacaaDoor.PAll Go.Proofs.YtgjecacalpaacaaDoorW.PrintWords Go.Proofs.YtgjecacalpaacaaDoorW.PrintLast Go.Proofs.YtgjecacalpaacaaDoorW.PrintMore Go.Proofs.YtgjecacalpaacaaDoorW.XWords
open Go.Proofs.YtgjecacalpaacaaDoor.Text Go.Proofs.YtgjecacalpaacaaDoor.Words Go.Proofs.YtgjecacalpaacaaDoor.Rws
abbrev LM := S109
abbrev LK := S111
theorem sz_room (n : ByteArray) (q : Int) (l2 : List LM) (l3 : List LK) (s : ByteArray) (hn : n.size ≤ maxLen) (h2 : l2.length ≤ maxLen) (hq2 : ∀ x ∈ l2, x.f0.size ≤ maxLen ∧ x.f1.size ≤ maxLen) (h3 : l3.length ≤ maxLen) (hq3 : ∀ x ∈ l3, x.f0.size ≤ maxLen) (hs : s.size ≤ maxLen) (x : Int) (x0 : 0 ≤ x) (x1 : x ≤ 1048576) (k : Nat) (k2 : l2.length < k) (k3 : l3.length < k) :
    ∃ z, laws_szRoom.f k n q l2 l3 s x = some z ∧ z ≤ x ∧ (0 ≤ z → n.size ≤ 1048576 ∧ s.size ≤ 1048576 ∧ l2.length ≤ 1048576 ∧ l3.length ≤ 1048576 ∧ (∀ x ∈ l2, x.f0.size ≤ 1048576 ∧ x.f1.size ≤ 1048576) ∧ (∀ x ∈ l3, x.f0.size ≤ 1048576)) := by
  unfold laws_szRoom.f
  have hn' := hn
  have hs' := hs
  unfold maxLen at hn' hs'
  rw [Wrap.wrap_in (x - (n.size : Int)) (by omega) (by omega)]
  by_cases c1 : x - (n.size : Int) < 0
  · rw [if_pos c1]
    exact ⟨-1, rfl, by omega, fun h => by omega⟩
  rw [if_neg c1]
  obtain ⟨z2, e2, b2, a2⟩ := szMemberS l2 h2 hq2 (x - (n.size : Int)) (by omega) (by omega) k k2
  rw [e2, Option.bind_some]
  by_cases c2 : z2 < 0
  · rw [if_pos c2]
    exact ⟨-1, rfl, by omega, fun h => by omega⟩
  rw [if_neg c2]
  obtain ⟨z3, e3, b3, a3⟩ := szRankS l3 h3 hq3 z2 (by omega) (by omega) k k3
  rw [e3, Option.bind_some]
  by_cases c3 : z3 < 0
  · rw [if_pos c3]
    exact ⟨-1, rfl, by omega, fun h => by omega⟩
  rw [if_neg c3, Wrap.wrap_in (z3 - (s.size : Int)) (by omega) (by omega)]
  by_cases c4 : z3 - (s.size : Int) < 0
  · rw [if_pos c4]
    exact ⟨-1, rfl, by omega, fun h => by omega⟩
  rw [if_neg c4]
  obtain ⟨p2, r2⟩ := a2 (by omega)
  obtain ⟨p3, r3⟩ := a3 (by omega)
  exact ⟨_, rfl, by omega, fun h => ⟨by omega, by omega, by omega, by omega, r2, r3⟩⟩
theorem to_room (n : ByteArray) (q : Int) (l2 : List LM) (l3 : List LK) (s : ByteArray) (h2 : l2.length ≤ 1048576) (h3 : l3.length ≤ 1048576) (k : Nat) (k2 : l2.length < k) (k3 : l3.length < k) :
    laws_toRoom.f k n q l2 l3 s = some (n, q, l2.map toMember, l3.map toRank, s) := by
  unfold laws_toRoom.f
  rw [toMemberS l2 h2 k k2, Option.bind_some, toRankS l3 h3 k k3, Option.bind_some]
theorem eq_room (n : ByteArray) (q : Int) (ms : List SM) (ks : List SK) (s : ByteArray) (h2 : ms.length ≤ 1048576) (h3 : ks.length ≤ 1048576) (k : Nat) (k2 : ms.length < k) (k3 : ks.length < k) :
    laws_eqRoom.f k n q ms ks s n q ms ks s = some true := by
  unfold laws_eqRoom.f
  rw [if_pos rfl, if_pos rfl, eqMemberS ms h2 k k2, Option.bind_some, if_pos rfl, eqRankS ks h3 k k3, Option.bind_some, if_pos rfl, if_pos rfl]
theorem ms_to (l : List LM) (h : ∀ x ∈ l, x.f0.size ≤ 1048576 ∧ x.f1.size ≤ 1048576) : MS (l.map toMember) := by
  intro y hy
  obtain ⟨x, hx, rfl⟩ := List.mem_map.1 hy
  exact h x hx
theorem ks_to (l : List LK) (h : ∀ x ∈ l, x.f0.size ≤ 1048576) : KS (l.map toRank) := by
  intro y hy
  obtain ⟨x, hx, rfl⟩ := List.mem_map.1 hy
  exact h x hx
end Go.Proofs.YtgjecacalpaacaaDoor.Room
namespace Go.Proofs.YtgjecacalpaacaaDoor.Pure
open Go.RowKit Go.Proofs.YtgjecacalpaacaaDoor.PAll Go.Proofs.YtgjecacalpaacaaDoorW.PrintWords Go.Proofs.YtgjecacalpaacaaDoorW.PrintLast Go.Proofs.YtgjecacalpaacaaDoorW.PrintMore Go.Proofs.YtgjecacalpaacaaDoorW.XWords
open Go.Proofs.YtgjecacalpaacaaDoor.Room
theorem FnExactRoomOk (n : ByteArray) (q : Int) (l2 : List LM) (l3 : List LK) (s : ByteArray) (hn : n.size ≤ maxLen) (_hq : (Lit.int .i64 q).wf = true) (h2 : l2.length ≤ maxLen) (hq2 : ∀ x ∈ l2, (x.f0.size ≤ maxLen ∧ x.f1.size ≤ maxLen ∧ (Lit.int .i64 x.f2).wf = true)) (h3 : l3.length ≤ maxLen) (hq3 : ∀ x ∈ l3, (x.f0.size ≤ maxLen ∧ (Lit.int .i64 x.f1).wf = true)) (hs : s.size ≤ maxLen) :
    ∃ k, laws_FnExactRoomOk.f k n q l2 l3 s = some true := by
  refine ⟨l2.length + l3.length + 6000000, ?_⟩
  obtain ⟨z, hz, hz1, hz2⟩ := sz_room n q l2 l3 s hn h2 (fun x hx => ⟨(hq2 x hx).1, (hq2 x hx).2.1⟩) h3 (fun x hx => (hq3 x hx).1) hs 1048576 (by omega) (by omega) (l2.length + l3.length + 6000000) (by omega) (by omega)
  unfold laws_FnExactRoomOk.f
  rw [hz, Option.bind_some]
  by_cases c : z < 0
  · rw [if_pos c]
  · rw [if_neg c]
    obtain ⟨a1, a2, a3, a4, a5, a6⟩ := hz2 (by omega)
    have m1 := ms_to l2 a5
    have m2 := ks_to l3 a6
    have n1 : (l2.map Rws.toMember).length = l2.length := List.length_map ..
    have n2 : (l3.map Rws.toRank).length = l3.length := List.length_map ..
    rw [to_room n q l2 l3 s a3 a4 _ (by omega) (by omega), Option.bind_some]
    simp only []
    rw [spec_room n q _ _ s a1 a2 m1 m2 (by omega) (by omega) _ (by omega), Option.bind_some, Option.bind_some]
    simp only []
    rw [impl_room n q _ _ s a1 a2 m1 m2 (by omega) (by omega) _ (by omega), Option.bind_some, bne_self_eq_false, if_neg (by decide), Option.bind_some]
    simp only []
    rw [eq_room n q _ _ s (by omega) (by omega) _ (by omega) (by omega), Option.bind_some, if_pos rfl]
end Go.Proofs.YtgjecacalpaacaaDoor.Pure
