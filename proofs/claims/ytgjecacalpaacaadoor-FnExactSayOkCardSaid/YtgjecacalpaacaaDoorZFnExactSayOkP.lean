-- the plain law: this session's
import Derived.Test.YtgjecacalpaacaaDoorZFnExactSayOkK1
import Derived.Test.YtgjecacalpaacaaDoorZFnExactSayOkK0
import Derived.Test.YtgjecacalpaacaaDoorZFnExactSayOkK3
import Derived.Test.YtgjecacalpaacaaDoorZFnExactSayOkK2
import Derived.Test.YtgjecacalpaacaaDoorZFnExactSayOkK4
import Derived.Test.YtgjecacalpaacaaDoorZFnExactSayOkK5
set_option linter.unusedVariables false
set_option linter.unusedSimpArgs false
namespace Go.Proofs.YtgjecacalpaacaaDoor.Text
open Go.RowKit Go.Proofs.YtgjecacalpaacaaDoor.PAll Go.Proofs.YtgjecacalpaacaaDoorW.PrintWords Go.Proofs.YtgjecacalpaacaaDoorW.PrintLast Go.Proofs.YtgjecacalpaacaaDoorW.PrintMore Go.Proofs.YtgjecacalpaacaaDoorW.XWords
open Go.Lib
abbrev cont (b : Nat) : Prop := 128 ≤ b ∧ b ≤ 191
abbrev sgN (n : Nat) : Prop := n = 9 ∨ n = 10 ∨ (32 ≤ n ∧ n ≤ 55295) ∨ (57344 ≤ n ∧ n ≤ 65533) ∨ (65536 ≤ n ∧ n ≤ 1114111)
def widN (a b c d : Nat) : Nat :=
  if a < 128 then (if a = 9 ∨ a = 10 ∨ 32 ≤ a then 1 else 0)
  else if 194 ≤ a ∧ a ≤ 223 then (if cont b then 2 else 0)
  else if 224 ≤ a ∧ a ≤ 239 then (if cont b ∧ cont c ∧ (a = 224 → 160 ≤ b) ∧ (a = 237 → b < 160) ∧ ¬ (a = 239 ∧ b = 191 ∧ 190 ≤ c) then 3 else 0)
  else if 240 ≤ a ∧ a ≤ 244 then (if cont b ∧ cont c ∧ cont d ∧ (a = 240 → 144 ≤ b) ∧ (a = 244 → b < 144) then 4 else 0)
  else 0
def valN (a b c d : Nat) : Nat := if a < 128 then a else if a < 224 then a % 32 * 64 + b % 64 else if a < 240 then a % 16 * 4096 + b % 64 * 64 + c % 64 else a % 8 * 262144 + b % 64 * 4096 + c % 64 * 64 + d % 64
set_option maxHeartbeats 4000000 in
theorem dec_wid (n a b c d : Nat) (hb : 1 < n ∨ b = 0) (hc : 2 < n ∨ c = 0) (hd : 3 < n ∨ d = 0) :
    (sgN (decodeN n a b c d).1 ∧ ((decodeN n a b c d).1 ≠ 65533 ∨ (decodeN n a b c d).2 = 3) → widN a b c d = (decodeN n a b c d).2 ∧ valN a b c d = (decodeN n a b c d).1) ∧
    (¬ (sgN (decodeN n a b c d).1 ∧ ((decodeN n a b c d).1 ≠ 65533 ∨ (decodeN n a b c d).2 = 3)) → widN a b c d = 0) := by
  unfold decodeN widN valN sgN
  by_cases h1 : a < 128
  · simp only [h1, if_true]
    constructor
    · intro h
      have h9 : a = 9 ∨ a = 10 ∨ 32 ≤ a := by have := h.1; omega
      exact ⟨if_pos h9, trivial⟩
    · intro h
      by_cases h9 : a = 9 ∨ a = 10 ∨ 32 ≤ a
      · exact absurd ⟨by omega, .inl (by omega)⟩ h
      · exact if_neg h9
  simp only [h1, if_false]
  by_cases h2 : a / 32 = 6 ∧ (1 < n ∧ b / 64 = 2)
  · rw [if_pos h2]
    constructor
    · intro h
      by_cases h3 : a % 32 * 64 + b % 64 ≥ 128
      · rw [if_pos h3] at h ⊢; dsimp only at h ⊢; repeat' split
        all_goals omega
      · rw [if_neg h3] at h; dsimp only at h; omega
    · intro h
      by_cases h3 : a % 32 * 64 + b % 64 ≥ 128
      · rw [if_pos h3] at h; dsimp only at h; repeat' split
        all_goals omega
      · repeat' split
        all_goals omega
  rw [if_neg h2]
  by_cases h4 : a / 16 = 14 ∧ (1 < n ∧ b / 64 = 2) ∧ (2 < n ∧ c / 64 = 2)
  · rw [if_pos h4]
    constructor
    · intro h
      split at h
      · rename_i h3; rw [if_pos h3]; dsimp only at h ⊢; repeat' split
        all_goals omega
      · dsimp only at h; omega
    · intro h
      split at h
      · dsimp only at h; repeat' split
        all_goals omega
      · repeat' split
        all_goals omega
  rw [if_neg h4]
  by_cases h5 : a / 8 = 30 ∧ (1 < n ∧ b / 64 = 2) ∧ (2 < n ∧ c / 64 = 2) ∧ (3 < n ∧ d / 64 = 2)
  · rw [if_pos h5]
    constructor
    · intro h
      split at h
      · rename_i h3; rw [if_pos h3]; dsimp only at h ⊢; repeat' split
        all_goals omega
      · dsimp only at h; omega
    · intro h
      split at h
      · dsimp only at h; repeat' split
        all_goals omega
      · repeat' split
        all_goals omega
  rw [if_neg h5]
  constructor
  · intro h; dsimp only at h; omega
  · intro h; repeat' split
    all_goals omega
theorem dec_bound (n a b c d : Nat) (hn : 0 < n) : 1 ≤ (decodeN n a b c d).2 ∧ (decodeN n a b c d).2 ≤ n ∧ (decodeN n a b c d).1 ≤ 2097152 := by
  unfold decodeN
  repeat' split
  all_goals (dsimp only; omega)
def b4 (s : ByteArray) (i : Nat) : Nat := (bt s (i : Int)).toNat
theorem b4_cast (s : ByteArray) (i : Nat) : (b4 s i : Int) = bt s (i : Int) := by
  have := bt_range s (i : Int)
  unfold b4
  omega
theorem b4_lt (s : ByteArray) (i : Nat) : b4 s i < 256 := by
  have := bt_range s (i : Int)
  unfold b4
  omega
theorem b4_out (s : ByteArray) (i : Nat) (h : s.size ≤ i) : b4 s i = 0 := by
  unfold b4 bt
  rw [dif_neg (by simp; omega)]
  rfl
theorem b4_in (s : ByteArray) (i : Nat) (h : i < s.size) : b4 s i = (s[i]'h).toNat := by
  unfold b4 bt
  rw [dif_pos (by simpa using h)]
  simp
theorem get_b4 (s : ByteArray) (i : Nat) : (s.get! i).toNat = b4 s i := by
  by_cases h : i < s.size
  · rw [b4_in s i h]
    have e : s.get! i = s[i]'h := by
      obtain ⟨d⟩ := s
      exact getElem!_pos d i h
    rw [e]
  · rw [b4_out s i (by omega)]
    have e : s.get! i = default := by
      obtain ⟨d⟩ := s
      exact getElem!_neg d i h
    rw [e]
    rfl
theorem b4_extract (s : ByteArray) (i n j : Nat) (hn : n ≤ s.size) : b4 (s.extract i n) j = if i + j < n then b4 s (i + j) else 0 := by
  by_cases h : i + j < n
  · rw [if_pos h, b4_in _ j (by rw [ByteArray.size_extract]; omega), b4_in s (i + j) (by omega), ByteArray.getElem_extract]
  · rw [if_neg h, b4_out _ j (by rw [ByteArray.size_extract]; omega)]
def wid (s : ByteArray) (i : Nat) : Nat := widN (b4 s i) (b4 s (i + 1)) (b4 s (i + 2)) (b4 s (i + 3))
def val (s : ByteArray) (i : Nat) : Nat := valN (b4 s i) (b4 s (i + 1)) (b4 s (i + 2)) (b4 s (i + 3))
theorem wid_le (s : ByteArray) (i : Nat) (h : i < s.size) : i + wid s i ≤ s.size := by
  have h1 : 1 < s.size - i ∨ b4 s (i + 1) = 0 := by
    rcases Nat.lt_or_ge 1 (s.size - i) with q | q
    · exact .inl q
    · exact .inr (b4_out s _ (by omega))
  have h2 : 2 < s.size - i ∨ b4 s (i + 2) = 0 := by
    rcases Nat.lt_or_ge 2 (s.size - i) with q | q
    · exact .inl q
    · exact .inr (b4_out s _ (by omega))
  have h3 : 3 < s.size - i ∨ b4 s (i + 3) = 0 := by
    rcases Nat.lt_or_ge 3 (s.size - i) with q | q
    · exact .inl q
    · exact .inr (b4_out s _ (by omega))
  unfold wid widN
  repeat' split
  all_goals omega
def okAt : Nat → ByteArray → Nat → Bool
  | 0, _, _ => true
  | f + 1, s, i => if s.size ≤ i then true else if wid s i = 0 then false else okAt f s (i + wid s i)
theorem okAt_more (s : ByteArray) : ∀ (f g i : Nat), s.size - i ≤ f → s.size - i ≤ g → okAt f s i = okAt g s i := by
  intro f
  induction f with
  | zero =>
    intro g i hf _
    cases g with
    | zero => rfl
    | succ g => simp only [okAt]; rw [if_pos (by omega)]
  | succ f ih =>
    intro g i hf hg
    cases g with
    | zero => simp only [okAt]; rw [if_pos (by omega)]
    | succ g =>
      simp only [okAt]
      by_cases h : s.size ≤ i
      · rw [if_pos h, if_pos h]
      · rw [if_neg h, if_neg h]
        by_cases hz : wid s i = 0
        · rw [if_pos hz, if_pos hz]
        · rw [if_neg hz, if_neg hz]
          exact ih g _ (by omega) (by omega)
def ok (s : ByteArray) : Bool := okAt s.size s 0
theorem ok_step (s : ByteArray) (i : Nat) : okAt (s.size - i) s i = if s.size ≤ i then true else if wid s i = 0 then false else okAt (s.size - (i + wid s i)) s (i + wid s i) := by
  by_cases h : s.size ≤ i
  · rw [if_pos h, show s.size - i = 0 by omega]
    rfl
  · rw [if_neg h]
    obtain ⟨m, hm⟩ : ∃ m, s.size - i = m + 1 := ⟨s.size - i - 1, by omega⟩
    rw [hm]
    simp only [okAt]
    rw [if_neg h]
    by_cases hz : wid s i = 0
    · rw [if_pos hz, if_pos hz]
    · rw [if_neg hz, if_neg hz]
      exact okAt_more s _ _ _ (by omega) (by omega)
theorem within_eq (n lo hi : Int) : impl_within.f n lo hi = some (decide (lo ≤ n) && decide (n ≤ hi)) := by
  unfold impl_within.f
  split <;> rw [Option.some.injEq, Bool.eq_iff_iff] <;> simp <;> omega
theorem in_eq (n lo hi : Int) : spec_l1In.f n lo hi = some (decide (lo ≤ n) && decide (n ≤ hi)) := by
  unfold spec_l1In.f
  split <;> rw [Option.some.injEq, Bool.eq_iff_iff] <;> simp <;> omega
theorem sign_impl (n : Nat) : impl_signOk.f (n : Int) = some (decide (sgN n)) := by
  unfold impl_signOk.f
  simp only [within_eq, Option.bind_some]
  (repeat' split) <;> rw [Option.some.injEq, Bool.eq_iff_iff] <;> simp_all <;> omega
theorem sign_spec (n : Nat) : spec_l1Sign.f (n : Int) = some (decide (sgN n)) := by
  unfold spec_l1Sign.f
  simp only [in_eq, Option.bind_some]
  (repeat' split) <;> rw [Option.some.injEq, Bool.eq_iff_iff] <;> simp_all <;> omega
theorem wrap_small (n : Nat) (h : n ≤ 9223372036854775807) : wrap64 (n : Int) = (n : Int) := by unfold wrap64; omega
theorem sign_eq (s : ByteArray) (h : 0 < s.size) : ∃ m : Nat, m ≤ s.size ∧ impl_sign.f s = some (s.extract 0 m, decide (0 < wid s 0)) ∧ (0 < wid s 0 → m = wid s 0) := by
  have hd : Lib.decodeGo s = decodeN (s.size - 0) (b4 s 0) (b4 s 1) (b4 s 2) (b4 s 3) := by
    unfold Lib.decodeGo
    rw [if_neg (by omega), decode_at, get_b4, get_b4, get_b4, get_b4]
  obtain ⟨q1, q2, q3⟩ := dec_bound (s.size - 0) (b4 s 0) (b4 s 1) (b4 s 2) (b4 s 3) (by omega)
  have hw := dec_wid (s.size - 0) (b4 s 0) (b4 s 1) (b4 s 2) (b4 s 3)
    (by rcases Nat.lt_or_ge 1 (s.size - 0) with q | q; exact .inl q; exact .inr (b4_out s _ (by omega)))
    (by rcases Nat.lt_or_ge 2 (s.size - 0) with q | q; exact .inl q; exact .inr (b4_out s _ (by omega)))
    (by rcases Nat.lt_or_ge 3 (s.size - 0) with q | q; exact .inl q; exact .inr (b4_out s _ (by omega)))
  have hww : wid s 0 = widN (b4 s 0) (b4 s 1) (b4 s 2) (b4 s 3) := rfl
  unfold impl_sign.f utf8_DecodeRuneInString.f
  rw [Option.bind_some, hd]
  generalize hD : decodeN (s.size - 0) (b4 s 0) (b4 s 1) (b4 s 2) (b4 s 3) = D at hw q1 q2 q3
  obtain ⟨R, K⟩ := D
  dsimp only at hw q1 q2 q3 ⊢
  refine ⟨K, by omega, ?_, ?_⟩
  · rw [if_pos (by omega), if_pos (by omega), wrap_small R (by omega), sign_impl, Option.bind_some, hww, Int.toNat_natCast]
    by_cases hs : sgN R
    · rw [if_pos (by simpa using hs)]
      by_cases h5 : R = 65533
      · rw [if_pos (by omega)]
        by_cases hk : K = 3
        · rw [(hw.1 ⟨hs, .inr hk⟩).1, hk]
          rfl
        · rw [hw.2 (fun z => z.2.elim (fun z => z h5) hk), show ((K : Int) == 3) = false from by rw [beq_eq_false_iff_ne]; omega]
          rfl
      · rw [if_neg (by omega), (hw.1 ⟨hs, .inl h5⟩).1, show decide (0 < K) = true from decide_eq_true (by omega)]
    · rw [if_neg (by simpa using hs), hw.2 (fun z => hs z.1)]
      rfl
  · intro hp
    rw [hww] at hp ⊢
    by_cases hs : sgN R ∧ (R ≠ 65533 ∨ K = 3)
    · exact (hw.1 hs).1.symm
    · rw [hw.2 hs] at hp
      omega
theorem toList_empty (s : ByteArray) : s.toList = ([] : List UInt8) ↔ s.size = 0 := by
  rw [Lib.toList_data]
  constructor
  · intro h
    have := congrArg List.length h
    rw [data_length] at this
    exact this
  · intro h
    exact List.eq_nil_of_length_eq_zero (by rw [data_length]; exact h)
theorem wid_extract (s : ByteArray) (i : Nat) (j : Nat) (hi : i ≤ s.size) : wid (s.extract i s.size) j = wid s (i + j) := by
  have e : ∀ q, b4 (s.extract i s.size) q = b4 s (i + q) := fun q => by
    rw [b4_extract s i s.size q (Nat.le_refl _)]
    by_cases h : i + q < s.size
    · rw [if_pos h]
    · rw [if_neg h, b4_out s _ (by omega)]
  unfold wid
  rw [e, e, e, e]
  rfl
theorem extract_extract (s : ByteArray) (i m : Nat) (h : i + m ≤ s.size) : (s.extract i s.size).extract m (s.extract i s.size).size = s.extract (i + m) s.size := by
  rw [ByteArray.extract_extract, ByteArray.size_extract]
  congr 1
  omega
theorem impl_loop (s : ByteArray) (hs : s.size ≤ 140737488351232) (d : Nat) : ∀ (k i : Nat), i ≤ s.size → s.size - i ≤ d → d < k → impl_TextOk.l0 k (s.extract i s.size) = some (okAt (s.size - i) s i) := by
  induction d with
  | zero =>
    intro k i hi hd hk
    obtain ⟨k, rfl⟩ : ∃ m, k = m + 1 := ⟨k - 1, by omega⟩
    simp only [impl_TextOk.l0]
    rw [if_pos ((toList_empty _).2 (by rw [ByteArray.size_extract]; omega)), show s.size - i = 0 by omega]
    rfl
  | succ d ih =>
    intro k i hi hd hk
    obtain ⟨k, rfl⟩ : ∃ m, k = m + 1 := ⟨k - 1, by omega⟩
    simp only [impl_TextOk.l0]
    by_cases h0 : s.size ≤ i
    · rw [if_pos ((toList_empty _).2 (by rw [ByteArray.size_extract]; omega)), show s.size - i = 0 by omega]
      rfl
    · rw [if_neg (fun z => by have := (toList_empty _).1 z; rw [ByteArray.size_extract] at this; omega)]
      obtain ⟨m, hm, he, hw⟩ := sign_eq (s.extract i s.size) (by rw [ByteArray.size_extract]; omega)
      have wx := wid_extract s i 0 hi
      rw [Nat.add_zero] at wx
      rw [wx] at he hw
      rw [ok_step s i, if_neg h0, he, Option.bind_some]
      by_cases hz : wid s i = 0
      · rw [if_pos hz, if_neg (by simp [hz])]
      · have hp : 0 < wid s i := by omega
        obtain rfl := hw hp
        have hle := wid_le s i (by omega)
        have hl : ((s.extract i s.size).extract 0 (wid s i)).size = wid s i := by rw [ByteArray.size_extract, ByteArray.size_extract]; omega
        rw [if_neg hz, if_pos (by simpa using hp)]
        rw [if_pos (Int.natCast_nonneg _), if_pos (show (((s.extract i s.size).extract 0 (wid s i)).size : Int) ≤ ((s.extract i s.size).size : Int) by rw [hl, ByteArray.size_extract]; omega)]
        show impl_TextOk.l0 k ((s.extract i s.size).extract ((((s.extract i s.size).extract 0 (wid s i)).size : Nat) : Int).toNat (s.extract i s.size).size) = _
        rw [hl, Int.toNat_natCast, extract_extract s i _ hle]
        exact ih k _ hle (by omega) (by omega)
theorem impl_ok (s : ByteArray) (hs : s.size ≤ 140737488351232) (k : Nat) (hk : s.size < k) : impl_TextOk.f k s = some (ok s) := by
  have h := impl_loop s hs s.size k 0 (Nat.zero_le _) (by omega) hk
  rw [show s.extract 0 s.size = s from ByteArray.extract_zero_size] at h
  exact h
end Go.Proofs.YtgjecacalpaacaaDoor.Text
set_option linter.unusedVariables false
set_option linter.unusedSimpArgs false
namespace Go.Proofs.YtgjecacalpaacaaDoor.Text
open Go.RowKit Go.Proofs.YtgjecacalpaacaaDoor.PAll Go.Proofs.YtgjecacalpaacaaDoorW.PrintWords Go.Proofs.YtgjecacalpaacaaDoorW.PrintLast Go.Proofs.YtgjecacalpaacaaDoorW.PrintMore Go.Proofs.YtgjecacalpaacaaDoorW.XWords
open Go.Lib
theorem lead_eq (a : Nat) (ha : a < 256) : spec_l1Lead.f (a : Int) = some (if a < 128 then 1 else if 194 ≤ a ∧ a ≤ 223 then 2 else if 224 ≤ a ∧ a ≤ 239 then 3 else if 240 ≤ a ∧ a ≤ 244 then 4 else 0) := by
  unfold spec_l1Lead.f
  rw [wrap_small a (by omega)]
  simp only [in_eq, Option.bind_some]
  by_cases h1 : a < 128
  · rw [if_pos (by omega), if_pos h1]
  rw [if_neg (by omega), if_neg h1]
  by_cases h2 : 194 ≤ a ∧ a ≤ 223
  · rw [if_pos (by simp; omega), if_pos h2]
  rw [if_neg (by simp; omega), if_neg h2]
  by_cases h3 : 224 ≤ a ∧ a ≤ 239
  · rw [if_pos (by simp; omega), if_pos h3]
  rw [if_neg (by simp; omega), if_neg h3]
  by_cases h4 : 240 ≤ a ∧ a ≤ 244
  · rw [if_pos (by simp; omega), if_pos h4]
  rw [if_neg (by simp; omega), if_neg h4]
abbrev sec (a b : Nat) : Prop := (a = 224 → 160 ≤ b) ∧ (a = 237 → b < 160) ∧ (a = 240 → 144 ≤ b) ∧ (a = 244 → b < 144)
theorem sec_eq (a b : Nat) : spec_l1Second.f (a : Int) (b : Int) = some (decide (sec a b)) := by
  unfold spec_l1Second.f
  (repeat' split) <;> rw [Option.some.injEq, Bool.eq_iff_iff] <;> simp <;> omega
set_option maxHeartbeats 4000000 in
theorem step_eq (k : Nat) (s : ByteArray) (hs : s.size ≤ 140737488351232) (i m n j : Nat) (hi : i < s.size) (hj : j < m) (h1 : 1 ≤ j) (hm : m ≤ 4) (hn : n ≤ 2000000) :
    spec_l1Next.l0 (k + 1) s (i : Int) (m : Int) (n : Int) (j : Int) =
      if s.size ≤ i + j then some (0, -1) else if cont (b4 s (i + j)) ∧ (j = 1 → sec (b4 s i) (b4 s (i + 1))) then spec_l1Next.l0 k s (i : Int) (m : Int) ((n * 64 + b4 s (i + j) - 128 : Nat) : Int) ((j + 1 : Nat) : Int) else some (0, 0) := by
  have hb := b4_lt s (i + j)
  have hw : Aside0 (wrap64 ((i : Int) + (j : Int)) = ((i + j : Nat) : Int)) := ⟨by rw [← Int.natCast_add]; exact wrap_small _ (by omega)⟩
  have hbw : Aside0 (wrap64 (bt s ((i + j : Nat) : Int)) = (b4 s (i + j) : Int)) := ⟨by rw [← b4_cast]; exact wrap_small _ (by omega)⟩
  have hbi : Aside0 (wrap64 (bt s (i : Int)) = (b4 s i : Int)) := ⟨by rw [← b4_cast]; exact wrap_small _ (by have := b4_lt s i; omega)⟩
  have hj1 : Aside0 (wrap64 ((j : Int) + 1) = ((j + 1 : Nat) : Int)) := ⟨by rw [show ((j : Int) + 1) = ((j + 1 : Nat) : Int) by omega]; exact wrap_small _ (by omega)⟩
  simp only [spec_l1Next.l0]
  rw [if_pos (by omega), hw.out]
  by_cases ho : s.size ≤ i + j
  · rw [if_pos (by omega), if_pos ho]
  rw [if_neg (by omega), if_neg ho, if_pos (by omega), if_pos (by omega), hbw.out, in_eq, Option.bind_some]
  by_cases hc : cont (b4 s (i + j))
  · have hval : Aside0 (wrap64 (wrap64 (wrap64 ((n : Int) * 64) + (b4 s (i + j) : Int)) - 128) = ((n * 64 + b4 s (i + j) - 128 : Nat) : Int)) := by
      constructor
      rw [show ((n : Int) * 64) = ((n * 64 : Nat) : Int) by omega, wrap_small _ (by omega), ← Int.natCast_add, wrap_small _ (by omega), show (((n * 64 + b4 s (i + j) : Nat) : Int) - 128) = ((n * 64 + b4 s (i + j) - 128 : Nat) : Int) by omega]
      exact wrap_small _ (by omega)
    rw [if_pos (by simp; omega), hval.out, hj1.out]
    by_cases h1' : j = 1
    · subst h1'
      rw [if_pos (by rfl), if_pos (by omega), if_pos (by omega), hbi.out, sec_eq, Option.bind_some]
      by_cases hz : sec (b4 s i) (b4 s (i + 1))
      · rw [if_pos (decide_eq_true hz), if_pos ⟨hc, fun _ => hz⟩]
      · rw [if_neg (fun z => hz (of_decide_eq_true z)), if_neg (fun z => hz (z.2 rfl))]
    · rw [if_neg (by omega), if_pos ⟨hc, fun z => absurd z h1'⟩]
  · rw [if_neg (by simp; omega), if_neg (fun z => hc z.1)]
theorem last_eq (k : Nat) (s : ByteArray) (i m n j : Nat) (hj : m ≤ j) : spec_l1Next.l0 (k + 1) s (i : Int) (m : Int) (n : Int) (j : Int) = if m = 0 then some (0, 0) else if sgN n then some ((n : Int), (m : Int)) else some (0, 0) := by
  simp only [spec_l1Next.l0]
  rw [if_neg (by omega), sign_spec, Option.bind_some]
  by_cases h0 : m = 0
  · rw [if_pos (by omega), if_pos h0]
  · rw [if_neg (by omega), if_neg h0]
    by_cases hs : sgN n
    · rw [if_pos (decide_eq_true hs), if_pos hs]
    · rw [if_neg (fun z => hs (of_decide_eq_true z)), if_neg hs]
set_option maxHeartbeats 4000000 in
theorem next_eq (s : ByteArray) (hs : s.size ≤ 140737488351232) (i : Nat) (hi : i < s.size) (k : Nat) (hk : 8 ≤ k) :
    ∃ n m : Int, spec_l1Next.f k s (i : Int) = some (n, m) ∧ (wid s i ≠ 0 → m = (wid s i : Int) ∧ n = (val s i : Int)) ∧ (wid s i = 0 → m < 1 ∧ n = 0) := by
  obtain ⟨k, rfl⟩ : ∃ q, k = q + 8 := ⟨k - 8, by omega⟩
  have ha := b4_lt s i
  have hw : ∀ q, wid s i = q ↔ widN (b4 s i) (b4 s (i + 1)) (b4 s (i + 2)) (b4 s (i + 3)) = q := fun q => Iff.rfl
  have hv : ∀ q, val s i = q ↔ valN (b4 s i) (b4 s (i + 1)) (b4 s (i + 2)) (b4 s (i + 3)) = q := fun q => Iff.rfl
  have hbi : Aside0 (wrap64 (bt s (i : Int)) = (b4 s i : Int)) := ⟨by rw [← b4_cast]; exact wrap_small _ (by omega)⟩
  have o1 := b4_out s (i + 1)
  have o2 := b4_out s (i + 2)
  have o3 := b4_out s (i + 3)
  have w0 : wid s i = widN (b4 s i) (b4 s (i + 1)) (b4 s (i + 2)) (b4 s (i + 3)) := rfl
  have v0 : val s i = valN (b4 s i) (b4 s (i + 1)) (b4 s (i + 2)) (b4 s (i + 3)) := rfl
  unfold spec_l1Next.f
  rw [if_pos (by omega), if_pos (by omega), hbi.out, show bt s (i : Int) = (b4 s i : Int) from (b4_cast s i).symm, lead_eq _ ha, Option.bind_some, Option.bind_some]
  by_cases h1 : b4 s i < 128
  · rw [if_pos h1, if_neg (by decide)]
    simp only [spec_l1Next.j0]
    rw [show (1 : Int) = ((1 : Nat) : Int) from rfl, last_eq _ s i 1 (b4 s i) 1 (Nat.le_refl _), if_neg (by decide)]
    have hwd : wid s i = if b4 s i = 9 ∨ b4 s i = 10 ∨ 32 ≤ b4 s i then 1 else 0 := by rw [w0]; unfold widN; rw [if_pos h1]
    have hvl : val s i = b4 s i := by rw [v0]; unfold valN; rw [if_pos h1]
    by_cases hg : sgN (b4 s i)
    · rw [if_pos hg]
      refine ⟨_, _, rfl, fun _ => ⟨?_, by rw [hvl]⟩, fun h => ?_⟩
      · rw [hwd, if_pos (by omega)]
      · rw [hwd, if_pos (by omega)] at h
        omega
    · rw [if_neg hg]
      refine ⟨_, _, rfl, fun h => ?_, fun _ => ⟨by omega, rfl⟩⟩
      rw [hwd, if_neg (by omega)] at h
      omega
  rw [if_neg h1]
  have hl2 : ∀ m : Int, (some (([0, 0, 32, 16, 8] : List Int) : List Int)).bind (fun y => if 0 ≤ m then (if m < (y.length : Int) then (if (rd y m) = 0 then (none : Option (Int × Int)) else spec_l1Next.j0 (k + 8) s (i : Int) m (Int.tmod (b4 s i : Int) (rd y m))) else none) else none) = (if 0 ≤ m then (if m < 5 then (if (rd [0, 0, 32, 16, 8] m) = 0 then (none : Option (Int × Int)) else spec_l1Next.j0 (k + 8) s (i : Int) m (Int.tmod (b4 s i : Int) (rd [0, 0, 32, 16, 8] m))) else none) else none) := fun m => rfl
  by_cases h2 : 194 ≤ b4 s i ∧ b4 s i ≤ 223
  · rw [if_pos h2, if_pos (by decide), show (2 : Int) = ((2 : Nat) : Int) from rfl]
    rw [if_pos (by decide), if_pos (by decide), if_neg (by decide), show rd ([0, 0, 32, 16, 8] : List Int) ((2 : Nat) : Int) = ((32 : Nat) : Int) from rfl, Int.tmod_eq_emod_of_nonneg (by omega), ← Int.natCast_emod]
    simp only [spec_l1Next.j0]
    rw [show (1 : Int) = ((1 : Nat) : Int) from rfl, step_eq _ s hs i 2 _ 1 hi (by omega) (by omega) (by omega) (by omega)]
    have hwd : wid s i = if cont (b4 s (i + 1)) then 2 else 0 := by rw [w0]; unfold widN; rw [if_neg h1, if_pos h2]
    have hvl : val s i = b4 s i % 32 * 64 + b4 s (i + 1) % 64 := by rw [v0]; unfold valN; rw [if_neg h1, if_pos (by omega)]
    by_cases ho : s.size ≤ i + 1
    · rw [if_pos ho]
      refine ⟨_, _, rfl, fun h => ?_, fun _ => ⟨by omega, rfl⟩⟩
      rw [hwd, if_neg (by have := o1 ho; omega)] at h
      omega
    rw [if_neg ho]
    by_cases hc : cont (b4 s (i + 1))
    · rw [if_pos ⟨hc, fun _ => by omega⟩, last_eq _ s i 2 _ _ (Nat.le_refl _), if_neg (by decide), if_pos (by omega)]
      refine ⟨_, _, rfl, fun _ => ⟨?_, ?_⟩, fun h => ?_⟩
      · rw [hwd, if_pos hc]
      · rw [hvl]; omega
      · rw [hwd, if_pos hc] at h
        omega
    · rw [if_neg (fun z => hc z.1)]
      refine ⟨_, _, rfl, fun h => ?_, fun _ => ⟨by omega, rfl⟩⟩
      rw [hwd, if_neg hc] at h
      omega
  rw [if_neg h2]
  by_cases h3 : 224 ≤ b4 s i ∧ b4 s i ≤ 239
  · rw [if_pos h3, if_pos (by decide), show (3 : Int) = ((3 : Nat) : Int) from rfl]
    rw [if_pos (by decide), if_pos (by decide), if_neg (by decide), show rd ([0, 0, 32, 16, 8] : List Int) ((3 : Nat) : Int) = ((16 : Nat) : Int) from rfl, Int.tmod_eq_emod_of_nonneg (by omega), ← Int.natCast_emod]
    simp only [spec_l1Next.j0]
    rw [show (1 : Int) = ((1 : Nat) : Int) from rfl, step_eq _ s hs i 3 _ 1 hi (by omega) (by omega) (by omega) (by omega)]
    have hwd : wid s i = if cont (b4 s (i + 1)) ∧ cont (b4 s (i + 2)) ∧ (b4 s i = 224 → 160 ≤ b4 s (i + 1)) ∧ (b4 s i = 237 → b4 s (i + 1) < 160) ∧ ¬ (b4 s i = 239 ∧ b4 s (i + 1) = 191 ∧ 190 ≤ b4 s (i + 2)) then 3 else 0 := by rw [w0]; unfold widN; rw [if_neg h1, if_neg h2, if_pos h3]
    have hvl : val s i = b4 s i % 16 * 4096 + b4 s (i + 1) % 64 * 64 + b4 s (i + 2) % 64 := by rw [v0]; unfold valN; rw [if_neg h1, if_neg (by omega), if_pos (by omega)]
    by_cases ho : s.size ≤ i + 1
    · rw [if_pos ho]
      refine ⟨_, _, rfl, fun h => ?_, fun _ => ⟨by omega, rfl⟩⟩
      rw [hwd, if_neg (by have := o1 ho; omega)] at h
      omega
    rw [if_neg ho]
    by_cases hc : cont (b4 s (i + 1)) ∧ (1 = 1 → sec (b4 s i) (b4 s (i + 1)))
    · rw [if_pos hc, step_eq _ s hs i 3 _ 2 hi (by omega) (by omega) (by omega) (by omega)]
      have hsec := hc.2 rfl
      by_cases ho2 : s.size ≤ i + 2
      · rw [if_pos ho2]
        refine ⟨_, _, rfl, fun h => ?_, fun _ => ⟨by omega, rfl⟩⟩
        rw [hwd, if_neg (by have := o2 ho2; omega)] at h
        omega
      rw [if_neg ho2]
      by_cases hc2 : cont (b4 s (i + 2))
      · rw [if_pos ⟨hc2, fun z => absurd z (by decide)⟩, last_eq _ s i 3 _ _ (Nat.le_refl _), if_neg (by decide)]
        by_cases hg : sgN ((b4 s i % 16 * 64 + b4 s (i + 1) - 128) * 64 + b4 s (i + 2) - 128)
        · rw [if_pos hg]
          refine ⟨_, _, rfl, fun _ => ⟨?_, ?_⟩, fun h => ?_⟩
          · rw [hwd, if_pos (by omega)]
          · rw [hvl]; omega
          · rw [hwd, if_pos (by omega)] at h
            omega
        · rw [if_neg hg]
          refine ⟨_, _, rfl, fun h => ?_, fun _ => ⟨by omega, rfl⟩⟩
          rw [hwd, if_neg (by omega)] at h
          omega
      · rw [if_neg (fun z => hc2 z.1)]
        refine ⟨_, _, rfl, fun h => ?_, fun _ => ⟨by omega, rfl⟩⟩
        rw [hwd, if_neg (by omega)] at h
        omega
    · rw [if_neg hc]
      refine ⟨_, _, rfl, fun h => ?_, fun _ => ⟨by omega, rfl⟩⟩
      rw [hwd, if_neg (by omega)] at h
      omega
  rw [if_neg h3]
  by_cases h4 : 240 ≤ b4 s i ∧ b4 s i ≤ 244
  · rw [if_pos h4, if_pos (by decide), show (4 : Int) = ((4 : Nat) : Int) from rfl]
    rw [if_pos (by decide), if_pos (by decide), if_neg (by decide), show rd ([0, 0, 32, 16, 8] : List Int) ((4 : Nat) : Int) = ((8 : Nat) : Int) from rfl, Int.tmod_eq_emod_of_nonneg (by omega), ← Int.natCast_emod]
    simp only [spec_l1Next.j0]
    rw [show (1 : Int) = ((1 : Nat) : Int) from rfl, step_eq _ s hs i 4 _ 1 hi (by omega) (by omega) (by omega) (by omega)]
    have hwd : wid s i = if cont (b4 s (i + 1)) ∧ cont (b4 s (i + 2)) ∧ cont (b4 s (i + 3)) ∧ (b4 s i = 240 → 144 ≤ b4 s (i + 1)) ∧ (b4 s i = 244 → b4 s (i + 1) < 144) then 4 else 0 := by rw [w0]; unfold widN; rw [if_neg h1, if_neg h2, if_neg h3, if_pos h4]
    have hvl : val s i = b4 s i % 8 * 262144 + b4 s (i + 1) % 64 * 4096 + b4 s (i + 2) % 64 * 64 + b4 s (i + 3) % 64 := by rw [v0]; unfold valN; rw [if_neg h1, if_neg (by omega), if_neg (by omega)]
    by_cases ho : s.size ≤ i + 1
    · rw [if_pos ho]
      refine ⟨_, _, rfl, fun h => ?_, fun _ => ⟨by omega, rfl⟩⟩
      rw [hwd, if_neg (by have := o1 ho; omega)] at h
      omega
    rw [if_neg ho]
    by_cases hc : cont (b4 s (i + 1)) ∧ (1 = 1 → sec (b4 s i) (b4 s (i + 1)))
    · rw [if_pos hc, step_eq _ s hs i 4 _ 2 hi (by omega) (by omega) (by omega) (by omega)]
      have hsec := hc.2 rfl
      by_cases ho2 : s.size ≤ i + 2
      · rw [if_pos ho2]
        refine ⟨_, _, rfl, fun h => ?_, fun _ => ⟨by omega, rfl⟩⟩
        rw [hwd, if_neg (by have := o2 ho2; omega)] at h
        omega
      rw [if_neg ho2]
      by_cases hc2 : cont (b4 s (i + 2))
      · rw [if_pos ⟨hc2, fun z => absurd z (by decide)⟩, step_eq _ s hs i 4 _ 3 hi (by omega) (by omega) (by omega) (by omega)]
        by_cases ho3 : s.size ≤ i + 3
        · rw [if_pos ho3]
          refine ⟨_, _, rfl, fun h => ?_, fun _ => ⟨by omega, rfl⟩⟩
          rw [hwd, if_neg (by have := o3 ho3; omega)] at h
          omega
        rw [if_neg ho3]
        by_cases hc3 : cont (b4 s (i + 3))
        · rw [if_pos ⟨hc3, fun z => absurd z (by decide)⟩, last_eq _ s i 4 _ _ (Nat.le_refl _), if_neg (by decide), if_pos (by omega)]
          refine ⟨_, _, rfl, fun _ => ⟨?_, ?_⟩, fun h => ?_⟩
          · rw [hwd, if_pos (by omega)]
          · rw [hvl]; omega
          · rw [hwd, if_pos (by omega)] at h
            omega
        · rw [if_neg (fun z => hc3 z.1)]
          refine ⟨_, _, rfl, fun h => ?_, fun _ => ⟨by omega, rfl⟩⟩
          rw [hwd, if_neg (by omega)] at h
          omega
      · rw [if_neg (fun z => hc2 z.1)]
        refine ⟨_, _, rfl, fun h => ?_, fun _ => ⟨by omega, rfl⟩⟩
        rw [hwd, if_neg (by omega)] at h
        omega
    · rw [if_neg hc]
      refine ⟨_, _, rfl, fun h => ?_, fun _ => ⟨by omega, rfl⟩⟩
      rw [hwd, if_neg (by omega)] at h
      omega
  rw [if_neg h4, if_neg (by decide)]
  simp only [spec_l1Next.j0]
  rw [show (0 : Int) = ((0 : Nat) : Int) from rfl, show (1 : Int) = ((1 : Nat) : Int) from rfl, last_eq _ s i 0 _ 1 (by omega), if_pos rfl]
  refine ⟨_, _, rfl, fun h => ?_, fun _ => ⟨by omega, rfl⟩⟩
  have hwd : wid s i = 0 := by rw [w0]; unfold widN; rw [if_neg h1, if_neg h2, if_neg h3, if_neg h4]
  exact absurd hwd h
theorem spec_loop (s : ByteArray) (hs : s.size ≤ 140737488351232) (d : Nat) : ∀ (k i : Nat), i ≤ s.size → s.size - i ≤ d → d + 8 < k → spec_l1Utf.l0 k s (i : Int) = some (okAt (s.size - i) s i) := by
  induction d with
  | zero =>
    intro k i hi hd hk
    obtain ⟨k, rfl⟩ : ∃ m, k = m + 1 := ⟨k - 1, by omega⟩
    simp only [spec_l1Utf.l0]
    rw [if_neg (by omega), show s.size - i = 0 by omega]
    rfl
  | succ d ih =>
    intro k i hi hd hk
    obtain ⟨k, rfl⟩ : ∃ m, k = m + 1 := ⟨k - 1, by omega⟩
    simp only [spec_l1Utf.l0]
    by_cases h0 : s.size ≤ i
    · rw [if_neg (by omega), show s.size - i = 0 by omega]
      rfl
    · obtain ⟨n, m, he, hp, hz⟩ := next_eq s hs i (by omega) k (by omega)
      rw [if_pos (by omega), he, Option.bind_some, ok_step s i, if_neg h0]
      by_cases hw : wid s i = 0
      · rw [if_pos hw, if_pos (hz hw).1]
      · obtain ⟨rfl, -⟩ := hp hw
        have hle := wid_le s i (by omega)
        rw [if_neg hw, if_neg (show ¬ ((wid s i : Int) < 1) by omega), show wrap64 ((i : Int) + (wid s i : Int)) = ((i + wid s i : Nat) : Int) by rw [← Int.natCast_add]; exact wrap_small _ (by omega)]
        exact ih k _ hle (by omega) (by omega)
theorem utf_ok (s : ByteArray) (hs : s.size ≤ 140737488351232) (k : Nat) (hk : s.size + 8 < k) : spec_l1Utf.f k s = some (ok s) := spec_loop s hs s.size k 0 (Nat.zero_le _) (by omega) hk
end Go.Proofs.YtgjecacalpaacaaDoor.Text
set_option linter.unusedVariables false
set_option linter.unusedSimpArgs false
namespace Go.Proofs.YtgjecacalpaacaaDoor.Words
open Go.RowKit Go.Proofs.YtgjecacalpaacaaDoor.PAll Go.Proofs.YtgjecacalpaacaaDoorW.PrintWords Go.Proofs.YtgjecacalpaacaaDoorW.PrintLast Go.Proofs.YtgjecacalpaacaaDoorW.PrintMore Go.Proofs.YtgjecacalpaacaaDoorW.XWords
open Go.Proofs.YtgjecacalpaacaaDoor.Text
def userB (s : ByteArray) : Bool := (bytesOf s).all impl_userOk.inB && (decide (1 ≤ s.size) && decide (s.size ≤ 8))
def wordB (s : ByteArray) : Bool := (bytesOf s).all impl_wordOk.inB && (decide (1 ≤ s.size) && decide (s.size ≤ 12))
def bodyB (s : ByteArray) : Bool := (decide (1 ≤ s.size) && decide (s.size ≤ 60)) && ok s
def nickB (s : ByteArray) : Bool := (bytesOf s).all impl_nickOk.inB && ((decide (1 ≤ s.size) && decide (s.size ≤ 10)) && (ok s && (bt s 0 != 32 && bt s ((s.size : Int) - 1) != 32)))
theorem wrap_next (s : ByteArray) (hs : s.size ≤ 140737488351232) (j : Nat) (hj : j < s.size) : wrap64 ((j : Int) + 1) = ((j + 1 : Nat) : Int) := by
  rw [show ((j : Int) + 1) = ((j + 1 : Nat) : Int) by omega]
  exact Text.wrap_small (j + 1) (by omega)
theorem all_end (p : Int → Bool) (s : ByteArray) : ((bytesOf s).drop s.size).all p = true := by
  rw [List.drop_of_length_le (by rw [bytesOf_length]; exact Nat.le_refl _)]
  rfl
theorem impl_user (s : ByteArray) (hs : s.size ≤ 140737488351232) : impl_userOk.f s = some (userB s) := by
  unfold impl_userOk.f
  rw [if_pos hs]
  rfl
theorem small_eq (b : Int) : spec_l4Small.f b = some (impl_userOk.smB b) := by
  unfold spec_l4Small.f spec_l1Figure.f impl_userOk.smB
  (repeat' split) <;> (try simp only [Option.bind_some]) <;> rw [Option.some.injEq, Bool.eq_iff_iff] <;> simp_all <;> omega
theorem user_loop (s : ByteArray) (hs : s.size ≤ 140737488351232) (d : Nat) : ∀ (k j : Nat), j ≤ s.size → s.size - j = d → d < k →
    spec_l4User.l0 k s (j : Int) = some (((bytesOf s).drop j).all impl_userOk.inB && (decide (1 ≤ s.size) && decide (s.size ≤ 8))) := by
  induction d with
  | zero =>
    intro k j hj hd hk
    obtain ⟨k, rfl⟩ : ∃ m, k = m + 1 := ⟨k - 1, by omega⟩
    obtain rfl : j = s.size := by omega
    simp only [spec_l4User.l0]
    rw [if_neg (by omega), in_eq, Option.bind_some, all_end, Bool.true_and, Option.some.injEq, Bool.eq_iff_iff]
    simp
    omega
  | succ d ih =>
    intro k j hj hd hk
    obtain ⟨k, rfl⟩ : ∃ m, k = m + 1 := ⟨k - 1, by omega⟩
    have hlt : j < s.size := by omega
    have hih := ih k (j + 1) (by omega) (by omega) (by omega)
    have hw := Aside0.mk (wrap_next s hs j hlt)
    simp only [spec_l4User.l0]
    rw [if_pos (by omega), if_pos (by omega), small_eq, Option.bind_some, all_drop_bytes _ _ _ hlt, hw.out]
    by_cases h1 : impl_userOk.smB (bt s (j : Int)) = true
    · rw [if_pos h1, hih, show impl_userOk.inB (bt s (j : Int)) = true by unfold impl_userOk.inB; unfold impl_userOk.smB at h1; rw [h1]; rfl, Bool.true_and]
    · rw [if_neg h1]
      have hI : impl_userOk.inB (bt s (j : Int)) = (bt s (j : Int) == 45 || bt s (j : Int) == 46 || bt s (j : Int) == 95) := by
        unfold impl_userOk.inB
        unfold impl_userOk.smB at h1
        rw [Bool.not_eq_true] at h1
        rw [h1]
        simp
      rw [hI]
      by_cases h45 : bt s (j : Int) = 45
      · rw [if_pos h45, hih, h45]; simp
      rw [if_neg h45]
      by_cases h46 : bt s (j : Int) = 46
      · rw [if_pos h46, hih, h46]; simp
      rw [if_neg h46]
      by_cases h95 : bt s (j : Int) = 95
      · rw [if_pos h95, hih, h95]; simp
      rw [if_neg h95, show (bt s (j : Int) == 45) = false by simpa using h45, show (bt s (j : Int) == 46) = false by simpa using h46, show (bt s (j : Int) == 95) = false by simpa using h95]
      simp
theorem spec_user (s : ByteArray) (hs : s.size ≤ 140737488351232) (k : Nat) (hk : s.size < k) : spec_l4User.f k s = some (userB s) := by
  have h := user_loop s hs s.size k 0 (by omega) (by omega) hk
  rw [List.drop_zero] at h
  exact h
theorem impl_word (s : ByteArray) (hs : s.size ≤ 140737488351232) : impl_wordOk.f s = some (wordB s) := by
  unfold impl_wordOk.f
  rw [if_pos hs]
  rfl
theorem word_loop (s : ByteArray) (hs : s.size ≤ 140737488351232) (d : Nat) : ∀ (k j : Nat), j ≤ s.size → s.size - j = d → d < k →
    spec_l5Word.l0 k s (j : Int) = some (((bytesOf s).drop j).all impl_wordOk.inB && (decide (1 ≤ s.size) && decide (s.size ≤ 12))) := by
  induction d with
  | zero =>
    intro k j hj hd hk
    obtain ⟨k, rfl⟩ : ∃ m, k = m + 1 := ⟨k - 1, by omega⟩
    obtain rfl : j = s.size := by omega
    simp only [spec_l5Word.l0]
    rw [if_neg (by omega), in_eq, Option.bind_some, all_end, Bool.true_and, Option.some.injEq, Bool.eq_iff_iff]
    simp
    omega
  | succ d ih =>
    intro k j hj hd hk
    obtain ⟨k, rfl⟩ : ∃ m, k = m + 1 := ⟨k - 1, by omega⟩
    have hlt : j < s.size := by omega
    have hih := ih k (j + 1) (by omega) (by omega) (by omega)
    have hw := Aside0.mk (wrap_next s hs j hlt)
    simp only [spec_l5Word.l0]
    rw [if_pos (by omega), if_pos (by omega), all_drop_bytes _ _ _ hlt, hw.out]
    unfold impl_wordOk.inB at hih ⊢
    by_cases h1 : bt s (j : Int) ≤ 32
    · rw [if_pos h1, decide_eq_false (show ¬ (33 ≤ bt s (j : Int)) by omega)]; simp
    rw [if_neg h1]
    by_cases h2 : bt s (j : Int) ≥ 127
    · rw [if_pos h2, decide_eq_false (show ¬ (bt s (j : Int) ≤ 126) by omega)]; simp
    rw [if_neg h2, hih, decide_eq_true (show 33 ≤ bt s (j : Int) by omega), decide_eq_true (show bt s (j : Int) ≤ 126 by omega)]
    simp
theorem spec_word (s : ByteArray) (hs : s.size ≤ 140737488351232) (k : Nat) (hk : s.size < k) : spec_l5Word.f k s = some (wordB s) := by
  have h := word_loop s hs s.size k 0 (by omega) (by omega) hk
  rw [List.drop_zero] at h
  exact h
def emp (s : ByteArray) : Bool := s.toList == ([] : List UInt8)
theorem toL (s : ByteArray) : (s.toList == ([] : List UInt8)) = emp s := rfl
theorem toLn (s : ByteArray) : (s.toList = ([] : List UInt8)) = (emp s = true) := by unfold emp; rw [beq_iff_eq]
theorem toL0 : (⟨#[]⟩ : ByteArray).toList = ([] : List UInt8) := by rw [toList_empty]; rfl
def orWordB (s : ByteArray) : Bool := emp s || wordB s
theorem impl_orWord (s : ByteArray) (hs : s.size ≤ 140737488351232) : impl_orEmpty_impl_wordOk.f s = some (orWordB s) := by
  unfold impl_orEmpty_impl_wordOk.f orWordB
  simp only [impl_word s hs, toLn]
  cases emp s <;> rfl
theorem impl_body (s : ByteArray) (hs : s.size ≤ 140737488351232) (k : Nat) (hk : s.size < k) : impl_bodyOk.f k s = some (bodyB s) := by
  unfold impl_bodyOk.f bodyB
  rw [within_eq, Option.bind_some, impl_ok s hs k hk, Option.bind_some]
  by_cases h1 : 1 ≤ s.size <;> by_cases h2 : s.size ≤ 60
  · rw [if_pos (by simp; omega), decide_eq_true h1, decide_eq_true h2]; rfl
  · rw [if_neg (by simp; omega), decide_eq_false h2]; simp
  · rw [if_neg (by simp; omega), decide_eq_false h1]; simp
  · rw [if_neg (by simp; omega), decide_eq_false h1]; simp
theorem spec_body (s : ByteArray) (hs : s.size ≤ 140737488351232) (k : Nat) (hk : s.size + 8 < k) : spec_l5Body.f k s = some (bodyB s) := by
  unfold spec_l5Body.f bodyB
  rw [utf_ok s hs k hk, Option.bind_some, in_eq, Option.bind_some]
  cases ok s with
  | false => simp
  | true =>
    rw [if_pos rfl, Bool.and_true, Option.some.injEq, Bool.eq_iff_iff]
    simp
    omega
theorem impl_nick (s : ByteArray) (hs : s.size ≤ 140737488351232) (k : Nat) (hk : s.size < k) : impl_nickOk.f k s = some (nickB s) := by
  unfold impl_nickOk.f nickB
  rw [if_pos hs, impl_ok s hs k hk, Option.bind_some]
  cases (bytesOf s).all impl_nickOk.inB with
  | false => simp
  | true =>
    rw [if_pos rfl]
    by_cases h1 : 1 ≤ s.size
    · by_cases h2 : s.size ≤ 10
      · rw [if_pos h1, if_pos h2, decide_eq_true h1, decide_eq_true h2]
        cases ok s with
        | false => simp
        | true =>
          by_cases h3 : bt s 0 = 32
          · rw [if_pos rfl, if_pos h3, h3]; simp
          · rw [if_pos rfl, if_neg h3, show (bt s 0 != 32) = true by simpa using h3]; simp
      · rw [if_pos h1, if_neg h2, decide_eq_false h2]; simp
    · rw [if_neg h1, decide_eq_false h1]; simp
theorem nick_loop (s : ByteArray) (hs : s.size ≤ 140737488351232) (d : Nat) : ∀ (k j : Nat), j ≤ s.size → s.size - j = d → d + s.size + 9 < k →
    spec_l4Nick.l0 k s (j : Int) = some (((bytesOf s).drop j).all impl_nickOk.inB && ((decide (1 ≤ s.size) && decide (s.size ≤ 10)) && (ok s && (bt s 0 != 32 && bt s ((s.size : Int) - 1) != 32)))) := by
  induction d with
  | zero =>
    intro k j hj hd hk
    obtain ⟨k, rfl⟩ : ∃ m, k = m + 1 := ⟨k - 1, by omega⟩
    obtain rfl : j = s.size := by omega
    simp only [spec_l4Nick.l0]
    rw [if_neg (by omega), utf_ok s hs k (by omega), Option.bind_some, in_eq, Option.bind_some, all_end, Bool.true_and]
    cases ok s with
    | false => simp
    | true =>
      rw [if_pos rfl]
      by_cases h1 : 1 ≤ s.size
      · by_cases h2 : s.size ≤ 10
        · have hw := Aside0.mk (show wrap64 ((s.size : Int) - 1) = (s.size : Int) - 1 by rw [show (s.size : Int) - 1 = ((s.size - 1 : Nat) : Int) by omega]; exact Text.wrap_small (s.size - 1) (by omega))
          rw [if_pos (by simp; omega), if_pos (by omega), decide_eq_true h1, decide_eq_true h2, hw.out]
          by_cases h3 : bt s 0 = 32
          · rw [if_pos h3, h3]; simp
          · rw [if_neg h3, if_pos (by omega), if_pos (by omega), show (bt s 0 != 32) = true by simpa using h3]; simp
        · rw [if_neg (by simp; omega), decide_eq_false h2]; simp
      · rw [if_neg (by simp; omega), decide_eq_false h1]; simp
  | succ d ih =>
    intro k j hj hd hk
    obtain ⟨k, rfl⟩ : ∃ m, k = m + 1 := ⟨k - 1, by omega⟩
    have hlt : j < s.size := by omega
    have hih := ih k (j + 1) (by omega) (by omega) (by omega)
    have hw := Aside0.mk (wrap_next s hs j hlt)
    simp only [spec_l4Nick.l0]
    rw [if_pos (by omega), if_pos (by omega), all_drop_bytes _ _ _ hlt, hw.out]
    unfold impl_nickOk.inB at hih ⊢
    by_cases h1 : bt s (j : Int) < 32
    · rw [if_pos h1, decide_eq_true h1]; simp
    rw [if_neg h1]
    by_cases h2 : bt s (j : Int) = 127
    · rw [if_pos h2, h2]; simp
    rw [if_neg h2, hih, decide_eq_false h1, show (bt s (j : Int) == 127) = false by simpa using h2]
    simp
theorem spec_nick (s : ByteArray) (hs : s.size ≤ 140737488351232) (k : Nat) (hk : 2 * s.size + 9 < k) : spec_l4Nick.f k s = some (nickB s) := by
  have h := nick_loop s hs s.size k 0 (by omega) (by omega) (by omega)
  rw [List.drop_zero] at h
  exact h
end Go.Proofs.YtgjecacalpaacaaDoor.Words
set_option linter.unusedVariables false
set_option linter.unusedSimpArgs false
namespace Go.Proofs.YtgjecacalpaacaaDoor.Words
open Go.RowKit Go.Proofs.YtgjecacalpaacaaDoor.PAll Go.Proofs.YtgjecacalpaacaaDoorW.PrintWords Go.Proofs.YtgjecacalpaacaaDoorW.PrintLast Go.Proofs.YtgjecacalpaacaaDoorW.PrintMore Go.Proofs.YtgjecacalpaacaaDoorW.XWords
open Go.Proofs.YtgjecacalpaacaaDoor.Text
def inB (n lo hi : Int) : Bool := decide (lo ≤ n) && decide (n ≤ hi)
abbrev Small (s : ByteArray) : Prop := s.size ≤ 140737488351232
theorem in_eq' (n lo hi : Int) : spec_l1In.f n lo hi = some (inB n lo hi) := in_eq n lo hi
theorem within_eq' (n lo hi : Int) : impl_within.f n lo hi = some (inB n lo hi) := within_eq n lo hi
abbrev e0 : ByteArray := ⟨#[]⟩
theorem e0L : e0.toList = ([] : List UInt8) := toL0
end Go.Proofs.YtgjecacalpaacaaDoor.Words
set_option linter.unusedVariables false
set_option linter.unusedSimpArgs false
namespace Go.Proofs.YtgjecacalpaacaaDoor.Words
open Go.RowKit Go.Proofs.YtgjecacalpaacaaDoor.PAll Go.Proofs.YtgjecacalpaacaaDoorW.PrintWords Go.Proofs.YtgjecacalpaacaaDoorW.PrintLast Go.Proofs.YtgjecacalpaacaaDoorW.PrintMore Go.Proofs.YtgjecacalpaacaaDoorW.XWords
open Go.Proofs.YtgjecacalpaacaaDoor.Text
def orUserB (s : ByteArray) : Bool := emp s || userB s
theorem impl_orUser (s : ByteArray) (hs : s.size ≤ 140737488351232) : impl_orEmpty_impl_userOk.f s = some (orUserB s) := by
  unfold impl_orEmpty_impl_userOk.f orUserB
  simp only [impl_user s hs, toLn]
  cases emp s <;> rfl
theorem zeq (x : Int) : ((0 : Int) == x) = (x == 0) := by
  rw [Bool.eq_iff_iff, beq_iff_eq, beq_iff_eq]
  exact eq_comm
theorem toLr (s : ByteArray) : (([] : List UInt8) == s.toList) = emp s := by
  unfold emp
  rw [Bool.eq_iff_iff, beq_iff_eq, beq_iff_eq]
  exact eq_comm
theorem count_eq (n : Int) : impl_count.f n = some (inB n 0 255) := by
  unfold impl_count.f
  rw [within_eq', Option.bind_some]
def cleanB (kd : Int) (r n na i f t : ByteArray) (nu fr ba : Int) : Bool :=
  if kd = 1 then (emp r && (emp n && (emp i && (emp f && ((nu == 0) && ((fr == 0) && (ba == 0))))))) else if kd = 3 then (emp r && (emp n && (emp na && (emp i && (emp f && (emp t && ((fr == 0) && (ba == 0)))))))) else if kd = 5 then (emp r && (emp n && (emp na && (emp i && (emp t && ((fr == 0) && (ba == 0))))))) else if kd = 6 then (emp na && (emp i && (emp f && (emp t && ((nu == 0) && ((fr == 0) && (ba == 0))))))) else if kd = 7 then (emp n && (emp na && (emp i && (emp f && (emp t && ((nu == 0) && ((fr == 0) && (ba == 0)))))))) else if kd = 8 then (emp n && (emp na && ((nu == 0) && ((fr == 0) && (ba == 0))))) else if kd = 9 then (emp n && (emp na && (emp f && ((nu == 0) && ((fr == 0) && (ba == 0)))))) else if kd = 10 then (emp na && (emp f && (emp t && ((fr == 0) && (ba == 0))))) else if kd = 11 then (emp n && (emp f && (emp t && ((fr == 0) && (ba == 0))))) else if kd = 12 then (emp n && (emp f && emp t)) else (emp r && (emp n && (emp na && (emp i && (emp f && (emp t && ((nu == 0) && ((fr == 0) && (ba == 0)))))))))
def rangeB (kd : Int) (r n na i f t : ByteArray) (nu fr ba : Int) : Bool :=
  if kd = 1 then (userB na && wordB t) else if kd = 2 then true else if kd = 3 then inB nu 0 255 else if kd = 4 then true else if kd = 5 then (wordB f && inB nu 0 255) else if kd = 6 then (userB r && nickB n) else if kd = 7 then userB r else if kd = 8 then (userB r && (wordB i && (bodyB t && orWordB f))) else if kd = 9 then (userB r && (wordB i && bodyB t)) else if kd = 10 then (userB r && (wordB i && (nickB n && inB nu 0 3))) else if kd = 11 then (userB r && (wordB i && (userB na && inB nu 0 4))) else if kd = 12 then (userB r && (wordB i && (orUserB na && (inB nu 1 4 && (inB fr (-1) 9999 && (inB ba (-1) 9999 && (decide (fr < 0) || decide (ba < 0)))))))) else false
def sayB (kd : Int) (r n na i f t : ByteArray) (nu fr ba : Int) : Bool := cleanB kd r n na i f t nu fr ba && rangeB kd r n na i f t nu fr ba
theorem clean_1 (k : Nat) (r n na i f t : ByteArray) (nu fr ba : Int) : spec_l5Clean.f (k + 1) 1 r n na i f t nu fr ba = some (1, e0, e0, na, e0, e0, t, 0, 0, 0) := by
  rfl
theorem bare_say_1 (r n na i f t : ByteArray) (nu fr ba : Int) : impl_Say_bare.f 1 r n na i f t nu fr ba = some (1, e0, e0, na, e0, e0, t, 0, 0, 0) := by
  rfl
theorem cleanB_1 (r n na i f t : ByteArray) (nu fr ba : Int) : cleanB 1 r n na i f t nu fr ba = (emp r && (emp n && (emp i && (emp f && ((nu == 0) && ((fr == 0) && (ba == 0))))))) := by
  rfl
theorem clean_2 (k : Nat) (r n na i f t : ByteArray) (nu fr ba : Int) : spec_l5Clean.f (k + 1) 2 r n na i f t nu fr ba = some (2, e0, e0, e0, e0, e0, e0, 0, 0, 0) := by
  rfl
theorem bare_say_2 (r n na i f t : ByteArray) (nu fr ba : Int) : impl_Say_bare.f 2 r n na i f t nu fr ba = some (2, e0, e0, e0, e0, e0, e0, 0, 0, 0) := by
  rfl
theorem cleanB_2 (r n na i f t : ByteArray) (nu fr ba : Int) : cleanB 2 r n na i f t nu fr ba = (emp r && (emp n && (emp na && (emp i && (emp f && (emp t && ((nu == 0) && ((fr == 0) && (ba == 0))))))))) := by
  rfl
theorem clean_3 (k : Nat) (r n na i f t : ByteArray) (nu fr ba : Int) : spec_l5Clean.f (k + 1) 3 r n na i f t nu fr ba = some (3, e0, e0, e0, e0, e0, e0, nu, 0, 0) := by
  rfl
theorem bare_say_3 (r n na i f t : ByteArray) (nu fr ba : Int) : impl_Say_bare.f 3 r n na i f t nu fr ba = some (3, e0, e0, e0, e0, e0, e0, nu, 0, 0) := by
  rfl
theorem cleanB_3 (r n na i f t : ByteArray) (nu fr ba : Int) : cleanB 3 r n na i f t nu fr ba = (emp r && (emp n && (emp na && (emp i && (emp f && (emp t && ((fr == 0) && (ba == 0)))))))) := by
  rfl
theorem clean_4 (k : Nat) (r n na i f t : ByteArray) (nu fr ba : Int) : spec_l5Clean.f (k + 1) 4 r n na i f t nu fr ba = some (4, e0, e0, e0, e0, e0, e0, 0, 0, 0) := by
  rfl
theorem bare_say_4 (r n na i f t : ByteArray) (nu fr ba : Int) : impl_Say_bare.f 4 r n na i f t nu fr ba = some (4, e0, e0, e0, e0, e0, e0, 0, 0, 0) := by
  rfl
theorem cleanB_4 (r n na i f t : ByteArray) (nu fr ba : Int) : cleanB 4 r n na i f t nu fr ba = (emp r && (emp n && (emp na && (emp i && (emp f && (emp t && ((nu == 0) && ((fr == 0) && (ba == 0))))))))) := by
  rfl
theorem clean_5 (k : Nat) (r n na i f t : ByteArray) (nu fr ba : Int) : spec_l5Clean.f (k + 1) 5 r n na i f t nu fr ba = some (5, e0, e0, e0, e0, f, e0, nu, 0, 0) := by
  rfl
theorem bare_say_5 (r n na i f t : ByteArray) (nu fr ba : Int) : impl_Say_bare.f 5 r n na i f t nu fr ba = some (5, e0, e0, e0, e0, f, e0, nu, 0, 0) := by
  rfl
theorem cleanB_5 (r n na i f t : ByteArray) (nu fr ba : Int) : cleanB 5 r n na i f t nu fr ba = (emp r && (emp n && (emp na && (emp i && (emp t && ((fr == 0) && (ba == 0))))))) := by
  rfl
theorem clean_6 (k : Nat) (r n na i f t : ByteArray) (nu fr ba : Int) : spec_l5Clean.f (k + 1) 6 r n na i f t nu fr ba = some (6, r, n, e0, e0, e0, e0, 0, 0, 0) := by
  rfl
theorem bare_say_6 (r n na i f t : ByteArray) (nu fr ba : Int) : impl_Say_bare.f 6 r n na i f t nu fr ba = some (6, r, n, e0, e0, e0, e0, 0, 0, 0) := by
  rfl
theorem cleanB_6 (r n na i f t : ByteArray) (nu fr ba : Int) : cleanB 6 r n na i f t nu fr ba = (emp na && (emp i && (emp f && (emp t && ((nu == 0) && ((fr == 0) && (ba == 0))))))) := by
  rfl
theorem clean_7 (k : Nat) (r n na i f t : ByteArray) (nu fr ba : Int) : spec_l5Clean.f (k + 1) 7 r n na i f t nu fr ba = some (7, r, e0, e0, e0, e0, e0, 0, 0, 0) := by
  rfl
theorem bare_say_7 (r n na i f t : ByteArray) (nu fr ba : Int) : impl_Say_bare.f 7 r n na i f t nu fr ba = some (7, r, e0, e0, e0, e0, e0, 0, 0, 0) := by
  rfl
theorem cleanB_7 (r n na i f t : ByteArray) (nu fr ba : Int) : cleanB 7 r n na i f t nu fr ba = (emp n && (emp na && (emp i && (emp f && (emp t && ((nu == 0) && ((fr == 0) && (ba == 0)))))))) := by
  rfl
theorem clean_8 (k : Nat) (r n na i f t : ByteArray) (nu fr ba : Int) : spec_l5Clean.f (k + 1) 8 r n na i f t nu fr ba = some (8, r, e0, e0, i, f, t, 0, 0, 0) := by
  rfl
theorem bare_say_8 (r n na i f t : ByteArray) (nu fr ba : Int) : impl_Say_bare.f 8 r n na i f t nu fr ba = some (8, r, e0, e0, i, f, t, 0, 0, 0) := by
  rfl
theorem cleanB_8 (r n na i f t : ByteArray) (nu fr ba : Int) : cleanB 8 r n na i f t nu fr ba = (emp n && (emp na && ((nu == 0) && ((fr == 0) && (ba == 0))))) := by
  rfl
theorem clean_9 (k : Nat) (r n na i f t : ByteArray) (nu fr ba : Int) : spec_l5Clean.f (k + 1) 9 r n na i f t nu fr ba = some (9, r, e0, e0, i, e0, t, 0, 0, 0) := by
  rfl
theorem bare_say_9 (r n na i f t : ByteArray) (nu fr ba : Int) : impl_Say_bare.f 9 r n na i f t nu fr ba = some (9, r, e0, e0, i, e0, t, 0, 0, 0) := by
  rfl
theorem cleanB_9 (r n na i f t : ByteArray) (nu fr ba : Int) : cleanB 9 r n na i f t nu fr ba = (emp n && (emp na && (emp f && ((nu == 0) && ((fr == 0) && (ba == 0)))))) := by
  rfl
theorem clean_10 (k : Nat) (r n na i f t : ByteArray) (nu fr ba : Int) : spec_l5Clean.f (k + 1) 10 r n na i f t nu fr ba = some (10, r, n, e0, i, e0, e0, nu, 0, 0) := by
  rfl
theorem bare_say_10 (r n na i f t : ByteArray) (nu fr ba : Int) : impl_Say_bare.f 10 r n na i f t nu fr ba = some (10, r, n, e0, i, e0, e0, nu, 0, 0) := by
  rfl
theorem cleanB_10 (r n na i f t : ByteArray) (nu fr ba : Int) : cleanB 10 r n na i f t nu fr ba = (emp na && (emp f && (emp t && ((fr == 0) && (ba == 0))))) := by
  rfl
theorem clean_11 (k : Nat) (r n na i f t : ByteArray) (nu fr ba : Int) : spec_l5Clean.f (k + 1) 11 r n na i f t nu fr ba = some (11, r, e0, na, i, e0, e0, nu, 0, 0) := by
  rfl
theorem bare_say_11 (r n na i f t : ByteArray) (nu fr ba : Int) : impl_Say_bare.f 11 r n na i f t nu fr ba = some (11, r, e0, na, i, e0, e0, nu, 0, 0) := by
  rfl
theorem cleanB_11 (r n na i f t : ByteArray) (nu fr ba : Int) : cleanB 11 r n na i f t nu fr ba = (emp n && (emp f && (emp t && ((fr == 0) && (ba == 0))))) := by
  rfl
theorem clean_12 (k : Nat) (r n na i f t : ByteArray) (nu fr ba : Int) : spec_l5Clean.f (k + 1) 12 r n na i f t nu fr ba = some (12, r, e0, na, i, e0, e0, nu, fr, ba) := by
  rfl
theorem bare_say_12 (r n na i f t : ByteArray) (nu fr ba : Int) : impl_Say_bare.f 12 r n na i f t nu fr ba = some (12, r, e0, na, i, e0, e0, nu, fr, ba) := by
  rfl
theorem cleanB_12 (r n na i f t : ByteArray) (nu fr ba : Int) : cleanB 12 r n na i f t nu fr ba = (emp n && (emp f && emp t)) := by
  rfl
theorem clean_0 (k : Nat) (kd : Int) (r n na i f t : ByteArray) (nu fr ba : Int) (h1 : ¬ kd = 1) (h2 : ¬ kd = 2) (h3 : ¬ kd = 3) (h4 : ¬ kd = 4) (h5 : ¬ kd = 5) (h6 : ¬ kd = 6) (h7 : ¬ kd = 7) (h8 : ¬ kd = 8) (h9 : ¬ kd = 9) (h10 : ¬ kd = 10) (h11 : ¬ kd = 11) (h12 : ¬ kd = 12) : spec_l5Clean.f (k + 1) kd r n na i f t nu fr ba = some (kd, e0, e0, e0, e0, e0, e0, 0, 0, 0) := by
  simp [spec_l5Clean.f, h1, h2, h3, h4, h5, h6, h7, h8, h9, h10, h11, h12]
theorem bare_say_0 (kd : Int) (r n na i f t : ByteArray) (nu fr ba : Int) (h1 : ¬ kd = 1) (h2 : ¬ kd = 2) (h3 : ¬ kd = 3) (h4 : ¬ kd = 4) (h5 : ¬ kd = 5) (h6 : ¬ kd = 6) (h7 : ¬ kd = 7) (h8 : ¬ kd = 8) (h9 : ¬ kd = 9) (h10 : ¬ kd = 10) (h11 : ¬ kd = 11) (h12 : ¬ kd = 12) : impl_Say_bare.f kd r n na i f t nu fr ba = some (kd, e0, e0, e0, e0, e0, e0, 0, 0, 0) := by
  simp [impl_Say_bare.f, h1, h2, h3, h4, h5, h6, h7, h8, h9, h10, h11, h12]
theorem cleanB_0 (kd : Int) (r n na i f t : ByteArray) (nu fr ba : Int) (h1 : ¬ kd = 1) (h2 : ¬ kd = 2) (h3 : ¬ kd = 3) (h4 : ¬ kd = 4) (h5 : ¬ kd = 5) (h6 : ¬ kd = 6) (h7 : ¬ kd = 7) (h8 : ¬ kd = 8) (h9 : ¬ kd = 9) (h10 : ¬ kd = 10) (h11 : ¬ kd = 11) (h12 : ¬ kd = 12) : cleanB kd r n na i f t nu fr ba = (emp r && (emp n && (emp na && (emp i && (emp f && (emp t && ((nu == 0) && ((fr == 0) && (ba == 0))))))))) := by
  simp [cleanB, h1, h2, h3, h4, h5, h6, h7, h8, h9, h10, h11, h12]
theorem spec_range (kd : Int) (r n na i f t : ByteArray) (nu fr ba : Int) (hr : Small r) (hn : Small n) (hna : Small na) (hi : Small i) (hf : Small f) (ht : Small t) (k : Nat) (kr : 2 * (r.size + n.size + na.size + i.size + f.size + t.size) + 20 < k) : spec_l5Ranged.f k kd r n na i f t nu fr ba = some (rangeB kd r n na i f t nu fr ba) := by
  obtain ⟨k, rfl⟩ : ∃ m, k = m + 1 := ⟨k - 1, by omega⟩
  have u1 := spec_user r hr k (by omega)
  have u2 := spec_user na hna k (by omega)
  have u2' := spec_user na hna (k + 1) (by omega)
  have w1 := spec_word i hi k (by omega)
  have w2 := spec_word f hf k (by omega)
  have w3 := spec_word t ht (k + 1) (by omega)
  have n1 := spec_nick n hn k (by omega)
  have b1 := spec_body t ht k (by omega)
  unfold spec_l5Ranged.f rangeB
  simp only [spec_l5Ranged.j0, toLn, u1, u2, u2', w1, w2, w3, n1, b1, in_eq', Option.bind_some]
  unfold orWordB orUserB
  by_cases h1 : kd = 1
  · subst h1
    cases userB na <;> cases wordB t <;> rfl
  by_cases h2 : kd = 2
  · subst h2
    rfl
  by_cases h3 : kd = 3
  · subst h3
    cases inB nu 0 255 <;> rfl
  by_cases h4 : kd = 4
  · subst h4
    rfl
  by_cases h5 : kd = 5
  · subst h5
    cases wordB f <;> cases inB nu 0 255 <;> rfl
  by_cases h6 : kd = 6
  · subst h6
    cases userB r <;> cases nickB n <;> rfl
  by_cases h7 : kd = 7
  · subst h7
    cases userB r <;> rfl
  by_cases h8 : kd = 8
  · subst h8
    cases userB r <;> cases wordB i <;> cases bodyB t <;> cases emp f <;> cases wordB f <;> rfl
  by_cases h9 : kd = 9
  · subst h9
    cases userB r <;> cases wordB i <;> cases bodyB t <;> rfl
  by_cases h10 : kd = 10
  · subst h10
    cases userB r <;> cases wordB i <;> cases nickB n <;> cases inB nu 0 3 <;> rfl
  by_cases h11 : kd = 11
  · subst h11
    cases userB r <;> cases wordB i <;> cases userB na <;> cases inB nu 0 4 <;> rfl
  by_cases h12 : kd = 12
  · subst h12
    by_cases z1 : fr < 0 <;> simp only [z1, if_true, if_false, decide_true, decide_false, Bool.true_or, Bool.false_or] <;> cases decide (ba < 0) <;> cases userB r <;> cases wordB i <;> cases emp na <;> cases userB na <;> cases inB nu 1 4 <;> cases inB fr (-1) 9999 <;> cases inB ba (-1) 9999 <;> rfl
  simp [h1, h2, h3, h4, h5, h6, h7, h8, h9, h10, h11, h12]
theorem say_fin (b : Bool) (x : Bool) : (if b = true then some x else some false) = some (b && x) := by cases b <;> rfl
theorem spec_say_1 (r n na i f t : ByteArray) (nu fr ba : Int) (hr : Small r) (hn : Small n) (hna : Small na) (hi : Small i) (hf : Small f) (ht : Small t) (k : Nat) (kr : 2 * (r.size + n.size + na.size + i.size + f.size + t.size) + 20 < k) : spec_SayOk.f k 1 r n na i f t nu fr ba = some (sayB 1 r n na i f t nu fr ba) := by
  have hR := spec_range 1 r n na i f t nu fr ba hr hn hna hi hf ht k kr
  obtain ⟨k, rfl⟩ : ∃ m, k = m + 1 := ⟨k - 1, by omega⟩
  unfold spec_SayOk.f spec_l5Ok.f sayB
  rw [clean_1 k r n na i f t nu fr ba, cleanB_1 r n na i f t nu fr ba, hR]
  simp only [Option.bind_some, e0L, toLr, toL, zeq, beq_self_eq_true, Bool.true_and, Bool.and_true]
  rw [say_fin, Option.bind_some]
theorem spec_say_2 (r n na i f t : ByteArray) (nu fr ba : Int) (hr : Small r) (hn : Small n) (hna : Small na) (hi : Small i) (hf : Small f) (ht : Small t) (k : Nat) (kr : 2 * (r.size + n.size + na.size + i.size + f.size + t.size) + 20 < k) : spec_SayOk.f k 2 r n na i f t nu fr ba = some (sayB 2 r n na i f t nu fr ba) := by
  have hR := spec_range 2 r n na i f t nu fr ba hr hn hna hi hf ht k kr
  obtain ⟨k, rfl⟩ : ∃ m, k = m + 1 := ⟨k - 1, by omega⟩
  unfold spec_SayOk.f spec_l5Ok.f sayB
  rw [clean_2 k r n na i f t nu fr ba, cleanB_2 r n na i f t nu fr ba, hR]
  simp only [Option.bind_some, e0L, toLr, toL, zeq, beq_self_eq_true, Bool.true_and, Bool.and_true]
  rw [say_fin, Option.bind_some]
theorem spec_say_3 (r n na i f t : ByteArray) (nu fr ba : Int) (hr : Small r) (hn : Small n) (hna : Small na) (hi : Small i) (hf : Small f) (ht : Small t) (k : Nat) (kr : 2 * (r.size + n.size + na.size + i.size + f.size + t.size) + 20 < k) : spec_SayOk.f k 3 r n na i f t nu fr ba = some (sayB 3 r n na i f t nu fr ba) := by
  have hR := spec_range 3 r n na i f t nu fr ba hr hn hna hi hf ht k kr
  obtain ⟨k, rfl⟩ : ∃ m, k = m + 1 := ⟨k - 1, by omega⟩
  unfold spec_SayOk.f spec_l5Ok.f sayB
  rw [clean_3 k r n na i f t nu fr ba, cleanB_3 r n na i f t nu fr ba, hR]
  simp only [Option.bind_some, e0L, toLr, toL, zeq, beq_self_eq_true, Bool.true_and, Bool.and_true]
  rw [say_fin, Option.bind_some]
theorem spec_say_4 (r n na i f t : ByteArray) (nu fr ba : Int) (hr : Small r) (hn : Small n) (hna : Small na) (hi : Small i) (hf : Small f) (ht : Small t) (k : Nat) (kr : 2 * (r.size + n.size + na.size + i.size + f.size + t.size) + 20 < k) : spec_SayOk.f k 4 r n na i f t nu fr ba = some (sayB 4 r n na i f t nu fr ba) := by
  have hR := spec_range 4 r n na i f t nu fr ba hr hn hna hi hf ht k kr
  obtain ⟨k, rfl⟩ : ∃ m, k = m + 1 := ⟨k - 1, by omega⟩
  unfold spec_SayOk.f spec_l5Ok.f sayB
  rw [clean_4 k r n na i f t nu fr ba, cleanB_4 r n na i f t nu fr ba, hR]
  simp only [Option.bind_some, e0L, toLr, toL, zeq, beq_self_eq_true, Bool.true_and, Bool.and_true]
  rw [say_fin, Option.bind_some]
theorem spec_say_5 (r n na i f t : ByteArray) (nu fr ba : Int) (hr : Small r) (hn : Small n) (hna : Small na) (hi : Small i) (hf : Small f) (ht : Small t) (k : Nat) (kr : 2 * (r.size + n.size + na.size + i.size + f.size + t.size) + 20 < k) : spec_SayOk.f k 5 r n na i f t nu fr ba = some (sayB 5 r n na i f t nu fr ba) := by
  have hR := spec_range 5 r n na i f t nu fr ba hr hn hna hi hf ht k kr
  obtain ⟨k, rfl⟩ : ∃ m, k = m + 1 := ⟨k - 1, by omega⟩
  unfold spec_SayOk.f spec_l5Ok.f sayB
  rw [clean_5 k r n na i f t nu fr ba, cleanB_5 r n na i f t nu fr ba, hR]
  simp only [Option.bind_some, e0L, toLr, toL, zeq, beq_self_eq_true, Bool.true_and, Bool.and_true]
  rw [say_fin, Option.bind_some]
theorem spec_say_6 (r n na i f t : ByteArray) (nu fr ba : Int) (hr : Small r) (hn : Small n) (hna : Small na) (hi : Small i) (hf : Small f) (ht : Small t) (k : Nat) (kr : 2 * (r.size + n.size + na.size + i.size + f.size + t.size) + 20 < k) : spec_SayOk.f k 6 r n na i f t nu fr ba = some (sayB 6 r n na i f t nu fr ba) := by
  have hR := spec_range 6 r n na i f t nu fr ba hr hn hna hi hf ht k kr
  obtain ⟨k, rfl⟩ : ∃ m, k = m + 1 := ⟨k - 1, by omega⟩
  unfold spec_SayOk.f spec_l5Ok.f sayB
  rw [clean_6 k r n na i f t nu fr ba, cleanB_6 r n na i f t nu fr ba, hR]
  simp only [Option.bind_some, e0L, toLr, toL, zeq, beq_self_eq_true, Bool.true_and, Bool.and_true]
  rw [say_fin, Option.bind_some]
theorem spec_say_7 (r n na i f t : ByteArray) (nu fr ba : Int) (hr : Small r) (hn : Small n) (hna : Small na) (hi : Small i) (hf : Small f) (ht : Small t) (k : Nat) (kr : 2 * (r.size + n.size + na.size + i.size + f.size + t.size) + 20 < k) : spec_SayOk.f k 7 r n na i f t nu fr ba = some (sayB 7 r n na i f t nu fr ba) := by
  have hR := spec_range 7 r n na i f t nu fr ba hr hn hna hi hf ht k kr
  obtain ⟨k, rfl⟩ : ∃ m, k = m + 1 := ⟨k - 1, by omega⟩
  unfold spec_SayOk.f spec_l5Ok.f sayB
  rw [clean_7 k r n na i f t nu fr ba, cleanB_7 r n na i f t nu fr ba, hR]
  simp only [Option.bind_some, e0L, toLr, toL, zeq, beq_self_eq_true, Bool.true_and, Bool.and_true]
  rw [say_fin, Option.bind_some]
theorem spec_say_8 (r n na i f t : ByteArray) (nu fr ba : Int) (hr : Small r) (hn : Small n) (hna : Small na) (hi : Small i) (hf : Small f) (ht : Small t) (k : Nat) (kr : 2 * (r.size + n.size + na.size + i.size + f.size + t.size) + 20 < k) : spec_SayOk.f k 8 r n na i f t nu fr ba = some (sayB 8 r n na i f t nu fr ba) := by
  have hR := spec_range 8 r n na i f t nu fr ba hr hn hna hi hf ht k kr
  obtain ⟨k, rfl⟩ : ∃ m, k = m + 1 := ⟨k - 1, by omega⟩
  unfold spec_SayOk.f spec_l5Ok.f sayB
  rw [clean_8 k r n na i f t nu fr ba, cleanB_8 r n na i f t nu fr ba, hR]
  simp only [Option.bind_some, e0L, toLr, toL, zeq, beq_self_eq_true, Bool.true_and, Bool.and_true]
  rw [say_fin, Option.bind_some]
theorem spec_say_9 (r n na i f t : ByteArray) (nu fr ba : Int) (hr : Small r) (hn : Small n) (hna : Small na) (hi : Small i) (hf : Small f) (ht : Small t) (k : Nat) (kr : 2 * (r.size + n.size + na.size + i.size + f.size + t.size) + 20 < k) : spec_SayOk.f k 9 r n na i f t nu fr ba = some (sayB 9 r n na i f t nu fr ba) := by
  have hR := spec_range 9 r n na i f t nu fr ba hr hn hna hi hf ht k kr
  obtain ⟨k, rfl⟩ : ∃ m, k = m + 1 := ⟨k - 1, by omega⟩
  unfold spec_SayOk.f spec_l5Ok.f sayB
  rw [clean_9 k r n na i f t nu fr ba, cleanB_9 r n na i f t nu fr ba, hR]
  simp only [Option.bind_some, e0L, toLr, toL, zeq, beq_self_eq_true, Bool.true_and, Bool.and_true]
  rw [say_fin, Option.bind_some]
theorem spec_say_10 (r n na i f t : ByteArray) (nu fr ba : Int) (hr : Small r) (hn : Small n) (hna : Small na) (hi : Small i) (hf : Small f) (ht : Small t) (k : Nat) (kr : 2 * (r.size + n.size + na.size + i.size + f.size + t.size) + 20 < k) : spec_SayOk.f k 10 r n na i f t nu fr ba = some (sayB 10 r n na i f t nu fr ba) := by
  have hR := spec_range 10 r n na i f t nu fr ba hr hn hna hi hf ht k kr
  obtain ⟨k, rfl⟩ : ∃ m, k = m + 1 := ⟨k - 1, by omega⟩
  unfold spec_SayOk.f spec_l5Ok.f sayB
  rw [clean_10 k r n na i f t nu fr ba, cleanB_10 r n na i f t nu fr ba, hR]
  simp only [Option.bind_some, e0L, toLr, toL, zeq, beq_self_eq_true, Bool.true_and, Bool.and_true]
  rw [say_fin, Option.bind_some]
theorem spec_say_11 (r n na i f t : ByteArray) (nu fr ba : Int) (hr : Small r) (hn : Small n) (hna : Small na) (hi : Small i) (hf : Small f) (ht : Small t) (k : Nat) (kr : 2 * (r.size + n.size + na.size + i.size + f.size + t.size) + 20 < k) : spec_SayOk.f k 11 r n na i f t nu fr ba = some (sayB 11 r n na i f t nu fr ba) := by
  have hR := spec_range 11 r n na i f t nu fr ba hr hn hna hi hf ht k kr
  obtain ⟨k, rfl⟩ : ∃ m, k = m + 1 := ⟨k - 1, by omega⟩
  unfold spec_SayOk.f spec_l5Ok.f sayB
  rw [clean_11 k r n na i f t nu fr ba, cleanB_11 r n na i f t nu fr ba, hR]
  simp only [Option.bind_some, e0L, toLr, toL, zeq, beq_self_eq_true, Bool.true_and, Bool.and_true]
  rw [say_fin, Option.bind_some]
theorem spec_say_12 (r n na i f t : ByteArray) (nu fr ba : Int) (hr : Small r) (hn : Small n) (hna : Small na) (hi : Small i) (hf : Small f) (ht : Small t) (k : Nat) (kr : 2 * (r.size + n.size + na.size + i.size + f.size + t.size) + 20 < k) : spec_SayOk.f k 12 r n na i f t nu fr ba = some (sayB 12 r n na i f t nu fr ba) := by
  have hR := spec_range 12 r n na i f t nu fr ba hr hn hna hi hf ht k kr
  obtain ⟨k, rfl⟩ : ∃ m, k = m + 1 := ⟨k - 1, by omega⟩
  unfold spec_SayOk.f spec_l5Ok.f sayB
  rw [clean_12 k r n na i f t nu fr ba, cleanB_12 r n na i f t nu fr ba, hR]
  simp only [Option.bind_some, e0L, toLr, toL, zeq, beq_self_eq_true, Bool.true_and, Bool.and_true]
  rw [say_fin, Option.bind_some]
theorem spec_say_0 (kd : Int) (r n na i f t : ByteArray) (nu fr ba : Int) (h1 : ¬ kd = 1) (h2 : ¬ kd = 2) (h3 : ¬ kd = 3) (h4 : ¬ kd = 4) (h5 : ¬ kd = 5) (h6 : ¬ kd = 6) (h7 : ¬ kd = 7) (h8 : ¬ kd = 8) (h9 : ¬ kd = 9) (h10 : ¬ kd = 10) (h11 : ¬ kd = 11) (h12 : ¬ kd = 12) (hr : Small r) (hn : Small n) (hna : Small na) (hi : Small i) (hf : Small f) (ht : Small t) (k : Nat) (kr : 2 * (r.size + n.size + na.size + i.size + f.size + t.size) + 20 < k) : spec_SayOk.f k kd r n na i f t nu fr ba = some (sayB kd r n na i f t nu fr ba) := by
  have hR := spec_range kd r n na i f t nu fr ba hr hn hna hi hf ht k kr
  obtain ⟨k, rfl⟩ : ∃ m, k = m + 1 := ⟨k - 1, by omega⟩
  unfold spec_SayOk.f spec_l5Ok.f sayB
  rw [clean_0 k kd r n na i f t nu fr ba h1 h2 h3 h4 h5 h6 h7 h8 h9 h10 h11 h12, cleanB_0 kd r n na i f t nu fr ba h1 h2 h3 h4 h5 h6 h7 h8 h9 h10 h11 h12, hR]
  simp only [Option.bind_some, e0L, toLr, toL, zeq, beq_self_eq_true, Bool.true_and, Bool.and_true]
  rw [say_fin, Option.bind_some]
theorem spec_say (kd : Int) (r n na i f t : ByteArray) (nu fr ba : Int) (hr : Small r) (hn : Small n) (hna : Small na) (hi : Small i) (hf : Small f) (ht : Small t) (k : Nat) (kr : 2 * (r.size + n.size + na.size + i.size + f.size + t.size) + 20 < k) : spec_SayOk.f k kd r n na i f t nu fr ba = some (sayB kd r n na i f t nu fr ba) := by
  by_cases h1 : kd = 1
  · subst h1; exact spec_say_1 r n na i f t nu fr ba hr hn hna hi hf ht k kr
  by_cases h2 : kd = 2
  · subst h2; exact spec_say_2 r n na i f t nu fr ba hr hn hna hi hf ht k kr
  by_cases h3 : kd = 3
  · subst h3; exact spec_say_3 r n na i f t nu fr ba hr hn hna hi hf ht k kr
  by_cases h4 : kd = 4
  · subst h4; exact spec_say_4 r n na i f t nu fr ba hr hn hna hi hf ht k kr
  by_cases h5 : kd = 5
  · subst h5; exact spec_say_5 r n na i f t nu fr ba hr hn hna hi hf ht k kr
  by_cases h6 : kd = 6
  · subst h6; exact spec_say_6 r n na i f t nu fr ba hr hn hna hi hf ht k kr
  by_cases h7 : kd = 7
  · subst h7; exact spec_say_7 r n na i f t nu fr ba hr hn hna hi hf ht k kr
  by_cases h8 : kd = 8
  · subst h8; exact spec_say_8 r n na i f t nu fr ba hr hn hna hi hf ht k kr
  by_cases h9 : kd = 9
  · subst h9; exact spec_say_9 r n na i f t nu fr ba hr hn hna hi hf ht k kr
  by_cases h10 : kd = 10
  · subst h10; exact spec_say_10 r n na i f t nu fr ba hr hn hna hi hf ht k kr
  by_cases h11 : kd = 11
  · subst h11; exact spec_say_11 r n na i f t nu fr ba hr hn hna hi hf ht k kr
  by_cases h12 : kd = 12
  · subst h12; exact spec_say_12 r n na i f t nu fr ba hr hn hna hi hf ht k kr
  exact spec_say_0 kd r n na i f t nu fr ba h1 h2 h3 h4 h5 h6 h7 h8 h9 h10 h11 h12 hr hn hna hi hf ht k kr
theorem min_neg (fr ba : Int) (h1 : inB fr (-1) 9999 = true) (h2 : inB ba (-1) 9999 = true) : (mn fr ba == (-1)) = (decide (fr < 0) || decide (ba < 0)) := by
  unfold inB at h1 h2
  simp only [Bool.and_eq_true, decide_eq_true_eq] at h1 h2
  rw [Bool.eq_iff_iff]
  unfold mn
  simp
  split <;> omega
theorem notor (a b : Bool) : (!a || !b) = !(a && b) := by cases a <;> cases b <;> rfl
theorem impl_say_1 (r n na i f t : ByteArray) (nu fr ba : Int) (hr : Small r) (hn : Small n) (hna : Small na) (hi : Small i) (hf : Small f) (ht : Small t) (k : Nat) (kr : 2 * (r.size + n.size + na.size + i.size + f.size + t.size) + 20 < k) : impl_SayOk.f k 1 r n na i f t nu fr ba = some (sayB 1 r n na i f t nu fr ba) := by
  obtain ⟨k, rfl⟩ : ∃ m, k = m + 2 := ⟨k - 2, by omega⟩
  have u1 := impl_user r hr
  have u2 := impl_user na hna
  have w1 := impl_word i hi
  have w2 := impl_word f hf
  have w3 := impl_word t ht
  have o1 := impl_orWord f hf
  have o2 := impl_orUser na hna
  have n1 := impl_nick n hn k (by omega)
  have b1 := impl_body t ht k (by omega)
  unfold impl_SayOk.f sayB
  rw [bare_say_1 r n na i f t nu fr ba, cleanB_1 r n na i f t nu fr ba, Option.bind_some]
  simp only [e0L, toL, beq_self_eq_true, notor, Bool.true_and, Bool.and_true]
  generalize (emp r && (emp n && (emp i && (emp f && ((nu == 0) && ((fr == 0) && (ba == 0))))))) = C
  cases C with
  | false => rfl
  | true =>
  simp only [impl_SayOk.j0, impl_SayOk.j1, u1, u2, w1, w2, w3, o1, o2, n1, b1, within_eq', count_eq, Option.bind_some]
  unfold rangeB
  cases userB na <;> cases wordB t <;> rfl
theorem impl_say_2 (r n na i f t : ByteArray) (nu fr ba : Int) (hr : Small r) (hn : Small n) (hna : Small na) (hi : Small i) (hf : Small f) (ht : Small t) (k : Nat) (kr : 2 * (r.size + n.size + na.size + i.size + f.size + t.size) + 20 < k) : impl_SayOk.f k 2 r n na i f t nu fr ba = some (sayB 2 r n na i f t nu fr ba) := by
  obtain ⟨k, rfl⟩ : ∃ m, k = m + 2 := ⟨k - 2, by omega⟩
  have u1 := impl_user r hr
  have u2 := impl_user na hna
  have w1 := impl_word i hi
  have w2 := impl_word f hf
  have w3 := impl_word t ht
  have o1 := impl_orWord f hf
  have o2 := impl_orUser na hna
  have n1 := impl_nick n hn k (by omega)
  have b1 := impl_body t ht k (by omega)
  unfold impl_SayOk.f sayB
  rw [bare_say_2 r n na i f t nu fr ba, cleanB_2 r n na i f t nu fr ba, Option.bind_some]
  simp only [e0L, toL, beq_self_eq_true, notor, Bool.true_and, Bool.and_true]
  generalize (emp r && (emp n && (emp na && (emp i && (emp f && (emp t && ((nu == 0) && ((fr == 0) && (ba == 0))))))))) = C
  cases C with
  | false => rfl
  | true =>
  simp only [impl_SayOk.j0, impl_SayOk.j1, u1, u2, w1, w2, w3, o1, o2, n1, b1, within_eq', count_eq, Option.bind_some]
  unfold rangeB
  rfl
theorem impl_say_3 (r n na i f t : ByteArray) (nu fr ba : Int) (hr : Small r) (hn : Small n) (hna : Small na) (hi : Small i) (hf : Small f) (ht : Small t) (k : Nat) (kr : 2 * (r.size + n.size + na.size + i.size + f.size + t.size) + 20 < k) : impl_SayOk.f k 3 r n na i f t nu fr ba = some (sayB 3 r n na i f t nu fr ba) := by
  obtain ⟨k, rfl⟩ : ∃ m, k = m + 2 := ⟨k - 2, by omega⟩
  have u1 := impl_user r hr
  have u2 := impl_user na hna
  have w1 := impl_word i hi
  have w2 := impl_word f hf
  have w3 := impl_word t ht
  have o1 := impl_orWord f hf
  have o2 := impl_orUser na hna
  have n1 := impl_nick n hn k (by omega)
  have b1 := impl_body t ht k (by omega)
  unfold impl_SayOk.f sayB
  rw [bare_say_3 r n na i f t nu fr ba, cleanB_3 r n na i f t nu fr ba, Option.bind_some]
  simp only [e0L, toL, beq_self_eq_true, notor, Bool.true_and, Bool.and_true]
  generalize (emp r && (emp n && (emp na && (emp i && (emp f && (emp t && ((fr == 0) && (ba == 0)))))))) = C
  cases C with
  | false => rfl
  | true =>
  simp only [impl_SayOk.j0, impl_SayOk.j1, u1, u2, w1, w2, w3, o1, o2, n1, b1, within_eq', count_eq, Option.bind_some]
  unfold rangeB
  cases inB nu 0 255 <;> rfl
theorem impl_say_4 (r n na i f t : ByteArray) (nu fr ba : Int) (hr : Small r) (hn : Small n) (hna : Small na) (hi : Small i) (hf : Small f) (ht : Small t) (k : Nat) (kr : 2 * (r.size + n.size + na.size + i.size + f.size + t.size) + 20 < k) : impl_SayOk.f k 4 r n na i f t nu fr ba = some (sayB 4 r n na i f t nu fr ba) := by
  obtain ⟨k, rfl⟩ : ∃ m, k = m + 2 := ⟨k - 2, by omega⟩
  have u1 := impl_user r hr
  have u2 := impl_user na hna
  have w1 := impl_word i hi
  have w2 := impl_word f hf
  have w3 := impl_word t ht
  have o1 := impl_orWord f hf
  have o2 := impl_orUser na hna
  have n1 := impl_nick n hn k (by omega)
  have b1 := impl_body t ht k (by omega)
  unfold impl_SayOk.f sayB
  rw [bare_say_4 r n na i f t nu fr ba, cleanB_4 r n na i f t nu fr ba, Option.bind_some]
  simp only [e0L, toL, beq_self_eq_true, notor, Bool.true_and, Bool.and_true]
  generalize (emp r && (emp n && (emp na && (emp i && (emp f && (emp t && ((nu == 0) && ((fr == 0) && (ba == 0))))))))) = C
  cases C with
  | false => rfl
  | true =>
  simp only [impl_SayOk.j0, impl_SayOk.j1, u1, u2, w1, w2, w3, o1, o2, n1, b1, within_eq', count_eq, Option.bind_some]
  unfold rangeB
  rfl
theorem impl_say_5 (r n na i f t : ByteArray) (nu fr ba : Int) (hr : Small r) (hn : Small n) (hna : Small na) (hi : Small i) (hf : Small f) (ht : Small t) (k : Nat) (kr : 2 * (r.size + n.size + na.size + i.size + f.size + t.size) + 20 < k) : impl_SayOk.f k 5 r n na i f t nu fr ba = some (sayB 5 r n na i f t nu fr ba) := by
  obtain ⟨k, rfl⟩ : ∃ m, k = m + 2 := ⟨k - 2, by omega⟩
  have u1 := impl_user r hr
  have u2 := impl_user na hna
  have w1 := impl_word i hi
  have w2 := impl_word f hf
  have w3 := impl_word t ht
  have o1 := impl_orWord f hf
  have o2 := impl_orUser na hna
  have n1 := impl_nick n hn k (by omega)
  have b1 := impl_body t ht k (by omega)
  unfold impl_SayOk.f sayB
  rw [bare_say_5 r n na i f t nu fr ba, cleanB_5 r n na i f t nu fr ba, Option.bind_some]
  simp only [e0L, toL, beq_self_eq_true, notor, Bool.true_and, Bool.and_true]
  generalize (emp r && (emp n && (emp na && (emp i && (emp t && ((fr == 0) && (ba == 0))))))) = C
  cases C with
  | false => rfl
  | true =>
  simp only [impl_SayOk.j0, impl_SayOk.j1, u1, u2, w1, w2, w3, o1, o2, n1, b1, within_eq', count_eq, Option.bind_some]
  unfold rangeB
  cases wordB f <;> cases inB nu 0 255 <;> rfl
theorem impl_say_6 (r n na i f t : ByteArray) (nu fr ba : Int) (hr : Small r) (hn : Small n) (hna : Small na) (hi : Small i) (hf : Small f) (ht : Small t) (k : Nat) (kr : 2 * (r.size + n.size + na.size + i.size + f.size + t.size) + 20 < k) : impl_SayOk.f k 6 r n na i f t nu fr ba = some (sayB 6 r n na i f t nu fr ba) := by
  obtain ⟨k, rfl⟩ : ∃ m, k = m + 2 := ⟨k - 2, by omega⟩
  have u1 := impl_user r hr
  have u2 := impl_user na hna
  have w1 := impl_word i hi
  have w2 := impl_word f hf
  have w3 := impl_word t ht
  have o1 := impl_orWord f hf
  have o2 := impl_orUser na hna
  have n1 := impl_nick n hn k (by omega)
  have b1 := impl_body t ht k (by omega)
  unfold impl_SayOk.f sayB
  rw [bare_say_6 r n na i f t nu fr ba, cleanB_6 r n na i f t nu fr ba, Option.bind_some]
  simp only [e0L, toL, beq_self_eq_true, notor, Bool.true_and, Bool.and_true]
  generalize (emp na && (emp i && (emp f && (emp t && ((nu == 0) && ((fr == 0) && (ba == 0))))))) = C
  cases C with
  | false => rfl
  | true =>
  simp only [impl_SayOk.j0, impl_SayOk.j1, u1, u2, w1, w2, w3, o1, o2, n1, b1, within_eq', count_eq, Option.bind_some]
  unfold rangeB
  cases userB r <;> cases nickB n <;> rfl
theorem impl_say_7 (r n na i f t : ByteArray) (nu fr ba : Int) (hr : Small r) (hn : Small n) (hna : Small na) (hi : Small i) (hf : Small f) (ht : Small t) (k : Nat) (kr : 2 * (r.size + n.size + na.size + i.size + f.size + t.size) + 20 < k) : impl_SayOk.f k 7 r n na i f t nu fr ba = some (sayB 7 r n na i f t nu fr ba) := by
  obtain ⟨k, rfl⟩ : ∃ m, k = m + 2 := ⟨k - 2, by omega⟩
  have u1 := impl_user r hr
  have u2 := impl_user na hna
  have w1 := impl_word i hi
  have w2 := impl_word f hf
  have w3 := impl_word t ht
  have o1 := impl_orWord f hf
  have o2 := impl_orUser na hna
  have n1 := impl_nick n hn k (by omega)
  have b1 := impl_body t ht k (by omega)
  unfold impl_SayOk.f sayB
  rw [bare_say_7 r n na i f t nu fr ba, cleanB_7 r n na i f t nu fr ba, Option.bind_some]
  simp only [e0L, toL, beq_self_eq_true, notor, Bool.true_and, Bool.and_true]
  generalize (emp n && (emp na && (emp i && (emp f && (emp t && ((nu == 0) && ((fr == 0) && (ba == 0)))))))) = C
  cases C with
  | false => rfl
  | true =>
  simp only [impl_SayOk.j0, impl_SayOk.j1, u1, u2, w1, w2, w3, o1, o2, n1, b1, within_eq', count_eq, Option.bind_some]
  unfold rangeB
  cases userB r <;> rfl
theorem impl_say_8 (r n na i f t : ByteArray) (nu fr ba : Int) (hr : Small r) (hn : Small n) (hna : Small na) (hi : Small i) (hf : Small f) (ht : Small t) (k : Nat) (kr : 2 * (r.size + n.size + na.size + i.size + f.size + t.size) + 20 < k) : impl_SayOk.f k 8 r n na i f t nu fr ba = some (sayB 8 r n na i f t nu fr ba) := by
  obtain ⟨k, rfl⟩ : ∃ m, k = m + 2 := ⟨k - 2, by omega⟩
  have u1 := impl_user r hr
  have u2 := impl_user na hna
  have w1 := impl_word i hi
  have w2 := impl_word f hf
  have w3 := impl_word t ht
  have o1 := impl_orWord f hf
  have o2 := impl_orUser na hna
  have n1 := impl_nick n hn k (by omega)
  have b1 := impl_body t ht k (by omega)
  unfold impl_SayOk.f sayB
  rw [bare_say_8 r n na i f t nu fr ba, cleanB_8 r n na i f t nu fr ba, Option.bind_some]
  simp only [e0L, toL, beq_self_eq_true, notor, Bool.true_and, Bool.and_true]
  generalize (emp n && (emp na && ((nu == 0) && ((fr == 0) && (ba == 0))))) = C
  cases C with
  | false => rfl
  | true =>
  simp only [impl_SayOk.j0, impl_SayOk.j1, u1, u2, w1, w2, w3, o1, o2, n1, b1, within_eq', count_eq, Option.bind_some]
  unfold rangeB
  cases userB r <;> cases wordB i <;> cases bodyB t <;> cases orWordB f <;> rfl
theorem impl_say_9 (r n na i f t : ByteArray) (nu fr ba : Int) (hr : Small r) (hn : Small n) (hna : Small na) (hi : Small i) (hf : Small f) (ht : Small t) (k : Nat) (kr : 2 * (r.size + n.size + na.size + i.size + f.size + t.size) + 20 < k) : impl_SayOk.f k 9 r n na i f t nu fr ba = some (sayB 9 r n na i f t nu fr ba) := by
  obtain ⟨k, rfl⟩ : ∃ m, k = m + 2 := ⟨k - 2, by omega⟩
  have u1 := impl_user r hr
  have u2 := impl_user na hna
  have w1 := impl_word i hi
  have w2 := impl_word f hf
  have w3 := impl_word t ht
  have o1 := impl_orWord f hf
  have o2 := impl_orUser na hna
  have n1 := impl_nick n hn k (by omega)
  have b1 := impl_body t ht k (by omega)
  unfold impl_SayOk.f sayB
  rw [bare_say_9 r n na i f t nu fr ba, cleanB_9 r n na i f t nu fr ba, Option.bind_some]
  simp only [e0L, toL, beq_self_eq_true, notor, Bool.true_and, Bool.and_true]
  generalize (emp n && (emp na && (emp f && ((nu == 0) && ((fr == 0) && (ba == 0)))))) = C
  cases C with
  | false => rfl
  | true =>
  simp only [impl_SayOk.j0, impl_SayOk.j1, u1, u2, w1, w2, w3, o1, o2, n1, b1, within_eq', count_eq, Option.bind_some]
  unfold rangeB
  cases userB r <;> cases wordB i <;> cases bodyB t <;> rfl
theorem impl_say_10 (r n na i f t : ByteArray) (nu fr ba : Int) (hr : Small r) (hn : Small n) (hna : Small na) (hi : Small i) (hf : Small f) (ht : Small t) (k : Nat) (kr : 2 * (r.size + n.size + na.size + i.size + f.size + t.size) + 20 < k) : impl_SayOk.f k 10 r n na i f t nu fr ba = some (sayB 10 r n na i f t nu fr ba) := by
  obtain ⟨k, rfl⟩ : ∃ m, k = m + 2 := ⟨k - 2, by omega⟩
  have u1 := impl_user r hr
  have u2 := impl_user na hna
  have w1 := impl_word i hi
  have w2 := impl_word f hf
  have w3 := impl_word t ht
  have o1 := impl_orWord f hf
  have o2 := impl_orUser na hna
  have n1 := impl_nick n hn k (by omega)
  have b1 := impl_body t ht k (by omega)
  unfold impl_SayOk.f sayB
  rw [bare_say_10 r n na i f t nu fr ba, cleanB_10 r n na i f t nu fr ba, Option.bind_some]
  simp only [e0L, toL, beq_self_eq_true, notor, Bool.true_and, Bool.and_true]
  generalize (emp na && (emp f && (emp t && ((fr == 0) && (ba == 0))))) = C
  cases C with
  | false => rfl
  | true =>
  simp only [impl_SayOk.j0, impl_SayOk.j1, u1, u2, w1, w2, w3, o1, o2, n1, b1, within_eq', count_eq, Option.bind_some]
  unfold rangeB
  cases userB r <;> cases wordB i <;> cases nickB n <;> cases inB nu 0 3 <;> rfl
theorem impl_say_11 (r n na i f t : ByteArray) (nu fr ba : Int) (hr : Small r) (hn : Small n) (hna : Small na) (hi : Small i) (hf : Small f) (ht : Small t) (k : Nat) (kr : 2 * (r.size + n.size + na.size + i.size + f.size + t.size) + 20 < k) : impl_SayOk.f k 11 r n na i f t nu fr ba = some (sayB 11 r n na i f t nu fr ba) := by
  obtain ⟨k, rfl⟩ : ∃ m, k = m + 2 := ⟨k - 2, by omega⟩
  have u1 := impl_user r hr
  have u2 := impl_user na hna
  have w1 := impl_word i hi
  have w2 := impl_word f hf
  have w3 := impl_word t ht
  have o1 := impl_orWord f hf
  have o2 := impl_orUser na hna
  have n1 := impl_nick n hn k (by omega)
  have b1 := impl_body t ht k (by omega)
  unfold impl_SayOk.f sayB
  rw [bare_say_11 r n na i f t nu fr ba, cleanB_11 r n na i f t nu fr ba, Option.bind_some]
  simp only [e0L, toL, beq_self_eq_true, notor, Bool.true_and, Bool.and_true]
  generalize (emp n && (emp f && (emp t && ((fr == 0) && (ba == 0))))) = C
  cases C with
  | false => rfl
  | true =>
  simp only [impl_SayOk.j0, impl_SayOk.j1, u1, u2, w1, w2, w3, o1, o2, n1, b1, within_eq', count_eq, Option.bind_some]
  unfold rangeB
  cases userB r <;> cases wordB i <;> cases userB na <;> cases inB nu 0 4 <;> rfl
theorem impl_say_12 (r n na i f t : ByteArray) (nu fr ba : Int) (hr : Small r) (hn : Small n) (hna : Small na) (hi : Small i) (hf : Small f) (ht : Small t) (k : Nat) (kr : 2 * (r.size + n.size + na.size + i.size + f.size + t.size) + 20 < k) : impl_SayOk.f k 12 r n na i f t nu fr ba = some (sayB 12 r n na i f t nu fr ba) := by
  obtain ⟨k, rfl⟩ : ∃ m, k = m + 2 := ⟨k - 2, by omega⟩
  have u1 := impl_user r hr
  have u2 := impl_user na hna
  have w1 := impl_word i hi
  have w2 := impl_word f hf
  have w3 := impl_word t ht
  have o1 := impl_orWord f hf
  have o2 := impl_orUser na hna
  have n1 := impl_nick n hn k (by omega)
  have b1 := impl_body t ht k (by omega)
  unfold impl_SayOk.f sayB
  rw [bare_say_12 r n na i f t nu fr ba, cleanB_12 r n na i f t nu fr ba, Option.bind_some]
  simp only [e0L, toL, beq_self_eq_true, notor, Bool.true_and, Bool.and_true]
  generalize (emp n && (emp f && emp t)) = C
  cases C with
  | false => rfl
  | true =>
  simp only [impl_SayOk.j0, impl_SayOk.j1, u1, u2, w1, w2, w3, o1, o2, n1, b1, within_eq', count_eq, Option.bind_some]
  unfold rangeB
  by_cases q1 : inB fr (-1) 9999 = true
  · by_cases q2 : inB ba (-1) 9999 = true
    · rw [min_neg fr ba q1 q2, q1, q2]
      cases (decide (fr < 0) || decide (ba < 0)) <;> cases userB r <;> cases wordB i <;> cases orUserB na <;> cases inB nu 1 4 <;> rfl
    · rw [q1, (Bool.not_eq_true _).mp q2]
      cases userB r <;> cases wordB i <;> cases orUserB na <;> cases inB nu 1 4 <;> rfl
  · rw [(Bool.not_eq_true _).mp q1]
    cases userB r <;> cases wordB i <;> cases orUserB na <;> cases inB nu 1 4 <;> rfl
theorem impl_say_0 (kd : Int) (r n na i f t : ByteArray) (nu fr ba : Int) (h1 : ¬ kd = 1) (h2 : ¬ kd = 2) (h3 : ¬ kd = 3) (h4 : ¬ kd = 4) (h5 : ¬ kd = 5) (h6 : ¬ kd = 6) (h7 : ¬ kd = 7) (h8 : ¬ kd = 8) (h9 : ¬ kd = 9) (h10 : ¬ kd = 10) (h11 : ¬ kd = 11) (h12 : ¬ kd = 12) (hr : Small r) (hn : Small n) (hna : Small na) (hi : Small i) (hf : Small f) (ht : Small t) (k : Nat) (kr : 2 * (r.size + n.size + na.size + i.size + f.size + t.size) + 20 < k) : impl_SayOk.f k kd r n na i f t nu fr ba = some (sayB kd r n na i f t nu fr ba) := by
  obtain ⟨k, rfl⟩ : ∃ m, k = m + 2 := ⟨k - 2, by omega⟩
  have u1 := impl_user r hr
  have u2 := impl_user na hna
  have w1 := impl_word i hi
  have w2 := impl_word f hf
  have w3 := impl_word t ht
  have o1 := impl_orWord f hf
  have o2 := impl_orUser na hna
  have n1 := impl_nick n hn k (by omega)
  have b1 := impl_body t ht k (by omega)
  unfold impl_SayOk.f sayB
  rw [bare_say_0 kd r n na i f t nu fr ba h1 h2 h3 h4 h5 h6 h7 h8 h9 h10 h11 h12, cleanB_0 kd r n na i f t nu fr ba h1 h2 h3 h4 h5 h6 h7 h8 h9 h10 h11 h12, Option.bind_some]
  simp only [e0L, toL, beq_self_eq_true, notor, Bool.true_and, Bool.and_true]
  generalize (emp r && (emp n && (emp na && (emp i && (emp f && (emp t && ((nu == 0) && ((fr == 0) && (ba == 0))))))))) = C
  cases C with
  | false => rfl
  | true =>
  simp only [impl_SayOk.j0, impl_SayOk.j1, u1, u2, w1, w2, w3, o1, o2, n1, b1, within_eq', count_eq, Option.bind_some]
  by_cases g6 : kd ≥ 6 <;> by_cases g8 : kd ≥ 8 <;> cases userB r <;> cases wordB i <;> simp [rangeB, g6, g8, h1, h2, h3, h4, h5, h6, h7, h8, h9, h10, h11, h12]
theorem impl_say (kd : Int) (r n na i f t : ByteArray) (nu fr ba : Int) (hr : Small r) (hn : Small n) (hna : Small na) (hi : Small i) (hf : Small f) (ht : Small t) (k : Nat) (kr : 2 * (r.size + n.size + na.size + i.size + f.size + t.size) + 20 < k) : impl_SayOk.f k kd r n na i f t nu fr ba = some (sayB kd r n na i f t nu fr ba) := by
  by_cases h1 : kd = 1
  · subst h1; exact impl_say_1 r n na i f t nu fr ba hr hn hna hi hf ht k kr
  by_cases h2 : kd = 2
  · subst h2; exact impl_say_2 r n na i f t nu fr ba hr hn hna hi hf ht k kr
  by_cases h3 : kd = 3
  · subst h3; exact impl_say_3 r n na i f t nu fr ba hr hn hna hi hf ht k kr
  by_cases h4 : kd = 4
  · subst h4; exact impl_say_4 r n na i f t nu fr ba hr hn hna hi hf ht k kr
  by_cases h5 : kd = 5
  · subst h5; exact impl_say_5 r n na i f t nu fr ba hr hn hna hi hf ht k kr
  by_cases h6 : kd = 6
  · subst h6; exact impl_say_6 r n na i f t nu fr ba hr hn hna hi hf ht k kr
  by_cases h7 : kd = 7
  · subst h7; exact impl_say_7 r n na i f t nu fr ba hr hn hna hi hf ht k kr
  by_cases h8 : kd = 8
  · subst h8; exact impl_say_8 r n na i f t nu fr ba hr hn hna hi hf ht k kr
  by_cases h9 : kd = 9
  · subst h9; exact impl_say_9 r n na i f t nu fr ba hr hn hna hi hf ht k kr
  by_cases h10 : kd = 10
  · subst h10; exact impl_say_10 r n na i f t nu fr ba hr hn hna hi hf ht k kr
  by_cases h11 : kd = 11
  · subst h11; exact impl_say_11 r n na i f t nu fr ba hr hn hna hi hf ht k kr
  by_cases h12 : kd = 12
  · subst h12; exact impl_say_12 r n na i f t nu fr ba hr hn hna hi hf ht k kr
  exact impl_say_0 kd r n na i f t nu fr ba h1 h2 h3 h4 h5 h6 h7 h8 h9 h10 h11 h12 hr hn hna hi hf ht k kr
end Go.Proofs.YtgjecacalpaacaaDoor.Words
set_option linter.unusedVariables false
namespace Go.Proofs.YtgjecacalpaacaaDoor.Words
open Go.RowKit Go.Proofs.YtgjecacalpaacaaDoor.PAll Go.Proofs.YtgjecacalpaacaaDoorW.PrintWords Go.Proofs.YtgjecacalpaacaaDoorW.PrintLast Go.Proofs.YtgjecacalpaacaaDoorW.PrintMore Go.Proofs.YtgjecacalpaacaaDoorW.XWords
theorem wrap_sub (x y : Int) (h : x ≤ 1048576) (h0 : 0 ≤ x) (y0 : 0 ≤ y) (y1 : y ≤ 9223372036854775807) : wrap64 (x - y) = x - y := by unfold wrap64; omega
def sixF (a b c d e f x : Int) : Option Int := if (wrap64 (x - a)) < 0 then (some (-1)) else (if (wrap64 ((wrap64 (x - a)) - b)) < 0 then (some (-1)) else (if (wrap64 ((wrap64 ((wrap64 (x - a)) - b)) - c)) < 0 then (some (-1)) else (if (wrap64 ((wrap64 ((wrap64 ((wrap64 (x - a)) - b)) - c)) - d)) < 0 then (some (-1)) else (if (wrap64 ((wrap64 ((wrap64 ((wrap64 ((wrap64 (x - a)) - b)) - c)) - d)) - e)) < 0 then (some (-1)) else (if (wrap64 ((wrap64 ((wrap64 ((wrap64 ((wrap64 ((wrap64 (x - a)) - b)) - c)) - d)) - e)) - f)) < 0 then (some (-1)) else (some (wrap64 ((wrap64 ((wrap64 ((wrap64 ((wrap64 ((wrap64 (x - a)) - b)) - c)) - d)) - e)) - f))))))))
theorem sz_six (a b c d e f : Nat) (ha : a ≤ maxLen) (hb : b ≤ maxLen) (hc : c ≤ maxLen) (hd : d ≤ maxLen) (he : e ≤ maxLen) (hf : f ≤ maxLen) (x : Int) (x0 : 0 ≤ x) (x1 : x ≤ 1048576) :
    ∃ z, sixF a b c d e f x = some z ∧ (z < 0 ∨ (z = x - a - b - c - d - e - f ∧ 0 ≤ z)) := by
  unfold maxLen at ha hb hc hd he hf
  unfold sixF
  rw [wrap_sub x _ x1 x0 (by omega) (by omega)]
  by_cases c1 : x - (a : Int) < 0
  · exact ⟨_, if_pos c1, .inl (by omega)⟩
  rw [if_neg c1, wrap_sub (x - (a : Int)) _ (by omega) (by omega) (by omega) (by omega)]
  by_cases c2 : x - (a : Int) - (b : Int) < 0
  · exact ⟨_, if_pos c2, .inl (by omega)⟩
  rw [if_neg c2, wrap_sub (x - (a : Int) - (b : Int)) _ (by omega) (by omega) (by omega) (by omega)]
  by_cases c3 : x - (a : Int) - (b : Int) - (c : Int) < 0
  · exact ⟨_, if_pos c3, .inl (by omega)⟩
  rw [if_neg c3, wrap_sub (x - (a : Int) - (b : Int) - (c : Int)) _ (by omega) (by omega) (by omega) (by omega)]
  by_cases c4 : x - (a : Int) - (b : Int) - (c : Int) - (d : Int) < 0
  · exact ⟨_, if_pos c4, .inl (by omega)⟩
  rw [if_neg c4, wrap_sub (x - (a : Int) - (b : Int) - (c : Int) - (d : Int)) _ (by omega) (by omega) (by omega) (by omega)]
  by_cases c5 : x - (a : Int) - (b : Int) - (c : Int) - (d : Int) - (e : Int) < 0
  · exact ⟨_, if_pos c5, .inl (by omega)⟩
  rw [if_neg c5, wrap_sub (x - (a : Int) - (b : Int) - (c : Int) - (d : Int) - (e : Int)) _ (by omega) (by omega) (by omega) (by omega)]
  by_cases c6 : x - (a : Int) - (b : Int) - (c : Int) - (d : Int) - (e : Int) - (f : Int) < 0
  · exact ⟨_, if_pos c6, .inl (by omega)⟩
  rw [if_neg c6]
  exact ⟨_, rfl, .inr ⟨rfl, by omega⟩⟩
end Go.Proofs.YtgjecacalpaacaaDoor.Words
set_option linter.unusedVariables false
namespace Go.Proofs.YtgjecacalpaacaaDoor.Words
open Go.RowKit Go.Proofs.YtgjecacalpaacaaDoor.PAll Go.Proofs.YtgjecacalpaacaaDoorW.PrintWords Go.Proofs.YtgjecacalpaacaaDoorW.PrintLast Go.Proofs.YtgjecacalpaacaaDoorW.PrintMore Go.Proofs.YtgjecacalpaacaaDoorW.XWords
theorem sz_say (kd : Int) (r n na i f t : ByteArray) (nu fr ba : Int) (hr : r.size ≤ maxLen) (hn : n.size ≤ maxLen) (hna : na.size ≤ maxLen) (hi : i.size ≤ maxLen) (hf : f.size ≤ maxLen) (ht : t.size ≤ maxLen) (x : Int) (x0 : 0 ≤ x) (x1 : x ≤ 1048576) :
    ∃ z, laws_szSay.f kd r n na i f t nu fr ba x = some z ∧ (z < 0 ∨ (z = x - r.size - n.size - na.size - i.size - f.size - t.size ∧ 0 ≤ z)) := by
  obtain ⟨z, hz, h⟩ := sz_six r.size n.size na.size i.size f.size t.size hr hn hna hi hf ht x x0 x1
  exact ⟨z, hz, h⟩
end Go.Proofs.YtgjecacalpaacaaDoor.Words
namespace Go.Proofs.YtgjecacalpaacaaDoor.Pure
open Go.RowKit Go.Proofs.YtgjecacalpaacaaDoor.PAll Go.Proofs.YtgjecacalpaacaaDoorW.PrintWords Go.Proofs.YtgjecacalpaacaaDoorW.PrintLast Go.Proofs.YtgjecacalpaacaaDoorW.PrintMore Go.Proofs.YtgjecacalpaacaaDoorW.XWords
open Go.Proofs.YtgjecacalpaacaaDoor.Words
theorem FnExactSayOk (kd : Int) (r n na i f t : ByteArray) (nu fr ba : Int) (_hkd : (Lit.int .i64 kd).wf = true) (hr : r.size ≤ maxLen) (hn : n.size ≤ maxLen) (hna : na.size ≤ maxLen) (hi : i.size ≤ maxLen) (hf : f.size ≤ maxLen) (ht : t.size ≤ maxLen) (_hnu : (Lit.int .i64 nu).wf = true) (_hfr : (Lit.int .i64 fr).wf = true) (_hba : (Lit.int .i64 ba).wf = true) :
    ∃ k, laws_FnExactSayOk.f k kd r n na i f t nu fr ba = some true := by
  refine ⟨3000000, ?_⟩
  obtain ⟨z, hz, h⟩ := sz_say kd r n na i f t nu fr ba hr hn hna hi hf ht 1048576 (by omega) (by omega)
  unfold laws_FnExactSayOk.f
  rw [hz, Option.bind_some]
  rcases h with h | ⟨h, h0⟩
  · rw [if_pos h]
  · rw [if_neg (by omega)]
    simp only [laws_toSay.f, Option.bind_some]
    rw [spec_say kd r n na i f t nu fr ba (by unfold Small; omega) (by unfold Small; omega) (by unfold Small; omega) (by unfold Small; omega) (by unfold Small; omega) (by unfold Small; omega) _ (by omega), Option.bind_some,
      impl_say kd r n na i f t nu fr ba (by unfold Small; omega) (by unfold Small; omega) (by unfold Small; omega) (by unfold Small; omega) (by unfold Small; omega) (by unfold Small; omega) _ (by omega), Option.bind_some]
    simp
end Go.Proofs.YtgjecacalpaacaaDoor.Pure
