/- What the reference tells of texts in UTF-8 (plain facts over the printed functions). -/
import Derived.Test.YtgjecacalpaacaaDoorPureText
import Derived.Test.YtgjecacalpaacaaDoorPAllxspecl1In08d2
import Derived.Test.YtgjecacalpaacaaDoorPAllxspecl1Lead5e8d
import Derived.Test.YtgjecacalpaacaaDoorPAllxspecl1Second1728
import Derived.Test.YtgjecacalpaacaaDoorPAllxspecl1Sign97c8
import Derived.Test.YtgjecacalpaacaaDoorPAllxspecl1Nextfd05
import Derived.Test.YtgjecacalpaacaaDoorPAllxspecl1Utf3be7
import Derived.Test.YtgjecacalpaacaaDoorPAllxspecTextOk181e
set_option linter.unusedVariables false
set_option linter.unusedSimpArgs false
namespace Go.Proofs.YtgjecacalpaacaaDoor.Text
open Go.RowKit Go.Proofs.YtgjecacalpaacaaDoor.PAll Go.Proofs.YtgjecacalpaacaaDoorW.PrintWords Go.Proofs.YtgjecacalpaacaaDoorW.PrintLast Go.Proofs.YtgjecacalpaacaaDoorW.PrintMore Go.Proofs.YtgjecacalpaacaaDoorW.XWords
open Go.Lib
theorem lead_eq (a : Nat) (ha : a < 256) : spec_l1Lead.f (a : Int) = some (if a < 128 then 1 else if 194 ≤ a ∧ a ≤ 223 then 2 else if 224 ≤ a ∧ a ≤ 239 then 3 else if 240 ≤ a ∧ a ≤ 244 then 4 else 0) := by
  unfold spec_l1Lead.f
  rw [wrap_small a (by omega)]
  simp only [in_eq, Option.bind_some]
  by_cases h1 : a < 128
  · rw [if_pos (by omega), if_pos h1]
  rw [if_neg (by omega), if_neg h1]
  by_cases h2 : 194 ≤ a ∧ a ≤ 223
  · rw [if_pos (by simp; omega), if_pos h2]
  rw [if_neg (by simp; omega), if_neg h2]
  by_cases h3 : 224 ≤ a ∧ a ≤ 239
  · rw [if_pos (by simp; omega), if_pos h3]
  rw [if_neg (by simp; omega), if_neg h3]
  by_cases h4 : 240 ≤ a ∧ a ≤ 244
  · rw [if_pos (by simp; omega), if_pos h4]
  rw [if_neg (by simp; omega), if_neg h4]
abbrev sec (a b : Nat) : Prop := (a = 224 → 160 ≤ b) ∧ (a = 237 → b < 160) ∧ (a = 240 → 144 ≤ b) ∧ (a = 244 → b < 144)
theorem sec_eq (a b : Nat) : spec_l1Second.f (a : Int) (b : Int) = some (decide (sec a b)) := by
  unfold spec_l1Second.f
  (repeat' split) <;> rw [Option.some.injEq, Bool.eq_iff_iff] <;> simp <;> omega
set_option maxHeartbeats 4000000 in
/-- One more byte. -/
theorem step_eq (k : Nat) (s : ByteArray) (hs : s.size ≤ 140737488351232) (i m n j : Nat) (hi : i < s.size) (hj : j < m) (h1 : 1 ≤ j) (hm : m ≤ 4) (hn : n ≤ 2000000) :
    spec_l1Next.l0 (k + 1) s (i : Int) (m : Int) (n : Int) (j : Int) =
      if s.size ≤ i + j then some (0, -1) else if cont (b4 s (i + j)) ∧ (j = 1 → sec (b4 s i) (b4 s (i + 1))) then spec_l1Next.l0 k s (i : Int) (m : Int) ((n * 64 + b4 s (i + j) - 128 : Nat) : Int) ((j + 1 : Nat) : Int) else some (0, 0) := by
  have hb := b4_lt s (i + j)
  have hw : Aside0 (wrap64 ((i : Int) + (j : Int)) = ((i + j : Nat) : Int)) := ⟨by rw [← Int.natCast_add]; exact wrap_small _ (by omega)⟩
  have hbw : Aside0 (wrap64 (bt s ((i + j : Nat) : Int)) = (b4 s (i + j) : Int)) := ⟨by rw [← b4_cast]; exact wrap_small _ (by omega)⟩
  have hbi : Aside0 (wrap64 (bt s (i : Int)) = (b4 s i : Int)) := ⟨by rw [← b4_cast]; exact wrap_small _ (by have := b4_lt s i; omega)⟩
  have hj1 : Aside0 (wrap64 ((j : Int) + 1) = ((j + 1 : Nat) : Int)) := ⟨by rw [show ((j : Int) + 1) = ((j + 1 : Nat) : Int) by omega]; exact wrap_small _ (by omega)⟩
  simp only [spec_l1Next.l0]
  rw [if_pos (by omega), hw.out]
  by_cases ho : s.size ≤ i + j
  · rw [if_pos (by omega), if_pos ho]
  rw [if_neg (by omega), if_neg ho, if_pos (by omega), if_pos (by omega), hbw.out, in_eq, Option.bind_some]
  by_cases hc : cont (b4 s (i + j))
  · have hval : Aside0 (wrap64 (wrap64 (wrap64 ((n : Int) * 64) + (b4 s (i + j) : Int)) - 128) = ((n * 64 + b4 s (i + j) - 128 : Nat) : Int)) := by
      constructor
      rw [show ((n : Int) * 64) = ((n * 64 : Nat) : Int) by omega, wrap_small _ (by omega), ← Int.natCast_add, wrap_small _ (by omega), show (((n * 64 + b4 s (i + j) : Nat) : Int) - 128) = ((n * 64 + b4 s (i + j) - 128 : Nat) : Int) by omega]
      exact wrap_small _ (by omega)
    rw [if_pos (by simp; omega), hval.out, hj1.out]
    by_cases h1' : j = 1
    · subst h1'
      rw [if_pos (by rfl), if_pos (by omega), if_pos (by omega), hbi.out, sec_eq, Option.bind_some]
      by_cases hz : sec (b4 s i) (b4 s (i + 1))
      · rw [if_pos (decide_eq_true hz), if_pos ⟨hc, fun _ => hz⟩]
      · rw [if_neg (fun z => hz (of_decide_eq_true z)), if_neg (fun z => hz (z.2 rfl))]
    · rw [if_neg (by omega), if_pos ⟨hc, fun z => absurd z h1'⟩]
  · rw [if_neg (by simp; omega), if_neg (fun z => hc z.1)]
theorem last_eq (k : Nat) (s : ByteArray) (i m n j : Nat) (hj : m ≤ j) : spec_l1Next.l0 (k + 1) s (i : Int) (m : Int) (n : Int) (j : Int) = if m = 0 then some (0, 0) else if sgN n then some ((n : Int), (m : Int)) else some (0, 0) := by
  simp only [spec_l1Next.l0]
  rw [if_neg (by omega), sign_spec, Option.bind_some]
  by_cases h0 : m = 0
  · rw [if_pos (by omega), if_pos h0]
  · rw [if_neg (by omega), if_neg h0]
    by_cases hs : sgN n
    · rw [if_pos (decide_eq_true hs), if_pos hs]
    · rw [if_neg (fun z => hs (of_decide_eq_true z)), if_neg hs]
set_option maxHeartbeats 4000000 in
theorem next_eq (s : ByteArray) (hs : s.size ≤ 140737488351232) (i : Nat) (hi : i < s.size) (k : Nat) (hk : 8 ≤ k) :
    ∃ n m : Int, spec_l1Next.f k s (i : Int) = some (n, m) ∧ (wid s i ≠ 0 → m = (wid s i : Int) ∧ n = (val s i : Int)) ∧ (wid s i = 0 → m < 1 ∧ n = 0) := by
  obtain ⟨k, rfl⟩ : ∃ q, k = q + 8 := ⟨k - 8, by omega⟩
  have ha := b4_lt s i
  have hw : ∀ q, wid s i = q ↔ widN (b4 s i) (b4 s (i + 1)) (b4 s (i + 2)) (b4 s (i + 3)) = q := fun q => Iff.rfl
  have hv : ∀ q, val s i = q ↔ valN (b4 s i) (b4 s (i + 1)) (b4 s (i + 2)) (b4 s (i + 3)) = q := fun q => Iff.rfl
  have hbi : Aside0 (wrap64 (bt s (i : Int)) = (b4 s i : Int)) := ⟨by rw [← b4_cast]; exact wrap_small _ (by omega)⟩
  have o1 := b4_out s (i + 1)
  have o2 := b4_out s (i + 2)
  have o3 := b4_out s (i + 3)
  have w0 : wid s i = widN (b4 s i) (b4 s (i + 1)) (b4 s (i + 2)) (b4 s (i + 3)) := rfl
  have v0 : val s i = valN (b4 s i) (b4 s (i + 1)) (b4 s (i + 2)) (b4 s (i + 3)) := rfl
  unfold spec_l1Next.f
  rw [if_pos (by omega), if_pos (by omega), hbi.out, show bt s (i : Int) = (b4 s i : Int) from (b4_cast s i).symm, lead_eq _ ha, Option.bind_some, Option.bind_some]
  by_cases h1 : b4 s i < 128
  · rw [if_pos h1, if_neg (by decide)]
    simp only [spec_l1Next.j0]
    rw [show (1 : Int) = ((1 : Nat) : Int) from rfl, last_eq _ s i 1 (b4 s i) 1 (Nat.le_refl _), if_neg (by decide)]
    have hwd : wid s i = if b4 s i = 9 ∨ b4 s i = 10 ∨ 32 ≤ b4 s i then 1 else 0 := by rw [w0]; unfold widN; rw [if_pos h1]
    have hvl : val s i = b4 s i := by rw [v0]; unfold valN; rw [if_pos h1]
    by_cases hg : sgN (b4 s i)
    · rw [if_pos hg]
      refine ⟨_, _, rfl, fun _ => ⟨?_, by rw [hvl]⟩, fun h => ?_⟩
      · rw [hwd, if_pos (by omega)]
      · rw [hwd, if_pos (by omega)] at h
        omega
    · rw [if_neg hg]
      refine ⟨_, _, rfl, fun h => ?_, fun _ => ⟨by omega, rfl⟩⟩
      rw [hwd, if_neg (by omega)] at h
      omega
  rw [if_neg h1]
  have hl2 : ∀ m : Int, (some (([0, 0, 32, 16, 8] : List Int) : List Int)).bind (fun y => if 0 ≤ m then (if m < (y.length : Int) then (if (rd y m) = 0 then (none : Option (Int × Int)) else spec_l1Next.j0 (k + 8) s (i : Int) m (Int.tmod (b4 s i : Int) (rd y m))) else none) else none) = (if 0 ≤ m then (if m < 5 then (if (rd [0, 0, 32, 16, 8] m) = 0 then (none : Option (Int × Int)) else spec_l1Next.j0 (k + 8) s (i : Int) m (Int.tmod (b4 s i : Int) (rd [0, 0, 32, 16, 8] m))) else none) else none) := fun m => rfl
  by_cases h2 : 194 ≤ b4 s i ∧ b4 s i ≤ 223
  · rw [if_pos h2, if_pos (by decide), show (2 : Int) = ((2 : Nat) : Int) from rfl]
    rw [if_pos (by decide), if_pos (by decide), if_neg (by decide), show rd ([0, 0, 32, 16, 8] : List Int) ((2 : Nat) : Int) = ((32 : Nat) : Int) from rfl, Int.tmod_eq_emod_of_nonneg (by omega), ← Int.natCast_emod]
    simp only [spec_l1Next.j0]
    rw [show (1 : Int) = ((1 : Nat) : Int) from rfl, step_eq _ s hs i 2 _ 1 hi (by omega) (by omega) (by omega) (by omega)]
    have hwd : wid s i = if cont (b4 s (i + 1)) then 2 else 0 := by rw [w0]; unfold widN; rw [if_neg h1, if_pos h2]
    have hvl : val s i = b4 s i % 32 * 64 + b4 s (i + 1) % 64 := by rw [v0]; unfold valN; rw [if_neg h1, if_pos (by omega)]
    by_cases ho : s.size ≤ i + 1
    · rw [if_pos ho]
      refine ⟨_, _, rfl, fun h => ?_, fun _ => ⟨by omega, rfl⟩⟩
      rw [hwd, if_neg (by have := o1 ho; omega)] at h
      omega
    rw [if_neg ho]
    by_cases hc : cont (b4 s (i + 1))
    · rw [if_pos ⟨hc, fun _ => by omega⟩, last_eq _ s i 2 _ _ (Nat.le_refl _), if_neg (by decide), if_pos (by omega)]
      refine ⟨_, _, rfl, fun _ => ⟨?_, ?_⟩, fun h => ?_⟩
      · rw [hwd, if_pos hc]
      · rw [hvl]; omega
      · rw [hwd, if_pos hc] at h
        omega
    · rw [if_neg (fun z => hc z.1)]
      refine ⟨_, _, rfl, fun h => ?_, fun _ => ⟨by omega, rfl⟩⟩
      rw [hwd, if_neg hc] at h
      omega
  rw [if_neg h2]
  by_cases h3 : 224 ≤ b4 s i ∧ b4 s i ≤ 239
  · rw [if_pos h3, if_pos (by decide), show (3 : Int) = ((3 : Nat) : Int) from rfl]
    rw [if_pos (by decide), if_pos (by decide), if_neg (by decide), show rd ([0, 0, 32, 16, 8] : List Int) ((3 : Nat) : Int) = ((16 : Nat) : Int) from rfl, Int.tmod_eq_emod_of_nonneg (by omega), ← Int.natCast_emod]
    simp only [spec_l1Next.j0]
    rw [show (1 : Int) = ((1 : Nat) : Int) from rfl, step_eq _ s hs i 3 _ 1 hi (by omega) (by omega) (by omega) (by omega)]
    have hwd : wid s i = if cont (b4 s (i + 1)) ∧ cont (b4 s (i + 2)) ∧ (b4 s i = 224 → 160 ≤ b4 s (i + 1)) ∧ (b4 s i = 237 → b4 s (i + 1) < 160) ∧ ¬ (b4 s i = 239 ∧ b4 s (i + 1) = 191 ∧ 190 ≤ b4 s (i + 2)) then 3 else 0 := by rw [w0]; unfold widN; rw [if_neg h1, if_neg h2, if_pos h3]
    have hvl : val s i = b4 s i % 16 * 4096 + b4 s (i + 1) % 64 * 64 + b4 s (i + 2) % 64 := by rw [v0]; unfold valN; rw [if_neg h1, if_neg (by omega), if_pos (by omega)]
    by_cases ho : s.size ≤ i + 1
    · rw [if_pos ho]
      refine ⟨_, _, rfl, fun h => ?_, fun _ => ⟨by omega, rfl⟩⟩
      rw [hwd, if_neg (by have := o1 ho; omega)] at h
      omega
    rw [if_neg ho]
    by_cases hc : cont (b4 s (i + 1)) ∧ (1 = 1 → sec (b4 s i) (b4 s (i + 1)))
    · rw [if_pos hc, step_eq _ s hs i 3 _ 2 hi (by omega) (by omega) (by omega) (by omega)]
      have hsec := hc.2 rfl
      by_cases ho2 : s.size ≤ i + 2
      · rw [if_pos ho2]
        refine ⟨_, _, rfl, fun h => ?_, fun _ => ⟨by omega, rfl⟩⟩
        rw [hwd, if_neg (by have := o2 ho2; omega)] at h
        omega
      rw [if_neg ho2]
      by_cases hc2 : cont (b4 s (i + 2))
      · rw [if_pos ⟨hc2, fun z => absurd z (by decide)⟩, last_eq _ s i 3 _ _ (Nat.le_refl _), if_neg (by decide)]
        by_cases hg : sgN ((b4 s i % 16 * 64 + b4 s (i + 1) - 128) * 64 + b4 s (i + 2) - 128)
        · rw [if_pos hg]
          refine ⟨_, _, rfl, fun _ => ⟨?_, ?_⟩, fun h => ?_⟩
          · rw [hwd, if_pos (by omega)]
          · rw [hvl]; omega
          · rw [hwd, if_pos (by omega)] at h
            omega
        · rw [if_neg hg]
          refine ⟨_, _, rfl, fun h => ?_, fun _ => ⟨by omega, rfl⟩⟩
          rw [hwd, if_neg (by omega)] at h
          omega
      · rw [if_neg (fun z => hc2 z.1)]
        refine ⟨_, _, rfl, fun h => ?_, fun _ => ⟨by omega, rfl⟩⟩
        rw [hwd, if_neg (by omega)] at h
        omega
    · rw [if_neg hc]
      refine ⟨_, _, rfl, fun h => ?_, fun _ => ⟨by omega, rfl⟩⟩
      rw [hwd, if_neg (by omega)] at h
      omega
  rw [if_neg h3]
  by_cases h4 : 240 ≤ b4 s i ∧ b4 s i ≤ 244
  · rw [if_pos h4, if_pos (by decide), show (4 : Int) = ((4 : Nat) : Int) from rfl]
    rw [if_pos (by decide), if_pos (by decide), if_neg (by decide), show rd ([0, 0, 32, 16, 8] : List Int) ((4 : Nat) : Int) = ((8 : Nat) : Int) from rfl, Int.tmod_eq_emod_of_nonneg (by omega), ← Int.natCast_emod]
    simp only [spec_l1Next.j0]
    rw [show (1 : Int) = ((1 : Nat) : Int) from rfl, step_eq _ s hs i 4 _ 1 hi (by omega) (by omega) (by omega) (by omega)]
    have hwd : wid s i = if cont (b4 s (i + 1)) ∧ cont (b4 s (i + 2)) ∧ cont (b4 s (i + 3)) ∧ (b4 s i = 240 → 144 ≤ b4 s (i + 1)) ∧ (b4 s i = 244 → b4 s (i + 1) < 144) then 4 else 0 := by rw [w0]; unfold widN; rw [if_neg h1, if_neg h2, if_neg h3, if_pos h4]
    have hvl : val s i = b4 s i % 8 * 262144 + b4 s (i + 1) % 64 * 4096 + b4 s (i + 2) % 64 * 64 + b4 s (i + 3) % 64 := by rw [v0]; unfold valN; rw [if_neg h1, if_neg (by omega), if_neg (by omega)]
    by_cases ho : s.size ≤ i + 1
    · rw [if_pos ho]
      refine ⟨_, _, rfl, fun h => ?_, fun _ => ⟨by omega, rfl⟩⟩
      rw [hwd, if_neg (by have := o1 ho; omega)] at h
      omega
    rw [if_neg ho]
    by_cases hc : cont (b4 s (i + 1)) ∧ (1 = 1 → sec (b4 s i) (b4 s (i + 1)))
    · rw [if_pos hc, step_eq _ s hs i 4 _ 2 hi (by omega) (by omega) (by omega) (by omega)]
      have hsec := hc.2 rfl
      by_cases ho2 : s.size ≤ i + 2
      · rw [if_pos ho2]
        refine ⟨_, _, rfl, fun h => ?_, fun _ => ⟨by omega, rfl⟩⟩
        rw [hwd, if_neg (by have := o2 ho2; omega)] at h
        omega
      rw [if_neg ho2]
      by_cases hc2 : cont (b4 s (i + 2))
      · rw [if_pos ⟨hc2, fun z => absurd z (by decide)⟩, step_eq _ s hs i 4 _ 3 hi (by omega) (by omega) (by omega) (by omega)]
        by_cases ho3 : s.size ≤ i + 3
        · rw [if_pos ho3]
          refine ⟨_, _, rfl, fun h => ?_, fun _ => ⟨by omega, rfl⟩⟩
          rw [hwd, if_neg (by have := o3 ho3; omega)] at h
          omega
        rw [if_neg ho3]
        by_cases hc3 : cont (b4 s (i + 3))
        · rw [if_pos ⟨hc3, fun z => absurd z (by decide)⟩, last_eq _ s i 4 _ _ (Nat.le_refl _), if_neg (by decide), if_pos (by omega)]
          refine ⟨_, _, rfl, fun _ => ⟨?_, ?_⟩, fun h => ?_⟩
          · rw [hwd, if_pos (by omega)]
          · rw [hvl]; omega
          · rw [hwd, if_pos (by omega)] at h
            omega
        · rw [if_neg (fun z => hc3 z.1)]
          refine ⟨_, _, rfl, fun h => ?_, fun _ => ⟨by omega, rfl⟩⟩
          rw [hwd, if_neg (by omega)] at h
          omega
      · rw [if_neg (fun z => hc2 z.1)]
        refine ⟨_, _, rfl, fun h => ?_, fun _ => ⟨by omega, rfl⟩⟩
        rw [hwd, if_neg (by omega)] at h
        omega
    · rw [if_neg hc]
      refine ⟨_, _, rfl, fun h => ?_, fun _ => ⟨by omega, rfl⟩⟩
      rw [hwd, if_neg (by omega)] at h
      omega
  rw [if_neg h4, if_neg (by decide)]
  simp only [spec_l1Next.j0]
  rw [show (0 : Int) = ((0 : Nat) : Int) from rfl, show (1 : Int) = ((1 : Nat) : Int) from rfl, last_eq _ s i 0 _ 1 (by omega), if_pos rfl]
  refine ⟨_, _, rfl, fun h => ?_, fun _ => ⟨by omega, rfl⟩⟩
  have hwd : wid s i = 0 := by rw [w0]; unfold widN; rw [if_neg h1, if_neg h2, if_neg h3, if_neg h4]
  exact absurd hwd h
theorem spec_loop (s : ByteArray) (hs : s.size ≤ 140737488351232) (d : Nat) : ∀ (k i : Nat), i ≤ s.size → s.size - i ≤ d → d + 8 < k → spec_l1Utf.l0 k s (i : Int) = some (okAt (s.size - i) s i) := by
  induction d with
  | zero =>
    intro k i hi hd hk
    obtain ⟨k, rfl⟩ : ∃ m, k = m + 1 := ⟨k - 1, by omega⟩
    simp only [spec_l1Utf.l0]
    rw [if_neg (by omega), show s.size - i = 0 by omega]
    rfl
  | succ d ih =>
    intro k i hi hd hk
    obtain ⟨k, rfl⟩ : ∃ m, k = m + 1 := ⟨k - 1, by omega⟩
    simp only [spec_l1Utf.l0]
    by_cases h0 : s.size ≤ i
    · rw [if_neg (by omega), show s.size - i = 0 by omega]
      rfl
    · obtain ⟨n, m, he, hp, hz⟩ := next_eq s hs i (by omega) k (by omega)
      rw [if_pos (by omega), he, Option.bind_some, ok_step s i, if_neg h0]
      by_cases hw : wid s i = 0
      · rw [if_pos hw, if_pos (hz hw).1]
      · obtain ⟨rfl, -⟩ := hp hw
        have hle := wid_le s i (by omega)
        rw [if_neg hw, if_neg (show ¬ ((wid s i : Int) < 1) by omega), show wrap64 ((i : Int) + (wid s i : Int)) = ((i + wid s i : Nat) : Int) by rw [← Int.natCast_add]; exact wrap_small _ (by omega)]
        exact ih k _ hle (by omega) (by omega)
theorem utf_ok (s : ByteArray) (hs : s.size ≤ 140737488351232) (k : Nat) (hk : s.size + 8 < k) : spec_l1Utf.f k s = some (ok s) := spec_loop s hs s.size k 0 (Nat.zero_le _) (by omega) hk
theorem spec_ok (s : ByteArray) (hs : s.size ≤ 140737488351232) (k : Nat) (hk : s.size + 8 < k) : spec_TextOk.f k s = some (ok s) := by
  unfold spec_TextOk.f
  rw [utf_ok s hs k hk, Option.bind_some]
end Go.Proofs.YtgjecacalpaacaaDoor.Text
