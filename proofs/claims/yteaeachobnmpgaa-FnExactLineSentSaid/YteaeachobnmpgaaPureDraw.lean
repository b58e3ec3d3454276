/- What the reference's reader of codes picks lies within its bounds (plain facts over the printed functions). -/
import Derived.Test.YteaeachobnmpgaaPAllxspecl16Rdpicka2cc
import Derived.Test.YteaeachobnmpgaaPAllxspecl16Rdofe222
import Derived.Test.YteaeachobnmpgaaPAllxspecl16Rdone79c5
import Derived.Test.YteaeachobnmpgaaPAllxspecl16Open561d
namespace Go.Proofs.Yteaeachobnmpgaa.Draw
open Go.RowKit Go.Proofs.Yteaeachobnmpgaa.PAll Go.Proofs.YteaeachobnmpgaaW.PrintWords Go.Proofs.YteaeachobnmpgaaW.PrintLast Go.Proofs.YteaeachobnmpgaaW.PrintMore Go.Proofs.YteaeachobnmpgaaW.XWords
theorem xor_nonneg (a b : Int) (h1 : 0 ≤ a) (h2 : a < 4611686018427387904) (h3 : 0 ≤ b) (h4 : b < 4611686018427387904) : 0 ≤ Go.bits .xor .i64 a b := by
  obtain ⟨A, rfl⟩ := Int.eq_ofNat_of_zero_le h1
  obtain ⟨B, rfl⟩ := Int.eq_ofNat_of_zero_le h3
  have hx : A ^^^ B < 2 ^ 62 := Nat.xor_lt_two_pow (by omega) (by omega)
  have e1 : (BitVec.ofInt 64 (A : Int)).toNat = A := by
    rw [BitVec.ofInt_natCast, BitVec.toNat_ofNat]; exact Nat.mod_eq_of_lt (by omega)
  have e2 : (BitVec.ofInt 64 (B : Int)).toNat = B := by
    rw [BitVec.ofInt_natCast, BitVec.toNat_ofNat]; exact Nat.mod_eq_of_lt (by omega)
  show 0 ≤ IntKind.i64.wrap ((BitVec.ofInt 64 (A : Int) ^^^ BitVec.ofInt 64 (B : Int)).toNat : Int)
  rw [BitVec.toNat_xor, e1, e2]
  generalize hq : A ^^^ B = q at hx
  unfold IntKind.wrap
  simp [IntKind.bits, IntKind.signed]
  omega
/-- A byte of a code. -/
def CodeOk (l : List Int) : Prop := ∀ x ∈ l, 0 ≤ x ∧ x ≤ 255
theorem rd_code {l : List Int} (h : CodeOk l) (i : Int) : 0 ≤ rd l i ∧ rd l i ≤ 255 := by
  unfold rd
  by_cases hi : i.toNat < l.length
  · simp only [List.getD_eq_getElem?_getD, List.getElem?_eq_getElem hi, Option.getD_some]
    exact h _ (List.getElem_mem hi)
  · rw [List.getD_eq_getElem?_getD, List.getElem?_eq_none (Nat.le_of_not_lt hi)]
    exact ⟨Int.le_refl 0, by decide⟩
theorem code_take {l : List Int} (h : CodeOk l) (n : Nat) : CodeOk (l.take n) := fun x hx => h x (List.mem_of_mem_take hx)
theorem wrap_in (x : Int) (h1 : -9223372036854775808 ≤ x) (h2 : x ≤ 9223372036854775807) : wrap64 x = x := by unfold wrap64; omega
theorem tmod_in (x n : Int) (h : 0 ≤ x) (hn : 1 ≤ n) : 0 ≤ Int.tmod x n ∧ Int.tmod x n < n := by
  rw [Int.tmod_eq_emod_of_nonneg h]
  exact ⟨Int.emod_nonneg _ (by omega), Int.emod_lt_of_pos _ (by omega)⟩
theorem pick_ok (b : List Int) (hb : CodeOk b) (hl : b.length ≤ 140737488351232) (p n : Int) (h0 : 0 ≤ p) (h1 : p < 1000000000000) (hn : 1 ≤ n) :
    ∃ v, 0 ≤ v ∧ v < n ∧ ∀ k, 1 ≤ k → spec_l16Rd_pick.f k b p n = some (v, p + 1) := by
  have hw : wrap64 (p + 1) = p + 1 := wrap_in _ (by omega) (by omega)
  have hq : wrap64 (p + 1 - 1) = p := by rw [show p + 1 - 1 = p by omega]; exact wrap_in _ (by omega) (by omega)
  by_cases hz : b.length = 0
  · refine ⟨0, by omega, by omega, fun k hk => ?_⟩
    obtain ⟨k, rfl⟩ : ∃ m, k = m + 1 := ⟨k - 1, by omega⟩
    unfold spec_l16Rd_pick.f
    rw [if_neg (by omega), hw]
    simp [spec_l16Rd_pick.j0, hz]
  · have hz' : ((b.length : Int) == 0) = false := beq_eq_false_iff_ne.mpr (by omega)
    by_cases hlt : p < (b.length : Int)
    · have hr := rd_code hb p
      have hrw : wrap64 (rd b p) = rd b p := wrap_in _ (by omega) (by omega)
      obtain ⟨t0, t1⟩ := tmod_in (rd b p) n hr.1 hn
      refine ⟨Int.tmod (rd b p) n, t0, t1, fun k hk => ?_⟩
      obtain ⟨k, rfl⟩ : ∃ m, k = m + 1 := ⟨k - 1, by omega⟩
      unfold spec_l16Rd_pick.f
      rw [if_neg (by omega), hw]
      simp only [spec_l16Rd_pick.j0, hq]
      rw [if_neg (by rw [hz']; decide), if_pos hlt, if_pos h0, if_neg (by omega), hrw]
    · have hL : (1 : Int) ≤ (b.length : Int) := by omega
      obtain ⟨i0, i1⟩ := tmod_in p (b.length : Int) h0 hL
      have hm7 : wrap64 (p * 7) = p * 7 := wrap_in _ (by omega) (by omega)
      have hm73 : wrap64 (p * 7 + 3) = p * 7 + 3 := wrap_in _ (by omega) (by omega)
      obtain ⟨j0, j1⟩ := tmod_in (p * 7 + 3) (b.length : Int) (by omega) hL
      have hr1 := rd_code hb (Int.tmod p (b.length : Int))
      have hr2 := rd_code hb (Int.tmod (p * 7 + 3) (b.length : Int))
      generalize g1 : rd b (Int.tmod p (b.length : Int)) = x1 at hr1
      generalize g2 : rd b (Int.tmod (p * 7 + 3) (b.length : Int)) = x2 at hr2
      have hd : 0 ≤ Int.tdiv p (b.length : Int) ∧ Int.tdiv p (b.length : Int) ≤ p := by
        rw [Int.tdiv_eq_ediv_of_nonneg h0]
        exact ⟨Int.ediv_nonneg h0 (by omega), Int.ediv_le_self _ h0⟩
      generalize g3 : Int.tdiv p (b.length : Int) = y at hd
      have e1 : wrap64 x1 = x1 := wrap_in _ (by omega) (by omega)
      have e2 : wrap64 x2 = x2 := wrap_in _ (by omega) (by omega)
      have e3 : wrap64 (x1 * 131) = x1 * 131 := wrap_in _ (by omega) (by omega)
      have e4 : wrap64 (x2 * 1117) = x2 * 1117 := wrap_in _ (by omega) (by omega)
      have e5 : wrap64 (x1 * 131 + x2 * 1117) = x1 * 131 + x2 * 1117 := wrap_in _ (by omega) (by omega)
      have e6 : wrap64 (p * 29) = p * 29 := wrap_in _ (by omega) (by omega)
      have e7 : wrap64 (x1 * 131 + x2 * 1117 + p * 29) = x1 * 131 + x2 * 1117 + p * 29 := wrap_in _ (by omega) (by omega)
      have e8 : wrap64 y = y := wrap_in _ (by omega) (by omega)
      have e9 : wrap64 (y * 53) = y * 53 := wrap_in _ (by omega) (by omega)
      have e10 : wrap64 (x1 * 131 + x2 * 1117 + p * 29 + y * 53) = x1 * 131 + x2 * 1117 + p * 29 + y * 53 := wrap_in _ (by omega) (by omega)
      generalize hX : x1 * 131 + x2 * 1117 + p * 29 + y * 53 = X at e10
      have hX0 : 0 ≤ X ∧ X < 4611686018427387904 := by omega
      have hd2 : 0 ≤ Int.tdiv X 64 ∧ Int.tdiv X 64 ≤ X := by
        rw [Int.tdiv_eq_ediv_of_nonneg hX0.1]
        omega
      have e11 : wrap64 (Int.tdiv X 64) = Int.tdiv X 64 := wrap_in _ (by omega) (by omega)
      have hx := xor_nonneg X (Int.tdiv X 64) hX0.1 hX0.2 hd2.1 (by omega)
      obtain ⟨t0, t1⟩ := tmod_in _ n hx hn
      refine ⟨_, t0, t1, fun k hk => ?_⟩
      obtain ⟨k, rfl⟩ : ∃ m, k = m + 1 := ⟨k - 1, by omega⟩
      unfold spec_l16Rd_pick.f
      rw [if_neg (by omega), hw]
      simp only [spec_l16Rd_pick.j0, hq, hm7, hm73]
      rw [if_neg (by rw [hz']; decide), if_neg hlt, if_neg (by omega), if_pos i0, if_pos i1, if_pos j0, if_pos j1, if_neg (by omega)]
      rw [g1, g2, g3, e1, e2, e3, e4, e5, e6, e7, e8, e9, hX, e10, e11]
theorem of_ok (b : List Int) (hb : CodeOk b) (hl : b.length ≤ 140737488351232) (p : Int) (h0 : 0 ≤ p) (h1 : p < 1000000000000) (xs : List ByteArray) (hx : 1 ≤ xs.length) :
    ∃ x, x ∈ xs ∧ ∀ k, 1 ≤ k → spec_l16Rd_of.f k b p xs = some (x, p + 1) := by
  obtain ⟨v, v0, v1, hv⟩ := pick_ok b hb hl p (xs.length : Int) h0 h1 (by omega)
  refine ⟨rdOf ByteArray.empty xs v, ?_, fun k hk => ?_⟩
  · unfold rdOf
    rw [List.getD_eq_getElem?_getD, List.getElem?_eq_getElem (by omega)]
    exact List.getElem_mem _
  · unfold spec_l16Rd_of.f
    rw [hv k hk, Option.bind_some, if_pos v0, if_pos v1]
theorem one_ok (b : List Int) (hb : CodeOk b) (hl : b.length ≤ 140737488351232) (p : Int) (h0 : 0 ≤ p) (h1 : p < 1000000000000) (xs : List Int) (hx : 1 ≤ xs.length) :
    ∃ x, x ∈ xs ∧ ∀ k, 1 ≤ k → spec_l16Rd_one.f k b p xs = some (x, p + 1) := by
  obtain ⟨v, v0, v1, hv⟩ := pick_ok b hb hl p (xs.length : Int) h0 h1 (by omega)
  refine ⟨rd xs v, ?_, fun k hk => ?_⟩
  · unfold rd
    rw [List.getD_eq_getElem?_getD, List.getElem?_eq_getElem (by omega)]
    exact List.getElem_mem _
  · unfold spec_l16Rd_one.f
    rw [hv k hk, Option.bind_some, if_pos v0, if_pos v1]
theorem open_ok (l : List Int) (hc : CodeOk l) : ∃ b, CodeOk b ∧ b.length ≤ 140737488351232 ∧ spec_l16Open.f l = some (b, 0) := by
  unfold spec_l16Open.f
  by_cases h : (l.length : Int) > 2000
  · rw [if_pos h, if_pos (by omega)]
    exact ⟨_, code_take hc _, by rw [List.length_take]; omega, rfl⟩
  · rw [if_neg h]
    exact ⟨l, hc, by omega, rfl⟩
theorem code_of {l : List Int} (h : ∀ x ∈ l, (Lit.int .u8 x).wf = true) : CodeOk l := fun x hx => by
  have := h x hx
  simp [Lit.wf, IntKind.min, IntKind.max, IntKind.bits, IntKind.signed] at this
  omega
end Go.Proofs.Yteaeachobnmpgaa.Draw
