-- the plain law: this session's
import Derived.Test.YteaeachobnmpgaaZFnExactLinePutK2
import Derived.Test.YteaeachobnmpgaaZFnExactLinePutK0
import Derived.Test.YteaeachobnmpgaaZFnExactLinePutK1
/- What the reference's reader of codes picks lies within its bounds (plain facts over the printed functions). -/
namespace Go.Proofs.Yteaeachobnmpgaa.Draw
open Go.RowKit Go.Proofs.Yteaeachobnmpgaa.PAll Go.Proofs.YteaeachobnmpgaaW.PrintWords Go.Proofs.YteaeachobnmpgaaW.PrintLast Go.Proofs.YteaeachobnmpgaaW.PrintMore Go.Proofs.YteaeachobnmpgaaW.XWords
theorem xor_nonneg (a b : Int) (h1 : 0 ≤ a) (h2 : a < 4611686018427387904) (h3 : 0 ≤ b) (h4 : b < 4611686018427387904) : 0 ≤ Go.bits .xor .i64 a b := by
  obtain ⟨A, rfl⟩ := Int.eq_ofNat_of_zero_le h1
  obtain ⟨B, rfl⟩ := Int.eq_ofNat_of_zero_le h3
  have hx : A ^^^ B < 2 ^ 62 := Nat.xor_lt_two_pow (by omega) (by omega)
  have e1 : (BitVec.ofInt 64 (A : Int)).toNat = A := by
    rw [BitVec.ofInt_natCast, BitVec.toNat_ofNat]; exact Nat.mod_eq_of_lt (by omega)
  have e2 : (BitVec.ofInt 64 (B : Int)).toNat = B := by
    rw [BitVec.ofInt_natCast, BitVec.toNat_ofNat]; exact Nat.mod_eq_of_lt (by omega)
  show 0 ≤ IntKind.i64.wrap ((BitVec.ofInt 64 (A : Int) ^^^ BitVec.ofInt 64 (B : Int)).toNat : Int)
  rw [BitVec.toNat_xor, e1, e2]
  generalize hq : A ^^^ B = q at hx
  unfold IntKind.wrap
  simp [IntKind.bits, IntKind.signed]
  omega
/-- A byte of a code. -/
def CodeOk (l : List Int) : Prop := ∀ x ∈ l, 0 ≤ x ∧ x ≤ 255
theorem rd_code {l : List Int} (h : CodeOk l) (i : Int) : 0 ≤ rd l i ∧ rd l i ≤ 255 := by
  unfold rd
  by_cases hi : i.toNat < l.length
  · simp only [List.getD_eq_getElem?_getD, List.getElem?_eq_getElem hi, Option.getD_some]
    exact h _ (List.getElem_mem hi)
  · rw [List.getD_eq_getElem?_getD, List.getElem?_eq_none (Nat.le_of_not_lt hi)]
    exact ⟨Int.le_refl 0, by decide⟩
theorem code_take {l : List Int} (h : CodeOk l) (n : Nat) : CodeOk (l.take n) := fun x hx => h x (List.mem_of_mem_take hx)
theorem wrap_in (x : Int) (h1 : -9223372036854775808 ≤ x) (h2 : x ≤ 9223372036854775807) : wrap64 x = x := by unfold wrap64; omega
theorem tmod_in (x n : Int) (h : 0 ≤ x) (hn : 1 ≤ n) : 0 ≤ Int.tmod x n ∧ Int.tmod x n < n := by
  rw [Int.tmod_eq_emod_of_nonneg h]
  exact ⟨Int.emod_nonneg _ (by omega), Int.emod_lt_of_pos _ (by omega)⟩
theorem pick_ok (b : List Int) (hb : CodeOk b) (hl : b.length ≤ 140737488351232) (p n : Int) (h0 : 0 ≤ p) (h1 : p < 1000000000000) (hn : 1 ≤ n) :
    ∃ v, 0 ≤ v ∧ v < n ∧ ∀ k, 1 ≤ k → spec_l16Rd_pick.f k b p n = some (v, p + 1) := by
  have hw : wrap64 (p + 1) = p + 1 := wrap_in _ (by omega) (by omega)
  have hq : wrap64 (p + 1 - 1) = p := by rw [show p + 1 - 1 = p by omega]; exact wrap_in _ (by omega) (by omega)
  by_cases hz : b.length = 0
  · refine ⟨0, by omega, by omega, fun k hk => ?_⟩
    obtain ⟨k, rfl⟩ : ∃ m, k = m + 1 := ⟨k - 1, by omega⟩
    unfold spec_l16Rd_pick.f
    rw [if_neg (by omega), hw]
    simp [spec_l16Rd_pick.j0, hz]
  · have hz' : ((b.length : Int) == 0) = false := beq_eq_false_iff_ne.mpr (by omega)
    by_cases hlt : p < (b.length : Int)
    · have hr := rd_code hb p
      have hrw : wrap64 (rd b p) = rd b p := wrap_in _ (by omega) (by omega)
      obtain ⟨t0, t1⟩ := tmod_in (rd b p) n hr.1 hn
      refine ⟨Int.tmod (rd b p) n, t0, t1, fun k hk => ?_⟩
      obtain ⟨k, rfl⟩ : ∃ m, k = m + 1 := ⟨k - 1, by omega⟩
      unfold spec_l16Rd_pick.f
      rw [if_neg (by omega), hw]
      simp only [spec_l16Rd_pick.j0, hq]
      rw [if_neg (by rw [hz']; decide), if_pos hlt, if_pos h0, if_neg (by omega), hrw]
    · have hL : (1 : Int) ≤ (b.length : Int) := by omega
      obtain ⟨i0, i1⟩ := tmod_in p (b.length : Int) h0 hL
      have hm7 : wrap64 (p * 7) = p * 7 := wrap_in _ (by omega) (by omega)
      have hm73 : wrap64 (p * 7 + 3) = p * 7 + 3 := wrap_in _ (by omega) (by omega)
      obtain ⟨j0, j1⟩ := tmod_in (p * 7 + 3) (b.length : Int) (by omega) hL
      have hr1 := rd_code hb (Int.tmod p (b.length : Int))
      have hr2 := rd_code hb (Int.tmod (p * 7 + 3) (b.length : Int))
      generalize g1 : rd b (Int.tmod p (b.length : Int)) = x1 at hr1
      generalize g2 : rd b (Int.tmod (p * 7 + 3) (b.length : Int)) = x2 at hr2
      have hd : 0 ≤ Int.tdiv p (b.length : Int) ∧ Int.tdiv p (b.length : Int) ≤ p := by
        rw [Int.tdiv_eq_ediv_of_nonneg h0]
        exact ⟨Int.ediv_nonneg h0 (by omega), Int.ediv_le_self _ h0⟩
      generalize g3 : Int.tdiv p (b.length : Int) = y at hd
      have e1 : wrap64 x1 = x1 := wrap_in _ (by omega) (by omega)
      have e2 : wrap64 x2 = x2 := wrap_in _ (by omega) (by omega)
      have e3 : wrap64 (x1 * 131) = x1 * 131 := wrap_in _ (by omega) (by omega)
      have e4 : wrap64 (x2 * 1117) = x2 * 1117 := wrap_in _ (by omega) (by omega)
      have e5 : wrap64 (x1 * 131 + x2 * 1117) = x1 * 131 + x2 * 1117 := wrap_in _ (by omega) (by omega)
      have e6 : wrap64 (p * 29) = p * 29 := wrap_in _ (by omega) (by omega)
      have e7 : wrap64 (x1 * 131 + x2 * 1117 + p * 29) = x1 * 131 + x2 * 1117 + p * 29 := wrap_in _ (by omega) (by omega)
      have e8 : wrap64 y = y := wrap_in _ (by omega) (by omega)
      have e9 : wrap64 (y * 53) = y * 53 := wrap_in _ (by omega) (by omega)
      have e10 : wrap64 (x1 * 131 + x2 * 1117 + p * 29 + y * 53) = x1 * 131 + x2 * 1117 + p * 29 + y * 53 := wrap_in _ (by omega) (by omega)
      generalize hX : x1 * 131 + x2 * 1117 + p * 29 + y * 53 = X at e10
      have hX0 : 0 ≤ X ∧ X < 4611686018427387904 := by omega
      have hd2 : 0 ≤ Int.tdiv X 64 ∧ Int.tdiv X 64 ≤ X := by
        rw [Int.tdiv_eq_ediv_of_nonneg hX0.1]
        omega
      have e11 : wrap64 (Int.tdiv X 64) = Int.tdiv X 64 := wrap_in _ (by omega) (by omega)
      have hx := xor_nonneg X (Int.tdiv X 64) hX0.1 hX0.2 hd2.1 (by omega)
      obtain ⟨t0, t1⟩ := tmod_in _ n hx hn
      refine ⟨_, t0, t1, fun k hk => ?_⟩
      obtain ⟨k, rfl⟩ : ∃ m, k = m + 1 := ⟨k - 1, by omega⟩
      unfold spec_l16Rd_pick.f
      rw [if_neg (by omega), hw]
      simp only [spec_l16Rd_pick.j0, hq, hm7, hm73]
      rw [if_neg (by rw [hz']; decide), if_neg hlt, if_neg (by omega), if_pos i0, if_pos i1, if_pos j0, if_pos j1, if_neg (by omega)]
      rw [g1, g2, g3, e1, e2, e3, e4, e5, e6, e7, e8, e9, hX, e10, e11]
theorem of_ok (b : List Int) (hb : CodeOk b) (hl : b.length ≤ 140737488351232) (p : Int) (h0 : 0 ≤ p) (h1 : p < 1000000000000) (xs : List ByteArray) (hx : 1 ≤ xs.length) :
    ∃ x, x ∈ xs ∧ ∀ k, 1 ≤ k → spec_l16Rd_of.f k b p xs = some (x, p + 1) := by
  obtain ⟨v, v0, v1, hv⟩ := pick_ok b hb hl p (xs.length : Int) h0 h1 (by omega)
  refine ⟨rdOf ByteArray.empty xs v, ?_, fun k hk => ?_⟩
  · unfold rdOf
    rw [List.getD_eq_getElem?_getD, List.getElem?_eq_getElem (by omega)]
    exact List.getElem_mem _
  · unfold spec_l16Rd_of.f
    rw [hv k hk, Option.bind_some, if_pos v0, if_pos v1]
theorem one_ok (b : List Int) (hb : CodeOk b) (hl : b.length ≤ 140737488351232) (p : Int) (h0 : 0 ≤ p) (h1 : p < 1000000000000) (xs : List Int) (hx : 1 ≤ xs.length) :
    ∃ x, x ∈ xs ∧ ∀ k, 1 ≤ k → spec_l16Rd_one.f k b p xs = some (x, p + 1) := by
  obtain ⟨v, v0, v1, hv⟩ := pick_ok b hb hl p (xs.length : Int) h0 h1 (by omega)
  refine ⟨rd xs v, ?_, fun k hk => ?_⟩
  · unfold rd
    rw [List.getD_eq_getElem?_getD, List.getElem?_eq_getElem (by omega)]
    exact List.getElem_mem _
  · unfold spec_l16Rd_one.f
    rw [hv k hk, Option.bind_some, if_pos v0, if_pos v1]
theorem open_ok (l : List Int) (hc : CodeOk l) : ∃ b, CodeOk b ∧ b.length ≤ 140737488351232 ∧ spec_l16Open.f l = some (b, 0) := by
  unfold spec_l16Open.f
  by_cases h : (l.length : Int) > 2000
  · rw [if_pos h, if_pos (by omega)]
    exact ⟨_, code_take hc _, by rw [List.length_take]; omega, rfl⟩
  · rw [if_neg h]
    exact ⟨l, hc, by omega, rfl⟩
theorem code_of {l : List Int} (h : ∀ x ∈ l, (Lit.int .u8 x).wf = true) : CodeOk l := fun x hx => by
  have := h x hx
  simp [Lit.wf, IntKind.min, IntKind.max, IntKind.bits, IntKind.signed] at this
  omega
end Go.Proofs.Yteaeachobnmpgaa.Draw
/- Of a row of strings: its weight tells a bound or less than nothing, its copy is the row, it equals itself. No condition. -/
namespace Go.Proofs.Yteaeachobnmpgaa.Strs
open Go.RowKit Go.Proofs.Yteaeachobnmpgaa.PAll Go.Proofs.YteaeachobnmpgaaW.PrintWords Go.Proofs.YteaeachobnmpgaaW.PrintLast Go.Proofs.YteaeachobnmpgaaW.PrintMore Go.Proofs.YteaeachobnmpgaaW.XWords
open Go.Proofs.Yteaeachobnmpgaa.Draw
theorem rdOf_at {α : Type} (d : α) (l : List α) (j : Nat) (h : j < l.length) : rdOf d l (j : Int) = l[j] := by
  unfold rdOf
  simp [h]
theorem sz_loop (l : List ByteArray) (hl : l.length ≤ 1048576) (hs : ∀ x ∈ l, x.size ≤ maxLen) (d : Nat) : ∀ (k j : Nat) (n : Int), 0 ≤ n → n ≤ 1048576 → j ≤ l.length → l.length - j = d → d < k →
    ∃ r : Int, laws_szStringS.l0 k l n (j : Int) = some r ∧ r ≤ n ∧ (0 ≤ r → ∀ i (h : i < l.length), j ≤ i → l[i].size ≤ 1048576) := by
  induction d with
  | zero =>
    intro k j n h0 h1 hj hd hk
    obtain ⟨k, rfl⟩ : ∃ m, k = m + 1 := ⟨k - 1, by omega⟩
    refine ⟨n, ?_, by omega, fun _ i h hji => by omega⟩
    simp only [laws_szStringS.l0]
    rw [if_neg (by omega)]
  | succ d ih =>
    intro k j n h0 h1 hj hd hk
    obtain ⟨k, rfl⟩ : ∃ m, k = m + 1 := ⟨k - 1, by omega⟩
    have hm := hs _ (List.getElem_mem (show j < l.length by omega))
    unfold maxLen at hm
    simp only [laws_szStringS.l0]
    rw [if_pos (by omega), if_pos (by omega), rdOf_at _ l j (by omega), wrap_in (n - _) (by omega) (by omega)]
    by_cases hn : n - (l[j].size : Int) < 0
    · rw [if_pos hn]
      exact ⟨-1, rfl, by omega, fun h => by omega⟩
    · rw [if_neg hn, show wrap64 ((j : Int) + 1) = ((j + 1 : Nat) : Int) by unfold wrap64; omega]
      obtain ⟨r, h2, h3, h4⟩ := ih k (j + 1) _ (by omega) (show n - (l[j].size : Int) ≤ 1048576 by omega) (by omega) (by omega) (by omega)
      refine ⟨r, h2, by omega, fun hr i h hji => ?_⟩
      rcases Nat.lt_or_ge j i with h5 | h5
      · exact h4 hr i h (by omega)
      · obtain rfl : i = j := by omega
        omega
theorem sz_ok (l : List ByteArray) (hl : l.length ≤ maxLen) (hs : ∀ x ∈ l, x.size ≤ maxLen) (n : Int) (h0 : 0 ≤ n) (h1 : n ≤ 1048576) (k : Nat) (hk : l.length < k) :
    ∃ r : Int, laws_szStringS.f k l n = some r ∧ r ≤ n ∧ (0 ≤ r → (l.length : Int) ≤ n ∧ ∀ x ∈ l, x.size ≤ 1048576) := by
  unfold maxLen at hl
  unfold laws_szStringS.f
  rw [wrap_in _ (by omega) (by omega)]
  by_cases hn : n - (l.length : Int) < 0
  · rw [if_pos hn]
    exact ⟨-1, rfl, by omega, fun h => by omega⟩
  · rw [if_neg hn]
    obtain ⟨r, h2, h3, h4⟩ := sz_loop l (by omega) hs l.length k 0 (n - (l.length : Int)) (by omega) (by omega) (by omega) (by omega) hk
    refine ⟨r, h2, by omega, fun hr => ⟨by omega, fun x hx => ?_⟩⟩
    obtain ⟨i, hi, rfl⟩ := List.mem_iff_getElem.1 hx
    exact h4 hr i hi (by omega)
theorem to_loop (l : List ByteArray) (hl : l.length ≤ 1048576) (d : Nat) : ∀ (k j : Nat) (m : List ByteArray), m.length = l.length → m.take j = l.take j → j ≤ l.length → l.length - j = d → d < k →
    laws_toStringS.l0 k l m (j : Int) = some l := by
  induction d with
  | zero =>
    intro k j m hm ht hj hd hk
    obtain ⟨k, rfl⟩ : ∃ m, k = m + 1 := ⟨k - 1, by omega⟩
    simp only [laws_toStringS.l0]
    rw [if_neg (by omega)]
    obtain rfl : j = l.length := by omega
    rw [← hm, List.take_length, hm, List.take_length] at ht
    rw [ht]
  | succ d ih =>
    intro k j m hm ht hj hd hk
    obtain ⟨k, rfl⟩ : ∃ m, k = m + 1 := ⟨k - 1, by omega⟩
    simp only [laws_toStringS.l0]
    rw [if_pos (by omega), if_pos (by omega), if_pos (by omega), rdOf_at _ l j (by omega), show wrap64 ((j : Int) + 1) = ((j + 1 : Nat) : Int) by unfold wrap64; omega]
    refine ih k (j + 1) _ (by simpa using hm) ?_ (by omega) (by omega) (by omega)
    rw [show ((j : Int)).toNat = j by omega]
    apply List.ext_getElem?
    intro i
    rcases Nat.lt_trichotomy i j with h | h | h
    · have := congrArg (fun q => q[i]?) ht
      simp only [List.getElem?_take, h, if_true] at this
      rw [List.getElem?_take, List.getElem?_take, if_pos (by omega), if_pos (by omega), List.getElem?_set_ne (by omega)]
      exact this
    · subst h
      rw [List.getElem?_take, List.getElem?_take, if_pos (by omega), if_pos (by omega), List.getElem?_set_self (by omega), List.getElem?_eq_getElem (by omega)]
    · rw [List.getElem?_take, List.getElem?_take, if_neg (by omega), if_neg (by omega)]
theorem to_ok (l : List ByteArray) (hl : l.length ≤ 1048576) (k : Nat) (hk : l.length < k) : laws_toStringS.f k l = some l := by
  unfold laws_toStringS.f
  rw [if_pos (by omega), if_pos (by omega)]
  exact to_loop l hl l.length k 0 _ (by simp) (by simp) (by omega) (by omega) hk
theorem eq_loop (l : List ByteArray) (hl : l.length ≤ 1048576) (d : Nat) : ∀ (k j : Nat), j ≤ l.length → l.length - j = d → d < k → laws_eqStringS.l0 k l l (j : Int) = some true := by
  induction d with
  | zero =>
    intro k j hj hd hk
    obtain ⟨k, rfl⟩ : ∃ m, k = m + 1 := ⟨k - 1, by omega⟩
    simp only [laws_eqStringS.l0]
    rw [if_neg (by omega)]
  | succ d ih =>
    intro k j hj hd hk
    obtain ⟨k, rfl⟩ : ∃ m, k = m + 1 := ⟨k - 1, by omega⟩
    simp only [laws_eqStringS.l0]
    rw [if_pos (by omega), if_pos (by omega), if_pos (by omega), if_pos trivial, show wrap64 ((j : Int) + 1) = ((j + 1 : Nat) : Int) by unfold wrap64; omega]
    exact ih k (j + 1) (by omega) (by omega) (by omega)
theorem eq_ok (l : List ByteArray) (hl : l.length ≤ 1048576) (k : Nat) (hk : l.length < k) : laws_eqStringS.f k l l = some true := by
  unfold laws_eqStringS.f
  rw [if_pos rfl]
  exact eq_loop l hl l.length k 0 (by omega) (by omega) hk
end Go.Proofs.Yteaeachobnmpgaa.Strs
/- A line's weight, copy and equality. No condition. -/
namespace Go.Proofs.Yteaeachobnmpgaa.ExLine
open Go.RowKit Go.Proofs.Yteaeachobnmpgaa.PAll Go.Proofs.YteaeachobnmpgaaW.PrintWords Go.Proofs.YteaeachobnmpgaaW.PrintLast Go.Proofs.YteaeachobnmpgaaW.PrintMore Go.Proofs.YteaeachobnmpgaaW.XWords
open Go.Proofs.Yteaeachobnmpgaa.Draw Go.Proofs.Yteaeachobnmpgaa.Strs
theorem sz_line (b : Int) (q : List ByteArray) (g : Int) (o : Bool) (hl : q.length ≤ maxLen) (hs : ∀ x ∈ q, x.size ≤ maxLen) (k : Nat) (hk : q.length < k) :
    ∃ r : Int, laws_szLine.f k b q g o 1048576 = some r ∧ (0 ≤ r → q.length ≤ 1048576 ∧ ∀ x ∈ q, x.size ≤ 1048576) := by
  obtain ⟨r, h1, h2, h3⟩ := sz_ok q hl hs 1048576 (by omega) (by omega) k hk
  unfold laws_szLine.f
  rw [h1, Option.bind_some]
  by_cases h : r < 0
  · exact ⟨-1, by rw [if_pos h], fun h => by omega⟩
  · exact ⟨r, by rw [if_neg h], fun h => ⟨by have := (h3 h).1; omega, (h3 h).2⟩⟩
theorem to_line (b : Int) (q : List ByteArray) (g : Int) (o : Bool) (hl : q.length ≤ 1048576) (k : Nat) (hk : q.length < k) : laws_toLine.f k b q g o = some (b, q, g, o) := by
  unfold laws_toLine.f
  rw [to_ok q hl k hk]
  rfl
theorem eq_line (b : Int) (q : List ByteArray) (g : Int) (o : Bool) (hl : q.length ≤ 1048576) (k : Nat) (hk : q.length < k) : laws_eqLine.f k b q g o b q g o = some true := by
  unfold laws_eqLine.f
  rw [if_pos rfl, eq_ok q hl k hk, Option.bind_some, if_pos rfl, if_pos rfl]
  simp
end Go.Proofs.Yteaeachobnmpgaa.ExLine
/- What the program and the reference tell of a line, as one Bool and one number (plain facts over the printed functions). -/
namespace Go.Proofs.Yteaeachobnmpgaa.Lines
open Go.RowKit Go.Proofs.Yteaeachobnmpgaa.PAll Go.Proofs.YteaeachobnmpgaaW.PrintWords Go.Proofs.YteaeachobnmpgaaW.PrintLast Go.Proofs.YteaeachobnmpgaaW.PrintMore Go.Proofs.YteaeachobnmpgaaW.XWords
open Go.Proofs.Yteaeachobnmpgaa.Draw
def okB (b : Int) (q : List ByteArray) (g : Int) (o : Bool) : Bool := decide (0 ≤ b) && decide (b ≤ 255) && (decide (0 ≤ g) && decide (g ≤ 255)) && decide (q.length ≤ 8) && (!o || decide (q.length = 0)) && !(q.any fun s => decide (3000 < s.size))
theorem in_eq (n lo hi : Int) : spec_l1In.f n lo hi = some (decide (lo ≤ n) && decide (n ≤ hi)) := by
  unfold spec_l1In.f
  split <;> rw [Option.some.injEq, Bool.eq_iff_iff] <;> simp <;> omega
theorem within_eq (n lo hi : Int) : impl_within.f n lo hi = some (decide (lo ≤ n) && decide (n ≤ hi)) := by
  unfold impl_within.f
  split <;> rw [Option.some.injEq, Bool.eq_iff_iff] <;> simp <;> omega
theorem count_eq (n : Int) : impl_count.f n = some (decide (0 ≤ n) && decide (n ≤ 255)) := by
  unfold impl_count.f
  rw [within_eq, Option.bind_some]
theorem impl_ok (b : Int) (q : List ByteArray) (g : Int) (o : Bool) : impl_LineOk.f b q g o = some (okB b q g o) := by
  unfold impl_LineOk.f okB slices_ContainsFunc_string_string_impl_LineOk_1.f
  rw [count_eq, Option.bind_some, count_eq, Option.bind_some]
  simp only [Option.bind_some]
  cases (decide (0 ≤ b) && decide (b ≤ 255)) with
  | false => simp
  | true =>
    cases (decide (0 ≤ g) && decide (g ≤ 255)) with
    | false => simp
    | true =>
      by_cases h8 : q.length ≤ 8
      · rw [if_pos rfl, if_pos rfl, if_neg (by omega)]
        cases o with
        | false => simp [h8]
        | true =>
          by_cases h0 : q.length = 0
          · rw [if_pos rfl, if_neg (by omega)]
            simp [h0]
          · rw [if_pos rfl, if_pos (by omega)]
            simp [h0]
      · rw [if_pos rfl, if_pos rfl, if_pos (by omega)]
        simp [h8]
theorem spec_loop (b : Int) (q : List ByteArray) (g : Int) (o : Bool) (hq : q.length ≤ 9000000000000000000) (d : Nat) : ∀ (k j : Nat), j ≤ q.length → q.length - j = d → d < k →
    spec_l9Ok.l0 k (j : Int) b q g o = some (decide (0 ≤ b) && decide (b ≤ 255) && (decide (0 ≤ g) && decide (g ≤ 255)) && decide (q.length ≤ 8) && (!o || decide (q.length = 0)) && !((q.drop j).any fun s => decide (3000 < s.size))) := by
  induction d with
  | zero =>
    intro k j hj hd hk
    obtain ⟨k, rfl⟩ : ∃ m, k = m + 1 := ⟨k - 1, by omega⟩
    obtain rfl : j = q.length := by omega
    simp only [spec_l9Ok.l0]
    rw [if_neg (by omega), in_eq, Option.bind_some, in_eq, List.drop_length]
    simp only [Option.bind_some]
    cases (decide (0 ≤ b) && decide (b ≤ 255)) with
    | false => simp
    | true =>
      cases (decide (0 ≤ g) && decide (g ≤ 255)) with
      | false => simp
      | true =>
        by_cases h8 : q.length ≤ 8
        · rw [if_pos rfl, if_pos rfl, if_pos (by omega)]
          cases o with
          | false => simp [h8]
          | true =>
            rw [if_pos rfl, Option.some.injEq, Bool.eq_iff_iff]
            simp
            omega
        · rw [if_pos rfl, if_pos rfl, if_neg (by omega)]
          simp [h8]
  | succ d ih =>
    intro k j hj hd hk
    obtain ⟨k, rfl⟩ : ∃ m, k = m + 1 := ⟨k - 1, by omega⟩
    have hlt : j < q.length := by omega
    simp only [spec_l9Ok.l0]
    rw [if_pos (by omega), if_pos (by omega), any_drop_strs _ _ _ hlt]
    by_cases hb : 3000 < (rdOf ByteArray.empty q (j : Int)).size
    · rw [if_pos (by omega), decide_eq_true hb]
      simp
    · rw [if_neg (by omega), decide_eq_false hb, show wrap64 ((j : Int) + 1) = ((j + 1 : Nat) : Int) by unfold wrap64; omega, ih k (j + 1) (by omega) (by omega) (by omega), Bool.false_or]
theorem spec_ok (b : Int) (q : List ByteArray) (g : Int) (o : Bool) (hq : q.length ≤ 9000000000000000000) (k : Nat) (hk : q.length < k) : spec_l9Ok.f k b q g o = some (okB b q g o) := by
  have := spec_loop b q g o hq q.length k 0 (by omega) (by omega) hk
  rw [List.drop_zero] at this
  exact this
theorem copied_eq (b : Int) (q : List ByteArray) (g : Int) (o : Bool) (hq : q.length ≤ 1000000) : impl_Line_copied.f b q g o = some (b, q, g, o) := by
  unfold impl_Line_copied.f slices_Clone_string_string.f slices_Clip_string_string.f
  rw [if_pos (by omega)]
  rfl
theorem line_loop (c : List Int) (hc : CodeOk c) (hl : c.length ≤ 140737488351232) (g : Int) (hg : 0 ≤ g ∧ g ≤ 255) (d : Nat) : ∀ (b p n : Int) (q : List ByteArray), n.toNat = d → 0 ≤ n → n ≤ 100 → -1 ≤ b ∧ b ≤ 256 → 0 ≤ p → p < 900000000000 - d → q.length + d ≤ 100 →
    ∃ b2 q2 g2 o2 p2, (-1 ≤ b2 ∧ b2 ≤ 256) ∧ q2.length ≤ 101 ∧ (0 ≤ g2 ∧ g2 ≤ 255) ∧ (0 ≤ p2 ∧ p2 < 900000000100) ∧ ∀ k, d < k → spec_l16Line.l0 (k + 1) n c p b q g false = some (b2, q2, g2, o2, p2) := by
  induction d with
  | zero =>
    intro b p n q hn hn0 hn1 hb hp hp1 hq
    obtain rfl : n = 0 := by omega
    obtain ⟨v, v0, v1, hv⟩ := pick_ok c hc hl p 12 hp (by omega) (by omega)
    obtain ⟨x, hx, hxe⟩ := one_ok c hc hl (p + 1) (by omega) (by omega) [(-1), 256] (by simp)
    have hxb : -1 ≤ x ∧ x ≤ 256 := by
      simp at hx
      omega
    have step : ∀ k, 0 < k → spec_l16Line.l0 (k + 1) 0 c p b q g false = if v = 0 then some (x, q, g, false, p + 1 + 1) else if v = 1 then some (b, q, g, true, p + 1) else if v = 2 then some (b, [], g, true, p + 1) else if v = 3 then some (b, q ++ [(⟨#[120]⟩ : ByteArray)], g, false, p + 1) else some (b, q, g, false, p + 1) := by
      intro k hk
      simp only [spec_l16Line.l0]
      rw [if_neg (by omega), hv k (by omega), Option.bind_some]
      simp only []
      rw [hxe k (by omega), Option.bind_some, if_pos (show q.length < 8796093022208 by omega)]
    by_cases h0 : v = 0
    · exact ⟨x, q, g, false, p + 1 + 1, hxb, by omega, hg, by omega, fun k hk => by rw [step k hk, if_pos h0]⟩
    by_cases h1 : v = 1
    · exact ⟨b, q, g, true, p + 1, hb, by omega, hg, by omega, fun k hk => by rw [step k hk, if_neg h0, if_pos h1]⟩
    by_cases h2 : v = 2
    · exact ⟨b, [], g, true, p + 1, hb, by simp, hg, by omega, fun k hk => by rw [step k hk, if_neg h0, if_neg h1, if_pos h2]⟩
    by_cases h3 : v = 3
    · exact ⟨b, q ++ [(⟨#[120]⟩ : ByteArray)], g, false, p + 1, hb, by simp; omega, hg, by omega, fun k hk => by rw [step k hk, if_neg h0, if_neg h1, if_neg h2, if_pos h3]⟩
    · exact ⟨b, q, g, false, p + 1, hb, by omega, hg, by omega, fun k hk => by rw [step k hk, if_neg h0, if_neg h1, if_neg h2, if_neg h3]⟩
  | succ d ih =>
    intro b p n q hn hn0 hn1 hb hp hp1 hq
    obtain ⟨x, hx, hxe⟩ := of_ok c hc hl p hp (by omega) [(⟨#[60, 97, 47, 62]⟩ : ByteArray), (⟨#[60, 98, 47, 62]⟩ : ByteArray), (⟨#[]⟩ : ByteArray)] (by simp)
    obtain ⟨b2, q2, g2, o2, p2, hb2, hq2, hg2, hp2, h⟩ := ih b (p + 1) (n - 1) (q ++ [x]) (by omega) (by omega) (by omega) hb (by omega) (by omega) (by simp; omega)
    refine ⟨b2, q2, g2, o2, p2, hb2, hq2, hg2, hp2, fun k hk => ?_⟩
    obtain ⟨k, rfl⟩ : ∃ m, k = m + 1 := ⟨k - 1, by omega⟩
    rw [spec_l16Line.l0]
    rw [if_pos (by omega), hxe _ (by omega), Option.bind_some]
    simp only []
    rw [if_pos (by omega), show wrap64 (n - 1) = n - 1 by unfold wrap64; omega]
    exact h k (by omega)
theorem line_ok (c : List Int) (hc : CodeOk c) (hl : c.length ≤ 140737488351232) (p : Int) (hp : 0 ≤ p) (hp1 : p < 1000000) :
    ∃ b q g o p2, (-1 ≤ b ∧ b ≤ 256) ∧ q.length ≤ 101 ∧ (0 ≤ g ∧ g ≤ 255) ∧ (0 ≤ p2 ∧ p2 < 900000000100) ∧ ∀ k, 20 < k → spec_l16Line.f k c p = some (b, q, g, o, p2) := by
  obtain ⟨b, hb, hbe⟩ := one_ok c hc hl p hp (by omega) [0, 1, 5, 250, 255] (by simp)
  obtain ⟨g, hg, hge⟩ := one_ok c hc hl (p + 1) (by omega) (by omega) [0, 7, 255] (by simp)
  obtain ⟨n, n0, n1, hne⟩ := pick_ok c hc hl (p + 1 + 1) 9 (by omega) (by omega) (by omega)
  have hb2 : -1 ≤ b ∧ b ≤ 256 := by simp at hb; omega
  have hg2 : 0 ≤ g ∧ g ≤ 255 := by simp at hg; omega
  obtain ⟨b2, q2, g2, o2, p2, h1, h2, h3, h4, h⟩ := line_loop c hc hl g hg2 n.toNat b (p + 1 + 1 + 1) n [] rfl n0 (by omega) hb2 (by omega) (by omega) (by simp; omega)
  refine ⟨b2, q2, g2, o2, p2, h1, h2, h3, h4, fun k hk => ?_⟩
  unfold spec_l16Line.f
  rw [hbe k (by omega), Option.bind_some]
  simp only []
  rw [hge k (by omega), Option.bind_some]
  simp only []
  rw [hne k (by omega), Option.bind_some]
  simp only []
  obtain ⟨k, rfl⟩ : ∃ m, k = m + 1 := ⟨k - 1, by omega⟩
  exact h k (by omega)
end Go.Proofs.Yteaeachobnmpgaa.Lines
/- Of a row of strings: marked from n on it holds the marks, and so it is held. No condition. -/
namespace Go.Proofs.Yteaeachobnmpgaa.Marks
open Go.RowKit Go.Proofs.Yteaeachobnmpgaa.PAll Go.Proofs.YteaeachobnmpgaaW.PrintWords Go.Proofs.YteaeachobnmpgaaW.PrintLast Go.Proofs.YteaeachobnmpgaaW.PrintMore Go.Proofs.YteaeachobnmpgaaW.XWords
open Go.Proofs.Yteaeachobnmpgaa.Draw Go.Proofs.Yteaeachobnmpgaa.Strs
theorem one_size (x : Int) : (strOfNums [x]).size = 1 := rfl
theorem text_loop (d : Nat) : ∀ (x : Int) (s : ByteArray), 0 ≤ x → x < 10 ^ d → x < 1000000000000000000 → s.size + d ≤ 100 → ∃ r, ∀ k, d < k → laws_markText.l0 k x s = some r := by
  induction d with
  | zero =>
    intro x s h0 h1 _ hs
    refine ⟨(⟨#[109]⟩ : ByteArray) ++ s, fun k hk => ?_⟩
    obtain ⟨k, rfl⟩ : ∃ m, k = m + 1 := ⟨k - 1, by omega⟩
    simp only [laws_markText.l0]
    rw [if_neg (by omega), if_pos (by omega)]
  | succ d ih =>
    intro x s h0 h1 h9 hs
    by_cases hx : x > 0
    · obtain ⟨r, hr⟩ := ih (x / 10) (strOfNums [(wrap64 (48 + (Int.tmod x 10))) % 256] ++ s) (by omega) (by rw [Int.pow_succ] at h1; omega) (by omega) (by rw [ByteArray.size_append, one_size]; omega)
      refine ⟨r, fun k hk => ?_⟩
      obtain ⟨k, rfl⟩ : ∃ m, k = m + 1 := ⟨k - 1, by omega⟩
      simp only [laws_markText.l0]
      rw [if_pos hx, Option.bind_some, one_size, if_pos (by omega), Int.tdiv_eq_ediv_of_nonneg h0, wrap_in _ (by omega) (by omega)]
      exact hr k (by omega)
    · refine ⟨(⟨#[109]⟩ : ByteArray) ++ s, fun k hk => ?_⟩
      obtain ⟨k, rfl⟩ : ∃ m, k = m + 1 := ⟨k - 1, by omega⟩
      simp only [laws_markText.l0]
      rw [if_neg hx, if_pos (by omega)]
theorem text_ok (n : Int) (h0 : 0 ≤ n) (h1 : n < 1000000000000000000) : ∃ r, ∀ k, 18 < k → laws_markText.f k n = some r := by
  obtain ⟨r, hr⟩ := text_loop 18 n (⟨#[]⟩ : ByteArray) h0 (by omega) h1 (by decide)
  by_cases h : n ≤ 0
  · exact ⟨_, fun k _ => by unfold laws_markText.f; rw [if_pos h]⟩
  · exact ⟨r, fun k hk => by unfold laws_markText.f; rw [if_neg h]; exact hr k hk⟩
open Classical in
noncomputable def mt (n : Int) : ByteArray := if h : ∃ r, ∀ k, 18 < k → laws_markText.f k n = some r then h.choose else ⟨#[]⟩
theorem mt_eq (n : Int) (h0 : 0 ≤ n) (h1 : n < 1000000000000000000) (k : Nat) (hk : 18 < k) : laws_markText.f k n = some (mt n) := by
  unfold mt
  rw [dif_pos (text_ok n h0 h1)]
  exact (text_ok n h0 h1).choose_spec k hk
noncomputable def marks (m : Nat) (n : Int) : List ByteArray := (List.range m).map fun i : Nat => mt (n + i)
theorem marks_length (m : Nat) (n : Int) : (marks m n).length = m := by simp [marks]
theorem marks_at (m : Nat) (n : Int) (j : Nat) (h : j < m) : (marks m n)[j]? = some (mt (n + j)) := by simp [marks, h]
theorem mark_loop (L : Nat) (n : Int) (hL : L ≤ 1048576) (h0 : 0 ≤ n) (h1 : n < 1000000000) (d : Nat) : ∀ (k j : Nat) (x : List ByteArray) (m : Int), x.length = L → x.take j = (marks L n).take j → m = n + j → j ≤ L → L - j = d → d + 18 < k →
    laws_markStringS.l0 k x m (j : Int) = some (n + (L : Int), marks L n) := by
  induction d with
  | zero =>
    intro k j x m hx ht hm hj hd hk
    obtain ⟨k, rfl⟩ : ∃ m, k = m + 1 := ⟨k - 1, by omega⟩
    simp only [laws_markStringS.l0]
    rw [if_neg (by omega)]
    obtain rfl : j = L := by omega
    have e1 : x.take j = x := List.take_of_length_le (by omega)
    have e2 : (marks j n).take j = marks j n := List.take_of_length_le (by rw [marks_length]; omega)
    rw [e1, e2] at ht
    rw [ht, hm]
  | succ d ih =>
    intro k j x m hx ht hm hj hd hk
    obtain ⟨k, rfl⟩ : ∃ m, k = m + 1 := ⟨k - 1, by omega⟩
    simp only [laws_markStringS.l0]
    rw [if_pos (by omega), mt_eq m (by omega) (by omega) k (by omega), Option.bind_some, if_pos (by omega), show wrap64 ((j : Int) + 1) = ((j + 1 : Nat) : Int) by unfold wrap64; omega, wrap_in _ (by omega) (by omega)]
    refine ih k (j + 1) _ (m + 1) (by simpa using hx) ?_ (by omega) (by omega) (by omega) (by omega)
    rw [show ((j : Int)).toNat = j by omega]
    apply List.ext_getElem?
    intro i
    rcases Nat.lt_trichotomy i j with h | h | h
    · have := congrArg (fun q => q[i]?) ht
      simp only [List.getElem?_take, h, if_true] at this
      rw [List.getElem?_take, List.getElem?_take, if_pos (by omega), if_pos (by omega), List.getElem?_set_ne (by omega)]
      exact this
    · subst h
      rw [List.getElem?_take, List.getElem?_take, if_pos (by omega), if_pos (by omega), List.getElem?_set_self (by omega), marks_at L n i (by omega), hm]
    · rw [List.getElem?_take, List.getElem?_take, if_neg (by omega), if_neg (by omega)]
theorem mark_ok (l : List ByteArray) (n : Int) (hL : l.length ≤ 1048576) (h0 : 0 ≤ n) (h1 : n < 1000000000) (k : Nat) (hk : l.length + 18 < k) : laws_markStringS.f k l n = some (n + (l.length : Int), marks l.length n) :=
  mark_loop l.length n hL h0 h1 l.length k 0 l n rfl (by simp) (by omega) (by omega) (by omega) hk
theorem held_loop (L : Nat) (n : Int) (hL : L ≤ 1048576) (h0 : 0 ≤ n) (h1 : n < 1000000000) (d : Nat) : ∀ (k j : Nat) (m : Int), m = n + j → j ≤ L → L - j = d → d + 18 < k → laws_heldStringS.l0 k (marks L n) m (j : Int) = some (n + (L : Int)) := by
  induction d with
  | zero =>
    intro k j m hm hj hd hk
    obtain ⟨k, rfl⟩ : ∃ m, k = m + 1 := ⟨k - 1, by omega⟩
    simp only [laws_heldStringS.l0]
    rw [if_neg (by rw [marks_length]; omega), hm, show j = L by omega]
  | succ d ih =>
    intro k j m hm hj hd hk
    obtain ⟨k, rfl⟩ : ∃ m, k = m + 1 := ⟨k - 1, by omega⟩
    have hr : rdOf ByteArray.empty (marks L n) (j : Int) = mt m := by
      unfold rdOf
      rw [show ((j : Int)).toNat = j by omega, List.getD_eq_getElem?_getD, marks_at L n j (by omega), hm]
      rfl
    simp only [laws_heldStringS.l0]
    rw [if_pos (by rw [marks_length]; omega), if_pos (by omega), mt_eq m (by omega) (by omega) k (by omega), Option.bind_some, hr, if_pos rfl, show wrap64 ((j : Int) + 1) = ((j + 1 : Nat) : Int) by unfold wrap64; omega, wrap_in _ (by omega) (by omega)]
    exact ih k (j + 1) (m + 1) (by omega) (by omega) (by omega) (by omega)
theorem held_ok (L : Nat) (n : Int) (hL : L ≤ 1048576) (h0 : 0 ≤ n) (h1 : n < 1000000000) (k : Nat) (hk : L + 18 < k) : laws_heldStringS.f k (marks L n) n = some (n + (L : Int)) :=
  held_loop L n hL h0 h1 L k 0 n (by omega) (by omega) (by omega) hk
end Go.Proofs.Yteaeachobnmpgaa.Marks
/- A line's marks. No condition. -/
namespace Go.Proofs.Yteaeachobnmpgaa.MarkLine
open Go.RowKit Go.Proofs.Yteaeachobnmpgaa.PAll Go.Proofs.YteaeachobnmpgaaW.PrintWords Go.Proofs.YteaeachobnmpgaaW.PrintLast Go.Proofs.YteaeachobnmpgaaW.PrintMore Go.Proofs.YteaeachobnmpgaaW.XWords
open Go.Proofs.Yteaeachobnmpgaa.Draw Go.Proofs.Yteaeachobnmpgaa.Strs Go.Proofs.Yteaeachobnmpgaa.Marks
theorem mark_line (b : Int) (q : List ByteArray) (g : Int) (o : Bool) (hl : q.length ≤ 1048576) (k : Nat) (hk : q.length + 18 < k) : laws_markLine.f k b q g o 1 = some (1 + (q.length : Int), marks q.length 1) := by
  unfold laws_markLine.f
  rw [mark_ok q 1 hl (by omega) (by omega) k hk, Option.bind_some]
theorem held_line (b : Int) (L : Nat) (g : Int) (o : Bool) (hl : L ≤ 1048576) (k : Nat) (hk : L + 18 < k) : laws_heldLine.f k b (marks L 1) g o 1 = some (1 + (L : Int)) := by
  unfold laws_heldLine.f
  rw [held_ok L 1 hl (by omega) (by omega) k hk, Option.bind_some, if_neg (by omega)]
end Go.Proofs.Yteaeachobnmpgaa.MarkLine
/- Of every line and every text the program and the reference tell alike what the line is once the text is put; the line reads as before, and what came back is no part of it. No condition. -/
namespace Go.Proofs.Yteaeachobnmpgaa.Pure
open Go.RowKit Go.Proofs.Yteaeachobnmpgaa.PAll Go.Proofs.YteaeachobnmpgaaW.PrintWords Go.Proofs.YteaeachobnmpgaaW.PrintLast Go.Proofs.YteaeachobnmpgaaW.PrintMore Go.Proofs.YteaeachobnmpgaaW.XWords
open Go.Proofs.Yteaeachobnmpgaa.Draw Go.Proofs.Yteaeachobnmpgaa.Lines Go.Proofs.Yteaeachobnmpgaa.ExLine Go.Proofs.Yteaeachobnmpgaa.Marks Go.Proofs.Yteaeachobnmpgaa.MarkLine
def putE (b : Int) (q : List ByteArray) (g : Int) (o : Bool) (t : ByteArray) : Int × List ByteArray × Int × Bool := if okB b q g o = true then (if 3000 < t.size then (0, [], 0, false) else if o = true ∨ 8 ≤ q.length then (b, [], g, true) else (b, q ++ [t], g, false)) else (0, [], 0, false)
theorem ok_len {b : Int} {q : List ByteArray} {g : Int} {o : Bool} (h : okB b q g o = true) : q.length ≤ 8 := by
  unfold okB at h
  simp at h
  omega
theorem impl_putE (b : Int) (q : List ByteArray) (g : Int) (o : Bool) (t : ByteArray) : impl_LinePut.f b q g o t = some (putE b q g o t) := by
  unfold impl_LinePut.f putE
  rw [impl_ok, Option.bind_some]
  by_cases h : okB b q g o = true
  · have hs := ok_len h
    rw [if_pos h, if_pos h]
    by_cases ht : 3000 < t.size
    · rw [if_pos ht, if_pos ht]
    · rw [if_neg ht, if_neg ht, copied_eq b q g o (by omega), Option.bind_some]
      simp only []
      split <;> rfl
  · rw [if_neg h, if_neg h]
theorem spec_putE (b : Int) (q : List ByteArray) (g : Int) (o : Bool) (t : ByteArray) (hq : q.length ≤ 1048576) (k : Nat) (hk : q.length < k) : spec_LinePut.f k b q g o t = some (putE b q g o t) := by
  unfold spec_LinePut.f putE spec_l9Put.f spec_l9Copy.f
  rw [spec_ok b q g o (by omega) k hk, Option.bind_some]
  by_cases h : okB b q g o = true
  · have hs := ok_len h
    rw [if_pos h, if_pos h]
    by_cases ht : 3000 < t.size
    · rw [if_pos (by omega), if_pos ht]
    · rw [if_neg (by omega), if_neg ht, Option.bind_some, if_pos (by simp; omega), Option.bind_some]
      simp only [List.nil_append]
      by_cases h8 : 8 ≤ q.length
      · rw [if_pos (by omega), if_pos (.inr h8), Option.bind_some]
      · rw [if_neg (by omega)]
        by_cases ho : o = true
        · rw [if_pos ho, if_pos (.inl ho), Option.bind_some]
        · rw [if_neg ho, if_pos (by omega), Option.bind_some, if_neg (fun e => e.elim ho h8)]
          simp at ho
          rw [ho]
  · rw [if_neg h, if_neg h]
theorem FnExactLinePut (b : Int) (q : List ByteArray) (g : Int) (o : Bool) (t : ByteArray) (_ : (Lit.int .i64 b).wf = true) (hl : q.length ≤ maxLen) (hs : ∀ x ∈ q, x.size ≤ maxLen) (_ : (Lit.int .i64 g).wf = true) (_ : t.size ≤ maxLen) : ∃ k, laws_FnExactLinePut.f k b q g o t = some true := by
  refine ⟨q.length + 200, ?_⟩
  unfold laws_FnExactLinePut.f
  by_cases hbig : (t.size : Int) > 1048576
  · rw [if_pos hbig]
  rw [if_neg hbig]
  obtain ⟨r, h1, h2⟩ := sz_line b q g o hl hs (q.length + 200) (by omega)
  rw [h1, Option.bind_some]
  by_cases h : r < 0
  · rw [if_pos h]
  · obtain ⟨h3, h4⟩ := h2 (by omega)
    obtain ⟨⟨b1, q1, g1, o1⟩, hR, hq1⟩ : ∃ R, putE b q g o t = R ∧ R.2.1.length ≤ 9 := ⟨_, rfl, by
      unfold putE
      split
      · split
        · simp
        · split
          · simp
          · simp; omega
      · simp⟩
    dsimp only at hq1
    rw [if_neg h, to_line b q g o h3 _ (by omega), Option.bind_some]
    simp only []
    rw [spec_putE b q g o t h3 _ (by omega), Option.bind_some, Option.bind_some, impl_putE, Option.bind_some, hR]
    simp only []
    rw [eq_line b1 q1 g1 o1 (by omega) _ (by omega), Option.bind_some, if_pos rfl, Option.bind_some]
    simp only []
    rw [eq_line b q g o h3 _ (by omega), Option.bind_some, if_pos rfl, mark_line b q g o h3 _ (by omega), Option.bind_some]
    simp only []
    rw [if_neg (by omega), Option.bind_some]
    rw [show (!true) = false from rfl, show q.length + 200 = (q.length + 199) + 1 from rfl, laws_FnExactLinePut.j0, if_neg (by decide), mark_line b1 q1 g1 o1 (by omega) _ (by omega), Option.bind_some]
    simp only []
    rw [held_line b1 q1.length g1 o1 (by omega) _ (by omega), Option.bind_some, if_neg (by omega), if_pos rfl, to_line b q g o h3 _ (by omega), Option.bind_some]
    simp only []
    rw [impl_putE, hR, Option.bind_some]
    simp only []
    rw [eq_line b1 q1 g1 o1 (by omega) _ (by omega), Option.bind_some, if_pos rfl, Option.bind_some, if_neg (by omega), if_pos rfl]
end Go.Proofs.Yteaeachobnmpgaa.Pure
