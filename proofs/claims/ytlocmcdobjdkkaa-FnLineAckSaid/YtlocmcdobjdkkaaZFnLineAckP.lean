-- the plain law: this session's
import Derived.Test.YtlocmcdobjdkkaaZFnLineAckK0
import Derived.Test.YtlocmcdobjdkkaaZFnLineAckK1
import Derived.Test.YtlocmcdobjdkkaaZFnLineAckK2
namespace Go.Proofs.Ytlocmcdobjdkkaa.Draw
open Go.RowKit Go.Proofs.Ytlocmcdobjdkkaa.PAll Go.Proofs.YtlocmcdobjdkkaaW.PrintWords Go.Proofs.YtlocmcdobjdkkaaW.PrintLast Go.Proofs.YtlocmcdobjdkkaaW.PrintMore Go.Proofs.YtlocmcdobjdkkaaW.XWords
theorem xor_nonneg (a b : Int) (h1 : 0 ≤ a) (h2 : a < 4611686018427387904) (h3 : 0 ≤ b) (h4 : b < 4611686018427387904) : 0 ≤ Go.bits .xor .i64 a b := by
  obtain ⟨A, rfl⟩ := Int.eq_ofNat_of_zero_le h1
  obtain ⟨B, rfl⟩ := Int.eq_ofNat_of_zero_le h3
  have hx : A ^^^ B < 2 ^ 62 := Nat.xor_lt_two_pow (by omega) (by omega)
  have e1 : (BitVec.ofInt 64 (A : Int)).toNat = A := by
    rw [BitVec.ofInt_natCast, BitVec.toNat_ofNat]; exact Nat.mod_eq_of_lt (by omega)
  have e2 : (BitVec.ofInt 64 (B : Int)).toNat = B := by
    rw [BitVec.ofInt_natCast, BitVec.toNat_ofNat]; exact Nat.mod_eq_of_lt (by omega)
  show 0 ≤ IntKind.i64.wrap ((BitVec.ofInt 64 (A : Int) ^^^ BitVec.ofInt 64 (B : Int)).toNat : Int)
  rw [BitVec.toNat_xor, e1, e2]
  generalize hq : A ^^^ B = q at hx
  unfold IntKind.wrap
  simp [IntKind.bits, IntKind.signed]
  omega
def CodeOk (l : List Int) : Prop := ∀ x ∈ l, 0 ≤ x ∧ x ≤ 255
theorem rd_code {l : List Int} (h : CodeOk l) (i : Int) : 0 ≤ rd l i ∧ rd l i ≤ 255 := by
  unfold rd
  by_cases hi : i.toNat < l.length
  · simp only [List.getD_eq_getElem?_getD, List.getElem?_eq_getElem hi, Option.getD_some]
    exact h _ (List.getElem_mem hi)
  · rw [List.getD_eq_getElem?_getD, List.getElem?_eq_none (Nat.le_of_not_lt hi)]
    exact ⟨Int.le_refl 0, by decide⟩
theorem code_take {l : List Int} (h : CodeOk l) (n : Nat) : CodeOk (l.take n) := fun x hx => h x (List.mem_of_mem_take hx)
theorem wrap_in (x : Int) (h1 : -9223372036854775808 ≤ x) (h2 : x ≤ 9223372036854775807) : wrap64 x = x := by unfold wrap64; omega
theorem tmod_in (x n : Int) (h : 0 ≤ x) (hn : 1 ≤ n) : 0 ≤ Int.tmod x n ∧ Int.tmod x n < n := by
  rw [Int.tmod_eq_emod_of_nonneg h]
  exact ⟨Int.emod_nonneg _ (by omega), Int.emod_lt_of_pos _ (by omega)⟩
theorem pick_ok (b : List Int) (hb : CodeOk b) (hl : b.length ≤ 140737488351232) (p n : Int) (h0 : 0 ≤ p) (h1 : p < 1000000000000) (hn : 1 ≤ n) :
    ∃ v, 0 ≤ v ∧ v < n ∧ ∀ k, 1 ≤ k → spec_l16Rd_pick.f k b p n = some (v, p + 1) := by
  have hw : wrap64 (p + 1) = p + 1 := wrap_in _ (by omega) (by omega)
  have hq : wrap64 (p + 1 - 1) = p := by rw [show p + 1 - 1 = p by omega]; exact wrap_in _ (by omega) (by omega)
  by_cases hz : b.length = 0
  · refine ⟨0, by omega, by omega, fun k hk => ?_⟩
    obtain ⟨k, rfl⟩ : ∃ m, k = m + 1 := ⟨k - 1, by omega⟩
    unfold spec_l16Rd_pick.f
    rw [if_neg (by omega), hw]
    simp [spec_l16Rd_pick.j0, hz]
  · have hz' : ((b.length : Int) == 0) = false := beq_eq_false_iff_ne.mpr (by omega)
    by_cases hlt : p < (b.length : Int)
    · have hr := rd_code hb p
      have hrw : wrap64 (rd b p) = rd b p := wrap_in _ (by omega) (by omega)
      obtain ⟨t0, t1⟩ := tmod_in (rd b p) n hr.1 hn
      refine ⟨Int.tmod (rd b p) n, t0, t1, fun k hk => ?_⟩
      obtain ⟨k, rfl⟩ : ∃ m, k = m + 1 := ⟨k - 1, by omega⟩
      unfold spec_l16Rd_pick.f
      rw [if_neg (by omega), hw]
      simp only [spec_l16Rd_pick.j0, hq]
      rw [if_neg (by rw [hz']; decide), if_pos hlt, if_pos h0, if_neg (by omega), hrw]
    · have hL : (1 : Int) ≤ (b.length : Int) := by omega
      obtain ⟨i0, i1⟩ := tmod_in p (b.length : Int) h0 hL
      have hm7 : wrap64 (p * 7) = p * 7 := wrap_in _ (by omega) (by omega)
      have hm73 : wrap64 (p * 7 + 3) = p * 7 + 3 := wrap_in _ (by omega) (by omega)
      obtain ⟨j0, j1⟩ := tmod_in (p * 7 + 3) (b.length : Int) (by omega) hL
      have hr1 := rd_code hb (Int.tmod p (b.length : Int))
      have hr2 := rd_code hb (Int.tmod (p * 7 + 3) (b.length : Int))
      generalize g1 : rd b (Int.tmod p (b.length : Int)) = x1 at hr1
      generalize g2 : rd b (Int.tmod (p * 7 + 3) (b.length : Int)) = x2 at hr2
      have hd : 0 ≤ Int.tdiv p (b.length : Int) ∧ Int.tdiv p (b.length : Int) ≤ p := by
        rw [Int.tdiv_eq_ediv_of_nonneg h0]
        exact ⟨Int.ediv_nonneg h0 (by omega), Int.ediv_le_self _ h0⟩
      generalize g3 : Int.tdiv p (b.length : Int) = y at hd
      have e1 : wrap64 x1 = x1 := wrap_in _ (by omega) (by omega)
      have e2 : wrap64 x2 = x2 := wrap_in _ (by omega) (by omega)
      have e3 : wrap64 (x1 * 131) = x1 * 131 := wrap_in _ (by omega) (by omega)
      have e4 : wrap64 (x2 * 1117) = x2 * 1117 := wrap_in _ (by omega) (by omega)
      have e5 : wrap64 (x1 * 131 + x2 * 1117) = x1 * 131 + x2 * 1117 := wrap_in _ (by omega) (by omega)
      have e6 : wrap64 (p * 29) = p * 29 := wrap_in _ (by omega) (by omega)
      have e7 : wrap64 (x1 * 131 + x2 * 1117 + p * 29) = x1 * 131 + x2 * 1117 + p * 29 := wrap_in _ (by omega) (by omega)
      have e8 : wrap64 y = y := wrap_in _ (by omega) (by omega)
      have e9 : wrap64 (y * 53) = y * 53 := wrap_in _ (by omega) (by omega)
      have e10 : wrap64 (x1 * 131 + x2 * 1117 + p * 29 + y * 53) = x1 * 131 + x2 * 1117 + p * 29 + y * 53 := wrap_in _ (by omega) (by omega)
      generalize hX : x1 * 131 + x2 * 1117 + p * 29 + y * 53 = X at e10
      have hX0 : 0 ≤ X ∧ X < 4611686018427387904 := by omega
      have hd2 : 0 ≤ Int.tdiv X 64 ∧ Int.tdiv X 64 ≤ X := by
        rw [Int.tdiv_eq_ediv_of_nonneg hX0.1]
        omega
      have e11 : wrap64 (Int.tdiv X 64) = Int.tdiv X 64 := wrap_in _ (by omega) (by omega)
      have hx := xor_nonneg X (Int.tdiv X 64) hX0.1 hX0.2 hd2.1 (by omega)
      obtain ⟨t0, t1⟩ := tmod_in _ n hx hn
      refine ⟨_, t0, t1, fun k hk => ?_⟩
      obtain ⟨k, rfl⟩ : ∃ m, k = m + 1 := ⟨k - 1, by omega⟩
      unfold spec_l16Rd_pick.f
      rw [if_neg (by omega), hw]
      simp only [spec_l16Rd_pick.j0, hq, hm7, hm73]
      rw [if_neg (by rw [hz']; decide), if_neg hlt, if_neg (by omega), if_pos i0, if_pos i1, if_pos j0, if_pos j1, if_neg (by omega)]
      rw [g1, g2, g3, e1, e2, e3, e4, e5, e6, e7, e8, e9, hX, e10, e11]
theorem of_ok (b : List Int) (hb : CodeOk b) (hl : b.length ≤ 140737488351232) (p : Int) (h0 : 0 ≤ p) (h1 : p < 1000000000000) (xs : List ByteArray) (hx : 1 ≤ xs.length) :
    ∃ x, x ∈ xs ∧ ∀ k, 1 ≤ k → spec_l16Rd_of.f k b p xs = some (x, p + 1) := by
  obtain ⟨v, v0, v1, hv⟩ := pick_ok b hb hl p (xs.length : Int) h0 h1 (by omega)
  refine ⟨rdOf ByteArray.empty xs v, ?_, fun k hk => ?_⟩
  · unfold rdOf
    rw [List.getD_eq_getElem?_getD, List.getElem?_eq_getElem (by omega)]
    exact List.getElem_mem _
  · unfold spec_l16Rd_of.f
    rw [hv k hk, Option.bind_some, if_pos v0, if_pos v1]
theorem one_ok (b : List Int) (hb : CodeOk b) (hl : b.length ≤ 140737488351232) (p : Int) (h0 : 0 ≤ p) (h1 : p < 1000000000000) (xs : List Int) (hx : 1 ≤ xs.length) :
    ∃ x, x ∈ xs ∧ ∀ k, 1 ≤ k → spec_l16Rd_one.f k b p xs = some (x, p + 1) := by
  obtain ⟨v, v0, v1, hv⟩ := pick_ok b hb hl p (xs.length : Int) h0 h1 (by omega)
  refine ⟨rd xs v, ?_, fun k hk => ?_⟩
  · unfold rd
    rw [List.getD_eq_getElem?_getD, List.getElem?_eq_getElem (by omega)]
    exact List.getElem_mem _
  · unfold spec_l16Rd_one.f
    rw [hv k hk, Option.bind_some, if_pos v0, if_pos v1]
theorem open_ok (l : List Int) (hc : CodeOk l) : ∃ b, CodeOk b ∧ b.length ≤ 140737488351232 ∧ spec_l16Open.f l = some (b, 0) := by
  unfold spec_l16Open.f
  by_cases h : (l.length : Int) > 2000
  · rw [if_pos h, if_pos (by omega)]
    exact ⟨_, code_take hc _, by rw [List.length_take]; omega, rfl⟩
  · rw [if_neg h]
    exact ⟨l, hc, by omega, rfl⟩
theorem code_of {l : List Int} (h : ∀ x ∈ l, (Lit.int .u8 x).wf = true) : CodeOk l := fun x hx => by
  have := h x hx
  simp [Lit.wf, IntKind.min, IntKind.max, IntKind.bits, IntKind.signed] at this
  omega
end Go.Proofs.Ytlocmcdobjdkkaa.Draw
namespace Go.Proofs.Ytlocmcdobjdkkaa.Lines
open Go.RowKit Go.Proofs.Ytlocmcdobjdkkaa.PAll Go.Proofs.YtlocmcdobjdkkaaW.PrintWords Go.Proofs.YtlocmcdobjdkkaaW.PrintLast Go.Proofs.YtlocmcdobjdkkaaW.PrintMore Go.Proofs.YtlocmcdobjdkkaaW.XWords
open Go.Proofs.Ytlocmcdobjdkkaa.Draw
def okB (b : Int) (q : List ByteArray) (g : Int) (o : Bool) : Bool := decide (0 ≤ b) && decide (b ≤ 255) && (decide (0 ≤ g) && decide (g ≤ 255)) && decide (q.length ≤ 8) && (!o || decide (q.length = 0)) && !(q.any fun s => decide (3000 < s.size))
theorem in_eq (n lo hi : Int) : spec_l1In.f n lo hi = some (decide (lo ≤ n) && decide (n ≤ hi)) := by
  unfold spec_l1In.f
  split <;> rw [Option.some.injEq, Bool.eq_iff_iff] <;> simp <;> omega
theorem within_eq (n lo hi : Int) : impl_within.f n lo hi = some (decide (lo ≤ n) && decide (n ≤ hi)) := by
  unfold impl_within.f
  split <;> rw [Option.some.injEq, Bool.eq_iff_iff] <;> simp <;> omega
theorem count_eq (n : Int) : impl_count.f n = some (decide (0 ≤ n) && decide (n ≤ 255)) := by
  unfold impl_count.f
  rw [within_eq, Option.bind_some]
theorem impl_ok (b : Int) (q : List ByteArray) (g : Int) (o : Bool) : impl_LineOk.f b q g o = some (okB b q g o) := by
  unfold impl_LineOk.f okB slices_ContainsFunc_string_string_impl_LineOk_1.f
  rw [count_eq, Option.bind_some, count_eq, Option.bind_some]
  simp only [Option.bind_some]
  cases (decide (0 ≤ b) && decide (b ≤ 255)) with
  | false => simp
  | true =>
    cases (decide (0 ≤ g) && decide (g ≤ 255)) with
    | false => simp
    | true =>
      by_cases h8 : q.length ≤ 8
      · rw [if_pos rfl, if_pos rfl, if_neg (by omega)]
        cases o with
        | false => simp [h8]
        | true =>
          by_cases h0 : q.length = 0
          · rw [if_pos rfl, if_neg (by omega)]
            simp [h0]
          · rw [if_pos rfl, if_pos (by omega)]
            simp [h0]
      · rw [if_pos rfl, if_pos rfl, if_pos (by omega)]
        simp [h8]
theorem spec_loop (b : Int) (q : List ByteArray) (g : Int) (o : Bool) (hq : q.length ≤ 9000000000000000000) (d : Nat) : ∀ (k j : Nat), j ≤ q.length → q.length - j = d → d < k →
    spec_l9Ok.l0 k (j : Int) b q g o = some (decide (0 ≤ b) && decide (b ≤ 255) && (decide (0 ≤ g) && decide (g ≤ 255)) && decide (q.length ≤ 8) && (!o || decide (q.length = 0)) && !((q.drop j).any fun s => decide (3000 < s.size))) := by
  induction d with
  | zero =>
    intro k j hj hd hk
    obtain ⟨k, rfl⟩ : ∃ m, k = m + 1 := ⟨k - 1, by omega⟩
    obtain rfl : j = q.length := by omega
    simp only [spec_l9Ok.l0]
    rw [if_neg (by omega), in_eq, Option.bind_some, in_eq, List.drop_length]
    simp only [Option.bind_some]
    cases (decide (0 ≤ b) && decide (b ≤ 255)) with
    | false => simp
    | true =>
      cases (decide (0 ≤ g) && decide (g ≤ 255)) with
      | false => simp
      | true =>
        by_cases h8 : q.length ≤ 8
        · rw [if_pos rfl, if_pos rfl, if_pos (by omega)]
          cases o with
          | false => simp [h8]
          | true =>
            rw [if_pos rfl, Option.some.injEq, Bool.eq_iff_iff]
            simp
            omega
        · rw [if_pos rfl, if_pos rfl, if_neg (by omega)]
          simp [h8]
  | succ d ih =>
    intro k j hj hd hk
    obtain ⟨k, rfl⟩ : ∃ m, k = m + 1 := ⟨k - 1, by omega⟩
    have hlt : j < q.length := by omega
    simp only [spec_l9Ok.l0]
    rw [if_pos (by omega), if_pos (by omega), any_drop_strs _ _ _ hlt]
    by_cases hb : 3000 < (rdOf ByteArray.empty q (j : Int)).size
    · rw [if_pos (by omega), decide_eq_true hb]
      simp
    · rw [if_neg (by omega), decide_eq_false hb, show wrap64 ((j : Int) + 1) = ((j + 1 : Nat) : Int) by unfold wrap64; omega, ih k (j + 1) (by omega) (by omega) (by omega), Bool.false_or]
theorem spec_ok (b : Int) (q : List ByteArray) (g : Int) (o : Bool) (hq : q.length ≤ 9000000000000000000) (k : Nat) (hk : q.length < k) : spec_l9Ok.f k b q g o = some (okB b q g o) := by
  have := spec_loop b q g o hq q.length k 0 (by omega) (by omega) hk
  rw [List.drop_zero] at this
  exact this
theorem copied_eq (b : Int) (q : List ByteArray) (g : Int) (o : Bool) (hq : q.length ≤ 1000000) : impl_Line_copied.f b q g o = some (b, q, g, o) := by
  unfold impl_Line_copied.f slices_Clone_string_string.f slices_Clip_string_string.f
  rw [if_pos (by omega)]
  rfl
theorem line_loop (c : List Int) (hc : CodeOk c) (hl : c.length ≤ 140737488351232) (g : Int) (hg : 0 ≤ g ∧ g ≤ 255) (d : Nat) : ∀ (b p n : Int) (q : List ByteArray), n.toNat = d → 0 ≤ n → n ≤ 100 → -1 ≤ b ∧ b ≤ 256 → 0 ≤ p → p < 900000000000 - d → q.length + d ≤ 100 →
    ∃ b2 q2 g2 o2 p2, (-1 ≤ b2 ∧ b2 ≤ 256) ∧ q2.length ≤ 101 ∧ (0 ≤ g2 ∧ g2 ≤ 255) ∧ (0 ≤ p2 ∧ p2 < 900000000100) ∧ ∀ k, d < k → spec_l16Line.l0 (k + 1) n c p b q g false = some (b2, q2, g2, o2, p2) := by
  induction d with
  | zero =>
    intro b p n q hn hn0 hn1 hb hp hp1 hq
    obtain rfl : n = 0 := by omega
    obtain ⟨v, v0, v1, hv⟩ := pick_ok c hc hl p 12 hp (by omega) (by omega)
    obtain ⟨x, hx, hxe⟩ := one_ok c hc hl (p + 1) (by omega) (by omega) [(-1), 256] (by simp)
    have hxb : -1 ≤ x ∧ x ≤ 256 := by
      simp at hx
      omega
    have step : ∀ k, 0 < k → spec_l16Line.l0 (k + 1) 0 c p b q g false = if v = 0 then some (x, q, g, false, p + 1 + 1) else if v = 1 then some (b, q, g, true, p + 1) else if v = 2 then some (b, [], g, true, p + 1) else if v = 3 then some (b, q ++ [(⟨#[120]⟩ : ByteArray)], g, false, p + 1) else some (b, q, g, false, p + 1) := by
      intro k hk
      simp only [spec_l16Line.l0]
      rw [if_neg (by omega), hv k (by omega), Option.bind_some]
      simp only []
      rw [hxe k (by omega), Option.bind_some, if_pos (show q.length < 8796093022208 by omega)]
    by_cases h0 : v = 0
    · exact ⟨x, q, g, false, p + 1 + 1, hxb, by omega, hg, by omega, fun k hk => by rw [step k hk, if_pos h0]⟩
    by_cases h1 : v = 1
    · exact ⟨b, q, g, true, p + 1, hb, by omega, hg, by omega, fun k hk => by rw [step k hk, if_neg h0, if_pos h1]⟩
    by_cases h2 : v = 2
    · exact ⟨b, [], g, true, p + 1, hb, by simp, hg, by omega, fun k hk => by rw [step k hk, if_neg h0, if_neg h1, if_pos h2]⟩
    by_cases h3 : v = 3
    · exact ⟨b, q ++ [(⟨#[120]⟩ : ByteArray)], g, false, p + 1, hb, by simp; omega, hg, by omega, fun k hk => by rw [step k hk, if_neg h0, if_neg h1, if_neg h2, if_pos h3]⟩
    · exact ⟨b, q, g, false, p + 1, hb, by omega, hg, by omega, fun k hk => by rw [step k hk, if_neg h0, if_neg h1, if_neg h2, if_neg h3]⟩
  | succ d ih =>
    intro b p n q hn hn0 hn1 hb hp hp1 hq
    obtain ⟨x, hx, hxe⟩ := of_ok c hc hl p hp (by omega) [(⟨#[60, 97, 47, 62]⟩ : ByteArray), (⟨#[60, 98, 47, 62]⟩ : ByteArray), (⟨#[]⟩ : ByteArray)] (by simp)
    obtain ⟨b2, q2, g2, o2, p2, hb2, hq2, hg2, hp2, h⟩ := ih b (p + 1) (n - 1) (q ++ [x]) (by omega) (by omega) (by omega) hb (by omega) (by omega) (by simp; omega)
    refine ⟨b2, q2, g2, o2, p2, hb2, hq2, hg2, hp2, fun k hk => ?_⟩
    obtain ⟨k, rfl⟩ : ∃ m, k = m + 1 := ⟨k - 1, by omega⟩
    rw [spec_l16Line.l0]
    rw [if_pos (by omega), hxe _ (by omega), Option.bind_some]
    simp only []
    rw [if_pos (by omega), show wrap64 (n - 1) = n - 1 by unfold wrap64; omega]
    exact h k (by omega)
theorem line_ok (c : List Int) (hc : CodeOk c) (hl : c.length ≤ 140737488351232) (p : Int) (hp : 0 ≤ p) (hp1 : p < 1000000) :
    ∃ b q g o p2, (-1 ≤ b ∧ b ≤ 256) ∧ q.length ≤ 101 ∧ (0 ≤ g ∧ g ≤ 255) ∧ (0 ≤ p2 ∧ p2 < 900000000100) ∧ ∀ k, 20 < k → spec_l16Line.f k c p = some (b, q, g, o, p2) := by
  obtain ⟨b, hb, hbe⟩ := one_ok c hc hl p hp (by omega) [0, 1, 5, 250, 255] (by simp)
  obtain ⟨g, hg, hge⟩ := one_ok c hc hl (p + 1) (by omega) (by omega) [0, 7, 255] (by simp)
  obtain ⟨n, n0, n1, hne⟩ := pick_ok c hc hl (p + 1 + 1) 9 (by omega) (by omega) (by omega)
  have hb2 : -1 ≤ b ∧ b ≤ 256 := by simp at hb; omega
  have hg2 : 0 ≤ g ∧ g ≤ 255 := by simp at hg; omega
  obtain ⟨b2, q2, g2, o2, p2, h1, h2, h3, h4, h⟩ := line_loop c hc hl g hg2 n.toNat b (p + 1 + 1 + 1) n [] rfl n0 (by omega) hb2 (by omega) (by omega) (by simp; omega)
  refine ⟨b2, q2, g2, o2, p2, h1, h2, h3, h4, fun k hk => ?_⟩
  unfold spec_l16Line.f
  rw [hbe k (by omega), Option.bind_some]
  simp only []
  rw [hge k (by omega), Option.bind_some]
  simp only []
  rw [hne k (by omega), Option.bind_some]
  simp only []
  obtain ⟨k, rfl⟩ : ∃ m, k = m + 1 := ⟨k - 1, by omega⟩
  exact h k (by omega)
end Go.Proofs.Ytlocmcdobjdkkaa.Lines
namespace Go.Proofs.Ytlocmcdobjdkkaa.Hb
open Go.RowKit Go.Proofs.Ytlocmcdobjdkkaa.PAll Go.Proofs.YtlocmcdobjdkkaaW.PrintWords Go.Proofs.YtlocmcdobjdkkaaW.PrintLast Go.Proofs.YtlocmcdobjdkkaaW.PrintMore Go.Proofs.YtlocmcdobjdkkaaW.XWords
open Go.Proofs.Ytlocmcdobjdkkaa.Draw Go.Proofs.Ytlocmcdobjdkkaa.Lines
theorem texts_loop (q : List ByteArray) (hq : q.length ≤ 1000000) (d : Nat) : ∀ (k j : Nat), j ≤ q.length → q.length - j = d → d < k → laws_hbTexts.l0 k q q (j : Int) = some true := by
  induction d with
  | zero =>
    intro k j hj hd hk
    obtain ⟨k, rfl⟩ : ∃ m, k = m + 1 := ⟨k - 1, by omega⟩
    simp only [laws_hbTexts.l0]
    rw [if_neg (by omega)]
  | succ d ih =>
    intro k j hj hd hk
    obtain ⟨k, rfl⟩ : ∃ m, k = m + 1 := ⟨k - 1, by omega⟩
    simp only [laws_hbTexts.l0]
    rw [if_pos (by omega), if_pos (by omega), if_pos (by omega), if_pos trivial, show wrap64 ((j : Int) + 1) = ((j + 1 : Nat) : Int) by unfold wrap64; omega]
    exact ih k (j + 1) (by omega) (by omega) (by omega)
theorem texts_same (q : List ByteArray) (hq : q.length ≤ 1000000) (k : Nat) (hk : q.length < k) : laws_hbTexts.f k q q = some true := by
  unfold laws_hbTexts.f
  rw [if_pos rfl]
  exact texts_loop q hq q.length k 0 (by omega) (by omega) hk
theorem line_same (b : Int) (q : List ByteArray) (g : Int) (o : Bool) (hq : q.length ≤ 1000000) (k : Nat) (hk : q.length < k) : laws_hbLine.f k b q g o b q g o = some true := by
  unfold laws_hbLine.f
  rw [if_pos rfl, texts_same q hq k hk, Option.bind_some, if_pos rfl, if_pos rfl]
  simp
end Go.Proofs.Ytlocmcdobjdkkaa.Hb
namespace Go.Proofs.Ytlocmcdobjdkkaa.AckE
open Go.RowKit Go.Proofs.Ytlocmcdobjdkkaa.PAll Go.Proofs.YtlocmcdobjdkkaaW.PrintWords Go.Proofs.YtlocmcdobjdkkaaW.PrintLast Go.Proofs.YtlocmcdobjdkkaaW.PrintMore Go.Proofs.YtlocmcdobjdkkaaW.XWords
open Go.Proofs.Ytlocmcdobjdkkaa.Draw Go.Proofs.Ytlocmcdobjdkkaa.Lines
def ackE (b : Int) (q : List ByteArray) (g : Int) (o : Bool) (h : Int) : Int × List ByteArray × Int × Bool × Bool := if okB b q g o = true then (if 0 ≤ h ∧ h ≤ 255 then (if (q.length : Int) < (h - b + 256) % 256 ∨ o = true then (b, q, g, o, false) else (h, q.drop ((h - b + 256) % 256).toNat, g, false, true)) else (0, [], 0, false, false)) else (0, [], 0, false, false)
theorem ok_ack {b : Int} {q : List ByteArray} {g : Int} {o : Bool} (h : okB b q g o = true) : q.length ≤ 8 ∧ 0 ≤ b ∧ b ≤ 255 := by
  unfold okB at h
  simp at h
  omega
theorem in_range (h : Int) : (decide (0 ≤ h) && decide (h ≤ 255)) = decide (0 ≤ h ∧ h ≤ 255) := by simp
theorem gone_eq (b h : Int) (h0 : 0 ≤ b) (h1 : b ≤ 255) (h2 : 0 ≤ h) (h3 : h ≤ 255) : Int.tmod (wrap64 (wrap64 (h - b) + 256)) 256 = (h - b + 256) % 256 := by
  rw [wrap_in (h - b) (by omega) (by omega), wrap_in _ (by omega) (by omega), Int.tmod_eq_emod_of_nonneg (by omega)]
theorem impl_ackE (b : Int) (q : List ByteArray) (g : Int) (o : Bool) (h : Int) : impl_LineAck.f b q g o h = some (ackE b q g o h) := by
  unfold impl_LineAck.f ackE
  rw [impl_ok, Option.bind_some]
  by_cases hk : okB b q g o = true
  · have hs := ok_ack hk
    rw [if_pos hk, if_pos hk, count_eq, Option.bind_some, in_range]
    by_cases hh : 0 ≤ h ∧ h ≤ 255
    · rw [if_pos (decide_eq_true hh), if_pos hh, copied_eq b q g o (by omega), Option.bind_some]
      simp only []
      rw [gone_eq b h (by omega) (by omega) hh.1 hh.2, if_neg (by omega)]
      split <;> rfl
    · rw [if_neg (by simp only [decide_eq_true_eq]; exact hh), if_neg hh]
  · rw [if_neg hk, if_neg hk]
theorem spec_ackE (b : Int) (q : List ByteArray) (g : Int) (o : Bool) (h : Int) (hq : q.length ≤ 1048576) (k : Nat) (hk : q.length < k) : spec_LineAck.f k b q g o h = some (ackE b q g o h) := by
  unfold spec_LineAck.f ackE
  rw [spec_ok b q g o (by omega) k hk, Option.bind_some]
  by_cases hk : okB b q g o = true
  · have hs := ok_ack hk
    rw [if_pos hk, if_pos hk, in_eq, Option.bind_some, in_range]
    by_cases hh : 0 ≤ h ∧ h ≤ 255
    · rw [if_pos (decide_eq_true hh), if_pos hh]
      unfold spec_l9Ack.f spec_l9Gone.f spec_l9Copy.f
      rw [gone_eq b h (by omega) (by omega) hh.1 hh.2]
      by_cases hm : (h - b + 256) % 256 > (q.length : Int)
      · rw [if_pos hm, Option.bind_some, if_pos (by omega), Option.bind_some, if_pos (by simp; omega), Option.bind_some, Option.bind_some, if_pos (.inl hm)]
        rfl
      · rw [if_neg hm]
        by_cases ho : o = true
        · rw [if_pos ho, Option.bind_some, if_pos (by omega), Option.bind_some, if_pos (by simp; omega), Option.bind_some, Option.bind_some, if_pos (.inr ho)]
          rfl
        · rw [if_neg ho, Option.bind_some, if_neg (by omega), Option.bind_some, if_pos (by simp; omega), Option.bind_some, Option.bind_some, if_pos (by omega), if_pos (by omega), if_pos (by simp; omega), Option.bind_some, if_neg (fun e => e.elim (fun e => by omega) ho)]
          simp at ho
          rw [ho]
          rfl
    · rw [if_neg (by simp only [decide_eq_true_eq]; exact hh), if_neg hh]
  · rw [if_neg hk, if_neg hk]
end Go.Proofs.Ytlocmcdobjdkkaa.AckE
namespace Go.Proofs.Ytlocmcdobjdkkaa.Pure
open Go.RowKit Go.Proofs.Ytlocmcdobjdkkaa.PAll Go.Proofs.YtlocmcdobjdkkaaW.PrintWords Go.Proofs.YtlocmcdobjdkkaaW.PrintLast Go.Proofs.YtlocmcdobjdkkaaW.PrintMore Go.Proofs.YtlocmcdobjdkkaaW.XWords
open Go.Proofs.Ytlocmcdobjdkkaa.Draw Go.Proofs.Ytlocmcdobjdkkaa.Lines Go.Proofs.Ytlocmcdobjdkkaa.Hb Go.Proofs.Ytlocmcdobjdkkaa.AckE
theorem draw_ok (l c : List Int) (hc : CodeOk c) (hcl : c.length ≤ 140737488351232) (ho : spec_l16Open.f l = some (c, 0)) :
    ∃ b q g o h, q.length ≤ 101 ∧ (-1 ≤ h ∧ h ≤ 256) ∧ ∀ k, 20 < k → spec_DrawLineAck.f k l = some (b, q, g, o, h) := by
  obtain ⟨b, q, g, o, p2, hb, hq, hg, hp, hd⟩ := line_ok c hc hcl 0 (by omega) (by omega)
  obtain ⟨v, hv0, hv1, hv⟩ := pick_ok c hc hcl p2 8 hp.1 (by omega) (by omega)
  by_cases hz : v = 0
  · obtain ⟨x, hx, hxe⟩ := one_ok c hc hcl (p2 + 1) (by omega) (by omega) [(-1), 256, 255] (by decide)
    refine ⟨b, q, g, o, x, hq, ?_, fun k hk => ?_⟩
    · simp only [List.mem_cons, List.not_mem_nil, or_false] at hx
      omega
    · unfold spec_DrawLineAck.f
      rw [ho, Option.bind_some]
      simp only []
      rw [hd k hk, Option.bind_some]
      simp only []
      rw [hv k (by omega), Option.bind_some]
      simp only []
      rw [if_pos hz, hxe k (by omega), Option.bind_some]
  · obtain ⟨y, hy0, hy1, hy⟩ := pick_ok c hc hcl (p2 + 1) 11 (by omega) (by omega) (by omega)
    refine ⟨b, q, g, o, Int.tmod (wrap64 ((wrap64 (b + y)) + 256)) 256, hq, ?_, fun k hk => ?_⟩
    · rw [wrap_in (b + y) (by omega) (by omega), wrap_in _ (by omega) (by omega), Int.tmod_eq_emod_of_nonneg (by omega)]
      omega
    · unfold spec_DrawLineAck.f
      rw [ho, Option.bind_some]
      simp only []
      rw [hd k hk, Option.bind_some]
      simp only []
      rw [hv k (by omega), Option.bind_some]
      simp only []
      rw [if_neg hz, hy k (by omega), Option.bind_some]
theorem FnLineAck : laws_FnLineAck.Pure := by
  intro l hl hl2 hw
  by_cases hbig : (l.length : Int) > 1048576
  · exact ⟨0, by unfold laws_FnLineAck.f; rw [if_pos hbig]⟩
  obtain ⟨c, hc, hcl, ho⟩ := open_ok l (code_of hw)
  obtain ⟨b, q, g, o, h, hq, hh, hd⟩ := draw_ok l c hc hcl ho
  refine ⟨201, ?_⟩
  unfold laws_FnLineAck.f
  rw [if_neg hbig, hd 201 (by omega), Option.bind_some]
  simp only []
  rw [impl_ackE, Option.bind_some, spec_ackE b q g o h (by omega) _ (by omega), Option.bind_some]
  obtain ⟨⟨b1, q1, g1, o1, y⟩, hR, hq1⟩ : ∃ R, ackE b q g o h = R ∧ R.2.1.length ≤ q.length := ⟨_, rfl, by
    unfold ackE
    split
    · split
      · split
        · simp
        · simp
      · simp
    · simp⟩
  dsimp only at hq1
  rw [hR]
  simp only []
  rw [if_neg (by simp), line_same b1 q1 g1 o1 (by omega) _ (by omega), Option.bind_some, if_pos rfl]
  have hack := hR
  unfold ackE at hack
  cases y with
  | false =>
    rw [show (!false) = true from rfl, laws_FnLineAck.j0, if_pos rfl, if_pos (by decide), line_same b1 q1 g1 o1 (by omega) _ (by omega), Option.bind_some, if_pos rfl, impl_ok, Option.bind_some]
    by_cases hok : okB b q g o = true
    · rw [if_pos hok]
      by_cases h0 : h < 0
      · rw [if_pos h0]
      · rw [if_neg h0]
        by_cases h9 : h ≥ 256
        · rw [if_pos h9]
        · rw [if_neg h9]
          rw [if_pos hok, if_pos (by omega)] at hack
          by_cases hm : (q.length : Int) < (h - b + 256) % 256 ∨ o = true
          · rw [if_pos hm] at hack
            simp only [Prod.mk.injEq] at hack
            obtain ⟨rfl, rfl, rfl, rfl, _⟩ := hack
            rw [line_same b q g o (by omega) _ (by omega)]
            rfl
          · rw [if_neg hm] at hack
            simp at hack
    · rw [if_neg hok]
  | true =>
    by_cases hok : okB b q g o = true
    · rw [if_pos hok] at hack
      by_cases hr : 0 ≤ h ∧ h ≤ 255
      · rw [if_pos hr] at hack
        by_cases hm : (q.length : Int) < (h - b + 256) % 256 ∨ o = true
        · rw [if_pos hm] at hack
          simp at hack
        · rw [if_neg hm] at hack
          simp only [Prod.mk.injEq, and_true] at hack
          obtain ⟨rfl, rfl, rfl, rfl⟩ := hack
          have hs := ok_ack hok
          have hmq : ¬ (q.length : Int) < (h - b + 256) % 256 := fun e => hm (.inl e)
          have hokc := hok
          unfold okB at hokc
          simp at hokc
          obtain ⟨⟨⟨⟨⟨hb0, hb1⟩, hg0, hg1⟩, h8⟩, hov⟩, hsz⟩ := hokc
          obtain ⟨N, hN⟩ := Int.eq_ofNat_of_zero_le (show 0 ≤ (h - b + 256) % 256 by omega)
          have hok1 : okB h (q.drop N) g false = true := by
            unfold okB
            simp
            exact ⟨⟨⟨hr, hg0, hg1⟩, by omega⟩, fun x hx => hsz x (List.mem_of_mem_drop hx)⟩
          have hgone := gone_eq b h (by omega) (by omega) hr.1 hr.2
          rw [show (!true) = false from rfl, laws_FnLineAck.j0, if_neg (by decide), impl_ackE]
          have hx : ackE h (q.drop ((h - b + 256) % 256).toNat) g false h = (h, q.drop ((h - b + 256) % 256).toNat, g, false, true) := by
            unfold ackE
            rw [hN, Int.toNat_natCast, if_pos hok1, if_pos hr, show (h - h + 256) % 256 = 0 by omega, if_neg (by simp)]
            rfl
          rw [hx, Option.bind_some]
          simp only []
          rw [hgone, if_pos (by omega), if_pos (by omega), texts_same _ (by rw [List.length_drop]; omega) _ (by rw [List.length_drop]; omega), Option.bind_some, if_pos rfl, if_pos trivial, if_pos trivial, line_same _ _ _ _ (by rw [List.length_drop]; omega) _ (by rw [List.length_drop]; omega), Option.bind_some, if_pos rfl]
          unfold impl_LineSent.f
          rw [hN, Int.toNat_natCast, impl_ok, hok1, Option.bind_some, if_pos rfl, Option.bind_some, impl_ok, hok, Option.bind_some, if_pos rfl, Option.bind_some]
          rw [if_pos (by
            rw [List.length_drop, wrap_in (b + (q.length : Int)) (by omega) (by omega), wrap_in _ (by omega) (by omega), Int.tmod_eq_emod_of_nonneg (by omega), Int.tmod_eq_emod_of_nonneg (by omega)]
            omega)]
          simp
      · rw [if_neg hr] at hack
        simp at hack
    · rw [if_neg hok] at hack
      simp at hack
end Go.Proofs.Ytlocmcdobjdkkaa.Pure
