/- What the program and the reference tell of a line, as one Bool and one number (plain facts over the printed functions). -/
import Derived.Test.YteaeachobnmpgaaPureDraw
import Derived.Test.YteaeachobnmpgaaPAllxspecl16Line1009
import Derived.Test.YteaeachobnmpgaaPAllxspecl9Ok1fe4
import Derived.Test.YteaeachobnmpgaaPAllxspecLineOkaeaf
import Derived.Test.YteaeachobnmpgaaPAllximplLineOk7146
import Derived.Test.YteaeachobnmpgaaPAllximplcount9216
import Derived.Test.YteaeachobnmpgaaPAllximplwithin4168
import Derived.Test.YteaeachobnmpgaaPAllxspecl1In08d2
import Derived.Test.YteaeachobnmpgaaPAllximplLinecopied83d5
import Derived.Test.YteaeachobnmpgaaPAllxcstringstringimplLineOk11115
import Derived.Test.YteaeachobnmpgaaPAllxslicesClonestringstringb667
import Derived.Test.YteaeachobnmpgaaPAllxslicesClipstringstring7816
namespace Go.Proofs.Yteaeachobnmpgaa.Lines
open Go.RowKit Go.Proofs.Yteaeachobnmpgaa.PAll Go.Proofs.YteaeachobnmpgaaW.PrintWords Go.Proofs.YteaeachobnmpgaaW.PrintLast Go.Proofs.YteaeachobnmpgaaW.PrintMore Go.Proofs.YteaeachobnmpgaaW.XWords
open Go.Proofs.Yteaeachobnmpgaa.Draw
def okB (b : Int) (q : List ByteArray) (g : Int) (o : Bool) : Bool := decide (0 ≤ b) && decide (b ≤ 255) && (decide (0 ≤ g) && decide (g ≤ 255)) && decide (q.length ≤ 8) && (!o || decide (q.length = 0)) && !(q.any fun s => decide (3000 < s.size))
theorem in_eq (n lo hi : Int) : spec_l1In.f n lo hi = some (decide (lo ≤ n) && decide (n ≤ hi)) := by
  unfold spec_l1In.f
  split <;> rw [Option.some.injEq, Bool.eq_iff_iff] <;> simp <;> omega
theorem within_eq (n lo hi : Int) : impl_within.f n lo hi = some (decide (lo ≤ n) && decide (n ≤ hi)) := by
  unfold impl_within.f
  split <;> rw [Option.some.injEq, Bool.eq_iff_iff] <;> simp <;> omega
theorem count_eq (n : Int) : impl_count.f n = some (decide (0 ≤ n) && decide (n ≤ 255)) := by
  unfold impl_count.f
  rw [within_eq, Option.bind_some]
theorem impl_ok (b : Int) (q : List ByteArray) (g : Int) (o : Bool) : impl_LineOk.f b q g o = some (okB b q g o) := by
  unfold impl_LineOk.f okB slices_ContainsFunc_string_string_impl_LineOk_1.f
  rw [count_eq, Option.bind_some, count_eq, Option.bind_some]
  simp only [Option.bind_some]
  cases (decide (0 ≤ b) && decide (b ≤ 255)) with
  | false => simp
  | true =>
    cases (decide (0 ≤ g) && decide (g ≤ 255)) with
    | false => simp
    | true =>
      by_cases h8 : q.length ≤ 8
      · rw [if_pos rfl, if_pos rfl, if_neg (by omega)]
        cases o with
        | false => simp [h8]
        | true =>
          by_cases h0 : q.length = 0
          · rw [if_pos rfl, if_neg (by omega)]
            simp [h0]
          · rw [if_pos rfl, if_pos (by omega)]
            simp [h0]
      · rw [if_pos rfl, if_pos rfl, if_pos (by omega)]
        simp [h8]
theorem spec_loop (b : Int) (q : List ByteArray) (g : Int) (o : Bool) (hq : q.length ≤ 9000000000000000000) (d : Nat) : ∀ (k j : Nat), j ≤ q.length → q.length - j = d → d < k →
    spec_l9Ok.l0 k (j : Int) b q g o = some (decide (0 ≤ b) && decide (b ≤ 255) && (decide (0 ≤ g) && decide (g ≤ 255)) && decide (q.length ≤ 8) && (!o || decide (q.length = 0)) && !((q.drop j).any fun s => decide (3000 < s.size))) := by
  induction d with
  | zero =>
    intro k j hj hd hk
    obtain ⟨k, rfl⟩ : ∃ m, k = m + 1 := ⟨k - 1, by omega⟩
    obtain rfl : j = q.length := by omega
    simp only [spec_l9Ok.l0]
    rw [if_neg (by omega), in_eq, Option.bind_some, in_eq, List.drop_length]
    simp only [Option.bind_some]
    cases (decide (0 ≤ b) && decide (b ≤ 255)) with
    | false => simp
    | true =>
      cases (decide (0 ≤ g) && decide (g ≤ 255)) with
      | false => simp
      | true =>
        by_cases h8 : q.length ≤ 8
        · rw [if_pos rfl, if_pos rfl, if_pos (by omega)]
          cases o with
          | false => simp [h8]
          | true =>
            rw [if_pos rfl, Option.some.injEq, Bool.eq_iff_iff]
            simp
            omega
        · rw [if_pos rfl, if_pos rfl, if_neg (by omega)]
          simp [h8]
  | succ d ih =>
    intro k j hj hd hk
    obtain ⟨k, rfl⟩ : ∃ m, k = m + 1 := ⟨k - 1, by omega⟩
    have hlt : j < q.length := by omega
    simp only [spec_l9Ok.l0]
    rw [if_pos (by omega), if_pos (by omega), any_drop_strs _ _ _ hlt]
    by_cases hb : 3000 < (rdOf ByteArray.empty q (j : Int)).size
    · rw [if_pos (by omega), decide_eq_true hb]
      simp
    · rw [if_neg (by omega), decide_eq_false hb, show wrap64 ((j : Int) + 1) = ((j + 1 : Nat) : Int) by unfold wrap64; omega, ih k (j + 1) (by omega) (by omega) (by omega), Bool.false_or]
theorem spec_ok (b : Int) (q : List ByteArray) (g : Int) (o : Bool) (hq : q.length ≤ 9000000000000000000) (k : Nat) (hk : q.length < k) : spec_l9Ok.f k b q g o = some (okB b q g o) := by
  have := spec_loop b q g o hq q.length k 0 (by omega) (by omega) hk
  rw [List.drop_zero] at this
  exact this
theorem copied_eq (b : Int) (q : List ByteArray) (g : Int) (o : Bool) (hq : q.length ≤ 1000000) : impl_Line_copied.f b q g o = some (b, q, g, o) := by
  unfold impl_Line_copied.f slices_Clone_string_string.f slices_Clip_string_string.f
  rw [if_pos (by omega)]
  rfl
theorem line_loop (c : List Int) (hc : CodeOk c) (hl : c.length ≤ 140737488351232) (g : Int) (hg : 0 ≤ g ∧ g ≤ 255) (d : Nat) : ∀ (b p n : Int) (q : List ByteArray), n.toNat = d → 0 ≤ n → n ≤ 100 → -1 ≤ b ∧ b ≤ 256 → 0 ≤ p → p < 900000000000 - d → q.length + d ≤ 100 →
    ∃ b2 q2 g2 o2 p2, (-1 ≤ b2 ∧ b2 ≤ 256) ∧ q2.length ≤ 101 ∧ (0 ≤ g2 ∧ g2 ≤ 255) ∧ (0 ≤ p2 ∧ p2 < 900000000100) ∧ ∀ k, d < k → spec_l16Line.l0 (k + 1) n c p b q g false = some (b2, q2, g2, o2, p2) := by
  induction d with
  | zero =>
    intro b p n q hn hn0 hn1 hb hp hp1 hq
    obtain rfl : n = 0 := by omega
    obtain ⟨v, v0, v1, hv⟩ := pick_ok c hc hl p 12 hp (by omega) (by omega)
    obtain ⟨x, hx, hxe⟩ := one_ok c hc hl (p + 1) (by omega) (by omega) [(-1), 256] (by simp)
    have hxb : -1 ≤ x ∧ x ≤ 256 := by
      simp at hx
      omega
    have step : ∀ k, 0 < k → spec_l16Line.l0 (k + 1) 0 c p b q g false = if v = 0 then some (x, q, g, false, p + 1 + 1) else if v = 1 then some (b, q, g, true, p + 1) else if v = 2 then some (b, [], g, true, p + 1) else if v = 3 then some (b, q ++ [(⟨#[120]⟩ : ByteArray)], g, false, p + 1) else some (b, q, g, false, p + 1) := by
      intro k hk
      simp only [spec_l16Line.l0]
      rw [if_neg (by omega), hv k (by omega), Option.bind_some]
      simp only []
      rw [hxe k (by omega), Option.bind_some, if_pos (show q.length < 8796093022208 by omega)]
    by_cases h0 : v = 0
    · exact ⟨x, q, g, false, p + 1 + 1, hxb, by omega, hg, by omega, fun k hk => by rw [step k hk, if_pos h0]⟩
    by_cases h1 : v = 1
    · exact ⟨b, q, g, true, p + 1, hb, by omega, hg, by omega, fun k hk => by rw [step k hk, if_neg h0, if_pos h1]⟩
    by_cases h2 : v = 2
    · exact ⟨b, [], g, true, p + 1, hb, by simp, hg, by omega, fun k hk => by rw [step k hk, if_neg h0, if_neg h1, if_pos h2]⟩
    by_cases h3 : v = 3
    · exact ⟨b, q ++ [(⟨#[120]⟩ : ByteArray)], g, false, p + 1, hb, by simp; omega, hg, by omega, fun k hk => by rw [step k hk, if_neg h0, if_neg h1, if_neg h2, if_pos h3]⟩
    · exact ⟨b, q, g, false, p + 1, hb, by omega, hg, by omega, fun k hk => by rw [step k hk, if_neg h0, if_neg h1, if_neg h2, if_neg h3]⟩
  | succ d ih =>
    intro b p n q hn hn0 hn1 hb hp hp1 hq
    obtain ⟨x, hx, hxe⟩ := of_ok c hc hl p hp (by omega) [(⟨#[60, 97, 47, 62]⟩ : ByteArray), (⟨#[60, 98, 47, 62]⟩ : ByteArray), (⟨#[]⟩ : ByteArray)] (by simp)
    obtain ⟨b2, q2, g2, o2, p2, hb2, hq2, hg2, hp2, h⟩ := ih b (p + 1) (n - 1) (q ++ [x]) (by omega) (by omega) (by omega) hb (by omega) (by omega) (by simp; omega)
    refine ⟨b2, q2, g2, o2, p2, hb2, hq2, hg2, hp2, fun k hk => ?_⟩
    obtain ⟨k, rfl⟩ : ∃ m, k = m + 1 := ⟨k - 1, by omega⟩
    rw [spec_l16Line.l0]
    rw [if_pos (by omega), hxe _ (by omega), Option.bind_some]
    simp only []
    rw [if_pos (by omega), show wrap64 (n - 1) = n - 1 by unfold wrap64; omega]
    exact h k (by omega)
theorem line_ok (c : List Int) (hc : CodeOk c) (hl : c.length ≤ 140737488351232) (p : Int) (hp : 0 ≤ p) (hp1 : p < 1000000) :
    ∃ b q g o p2, (-1 ≤ b ∧ b ≤ 256) ∧ q.length ≤ 101 ∧ (0 ≤ g ∧ g ≤ 255) ∧ (0 ≤ p2 ∧ p2 < 900000000100) ∧ ∀ k, 20 < k → spec_l16Line.f k c p = some (b, q, g, o, p2) := by
  obtain ⟨b, hb, hbe⟩ := one_ok c hc hl p hp (by omega) [0, 1, 5, 250, 255] (by simp)
  obtain ⟨g, hg, hge⟩ := one_ok c hc hl (p + 1) (by omega) (by omega) [0, 7, 255] (by simp)
  obtain ⟨n, n0, n1, hne⟩ := pick_ok c hc hl (p + 1 + 1) 9 (by omega) (by omega) (by omega)
  have hb2 : -1 ≤ b ∧ b ≤ 256 := by simp at hb; omega
  have hg2 : 0 ≤ g ∧ g ≤ 255 := by simp at hg; omega
  obtain ⟨b2, q2, g2, o2, p2, h1, h2, h3, h4, h⟩ := line_loop c hc hl g hg2 n.toNat b (p + 1 + 1 + 1) n [] rfl n0 (by omega) hb2 (by omega) (by omega) (by simp; omega)
  refine ⟨b2, q2, g2, o2, p2, h1, h2, h3, h4, fun k hk => ?_⟩
  unfold spec_l16Line.f
  rw [hbe k (by omega), Option.bind_some]
  simp only []
  rw [hge k (by omega), Option.bind_some]
  simp only []
  rw [hne k (by omega), Option.bind_some]
  simp only []
  obtain ⟨k, rfl⟩ : ∃ m, k = m + 1 := ⟨k - 1, by omega⟩
  exact h k (by omega)
end Go.Proofs.Yteaeachobnmpgaa.Lines
