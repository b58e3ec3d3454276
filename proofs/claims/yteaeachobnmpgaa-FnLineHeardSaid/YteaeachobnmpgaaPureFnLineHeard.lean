/- Of a drawn line that is ok, what came is counted round and round: FnLineHeard answers true. No condition. -/
import Derived.Test.YteaeachobnmpgaaPureDraw
import Derived.Test.YteaeachobnmpgaaPureLine
import Derived.Test.YteaeachobnmpgaaPAllxlawsFnLineHeard9e71
import Derived.Test.YteaeachobnmpgaaPAllxlawsFnLineHeard9e71
import Derived.Test.YteaeachobnmpgaaPAllxlawsFnLineHeard9e71
import Derived.Test.YteaeachobnmpgaaPAllxlawsFnLineHeard9e71
import Derived.Test.YteaeachobnmpgaaPAllxlawsFnLineHeard9e71
import Derived.Test.YteaeachobnmpgaaPAllxlawsFnLineHeard9e71
import Derived.Test.YteaeachobnmpgaaPAllxlawsFnLineHeard9e71
import Derived.Test.YteaeachobnmpgaaPAllxlawsFnLineHeard9e71
namespace Go.Proofs.Yteaeachobnmpgaa.Pure
open Go.RowKit Go.Proofs.Yteaeachobnmpgaa.PAll Go.Proofs.YteaeachobnmpgaaW.PrintWords Go.Proofs.YteaeachobnmpgaaW.PrintLast Go.Proofs.YteaeachobnmpgaaW.PrintMore Go.Proofs.YteaeachobnmpgaaW.XWords
open Go.Proofs.Yteaeachobnmpgaa.Draw Go.Proofs.Yteaeachobnmpgaa.Lines
theorem texts_loop (q : List ByteArray) (hq : q.length ≤ 1000000) (d : Nat) : ∀ (k j : Nat), j ≤ q.length → q.length - j = d → d < k → laws_hbTexts.l0 k q q (j : Int) = some true := by
  induction d with
  | zero =>
    intro k j hj hd hk
    obtain ⟨k, rfl⟩ : ∃ m, k = m + 1 := ⟨k - 1, by omega⟩
    simp only [laws_hbTexts.l0]
    rw [if_neg (by omega)]
  | succ d ih =>
    intro k j hj hd hk
    obtain ⟨k, rfl⟩ : ∃ m, k = m + 1 := ⟨k - 1, by omega⟩
    simp only [laws_hbTexts.l0]
    rw [if_pos (by omega), if_pos (by omega), if_pos (by omega), if_pos trivial, show wrap64 ((j : Int) + 1) = ((j + 1 : Nat) : Int) by unfold wrap64; omega]
    exact ih k (j + 1) (by omega) (by omega) (by omega)
theorem texts_same (q : List ByteArray) (hq : q.length ≤ 1000000) (k : Nat) (hk : q.length < k) : laws_hbTexts.f k q q = some true := by
  unfold laws_hbTexts.f
  rw [if_pos rfl]
  exact texts_loop q hq q.length k 0 (by omega) (by omega) hk
theorem line_same (b : Int) (q : List ByteArray) (g : Int) (o : Bool) (hq : q.length ≤ 1000000) (k : Nat) (hk : q.length < k) : laws_hbLine.f k b q g o b q g o = some true := by
  unfold laws_hbLine.f
  rw [if_pos rfl, texts_same q hq k hk, Option.bind_some, if_pos rfl, if_pos rfl]
  simp
def heardR (b : Int) (q : List ByteArray) (g : Int) (o : Bool) : Int × List ByteArray × Int × Bool := if okB b q g o = true then (b, q, (g + 1) % 256, o) else (0, [], 0, false)
theorem impl_heard (b : Int) (q : List ByteArray) (g : Int) (o : Bool) (hq : q.length ≤ 1000000) : impl_LineHeard.f b q g o = some (heardR b q g o) := by
  unfold impl_LineHeard.f heardR
  rw [impl_ok, Option.bind_some]
  by_cases h : okB b q g o = true
  · have hc := h
    unfold okB at hc
    simp at hc
    rw [if_pos h, if_pos h, copied_eq b q g o hq, Option.bind_some]
    simp only []
    rw [wrap_in _ (by omega) (by omega), Int.tmod_eq_emod_of_nonneg (by omega)]
  · rw [if_neg h, if_neg h]
theorem spec_heard (b : Int) (q : List ByteArray) (g : Int) (o : Bool) (hq : q.length ≤ 1000000) (k : Nat) (hk : q.length < k) : spec_LineHeard.f k b q g o = some (heardR b q g o) := by
  unfold spec_LineHeard.f heardR spec_l9Heard.f spec_l9Copy.f
  rw [spec_ok b q g o (by omega) k hk, Option.bind_some]
  by_cases h : okB b q g o = true
  · have hc := h
    unfold okB at hc
    simp at hc
    rw [if_pos h, if_pos h, Option.bind_some, if_pos (by simp; omega), Option.bind_some]
    simp only [List.nil_append, Option.bind_some]
    rw [wrap_in _ (by omega) (by omega), Int.tmod_eq_emod_of_nonneg (by omega)]
  · rw [if_neg h, if_neg h]
theorem round_loop (b : Int) (q : List ByteArray) (g g1 : Int) (o : Bool) (hq : q.length ≤ 1000) (hok : okB b q g o = true) (hg1 : g1 = (g + 1) % 256) (d : Nat) : ∀ (k : Nat) (i x : Int), 256 - i = d → 1 ≤ i → i ≤ 256 → x = (g + i) % 256 → q.length + d + 2 < k →
    laws_FnLineHeard.l0 k i b q g o b q g1 o b q x o = some true := by
  have hc := hok
  unfold okB at hc
  simp at hc
  induction d with
  | zero =>
    intro k i x hd h1 h2 hx hk
    obtain ⟨k, rfl⟩ : ∃ m, k = m + 1 := ⟨k - 1, by omega⟩
    rw [laws_FnLineHeard.l0]
    obtain rfl : i = 256 := by omega
    obtain rfl : x = g := by omega
    rw [if_neg (by omega), if_pos (by rw [wrap_in _ (by omega) (by omega), Int.tmod_eq_emod_of_nonneg (by omega)]; exact hg1), line_same b q x o (by omega) k (by omega)]
    rfl
  | succ d ih =>
    intro k i x hd h1 h2 hx hk
    obtain ⟨k, rfl⟩ : ∃ m, k = m + 1 := ⟨k - 1, by omega⟩
    have hokx : okB b q x o = true := by
      unfold okB
      simp
      refine ⟨⟨⟨⟨hc.1.1.1.1, by omega, by omega⟩, hc.1.1.2⟩, hc.1.2⟩, hc.2⟩
    rw [laws_FnLineHeard.l0, if_pos (by omega), impl_heard b q x o (by omega), Option.bind_some]
    unfold heardR
    rw [if_pos hokx]
    simp only []
    rw [show wrap64 (i + 1) = i + 1 by unfold wrap64; omega]
    exact ih k (i + 1) ((x + 1) % 256) (by omega) (by omega) (by omega) (by omega) (by omega)
theorem FnLineHeard : laws_FnLineHeard.Pure := by
  intro l hl hl2 hw
  by_cases hbig : (l.length : Int) > 1048576
  · exact ⟨0, by unfold laws_FnLineHeard.f; rw [if_pos hbig]⟩
  obtain ⟨c, hc, hcl, ho⟩ := open_ok l (code_of hw)
  obtain ⟨b, q, g, o, p2, hb, hq, hg, hp, hd⟩ := line_ok c hc hcl 0 (by omega) (by omega)
  refine ⟨1001, ?_⟩
  have hdraw : spec_DrawLineHeard.f 1001 l = some (b, q, g, o) := by
    unfold spec_DrawLineHeard.f
    rw [ho, Option.bind_some]
    simp only []
    rw [hd 1001 (by omega)]
    rfl
  unfold laws_FnLineHeard.f
  rw [if_neg hbig, hdraw, Option.bind_some]
  simp only []
  rw [impl_heard b q g o (by omega), Option.bind_some, spec_heard b q g o (by omega) 1001 (by omega), Option.bind_some]
  have hlen : (heardR b q g o).2.1.length ≤ 101 := by
    unfold heardR
    split
    · exact hq
    · simp
  rw [line_same _ _ _ _ (by omega) 1001 (by omega), Option.bind_some, if_pos rfl, impl_ok, Option.bind_some, laws_FnLineHeard.j0]
  by_cases hok : okB b q g o = true
  · rw [hok, if_neg (by decide)]
    unfold heardR
    rw [if_pos hok]
    simp only []
    exact round_loop b q g _ o (by omega) hok rfl 255 1000 1 _ (by omega) (by omega) (by omega) rfl (by omega)
  · rw [Bool.eq_false_iff.mpr hok, if_pos (show (!false) = true by decide), spec_heard b q g o (by omega) 1000 (by omega), Option.bind_some, line_same _ _ _ _ (by omega) 1000 (by omega)]
    rfl
end Go.Proofs.Yteaeachobnmpgaa.Pure
