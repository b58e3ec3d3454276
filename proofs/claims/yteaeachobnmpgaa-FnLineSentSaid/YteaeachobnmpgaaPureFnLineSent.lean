/- Of a drawn line that is ok, all that was sent can be told to have come, and not one more: FnLineSent answers true. No condition. -/
import Derived.Test.YteaeachobnmpgaaPureDraw
import Derived.Test.YteaeachobnmpgaaPureLine
import Derived.Test.YteaeachobnmpgaaPAllxlawsFnLineSentd1e9
import Derived.Test.YteaeachobnmpgaaPAllxlawsFnLineSentd1e9
import Derived.Test.YteaeachobnmpgaaPAllxlawsFnLineSentd1e9
import Derived.Test.YteaeachobnmpgaaPAllxlawsFnLineSentd1e9
import Derived.Test.YteaeachobnmpgaaPAllxlawsFnLineSentd1e9
namespace Go.Proofs.Yteaeachobnmpgaa.Pure
open Go.RowKit Go.Proofs.Yteaeachobnmpgaa.PAll Go.Proofs.YteaeachobnmpgaaW.PrintWords Go.Proofs.YteaeachobnmpgaaW.PrintLast Go.Proofs.YteaeachobnmpgaaW.PrintMore Go.Proofs.YteaeachobnmpgaaW.XWords
open Go.Proofs.Yteaeachobnmpgaa.Draw Go.Proofs.Yteaeachobnmpgaa.Lines
theorem FnLineSent : laws_FnLineSent.Pure := by
  intro l hl hl2 hw
  by_cases hbig : (l.length : Int) > 1048576
  · exact ⟨0, by unfold laws_FnLineSent.f; rw [if_pos hbig]⟩
  obtain ⟨c, hc, hcl, ho⟩ := open_ok l (code_of hw)
  obtain ⟨b, q, g, o, p2, hb, hq, hg, hp, hd⟩ := line_ok c hc hcl 0 (by omega) (by omega)
  refine ⟨201, ?_⟩
  have hdraw : spec_DrawLineSent.f 201 l = some (b, q, g, o) := by
    unfold spec_DrawLineSent.f
    rw [ho, Option.bind_some]
    simp only []
    rw [hd 201 (by omega)]
    rfl
  unfold laws_FnLineSent.f
  rw [if_neg hbig, hdraw, Option.bind_some]
  simp only []
  have hs : ∀ k, 200 ≤ k → spec_LineSent.f k b q g o = some (if okB b q g o = true then Int.tmod (wrap64 (b + (q.length : Int))) 256 else -1) := by
    intro k hk
    unfold spec_LineSent.f
    rw [spec_ok b q g o (by omega) k (by omega), Option.bind_some]
    split <;> rfl
  have hi : impl_LineSent.f b q g o = some (if okB b q g o = true then Int.tmod (wrap64 (b + (q.length : Int))) 256 else -1) := by
    unfold impl_LineSent.f
    rw [impl_ok, Option.bind_some]
    split <;> rfl
  rw [hi, Option.bind_some, hs 201 (by omega), Option.bind_some, if_pos rfl]
  have hj : ∀ n, n = (if okB b q g o = true then Int.tmod (wrap64 (b + (q.length : Int))) 256 else -1) → laws_FnLineSent.j0 201 n true b q g o = some true := by
    intro n hn
    rw [laws_FnLineSent.j0, if_pos rfl, hs 200 (by omega), Option.bind_some, ← hn]
    simp
  by_cases hok : okB b q g o = true
  · have hokc := hok
    unfold okB at hokc
    simp at hokc
    obtain ⟨⟨⟨⟨⟨hb0, hb1⟩, hg0, hg1⟩, h8⟩, hov⟩, hsz⟩ := hokc
    rw [if_pos hok]
    have hn0 : Int.tmod (wrap64 (b + (q.length : Int))) 256 = (b + (q.length : Int)) % 256 := by
      rw [wrap_in _ (by omega) (by omega), Int.tmod_eq_emod_of_nonneg (by omega)]
    rw [hn0, if_neg (by omega)]
    cases o with
    | true => exact hj _ (by rw [if_pos hok, hn0])
    | false =>
      rw [laws_FnLineSent.j0, if_neg (by decide)]
      have hc1 : ∀ n, 0 ≤ n → n ≤ 255 → impl_count.f n = some true := fun n h0 h1 => by rw [count_eq, decide_eq_true h0, decide_eq_true h1]; rfl
      have ack : ∀ h m : Int, 0 ≤ h → h ≤ 255 → (h - b + 256) % 256 = m → impl_LineAck.f b q g false h = if (q.length : Int) < m then some (b, q, g, false, false) else some (h, q.drop m.toNat, g, false, true) := by
        intro h m h0 h1 hm
        unfold impl_LineAck.f
        rw [impl_ok, hok, Option.bind_some, if_pos rfl, hc1 h h0 h1, Option.bind_some, if_pos rfl, copied_eq b q g false (by omega), Option.bind_some]
        simp only []
        have e : Int.tmod (wrap64 (wrap64 (h - b) + 256)) 256 = m := by
          rw [wrap_in (h - b) (by omega) (by omega), wrap_in _ (by omega) (by omega), Int.tmod_eq_emod_of_nonneg (by omega), hm]
        rw [e, if_neg (by omega)]
        by_cases hlt : (q.length : Int) < m
        · rw [if_pos (.inl hlt), if_pos hlt]
        · rw [if_neg (by simp; omega), if_neg hlt]
      rw [ack ((b + (q.length : Int)) % 256) (q.length : Int) (by omega) (by omega) (by omega), if_neg (by omega), Option.bind_some]
      have hn1 : Int.tmod (wrap64 ((b + (q.length : Int)) % 256 + 1)) 256 = ((b + (q.length : Int)) % 256 + 1) % 256 := by
        rw [wrap_in _ (by omega) (by omega), Int.tmod_eq_emod_of_nonneg (by omega)]
      rw [hn1, ack (((b + (q.length : Int)) % 256 + 1) % 256) ((q.length : Int) + 1) (by omega) (by omega) (by omega), if_pos (by omega), Option.bind_some]
      simp
  · rw [if_neg hok, if_pos (by omega)]
    exact hj _ (by rw [if_neg hok])
end Go.Proofs.Yteaeachobnmpgaa.Pure
