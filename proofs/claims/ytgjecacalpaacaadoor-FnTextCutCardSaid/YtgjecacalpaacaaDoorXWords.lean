/- Words of this session's own, beside the print's: what a walk told by hand asks of its loops. -/
import Derived.Test.YtgjecacalpaacaaDoorWWords
import Derived.Test.YtgjecacalpaacaaDoorWMore
namespace Go.Proofs.YtgjecacalpaacaaDoorW.XWords
open Go.RowKit Go.Proofs.YtgjecacalpaacaaDoorW.PrintWords Go.Proofs.YtgjecacalpaacaaDoorW.PrintLast Go.Proofs.YtgjecacalpaacaaDoorW.PrintMore
theorem bytes_cell {W : World} {B n : Nat} {s : ByteArray} (h : ReadsInt W .u8 (some ⟨B, 0, none⟩) n (bytesOf s)) (j : Nat) (hj : j < n) : W.cell? ⟨B, j, none⟩ = some (.int .u8 (bt s (j : Int))) := by
  obtain ⟨ad, e, hc⟩ := h.2.2 (by omega)
  cases e
  have := hc j hj
  rw [add_plain] at this
  rw [this, ← rd_bytesOf]
  rfl
theorem all_drop_bytes (p : Int → Bool) (s : ByteArray) (j : Nat) (hj : j < s.size) : ((bytesOf s).drop j).all p = (p (bt s (j : Int)) && ((bytesOf s).drop (j + 1)).all p) := by
  have hl : j < (bytesOf s).length := by rw [bytesOf_length]; exact hj
  rw [List.drop_eq_getElem_cons hl, List.all_cons, ← rd_bytesOf]
  unfold rd
  simp [List.getD_eq_getElem?_getD, List.getElem?_eq_getElem hl]
theorem any_drop_strs (p : ByteArray → Bool) (l : List ByteArray) (j : Nat) (hj : j < l.length) : (l.drop j).any p = (p (rdOf ByteArray.empty l (j : Int)) || (l.drop (j + 1)).any p) := by
  rw [List.drop_eq_getElem_cons hj, List.any_cons]
  unfold rdOf
  simp [List.getD_eq_getElem?_getD, List.getElem?_eq_getElem hj]
/-- A cell stays a cell: beside the kit's law on a store's own cell, so that a second store into one cell is read. -/
theorem isSome_setCell (w : World) (a b : Addr) (v : Value) : ((w.setCell a v).cell? b).isSome = (w.cell? b).isSome := by
  by_cases h : a = b
  · subst h
    cases hc : w.cell? a with
    | some u => rw [World.cell?_setCell_same (h := hc)]; rfl
    | none =>
      unfold World.cell? at hc ⊢
      simp only [World.setCell, Array.getElem?_modify, if_true]
      cases hb : w.heap[a.block]? with
      | none => simp
      | some o =>
        cases o <;> simp_all
  · rw [World.cell?_setCell_other (h := h)]
/-- Where the first element stands of which p holds, from a number on; -1, if there is none. -/
def idxF {α : Type} (p : α → Bool) : List α → Int → Int
  | [], _ => -1
  | x :: t, i => if p x = true then i else idxF p t (i + 1)
theorem idx_drop {α : Type} (p : α → Bool) (z : α) (l : List α) (j : Nat) (hj : j < l.length) : idxF p (l.drop j) (j : Int) = if p (l.getD j z) = true then (j : Int) else idxF p (l.drop (j + 1)) ((j + 1 : Nat) : Int) := by
  rw [List.drop_eq_getElem_cons hj]
  simp only [idxF, List.getD_eq_getElem?_getD, List.getElem?_eq_getElem hj, Option.getD_some]
  rfl
/-- A row of one's own whose capacity is cut to its length: Q (its block may be longer). -/
theorem Q_clip {α : Type} {d : Kd α} {e base n c : Nat} {ok : Nat → Prop} {w : World} {A : Option Addr} {xs : List α} (h : d.R e w base ok (.slice A n c) xs) : d.Q e w base ok (.slice A n n) xs := by
  have hv : (Value.slice A n n).ownBlock = (Value.slice A n c).ownBlock := by cases A <;> rfl
  obtain ⟨h0, inner, ho, hr⟩ := h
  refine ⟨by rw [hv]; exact h0, inner, ⟨ho.1, ?_⟩, by rw [hv]; exact hr⟩
  rcases ho.2 with ⟨he, hz⟩ | ⟨g, cap, cur, he, hb, hh, hnc, hcm, hcs, ht⟩
  · injection he with ha hn _
    subst ha; subst hn
    exact .inl ⟨hz, none, rfl, fun a ha => by cases ha⟩
  · injection he with ha hn hc
    subst ha; subst hc; subst hn
    exact .inr ⟨g, 0, xs.length, cur, by rw [Nat.zero_mul], hb, hh, Nat.le_refl _, by omega, by rw [Nat.zero_add, hcs]; exact Nat.mul_le_mul_right _ hnc, by rw [Nat.zero_mul, List.drop_zero]; exact ht⟩
theorem Q_tight2 {α : Type} {d : Kd α} {e base : Nat} {ok : Nat → Prop} {w : World} {v : Value} {xs : List α} (hE : d.E = []) (h : d.Q e w base ok v xs) : d.Q e w base (fun k => some k = v.ownBlock ∧ ok k) v xs := Kd.Q_mono (Kd.Q_tight hE h) (fun k hk => ⟨hk, h.1 k hk.symm⟩)
theorem Q_reok {α : Type} {d : Kd α} {e base : Nat} {ok ok1 : Nat → Prop} {w : World} {v : Value} {xs : List α} (hE : d.E = []) (h : d.Q e w base ok1 v xs) (hok : ∀ k, v.ownBlock = some k → ok k) : d.Q e w base ok v xs := Kd.Q_mono (Kd.Q_tight hE h) (fun k hk => hok k hk.symm)
end Go.Proofs.YtgjecacalpaacaaDoorW.XWords
