/- Words of this session's own, beside the print's: what a walk told by hand asks of its loops. -/
import Derived.Test.YteaeachobnmpgaaWWords
import Derived.Test.YteaeachobnmpgaaWMore
namespace Go.Proofs.YteaeachobnmpgaaW.XWords
open Go.RowKit Go.Proofs.YteaeachobnmpgaaW.PrintWords Go.Proofs.YteaeachobnmpgaaW.PrintLast Go.Proofs.YteaeachobnmpgaaW.PrintMore
theorem bytes_cell {W : World} {B n : Nat} {s : ByteArray} (h : ReadsInt W .u8 (some ⟨B, 0, none⟩) n (bytesOf s)) (j : Nat) (hj : j < n) : W.cell? ⟨B, j, none⟩ = some (.int .u8 (bt s (j : Int))) := by
  obtain ⟨ad, e, hc⟩ := h.2.2 (by omega)
  cases e
  have := hc j hj
  rw [add_plain] at this
  rw [this, ← rd_bytesOf]
  rfl
theorem all_drop_bytes (p : Int → Bool) (s : ByteArray) (j : Nat) (hj : j < s.size) : ((bytesOf s).drop j).all p = (p (bt s (j : Int)) && ((bytesOf s).drop (j + 1)).all p) := by
  have hl : j < (bytesOf s).length := by rw [bytesOf_length]; exact hj
  rw [List.drop_eq_getElem_cons hl, List.all_cons, ← rd_bytesOf]
  unfold rd
  simp [List.getD_eq_getElem?_getD, List.getElem?_eq_getElem hl]
theorem any_drop_strs (p : ByteArray → Bool) (l : List ByteArray) (j : Nat) (hj : j < l.length) : (l.drop j).any p = (p (rdOf ByteArray.empty l (j : Int)) || (l.drop (j + 1)).any p) := by
  rw [List.drop_eq_getElem_cons hj, List.any_cons]
  unfold rdOf
  simp [List.getD_eq_getElem?_getD, List.getElem?_eq_getElem hj]
/-- A cell stays a cell: beside the kit's law on a store's own cell, so that a second store into one cell is read. -/
theorem isSome_setCell (w : World) (a b : Addr) (v : Value) : ((w.setCell a v).cell? b).isSome = (w.cell? b).isSome := by
  by_cases h : a = b
  · subst h
    cases hc : w.cell? a with
    | some u => rw [World.cell?_setCell_same (h := hc)]; rfl
    | none =>
      unfold World.cell? at hc ⊢
      simp only [World.setCell, Array.getElem?_modify, if_true]
      cases hb : w.heap[a.block]? with
      | none => simp
      | some o =>
        cases o <;> simp_all
  · rw [World.cell?_setCell_other (h := h)]
end Go.Proofs.YteaeachobnmpgaaW.XWords
