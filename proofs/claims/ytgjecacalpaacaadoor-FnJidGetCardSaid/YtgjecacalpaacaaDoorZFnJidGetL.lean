-- laid by xprint.py and pack.py, programs of this session's; Lean checks it
import Derived.Test.YtgjecacalpaacaaDoorZFnJidGetW0
import Derived.WalkKit
import Derived.ProofKit
import Derived.OpenShut
import Derived.ShutString
import Derived.ChangeOld
import Derived.Below
import Derived.DataReads
import Derived.DataElems
import Derived.Deep.Slices
import Derived.Lib.LaidTab
import Derived.Test.YtgjecacalpaacaaDoorRows
import Derived.Lib.LaidU8
import Derived.LaidByTextLater
section
namespace Go.Proofs.YtgjecacalpaacaaDoorW.XRow
open Go.ChangeShapes Go.WideShapes Go.ChangeAt Go.RowKit Go.Deep
open Go.Proofs.YtgjecacalpaacaaDoorW.PrintWords Go.Proofs.YtgjecacalpaacaaDoorW.PrintLast
def Reads (P : Program) {α : Type} (d : Kd α) (T : TypeId) (Q : α → Prop) : Prop :=
  ∀ (H : Type) (enc : TypeId × Value → H) (w : World) (base : Nat) (spare : Nat → Bool) (held : Bool) (fuel : Nat) (cs : List Value) (x : DataW H × List MemPlace),
    DataW.trod enc P w base spare held fuel T cs = some x → ∃ v : α, d.K w v cs ∧ Q v
section
variable {P : Program}
theorem reads_int {T : TypeId} {k : IntKind} (h : P.underlying T = some (.int k)) : Reads P (Kd.int k) T (fun n => (Lit.int k n).wf = true) := by
  intro H enc w base spare held fuel cs x hx
  obtain ⟨n, rfl, _, hw⟩ := DataW.trod_int h hx
  exact ⟨n, rfl, hw⟩
theorem cells_each {w : World} {base : Nat} {a : Addr} {n : Nat} {cs : List Value} (h : w.cells? base a n = some cs) : cs.length = n ∧ ∀ i u, cs[i]? = some u → w.cell? (a.add i) = some u := by
  unfold World.cells? at h
  split at h
  · have hl : cs.length = n := by simpa using Lib.mapM_length h
    refine ⟨hl, fun i u hu => ?_⟩
    have hi : i < n := by
      have := (List.getElem?_eq_some_iff.1 hu).1
      omega
    obtain ⟨b, hb, hf⟩ := Lib.mapM_at h i i (by simp [hi])
    rw [hu] at hb
    cases hb
    exact hf
  · cases h
theorem slice_C {α : Type} [Inhabited α] {d : Kd α} {T e : TypeId} {Q : α → Prop} (hR : Reads P d e Q) (hT : P.underlying T = some (.slice e)) (hc : P.cellsOf e = d.sz)
    {H : Type} {enc : TypeId × Value → H} {w : World} {base : Nat} {spare : Nat → Bool} {held : Bool} {fuel : Nat} {A : Option Addr} {n c : Nat} {x : DataW H × List MemPlace}
    (h : DataW.trod enc P w base spare held fuel T [.slice A n c] = some x) :
    ∃ l : List α, l.length = n ∧ n ≤ c ∧ c ≤ maxLen ∧ Kd.C d w A n l ∧ ∀ v ∈ l, Q v := by
  rcases open_slice hT h with ⟨hcs, _⟩ | ⟨a, len, cap, m, _, D, Pl, hcs, hb, hl, hm, hmm, _, hx⟩
  · simp only [List.cons.injEq, Value.slice.injEq, and_true] at hcs
    obtain ⟨rfl, rfl, rfl⟩ := hcs
    exact ⟨[], rfl, Nat.le_refl _, Nat.zero_le _, ⟨rfl, by omega, fun h => absurd h (by omega)⟩, fun v hv => by cases hv⟩
  · simp only [List.cons.injEq, Value.slice.injEq, and_true] at hcs
    obtain ⟨rfl, rfl, rfl⟩ := hcs
    have hlm : n ≤ m := by rw [hmm]; split <;> omega
    have hmax : n ≤ 9223372036854775807 := by unfold maxLen at hm; omega
    obtain ⟨f, hf⟩ := choose_lt (α := α) (n := n) (p := fun i v => Q v ∧ ∃ cs', cs'.length = d.sz ∧ d.K w v cs' ∧ ∀ j u, cs'[j]? = some u → w.cell? (a.add (i * d.sz + j)) = some u) (fun i hi => by
      obtain ⟨cs', h1, h2⟩ := hx i (by omega)
      obtain ⟨v, hK, hQ⟩ := hR _ _ _ _ _ _ _ _ _ h2
      rw [hc] at h1
      obtain ⟨hlen, hcell⟩ := cells_each h1
      exact ⟨v, hQ, cs', hlen, hK, fun j u hu => by rw [← Addr.add_add]; exact hcell j u hu⟩)
    refine ⟨(List.range n).map f, by simp, hl, hm, ⟨by simp, hmax, fun hp => ⟨a, rfl, fun j p hj => ?_⟩⟩, fun v hv => ?_⟩
    · have hjn : j < n := by
        have := (List.getElem?_eq_some_iff.1 hj).1
        simpa using this
      have hp2 : f j = p := by simpa [hjn] using hj
      subst hp2
      obtain ⟨_, cs', h1, h2, h3⟩ := hf j hjn
      exact ⟨cs', h1, h2, h3⟩
    · obtain ⟨i, hi, rfl⟩ := List.mem_map.1 hv
      exact (hf i (List.mem_range.1 hi)).1
theorem slice_read {α : Type} [Inhabited α] {d : Kd α} {T e : TypeId} {Q : α → Prop} (hR : Reads P d e Q) (hT : P.underlying T = some (.slice e)) (hc : P.cellsOf e = d.sz)
    {H : Type} {enc : TypeId × Value → H} {w : World} {base : Nat} {spare : Nat → Bool} {held : Bool} {fuel : Nat} {u : Value} {x : DataW H × List MemPlace}
    (h : DataW.trod enc P w base spare held fuel T [u] = some x) :
    ∃ (A : Option Addr) (c : Nat) (l : List α), u = .slice A l.length c ∧ l.length ≤ c ∧ l.length ≤ maxLen ∧ Kd.C d w A l.length l ∧ ∀ v ∈ l, Q v := by
  rcases DataW.trod_slice hT h with ⟨hcs, _⟩ | ⟨a, len, cap, _, _, _, _, hcs, _⟩
  · obtain rfl : u = .slice none 0 0 := by simpa using hcs
    obtain ⟨l, hl0, h1, h2, h3, h4⟩ := slice_C hR hT hc h
    obtain rfl : l = [] := List.length_eq_zero_iff.1 hl0
    exact ⟨_, _, [], rfl, h1, Nat.zero_le _, h3, h4⟩
  · obtain rfl : u = .slice (some a) len cap := by simpa using hcs
    obtain ⟨l, rfl, h1, h2, h3, h4⟩ := slice_C hR hT hc h
    exact ⟨_, _, l, rfl, h1, Nat.le_trans h1 h2, h3, h4⟩
end
end Go.Proofs.YtgjecacalpaacaaDoorW.XRow
end
section
namespace Go.Proofs.YtgjecacalpaacaaDoorW.XWords
open Go.Shelf Go.RowKit
theorem u8x : U8Extra Tryd.prog Tryd.lays260_ren := {
  n3 := by kernel_rfl
  n4 := by kernel_rfl
  y3 := by kernel_rfl
  y4 := by kernel_rfl
  c5 := by kernel_rfl
  c119 := by kernel_rfl
  c138 := by kernel_rfl }
theorem firstD : Go.Pinned.utf8First = Lib.firstData := by kernel_rfl
theorem acceptD : (Go.Proofs.YtgjecacalpaacaaDoor.Rows.laid_unicode_utf8_acceptRanges : DataW Unit) = Lib.acceptData := by kernel_rfl
theorem Tabs_of_laid {W : World} (h : laidMetH Tryd.prog Go.Proofs.YtgjecacalpaacaaDoor.Rows.fnExactTextOkRow.laid W) : Tabs W := by
  have h' : laidMet Tryd.prog Go.Proofs.YtgjecacalpaacaaDoor.Rows.fnExactTextOkRow.laid W := by
    rw [← MakeChecks.laidMetH_plain _ _ _ (by kernel_rfl)]
    exact h
  refine utf8Tabs_of_reads Tryd.lays260 u8x ?_ ?_
  · rw [← firstD]
    exact Lib.laidMet.reads h' (List.mem_cons_of_mem _ (List.mem_cons_self ..))
  · rw [← acceptD]
    exact Lib.laidMet.reads h' (List.mem_cons_self ..)
def laidIn (cs : List Value) : Obj → Obj
  | .cells _ t frozen => .cells cs.toArray t frozen
  | o => o
def firstCells : List Value := Lib.firstTab.map fun z => Value.int .u8 z
def acceptCells : List Value := (List.range 16).flatMap fun i => [Value.int .u8 (Lib.accLo i), Value.int .u8 (Lib.accHi i)]
noncomputable def laidWorld (os : Os) : World :=
  { World.holding Tryd.prog os ⟨#[], #[], []⟩ with heap := ((World.holding Tryd.prog os ⟨#[], #[], []⟩).heap.modify (Tryd.lays260_ren.g 3) (laidIn firstCells)).modify (Tryd.lays260_ren.g 4) (laidIn acceptCells) }
end Go.Proofs.YtgjecacalpaacaaDoorW.XWords
end
