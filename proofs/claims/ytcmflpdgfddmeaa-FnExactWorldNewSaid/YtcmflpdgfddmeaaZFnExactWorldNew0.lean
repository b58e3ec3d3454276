/- FnExactWorldNew: own words and contracts that the law's proof uses, part 0. No condition of its own. -/
import Derived.Below
import Derived.Orders
import Derived.Laws.Rows
import Derived.Laws.CopyRow
import Derived.Laws.Append
import Derived.Laws.IdiomCopy
import Derived.Laws.StructEq
import Derived.KernelRfl
import Derived.Tactics2
set_option linter.unusedSimpArgs false
set_option linter.unusedVariables false
namespace Go.Proofs.YtcmflpdgfddmeaaW.XM
open Go.RowKit
inductive Ob where
  | row (t : TypeId) (cs : List Value)
  | iter (s : ByteArray) (pos : Nat)
abbrev Hp := List (Option Ob)
def Ob.tag : Ob → Nat
  | .row _ cs => cs.length
  | .iter _ _ => 0
structure Mp where
  m : Nat → Nat
  K : Nat → Nat
  T : Nat → TypeId
/-- No address of the call's own in it. -/
def plain : Value → Bool
  | .pointer (some ⟨_, _, some _⟩) | .slice (some ⟨_, _, some _⟩) _ _ => false
  | .func _ _ _ | .iface _ _ | .agg _ | .tuple _ => false
  | _ => true
inductive VR (P : Program) (H : Hp) (μ : Mp) : Value → Value → Prop
  | same {v : Value} : plain v = true → VR P H μ v v
  | ptr {i o tag : Nat} {a : Addr} : i < H.length → (∀ ob, H[i]? = some (some ob) → tag ≤ ob.tag ∧ (tag = ob.tag → a = ⟨μ.m i, o, none⟩)) → VR P H μ (.pointer (some ⟨i, o, some tag⟩)) (.pointer (some a))
  | sl {i o tag n c c' : Nat} {a : Addr} : i < H.length → (∀ ob, H[i]? = some (some ob) → tag ≤ ob.tag ∧ (tag = ob.tag → a = ⟨μ.m i, o, none⟩ ∧ c ≤ c' ∧ o + c' * P.cellsOf (μ.T i) ≤ μ.K i)) → VR P H μ (.slice (some ⟨i, o, some tag⟩) n c) (.slice (some a) n c')
  | fn {f : FuncId} {fi ca fi' ca' : Array Value} : fi.size = fi'.size → ca.size = ca'.size → (∀ (j : Nat) (v v' : Value), fi[j]? = some v → fi'[j]? = some v' → VR P H μ v v') → (∀ (j : Nat) (v v' : Value), ca[j]? = some v → ca'[j]? = some v' → VR P H μ v v') → VR P H μ (.func (.func f) fi ca) (.func (.func f) fi' ca')
  | ex {a b : Addr} {n c : Nat} : VR P H μ (.slice (some a) n c) (.slice (some b) n c) → VR P H μ (.func (.method "") #[.slice (some a) n c] #[]) (.slice (some b) n c)
  | iface {t : TypeId} {v v' : Value} : VR P H μ v v' → VR P H μ (.iface t v) (.iface t v')
  | agg {cs cs' : Array Value} : cs.size = cs'.size → (∀ (j : Nat) (v v' : Value), cs[j]? = some v → cs'[j]? = some v' → VR P H μ v v') → VR P H μ (.agg cs) (.agg cs')
  | tuple {cs cs' : Array Value} : cs.size = cs'.size → (∀ (j : Nat) (v v' : Value), cs[j]? = some v → cs'[j]? = some v' → VR P H μ v v') → VR P H μ (.tuple cs) (.tuple cs')
/-- A slice whose capacity is known: beside it, one whose capacity may be more. -/
def xs (v : Value) : Value := .func (.method "") #[v] #[]
def unx : Value → Value
  | .func (.method _) fi _ => fi.getD 0 Go.undef
  | v => v
/-- Rows of values, one beside the other. -/
def AR (P : Program) (H : Hp) (μ : Mp) (A B : Array Value) : Prop := A.size = B.size ∧ ∀ (j : Nat) (v v' : Value), A[j]? = some v → B[j]? = some v' → VR P H μ v v'
structure Rel (P : Program) (w0 : World) (H : Hp) (μ : Mp) (w : World) : Prop where
  below : Below w0.heap.size w0 w
  row : ∀ (i : Nat) (t : TypeId) (cs : List Value), H[i]? = some (some (.row t cs)) → w0.heap.size ≤ μ.m i ∧ μ.T i = t ∧ cs.length ≤ μ.K i ∧ ∃ cs' fz, w.heap[μ.m i]? = some (.cells cs' t fz) ∧ (∀ j, j < μ.K i → ¬ (fz.1 ≤ j ∧ j < fz.2)) ∧ cs'.size = μ.K i ∧ ∀ (j : Nat) (v : Value), cs[j]? = some v → v.oneCell' = true ∧ ∃ v', cs'[j]? = some v' ∧ VR P H μ v v'
  iter : ∀ (i : Nat) (s : ByteArray) (p : Nat), H[i]? = some (some (.iter s p)) → w0.heap.size ≤ μ.m i ∧ w.heap[μ.m i]? = some (.stringIter s p)
  inj : ∀ (i j : Nat) (o o' : Ob), H[i]? = some (some o) → H[j]? = some (some o') → μ.m i = μ.m j → i = j
structure Ext (H : Hp) (μ : Mp) (H2 : Hp) (μ2 : Mp) : Prop where
  len : H.length ≤ H2.length
  dead : ∀ i : Nat, i < H.length → H[i]? = some none → ∀ o, H2[i]? ≠ some (some o)
  live : ∀ (i : Nat) (o o2 : Ob), i < H.length → H[i]? = some (some o) → H2[i]? = some (some o2) → o.tag ≤ o2.tag ∧ (o.tag = o2.tag → μ2.m i = μ.m i ∧ μ2.K i = μ.K i ∧ μ2.T i = μ.T i)
theorem Ext.refl (H : Hp) (μ : Mp) : Ext H μ H μ := ⟨Nat.le_refl _, fun i _ h o h2 => (by rw [h] at h2; cases h2), fun i o o2 _ h h2 => by rw [h] at h2; cases h2; exact ⟨Nat.le_refl _, fun _ => ⟨rfl, rfl, rfl⟩⟩⟩
/-- What is there at a place further on was there, or its place is new. -/
theorem Ext.back {H H2 : Hp} {μ μ2 : Mp} (h : Ext H μ H2 μ2) {i : Nat} {o2 : Ob} (hi : i < H.length) (h2 : H2[i]? = some (some o2)) : ∃ o, H[i]? = some (some o) := by
  cases hx : H[i]? with
  | none => rw [List.getElem?_eq_none_iff] at hx; omega
  | some x =>
    cases x with
    | none => exact absurd h2 (h.dead i hi hx o2)
    | some o => exact ⟨o, rfl⟩
theorem Ext.trans {H H2 H3 : Hp} {μ μ2 μ3 : Mp} (h : Ext H μ H2 μ2) (k : Ext H2 μ2 H3 μ3) : Ext H μ H3 μ3 := by
  refine ⟨Nat.le_trans h.len k.len, fun i hi hd o h3 => ?_, fun i o o3 hi h1 h3 => ?_⟩
  · obtain ⟨o2, h2⟩ := k.back (Nat.lt_of_lt_of_le hi h.len) h3
    exact h.dead i hi hd o2 h2
  · obtain ⟨o2, h2⟩ := k.back (Nat.lt_of_lt_of_le hi h.len) h3
    obtain ⟨a1, a2⟩ := h.live i o o2 hi h1 h2
    obtain ⟨b1, b2⟩ := k.live i o2 o3 (Nat.lt_of_lt_of_le hi h.len) h2 h3
    refine ⟨Nat.le_trans a1 b1, fun e => ?_⟩
    obtain ⟨p1, p2, p3⟩ := a2 (by omega)
    obtain ⟨q1, q2, q3⟩ := b2 (by omega)
    exact ⟨q1.trans p1, q2.trans p2, q3.trans p3⟩
theorem VR.mono {P : Program} {H H2 : Hp} {μ μ2 : Mp} (h : Ext H μ H2 μ2) {v v' : Value} (hv : VR P H μ v v') : VR P H2 μ2 v v' := by
  induction hv with
  | same hp => exact .same hp
  | @ptr i o tag a hi hx =>
    refine .ptr (Nat.lt_of_lt_of_le hi h.len) fun ob hb => ?_
    obtain ⟨o1, h1⟩ := h.back hi hb
    obtain ⟨a1, a2⟩ := h.live i o1 ob hi h1 hb
    obtain ⟨b1, b2⟩ := hx o1 h1
    refine ⟨by omega, fun e => ?_⟩
    rw [(a2 (by omega)).1]
    exact b2 (by omega)
  | @sl i o tag n c c' a hi hx =>
    refine .sl (Nat.lt_of_lt_of_le hi h.len) fun ob hb => ?_
    obtain ⟨o1, h1⟩ := h.back hi hb
    obtain ⟨a1, a2⟩ := h.live i o1 ob hi h1 hb
    obtain ⟨b1, b2⟩ := hx o1 h1
    refine ⟨by omega, fun e => ?_⟩
    obtain ⟨p1, p2, p3⟩ := a2 (by omega)
    rw [p1, p2, p3]
    exact b2 (by omega)
  | fn h1 h2 _ _ i1 i2 => exact .fn h1 h2 i1 i2
  | ex _ ih => exact .ex ih
  | iface _ ih => exact .iface ih
  | agg h1 _ ih => exact .agg h1 ih
  | tuple h1 _ ih => exact .tuple h1 ih
theorem AR.mono {P : Program} {H H2 : Hp} {μ μ2 : Mp} (h : Ext H μ H2 μ2) {A B : Array Value} (ha : AR P H μ A B) : AR P H2 μ2 A B := ⟨ha.1, fun j v v' h1 h2 => (ha.2 j v v' h1 h2).mono h⟩
section
variable {P : Program} {w0 : World} {H : Hp} {μ : Mp} {w : World}
theorem VR.undef : VR P H μ undef undef := .tuple rfl (fun j v v' h => by simp at h)
theorem VR.unx {v v' : Value} (h : VR P H μ v v') : VR P H μ (unx v) v' := by
  cases h with
  | same hp =>
    cases v with
    | func f a b => simp [plain] at hp
    | _ => exact .same hp
  | ptr a b => exact .ptr a b
  | sl a b => exact .sl a b
  | fn a b c d => exact .fn a b c d
  | ex a => exact a
  | iface a => exact .iface a
  | agg a b => exact .agg a b
  | tuple a b => exact .tuple a b
theorem AR.getD {A B : Array Value} (h : AR P H μ A B) (t : Nat) : VR P H μ (A.getD t Go.undef) (B.getD t Go.undef) := by
  by_cases ht : t < A.size
  · have ht' : t < B.size := by rw [← h.1]; exact ht
    have e1 : A.getD t Go.undef = A[t] := by simp [Array.getD, ht]
    have e2 : B.getD t Go.undef = B[t] := by simp [Array.getD, ht']
    rw [e1, e2]
    exact h.2 t _ _ (Array.getElem?_eq_getElem ht) (Array.getElem?_eq_getElem ht')
  · have ht' : ¬ t < B.size := by rw [← h.1]; exact ht
    have e1 : A.getD t Go.undef = Go.undef := by simp [Array.getD, ht]
    have e2 : B.getD t Go.undef = Go.undef := by simp [Array.getD, ht']
    rw [e1, e2]
    exact .undef
theorem AR.set {A B : Array Value} (h : AR P H μ A B) (d : Nat) {v v' : Value} (hv : VR P H μ v v') : AR P H μ (A.setIfInBounds d v) (B.setIfInBounds d v') := by
  refine ⟨by simp [h.1], fun j u u' h1 h2 => ?_⟩
  rw [Array.getElem?_setIfInBounds] at h1 h2
  by_cases hd : d = j
  · subst hd
    rw [if_pos rfl] at h1 h2
    split at h1
    · split at h2
      · cases h1; cases h2; exact hv
      · cases h2
    · cases h1
  · rw [if_neg hd] at h1 h2
    exact h.2 j u u' h1 h2
theorem VR.oneCell {v v' : Value} (h : VR P H μ v v') : v'.oneCell' = v.oneCell' := by cases h <;> rfl
theorem VR.cells {v v' : Value} (h : VR P H μ v v') : AR P H μ v.cells v'.cells := by
  have one : ∀ {x x' : Value}, VR P H μ x x' → AR P H μ #[x] #[x'] := fun hx => ⟨rfl, fun j u u' h1 h2 => by
    cases j with
    | zero => simp at h1 h2; subst h1; subst h2; exact hx
    | succ j => simp at h1⟩
  cases h with
  | @same _ hp =>
    cases v <;> first
      | exact one (.same hp)
      | (simp [plain] at hp)
  | ptr a b => exact one (.ptr a b)
  | sl a b => exact one (.sl a b)
  | fn a b c d => exact one (.fn a b c d)
  | ex a => exact one (.ex a)
  | iface a => exact one (.iface a)
  | agg a b => exact ⟨a, b⟩
  | tuple a b => exact one (.tuple a b)
/-- What a place in memory that was there holds, with no address of the call's own. -/
theorem AR.list {l : List Value} (h : ∀ v ∈ l, plain v = true) : AR P H μ l.toArray l.toArray := ⟨rfl, fun j v v' h1 h2 => by rw [h1] at h2; cases h2; exact .same (h v (by simpa using List.mem_of_getElem? (by simpa using h1)))⟩
end
end Go.Proofs.YtcmflpdgfddmeaaW.XM

namespace Go.Proofs.YtcmflpdgfddmeaaW.XM
open Go.RowKit
def Mp.upd (μ : Mp) (i m K : Nat) (T : TypeId) : Mp := ⟨fun j => if j = i then m else μ.m j, fun j => if j = i then K else μ.K j, fun j => if j = i then T else μ.T j⟩
theorem Mp.upd_ne (μ : Mp) {i j m K : Nat} {T : TypeId} (h : j ≠ i) : (μ.upd i m K T).m j = μ.m j ∧ (μ.upd i m K T).K j = μ.K j ∧ (μ.upd i m K T).T j = μ.T j := by simp [Mp.upd, h]
theorem Mp.upd_eq (μ : Mp) (i m K : Nat) (T : TypeId) : (μ.upd i m K T).m i = m ∧ (μ.upd i m K T).K i = K ∧ (μ.upd i m K T).T i = T := by simp [Mp.upd]
section
variable {P : Program} {w0 : World} {H : Hp} {μ : Mp} {w : World}
theorem Rel.lt (h : Rel P w0 H μ w) {i : Nat} {o : Ob} (hi : H[i]? = some (some o)) : μ.m i < w.heap.size := by
  cases o with
  | row t cs =>
    obtain ⟨_, _, _, cs', fz, hb, _⟩ := h.row i t cs hi
    exact (Array.getElem?_eq_some_iff.1 hb).1
  | iter s p => exact (Array.getElem?_eq_some_iff.1 (h.iter i s p hi).2).1
theorem get_push (H : Hp) (x : Option Ob) (i : Nat) : (H ++ [x])[i]? = if i = H.length then some x else H[i]? := by
  rw [List.getElem?_append]
  by_cases h : i < H.length
  · rw [if_pos h, if_neg (by omega)]
  · rw [if_neg h]
    by_cases h2 : i = H.length
    · subst h2; simp
    · rw [if_neg h2, List.getElem?_eq_none (by simp; omega), List.getElem?_eq_none (by omega)]
theorem Ext.push (H : Hp) (μ : Mp) (x : Option Ob) (m K : Nat) (T : TypeId) : Ext H μ (H ++ [x]) (μ.upd H.length m K T) := by
  refine ⟨by simp, fun i hi hd o h => ?_, fun i o o2 hi h1 h2 => ?_⟩
  · rw [get_push, if_neg (by omega), hd] at h; cases h
  · rw [get_push, if_neg (by omega), h1] at h2
    cases h2
    exact ⟨Nat.le_refl _, fun _ => Mp.upd_ne μ (by omega)⟩
/-- A new object. -/
theorem Rel.alloc (h : Rel P w0 H μ w) (t : TypeId) (cs : List Value) (cs' : Array Value) (hl : cs.length ≤ cs'.size)
    (hv : ∀ (j : Nat) (v : Value), cs[j]? = some v → v.oneCell' = true ∧ ∃ v', cs'[j]? = some v' ∧ VR P H μ v v') :
    Rel P w0 (H ++ [some (.row t cs)]) (μ.upd H.length w.heap.size cs'.size t) (w.alloc (.cells cs' t)) := by
  have hE := Ext.push H μ (some (.row t cs)) w.heap.size cs'.size t
  have hlt : ∀ {i : Nat} {o : Ob}, (H ++ [some (.row t cs)])[i]? = some (some o) → i ≠ H.length → H[i]? = some (some o) := fun {i o} hi hn => by rw [get_push, if_neg hn] at hi; exact hi
  have hz := h.below.size
  refine ⟨h.below.alloc hz _, fun i t2 cs2 hi => ?_, fun i s p hi => ?_, fun i j o o' hi hj he => ?_⟩
  · by_cases hn : i = H.length
    · subst hn
      rw [get_push, if_pos rfl] at hi
      cases hi
      obtain ⟨e1, e2, e3⟩ := Mp.upd_eq μ H.length w.heap.size cs'.size t
      rw [e1, e2, e3]
      exact ⟨hz, rfl, hl, cs', (0, 0), heap_alloc_new _ _, fun j _ hh => by have := hh.2; simp at this, rfl, fun j v hj => ⟨(hv j v hj).1, by obtain ⟨v', a, b⟩ := (hv j v hj).2; exact ⟨v', a, b.mono hE⟩⟩⟩
    · have hi' := hlt hi hn
      obtain ⟨e1, e2, e3⟩ := Mp.upd_ne μ (i := H.length) (m := w.heap.size) (K := cs'.size) (T := t) hn
      rw [e1, e2, e3]
      obtain ⟨a1, a2, a3, c, fz, a4, a5, a6, a7⟩ := h.row i t2 cs2 hi'
      exact ⟨a1, a2, a3, c, fz, by rw [heap_alloc_old _ _ _ (h.lt hi')]; exact a4, a5, a6, fun j v hj => ⟨(a7 j v hj).1, by obtain ⟨v', a, b⟩ := (a7 j v hj).2; exact ⟨v', a, b.mono hE⟩⟩⟩
  · by_cases hn : i = H.length
    · subst hn
      rw [get_push, if_pos rfl] at hi
      cases hi
    · have hi' := hlt hi hn
      rw [(Mp.upd_ne μ hn).1, heap_alloc_old _ _ _ (h.lt hi')]
      exact h.iter i s p hi'
  · by_cases hn : i = H.length
    · by_cases hm : j = H.length
      · omega
      · have := h.lt (hlt hj hm)
        rw [hn, (Mp.upd_eq μ _ _ _ _).1, (Mp.upd_ne μ hm).1] at he
        omega
    · by_cases hm : j = H.length
      · have := h.lt (hlt hi hn)
        rw [hm, (Mp.upd_eq μ _ _ _ _).1, (Mp.upd_ne μ hn).1] at he
        omega
      · rw [(Mp.upd_ne μ hm).1, (Mp.upd_ne μ hn).1] at he
        exact h.inj i j o o' (hlt hi hn) (hlt hj hm) he
theorem get_set (H : Hp) (i : Nat) (x : Option Ob) (j : Nat) (hi : i < H.length) : (H.set i x)[j]? = if j = i then some x else H[j]? := by
  rw [List.getElem?_set]
  by_cases h : i = j
  · subst h; simp [hi]
  · rw [if_neg h, if_neg (fun e => h e.symm)]
theorem lt_of_get {α : Type} {l : List α} {i : Nat} {x : α} (h : l[i]? = some x) : i < l.length := (List.getElem?_eq_some_iff.1 h).1
/-- An object turns into another of no smaller size: in its place, or in a new one. -/
theorem Ext.upd {i : Nat} {t : TypeId} {cs cs2 : List Value} (hi : H[i]? = some (some (.row t cs))) (hl : cs.length ≤ cs2.length) {m2 K2 : Nat}
    (hs : cs.length = cs2.length → m2 = μ.m i ∧ K2 = μ.K i ∧ μ.T i = t) : Ext H μ (H.set i (some (.row t cs2))) (μ.upd i m2 K2 t) := by
  have hil := lt_of_get hi
  refine ⟨by simp, fun j hj hd o h => ?_, fun j o o2 hj h1 h2 => ?_⟩
  · rw [get_set _ _ _ _ hil] at h
    split at h
    · rename_i e; subst e; rw [hi] at hd; cases hd
    · rw [hd] at h; cases h
  · rw [get_set _ _ _ _ hil] at h2
    split at h2
    · rename_i e
      subst e
      rw [hi] at h1
      cases h1; cases h2
      refine ⟨hl, fun e => ?_⟩
      obtain ⟨e1, e2, e3⟩ := hs e
      obtain ⟨f1, f2, f3⟩ := Mp.upd_eq μ j m2 K2 t
      rw [f1, f2, f3, e1, e2, e3]
      exact ⟨rfl, rfl, rfl⟩
    · rename_i e
      rw [h1] at h2
      cases h2
      exact ⟨Nat.le_refl _, fun _ => Mp.upd_ne μ e⟩
theorem Rel.upd (h : Rel P w0 H μ w) {i : Nat} {t : TypeId} {cs cs2 : List Value} (hi : H[i]? = some (some (.row t cs))) (hl : cs.length ≤ cs2.length) {m2 K2 : Nat} {w2 : World} {cs' : Array Value} {fz : Nat × Nat}
    (hs : cs.length = cs2.length → m2 = μ.m i ∧ K2 = μ.K i) (hm : m2 = μ.m i ∨ (w.heap.size ≤ m2)) (hK : cs2.length ≤ K2)
    (hb : Below w0.heap.size w w2) (hw : ∀ k, k < w.heap.size → k ≠ μ.m i → w2.heap[k]? = w.heap[k]?)
    (hc : w2.heap[m2]? = some (.cells cs' t fz)) (hz : ∀ j, j < K2 → ¬ (fz.1 ≤ j ∧ j < fz.2)) (hk : cs'.size = K2)
    (hv : ∀ (j : Nat) (v : Value), cs2[j]? = some v → v.oneCell' = true ∧ ∃ v', cs'[j]? = some v' ∧ VR P H μ v v') :
    Rel P w0 (H.set i (some (.row t cs2))) (μ.upd i m2 K2 t) w2 := by
  have hil := lt_of_get hi
  obtain ⟨r1, r2, r3, _⟩ := h.row i t cs hi
  have hE := Ext.upd (μ := μ) hi hl (m2 := m2) (K2 := K2) (fun e => ⟨(hs e).1, (hs e).2, r2⟩)
  have hbase := h.below.size
  have hlt : ∀ {j : Nat} {o : Ob}, (H.set i (some (.row t cs2)))[j]? = some (some o) → j ≠ i → H[j]? = some (some o) := fun {j o} hj hn => by rw [get_set _ _ _ _ hil, if_neg hn] at hj; exact hj
  have far : ∀ {j : Nat} {o : Ob}, H[j]? = some (some o) → j ≠ i → w2.heap[μ.m j]? = w.heap[μ.m j]? := fun {j o} hj hn => hw _ (h.lt hj) (fun e => hn (h.inj j i _ _ hj hi e))
  refine ⟨h.below.trans hb, fun j t2 c2 hj => ?_, fun j s p hj => ?_, fun j k o o' hj hk2 he => ?_⟩
  · by_cases hn : j = i
    · subst hn
      rw [get_set _ _ _ _ hil, if_pos rfl] at hj
      cases hj
      obtain ⟨e1, e2, e3⟩ := Mp.upd_eq μ j m2 K2 t
      rw [e1, e2, e3]
      exact ⟨by rcases hm with hm | hm <;> omega, rfl, hK, cs', fz, hc, hz, hk, fun j v hj => ⟨(hv j v hj).1, by obtain ⟨v', a, b⟩ := (hv j v hj).2; exact ⟨v', a, b.mono hE⟩⟩⟩
    · have hj' := hlt hj hn
      obtain ⟨e1, e2, e3⟩ := Mp.upd_ne μ (m := m2) (K := K2) (T := t) hn
      rw [e1, e2, e3]
      obtain ⟨a1, a2, a3, c, f2, a4, a5, a6, a7⟩ := h.row j t2 c2 hj'
      exact ⟨a1, a2, a3, c, f2, by rw [far hj' hn]; exact a4, a5, a6, fun j v hj => ⟨(a7 j v hj).1, by obtain ⟨v', a, b⟩ := (a7 j v hj).2; exact ⟨v', a, b.mono hE⟩⟩⟩
  · by_cases hn : j = i
    · subst hn
      rw [get_set _ _ _ _ hil, if_pos rfl] at hj
      cases hj
    · have hj' := hlt hj hn
      rw [(Mp.upd_ne μ hn).1, far hj' hn]
      exact h.iter j s p hj'
  · by_cases hn : j = i
    · by_cases hn2 : k = i
      · omega
      · have h1 := hlt hk2 hn2
        have := h.lt h1
        rw [hn, (Mp.upd_eq μ _ _ _ _).1, (Mp.upd_ne μ hn2).1] at he
        rcases hm with hm | hm
        · exact absurd (h.inj i k _ _ hi h1 (by omega)) (fun e => hn2 e.symm)
        · omega
    · by_cases hn2 : k = i
      · have h1 := hlt hj hn
        have := h.lt h1
        rw [hn2, (Mp.upd_eq μ _ _ _ _).1, (Mp.upd_ne μ hn).1] at he
        rcases hm with hm | hm
        · exact absurd (h.inj j i _ _ h1 hi (by omega)) hn
        · omega
      · rw [(Mp.upd_ne μ hn2).1, (Mp.upd_ne μ hn).1] at he
        exact h.inj j k o o' (hlt hj hn) (hlt hk2 hn2) he
/-- Cells put one behind the other. -/
def putL : List Value → Nat → List Value → List Value
  | cs, _, [] => cs
  | cs, o, v :: r => putL (cs.set o v) (o + 1) r
def putA : Array Value → Nat → List Value → Array Value
  | cs, _, [] => cs
  | cs, o, v :: r => putA (cs.setIfInBounds o v) (o + 1) r
theorem putL_len : ∀ (vs : List Value) (cs : List Value) (o : Nat), (putL cs o vs).length = cs.length
  | [], _, _ => rfl
  | v :: r, cs, o => by rw [putL, putL_len r]; simp
theorem putA_size : ∀ (vs : List Value) (cs : Array Value) (o : Nat), (putA cs o vs).size = cs.size
  | [], _, _ => rfl
  | v :: r, cs, o => by rw [putA, putA_size r]; simp
theorem putL_get : ∀ (vs : List Value) (cs : List Value) (o j : Nat), (putL cs o vs)[j]? = if o ≤ j ∧ j < o + vs.length ∧ j < cs.length then vs[j - o]? else cs[j]?
  | [], cs, o, j => by rw [if_neg (by simp; omega)]; rfl
  | v :: r, cs, o, j => by
    rw [putL, putL_get r, List.getElem?_set]
    simp only [List.length_set, List.length_cons]
    by_cases h1 : o + 1 ≤ j ∧ j < o + 1 + r.length ∧ j < cs.length
    · rw [if_pos h1, if_pos (by omega)]
      obtain ⟨k, rfl⟩ : ∃ k, j = o + 1 + k := ⟨j - o - 1, by omega⟩
      simp [show o + 1 + k - (o + 1) = k by omega, show o + 1 + k - o = k + 1 by omega]
    · rw [if_neg h1]
      by_cases h2 : o = j
      · subst h2
        by_cases h3 : o < cs.length
        · rw [if_pos rfl, if_pos (by omega)]
          simp [h3]
        · rw [if_pos rfl, if_neg (by omega), if_neg (by omega)]
          simp at h3
          simp [h3]
      · rw [if_neg h2, if_neg (by omega)]
theorem putA_get : ∀ (vs : List Value) (cs : Array Value) (o j : Nat), (putA cs o vs)[j]? = (putL cs.toList o vs)[j]?
  | [], cs, o, j => by simp [putA, putL]
  | v :: r, cs, o, j => by rw [putA, putA_get r, putL]; simp
theorem setCells_heap : ∀ (vs : List Value) (g o : Nat) (w : World) (cs : Array Value) (t : TypeId) (fz : Nat × Nat), w.heap[g]? = some (.cells cs t fz) → (w.setCells g o vs).heap[g]? = some (.cells (putA cs o vs) t fz)
  | [], _, _, _, _, _, _, h => h
  | v :: r, g, o, w, cs, t, fz, h => by
    rw [World.setCells, putA]
    refine setCells_heap r g (o + 1) _ _ t fz ?_
    unfold World.setCell
    rw [Array.getElem?_modify, if_pos rfl, h]
    simp
theorem setCells_other : ∀ (vs : List Value) (g o : Nat) (w : World) (k : Nat), k ≠ g → (w.setCells g o vs).heap[k]? = w.heap[k]?
  | [], _, _, _, _, _ => rfl
  | v :: r, g, o, w, k, h => by rw [World.setCells, setCells_other r g (o + 1) _ k h]; exact Below.heap_setCell _ _ _ _ h
theorem setCells_rest : ∀ (vs : List Value) (g o : Nat) (w : World), (w.setCells g o vs).os = w.os ∧ (w.setCells g o vs).tape = w.tape ∧ (w.setCells g o vs).output = w.output ∧ (w.setCells g o vs).heap.size = w.heap.size
  | [], _, _, _ => ⟨rfl, rfl, rfl, rfl⟩
  | v :: r, g, o, w => by
    obtain ⟨a, b, c, d⟩ := setCells_rest r g (o + 1) (w.setCell ⟨g, o, none⟩ v)
    exact ⟨a, b, c, d.trans (by simp [World.setCell])⟩
theorem setCells_below {B : Nat} (vs : List Value) (g o : Nat) (w : World) (h : B ≤ g) : Below B w (w.setCells g o vs) := by
  obtain ⟨a, b, c, d⟩ := setCells_rest vs g o w
  exact ⟨a, b, c, by rw [d]; exact Nat.le_refl _, fun k hk => setCells_other vs g o w k (by omega)⟩
/-- A store into an object, and an append into the room behind it. -/
theorem Rel.store (h : Rel P w0 H μ w) {i o : Nat} {t : TypeId} {cs : List Value} (hi : H[i]? = some (some (.row t cs))) {vs : List Value} {vs' : List Value} (hl : vs.length = vs'.length)
    (hv : ∀ (j : Nat) (v v' : Value), vs[j]? = some v → vs'[j]? = some v' → v.oneCell' = true ∧ VR P H μ v v') (cs2 : List Value)
    (h2 : (o + vs.length ≤ cs.length ∧ cs2 = putL cs o vs) ∨ (o = cs.length ∧ o + vs.length ≤ μ.K i ∧ cs2 = cs ++ vs)) :
    Rel P w0 (H.set i (some (.row t cs2))) (μ.upd i (μ.m i) (μ.K i) t) (w.setCells (μ.m i) o vs') ∧ Ext H μ (H.set i (some (.row t cs2))) (μ.upd i (μ.m i) (μ.K i) t) ∧
    (∀ i' (P2 : Program), (storeCells ⟨μ.m i, o, none⟩ vs' i').run P2 w = (storeCells ⟨μ.m i, o, none⟩ vs' i').run P2 w) := by
  obtain ⟨r1, r2, r3, cs', fz, r4, r5, r6, r7⟩ := h.row i t cs hi
  have hlen : cs.length ≤ cs2.length ∧ cs2.length ≤ μ.K i := by
    rcases h2 with ⟨a, rfl⟩ | ⟨a, b, rfl⟩
    · rw [putL_len]; exact ⟨Nat.le_refl _, r3⟩
    · simp; omega
  refine ⟨h.upd hi hlen.1 (fun _ => ⟨rfl, rfl⟩) (.inl rfl) hlen.2 (setCells_below vs' _ o w r1) (fun k _ hk => setCells_other vs' _ o w k hk) (setCells_heap vs' _ o w cs' t fz r4) r5 (by rw [putA_size]; exact r6) (fun j v hj => ?_), Ext.upd hi hlen.1 (fun _ => ⟨rfl, rfl, r2⟩), fun _ _ => rfl⟩
  rw [putA_get, putL_get]
  have hsz : cs'.toList.length = μ.K i := by simpa using r6
  by_cases hin : o ≤ j ∧ j < o + vs.length
  · have hv1 : vs[j - o]? = some v := by
      rcases h2 with ⟨a, rfl⟩ | ⟨a, b, rfl⟩
      · rw [putL_get, if_pos (by omega)] at hj; exact hj
      · rw [List.getElem?_append, if_neg (by omega), ← a] at hj; exact hj
    have hv2 : vs'[j - o]? = some (vs'[j - o]'(by omega)) := List.getElem?_eq_getElem _
    obtain ⟨q1, q2⟩ := hv _ _ _ hv1 hv2
    refine ⟨q1, _, ?_, q2⟩
    rw [if_pos (by rw [hsz]; rcases h2 with ⟨a, _⟩ | ⟨a, b, _⟩ <;> omega)]
    exact hv2
  · have hj1 : cs[j]? = some v := by
      rcases h2 with ⟨a, rfl⟩ | ⟨a, b, rfl⟩
      · rw [putL_get, if_neg (by omega)] at hj; exact hj
      · rw [List.getElem?_append] at hj
        split at hj
        · exact hj
        · have := lt_of_get hj; omega
    rw [if_neg (by omega)]
    obtain ⟨q1, v', q2, q3⟩ := r7 j v hj1
    exact ⟨q1, v', by simpa using q2, q3⟩
/-- What a read finds. -/
def rdRo (w0 : World) (b : Nat) : Nat → Nat → Option (List Value)
  | _, 0 => some []
  | o, n + 1 => match w0.cell? ⟨b, o, none⟩ with
    | some v => if (plain v && v.oneCell') = true then (rdRo w0 b (o + 1) n).map (v :: ·) else none
    | none => none
def rd (w0 : World) (H : Hp) (a : Addr) (n : Nat) : Option (List Value) := match a with
  | ⟨b, o, none⟩ => rdRo w0 b o n
  | ⟨i, o, some tag⟩ => match H[i]? with
    | some (some (.row _ cs)) => if cs.length = tag ∧ o + n ≤ cs.length then some ((cs.drop o).take n) else none
    | _ => none
theorem rdRo_spec : ∀ (n : Nat) (b o : Nat) (cs : List Value), rdRo w0 b o n = some cs → cs.length = n ∧ (∀ v ∈ cs, plain v = true ∧ v.oneCell' = true) ∧ ∀ (j : Nat) (v : Value), cs[j]? = some v → w0.cell? ⟨b, o + j, none⟩ = some v
  | 0, b, o, cs, h => by simp [rdRo] at h; subst h; simp
  | n + 1, b, o, cs, h => by
    simp only [rdRo] at h
    cases hc : w0.cell? ⟨b, o, none⟩ with
    | none => rw [hc] at h; cases h
    | some v =>
      rw [hc] at h
      simp only at h
      split at h
      · rename_i hp
        cases hr : rdRo w0 b (o + 1) n with
        | none => rw [hr] at h; cases h
        | some l =>
          rw [hr] at h
          simp at h
          subst h
          obtain ⟨a1, a2, a3⟩ := rdRo_spec n b (o + 1) l hr
          simp at hp
          refine ⟨by simp [a1], fun u hu => ?_, fun j u hj => ?_⟩
          · rcases List.mem_cons.1 hu with rfl | hu
            · exact hp
            · exact a2 u hu
          · cases j with
            | zero => simp at hj; subst hj; simpa using hc
            | succ j => rw [show o + (j + 1) = o + 1 + j by omega]; exact a3 j u (by simpa using hj)
      · cases h
theorem add_at' (a : Addr) (j : Nat) (h : a.spot = none) : a.add j = ⟨a.block, a.off + j, none⟩ := by
  unfold Addr.add
  split
  · rename_i e; subst e; cases a; simp at h ⊢; exact h
  · rfl
theorem rd_spec (h : Rel P w0 H μ w) {a a' : Addr} (ha : VR P H μ (.pointer (some a)) (.pointer (some a'))) {n : Nat} {cs : List Value} (hr : rd w0 H a n = some cs) :
    cs.length = n ∧ ∃ cs' : List Value, cs'.length = n ∧ (∀ (j : Nat) (v : Value), cs'[j]? = some v → w.cell? (a'.add j) = some v) ∧ (∀ v ∈ cs, v.oneCell' = true) ∧ AR P H μ cs.toArray cs'.toArray := by
  obtain ⟨b, o, sp⟩ := a
  cases sp with
  | none =>
    simp only [rd] at hr
    obtain ⟨a1, a2, a3⟩ := rdRo_spec n b o cs hr
    cases ha with
    | same hp =>
      refine ⟨a1, cs, a1, fun j v hj => ?_, fun v hv => (a2 v hv).2, AR.list fun v hv => (a2 v hv).1⟩
      have hc := a3 j v hj
      rw [add_at' _ _ rfl]
      rw [h.below.cell (p := ⟨b, o + j, none⟩) (block_lt_of_cell hc)]
      exact hc
  | some tag =>
    simp only [rd] at hr
    split at hr
    · rename_i t c hH
      split at hr
      · rename_i hcond
        simp at hr
        subst hr
        obtain ⟨r1, r2, r3, cs', fz, r4, r5, r6, r7⟩ := h.row b t c hH
        have ha' : a' = ⟨μ.m b, o, none⟩ := by
          cases ha with
          | same hp => simp [plain] at hp
          | ptr hi hx => exact (hx _ hH).2 hcond.1.symm
        subst ha'
        have hlen : ((c.drop o).take n).length = n := by simp; omega
        have hlen' : ((cs'.toList.drop o).take n).length = n := by simp; omega
        refine ⟨hlen, (cs'.toList.drop o).take n, hlen', fun j v hj => ?_, fun v hv => ?_, ?_⟩
        · rw [List.getElem?_take] at hj
          split at hj
          · rw [List.getElem?_drop] at hj
            rw [add_at' _ _ rfl, cell_of_row w _ _ cs' t fz r4]
            simpa using hj
          · cases hj
        · obtain ⟨j, hj⟩ := List.mem_iff_getElem?.1 (List.mem_of_mem_drop (List.mem_of_mem_take hv))
          exact (r7 j v hj).1
        · refine ⟨by simp [hlen, hlen'] , fun j v v' h1 h2 => ?_⟩
          simp only [List.getElem?_toArray] at h1 h2
          rw [List.getElem?_take] at h1 h2
          split at h1
          · rename_i hj
            rw [if_pos hj] at h2
            rw [List.getElem?_drop] at h1 h2
            obtain ⟨_, u, q1, q2⟩ := r7 _ v h1
            have : cs'[o + j]? = some v' := by simpa using h2
            rw [q1] at this
            cases this
            exact q2
          · cases h1
      · cases hr
    · cases hr
end
end Go.Proofs.YtcmflpdgfddmeaaW.XM

namespace Go.Proofs.YtcmflpdgfddmeaaW.XM
open Go.RowKit
/-- A run that answers as K asks. -/
def Ans (P : Program) (w0 : World) (H : Hp) (μ : Mp) (s : Sem Value) (w : World) (K : Value → Hp → Prop) : Prop :=
  ∃ v' w2 v H2 μ2, s.run P w = .ok v' w2 ∧ K v H2 ∧ Rel P w0 H2 μ2 w2 ∧ VR P H2 μ2 v v' ∧ Ext H μ H2 μ2
section
variable {P : Program} {w0 : World} {H : Hp} {μ : Mp} {w : World} {K : Value → Hp → Prop}
theorem VR.eq {v v' : Value} (hp : plain v = true) (h : VR P H μ v v') : v' = v := by cases h <;> first | rfl | simp [plain] at hp
theorem Ans.of {s : Sem Value} {v v' : Value} (hr : Rel P w0 H μ w) (hs : s.run P w = .ok v' w) (hk : K v H) (hv : VR P H μ v v') : Ans P w0 H μ s w K := ⟨v', w, v, H, μ, hs, hk, hr, hv, Ext.refl _ _⟩
def aggD : TypeDesc → Bool
  | .struct _ | .array _ _ => true
  | _ => false
/-- Is it of several parts, and how many cells has it. -/
def lay (P : Program) (t : TypeId) : Option (Bool × Nat) := match P.underlying t, P.info? t with
  | some d, some i => some (aggD d, i.size)
  | _, _ => none
theorem lay_spec {t : TypeId} {b : Bool} {n : Nat} (h : lay P t = some (b, n)) : (∀ w, (isAgg t).run P w = .ok b w) ∧ (∀ w, (sizeOf t).run P w = .ok n w) ∧ P.cellsOf t = n := by
  unfold lay at h
  cases hu : P.underlying t with
  | none => rw [hu] at h; cases h
  | some d =>
    cases hi : P.info? t with
    | none => rw [hu, hi] at h; cases h
    | some i =>
      rw [hu, hi] at h
      simp only [Option.some.injEq, Prod.mk.injEq] at h
      obtain ⟨rfl, rfl⟩ := h
      refine ⟨fun w => ?_, fun w => ?_, by simp [Program.cellsOf, hi]⟩
      · unfold isAgg
        rw [Sem.run_bind, run_underlying hu w]
        cases d <;> rfl
      · simp [sizeOf, typeInfo, hi]
/-- What a variable of a type holds. -/
def rdT (P : Program) (w0 : World) (H : Hp) (t : TypeId) (a : Addr) : Option Value := match lay P t with
  | some (true, n) => (rd w0 H a n).map fun cs => .agg cs.toArray
  | some (false, _) => (rd w0 H a 1).bind fun cs => cs[0]?
  | none => none
theorem rdT_spec (h : Rel P w0 H μ w) {a a' : Addr} (ha : VR P H μ (.pointer (some a)) (.pointer (some a'))) {t : TypeId} {v : Value} (hr : rdT P w0 H t a = some v) : ∃ v', (loadVar t a').run P w = .ok v' w ∧ VR P H μ v v' := by
  unfold rdT at hr
  cases hl : lay P t with
  | none => rw [hl] at hr; cases hr
  | some p =>
    obtain ⟨b, n⟩ := p
    rw [hl] at hr
    obtain ⟨l1, l2, l3⟩ := lay_spec hl
    cases b with
    | true =>
      cases hc : rd w0 H a n with
      | none => simp [hc] at hr
      | some cs =>
        simp only [hc, Option.map_some, Option.some.injEq] at hr
        subst hr
        obtain ⟨a1, cs', a2, a3, a4, a5⟩ := rd_spec h ha hc
        have := run_loadCells_list (P := P) w a' cs' a3
        rw [a2] at this
        exact ⟨.agg cs'.toArray, by simp [loadVar, Sem.run_bind, l1 w, l2 w, this], .agg a5.1 a5.2⟩
    | false =>
      cases hc : rd w0 H a 1 with
      | none => simp [hc] at hr
      | some cs =>
        simp only [hc, Option.bind_some] at hr
        obtain ⟨a1, cs', a2, a3, a4, a5⟩ := rd_spec h ha hc
        have hj : cs'[0]? = some cs'[0] := List.getElem?_eq_getElem (by omega)
        have hcell := a3 0 _ hj
        have e0 : a'.add 0 = a' := by simp [Addr.add]
        rw [e0] at hcell
        refine ⟨cs'[0], by simp [loadVar, Sem.run_bind, l1 w, hcell], a5.2 0 _ _ (by simpa using hr) (by simp)⟩
def xLoad (P : Program) (w0 : World) (t : TypeId) (x : Value) (H : Hp) (K : Value → Hp → Prop) : Prop := match x with
  | .pointer (some a) => ∃ v, rdT P w0 H t a = some v ∧ K v H
  | _ => False
theorem xLoad_ok {t : TypeId} {x x' : Value} (hr : Rel P w0 H μ w) (hx : VR P H μ x x') (h : xLoad P w0 t x H K) : Ans P w0 H μ (Instr.loadAt t x') w K := by
  unfold xLoad at h
  split at h
  · rename_i a
    obtain ⟨v, h1, h2⟩ := h
    have : ∃ a', x' = .pointer (some a') := by cases hx <;> exact ⟨_, rfl⟩
    obtain ⟨a', rfl⟩ := this
    obtain ⟨v', e1, e2⟩ := rdT_spec hr hx h1
    exact Ans.of hr (by simp [Instr.loadAt, Instr.sureAddr, e1]) h2 e2
  · exact h.elim
def xStore (P : Program) (t : TypeId) (x v : Value) (H : Hp) (K : Value → Hp → Prop) : Prop := match x with
  | .pointer (some ⟨i, o, some tag⟩) => ∃ ty cs b, H[i]? = some (some (.row ty cs)) ∧ cs.length = tag ∧ lay P t = some (b, v.cells.toList.length) ∧ o + v.cells.toList.length ≤ cs.length ∧ v.cells.toList.all (·.oneCell') = true ∧ K undef (H.set i (some (.row ty (putL cs o v.cells.toList))))
  | _ => False
theorem storeCells_ok (hr : Rel P w0 H μ w) {i : Nat} {t : TypeId} {cs : List Value} (hi : H[i]? = some (some (.row t cs))) (o : Nat) (vs' : List Value) (hl : o + vs'.length ≤ μ.K i) (h1 : ∀ v ∈ vs', v.oneCell' = true) :
    (storeCells ⟨μ.m i, o, none⟩ vs' 0).run P w = .ok () (w.setCells (μ.m i) o vs') := by
  obtain ⟨r1, r2, r3, cs', fz, r4, r5, r6, r7⟩ := hr.row i t cs hi
  have := run_storeCells_cells (P := P) (μ.m i) o vs' 0 w (fun j hj => by
    rw [cell_of_row w _ _ cs' t fz r4, Array.getElem?_eq_getElem (by omega)]; rfl) (fun j hj => by
    have := r5 (o + 0 + j) (by omega)
    simp only [World.frozen?, r4]
    simpa using this) h1
  simpa using this
theorem xStore_ok {t : TypeId} {x x' v v' : Value} (hr : Rel P w0 H μ w) (hx : VR P H μ x x') (hv : VR P H μ v v') (h : xStore P t x v H K) :
    ∃ w2 H2 μ2, (Instr.storeAt t x' v').run P w = .ok () w2 ∧ K undef H2 ∧ Rel P w0 H2 μ2 w2 ∧ Ext H μ H2 μ2 := by
  unfold xStore at h
  split at h
  · rename_i i o tag
    obtain ⟨ty, cs, b, h1, h2, h3, h4, h5, h6⟩ := h
    have hx' : x' = .pointer (some ⟨μ.m i, o, none⟩) := by
      cases hx with
      | same hp => simp [plain] at hp
      | ptr hi hy => rw [(hy _ h1).2 h2.symm]
    subst hx'
    obtain ⟨l1, l2, l3⟩ := lay_spec h3
    have hc := hv.cells
    have hsz : v.cells.toList.length = v'.cells.toList.length := by simpa using hc.1
    have hone : ∀ (j : Nat) (u u' : Value), v.cells.toList[j]? = some u → v'.cells.toList[j]? = some u' → u.oneCell' = true ∧ VR P H μ u u' := fun j u u' a b => ⟨List.all_eq_true.1 h5 u (List.mem_of_getElem? a), hc.2 j u u' (by simpa using a) (by simpa using b)⟩
    have hone' : ∀ u' ∈ v'.cells.toList, u'.oneCell' = true := fun u' hu => by
      obtain ⟨j, hj⟩ := List.mem_iff_getElem?.1 hu
      have hjl : j < v.cells.toList.length := by rw [hsz]; exact lt_of_get hj
      obtain ⟨p, q⟩ := hone j _ u' (List.getElem?_eq_getElem hjl) hj
      rw [q.oneCell]; exact p
    obtain ⟨r1, r2, r3, _⟩ := hr.row i ty cs h1
    have hst := storeCells_ok hr h1 o v'.cells.toList (by omega) hone'
    obtain ⟨s1, s2, _⟩ := hr.store h1 hsz hone (putL cs o v.cells.toList) (.inl ⟨h4, rfl⟩)
    have hne : v'.cells.size = v.cells.toList.length := by rw [hsz]; simp
    refine ⟨_, _, _, ?_, h6, s1, s2⟩
    simp only [Instr.storeAt, Instr.sureAddr, storeVar, Sem.run_bind, Sem.run_pure, Result.andThen_ok, l2, hne, ne_eq, not_true_eq_false, if_false, hst]
  · exact h.elim
/-- The cells of a type's zero. -/
def zer (P : Program) (t : TypeId) : Option (List Value) := match (P.info? t).bind (·.zero) with
  | some z => if z.cells.toList.all (fun v => plain v && v.oneCell') = true then some z.cells.toList else none
  | none => none
theorem zer_spec {t : TypeId} {cs : List Value} (h : zer P t = some cs) : ∃ z : Value, (∀ w, (zeroValue t).run P w = .ok z w) ∧ z.cells.toList = cs ∧ ∀ v ∈ cs, plain v = true ∧ v.oneCell' = true := by
  unfold zer at h
  cases hz : (P.info? t).bind (·.zero) with
  | none => rw [hz] at h; cases h
  | some z =>
    rw [hz] at h
    simp only at h
    split at h
    · rename_i hall
      cases h
      refine ⟨z, fun w => ?_, rfl, fun v hv => by simpa using List.all_eq_true.1 hall v hv⟩
      cases hi : P.info? t with
      | none => rw [hi] at hz; cases hz
      | some i =>
        rw [hi] at hz
        have hz' : i.zero = some z := hz
        simp [zeroValue, typeInfo, hi, hz']
    · cases h
/-- A new object, of cells told. -/
theorem push_ok (hr : Rel P w0 H μ w) (t : TypeId) (cs cs' : Array Value) (hc : AR P H μ cs cs') (h1 : cs.toList.all (·.oneCell') = true) :
    Rel P w0 (H ++ [some (.row t cs.toList)]) (μ.upd H.length w.heap.size cs'.size t) { w with heap := w.heap.push (.cells cs' t) } ∧
    Ext H μ (H ++ [some (.row t cs.toList)]) (μ.upd H.length w.heap.size cs'.size t) ∧
    VR P (H ++ [some (.row t cs.toList)]) (μ.upd H.length w.heap.size cs'.size t) (.pointer (some ⟨H.length, 0, some cs.toList.length⟩)) (.pointer (some ⟨w.heap.size, 0, none⟩)) := by
  refine ⟨hr.alloc t cs.toList cs' (by simp [hc.1]) (fun j v hj => ?_), Ext.push _ _ _ _ _ _, .ptr (by simp) fun ob hb => ?_⟩
  · have hj' : cs[j]? = some v := by simpa using hj
    have hlt : j < cs'.size := by rw [← hc.1]; exact (Array.getElem?_eq_some_iff.1 hj').1
    exact ⟨List.all_eq_true.1 h1 v (List.mem_of_getElem? hj), cs'[j], Array.getElem?_eq_getElem hlt, hc.2 j _ _ hj' (Array.getElem?_eq_getElem hlt)⟩
  · rw [get_push, if_pos rfl] at hb
    cases hb
    exact ⟨Nat.le_refl _, fun _ => by rw [(Mp.upd_eq μ _ _ _ _).1]⟩
def xAlloc (P : Program) (t : TypeId) (H : Hp) (K : Value → Hp → Prop) : Prop := ∃ cs, zer P t = some cs ∧ K (.pointer (some ⟨H.length, 0, some cs.length⟩)) (H ++ [some (.row t cs)])
theorem xAlloc_ok {t : TypeId} (hr : Rel P w0 H μ w) (h : xAlloc P t H K) : Ans P w0 H μ (Instr.alloc t true (.tuple #[])) w K := by
  obtain ⟨cs, h1, h2⟩ := h
  obtain ⟨z, z1, z2, z3⟩ := zer_spec h1
  have ha : AR P H μ z.cells z.cells := by
    have := AR.list (P := P) (H := H) (μ := μ) (l := cs) fun v hv => (z3 v hv).1
    rw [← z2] at this
    simpa using this
  obtain ⟨p1, p2, p3⟩ := push_ok hr t z.cells z.cells ha (by rw [z2]; exact List.all_eq_true.2 fun v hv => (z3 v hv).2)
  rw [z2] at p1 p2 p3
  exact ⟨_, _, _, _, _, by simp [Instr.alloc, newVar, newRow, z1], h2, p1, p3, p2⟩
def xBox (t : TypeId) (x : Value) (H : Hp) (K : Value → Hp → Prop) : Prop := x.cells.toList.all (·.oneCell') = true ∧ K (.pointer (some ⟨H.length, 0, some x.cells.toList.length⟩)) (H ++ [some (.row t x.cells.toList)])
theorem xBox_ok {t : TypeId} {x x' : Value} (hr : Rel P w0 H μ w) (hx : VR P H μ x x') (h : xBox t x H K) : Ans P w0 H μ (Instr.box t x') w K := by
  obtain ⟨h1, h2⟩ := h
  obtain ⟨p1, p2, p3⟩ := push_ok hr t x.cells x'.cells hx.cells h1
  exact ⟨_, _, _, _, _, by simp [Instr.box, newVar, newRow], h2, p1, p3, p2⟩
/-- A field's place, and what it is: its offset, is it of several parts, its cells. -/
def fld (P : Program) (s : TypeId) (f : Nat) : Option (Nat × Bool × Nat) := match P.underlying s with
  | some (.struct fs) => (fs[f]?).bind fun x => (lay P x.type).map fun p => (x.offset, p)
  | _ => none
theorem fld_spec {s : TypeId} {f o n : Nat} {b : Bool} (h : fld P s f = some (o, b, n)) : ∃ (fs : Array Field) (x : Field), P.underlying s = some (.struct fs) ∧ fs[f]? = some x ∧ x.offset = o ∧ lay P x.type = some (b, n) := by
  unfold fld at h
  split at h
  · rename_i fs hu
    cases hx : fs[f]? with
    | none => rw [hx] at h; cases h
    | some x =>
      rw [hx] at h
      simp only [Option.bind_some] at h
      cases hl : lay P x.type with
      | none => rw [hl] at h; cases h
      | some p =>
        rw [hl] at h
        simp only [Option.map_some, Option.some.injEq, Prod.mk.injEq] at h
        exact ⟨fs, x, hu, hx, h.1, by rw [hl, h.2]⟩
  · cases h
def Addr.plus (a : Addr) (n : Nat) : Addr := { a with off := a.off + n }
def xField (P : Program) (s : TypeId) (x : Value) (f : Nat) (H : Hp) (K : Value → Hp → Prop) : Prop := match x with
  | .pointer (some ⟨b, o, sp⟩) => ∃ d ag n, fld P s f = some (d, ag, n + 1) ∧ K (.pointer (some ⟨b, o + d, sp⟩)) H
  | _ => False
theorem VR.plus {b o : Nat} {sp : Option Nat} {a' : Addr} (h : VR P H μ (.pointer (some ⟨b, o, sp⟩)) (.pointer (some a'))) (d : Nat) : VR P H μ (.pointer (some ⟨b, o + d, sp⟩)) (.pointer (some (a'.add d))) ∧ (sp = none → a' = ⟨b, o, none⟩) := by
  cases sp with
  | none =>
    cases h with
    | same hp => exact ⟨by rw [add_at' _ _ rfl]; exact .same rfl, fun _ => rfl⟩
  | some tag =>
    refine ⟨?_, fun e => by cases e⟩
    cases h with
    | same hp => simp [plain] at hp
    | ptr hi hx =>
      refine .ptr hi fun ob hb => ⟨(hx ob hb).1, fun e => ?_⟩
      rw [(hx ob hb).2 e, add_at' _ _ rfl]
theorem xField_ok {s : TypeId} {x x' : Value} {f : Nat} (hr : Rel P w0 H μ w) (hx : VR P H μ x x') (h : xField P s x f H K) : Ans P w0 H μ (Instr.fieldAt s x' f) w K := by
  unfold xField at h
  split at h
  · rename_i b o sp
    obtain ⟨d, ag, n, h1, h2⟩ := h
    obtain ⟨fs, y, u1, u2, u3, u4⟩ := fld_spec h1
    obtain ⟨l1, l2, l3⟩ := lay_spec u4
    have : ∃ a', x' = .pointer (some a') := by cases hx <;> exact ⟨_, rfl⟩
    obtain ⟨a', rfl⟩ := this
    refine Ans.of hr (v' := .pointer (some (a'.add d))) ?_ h2 (hx.plus d).1
    simp [Instr.fieldAt, Sem.run_bind, run_underlying u1, u2, Instr.sureAddr, fieldPlace, l2, u3]
  · exact h.elim
/-- A part of a value. -/
def xPart (P : Program) (s : TypeId) (x : Value) (f : Nat) (H : Hp) (K : Value → Hp → Prop) : Prop := match x with
  | .agg cs => ∃ d ag n, fld P s f = some (d, ag, n) ∧ (if ag = true then K (.agg (cs.extract d (d + n))) H else ∃ v, cs[d]? = some v ∧ K v H)
  | _ => False
theorem AR.extract {A B : Array Value} (h : AR P H μ A B) (i j : Nat) : AR P H μ (A.extract i j) (B.extract i j) := by
  refine ⟨by simp [h.1], fun k v v' h1 h2 => ?_⟩
  rw [Array.getElem?_extract] at h1 h2
  split at h1
  · split at h2
    · exact h.2 _ _ _ h1 h2
    · cases h2
  · cases h1
theorem xPart_ok {s : TypeId} {x x' : Value} {f : Nat} (hr : Rel P w0 H μ w) (hx : VR P H μ x x') (h : xPart P s x f H K) : Ans P w0 H μ (Instr.field s x' f) w K := by
  unfold xPart at h
  split at h
  · rename_i cs
    obtain ⟨d, ag, n, h1, h2⟩ := h
    obtain ⟨fs, y, u1, u2, u3, u4⟩ := fld_spec h1
    obtain ⟨l1, l2, l3⟩ := lay_spec u4
    have : ∃ cs', x' = .agg cs' ∧ AR P H μ cs cs' := by
      cases hx with
      | same hp => simp [plain] at hp
      | agg a b => exact ⟨_, rfl, a, b⟩
    obtain ⟨cs', rfl, hc⟩ := this
    cases ag with
    | true =>
      rw [if_pos rfl] at h2
      exact Ans.of hr (v' := .agg (cs'.extract d (d + n))) (by simp [Instr.field, Sem.run_bind, run_underlying u1, u2, asAgg, part, l1, l2, u3]) h2 (.agg (hc.extract _ _).1 (hc.extract _ _).2)
    | false =>
      rw [if_neg (by decide)] at h2
      obtain ⟨v, e1, e2⟩ := h2
      have hlt : d < cs'.size := by rw [← hc.1]; exact (Array.getElem?_eq_some_iff.1 e1).1
      have e3 := Array.getElem?_eq_getElem hlt
      exact Ans.of hr (v' := cs'[d]) (by simp [Instr.field, Sem.run_bind, run_underlying u1, u2, asAgg, part, l1, u3, e3]) e2 (hc.2 d _ _ e1 e3)
  · exact h.elim
def xExtract (x : Value) (n : Nat) (H : Hp) (K : Value → Hp → Prop) : Prop := match x with
  | .tuple vs => ∃ v, vs[n]? = some v ∧ K v H
  | _ => False
theorem xExtract_ok {x x' : Value} {n : Nat} (hr : Rel P w0 H μ w) (hx : VR P H μ x x') (h : xExtract x n H K) : Ans P w0 H μ (Instr.extract x' n) w K := by
  unfold xExtract at h
  split at h
  · rename_i vs
    obtain ⟨v, h1, h2⟩ := h
    have : ∃ cs', x' = .tuple cs' ∧ AR P H μ vs cs' := by
      cases hx with
      | same hp => simp [plain] at hp
      | tuple a b => exact ⟨_, rfl, a, b⟩
    obtain ⟨cs', rfl, hc⟩ := this
    have hlt : n < cs'.size := by rw [← hc.1]; exact (Array.getElem?_eq_some_iff.1 h1).1
    have e3 := Array.getElem?_eq_getElem hlt
    exact Ans.of hr (v' := cs'[n]) (by simp [Instr.extract, e3]) h2 (hc.2 n _ _ h1 e3)
  · exact h.elim
/-- How many cells an element of a slice has. -/
def elm (P : Program) (t : TypeId) : Option (TypeId × Nat) := match P.underlying t with
  | some (.slice e) => (lay P e).map fun p => (e, p.2)
  | _ => none
theorem elm_spec {t e : TypeId} {n : Nat} (h : elm P t = some (e, n)) : P.underlying t = some (.slice e) ∧ ∃ b, lay P e = some (b, n) := by
  unfold elm at h
  split at h
  · rename_i e' hu
    cases hl : lay P e' with
    | none => rw [hl] at h; cases h
    | some p =>
      obtain ⟨b, k⟩ := p
      rw [hl] at h
      simp only [Option.map_some, Option.some.injEq, Prod.mk.injEq] at h
      obtain ⟨rfl, rfl⟩ := h
      exact ⟨hu, b, hl⟩
  · cases h
def xIndexAddr (P : Program) (t : TypeId) (x ix : Value) (H : Hp) (K : Value → Hp → Prop) : Prop := match x, ix with
  | .slice (some ⟨b, o, sp⟩) len _, .int _ i => ∃ e n, elm P t = some (e, n) ∧ 0 ≤ i ∧ i < len ∧ K (.pointer (some ⟨b, o + i.toNat * n, sp⟩)) H
  | _, _ => False
/-- A slice's address, as a pointer. -/
theorem VR.base {b o n c : Nat} {sp : Option Nat} {x' : Value} (h : VR P H μ (.slice (some ⟨b, o, sp⟩) n c) x') : ∃ a' c', x' = .slice (some a') n c' ∧ VR P H μ (.pointer (some ⟨b, o, sp⟩)) (.pointer (some a')) := by
  cases sp with
  | none =>
    cases h with
    | same hp => exact ⟨_, _, rfl, .same rfl⟩
  | some tag =>
    cases h with
    | same hp => simp [plain] at hp
    | sl hi hx => exact ⟨_, _, rfl, .ptr hi fun ob hb => ⟨(hx ob hb).1, fun e => ((hx ob hb).2 e).1⟩⟩
theorem xIndexAddr_ok {t : TypeId} {x x' ix ix' : Value} (hr : Rel P w0 H μ w) (hx : VR P H μ x x') (hi : VR P H μ ix ix') (h : xIndexAddr P t x ix H K) : Ans P w0 H μ (Instr.indexAt t x' ix') w K := by
  unfold xIndexAddr at h
  split at h
  · rename_i b o sp len c k i
    obtain ⟨e, n, h1, h2, h3, h4⟩ := h
    obtain ⟨u1, bb, u2⟩ := elm_spec h1
    obtain ⟨l1, l2, l3⟩ := lay_spec u2
    obtain ⟨a', c', rfl, hb⟩ := hx.base
    have hi' := hi.eq rfl
    subst hi'
    refine Ans.of hr (v' := .pointer (some (a'.add (i.toNat * n)))) ?_ h4 (hb.plus _).1
    simp [Instr.indexAt, asIntOf, Sem.run_bind, run_underlying u1, l2, h2, h3]
  · exact h.elim
/-- Values without addresses, two by two. -/
def xInt (op : BinOp) (k : IntKind) (x y : Int) : Option Value := match op with
  | .add => some (.int k (k.wrap (x + y)))
  | .sub => some (.int k (k.wrap (x - y)))
  | .mul => some (.int k (k.wrap (x * y)))
  | .quo => if y = 0 then none else some (.int k (k.wrap (x.tdiv y)))
  | .rem => if y = 0 then none else some (.int k (x.tmod y))
  | .and => some (.int k (k.wrap (BitVec.ofInt k.bits x &&& BitVec.ofInt k.bits y).toNat))
  | .or => some (.int k (k.wrap (BitVec.ofInt k.bits x ||| BitVec.ofInt k.bits y).toNat))
  | .xor => some (.int k (k.wrap (BitVec.ofInt k.bits x ^^^ BitVec.ofInt k.bits y).toNat))
  | .andNot => some (.int k (k.wrap (BitVec.ofInt k.bits x &&& ~~~ BitVec.ofInt k.bits y).toNat))
  | .eql => some (.bool (x == y))
  | .neq => some (.bool (x != y))
  | .lss => some (.bool (x < y))
  | .leq => some (.bool (x ≤ y))
  | .gtr => some (.bool (x > y))
  | .geq => some (.bool (x ≥ y))
  | _ => none
def xStr (op : BinOp) (x y : ByteArray) : Option Value := match op with
  | .add => if x.size + y.size ≤ 4611686018427387904 then some (.string (x ++ y)) else none
  | .eql => some (.bool (x.toList == y.toList))
  | .neq => some (.bool !(x.toList == y.toList))
  | .lss => some (.bool (Op.bytesLess x.toList y.toList))
  | .leq => some (.bool (Op.bytesLess x.toList y.toList || x.toList == y.toList))
  | .gtr => some (.bool !(Op.bytesLess x.toList y.toList || x.toList == y.toList))
  | .geq => some (.bool !(Op.bytesLess x.toList y.toList))
  | _ => none
def isB (P : Program) (t : TypeId) : Bool := match P.underlying t with | some .bool => true | _ => false
def isSl (P : Program) (t : TypeId) : Bool := match P.underlying t with | some (.slice _) => true | _ => false
def isIf (P : Program) (t : TypeId) : Bool := match P.underlying t with | some (.interface _) => true | _ => false
/-- Structs of numbers, texts and truths, compared: where each field lies, and what it is. -/
def eqfL (P : Program) : List Field → Option (List (Nat × Nat))
  | [] => some []
  | f :: r => if f.name = "_" then none else match P.underlying f.type, eqfL P r with
    | some (.int _), some l => some ((f.offset, 0) :: l)
    | some .string, some l => some ((f.offset, 1) :: l)
    | some .bool, some l => some ((f.offset, 2) :: l)
    | _, _ => none
def eqf (P : Program) (t : TypeId) : Option (List (Nat × Nat)) := match P.underlying t with
  | some (.struct fs) => if (P.stoodInHeld t || P.eqGuardType P.depth t) = true then none else eqfL P fs.toList
  | _ => none
def sameV (k : Nat) (a b : Value) : Option Bool := match k, a, b with
  | 0, .int k a, .int k' b => if k = k' then some (a == b) else none
  | 1, .string a, .string b => some (a.toList == b.toList)
  | 2, .bool a, .bool b => some (a == b)
  | _, _, _ => none
def andO (a b : Option Bool) : Option Bool := match a, b with
  | some a, some b => some (a && b)
  | _, _ => none
def sameO (k : Nat) (a b : Option Value) : Option Bool := match a, b with
  | some a, some b => sameV k a b
  | _, _ => none
def eqL (xs ys : List Value) : List (Nat × Nat) → Option Bool
  | [] => some true
  | (o, k) :: r => andO (sameO k xs[o]? ys[o]?) (eqL xs ys r)
def eqA (P : Program) (t : TypeId) (xs ys : List Value) : Option Bool := match eqf P t with
  | some l => eqL xs ys l
  | none => none
def isC : Operand → Bool
  | .const _ => true
  | _ => false
def xBin (P : Program) (op : BinOp) (t : TypeId) (c : Bool) (a b : Value) : Option Value := match a, b with
  | .int k x, .int k' y => match op with
    | .shl => if 0 ≤ y then some (.int k (k.wrap (x * 2 ^ (min y.toNat k.bits)))) else none
    | .shr => if 0 ≤ y then some (.int k (x.fdiv (2 ^ (min y.toNat k.bits)))) else none
    | op => if k = k' then xInt op k x y else none
  | .string x, .string y => xStr op x y
  | .bool x, .bool y => match op with
    | .eql => if isB P t = true then some (.bool (x == y)) else none
    | .neq => if isB P t = true then some (.bool !(x == y)) else none
    | _ => none
  | .slice a _ _, .slice none _ _ => match op with
    | .eql => if isSl P t = true then some (.bool a.isNone) else none
    | .neq => if isSl P t = true then some (.bool !a.isNone) else none
    | _ => none
  | .iface _ _, .nilIface => match op with
    | .eql => if isIf P t = true then some (.bool false) else none
    | .neq => if isIf P t = true then some (.bool true) else none
    | _ => none
  | .nilIface, .nilIface => match op with
    | .eql => if isIf P t = true ∧ c = true then some (.bool true) else none
    | .neq => if isIf P t = true ∧ c = true then some (.bool false) else none
    | _ => none
  | .agg xs, .agg ys => match op with
    | .eql => (eqA P t xs.toList ys.toList).map .bool
    | .neq => (eqA P t xs.toList ys.toList).map fun b => .bool (!b)
    | _ => none
  | _, _ => none
theorem xInt_plain {op : BinOp} {k : IntKind} {x y : Int} {v : Value} (h : xInt op k x y = some v) : plain v = true := by
  unfold xInt at h
  cases op <;> simp only at h <;> (try split at h) <;> first | (cases h; rfl) | cases h
theorem xStr_plain {op : BinOp} {x y : ByteArray} {v : Value} (h : xStr op x y = some v) : plain v = true := by
  unfold xStr at h
  cases op <;> simp only at h <;> (try split at h) <;> first | (cases h; rfl) | cases h
theorem xBin_plain {op : BinOp} {t : TypeId} {c : Bool} {a b v : Value} (h : xBin P op t c a b = some v) : plain v = true := by
  unfold xBin at h
  split at h
  · split at h
    · split at h <;> first | (cases h; rfl) | cases h
    · split at h <;> first | (cases h; rfl) | cases h
    · split at h
      · exact xInt_plain h
      · cases h
  · exact xStr_plain h
  all_goals (first | (split at h <;> first | (split at h <;> first | (cases h; rfl) | cases h) | (obtain ⟨b, _, rfl⟩ := Option.map_eq_some_iff.1 h; rfl) | cases h) | cases h)
theorem run_xInt {op : BinOp} {k : IntKind} {x y : Int} {v : Value} (h : xInt op k x y = some v) (t : TypeId) (w : World) : (binOp op t (.int k x) (.int k y)).run P w = .ok v w := by
  unfold xInt at h
  cases op <;> simp only at h <;> (try split at h) <;> first
    | (cases h; simp_all [binOp, Op.intArith, Op.intDiv, Op.intBits, Op.intCmp]; done)
    | (cases h; done)
theorem run_xStr {op : BinOp} {x y : ByteArray} {v : Value} (h : xStr op x y = some v) (t : TypeId) (w : World) : (binOp op t (.string x) (.string y)).run P w = .ok v w := by
  unfold xStr at h
  cases op <;> simp only at h <;> (try split at h) <;> first
    | (cases h; simp_all [binOp, Op.stringOp]; done)
    | (rename_i hs; cases h; simp only [binOp, Op.stringOp]; rw [if_neg (by simp only [IntKind.max, IntKind.signed, IntKind.bits]; simp; omega)]; rfl)
    | (cases h; done)
end
end Go.Proofs.YtcmflpdgfddmeaaW.XM

namespace Go.Proofs.YtcmflpdgfddmeaaW.XM
open Go.RowKit
section
variable {P : Program} {w0 : World} {H : Hp} {μ : Mp} {w : World} {K : Value → Hp → Prop}
theorem isB_spec {t : TypeId} (h : isB P t = true) : P.underlying t = some .bool := by
  unfold isB at h; split at h
  · assumption
  · cases h
theorem isSl_spec {t : TypeId} (h : isSl P t = true) : ∃ e, P.underlying t = some (.slice e) := by
  unfold isSl at h; split at h
  · exact ⟨_, by assumption⟩
  · cases h
theorem isIf_spec {t : TypeId} (h : isIf P t = true) : ∃ e, P.underlying t = some (.interface e) := by
  unfold isIf at h; split at h
  · exact ⟨_, by assumption⟩
  · cases h
theorem eq_bool {t : TypeId} (h : P.underlying t = some .bool) (d : Nat) (a b : Bool) (w : World) : (Op.equalIn (d + 1) t (.bool a) (.bool b)).run P w = .ok (a == b) w := by
  simp [Op.equalIn, run_underlying h]
theorem eq_slice {t e : TypeId} (h : P.underlying t = some (.slice e)) (d : Nat) (o : Option Addr) (n c n2 c2 : Nat) (w : World) : (Op.equalIn (d + 1) t (.slice o n c) (.slice none n2 c2)).run P w = .ok o.isNone w := by
  cases o <;> simp [Op.equalIn, run_underlying h]
theorem eq_iface {t : TypeId} {ms : Array (String × TypeId)} (h : P.underlying t = some (.interface ms)) (d : Nat) (u : TypeId) (v : Value) (w : World) : (Op.equalIn (d + 1) t (.iface u v) .nilIface).run P w = .ok false w ∧ (Op.equalIn (d + 1) t .nilIface .nilIface).run P w = .ok true w := by
  constructor <;> simp [Op.equalIn, run_underlying h]
theorem run_eql {t : TypeId} {x y : Value} {b : Bool} {w : World} (hx : ∀ d, (Op.equalIn (d + 1) t x y).run P w = .ok b w) (hn : ∀ op, binOp op t x y = match op with | .eql => (do pure (.bool (← Op.equal t x y))) | .neq => (do pure (.bool (!(← Op.equal t x y)))) | _ => binOp op t x y) :
    (binOp .eql t x y).run P w = .ok (.bool b) w ∧ (binOp .neq t x y).run P w = .ok (.bool !b) w := by
  have h := hx 9999
  have e : Op.equal t x y = Op.equalIn (9999 + 1) t x y := rfl
  rw [hn .eql, hn .neq]
  simp only [e, Sem.run_bind, h, Result.andThen_ok, Sem.run_pure, and_self]
theorem guard_nil (op : BinOp) (t : TypeId) (x y : Operand) {w : World} (hc : (isC x || isC y) = true) : (eqGuard op t x y .nilIface .nilIface).run P w = .ok () w := by
  unfold eqGuard
  cases x <;> cases y <;> first
    | exact absurd hc Bool.false_ne_true
    | (cases op <;> rfl)
theorem eqL_run : ∀ (fs : List Field) (l : List (Nat × Nat)), eqfL P fs = some l → ∀ {xs ys xs' ys' : Array Value} (b : Bool), AR P H μ xs xs' → AR P H μ ys ys' → eqL xs.toList ys.toList l = some b → ∀ d, (Op.eqFields (d + 1) xs' ys' fs).run P w = .ok b w
  | [], l, h, xs, ys, xs', ys', b, hx, hy, hb, d => by
    cases h
    cases hb
    rfl
  | f :: fs, l, h, xs, ys, xs', ys', b, hx, hy, hb, d => by
    simp only [eqfL] at h
    split at h
    · cases h
    · rename_i hn
      have key : ∀ (k : Nat) (l2 : List (Nat × Nat)), eqfL P fs = some l2 → l = (f.offset, k) :: l2 → (∀ (u v : Value) (r : Bool), sameV k u v = some r → plain u = true ∧ plain v = true ∧ (isAgg f.type).run P w = .ok false w ∧ (Op.equalIn (d + 1) f.type u v).run P w = .ok r w) → (Op.eqFields (d + 1) xs' ys' (f :: fs)).run P w = .ok b w := fun k l2 e1 e2 hk => by
        subst e2
        simp only [eqL] at hb
        cases hxo : xs.toList[f.offset]? with
        | none => rw [hxo] at hb; cases ys.toList[f.offset]? <;> cases hb
        | some u =>
          cases hyo : ys.toList[f.offset]? with
          | none => rw [hxo, hyo] at hb; cases hb
          | some v =>
            rw [hxo, hyo] at hb
            simp only [sameO] at hb
            cases hs : sameV k u v with
            | none => rw [hs] at hb; cases hb
            | some r =>
              cases hr : eqL xs.toList ys.toList l2 with
              | none => rw [hs, hr] at hb; cases hb
              | some r2 =>
                rw [hs, hr] at hb
                cases hb
                obtain ⟨p1, p2, p3, p4⟩ := hk u v r hs
                have hx2 : xs[f.offset]? = some u := by simpa using hxo
                have hy2 : ys[f.offset]? = some v := by simpa using hyo
                have lx : f.offset < xs'.size := by rw [← hx.1]; exact (Array.getElem?_eq_some_iff.1 hx2).1
                have ly : f.offset < ys'.size := by rw [← hy.1]; exact (Array.getElem?_eq_some_iff.1 hy2).1
                have ex : xs'[f.offset]? = some u := by
                  rw [Array.getElem?_eq_getElem lx, (hx.2 _ _ _ hx2 (Array.getElem?_eq_getElem lx)).eq p1]
                have ey : ys'[f.offset]? = some v := by
                  rw [Array.getElem?_eq_getElem ly, (hy.2 _ _ _ hy2 (Array.getElem?_eq_getElem ly)).eq p2]
                have ih := eqL_run fs l2 e1 r2 hx hy hr d
                have q1 : (part f.type xs' f.offset).run P w = .ok u w := by simp [part, p3, ex]
                have q2 : (part f.type ys' f.offset).run P w = .ok v w := by simp [part, p3, ey]
                unfold Op.eqFields
                rw [if_pos hn]
                simp only [Sem.run_bind, q1, q2, p4, Result.andThen_ok]
                cases r with
                | true => simpa using ih
                | false => simp
      have agg0 : ∀ dd : TypeDesc, P.underlying f.type = some dd → (match dd with | .struct _ | .array _ _ => true | _ => false) = false → (isAgg f.type).run P w = .ok false w := fun dd e h0 => by
        unfold isAgg
        rw [Sem.run_bind, run_underlying e w]
        cases dd <;> first | rfl | cases h0
      split at h
      · rename_i k' l2 hu e1
        cases h
        refine key 0 l2 e1 rfl fun u v r hs => ?_
        unfold sameV at hs
        split at hs
        · split at hs
          · rename_i e
            subst e
            cases hs
            exact ⟨rfl, rfl, agg0 _ hu rfl, run_equalIn_int w d f.type _ k' _ _ hu⟩
          · cases hs
        · exfalso; omega
        · exfalso; omega
        · cases hs
      · rename_i l2 hu e1
        cases h
        refine key 1 l2 e1 rfl fun u v r hs => ?_
        unfold sameV at hs
        split at hs
        · exfalso; omega
        · cases hs
          exact ⟨rfl, rfl, agg0 _ hu rfl, run_equalIn_string w d f.type _ _ hu⟩
        · exfalso; omega
        · cases hs
      · rename_i l2 hu e1
        cases h
        refine key 2 l2 e1 rfl fun u v r hs => ?_
        unfold sameV at hs
        split at hs
        · exfalso; omega
        · exfalso; omega
        · cases hs
          exact ⟨rfl, rfl, agg0 _ hu rfl, run_equalIn_bool' w d f.type _ _ hu⟩
        · cases hs
      · cases h
theorem eqA_run {t : TypeId} {x y : Operand} {xs ys xs' ys' : Array Value} {b : Bool} (hx : AR P H μ xs xs') (hy : AR P H μ ys ys') (h : eqA P t xs.toList ys.toList = some b) :
    ∀ op, (eqGuard op t x y (.agg xs') (.agg ys')).run P w = .ok () w ∧ (binOp .eql t (.agg xs') (.agg ys')).run P w = .ok (.bool b) w ∧ (binOp .neq t (.agg xs') (.agg ys')).run P w = .ok (.bool (!b)) w := by
  intro op
  unfold eqA at h
  cases he : eqf P t with
  | none => rw [he] at h; cases h
  | some l =>
    rw [he] at h
    simp only at h
    unfold eqf at he
    split at he
    · rename_i fs hu
      split at he
      · cases he
      · rename_i hg
        simp only [Bool.or_eq_true, not_or, Bool.not_eq_true] at hg
        have hf : P.fieldsOf t = fs := by unfold Program.fieldsOf; rw [hu]
        have hu2 : P.underlying t = some (.struct (P.fieldsOf t)) := by rw [hf]; exact hu
        have hr := eqL_run (w := w) fs.toList l he b hx hy h 9998
        have h2 : (Op.equalIn 10000 t (.agg xs') (.agg ys')).run P w = .ok b w := by
          rw [show (10000 : Nat) = 9999 + 1 from rfl, run_equalIn_struct w 9999 t xs' ys' hu2 hg.1, hf]
          exact hr
        exact ⟨run_eqGuard_agg w op t x y xs' ys' hg.2, by rw [run_eql_struct, h2]; rfl, by rw [run_neq_struct, h2]; rfl⟩
    · cases he
theorem xBin_ok {op : BinOp} {t : TypeId} {x y : Operand} {a b a' b' v : Value} (ha : VR P H μ a a') (hb : VR P H μ b b') (h : xBin P op t (isC x || isC y) a b = some v) :
    (do eqGuard op t x y a' b'; binOp op t a' b' : Sem Value).run P w = .ok v w := by
  have g : ∀ {a b : Value}, (match a, b with | .nilIface, .nilIface => False | .agg _, .agg _ => False | _, _ => True) → (eqGuard op t x y a b).run P w = .ok () w := fun {a b} hh => by
    unfold eqGuard
    split <;> simp only [Bool.not_true, Bool.not_false, Bool.false_eq_true, if_false, if_true, Sem.run_pure] <;> (try (split <;> first | exact hh.elim | rfl))
  unfold xBin at h
  split at h
  · rename_i k m k' n
    rw [ha.eq rfl, hb.eq rfl, Sem.run_bind, g trivial, Result.andThen_ok]
    split at h
    · split at h
      · cases h
        simp [binOp, Op.shift]
        omega
      · cases h
    · split at h
      · cases h
        simp [binOp, Op.shift]
        omega
      · cases h
    · split at h
      · rename_i e
        subst e
        exact run_xInt h t w
      · cases h
  · rw [ha.eq rfl, hb.eq rfl, Sem.run_bind, g trivial, Result.andThen_ok]
    exact run_xStr h t w
  · rw [ha.eq rfl, hb.eq rfl, Sem.run_bind, g trivial, Result.andThen_ok]
    split at h
    · split at h
      · rename_i e
        cases h
        exact (run_eql (fun d => eq_bool (isB_spec e) d _ _ w) (fun op => by cases op <;> rfl)).1
      · cases h
    · split at h
      · rename_i e
        cases h
        exact (run_eql (fun d => eq_bool (isB_spec e) d _ _ w) (fun op => by cases op <;> rfl)).2
      · cases h
    · cases h
  · rename_i o n c n2 c2
    have : ∃ o' c', a' = .slice o' n c' ∧ o'.isNone = o.isNone := by
      cases ha with
      | same hp => exact ⟨_, _, rfl, rfl⟩
      | sl _ _ => exact ⟨_, _, rfl, rfl⟩
    obtain ⟨o', c', rfl, ho⟩ := this
    rw [hb.eq rfl, Sem.run_bind, g trivial, Result.andThen_ok]
    rw [← ho] at h
    split at h
    · split at h
      · rename_i e
        obtain ⟨e1, he⟩ := isSl_spec e
        cases h
        exact (run_eql (fun d => eq_slice he d _ _ _ _ _ w) (fun op => by cases op <;> rfl)).1
      · cases h
    · split at h
      · rename_i e
        obtain ⟨e1, he⟩ := isSl_spec e
        cases h
        exact (run_eql (fun d => eq_slice he d _ _ _ _ _ w) (fun op => by cases op <;> rfl)).2
      · cases h
    · cases h
  · have : ∃ u u', a' = .iface u u' := by
      cases ha with
      | same hp => simp [plain] at hp
      | iface _ => exact ⟨_, _, rfl⟩
    obtain ⟨u, u', rfl⟩ := this
    rw [hb.eq rfl, Sem.run_bind, g trivial, Result.andThen_ok]
    split at h
    · split at h
      · rename_i e
        obtain ⟨e1, he⟩ := isIf_spec e
        cases h
        exact (run_eql (fun d => (eq_iface he d _ _ w).1) (fun op => by cases op <;> rfl)).1
      · cases h
    · split at h
      · rename_i e
        obtain ⟨e1, he⟩ := isIf_spec e
        cases h
        exact (run_eql (fun d => (eq_iface he d _ _ w).1) (fun op => by cases op <;> rfl)).2
      · cases h
    · cases h
  · have g2 := guard_nil (P := P) op t x y (w := w)
    rw [ha.eq rfl, hb.eq rfl, Sem.run_bind]
    split at h
    · split at h
      · rename_i e
        obtain ⟨e1, he⟩ := isIf_spec e.1
        cases h
        rw [g2 e.2]
        exact (run_eql (fun d => (eq_iface he d 0 .nilIface w).2) (fun op => by cases op <;> rfl)).1
      · cases h
    · split at h
      · rename_i e
        obtain ⟨e1, he⟩ := isIf_spec e.1
        cases h
        rw [g2 e.2]
        exact (run_eql (fun d => (eq_iface he d 0 .nilIface w).2) (fun op => by cases op <;> rfl)).2
      · cases h
    · cases h
  · rename_i xs ys
    have inv : ∀ {cs : Array Value} {v' : Value}, VR P H μ (.agg cs) v' → ∃ cs', v' = .agg cs' ∧ AR P H μ cs cs' := fun {cs v'} hv => by
      cases hv with
      | same hp => simp [plain] at hp
      | agg a b => exact ⟨_, rfl, a, b⟩
    obtain ⟨xs', rfl, hx⟩ := inv ha
    obtain ⟨ys', rfl, hy⟩ := inv hb
    split at h
    · obtain ⟨b, hb2, rfl⟩ := Option.map_eq_some_iff.1 h
      obtain ⟨g1, g2, g3⟩ := eqA_run (w := w) (x := x) (y := y) hx hy hb2 .eql
      rw [Sem.run_bind, g1, Result.andThen_ok, g2]
    · obtain ⟨b, hb2, rfl⟩ := Option.map_eq_some_iff.1 h
      obtain ⟨g1, g2, g3⟩ := eqA_run (w := w) (x := x) (y := y) hx hy hb2 .neq
      rw [Sem.run_bind, g1, Result.andThen_ok, g3]
    · cases h
  · cases h
def xUn (op : UnOp) (x : Value) : Option Value := match op, x with
  | .not, .bool b => some (.bool !b)
  | .neg, .int k n => some (.int k (k.wrap (0 - n)))
  | .xor, .int k n => xInt .xor k (if k.signed then -1 else k.max) n
  | _, _ => none
theorem xUn_ok {op : UnOp} {x x' v : Value} (hx : VR P H μ x x') (h : xUn op x = some v) : (Op.unary op x').run P w = .ok v w ∧ plain v = true := by
  unfold xUn at h
  split at h
  · rw [hx.eq rfl]; cases h; exact ⟨rfl, rfl⟩
  · rw [hx.eq rfl]; cases h; exact ⟨rfl, rfl⟩
  · rw [hx.eq rfl]; cases h; exact ⟨rfl, rfl⟩
  · cases h
/-- Whole numbers turned into others, and names of one kind for another. -/
def xConv (P : Program) (s d : TypeId) (x : Value) : Option Value := match x with
  | .int _ n => match P.underlying s, P.underlying d with
    | some (.int _), some (.int k) => some (.int k (k.wrap n))
    | some (.int _), some .string => some (.string (Utf8.encode n))
    | _, _ => none
  | .string b => match P.underlying s, P.underlying d with
    | some .string, some .string => some (.string b)
    | _, _ => none
  | _ => none
theorem xConv_ok {s d : TypeId} {x x' v : Value} (hx : VR P H μ x x') (h : xConv P s d x = some v) : (convert s d x').run P w = .ok v w ∧ plain v = true := by
  unfold xConv at h
  split at h
  · rw [hx.eq rfl]
    split at h
    · rename_i h1 h2
      cases h
      exact ⟨by simp [convert, Sem.run_bind, run_underlying h1, run_underlying h2, Conv.intToInt], rfl⟩
    · rename_i h1 h2
      cases h
      exact ⟨by simp [convert, Sem.run_bind, run_underlying h1, run_underlying h2, Conv.intToString], rfl⟩
    · cases h
  · rw [hx.eq rfl]
    split at h
    · rename_i h1 h2
      cases h
      exact ⟨by simp [convert, Sem.run_bind, run_underlying h1, run_underlying h2], rfl⟩
    · cases h
  · cases h
def isStr (P : Program) (t : TypeId) : Bool := match P.underlying t with | some .string => true | _ => false
theorem isStr_spec {t : TypeId} (h : isStr P t = true) : P.underlying t = some .string := by
  unfold isStr at h; split at h
  · assumption
  · cases h
def xIndex (P : Program) (t : TypeId) (x ix : Value) : Option Value := match x, ix with
  | .string s, .int _ i => if isStr P t = true ∧ 0 ≤ i ∧ i < s.size then some (.int .u8 ((s.data.getD i.toNat 0).toNat : Int)) else none
  | _, _ => none
theorem xIndex_ok {t : TypeId} {x ix x' ix' v : Value} (hx : VR P H μ x x') (hi : VR P H μ ix ix') (h : xIndex P t x ix = some v) : (Instr.index t x' ix').run P w = .ok v w ∧ plain v = true := by
  unfold xIndex at h
  split at h
  · rw [hx.eq rfl, hi.eq rfl]
    split at h
    · rename_i hc
      obtain ⟨c1, c2, c3⟩ := hc
      cases h
      rename_i s k i
      refine ⟨?_, rfl⟩
      have hlt : i.toNat < s.size := by omega
      have hg : s[i.toNat]? = some (s.data.getD i.toNat 0) := by
        rw [getElem?_pos s i.toNat hlt]
        have hlt2 : i.toNat < s.data.size := hlt
        have e3 : s.data.getD i.toNat 0 = s.data[i.toNat] := by unfold Array.getD; rw [dif_pos hlt2]; rfl
        rw [e3]
        rfl
      simp [Instr.index, asIntOf, Sem.run_bind, run_underlying (isStr_spec c1), c2, hg]
    · cases h
  · cases h
/-- Bounds of a part. -/
def bnd (x : Option Value) (d : Nat) : Option Int := match x with
  | none => some d
  | some (.int _ i) => some i
  | _ => none
def ownB (P : Program) (H : Hp) (n b : Nat) : Option Nat → Prop
  | none => True
  | some tag => ∃ ty cs bb, H[b]? = some (some (.row ty cs)) ∧ cs.length = tag ∧ lay P ty = some (bb, n)
def xSlice (P : Program) (t : TypeId) (x : Value) (lo hi mx : Option Value) (H : Hp) (K : Value → Hp → Prop) : Prop := match x with
  | .string s => isStr P t = true ∧ mx.isSome = false ∧ ∃ l h : Int, bnd lo 0 = some l ∧ bnd hi s.size = some h ∧ 0 ≤ l ∧ l ≤ h ∧ h ≤ s.size ∧ K (.string (s.extract l.toNat h.toNat)) H
  | .slice none len cap => ∃ e n, elm P t = some (e, n) ∧ (mx.isSome = true → hi.isSome = true) ∧ ∃ l h m : Int, bnd lo 0 = some l ∧ bnd hi len = some h ∧ bnd mx cap = some m ∧ 0 ≤ l ∧ l ≤ h ∧ h ≤ m ∧ m ≤ cap ∧ K (.slice none (h.toNat - l.toNat) (m.toNat - l.toNat)) H
  | .slice (some ⟨b, o, sp⟩) len cap => ∃ e n, elm P t = some (e, n) ∧ (mx.isSome = true → hi.isSome = true) ∧ ∃ l h m : Int, bnd lo 0 = some l ∧ bnd hi len = some h ∧ bnd mx cap = some m ∧ 0 ≤ l ∧ l ≤ h ∧ h ≤ m ∧ m ≤ cap ∧ ownB P H n b sp ∧
      ((∃ tg, sp = some (tg + 1) ∧ mx.isSome = false ∧ l = cap ∧ K (.slice (some ⟨b, o, some tg⟩) 0 0) H) ∨ ((sp.isSome = true → mx.isSome = false → l = 0 ∨ l < cap) ∧ K (.slice (some ⟨b, if m.toNat = l.toNat then o else o + l.toNat * n, sp⟩) (h.toNat - l.toNat) (m.toNat - l.toNat)) H) ∨
       (mx.isSome = true ∧ K (xs (.slice (some ⟨b, if m.toNat = l.toNat then o else o + l.toNat * n, sp⟩) (h.toNat - l.toNat) (m.toNat - l.toNat))) H))
  | _ => False
/-- A part of a slice whose capacity is known. -/
def xSliceX (P : Program) (t : TypeId) (b o : Nat) (sp : Option Nat) (len cap : Nat) (lo hi mx : Option Value) (H : Hp) (K : Value → Hp → Prop) : Prop :=
  ∃ e n, elm P t = some (e, n) ∧ (mx.isSome = true → hi.isSome = true) ∧ ∃ l h m : Int, bnd lo 0 = some l ∧ bnd hi len = some h ∧ bnd mx cap = some m ∧ 0 ≤ l ∧ l ≤ h ∧ h ≤ m ∧ m ≤ cap ∧ ownB P H n b sp ∧
    K (xs (.slice (some ⟨b, if m.toNat = l.toNat then o else o + l.toNat * n, sp⟩) (h.toNat - l.toNat) (m.toNat - l.toNat))) H
def xSliceL (P : Program) (t : TypeId) (fi : List Value) (lo hi mx : Option Value) (H : Hp) (K : Value → Hp → Prop) : Prop := match fi with
  | [.slice (some ⟨b, o, sp⟩) len cap] => xSliceX P t b o sp len cap lo hi mx H K
  | _ => False
def xSliceA (P : Program) (t : TypeId) (x : Value) (lo hi mx : Option Value) (H : Hp) (K : Value → Hp → Prop) : Prop := match x with
  | .func (.method _) fi _ => xSliceL P t fi.toList lo hi mx H K
  | x => xSlice P t x lo hi mx H K
theorem bnd_same {lo lo' : Option Value} (h : lo.isSome = lo'.isSome) (hv : ∀ v v', lo = some v → lo' = some v' → VR P H μ v v') {d : Nat} {i : Int} (hb : bnd lo d = some i) : bnd lo' d = some i := by
  unfold bnd at hb
  split at hb
  · cases lo' with
    | none => exact hb
    | some _ => cases h
  · cases lo' with
    | none => cases h
    | some u =>
      rw [(hv _ _ rfl rfl).eq rfl]; exact hb
  · cases hb
theorem bounds_ok {isS : Bool} {len cap : Nat} {lo hi mx : Option Value} {l h m : Int} (h1 : bnd lo 0 = some l) (h2 : bnd hi len = some h) (h0 : bnd mx cap = some m) (hmx : mx.isSome = true → hi.isSome = true) (h3 : 0 ≤ l) (h4 : l ≤ h) (h5 : h ≤ m) (h6 : m ≤ cap) (w : World) :
    (Instr.sliceBounds isS len cap lo hi mx).run P w = .ok (l.toNat, h.toNat, m.toNat) w := by
  have sb : ∀ (k : IntKind) (i : Int) (y : Nat) (c : BoundsCode), 0 ≤ i → i ≤ y → (Instr.sliceBound (.int k i) y c).run P w = .ok i.toNat w := fun k i y c a b => by
    simp [Instr.sliceBound, asIntOf, a, b]
  have hh : 0 ≤ h := by omega
  have hm : 0 ≤ m := by omega
  unfold bnd at h1 h2 h0
  split at h0
  · cases h0
    split at h1
    · cases h1
      split at h2
      · cases h2; simp [Instr.sliceBounds]
      · cases h2; simp [Instr.sliceBounds, sb _ _ cap _ hh h5]
      · cases h2
    · cases h1
      split at h2
      · cases h2; simp [Instr.sliceBounds, sb _ _ len _ h3 h4]
      · cases h2; simp [Instr.sliceBounds, sb _ _ cap _ hh h5, sb _ _ h.toNat _ h3 (by omega)]
      · cases h2
    · cases h1
  · cases h0
    split at h1
    · cases h1
      split at h2
      · simp at hmx
      · cases h2; simp [Instr.sliceBounds, sb _ _ cap _ hm h6, sb _ _ m.toNat _ hh (by omega)]
      · cases h2
    · cases h1
      split at h2
      · simp at hmx
      · cases h2; simp [Instr.sliceBounds, sb _ _ cap _ hm h6, sb _ _ m.toNat _ hh (by omega), sb _ _ h.toNat _ h3 (by omega)]
      · cases h2
    · cases h1
  · cases h0
theorem xSlice_ok {t : TypeId} {x x' : Value} {lo hi mx lo' hi' mx' : Option Value} (hr : Rel P w0 H μ w) (hx : VR P H μ x x') (hl : lo.isSome = lo'.isSome) (hlv : ∀ v v', lo = some v → lo' = some v' → VR P H μ v v')
    (hh : hi.isSome = hi'.isSome) (hhv : ∀ v v', hi = some v → hi' = some v' → VR P H μ v v') (hm : mx.isSome = mx'.isSome) (hmv : ∀ v v', mx = some v → mx' = some v' → VR P H μ v v') (h : xSlice P t x lo hi mx H K) : Ans P w0 H μ (Instr.sliceAt t x' lo' hi' mx') w K := by
  unfold xSlice at h
  split at h
  · rename_i s
    obtain ⟨h1, h2, l, h', b1, b2, b3, b4, b5, hk⟩ := h
    rw [hx.eq rfl]
    cases mx' with
    | some _ => rw [h2] at hm; cases hm
    | none =>
      have q := bounds_ok (P := P) (isS := false) (mx := none) (cap := s.size) (bnd_same hl hlv b1) (bnd_same hh hhv b2) rfl (by simp) b3 b4 b5 (Int.le_refl _) w
      refine Ans.of hr (v' := .string (s.extract l.toNat h'.toNat)) ?_ hk (.same rfl)
      simp [Instr.sliceAt, Instr.slice, Sem.run_bind, run_underlying (isStr_spec h1), q]
  · rename_i len cap
    obtain ⟨e, n, h1, hmx, l, h', m, b1, b2, b0, b3, b4, b5, b6, hk⟩ := h
    obtain ⟨u1, bb, u2⟩ := elm_spec h1
    obtain ⟨l1, l2, l3⟩ := lay_spec u2
    rw [hx.eq rfl]
    have q := bounds_ok (P := P) (isS := true) (bnd_same hl hlv b1) (bnd_same hh hhv b2) (bnd_same hm hmv b0) (by rw [← hm, ← hh]; exact hmx) b3 b4 b5 b6 w
    refine Ans.of hr (v' := .slice none (h'.toNat - l.toNat) (m.toNat - l.toNat)) ?_ hk (.same rfl)
    simp [Instr.sliceAt, Instr.slice, Sem.run_bind, run_underlying u1, q, l2]
  · rename_i b o sp len cap
    obtain ⟨e, n, h1, hmx, l, h', m, b1, b2, b0, b3, b4, b5, b6, hown, hk⟩ := h
    obtain ⟨u1, bb, u2⟩ := elm_spec h1
    obtain ⟨l1, l2, l3⟩ := lay_spec u2
    have hmx' : mx'.isSome = true → hi'.isSome = true := by rw [← hm, ← hh]; exact hmx
    cases sp with
    | none =>
      rw [hx.eq rfl]
      have q := bounds_ok (P := P) (isS := true) (bnd_same hl hlv b1) (bnd_same hh hhv b2) (bnd_same hm hmv b0) hmx' b3 b4 b5 b6 w
      rcases hk with ⟨_, hk, _⟩ | ⟨_, hk⟩ | ⟨_, hk⟩
      · cases hk
      · refine Ans.of hr (v' := .slice (some ⟨b, if m.toNat = l.toNat then o else o + l.toNat * n, none⟩) (h'.toNat - l.toNat) (m.toNat - l.toNat)) ?_ hk (.same rfl)
        simp only [Instr.sliceAt, Instr.slice, Sem.run_bind, run_underlying u1, q, l2, Result.andThen_ok, Sem.run_pure, Option.map_some, add_at' _ _ (rfl : (⟨b, o, none⟩ : Addr).spot = none)]
        split <;> rfl
      · refine Ans.of hr (v' := .slice (some ⟨b, if m.toNat = l.toNat then o else o + l.toNat * n, none⟩) (h'.toNat - l.toNat) (m.toNat - l.toNat)) ?_ hk (.ex (.same rfl))
        simp only [Instr.sliceAt, Instr.slice, Sem.run_bind, run_underlying u1, q, l2, Result.andThen_ok, Sem.run_pure, Option.map_some, add_at' _ _ (rfl : (⟨b, o, none⟩ : Addr).spot = none)]
        split <;> rfl
    | some tag =>
      obtain ⟨ty, cs, b', w1, w2, w3⟩ := hown
      cases hx with
      | same hp => simp [plain] at hp
      | @sl _ _ _ _ _ c' a hi2 hx2 =>
        obtain ⟨rfl, p2, p3⟩ := (hx2 _ w1).2 w2.symm
        obtain ⟨r1, r2, _⟩ := hr.row b ty cs w1
        rw [r2, (lay_spec w3).2.2] at p3
        have hmm : ∃ m', bnd mx' c' = some m' ∧ h' ≤ m' ∧ m' ≤ c' ∧ m ≤ m' ∧ (mx.isSome = true → m' = m) ∧ (mx.isSome = false → m' = c' ∧ m = cap) := by
          cases hmxv : mx with
          | none =>
            rw [hmxv] at hm b0
            cases mx' with
            | some _ => cases hm
            | none => cases b0; exact ⟨c', rfl, by omega, Int.le_refl _, by omega, by simp, fun _ => ⟨rfl, rfl⟩⟩
          | some mv =>
            rw [hmxv] at hm b0 hmv
            cases mx' with
            | none => cases hm
            | some mv' =>
              refine ⟨m, ?_, b5, by omega, Int.le_refl _, fun _ => rfl, by simp⟩
              have := bnd_same (lo := some mv) (lo' := some mv') rfl hmv (d := cap) b0
              unfold bnd at this ⊢
              split at this
              · rename_i hc; cases hc
              · rename_i hc; cases hc; exact this
              · cases this
        obtain ⟨m', c1, c2, c3, c4, c5, c6⟩ := hmm
        have q := bounds_ok (P := P) (isS := true) (cap := c') (bnd_same hl hlv b1) (bnd_same hh hhv b2) c1 hmx' b3 b4 c2 c3 w
        have hrun : (Instr.sliceAt t (.slice (some ⟨μ.m b, o, none⟩) len c') lo' hi' mx').run P w = .ok (.slice (some ⟨μ.m b, if m'.toNat = l.toNat then o else o + l.toNat * n, none⟩) (h'.toNat - l.toNat) (m'.toNat - l.toNat)) w := by
          simp only [Instr.sliceAt, Instr.slice, Sem.run_bind, run_underlying u1, q, l2, Result.andThen_ok, Sem.run_pure, Option.map_some, add_at' _ _ (rfl : (⟨μ.m b, o, none⟩ : Addr).spot = none)]
          split <;> rfl
        rcases hk with ⟨tg, k0, k2, k4, hk⟩ | ⟨k1, hk⟩ | ⟨hms, hk⟩
        · cases k0
          refine Ans.of hr hrun hk ?_
          have e1 : h'.toNat - l.toNat = 0 := by have := (c6 k2).2; omega
          rw [e1]
          refine .sl hi2 fun ob hb => ?_
          rw [w1] at hb
          cases hb
          have : (Ob.row ty cs).tag = tg + 1 := w2
          exact ⟨by rw [this]; omega, fun e => by rw [this] at e; omega⟩
        · refine Ans.of hr hrun hk (.sl hi2 fun ob hb => ?_)
          rw [w1] at hb
          cases hb
          refine ⟨(hx2 _ w1).1, fun _ => ⟨?_, by omega, ?_⟩⟩
          · cases hms : mx.isSome with
            | true => rw [c5 hms]
            | false =>
              obtain ⟨d1, d2⟩ := c6 hms
              rcases k1 rfl hms with d3 | d3
              · subst d3; simp
              · rw [if_neg (by omega), if_neg (by omega)]
          · rw [r2, (lay_spec w3).2.2]
            split
            · rename_i e
              have : (m'.toNat - l.toNat) * n ≤ c' * n := Nat.mul_le_mul_right _ (by omega)
              omega
            · have : l.toNat * n + (m'.toNat - l.toNat) * n ≤ c' * n := by rw [← Nat.add_mul]; exact Nat.mul_le_mul_right _ (by omega)
              omega
        · rw [c5 hms] at hrun
          refine Ans.of hr hrun hk (.ex (.sl hi2 fun ob hb => ?_))
          rw [w1] at hb
          cases hb
          refine ⟨(hx2 _ w1).1, fun _ => ⟨rfl, Nat.le_refl _, ?_⟩⟩
          rw [r2, (lay_spec w3).2.2]
          split
          · rename_i e
            have : (m.toNat - l.toNat) * n ≤ c' * n := Nat.mul_le_mul_right _ (by omega)
            omega
          · have : l.toNat * n + (m.toNat - l.toNat) * n ≤ c' * n := by rw [← Nat.add_mul]; exact Nat.mul_le_mul_right _ (by omega)
            omega
  · exact h.elim
theorem xSliceA_ok {t : TypeId} {x x' : Value} {lo hi mx lo' hi' mx' : Option Value} (hr : Rel P w0 H μ w) (hx : VR P H μ x x') (hl : lo.isSome = lo'.isSome) (hlv : ∀ v v', lo = some v → lo' = some v' → VR P H μ v v')
    (hh : hi.isSome = hi'.isSome) (hhv : ∀ v v', hi = some v → hi' = some v' → VR P H μ v v') (hm : mx.isSome = mx'.isSome) (hmv : ∀ v v', mx = some v → mx' = some v' → VR P H μ v v') (h : xSliceA P t x lo hi mx H K) : Ans P w0 H μ (Instr.sliceAt t x' lo' hi' mx') w K := by
  unfold xSliceA at h
  split at h
  · unfold xSliceL at h
    split at h
    · rename_i fi ca b o sp len cap hfi
      obtain ⟨e, n, h1, hmx, l, h', m, b1, b2, b0, b3, b4, b5, b6, hown, hk⟩ := h
      obtain ⟨u1, bb, u2⟩ := elm_spec h1
      obtain ⟨l1, l2, l3⟩ := lay_spec u2
      have hmx' : mx'.isSome = true → hi'.isSome = true := by rw [← hm, ← hh]; exact hmx
      cases hx with
      | same hp => simp [plain] at hp
      | @ex a b' n2 c2 hx =>
        simp only [List.cons.injEq, Value.slice.injEq, Option.some.injEq, and_true] at hfi
        obtain ⟨rfl, rfl, rfl⟩ := hfi
        have q := bounds_ok (P := P) (isS := true) (bnd_same hl hlv b1) (bnd_same hh hhv b2) (bnd_same hm hmv b0) hmx' b3 b4 b5 b6 w
        cases sp with
        | none =>
          cases hx with
          | same hp =>
            refine Ans.of hr (v' := .slice (some ⟨b, if m.toNat = l.toNat then o else o + l.toNat * n, none⟩) (h'.toNat - l.toNat) (m.toNat - l.toNat)) ?_ hk (.ex (.same rfl))
            simp only [Instr.sliceAt, Instr.slice, Sem.run_bind, run_underlying u1, q, l2, Result.andThen_ok, Sem.run_pure, Option.map_some, add_at' _ _ (rfl : (⟨b, o, none⟩ : Addr).spot = none)]
            split <;> rfl
        | some tag =>
          obtain ⟨ty, cs, b3', w1, w2, w3⟩ := hown
          cases hx with
          | same hp => simp [plain] at hp
          | @sl _ _ _ _ _ c' a hi2 hx2 =>
            obtain ⟨rfl, p2, p3⟩ := (hx2 _ w1).2 w2.symm
            obtain ⟨r1, r2, _⟩ := hr.row b ty cs w1
            rw [r2, (lay_spec w3).2.2] at p3
            have hrun : (Instr.sliceAt t (.slice (some ⟨μ.m b, o, none⟩) n2 c2) lo' hi' mx').run P w = .ok (.slice (some ⟨μ.m b, if m.toNat = l.toNat then o else o + l.toNat * n, none⟩) (h'.toNat - l.toNat) (m.toNat - l.toNat)) w := by
              simp only [Instr.sliceAt, Instr.slice, Sem.run_bind, run_underlying u1, q, l2, Result.andThen_ok, Sem.run_pure, Option.map_some, add_at' _ _ (rfl : (⟨μ.m b, o, none⟩ : Addr).spot = none)]
              split <;> rfl
            refine Ans.of hr hrun hk (.ex (.sl hi2 fun ob hb => ?_))
            rw [w1] at hb
            cases hb
            refine ⟨(hx2 _ w1).1, fun _ => ⟨rfl, Nat.le_refl _, ?_⟩⟩
            rw [r2, (lay_spec w3).2.2]
            split
            · rename_i e
              have : (m.toNat - l.toNat) * n ≤ c2 * n := Nat.mul_le_mul_right _ (by omega)
              omega
            · have : l.toNat * n + (m.toNat - l.toNat) * n ≤ c2 * n := by rw [← Nat.add_mul]; exact Nat.mul_le_mul_right _ (by omega)
              omega
    · exact h.elim
  · exact xSlice_ok hr hx hl hlv hh hhv hm hmv h
end
end Go.Proofs.YtcmflpdgfddmeaaW.XM

namespace Go.Proofs.YtcmflpdgfddmeaaW.XM
open Go.RowKit
section
variable {P : Program} {w0 : World} {H : Hp} {μ : Mp} {w : World} {K : Value → Hp → Prop}
theorem AR.put {cs : List Value} {cs' : Array Value} (h : AR P H μ cs.toArray cs') {vs vs' : List Value} (hv : AR P H μ vs.toArray vs'.toArray) (o : Nat) : AR P H μ (putL cs o vs).toArray (putA cs' o vs') := by
  have hsz : cs.length = cs'.size := by simpa using h.1
  have hl : vs.length = vs'.length := by simpa using hv.1
  refine ⟨by simp [putL_len, putA_size, hsz], fun j v v' h1 h2 => ?_⟩
  simp only [List.getElem?_toArray] at h1
  rw [putL_get] at h1
  rw [putA_get, putL_get] at h2
  by_cases hc : o ≤ j ∧ j < o + vs.length ∧ j < cs.length
  · rw [if_pos hc] at h1
    rw [if_pos (by simp; omega)] at h2
    exact hv.2 _ _ _ (by simpa using h1) (by simpa using h2)
  · rw [if_neg hc] at h1
    rw [if_neg (by simp; omega)] at h2
    exact h.2 _ _ _ (by simpa using h1) (by simpa using h2)
def fillL (place : Nat → Option (Nat × Nat)) : List Value → List (Nat × Value) → Option (List Value)
  | cs, [] => some cs
  | cs, (i, v) :: r => match place i with
    | none => none
    | some (off, size) => if v.cells.toList.length = size ∧ off + size ≤ cs.length then fillL place (putL cs off v.cells.toList) r else none
theorem fold_put (o : Nat) : ∀ (l : List Value) (k : Nat) (cs : Array Value), (l.zipIdx k).foldl (fun cs (x : Value × Nat) => cs.setIfInBounds (o + x.2) x.1) cs = putA cs (o + k) l
  | [], _, _ => rfl
  | v :: r, k, cs => by
    rw [List.zipIdx_cons, List.foldl_cons, fold_put o r (k + 1), putA]
    rfl
theorem fillL_ok {place : Nat → Option (Nat × Nat)} : ∀ (ps ps' : List (Nat × Value)) (cs : List Value) (cs' : Array Value) (c : List Value), fillL place cs ps = some c → AR P H μ cs.toArray cs' → ps.length = ps'.length →
    (∀ (j : Nat) (p p' : Nat × Value), ps[j]? = some p → ps'[j]? = some p' → p.1 = p'.1 ∧ VR P H μ p.2 p'.2) → ∃ c', Instr.fill place cs' ps' = some c' ∧ AR P H μ c.toArray c'
  | [], [], cs, cs', c, h, ha, _, _ => by cases h; exact ⟨cs', rfl, ha⟩
  | [], _ :: _, _, _, _, _, _, hl, _ => by simp at hl
  | _ :: _, [], _, _, _, _, _, hl, _ => by simp at hl
  | (i, v) :: r, (i', v') :: r', cs, cs', c, h, ha, hl, hv => by
    obtain ⟨e, q⟩ := hv 0 _ _ rfl rfl
    simp only at e q
    subst e
    simp only [fillL] at h
    simp only [Instr.fill]
    cases hp : place i with
    | none => rw [hp] at h; cases h
    | some p =>
      obtain ⟨off, size⟩ := p
      rw [hp] at h
      simp only at h ⊢
      split at h
      · rename_i hc
        have hcl := q.cells
        have e1 : v'.cells.size = size := by rw [← hcl.1]; simpa using hc.1
        have e2 : cs'.size = cs.length := by have := ha.1; simp at this; omega
        rw [if_neg (by simp [e1, e2]; omega)]
        have hf : v'.cells.zipIdx.foldl (fun cs (x : Value × Nat) => cs.setIfInBounds (off + x.2) x.1) cs' = putA cs' off v'.cells.toList := by
          rw [← Array.foldl_toList, Array.toList_zipIdx]
          simpa using fold_put off v'.cells.toList 0 cs'
        have := fillL_ok r r' (putL cs off v.cells.toList) (putA cs' off v'.cells.toList) c h (AR.put ha (by simpa using hcl) off) (by simpa using hl) (fun j p p' a b => hv (j + 1) p p' a b)
        rw [← hf] at this
        exact this
      · cases h
/-- The places of a struct's fields. -/
def plc (P : Program) (t : TypeId) : Option (List (Nat × Nat)) := match P.underlying t with
  | some (.struct fs) => fs.toList.mapM fun f => (lay P f.type).map fun p => (f.offset, p.2)
  | _ => none
theorem mapM_run {α β : Type} (g : α → Sem β) (r : α → Option β) (hg : ∀ a b, r a = some b → ∀ w, (g a).run P w = .ok b w) : ∀ (l : List α) (o : List β), l.mapM r = some o → ∀ w, (l.mapM g).run P w = .ok o w
  | [], o, h, w => by simp at h; subst h; simp
  | a :: l, o, h, w => by
    simp only [List.mapM_cons, Option.bind_eq_bind, Option.bind_eq_some_iff] at h
    obtain ⟨b, h1, bs, h2, h3⟩ := h
    cases h3
    simp [List.mapM_cons, hg a b h1, mapM_run g r hg l bs h2]
theorem plc_spec {t : TypeId} {ps : List (Nat × Nat)} (h : plc P t = some ps) : ∃ fs : Array Field, P.underlying t = some (.struct fs) ∧ ∀ w, (fs.mapM fun f => do pure (f.offset, ← sizeOf f.type) : Sem (Array (Nat × Nat))).run P w = .ok ps.toArray w := by
  unfold plc at h
  split at h
  · rename_i fs hu
    refine ⟨fs, hu, fun w => ?_⟩
    rw [Array.mapM_eq_mapM_toList]
    have := mapM_run (P := P) (fun f : Field => (do pure (f.offset, ← sizeOf f.type) : Sem (Nat × Nat))) (fun f => (lay P f.type).map fun p => (f.offset, p.2)) (fun a b hab w => by
      cases hl : lay P a.type with
      | none => rw [hl] at hab; cases hab
      | some p =>
        obtain ⟨bb, n⟩ := p
        rw [hl] at hab
        cases hab
        simp [(lay_spec hl).2.1]) fs.toList ps h w
    rw [Sem.run_map, this]
    rfl
  · cases h
def xBuild (P : Program) (t : TypeId) (ps : List (Nat × Value)) (H : Hp) (K : Value → Hp → Prop) : Prop := ∃ z pl c, zer P t = some z ∧ plc P t = some pl ∧ fillL (fun i => pl[i]?) z ps = some c ∧ K (.agg c.toArray) H
theorem AR.zero {z : Value} {cs : List Value} (hz : z.cells.toList = cs) (h : ∀ v ∈ cs, plain v = true) : AR P H μ cs.toArray z.cells := by
  have := AR.list (P := P) (H := H) (μ := μ) h
  have e : z.cells = cs.toArray := by rw [← hz]
  rw [e]
  exact this
theorem xBuild_ok {t : TypeId} {ps : List (Nat × Value)} {ps' : Array (Nat × Value)} (hr : Rel P w0 H μ w) (hl : ps.length = ps'.size) (hv : ∀ (j : Nat) (p p' : Nat × Value), ps[j]? = some p → ps'[j]? = some p' → p.1 = p'.1 ∧ VR P H μ p.2 p'.2)
    (h : xBuild P t ps H K) : Ans P w0 H μ (Instr.build t ps') w K := by
  obtain ⟨z, pl, c, h1, h2, h3, h4⟩ := h
  obtain ⟨zv, z1, z2, z3⟩ := zer_spec h1
  obtain ⟨fs, f1, f2⟩ := plc_spec h2
  obtain ⟨c', c1, c2⟩ := fillL_ok ps ps'.toList z zv.cells c h3 (AR.zero z2 fun v hv => (z3 v hv).1) (by simpa using hl) (fun j p p' a b => hv j p p' a (by simpa using b))
  refine Ans.of hr (v' := .agg c') ?_ h4 (.agg c2.1 c2.2)
  have e : (fun i : Nat => pl.toArray[i]?) = fun i : Nat => pl[i]? := by funext i; simp
  simp only [Instr.build, Sem.run_bind, z1, run_underlying f1, f2, Result.andThen_ok, e, c1, Sem.run_pure]
def xBuildSlice (P : Program) (t : TypeId) (len : Nat) (ps : List (Nat × Value)) (H : Hp) (K : Value → Hp → Prop) : Prop := ∃ e n z c, elm P t = some (e, n) ∧ zer P e = some z ∧ z.length = n ∧ len * n ≤ 16777216 ∧ fillL (fun i => some (i * n, n)) (List.replicate len z).flatten ps = some c ∧ c.all (·.oneCell') = true ∧
  K (.slice (some ⟨H.length, 0, some (len * n)⟩) len len) (H ++ [some (.row e c)])
theorem rep_cells (z : List Value) (a : Array Value) (ha : a.toList = z) : ∀ n : Nat, ((Array.range (n * a.size)).map (a[· % a.size]!)).toList = (List.replicate n z).flatten := by
  intro n
  have hs : a.size = z.length := by rw [← ha]; simp
  apply List.ext_getElem?
  intro j
  have hfl : ∀ n j : Nat, ((List.replicate n z).flatten)[j]? = if j < n * z.length then z[j % z.length]? else none := by
    intro n
    induction n with
    | zero => intro j; simp
    | succ n ih =>
      intro j
      rw [List.replicate_succ, List.flatten_cons, List.getElem?_append]
      by_cases h : j < z.length
      · rw [if_pos h, Nat.mod_eq_of_lt h, if_pos (by rw [Nat.succ_mul]; omega)]
      · rw [if_neg h, ih]
        obtain ⟨k, rfl⟩ : ∃ k, j = k + z.length := ⟨j - z.length, by omega⟩
        simp only [Nat.add_sub_cancel, Nat.add_mod_right, Nat.succ_mul]
        by_cases h2 : k < n * z.length
        · rw [if_pos h2, if_pos (by omega)]
        · rw [if_neg h2, if_neg (by omega)]
  rw [hfl]
  simp only [Array.toList_map, Array.toList_range, List.getElem?_map]
  by_cases h : j < n * z.length
  · rw [if_pos h, List.getElem?_range (by rw [hs]; exact h)]
    have h0 : 0 < z.length := by
      rcases Nat.eq_zero_or_pos z.length with e | e
      · rw [e] at h; omega
      · exact e
    have hm : j % a.size < a.size := Nat.mod_lt _ (by omega)
    have hm2 : j % z.length < z.length := Nat.mod_lt _ h0
    simp only [Option.map_some]
    rw [getElem!_pos a (j % a.size) hm]
    rw [List.getElem?_eq_getElem hm2]
    congr 1
    subst ha
    simp
  · rw [if_neg h, List.getElem?_eq_none (by rw [hs]; simp; omega)]
    rfl
theorem flatten_plain {z : List Value} (h : ∀ v ∈ z, plain v = true ∧ v.oneCell' = true) (n : Nat) : ∀ v ∈ (List.replicate n z).flatten, plain v = true ∧ v.oneCell' = true := by
  intro v hv
  simp only [List.mem_flatten, List.mem_replicate] at hv
  obtain ⟨l, ⟨_, rfl⟩, h2⟩ := hv
  exact h v h2
theorem fillL_len {place : Nat → Option (Nat × Nat)} : ∀ (ps : List (Nat × Value)) (cs c : List Value), fillL place cs ps = some c → c.length = cs.length
  | [], cs, c, h => by cases h; rfl
  | (i, v) :: r, cs, c, h => by
    simp only [fillL] at h
    split at h
    · cases h
    · split at h
      · rw [fillL_len r _ c h, putL_len]
      · cases h
theorem flatten_len (z : List Value) : ∀ n : Nat, ((List.replicate n z).flatten).length = n * z.length
  | 0 => by simp
  | n + 1 => by rw [List.replicate_succ, List.flatten_cons, List.length_append, flatten_len z n, Nat.succ_mul, Nat.add_comm]
/-- A new row, as a slice. -/
theorem pushS_ok (hr : Rel P w0 H μ w) (t : TypeId) (cs : List Value) (cs' : Array Value) (hl : cs.length ≤ cs'.size) (hv : ∀ (j : Nat) (v : Value), cs[j]? = some v → v.oneCell' = true ∧ ∃ v', cs'[j]? = some v' ∧ VR P H μ v v')
    (n c c' : Nat) (hc : c ≤ c') (hs : c' * P.cellsOf t ≤ cs'.size) :
    Rel P w0 (H ++ [some (.row t cs)]) (μ.upd H.length w.heap.size cs'.size t) { w with heap := w.heap.push (.cells cs' t) } ∧
    Ext H μ (H ++ [some (.row t cs)]) (μ.upd H.length w.heap.size cs'.size t) ∧
    VR P (H ++ [some (.row t cs)]) (μ.upd H.length w.heap.size cs'.size t) (.slice (some ⟨H.length, 0, some cs.length⟩) n c) (.slice (some ⟨w.heap.size, 0, none⟩) n c') := by
  refine ⟨hr.alloc t cs cs' hl hv, Ext.push _ _ _ _ _ _, .sl (by simp) fun ob hb => ?_⟩
  rw [get_push, if_pos rfl] at hb
  cases hb
  obtain ⟨e1, e2, e3⟩ := Mp.upd_eq μ H.length w.heap.size cs'.size t
  exact ⟨Nat.le_refl _, fun _ => by rw [e1, e2, e3]; exact ⟨rfl, hc, by omega⟩⟩
theorem AR.cellsAt {cs : List Value} {cs' : Array Value} (h : AR P H μ cs.toArray cs') (h1 : cs.all (·.oneCell') = true) : ∀ (j : Nat) (v : Value), cs[j]? = some v → v.oneCell' = true ∧ ∃ v', cs'[j]? = some v' ∧ VR P H μ v v' := by
  intro j v hj
  have hlt : j < cs'.size := by rw [← h.1]; simpa using lt_of_get hj
  exact ⟨List.all_eq_true.1 h1 v (List.mem_of_getElem? hj), _, Array.getElem?_eq_getElem hlt, h.2 j _ _ (by simpa using hj) (Array.getElem?_eq_getElem hlt)⟩
theorem xBuildSlice_ok {t : TypeId} {len : Nat} {ps : List (Nat × Value)} {ps' : Array (Nat × Value)} (hr : Rel P w0 H μ w) (hl : ps.length = ps'.size) (hv : ∀ (j : Nat) (p p' : Nat × Value), ps[j]? = some p → ps'[j]? = some p' → p.1 = p'.1 ∧ VR P H μ p.2 p'.2)
    (h : xBuildSlice P t len ps H K) : Ans P w0 H μ (Instr.buildSlice t len ps') w K := by
  obtain ⟨e, n, z, c, h1, h2, h3, h4, h5, h6, h7⟩ := h
  obtain ⟨u1, bb, u2⟩ := elm_spec h1
  obtain ⟨l1, l2, l3⟩ := lay_spec u2
  obtain ⟨zv, z1, z2, z3⟩ := zer_spec h2
  have hzs : zv.cells.size = n := by rw [← h3, ← z2]; simp
  have key : ∃ zz : Array Value, (len * n = 0 → zz = #[]) ∧ (¬ len * n = 0 → zz = zv.cells) ∧ ((Array.range (len * n)).map (zz[· % zz.size]!)).toList = (List.replicate len z).flatten := by
    by_cases h0 : len * n = 0
    · refine ⟨#[], fun _ => rfl, fun h => absurd h0 h, ?_⟩
      rw [h0]
      have : ((List.replicate len z).flatten) = [] := List.length_eq_zero_iff.1 (by rw [flatten_len, h3, h0])
      rw [this]
      simp
    · refine ⟨zv.cells, fun h => absurd h h0, fun _ => rfl, ?_⟩
      have := rep_cells z zv.cells z2 len
      rw [hzs] at this ⊢
      exact this
  obtain ⟨zz, k1, k3, k2⟩ := key
  have ha : AR P H μ ((List.replicate len z).flatten).toArray ((Array.range (len * n)).map (zz[· % zz.size]!)) := by
    have e : (Array.range (len * n)).map (zz[· % zz.size]!) = ((List.replicate len z).flatten).toArray := by rw [← k2]
    rw [e]
    exact AR.list fun v hv => (flatten_plain z3 len v hv).1
  obtain ⟨c', c1, c2⟩ := fillL_ok ps ps'.toList _ _ c h5 ha (by simpa using hl) (fun j p p' a b => hv j p p' a (by simpa using b))
  have hcl : c.length = len * n := by rw [fillL_len ps _ c h5, flatten_len, h3]
  have hcs : c'.size = len * n := by have := c2.1; simp at this; omega
  obtain ⟨p1, p2, p3⟩ := pushS_ok hr e c c' (by omega) (c2.cellsAt h6) len len len (Nat.le_refl _) (by rw [l3]; omega)
  rw [hcl] at p3
  refine ⟨_, _, _, _, _, ?_, h7, p1, p3, p2⟩
  have hb : ¬ len * n > 2 ^ 24 := by omega
  by_cases h0 : len * n = 0
  · rw [k1 h0] at c1
    simp only [Instr.buildSlice, Sem.run_bind, run_underlying u1, l2, Result.andThen_ok, if_neg hb, if_pos h0, c1, newRow, run_newObj, Sem.run_pure]
  · rw [k3 h0] at c1
    simp only [Instr.buildSlice, Sem.run_bind, run_underlying u1, l2, Result.andThen_ok, if_neg hb, if_neg h0, z1, c1, newRow, run_newObj, Sem.run_pure]
/-- Bytes of a type. -/
def byt (P : Program) (t : TypeId) : Option Nat := (P.info? t).map (·.bytes)
theorem byt_spec {t : TypeId} {n : Nat} (h : byt P t = some n) : ∃ i, P.info? t = some i ∧ i.bytes = n := by
  unfold byt at h
  cases hi : P.info? t with
  | none => rw [hi] at h; cases h
  | some i => rw [hi] at h; cases h; exact ⟨i, rfl, rfl⟩
def xMakeSlice (P : Program) (t : TypeId) (l c : Value) (H : Hp) (K : Value → Hp → Prop) : Prop := match l, c with
  | .int _ l, .int _ c => ∃ e n z b, elm P t = some (e, n) ∧ zer P e = some z ∧ z.length = n ∧ byt P e = some b ∧ 0 ≤ l ∧ l ≤ c ∧ c ≤ 4611686018427387904 ∧ c.toNat * b ≤ 140737488355328 ∧ K (.slice (some ⟨H.length, 0, some (c.toNat * n)⟩) l.toNat c.toNat) (H ++ [some (.row e (List.replicate c.toNat z).flatten)])
  | _, _ => False
theorem xMakeSlice_ok {t : TypeId} {l l' c c' : Value} (hr : Rel P w0 H μ w) (hl : VR P H μ l l') (hc : VR P H μ c c') (h : xMakeSlice P t l c H K) : Ans P w0 H μ (Instr.makeSlice t l' c') w K := by
  unfold xMakeSlice at h
  split at h
  · rename_i lk l ck c
    rw [hl.eq rfl, hc.eq rfl]
    obtain ⟨e, n, z, b, h1, h2, h3, h4, h5, h6, h7, h8, h9⟩ := h
    obtain ⟨u1, bb, u2⟩ := elm_spec h1
    obtain ⟨l1, l2, l3⟩ := lay_spec u2
    obtain ⟨zv, z1, z2, z3⟩ := zer_spec h2
    obtain ⟨i, i1, i2⟩ := byt_spec h4
    have hzs : zv.cells.size = n := by rw [← h3, ← z2]; simp
    have w1 : ∀ x : Int, 0 ≤ x → x ≤ 4611686018427387904 → IntKind.i64.wrap x = x := fun x a b => by
      simp only [IntKind.wrap, IntKind.bits, IntKind.signed]
      have : x % (2 ^ 64 : Int) = x := Int.emod_eq_of_lt a (by omega)
      simp only [this]
      simp
      omega
    have wl := w1 l h5 (by omega)
    have wc := w1 c (by omega) h7
    have key : ∃ zz : Array Value, (c.toNat * n = 0 → zz = #[]) ∧ (¬ c.toNat * n = 0 → zz = zv.cells) ∧ ((Array.range (c.toNat * n)).map (zz[· % zz.size]!)).toList = (List.replicate c.toNat z).flatten := by
      by_cases h0 : c.toNat * n = 0
      · refine ⟨#[], fun _ => rfl, fun h => absurd h0 h, ?_⟩
        rw [h0]
        have : ((List.replicate c.toNat z).flatten) = [] := List.length_eq_zero_iff.1 (by rw [flatten_len, h3, h0])
        rw [this]
        simp
      · refine ⟨zv.cells, fun h => absurd h h0, fun _ => rfl, ?_⟩
        have := rep_cells z zv.cells z2 c.toNat
        rw [hzs] at this ⊢
        exact this
    obtain ⟨zz, k1, k3, k2⟩ := key
    have e9 : (Array.range (c.toNat * n)).map (zz[· % zz.size]!) = ((List.replicate c.toNat z).flatten).toArray := by rw [← k2]
    have ha : AR P H μ ((List.replicate c.toNat z).flatten).toArray ((Array.range (c.toNat * n)).map (zz[· % zz.size]!)) := by
      rw [e9]
      exact AR.list fun v hv => (flatten_plain z3 c.toNat v hv).1
    have hlen : ((List.replicate c.toNat z).flatten).length = c.toNat * n := by rw [flatten_len, h3]
    obtain ⟨p1, p2, p3⟩ := pushS_ok hr e _ _ (by rw [← ha.1]; simp) (ha.cellsAt (List.all_eq_true.2 fun v hv => (flatten_plain z3 c.toNat v hv).2)) l.toNat c.toNat c.toNat (Nat.le_refl _) (by rw [l3, ← ha.1]; simp only [List.size_toArray]; omega)
    rw [hlen] at p3
    refine ⟨_, _, _, _, _, ?_, h9, p1, p3, p2⟩
    have hb : ¬ ((i.bytes : Int) * c > 2 ^ 48) := by
      rw [i2]
      have : (c.toNat * b : Nat) = ((b : Int) * c) := by rw [Int.natCast_mul, Int.toNat_of_nonneg (by omega), Int.mul_comm]
      omega
    have t1 : (c < 0 || (i.bytes : Int) * c > 2 ^ 48) = false := by
      simp only [Bool.or_eq_false_iff, decide_eq_false_iff_not]
      exact ⟨by omega, hb⟩
    have t2 : ((c < 0 || (i.bytes : Int) * c > 2 ^ 48) || decide (l < 0) || decide (l > c)) = false := by
      rw [t1]
      simp only [Bool.or_eq_false_iff, decide_eq_false_iff_not, true_and]
      exact ⟨by omega, by omega⟩
    have e1 : (typeInfo e).run P w = .ok i w := by simp [typeInfo, i1]
    simp only [Instr.makeSlice, Sem.run_bind, run_underlying u1, l2, e1, asInt, asIntOf, Sem.run_pure, Result.andThen_ok, wl, wc, t2, Bool.false_eq_true, if_false, run_askRoom]
    by_cases h0 : c.toNat * n = 0
    · rw [k1 h0]
      simp only [if_pos h0, Sem.run_bind, Sem.run_pure, Result.andThen_ok, newRow, run_newObj]
    · rw [k3 h0]
      simp only [if_neg h0, z1, Sem.run_bind, Sem.run_pure, Result.andThen_ok, newRow, run_newObj]
  · exact h.elim
end
end Go.Proofs.YtcmflpdgfddmeaaW.XM

namespace Go.Proofs.YtcmflpdgfddmeaaW.XM
open Go.RowKit
section
variable {P : Program} {w0 : World} {H : Hp} {μ : Mp} {w : World} {K : Value → Hp → Prop}
theorem Rel.drew (h : Rel P w0 H μ w) : Rel P w0 H μ { w with drawn := w.drawn + 1 } := ⟨⟨h.below.os, h.below.tape, h.below.output, h.below.size, h.below.block⟩, h.row, h.iter, h.inj⟩
def src0 (w0 : World) (H : Hp) (n : Nat) (x : Value) : Option (Nat × List Value) := match x with
  | .slice none m _ => if m = 0 then some (0, []) else none
  | .slice (some a) m _ => (rd w0 H a (m * n)).map fun l => (m, l)
  | .string s => if n = 1 then some (s.size, s.data.toList.map fun b => .int .u8 b.toNat) else none
  | _ => none
theorem src0_spec (hr : Rel P w0 H μ w) {n : Nat} {x x' : Value} (hx : VR P H μ x x') {m : Nat} {cs : List Value} (h : src0 w0 H n x = some (m, cs)) :
    cs.length = m * n ∧ cs.all (·.oneCell') = true ∧ (∀ u, (Builtin.lenOf x').run P u = .ok m u) ∧ ∃ cs' : List Value, cs'.length = m * n ∧ AR P H μ cs.toArray cs'.toArray ∧ ∀ u : World, u.heap = w.heap → (Builtin.firstCells n m x').run P u = .ok cs'.toArray u := by
  unfold src0 at h
  split at h
  · split at h
    · rename_i e
      subst e
      cases h
      rw [hx.eq rfl]
      exact ⟨by simp, rfl, fun u => rfl, [], by simp, ⟨rfl, fun j v v' a => by simp at a⟩, fun u _ => rfl⟩
    · cases h
  · rename_i a k c
    cases hc : rd w0 H a (k * n) with
    | none => rw [hc] at h; cases h
    | some l =>
      rw [hc] at h
      simp only [Option.map_some, Option.some.injEq, Prod.mk.injEq] at h
      obtain ⟨rfl, rfl⟩ := h
      obtain ⟨b, o, sp⟩ := a
      obtain ⟨a', c', rfl, hb⟩ := hx.base
      obtain ⟨a1, cs', a2, a3, a4, a5⟩ := rd_spec hr hb hc
      refine ⟨a1, List.all_eq_true.2 a4, fun u => rfl, cs', a2, a5, fun u hu => ?_⟩
      have := run_loadCells_list (P := P) u a' cs' (fun j v hj => by
        have := a3 j v hj
        unfold World.cell? at this ⊢
        rw [hu]; exact this)
      rw [a2] at this
      exact this
  · rename_i s
    split at h
    · rename_i e
      subst e
      cases h
      rw [hx.eq rfl]
      have hl : (s.data.toList.map fun b : UInt8 => Value.int .u8 b.toNat).length = s.size := by simp
      refine ⟨by rw [hl, Nat.mul_one], List.all_eq_true.2 fun v hv => ?_, fun u => rfl, _, by rw [hl, Nat.mul_one], AR.list fun v hv => ?_, fun u _ => ?_⟩
      · obtain ⟨b, _, rfl⟩ := List.mem_map.1 hv; rfl
      · obtain ⟨b, _, rfl⟩ := List.mem_map.1 hv; rfl
      · simp only [Builtin.firstCells, Sem.run_pure]
        congr 1
        apply Array.ext'
        have : s.extract 0 s.size = s := by simp
        rw [this]
        simp
    · cases h
  · cases h
/-- What a slice or a text holds; one of length 0 holds nothing, wherever it points. -/
def src (w0 : World) (H : Hp) (n : Nat) (x : Value) : Option (Nat × List Value) := match src0 w0 H n x with
  | some r => some r
  | none => match x with
    | .slice (some _) m _ => if m = 0 then some (0, []) else none
    | _ => none
theorem src_spec (hr : Rel P w0 H μ w) {n : Nat} {x x' : Value} (hx : VR P H μ x x') {m : Nat} {cs : List Value} (h : src w0 H n x = some (m, cs)) :
    cs.length = m * n ∧ cs.all (·.oneCell') = true ∧ (∀ u, (Builtin.lenOf x').run P u = .ok m u) ∧ ∃ cs' : List Value, cs'.length = m * n ∧ AR P H μ cs.toArray cs'.toArray ∧ ∀ u : World, u.heap = w.heap → (Builtin.firstCells n m x').run P u = .ok cs'.toArray u := by
  unfold src at h
  split at h
  · rename_i r hs
    cases h
    exact src0_spec hr hx hs
  · have key : ∃ a c, x = .slice (some a) 0 c ∧ m = 0 ∧ cs = [] := by
      split at h
      · split at h
        · rename_i e0
          subst e0
          cases h
          exact ⟨_, _, rfl, rfl, rfl⟩
        · cases h
      · cases h
    obtain ⟨a, c, rfl, rfl, rfl⟩ := key
    obtain ⟨b, o, sp⟩ := a
    obtain ⟨a', c', rfl, hb⟩ := hx.base
    refine ⟨by simp, rfl, fun u => rfl, [], by simp, ⟨rfl, fun j v v' a => by simp at a⟩, fun u hu => ?_⟩
    have := run_loadCells_list (P := P) u a' [] (fun j v hj => by simp at hj)
    simp only [Builtin.firstCells, Nat.zero_mul]
    exact this
def isInt (P : Program) (t : TypeId) : Option Bool := (P.underlying t).map fun | .int _ => true | _ => false
theorem isInt_spec {t : TypeId} (h : isInt P t = some false) : ∃ d, P.underlying t = some d ∧ (match d with | .int _ => true | _ => false) = false := by
  unfold isInt at h
  cases hu : P.underlying t with
  | none => rw [hu] at h; cases h
  | some d => rw [hu] at h; exact ⟨d, rfl, by cases d <;> first | rfl | (simp at h)⟩
theorem rest_size (z : Value) (k : Nat) : (Builtin.zeroCells z.cells k).size = k * z.cells.size := by simp [Builtin.zeroCells]
/-- What append does where there is room. -/
theorem append_in {ats : Array TypeId} {ty t0 t1 e n : Nat} {base : Option Addr} {sl sc m : Nat} {x' : Value} {cs' : List Value} {w2 : World}
    (h0 : ats[0]? = some t0) (h1 : ats[1]? = some t1) (h2 : elm P t0 = some (e, n)) (h3 : isInt P t1 = some false) (hlen : ∀ u, (Builtin.lenOf x').run P u = .ok m u)
    (hf : (Builtin.firstCells n m x').run P w = .ok cs'.toArray w) (hroom : sl + m ≤ sc)
    (hst : (match base with | some a => (storeCells (a.add (sl * n)) cs').run P w | none => .ok () w) = .ok () w2) :
    (Builtin.append_ ats ty #[.slice base sl sc, x']).run P w = .ok (.slice base (sl + m) sc) w2 := by
  obtain ⟨u1, bb, u2⟩ := elm_spec h2
  obtain ⟨l1, l2, l3⟩ := lay_spec u2
  obtain ⟨d, d1, d2⟩ := isInt_spec h3
  cases base with
  | none =>
    cases hst
    cases d <;> first
      | (cases d2; done)
      | (simp only [Builtin.append_, h0, h1, List.getElem?_toArray, List.getElem?_cons_zero, List.getElem?_cons_succ, Sem.run_bind, run_underlying u1, run_underlying d1, l2, Result.andThen_ok, Sem.run_pure, Bool.false_eq_true, if_false, hlen, if_pos hroom, Bool.not_false, if_true, hf])
  | some a =>
    simp only at hst
    cases d <;> first
      | (cases d2; done)
      | (simp only [Builtin.append_, h0, h1, List.getElem?_toArray, List.getElem?_cons_zero, List.getElem?_cons_succ, Sem.run_bind, run_underlying u1, run_underlying d1, l2, Result.andThen_ok, Sem.run_pure, Bool.false_eq_true, if_false, hlen, if_pos hroom, Bool.not_false, if_true, hf, hst])
/-- What append does where there is none. -/
theorem append_out {ats : Array TypeId} {ty t0 t1 e n b : Nat} {z : List Value} {base : Option Addr} {sl sc m : Nat} {x' : Value} {cs' old' : List Value}
    (h0 : ats[0]? = some t0) (h1 : ats[1]? = some t1) (h2 : elm P t0 = some (e, n)) (h3 : isInt P t1 = some false) (h4 : zer P e = some z) (h5 : z.length = n) (h6 : byt P e = some b) (hlen : ∀ u, (Builtin.lenOf x').run P u = .ok m u)
    (hf : ∀ u : World, u.heap = w.heap → (Builtin.firstCells n m x').run P u = .ok cs'.toArray u) (hroom : sc < sl + m) (hb : (sl + m) * b ≤ 140737488355328) (hn : sl + m ≤ 4611686018427387904)
    (hold : ∀ u : World, u.heap = w.heap → (Builtin.firstCells n sl (.slice base sl sc)).run P u = .ok old'.toArray u) :
    ∃ (k : Nat) (rest : Array Value), sl + m ≤ k ∧ rest.size = (k - (sl + m)) * n ∧ (Builtin.append_ ats ty #[.slice base sl sc, x']).run P w = .ok (.slice (some ⟨w.heap.size, 0, none⟩) (sl + m) k) { w with drawn := w.drawn + 1, heap := w.heap.push (.cells (old'.toArray ++ cs'.toArray ++ rest) e) } := by
  obtain ⟨u1, bb, u2⟩ := elm_spec h2
  obtain ⟨l1, l2, l3⟩ := lay_spec u2
  obtain ⟨d, d1, d2⟩ := isInt_spec h3
  obtain ⟨zv, z1, z2, z3⟩ := zer_spec h4
  obtain ⟨i, i1, i2⟩ := byt_spec h6
  have hzs : zv.cells.size = n := by rw [← h5, ← z2]; simp
  have e1 : ∀ u : World, (typeInfo e).run P u = .ok i u := fun u => by simp [typeInfo, i1]
  have hcap := nextslicecap_le hroom
  have hbig : ¬ Builtin.nextslicecap (sl + m) sc * i.bytes > 2 ^ 48 := by
    rw [i2]
    have := Nat.mul_le_mul_right b hcap
    have e : 2 * (sl + m) * b = 2 * ((sl + m) * b) := Nat.mul_assoc _ _ _
    omega
  have hmax : ¬ ((sl + m : Nat) : Int) > IntKind.i64.max := by
    simp only [IntKind.max, IntKind.signed, IntKind.bits, if_true]
    omega
  have hno : ¬ sl + m ≤ sc := by omega
  refine ⟨(Question.appendCap (sl + m) sc e).cut (w.tape w.drawn (.appendCap (sl + m) sc e)), Builtin.zeroCells zv.cells ((Question.appendCap (sl + m) sc e).cut (w.tape w.drawn (.appendCap (sl + m) sc e)) - (sl + m)), by simp only [Question.cut]; omega, by rw [rest_size, hzs], ?_⟩
  have hq : (Question.appendCap (sl + m) sc e).forced = false := rfl
  have hold2 := hold { w with drawn := w.drawn + 1 } rfl
  have hf2 := hf { w with drawn := w.drawn + 1 } rfl
  cases d <;> first
    | (cases d2; done)
    | (simp only [Builtin.append_, h0, h1, List.getElem?_toArray, List.getElem?_cons_zero, List.getElem?_cons_succ, Sem.run_bind, run_underlying u1, run_underlying d1, l2, Result.andThen_ok, Sem.run_pure, Bool.false_eq_true, if_false, hlen, if_neg hno, e1, hmax, false_and, hbig, run_choose, hq, run_askRoom, hold2, hf2, z1, newRow, run_newObj, Bool.not_false, if_true])
/-- What append does with so many zeros where there is no room. -/
theorem append_outZ {ats : Array TypeId} {ty t0 t1 e n b : Nat} {z : List Value} {base : Option Addr} {sl sc m : Nat} {kk : IntKind} {old' : List Value}
    (h0 : ats[0]? = some t0) (h1 : ats[1]? = some t1) (h2 : elm P t0 = some (e, n)) (h3 : isInt P t1 = some true) (h4 : zer P e = some z) (h5 : z.length = n) (h6 : byt P e = some b) (hroom : sc < sl + m) (hb : (sl + m) * b ≤ 140737488355328) (hn : sl + m ≤ 4611686018427387904)
    (hold : ∀ u : World, u.heap = w.heap → (Builtin.firstCells n sl (.slice base sl sc)).run P u = .ok old'.toArray u) :
    ∃ (k : Nat) (rest : Array Value), sl + m ≤ k ∧ rest.size = (k - (sl + m)) * n ∧ (Builtin.append_ ats ty #[.slice base sl sc, .int kk (m : Int)]).run P w = .ok (.slice (some ⟨w.heap.size, 0, none⟩) (sl + m) k) { w with drawn := w.drawn + 1, heap := w.heap.push (.cells (old'.toArray ++ (List.replicate m z).flatten.toArray ++ rest) e) } := by
  obtain ⟨u1, bb, u2⟩ := elm_spec h2
  obtain ⟨l1, l2, l3⟩ := lay_spec u2
  obtain ⟨zv, z1, z2, z3⟩ := zer_spec h4
  obtain ⟨i, i1, i2⟩ := byt_spec h6
  have hzs : zv.cells.size = n := by rw [← h5, ← z2]; simp
  have e1 : ∀ u : World, (typeInfo e).run P u = .ok i u := fun u => by simp [typeInfo, i1]
  have hcap := nextslicecap_le hroom
  have hbig : ¬ Builtin.nextslicecap (sl + m) sc * i.bytes > 2 ^ 48 := by
    rw [i2]
    have := Nat.mul_le_mul_right b hcap
    have e : 2 * (sl + m) * b = 2 * ((sl + m) * b) := Nat.mul_assoc _ _ _
    omega
  have hmax : ¬ ((sl + m : Nat) : Int) > IntKind.i64.max := by
    simp only [IntKind.max, IntKind.signed, IntKind.bits, if_true]
    omega
  have hno : ¬ sl + m ≤ sc := by omega
  have hw : IntKind.i64.wrap (m : Int) = (m : Int) := by simp only [IntKind.wrap, IntKind.signed, IntKind.bits]; simp; omega
  have hneg : ¬ ((m : Int) < 0) := by omega
  have hmb : ¬ ((m : Int) * (i.bytes : Int) > 2 ^ 48) := by
    rw [i2]
    have : m * b ≤ (sl + m) * b := Nat.mul_le_mul_right _ (by omega)
    have e : (m : Int) * (b : Int) = ((m * b : Nat) : Int) := by simp
    rw [e]
    omega
  refine ⟨(Question.appendCap (sl + m) sc e).cut (w.tape w.drawn (.appendCap (sl + m) sc e)), Builtin.zeroCells zv.cells ((Question.appendCap (sl + m) sc e).cut (w.tape w.drawn (.appendCap (sl + m) sc e)) - (sl + m)), by simp only [Question.cut]; omega, by rw [rest_size, hzs], ?_⟩
  have hq : (Question.appendCap (sl + m) sc e).forced = false := rfl
  have hold2 := hold { w with drawn := w.drawn + 1 } rfl
  have hz : (Builtin.zeroCells zv.cells m) = (List.replicate m z).flatten.toArray := by
    have h := rep_cells z zv.cells z2 m
    have h' : (Builtin.zeroCells zv.cells m).toList = (List.replicate m z).flatten := by unfold Builtin.zeroCells; exact h
    rw [← h']
  unfold isInt at h3
  cases hu : P.underlying t1 with
  | none => rw [hu] at h3; cases h3
  | some d =>
    rw [hu] at h3
    cases d <;> first
      | (simp at h3; done)
      | skip
    rename_i k1
    by_cases hmn : m * n = 0
    · have hf : (List.replicate m z).flatten.toArray = (#[] : Array Value) := by
        have : ((List.replicate m z).flatten).length = m * n := by simp [h5]
        rw [hmn] at this
        rw [List.eq_nil_of_length_eq_zero this]
      rw [hf]
      simp only [Builtin.append_, h0, h1, List.getElem?_toArray, List.getElem?_cons_zero, List.getElem?_cons_succ, Sem.run_bind, run_underlying u1, run_underlying hu, l2, Result.andThen_ok, Sem.run_pure, if_true, asInt, asIntOf, hw, if_neg hneg, if_neg hmb, Int.toNat_natCast, if_neg hno, e1, hmax, false_and, hbig, if_false, run_choose, hq, Bool.false_eq_true, run_askRoom, hold2, Bool.not_true, hmn, z1, newRow, run_newObj]
    · simp only [Builtin.append_, h0, h1, List.getElem?_toArray, List.getElem?_cons_zero, List.getElem?_cons_succ, Sem.run_bind, run_underlying u1, run_underlying hu, l2, Result.andThen_ok, Sem.run_pure, if_true, asInt, asIntOf, hw, if_neg hneg, if_neg hmb, Int.toNat_natCast, if_neg hno, e1, hmax, false_and, hbig, if_false, run_choose, hq, Bool.false_eq_true, run_askRoom, hold2, Bool.not_true, if_neg hmn, z1, hz, newRow, run_newObj]
end
end Go.Proofs.YtcmflpdgfddmeaaW.XM

namespace Go.Proofs.YtcmflpdgfddmeaaW.XM
open Go.RowKit
section
variable {P : Program} {w0 : World} {H : Hp} {μ : Mp} {w : World} {K : Value → Hp → Prop}
def fits (n b : Nat) : Prop := n * b ≤ 140737488355328 ∧ n ≤ 4611686018427387904
def xAppS (P : Program) (w0 : World) (e n b : Nat) (m : Nat) (cs : List Value) (s : Value) (H : Hp) (K : Value → Hp → Prop) : Prop := match s with
  | .slice none sl sc => if m = 0 then sl ≤ sc ∧ K s H else sl = 0 ∧ sc = 0 ∧ fits m b ∧ K (.slice (some ⟨H.length, 0, some (m * n)⟩) m m) (H ++ [some (.row e cs)])
  | .slice (some ⟨i, o, none⟩) sl sc => if m = 0 then sl ≤ sc ∧ K s H else sc < sl + m ∧ fits (sl + m) b ∧ ∃ old, rd w0 H ⟨i, o, none⟩ (sl * n) = some old ∧ K (.slice (some ⟨H.length, 0, some ((sl + m) * n)⟩) (sl + m) (sl + m)) (H ++ [some (.row e (old ++ cs))])
  | .slice (some ⟨i, o, some tag⟩) sl sc => ∃ ty c0 bb, H[i]? = some (some (.row ty c0)) ∧ c0.length = tag ∧ lay P ty = some (bb, n) ∧
      if sl + m ≤ sc then o + sl * n + cs.length ≤ tag ∧ K (.slice (some ⟨i, o, some tag⟩) (sl + m) sc) (H.set i (some (.row ty (putL c0 (o + sl * n) cs))))
      else fits (sl + m) b ∧ o = 0 ∧ sl * n = tag ∧ sl ≤ sc ∧ 0 < n ∧ ty = e ∧ K (.slice (some ⟨i, 0, some ((sl + m) * n)⟩) (sl + m) (sl + m)) (H.set i (some (.row ty (c0 ++ cs))))
  | _ => False
def xAppend (P : Program) (w0 : World) (ats : Array TypeId) (s x : Value) (H : Hp) (K : Value → Hp → Prop) : Prop :=
  ∃ t0 t1 e n z b m cs, ats[0]? = some t0 ∧ ats[1]? = some t1 ∧ elm P t0 = some (e, n) ∧ isInt P t1 = some false ∧ zer P e = some z ∧ z.length = n ∧ byt P e = some b ∧ src w0 H n x = some (m, cs) ∧ xAppS P w0 e n b m cs s H K
theorem AR.app {a b : List Value} {a' b' : Array Value} (h1 : AR P H μ a.toArray a') (h2 : AR P H μ b.toArray b') (r : Array Value) : ∀ (j : Nat) (v : Value), (a ++ b)[j]? = some v → ∃ v', (a' ++ b' ++ r)[j]? = some v' ∧ VR P H μ v v' := by
  intro j v hj
  have s1 : a.length = a'.size := by simpa using h1.1
  have s2 : b.length = b'.size := by simpa using h2.1
  rw [List.getElem?_append] at hj
  by_cases h : j < a.length
  · rw [if_pos h] at hj
    have hlt : j < a'.size := by omega
    refine ⟨a'[j], ?_, h1.2 j _ _ (by simpa using hj) (Array.getElem?_eq_getElem hlt)⟩
    rw [Array.getElem?_append_left (by simp; omega), Array.getElem?_append_left hlt, Array.getElem?_eq_getElem hlt]
  · rw [if_neg h] at hj
    have hlt : j - a.length < b'.size := by rw [← s2]; exact lt_of_get hj
    refine ⟨b'[j - a.length], ?_, h2.2 _ _ _ (by simpa using hj) (Array.getElem?_eq_getElem hlt)⟩
    rw [Array.getElem?_append_left (by simp; omega), Array.getElem?_append_right (by omega), ← s1, Array.getElem?_eq_getElem hlt]
theorem AR.app' {a b : List Value} {a' b' : Array Value} (h1 : AR P H μ a.toArray a') (h2 : AR P H μ b.toArray b') (o1 : a.all (·.oneCell') = true) (o2 : b.all (·.oneCell') = true) (r : Array Value) : ∀ (j : Nat) (v : Value), (a ++ b)[j]? = some v → v.oneCell' = true ∧ ∃ v', (a' ++ b' ++ r)[j]? = some v' ∧ VR P H μ v v' := by
  intro j v hj
  refine ⟨?_, h1.app h2 r j v hj⟩
  rcases List.mem_append.1 (List.mem_of_getElem? hj) with h | h
  · exact List.all_eq_true.1 o1 v h
  · exact List.all_eq_true.1 o2 v h
theorem xAppend_ok {ats : Array TypeId} {ty : TypeId} {s s' x x' : Value} (hr : Rel P w0 H μ w) (hs : VR P H μ s s') (hx : VR P H μ x x') (h : xAppend P w0 ats s x H K) : Ans P w0 H μ (Builtin.append_ ats ty #[s', x']) w K := by
  obtain ⟨t0, t1, e, n, z, b, m, cs, h1, h2, h3, h4, h5, h6, h7, h8, h9⟩ := h
  obtain ⟨u1, bb, u2⟩ := elm_spec h3
  obtain ⟨l1, l2, l3⟩ := lay_spec u2
  obtain ⟨c1, c2, c3, cs', c4, c5, c6⟩ := src_spec hr hx h8
  unfold xAppS at h9
  split at h9
  · rename_i sl sc
    rw [hs.eq rfl]
    split at h9
    · rename_i hm
      subst hm
      obtain ⟨k1, k2⟩ := h9
      refine Ans.of hr (append_in (w2 := w) (cs' := cs') h1 h2 h3 h4 c3 (c6 w rfl) (by omega) rfl) k2 (.same rfl)
    · rename_i hm
      obtain ⟨rfl, rfl, ⟨k1, k2⟩, k3⟩ := h9
      obtain ⟨k, rest, q1, q2, q3⟩ := append_out (w := w) (old' := []) (ty := ty) (base := none) (sl := 0) (sc := 0) h1 h2 h3 h4 h5 h6 h7 c3 c6 (by omega) (by rw [Nat.zero_add]; exact k1) (by rw [Nat.zero_add]; exact k2) (fun u _ => by simp [Builtin.firstCells])
      have hv := AR.app' (P := P) (H := H) (μ := μ) (a := []) (a' := #[]) ⟨rfl, fun j v v' hj => by simp at hj⟩ c5 rfl c2 rest
      have hsz : (#[] ++ cs'.toArray ++ rest : Array Value).size = k * n := by
        simp only [Array.size_append, List.size_toArray, q2, c4]
        rw [Nat.zero_add, List.length_nil, Nat.zero_add, ← Nat.add_mul]
        congr 1
        omega
      obtain ⟨p1, p2, p3⟩ := pushS_ok hr.drew e cs (#[] ++ cs'.toArray ++ rest) (by rw [hsz, c1]; exact Nat.mul_le_mul_right _ (by omega)) hv m m k (by omega) (by rw [l3, hsz]; exact Nat.le_refl _)
      rw [c1] at p3
      rw [Nat.zero_add] at q3
      exact ⟨_, _, _, _, _, q3, k3, p1, p3, p2⟩
  · rename_i i o sl sc
    rw [hs.eq rfl]
    split at h9
    · rename_i hm
      subst hm
      obtain ⟨k1, k2⟩ := h9
      have : cs' = [] := List.length_eq_zero_iff.1 (by rw [c4]; simp)
      refine Ans.of hr (append_in (w2 := w) (cs' := cs') h1 h2 h3 h4 c3 (c6 w rfl) (by omega) (by rw [this]; rfl)) k2 (.same rfl)
    · rename_i hm
      obtain ⟨k0, ⟨k1, k2⟩, old, ko, k3⟩ := h9
      obtain ⟨a1, old', a2, a3, a4, a5⟩ := rd_spec hr (a' := ⟨i, o, none⟩) (.same rfl) ko
      obtain ⟨k, rest, q1, q2, q3⟩ := append_out (w := w) (old' := old') (ty := ty) (base := some ⟨i, o, none⟩) (sl := sl) (sc := sc) h1 h2 h3 h4 h5 h6 h7 c3 c6 k0 k1 k2 (fun u hu => by
        have := run_loadCells_list (P := P) u ⟨i, o, none⟩ old' (fun j v hj => by
          have := a3 j v hj
          unfold World.cell? at this ⊢
          rw [hu]; exact this)
        rw [a2] at this
        exact this)
      have hv := a5.app' c5 (List.all_eq_true.2 a4) c2 rest
      have hsz : (old'.toArray ++ cs'.toArray ++ rest : Array Value).size = k * n := by
        simp only [Array.size_append, List.size_toArray, q2, c4, a2]
        rw [← Nat.add_mul, ← Nat.add_mul]
        congr 1
        omega
      obtain ⟨p1, p2, p3⟩ := pushS_ok hr.drew e (old ++ cs) (old'.toArray ++ cs'.toArray ++ rest) (by rw [hsz, List.length_append, a1, c1, ← Nat.add_mul]; exact Nat.mul_le_mul_right _ (by omega)) hv (sl + m) (sl + m) k q1 (by rw [l3, hsz]; exact Nat.le_refl _)
      rw [List.length_append, a1, c1, ← Nat.add_mul] at p3
      exact ⟨_, _, _, _, _, q3, k3, p1, p3, p2⟩
  · rename_i i o tag sl sc
    obtain ⟨ty2, c0, b2, g1, g2, g3, g4⟩ := h9
    obtain ⟨r1, r2, r3, rc, fz, r4, r5, r6, r7⟩ := hr.row i ty2 c0 g1
    cases hs with
    | same hp => simp [plain] at hp
    | @sl _ _ _ _ _ c' a hi2 hx2 =>
      obtain ⟨rfl, p2, p3⟩ := (hx2 _ g1).2 g2.symm
      rw [r2, (lay_spec g3).2.2] at p3
      have one' : ∀ v ∈ cs', v.oneCell' = true := fun v hv => by
        obtain ⟨j, hj⟩ := List.mem_iff_getElem?.1 hv
        have hjl : j < cs.length := by rw [c1, ← c4]; exact lt_of_get hj
        rw [(c5.2 j cs[j] v (by rw [List.getElem?_toArray]; exact List.getElem?_eq_getElem hjl) (by simpa using hj)).oneCell]
        exact List.all_eq_true.1 c2 _ (List.getElem_mem hjl)
      have hvv : ∀ (j : Nat) (v v' : Value), cs[j]? = some v → cs'[j]? = some v' → v.oneCell' = true ∧ VR P H μ v v' := fun j v v' a b => ⟨List.all_eq_true.1 c2 _ (List.mem_of_getElem? a), c5.2 j _ _ (by simpa using a) (by simpa using b)⟩
      have hadd : (⟨μ.m i, o, none⟩ : Addr).add (sl * n) = ⟨μ.m i, o + sl * n, none⟩ := add_at' _ _ rfl
      split at g4
      · rename_i hroom
        obtain ⟨k1, k2⟩ := g4
        have hst := storeCells_ok hr g1 (o + sl * n) cs' (by omega) one'
        obtain ⟨s1, s2, _⟩ := hr.store g1 (o := o + sl * n) (vs := cs) (vs' := cs') (by rw [c1, c4]) hvv (putL c0 (o + sl * n) cs) (.inl ⟨by omega, rfl⟩)
        refine ⟨_, _, _, _, _, append_in (w2 := w.setCells (μ.m i) (o + sl * n) cs') (cs' := cs') h1 h2 h3 h4 c3 (c6 w rfl) (by omega) (by simp only [hadd]; exact hst), k2, s1, ?_, s2⟩
        refine VR.sl (by simpa using hi2) fun ob hb => ?_
        rw [get_set _ _ _ _ hi2, if_pos rfl] at hb
        cases hb
        obtain ⟨e1, e2, e3⟩ := Mp.upd_eq μ i (μ.m i) (μ.K i) ty2
        simp only [Ob.tag, putL_len]
        refine ⟨by omega, fun _ => ?_⟩
        rw [e1, e2, e3, (lay_spec g3).2.2]
        exact ⟨rfl, p2, p3⟩
      · rename_i hroom
        obtain ⟨⟨k1, k2⟩, rfl, k4, k45, k5, rfl, k6⟩ := g4
        have hcl : c0.length + cs.length = (sl + m) * n := by rw [g2, ← k4, c1, Nat.add_mul]
        by_cases hc : sl + m ≤ c'
        · have hle : (sl + m) * n ≤ c' * n := Nat.mul_le_mul_right _ hc
          have hst := storeCells_ok hr g1 (0 + sl * n) cs' (by rw [c4]; rw [Nat.add_mul] at hle; omega) one'
          obtain ⟨s1, s2, _⟩ := hr.store g1 (o := 0 + sl * n) (vs := cs) (vs' := cs') (by rw [c1, c4]) hvv (c0 ++ cs) (.inr ⟨by omega, by omega, rfl⟩)
          refine ⟨_, _, _, _, _, append_in (w2 := w.setCells (μ.m i) (0 + sl * n) cs') (cs' := cs') h1 h2 h3 h4 c3 (c6 w rfl) hc (by simp only [hadd]; exact hst), k6, s1, ?_, s2⟩
          refine VR.sl (by simpa using hi2) fun ob hb => ?_
          rw [get_set _ _ _ _ hi2, if_pos rfl] at hb
          cases hb
          obtain ⟨e1, e2, e3⟩ := Mp.upd_eq μ i (μ.m i) (μ.K i) ty2
          simp only [Ob.tag, List.length_append]
          refine ⟨by omega, fun _ => ?_⟩
          rw [e1, e2, e3, l3]
          exact ⟨rfl, hc, p3⟩
        · have hrd : rd w0 H ⟨i, 0, some tag⟩ (sl * n) = some c0 := by
            simp only [rd, g1, g2, Nat.zero_add, k4, Nat.le_refl, and_self, if_true, List.drop_zero]
            rw [List.take_of_length_le (by omega)]
          obtain ⟨a1, old', a2, a3, a4, a5⟩ := rd_spec hr (a' := ⟨μ.m i, 0, none⟩) (.ptr hi2 fun ob hb => ⟨(hx2 ob hb).1, fun e => ((hx2 ob hb).2 e).1⟩) hrd
          obtain ⟨k, rest, q1, q2, q3⟩ := append_out (w := w) (old' := old') (ty := ty) (base := some ⟨μ.m i, 0, none⟩) (sl := sl) (sc := c') h1 h2 h3 h4 h5 h6 h7 c3 c6 (by omega) k1 k2 (fun u hu => by
            have := run_loadCells_list (P := P) u ⟨μ.m i, 0, none⟩ old' (fun j v hj => by
              have := a3 j v hj
              unfold World.cell? at this ⊢
              rw [hu]; exact this)
            rw [a2] at this
            exact this)
          have hv := a5.app' c5 (List.all_eq_true.2 a4) c2 rest
          have hsz : (old'.toArray ++ cs'.toArray ++ rest : Array Value).size = k * n := by
            simp only [Array.size_append, List.size_toArray, q2, c4, a2]
            rw [← Nat.add_mul, ← Nat.add_mul]
            congr 1
            omega
          have hm0 : 0 < m := by
            rcases Nat.eq_zero_or_pos m with e | e
            · omega
            · exact e
          have hgt : c0.length < (c0 ++ cs).length := by
            rw [List.length_append, c1]
            have := Nat.mul_pos hm0 k5
            omega
          have hbig : (c0 ++ cs).length ≤ k * n := by rw [List.length_append, hcl]; exact Nat.mul_le_mul_right _ q1
          have hU := hr.drew.upd g1 (cs2 := c0 ++ cs) (m2 := w.heap.size) (K2 := k * n) (w2 := { w with drawn := w.drawn + 1, heap := w.heap.push (.cells (old'.toArray ++ cs'.toArray ++ rest) ty2) }) (cs' := old'.toArray ++ cs'.toArray ++ rest) (fz := (0, 0))
            (Nat.le_of_lt hgt) (fun e => by omega) (.inr (Nat.le_refl _)) hbig ⟨rfl, rfl, rfl, by simp, fun q hq => Below.heap_alloc w _ q (by have := hr.below.size; omega)⟩ (fun q hq _ => Below.heap_alloc w _ q hq) (heap_alloc_new w _) (fun j _ hh => by have := hh.2; simp at this) hsz hv
          have hE := Ext.upd (μ := μ) g1 (cs2 := c0 ++ cs) (Nat.le_of_lt hgt) (m2 := w.heap.size) (K2 := k * n) (fun e => by omega)
          refine ⟨_, _, _, _, _, q3, k6, hU, ?_, hE⟩
          refine VR.sl (by simpa using hi2) fun ob hb => ?_
          rw [get_set _ _ _ _ hi2, if_pos rfl] at hb
          cases hb
          obtain ⟨e1, e2, e3⟩ := Mp.upd_eq μ i w.heap.size (k * n) ty2
          simp only [Ob.tag, List.length_append]
          refine ⟨by omega, fun _ => ?_⟩
          rw [e1, e2, e3, l3]
          exact ⟨rfl, q1, by omega⟩
  · exact h9.elim
/-- What is appended: what stands somewhere, or so many zeros. -/
def appd (P : Program) (w0 : World) (H : Hp) (n : Nat) (z : List Value) (b : Option Bool) (x : Value) : Option (Nat × List Value) := match b, x with
  | some false, x => src w0 H n x
  | some true, .int _ k => if 0 ≤ k then some (k.toNat, (List.replicate k.toNat z).flatten) else none
  | _, _ => none
/-- Appended to a slice whose capacity is known and too small: a new object. -/
def xAppX (P : Program) (w0 : World) (ats : Array TypeId) (a : Addr) (sl sc : Nat) (x : Value) (H : Hp) (K : Value → Hp → Prop) : Prop :=
  ∃ t0 t1 e n z b m cs old, ats[0]? = some t0 ∧ ats[1]? = some t1 ∧ elm P t0 = some (e, n) ∧ zer P e = some z ∧ z.length = n ∧ byt P e = some b ∧ appd P w0 H n z (isInt P t1) x = some (m, cs) ∧ sc < sl + m ∧ fits (sl + m) b ∧ rd w0 H a (sl * n) = some old ∧
    K (.slice (some ⟨H.length, 0, some ((sl + m) * n)⟩) (sl + m) (sl + m)) (H ++ [some (.row e (old ++ cs))])
def xAppA (P : Program) (w0 : World) (ats : Array TypeId) (s x : Value) (H : Hp) (K : Value → Hp → Prop) : Prop := match s with
  | .func (.method _) fi _ => xAppend P w0 ats (unx s) (unx x) H K ∨ ∃ a sl sc, fi.toList = [.slice (some a) sl sc] ∧ xAppX P w0 ats a sl sc (unx x) H K
  | s => xAppend P w0 ats s (unx x) H K
theorem xAppX_ok {ats : Array TypeId} {ty : TypeId} {a : Addr} {sl sc : Nat} {s' x x' : Value} (hr : Rel P w0 H μ w) (hs : VR P H μ (.func (.method "") #[.slice (some a) sl sc] #[]) s') (hx : VR P H μ x x') (h : xAppX P w0 ats a sl sc x H K) : Ans P w0 H μ (Builtin.append_ ats ty #[s', x']) w K := by
  obtain ⟨t0, t1, e, n, z, b, m, cs, old, h1, h2, h3, h5, h6, h7, h8, k0, ⟨k1, k2⟩, ko, k3⟩ := h
  obtain ⟨u1, bb, u2⟩ := elm_spec h3
  obtain ⟨l1, l2, l3⟩ := lay_spec u2
  cases hs with
  | same hp => simp [plain] at hp
  | @ex _ a' _ _ hs =>
  obtain ⟨bk, o, sp⟩ := a
  obtain ⟨a'', c'', e2, hb⟩ := hs.base
  cases e2
  obtain ⟨a1, old', a2, a3, a4, a5⟩ := rd_spec hr hb ko
  have hold : ∀ u : World, u.heap = w.heap → (Builtin.firstCells n sl (.slice (some a') sl sc)).run P u = .ok old'.toArray u := fun u hu => by
    have := run_loadCells_list (P := P) u a' old' (fun j v hj => by
      have := a3 j v hj
      unfold World.cell? at this ⊢
      rw [hu]; exact this)
    rw [a2] at this
    exact this
  have fin : ∀ (cs' : List Value), cs.length = m * n → cs.all (·.oneCell') = true → cs'.length = m * n → AR P H μ cs.toArray cs'.toArray → (∃ (k : Nat) (rest : Array Value), sl + m ≤ k ∧ rest.size = (k - (sl + m)) * n ∧ (Builtin.append_ ats ty #[.slice (some a') sl sc, x']).run P w = .ok (.slice (some ⟨w.heap.size, 0, none⟩) (sl + m) k) { w with drawn := w.drawn + 1, heap := w.heap.push (.cells (old'.toArray ++ cs'.toArray ++ rest) e) }) → Ans P w0 H μ (Builtin.append_ ats ty #[.slice (some a') sl sc, x']) w K := by
    rintro cs' c1 c2 c4 c5 ⟨k, rest, q1, q2, q3⟩
    have hv := a5.app' c5 (List.all_eq_true.2 a4) c2 rest
    have hsz : (old'.toArray ++ cs'.toArray ++ rest : Array Value).size = k * n := by
      simp only [Array.size_append, List.size_toArray, q2, c4, a2]
      rw [← Nat.add_mul, ← Nat.add_mul]
      congr 1
      omega
    obtain ⟨p1, p2, p3⟩ := pushS_ok hr.drew e (old ++ cs) (old'.toArray ++ cs'.toArray ++ rest) (by rw [hsz, List.length_append, a1, c1, ← Nat.add_mul]; exact Nat.mul_le_mul_right _ (by omega)) hv (sl + m) (sl + m) k q1 (by rw [l3, hsz]; exact Nat.le_refl _)
    rw [List.length_append, a1, c1, ← Nat.add_mul] at p3
    exact ⟨_, _, _, _, _, q3, k3, p1, p3, p2⟩
  unfold appd at h8
  split at h8
  · rename_i h4
    obtain ⟨c1, c2, c3, cs', c4, c5, c6⟩ := src_spec hr hx h8
    exact fin cs' c1 c2 c4 c5 (append_out h1 h2 h3 h4 h5 h6 h7 c3 c6 k0 k1 k2 hold)
  · rename_i kk k h4
    split at h8
    case isFalse => cases h8
    rename_i hk
    cases h8
    obtain ⟨q, rfl⟩ : ∃ q : Nat, k = (q : Int) := ⟨k.toNat, by omega⟩
    rw [Int.toNat_natCast] at *
    have hl : ((List.replicate q z).flatten).length = q * n := by simp [h6]
    obtain ⟨zv, z1, z2, z3⟩ := zer_spec h5
    rw [hx.eq rfl]
    rw [hx.eq rfl] at fin
    exact fin ((List.replicate q z).flatten) hl (List.all_eq_true.2 fun v hv => (flatten_plain z3 q v hv).2) hl (AR.list fun v hv => (flatten_plain z3 q v hv).1) (append_outZ h1 h2 h3 h4 h5 h6 h7 k0 k1 k2 hold)
  · cases h8
theorem xAppA_ok {ats : Array TypeId} {ty : TypeId} {s s' x x' : Value} (hr : Rel P w0 H μ w) (hs : VR P H μ s s') (hx : VR P H μ x x') (h : xAppA P w0 ats s x H K) : Ans P w0 H μ (Builtin.append_ ats ty #[s', x']) w K := by
  unfold xAppA at h
  split at h
  · rename_i nm fi ca
    rcases h with h | ⟨a, sl, sc, hfi, h⟩
    · exact xAppend_ok hr hs.unx hx.unx h
    · have : Value.func (.method nm) fi ca = .func (.method "") #[.slice (some a) sl sc] #[] := by
        cases hs with
        | same hp => simp [plain] at hp
        | ex hs =>
          simp only [List.cons.injEq, and_true] at hfi
          rw [hfi]
      rw [this] at hs
      exact xAppX_ok hr hs hx.unx h
  · exact xAppend_ok hr hs hx.unx h
/-- Copies: into an object of the call's own. -/
def xCopy (P : Program) (w0 : World) (ats : Array TypeId) (d x : Value) (H : Hp) (K : Value → Hp → Prop) : Prop := match d with
  | .slice (some ⟨i, o, some tag⟩) dl _ => ∃ t0 e n m cs ty c0 bb, ats[0]? = some t0 ∧ elm P t0 = some (e, n) ∧ src w0 H n x = some (m, cs) ∧ m ≤ dl ∧ H[i]? = some (some (.row ty c0)) ∧ c0.length = tag ∧ lay P ty = some (bb, n) ∧ o + cs.length ≤ tag ∧ K (.int .i64 m) (H.set i (some (.row ty (putL c0 o cs))))
  | _ => False
theorem xCopy_ok {ats : Array TypeId} {ty : TypeId} {d d' x x' : Value} (hr : Rel P w0 H μ w) (hd : VR P H μ d d') (hx : VR P H μ x x') (h : xCopy P w0 ats d x H K) : Ans P w0 H μ (Builtin.copy_ ats ty #[d', x']) w K := by
  unfold xCopy at h
  split at h
  · rename_i i o tag dl cap
    obtain ⟨t0, e, n, m, cs, ty2, c0, b2, h1, h3, h8, hle, g1, g2, g3, g4, k⟩ := h
    obtain ⟨u1, bb, u2⟩ := elm_spec h3
    obtain ⟨l1, l2, l3⟩ := lay_spec u2
    obtain ⟨c1, c2, c3, cs', c4, c5, c6⟩ := src_spec hr hx h8
    obtain ⟨r1, r2, r3, rc, fz, r4, r5, r6, r7⟩ := hr.row i ty2 c0 g1
    cases hd with
    | same hp => simp [plain] at hp
    | @sl _ _ _ _ _ c' a hi2 hx2 =>
      obtain ⟨rfl, p2, p3⟩ := (hx2 _ g1).2 g2.symm
      have one' : ∀ v ∈ cs', v.oneCell' = true := fun v hv => by
        obtain ⟨j, hj⟩ := List.mem_iff_getElem?.1 hv
        have hjl : j < cs.length := by rw [c1, ← c4]; exact lt_of_get hj
        rw [(c5.2 j cs[j] v (by rw [List.getElem?_toArray]; exact List.getElem?_eq_getElem hjl) (by simpa using hj)).oneCell]
        exact List.all_eq_true.1 c2 _ (List.getElem_mem hjl)
      have hst := storeCells_ok hr g1 o cs' (by rw [c4]; omega) one'
      obtain ⟨s1, s2, _⟩ := hr.store g1 (o := o) (vs := cs) (vs' := cs') (by rw [c1, c4]) (fun j v v' a b => ⟨List.all_eq_true.1 c2 _ (List.mem_of_getElem? a), c5.2 j _ _ (by simpa using a) (by simpa using b)⟩) (putL c0 o cs) (.inl ⟨by omega, rfl⟩)
      refine ⟨_, _, _, _, _, ?_, k, s1, .same rfl, s2⟩
      have hmin : Nat.min m dl = m := Nat.min_eq_left hle
      simp only [Builtin.copy_, h1, List.getElem?_toArray, List.getElem?_cons_zero, List.getElem?_cons_succ, Sem.run_bind, run_underlying u1, l2, Result.andThen_ok, c3, hmin, c6 w rfl, hst, Sem.run_pure, goInt]
  · exact h.elim
def xLen (P : Program) (ats : Array TypeId) (x : Value) : Option Value := match x with
  | .string s => if (ats[0]?.map (isStr P)) = some true then some (.int .i64 s.size) else none
  | .slice _ n _ => if (ats[0]?.map (isSl P)) = some true then some (.int .i64 n) else none
  | _ => none
theorem xLen_ok {ats : Array TypeId} {ty : TypeId} {x x' v : Value} (hx : VR P H μ x x') (h : xLen P ats x = some v) : (Builtin.len_ ats ty #[x']).run P w = .ok v w ∧ plain v = true := by
  unfold xLen at h
  split at h
  · rw [hx.eq rfl]
    split at h
    · rename_i e
      cases h
      cases ha : ats[0]? with
      | none => rw [ha] at e; cases e
      | some t =>
        rw [ha] at e
        have e2 : isStr P t = true := by simpa using e
        exact ⟨by simp [Builtin.len_, ha, run_underlying (isStr_spec e2), goInt], rfl⟩
    · cases h
  · rename_i a n c
    have : ∃ a' c', x' = .slice a' n c' := by cases hx <;> exact ⟨_, _, rfl⟩
    obtain ⟨a', c', rfl⟩ := this
    split at h
    · rename_i e
      cases h
      cases ha : ats[0]? with
      | none => rw [ha] at e; cases e
      | some t =>
        rw [ha] at e
        obtain ⟨e1, e2⟩ := isSl_spec (P := P) (t := t) (by simpa using e)
        exact ⟨by simp [Builtin.len_, ha, run_underlying e2, goInt], rfl⟩
    · cases h
  · cases h
/-- A capacity that is known. -/
def xCap (P : Program) (ats : Array TypeId) (x : Value) : Option Value := match x with
  | .func (.method _) fi _ => match fi.toList with
    | [.slice (some _) _ c] => if (ats[0]?.map (isSl P)) = some true then some (.int .i64 c) else none
    | _ => none
  | _ => none
theorem xCap_ok {ats : Array TypeId} {ty : TypeId} {x x' v : Value} (hx : VR P H μ x x') (h : xCap P ats x = some v) : (Builtin.cap_ ats ty #[x']).run P w = .ok v w ∧ plain v = true := by
  unfold xCap at h
  split at h
  · rename_i nm fi ca
    split at h
    · rename_i a n c hfi
      cases hx with
      | same hp => simp [plain] at hp
      | ex hs =>
        simp only [List.cons.injEq, Value.slice.injEq, and_true] at hfi
        obtain ⟨_, _, rfl⟩ := hfi
        split at h
        · rename_i e
          cases h
          cases ha : ats[0]? with
          | none => rw [ha] at e; cases e
          | some t =>
            rw [ha] at e
            obtain ⟨e1, e2⟩ := isSl_spec (P := P) (t := t) (by simpa using e)
            exact ⟨by simp [Builtin.cap_, ha, run_underlying e2, goInt], rfl⟩
        · cases h
    · cases h
  · cases h
end
end Go.Proofs.YtcmflpdgfddmeaaW.XM

namespace Go.Proofs.YtcmflpdgfddmeaaW.XM
open Go.RowKit
section
variable {P : Program} {w0 : World} {H : Hp} {μ : Mp} {w : World} {K : Value → Hp → Prop}
def isBy (P : Program) (t : TypeId) : Bool := match P.underlying t with
  | some (.slice e) => match P.underlying e with
    | some (.int .u8) => true
    | _ => false
  | _ => false
theorem isBy_spec {t : TypeId} (h : isBy P t = true) : ∃ e, P.underlying t = some (.slice e) ∧ P.underlying e = some (.int .u8) := by
  unfold isBy at h
  split at h
  · rename_i e hu
    split at h
    · rename_i he; exact ⟨e, hu, he⟩
    · cases h
  · cases h
def bytesV (s : ByteArray) : List Value := s.data.toList.map fun b => .int .u8 (b.toNat : Int)
theorem bytesV_len (s : ByteArray) : (bytesV s).length = s.size := by simp [bytesV]
def strV : List Value → Option (List UInt8)
  | [] => some []
  | .int .u8 n :: r => (strV r).map (UInt8.ofNat n.toNat :: ·)
  | _ => none
def xCv (P : Program) (w0 : World) (s d : TypeId) (x : Value) (H : Hp) (K : Value → Hp → Prop) : Prop := match x with
  | .string b => if isBy P d = true then isStr P s = true ∧ ∃ e, elm P d = some (e, 1) ∧ K (.slice (some ⟨H.length, 0, some b.size⟩) b.size b.size) (H ++ [some (.row e (bytesV b))]) else ∃ v, xConv P s d (.string b) = some v ∧ K v H
  | .slice none _ _ => isBy P s = true ∧ isStr P d = true ∧ K (.string ⟨#[]⟩) H
  | .slice (some a) n _ => isBy P s = true ∧ isStr P d = true ∧ ∃ cs l, rd w0 H a n = some cs ∧ strV cs = some l ∧ K (.string ⟨l.toArray⟩) H
  | x => ∃ v, xConv P s d x = some v ∧ K v H
theorem Mp.upd_self (μ : Mp) (i : Nat) : μ.upd i (μ.m i) (μ.K i) (μ.T i) = μ := by
  unfold Mp.upd
  congr <;> (funext j; split <;> simp_all)
/-- A mark behind an object's room changes nothing. -/
theorem Rel.mark (h : Rel P w0 H μ w) {i : Nat} {t : TypeId} {cs : List Value} (hi : H[i]? = some (some (.row t cs))) {cs' : Array Value} (hb : w.heap[μ.m i]? = some (.cells cs' t (0, 0))) (n : Nat) (hn : n = cs'.size) :
    Rel P w0 H μ (w.freeze ⟨μ.m i, n, none⟩ 1) := by
  obtain ⟨r1, r2, r3, c, fz, r4, r5, r6, r7⟩ := h.row i t cs hi
  rw [hb] at r4
  cases r4
  have hw : w.freeze ⟨μ.m i, n, none⟩ 1 = { w with heap := w.heap.modify (μ.m i) fun
      | .cells c elem (lo, hi) => .cells c elem (if lo == hi then (n, n + 1) else (min lo n, max hi (n + 1)))
      | o => o } := by
    unfold World.freeze
    rw [if_neg (by decide)]
    rfl
  rw [hw]
  have := h.upd (w2 := { w with heap := w.heap.modify (μ.m i) fun
      | .cells c elem (lo, hi) => .cells c elem (if lo == hi then (n, n + 1) else (min lo n, max hi (n + 1)))
      | o => o }) hi (cs2 := cs) (Nat.le_refl _) (m2 := μ.m i) (K2 := μ.K i) (cs' := cs') (fz := (n, n + 1)) (fun _ => ⟨rfl, rfl⟩) (.inl rfl) r3
    ⟨rfl, rfl, rfl, by simp, fun k hk => by simp only [Array.getElem?_modify]; rw [if_neg (by omega)]⟩ (fun k _ hk => by simp only [Array.getElem?_modify]; rw [if_neg (fun e => hk e.symm)])
    (by simp only [Array.getElem?_modify, if_true, hb]; rfl) (fun j hj hh => by have := hh.1; simp only at this; omega) r6 r7
  rw [← r2, Mp.upd_self] at this
  have hs : H.set i (some (.row (μ.T i) cs)) = H := by
    rw [r2]
    apply List.ext_getElem?
    intro j
    rw [get_set _ _ _ _ (lt_of_get hi)]
    split
    · rename_i e; rw [e, hi]
    · rfl
  rw [hs] at this
  exact this
theorem run_bytesToString (w : World) (g : Value → ByteArray → Sem (ForInStep ByteArray)) (hg : ∀ n s, (g (.int .u8 n) s).run P w = .ok (.yield (s.push (UInt8.ofNat n.toNat))) w) : ∀ (cs' : List Value) (l : List UInt8) (s : ByteArray), strV cs' = some l → (forIn cs' s g).run P w = .ok ⟨(s.data.toList ++ l).toArray⟩ w
  | [], l, s, h => by
    cases h
    simp
  | v :: r, l, s, h => by
    unfold strV at h
    split at h
    · rename_i e; cases e
    · rename_i n r2 e
      cases e
      cases hr : strV r with
      | none => rw [hr] at h; cases h
      | some l2 =>
        rw [hr] at h
        cases h
        simp only [List.forIn_cons, Sem.run_bind, hg, Result.andThen_ok]
        rw [run_bytesToString w g hg r l2 _ hr]
        congr 1
        obtain ⟨⟨d⟩⟩ := s
        simp [ByteArray.push]
    · cases h
theorem strV_same {cs cs' : List Value} {l : List UInt8} (h : strV cs = some l) (ha : AR P H μ cs.toArray cs'.toArray) : cs' = cs := by
  have hl : cs.length = cs'.length := by simpa using ha.1
  have hp : ∀ (cs : List Value) (l : List UInt8), strV cs = some l → ∀ v ∈ cs, plain v = true := by
    intro cs
    induction cs with
    | nil => intro l _ v hv; cases hv
    | cons x r ih =>
      intro l h v hv
      unfold strV at h
      split at h
      · rename_i e; cases e
      · rename_i n r2 e
        cases e
        cases hr : strV r with
        | none => rw [hr] at h; cases h
        | some l2 =>
          rcases List.mem_cons.1 hv with rfl | hv
          · rfl
          · exact ih l2 hr v hv
      · cases h
  refine List.ext_getElem? fun j => ?_
  by_cases hj : j < cs.length
  · rw [List.getElem?_eq_getElem hj, List.getElem?_eq_getElem (by omega)]
    have := ha.2 j cs[j] cs'[j] (by simp [hj]) (by simp)
    rw [this.eq (hp cs l h _ (List.getElem_mem hj))]
  · rw [List.getElem?_eq_none (by omega), List.getElem?_eq_none (by omega)]
theorem xCv_ok {s d : TypeId} {x x' : Value} (hr : Rel P w0 H μ w) (hx : VR P H μ x x') (h : xCv P w0 s d x H K) : Ans P w0 H μ (convert s d x') w K := by
  unfold xCv at h
  split at h
  · rename_i b
    split at h
    · rename_i hd
      obtain ⟨hs, e, he, hk⟩ := h
      obtain ⟨u1, bb, u2⟩ := elm_spec he
      obtain ⟨l1, l2, l3⟩ := lay_spec u2
      obtain ⟨e2, v1, v2⟩ := isBy_spec hd
      rw [u1] at v1
      cases v1
      rw [hx.eq rfl]
      let cap := (Question.appendCap b.size 0 e).cut (w.tape w.drawn (.appendCap b.size 0 e))
      have hcap : b.size ≤ cap := Nat.le_add_right _ _
      let cs' : Array Value := (b.data.map fun b => Value.int .u8 (b.toNat : Int)) ++ Array.replicate (cap - b.size) (.int .u8 0)
      have hsz : cs'.size = cap := by
        have : b.data.size = b.size := rfl
        simp only [cs', Array.size_append, Array.size_map, Array.size_replicate, this]
        omega
      have hcell : ∀ (j : Nat) (v : Value), (bytesV b)[j]? = some v → v.oneCell' = true ∧ ∃ v', cs'[j]? = some v' ∧ VR P H μ v v' := fun j v hj => by
        unfold bytesV at hj
        rw [List.getElem?_map] at hj
        cases hb : b.data.toList[j]? with
        | none => rw [hb] at hj; cases hj
        | some y =>
          rw [hb] at hj
          cases hj
          refine ⟨rfl, _, ?_, .same rfl⟩
          have hlt : j < b.data.size := by simpa using lt_of_get hb
          rw [Array.getElem?_append_left (by simpa using hlt), Array.getElem?_map]
          rw [Array.getElem?_toList] at hb
          rw [hb]
          rfl
      obtain ⟨p1, p2, p3⟩ := pushS_ok hr.drew e (bytesV b) cs' (by rw [hsz, bytesV_len]; exact hcap) hcell b.size b.size cap hcap (by rw [l3, hsz, Nat.mul_one]; exact Nat.le_refl _)
      have p4 := p1.mark (i := H.length) (t := e) (cs := bytesV b) (by rw [get_push, if_pos rfl]) (cs' := cs') (by rw [(Mp.upd_eq μ _ _ _ _).1]; exact heap_alloc_new _ _) cap hsz.symm
      rw [(Mp.upd_eq μ _ _ _ _).1] at p4
      rw [bytesV_len] at p3
      refine ⟨_, _, _, _, _, ?_, hk, p4, p3, p2⟩
      have hq : (Question.appendCap b.size 0 e).forced = false := rfl
      have hsh : ({ w with drawn := w.drawn + 1, heap := w.heap.push (.cells cs' e) } : World).shape? w.heap.size = some (e, cs'.size) := by
        simp [World.shape?]
      simp only [convert, Sem.run_bind, run_underlying (isStr_spec hs), run_underlying u1, Result.andThen_ok, run_underlying v2, Conv.stringToBytes, run_choose, hq, Bool.false_eq_true, if_false, newRow, run_newObj, Sem.run_pure, markStringish, run_shape]
      rw [show (({ heap := w.heap.push (.cells ((b.data.map fun b => Value.int .u8 (b.toNat : Int)) ++ Array.replicate ((Question.appendCap b.size 0 e).cut (w.tape w.drawn (.appendCap b.size 0 e)) - b.size) (.int .u8 0)) e), tape := w.tape, drawn := w.drawn + 1, os := w.os, output := w.output } : World).shape? w.heap.size) = some (e, cap) by rw [← hsz]; exact hsh]
      simp only [run_freeze, Result.andThen_ok]
      rfl
    · obtain ⟨v, h1, h2⟩ := h
      obtain ⟨p1, p2⟩ := xConv_ok (P := P) (w := w) hx h1
      exact Ans.of hr p1 h2 (.same p2)
  · obtain ⟨h1, h2, h3⟩ := h
    obtain ⟨e, v1, v2⟩ := isBy_spec h1
    rw [hx.eq rfl]
    refine Ans.of hr (v' := .string ⟨#[]⟩) ?_ h3 (.same rfl)
    simp only [convert, Sem.run_bind, run_underlying (isStr_spec h2), run_underlying v1, Result.andThen_ok, run_underlying v2, Conv.bytesToString, Sem.run_pure]
    rfl
  · rename_i a n c
    obtain ⟨h1, h2, cs, l, h3, h4, h5⟩ := h
    obtain ⟨e, v1, v2⟩ := isBy_spec h1
    obtain ⟨b, o, sp⟩ := a
    obtain ⟨a', c', rfl, hb⟩ := hx.base
    obtain ⟨a1, cs', a2, a3, a4, a5⟩ := rd_spec hr hb h3
    have e1 := strV_same h4 a5
    subst e1
    have hl := run_loadCells_list (P := P) w a' cs' a3
    rw [a2] at hl
    refine Ans.of hr (v' := .string ⟨l.toArray⟩) ?_ h5 (.same rfl)
    simp only [convert, Sem.run_bind, run_underlying (isStr_spec h2), run_underlying v1, Result.andThen_ok, run_underlying v2, Conv.bytesToString, hl]
    rw [← Array.forIn_toList]
    rw [run_bytesToString (P := P) w _ (fun n s => rfl) cs' l ByteArray.empty h4]
    rfl
  · obtain ⟨v, h1, h2⟩ := h
    obtain ⟨p1, p2⟩ := xConv_ok (P := P) (w := w) hx h1
    exact Ans.of hr p1 h2 (.same p2)
def xClear (P : Program) (ats : Array TypeId) (x : Value) (H : Hp) (K : Value → Hp → Prop) : Prop := match x with
  | .slice (some ⟨i, o, some tag⟩) m _ => ∃ t0 e n z ty c0 bb, ats[0]? = some t0 ∧ elm P t0 = some (e, n) ∧ zer P e = some z ∧ z.length = n ∧ H[i]? = some (some (.row ty c0)) ∧ c0.length = tag ∧ lay P ty = some (bb, n) ∧ o + m * n ≤ tag ∧ K (.tuple #[]) (H.set i (some (.row ty (putL c0 o (List.replicate m z).flatten))))
  | _ => False
theorem zeroCells_eq {z : List Value} {zv : Value} (h : zv.cells.toList = z) (m : Nat) : (Builtin.zeroCells zv.cells m).toList = (List.replicate m z).flatten := by
  have := rep_cells z zv.cells h m
  unfold Builtin.zeroCells
  exact this
theorem xClear_ok {ats : Array TypeId} {ty : TypeId} {x x' : Value} (hr : Rel P w0 H μ w) (hx : VR P H μ x x') (h : xClear P ats x H K) : Ans P w0 H μ (Builtin.clear_ ats ty #[x']) w K := by
  unfold xClear at h
  split at h
  · rename_i i o tag m cap
    obtain ⟨t0, e, n, z, ty2, c0, b2, h1, h3, h4, h5, g1, g2, g3, g4, k⟩ := h
    obtain ⟨u1, bb, u2⟩ := elm_spec h3
    obtain ⟨zv, z1, z2, z3⟩ := zer_spec h4
    obtain ⟨r1, r2, r3, rc, fz, r4, r5, r6, r7⟩ := hr.row i ty2 c0 g1
    have hlen : ((List.replicate m z).flatten).length = m * n := by rw [flatten_len, h5]
    cases hx with
    | same hp => simp [plain] at hp
    | @sl _ _ _ _ _ c' a hi2 hx2 =>
      obtain ⟨rfl, p2, p3⟩ := (hx2 _ g1).2 g2.symm
      have hst := storeCells_ok hr g1 o ((List.replicate m z).flatten) (by rw [hlen]; omega) (fun v hv => (flatten_plain z3 m v hv).2)
      obtain ⟨s1, s2, _⟩ := hr.store g1 (o := o) (vs := (List.replicate m z).flatten) (vs' := (List.replicate m z).flatten) rfl (fun j v v' a b => by
        rw [a] at b; cases b
        exact ⟨(flatten_plain z3 m v (List.mem_of_getElem? a)).2, .same (flatten_plain z3 m v (List.mem_of_getElem? a)).1⟩) (putL c0 o (List.replicate m z).flatten) (.inl ⟨by rw [hlen]; omega, rfl⟩)
      have hv0 : ∀ H μ, VR P H μ (.tuple #[]) (.tuple #[]) := fun H μ => .undef
      by_cases hm : m = 0
      · subst hm
        have e1 : w.setCells (μ.m i) o ((List.replicate 0 z).flatten) = w := rfl
        rw [e1] at s1
        exact ⟨.tuple #[], w, _, _, _, by simp only [Builtin.clear_, h1, List.getElem?_toArray, List.getElem?_cons_zero, Sem.run_bind, run_underlying u1, Result.andThen_ok, Sem.run_pure], k, s1, hv0 _ _, s2⟩
      · obtain ⟨m', rfl⟩ : ∃ k, m = k + 1 := ⟨m - 1, by omega⟩
        refine ⟨.tuple #[], _, _, _, _, ?_, k, s1, hv0 _ _, s2⟩
        have hz := zeroCells_eq z2 (m' + 1)
        simp only [Builtin.clear_, h1, List.getElem?_toArray, List.getElem?_cons_zero, Sem.run_bind, run_underlying u1, Result.andThen_ok, z1, hz, hst, Sem.run_pure]
  · exact h.elim
end
end Go.Proofs.YtcmflpdgfddmeaaW.XM

namespace Go.Proofs.YtcmflpdgfddmeaaW.XM
open Go.RowKit
/-- What the slots hold. -/
abbrev Ts := Nat → Value
def upd (T : Ts) (d : Option Nat) (v : Value) : Ts := match d with
  | some d => fun t => if t = d then v else T t
  | none => T
def ev (T : Ts) : Operand → Value
  | .tmp t => T t
  | .const v => v
  | .global g => .pointer (some ⟨g, 0, none⟩)
  | .func f => .func (.func f) #[] #[]
def argT (l : List Value) : Ts := fun t => l[t]?.getD undef
/-- The slots of the machine and of the model, the first n of them. -/
def TR (P : Program) (H : Hp) (μ : Mp) (n : Nat) (T : Ts) (a : Array Value) : Prop := a.size = n ∧ ∀ t, t < n → VR P H μ (T t) (a.getD t undef)
/-- What a call answers. -/
def AFn (P : Program) (w0 : World) (f : FuncId) (args : Array Value) (H : Hp) (Q : Value → Hp → Prop) : Prop :=
  (∃ fn, P.funcs[f]? = some fn ∧ (fn.name == "runtime.NumGoroutine") = false ∧ fn.body.isNone = false) ∧
  ∀ μ w args', Rel P w0 H μ w → AR P H μ args args' → Calls P f args' w fun e w2 => ∃ v v' H2 μ2, e = .returned v' ∧ Q v H2 ∧ Rel P w0 H2 μ2 w2 ∧ VR P H2 μ2 v v' ∧ Ext H μ H2 μ2
theorem AFn.mono {P : Program} {w0 : World} {f : FuncId} {args : Array Value} {H : Hp} {Q Q' : Value → Hp → Prop} (h : AFn P w0 f args H Q) (hq : ∀ v H2, Q v H2 → Q' v H2) : AFn P w0 f args H Q' :=
  ⟨h.1, fun μ w args' h1 h2 => (h.2 μ w args' h1 h2).mono fun _ _ ⟨v, v', H2, μ2, a, b, c, d, e'⟩ => ⟨v, v', H2, μ2, a, hq v H2 b, c, d, e'⟩⟩
def isIface (P : Program) (t : TypeId) : Option Bool := (P.underlying t).map fun | .interface _ => true | _ => false
def xCallB (P : Program) (w0 : World) (b : Builtin) (ats : Array TypeId) (args : List Value) (H : Hp) (K : Value → Hp → Prop) : Prop := match b, args with
  | .append, [s, x] => xAppA P w0 ats s x H K
  | .copy, [d, x] => xCopy P w0 ats (unx d) (unx x) H K
  | .len, [x] => ∃ v, xLen P ats (unx x) = some v ∧ K v H
  | .cap, [x] => ∃ v, xCap P ats x = some v ∧ K v H
  | .clear, [x] => xClear P ats (unx x) H K
  | .min, [.int k x, .int _ y] => K (.int k (if y < x then y else x)) H
  | .max, [.int k x, .int _ y] => K (.int k (if y > x then y else x)) H
  | _, _ => False
def xCallV (P : Program) (w0 : World) (f : Value) (args : Array Value) (H : Hp) (K : Value → Hp → Prop) : Prop := match f with
  | .func (.func g) fi ca => AFn P w0 g (fi ++ args ++ ca) H K
  | _ => False
def xRange (P : Program) (t : TypeId) (x : Value) (H : Hp) (K : Value → Hp → Prop) : Prop := match x with
  | .string s => isStr P t = true ∧ K (.pointer (some ⟨H.length, 0, some 0⟩)) (H ++ [some (.iter s 0)])
  | _ => False
def xNext (it : Value) (str : Bool) (H : Hp) (K : Value → Hp → Prop) : Prop := match it with
  | .pointer (some ⟨i, 0, some 0⟩) => str = true ∧ ∃ s p, H[i]? = some (some (.iter s p)) ∧
      if p < s.size then K (.tuple #[.bool true, .int .i64 p, .int .i32 (Utf8.decode s p).1]) (H.set i (some (.iter s (p + (Utf8.decode s p).2)))) else K (.tuple #[.bool false]) H
  | _ => False
def xNil (x : Value) (H : Hp) (K : Value → Hp → Prop) : Prop := match x with
  | .pointer (some a) => K (.pointer (some a)) H
  | .func (.func f) fi ca => K (.func (.func f) fi ca) H
  | _ => False
def xPick (c a b : Value) (H : Hp) (K : Value → Hp → Prop) : Prop := match c with
  | .bool t => K (if t = true then a else b) H
  | _ => False
def xo (P : Program) (w0 : World) (o : Op) (ρ : Operand → Value) (H : Hp) (K : Value → Hp → Prop) : Prop := match o with
  | .move x => K (ρ x) H
  | .assign x => K (ρ x) H
  | .pick c a b => xPick (ρ c) (ρ a) (ρ b) H K
  | .alloc t => xAlloc P t H K
  | .box t x => xBox t (ρ x) H K
  | .build t ps => xBuild P t (ps.toList.map fun p => (p.1, ρ p.2)) H K
  | .buildSlice t n ps => xBuildSlice P t n (ps.toList.map fun p => (p.1, ρ p.2)) H K
  | .load t a => xLoad P w0 t (ρ a) H K
  | .store t a x => xStore P t (ρ a) (ρ x) H K
  | .nilCheck x => xNil (ρ x) H K
  | .binOp op t x y _ => ∃ v, xBin P op t (isC x || isC y) (ρ x) (ρ y) = some v ∧ K v H
  | .unOp op _ x => ∃ v, xUn op (ρ x) = some v ∧ K v H
  | .convert s d x => xCv P w0 s d (ρ x) H K
  | .makeSlice t l c => xMakeSlice P t (ρ l) (ρ c) H K
  | .slice t x lo hi mx => xSliceA P t (ρ x) (lo.map ρ) (hi.map ρ) (mx.map ρ) H K
  | .fieldAddr s x f => xField P s (ρ x) f H K
  | .field t x f => xPart P t (ρ x) f H K
  | .indexAddr t x i => xIndexAddr P t (unx (ρ x)) (ρ i) H K
  | .index t x i => ∃ v, xIndex P t (ρ x) (ρ i) = some v ∧ K v H
  | .extract t n => xExtract (ρ t) n H K
  | .makeFunc fn fi ca => match fn with
    | .func f => K (.func (.func f) (fi.map ρ) (ca.map ρ)) H
    | _ => False
  | .makeInterface t x => isIface P t = some false ∧ K (.iface t (ρ x)) H
  | .range t x => xRange P t (ρ x) H K
  | .next it s => xNext (ρ it) s H K
  | .call c => match c.callee with
    | .builtin b => xCallB P w0 b c.argTypes (c.args.toList.map ρ) H K
    | .value f => xCallV P w0 (ρ f) (c.args.map ρ) H K
    | _ => False
  | _ => False
section
variable {P : Program} {w0 : World} {H : Hp} {μ : Mp} {w : World} {K : Value → Hp → Prop}
/-- An operation that goes on as K asks. -/
def Goes (P : Program) (w0 : World) (H : Hp) (μ : Mp) (o : Oper) (a : Act) (w : World) (K : Value → Hp → Prop) : Prop :=
  ∀ (next : Act → World → Prop) (Q : Exit → Act → World → Prop), (∀ v v' w2 H2 μ2, K v H2 → Rel P w0 H2 μ2 w2 → VR P H2 μ2 v v' → Ext H μ H2 μ2 → next (a.put o.dst v') w2) → o.wp P a w next Q
theorem Goes.of_ans {o : Oper} {a : Act} {s : Sem Value} (he : execOp a.eval o = (do pure (.value (← s)))) (h : Ans P w0 H μ s w K) : Goes P w0 H μ o a w K := by
  intro next Q hn
  obtain ⟨v', w2, v, H2, μ2, h1, h2, h3, h4, h5⟩ := h
  unfold Oper.wp
  rw [he]
  simp only [Sem.run_bind, h1, Result.andThen_ok, Sem.run_pure, Oper.upon_value]
  exact hn v v' w2 H2 μ2 h2 h3 h4 h5
theorem arr_map {ρ ρ' : Operand → Value} (xs : Array Operand) (hρ : ∀ x ∈ xs, VR P H μ (ρ x) (ρ' x)) : AR P H μ (xs.map ρ) (xs.map ρ') := by
  refine ⟨by simp, fun j v v' h h' => ?_⟩
  rw [Array.getElem?_map] at h h'
  cases hx : xs[j]? with
  | none => rw [hx] at h; cases h
  | some x =>
    rw [hx] at h h'
    cases h; cases h'
    exact hρ x (Array.mem_of_getElem? hx)
theorem parts_map {ρ ρ' : Operand → Value} (ps : Array (Nat × Operand)) (hρ : ∀ p ∈ ps, VR P H μ (ρ p.2) (ρ' p.2)) : (ps.toList.map fun p => (p.1, ρ p.2)).length = (ps.map fun (i, x) => (i, ρ' x)).size ∧
    ∀ (j : Nat) (p p' : Nat × Value), (ps.toList.map fun p => (p.1, ρ p.2))[j]? = some p → (ps.map fun (i, x) => (i, ρ' x))[j]? = some p' → p.1 = p'.1 ∧ VR P H μ p.2 p'.2 := by
  refine ⟨by simp, fun j p p' h h' => ?_⟩
  rw [List.getElem?_map] at h
  rw [Array.getElem?_map] at h'
  cases hx : ps[j]? with
  | none => rw [hx] at h'; cases h'
  | some x =>
    rw [hx] at h'
    rw [Array.getElem?_toList, hx] at h
    cases h; cases h'
    exact ⟨rfl, hρ x (Array.mem_of_getElem? hx)⟩
theorem Rel.allocIter (h : Rel P w0 H μ w) (s : ByteArray) (p : Nat) : Rel P w0 (H ++ [some (.iter s p)]) (μ.upd H.length w.heap.size 0 0) { w with heap := w.heap.push (.stringIter s p) } := by
  have hE := Ext.push H μ (some (.iter s p)) w.heap.size 0 0
  have hlt : ∀ {i : Nat} {o : Ob}, (H ++ [some (.iter s p)])[i]? = some (some o) → i ≠ H.length → H[i]? = some (some o) := fun {i o} hi hn => by rw [get_push, if_neg hn] at hi; exact hi
  have hz := h.below.size
  refine ⟨h.below.alloc hz _, fun i t2 cs2 hi => ?_, fun i s2 p2 hi => ?_, fun i j o o' hi hj he => ?_⟩
  · by_cases hn : i = H.length
    · subst hn
      rw [get_push, if_pos rfl] at hi
      cases hi
    · have hi' := hlt hi hn
      obtain ⟨e1, e2, e3⟩ := Mp.upd_ne μ (i := H.length) (m := w.heap.size) (K := 0) (T := 0) hn
      rw [e1, e2, e3]
      obtain ⟨a1, a2, a3, c, fz, a4, a5, a6, a7⟩ := h.row i t2 cs2 hi'
      exact ⟨a1, a2, a3, c, fz, (heap_alloc_old _ _ _ (h.lt hi')).trans a4, a5, a6, fun j v hj => ⟨(a7 j v hj).1, by obtain ⟨v', a, b⟩ := (a7 j v hj).2; exact ⟨v', a, b.mono hE⟩⟩⟩
  · by_cases hn : i = H.length
    · subst hn
      rw [get_push, if_pos rfl] at hi
      cases hi
      rw [(Mp.upd_eq μ _ _ _ _).1]
      exact ⟨hz, heap_alloc_new _ _⟩
    · have hi' := hlt hi hn
      rw [(Mp.upd_ne μ hn).1]
      exact ⟨(h.iter i s2 p2 hi').1, (heap_alloc_old _ _ _ (h.lt hi')).trans (h.iter i s2 p2 hi').2⟩
  · by_cases hn : i = H.length
    · by_cases hm : j = H.length
      · omega
      · have := h.lt (hlt hj hm)
        rw [hn, (Mp.upd_eq μ _ _ _ _).1, (Mp.upd_ne μ hm).1] at he
        omega
    · by_cases hm : j = H.length
      · have := h.lt (hlt hi hn)
        rw [hm, (Mp.upd_eq μ _ _ _ _).1, (Mp.upd_ne μ hn).1] at he
        omega
      · rw [(Mp.upd_ne μ hm).1, (Mp.upd_ne μ hn).1] at he
        exact h.inj i j o o' (hlt hi hn) (hlt hj hm) he
theorem Rel.setIter (h : Rel P w0 H μ w) {i : Nat} {s : ByteArray} {p : Nat} (hi : H[i]? = some (some (.iter s p))) (q : Nat) :
    Rel P w0 (H.set i (some (.iter s q))) μ { w with heap := w.heap.setIfInBounds (μ.m i) (.stringIter s q) } ∧ Ext H μ (H.set i (some (.iter s q))) μ := by
  have hil := lt_of_get hi
  obtain ⟨r1, r2⟩ := h.iter i s p hi
  have hE : Ext H μ (H.set i (some (.iter s q))) μ := by
    refine ⟨by simp, fun j hj hd o h2 => ?_, fun j o o2 hj h1 h2 => ?_⟩
    · rw [get_set _ _ _ _ hil] at h2
      split at h2
      · rename_i e; subst e; rw [hi] at hd; cases hd
      · rw [hd] at h2; cases h2
    · rw [get_set _ _ _ _ hil] at h2
      split at h2
      · rename_i e
        subst e
        rw [hi] at h1
        cases h1; cases h2
        exact ⟨Nat.le_refl _, fun _ => ⟨rfl, rfl, rfl⟩⟩
      · rw [h1] at h2
        cases h2
        exact ⟨Nat.le_refl _, fun _ => ⟨rfl, rfl, rfl⟩⟩
  have other : ∀ k, k ≠ μ.m i → ({ w with heap := w.heap.setIfInBounds (μ.m i) (.stringIter s q) } : World).heap[k]? = w.heap[k]? := fun k hk => by
    show (w.heap.setIfInBounds (μ.m i) (.stringIter s q))[k]? = _
    rw [Array.getElem?_setIfInBounds_ne (fun e => hk e.symm)]
  have hlt : ∀ {j : Nat} {o : Ob}, (H.set i (some (.iter s q)))[j]? = some (some o) → j ≠ i → H[j]? = some (some o) := fun {j o} hj hn => by rw [get_set _ _ _ _ hil, if_neg hn] at hj; exact hj
  have far : ∀ {j : Nat} {o : Ob}, H[j]? = some (some o) → j ≠ i → μ.m j ≠ μ.m i := fun {j o} hj hn e => hn (h.inj j i _ _ hj hi e)
  have lft : ∀ {j : Nat} {o : Ob}, (H.set i (some (.iter s q)))[j]? = some (some o) → ∃ o', H[j]? = some (some o') := fun {j o} hj => by
    by_cases hn : j = i
    · subst hn; exact ⟨_, hi⟩
    · exact ⟨_, hlt hj hn⟩
  refine ⟨⟨h.below.trans ⟨rfl, rfl, rfl, by simp, fun k hk => other k (by omega)⟩, fun j t2 c2 hj => ?_, fun j s2 p2 hj => ?_, fun j k o o' hj hk he => ?_⟩, hE⟩
  · by_cases hn : j = i
    · subst hn
      rw [get_set _ _ _ _ hil, if_pos rfl] at hj
      cases hj
    · have hj' := hlt hj hn
      obtain ⟨a1, a2, a3, c, f2, a4, a5, a6, a7⟩ := h.row j t2 c2 hj'
      exact ⟨a1, a2, a3, c, f2, (other _ (far hj' hn)).trans a4, a5, a6, fun j v hj => ⟨(a7 j v hj).1, by obtain ⟨v', a, b⟩ := (a7 j v hj).2; exact ⟨v', a, b.mono hE⟩⟩⟩
  · by_cases hn : j = i
    · subst hn
      rw [get_set _ _ _ _ hil, if_pos rfl] at hj
      cases hj
      refine ⟨r1, ?_⟩
      show (w.heap.setIfInBounds (μ.m j) (.stringIter s q))[μ.m j]? = _
      rw [Array.getElem?_setIfInBounds]
      simp [h.lt hi]
    · have hj' := hlt hj hn
      exact ⟨(h.iter j s2 p2 hj').1, (other _ (far hj' hn)).trans (h.iter j s2 p2 hj').2⟩
  · obtain ⟨o1, h1⟩ := lft hj
    obtain ⟨o2, h2⟩ := lft hk
    exact h.inj j k o1 o2 h1 h2 he
theorem xRange_ok {t : TypeId} {x x' : Value} (hr : Rel P w0 H μ w) (hx : VR P H μ x x') (h : xRange P t x H K) : Ans P w0 H μ (Instr.range t x') w K := by
  unfold xRange at h
  split at h
  · rename_i s
    rw [hx.eq rfl]
    obtain ⟨h1, h2⟩ := h
    refine ⟨.pointer (some ⟨w.heap.size, 0, none⟩), _, _, _, _, by simp [Instr.range, Sem.run_bind, run_underlying (isStr_spec h1)], h2, hr.allocIter s 0, .ptr (by simp) fun ob hb => ?_, Ext.push _ _ _ _ _ _⟩
    rw [get_push, if_pos rfl] at hb
    cases hb
    exact ⟨Nat.le_refl _, fun _ => by rw [(Mp.upd_eq μ _ _ _ _).1]⟩
  · exact h.elim
theorem xNext_ok {x x' : Value} {str : Bool} {ty : TypeId} (hr : Rel P w0 H μ w) (hx : VR P H μ x x') (h : xNext x str H K) : Ans P w0 H μ (Instr.next x' str ty) w K := by
  unfold xNext at h
  split at h
  · rename_i i
    obtain ⟨rfl, s, p, h1, h2⟩ := h
    have hx' : x' = .pointer (some ⟨μ.m i, 0, none⟩) := by
      cases hx with
      | same hp => simp [plain] at hp
      | ptr hi hy => rw [(hy _ h1).2 rfl]
    subst hx'
    obtain ⟨r1, r2⟩ := hr.iter i s p h1
    have hg : (getObj (μ.m i)).run P w = .ok (.stringIter s p) w := by simp [getObj, Sem.run, r2]
    split at h2
    · rename_i hlt
      obtain ⟨s1, s2⟩ := hr.setIter h1 (p + (Utf8.decode s p).2)
      have hs : (setObj (μ.m i) (.stringIter s (p + (Utf8.decode s p).2))).run P w = .ok () { w with heap := w.heap.setIfInBounds (μ.m i) (.stringIter s (p + (Utf8.decode s p).2)) } := by simp [setObj, Sem.run, r2]
      refine ⟨_, _, _, _, _, by simp only [Instr.next, Sem.run_bind, hg, Result.andThen_ok, if_pos hlt, hs, Sem.run_pure, goInt], h2, s1, .tuple rfl fun j v v' a b => ?_, s2⟩
      rw [a] at b; cases b
      have : plain v = true := by
        rcases j with _ | _ | _ | j
        · cases a; rfl
        · cases a; rfl
        · cases a; rfl
        · cases a
      exact .same this
    · rename_i hlt
      refine Ans.of hr (v' := .tuple #[.bool false]) (by simp only [Instr.next, Sem.run_bind, hg, Result.andThen_ok, if_neg hlt, Sem.run_pure]) h2 (.tuple rfl fun j v v' a b => ?_)
      rw [a] at b; cases b
      cases j with
      | zero => cases a; exact .same rfl
      | succ j => cases a
  · exact h.elim
end
end Go.Proofs.YtcmflpdgfddmeaaW.XM

namespace Go.Proofs.YtcmflpdgfddmeaaW.XM
open Go.RowKit
section
variable {P : Program} {w0 : World} {H : Hp} {μ : Mp} {w : World} {K : Value → Hp → Prop}
theorem Ans.skip {s : Sem Unit} {o : Oper} {a : Act} (he : execOp a.eval o = (do s; pure .skip)) (h : ∃ w2 H2 μ2, s.run P w = .ok () w2 ∧ K undef H2 ∧ Rel P w0 H2 μ2 w2 ∧ Ext H μ H2 μ2) : Goes P w0 H μ o a w K := by
  intro next Q hn
  obtain ⟨w2, H2, μ2, h1, h2, h3, h5⟩ := h
  unfold Oper.wp
  rw [he]
  simp only [Sem.run_bind, h1, Result.andThen_ok, Sem.run_pure, Oper.upon_skip]
  exact hn undef undef w2 H2 μ2 h2 h3 .undef h5
theorem Goes.of_run {o : Oper} {a : Act} {s : Sem Value} {v v' : Value} (hr : Rel P w0 H μ w) (he : execOp a.eval o = (do pure (.value (← s)))) (hs : s.run P w = .ok v' w) (hv : VR P H μ v v') (hk : K v H) : Goes P w0 H μ o a w K := Goes.of_ans he (Ans.of hr hs hk hv)
theorem lst1 {ρ : Operand → Value} {l : List Operand} {x : Value} (h : l.map ρ = [x]) : ∃ p, l = [p] ∧ ρ p = x := by
  cases l with
  | nil => cases h
  | cons p t =>
    cases t with
    | nil => exact ⟨p, rfl, by simpa using h⟩
    | cons q t => simp at h
theorem lst2 {ρ : Operand → Value} {l : List Operand} {x y : Value} (h : l.map ρ = [x, y]) : ∃ p q, l = [p, q] ∧ ρ p = x ∧ ρ q = y := by
  cases l with
  | nil => cases h
  | cons p t =>
    simp only [List.map_cons, List.cons.injEq] at h
    obtain ⟨q, rfl, e⟩ := lst1 h.2
    exact ⟨p, q, rfl, h.1, e⟩
theorem xo_ok {o : Oper} {ρ : Operand → Value} {a : Act} (hr : Rel P w0 H μ w) (hρ : ∀ x ∈ o.op.operands, VR P H μ (ρ x) (a.eval x)) (h : xo P w0 o.op ρ H K) : Goes P w0 H μ o a w K := by
  obtain ⟨dst, op, type, pos, after, guard⟩ := o
  simp only at hρ h
  have at1 : ∀ x, op.operands = #[x] → VR P H μ (ρ x) (a.eval x) := fun x e => hρ x (by rw [e]; simp)
  cases op <;> simp only [xo] at h
  case move x => exact Goes.of_run (s := pure (a.eval x)) hr (by simp [execOp]) rfl (at1 x rfl) h
  case assign x => exact Goes.of_run (s := pure (a.eval x)) hr (by simp [execOp]) rfl (at1 x rfl) h
  case pick c x y =>
    have hc := hρ c (by simp [Op.operands])
    have hx := hρ x (by simp [Op.operands])
    have hy := hρ y (by simp [Op.operands])
    unfold xPick at h
    split at h
    · rename_i t ht
      rw [ht] at hc
      refine Goes.of_run (s := do pure (if ← asBool (a.eval c) then a.eval x else a.eval y)) (v' := if t = true then a.eval x else a.eval y) hr (by simp [execOp]) ?_ ?_ h
      · rw [hc.eq rfl]
        cases t <;> simp [asBool]
      · cases t
        · exact hy
        · exact hx
    · exact h.elim
  case alloc t => exact Goes.of_ans (s := Instr.alloc t true (.tuple #[])) (by simp [execOp]) (xAlloc_ok hr h)
  case box t x => exact Goes.of_ans (s := Instr.box t (a.eval x)) (by simp [execOp]) (xBox_ok hr (at1 x rfl) h)
  case build t ps =>
    obtain ⟨p1, p2⟩ := parts_map (P := P) (H := H) (μ := μ) (ρ := ρ) (ρ' := a.eval) ps (fun p hp => hρ p.2 (by simp [Op.operands]; exact ⟨p.1, hp⟩))
    exact Goes.of_ans (s := Instr.build t (ps.map fun (i, x) => (i, a.eval x))) (by simp [execOp]) (xBuild_ok hr p1 p2 h)
  case buildSlice t n ps =>
    obtain ⟨p1, p2⟩ := parts_map (P := P) (H := H) (μ := μ) (ρ := ρ) (ρ' := a.eval) ps (fun p hp => hρ p.2 (by simp [Op.operands]; exact ⟨p.1, hp⟩))
    exact Goes.of_ans (s := Instr.buildSlice t n (ps.map fun (i, x) => (i, a.eval x))) (by simp [execOp]) (xBuildSlice_ok hr p1 p2 h)
  case load t x => exact Goes.of_ans (s := Instr.loadAt t (a.eval x)) (by simp [execOp]) (xLoad_ok hr (at1 x rfl) h)
  case store t x y => exact Ans.skip (s := Instr.storeAt t (a.eval x) (a.eval y)) (by simp [execOp]) (xStore_ok hr (hρ x (by simp [Op.operands])) (hρ y (by simp [Op.operands])) h)
  case nilCheck x =>
    have hx := at1 x rfl
    unfold xNil at h
    split at h
    · rename_i ad hd
      rw [hd] at hx
      have : ∃ a', a.eval x = .pointer (some a') := by
        generalize a.eval x = y at hx
        cases hx <;> exact ⟨_, rfl⟩
      obtain ⟨a', ha⟩ := this
      rw [ha] at hx
      exact Goes.of_run (s := pure (.pointer (some a'))) hr (by simp [execOp, ha]) rfl hx h
    · rename_i f fi ca hd
      rw [hd] at hx
      have : ∃ fi' ca', a.eval x = .func (.func f) fi' ca' := by
        generalize a.eval x = y at hx
        cases hx with
        | same hp => simp [plain] at hp
        | fn _ _ _ _ => exact ⟨_, _, rfl⟩
      obtain ⟨fi', ca', ha⟩ := this
      rw [ha] at hx
      exact Goes.of_run (s := pure (.func (.func f) fi' ca')) hr (by simp [execOp, ha]) rfl hx h
    · exact h.elim
  case binOp op t x y t2 =>
    obtain ⟨v, h1, h2⟩ := h
    exact Goes.of_run (s := do eqGuard op t x y (a.eval x) (a.eval y); binOp op t (a.eval x) (a.eval y)) hr (by simp [execOp]) (xBin_ok (hρ x (by simp [Op.operands])) (hρ y (by simp [Op.operands])) h1) (.same (xBin_plain h1)) h2
  case unOp op t x =>
    obtain ⟨v, h1, h2⟩ := h
    obtain ⟨p1, p2⟩ := xUn_ok (P := P) (w := w) (at1 x rfl) h1
    exact Goes.of_run (s := Op.unary op (a.eval x)) hr (by simp [execOp]) p1 (.same p2) h2
  case convert s d x => exact Goes.of_ans (s := convert s d (a.eval x)) (by simp [execOp]) (xCv_ok hr (at1 x rfl) h)
  case makeInterface t x =>
    obtain ⟨h1, h2⟩ := h
    unfold isIface at h1
    cases hu : P.underlying t with
    | none => rw [hu] at h1; cases h1
    | some d =>
      rw [hu] at h1
      refine Goes.of_run (s := Instr.makeInterface t (a.eval x)) (v' := .iface t (a.eval x)) hr (by simp [execOp]) ?_ (.iface (at1 x rfl)) h2
      cases d <;> first
        | (simp at h1; done)
        | simp [Instr.makeInterface, run_underlying hu]
  case makeFunc fn fi ca =>
    have f1 := arr_map (P := P) (H := H) (μ := μ) (ρ := ρ) (ρ' := a.eval) fi (fun x hx => hρ x (by simp [Op.operands, hx]))
    have f2 := arr_map (P := P) (H := H) (μ := μ) (ρ := ρ) (ρ' := a.eval) ca (fun x hx => hρ x (by simp [Op.operands, hx]))
    cases fn with
    | func f => exact Goes.of_run (s := Instr.makeFunc (.func f) (fi.map a.eval) (ca.map a.eval)) hr (by simp [execOp]) rfl (.fn f1.1 f2.1 f1.2 f2.2) h
    | _ => exact h.elim
  case makeSlice t l c => exact Goes.of_ans (s := Instr.makeSlice t (a.eval l) (a.eval c)) (by simp [execOp]) (xMakeSlice_ok hr (hρ l (by simp [Op.operands])) (hρ c (by simp [Op.operands])) h)
  case slice t x lo hi mx =>
    have ho : ∀ y : Option Operand, (∀ z ∈ y, VR P H μ (ρ z) (a.eval z)) → (y.map ρ).isSome = (y.map a.eval).isSome ∧ ∀ v v', y.map ρ = some v → y.map a.eval = some v' → VR P H μ v v' := fun y hy => by
      cases y with
      | none => exact ⟨rfl, fun v v' e => by cases e⟩
      | some z => exact ⟨rfl, fun v v' e e' => by cases e; cases e'; exact hy z rfl⟩
    obtain ⟨a1, a2⟩ := ho lo (fun z hz => hρ z (by cases hz; simp [Op.operands]))
    obtain ⟨b1, b2⟩ := ho hi (fun z hz => hρ z (by cases hz; simp [Op.operands]))
    obtain ⟨c1, c2⟩ := ho mx (fun z hz => hρ z (by cases hz; simp [Op.operands]))
    exact Goes.of_ans (s := Instr.sliceAt t (a.eval x) (lo.map a.eval) (hi.map a.eval) (mx.map a.eval)) (by simp [execOp]) (xSliceA_ok hr (hρ x (by simp [Op.operands])) a1 a2 b1 b2 c1 c2 h)
  case fieldAddr s x f => exact Goes.of_ans (s := Instr.fieldAt s (a.eval x) f) (by simp [execOp]) (xField_ok hr (at1 x rfl) h)
  case field s x f => exact Goes.of_ans (s := Instr.field s (a.eval x) f) (by simp [execOp]) (xPart_ok hr (at1 x rfl) h)
  case indexAddr t x i => exact Goes.of_ans (s := Instr.indexAt t (a.eval x) (a.eval i)) (by simp [execOp]) (xIndexAddr_ok hr (hρ x (by simp [Op.operands])).unx (hρ i (by simp [Op.operands])) h)
  case index t x i =>
    obtain ⟨v, h1, h2⟩ := h
    obtain ⟨p1, p2⟩ := xIndex_ok (P := P) (w := w) (hρ x (by simp [Op.operands])) (hρ i (by simp [Op.operands])) h1
    exact Goes.of_run (s := Instr.index t (a.eval x) (a.eval i)) hr (by simp [execOp]) p1 (.same p2) h2
  case extract x n => exact Goes.of_ans (s := Instr.extract (a.eval x) n) (by simp [execOp]) (xExtract_ok hr (at1 x rfl) h)
  case range t x => exact Goes.of_ans (s := Instr.range t (a.eval x)) (by simp [execOp]) (xRange_ok hr (at1 x rfl) h)
  case next x s => exact Goes.of_ans (s := Instr.next (a.eval x) s type) (by simp [execOp]) (xNext_ok hr (at1 x rfl) h)
  case call c =>
    obtain ⟨callee, args, ats⟩ := c
    simp only at h
    cases callee with
    | invoke r n => exact h.elim
    | builtin b =>
      have hargs : ∀ x ∈ args, VR P H μ (ρ x) (a.eval x) := fun x hx => hρ x (by simp [Op.operands, Call.operands, hx])
      simp only at h
      unfold xCallB at h
      split at h
      · rename_i s x hl
        have : ∃ p q, args = #[p, q] ∧ ρ p = s ∧ ρ q = x := by
          obtain ⟨l⟩ := args
          obtain ⟨p, q, rfl, e1, e2⟩ := lst2 hl
          exact ⟨p, q, rfl, e1, e2⟩
        obtain ⟨p, q, rfl, rfl, rfl⟩ := this
        exact Goes.of_ans (s := Builtin.append_ ats type #[a.eval p, a.eval q]) (by simp [execOp, resolve, invoke, builtin]) (xAppA_ok hr (hargs p (by simp)) (hargs q (by simp)) h)
      · rename_i s x hl
        have : ∃ p q, args = #[p, q] ∧ ρ p = s ∧ ρ q = x := by
          obtain ⟨l⟩ := args
          obtain ⟨p, q, rfl, e1, e2⟩ := lst2 hl
          exact ⟨p, q, rfl, e1, e2⟩
        obtain ⟨p, q, rfl, rfl, rfl⟩ := this
        exact Goes.of_ans (s := Builtin.copy_ ats type #[a.eval p, a.eval q]) (by simp [execOp, resolve, invoke, builtin]) (xCopy_ok hr (hargs p (by simp)).unx (hargs q (by simp)).unx h)
      · rename_i x hl
        have : ∃ p, args = #[p] ∧ ρ p = x := by
          obtain ⟨l⟩ := args
          obtain ⟨p, rfl, e1⟩ := lst1 hl
          exact ⟨p, rfl, e1⟩
        obtain ⟨p, rfl, rfl⟩ := this
        obtain ⟨v, h1, h2⟩ := h
        obtain ⟨p1, p2⟩ := xLen_ok (P := P) (w := w) (ty := type) (hargs p (by simp)).unx h1
        exact Goes.of_run (s := Builtin.len_ ats type #[a.eval p]) hr (by simp [execOp, resolve, invoke, builtin]) p1 (.same p2) h2
      · rename_i x hl
        have : ∃ p, args = #[p] ∧ ρ p = x := by
          obtain ⟨l⟩ := args
          obtain ⟨p, rfl, e1⟩ := lst1 hl
          exact ⟨p, rfl, e1⟩
        obtain ⟨p, rfl, rfl⟩ := this
        obtain ⟨v, h1, h2⟩ := h
        obtain ⟨p1, p2⟩ := xCap_ok (P := P) (w := w) (ty := type) (hargs p (by simp)) h1
        exact Goes.of_run (s := Builtin.cap_ ats type #[a.eval p]) hr (by simp [execOp, resolve, invoke, builtin]) p1 (.same p2) h2
      · rename_i x hl
        have : ∃ p, args = #[p] ∧ ρ p = x := by
          obtain ⟨l⟩ := args
          obtain ⟨p, rfl, e1⟩ := lst1 hl
          exact ⟨p, rfl, e1⟩
        obtain ⟨p, rfl, rfl⟩ := this
        exact Goes.of_ans (s := Builtin.clear_ ats type #[a.eval p]) (by simp [execOp, resolve, invoke, builtin]) (xClear_ok hr (hargs p (by simp)).unx h)
      · rename_i k m k' n hl
        have : ∃ p q, args = #[p, q] ∧ ρ p = .int k m ∧ ρ q = .int k' n := by
          obtain ⟨l⟩ := args
          obtain ⟨p, q, rfl, e1, e2⟩ := lst2 hl
          exact ⟨p, q, rfl, e1, e2⟩
        obtain ⟨p, q, rfl, e1, e2⟩ := this
        have v1 := hargs p (by simp)
        have v2 := hargs q (by simp)
        rw [e1] at v1
        rw [e2] at v2
        refine Goes.of_run (s := Builtin.min_ ats type #[a.eval p, a.eval q]) (v' := .int k (if n < m then n else m)) hr (by simp [execOp, resolve, invoke, builtin]) ?_ (.same rfl) h
        rw [v1.eq rfl, v2.eq rfl]
        simp [Builtin.min_, Builtin.min2]
      · rename_i k m k' n hl
        have : ∃ p q, args = #[p, q] ∧ ρ p = .int k m ∧ ρ q = .int k' n := by
          obtain ⟨l⟩ := args
          obtain ⟨p, q, rfl, e1, e2⟩ := lst2 hl
          exact ⟨p, q, rfl, e1, e2⟩
        obtain ⟨p, q, rfl, e1, e2⟩ := this
        have v1 := hargs p (by simp)
        have v2 := hargs q (by simp)
        rw [e1] at v1
        rw [e2] at v2
        refine Goes.of_run (s := Builtin.max_ ats type #[a.eval p, a.eval q]) (v' := .int k (if n > m then n else m)) hr (by simp [execOp, resolve, invoke, builtin]) ?_ (.same rfl) h
        rw [v1.eq rfl, v2.eq rfl]
        simp [Builtin.max_, Builtin.max2]
      · exact h.elim
    | value f =>
      have hargs := arr_map (P := P) (H := H) (μ := μ) (ρ := ρ) (ρ' := a.eval) args (fun x hx => hρ x (by simp [Op.operands, Call.operands, hx]))
      have hf := hρ f (by simp [Op.operands, Call.operands])
      simp only at h
      unfold xCallV at h
      split at h
      · rename_i g fi ca e
        rw [e] at hf
        have : ∃ fi' ca', a.eval f = .func (.func g) fi' ca' ∧ AR P H μ fi fi' ∧ AR P H μ ca ca' := by
          generalize a.eval f = y at hf
          cases hf with
          | same hp => simp [plain] at hp
          | fn a b c d => exact ⟨_, _, rfl, ⟨a, c⟩, ⟨b, d⟩⟩
        obtain ⟨fi', ca', e', q1, q2⟩ := this
        obtain ⟨⟨fn, n1, n2, n3⟩, h2⟩ := h
        have happ : ∀ {A B A' B' : Array Value}, AR P H μ A A' → AR P H μ B B' → AR P H μ (A ++ B) (A' ++ B') := fun {A B A' B'} x y => by
          refine ⟨by simp [x.1, y.1], fun j v v' a b => ?_⟩
          rw [Array.getElem?_append] at a b
          split at a
          · rename_i hj
            rw [if_pos (by rw [← x.1]; exact hj)] at b
            exact x.2 j v v' a b
          · rename_i hj
            rw [if_neg (by rw [← x.1]; exact hj), ← x.1] at b
            exact y.2 _ v v' a b
        intro next Q hn
        have hc := h2 μ w (fi' ++ args.map a.eval ++ ca') hr (happ (happ q1 hargs) q2)
        unfold Oper.wp
        have hrun : (execOp a.eval { dst := dst, op := .call { callee := .value f, args := args, argTypes := ats }, type := type, pos := pos, after := after, guard := guard }).run P w = .ok (.enter g (fi' ++ args.map a.eval ++ ca')) w := by
          have n2' : ¬ fn.name = "runtime.NumGoroutine" := by simpa using n2
          have n3' : ¬ fn.body = none := fun e => by rw [e] at n3; cases n3
          simp [execOp, resolve, e', Deferred.ofValue, invoke, callFunc, n1, n2', n3']
        rw [hrun, Oper.upon_enter]
        refine hc.mono ?_
        rintro e w2 ⟨v, v', H2, μ2, rfl, k1, k2, k3, k4⟩
        exact hn v v' w2 H2 μ2 k1 k2 k3 k4
      · exact h.elim
  all_goals exact h.elim
end
end Go.Proofs.YtcmflpdgfddmeaaW.XM

namespace Go.Proofs.YtcmflpdgfddmeaaW.XM
open Go.RowKit
/-- An operand that names a slot that is there, or a value without addresses. -/
def goodX (n : Nat) : Operand → Bool
  | .tmp t => decide (t < n)
  | .const v => plain v
  | _ => true
def goodO (n : Nat) (o : Oper) : Bool := o.op.operands.all (goodX n) && (match o.dst with | some d => decide (d < n) | none => true)
def goodC (n : Nat) : Code → Bool
  | .region _ ops _ => ops.all (goodO n)
  | .seq a b => goodC n a && goodC n b
  | .cond c a b => goodX n c && goodC n a && goodC n b
  | .block _ b => goodC n b
  | .loop b => goodC n b
  | .skip | .exit _ | .ret => true
  | _ => false
def yld (ops : Array Oper) (T : Ts) (j : Nat) : Option Bool := match (ops[j]?).bind (·.dst) with
  | some t => match T t with
    | .bool b => some b
    | _ => none
  | none => none
abbrev QT := Exit → Ts → Hp → Prop
section
variable {P : Program} {w0 : World}
/-- What holds of the machine, said of the model. -/
def LQ (P : Program) (w0 : World) (n : Nat) (H0 : Hp) (μ0 : Mp) (Q : QT) : Exit → Act → World → Prop := fun e a w => a.defers = [] ∧ ∃ T H μ, Q e T H ∧ Rel P w0 H μ w ∧ TR P H μ n T a.tmps ∧ Ext H0 μ0 H μ
def AW (P : Program) (w0 : World) (n : Nat) (c : Code) (Q : QT) (T : Ts) (H : Hp) : Prop :=
  ∀ H0 μ0 μ w a, Rel P w0 H μ w → TR P H μ n T a.tmps → a.defers = [] → Ext H0 μ0 H μ → c.wp P (LQ P w0 n H0 μ0 Q) a w
theorem ev_ok {n : Nat} {H : Hp} {μ : Mp} {T : Ts} {a : Act} (h : TR P H μ n T a.tmps) {x : Operand} (hx : goodX n x = true) : VR P H μ (ev T x) (a.eval x) := by
  cases x with
  | tmp t => exact h.2 t (by simpa [goodX] using hx)
  | const v => exact .same hx
  | global g => exact .same rfl
  | func f => exact .fn rfl rfl (fun j v v' a => by simp at a) (fun j v v' a => by simp at a)
theorem TR.upd {n : Nat} {H : Hp} {μ : Mp} {T : Ts} {a : Act} (h : TR P H μ n T a.tmps) (d : Option Nat) {v v' : Value} (hv : VR P H μ v v') : TR P H μ n (upd T d v) (a.put d v').tmps := by
  cases d with
  | none => exact h
  | some d =>
    refine ⟨by simp [Act.put, h.1], fun t ht => ?_⟩
    have hs : t < a.tmps.size := by rw [h.1]; exact ht
    simp only [XM.upd, Act.put]
    by_cases e : t = d
    · subst e
      rw [if_pos rfl]
      have : (a.tmps.setIfInBounds t v').getD t undef = v' := by simp [Array.getD, hs]
      rw [this]
      exact hv
    · rw [if_neg e]
      have : (a.tmps.setIfInBounds d v').getD t undef = a.tmps.getD t undef := by
        simp only [Array.getD_eq_getD_getElem?]
        rw [Array.getElem?_setIfInBounds_ne (fun x => e x.symm)]
      rw [this]
      exact h.2 t ht
theorem TR.mono {n : Nat} {H H2 : Hp} {μ μ2 : Mp} {T : Ts} {a : Array Value} (h : TR P H μ n T a) (he : Ext H μ H2 μ2) : TR P H2 μ2 n T a := ⟨h.1, fun t ht => (h.2 t ht).mono he⟩
theorem VR.bool {H : Hp} {μ : Mp} {v v' : Value} (h : VR P H μ v v') (b : Bool) : v' = .bool b ↔ v = .bool b := by
  constructor
  · intro e; subst e; cases h with
    | same _ => rfl
  · intro e; subst e; exact h.eq rfl
theorem yld_ok {n : Nat} {H : Hp} {μ : Mp} {T : Ts} {a : Act} (h : TR P H μ n T a.tmps) {ops : Array Oper} (hg : ops.all (goodO n) = true) (j : Nat) : yielded ops a.tmps j = yld ops T j := by
  unfold yielded yld
  cases hj : ops[j]? with
  | none => rfl
  | some o =>
    cases hd : o.dst with
    | none => simp [hd]
    | some t =>
      simp only [hd, Option.bind_some]
      have hgo : goodO n o = true := by
        have := Array.all_eq_true_iff_forall_mem.1 hg o (Array.mem_of_getElem? hj)
        exact this
      have ht : t < n := by
        unfold goodO at hgo
        rw [hd] at hgo
        simp at hgo
        exact hgo.2
      have hs : t < a.tmps.size := by rw [h.1]; exact ht
      have hv := h.2 t ht
      have e1 : a.tmps.getD t undef = a.tmps[t] := by simp [Array.getD, hs]
      rw [e1] at hv
      rw [Array.getElem?_eq_getElem hs]
      cases hx : T t <;> rw [hx] at hv <;> simp only
      case bool b => rw [hv.eq rfl]
      all_goals
        split
        · rename_i b hb
          have e := (hv.bool b).1 (by simpa using hb)
          cases e
        · rfl
def wan (o : Oper) (ops : Array Oper) (T : Ts) : Bool := match o.guard with
  | none => true
  | some (j, want) => yld ops T j == some want
/-- The operations of a region, one behind the other. -/
def xl (P : Program) (w0 : World) (ops : Array Oper) (Q : Ts → Hp → Prop) : List Oper → Ts → Hp → Prop
  | [], T, H => Q T H
  | o :: r, T, H => if wan o ops T = true then xo P w0 o.op (ev T) H (fun v H2 => xl P w0 ops Q r (upd T o.dst v) H2) else xl P w0 ops Q r (upd T o.dst undef) H
theorem xl_ok {n : Nat} {ops : Array Oper} (hg : ops.all (goodO n) = true) {Q : QT} : ∀ (l : List Oper), (∀ o ∈ l, goodO n o = true) → ∀ (T : Ts) (H : Hp), xl P w0 ops (Q .normal) l T H → ∀ H0 μ0 μ w a, Rel P w0 H μ w → TR P H μ n T a.tmps → a.defers = [] → Ext H0 μ0 H μ →
    wpList P ops (LQ P w0 n H0 μ0 Q) l a w
  | [], _, T, H, h, H0, μ0, μ, w, a, h1, h2, h3, h4 => ⟨h3, T, H, μ, h, h1, h2, h4⟩
  | o :: r, hl, T, H, h, H0, μ0, μ, w, a, h1, h2, h3, h4 => by
    have hgo := hl o (by simp)
    have hops : o.op.operands.all (goodX n) = true := by unfold goodO at hgo; simp only [Bool.and_eq_true] at hgo; exact hgo.1
    have hw : Region.wanted o (yielded ops a.tmps) = wan o ops T := by
      unfold Region.wanted wan
      cases o.guard with
      | none => rfl
      | some g => simp only [yld_ok h2 hg]
    simp only [xl] at h
    unfold wpList
    rw [hw]
    split at h
    · rename_i hwan
      rw [if_pos hwan]
      refine .inl (xo_ok h1 (fun x hx => ev_ok h2 (Array.all_eq_true_iff_forall_mem.1 hops x hx)) h _ _ fun v v' w2 H2 μ2 k1 k2 k3 k4 => ?_)
      refine xl_ok hg r (fun x hx => hl x (by simp [hx])) _ _ k1 H0 μ0 μ2 w2 _ k2 ((h2.mono k4).upd o.dst k3) ?_ (h4.trans k4)
      unfold Act.put
      split <;> exact h3
    · rename_i hwan
      rw [if_neg hwan]
      refine xl_ok hg r (fun x hx => hl x (by simp [hx])) _ _ h H0 μ0 μ w _ h1 (h2.upd o.dst .undef) ?_ h4
      unfold Act.put
      split <;> exact h3
end
/-- The code of a function. -/
def xw (P : Program) (w0 : World) (n : Nat) : Code → QT → Ts → Hp → Prop
  | .skip, Q, T, H => Q .normal T H
  | .region _ ops false, Q, T, H => xl P w0 ops (Q .normal) ops.toList T H
  | .seq a b, Q, T, H => xw P w0 n a (fun e T H => match e with | .normal => xw P w0 n b Q T H | e => Q e T H) T H
  | .cond c a b, Q, T, H => match ev T c with
    | .bool t => if t = true then xw P w0 n a Q T H else xw P w0 n b Q T H
    | _ => False
  | .block i b, Q, T, H => xw P w0 n b (fun e T H => match e with | .exit j => if j = i then Q .normal T H else Q (.exit j) T H | e => Q e T H) T H
  | .exit i, Q, T, H => Q (.exit i) T H
  | .ret, Q, T, H => Q .ret T H
  | c, Q, T, H => AW P w0 n c Q T H
section
variable {P : Program} {w0 : World} {n : Nat}
theorem LQ.mono {H0 : Hp} {μ0 : Mp} {Q Q' : QT} (h : ∀ e T H, Q e T H → Q' e T H) {e : Exit} {a : Act} {w : World} (hq : LQ P w0 n H0 μ0 Q e a w) : LQ P w0 n H0 μ0 Q' e a w :=
  ⟨hq.1, let ⟨T, H, μ, a, b⟩ := hq.2; ⟨T, H, μ, h _ _ _ a, b⟩⟩
theorem xw_ok : ∀ (c : Code), goodC n c = true → ∀ (Q : QT) (T : Ts) (H : Hp), xw P w0 n c Q T H → AW P w0 n c Q T H
  | .skip, _, Q, T, H, h => fun H0 μ0 μ w a h1 h2 h3 h4 => wp_skip ⟨h3, T, H, μ, h, h1, h2, h4⟩
  | .exit i, _, Q, T, H, h => fun H0 μ0 μ w a h1 h2 h3 h4 => wp_exit ⟨h3, T, H, μ, h, h1, h2, h4⟩
  | .ret, _, Q, T, H, h => fun H0 μ0 μ w a h1 h2 h3 h4 => wp_ret ⟨h3, T, H, μ, h, h1, h2, h4⟩
  | .region _ ops false, hg, Q, T, H, h => fun H0 μ0 μ w a h1 h2 h3 h4 => wp_region_list (xl_ok hg ops.toList (fun o ho => Array.all_eq_true_iff_forall_mem.1 hg o (by simpa using ho)) T H h H0 μ0 μ w a h1 h2 h3 h4)
  | .region _ ops true, _, Q, T, H, h => h
  | .seq x y, hg, Q, T, H, h => fun H0 μ0 μ w a h1 h2 h3 h4 => by
    simp only [goodC, Bool.and_eq_true] at hg
    refine wp_seq (wp_mono (xw_ok x hg.1 _ T H h H0 μ0 μ w a h1 h2 h3 h4) ?_)
    rintro e a2 w2 ⟨d, T2, H2, μ2, q, r1, r2, r3⟩
    cases e with
    | normal => exact xw_ok y hg.2 Q T2 H2 q H0 μ0 μ2 w2 a2 r1 r2 d r3
    | exit i => exact ⟨d, T2, H2, μ2, q, r1, r2, r3⟩
    | goto i => exact ⟨d, T2, H2, μ2, q, r1, r2, r3⟩
    | ret => exact ⟨d, T2, H2, μ2, q, r1, r2, r3⟩
    | panic i => exact ⟨d, T2, H2, μ2, q, r1, r2, r3⟩
    | outgrown => exact ⟨d, T2, H2, μ2, q, r1, r2, r3⟩
  | .cond c x y, hg, Q, T, H, h => fun H0 μ0 μ w a h1 h2 h3 h4 => by
    simp only [goodC, Bool.and_eq_true] at hg
    simp only [xw] at h
    split at h
    · rename_i t ht
      have hv := ev_ok h2 hg.1.1
      rw [ht] at hv
      cases t with
      | true =>
        rw [if_pos rfl] at h
        exact wp_cond_true (hv.eq rfl) (xw_ok x hg.1.2 Q T H h H0 μ0 μ w a h1 h2 h3 h4)
      | false =>
        rw [if_neg (by decide)] at h
        exact wp_cond_false (hv.eq rfl) (xw_ok y hg.2 Q T H h H0 μ0 μ w a h1 h2 h3 h4)
    · exact h.elim
  | .block i b, hg, Q, T, H, h => fun H0 μ0 μ w a h1 h2 h3 h4 => by
    refine wp_block (wp_mono (xw_ok b hg _ T H h H0 μ0 μ w a h1 h2 h3 h4) ?_)
    rintro e a2 w2 ⟨d, T2, H2, μ2, q, r1, r2, r3⟩
    cases e with
    | exit j =>
      simp only [Exit.inBlock]
      simp only at q
      split
      · rename_i e
        rw [if_pos e] at q
        exact ⟨d, T2, H2, μ2, q, r1, r2, r3⟩
      · rename_i e
        rw [if_neg e] at q
        exact ⟨d, T2, H2, μ2, q, r1, r2, r3⟩
    | normal => exact ⟨d, T2, H2, μ2, q, r1, r2, r3⟩
    | goto i => exact ⟨d, T2, H2, μ2, q, r1, r2, r3⟩
    | ret => exact ⟨d, T2, H2, μ2, q, r1, r2, r3⟩
    | panic i => exact ⟨d, T2, H2, μ2, q, r1, r2, r3⟩
    | outgrown => exact ⟨d, T2, H2, μ2, q, r1, r2, r3⟩
  | .loop b, _, Q, T, H, h => h
  | .rangeFunc _ _ _ _, _, Q, T, H, h => h
  | .scope _, _, Q, T, H, h => h
  | .label _, _, Q, T, H, h => h
  | .goto _, _, Q, T, H, h => h
  | .refuse _, _, Q, T, H, h => h
theorem wp_loopN {c : Code} {Q : Exit → Act → World → Prop} {a : Act} {w : World} (J : Nat → Act → World → Prop) (k0 : Nat) (h0 : J k0 a w)
    (round : ∀ k a w, J k a w → c.wp P (Exit.then (fun a' w' => ∃ k', k' < k ∧ J k' a' w') Q) a w) : (Code.loop c).wp P Q a w := by
  intro b k cs
  have key : ∀ n a w, J n a w → ∃ e a' w', Q e a' w' ∧ Arrives P (lone (b.at a (.code c :: .inLoop c :: k)) cs w) b k cs e a' w' := by
    intro n
    induction n using Nat.strongRecOn with
    | _ n ih =>
      intro a w hI
      obtain ⟨e, a₁, w₁, hq, harr⟩ := round n a w hI b (.inLoop c :: k) cs
      cases e with
      | normal =>
        obtain ⟨n', hlt, hI₁⟩ := hq
        obtain ⟨e₂, a₂, w₂, hq₂, harr₂⟩ := ih n' hlt a₁ w₁ hI₁
        exact ⟨e₂, a₂, w₂, hq₂, .of_steps (Steps.trans harr (.one step_inLoop)) harr₂⟩
      | exit id => exact ⟨_, a₁, w₁, hq, .pass (x := .inLoop c) rfl (fun _ _ => .inl (by simp)) harr⟩
      | goto l => exact ⟨_, a₁, w₁, hq, .pass (x := .inLoop c) rfl (fun _ _ => .inl (by simp)) harr⟩
      | ret => exact ⟨_, a₁, w₁, hq, .pass (x := .inLoop c) rfl (fun _ _ => .inl (by simp)) harr⟩
      | panic ch => exact ⟨_, a₁, w₁, hq, .pass (x := .inLoop c) rfl (fun _ _ => .inl (by simp)) harr⟩
      | outgrown => exact ⟨_, a₁, w₁, hq, .pass (x := .inLoop c) rfl (fun _ _ => .inl (by simp)) harr⟩
  obtain ⟨e, a', w', hq, harr⟩ := key _ a w h0
  exact ⟨e, a', w', hq, .of_steps (.one step_loop) harr⟩
/-- What a round must come to. -/
def LoopK {σ : Type} (I : σ → Ts → Hp → Prop) (m : σ → Nat) (s : σ) (Q : QT) : QT := fun e T H => match e with
  | .normal => ∃ s', I s' T H ∧ m s' < m s
  | e => Q e T H
theorem xw_loop {σ : Type} (I : σ → Ts → Hp → Prop) (m : σ → Nat) (s0 : σ) {b : Code} {Q : QT} {T : Ts} {H : Hp} (hg : goodC n b = true) (h0 : I s0 T H) (round : ∀ s T H, I s T H → xw P w0 n b (LoopK I m s Q) T H) : xw P w0 n (.loop b) Q T H := by
  intro H0 μ0 μ w a h1 h2 h3 h4
  refine wp_loopN (fun k a w => a.defers = [] ∧ ∃ s T H μ, m s = k ∧ I s T H ∧ Rel P w0 H μ w ∧ TR P H μ n T a.tmps ∧ Ext H0 μ0 H μ) (m s0) ⟨h3, s0, T, H, μ, rfl, h0, h1, h2, h4⟩ ?_
  rintro k a w ⟨d, s, T, H, μ, rfl, hI, r1, r2, r3⟩
  refine wp_mono (xw_ok b hg _ T H (round s T H hI) H0 μ0 μ w a r1 r2 d r3) ?_
  rintro e a2 w2 ⟨d2, T2, H2, μ2, q, k1, k2, k3⟩
  cases e with
  | normal =>
    obtain ⟨s', q1, q2⟩ := q
    exact ⟨m s', q2, d2, s', T2, H2, μ2, rfl, q1, k1, k2, k3⟩
  | exit i => exact ⟨d2, T2, H2, μ2, q, k1, k2, k3⟩
  | goto i => exact ⟨d2, T2, H2, μ2, q, k1, k2, k3⟩
  | ret => exact ⟨d2, T2, H2, μ2, q, k1, k2, k3⟩
  | panic i => exact ⟨d2, T2, H2, μ2, q, k1, k2, k3⟩
  | outgrown => exact ⟨d2, T2, H2, μ2, q, k1, k2, k3⟩
end
end Go.Proofs.YtcmflpdgfddmeaaW.XM

namespace Go.Proofs.YtcmflpdgfddmeaaW.XM
open Go.RowKit
def resL (P : Program) (w0 : World) (T : Ts) (H : Hp) : List ResultVar → Option (List Value)
  | [] => some []
  | .tmp t :: r => (resL P w0 T H r).map (T t :: ·)
  | .cell a t :: r => match T a with
    | .pointer (some ad) => match rdT P w0 H t ad with
      | some v => (resL P w0 T H r).map (v :: ·)
      | none => none
    | _ => none
def one : List Value → Value
  | [v] => v
  | vs => .tuple vs.toArray
def FPost (P : Program) (w0 : World) (fn : Func) (R : Value → Hp → Prop) : QT := fun e T H => match e with
  | .normal => ∃ vs, resL P w0 T H fn.results.toList = some vs ∧ R (one vs) H
  | .ret => ∃ vs, resL P w0 T H fn.results.toList = some vs ∧ R (one vs) H
  | _ => False
def goodF (fn : Func) (k : Nat) : Bool := decide (k ≤ fn.ntmps) && fn.results.all (fun | .tmp t => decide (t < fn.ntmps) | .cell a _ => decide (a < fn.ntmps)) && !(fn.name == "runtime.NumGoroutine") &&
  (match fn.body with | some c => goodC fn.ntmps c | none => false)
section
variable {P : Program} {w0 : World}
theorem resL_ok {n : Nat} {H : Hp} {μ : Mp} {T : Ts} {a : Act} {w : World} (hr : Rel P w0 H μ w) (ht : TR P H μ n T a.tmps) : ∀ (l : List ResultVar), l.all (fun | .tmp t => decide (t < n) | .cell a _ => decide (a < n)) = true → ∀ vs, resL P w0 T H l = some vs →
    ∃ vs' : List Value, (l.mapM fun | .tmp t => pure (a.tmps.getD t undef) | .cell b t => do loadVar t (← asAddr (a.tmps.getD b undef)) : Sem (List Value)).run P w = .ok vs' w ∧ AR P H μ vs.toArray vs'.toArray
  | [], _, vs, h => by cases h; exact ⟨[], rfl, rfl, fun j v v' a => by simp at a⟩
  | .tmp t :: r, hg, vs, h => by
    simp only [List.all_cons, Bool.and_eq_true, decide_eq_true_eq] at hg
    simp only [resL] at h
    cases hc : resL P w0 T H r with
    | none => rw [hc] at h; cases h
    | some l =>
      rw [hc] at h
      cases h
      obtain ⟨vs', h1, h2⟩ := resL_ok hr ht r hg.2 l hc
      refine ⟨a.tmps.getD t undef :: vs', by simp only [List.mapM_cons, Sem.run_bind, Sem.run_pure, Result.andThen_ok, h1], by simpa using h2.1, fun j v v' e1 e2 => ?_⟩
      cases j with
      | zero => simp only [List.getElem?_toArray, List.getElem?_cons_zero] at e1 e2; cases e1; cases e2; exact ht.2 t hg.1
      | succ j => exact h2.2 j v v' (by simpa using e1) (by simpa using e2)
  | .cell b t :: r, hg, vs, h => by
    simp only [List.all_cons, Bool.and_eq_true, decide_eq_true_eq] at hg
    simp only [resL] at h
    split at h
    · rename_i ad hb
      cases hv : rdT P w0 H t ad with
      | none => rw [hv] at h; cases h
      | some v =>
        rw [hv] at h
        simp only at h
        cases hc : resL P w0 T H r with
        | none => rw [hc] at h; cases h
        | some l =>
          rw [hc] at h
          cases h
          obtain ⟨vs', h1, h2⟩ := resL_ok hr ht r hg.2 l hc
          have hx := ht.2 b hg.1
          rw [hb] at hx
          have : ∃ ad', a.tmps.getD b undef = .pointer (some ad') := by
            generalize a.tmps.getD b undef = y at hx
            cases hx <;> exact ⟨_, rfl⟩
          obtain ⟨ad', e⟩ := this
          rw [e] at hx
          obtain ⟨v', k1, k2⟩ := rdT_spec hr hx hv
          refine ⟨v' :: vs', by
            have hA : (asAddr (a.tmps.getD b undef)).run P w = .ok ad' w := by rw [e]; rfl
            simp only [List.mapM_cons, Sem.run_bind, hA, Sem.run_pure, Result.andThen_ok, k1, h1], by simpa using h2.1, fun j v v' e1 e2 => ?_⟩
          cases j with
          | zero => simp only [List.getElem?_toArray, List.getElem?_cons_zero] at e1 e2; cases e1; cases e2; exact k2
          | succ j => exact h2.2 j v v' (by simpa using e1) (by simpa using e2)
    · cases h
theorem one_ok {H : Hp} {μ : Mp} {vs vs' : List Value} (h : AR P H μ vs.toArray vs'.toArray) : VR P H μ (one vs) (if h : vs'.toArray.size = 1 then vs'.toArray[0] else .tuple vs'.toArray) := by
  have hl : vs.length = vs'.length := by simpa using h.1
  match vs, vs', hl with
  | [], [], _ => exact .tuple h.1 h.2
  | [v], [v'], _ => exact h.2 0 v v' rfl rfl
  | _ :: _ :: _, _ :: _ :: _, _ => rw [dif_neg (by simp)]; exact .tuple h.1 h.2
theorem AFn_of {f : FuncId} {fn : Func} {c : Code} {args : Array Value} {H : Hp} {R : Value → Hp → Prop} (hf : P.funcs[f]? = some fn) (hb : fn.body = some c) (hg : goodF fn args.size = true)
    (h : xw P w0 fn.ntmps c (FPost P w0 fn R) (argT args.toList) H) : AFn P w0 f args H R := by
  unfold goodF at hg
  rw [hb] at hg
  simp only [Bool.and_eq_true, Bool.not_eq_true', decide_eq_true_eq] at hg
  obtain ⟨⟨⟨g1, g2⟩, g3⟩, g4⟩ := hg
  refine ⟨⟨fn, hf, g3, by rw [hb]; rfl⟩, fun μ w args' h1 h2 => ?_⟩
  refine calls_of_wp hf hb ?_
  have hs : args'.size = args.size := h2.1.symm
  refine wp_mono (xw_ok c g4 _ _ H h H μ μ w _ h1 ⟨by rw [Array.size_append, Array.size_replicate, hs]; omega, fun t ht => ?_⟩ rfl (Ext.refl _ _)) ?_
  · unfold argT
    rw [Array.getD_eq_getD_getElem?, Array.getElem?_append]
    by_cases hlt : t < args'.size
    · rw [if_pos hlt]
      have e1 : args.toList[t]? = some (args[t]'(by omega)) := by simp
      rw [e1, Array.getElem?_eq_getElem hlt]
      exact h2.2 t _ _ (Array.getElem?_eq_getElem (by omega)) (Array.getElem?_eq_getElem hlt)
    · rw [if_neg hlt]
      have e1 : args.toList[t]? = none := by simp; omega
      rw [e1]
      have e2 : (Array.replicate (fn.ntmps - args'.size) undef)[t - args'.size]? = some undef := by
        rw [Array.getElem?_replicate, if_pos (by omega)]
      rw [e2]
      exact .undef
  · rintro e a2 w2 ⟨d, T2, H2, μ2, q, r1, r2, r3⟩
    have fin : (∃ vs, resL P w0 T2 H2 fn.results.toList = some vs ∧ R (one vs) H2) → a2.defers = [] ∧ ∃ v, (results fn a2.tmps).run P w2 = .ok v w2 ∧ ∃ v0 v' H2' μ2', Ending.returned v = .returned v' ∧ R v0 H2' ∧ Rel P w0 H2' μ2' w2 ∧ VR P H2' μ2' v0 v' ∧ Ext H μ H2' μ2' := by
      rintro ⟨vs, k1, k2⟩
      have g2' : fn.results.toList.all (fun | .tmp t => decide (t < fn.ntmps) | .cell a _ => decide (a < fn.ntmps)) = true := by simpa using g2
      obtain ⟨vs', m1, m2⟩ := resL_ok r1 r2 fn.results.toList g2' vs k1
      refine ⟨d, _, ?_, one vs, _, H2, μ2, rfl, k2, r1, one_ok m2, r3⟩
      unfold results
      rw [Sem.run_bind, Array.mapM_eq_mapM_toList, Sem.run_map]
      exact (congrArg (fun r : Result (List Value) => (r.andThen fun a w' => Result.ok a.toArray w').andThen fun a w' => (pure (if h : a.size = 1 then a[0] else .tuple a) : Sem Value).run P w') m1).trans rfl
    cases e with
    | normal => exact fin q
    | ret => exact fin q
    | exit i => exact q.elim
    | goto i => exact q.elim
    | panic i => exact q.elim
    | outgrown => exact q.elim
/-- No address of the machine anywhere in it. -/
def clean : Value → Bool
  | .agg cs => cs.toList.all plain
  | v => plain v
theorem clean_ok {H : Hp} {μ : Mp} {v : Value} (h : clean v = true) : VR P H μ v v := by
  cases v with
  | agg cs =>
    simp only [clean] at h
    refine .agg rfl fun j v v' a b => ?_
    rw [a] at b; cases b
    exact .same (List.all_eq_true.1 h v (by simpa using Array.mem_of_getElem? a))
  | _ => exact .same h
/-- What a law asks. -/
theorem calls_of_AFn {f : FuncId} {args : Array Value} {w : World} {v : Value} (hv : plain v = true) (ha : ∀ x ∈ args, clean x = true) (h : AFn P w f args [] (fun r _ => r = v)) :
    Calls P f args w fun e w' => e = .returned v ∧ Below w.heap.size w w' := by
  refine (h.2 ⟨fun _ => 0, fun _ => 0, fun _ => 0⟩ w args ⟨Below.refl _ _, fun i t cs hi => by simp at hi, fun i s p hi => by simp at hi, fun i j o o' hi => by simp at hi⟩ ⟨rfl, fun j v v' a b => ?_⟩).mono ?_
  · rw [a] at b; cases b; exact clean_ok (ha _ (Array.mem_of_getElem? a))
  · rintro e w2 ⟨v0, v', H2, μ2, rfl, rfl, r1, r2, _⟩
    rw [r2.eq hv]
    exact ⟨rfl, r1.below⟩
end
end Go.Proofs.YtcmflpdgfddmeaaW.XM

namespace Go.Proofs.YtcmflpdgfddmeaaW.XM
open Go.RowKit
section
variable {P : Program} {w0 : World}
theorem xAppS_mono {e n b m : Nat} {cs : List Value} {s : Value} {H : Hp} {K K' : Value → Hp → Prop} (hk : ∀ v H2, K v H2 → K' v H2) (h : xAppS P w0 e n b m cs s H K) : xAppS P w0 e n b m cs s H K' := by
  unfold xAppS at h ⊢
  split at h
  · split at h
    · rename_i hm; rw [if_pos hm]; exact ⟨h.1, hk _ _ h.2⟩
    · rename_i hm; rw [if_neg hm]; exact ⟨h.1, h.2.1, h.2.2.1, hk _ _ h.2.2.2⟩
  · split at h
    · rename_i hm; simp only [if_pos hm]; exact ⟨h.1, hk _ _ h.2⟩
    · rename_i hm
      simp only [if_neg hm]
      obtain ⟨a, b, c, d, e⟩ := h
      exact ⟨a, b, c, d, hk _ _ e⟩
  · obtain ⟨ty, c0, bb, a1, a2, a3, a4⟩ := h
    refine ⟨ty, c0, bb, a1, a2, a3, ?_⟩
    split at a4
    · rename_i hm; rw [if_pos hm]; exact ⟨a4.1, hk _ _ a4.2⟩
    · rename_i hm
      rw [if_neg hm]
      obtain ⟨q1, q2, q3, q4, q5, q6, q7⟩ := a4
      exact ⟨q1, q2, q3, q4, q5, q6, hk _ _ q7⟩
  · exact h
theorem xSlice_mono {t : TypeId} {x : Value} {lo hi mx : Option Value} {H : Hp} {K K' : Value → Hp → Prop} (hk : ∀ v H2, K v H2 → K' v H2) (h : xSlice P t x lo hi mx H K) : xSlice P t x lo hi mx H K' := by
  unfold xSlice at h ⊢
  split at h
  · obtain ⟨a1, a2, l, h', b1, b2, b3, b4, b5, k⟩ := h; exact ⟨a1, a2, l, h', b1, b2, b3, b4, b5, hk _ _ k⟩
  · obtain ⟨e, n, a1, a2, l, h', m, b1, b2, b0, b3, b4, b5, b6, k⟩ := h; exact ⟨e, n, a1, a2, l, h', m, b1, b2, b0, b3, b4, b5, b6, hk _ _ k⟩
  · obtain ⟨e, n, a1, a2, l, h', m, b1, b2, b0, b3, b4, b5, b6, c, k⟩ := h
    refine ⟨e, n, a1, a2, l, h', m, b1, b2, b0, b3, b4, b5, b6, c, ?_⟩
    rcases k with ⟨tg, k1, k2, k3, k4⟩ | ⟨k1, k2⟩ | ⟨k1, k2⟩
    · exact .inl ⟨tg, k1, k2, k3, hk _ _ k4⟩
    · exact .inr (.inl ⟨k1, hk _ _ k2⟩)
    · exact .inr (.inr ⟨k1, hk _ _ k2⟩)
  · exact h
theorem xSliceA_mono {t : TypeId} {x : Value} {lo hi mx : Option Value} {H : Hp} {K K' : Value → Hp → Prop} (hk : ∀ v H2, K v H2 → K' v H2) (h : xSliceA P t x lo hi mx H K) : xSliceA P t x lo hi mx H K' := by
  unfold xSliceA at h ⊢
  split at h
  · unfold xSliceL at h ⊢
    split at h
    · obtain ⟨e, n, a1, a2, l, h', m, b1, b2, b0, b3, b4, b5, b6, c, k⟩ := h
      exact ⟨e, n, a1, a2, l, h', m, b1, b2, b0, b3, b4, b5, b6, c, hk _ _ k⟩
    · exact h
  · exact xSlice_mono hk h
theorem xAppend_mono {ats : Array TypeId} {s x : Value} {H : Hp} {K K' : Value → Hp → Prop} (hk : ∀ v H2, K v H2 → K' v H2) (h : xAppend P w0 ats s x H K) : xAppend P w0 ats s x H K' := by
  obtain ⟨t0, t1, e, n, z, b, m, cs, a1, a2, a3, a4, a5, a6, a7, a8, a9⟩ := h
  exact ⟨t0, t1, e, n, z, b, m, cs, a1, a2, a3, a4, a5, a6, a7, a8, xAppS_mono hk a9⟩
theorem xAppA_mono {ats : Array TypeId} {s x : Value} {H : Hp} {K K' : Value → Hp → Prop} (hk : ∀ v H2, K v H2 → K' v H2) (h : xAppA P w0 ats s x H K) : xAppA P w0 ats s x H K' := by
  unfold xAppA at h ⊢
  split at h
  · rcases h with h | ⟨a, sl, sc, e, t0, t1, e', n, z, b, m, cs, old, a1, a2, a3, a4, a5, a6, a7, a8, a9, a10, a11⟩
    · exact .inl (xAppend_mono hk h)
    · exact .inr ⟨a, sl, sc, e, t0, t1, e', n, z, b, m, cs, old, a1, a2, a3, a4, a5, a6, a7, a8, a9, a10, hk _ _ a11⟩
  · exact xAppend_mono hk h
theorem xo_mono {o : Op} {ρ : Operand → Value} {H : Hp} {K K' : Value → Hp → Prop} (hk : ∀ v H2, K v H2 → K' v H2) (h : xo P w0 o ρ H K) : xo P w0 o ρ H K' := by
  cases o <;> simp only [xo] at h ⊢
  case move x => exact hk _ _ h
  case assign x => exact hk _ _ h
  case pick c x y =>
    unfold xPick at h ⊢
    split at h
    · exact hk _ _ h
    · exact h
  case alloc t => obtain ⟨cs, a, b⟩ := h; exact ⟨cs, a, hk _ _ b⟩
  case box t x => exact ⟨h.1, hk _ _ h.2⟩
  case build t ps => obtain ⟨z, pl, c, a, b, d, e⟩ := h; exact ⟨z, pl, c, a, b, d, hk _ _ e⟩
  case buildSlice t n ps => obtain ⟨e, n', z, c, a1, a2, a3, a4, a5, a6, a7⟩ := h; exact ⟨e, n', z, c, a1, a2, a3, a4, a5, a6, hk _ _ a7⟩
  case load t x =>
    unfold xLoad at h ⊢
    split at h
    · obtain ⟨v, a, b⟩ := h; exact ⟨v, a, hk _ _ b⟩
    · exact h
  case store t x y =>
    unfold xStore at h ⊢
    split at h
    · obtain ⟨ty, cs, b, a1, a2, a3, a4, a5, a6⟩ := h; exact ⟨ty, cs, b, a1, a2, a3, a4, a5, hk _ _ a6⟩
    · exact h
  case nilCheck x =>
    unfold xNil at h ⊢
    split at h
    · exact hk _ _ h
    · exact hk _ _ h
    · exact h
  case binOp op t x y t2 => obtain ⟨v, a, b⟩ := h; exact ⟨v, a, hk _ _ b⟩
  case unOp op t x => obtain ⟨v, a, b⟩ := h; exact ⟨v, a, hk _ _ b⟩
  case convert s d x =>
    unfold xCv at h ⊢
    split at h
    · split at h
      · rename_i e; rw [if_pos e]; obtain ⟨a, e, b, c⟩ := h; exact ⟨a, e, b, hk _ _ c⟩
      · rename_i e; rw [if_neg e]; obtain ⟨v, a, b⟩ := h; exact ⟨v, a, hk _ _ b⟩
    · exact ⟨h.1, h.2.1, hk _ _ h.2.2⟩
    · obtain ⟨a, b, cs, l, c, d, e⟩ := h; exact ⟨a, b, cs, l, c, d, hk _ _ e⟩
    · obtain ⟨v, a, b⟩ := h; exact ⟨v, a, hk _ _ b⟩
  case makeInterface t x => exact ⟨h.1, hk _ _ h.2⟩
  case makeFunc fn fi ca => cases fn <;> first | exact hk _ _ h | exact h
  case makeSlice t l c =>
    unfold xMakeSlice at h ⊢
    split at h
    · obtain ⟨e, n, z, b, a1, a2, a3, a4, a5, a6, a7, a8, a9⟩ := h; exact ⟨e, n, z, b, a1, a2, a3, a4, a5, a6, a7, a8, hk _ _ a9⟩
    · exact h
  case slice t x lo hi mx => exact xSliceA_mono hk h
  case fieldAddr s x f =>
    unfold xField at h ⊢
    split at h
    · obtain ⟨d, ag, n, a, b⟩ := h; exact ⟨d, ag, n, a, hk _ _ b⟩
    · exact h
  case field s x f =>
    unfold xPart at h ⊢
    split at h
    · obtain ⟨d, ag, n, a, b⟩ := h
      refine ⟨d, ag, n, a, ?_⟩
      split at b
      · rename_i e; rw [if_pos e]; exact hk _ _ b
      · rename_i e; rw [if_neg e]; obtain ⟨v, p, q⟩ := b; exact ⟨v, p, hk _ _ q⟩
    · exact h
  case indexAddr t x i =>
    unfold xIndexAddr at h ⊢
    split at h
    · obtain ⟨e, n, a, b, c, d⟩ := h; exact ⟨e, n, a, b, c, hk _ _ d⟩
    · exact h
  case index t x i => obtain ⟨v, a, b⟩ := h; exact ⟨v, a, hk _ _ b⟩
  case extract x n =>
    unfold xExtract at h ⊢
    split at h
    · obtain ⟨v, a, b⟩ := h; exact ⟨v, a, hk _ _ b⟩
    · exact h
  case range t x =>
    unfold xRange at h ⊢
    split at h
    · exact ⟨h.1, hk _ _ h.2⟩
    · exact h
  case next x s =>
    unfold xNext at h ⊢
    split at h
    · obtain ⟨a, s', p, b, c⟩ := h
      refine ⟨a, s', p, b, ?_⟩
      split at c
      · rename_i e; rw [if_pos e]; exact hk _ _ c
      · rename_i e; rw [if_neg e]; exact hk _ _ c
    · exact h
  case call c =>
    obtain ⟨callee, args, ats⟩ := c
    cases callee with
    | invoke r n => exact h
    | builtin b =>
      simp only at h ⊢
      unfold xCallB at h ⊢
      split at h
      · exact xAppA_mono hk h
      · unfold xCopy at h ⊢
        split at h
        · obtain ⟨t0, e, n, m, cs, ty, c0, bb, a1, a2, a3, a4, a5, a6, a7, a8, a9⟩ := h; exact ⟨t0, e, n, m, cs, ty, c0, bb, a1, a2, a3, a4, a5, a6, a7, a8, hk _ _ a9⟩
        · exact h
      · obtain ⟨v, a, b⟩ := h; exact ⟨v, a, hk _ _ b⟩
      · obtain ⟨v, a, b⟩ := h; exact ⟨v, a, hk _ _ b⟩
      · unfold xClear at h ⊢
        split at h
        · obtain ⟨t0, e, n, z, ty, c0, bb, a1, a2, a3, a4, a5, a6, a7, a8, a9⟩ := h; exact ⟨t0, e, n, z, ty, c0, bb, a1, a2, a3, a4, a5, a6, a7, a8, hk _ _ a9⟩
        · exact h
      · exact hk _ _ h
      · exact hk _ _ h
      · exact h
    | value f =>
      simp only at h ⊢
      unfold xCallV at h ⊢
      split at h
      · exact h.mono hk
      · exact h
theorem xo_congr {o : Op} {ρ ρ' : Operand → Value} {H : Hp} {K : Value → Hp → Prop} (hρ : ∀ x ∈ o.operands, ρ x = ρ' x) (h : xo P w0 o ρ H K) : xo P w0 o ρ' H K := by
  have hm : ∀ xs : Array Operand, (∀ x ∈ xs, ρ x = ρ' x) → xs.map ρ = xs.map ρ' := fun xs h => Array.map_congr_left h
  have ho : ∀ y : Option Operand, (∀ z, y = some z → ρ z = ρ' z) → y.map ρ = y.map ρ' := fun y h => by
    cases y with
    | none => rfl
    | some z => simp [h z rfl]
  have hp : ∀ ps : Array (Nat × Operand), (∀ p ∈ ps, ρ p.2 = ρ' p.2) → (ps.toList.map fun p => (p.1, ρ p.2)) = ps.toList.map fun p => (p.1, ρ' p.2) := fun ps h => List.map_congr_left fun p hp => by rw [h p (by simpa using hp)]
  cases o <;> simp only [xo] at h ⊢
  case build t ps => rw [← hp ps fun p hq => hρ p.2 (by simp [Op.operands]; exact ⟨p.1, hq⟩)]; exact h
  case buildSlice t n ps => rw [← hp ps fun p hq => hρ p.2 (by simp [Op.operands]; exact ⟨p.1, hq⟩)]; exact h
  case makeFunc fn fi ca => rw [← hm fi fun x hx => hρ x (by simp [Op.operands, hx]), ← hm ca fun x hx => hρ x (by simp [Op.operands, hx])]; exact h
  case slice t x lo hi mx =>
    rw [← hρ x (by simp [Op.operands]), ← ho lo fun z e => hρ z (by subst e; simp [Op.operands]), ← ho hi fun z e => hρ z (by subst e; simp [Op.operands]), ← ho mx fun z e => hρ z (by subst e; simp [Op.operands])]
    exact h
  case call c =>
    obtain ⟨callee, args, ats⟩ := c
    cases callee with
    | invoke r n => exact h
    | builtin b =>
      have : args.toList.map ρ = args.toList.map ρ' := List.map_congr_left fun x hx => hρ x (by simp [Op.operands, Call.operands]; simpa using hx)
      simp only at h ⊢
      rw [← this]; exact h
    | value f =>
      simp only at h ⊢
      rw [← hρ f (by simp [Op.operands, Call.operands]), ← hm args fun x hx => hρ x (by simp [Op.operands, Call.operands, hx])]; exact h
  case pick c x y => rw [← hρ c (by simp [Op.operands]), ← hρ x (by simp [Op.operands]), ← hρ y (by simp [Op.operands])]; exact h
  case store t x y => rw [← hρ x (by simp [Op.operands]), ← hρ y (by simp [Op.operands])]; exact h
  case binOp op t x y t2 => rw [← hρ x (by simp [Op.operands]), ← hρ y (by simp [Op.operands])]; exact h
  case makeSlice t x y => rw [← hρ x (by simp [Op.operands]), ← hρ y (by simp [Op.operands])]; exact h
  case indexAddr t x y => rw [← hρ x (by simp [Op.operands]), ← hρ y (by simp [Op.operands])]; exact h
  case index t x y => rw [← hρ x (by simp [Op.operands]), ← hρ y (by simp [Op.operands])]; exact h
  all_goals (first
    | exact h
    | (rename_i x; rw [← hρ x (by simp [Op.operands])]; exact h)
    | (rename_i x _; rw [← hρ x (by simp [Op.operands])]; exact h)
    | (rename_i x _ _; rw [← hρ x (by simp [Op.operands])]; exact h))
/-! ### orders -/
def xop1 (P : Program) (w0 : World) (ops : Array Oper) (i : Nat) (T : Ts) (H : Hp) (K : Ts → Hp → Prop) : Prop := match ops[i]? with
  | none => K T H
  | some o => if wan o ops T = true then xo P w0 o.op (ev T) H (fun v H2 => K (upd T o.dst v) H2) else K (upd T o.dst undef) H
def XA (P : Program) (w0 : World) (ops : Array Oper) (Q : Ts → Hp → Prop) (chk : Nat → Hp → Prop) : Nat → Array Bool → Ts → Hp → Prop
  | 0, listed, T, H => Region.ready .any ops listed = [] ∧ Q T H
  | f + 1, listed, T, H => (Region.ready .any ops listed = [] → Q T H) ∧ ∀ i ∈ Region.ready .any ops listed, xop1 P w0 ops i T H fun T2 H2 => (H2 = H ∨ chk i H2) ∧ XA P w0 ops Q chk f (listed.setIfInBounds i true) T2 H2
theorem xop1_mono {ops : Array Oper} {i : Nat} {T : Ts} {H : Hp} {K K' : Ts → Hp → Prop} (hk : ∀ T H, K T H → K' T H) (h : xop1 P w0 ops i T H K) : xop1 P w0 ops i T H K' := by
  unfold xop1 at h ⊢
  split at h
  · exact hk _ _ h
  · split at h
    · rename_i e; simp only [if_pos e]; exact xo_mono (fun v H2 => hk _ _) h
    · rename_i e; simp only [if_neg e]; exact hk _ _ h
theorem XA.mono {ops : Array Oper} {Q : Ts → Hp → Prop} {chk chk' : Nat → Hp → Prop} (hc : ∀ i H, chk i H → chk' i H) : ∀ (f : Nat) {listed : Array Bool} {T : Ts} {H : Hp}, XA P w0 ops Q chk f listed T H → XA P w0 ops Q chk' f listed T H
  | 0, _, _, _, h => h
  | f + 1, _, _, _, h => ⟨h.1, fun i hi => xop1_mono (fun _ _ hk => ⟨hk.1.imp id (hc i _), XA.mono hc f hk.2⟩) (h.2 i hi)⟩
theorem XA_ok {n : Nat} {ops : Array Oper} (hg : ops.all (goodO n) = true) {Q : QT} {chk : Nat → Hp → Prop} : ∀ (f : Nat) (listed : Array Bool) (T : Ts) (H : Hp), XA P w0 ops (Q .normal) chk f listed T H → ∀ H0 μ0 μ w a, Rel P w0 H μ w → TR P H μ n T a.tmps → a.defers = [] → Ext H0 μ0 H μ →
    wpAny P .any ops (LQ P w0 n H0 μ0 Q) f listed a w
  | 0, listed, T, H, h, H0, μ0, μ, w, a, h1, h2, h3, h4 => ⟨h.1, h3, T, H, μ, h.2, h1, h2, h4⟩
  | f + 1, listed, T, H, h, H0, μ0, μ, w, a, h1, h2, h3, h4 => by
    refine ⟨fun e => ⟨h3, T, H, μ, h.1 e, h1, h2, h4⟩, fun i hi => ?_⟩
    have hx := h.2 i hi
    unfold xop1 at hx
    unfold wpOp
    cases ho : ops[i]? with
    | none =>
      rw [ho] at hx
      exact XA_ok hg f _ T H hx.2 H0 μ0 μ w a h1 h2 h3 h4
    | some o =>
      rw [ho] at hx
      simp only at hx ⊢
      have hgo : goodO n o = true := Array.all_eq_true_iff_forall_mem.1 hg o (Array.mem_of_getElem? ho)
      have hops : o.op.operands.all (goodX n) = true := by unfold goodO at hgo; simp only [Bool.and_eq_true] at hgo; exact hgo.1
      have hw : Region.wanted o (yielded ops a.tmps) = wan o ops T := by
        unfold Region.wanted wan
        cases o.guard with
        | none => rfl
        | some g => simp only [yld_ok h2 hg]
      rw [hw]
      split at hx
      · rename_i e
        rw [if_pos e]
        refine .inl (xo_ok h1 (fun x hx => ev_ok h2 (Array.all_eq_true_iff_forall_mem.1 hops x hx)) hx _ _ fun v v' w2 H2 μ2 k1 k2 k3 k4 => ?_)
        refine XA_ok hg f _ _ _ k1.2 H0 μ0 μ2 w2 _ k2 ((h2.mono k4).upd o.dst k3) ?_ (h4.trans k4)
        unfold Act.put
        split <;> exact h3
      · rename_i e
        rw [if_neg e]
        refine XA_ok hg f _ _ _ hx.2 H0 μ0 μ w _ h1 (h2.upd o.dst .undef) ?_ h4
        unfold Act.put
        split <;> exact h3
def anc (ops : Array Oper) : Nat → Nat → Nat → Bool
  | 0, _, _ => false
  | f + 1, i, j => match ops[j]? with
    | none => false
    | some o => o.after.any fun e => Region.binds .any e && (e.on == i || anc ops f i e.on)
def Closed (ops : Array Oper) (listed : Array Bool) : Prop := ∀ j o, listed.getD j false = true → ops[j]? = some o → ∀ e ∈ o.after, Region.binds .any e = true → listed.getD e.on false = true
theorem anc_listed {ops : Array Oper} {listed : Array Bool} (hc : Closed ops listed) {i : Nat} (hi : listed.getD i false = false) : ∀ (f j : Nat), listed.getD j false = true → anc ops f i j = false
  | 0, _, _ => rfl
  | f + 1, j, hj => by
    unfold anc
    cases ho : ops[j]? with
    | none => rfl
    | some o =>
      simp only
      rw [Bool.eq_false_iff]
      intro h
      obtain ⟨e, he, h2⟩ := Array.any_eq_true'.1 h
      simp only [Bool.and_eq_true, Bool.or_eq_true, beq_iff_eq] at h2
      have hl := hc j o hj ho e he h2.1
      rcases h2.2 with h3 | h3
      · rw [h3, hi] at hl; cases hl
      · rw [anc_listed hc hi f e.on hl] at h3; cases h3
theorem anc_ready {ops : Array Oper} {listed : Array Bool} (hc : Closed ops listed) {i j : Nat} (hi : listed.getD i false = false) (hj : j ∈ Region.ready .any ops listed) (f : Nat) : anc ops f i j = false := by
  cases f with
  | zero => rfl
  | succ f =>
    obtain ⟨_, o, ho, hall⟩ := mem_ready.1 hj
    unfold anc
    rw [ho]
    simp only
    rw [Bool.eq_false_iff]
    intro h
    obtain ⟨e, he, h2⟩ := Array.any_eq_true'.1 h
    simp only [Bool.and_eq_true, Bool.or_eq_true, beq_iff_eq] at h2
    have hl := hall e he h2.1
    rcases h2.2 with h3 | h3
    · rw [h3, hi] at hl; cases hl
    · rw [anc_listed hc hi f e.on hl] at h3; cases h3
theorem Closed.set {ops : Array Oper} {listed : Array Bool} (hc : Closed ops listed) {j : Nat} (hj : j ∈ Region.ready .any ops listed) : Closed ops (listed.setIfInBounds j true) := by
  obtain ⟨hj0, oj, hoj, hall⟩ := mem_ready.1 hj
  intro k o hk ho e he hb
  by_cases hkj : j = k
  · subst hkj
    rw [hoj] at ho; cases ho
    exact getD_set_true (hall e he hb)
  · rw [getD_set_ne false hkj] at hk
    exact getD_set_true (hc k o hk ho e he hb)
end
end Go.Proofs.YtcmflpdgfddmeaaW.XM

namespace Go.Proofs.YtcmflpdgfddmeaaW.XM
open Go.RowKit
section
variable {P : Program} {w0 : World}
def looks (ops : Array Oper) (o : Oper) (d : Option Nat) : Bool := match d with | some d => (o.looksAt ops).contains d | none => false
theorem ev_upd {ops : Array Oper} {o : Oper} {T : Ts} {d : Option Nat} {v : Value} (h : ∀ e, d = some e → e ∉ o.looksAt ops) : ∀ x ∈ o.op.operands, ev (upd T d v) x = ev T x := by
  intro x hx
  cases d with
  | none => rfl
  | some d =>
    cases x with
    | tmp t =>
      have : t ≠ d := fun e => h d rfl (by subst e; exact List.mem_append_left _ (List.mem_filterMap.2 ⟨.tmp t, by simpa using hx, rfl⟩))
      simp [ev, upd, this]
    | _ => rfl
theorem wan_upd {ops : Array Oper} {o : Oper} {T : Ts} {d : Option Nat} {v : Value} (h : ∀ e, d = some e → e ∉ o.looksAt ops) : wan o ops (upd T d v) = wan o ops T := by
  cases d with
  | none => rfl
  | some d =>
    unfold wan
    cases hg : o.guard with
    | none => rfl
    | some gw =>
      obtain ⟨g, want⟩ := gw
      have hy : yld ops (upd T (some d) v) g = yld ops T g := by
        unfold yld
        cases ht : (ops[g]?).bind (·.dst) with
        | none => rfl
        | some t =>
          have : t ≠ d := fun e => h d rfl (by subst e; simp [Oper.looksAt, hg, ht])
          simp [upd, this]
      simp only [hy]
theorem upd_comm (T : Ts) {x y : Option Nat} (v u : Value) (h : ∀ d, x = some d → y ≠ some d) : upd (upd T x v) y u = upd (upd T y u) x v := by
  cases x with
  | none => rfl
  | some d =>
    cases y with
    | none => rfl
    | some e =>
      have hne : e ≠ d := fun he => h d rfl (he ▸ rfl)
      funext t
      simp only [upd]
      by_cases h1 : t = e
      · subst h1; simp [hne]
      · simp [h1]
/-- It yields v and changes nothing. -/
def Yl (P : Program) (w0 : World) (o : Op) (T : Ts) (H : Hp) (v : Value) : Prop := xo P w0 o (ev T) H fun v' H' => v' = v ∧ H' = H
theorem XA_first {ops : Array Oper} {Q : Ts → Hp → Prop} {i : Nat} {oi : Oper} {v : Value} (hi : ops[i]? = some oi) (N : Nat) : ∀ (f : Nat) {chk : Nat → Hp → Prop} {listed : Array Bool} {T : Ts} {H : Hp} {wn : Bool},
    Closed ops listed → i ∈ Region.ready .any ops listed → (∀ j oj, ops[j]? = some oj → j ≠ i → listed.getD j true = false → anc ops N i j = false → oi.apart ops oj = true) → wan oi ops T = wn → (wn = true → Yl P w0 oi.op T H v) → (wn = false → v = undef) →
    XA P w0 ops Q (fun j H' => chk j H' ∧ (anc ops N i j = true ∨ wn = false ∨ Yl P w0 oi.op T H' v)) f (listed.setIfInBounds i true) (upd T oi.dst v) H → XA P w0 ops Q chk (f + 1) listed T H
  | f, chk, listed, T, H, wn, hc, hr, hap, hw, hy, hu, hx => by
    have hil : listed.getD i false = false := by
      have := (mem_ready.1 hr).1
      have hlt : i < listed.size ∨ listed.size ≤ i := Nat.lt_or_ge _ _
      rcases hlt with h | h
      · simp only [Array.getD_eq_getD_getElem?, Array.getElem?_eq_getElem h] at this ⊢; exact this
      · simp [Array.getD_eq_getD_getElem?, Array.getElem?_eq_none h] at this
    refine ⟨fun h => (by rw [h] at hr; cases hr), fun j hj => ?_⟩
    by_cases hji : j = i
    · subst hji
      unfold xop1
      rw [hi]
      simp only
      cases wn with
      | true =>
        rw [if_pos hw]
        refine xo_mono (fun v' H' hh => ?_) (hy rfl)
        obtain ⟨rfl, rfl⟩ := hh
        exact ⟨.inl rfl, XA.mono (fun _ _ h => h.1) f hx⟩
      | false =>
        rw [if_neg (by rw [hw]; decide)]
        rw [← hu rfl]
        exact ⟨Or.inl trivial, XA.mono (fun _ _ h => h.1) f hx⟩
    · have hj2 := ready_mono hj hji
      have hanc := anc_ready hc hil hj N
      obtain ⟨hj0, oj, hoj, _⟩ := mem_ready.1 hj
      obtain ⟨a1, a2, a3⟩ := Oper.apart_spec (hap j oj hoj hji hj0 hanc)
      cases f with
      | zero =>
        have := hx.1
        rw [this] at hj2
        cases hj2
      | succ f =>
        have h1 := hx.2 j hj2
        unfold xop1 at h1 ⊢
        rw [hoj] at h1 ⊢
        simp only at h1 ⊢
        rw [wan_upd a1] at h1
        have nxt : ∀ u H2, (H2 = H ∨ ((chk j H2 ∧ (anc ops N i j = true ∨ wn = false ∨ Yl P w0 oi.op T H2 v)))) → XA P w0 ops Q (fun j H' => chk j H' ∧ (anc ops N i j = true ∨ wn = false ∨ Yl P w0 oi.op T H' v)) f ((listed.setIfInBounds i true).setIfInBounds j true) (upd (upd T oi.dst v) oj.dst u) H2 →
            (H2 = H ∨ chk j H2) ∧ XA P w0 ops Q chk (f + 1) (listed.setIfInBounds j true) (upd T oj.dst u) H2 := fun u H2 k1 k2 => by
          refine ⟨k1.imp id (·.1), ?_⟩
          have hYl : ∀ H', Yl P w0 oi.op (upd T oj.dst u) H' v ↔ Yl P w0 oi.op T H' v := fun H' => ⟨fun h => xo_congr (ev_upd a3) h, fun h => xo_congr (fun x hx => (ev_upd a3 x hx).symm) h⟩
          have hij : listed.getD i true = false := (mem_ready.1 hr).1
          refine XA_first hi N f (hc.set hj) (ready_mono hr (fun e => hji e.symm)) (fun k ok hk hki hkl ha => ?_) ((wan_upd a3).trans hw) (fun e => (hYl H2).2 ?_) hu ?_
          · refine hap k ok hk hki ?_ ha
            by_cases hjk : j = k
            · subst hjk
              exact hj0
            · rwa [getD_set_ne true hjk] at hkl
          · rcases k1 with rfl | ⟨_, k1⟩
            · exact hy e
            · rcases k1 with k1 | k1 | k1
              · rw [hanc] at k1; cases k1
              · rw [e] at k1; cases k1
              · exact k1
          · rw [Array.setIfInBounds_comm _ _ (fun e => hji e.symm), upd_comm T v u a2] at k2
            refine XA.mono (fun k H' hh => ⟨hh.1, hh.2.imp id (Or.imp id (hYl H').2)⟩) f k2
        split
        · rename_i e
          rw [if_pos e] at h1
          refine xo_mono (fun u H2 hh => nxt u H2 hh.1 hh.2) (xo_congr (ev_upd a1) h1)
        · rename_i e
          rw [if_neg e] at h1
          exact ⟨.inl trivial, (nxt undef H (.inl rfl) h1.2).2⟩
inductive PS where
  | q (i : Nat)
  | e (i : Nat)
structure Pd where
  i : Nat
  o : Op
  T : Ts
  v : Value
def pendOk (P : Program) (w0 : World) (ops : Array Oper) (j : Nat) (H : Hp) : List Pd → Prop
  | [] => True
  | p :: r => (if anc ops ops.size p.i j = true then True else Yl P w0 p.o p.T H p.v) ∧ pendOk P w0 ops j H r
def xd (P : Program) (w0 : World) (ops : Array Oper) (Q : Ts → Hp → Prop) : List PS → List Pd → Ts → Hp → Prop
  | [], _, T, H => Q T H
  | .q i :: r, pd, T, H => match ops[i]? with
    | none => False
    | some o => if wan o ops T = true then ∃ v, Yl P w0 o.op T H v ∧ xd P w0 ops Q r (⟨i, o.op, T, v⟩ :: pd) (upd T o.dst v) H else xd P w0 ops Q r pd (upd T o.dst undef) H
  | .e i :: r, pd, T, H => match ops[i]? with
    | none => False
    | some o => if wan o ops T = true then xo P w0 o.op (ev T) H (fun v H2 => pendOk P w0 ops i H2 pd ∧ xd P w0 ops Q r pd (upd T o.dst v) H2) else xd P w0 ops Q r pd (upd T o.dst undef) H
def freeB (ops : Array Oper) (listed : Array Bool) (i : Nat) : Bool := match ops[i]? with
  | none => false
  | some oi => (List.range ops.size).all fun j => match ops[j]? with
    | none => true
    | some oj => j == i || listed.getD j true || anc ops ops.size i j || oi.apart ops oj
def planB (ops : Array Oper) : List PS → Array Bool → Bool
  | [], listed => (Region.ready .any ops listed).isEmpty
  | .q i :: r, listed => (Region.ready .any ops listed).contains i && freeB ops listed i && planB ops r (listed.setIfInBounds i true)
  | .e i :: r, listed => (Region.ready .any ops listed) == [i] && planB ops r (listed.setIfInBounds i true)
theorem xd_ok {ops : Array Oper} {Q : Ts → Hp → Prop} : ∀ (l : List PS) (pd : List Pd) (listed : Array Bool) (T : Ts) (H : Hp), planB ops l listed = true → Closed ops listed → xd P w0 ops Q l pd T H →
    XA P w0 ops Q (fun j H' => pendOk P w0 ops j H' pd) l.length listed T H
  | [], pd, listed, T, H, hp, hc, h => ⟨by simpa [planB] using hp, h⟩
  | .q i :: r, pd, listed, T, H, hp, hc, h => by
    simp only [planB, Bool.and_eq_true] at hp
    obtain ⟨⟨p1, p2⟩, p3⟩ := hp
    have hr : i ∈ Region.ready .any ops listed := by simpa using p1
    simp only [xd] at h
    cases ho : ops[i]? with
    | none => rw [ho] at h; exact h.elim
    | some o =>
      rw [ho] at h
      simp only at h
      have hfree : ∀ j oj, ops[j]? = some oj → j ≠ i → listed.getD j true = false → anc ops ops.size i j = false → o.apart ops oj = true := fun j oj hj hne hl ha => by
        unfold freeB at p2
        rw [ho] at p2
        have := List.all_eq_true.1 p2 j (List.mem_range.2 (Array.getElem?_eq_some_iff.1 hj).1)
        rw [hj] at this
        simp only [Bool.or_eq_true, beq_iff_eq, hl, ha] at this
        simp only [hne, Bool.false_eq_true, false_or] at this
        exact this
      split at h
      · rename_i hw
        obtain ⟨v, h1, h2⟩ := h
        have := xd_ok r _ _ _ _ p3 (hc.set hr) h2
        refine XA_first ho ops.size r.length hc hr hfree hw (fun _ => h1) (by simp) (XA.mono (fun j H' hh => ?_) _ this)
        simp only [pendOk] at hh
        refine ⟨hh.2, ?_⟩
        have h3 := hh.1
        split at h3
        · rename_i e; exact .inl e
        · exact .inr (.inr h3)
      · rename_i hw
        have := xd_ok r _ _ _ _ p3 (hc.set hr) h
        exact XA_first (v := undef) (wn := false) ho ops.size r.length hc hr hfree (by simpa using hw) (by simp) (fun _ => rfl) (XA.mono (fun j H' hh => ⟨hh, .inr (.inl rfl)⟩) _ this)
  | .e i :: r, pd, listed, T, H, hp, hc, h => by
    simp only [planB, Bool.and_eq_true, beq_iff_eq] at hp
    obtain ⟨p1, p3⟩ := hp
    have hr : i ∈ Region.ready .any ops listed := by rw [p1]; simp
    simp only [xd] at h
    refine ⟨fun e => (by rw [p1] at e; cases e), fun j hj => ?_⟩
    rw [p1] at hj
    simp only [List.mem_singleton] at hj
    subst hj
    unfold xop1
    cases ho : ops[j]? with
    | none => rw [ho] at h; exact h.elim
    | some o =>
      rw [ho] at h
      simp only at h ⊢
      split at h
      · rename_i hw
        rw [if_pos hw]
        exact xo_mono (fun v H2 hh => ⟨.inr hh.1, xd_ok r _ _ _ _ p3 (hc.set hr) hh.2⟩) h
      · rename_i hw
        rw [if_neg hw]
        exact ⟨.inl trivial, xd_ok r _ _ _ _ p3 (hc.set hr) h⟩
theorem xw_draw {n id : Nat} {ops : Array Oper} {Q : QT} {T : Ts} {H : Hp} (plan : List PS) (hm : P.follows .mixedOrders = true) (hg : ops.all (goodO n) = true) (hp : (plan.length == ops.size && planB ops plan (Array.replicate ops.size false)) = true) (h : xd P w0 ops (Q .normal) plan [] T H) : xw P w0 n (.region id ops true) Q T H := by
  simp only [Bool.and_eq_true, beq_iff_eq] at hp
  intro H0 μ0 μ w a h1 h2 h3 h4
  refine wp_region_any hm ?_
  have hc : Closed ops (Array.replicate ops.size false) := fun j o hj => by
    by_cases hlt : j < ops.size <;> simp [Array.getD_eq_getD_getElem?, Array.getElem?_replicate, hlt] at hj
  have := xd_ok plan [] _ T H hp.2 hc h
  rw [hp.1] at this
  exact XA_ok hg _ _ T H this H0 μ0 μ _ a h1.drew h2 h3 h4
end
end Go.Proofs.YtcmflpdgfddmeaaW.XM

namespace Go.Proofs.YtcmflpdgfddmeaaW.XM
open Go.RowKit
/-- A sentence that is not looked into before its time. -/
inductive Lz (X : Prop) : Type | mk : Lz X
inductive Lk (K : Value → Hp → Prop) : Type | mk : Lk K
def Br (b : Bool) {X Y : Prop} (_ : Lz X) (_ : Lz Y) : Prop := if b = true then X else Y
def Req (p : Prop) {X : Prop} (_ : Lz X) : Prop := p ∧ X
def Opt (o : Option Value) (H : Hp) {K : Value → Hp → Prop} (_ : Lk K) : Prop := match o with
  | some v => K v H
  | none => False
def CallK (P : Program) (w0 : World) (f : FuncId) (args : Array Value) (H : Hp) {K : Value → Hp → Prop} (_ : Lk K) : Prop := AFn P w0 f args H K
section
variable {P : Program} {w0 : World} {n : Nat}
@[go_sem] theorem Br_true {X Y : Prop} (x : Lz X) (y : Lz Y) : Br true x y = X := if_pos rfl
@[go_sem] theorem Br_false {X Y : Prop} (x : Lz X) (y : Lz Y) : Br false x y = Y := if_neg (by decide)
@[go_sem] theorem Br_not {X Y : Prop} (b : Bool) (x : Lz X) (y : Lz Y) : Br (!b) x y = Br b y x := by cases b <;> (apply propext; exact Iff.rfl)
theorem Br_intro {b : Bool} {X Y : Prop} {x : Lz X} {y : Lz Y} (h1 : b = true → X) (h2 : b = false → Y) : Br b x y := by
  cases b with
  | false => rw [Br_false]; exact h2 rfl
  | true => rw [Br_true]; exact h1 rfl
@[go_sem] theorem Req_true {X : Prop} (x : Lz X) : Req True x = X := true_and X
theorem Req_intro {p X : Prop} {x : Lz X} (h1 : p) (h2 : X) : Req p x := ⟨h1, h2⟩
@[go_sem] theorem Opt_some (v : Value) (H : Hp) {K : Value → Hp → Prop} (k : Lk K) : Opt (some v) H k = K v H := propext Iff.rfl
theorem call {f : FuncId} {args : Array Value} {H : Hp} {K R : Value → Hp → Prop} {k : Lk K} (hc : AFn P w0 f args H R) (h : ∀ v H2, R v H2 → K v H2) : CallK P w0 f args H k := hc.mono h
theorem call_eq {f : FuncId} {args : Array Value} {H H3 : Hp} {u : Value} {K : Value → Hp → Prop} {k : Lk K} (hc : AFn P w0 f args H fun v H2 => v = u ∧ H2 = H3) (h : K u H3) : CallK P w0 f args H k := hc.mono fun v H2 e => by rw [e.1, e.2]; exact h
/-! the heap: what was there, and what is new -/
def Hx (B : Hp) (l : List (Option Ob)) : Hp := B ++ l
def nid (B : Hp) (k : Nat) : Nat := B.length + k
theorem Hx_nil (B : Hp) : Hx B [] = B := List.append_nil B
@[go_sem] theorem Hx_len (B : Hp) (l : List (Option Ob)) : (Hx B l).length = nid B l.length := by simp [Hx, nid]
@[go_sem] theorem Hx_app (B : Hp) (l m : List (Option Ob)) : Hx B l ++ m = Hx B (l ++ m) := by simp [Hx]
@[go_sem] theorem Hx_get (B : Hp) (l : List (Option Ob)) (k : Nat) : (Hx B l)[nid B k]? = l[k]? := by
  unfold Hx nid
  rw [List.getElem?_append_right (by omega)]
  congr 1; omega
@[go_sem] theorem Hx_set (B : Hp) (l : List (Option Ob)) (k : Nat) (x : Option Ob) : (Hx B l).set (nid B k) x = Hx B (l.set k x) := by
  unfold Hx nid
  rw [List.set_append_right _ _ (by omega)]
  congr 2; omega
@[go_sem] theorem Hx_Hx (B : Hp) (l m : List (Option Ob)) : Hx (Hx B l) m = Hx B (l ++ m) := by simp [Hx]
@[go_sem] theorem nid_Hx (B : Hp) (l : List (Option Ob)) (k : Nat) : nid (Hx B l) k = nid B (l.length + k) := by simp [Hx, nid, Nat.add_assoc]
theorem Hx_old {B : Hp} {i : Nat} {x : Option Ob} (h : B[i]? = some x) (l : List (Option Ob)) : (Hx B l)[i]? = some x := by
  unfold Hx
  rw [List.getElem?_append_left (lt_of_get h)]; exact h
/-! operations of a region -/
def KO (P : Program) (w0 : World) (ops : Array Oper) (Q : Ts → Hp → Prop) (r : List Oper) (T : Ts) (d : Option Nat) : Value → Hp → Prop := fun v H => xl P w0 ops Q r (upd T d v) H
@[go_sem] theorem KO_app (ops : Array Oper) (Q : Ts → Hp → Prop) (r : List Oper) (T : Ts) (d : Option Nat) (v : Value) (H : Hp) : KO P w0 ops Q r T d v H = xl P w0 ops Q r (upd T d v) H := propext Iff.rfl
@[go_sem] theorem xl_nil (ops : Array Oper) (Q : Ts → Hp → Prop) (T : Ts) (H : Hp) : xl P w0 ops Q [] T H = Q T H := propext Iff.rfl
/-- One operation, K behind it. -/
def Do (P : Program) (w0 : World) (op : Op) (T : Ts) (H : Hp) {K : Value → Hp → Prop} (_ : Lk K) : Prop := xo P w0 op (ev T) H K
@[go_sem] theorem xl_cons (ops : Array Oper) (Q : Ts → Hp → Prop) (r : List Oper) (T : Ts) (H : Hp) (d : Option Tmp) (op : Op) (ty : TypeId) (ps : String) (af : Array Edge) :
    xl P w0 ops Q ({ dst := d, op := op, type := ty, pos := ps, after := af, guard := none } :: r) T H = Do P w0 op T H (Lk.mk (K := KO P w0 ops Q r T d)) := propext Iff.rfl
def dstAt : List Oper → Nat → Option Nat
  | [], _ => none
  | o :: _, 0 => o.dst
  | _ :: r, k + 1 => dstAt r k
def isTB (b : Bool) : Value → Bool
  | .bool c => c == b
  | _ => false
@[go_sem] theorem isTB_true (c : Bool) : isTB true (.bool c) = c := by cases c <;> rfl
@[go_sem] theorem isTB_false (c : Bool) : isTB false (.bool c) = !c := by cases c <;> rfl
@[go_sem] theorem isTB_undef (b : Bool) : isTB b undef = false := rfl
def atB (T : Ts) (b : Bool) : Option Nat → Bool
  | some t => isTB b (T t)
  | none => false
@[go_sem] theorem atB_some (T : Ts) (b : Bool) (t : Nat) : atB T b (some t) = isTB b (T t) := rfl
theorem dstAt_eq : ∀ (l : List Oper) (j : Nat), dstAt l j = (l[j]?).bind (·.dst)
  | [], _ => rfl
  | _ :: _, 0 => rfl
  | _ :: r, k + 1 => dstAt_eq r k
theorem wan_guard (ops : Array Oper) (T : Ts) (d : Option Tmp) (op : Op) (ty : TypeId) (ps : String) (af : Array Edge) (j : Nat) (b : Bool) : wan { dst := d, op := op, type := ty, pos := ps, after := af, guard := some (j, b) } ops T = atB T b (dstAt ops.toList j) := by
  unfold wan yld
  simp only [dstAt_eq, Array.getElem?_toList]
  cases (ops[j]?).bind (·.dst) with
  | none => rfl
  | some t =>
    simp only [atB]
    cases h : T t <;> first
      | rfl
      | (rename_i c; cases c <;> cases b <;> rfl)
@[go_sem] theorem xl_guard (l : List Oper) (Q : Ts → Hp → Prop) (r : List Oper) (T : Ts) (H : Hp) (d : Option Tmp) (op : Op) (ty : TypeId) (ps : String) (af : Array Edge) (j : Nat) (b : Bool) :
    xl P w0 l.toArray Q ({ dst := d, op := op, type := ty, pos := ps, after := af, guard := some (j, b) } :: r) T H = Br (atB T b (dstAt l j)) (Lz.mk (X := Do P w0 op T H (Lk.mk (K := KO P w0 l.toArray Q r T d)))) (Lz.mk (X := xl P w0 l.toArray Q r (upd T d undef) H)) := by
  show (if wan _ _ T = true then _ else _) = _
  rw [wan_guard]
  rfl
@[go_sem] theorem ev_tmp (T : Ts) (t : Nat) : ev T (.tmp t) = T t := rfl
@[go_sem] theorem ev_const (T : Ts) (v : Value) : ev T (.const v) = v := rfl
@[go_sem] theorem ev_func (T : Ts) (f : FuncId) : ev T (.func f) = .func (.func f) #[] #[] := rfl
@[go_sem] theorem ev_global (T : Ts) (g : Nat) : ev T (.global g) = .pointer (some ⟨g, 0, none⟩) := rfl
@[go_sem] theorem upd_app (T : Ts) (d : Nat) (v : Value) (t : Nat) : upd T (some d) v t = bif Nat.beq t d then v else T t := by
  simp only [upd]
  by_cases h : t = d
  · subst h; simp
  · have : Nat.beq t d = false := by rw [Bool.eq_false_iff]; intro e; exact h (Nat.eq_of_beq_eq_true e)
    rw [if_neg h, this]; rfl
@[go_sem] theorem upd_none (T : Ts) (v : Value) : upd T none v = T := rfl
@[go_sem] theorem argT_zero (v : Value) (l : List Value) : argT (v :: l) 0 = v := rfl
@[go_sem] theorem argT_succ (v : Value) (l : List Value) (k : Nat) : argT (v :: l) (k + 1) = argT l k := rfl
/-! what each operation asks -/
@[go_sem] theorem do_move (x : Operand) (T : Ts) (H : Hp) {K : Value → Hp → Prop} (k : Lk K) : Do P w0 (.move x) T H k = K (ev T x) H := propext Iff.rfl
@[go_sem] theorem do_assign (x : Operand) (T : Ts) (H : Hp) {K : Value → Hp → Prop} (k : Lk K) : Do P w0 (.assign x) T H k = K (ev T x) H := propext Iff.rfl
def pickV (c a b : Value) : Option Value := match c with
  | .bool t => some (if t = true then a else b)
  | _ => none
@[go_sem] theorem do_pick (c a b : Operand) (T : Ts) (H : Hp) {K : Value → Hp → Prop} (k : Lk K) : Do P w0 (.pick c a b) T H k = Opt (pickV (ev T c) (ev T a) (ev T b)) H k := by
  show xPick (ev T c) (ev T a) (ev T b) H K = _
  generalize ev T c = c'
  cases c' <;> rfl
@[go_sem] theorem pickV_true (a b : Value) : pickV (.bool true) a b = some a := rfl
@[go_sem] theorem pickV_false (a b : Value) : pickV (.bool false) a b = some b := rfl
@[go_sem] theorem do_binOp (op : BinOp) (t : TypeId) (x y : Operand) (t2 : TypeId) (T : Ts) (H : Hp) {K : Value → Hp → Prop} (k : Lk K) : Do P w0 (.binOp op t x y t2) T H k = Opt (xBin P op t (isC x || isC y) (ev T x) (ev T y)) H k := by
  show (∃ v, xBin P op t (isC x || isC y) (ev T x) (ev T y) = some v ∧ K v H) = _
  generalize xBin P op t (isC x || isC y) (ev T x) (ev T y) = r
  cases r <;> simp [Opt]
@[go_sem] theorem do_unOp (op : UnOp) (t : TypeId) (x : Operand) (T : Ts) (H : Hp) {K : Value → Hp → Prop} (k : Lk K) : Do P w0 (.unOp op t x) T H k = Opt (xUn op (ev T x)) H k := by
  show (∃ v, xUn op (ev T x) = some v ∧ K v H) = _
  generalize xUn op (ev T x) = r
  cases r <;> simp [Opt]
def cvV (P : Program) (w0 : World) (s d : TypeId) (x : Value) (H : Hp) {K : Value → Hp → Prop} (_ : Lk K) : Prop := xCv P w0 s d x H K
@[go_sem] theorem do_convert (s d : TypeId) (x : Operand) (T : Ts) (H : Hp) {K : Value → Hp → Prop} (k : Lk K) : Do P w0 (.convert s d x) T H k = cvV P w0 s d (ev T x) H k := propext Iff.rfl
def intK (P : Program) (t : TypeId) : Option IntKind := match P.underlying t with
  | some (.int k) => some k
  | _ => none
def cvI (a b : Option IntKind) (n : Int) : Option Value := match a, b with
  | some _, some k => some (.int k (k.wrap n))
  | _, _ => none
@[go_sem] theorem cvI_some (a k : IntKind) (n : Int) : cvI (some a) (some k) n = some (.int k (k.wrap n)) := rfl
theorem cvV_int {s d : TypeId} {a b : IntKind} (h1 : intK P s = some a) (h2 : intK P d = some b) (k0 : IntKind) (x : Int) (H : Hp) {K : Value → Hp → Prop} (k : Lk K) : cvV P w0 s d (.int k0 x) H k = K (.int b (b.wrap x)) H := by
  unfold intK at h1 h2
  split at h1
  · rename_i k1 u1
    split at h2
    · rename_i k2 u2
      cases h2
      simp [cvV, xCv, xConv, u1, u2]
    · cases h2
  · cases h1
theorem cvV_bytes {s d : TypeId} {e : TypeId} (h1 : isStr P s = true) (h2 : isBy P d = true) (h3 : elm P d = some (e, 1)) (x : ByteArray) (B : Hp) (l : List (Option Ob)) {K : Value → Hp → Prop} (k : Lk K) : cvV P w0 s d (.string x) (Hx B l) k = K (.slice (some ⟨nid B l.length, 0, some x.size⟩) x.size x.size) (Hx B (l ++ [some (.row e (bytesV x))])) := by
  simp only [cvV, xCv, h1, h2, h3, if_true, true_and, Hx_len, Hx_app]
  apply propext
  constructor
  · rintro ⟨e', h, hk⟩; cases h; exact hk
  · intro hk; exact ⟨e, rfl, hk⟩
/-- Sums and comparisons of numbers. -/
@[go_sem] theorem bin_add (t : TypeId) (c : Bool) (kk : IntKind) (x y : Int) : xBin P .add t c (.int kk x) (.int kk y) = some (.int kk (kk.wrap (x + y))) := by simp [xBin, xInt]
@[go_sem] theorem bin_sub (t : TypeId) (c : Bool) (kk : IntKind) (x y : Int) : xBin P .sub t c (.int kk x) (.int kk y) = some (.int kk (kk.wrap (x - y))) := by simp [xBin, xInt]
@[go_sem] theorem bin_mul (t : TypeId) (c : Bool) (kk : IntKind) (x y : Int) : xBin P .mul t c (.int kk x) (.int kk y) = some (.int kk (kk.wrap (x * y))) := by simp [xBin, xInt]
@[go_sem] theorem bin_eql (t : TypeId) (c : Bool) (kk : IntKind) (x y : Int) : xBin P .eql t c (.int kk x) (.int kk y) = some (.bool (x == y)) := by simp [xBin, xInt]
@[go_sem] theorem bin_neq (t : TypeId) (c : Bool) (kk : IntKind) (x y : Int) : xBin P .neq t c (.int kk x) (.int kk y) = some (.bool (!(x == y))) := by simp [xBin, xInt, bne]
@[go_sem] theorem bin_lss (t : TypeId) (c : Bool) (kk : IntKind) (x y : Int) : xBin P .lss t c (.int kk x) (.int kk y) = some (.bool (decide (x < y))) := by simp [xBin, xInt]
@[go_sem] theorem bin_leq (t : TypeId) (c : Bool) (kk : IntKind) (x y : Int) : xBin P .leq t c (.int kk x) (.int kk y) = some (.bool (decide (x ≤ y))) := by simp [xBin, xInt]
@[go_sem] theorem bin_gtr (t : TypeId) (c : Bool) (kk : IntKind) (x y : Int) : xBin P .gtr t c (.int kk x) (.int kk y) = some (.bool (decide (y < x))) := by simp [xBin, xInt]
@[go_sem] theorem bin_geq (t : TypeId) (c : Bool) (kk : IntKind) (x y : Int) : xBin P .geq t c (.int kk x) (.int kk y) = some (.bool (decide (y ≤ x))) := by simp [xBin, xInt]
theorem bin_quo (t : TypeId) (c : Bool) (kk : IntKind) (x y : Int) (h : y ≠ 0) : xBin P .quo t c (.int kk x) (.int kk y) = some (.int kk (kk.wrap (x.tdiv y))) := by simp [xBin, xInt, h]
theorem bin_rem (t : TypeId) (c : Bool) (kk : IntKind) (x y : Int) (h : y ≠ 0) : xBin P .rem t c (.int kk x) (.int kk y) = some (.int kk (x.tmod y)) := by simp [xBin, xInt, h]
@[go_sem] theorem bin_and (t : TypeId) (c : Bool) (kk : IntKind) (x y : Int) : xBin P .and t c (.int kk x) (.int kk y) = some (.int kk (kk.wrap (BitVec.ofInt kk.bits x &&& BitVec.ofInt kk.bits y).toNat)) := by simp [xBin, xInt]
@[go_sem] theorem bin_or (t : TypeId) (c : Bool) (kk : IntKind) (x y : Int) : xBin P .or t c (.int kk x) (.int kk y) = some (.int kk (kk.wrap (BitVec.ofInt kk.bits x ||| BitVec.ofInt kk.bits y).toNat)) := by simp [xBin, xInt]
@[go_sem] theorem bin_sadd (t : TypeId) (c : Bool) (x y : ByteArray) : xBin P .add t c (.string x) (.string y) = if x.size + y.size ≤ 4611686018427387904 then some (.string (x ++ y)) else none := rfl
@[go_sem] theorem bin_seql (t : TypeId) (c : Bool) (x y : ByteArray) : xBin P .eql t c (.string x) (.string y) = some (.bool (x.toList == y.toList)) := rfl
@[go_sem] theorem bin_sneq (t : TypeId) (c : Bool) (x y : ByteArray) : xBin P .neq t c (.string x) (.string y) = some (.bool (!(x.toList == y.toList))) := rfl
@[go_sem] theorem bin_slss (t : TypeId) (c : Bool) (x y : ByteArray) : xBin P .lss t c (.string x) (.string y) = some (.bool (Op.bytesLess x.toList y.toList)) := rfl
@[go_sem] theorem bin_sleq (t : TypeId) (c : Bool) (x y : ByteArray) : xBin P .leq t c (.string x) (.string y) = some (.bool (Op.bytesLess x.toList y.toList || x.toList == y.toList)) := rfl
@[go_sem] theorem bin_sgtr (t : TypeId) (c : Bool) (x y : ByteArray) : xBin P .gtr t c (.string x) (.string y) = some (.bool (!(Op.bytesLess x.toList y.toList || x.toList == y.toList))) := rfl
@[go_sem] theorem bin_sgeq (t : TypeId) (c : Bool) (x y : ByteArray) : xBin P .geq t c (.string x) (.string y) = some (.bool (!Op.bytesLess x.toList y.toList)) := rfl
@[go_sem] theorem un_not (b : Bool) : xUn .not (.bool b) = some (.bool (!b)) := rfl
@[go_sem] theorem un_neg (kk : IntKind) (x : Int) : xUn .neg (.int kk x) = some (.int kk (kk.wrap (0 - x))) := rfl
@[go_sem] theorem un_xor (kk : IntKind) (x : Int) : xUn .xor (.int kk x) = xInt .xor kk (if kk.signed then -1 else kk.max) x := rfl
attribute [go_sem] isC dstAt Bool.not_true Bool.not_false Bool.not_not
/-- Memory. -/
def allocV (cs : Option (List Value)) (t : TypeId) (H : Hp) {K : Value → Hp → Prop} (_ : Lk K) : Prop := match cs with
  | some cs => K (.pointer (some ⟨H.length, 0, some cs.length⟩)) (H ++ [some (.row t cs)])
  | none => False
@[go_sem] theorem allocV_some (cs : List Value) (t : TypeId) (B : Hp) (l : List (Option Ob)) {K : Value → Hp → Prop} (k : Lk K) : allocV (some cs) t (Hx B l) k = K (.pointer (some ⟨nid B l.length, 0, some cs.length⟩)) (Hx B (l ++ [some (.row t cs)])) := by
  simp only [allocV, Hx_len, Hx_app]
@[go_sem] theorem do_alloc (t : TypeId) (T : Ts) (H : Hp) {K : Value → Hp → Prop} (k : Lk K) : Do P w0 (.alloc t) T H k = allocV (zer P t) t H k := by
  show xAlloc P t H K = _
  unfold xAlloc allocV
  generalize zer P t = r
  cases r <;> simp
def cellsV (v : Value) : Option (List Value) := if v.cells.toList.all (·.oneCell') = true then some v.cells.toList else none
@[go_sem] theorem do_box (t : TypeId) (x : Operand) (T : Ts) (H : Hp) {K : Value → Hp → Prop} (k : Lk K) : Do P w0 (.box t x) T H k = allocV (cellsV (ev T x)) t H k := by
  show xBox t (ev T x) H K = _
  unfold xBox allocV cellsV
  by_cases h : (ev T x).cells.toList.all (·.oneCell') = true
  · simp only [h, true_and, if_true]
  · simp only [h, false_and, if_false]
    simp
def allOne : List Value → Bool
  | [] => true
  | v :: r => v.oneCell' && allOne r
theorem allOne_eq : ∀ l : List Value, l.all (·.oneCell') = allOne l
  | [] => rfl
  | v :: r => by rw [List.all_cons, allOne_eq r]; rfl
def guardL (b : Bool) (l : List Value) : Option (List Value) := if b = true then some l else none
@[go_sem] theorem guardL_true (l : List Value) : guardL true l = some l := rfl
@[go_sem] theorem allOne_nil : allOne [] = true := rfl
@[go_sem] theorem allOne_str (s : ByteArray) (r : List Value) : allOne (.string s :: r) = allOne r := rfl
@[go_sem] theorem allOne_int (k : IntKind) (x : Int) (r : List Value) : allOne (.int k x :: r) = allOne r := rfl
@[go_sem] theorem allOne_bool (s : Bool) (r : List Value) : allOne (.bool s :: r) = allOne r := rfl
@[go_sem] theorem allOne_ptr (s : Option Addr) (r : List Value) : allOne (.pointer s :: r) = allOne r := rfl
@[go_sem] theorem allOne_slice (s : Option Addr) (m c : Nat) (r : List Value) : allOne (.slice s m c :: r) = allOne r := rfl
@[go_sem] theorem allOne_func (f : Fn) (a b : Array Value) (r : List Value) : allOne (.func f a b :: r) = allOne r := rfl
@[go_sem] theorem allOne_nf (r : List Value) : allOne (.nilFunc :: r) = allOne r := rfl
@[go_sem] theorem allOne_if (t : TypeId) (v : Value) (r : List Value) : allOne (.iface t v :: r) = allOne r := rfl
@[go_sem] theorem allOne_ni (r : List Value) : allOne (.nilIface :: r) = allOne r := rfl
@[go_sem] theorem cellsV_agg (l : List Value) : cellsV (.agg l.toArray) = guardL (allOne l) l := by
  unfold cellsV guardL
  rw [← allOne_eq]
  rfl
@[go_sem] theorem cellsV_int (kk : IntKind) (x : Int) : cellsV (.int kk x) = some [.int kk x] := rfl
@[go_sem] theorem cellsV_str (s : ByteArray) : cellsV (.string s) = some [.string s] := rfl
@[go_sem] theorem cellsV_bool (b : Bool) : cellsV (.bool b) = some [.bool b] := rfl
@[go_sem] theorem cellsV_ptr (b : Option Addr) : cellsV (.pointer b) = some [.pointer b] := rfl
@[go_sem] theorem cellsV_slice (a : Option Addr) (m c : Nat) : cellsV (.slice a m c) = some [.slice a m c] := rfl
@[go_sem] theorem cellsV_func (f : Fn) (a b : Array Value) : cellsV (.func f a b) = some [.func f a b] := rfl
@[go_sem] theorem cellsV_nf : cellsV .nilFunc = some [.nilFunc] := rfl
attribute [go_sem] List.length_cons List.length_nil List.cons_append List.nil_append List.append_nil List.getElem?_cons_zero List.getElem?_cons_succ List.set_cons_zero List.set_cons_succ List.drop_succ_cons List.drop_zero List.take_succ_cons List.take_zero List.map_cons List.map_nil List.map_toArray Nat.zero_add Nat.zero_mul Nat.le_refl and_self and_true true_and if_true if_false
def aggO (o : Option (List Value)) : Option Value := o.map fun cs => .agg cs.toArray
@[go_sem] theorem aggO_some (l : List Value) : aggO (some l) = some (.agg l.toArray) := rfl
def headO (o : Option (List Value)) : Option Value := o.bind fun cs => cs[0]?
@[go_sem] theorem headO_some (v : Value) (l : List Value) : headO (some (v :: l)) = some v := rfl
def rdL (l : Option (Bool × Nat)) (w0 : World) (H : Hp) (a : Addr) : Option Value := match l with
  | some (true, n) => (rd w0 H a n).map fun cs => .agg cs.toArray
  | some (false, _) => (rd w0 H a 1).bind fun cs => cs[0]?
  | none => none
def loadV (l : Option (Bool × Nat)) (w0 : World) (x : Value) (H : Hp) : Option Value := match x with
  | .pointer (some a) => rdL l w0 H a
  | _ => none
def rdO (x : Option (Option Ob)) (o tag m : Nat) : Option (List Value) := match x with
  | some (some (.row _ cs)) => if cs.length = tag ∧ o + m ≤ cs.length then some ((cs.drop o).take m) else none
  | _ => none
theorem rdT_eq (t : TypeId) (H : Hp) (a : Addr) : rdT P w0 H t a = rdL (lay P t) w0 H a := rfl
@[go_sem] theorem do_load (t : TypeId) (x : Operand) (T : Ts) (H : Hp) {K : Value → Hp → Prop} (k : Lk K) : Do P w0 (.load t x) T H k = Opt (loadV (lay P t) w0 (ev T x) H) H k := by
  show xLoad P w0 t (ev T x) H K = _
  unfold xLoad loadV Opt
  generalize ev T x = v
  cases v with
  | pointer a =>
    cases a with
    | none => rfl
    | some a =>
      simp only [rdT_eq]
      generalize rdL (lay P t) w0 H a = r
      cases r <;> simp
  | _ => rfl
@[go_sem] theorem loadV_ptr (l : Option (Bool × Nat)) (a : Addr) (H : Hp) : loadV l w0 (.pointer (some a)) H = rdL l w0 H a := rfl
@[go_sem] theorem rdL_one (m : Nat) (H : Hp) (a : Addr) : rdL (some (false, m)) w0 H a = headO (rd w0 H a 1) := rfl
@[go_sem] theorem rd_own (B : Hp) (l : List (Option Ob)) (k o tag m : Nat) : rd w0 (Hx B l) ⟨nid B k, o, some tag⟩ m = rdO (l[k]?) o tag m := by
  simp only [rd, Hx_get]
  rfl
@[go_sem] theorem rdO_cons (t : TypeId) (v : Value) (r : List Value) (o tag m : Nat) : rdO (some (some (.row t (v :: r)))) o tag m = if (v :: r).length = tag ∧ o + m ≤ (v :: r).length then some (((v :: r).drop o).take m) else none := rfl
theorem rdO_row (t : TypeId) (cs : List Value) (o tag m : Nat) : rdO (some (some (.row t cs))) o tag m = if cs.length = tag ∧ o + m ≤ cs.length then some ((cs.drop o).take m) else none := rfl
theorem rd_old {B : Hp} {a : Addr} {m : Nat} {cs : List Value} (h : rd w0 B a m = some cs) (l : List (Option Ob)) : rd w0 (Hx B l) a m = some cs := by
  obtain ⟨b, o, sp⟩ := a
  cases sp with
  | none => exact h
  | some tag =>
    simp only [rd] at h ⊢
    split at h
    · rename_i t c e
      rw [Hx_old e]
      exact h
    · cases h
@[go_sem] theorem rdL_agg (m : Nat) (H : Hp) (a : Addr) : rdL (some (true, m)) w0 H a = aggO (rd w0 H a m) := rfl
end
end Go.Proofs.YtcmflpdgfddmeaaW.XM

namespace Go.Proofs.YtcmflpdgfddmeaaW.XM
open Go.RowKit
section
variable {P : Program} {w0 : World} {n : Nat}
/-! code -/
def CondV (v : Value) {X Y : Prop} (x : Lz X) (y : Lz Y) : Prop := match v with
  | .bool t => Br t x y
  | _ => False
@[go_sem] theorem CondV_bool (t : Bool) {X Y : Prop} (x : Lz X) (y : Lz Y) : CondV (.bool t) x y = Br t x y := propext Iff.rfl
def Then (P : Program) (w0 : World) (n : Nat) (y : Code) (Q : QT) : QT := fun e T H => match e with
  | .normal => xw P w0 n y Q T H
  | e => Q e T H
def Blk (i : Nat) (Q : QT) : QT := fun e T H => match e with
  | .exit j => if j = i then Q .normal T H else Q (.exit j) T H
  | e => Q e T H
@[go_sem] theorem Then_normal (y : Code) (Q : QT) (T : Ts) (H : Hp) : Then P w0 n y Q .normal T H = xw P w0 n y Q T H := propext Iff.rfl
@[go_sem] theorem Then_ret (y : Code) (Q : QT) (T : Ts) (H : Hp) : Then P w0 n y Q .ret T H = Q .ret T H := propext Iff.rfl
@[go_sem] theorem Then_exit (y : Code) (Q : QT) (i : Nat) (T : Ts) (H : Hp) : Then P w0 n y Q (.exit i) T H = Q (.exit i) T H := propext Iff.rfl
@[go_sem] theorem Blk_normal (i : Nat) (Q : QT) (T : Ts) (H : Hp) : Blk i Q .normal T H = Q .normal T H := propext Iff.rfl
@[go_sem] theorem Blk_ret (i : Nat) (Q : QT) (T : Ts) (H : Hp) : Blk i Q .ret T H = Q .ret T H := propext Iff.rfl
@[go_sem] theorem Blk_exit (i j : Nat) (Q : QT) (T : Ts) (H : Hp) : Blk i Q (.exit j) T H = Br (j == i) (Lz.mk (X := Q .normal T H)) (Lz.mk (X := Q (.exit j) T H)) := by
  unfold Br
  show (if j = i then _ else _) = _
  by_cases h : j = i
  · subst h; simp
  · rw [if_neg h, if_neg (fun e => h (by simpa using e))]
@[go_sem] theorem xw_skip (Q : QT) (T : Ts) (H : Hp) : xw P w0 n .skip Q T H = Q .normal T H := propext Iff.rfl
@[go_sem] theorem xw_ret (Q : QT) (T : Ts) (H : Hp) : xw P w0 n .ret Q T H = Q .ret T H := propext Iff.rfl
@[go_sem] theorem xw_exit (i : Nat) (Q : QT) (T : Ts) (H : Hp) : xw P w0 n (.exit i) Q T H = Q (.exit i) T H := propext Iff.rfl
@[go_sem] theorem xw_seq (x y : Code) (Q : QT) (T : Ts) (H : Hp) : xw P w0 n (.seq x y) Q T H = xw P w0 n x (Then P w0 n y Q) T H := propext Iff.rfl
@[go_sem] theorem xw_block (i : Nat) (x : Code) (Q : QT) (T : Ts) (H : Hp) : xw P w0 n (.block i x) Q T H = xw P w0 n x (Blk i Q) T H := propext Iff.rfl
@[go_sem] theorem xw_cond (c : Operand) (x y : Code) (Q : QT) (T : Ts) (H : Hp) : xw P w0 n (.cond c x y) Q T H = CondV (ev T c) (Lz.mk (X := xw P w0 n x Q T H)) (Lz.mk (X := xw P w0 n y Q T H)) := by
  show (match ev T c with | .bool t => _ | _ => False) = _
  generalize ev T c = v
  cases v <;> rfl
@[go_sem] theorem xw_region (i : Nat) (l : List Oper) (Q : QT) (T : Ts) (H : Hp) : xw P w0 n (.region i l.toArray false) Q T H = xl P w0 l.toArray (Q .normal) l T H := propext Iff.rfl
@[go_sem] theorem LoopK_ret {σ : Type} (I : σ → Ts → Hp → Prop) (m : σ → Nat) (s : σ) (Q : QT) (T : Ts) (H : Hp) : LoopK I m s Q .ret T H = Q .ret T H := propext Iff.rfl
@[go_sem] theorem LoopK_exit {σ : Type} (I : σ → Ts → Hp → Prop) (m : σ → Nat) (s : σ) (Q : QT) (i : Nat) (T : Ts) (H : Hp) : LoopK I m s Q (.exit i) T H = Q (.exit i) T H := propext Iff.rfl
def OptR (o : Option (List Value)) (R : Value → Hp → Prop) (H : Hp) : Prop := match o with
  | some vs => R (one vs) H
  | none => False
@[go_sem] theorem OptR_some (vs : List Value) (R : Value → Hp → Prop) (H : Hp) : OptR (some vs) R H = R (one vs) H := propext Iff.rfl
theorem OptR_eq (o : Option (List Value)) (R : Value → Hp → Prop) (H : Hp) : OptR o R H = ∃ vs, o = some vs ∧ R (one vs) H := by cases o <;> simp [OptR]
@[go_sem] theorem FPost_ret (fn : Func) (R : Value → Hp → Prop) (T : Ts) (H : Hp) : FPost P w0 fn R .ret T H = OptR (resL P w0 T H fn.results.toList) R H := (OptR_eq _ _ _).symm
@[go_sem] theorem FPost_normal (fn : Func) (R : Value → Hp → Prop) (T : Ts) (H : Hp) : FPost P w0 fn R .normal T H = OptR (resL P w0 T H fn.results.toList) R H := (OptR_eq _ _ _).symm
def consO (v : Option Value) (r : Option (List Value)) : Option (List Value) := match v, r with
  | some v, some r => some (v :: r)
  | _, _ => none
@[go_sem] theorem consO_some (v : Value) (r : List Value) : consO (some v) (some r) = some (v :: r) := rfl
@[go_sem] theorem resL_nil (T : Ts) (H : Hp) : resL P w0 T H [] = some [] := rfl
@[go_sem] theorem resL_tmp (T : Ts) (H : Hp) (t : Tmp) (r : List ResultVar) : resL P w0 T H (.tmp t :: r) = consO (some (T t)) (resL P w0 T H r) := by
  simp only [resL]
  cases resL P w0 T H r <;> rfl
@[go_sem] theorem resL_cell (T : Ts) (H : Hp) (a : Tmp) (t : TypeId) (r : List ResultVar) : resL P w0 T H (.cell a t :: r) = consO (loadV (lay P t) w0 (T a) H) (resL P w0 T H r) := by
  simp only [resL, loadV, rdT_eq]
  generalize T a = x
  cases x with
  | pointer b =>
    cases b with
    | none => rfl
    | some ad =>
      simp only
      cases rdL (lay P t) w0 H ad with
      | none => rfl
      | some v =>
        cases resL P w0 T H r <;> rfl
  | _ => rfl
@[go_sem] theorem one_one (v : Value) : one [v] = v := rfl
@[go_sem] theorem one_two (v u : Value) (r : List Value) : one (v :: u :: r) = .tuple (v :: u :: r).toArray := rfl
/-! memory -/
def storeV (l : Option (Bool × Nat)) (x v : Value) (H : Hp) {K : Value → Hp → Prop} (_ : Lk K) : Prop := match x with
  | .pointer (some ⟨i, o, some tag⟩) => ∃ ty cs b, H[i]? = some (some (.row ty cs)) ∧ cs.length = tag ∧ l = some (b, v.cells.toList.length) ∧ o + v.cells.toList.length ≤ cs.length ∧ v.cells.toList.all (·.oneCell') = true ∧ K undef (H.set i (some (.row ty (putL cs o v.cells.toList))))
  | _ => False
@[go_sem] theorem do_store (t : TypeId) (x y : Operand) (T : Ts) (H : Hp) {K : Value → Hp → Prop} (k : Lk K) : Do P w0 (.store t x y) T H k = storeV (lay P t) (ev T x) (ev T y) H k := propext Iff.rfl
def stO (x : Option (Option Ob)) (tag : Nat) (o : Nat) (vs : Option (List Value)) (m : Nat) (B : Hp) (l : List (Option Ob)) (k : Nat) {K : Value → Hp → Prop} (_ : Lk K) : Prop := match x, vs with
  | some (some (.row ty cs)), some vs => cs.length = tag ∧ vs.length = m ∧ o + m ≤ cs.length ∧ K undef (Hx B (l.set k (some (.row ty (putL cs o vs)))))
  | _, _ => False
theorem cellsV_some {v : Value} : cellsV v = if v.cells.toList.all (·.oneCell') = true then some v.cells.toList else none := rfl
@[go_sem] theorem storeV_own (b : Bool) (m : Nat) (B : Hp) (l : List (Option Ob)) (k o tag : Nat) (v : Value) {K : Value → Hp → Prop} (kk : Lk K) : storeV (some (b, m)) (.pointer (some ⟨nid B k, o, some tag⟩)) v (Hx B l) kk = stO (l[k]?) tag o (cellsV v) m B l k kk := by
  unfold storeV
  simp only [Hx_get, Hx_set]
  unfold stO
  rw [cellsV_some]
  by_cases h : v.cells.toList.all (·.oneCell') = true
  · rw [if_pos h]
    cases l[k]? with
    | none => simp
    | some x =>
      cases x with
      | none => simp
      | some ob =>
        cases ob with
        | iter s p => simp
        | row ty cs =>
          simp only [h, true_and]
          apply propext
          constructor
          · rintro ⟨ty', cs', b', e1, e2, e3, e4, e5⟩
            cases e1
            cases e3
            exact ⟨e2, rfl, e4, e5⟩
          · rintro ⟨e2, e3, e4, e5⟩
            exact ⟨ty, cs, b, rfl, e2, by rw [e3], by rw [e3]; exact e4, e5⟩
  · rw [if_neg h]
    have : (v.cells.toList.all (·.oneCell')) = false := by simpa using h
    simp only [this]
    apply propext
    constructor
    · rintro ⟨_, _, _, _, _, _, _, e, _⟩; cases e
    · intro e; split at e
      · rename_i h2; cases h2
      · exact e.elim
@[go_sem] theorem stO_row (ty : TypeId) (cs : List Value) (tag o m : Nat) (vs : List Value) (B : Hp) (l : List (Option Ob)) (k : Nat) {K : Value → Hp → Prop} (kk : Lk K) : stO (some (some (.row ty cs))) tag o (some vs) m B l k kk = Req (cs.length = tag ∧ vs.length = m ∧ o + m ≤ cs.length) (Lz.mk (X := K undef (Hx B (l.set k (some (.row ty (putL cs o vs))))))) := by
  simp only [stO, Req, and_assoc]
@[go_sem] theorem putL_nil (cs : List Value) (o : Nat) : putL cs o [] = cs := rfl
@[go_sem] theorem putL_cons (cs : List Value) (o : Nat) (v : Value) (r : List Value) : putL cs o (v :: r) = putL (cs.set o v) (o + 1) r := rfl
def nilV (x : Value) : Option Value := match x with
  | .pointer (some a) => some (.pointer (some a))
  | .func (.func f) fi ca => some (.func (.func f) fi ca)
  | _ => none
@[go_sem] theorem nilV_ptr (a : Addr) : nilV (.pointer (some a)) = some (.pointer (some a)) := rfl
@[go_sem] theorem nilV_fn (f : FuncId) (a b : Array Value) : nilV (.func (.func f) a b) = some (.func (.func f) a b) := rfl
@[go_sem] theorem do_nil (x : Operand) (T : Ts) (H : Hp) {K : Value → Hp → Prop} (k : Lk K) : Do P w0 (.nilCheck x) T H k = Opt (nilV (ev T x)) H k := by
  show xNil (ev T x) H K = _
  unfold xNil nilV Opt
  generalize ev T x = v
  cases v with
  | pointer a => cases a <;> rfl
  | func f a b => cases f <;> rfl
  | _ => rfl
def fieldV (f : Option (Nat × Bool × Nat)) (x : Value) : Option Value := match x, f with
  | .pointer (some ⟨b, o, sp⟩), some (d, _, _ + 1) => some (.pointer (some ⟨b, o + d, sp⟩))
  | _, _ => none
@[go_sem] theorem fieldV_ptr (b o : Nat) (sp : Option Nat) (d : Nat) (ag : Bool) (m : Nat) : fieldV (some (d, ag, m + 1)) (.pointer (some ⟨b, o, sp⟩)) = some (.pointer (some ⟨b, o + d, sp⟩)) := rfl
@[go_sem] theorem do_fieldAddr (s : TypeId) (x : Operand) (f : Nat) (T : Ts) (H : Hp) {K : Value → Hp → Prop} (k : Lk K) : Do P w0 (.fieldAddr s x f) T H k = Opt (fieldV (fld P s f) (ev T x)) H k := by
  show xField P s (ev T x) f H K = _
  unfold xField fieldV Opt
  generalize ev T x = v
  generalize fld P s f = q
  cases v with
  | pointer a =>
    cases a with
    | none => rfl
    | some a =>
      cases q with
      | none => simp
      | some q =>
        obtain ⟨d, ag, m⟩ := q
        cases m with
        | zero => simp
        | succ m => simp
  | _ => rfl
def partV (f : Option (Nat × Bool × Nat)) (x : Value) : Option Value := match x, f with
  | .agg cs, some (d, true, n) => some (.agg (cs.extract d (d + n)))
  | .agg cs, some (d, false, _) => cs[d]?
  | _, _ => none
@[go_sem] theorem partV_one (l : List Value) (d m : Nat) : partV (some (d, false, m)) (.agg l.toArray) = l[d]? := by simp [partV]
@[go_sem] theorem partV_agg (l : List Value) (d m : Nat) : partV (some (d, true, m)) (.agg l.toArray) = some (.agg ((l.drop d).take m).toArray) := by
  simp only [partV, Option.some.injEq, Value.agg.injEq]
  simp [List.extract_eq_take_drop]
@[go_sem] theorem do_field (s : TypeId) (x : Operand) (f : Nat) (T : Ts) (H : Hp) {K : Value → Hp → Prop} (k : Lk K) : Do P w0 (.field s x f) T H k = Opt (partV (fld P s f) (ev T x)) H k := by
  show xPart P s (ev T x) f H K = _
  unfold xPart partV Opt
  generalize ev T x = v
  generalize fld P s f = q
  cases v with
  | agg cs =>
    cases q with
    | none => simp
    | some q =>
      obtain ⟨d, ag, m⟩ := q
      cases ag with
      | true =>
        apply propext
        constructor
        · rintro ⟨d', ag', n', e, h⟩
          simp only [Option.some.injEq, Prod.mk.injEq] at e
          obtain ⟨rfl, rfl, rfl⟩ := e
          simpa using h
        · intro h
          exact ⟨d, true, m, rfl, by simpa using h⟩
      | false =>
        simp
        generalize cs[d]? = r
        cases r <;> simp
  | _ => rfl
def extrV (x : Value) (m : Nat) : Option Value := match x with
  | .tuple vs => vs[m]?
  | _ => none
@[go_sem] theorem extrV_tup (l : List Value) (m : Nat) : extrV (.tuple l.toArray) m = l[m]? := by simp [extrV]
@[go_sem] theorem do_extract (x : Operand) (m : Nat) (T : Ts) (H : Hp) {K : Value → Hp → Prop} (k : Lk K) : Do P w0 (.extract x m) T H k = Opt (extrV (ev T x) m) H k := by
  show xExtract (ev T x) m H K = _
  unfold xExtract extrV Opt
  generalize ev T x = v
  cases v with
  | tuple vs =>
    simp
    generalize vs[m]? = r
    cases r <;> simp
  | _ => rfl
theorem do_index (t : TypeId) (x i : Operand) (T : Ts) (H : Hp) {K : Value → Hp → Prop} (k : Lk K) : Do P w0 (.index t x i) T H k = Opt (xIndex P t (ev T x) (ev T i)) H k := by
  show (∃ v, xIndex P t (ev T x) (ev T i) = some v ∧ K v H) = _
  generalize xIndex P t (ev T x) (ev T i) = r
  cases r <;> simp [Opt]
def bt (s : ByteArray) (i : Nat) : Int := ((s.data.getD i 0).toNat : Int)
def idxV (e : Option (TypeId × Nat)) (x ix : Value) (H : Hp) {K : Value → Hp → Prop} (_ : Lk K) : Prop := match x, ix, e with
  | .slice (some ⟨b, o, sp⟩) len _, .int _ i, some (_, m) => 0 ≤ i ∧ i < len ∧ K (.pointer (some ⟨b, o + i.toNat * m, sp⟩)) H
  | _, _, _ => False
@[go_sem] theorem do_indexAddr (t : TypeId) (x i : Operand) (T : Ts) (H : Hp) {K : Value → Hp → Prop} (k : Lk K) : Do P w0 (.indexAddr t x i) T H k = idxV (elm P t) (unx (ev T x)) (ev T i) H k := by
  show xIndexAddr P t (unx (ev T x)) (ev T i) H K = _
  unfold xIndexAddr idxV
  generalize unx (ev T x) = v
  generalize ev T i = u
  generalize elm P t = q
  split
  · cases q with
    | none => simp
    | some q =>
      obtain ⟨e, m⟩ := q
      apply propext
      constructor
      · rintro ⟨e', n', h0, h⟩
        simp only [Option.some.injEq, Prod.mk.injEq] at h0
        obtain ⟨rfl, rfl⟩ := h0
        exact h
      · intro h
        exact ⟨e, m, rfl, h⟩
  · rename_i hn
    cases v with
    | slice a len c =>
      cases a with
      | none => rfl
      | some a =>
        cases u with
        | int kk i => exact absurd rfl (hn _ _ _ _ _ _ _ rfl)
        | _ => rfl
    | _ => rfl
@[go_sem] theorem idxV_int (e : TypeId) (m b o : Nat) (sp : Option Nat) (len c : Nat) (kk : IntKind) (i : Int) (H : Hp) {K : Value → Hp → Prop} (k : Lk K) : idxV (some (e, m)) (.slice (some ⟨b, o, sp⟩) len c) (.int kk i) H k = Req (0 ≤ i ∧ i < len) (Lz.mk (X := K (.pointer (some ⟨b, o + i.toNat * m, sp⟩)) H)) := by
  simp only [idxV, Req, and_assoc]
@[go_sem] theorem do_makeFunc (fn : FuncId) (fi ca : Array Operand) (T : Ts) (H : Hp) {K : Value → Hp → Prop} (k : Lk K) : Do P w0 (.makeFunc (.func fn) fi ca) T H k = K (.func (.func fn) (fi.map (ev T)) (ca.map (ev T))) H := propext Iff.rfl
@[go_sem] theorem do_makeInterface (t : TypeId) (x : Operand) (T : Ts) (H : Hp) {K : Value → Hp → Prop} (k : Lk K) : Do P w0 (.makeInterface t x) T H k = Req (isIface P t = some false) (Lz.mk (X := K (.iface t (ev T x)) H)) := propext Iff.rfl
/-! calls -/
def callV (P : Program) (w0 : World) (f : Value) (args : Array Value) (H : Hp) {K : Value → Hp → Prop} (_ : Lk K) : Prop := xCallV P w0 f args H K
@[go_sem] theorem do_call (f : Operand) (args : Array Operand) (at_ : Array TypeId) (T : Ts) (H : Hp) {K : Value → Hp → Prop} (k : Lk K) : Do P w0 (.call ⟨.value f, args, at_⟩) T H k = callV P w0 (ev T f) (args.map (ev T)) H k := propext Iff.rfl
@[go_sem] theorem callV_fn (f : FuncId) (l m a : List Value) (H : Hp) {K : Value → Hp → Prop} (k : Lk K) : callV P w0 (.func (.func f) l.toArray m.toArray) a.toArray H k = CallK P w0 f (l ++ a ++ m).toArray H k := by
  simp [callV, xCallV, CallK]
def callB (P : Program) (w0 : World) (b : Builtin) (ats : Array TypeId) (args : List Value) (H : Hp) {K : Value → Hp → Prop} (_ : Lk K) : Prop := xCallB P w0 b ats args H K
@[go_sem] theorem do_builtin (b : Builtin) (args : Array Operand) (at_ : Array TypeId) (T : Ts) (H : Hp) {K : Value → Hp → Prop} (k : Lk K) : Do P w0 (.call ⟨.builtin b, args, at_⟩) T H k = callB P w0 b at_ (args.toList.map (ev T)) H k := propext Iff.rfl
@[go_sem] theorem callB_len (ats : Array TypeId) (x : Value) (H : Hp) {K : Value → Hp → Prop} (k : Lk K) : callB P w0 .len ats [x] H k = Opt (xLen P ats (unx x)) H k := by
  show (∃ v, xLen P ats (unx x) = some v ∧ K v H) = _
  generalize xLen P ats (unx x) = r
  cases r <;> simp [Opt]
@[go_sem] theorem len_str (t : TypeId) (s : ByteArray) : xLen P #[t] (.string s) = if isStr P t = true then some (.int .i64 s.size) else none := by simp [xLen]
@[go_sem] theorem len_slice (t : TypeId) (a : Option Addr) (m c : Nat) : xLen P #[t] (.slice a m c) = if isSl P t = true then some (.int .i64 m) else none := by simp [xLen]
@[go_sem] theorem callB_min (ats : Array TypeId) (kk k2 : IntKind) (x y : Int) (H : Hp) {K : Value → Hp → Prop} (k : Lk K) : callB P w0 .min ats [.int kk x, .int k2 y] H k = K (.int kk (if y < x then y else x)) H := propext Iff.rfl
@[go_sem] theorem callB_max (ats : Array TypeId) (kk k2 : IntKind) (x y : Int) (H : Hp) {K : Value → Hp → Prop} (k : Lk K) : callB P w0 .max ats [.int kk x, .int k2 y] H k = K (.int kk (if y > x then y else x)) H := propext Iff.rfl
def appV (P : Program) (w0 : World) (ats : Array TypeId) (s x : Value) (H : Hp) {K : Value → Hp → Prop} (_ : Lk K) : Prop := xAppA P w0 ats s x H K
def appW (P : Program) (w0 : World) (ats : Array TypeId) (s x : Value) (H : Hp) {K : Value → Hp → Prop} (_ : Lk K) : Prop := xAppend P w0 ats s x H K
@[go_sem] theorem appV_sl (ats : Array TypeId) (a : Option Addr) (n c : Nat) (x : Value) (H : Hp) {K : Value → Hp → Prop} (k : Lk K) : appV P w0 ats (.slice a n c) x H k = appW P w0 ats (.slice a n c) (unx x) H k := propext Iff.rfl
@[go_sem] theorem unx_sl (a : Option Addr) (n c : Nat) : unx (.slice a n c) = .slice a n c := rfl
@[go_sem] theorem unx_str (s : ByteArray) : unx (.string s) = .string s := rfl
@[go_sem] theorem unx_int (k : IntKind) (n : Int) : unx (.int k n) = .int k n := rfl
@[go_sem] theorem unx_xs (v : Value) : unx (xs v) = v := rfl
@[go_sem] theorem callB_append (ats : Array TypeId) (s x : Value) (H : Hp) {K : Value → Hp → Prop} (k : Lk K) : callB P w0 .append ats [s, x] H k = appV P w0 ats s x H k := propext Iff.rfl
def copV (P : Program) (w0 : World) (ats : Array TypeId) (s x : Value) (H : Hp) {K : Value → Hp → Prop} (_ : Lk K) : Prop := xCopy P w0 ats s x H K
@[go_sem] theorem callB_copy (ats : Array TypeId) (s x : Value) (H : Hp) {K : Value → Hp → Prop} (k : Lk K) : callB P w0 .copy ats [s, x] H k = copV P w0 ats (unx s) (unx x) H k := propext Iff.rfl
end
end Go.Proofs.YtcmflpdgfddmeaaW.XM

namespace Go.Proofs.YtcmflpdgfddmeaaW.XM
open Go.RowKit
/-- No object of number n or above is named in it. -/
def belowV (n : Nat) : Value → Bool
  | .pointer (some ⟨i, _, some _⟩) => decide (i < n)
  | .slice (some ⟨i, _, some _⟩) _ _ => decide (i < n)
  | .func _ fi ca => fi.toList.all plain && ca.toList.all plain
  | .iface _ v => plain v
  | v => plain v
def ren1 (ρ : Nat → Option Nat) : Value → Option Value
  | .pointer (some ⟨i, o, some t⟩) => (ρ i).map fun j => .pointer (some ⟨j, o, some t⟩)
  | .slice (some ⟨i, o, some t⟩) n c => (ρ i).map fun j => .slice (some ⟨j, o, some t⟩) n c
  | .func (.method _) fi _ => match fi.toList with
    | [.slice (some ⟨i, o, some t⟩) n c] => (ρ i).map fun j => xs (.slice (some ⟨j, o, some t⟩) n c)
    | _ => none
  | .iface t v => if plain v = true then some (.iface t v) else none
  | v => if plain v = true then some v else none
def renL (f : Value → Option Value) : List Value → Option (List Value)
  | [] => some []
  | v :: r => match f v, renL f r with
    | some a, some b => some (a :: b)
    | _, _ => none
def ren2 (ρ : Nat → Option Nat) : Value → Option Value
  | .agg cs => (renL (ren1 ρ) cs.toList).map fun l => .agg l.toArray
  | v => ren1 ρ v
def ren3 (ρ : Nat → Option Nat) : Value → Option Value
  | .tuple cs => (renL (ren2 ρ) cs.toList).map fun l => .tuple l.toArray
  | v => ren2 ρ v
section
variable {P : Program} {w0 : World}
/-- How a value stands to its new name. -/
def Rn (P : Program) (H2 : Hp) (μ2 : Mp) (H3 : Hp) (μ3 : Mp) (v v3 : Value) : Prop := ∀ v', VR P H2 μ2 v v' → VR P H3 μ3 v3 v'
/-- How the objects stand to their new numbers. -/
def Mv (H2 : Hp) (μ2 : Mp) (H3 : Hp) (μ3 : Mp) (i j : Nat) : Prop := j < H3.length ∧ μ3.m j = μ2.m i ∧ μ3.K j = μ2.K i ∧ μ3.T j = μ2.T i ∧ ∀ o, H3[j]? = some (some o) → H2[i]? = some (some o)
variable {H2 H3 : Hp} {μ2 μ3 : Mp}
theorem ren1_ok {ρ : Nat → Option Nat} (hρ : ∀ i j, ρ i = some j → Mv H2 μ2 H3 μ3 i j) {v v3 : Value} (h : ren1 ρ v = some v3) : Rn P H2 μ2 H3 μ3 v v3 := by
  intro v' hv
  unfold ren1 at h
  split at h
  · rename_i i o t
    cases hr : ρ i with
    | none => rw [hr] at h; cases h
    | some j =>
      rw [hr] at h; cases h
      obtain ⟨a1, a2, a3, a4, a5⟩ := hρ i j hr
      cases hv with
      | same hp => simp [plain] at hp
      | ptr hi hx => exact .ptr a1 fun ob hb => ⟨(hx ob (a5 ob hb)).1, fun e => by rw [a2]; exact (hx ob (a5 ob hb)).2 e⟩
  · rename_i i o t n c
    cases hr : ρ i with
    | none => rw [hr] at h; cases h
    | some j =>
      rw [hr] at h; cases h
      obtain ⟨a1, a2, a3, a4, a5⟩ := hρ i j hr
      cases hv with
      | same hp => simp [plain] at hp
      | sl hi hx => exact .sl a1 fun ob hb => ⟨(hx ob (a5 ob hb)).1, fun e => by rw [a2, a3, a4]; exact (hx ob (a5 ob hb)).2 e⟩
  · rename_i nm fi ca
    split at h
    · rename_i i o t n c hfi
      cases hr : ρ i with
      | none => rw [hr] at h; cases h
      | some j =>
        rw [hr] at h; cases h
        obtain ⟨a1, a2, a3, a4, a5⟩ := hρ i j hr
        cases hv with
        | same hp => simp [plain] at hp
        | ex hv =>
          simp only [List.cons.injEq, Value.slice.injEq, Option.some.injEq, and_true] at hfi
          obtain ⟨rfl, rfl, rfl⟩ := hfi
          cases hv with
          | same hp => simp [plain] at hp
          | sl hi hx => exact .ex (.sl a1 fun ob hb => ⟨(hx ob (a5 ob hb)).1, fun e => by rw [a2, a3, a4]; exact (hx ob (a5 ob hb)).2 e⟩)
    · cases h
  · split at h
    · rename_i hp
      cases h
      cases hv with
      | same hq => simp [plain] at hq
      | iface hq => rw [hq.eq hp]; exact .iface (.same hp)
    · cases h
  · split at h
    · rename_i hp
      cases h
      rw [hv.eq hp]
      exact .same hp
    · cases h
theorem renL_ok {f : Value → Option Value} (hf : ∀ v v3, f v = some v3 → Rn P H2 μ2 H3 μ3 v v3) : ∀ (l l3 : List Value), renL f l = some l3 → l.length = l3.length ∧ ∀ (j : Nat) (v v3 : Value), l[j]? = some v → l3[j]? = some v3 → Rn P H2 μ2 H3 μ3 v v3
  | [], l3, h => by cases h; exact ⟨rfl, fun j v v3 a => by simp at a⟩
  | v :: r, l3, h => by
    simp only [renL] at h
    split at h
    · rename_i a b e1 e2
      cases h
      obtain ⟨h1, h2⟩ := renL_ok hf r b e2
      refine ⟨by simp [h1], fun j u u3 c d => ?_⟩
      cases j with
      | zero => simp at c d; subst c; subst d; exact hf _ _ e1
      | succ j => exact h2 j u u3 (by simpa using c) (by simpa using d)
    · cases h
theorem Rn.arr {cs : Array Value} {l3 : List Value} (h : cs.toList.length = l3.length ∧ ∀ (j : Nat) (v v3 : Value), cs.toList[j]? = some v → l3[j]? = some v3 → Rn P H2 μ2 H3 μ3 v v3) {cs' : Array Value} (ha : AR P H2 μ2 cs cs') : AR P H3 μ3 l3.toArray cs' := by
  refine ⟨by simp [← h.1, ← ha.1], fun j v v' a b => ?_⟩
  have hlt : j < cs.size := by rw [ha.1]; exact (Array.getElem?_eq_some_iff.1 b).1
  exact h.2 j cs[j] v (by simp [hlt]) (by simpa using a) v' (ha.2 j _ _ (Array.getElem?_eq_getElem hlt) b)
theorem ren2_ok {ρ : Nat → Option Nat} (hρ : ∀ i j, ρ i = some j → Mv H2 μ2 H3 μ3 i j) {v v3 : Value} (h : ren2 ρ v = some v3) : Rn P H2 μ2 H3 μ3 v v3 := by
  unfold ren2 at h
  split at h
  · rename_i cs
    cases hr : renL (ren1 ρ) cs.toList with
    | none => rw [hr] at h; cases h
    | some l =>
      rw [hr] at h; cases h
      intro v' hv
      cases hv with
      | same hp => simp [plain] at hp
      | agg a b =>
        have := Rn.arr (renL_ok (P := P) (fun _ _ => ren1_ok hρ) _ _ hr) ⟨a, b⟩
        exact .agg this.1 this.2
  · exact ren1_ok hρ h
theorem ren3_ok {ρ : Nat → Option Nat} (hρ : ∀ i j, ρ i = some j → Mv H2 μ2 H3 μ3 i j) {v v3 : Value} (h : ren3 ρ v = some v3) : Rn P H2 μ2 H3 μ3 v v3 := by
  unfold ren3 at h
  split at h
  · rename_i cs
    cases hr : renL (ren2 ρ) cs.toList with
    | none => rw [hr] at h; cases h
    | some l =>
      rw [hr] at h; cases h
      intro v' hv
      cases hv with
      | same hp => simp [plain] at hp
      | tuple a b =>
        have := Rn.arr (renL_ok (P := P) (fun _ _ => ren2_ok hρ) _ _ hr) ⟨a, b⟩
        exact .tuple this.1 this.2
  · exact ren2_ok hρ h
theorem below_ok {n : Nat} {v v' : Value} (hb : belowV n v = true) (hm : ∀ i, i < n → Mv H2 μ2 H3 μ3 i i) (hv : VR P H2 μ2 v v') : VR P H3 μ3 v v' := by
  cases hv with
  | same hp => exact .same hp
  | ptr hi hx =>
    obtain ⟨a1, a2, a3, a4, a5⟩ := hm _ (by simpa [belowV] using hb)
    exact .ptr a1 fun ob hb => ⟨(hx ob (a5 ob hb)).1, fun e => by rw [a2]; exact (hx ob (a5 ob hb)).2 e⟩
  | sl hi hx =>
    obtain ⟨a1, a2, a3, a4, a5⟩ := hm _ (by simpa [belowV] using hb)
    exact .sl a1 fun ob hb => ⟨(hx ob (a5 ob hb)).1, fun e => by rw [a2, a3, a4]; exact (hx ob (a5 ob hb)).2 e⟩
  | fn a b c d =>
    simp only [belowV, Bool.and_eq_true] at hb
    have hp : ∀ {A B : Array Value}, A.toList.all plain = true → (∀ (j : Nat) (v v' : Value), A[j]? = some v → B[j]? = some v' → VR P H2 μ2 v v') → ∀ (j : Nat) (v v' : Value), A[j]? = some v → B[j]? = some v' → VR P H3 μ3 v v' := fun {A B} h1 h2 j v v' e1 e2 => by
      have p : plain v = true := List.all_eq_true.1 h1 v (by simpa using Array.mem_of_getElem? e1)
      rw [(h2 j v v' e1 e2).eq p]
      exact .same p
    exact .fn a b (hp hb.1 c) (hp hb.2 d)
  | @ex a b n c hq =>
    have hp : plain (.slice (some a) n c) = true := by simpa [belowV] using hb
    have := hq.eq hp
    rw [this]; exact .ex (.same hp)
  | iface hq => rw [hq.eq (by simpa [belowV] using hb)]; exact .iface (.same (by simpa [belowV] using hb))
  | agg a b => simp [belowV, plain] at hb
  | tuple a b => simp [belowV, plain] at hb
theorem below_of_VR {H : Hp} {μ : Mp} {v v' : Value} (h : VR P H μ v v') (hm : ∀ i, i < H.length → Mv H2 μ2 H3 μ3 i i) {u : Value} (hu : VR P H2 μ2 v u) : VR P H3 μ3 v u := by
  induction h generalizing u with
  | same hp => rw [hu.eq hp]; exact .same hp
  | ptr hi hx =>
    obtain ⟨a1, a2, a3, a4, a5⟩ := hm _ hi
    cases hu with
    | same hp => simp [plain] at hp
    | ptr hi hx => exact .ptr a1 fun ob hb => ⟨(hx ob (a5 ob hb)).1, fun e => by rw [a2]; exact (hx ob (a5 ob hb)).2 e⟩
  | sl hi hx =>
    obtain ⟨a1, a2, a3, a4, a5⟩ := hm _ hi
    cases hu with
    | same hp => simp [plain] at hp
    | sl hi hx => exact .sl a1 fun ob hb => ⟨(hx ob (a5 ob hb)).1, fun e => by rw [a2, a3, a4]; exact (hx ob (a5 ob hb)).2 e⟩
  | @fn f fi ca fi' ca' a b c d i1 i2 =>
    have go : ∀ {A A' B : Array Value}, A.size = A'.size → (∀ (j : Nat) (v v' : Value), A[j]? = some v → A'[j]? = some v' → ∀ {u : Value}, VR P H2 μ2 v u → VR P H3 μ3 v u) → (∀ (j : Nat) (v v' : Value), A[j]? = some v → B[j]? = some v' → VR P H2 μ2 v v') → ∀ (j : Nat) (v v' : Value), A[j]? = some v → B[j]? = some v' → VR P H3 μ3 v v' := fun {A A' B} hs hi hh j v v' e1 e2 => by
      have hlt : j < A'.size := by rw [← hs]; exact (Array.getElem?_eq_some_iff.1 e1).1
      exact hi j v _ e1 (Array.getElem?_eq_getElem hlt) (hh j v v' e1 e2)
    cases hu with
    | same hp => simp [plain] at hp
    | fn p q r s => exact .fn p q (go a (fun j v v' x y {u} hu => i1 j v v' x y hu) r) (go b (fun j v v' x y {u} hu => i2 j v v' x y hu) s)
  | ex hq ih =>
    cases hu with
    | same hp => simp [plain] at hp
    | ex r => exact .ex (ih r)
  | iface hq ih =>
    cases hu with
    | same hp => simp [plain] at hp
    | iface r => exact .iface (ih r)
  | agg a b ih =>
    cases hu with
    | same hp => simp [plain] at hp
    | agg p q => exact .agg p fun j v v' e1 e2 => ih j v _ e1 (Array.getElem?_eq_getElem (by rw [← a]; exact (Array.getElem?_eq_some_iff.1 e1).1)) (q j v v' e1 e2)
  | tuple a b ih =>
    cases hu with
    | same hp => simp [plain] at hp
    | tuple p q => exact .tuple p fun j v v' e1 e2 => ih j v _ e1 (Array.getElem?_eq_getElem (by rw [← a]; exact (Array.getElem?_eq_some_iff.1 e1).1)) (q j v v' e1 e2)
/-- The objects that are handed out. -/
def pick (l : List (Option Ob)) (sel : List Nat) : List (Option Ob) := sel.map fun k => (l[k]?).join
def idx (x : Nat) : List Nat → Option Nat
  | [] => none
  | y :: r => if Nat.beq x y = true then some 0 else (idx x r).map (· + 1)
def rho (B : Hp) (sel : List Nat) : Nat → Option Nat := fun i => if i < B.length then some i else (idx (i - B.length) sel).map (nid B)
theorem idx_spec : ∀ (sel : List Nat) (x k : Nat), idx x sel = some k → sel[k]? = some x
  | [], x, k, h => by cases h
  | y :: r, x, k, h => by
    simp only [idx] at h
    split at h
    · rename_i e
      cases h
      simp [Nat.eq_of_beq_eq_true e]
    · cases hr : idx x r with
      | none => rw [hr] at h; cases h
      | some j => rw [hr] at h; cases h; simpa using idx_spec r x j hr
/-- Objects whose cells name no object of the call's own. -/
def PlainOb : Option Ob → Prop
  | some (.row _ cs) => ∀ v ∈ cs, plain v = true
  | _ => False
theorem AFn.pack {f : FuncId} {args : Array Value} {H : Hp} {Q : Value → Hp → Prop}
    (h : AFn P w0 f args H fun v H2 => ∃ (B : Hp) (l : List (Option Ob)) (sel : List Nat) (v3 : Value), H2 = Hx B l ∧ B.length = H.length ∧ (∀ (i : Nat) (o : Ob), B[i]? = some (some o) → H[i]? = some (some o) ∨ ∃ t cs, o = .row t cs ∧ ∀ v ∈ cs, belowV H.length v = true) ∧ (∀ k ∈ sel, PlainOb ((l[k]?).join)) ∧ sel.Nodup ∧ ren3 (rho B sel) v = some v3 ∧ Q v3 (Hx B (pick l sel))) : AFn P w0 f args H Q := by
  refine ⟨h.1, fun μ w args' h1 h2 => (h.2 μ w args' h1 h2).mono ?_⟩
  rintro e w2 ⟨v, v', H2, μ2, rfl, ⟨B, l, sel, v3, rfl, hB, hb, hp, hnd, hr, hq⟩, r1, r2, r3⟩
  let src : Nat → Nat := fun j => if j < B.length then j else B.length + (sel[j - B.length]?).getD 0
  let μ3 : Mp := ⟨fun j => μ2.m (src j), fun j => μ2.K (src j), fun j => μ2.T (src j)⟩
  have len3 : (Hx B (pick l sel)).length = B.length + sel.length := by simp [Hx, pick]
  have old3 : ∀ j, j < B.length → (Hx B (pick l sel))[j]? = (Hx B l)[j]? := fun j hj => by
    unfold Hx
    rw [List.getElem?_append_left hj, List.getElem?_append_left hj]
  have new3 : ∀ k x, sel[k]? = some x → (Hx B (pick l sel))[B.length + k]? = some ((l[x]?).join) ∧ src (B.length + k) = B.length + x := fun k x hx => by
    refine ⟨?_, ?_⟩
    · unfold Hx pick
      rw [List.getElem?_append_right (by omega), show B.length + k - B.length = k by omega, List.getElem?_map, hx]
      rfl
    · simp only [src]
      rw [if_neg (by omega), show B.length + k - B.length = k by omega, hx]
      rfl
  have oldL : ∀ x, (Hx B l)[B.length + x]? = l[x]? := fun x => by
    unfold Hx
    rw [List.getElem?_append_right (by omega)]
    congr 1; omega
  have join_some : ∀ {x : Nat} {o : Ob}, (l[x]?).join = some o → l[x]? = some (some o) := fun {x o} hh => by
    cases hx : l[x]? with
    | none => rw [hx] at hh; cases hh
    | some y => rw [hx] at hh; cases y with
      | none => cases hh
      | some z => cases hh; rfl
  -- what stands at a place of the new heap stood at its place
  have back : ∀ j o, (Hx B (pick l sel))[j]? = some (some o) → (Hx B l)[src j]? = some (some o) := fun j o hj => by
    by_cases hlt : j < B.length
    · rw [old3 j hlt] at hj
      simpa [src, hlt] using hj
    · obtain ⟨k, rfl⟩ : ∃ k, j = B.length + k := ⟨j - B.length, by omega⟩
      have hk : k < sel.length := by have := lt_of_get hj; omega
      obtain ⟨n1, n2⟩ := new3 k sel[k] (List.getElem?_eq_getElem hk)
      rw [n1] at hj
      rw [n2, oldL]
      exact join_some (Option.some.inj hj)
  have src_inj : ∀ i j o o', (Hx B (pick l sel))[i]? = some (some o) → (Hx B (pick l sel))[j]? = some (some o') → src i = src j → i = j := fun i j o o' hi hj he => by
    have li := lt_of_get hi
    have lj := lt_of_get hj
    rw [len3] at li lj
    by_cases h1 : i < B.length
    · by_cases h2 : j < B.length
      · simpa [src, h1, h2] using he
      · simp only [src, h1, h2, if_true, if_false] at he; omega
    · by_cases h2 : j < B.length
      · simp only [src, h1, h2, if_true, if_false] at he; omega
      · obtain ⟨a, rfl⟩ : ∃ k, i = B.length + k := ⟨i - B.length, by omega⟩
        obtain ⟨b, rfl⟩ : ∃ k, j = B.length + k := ⟨j - B.length, by omega⟩
        have ha : a < sel.length := by omega
        have hb : b < sel.length := by omega
        rw [(new3 a sel[a] (List.getElem?_eq_getElem ha)).2, (new3 b sel[b] (List.getElem?_eq_getElem hb)).2] at he
        have : sel[a] = sel[b] := by omega
        have := (List.getElem_inj (h₀ := ha) (h₁ := hb) hnd).1 this
        omega
  have hold : ∀ i, i < H.length → Mv (Hx B l) μ2 (Hx B (pick l sel)) μ3 i i := fun i hi => by
    have hi2 : i < B.length := by omega
    refine ⟨by rw [len3]; omega, by simp [μ3, src, hi2], by simp [μ3, src, hi2], by simp [μ3, src, hi2], fun o ho => ?_⟩
    rw [old3 i hi2] at ho; exact ho
  have hρ : ∀ i j, rho B sel i = some j → Mv (Hx B l) μ2 (Hx B (pick l sel)) μ3 i j := fun i j hij => by
    unfold rho at hij
    split at hij
    · rename_i hlt; cases hij; exact hold i (by omega)
    · rename_i hge
      cases hx : idx (i - B.length) sel with
      | none => rw [hx] at hij; cases hij
      | some k =>
        rw [hx] at hij
        cases hij
        have hs := idx_spec sel _ k hx
        obtain ⟨n1, n2⟩ := new3 k _ hs
        have e : B.length + (i - B.length) = i := by omega
        rw [e] at n2
        refine ⟨by rw [len3]; unfold nid; have := lt_of_get hs; omega, by simp only [μ3, nid, n2], by simp only [μ3, nid, n2], by simp only [μ3, nid, n2], fun o ho => ?_⟩
        have := back _ o ho
        rw [show src (nid B k) = i from n2] at this
        exact this
  have cellsOk : ∀ (j : Nat) (t : TypeId) (cs : List Value), (Hx B (pick l sel))[j]? = some (some (Ob.row t cs)) → ∀ v ∈ cs, ∀ u, VR P (Hx B l) μ2 v u → VR P (Hx B (pick l sel)) μ3 v u := fun j t cs hj v hv u hu => by
    by_cases hlt : j < B.length
    · have hj' : B[j]? = some (some (Ob.row t cs)) := by
        rw [old3 j hlt] at hj
        unfold Hx at hj
        rwa [List.getElem?_append_left hlt] at hj
      rcases hb j _ hj' with h5 | ⟨t', cs', e, h5⟩
      · obtain ⟨q, hq⟩ := List.mem_iff_getElem?.1 hv
        obtain ⟨_, _, _, c0, fz, _, _, _, a7⟩ := h1.row j t cs h5
        obtain ⟨_, u0, _, hu0⟩ := a7 q v hq
        exact below_of_VR hu0 hold hu
      · cases e
        exact below_ok (h5 v hv) hold hu
    · obtain ⟨k, rfl⟩ : ∃ k, j = B.length + k := ⟨j - B.length, by omega⟩
      have hk : k < sel.length := by have := lt_of_get hj; omega
      obtain ⟨n1, n2⟩ := new3 k sel[k] (List.getElem?_eq_getElem hk)
      have hpl := hp sel[k] (List.getElem_mem hk)
      rw [n1] at hj
      rw [Option.some.inj hj] at hpl
      have p := hpl v hv
      rw [hu.eq p]
      exact .same p
  refine ⟨v3, v', _, μ3, rfl, hq, ⟨r1.below, fun j t cs hj => ?_, fun j s p hj => ?_, fun i j o o' hi hj he => ?_⟩, ren3_ok hρ hr v' r2, ⟨by rw [len3]; omega, fun i hi hd o ho => ?_, fun i o o2 hi ho ho2 => ?_⟩⟩
  · obtain ⟨a1, a2, a3, c, fz, a4, a5, a6, a7⟩ := r1.row _ t cs (back j _ hj)
    exact ⟨a1, a2, a3, c, fz, a4, a5, a6, fun q v hqv => ⟨(a7 q v hqv).1, by obtain ⟨u, b1, b2⟩ := (a7 q v hqv).2; exact ⟨u, b1, cellsOk j t cs hj v (List.mem_of_getElem? hqv) u b2⟩⟩⟩
  · exact r1.iter _ s p (back j _ hj)
  · exact src_inj i j o o' hi hj (r1.inj _ _ o o' (back i o hi) (back j o' hj) he)
  · rw [old3 i (by omega)] at ho
    exact r3.dead i hi hd o ho
  · rw [old3 i (by omega)] at ho2
    have hi2 : i < B.length := by omega
    have := r3.live i o o2 hi ho ho2
    simpa [μ3, src, hi2] using this
/-- A call that leaves nothing behind but its answer. -/
theorem AFn.trim {f : FuncId} {args : Array Value} {H : Hp} {R : Value → Prop} (h : AFn P w0 f args H fun v H2 => ∃ l, H2 = Hx H l ∧ R v) (hR : ∀ v, R v → ren3 (rho H []) v = some v) : AFn P w0 f args H fun v H2 => R v ∧ H2 = H := by
  refine AFn.pack (h.mono ?_)
  rintro v H2 ⟨l, rfl, hv⟩
  exact ⟨H, l, [], v, rfl, rfl, fun i o ho => .inl ho, by simp, List.nodup_nil, hR v hv, hv, by simp [pick, Hx]⟩
end
end Go.Proofs.YtcmflpdgfddmeaaW.XM

