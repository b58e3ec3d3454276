/- FnPageBack: own words and contracts that the law's proof uses, part 2. No condition of its own. -/
import Derived.Test.YtcmflpdgfddmeaaDoorZFnPageBack1
import Derived.WalkKit
import Derived.ProofKit
import Derived.OpenShut
import Derived.ShutString
import Derived.ChangeOld
import Derived.DataReads
import Derived.DataElems
import Derived.Deep.Slices
import Derived.Lib.LaidTab
set_option linter.unusedSimpArgs false
set_option linter.unusedVariables false
namespace Go.Proofs.YtcmflpdgfddmeaaDoorW.FA
open Go.RowKit Go.Proofs.YtcmflpdgfddmeaaDoorW.XM Go.Proofs Go.Proofs.YtcmflpdgfddmeaaDoorW.XWords
set_option maxRecDepth 100000
set_option linter.unusedSimpArgs false
variable {w0 : World} {H : Hp}
theorem rd_flat {α : Type} {enc : α → List Value} {n : Nat} (he : ∀ a, (enc a).length = n) (t : TypeId) (ls : List α) (B : Hp) (l : List (Option Ob)) (j : Nat) (hl : l[j]? = some (some (.row t (flat enc ls)))) (L : List (Option Ob)) : rd w0 (Hx (Hx B l) L) ⟨nid B j, 0, some (ls.length * n)⟩ (ls.length * n) = some (flat enc ls) := by
  refine rd_old ?_ L
  rw [rd_own, hl, rdO_row, if_pos ⟨flat_len he ls, by rw [flat_len he]; omega⟩, List.drop_zero, List.take_of_length_le (by rw [flat_len he]; exact Nat.le_refl _)]
theorem RmAt_own {B : Hp} {l : List (Option Ob)} {j k : Nat} {R : Rm} (hj : l[j]? = some (some (.row 74 (flat Mem.enc R.ms)))) (hk : l[k]? = some (some (.row 83 (flat Rk.enc R.ks)))) (lm : R.ms.length ≤ 2000000) (lk : R.ks.length ≤ 2000000) : RmAt w0 (Hx B l) R (adR B R j k) :=
  ⟨Sl_own mlen _ R.ms B l j hj, Sl_own klen _ R.ks B l k hk, lm, lk, fun L => by rw [adR, src_sl, rd_flat mlen _ R.ms B l j hj]; rfl, fun L => by rw [adR, src_sl, rd_flat klen _ R.ks B l k hk]; rfl⟩
theorem RmOw_own {B : Hp} {l : List (Option Ob)} {j k : Nat} {R : Rm} (hj : l[j]? = some (some (.row 74 (flat Mem.enc R.ms)))) : RmOw w0 (Hx B l) R (adR B R j k) := by
  refine ⟨Nat.le_refl _, fun b o sp e L => ?_, fun b o sp e L => ?_⟩
  · cases e
    refine ⟨_, flat Mem.enc R.ms, false || true, ?_, flat_len mlen R.ms, XF.lay_74⟩
    have := lt_of_get hj
    rw [Hx_Hx, Hx_get, List.getElem?_append_left this]
    exact hj
  · cases e
    exact rd_flat mlen _ R.ms B l j hj L
theorem RmOw.old {R : Rm} {x : Ad} (h : RmOw w0 H R x) (l : List (Option Ob)) : RmOw w0 (Hx H l) R x := ⟨h.cm, fun b o sp e L => by rw [Hx_Hx]; exact h.om b o sp e _, fun b o sp e L => by rw [Hx_Hx]; exact h.rm b o sp e _⟩
theorem stpK_mem (u : ByteArray) (num : Int) (x : Rk) (st : Bool × List Rk) : (stpK u num x st).2.length ≤ st.2.length + 2 ∧ ∀ y ∈ (stpK u num x st).2, y ∈ st.2 ∨ y = x ∨ y = ⟨u, num⟩ := by
  unfold stpK
  simp only
  constructor
  · repeat' split
    all_goals first | omega | (simp; done) | (simp; omega)
  · intro y hy
    repeat' split at hy
    all_goals first
      | exact .inl hy
      | (rcases List.mem_append.1 hy with hy | hy
         · first
             | exact .inl hy
             | (rcases List.mem_append.1 hy with hy | hy
                · exact .inl hy
                · exact .inr (.inr (by simpa using hy)))
         · first
             | exact .inr (.inl (by simpa using hy))
             | exact .inr (.inr (by simpa using hy)))
theorem runK_mem (u : ByteArray) (num : Int) : ∀ (l : List Rk) (st : Bool × List Rk), (runK u num l st).2.length ≤ st.2.length + 2 * l.length ∧ ∀ y ∈ (runK u num l st).2, y ∈ st.2 ∨ y ∈ l ∨ y = ⟨u, num⟩
  | [], st => ⟨by simp [runK], fun y hy => .inl hy⟩
  | x :: l, st => by
    obtain ⟨a, b⟩ := stpK_mem u num x st
    obtain ⟨c, d⟩ := runK_mem u num l (stpK u num x st)
    refine ⟨by simp only [runK, List.foldl_cons, List.length_cons] at c ⊢; omega, fun y hy => ?_⟩
    rcases d y hy with h | h | h
    · rcases b y h with h | h | h
      · exact .inl h
      · exact .inr (.inl (by simp [h]))
      · exact .inr (.inr h)
    · exact .inr (.inl (List.mem_cons_of_mem _ h))
    · exact .inr (.inr h)
theorem rkd_mem (u : ByteArray) (num : Int) (l : List Rk) : (rkd u num l).length ≤ 2 * l.length + 1 ∧ ∀ y ∈ rkd u num l, y ∈ l ∨ y = ⟨u, num⟩ := by
  obtain ⟨a, b⟩ := runK_mem u num l (num == 1, [])
  unfold rkd
  simp only
  split
  · exact ⟨by simp at a; omega, fun y hy => by rcases b y hy with h | h | h; cases h; exact .inl h; exact .inr h⟩
  · refine ⟨by simp at a ⊢; omega, fun y hy => ?_⟩
    rcases List.mem_append.1 hy with hy | hy
    · rcases b y hy with h | h | h
      · cases h
      · exact .inl h
      · exact .inr h
    · exact .inr (by simpa using hy)
theorem outI_mem {α : Type} (l : List α) (i : Int) : (outI l i).length ≤ l.length ∧ ∀ x ∈ outI l i, x ∈ l := by
  unfold outI
  split
  · refine ⟨by simp; omega, fun x hx => ?_⟩
    rcases List.mem_append.1 hx with h | h
    · exact List.mem_of_mem_take h
    · exact List.mem_of_mem_drop h
  · exact ⟨Nat.le_refl _, fun x hx => hx⟩
theorem roleI_mem (l : List Mem) (i num : Int) : (roleI l i num).length = l.length ∧ ∀ x ∈ roleI l i num, ∃ y ∈ l, x.user = y.user ∧ x.nick = y.nick := by
  unfold roleI
  split
  · split
    · rename_i m hm
      refine ⟨by simp, fun x hx => ?_⟩
      rcases List.mem_or_eq_of_mem_set hx with h | h
      · exact ⟨x, h, rfl, rfl⟩
      · exact ⟨m, List.mem_of_getElem? hm, by rw [h], by rw [h]⟩
    · exact ⟨rfl, fun x hx => ⟨x, hx, rfl, rfl⟩⟩
  · exact ⟨rfl, fun x hx => ⟨x, hx, rfl, rfl⟩⟩
end Go.Proofs.YtcmflpdgfddmeaaDoorW.FA

namespace Go.Proofs.YtcmflpdgfddmeaaDoorW.FA
open Go.RowKit Go.Proofs.YtcmflpdgfddmeaaDoorW.XM Go.Proofs Go.Proofs.YtcmflpdgfddmeaaDoorW.XWords
set_option maxRecDepth 100000
set_option linter.unusedSimpArgs false
variable (w0 : World) (H : Hp)
end Go.Proofs.YtcmflpdgfddmeaaDoorW.FA

namespace Go.Proofs.YtcmflpdgfddmeaaDoorW.FA
open Go.RowKit Go.Proofs.YtcmflpdgfddmeaaDoorW.XM Go.Proofs Go.Proofs.YtcmflpdgfddmeaaDoorW.XWords
set_option maxRecDepth 100000
set_option linter.unusedSimpArgs false
variable (w0 : World) (H : Hp)
end Go.Proofs.YtcmflpdgfddmeaaDoorW.FA

namespace Go.Proofs.YtcmflpdgfddmeaaDoorW.FA
open Go.RowKit Go.Proofs.YtcmflpdgfddmeaaDoorW.XM Go.Proofs Go.Proofs.YtcmflpdgfddmeaaDoorW.XWords
set_option maxRecDepth 100000
set_option linter.unusedSimpArgs false
theorem ba_ext {x y : ByteArray} (h : x.toList = y.toList) : x = y := by
  rw [ByteArray.toList_eq, ByteArray.toList_eq] at h
  exact ByteArray.ext (Array.toList_inj.mp h)
end Go.Proofs.YtcmflpdgfddmeaaDoorW.FA

namespace Go.Proofs.YtcmflpdgfddmeaaDoorW.FA
open Go.RowKit Go.Proofs.YtcmflpdgfddmeaaDoorW.XM Go.Proofs Go.Proofs.YtcmflpdgfddmeaaDoorW.XWords
set_option maxRecDepth 100000
set_option linter.unusedSimpArgs false
variable (w0 : World) (H : Hp)
end Go.Proofs.YtcmflpdgfddmeaaDoorW.FA

namespace Go.Proofs.YtcmflpdgfddmeaaDoorW.FA
open Go.RowKit Go.Proofs.YtcmflpdgfddmeaaDoorW.XM Go.Proofs Go.Proofs.YtcmflpdgfddmeaaDoorW.XWords
set_option maxRecDepth 100000
set_option linter.unusedSimpArgs false
variable (w0 : World) (H : Hp)
end Go.Proofs.YtcmflpdgfddmeaaDoorW.FA

namespace Go.Proofs.YtcmflpdgfddmeaaDoorW.FA
open Go.RowKit Go.Proofs.YtcmflpdgfddmeaaDoorW.XM Go.Proofs Go.Proofs.YtcmflpdgfddmeaaDoorW.XWords
set_option maxRecDepth 100000
set_option linter.unusedSimpArgs false
variable (w0 : World) (H : Hp)
end Go.Proofs.YtcmflpdgfddmeaaDoorW.FA

namespace Go.Proofs.YtcmflpdgfddmeaaDoorW.FA
open Go.RowKit Go.Proofs.YtcmflpdgfddmeaaDoorW.XM Go.Proofs Go.Proofs.YtcmflpdgfddmeaaDoorW.XWords
set_option maxRecDepth 100000
set_option linter.unusedSimpArgs false
variable (w0 : World) (H : Hp)
end Go.Proofs.YtcmflpdgfddmeaaDoorW.FA

namespace Go.Proofs.YtcmflpdgfddmeaaDoorW.FA
open Go.RowKit Go.Proofs.YtcmflpdgfddmeaaDoorW.XM Go.Proofs Go.Proofs.YtcmflpdgfddmeaaDoorW.XWords
set_option maxRecDepth 100000
set_option linter.unusedSimpArgs false
variable (w0 : World) (H : Hp)
end Go.Proofs.YtcmflpdgfddmeaaDoorW.FA

namespace Go.Proofs.YtcmflpdgfddmeaaDoorW.FA
open Go.RowKit Go.Proofs.YtcmflpdgfddmeaaDoorW.XM Go.Proofs Go.Proofs.YtcmflpdgfddmeaaDoorW.XWords
set_option maxRecDepth 100000
set_option linter.unusedSimpArgs false
variable (w0 : World) (H : Hp)
end Go.Proofs.YtcmflpdgfddmeaaDoorW.FA

namespace Go.Proofs.YtcmflpdgfddmeaaDoorW.FA
open Go.RowKit Go.Proofs.YtcmflpdgfddmeaaDoorW.XM Go.Proofs Go.Proofs.YtcmflpdgfddmeaaDoorW.XWords
set_option maxRecDepth 100000
set_option linter.unusedSimpArgs false
variable (w0 : World) (H : Hp)
end Go.Proofs.YtcmflpdgfddmeaaDoorW.FA

namespace Go.Proofs.YtcmflpdgfddmeaaDoorW.FA
open Go.RowKit Go.Proofs.YtcmflpdgfddmeaaDoorW.XM Go.Proofs Go.Proofs.YtcmflpdgfddmeaaDoorW.XWords
set_option maxRecDepth 100000
set_option linter.unusedSimpArgs false
variable (w0 : World) (H : Hp)
end Go.Proofs.YtcmflpdgfddmeaaDoorW.FA

namespace Go.Proofs.YtcmflpdgfddmeaaDoorW.XM
open Go.RowKit
section
variable {P : Program} {w0 : World}
inductive QT2 where
  | z
  | q (i : Nat) (r : QT2)
  | e (i : Nat) (r : QT2)
  | b (i : Nat) (r : QT2) (j : Nat) (s : QT2)
def QT2.len : QT2 → Nat
  | .z => 0
  | .q _ r => r.len + 1
  | .e _ r => r.len + 1
  | .b _ r _ _ => r.len + 1
def xdT (P : Program) (w0 : World) (ops : Array Oper) (Q : Ts → Hp → Prop) : QT2 → List Pd → Ts → Hp → Prop
  | .z, _, T, H => Q T H
  | .q i r, pd, T, H => match ops[i]? with
    | none => False
    | some o => if wan o ops T = true then ∃ v, Yl P w0 o.op T H v ∧ xdT P w0 ops Q r (⟨i, o.op, T, v⟩ :: pd) (upd T o.dst v) H else xdT P w0 ops Q r pd (upd T o.dst undef) H
  | .e i r, pd, T, H => match ops[i]? with
    | none => False
    | some o => if wan o ops T = true then xo P w0 o.op (ev T) H (fun v H2 => pendOk P w0 ops i H2 pd ∧ xdT P w0 ops Q r pd (upd T o.dst v) H2) else xdT P w0 ops Q r pd (upd T o.dst undef) H
  | .b i r j s, pd, T, H => (match ops[i]? with
    | none => False
    | some o => if wan o ops T = true then xo P w0 o.op (ev T) H (fun v H2 => pendOk P w0 ops i H2 pd ∧ xdT P w0 ops Q r pd (upd T o.dst v) H2) else xdT P w0 ops Q r pd (upd T o.dst undef) H) ∧ (match ops[j]? with
    | none => False
    | some o => if wan o ops T = true then xo P w0 o.op (ev T) H (fun v H2 => pendOk P w0 ops j H2 pd ∧ xdT P w0 ops Q s pd (upd T o.dst v) H2) else xdT P w0 ops Q s pd (upd T o.dst undef) H)
def planBT (ops : Array Oper) : QT2 → Array Bool → Bool
  | .z, listed => (Region.ready .any ops listed).isEmpty
  | .q i r, listed => (Region.ready .any ops listed).contains i && freeB ops listed i && planBT ops r (listed.setIfInBounds i true)
  | .e i r, listed => (Region.ready .any ops listed) == [i] && planBT ops r (listed.setIfInBounds i true)
  | .b i r j s, listed => ((Region.ready .any ops listed) == [i, j] || (Region.ready .any ops listed) == [j, i]) && (r.len == s.len && (planBT ops r (listed.setIfInBounds i true) && planBT ops s (listed.setIfInBounds j true)))
theorem xdT_ok {ops : Array Oper} {Q : Ts → Hp → Prop} : ∀ (l : QT2) (pd : List Pd) (listed : Array Bool) (T : Ts) (H : Hp), planBT ops l listed = true → Closed ops listed → xdT P w0 ops Q l pd T H →
    XA P w0 ops Q (fun j H' => pendOk P w0 ops j H' pd) l.len listed T H
  | .z, pd, listed, T, H, hp, hc, h => ⟨by simpa [planBT] using hp, h⟩
  | .q i r, pd, listed, T, H, hp, hc, h => by
    simp only [planBT, Bool.and_eq_true] at hp
    obtain ⟨⟨p1, p2⟩, p3⟩ := hp
    have hr : i ∈ Region.ready .any ops listed := by simpa using p1
    simp only [xdT] at h
    cases ho : ops[i]? with
    | none => rw [ho] at h; exact h.elim
    | some o =>
      rw [ho] at h
      simp only at h
      have hfree : ∀ j oj, ops[j]? = some oj → j ≠ i → listed.getD j true = false → anc ops ops.size i j = false → o.apart ops oj = true := fun j oj hj hne hl ha => by
        unfold freeB at p2
        rw [ho] at p2
        have := List.all_eq_true.1 p2 j (List.mem_range.2 (Array.getElem?_eq_some_iff.1 hj).1)
        rw [hj] at this
        simp only [Bool.or_eq_true, beq_iff_eq, hl, ha] at this
        simp only [hne, Bool.false_eq_true, false_or] at this
        exact this
      split at h
      · rename_i hw
        obtain ⟨v, h1, h2⟩ := h
        have := xdT_ok r _ _ _ _ p3 (hc.set hr) h2
        refine XA_first ho ops.size r.len hc hr hfree hw (fun _ => h1) (by simp) (XA.mono (fun j H' hh => ?_) _ this)
        simp only [pendOk] at hh
        refine ⟨hh.2, ?_⟩
        have h3 := hh.1
        split at h3
        · rename_i e; exact .inl e
        · exact .inr (.inr h3)
      · rename_i hw
        have := xdT_ok r _ _ _ _ p3 (hc.set hr) h
        exact XA_first (v := undef) (wn := false) ho ops.size r.len hc hr hfree (by simpa using hw) (by simp) (fun _ => rfl) (XA.mono (fun j H' hh => ⟨hh, .inr (.inl rfl)⟩) _ this)
  | .e i r, pd, listed, T, H, hp, hc, h => by
    simp only [planBT, Bool.and_eq_true, beq_iff_eq] at hp
    obtain ⟨p1, p3⟩ := hp
    have hr : i ∈ Region.ready .any ops listed := by rw [p1]; simp
    simp only [xdT] at h
    refine ⟨fun e => (by rw [p1] at e; cases e), fun j hj => ?_⟩
    rw [p1] at hj
    simp only [List.mem_singleton] at hj
    subst hj
    unfold xop1
    cases ho : ops[j]? with
    | none => rw [ho] at h; exact h.elim
    | some o =>
      rw [ho] at h
      simp only at h ⊢
      split at h
      · rename_i hw
        rw [if_pos hw]
        exact xo_mono (fun v H2 hh => ⟨.inr hh.1, xdT_ok r _ _ _ _ p3 (hc.set hr) hh.2⟩) h
      · rename_i hw
        rw [if_neg hw]
        exact ⟨.inl trivial, xdT_ok r _ _ _ _ p3 (hc.set hr) h⟩
  | .b i r j s, pd, listed, T, H, hp, hc, h => by
    simp only [planBT, Bool.and_eq_true, Bool.or_eq_true, beq_iff_eq] at hp
    obtain ⟨p1, p2, p3, p4⟩ := hp
    have hmem : ∀ k, k ∈ Region.ready .any ops listed → k = i ∨ k = j := fun k hk => by
      rcases p1 with p1 | p1 <;> (rw [p1] at hk; simp at hk; omega)
    have hne : Region.ready .any ops listed ≠ [] := by rcases p1 with p1 | p1 <;> (rw [p1]; simp)
    have one : ∀ (k : Nat) (t : QT2), k ∈ Region.ready .any ops listed → planBT ops t (listed.setIfInBounds k true) = true → t.len = r.len → (∀ (pd : List Pd) (listed : Array Bool) (T : Ts) (H : Hp), planBT ops t listed = true → Closed ops listed → xdT P w0 ops Q t pd T H → XA P w0 ops Q (fun j H' => pendOk P w0 ops j H' pd) t.len listed T H) → (match ops[k]? with
        | none => False
        | some o => if wan o ops T = true then xo P w0 o.op (ev T) H (fun v H2 => pendOk P w0 ops k H2 pd ∧ xdT P w0 ops Q t pd (upd T o.dst v) H2) else xdT P w0 ops Q t pd (upd T o.dst undef) H) →
        xop1 P w0 ops k T H fun T2 H2 => (H2 = H ∨ pendOk P w0 ops k H2 pd) ∧ XA P w0 ops Q (fun j H' => pendOk P w0 ops j H' pd) r.len (listed.setIfInBounds k true) T2 H2 := fun k t hk hp2 hl ih hh => by
      unfold xop1
      cases ho : ops[k]? with
      | none => rw [ho] at hh; exact hh.elim
      | some o =>
        rw [ho] at hh
        simp only at hh ⊢
        split at hh
        · rename_i hw
          rw [if_pos hw]
          exact xo_mono (fun v H2 hh => ⟨.inr hh.1, by rw [← hl]; exact ih _ _ _ _ hp2 (hc.set hk) hh.2⟩) hh
        · rename_i hw
          rw [if_neg hw]
          exact ⟨.inl trivial, by rw [← hl]; exact ih _ _ _ _ hp2 (hc.set hk) hh⟩
    simp only [xdT] at h
    refine ⟨fun e => absurd e hne, fun k hk => ?_⟩
    rcases hmem k hk with rfl | rfl
    · exact one k r hk p3 rfl (fun pd listed T H => xdT_ok r pd listed T H) h.1
    · exact one k s hk p4 p2.symm (fun pd listed T H => xdT_ok s pd listed T H) h.2
theorem xw_drawT {n id : Nat} {ops : Array Oper} {Q : QT} {T : Ts} {H : Hp} (plan : QT2) (hm : P.follows .mixedOrders = true) (hg : ops.all (goodO n) = true) (hp : (plan.len == ops.size && planBT ops plan (Array.replicate ops.size false)) = true) (h : xdT P w0 ops (Q .normal) plan [] T H) : xw P w0 n (.region id ops true) Q T H := by
  simp only [Bool.and_eq_true, beq_iff_eq] at hp
  intro H0 μ0 μ w a h1 h2 h3 h4
  refine wp_region_any hm ?_
  have hc : Closed ops (Array.replicate ops.size false) := fun j o hj => by
    by_cases hlt : j < ops.size <;> simp [Array.getD_eq_getD_getElem?, Array.getElem?_replicate, hlt] at hj
  have := xdT_ok plan [] _ T H hp.2 hc h
  rw [hp.1] at this
  exact XA_ok hg _ _ T H this H0 μ0 μ _ a h1.drew h2 h3 h4
inductive PT where
  | z
  | q (i : Nat) (r : PT)
  | l (i : Nat) (r : PT)
  | e (i : Nat) (r : PT)
  | d (i : Nat) (r : PT)
  | b (i : Nat) (r : PT) (j : Nat) (s : PT)
def PT.ps : PT → QT2
  | .z => .z
  | .q i r => .q i r.ps
  | .l i r => .q i r.ps
  | .e i r => .e i r.ps
  | .d _ r => r.ps
  | .b i r j s => .b i r.ps j s.ps
/-- Every operation that it does as it stands lies behind i. -/
def PT.aft (c : Nat → Bool) : PT → Bool
  | .z => true
  | .q _ r => r.aft c
  | .l _ r => r.aft c
  | .e j r => c j && r.aft c
  | .d _ r => r.aft c
  | .b i r j s => (c i && r.aft c) && (c j && s.aft c)
def xt (P : Program) (w0 : World) (l : List Oper) (Q : Ts → Hp → Prop) : PT → List Pd → Ts → Hp → Prop
  | .z, _, T, H => Q T H
  | .q i r, pd, T, H => match nth l i with
    | none => False
    | some o => if wan o l.toArray T = true then xo P w0 o.op (ev T) H (fun v H' => xt P w0 l Q r pd (upd T o.dst v) H') else xt P w0 l Q r pd (upd T o.dst undef) H
  | .l i r, pd, T, H => match nth l i with
    | none => False
    | some o => if wan o l.toArray T = true then xo P w0 o.op (ev T) H (fun v H' => xt P w0 l Q r (⟨i, o.op, T, v⟩ :: pd) (upd T o.dst v) H') else xt P w0 l Q r pd (upd T o.dst undef) H
  | .e i r, pd, T, H => match nth l i with
    | none => False
    | some o => if wan o l.toArray T = true then xo P w0 o.op (ev T) H (fun v H' => pdOk P w0 H' (xt P w0 l Q r pd (upd T o.dst v) H') pd) else xt P w0 l Q r pd (upd T o.dst undef) H
  | .d i r, pd, T, H => xt P w0 l Q r (drp i pd) T H
  | .b i r j s, pd, T, H => (match nth l i with
    | none => False
    | some o => if wan o l.toArray T = true then xo P w0 o.op (ev T) H (fun v H' => pdOk P w0 H' (xt P w0 l Q r pd (upd T o.dst v) H') pd) else xt P w0 l Q r pd (upd T o.dst undef) H) ∧ (match nth l j with
    | none => False
    | some o => if wan o l.toArray T = true then xo P w0 o.op (ev T) H (fun v H' => pdOk P w0 H' (xt P w0 l Q s pd (upd T o.dst v) H') pd) else xt P w0 l Q s pd (upd T o.dst undef) H)
def okPT (P : Program) (ops : Array Oper) : PT → Bool
  | .z => true
  | .q i r => (match ops[i]? with
    | some o => quiet P o.op || (isLoad o.op && r.aft fun j => anc ops ops.size i j)
    | none => false) && okPT P ops r
  | .l i r => (match ops[i]? with
    | some o => isLoad o.op
    | none => false) && okPT P ops r
  | .e _ r => okPT P ops r
  | .d i r => (r.aft fun j => anc ops ops.size i j) && okPT P ops r
  | .b _ r _ s => okPT P ops r && okPT P ops s
/-- What waits is as it was, whatever comes. -/
def Wt (P : Program) (w0 : World) (ops : Array Oper) (pm pd : List Pd) (t : PT) : Prop := ∀ p ∈ pd, (∀ H2, Yl P w0 p.o p.T H2 p.v) ∨ (t.aft fun j => anc ops ops.size p.i j) = true ∨ p ∈ pm
theorem xdT_xt {l : List Oper} {Q : Ts → Hp → Prop} : ∀ (pl : PT) (pm pd : List Pd) (T : Ts) (H : Hp), okPT P l.toArray pl = true → Wt P w0 l.toArray pm pd pl → xt P w0 l Q pl pm T H → xdT P w0 l.toArray Q pl.ps pd T H
  | .z, _, _, _, _, _, _, h => h
  | .q i r, pm, pd, T, H, hk, hp, h => by
    simp only [xt, nth_eq] at h
    simp only [PT.ps, xdT, List.getElem?_toArray]
    simp only [okPT, Bool.and_eq_true, List.getElem?_toArray] at hk
    have hp' : Wt P w0 l.toArray pm pd r := hp
    cases ho : l[i]? with
    | none => rw [ho] at h; exact h.elim
    | some o =>
      rw [ho] at h hk
      simp only at h hk ⊢
      split at h
      · rename_i hw
        rw [if_pos hw]
        obtain ⟨hk1, hk2⟩ := hk
        rw [Bool.or_eq_true] at hk1
        rcases hk1 with hq | hl
        · obtain ⟨v, h1, h2⟩ := xo_quiet hq h
          refine ⟨v, h1 H, xdT_xt r pm _ _ _ hk2 ?_ h2⟩
          intro p hm
          rcases List.mem_cons.1 hm with rfl | hm
          · exact .inl h1
          · exact hp' p hm
        · rw [Bool.and_eq_true] at hl
          obtain ⟨v, h1, h2⟩ := xo_loadO hl.1 h
          refine ⟨v, h1, xdT_xt r pm _ _ _ hk2 ?_ h2⟩
          intro p hm
          rcases List.mem_cons.1 hm with rfl | hm
          · exact .inr (.inl hl.2)
          · exact hp' p hm
      · rename_i hw
        rw [if_neg hw]
        exact xdT_xt r pm _ _ _ hk.2 hp' h
  | .l i r, pm, pd, T, H, hk, hp, h => by
    simp only [xt, nth_eq] at h
    simp only [PT.ps, xdT, List.getElem?_toArray]
    simp only [okPT, Bool.and_eq_true, List.getElem?_toArray] at hk
    have hp' : Wt P w0 l.toArray pm pd r := hp
    cases ho : l[i]? with
    | none => rw [ho] at h; exact h.elim
    | some o =>
      rw [ho] at h hk
      simp only at h hk ⊢
      split at h
      · rename_i hw
        rw [if_pos hw]
        obtain ⟨v, h1, h2⟩ := xo_loadO hk.1 h
        refine ⟨v, h1, xdT_xt r _ _ _ _ hk.2 ?_ h2⟩
        intro p hm
        rcases List.mem_cons.1 hm with rfl | hm
        · exact .inr (.inr List.mem_cons_self)
        · exact (hp' p hm).imp id (Or.imp id (List.mem_cons_of_mem _))
      · rename_i hw
        rw [if_neg hw]
        exact xdT_xt r _ _ _ _ hk.2 hp' h
  | .e i r, pm, pd, T, H, hk, hp, h => by
    simp only [xt, nth_eq] at h
    simp only [PT.ps, xdT, List.getElem?_toArray]
    simp only [okPT] at hk
    have hp' : Wt P w0 l.toArray pm pd r := fun p hm => (hp p hm).imp id (Or.imp (fun a => by simp only [PT.aft, Bool.and_eq_true] at a; exact a.2) id)
    cases ho : l[i]? with
    | none => rw [ho] at h; exact h.elim
    | some o =>
      rw [ho] at h
      simp only at h ⊢
      split at h
      · rename_i hw
        rw [if_pos hw]
        refine xo_mono (fun v H2 hh => ?_) h
        obtain ⟨h1, h2⟩ := pdOk_spec pm hh
        refine ⟨pend_ok pd fun p hm => ?_, xdT_xt r pm _ _ _ hk hp' h1⟩
        rcases hp p hm with a | a | a
        · exact .inl (a H2)
        · simp only [PT.aft, Bool.and_eq_true] at a
          exact .inr a.1
        · exact .inl (h2 p a)
      · rename_i hw
        rw [if_neg hw]
        exact xdT_xt r pm _ _ _ hk hp' h
  | .d i r, pm, pd, T, H, hk, hp, h => by
    simp only [okPT, Bool.and_eq_true] at hk
    refine xdT_xt r _ pd T H hk.2 (fun p hm => ?_) h
    rcases hp p hm with a | a | a
    · exact .inl a
    · exact .inr (.inl a)
    · rcases drp_mem (i := i) a with e | e
      · exact .inr (.inl (by rw [e]; exact hk.1))
      · exact .inr (.inr e)
  | .b i r j s, pm, pd, T, H, hk, hp, h => by
    simp only [xt, nth_eq] at h
    simp only [PT.ps, xdT, List.getElem?_toArray]
    simp only [okPT, Bool.and_eq_true] at hk
    have hp1 : Wt P w0 l.toArray pm pd r := fun p hm => (hp p hm).imp id (Or.imp (fun a => by simp only [PT.aft, Bool.and_eq_true] at a; exact a.1.2) id)
    have hp2 : Wt P w0 l.toArray pm pd s := fun p hm => (hp p hm).imp id (Or.imp (fun a => by simp only [PT.aft, Bool.and_eq_true] at a; exact a.2.2) id)
    refine ⟨?_, ?_⟩
    · replace h := h.1
      cases ho : l[i]? with
      | none => rw [ho] at h; exact h.elim
      | some o =>
        rw [ho] at h
        simp only at h ⊢
        split at h
        · rename_i hw
          rw [if_pos hw]
          refine xo_mono (fun v H2 hh => ?_) h
          obtain ⟨h1, h2⟩ := pdOk_spec pm hh
          refine ⟨pend_ok pd fun p hm => ?_, xdT_xt r pm _ _ _ hk.1 hp1 h1⟩
          rcases hp p hm with a | a | a
          · exact .inl (a H2)
          · simp only [PT.aft, Bool.and_eq_true] at a
            exact .inr a.1.1
          · exact .inl (h2 p a)
        · rename_i hw
          rw [if_neg hw]
          exact xdT_xt r pm _ _ _ hk.1 hp1 h
    · replace h := h.2
      cases ho : l[j]? with
      | none => rw [ho] at h; exact h.elim
      | some o =>
        rw [ho] at h
        simp only at h ⊢
        split at h
        · rename_i hw
          rw [if_pos hw]
          refine xo_mono (fun v H2 hh => ?_) h
          obtain ⟨h1, h2⟩ := pdOk_spec pm hh
          refine ⟨pend_ok pd fun p hm => ?_, xdT_xt s pm _ _ _ hk.2 hp2 h1⟩
          rcases hp p hm with a | a | a
          · exact .inl (a H2)
          · simp only [PT.aft, Bool.and_eq_true] at a
            exact .inr a.2.1
          · exact .inl (h2 p a)
        · rename_i hw
          rw [if_neg hw]
          exact xdT_xt s pm _ _ _ hk.2 hp2 h
def planMT (M : List Nat) (ops : Array Oper) : QT2 → Array Bool → Bool
  | .z, listed => (Region.ready .any ops listed).isEmpty
  | .q i r, listed => (Region.ready .any ops listed).contains i && (freeM M ops listed i && planMT M ops r (listed.setIfInBounds i true))
  | .e i r, listed => (Region.ready .any ops listed) == [i] && planMT M ops r (listed.setIfInBounds i true)
  | .b i r j s, listed => ((Region.ready .any ops listed) == [i, j] || (Region.ready .any ops listed) == [j, i]) && (Nat.beq r.len s.len && (planMT M ops r (listed.setIfInBounds i true) && planMT M ops s (listed.setIfInBounds j true)))
theorem planMT_ok {M : List Nat} {ops : Array Oper} (hM : chkM M ops = true) : ∀ (l : QT2) (listed : Array Bool), planMT M ops l listed = true → planBT ops l listed = true
  | .z, _, h => h
  | .q i r, listed, h => by
    simp only [planMT, Bool.and_eq_true] at h
    simp only [planBT, Bool.and_eq_true]
    exact ⟨⟨h.1, freeM_ok hM h.2.1⟩, planMT_ok hM r _ h.2.2⟩
  | .e i r, listed, h => by
    simp only [planMT, Bool.and_eq_true] at h
    simp only [planBT, Bool.and_eq_true]
    exact ⟨h.1, planMT_ok hM r _ h.2⟩
  | .b i r j s, listed, h => by
    simp only [planMT, Bool.and_eq_true] at h
    simp only [planBT, Bool.and_eq_true]
    exact ⟨h.1, beq_iff_eq.2 (Nat.eq_of_beq_eq_true h.2.1), planMT_ok hM r _ h.2.2.1, planMT_ok hM s _ h.2.2.2⟩
def okMT (P : Program) (M : List Nat) (ops : Array Oper) : PT → Bool
  | .z => true
  | .q i r => (match ops[i]? with
    | some o => quiet P o.op || (isLoad o.op && r.aft fun j => Nat.blt j ops.size && Nat.testBit (M.getD j 0) i)
    | none => false) && okMT P M ops r
  | .l i r => (match ops[i]? with
    | some o => isLoad o.op
    | none => false) && okMT P M ops r
  | .e _ r => okMT P M ops r
  | .d i r => (r.aft fun j => Nat.blt j ops.size && Nat.testBit (M.getD j 0) i) && okMT P M ops r
  | .b _ r _ s => okMT P M ops r && okMT P M ops s
theorem aft_mono {c c' : Nat → Bool} (h : ∀ j, c j = true → c' j = true) : ∀ t : PT, t.aft c = true → t.aft c' = true
  | .z, _ => rfl
  | .q _ r, a => aft_mono h r a
  | .l _ r, a => aft_mono h r a
  | .d _ r, a => aft_mono h r a
  | .e j r, a => by
    simp only [PT.aft, Bool.and_eq_true] at a ⊢
    exact ⟨h j a.1, aft_mono h r a.2⟩
  | .b i r j s, a => by
    simp only [PT.aft, Bool.and_eq_true] at a ⊢
    exact ⟨⟨h i a.1.1, aft_mono h r a.1.2⟩, h j a.2.1, aft_mono h s a.2.2⟩
theorem okMT_ok {M : List Nat} {ops : Array Oper} (hM : chkM M ops = true) : ∀ (l : PT), okMT P M ops l = true → okPT P ops l = true
  | .z, _ => rfl
  | .q i r, h => by
    simp only [okMT, Bool.and_eq_true] at h
    simp only [okPT, Bool.and_eq_true]
    refine ⟨?_, okMT_ok hM r h.2⟩
    have h1 := h.1
    cases ho : ops[i]? with
    | none => rw [ho] at h1; cases h1
    | some o =>
      rw [ho] at h1
      simp only [Bool.or_eq_true, Bool.and_eq_true] at h1 ⊢
      refine h1.imp id fun a => ⟨a.1, aft_mono (fun j hj => ?_) r a.2⟩
      simp only [Bool.and_eq_true, Nat.blt_eq] at hj
      exact mask_anc' hM hj.1 hj.2
  | .l i r, h => by
    simp only [okMT, Bool.and_eq_true] at h
    simp only [okPT, Bool.and_eq_true]
    exact ⟨h.1, okMT_ok hM r h.2⟩
  | .e i r, h => okMT_ok hM r h
  | .d i r, h => by
    simp only [okMT, Bool.and_eq_true] at h
    simp only [okPT, Bool.and_eq_true]
    refine ⟨aft_mono (fun j hj => ?_) r h.1, okMT_ok hM r h.2⟩
    simp only [Bool.and_eq_true, Nat.blt_eq] at hj
    exact mask_anc' hM hj.1 hj.2
  | .b _ r _ s, h => by
    simp only [okMT, Bool.and_eq_true] at h
    simp only [okPT, Bool.and_eq_true]
    exact ⟨okMT_ok hM r h.1, okMT_ok hM s h.2⟩
theorem xw_tree {n id : Nat} {l : List Oper} {Q : QT} {T : Ts} {H : Hp} (M : List Nat) (plan : PT) (hm : P.follows .mixedOrders = true) (hg : (l.toArray.all (goodO n) && (Nat.beq plan.ps.len l.toArray.size && (chkM M l.toArray && (planMT M l.toArray plan.ps (Array.replicate l.toArray.size false) && okMT P M l.toArray plan)))) = true) (h : xt P w0 l (Q .normal) plan [] T H) : xw P w0 n (.region id l.toArray true) Q T H := by
  simp only [Bool.and_eq_true] at hg
  obtain ⟨g1, g2, g3, g4, g5⟩ := hg
  refine xw_drawT plan.ps hm g1 ?_ (xdT_xt plan [] [] T H (okMT_ok g3 plan g5) (fun p hp => by cases hp) h)
  simp only [Bool.and_eq_true, beq_iff_eq]
  exact ⟨Nat.eq_of_beq_eq_true g2, planMT_ok g3 _ _ g4⟩
/-! the steps as equations -/
def KTe (P : Program) (w0 : World) (l : List Oper) (Q : Ts → Hp → Prop) (r : PT) (pd : List Pd) (T : Ts) (d : Option Nat) : Value → Hp → Prop := fun v H => xt P w0 l Q r pd (upd T d v) H
@[go_sem] theorem KTe_app (l : List Oper) (Q : Ts → Hp → Prop) (r : PT) (pd : List Pd) (T : Ts) (d : Option Nat) (v : Value) (H : Hp) : KTe P w0 l Q r pd T d v H = xt P w0 l Q r pd (upd T d v) H := propext Iff.rfl
def KTl (P : Program) (w0 : World) (l : List Oper) (Q : Ts → Hp → Prop) (r : PT) (pd : List Pd) (T : Ts) (d : Option Nat) (i : Nat) (o : Op) : Value → Hp → Prop := fun v H => xt P w0 l Q r (⟨i, o, T, v⟩ :: pd) (upd T d v) H
@[go_sem] theorem KTl_app (l : List Oper) (Q : Ts → Hp → Prop) (r : PT) (pd : List Pd) (T : Ts) (d : Option Nat) (i : Nat) (o : Op) (v : Value) (H : Hp) : KTl P w0 l Q r pd T d i o v H = xt P w0 l Q r (⟨i, o, T, v⟩ :: pd) (upd T d v) H := propext Iff.rfl
def KTd (P : Program) (w0 : World) (l : List Oper) (Q : Ts → Hp → Prop) (r : PT) (pd : List Pd) (T : Ts) (d : Option Nat) : Value → Hp → Prop := fun v H => pdOk P w0 H (xt P w0 l Q r pd (upd T d v) H) pd
@[go_sem] theorem KTd_app (l : List Oper) (Q : Ts → Hp → Prop) (r : PT) (pd : List Pd) (T : Ts) (d : Option Nat) (v : Value) (H : Hp) : KTd P w0 l Q r pd T d v H = pdZ P w0 H pd (Lz.mk (X := xt P w0 l Q r pd (upd T d v) H)) := propext Iff.rfl
/-- The operation of a step: done as it stands (e), or waited for (l). -/
def XT (P : Program) (w0 : World) (l : List Oper) (Q : Ts → Hp → Prop) (k : Nat) (i : Nat) (r : PT) (pd : List Pd) (T : Ts) (H : Hp) : Option Oper → Prop
  | none => False
  | some o => if wan o l.toArray T = true then xo P w0 o.op (ev T) H (match k with
    | 0 => KTe P w0 l Q r pd T o.dst
    | 1 => KTl P w0 l Q r pd T o.dst i o.op
    | _ => KTd P w0 l Q r pd T o.dst) else xt P w0 l Q r pd (upd T o.dst undef) H
def Both {X Y : Prop} (_ : Lz X) (_ : Lz Y) : Prop := X ∧ Y
theorem Both_intro {X Y : Prop} {x : Lz X} {y : Lz Y} (h1 : X) (h2 : Y) : Both x y := ⟨h1, h2⟩
@[go_sem] theorem xt_z (l : List Oper) (Q : Ts → Hp → Prop) (pd : List Pd) (T : Ts) (H : Hp) : xt P w0 l Q .z pd T H = Q T H := propext Iff.rfl
@[go_sem] theorem xt_q (l : List Oper) (Q : Ts → Hp → Prop) (i : Nat) (r : PT) (pd : List Pd) (T : Ts) (H : Hp) : xt P w0 l Q (.q i r) pd T H = XT P w0 l Q 0 i r pd T H (nth l i) := by
  simp only [xt, XT]
  cases nth l i <;> rfl
@[go_sem] theorem xt_l (l : List Oper) (Q : Ts → Hp → Prop) (i : Nat) (r : PT) (pd : List Pd) (T : Ts) (H : Hp) : xt P w0 l Q (.l i r) pd T H = XT P w0 l Q 1 i r pd T H (nth l i) := by
  simp only [xt, XT]
  cases nth l i <;> rfl
@[go_sem] theorem xt_e (l : List Oper) (Q : Ts → Hp → Prop) (i : Nat) (r : PT) (pd : List Pd) (T : Ts) (H : Hp) : xt P w0 l Q (.e i r) pd T H = XT P w0 l Q 2 i r pd T H (nth l i) := by
  simp only [xt, XT]
  cases nth l i <;> rfl
@[go_sem] theorem xt_d (l : List Oper) (Q : Ts → Hp → Prop) (i : Nat) (r : PT) (pd : List Pd) (T : Ts) (H : Hp) : xt P w0 l Q (.d i r) pd T H = xt P w0 l Q r (drp i pd) T H := propext Iff.rfl
@[go_sem] theorem xt_b (l : List Oper) (Q : Ts → Hp → Prop) (i j : Nat) (r s : PT) (pd : List Pd) (T : Ts) (H : Hp) : xt P w0 l Q (.b i r j s) pd T H = Both (Lz.mk (X := XT P w0 l Q 2 i r pd T H (nth l i))) (Lz.mk (X := XT P w0 l Q 2 j s pd T H (nth l j))) := by
  simp only [xt, XT, Both]
  cases nth l i <;> cases nth l j <;> rfl
@[go_sem] theorem XT_0 (l : List Oper) (Q : Ts → Hp → Prop) (i : Nat) (r : PT) (pd : List Pd) (T : Ts) (H : Hp) (d : Option Tmp) (op : Op) (ty : TypeId) (ps : String) (af : Array Edge) :
    XT P w0 l Q 0 i r pd T H (some { dst := d, op := op, type := ty, pos := ps, after := af, guard := none }) = Do P w0 op T H (Lk.mk (K := KTe P w0 l Q r pd T d)) := propext Iff.rfl
@[go_sem] theorem XT_0g (l : List Oper) (Q : Ts → Hp → Prop) (i : Nat) (r : PT) (pd : List Pd) (T : Ts) (H : Hp) (d : Option Tmp) (op : Op) (ty : TypeId) (ps : String) (af : Array Edge) (j : Nat) (b : Bool) :
    XT P w0 l Q 0 i r pd T H (some { dst := d, op := op, type := ty, pos := ps, after := af, guard := some (j, b) }) = Br (atB T b (dstAt l j)) (Lz.mk (X := Do P w0 op T H (Lk.mk (K := KTe P w0 l Q r pd T d)))) (Lz.mk (X := xt P w0 l Q r pd (upd T d undef) H)) := by
  show (if wan _ _ T = true then _ else _) = _
  rw [wan_guard]
  rfl
@[go_sem] theorem XT_1 (l : List Oper) (Q : Ts → Hp → Prop) (i : Nat) (r : PT) (pd : List Pd) (T : Ts) (H : Hp) (d : Option Tmp) (op : Op) (ty : TypeId) (ps : String) (af : Array Edge) :
    XT P w0 l Q 1 i r pd T H (some { dst := d, op := op, type := ty, pos := ps, after := af, guard := none }) = Do P w0 op T H (Lk.mk (K := KTl P w0 l Q r pd T d i op)) := propext Iff.rfl
@[go_sem] theorem XT_1g (l : List Oper) (Q : Ts → Hp → Prop) (i : Nat) (r : PT) (pd : List Pd) (T : Ts) (H : Hp) (d : Option Tmp) (op : Op) (ty : TypeId) (ps : String) (af : Array Edge) (j : Nat) (b : Bool) :
    XT P w0 l Q 1 i r pd T H (some { dst := d, op := op, type := ty, pos := ps, after := af, guard := some (j, b) }) = Br (atB T b (dstAt l j)) (Lz.mk (X := Do P w0 op T H (Lk.mk (K := KTl P w0 l Q r pd T d i op)))) (Lz.mk (X := xt P w0 l Q r pd (upd T d undef) H)) := by
  show (if wan _ _ T = true then _ else _) = _
  rw [wan_guard]
  rfl
@[go_sem] theorem XT_2 (l : List Oper) (Q : Ts → Hp → Prop) (i : Nat) (r : PT) (pd : List Pd) (T : Ts) (H : Hp) (d : Option Tmp) (op : Op) (ty : TypeId) (ps : String) (af : Array Edge) :
    XT P w0 l Q 2 i r pd T H (some { dst := d, op := op, type := ty, pos := ps, after := af, guard := none }) = Do P w0 op T H (Lk.mk (K := KTd P w0 l Q r pd T d)) := propext Iff.rfl
@[go_sem] theorem XT_2g (l : List Oper) (Q : Ts → Hp → Prop) (i : Nat) (r : PT) (pd : List Pd) (T : Ts) (H : Hp) (d : Option Tmp) (op : Op) (ty : TypeId) (ps : String) (af : Array Edge) (j : Nat) (b : Bool) :
    XT P w0 l Q 2 i r pd T H (some { dst := d, op := op, type := ty, pos := ps, after := af, guard := some (j, b) }) = Br (atB T b (dstAt l j)) (Lz.mk (X := Do P w0 op T H (Lk.mk (K := KTd P w0 l Q r pd T d)))) (Lz.mk (X := xt P w0 l Q r pd (upd T d undef) H)) := by
  show (if wan _ _ T = true then _ else _) = _
  rw [wan_guard]
  rfl
end
end Go.Proofs.YtcmflpdgfddmeaaDoorW.XM

namespace Go.Proofs.YtcmflpdgfddmeaaDoorW.FA
open Go.RowKit Go.Proofs.YtcmflpdgfddmeaaDoorW.XM Go.Proofs Go.Proofs.YtcmflpdgfddmeaaDoorW.XWords
set_option maxRecDepth 100000
set_option linter.unusedSimpArgs false
variable (w0 : World) (H : Hp)
end Go.Proofs.YtcmflpdgfddmeaaDoorW.FA

namespace Go.Proofs.YtcmflpdgfddmeaaDoorW.FA
open Go.RowKit Go.Proofs.YtcmflpdgfddmeaaDoorW.XM Go.Proofs Go.Proofs.YtcmflpdgfddmeaaDoorW.XWords
set_option maxRecDepth 100000
set_option linter.unusedSimpArgs false
variable (w0 : World) (H : Hp)
end Go.Proofs.YtcmflpdgfddmeaaDoorW.FA

namespace Go.Proofs.YtcmflpdgfddmeaaDoorW.XRA
open Go.ChangeShapes Go.WideShapes Go.ChangeAt Go.RowKit Go.Deep Go.Proofs.YtcmflpdgfddmeaaDoorW.XM
/-- Cells that read as a datum of type T are a value of a kind. -/
def ReadsA (P : Program) {α : Type} (enc : α → List Value) (T : TypeId) (Q : α → Prop) : Prop :=
  ∀ (H : Type) (en : TypeId × Value → H) (w : World) (base : Nat) (spare : Nat → Bool) (held : Bool) (fuel : Nat) (cs : List Value) (x : DataW H × List MemPlace),
    DataW.trod en P w base spare held fuel T cs = some x → ∃ v : α, cs = enc v ∧ Q v
section
variable {P : Program}
theorem ra_int {T : TypeId} {k : IntKind} (h : P.underlying T = some (.int k)) : ReadsA P (fun n : Int => [.int k n]) T (fun n => (Lit.int k n).wf = true) := by
  intro H enc w base spare held fuel cs x hx
  obtain ⟨n, rfl, _, hw⟩ := DataW.trod_int h hx
  exact ⟨n, rfl, hw⟩
theorem cells_eachA {w : World} {base : Nat} {a : Addr} {n : Nat} {cs : List Value} (h : w.cells? base a n = some cs) : cs.length = n ∧ ∀ i u, cs[i]? = some u → w.cell? (a.add i) = some u := by
  unfold World.cells? at h
  split at h
  · have hl : cs.length = n := by simpa using Lib.mapM_length h
    refine ⟨hl, fun i u hu => ?_⟩
    have hi : i < n := by
      have := (List.getElem?_eq_some_iff.1 hu).1
      omega
    obtain ⟨b, hb, hf⟩ := Lib.mapM_at h i i (by simp [hi])
    rw [hu] at hb
    cases hb
    exact hf
  · cases h
theorem rdRo_cells {w : World} {b : Nat} : ∀ (cs : List Value) (o : Nat), (∀ (j : Nat) (u : Value), cs[j]? = some u → w.cell? ⟨b, o + j, none⟩ = some u) → (∀ v ∈ cs, (plain v && v.oneCell') = true) → rdRo w b o cs.length = some cs
  | [], _, _, _ => rfl
  | c :: r, o, h1, h2 => by
    have h0 := h1 0 c rfl
    rw [Nat.add_zero] at h0
    simp only [List.length_cons, rdRo, h0, h2 c List.mem_cons_self, if_true]
    rw [rdRo_cells r (o + 1) (fun j u hj => by rw [show o + 1 + j = o + (j + 1) by omega]; exact h1 (j + 1) u (by simpa using hj)) (fun v hv => h2 v (List.mem_cons_of_mem _ hv))]
    rfl
theorem choose_ltA {α : Type} [Inhabited α] {n : Nat} {p : Nat → α → Prop} (h : ∀ i, i < n → ∃ v, p i v) : ∃ f : Nat → α, ∀ i, i < n → p i (f i) := by
  induction n with
  | zero => exact ⟨fun _ => default, fun i hi => by omega⟩
  | succ n ih =>
    obtain ⟨f, hf⟩ := ih fun i hi => h i (by omega)
    obtain ⟨v, hv⟩ := h n (by omega)
    refine ⟨fun i => if i = n then v else f i, fun i hi => ?_⟩
    by_cases e : i = n
    · subst e; simpa using hv
    · simp only [if_neg e]; exact hf i (by omega)
/-- A slice that reads as data: its rows. -/
theorem slice_readA {α : Type} [Inhabited α] {enc : α → List Value} {T e : TypeId} {Q : α → Prop} {sz : Nat} (hR : ReadsA P enc e Q) (hT : P.underlying T = some (.slice e)) (hc : P.cellsOf e = sz) (hz : ∀ a, (enc a).length = sz) (h0 : 0 < sz) (hp : ∀ a, ∀ v ∈ enc a, (plain v && v.oneCell') = true)
    {H : Type} {en : TypeId × Value → H} {w : World} {base : Nat} {spare : Nat → Bool} {held : Bool} {fuel : Nat} {u : Value} {x : DataW H × List MemPlace}
    (h : DataW.trod en P w base spare held fuel T [u] = some x) (hs : ∀ a n c, u = .slice (some a) n c → a.spot = none) :
    ∃ (A : Option Addr) (c : Nat) (l : List α), u = .slice A l.length c ∧ l.length ≤ c ∧ l.length ≤ maxLen ∧ (∀ v ∈ l, Q v) ∧ plain (.slice A l.length c) = true ∧ (A = none ∧ l = [] ∨ ∃ b o, A = some ⟨b, o, none⟩ ∧ rdRo w b o (l.length * sz) = some (flat enc l)) := by
  rcases open_slice hT h with ⟨hcs, _⟩ | ⟨a, len, cap, m, _, D, Pl, hcs, hb, hl, hm, hmm, _, hx⟩
  · obtain rfl : u = .slice none 0 0 := by simpa using hcs
    exact ⟨none, 0, [], rfl, Nat.le_refl _, Nat.zero_le _, fun v hv => (by cases hv), rfl, .inl ⟨rfl, rfl⟩⟩
  · obtain rfl : u = .slice (some a) len cap := by simpa using hcs
    have hsp := hs a len cap rfl
    obtain ⟨b, o, sp⟩ := a
    simp only at hsp
    subst hsp
    have hlm : len ≤ m := by rw [hmm]; split <;> omega
    obtain ⟨f, hf⟩ := choose_ltA (α := α) (n := len) (p := fun i v => Q v ∧ ∀ j c, (enc v)[j]? = some c → w.cell? ⟨b, o + i * sz + j, none⟩ = some c) (fun i hi => by
      obtain ⟨cs', h1, h2⟩ := hx i (by omega)
      obtain ⟨v, rfl, hQ⟩ := hR _ _ _ _ _ _ _ _ _ h2
      rw [hc] at h1
      obtain ⟨hlen, hcell⟩ := cells_eachA h1
      refine ⟨v, hQ, fun j c hj => ?_⟩
      have := hcell j c hj
      rw [Addr.add_add, add_at' _ _ rfl] at this
      rw [show o + i * sz + j = o + (i * sz + j) by omega]
      exact this)
    refine ⟨some ⟨b, o, none⟩, cap, (List.range len).map f, by simp, by simpa using hl, by simp; omega, fun v hv => ?_, rfl, .inr ⟨b, o, rfl, ?_⟩⟩
    · obtain ⟨i, hi, rfl⟩ := List.mem_map.1 hv
      exact (hf i (List.mem_range.1 hi)).1
    · have hL := flat_len hz ((List.range len).map f)
      rw [← hL]
      refine rdRo_cells _ o (fun q c hq => ?_) (fun v hv => ?_)
      · have hq' := lt_of_get hq
        rw [hL] at hq'
        simp only [List.length_map, List.length_range] at hq'
        have hi : q / sz < len := (Nat.div_lt_iff_lt_mul h0).2 hq'
        have hr : q % sz < sz := Nat.mod_lt _ h0
        have e1 : q = q / sz * sz + q % sz := by rw [Nat.mul_comm]; exact (Nat.div_add_mod q sz).symm
        have e2 := flat_row hz ((List.range len).map f) (i := q / sz) (by simpa using hi) (q % sz) 1 (by omega)
        rw [← e1] at e2
        have e3 : (flat enc ((List.range len).map f))[q]? = (((flat enc ((List.range len).map f)).drop q).take 1)[0]? := by
          rw [List.getElem?_take, if_pos (by omega), List.getElem?_drop, Nat.add_zero]
        rw [e3, e2, List.getElem?_take, if_pos (by omega), List.getElem?_drop, Nat.add_zero] at hq
        simp only [List.getElem_map, List.getElem_range] at hq
        have := (hf (q / sz) hi).2 (q % sz) c hq
        rw [show o + q / sz * sz + q % sz = o + q by omega] at this
        exact this
      · unfold flat at hv
        obtain ⟨r, hr, h2⟩ := List.mem_flatten.1 hv
        obtain ⟨a, _, rfl⟩ := List.mem_map.1 hr
        exact hp a v h2
/-- What the call's memory says of such a slice. -/
theorem sl_of {α : Type} {enc : α → List Value} {sz : Nat} (hz : ∀ a, (enc a).length = sz) {w : World} {A : Option Addr} {l : List α} (h : A = none ∧ l = [] ∨ ∃ b o, A = some ⟨b, o, none⟩ ∧ rdRo w b o (l.length * sz) = some (flat enc l)) (H : Hp) : Sl w H A sz (l.map enc) ∧ ∀ L c, src w (Hx H L) sz (.slice A l.length c) = some (l.length, flat enc l) := by
  rcases h with ⟨rfl, rfl⟩ | ⟨b, o, rfl, h⟩
  · exact ⟨.inl rfl, fun L c => rfl⟩
  · refine ⟨.inr ⟨b, o, none, rfl, fun i r hr f k hf => ?_⟩, fun L c => ?_⟩
    · have hi : i < l.length := by have := (List.getElem?_eq_some_iff.1 hr).1; simpa using this
      have hle : i * sz + sz ≤ l.length * sz := by rw [← Nat.succ_mul]; exact Nat.mul_le_mul_right _ hi
      have := rdRo_part (l.length * sz) b o (i * sz + f) k _ h (by omega)
      rw [List.getElem?_map, List.getElem?_eq_getElem hi] at hr
      cases hr
      show rdRo w b (o + i * sz + f) k = _
      rw [show o + i * sz + f = o + (i * sz + f) by omega, this, flat_row hz l hi f k hf]
    · rw [src_sl]
      show srcO _ (rdRo w b o (l.length * sz)) = _
      rw [h]
      rfl
end
end Go.Proofs.YtcmflpdgfddmeaaDoorW.XRA

namespace Go.Proofs.YtcmflpdgfddmeaaDoorW.FA
open Go.RowKit Go.ChangeShapes Go.WideShapes Go.ChangeAt Go.Deep Go.Proofs.YtcmflpdgfddmeaaDoorW.XM Go.Proofs Go.Proofs.YtcmflpdgfddmeaaDoorW.XWords Go.Proofs.YtcmflpdgfddmeaaDoorW.XRA
set_option maxRecDepth 100000
set_option linter.unusedVariables false
instance : Inhabited Mem := ⟨⟨em, em, 0⟩⟩
instance : Inhabited Rk := ⟨⟨em, 0⟩⟩
theorem list_3 {α : Type} : ∀ (l : List α), l.length = 3 → ∃ x0 x1 x2, l = [x0, x1, x2]
  | [x0, x1, x2], _ => ⟨x0, x1, x2, rfl⟩
end Go.Proofs.YtcmflpdgfddmeaaDoorW.FA

namespace Go.Proofs.YtcmflpdgfddmeaaDoorW.FA
open Go.RowKit Go.Proofs.YtcmflpdgfddmeaaDoorW.XM Go.Proofs Go.Proofs.YtcmflpdgfddmeaaDoorW.XWords
set_option maxRecDepth 100000
set_option linter.unusedSimpArgs false
variable (w0 : World) (H : Hp)
/-- Where a code lies. -/
structure Cd where
  A : Option Addr
  n : Nat
  c : Nat
def encB (b : UInt8) : List Value := [.int .u8 (b.toNat : Int)]
structure CdOk (w0 : World) (D : Cd) : Prop where
  ok : ∃ bs : List UInt8, bs.length = D.n ∧ ∀ H, Sl w0 H D.A 1 (bs.map encB)
  le : D.n ≤ 2000
  pl : plain (.slice D.A D.n D.c) = true
/-- A reader: its code, and how far it is. -/
def dr (D : Cd) (p : Nat) : Option Ob := some (.row 52 [.slice D.A D.n D.c, .int .i64 (p : Int)])
theorem byte_le (b : UInt8) : (b.toNat : Int) ≤ 255 := by have := b.toNat_lt; omega
theorem CdOk.at {D : Cd} (h : CdOk w0 D) {i : Nat} (hi : i < D.n) : ∃ b o sp, D.A = some ⟨b, o, sp⟩ ∧ ∃ x : Nat, x ≤ 255 ∧ ∀ L, rd w0 (Hx H L) ⟨b, o + i * 1, sp⟩ 1 = some [.int .u8 (x : Int)] := by
  obtain ⟨bs, hl, hs⟩ := h.ok
  obtain ⟨b, o, sp, e, _, hc⟩ := mcell (hs H) (i := i) (by omega)
  exact ⟨b, o, sp, e, bs[i].toNat, by have := byte_le bs[i]; omega, fun L => hc L rfl⟩
theorem xor_in (a b : Nat) (h1 : a < 4611686018427387904) (h2 : b < 4611686018427387904) : ∃ c : Nat, c < 4611686018427387904 ∧ IntKind.i64.wrap ((BitVec.ofInt 64 (a : Int) ^^^ BitVec.ofInt 64 (b : Int)).toNat : Int) = (c : Int) := by
  have hx : a ^^^ b < 2 ^ 62 := Nat.xor_lt_two_pow (by omega) (by omega)
  have e1 : (BitVec.ofInt 64 (a : Int)).toNat = a := by
    rw [BitVec.ofInt_natCast, BitVec.toNat_ofNat]; exact Nat.mod_eq_of_lt (by omega)
  have e2 : (BitVec.ofInt 64 (b : Int)).toNat = b := by
    rw [BitVec.ofInt_natCast, BitVec.toNat_ofNat]; exact Nat.mod_eq_of_lt (by omega)
  refine ⟨a ^^^ b, by omega, ?_⟩
  rw [BitVec.toNat_xor, e1, e2]
  exact wrap_i64 (by omega) (by omega)
theorem tmod_nat (a n : Nat) : (a : Int).tmod (n : Int) = ((a % n : Nat) : Int) := by
  rw [Int.tmod_eq_emod_of_nonneg (by omega)]; simp
theorem tdiv_nat (a n : Nat) : (a : Int).tdiv (n : Int) = ((a / n : Nat) : Int) := by
  rw [Int.tdiv_eq_ediv_of_nonneg (by omega)]; simp
theorem pick_ok (D : Cd) (hD : CdOk w0 D) (B : Hp) (l : List (Option Ob)) (q p : Nat) (n : Int) (hq : l[q]? = some (dr D p)) (hp : p ≤ 1000000) :
    AFn Tryd.prog w0 12 #[.pointer (some ⟨nid B q, 0, some 2⟩), .int .i64 n] (Hx B l) fun v H2 => ∃ k : Nat, v = .int .i64 (k : Int) ∧ (1 ≤ n → (k : Int) < n) ∧ (n < 1 → k = 0) ∧ H2 = Hx B (l.set q (dr D (p + 1))) := by
  refine AFn_of Tryd.func12 rfl (by kernel_rfl) ?_
  have r := Tryd.results12
  have hlq : q < l.length := lt_of_get hq
  have gs : ∀ X : Option Ob, (l.set q X)[q]? = some X := fun X => by rw [List.getElem?_set_self hlq]
  have w1 : IntKind.i64.wrap ((p : Int) + 1) = ((p + 1 : Nat) : Int) := by rw [wrap_i64 (by omega) (by omega)]; omega
  have w2 : IntKind.i64.wrap (((p + 1 : Nat) : Int) - 1) = (p : Int) := by rw [wrap_i64 (by omega) (by omega)]; omega
  have hle := hD.le
  unfold dr at hq ⊢
  simp only [go_sem, cond, Nat.reduceAdd, Nat.reduceLeDiff, Nat.reduceEqDiff, Nat.reduceBEq, decide_true, decide_false, Int.toNat_natCast, r, hq, gs, w1]
  by_cases hn : n < 1
  · have d1 : (n < 1) = True := eq_true hn
    simp only [go_sem, cond, Nat.reduceAdd, Nat.reduceLeDiff, Nat.reduceEqDiff, Nat.reduceBEq, decide_true, decide_false, Int.toNat_natCast, r, hq, gs, w1, d1]
    exact ⟨0, rfl, fun h => by omega, fun _ => rfl⟩
  have d1 : (n < 1) = False := eq_false hn
  by_cases hz : D.n = 0
  · have d2 : (((D.n : Nat) : Int) == 0) = true := by rw [hz]; rfl
    simp only [go_sem, cond, Nat.reduceAdd, Nat.reduceLeDiff, Nat.reduceEqDiff, Nat.reduceBEq, decide_true, decide_false, Int.toNat_natCast, r, hq, gs, w1, d1, d2]
    exact ⟨0, rfl, fun h => by omega, fun _ => rfl⟩
  have d2 : (((D.n : Nat) : Int) == 0) = false := by rw [beq_eq_false_iff_ne]; omega
  have hrem : ∀ (t : TypeId) (c : Bool) (x : Int), xBin Tryd.prog .rem t c (.int .i64 x) (.int .i64 n) = some (.int .i64 (x.tmod n)) := fun t c x => bin_rem t c _ x n (by omega)
  obtain ⟨N, rfl⟩ : ∃ N : Nat, n = (N : Int) := ⟨n.toNat, by omega⟩
  have hN : 1 ≤ N := by omega
  by_cases hlt : p < D.n
  · have d3 : ((p : Int) < (D.n : Int)) = True := eq_true (by omega)
    have d4 : ((0 : Int) ≤ (p : Int)) = True := eq_true (by omega)
    obtain ⟨b, o, sp, hA, x, hx, hc⟩ := hD.at w0 B hlt
    have w3 : IntKind.i64.wrap (x : Int) = (x : Int) := wrap_i64 (by omega) (by omega)
    simp only [go_sem, cond, Nat.reduceAdd, Nat.reduceLeDiff, Nat.reduceEqDiff, Nat.reduceBEq, decide_true, decide_false, Int.toNat_natCast, r, hq, gs, w1, w2, d1, d2, d3, d4, hA, hc, w3, hrem, tmod_nat]
    exact ⟨x % N, rfl, fun _ => by have := Nat.mod_lt x hN; omega, fun h => h.elim⟩
  · have d3 : ((p : Int) < (D.n : Int)) = False := eq_false (by omega)
    have hremL : ∀ (t : TypeId) (c : Bool) (x : Int), xBin Tryd.prog .rem t c (.int .i64 x) (.int .i64 (D.n : Int)) = some (.int .i64 (x.tmod (D.n : Int))) := fun t c x => bin_rem t c _ x _ (by omega)
    obtain ⟨t3, e3⟩ : ∃ t, t = p / D.n := ⟨_, rfl⟩
    have m3 : t3 ≤ p := e3 ▸ Nat.div_le_self _ _
    have hquoL : ∀ (t : TypeId) (c : Bool), xBin Tryd.prog .quo t c (.int .i64 (p : Int)) (.int .i64 (D.n : Int)) = some (.int .i64 (t3 : Int)) := fun t c => by rw [bin_quo t c _ _ _ (by omega), tdiv_nat, ← e3, wrap_i64 (by omega) (by omega)]
    have m1 : p % D.n < D.n := Nat.mod_lt _ (by omega)
    have m2 : (p * 7 + 3) % D.n < D.n := Nat.mod_lt _ (by omega)
    obtain ⟨b, o, sp, hA, x, hx, hc⟩ := hD.at w0 B m1
    obtain ⟨b2, o2, sp2, hA2, y, hy, hc2⟩ := hD.at w0 B m2
    rw [hA] at hA2
    cases hA2
    have d4 : (((p % D.n : Nat) : Int) < (D.n : Int)) = True := eq_true (by omega)
    have d5 : ((0 : Int) ≤ ((p % D.n : Nat) : Int)) = True := eq_true (by omega)
    have d6 : ((((p * 7 + 3) % D.n : Nat) : Int) < (D.n : Int)) = True := eq_true (by omega)
    have d7 : ((0 : Int) ≤ (((p * 7 + 3) % D.n : Nat) : Int)) = True := eq_true (by omega)
    have w3 : IntKind.i64.wrap (x : Int) = (x : Int) := wrap_i64 (by omega) (by omega)
    have w4 : IntKind.i64.wrap (y : Int) = (y : Int) := wrap_i64 (by omega) (by omega)
    have w5 : IntKind.i64.wrap ((x : Int) * 131) = ((x * 131 : Nat) : Int) := by rw [wrap_i64 (by omega) (by omega)]; omega
    have w6 : IntKind.i64.wrap ((y : Int) * 1117) = ((y * 1117 : Nat) : Int) := by rw [wrap_i64 (by omega) (by omega)]; omega
    have w7 : IntKind.i64.wrap ((p : Int) * 7) = ((p * 7 : Nat) : Int) := by rw [wrap_i64 (by omega) (by omega)]; omega
    have w8 : IntKind.i64.wrap (((p * 7 : Nat) : Int) + 3) = ((p * 7 + 3 : Nat) : Int) := by rw [wrap_i64 (by omega) (by omega)]; omega
    have w9 : IntKind.i64.wrap (((x * 131 : Nat) : Int) + ((y * 1117 : Nat) : Int)) = ((x * 131 + y * 1117 : Nat) : Int) := by rw [wrap_i64 (by omega) (by omega)]; omega
    have w10 : IntKind.i64.wrap ((p : Int) * 29) = ((p * 29 : Nat) : Int) := by rw [wrap_i64 (by omega) (by omega)]; omega
    have w11 : IntKind.i64.wrap (((x * 131 + y * 1117 : Nat) : Int) + ((p * 29 : Nat) : Int)) = ((x * 131 + y * 1117 + p * 29 : Nat) : Int) := by rw [wrap_i64 (by omega) (by omega)]; omega
    have w13 : IntKind.i64.wrap ((t3 : Int) * 53) = ((t3 * 53 : Nat) : Int) := by rw [wrap_i64 (by omega) (by omega)]; omega
    have w14 : IntKind.i64.wrap (((x * 131 + y * 1117 + p * 29 : Nat) : Int) + ((t3 * 53 : Nat) : Int)) = ((x * 131 + y * 1117 + p * 29 + t3 * 53 : Nat) : Int) := by rw [wrap_i64 (by omega) (by omega)]; omega
    have hzl : x * 131 + y * 1117 + p * 29 + t3 * 53 < 4611686018427387904 := by omega
    simp only [go_sem, cond, Nat.reduceAdd, Nat.reduceLeDiff, Nat.reduceEqDiff, Nat.reduceBEq, decide_true, decide_false, Int.toNat_natCast, r, hq, gs, w1, w2, d1, d2, d3]
    (refine xw_open (id := 7) [0, 1, 3, 7, 0, 0, 32, 96, 224, 480, 1008, 2047, 4095, 8191, 16383, 0, 32768, 98304, 229376, 0, 524288, 1572864, 0, 4194304, 12582912, 29360128, 62914560, 133693440, 268402688, 536838144, 1073709056, 2147450880, 4294967295, 0, 8589934592, 34359738367, 0, 0, 137438953472, 412316860416, 962072674304, 2061584302080, 4329327034368, 8727373545472, 17592186044415, 35184372088831] [.q 0, .q 1, .q 2, .q 4, .q 5, .q 6, .q 7, .q 15, .q 16, .q 17, .q 19, .q 20, .q 21, .q 22, .q 23, .q 24, .q 33, .q 34, .q 36, .q 37, .q 38, .q 39, .q 3, .q 8, .q 9, .q 10, .q 11, .q 12, .q 13, .q 14, .q 18, .q 25, .q 26, .q 27, .q 28, .q 29, .q 30, .q 31, .q 32, .q 35, .q 40, .q 41, .q 42, .q 43, .q 44, .q 45] rfl (by kernel_rfl) ?_; simp only [go_sem, cond, Nat.reduceAdd, Nat.reduceLeDiff, Nat.reduceEqDiff, Nat.reduceBEq, decide_true, decide_false, Int.toNat_natCast, r, hq, gs, w1, w2, d1, d2, d3, d4, d5, d6, d7, hA, hc, hc2, hremL, hquoL, tmod_nat, w3, w4, w5, w6, w7, w8, w9, w10, w11, w13, w14])
    generalize x * 131 + y * 1117 + p * 29 + t3 * 53 = z at *
    have hq64 : ∀ (t : TypeId) (c : Bool), xBin Tryd.prog .quo t c (.int .i64 (z : Int)) (.int .i64 64) = some (.int .i64 ((z / 64 : Nat) : Int)) := fun t c => by
      rw [bin_quo t c _ _ _ (by omega), show (64 : Int) = ((64 : Nat) : Int) from rfl, tdiv_nat]
      rw [wrap_i64 (by omega) (by omega)]
    obtain ⟨u, hu, he⟩ := xor_in z (z / 64) hzl (by omega)
    have he2 : IntKind.i64.wrap ((BitVec.ofInt IntKind.i64.bits (z : Int) ^^^ BitVec.ofInt IntKind.i64.bits ((z / 64 : Nat) : Int)).toNat : Int) = (u : Int) := he
    simp only [go_sem, cond, Nat.reduceAdd, Nat.reduceLeDiff, Nat.reduceEqDiff, Nat.reduceBEq, decide_true, decide_false, Int.toNat_natCast, r, hq, gs, hrem, hq64, he, he2, tmod_nat]
    refine ⟨u % N, ?_, fun _ => by have := Nat.mod_lt u hN; omega, fun h => h.elim⟩
    have he3 := tmod_nat u N
    rw [← he] at he3
    rw [← he3]
    rfl
end Go.Proofs.YtcmflpdgfddmeaaDoorW.FA

namespace Go.Proofs.YtcmflpdgfddmeaaDoorW.FA
open Go.RowKit Go.Proofs.YtcmflpdgfddmeaaDoorW.XM Go.Proofs Go.Proofs.YtcmflpdgfddmeaaDoorW.XWords
set_option maxRecDepth 100000
set_option linter.unusedSimpArgs false
variable (w0 : World) (H : Hp)
/-- A short text. -/
def isS : Value → Bool
  | .string s => decide (s.size ≤ 100)
  | _ => false
/-- A small number. -/
def isI : Value → Bool
  | .int .i64 k => decide (-100000 ≤ k) && decide (k ≤ 100000)
  | _ => false
theorem isI_spec {v : Value} (h : isI v = true) : ∃ k : Int, v = .int .i64 k ∧ -100000 ≤ k ∧ k ≤ 100000 := by
  unfold isI at h
  split at h
  · simp only [Bool.and_eq_true, decide_eq_true_eq] at h
    exact ⟨_, rfl, h⟩
  · cases h
/-- The names that are drawn. -/
def nmL : List (List UInt8) := [[], [88], [97, 110, 110], [98, 111, 98], [99, 121, 100], [100, 97, 110], [122, 101, 100]]
def nmB (s : ByteArray) : Bool := nmL.contains s.data.toList
def nmS (s : ByteArray) : Bool := decide (s.size ≤ 100) && nmB s
def isSP (p : ByteArray → Bool) : Value → Bool
  | .string s => p s
  | _ => false
theorem isSP_spec {p : ByteArray → Bool} {v : Value} (h : isSP p v = true) : ∃ s : ByteArray, v = .string s ∧ p s = true := by
  unfold isSP at h
  split at h
  · exact ⟨_, rfl, h⟩
  · cases h
theorem isS_P : isS = isSP (fun s => decide (s.size ≤ 100)) := by
  funext v
  cases v <;> rfl
theorem nmS_spec {s : ByteArray} (h : nmS s = true) : s.size ≤ 100 ∧ nmB s = true := by
  simpa only [nmS, Bool.and_eq_true, decide_eq_true_eq] using h
theorem of_okP (p0 : ByteArray → Bool) (D : Cd) (hD : CdOk w0 D) (B : Hp) (l : List (Option Ob)) (q p j n tag : Nat) (cs : List Value) (hq : l[q]? = some (dr D p)) (hp : p ≤ 1000000) (hj : l[j]? = some (some (.row 9 cs))) (hn : cs.length = n) (ht : tag = n) (h1 : 1 ≤ n) (h2 : n ≤ 100) (hs : cs.all (isSP p0) = true) :
    AFn Tryd.prog w0 31 #[.pointer (some ⟨nid B q, 0, some 2⟩), .slice (some ⟨nid B j, 0, some tag⟩) n n] (Hx B l) fun v H2 => ∃ s : ByteArray, p0 s = true ∧ v = .string s ∧ H2 = Hx B (l.set q (dr D (p + 1))) := by
  subst ht
  have hlq : q < l.length := lt_of_get hq
  have hjq : q ≠ j := by
    intro e
    subst e
    rw [hq] at hj
    simp [dr] at hj
  refine AFn_of Tryd.func31 rfl (by kernel_rfl) ?_
  have r := Tryd.results31
  simp only [go_sem, cond, Nat.reduceAdd, Nat.reduceLeDiff, Nat.reduceEqDiff, Nat.reduceBEq, decide_true, decide_false, Int.toNat_natCast, r]
  refine call (pick_ok w0 D hD B l q p (tag : Int) hq hp) ?_
  rintro v H2 ⟨k, rfl, k1, _, rfl⟩
  have hk : k < tag := by have := k1 (by omega); omega
  have d1 : ((0 : Int) ≤ (k : Int)) = True := eq_true (by omega)
  have d2 : ((k : Int) < (tag : Int)) = True := eq_true (by omega)
  obtain ⟨s, e, hs2⟩ := isSP_spec (List.all_eq_true.1 hs _ (List.getElem_mem (show k < cs.length by omega)))
  have c0 : rdO ((l.set q (dr D (p + 1)))[j]?) (k * 1) tag 1 = some [.string s] := by
    rw [List.getElem?_set_ne hjq, hj, rdO_row, if_pos ⟨hn, by omega⟩, Nat.mul_one, List.drop_eq_getElem_cons (show k < cs.length by omega), e]
    rfl
  simp only [go_sem, cond, Nat.reduceAdd, Nat.reduceLeDiff, Nat.reduceEqDiff, Nat.reduceBEq, decide_true, decide_false, Int.toNat_natCast, r, d1, d2, c0]
  exact ⟨s, hs2, rfl⟩
theorem of_ok (D : Cd) (hD : CdOk w0 D) (B : Hp) (l : List (Option Ob)) (q p j n tag : Nat) (cs : List Value) (hq : l[q]? = some (dr D p)) (hp : p ≤ 1000000) (hj : l[j]? = some (some (.row 9 cs))) (hn : cs.length = n) (ht : tag = n) (h1 : 1 ≤ n) (h2 : n ≤ 100) (hs : cs.all isS = true) :
    AFn Tryd.prog w0 31 #[.pointer (some ⟨nid B q, 0, some 2⟩), .slice (some ⟨nid B j, 0, some tag⟩) n n] (Hx B l) fun v H2 => ∃ s : ByteArray, s.size ≤ 100 ∧ v = .string s ∧ H2 = Hx B (l.set q (dr D (p + 1))) := by
  rw [isS_P] at hs
  refine (of_okP w0 (fun s => decide (s.size ≤ 100)) D hD B l q p j n tag cs hq hp hj hn ht h1 h2 hs).mono ?_
  rintro v H2 ⟨s, a, b, c⟩
  exact ⟨s, of_decide_eq_true a, b, c⟩
theorem one_ok (D : Cd) (hD : CdOk w0 D) (B : Hp) (l : List (Option Ob)) (q p j n tag : Nat) (cs : List Value) (hq : l[q]? = some (dr D p)) (hp : p ≤ 1000000) (hj : l[j]? = some (some (.row 3 cs))) (hn : cs.length = n) (ht : tag = n) (h1 : 1 ≤ n) (h2 : n ≤ 100) (hs : cs.all isI = true) :
    AFn Tryd.prog w0 14 #[.pointer (some ⟨nid B q, 0, some 2⟩), .slice (some ⟨nid B j, 0, some tag⟩) n n] (Hx B l) fun v H2 => ∃ s : Int, -100000 ≤ s ∧ s ≤ 100000 ∧ .int .i64 s ∈ cs ∧ v = .int .i64 s ∧ H2 = Hx B (l.set q (dr D (p + 1))) := by
  subst ht
  have hlq : q < l.length := lt_of_get hq
  have hjq : q ≠ j := by
    intro e
    subst e
    rw [hq] at hj
    simp [dr] at hj
  refine AFn_of Tryd.func14 rfl (by kernel_rfl) ?_
  have r := Tryd.results14
  simp only [go_sem, cond, Nat.reduceAdd, Nat.reduceLeDiff, Nat.reduceEqDiff, Nat.reduceBEq, decide_true, decide_false, Int.toNat_natCast, r]
  refine call (pick_ok w0 D hD B l q p (tag : Int) hq hp) ?_
  rintro v H2 ⟨k, rfl, k1, _, rfl⟩
  have hk : k < tag := by have := k1 (by omega); omega
  have d1 : ((0 : Int) ≤ (k : Int)) = True := eq_true (by omega)
  have d2 : ((k : Int) < (tag : Int)) = True := eq_true (by omega)
  have hmem := List.getElem_mem (show k < cs.length by omega)
  obtain ⟨s, e, hs2, hs3⟩ := isI_spec (List.all_eq_true.1 hs _ hmem)
  have c0 : rdO ((l.set q (dr D (p + 1)))[j]?) (k * 1) tag 1 = some [.int .i64 s] := by
    rw [List.getElem?_set_ne hjq, hj, rdO_row, if_pos ⟨hn, by omega⟩, Nat.mul_one, List.drop_eq_getElem_cons (show k < cs.length by omega), e]
    rfl
  simp only [go_sem, cond, Nat.reduceAdd, Nat.reduceLeDiff, Nat.reduceEqDiff, Nat.reduceBEq, decide_true, decide_false, Int.toNat_natCast, r, d1, d2, c0]
  exact ⟨s, hs2, hs3, e ▸ hmem, rfl⟩
/-- What a draw leaves: the reader further on, all else as it was. -/
theorem AFn.dr {P : Program} {w0 : World} {f : FuncId} {args : Array Value} {B : Hp} {l : List (Option Ob)} {q : Nat} {D : Cd} {R : Value → Nat → Prop} (hD : CdOk w0 D) (hlq : q < l.length)
    (h : AFn P w0 f args (Hx B l) fun v H2 => ∃ p' g, H2 = Hx B (l.set q (dr D p') ++ g) ∧ R v p' ∧ ∀ ρ, ren3 ρ v = some v) : AFn P w0 f args (Hx B l) fun v H2 => ∃ p', H2 = Hx B (l.set q (FA.dr D p')) ∧ R v p' := by
  refine AFn.pack (h.mono ?_)
  rintro v H2 ⟨p', g, rfl, hR, hv⟩
  refine ⟨Hx B (l.set q (FA.dr D p')), g, [], v, by rw [Hx_Hx], by simp [Hx], ?_, by simp, List.nodup_nil, hv _, ⟨p', by simp [pick, Hx], hR⟩⟩
  intro i o ho
  unfold Hx at ho ⊢
  rw [List.getElem?_append] at ho ⊢
  split at ho
  · rename_i hlt; rw [if_pos hlt]; exact .inl ho
  · rename_i hlt
    rw [if_neg hlt]
    rw [List.getElem?_set] at ho
    split at ho
    · cases ho
      refine .inr ⟨_, _, rfl, fun v hv => ?_⟩
      simp only [List.mem_cons, List.not_mem_nil, or_false] at hv
      rcases hv with rfl | rfl
      · have := hD.pl
        cases hA : D.A with
        | none => rfl
        | some a =>
          rw [hA] at this
          obtain ⟨b, o, sp⟩ := a
          cases sp with
          | none => rfl
          | some t => simp [plain] at this
      · rfl
    · exact .inl ho
/-- Lists with a reader in them, and what is behind. -/
theorem dset {l : List (Option Ob)} {q : Nat} (h : q < l.length) : (∀ X Y L, (l.set q X ++ L).set q Y = l.set q Y ++ L) ∧ (∀ X L, (l.set q X ++ L)[q]? = some X) ∧ (∀ X L i, (l.set q X ++ L)[l.length + i]? = L[i]?) ∧ (∀ X L, (l.set q X ++ L)[l.length]? = L[0]?) ∧ (∀ X Y L i, (l.set q X ++ L).set (l.length + i) Y = l.set q X ++ L.set i Y) ∧ (∀ X Y L, (l.set q X ++ L).set l.length Y = l.set q X ++ L.set 0 Y) := by
  refine ⟨fun X Y L => ?_, fun X L => ?_, fun X L i => ?_, fun X L => ?_, fun X Y L i => ?_, fun X Y L => ?_⟩
  · rw [List.set_append_left _ _ (by simpa using h), List.set_set]
  · rw [List.getElem?_append_left (by simpa using h), List.getElem?_set_self h]
  · rw [List.getElem?_append_right (by simp)]; simp
  · rw [List.getElem?_append_right (by simp)]; simp
  · rw [List.set_append_right _ _ (by simp)]; simp
  · rw [List.set_append_right _ _ (by simp)]; simp
theorem set_same {l : List (Option Ob)} {q : Nat} {x : Option Ob} (h : l[q]? = some x) : l = l.set q x ++ [] := by
  rw [List.append_nil]
  apply List.ext_getElem?
  intro i
  rw [List.getElem?_set]
  split
  · rename_i e
    subst e
    rw [if_pos (lt_of_get h)]
    exact h
  · rfl
/-- A draw of a short text. -/
def DrS (w0 : World) (f : FuncId) (c N : Nat) : Prop := ∀ (D : Cd) (B : Hp) (l : List (Option Ob)) (q p : Nat), CdOk w0 D → l[q]? = some (dr D p) → p ≤ 900000 → AFn Tryd.prog w0 f #[.pointer (some ⟨nid B q, 0, some 2⟩)] (Hx B l) fun v H2 => ∃ p', H2 = Hx B (l.set q (dr D p')) ∧ p ≤ p' ∧ p' ≤ p + c ∧ ∃ s : ByteArray, s.size ≤ N ∧ v = .string s

theorem l16Text_ok : DrS w0 50 1 100 := by
  intro D B l q p hD hq hp
  have hlq := lt_of_get hq
  refine AFn.dr (R := fun v p' => p ≤ p' ∧ p' ≤ p + 1 ∧ ∃ s : ByteArray, s.size ≤ 100 ∧ v = .string s) hD hlq ?_
  obtain ⟨sA, gQ, gR, gR0, sR, sR0⟩ := dset hlq
  rw [set_same hq]
  refine AFn_of Tryd.func50 rfl (by kernel_rfl) ?_
  have r := Tryd.results50
  simp only [go_sem, cond, Nat.reduceAdd, Nat.reduceLeDiff, Nat.reduceEqDiff, Nat.reduceBEq, decide_true, decide_false, Int.toNat_natCast, r, List.append_assoc, List.length_append, List.length_set]
  refine bsV_dense ⟨_, XF.zer_9, rfl⟩ rfl rfl (by decide) rfl ?_
  simp only [go_sem, cond, Nat.reduceAdd, Nat.reduceLeDiff, Nat.reduceEqDiff, Nat.reduceBEq, decide_true, decide_false, Int.toNat_natCast, r, List.append_assoc, List.length_append, List.length_set]
  refine call (of_ok w0 D hD B _ q p _ _ _ _ (gQ _ _) (by omega) (gR0 _ _) rfl rfl (by decide) (by decide) (by decide)) ?_
  rintro v H2 ⟨s, hs, rfl, rfl⟩
  simp only [go_sem, cond, Nat.reduceAdd, Nat.reduceLeDiff, Nat.reduceEqDiff, Nat.reduceBEq, decide_true, decide_false, Int.toNat_natCast, r, sA, List.set_set]
  exact ⟨p + 1, _, rfl, ⟨by omega, by omega, s, by omega, rfl⟩, fun ρ => rfl⟩
/-- A draw of a name. -/
def DrN (w0 : World) (f : FuncId) (c : Nat) : Prop := ∀ (D : Cd) (B : Hp) (l : List (Option Ob)) (q p : Nat), CdOk w0 D → l[q]? = some (dr D p) → p ≤ 900000 → AFn Tryd.prog w0 f #[.pointer (some ⟨nid B q, 0, some 2⟩)] (Hx B l) fun v H2 => ∃ p', H2 = Hx B (l.set q (dr D p')) ∧ p ≤ p' ∧ p' ≤ p + c ∧ ∃ s : ByteArray, (s.size ≤ 100 ∧ nmB s = true) ∧ v = .string s
theorem l16User_nm : DrN w0 15 1 := by
  intro D B l q p hD hq hp
  have hlq := lt_of_get hq
  refine AFn.dr (R := fun v p' => p ≤ p' ∧ p' ≤ p + 1 ∧ ∃ s : ByteArray, (s.size ≤ 100 ∧ nmB s = true) ∧ v = .string s) hD hlq ?_
  obtain ⟨sA, gQ, gR, gR0, sR, sR0⟩ := dset hlq
  rw [set_same hq]
  refine AFn_of Tryd.func15 rfl (by kernel_rfl) ?_
  have r := Tryd.results15
  simp only [go_sem, cond, Nat.reduceAdd, Nat.reduceLeDiff, Nat.reduceEqDiff, Nat.reduceBEq, decide_true, decide_false, Int.toNat_natCast, r, List.append_assoc, List.length_append, List.length_set]
  refine bsV_dense ⟨_, XF.zer_9, rfl⟩ rfl rfl (by decide) rfl ?_
  simp only [go_sem, cond, Nat.reduceAdd, Nat.reduceLeDiff, Nat.reduceEqDiff, Nat.reduceBEq, decide_true, decide_false, Int.toNat_natCast, r, List.append_assoc, List.length_append, List.length_set]
  refine call (of_okP w0 nmS D hD B _ q p _ _ _ _ (gQ _ _) (by omega) (gR0 _ _) rfl rfl (by decide) (by decide) (by decide)) ?_
  rintro v H2 ⟨s, hs, rfl, rfl⟩
  simp only [go_sem, cond, Nat.reduceAdd, Nat.reduceLeDiff, Nat.reduceEqDiff, Nat.reduceBEq, decide_true, decide_false, Int.toNat_natCast, r, sA, List.set_set]
  exact ⟨p + 1, _, rfl, ⟨by omega, by omega, s, nmS_spec hs, rfl⟩, fun ρ => rfl⟩
theorem l16User_ok : DrS w0 15 1 100 := by
  intro D B l q p hD hq hp
  refine (l16User_nm w0 D B l q p hD hq hp).mono ?_
  rintro v H2 ⟨p', a, b, c, s, ⟨d, -⟩, e⟩
  exact ⟨p', a, b, c, s, d, e⟩
theorem l16Nick_ok : DrS w0 30 1 100 := by
  intro D B l q p hD hq hp
  have hlq := lt_of_get hq
  refine AFn.dr (R := fun v p' => p ≤ p' ∧ p' ≤ p + 1 ∧ ∃ s : ByteArray, s.size ≤ 100 ∧ v = .string s) hD hlq ?_
  obtain ⟨sA, gQ, gR, gR0, sR, sR0⟩ := dset hlq
  rw [set_same hq]
  refine AFn_of Tryd.func30 rfl (by kernel_rfl) ?_
  have r := Tryd.results30
  simp only [go_sem, cond, Nat.reduceAdd, Nat.reduceLeDiff, Nat.reduceEqDiff, Nat.reduceBEq, decide_true, decide_false, Int.toNat_natCast, r, List.append_assoc, List.length_append, List.length_set]
  refine bsV_dense ⟨_, XF.zer_9, rfl⟩ rfl rfl (by decide) rfl ?_
  simp only [go_sem, cond, Nat.reduceAdd, Nat.reduceLeDiff, Nat.reduceEqDiff, Nat.reduceBEq, decide_true, decide_false, Int.toNat_natCast, r, List.append_assoc, List.length_append, List.length_set]
  refine call (of_ok w0 D hD B _ q p _ _ _ _ (gQ _ _) (by omega) (gR0 _ _) rfl rfl (by decide) (by decide) (by decide)) ?_
  rintro v H2 ⟨s, hs, rfl, rfl⟩
  simp only [go_sem, cond, Nat.reduceAdd, Nat.reduceLeDiff, Nat.reduceEqDiff, Nat.reduceBEq, decide_true, decide_false, Int.toNat_natCast, r, sA, List.set_set]
  exact ⟨p + 1, _, rfl, ⟨by omega, by omega, s, by omega, rfl⟩, fun ρ => rfl⟩
theorem l16Room_ok : DrS w0 29 1 100 := by
  intro D B l q p hD hq hp
  have hlq := lt_of_get hq
  refine AFn.dr (R := fun v p' => p ≤ p' ∧ p' ≤ p + 1 ∧ ∃ s : ByteArray, s.size ≤ 100 ∧ v = .string s) hD hlq ?_
  obtain ⟨sA, gQ, gR, gR0, sR, sR0⟩ := dset hlq
  rw [set_same hq]
  refine AFn_of Tryd.func29 rfl (by kernel_rfl) ?_
  have r := Tryd.results29
  simp only [go_sem, cond, Nat.reduceAdd, Nat.reduceLeDiff, Nat.reduceEqDiff, Nat.reduceBEq, decide_true, decide_false, Int.toNat_natCast, r, List.append_assoc, List.length_append, List.length_set]
  refine bsV_dense ⟨_, XF.zer_9, rfl⟩ rfl rfl (by decide) rfl ?_
  simp only [go_sem, cond, Nat.reduceAdd, Nat.reduceLeDiff, Nat.reduceEqDiff, Nat.reduceBEq, decide_true, decide_false, Int.toNat_natCast, r, List.append_assoc, List.length_append, List.length_set]
  refine call (of_ok w0 D hD B _ q p _ _ _ _ (gQ _ _) (by omega) (gR0 _ _) rfl rfl (by decide) (by decide) (by decide)) ?_
  rintro v H2 ⟨s, hs, rfl, rfl⟩
  simp only [go_sem, cond, Nat.reduceAdd, Nat.reduceLeDiff, Nat.reduceEqDiff, Nat.reduceBEq, decide_true, decide_false, Int.toNat_natCast, r, sA, List.set_set]
  exact ⟨p + 1, _, rfl, ⟨by omega, by omega, s, by omega, rfl⟩, fun ρ => rfl⟩
theorem l16Any_ok : DrS w0 33 2 200 := by
  intro D B l q p hD hq hp
  have hlq := lt_of_get hq
  refine AFn.dr (R := fun v p' => p ≤ p' ∧ p' ≤ p + 2 ∧ ∃ s : ByteArray, s.size ≤ 200 ∧ v = .string s) hD hlq ?_
  obtain ⟨sA, gQ, gR, gR0, sR, sR0⟩ := dset hlq
  have gs : ∀ X : Option Ob, (l.set q X)[q]? = some X := fun X => by rw [List.getElem?_set_self hlq]
  rw [set_same hq]
  refine AFn_of Tryd.func33 rfl (by kernel_rfl) ?_
  have r := Tryd.results33
  simp only [go_sem, cond, Nat.reduceAdd, Nat.reduceLeDiff, Nat.reduceEqDiff, Nat.reduceBEq, decide_true, decide_false, Int.toNat_natCast, r, List.append_assoc, List.length_append, List.length_set]
  refine call (l16Text_ok w0 D B _ q p hD (gs _) hp) ?_
  rintro v H2 ⟨p1, rfl, h1, h2, s1, hs1, rfl⟩
  simp only [go_sem, cond, Nat.reduceAdd, Nat.reduceLeDiff, Nat.reduceEqDiff, Nat.reduceBEq, decide_true, decide_false, Int.toNat_natCast, r, sA, List.set_set, List.append_assoc, List.length_append, List.length_set]
  refine bsV_dense ⟨_, XF.zer_9, rfl⟩ rfl rfl (by decide) rfl ?_
  simp only [go_sem, cond, Nat.reduceAdd, Nat.reduceLeDiff, Nat.reduceEqDiff, Nat.reduceBEq, decide_true, decide_false, Int.toNat_natCast, r, List.append_assoc, List.length_append, List.length_set]
  refine call (of_ok w0 D hD B _ q p1 _ _ _ _ (gQ _ _) (by omega) (gR0 _ _) rfl rfl (by decide) (by decide) (by decide)) ?_
  rintro v H2 ⟨s, hs, rfl, rfl⟩
  have d1 : (s1.size + s.size ≤ 4611686018427387904) = True := eq_true (by omega)
  simp only [go_sem, cond, Nat.reduceAdd, Nat.reduceLeDiff, Nat.reduceEqDiff, Nat.reduceBEq, decide_true, decide_false, Int.toNat_natCast, r, sA, List.set_set, d1]
  exact ⟨p1 + 1, _, rfl, ⟨by omega, by omega, _, by rw [ByteArray.size_append]; omega, rfl⟩, fun ρ => rfl⟩
end Go.Proofs.YtcmflpdgfddmeaaDoorW.FA

namespace Go.Proofs.YtcmflpdgfddmeaaDoorW.FA
open Go.RowKit Go.Proofs.YtcmflpdgfddmeaaDoorW.XM Go.Proofs Go.Proofs.YtcmflpdgfddmeaaDoorW.XWords
set_option maxRecDepth 100000
set_option linter.unusedSimpArgs false
variable (w0 : World) (H : Hp)
structure Sy where
  kind : Int
  room : ByteArray
  nick : ByteArray
  name : ByteArray
  id : ByteArray
  ref : ByteArray
  text : ByteArray
  num : Int
  frm : Int
  back : Int
def Sy.enc (s : Sy) : List Value := [.int .i64 s.kind, .string s.room, .string s.nick, .string s.name, .string s.id, .string s.ref, .string s.text, .int .i64 s.num, .int .i64 s.frm, .int .i64 s.back]
def cleanS (s : Sy) : Sy :=
  if (s.kind == 1) = true then ⟨s.kind, em, em, s.name, em, em, s.text, 0, 0, 0⟩
  else if (s.kind == 3) = true then ⟨s.kind, em, em, em, em, em, em, s.num, 0, 0⟩
  else if (s.kind == 5) = true then ⟨s.kind, em, em, em, em, s.ref, em, s.num, 0, 0⟩
  else if (s.kind == 6) = true then ⟨s.kind, s.room, s.nick, em, em, em, em, 0, 0, 0⟩
  else if (s.kind == 7) = true then ⟨s.kind, s.room, em, em, em, em, em, 0, 0, 0⟩
  else if (s.kind == 8) = true then ⟨s.kind, s.room, em, em, s.id, s.ref, s.text, 0, 0, 0⟩
  else if (s.kind == 9) = true then ⟨s.kind, s.room, em, em, s.id, em, s.text, 0, 0, 0⟩
  else if (s.kind == 10) = true then ⟨s.kind, s.room, s.nick, em, s.id, em, em, s.num, 0, 0⟩
  else if (s.kind == 11) = true then ⟨s.kind, s.room, em, s.name, s.id, em, em, s.num, 0, 0⟩
  else if (s.kind == 12) = true then ⟨s.kind, s.room, em, s.name, s.id, em, em, s.num, s.frm, s.back⟩
  else ⟨s.kind, em, em, em, em, em, em, 0, 0, 0⟩
theorem l5Clean_ok (s : Sy) : AFn Tryd.prog w0 42 #[.agg s.enc.toArray] H fun v H2 => v = .agg (cleanS s).enc.toArray ∧ H2 = H := by
  refine AFn.scal rfl Tryd.func42 rfl (by kernel_rfl) ?_
  have r := Tryd.results42
  simp only [go_sem, cond, Nat.reduceAdd, Nat.reduceLeDiff, Nat.reduceEqDiff, Nat.reduceBEq, decide_true, decide_false, Int.toNat_natCast, r]
  simp only [go_sem, cond, Nat.reduceAdd, Nat.reduceLeDiff, Nat.reduceEqDiff, Nat.reduceBEq, decide_true, decide_false, Int.toNat_natCast, Sy.enc, r]
  repeat' (refine Br_intro ?_ ?_ <;> intro h <;> simp only [go_sem, cond, Nat.reduceAdd, Nat.reduceLeDiff, Nat.reduceEqDiff, Nat.reduceBEq, decide_true, decide_false, Int.toNat_natCast, h, r])
  all_goals first
    | exact ⟨by simp only [cleanS, *]; rfl, _, rfl⟩
    | (exfalso
       simp only [beq_iff_eq, beq_eq_false_iff_ne] at *
       omega)
end Go.Proofs.YtcmflpdgfddmeaaDoorW.FA

namespace Go.Proofs.YtcmflpdgfddmeaaDoorW.FA
open Go.RowKit Go.Proofs.YtcmflpdgfddmeaaDoorW.XM Go.Proofs Go.Proofs.YtcmflpdgfddmeaaDoorW.XWords
set_option maxRecDepth 100000
set_option linter.unusedSimpArgs false
set_option linter.unusedVariables false
variable (w0 : World) (H : Hp)
structure SyOk (s : Sy) : Prop where
  room : s.room.size ≤ 500
  nick : s.nick.size ≤ 500
  name : s.name.size ≤ 500
  id : s.id.size ≤ 500
  ref : s.ref.size ≤ 500
  text : s.text.size ≤ 500
  kind : -100000 ≤ s.kind ∧ s.kind ≤ 100000
  num : -100000 ≤ s.num ∧ s.num ≤ 100000
  frm : -100000 ≤ s.frm ∧ s.frm ≤ 100000
  back : -100000 ≤ s.back ∧ s.back ≤ 100000
theorem opt_if {c : Prop} [Decidable c] {v : Value} {B : Hp} {K : Value → Hp → Prop} {k : Lk K} (h : c) (h2 : K v B) : Opt (if c then some v else none) B k := by
  rw [if_pos h]; exact h2
theorem one_size (x : UInt8) : (#[x] : Array UInt8).size = 1 := rfl
theorem bone_size (x : UInt8) : (ByteArray.mk #[x]).size = 1 := rfl
theorem SyOk.mk2 {k n f b : Int} {ro ni na i re te : ByteArray} (h1 : ro.size ≤ 500) (h2 : ni.size ≤ 500) (h3 : na.size ≤ 500) (h4 : i.size ≤ 500) (h5 : re.size ≤ 500) (h6 : te.size ≤ 500) (k1 : -100000 ≤ k) (k2 : k ≤ 100000) (n1 : -100000 ≤ n) (n2 : n ≤ 100000) (f1 : -100000 ≤ f) (f2 : f ≤ 100000) (b1 : -100000 ≤ b) (b2 : b ≤ 100000) : SyOk ⟨k, ro, ni, na, i, re, te, n, f, b⟩ :=
  ⟨h1, h2, h3, h4, h5, h6, ⟨k1, k2⟩, ⟨n1, n2⟩, ⟨f1, f2⟩, ⟨b1, b2⟩⟩
theorem em_size : em.size = 0 := rfl
theorem cleanS_ok {s : Sy} (h : SyOk s) : SyOk (cleanS s) := by
  obtain ⟨h1, h2, h3, h4, h5, h6, h7, h8, h9, h10⟩ := h
  unfold cleanS
  repeat' split
  all_goals constructor <;> first | assumption | (simp only [em_size]; omega) | (constructor <;> omega)
/-- A draw of what is said. -/
def DrY (w0 : World) (f : FuncId) (c : Nat) : Prop := ∀ (D : Cd) (B : Hp) (l : List (Option Ob)) (q p : Nat), CdOk w0 D → l[q]? = some (dr D p) → p + c ≤ 700000 → AFn Tryd.prog w0 f #[.pointer (some ⟨nid B q, 0, some 2⟩)] (Hx B l) fun v H2 => ∃ p', H2 = Hx B (l.set q (dr D p')) ∧ p ≤ p' ∧ p' ≤ p + c ∧ ∃ s : Sy, SyOk s ∧ v = .agg s.enc.toArray
theorem DrY.mk' {f : FuncId} {c : Nat} (h : ∀ (D : Cd) (B : Hp) (l : List (Option Ob)) (q p : Nat), CdOk w0 D → q < l.length → (∀ X : Option Ob, (l.set q X)[q]? = some X) → p + c ≤ 700000 → AFn Tryd.prog w0 f #[.pointer (some ⟨nid B q, 0, some 2⟩)] (Hx B (l.set q (dr D p))) fun v H2 => ∃ p' g, H2 = Hx B (l.set q (dr D p') ++ g) ∧ p ≤ p' ∧ p' ≤ p + c ∧ ∃ s : Sy, SyOk s ∧ v = .agg s.enc.toArray) : DrY w0 f c := by
  intro D B l q p hD hq hp
  have hlq := lt_of_get hq
  refine AFn.dr (R := fun v p' => p ≤ p' ∧ p' ≤ p + c ∧ ∃ s : Sy, SyOk s ∧ v = .agg s.enc.toArray) hD hlq ?_
  have gs : ∀ X : Option Ob, (l.set q X)[q]? = some X := fun X => by rw [List.getElem?_set_self hlq]
  have e : Hx B l = Hx B (l.set q (dr D p)) := by conv => lhs; rw [set_same hq, List.append_nil]
  rw [e]
  refine (h D B l q p hD hlq gs hp).mono ?_
  rintro v H2 ⟨p', g, rfl, h1, h2, s, hs, rfl⟩
  exact ⟨p', g, rfl, ⟨h1, h2, s, hs, rfl⟩, fun ρ => rfl⟩
/-- A draw of what is said, with a name that is drawn. -/
def DrYN (w0 : World) (f : FuncId) (c : Nat) : Prop := ∀ (D : Cd) (B : Hp) (l : List (Option Ob)) (q p : Nat), CdOk w0 D → l[q]? = some (dr D p) → p + c ≤ 700000 → AFn Tryd.prog w0 f #[.pointer (some ⟨nid B q, 0, some 2⟩)] (Hx B l) fun v H2 => ∃ p', H2 = Hx B (l.set q (dr D p')) ∧ p ≤ p' ∧ p' ≤ p + c ∧ ∃ s : Sy, (SyOk s ∧ nmB s.name = true) ∧ v = .agg s.enc.toArray
theorem DrYN.mk' {f : FuncId} {c : Nat} (h : ∀ (D : Cd) (B : Hp) (l : List (Option Ob)) (q p : Nat), CdOk w0 D → q < l.length → (∀ X : Option Ob, (l.set q X)[q]? = some X) → p + c ≤ 700000 → AFn Tryd.prog w0 f #[.pointer (some ⟨nid B q, 0, some 2⟩)] (Hx B (l.set q (dr D p))) fun v H2 => ∃ p' g, H2 = Hx B (l.set q (dr D p') ++ g) ∧ p ≤ p' ∧ p' ≤ p + c ∧ ∃ s : Sy, (SyOk s ∧ nmB s.name = true) ∧ v = .agg s.enc.toArray) : DrYN w0 f c := by
  intro D B l q p hD hq hp
  have hlq := lt_of_get hq
  refine AFn.dr (R := fun v p' => p ≤ p' ∧ p' ≤ p + c ∧ ∃ s : Sy, (SyOk s ∧ nmB s.name = true) ∧ v = .agg s.enc.toArray) hD hlq ?_
  have gs : ∀ X : Option Ob, (l.set q X)[q]? = some X := fun X => by rw [List.getElem?_set_self hlq]
  have e : Hx B l = Hx B (l.set q (dr D p)) := by conv => lhs; rw [set_same hq, List.append_nil]
  rw [e]
  refine (h D B l q p hD hlq gs hp).mono ?_
  rintro v H2 ⟨p', g, rfl, h1, h2, s, hs, rfl⟩
  exact ⟨p', g, rfl, ⟨h1, h2, s, hs, rfl⟩, fun ρ => rfl⟩
theorem asInt (k : Nat) : ∃ z : Int, z = (k : Int) ∧ 0 ≤ z ∧ z.toNat = k := ⟨_, rfl, by omega, by omega⟩
theorem wrap1 (k : Int) (h : 0 ≤ k) (h2 : k ≤ 1000) : ∃ j : Int, -100000 ≤ j ∧ j ≤ 100000 ∧ IntKind.i64.wrap (1 + k) = j := ⟨1 + k, by omega, by omega, wrap_i64 (by omega) (by omega)⟩
theorem em_size0 : ({ data := #[] } : ByteArray).size = 0 := rfl
theorem l16Server_ok : DrY w0 32 10 := by
  refine DrY.mk' w0 ?_
  intro D B l q p hD hlq gs hp
  obtain ⟨sA, gQ, gR, gR0, sR, sR0⟩ := dset hlq
  refine AFn_of Tryd.func32 rfl (by kernel_rfl) ?_
  have r := Tryd.results32
  simp only [go_sem, cond, Nat.reduceAdd, Nat.reduceLeDiff, Nat.reduceEqDiff, Nat.reduceBEq, decide_true, decide_false, Int.toNat_natCast, r, sA, gQ, gR, gR0, sR, sR0, List.set_set, List.append_assoc, List.length_append, List.length_set]
  repeat' (first
    | (refine Br_intro ?_ ?_ <;> intro h <;> simp only [go_sem, cond, Nat.reduceAdd, Nat.reduceLeDiff, Nat.reduceEqDiff, Nat.reduceBEq, decide_true, decide_false, Int.toNat_natCast, h, r, sA, gQ, gR, gR0, sR, sR0, List.set_set, List.append_assoc, List.length_append, List.length_set])
    | (refine call (pick_ok w0 D hD B _ q _ _ (gQ _ _) (by omega)) ?_; rintro v H2 ⟨k, rfl, k1, _, rfl⟩; have k2 := k1 (by decide); clear k1; obtain ⟨kz, z1, z2, z3⟩ := asInt k; rw [← z1] at k2 ⊢; obtain ⟨j, j1, j2, k3⟩ := wrap1 kz z2 (by omega); simp only [go_sem, cond, Nat.reduceAdd, Nat.reduceLeDiff, Nat.reduceEqDiff, Nat.reduceBEq, decide_true, decide_false, Int.toNat_natCast, k3, r, sA, gQ, gR, gR0, sR, sR0, List.set_set, List.append_assoc, List.length_append, List.length_set])
    | (refine call (l16Text_ok w0 D B _ q _ hD (gQ _ _) (by omega)) ?_; rintro v H2 ⟨p1, rfl, h1, h2, s1, hs1, rfl⟩; simp only [go_sem, cond, Nat.reduceAdd, Nat.reduceLeDiff, Nat.reduceEqDiff, Nat.reduceBEq, decide_true, decide_false, Int.toNat_natCast, r, sA, gQ, gR, gR0, sR, sR0, List.set_set, List.append_assoc, List.length_append, List.length_set])
    | (refine call (l16User_ok w0 D B _ q _ hD (gQ _ _) (by omega)) ?_; rintro v H2 ⟨p1, rfl, h1, h2, s1, hs1, rfl⟩; simp only [go_sem, cond, Nat.reduceAdd, Nat.reduceLeDiff, Nat.reduceEqDiff, Nat.reduceBEq, decide_true, decide_false, Int.toNat_natCast, r, sA, gQ, gR, gR0, sR, sR0, List.set_set, List.append_assoc, List.length_append, List.length_set])
    | (refine call (l16Nick_ok w0 D B _ q _ hD (gQ _ _) (by omega)) ?_; rintro v H2 ⟨p1, rfl, h1, h2, s1, hs1, rfl⟩; simp only [go_sem, cond, Nat.reduceAdd, Nat.reduceLeDiff, Nat.reduceEqDiff, Nat.reduceBEq, decide_true, decide_false, Int.toNat_natCast, r, sA, gQ, gR, gR0, sR, sR0, List.set_set, List.append_assoc, List.length_append, List.length_set])
    | (refine call (l16Room_ok w0 D B _ q _ hD (gQ _ _) (by omega)) ?_; rintro v H2 ⟨p1, rfl, h1, h2, s1, hs1, rfl⟩; simp only [go_sem, cond, Nat.reduceAdd, Nat.reduceLeDiff, Nat.reduceEqDiff, Nat.reduceBEq, decide_true, decide_false, Int.toNat_natCast, r, sA, gQ, gR, gR0, sR, sR0, List.set_set, List.append_assoc, List.length_append, List.length_set])
    | (refine call (l16Any_ok w0 D B _ q _ hD (gQ _ _) (by omega)) ?_; rintro v H2 ⟨p1, rfl, h1, h2, s1, hs1, rfl⟩; simp only [go_sem, cond, Nat.reduceAdd, Nat.reduceLeDiff, Nat.reduceEqDiff, Nat.reduceBEq, decide_true, decide_false, Int.toNat_natCast, r, sA, gQ, gR, gR0, sR, sR0, List.set_set, List.append_assoc, List.length_append, List.length_set])
    | (refine call (of_ok w0 D hD B _ q _ _ _ _ _ (gQ _ _) (by omega) (by first | exact gR _ _ _ | exact gR0 _ _ | (rw [gR]; rfl)) rfl rfl (by decide) (by decide) (by first | decide | (simp only [List.all_cons, List.all_nil, isS, Bool.and_true, Bool.and_eq_true, decide_eq_true_eq, em_size0]; omega))) ?_; rintro v H2 ⟨s1, hs1, rfl, rfl⟩; simp only [go_sem, cond, Nat.reduceAdd, Nat.reduceLeDiff, Nat.reduceEqDiff, Nat.reduceBEq, decide_true, decide_false, Int.toNat_natCast, r, sA, gQ, gR, gR0, sR, sR0, List.set_set, List.append_assoc, List.length_append, List.length_set])
    | (refine call (one_ok w0 D hD B _ q _ _ _ _ _ (gQ _ _) (by omega) (by first | exact gR _ _ _ | exact gR0 _ _ | (rw [gR]; rfl)) rfl rfl (by decide) (by decide) (by decide)) ?_; rintro v H2 ⟨s1, hs1, hs2, -, rfl, rfl⟩; simp only [go_sem, cond, Nat.reduceAdd, Nat.reduceLeDiff, Nat.reduceEqDiff, Nat.reduceBEq, decide_true, decide_false, Int.toNat_natCast, r, sA, gQ, gR, gR0, sR, sR0, List.set_set, List.append_assoc, List.length_append, List.length_set])
    | (refine bsV_dense ⟨_, XF.zer_9, rfl⟩ rfl rfl (by decide) rfl ?_; simp only [go_sem, cond, Nat.reduceAdd, Nat.reduceLeDiff, Nat.reduceEqDiff, Nat.reduceBEq, decide_true, decide_false, Int.toNat_natCast, r, sA, gQ, gR, gR0, sR, sR0, List.set_set, List.append_assoc, List.length_append, List.length_set])
    | (refine bsV_dense ⟨_, XF.zer_3, rfl⟩ rfl rfl (by decide) rfl ?_; simp only [go_sem, cond, Nat.reduceAdd, Nat.reduceLeDiff, Nat.reduceEqDiff, Nat.reduceBEq, decide_true, decide_false, Int.toNat_natCast, r, sA, gQ, gR, gR0, sR, sR0, List.set_set, List.append_assoc, List.length_append, List.length_set])
    | (refine opt_if (by simp only [ByteArray.size_append, one_size]; omega) ?_; simp only [go_sem, cond, Nat.reduceAdd, Nat.reduceLeDiff, Nat.reduceEqDiff, Nat.reduceBEq, decide_true, decide_false, Int.toNat_natCast, r, sA, gQ, gR, gR0, sR, sR0, List.set_set, List.append_assoc, List.length_append, List.length_set])
)
  all_goals refine ⟨_, _, rfl, by omega, by omega, ⟨_, _, _, _, _, _, _, _, _, _⟩, ?_, rfl⟩
  all_goals apply SyOk.mk2
  all_goals first | omega | (simp only [em_size, em_size0, ByteArray.size_append, bone_size]; omega) | assumption | decide
theorem nm_em : nmB em = true := by decide
theorem cleanS_nm {s : Sy} (h : nmB s.name = true) : nmB (cleanS s).name = true := by
  unfold cleanS
  repeat' split
  all_goals first | exact h | exact nm_em
theorem l5Clean_nm {s : Sy} (h : SyOk s) (h2 : nmB s.name = true) : AFn Tryd.prog w0 42 #[.agg s.enc.toArray] H fun v H2 => ∃ c : Sy, SyOk c ∧ nmB c.name = true ∧ v = .agg c.enc.toArray ∧ H2 = H :=
  (l5Clean_ok w0 H s).mono fun v H2 ⟨a, b⟩ => ⟨_, cleanS_ok h, cleanS_nm h2, a, b⟩
theorem l16Say_nm : DrYN w0 28 60 := by
  refine DrYN.mk' w0 ?_
  intro D B l q p hD hlq gs hp
  obtain ⟨sA, gQ, gR, gR0, sR, sR0⟩ := dset hlq
  refine AFn_of Tryd.func28 rfl (by kernel_rfl) ?_
  have r := Tryd.results28
  simp only [go_sem, cond, Nat.reduceAdd, Nat.reduceLeDiff, Nat.reduceEqDiff, Nat.reduceBEq, decide_true, decide_false, Int.toNat_natCast, r, sA, gQ, gR, gR0, sR, sR0, List.set_set, List.append_assoc, List.length_append, List.length_set]
  repeat' (first
    | (refine Br_intro ?_ ?_ <;> intro h <;> simp only [go_sem, cond, Nat.reduceAdd, Nat.reduceLeDiff, Nat.reduceEqDiff, Nat.reduceBEq, decide_true, decide_false, Int.toNat_natCast, h, r, sA, gQ, gR, gR0, sR, sR0, List.set_set, List.append_assoc, List.length_append, List.length_set])
    | (refine call (pick_ok w0 D hD B _ q _ _ (gQ _ _) (by omega)) ?_; rintro v H2 ⟨k, rfl, k1, _, rfl⟩; have k2 := k1 (by decide); clear k1; obtain ⟨kz, z1, z2, z3⟩ := asInt k; rw [← z1] at k2 ⊢; obtain ⟨j, j1, j2, k3⟩ := wrap1 kz z2 (by omega); simp only [go_sem, cond, Nat.reduceAdd, Nat.reduceLeDiff, Nat.reduceEqDiff, Nat.reduceBEq, decide_true, decide_false, Int.toNat_natCast, k3, r, sA, gQ, gR, gR0, sR, sR0, List.set_set, List.append_assoc, List.length_append, List.length_set])
    | (refine call (l16Text_ok w0 D B _ q _ hD (gQ _ _) (by omega)) ?_; rintro v H2 ⟨p1, rfl, h1, h2, s1, hs1, rfl⟩; simp only [go_sem, cond, Nat.reduceAdd, Nat.reduceLeDiff, Nat.reduceEqDiff, Nat.reduceBEq, decide_true, decide_false, Int.toNat_natCast, r, sA, gQ, gR, gR0, sR, sR0, List.set_set, List.append_assoc, List.length_append, List.length_set])
    | (refine call (l16User_nm w0 D B _ q _ hD (gQ _ _) (by omega)) ?_; rintro v H2 ⟨p1, rfl, h1, h2, s1, ⟨hs1, hn1⟩, rfl⟩; simp only [go_sem, cond, Nat.reduceAdd, Nat.reduceLeDiff, Nat.reduceEqDiff, Nat.reduceBEq, decide_true, decide_false, Int.toNat_natCast, r, sA, gQ, gR, gR0, sR, sR0, List.set_set, List.append_assoc, List.length_append, List.length_set])
    | (refine call (l16Nick_ok w0 D B _ q _ hD (gQ _ _) (by omega)) ?_; rintro v H2 ⟨p1, rfl, h1, h2, s1, hs1, rfl⟩; simp only [go_sem, cond, Nat.reduceAdd, Nat.reduceLeDiff, Nat.reduceEqDiff, Nat.reduceBEq, decide_true, decide_false, Int.toNat_natCast, r, sA, gQ, gR, gR0, sR, sR0, List.set_set, List.append_assoc, List.length_append, List.length_set])
    | (refine call (l16Room_ok w0 D B _ q _ hD (gQ _ _) (by omega)) ?_; rintro v H2 ⟨p1, rfl, h1, h2, s1, hs1, rfl⟩; simp only [go_sem, cond, Nat.reduceAdd, Nat.reduceLeDiff, Nat.reduceEqDiff, Nat.reduceBEq, decide_true, decide_false, Int.toNat_natCast, r, sA, gQ, gR, gR0, sR, sR0, List.set_set, List.append_assoc, List.length_append, List.length_set])
    | (refine call (l16Any_ok w0 D B _ q _ hD (gQ _ _) (by omega)) ?_; rintro v H2 ⟨p1, rfl, h1, h2, s1, hs1, rfl⟩; simp only [go_sem, cond, Nat.reduceAdd, Nat.reduceLeDiff, Nat.reduceEqDiff, Nat.reduceBEq, decide_true, decide_false, Int.toNat_natCast, r, sA, gQ, gR, gR0, sR, sR0, List.set_set, List.append_assoc, List.length_append, List.length_set])
    | (refine call (of_okP w0 nmS D hD B _ q _ _ _ _ _ (gQ _ _) (by omega) (by first | exact gR _ _ _ | exact gR0 _ _ | (rw [gR]; rfl)) rfl rfl (by decide) (by decide) (by first | decide | (simp only [List.all_cons, List.all_nil, isSP, nmS, Bool.and_true, Bool.and_eq_true, decide_eq_true_eq]; exact ⟨⟨by decide, by decide⟩, ⟨by decide, by decide⟩, by omega, by assumption⟩))) ?_; rintro v H2 ⟨s1, hs0, rfl, rfl⟩; obtain ⟨hs1, hn1⟩ := nmS_spec hs0; simp only [go_sem, cond, Nat.reduceAdd, Nat.reduceLeDiff, Nat.reduceEqDiff, Nat.reduceBEq, decide_true, decide_false, Int.toNat_natCast, r, sA, gQ, gR, gR0, sR, sR0, List.set_set, List.append_assoc, List.length_append, List.length_set])
    | (refine call (of_ok w0 D hD B _ q _ _ _ _ _ (gQ _ _) (by omega) (by first | exact gR _ _ _ | exact gR0 _ _ | (rw [gR]; rfl)) rfl rfl (by decide) (by decide) (by first | decide | (simp only [List.all_cons, List.all_nil, isS, Bool.and_true, Bool.and_eq_true, decide_eq_true_eq, em_size0]; omega))) ?_; rintro v H2 ⟨s1, hs1, rfl, rfl⟩; simp only [go_sem, cond, Nat.reduceAdd, Nat.reduceLeDiff, Nat.reduceEqDiff, Nat.reduceBEq, decide_true, decide_false, Int.toNat_natCast, r, sA, gQ, gR, gR0, sR, sR0, List.set_set, List.append_assoc, List.length_append, List.length_set])
    | (refine call (one_ok w0 D hD B _ q _ _ _ _ _ (gQ _ _) (by omega) (by first | exact gR _ _ _ | exact gR0 _ _ | (rw [gR]; rfl)) rfl rfl (by decide) (by decide) (by decide)) ?_; rintro v H2 ⟨s1, hs1, hs2, -, rfl, rfl⟩; simp only [go_sem, cond, Nat.reduceAdd, Nat.reduceLeDiff, Nat.reduceEqDiff, Nat.reduceBEq, decide_true, decide_false, Int.toNat_natCast, r, sA, gQ, gR, gR0, sR, sR0, List.set_set, List.append_assoc, List.length_append, List.length_set])
    | (refine bsV_dense ⟨_, XF.zer_9, rfl⟩ rfl rfl (by decide) rfl ?_; simp only [go_sem, cond, Nat.reduceAdd, Nat.reduceLeDiff, Nat.reduceEqDiff, Nat.reduceBEq, decide_true, decide_false, Int.toNat_natCast, r, sA, gQ, gR, gR0, sR, sR0, List.set_set, List.append_assoc, List.length_append, List.length_set])
    | (refine bsV_dense ⟨_, XF.zer_3, rfl⟩ rfl rfl (by decide) rfl ?_; simp only [go_sem, cond, Nat.reduceAdd, Nat.reduceLeDiff, Nat.reduceEqDiff, Nat.reduceBEq, decide_true, decide_false, Int.toNat_natCast, r, sA, gQ, gR, gR0, sR, sR0, List.set_set, List.append_assoc, List.length_append, List.length_set])
    | (refine opt_if (by simp only [ByteArray.size_append, one_size]; omega) ?_; simp only [go_sem, cond, Nat.reduceAdd, Nat.reduceLeDiff, Nat.reduceEqDiff, Nat.reduceBEq, decide_true, decide_false, Int.toNat_natCast, r, sA, gQ, gR, gR0, sR, sR0, List.set_set, List.append_assoc, List.length_append, List.length_set])
    | (refine call (l5Clean_nm w0 _ (s := ⟨_, _, _, _, _, _, _, _, _, _⟩) ?_ ?_) ?_; (apply SyOk.mk2 <;> first | omega | (simp only [em_size, em_size0, ByteArray.size_append, bone_size]; omega) | assumption | decide); (first | assumption | decide); rintro v H2 ⟨cl, hcl, hcn, rfl, rfl⟩; simp only [go_sem, cond, Nat.reduceAdd, Nat.reduceLeDiff, Nat.reduceEqDiff, Nat.reduceBEq, decide_true, decide_false, Int.toNat_natCast, Sy.enc, r, sA, gQ, gR, gR0, sR, sR0, List.set_set, List.append_assoc, List.length_append, List.length_set])
)
  all_goals refine ⟨_, _, rfl, by omega, by omega, _, ⟨by assumption, by assumption⟩, rfl⟩
theorem l16Say_ok : DrY w0 28 60 := by
  intro D B l q p hD hq hp
  refine (l16Say_nm w0 D B l q p hD hq hp).mono ?_
  rintro v H2 ⟨p', a, b, c, s, ⟨d, -⟩, e⟩
  exact ⟨p', a, b, c, s, d, e⟩
theorem l16AnySay_ok : DrY w0 16 80 := by
  refine DrY.mk' w0 ?_
  intro D B l q p hD hlq gs hp
  obtain ⟨sA, gQ, gR, gR0, sR, sR0⟩ := dset hlq
  refine AFn_of Tryd.func16 rfl (by kernel_rfl) ?_
  have r := Tryd.results16
  simp only [go_sem, cond, Nat.reduceAdd, Nat.reduceLeDiff, Nat.reduceEqDiff, Nat.reduceBEq, decide_true, decide_false, Int.toNat_natCast, r, sA, gQ, gR, gR0, sR, sR0, List.set_set, List.append_assoc, List.length_append, List.length_set]
  repeat' (first
    | (refine Br_intro ?_ ?_ <;> intro h <;> simp only [go_sem, cond, Nat.reduceAdd, Nat.reduceLeDiff, Nat.reduceEqDiff, Nat.reduceBEq, decide_true, decide_false, Int.toNat_natCast, h, r, sA, gQ, gR, gR0, sR, sR0, List.set_set, List.append_assoc, List.length_append, List.length_set])
    | (refine call (pick_ok w0 D hD B _ q _ _ (gQ _ _) (by omega)) ?_; rintro v H2 ⟨k, rfl, k1, _, rfl⟩; have k2 := k1 (by decide); clear k1; obtain ⟨kz, z1, z2, z3⟩ := asInt k; rw [← z1] at k2 ⊢; obtain ⟨j, j1, j2, k3⟩ := wrap1 kz z2 (by omega); simp only [go_sem, cond, Nat.reduceAdd, Nat.reduceLeDiff, Nat.reduceEqDiff, Nat.reduceBEq, decide_true, decide_false, Int.toNat_natCast, k3, r, sA, gQ, gR, gR0, sR, sR0, List.set_set, List.append_assoc, List.length_append, List.length_set])
    | (refine call (l16Text_ok w0 D B _ q _ hD (gQ _ _) (by omega)) ?_; rintro v H2 ⟨p1, rfl, h1, h2, s1, hs1, rfl⟩; simp only [go_sem, cond, Nat.reduceAdd, Nat.reduceLeDiff, Nat.reduceEqDiff, Nat.reduceBEq, decide_true, decide_false, Int.toNat_natCast, r, sA, gQ, gR, gR0, sR, sR0, List.set_set, List.append_assoc, List.length_append, List.length_set])
    | (refine call (l16User_ok w0 D B _ q _ hD (gQ _ _) (by omega)) ?_; rintro v H2 ⟨p1, rfl, h1, h2, s1, hs1, rfl⟩; simp only [go_sem, cond, Nat.reduceAdd, Nat.reduceLeDiff, Nat.reduceEqDiff, Nat.reduceBEq, decide_true, decide_false, Int.toNat_natCast, r, sA, gQ, gR, gR0, sR, sR0, List.set_set, List.append_assoc, List.length_append, List.length_set])
    | (refine call (l16Nick_ok w0 D B _ q _ hD (gQ _ _) (by omega)) ?_; rintro v H2 ⟨p1, rfl, h1, h2, s1, hs1, rfl⟩; simp only [go_sem, cond, Nat.reduceAdd, Nat.reduceLeDiff, Nat.reduceEqDiff, Nat.reduceBEq, decide_true, decide_false, Int.toNat_natCast, r, sA, gQ, gR, gR0, sR, sR0, List.set_set, List.append_assoc, List.length_append, List.length_set])
    | (refine call (l16Room_ok w0 D B _ q _ hD (gQ _ _) (by omega)) ?_; rintro v H2 ⟨p1, rfl, h1, h2, s1, hs1, rfl⟩; simp only [go_sem, cond, Nat.reduceAdd, Nat.reduceLeDiff, Nat.reduceEqDiff, Nat.reduceBEq, decide_true, decide_false, Int.toNat_natCast, r, sA, gQ, gR, gR0, sR, sR0, List.set_set, List.append_assoc, List.length_append, List.length_set])
    | (refine call (l16Any_ok w0 D B _ q _ hD (gQ _ _) (by omega)) ?_; rintro v H2 ⟨p1, rfl, h1, h2, s1, hs1, rfl⟩; simp only [go_sem, cond, Nat.reduceAdd, Nat.reduceLeDiff, Nat.reduceEqDiff, Nat.reduceBEq, decide_true, decide_false, Int.toNat_natCast, r, sA, gQ, gR, gR0, sR, sR0, List.set_set, List.append_assoc, List.length_append, List.length_set])
    | (refine call (of_ok w0 D hD B _ q _ _ _ _ _ (gQ _ _) (by omega) (by first | exact gR _ _ _ | exact gR0 _ _ | (rw [gR]; rfl)) rfl rfl (by decide) (by decide) (by first | decide | (simp only [List.all_cons, List.all_nil, isS, Bool.and_true, Bool.and_eq_true, decide_eq_true_eq, em_size0]; omega))) ?_; rintro v H2 ⟨s1, hs1, rfl, rfl⟩; simp only [go_sem, cond, Nat.reduceAdd, Nat.reduceLeDiff, Nat.reduceEqDiff, Nat.reduceBEq, decide_true, decide_false, Int.toNat_natCast, r, sA, gQ, gR, gR0, sR, sR0, List.set_set, List.append_assoc, List.length_append, List.length_set])
    | (refine call (one_ok w0 D hD B _ q _ _ _ _ _ (gQ _ _) (by omega) (by first | exact gR _ _ _ | exact gR0 _ _ | (rw [gR]; rfl)) rfl rfl (by decide) (by decide) (by decide)) ?_; rintro v H2 ⟨s1, hs1, hs2, -, rfl, rfl⟩; simp only [go_sem, cond, Nat.reduceAdd, Nat.reduceLeDiff, Nat.reduceEqDiff, Nat.reduceBEq, decide_true, decide_false, Int.toNat_natCast, r, sA, gQ, gR, gR0, sR, sR0, List.set_set, List.append_assoc, List.length_append, List.length_set])
    | (refine bsV_dense ⟨_, XF.zer_9, rfl⟩ rfl rfl (by decide) rfl ?_; simp only [go_sem, cond, Nat.reduceAdd, Nat.reduceLeDiff, Nat.reduceEqDiff, Nat.reduceBEq, decide_true, decide_false, Int.toNat_natCast, r, sA, gQ, gR, gR0, sR, sR0, List.set_set, List.append_assoc, List.length_append, List.length_set])
    | (refine bsV_dense ⟨_, XF.zer_3, rfl⟩ rfl rfl (by decide) rfl ?_; simp only [go_sem, cond, Nat.reduceAdd, Nat.reduceLeDiff, Nat.reduceEqDiff, Nat.reduceBEq, decide_true, decide_false, Int.toNat_natCast, r, sA, gQ, gR, gR0, sR, sR0, List.set_set, List.append_assoc, List.length_append, List.length_set])
    | (refine opt_if (by simp only [ByteArray.size_append, one_size]; omega) ?_; simp only [go_sem, cond, Nat.reduceAdd, Nat.reduceLeDiff, Nat.reduceEqDiff, Nat.reduceBEq, decide_true, decide_false, Int.toNat_natCast, r, sA, gQ, gR, gR0, sR, sR0, List.set_set, List.append_assoc, List.length_append, List.length_set])
    | (refine call (l16Say_ok w0 D B _ q _ hD (gQ _ _) (by omega)) ?_; rintro v H2 ⟨p1, rfl, h1, h2, ⟨y1, y2, y3, y4, y5, y6, y7, y8, y9, y10⟩, ⟨a1, a2, a3, a4, a5, a6, ⟨a7, a8⟩, ⟨a9, a10⟩, ⟨a11, a12⟩, ⟨a13, a14⟩⟩, rfl⟩; dsimp only at a1 a2 a3 a4 a5 a6 a7 a8 a9 a10 a11 a12 a13 a14; simp only [go_sem, cond, Nat.reduceAdd, Nat.reduceLeDiff, Nat.reduceEqDiff, Nat.reduceBEq, decide_true, decide_false, Int.toNat_natCast, Sy.enc, r, sA, gQ, gR, gR0, sR, sR0, List.set_set, List.append_assoc, List.length_append, List.length_set])
    | (refine call (l16Server_ok w0 D B _ q _ hD (gQ _ _) (by omega)) ?_; rintro v H2 ⟨p1, rfl, h1, h2, ⟨y1, y2, y3, y4, y5, y6, y7, y8, y9, y10⟩, ⟨a1, a2, a3, a4, a5, a6, ⟨a7, a8⟩, ⟨a9, a10⟩, ⟨a11, a12⟩, ⟨a13, a14⟩⟩, rfl⟩; dsimp only at a1 a2 a3 a4 a5 a6 a7 a8 a9 a10 a11 a12 a13 a14; simp only [go_sem, cond, Nat.reduceAdd, Nat.reduceLeDiff, Nat.reduceEqDiff, Nat.reduceBEq, decide_true, decide_false, Int.toNat_natCast, Sy.enc, r, sA, gQ, gR, gR0, sR, sR0, List.set_set, List.append_assoc, List.length_append, List.length_set])
)
  all_goals refine ⟨_, _, rfl, by omega, by omega, ⟨_, _, _, _, _, _, _, _, _, _⟩, ?_, rfl⟩
  all_goals apply SyOk.mk2
  all_goals first | omega | (simp only [em_size, em_size0, ByteArray.size_append, bone_size]; omega) | assumption | decide
end Go.Proofs.YtcmflpdgfddmeaaDoorW.FA

namespace Go.Proofs.YtcmflpdgfddmeaaDoorW.FA
open Go.RowKit Go.Proofs.YtcmflpdgfddmeaaDoorW.XM Go.Proofs Go.Proofs.YtcmflpdgfddmeaaDoorW.XWords
set_option maxRecDepth 100000
set_option linter.unusedSimpArgs false
set_option linter.unusedVariables false
variable (w0 : World) (H : Hp)
def byRank (k : Int) : Int := if 3 ≤ k then 3 else 2
theorem l6ByRank_ok (k : Int) : AFn Tryd.prog w0 60 #[.int .i64 k] H fun v H2 => v = .int .i64 (byRank k) ∧ H2 = H := by
  refine AFn.scal rfl Tryd.func60 rfl (by kernel_rfl) ?_
  have r := Tryd.results60
  simp only [go_sem, cond, Nat.reduceAdd, Nat.reduceLeDiff, Nat.reduceEqDiff, Nat.reduceBEq, decide_true, decide_false, Int.toNat_natCast, r]
  refine Br_intro ?_ ?_ <;> intro h <;> simp only [go_sem, cond, Nat.reduceAdd, Nat.reduceLeDiff, Nat.reduceEqDiff, Nat.reduceBEq, decide_true, decide_false, Int.toNat_natCast, h, r]
  · have h : (3 : Int) ≤ k := of_decide_eq_true h
    exact ⟨by rw [byRank, if_pos h], _, rfl⟩
  · have h : ¬ (3 : Int) ≤ k := of_decide_eq_false h
    exact ⟨by rw [byRank, if_neg h], _, rfl⟩
/-- The nick of a member, where there is one. -/
def nickU (R : Rm) (u : ByteArray) : ByteArray := ((R.ms.find? (isU u)).map Mem.nick).getD em
def entR (R : Rm) (k : Int) (u : ByteArray) : En := ⟨R.name, R.next, k, u, if (k == 6) = true then em else nickU R u, em, em, em, 0⟩
theorem l6Entry_ok (R : Rm) (x : Ad) (k : Int) (u : ByteArray) (hr : RmAt w0 H R x) : AFn Tryd.prog w0 61 #[.agg (R.enc x).toArray, .int .i64 k, .string u] H fun v H2 => v = .agg (entR R k u).enc.toArray ∧ H2 = H := by
  have hl := hr.lm
  refine AFn.scal rfl Tryd.func61 rfl (by kernel_rfl) ?_
  have r := Tryd.results61
  simp only [go_sem, cond, Nat.reduceAdd, Nat.reduceLeDiff, Nat.reduceEqDiff, Nat.reduceBEq, decide_true, decide_false, Int.toNat_natCast, r]
  simp only [go_sem, cond, Nat.reduceAdd, Nat.reduceLeDiff, Nat.reduceEqDiff, Nat.reduceBEq, decide_true, decide_false, Int.toNat_natCast, Rm.enc, r]
  refine call_eq (l6Of_ok _ _ R x u (hr.old _)) ?_
  rcases idxP_find (isU u) R.ms 0 with ⟨f1, f2⟩ | ⟨j, hj, f1, f2⟩
  · rw [f1]
    have d1 : ((0 : Int) ≤ (-1 : Int)) = False := eq_false (by omega)
    simp only [go_sem, cond, Nat.reduceAdd, Nat.reduceLeDiff, Nat.reduceEqDiff, Nat.reduceBEq, decide_true, decide_false, Int.toNat_natCast, Rm.enc, r, d1]
    exact ⟨by
      have e : (if (k == 6) = true then em else nickU R u) = em := by
        rw [nickU, f2]; split <;> rfl
      rw [entR, e]; rfl, _, rfl⟩
  · rw [f1, Nat.zero_add]
    obtain ⟨b, o, sp, hx, hc, _⟩ := mcell hr.sm hj
    have d1 : ((0 : Int) ≤ (j : Int)) = True := eq_true (by omega)
    have d2 : ((j : Int) < (R.ms.length : Int)) = True := eq_true (by omega)
    have c0 := fun L => hc 1 (.string R.ms[j].nick) L (by decide) rfl
    simp only [go_sem, cond, Nat.reduceAdd, Nat.reduceLeDiff, Nat.reduceEqDiff, Nat.reduceBEq, decide_true, decide_false, Int.toNat_natCast, Rm.enc, r, d1, d2, hx, c0]
    refine Br_intro ?_ ?_ <;> intro h <;> simp only [go_sem, cond, Nat.reduceAdd, Nat.reduceLeDiff, Nat.reduceEqDiff, Nat.reduceBEq, decide_true, decide_false, Int.toNat_natCast, Rm.enc, r, d1, d2, hx, c0, h]
    · exact ⟨by rw [entR, if_pos h]; rfl, _, rfl⟩
    · exact ⟨by rw [entR, if_neg (by rw [h]; decide), nickU, f2]; rfl, _, rfl⟩
/-- An entry of a log that was said so. -/
def saidP (room user id : ByteArray) (e : En) : Bool := (e.room.toList == room.toList) && (e.kind == 3) && (e.user.toList == user.toList) && (e.id.toList == id.toList) && (e.ref.toList == em.toList)
theorem any_drop {α : Type} (p : α → Bool) (l : List α) (i : Nat) (hi : i < l.length) : (l.drop i).any p = (p l[i] || (l.drop (i + 1)).any p) := by
  rw [List.drop_eq_getElem_cons hi, List.any_cons]
theorem l6Said_ok (es : List En) (A : Option Addr) (c : Nat) (ro us id : ByteArray) (hs : Sl w0 H A 9 (es.map En.enc)) (hl : es.length ≤ 2000000) : AFn Tryd.prog w0 62 #[.slice A es.length c, .string ro, .string us, .string id] H fun v H2 => v = .bool (es.any (saidP ro us id)) ∧ H2 = H := by
  refine AFn.scal rfl Tryd.func62 rfl (by kernel_rfl) ?_
  have r := Tryd.results62
  simp only [go_sem, cond, Nat.reduceAdd, Nat.reduceLeDiff, Nat.reduceEqDiff, Nat.reduceBEq, decide_true, decide_false, Int.toNat_natCast, r]
  refine xw_loop (fun (i : Nat) T H' => i ≤ es.length ∧ (es.drop i).any (saidP ro us id) = es.any (saidP ro us id) ∧ T 0 = .slice A es.length c ∧ T 1 = .string ro ∧ T 2 = .string us ∧ T 3 = .string id ∧ T 9 = .int .i64 i ∧ ∃ l, H' = Hx H l) (fun i => es.length - i) 0 (by kernel_rfl) ⟨Nat.zero_le _, rfl, rfl, rfl, rfl, rfl, rfl, [], rfl⟩ ?_
  rintro i T H' ⟨hi, he, t0, t1, t2, t3, t9, l, rfl⟩
  rw [← Hx_nil (Hx H l)]
  have hs' := hs.old l
  obtain ⟨B, hB⟩ : ∃ B, B = Hx H l := ⟨_, rfl⟩
  rw [← hB] at hs' ⊢
  by_cases hlt : i < es.length
  · obtain ⟨b, o, sp, hx, hc, hw⟩ := mcell hs' hlt
    have c0 := fun L => hw L rfl
    have d1 : ((i : Int) < (es.length : Int)) = True := eq_true (by omega)
    have d2 : (0 ≤ (i : Int)) = True := eq_true (by omega)
    rw [any_drop _ _ i hlt] at he
    simp only [go_sem, cond, Nat.reduceAdd, Nat.reduceLeDiff, Nat.reduceEqDiff, Nat.reduceBEq, decide_true, decide_false, Int.toNat_natCast, En.enc, hx, t0, t1, t2, t3, t9, d1, d2, c0]
    repeat' (refine Br_intro ?_ ?_ <;> intro h <;> simp only [go_sem, cond, Nat.reduceAdd, Nat.reduceLeDiff, Nat.reduceEqDiff, Nat.reduceBEq, decide_true, decide_false, Int.toNat_natCast, En.enc, hx, t0, t1, t2, t3, t9, d1, d2, h, r])
    all_goals first
      | (have hp : saidP ro us id es[i] = true := by simp only [saidP, *]; rfl
         rw [hp, Bool.true_or] at he
         exact ⟨by rw [he], _, by rw [hB, Hx_Hx]⟩)
      | (have hp : saidP ro us id es[i] = false := by simp only [saidP, *, Bool.false_and, Bool.and_false]
         rw [hp, Bool.false_or] at he
         exact ⟨i + 1, ⟨hlt, he, t0.trans (by rw [hx]), t1, t2, t3, int_succ hlt (by omega), _, by rw [hB, Hx_Hx]⟩, lt_meas hlt⟩)

  · obtain rfl : i = es.length := by omega
    have d1 : ((es.length : Int) < (es.length : Int)) = False := eq_false (by omega)
    rw [List.drop_length] at he
    simp only [go_sem, cond, Nat.reduceAdd, Nat.reduceLeDiff, Nat.reduceEqDiff, Nat.reduceBEq, decide_true, decide_false, Int.toNat_natCast, t0, t9, d1, r]
    exact ⟨by rw [← he]; rfl, _, by rw [hB, Hx_Hx]⟩
end Go.Proofs.YtcmflpdgfddmeaaDoorW.FA

namespace Go.Proofs.YtcmflpdgfddmeaaDoorW.FA
open Go.RowKit Go.Proofs.YtcmflpdgfddmeaaDoorW.XM Go.Proofs Go.Proofs.YtcmflpdgfddmeaaDoorW.XWords
set_option maxRecDepth 100000
set_option linter.unusedSimpArgs false
set_option linter.unusedVariables false
variable (w0 : World) (H : Hp)
/-- What a deed answers: its entries, and a code. -/
def esV (H : Hp) : List En → Value
  | [] => .slice none 0 0
  | e :: t => .slice (some ⟨nid H 0, 0, some ((e :: t).length * 9)⟩) (e :: t).length (e :: t).length
def esO : List En → List (Option Ob)
  | [] => []
  | e :: t => [some (.row 35 (flat En.enc (e :: t)))]
def deedV (H : Hp) (r : List En × Int) : Value := .tuple #[esV H r.1, .int .i64 r.2]
theorem deed_end {l : List (Option Ob)} {j n m : Nat} {es : List En} {k : Int} {r : List En × Int} (hr : r = (es, k)) (hne : es ≠ []) (hn : n = es.length) (hm : m = es.length * 9) (hj : l[j]? = some (some (.row 35 (flat En.enc es)))) : ∃ l' sel v3, Hx H l = Hx H l' ∧ (∀ i ∈ sel, PlainOb ((l'[i]?).join)) ∧ sel.Nodup ∧ ren3 (rho H sel) (.tuple #[.slice (some ⟨nid H j, 0, some m⟩) n n, .int .i64 k]) = some v3 ∧ v3 = deedV H r ∧ Hx H (pick l' sel) = Hx H (esO r.1) := by
  subst hr hn hm
  obtain ⟨e, t, rfl⟩ : ∃ e t, es = e :: t := by
    cases es with
    | nil => exact absurd rfl hne
    | cons e t => exact ⟨e, t, rfl⟩
  refine ⟨l, [j], _, rfl, ?_, by simp, by simp [ren3, ren2, renL, ren1, rho_nid, idx_hit, plain]; rfl, rfl, by simp [pick, hj, esO]⟩
  intro i hi
  simp only [List.mem_singleton] at hi
  subst hi
  rw [hj]
  exact flat_plain (fun _ => rfl) (e :: t)
def joinR (R : Rm) (u n : ByteArray) : List En × Int :=
  if (rankB R.ks u == 0) = true then ([], 6)
  else if 0 ≤ idxP (isU u) R.ms 0 then ([], 3)
  else if 0 ≤ idxP (isN n) R.ms 0 then ([], 4)
  else if 5 ≤ (R.ms.length : Int) then ([], 5)
  else if (R.next == 0) = true then ([⟨R.name, 0, 6, u, em, em, em, em, 4⟩, ⟨R.name, IntKind.i64.wrap (R.next + ((1 : Nat) : Int)), 1, u, n, em, em, em, byRank 4⟩], 0)
  else ([⟨R.name, IntKind.i64.wrap (R.next + ((0 : Nat) : Int)), 1, u, n, em, em, em, byRank (rankB R.ks u)⟩], 0)
set_option maxHeartbeats 20000000 in
theorem l6Join_ok (R : Rm) (x : Ad) (u n : ByteArray) (hr : RmAt w0 H R x) : AFn Tryd.prog w0 46 #[.agg (R.enc x).toArray, .string u, .string n] H fun v H2 => v = deedV H (joinR R u n) ∧ H2 = Hx H (esO (joinR R u n).1) := by
  have hl := hr.lm
  refine AFn.news Tryd.func46 rfl (by kernel_rfl) ?_
  have r := Tryd.results46
  simp only [go_sem, cond, Nat.reduceAdd, Nat.reduceLeDiff, Nat.reduceEqDiff, Nat.reduceBEq, decide_true, decide_false, Int.toNat_natCast, r]
  simp only [go_sem, cond, Nat.reduceAdd, Nat.reduceLeDiff, Nat.reduceEqDiff, Nat.reduceBEq, decide_true, decide_false, Int.toNat_natCast, Rm.enc, r]
  refine call_eq (l6Rank_ok _ _ R x u (hr.old _)) ?_
  simp only [go_sem, cond, Nat.reduceAdd, Nat.reduceLeDiff, Nat.reduceEqDiff, Nat.reduceBEq, decide_true, decide_false, Int.toNat_natCast, Rm.enc, r]
  refine Br_intro ?_ ?_ <;> intro h1 <;> simp only [go_sem, cond, Nat.reduceAdd, Nat.reduceLeDiff, Nat.reduceEqDiff, Nat.reduceBEq, decide_true, decide_false, Int.toNat_natCast, Rm.enc, r, h1]
  · have e : joinR R u n = ([], 6) := by rw [joinR, if_pos h1]
    rw [e]
    exact ⟨_, [], _, rfl, by simp, List.nodup_nil, rfl, rfl, rfl⟩
  refine call_eq (l6Of_ok _ _ R x u (hr.old _)) ?_
  simp only [go_sem, cond, Nat.reduceAdd, Nat.reduceLeDiff, Nat.reduceEqDiff, Nat.reduceBEq, decide_true, decide_false, Int.toNat_natCast, Rm.enc, r, h1]
  refine Br_intro ?_ ?_ <;> intro h2 <;> simp only [go_sem, cond, Nat.reduceAdd, Nat.reduceLeDiff, Nat.reduceEqDiff, Nat.reduceBEq, decide_true, decide_false, Int.toNat_natCast, Rm.enc, r, h1, h2]
  · have e : joinR R u n = ([], 3) := by rw [joinR, if_neg (by rw [h1]; decide), if_pos (of_decide_eq_true h2)]
    rw [e]
    exact ⟨_, [], _, rfl, by simp, List.nodup_nil, rfl, rfl, rfl⟩
  refine call_eq (l6Nick_ok _ _ R x n (hr.old _)) ?_
  simp only [go_sem, cond, Nat.reduceAdd, Nat.reduceLeDiff, Nat.reduceEqDiff, Nat.reduceBEq, decide_true, decide_false, Int.toNat_natCast, Rm.enc, r, h1, h2]
  refine Br_intro ?_ ?_ <;> intro h3 <;> simp only [go_sem, cond, Nat.reduceAdd, Nat.reduceLeDiff, Nat.reduceEqDiff, Nat.reduceBEq, decide_true, decide_false, Int.toNat_natCast, Rm.enc, r, h1, h2, h3]
  · have e : joinR R u n = ([], 4) := by rw [joinR, if_neg (by rw [h1]; decide), if_neg (of_decide_eq_false h2), if_pos (of_decide_eq_true h3)]
    rw [e]
    exact ⟨_, [], _, rfl, by simp, List.nodup_nil, rfl, rfl, rfl⟩
  refine Br_intro ?_ ?_ <;> intro h4 <;> simp only [go_sem, cond, Nat.reduceAdd, Nat.reduceLeDiff, Nat.reduceEqDiff, Nat.reduceBEq, decide_true, decide_false, Int.toNat_natCast, Rm.enc, r, h1, h2, h3, h4]
  · have e : joinR R u n = ([], 5) := by rw [joinR, if_neg (by rw [h1]; decide), if_neg (of_decide_eq_false h2), if_neg (of_decide_eq_false h3), if_pos (of_decide_eq_true h4)]
    rw [e]
    exact ⟨_, [], _, rfl, by simp, List.nodup_nil, rfl, rfl, rfl⟩
  have e0 : joinR R u n = if (R.next == 0) = true then ([⟨R.name, 0, 6, u, em, em, em, em, 4⟩, ⟨R.name, IntKind.i64.wrap (R.next + ((1 : Nat) : Int)), 1, u, n, em, em, em, byRank 4⟩], 0) else ([⟨R.name, IntKind.i64.wrap (R.next + ((0 : Nat) : Int)), 1, u, n, em, em, em, byRank (rankB R.ks u)⟩], 0) := by
    rw [joinR, if_neg (by rw [h1]; decide), if_neg (of_decide_eq_false h2), if_neg (of_decide_eq_false h3), if_neg (of_decide_eq_false h4)]
  clear h2 h3 h4
  refine Req_intro ⟨_, rfl, rfl⟩ ?_
  simp only [go_sem, cond, Nat.reduceAdd, Nat.reduceLeDiff, Nat.reduceEqDiff, Nat.reduceBEq, decide_true, decide_false, Int.toNat_natCast, Rm.enc, r]
  refine Br_intro ?_ ?_ <;> intro h5 <;> simp only [go_sem, cond, Nat.reduceAdd, Nat.reduceLeDiff, Nat.reduceEqDiff, Nat.reduceBEq, decide_true, decide_false, Int.toNat_natCast, Rm.enc, r, h5]
  all_goals repeat' (first
    | (refine Both_intro ?_ ?_ <;> simp only [go_sem, cond, Nat.reduceAdd, Nat.reduceLeDiff, Nat.reduceEqDiff, Nat.reduceBEq, decide_true, decide_false, Int.toNat_natCast, Rm.enc, r, h5])
    | (refine Req_intro ⟨_, rfl, rfl⟩ ?_; simp only [go_sem, cond, Nat.reduceAdd, Nat.reduceLeDiff, Nat.reduceEqDiff, Nat.reduceBEq, decide_true, decide_false, Int.toNat_natCast, Rm.enc, r, h5])
    | (refine xw_tree (id := 14) [0, 1, 0, 4, 0, 16, 60, 0, 0, 0, 512, 2047, 0, 8191] (.q 0 (.q 2 (.q 4 (.q 5 (.q 7 (.q 8 (.q 9 (.l 1 (.l 3 (.q 6 (.b 10 (.b 11 (.e 12 (.d 1 (.d 3 (.e 13 .z)))) 12 (.d 1 (.d 3 (.e 11 (.e 13 .z))))) 12 (.e 10 (.d 1 (.d 3 (.e 11 (.e 13 .z)))))))))))))))) rfl (by kernel_rfl) ?_; simp only [go_sem, cond, Nat.reduceAdd, Nat.reduceLeDiff, Nat.reduceEqDiff, Nat.reduceBEq, decide_true, decide_false, Int.toNat_natCast, Rm.enc, r, h5])
    | (refine call_eq (l6ByRank_ok _ _ _) ?_; simp only [go_sem, cond, Nat.reduceAdd, Nat.reduceLeDiff, Nat.reduceEqDiff, Nat.reduceBEq, decide_true, decide_false, Int.toNat_natCast, Rm.enc, r, h5])
    | (refine appS_full (m := 1) (sl := 0) _ _ _ _ _ _ _ 1 _ _ _ rfl rfl rfl XF.lay_35 (by decide) (by rfl) (by decide) (by decide) ?_; simp only [go_sem, cond, Nat.reduceAdd, Nat.reduceLeDiff, Nat.reduceEqDiff, Nat.reduceBEq, decide_true, decide_false, Int.toNat_natCast, Rm.enc, r, h5])
    | (refine appS_full (m := 1) (sl := 1) _ _ _ _ _ _ _ 1 _ _ _ rfl rfl rfl XF.lay_35 (by decide) (by rfl) (by decide) (by decide) ?_; simp only [go_sem, cond, Nat.reduceAdd, Nat.reduceLeDiff, Nat.reduceEqDiff, Nat.reduceBEq, decide_true, decide_false, Int.toNat_natCast, Rm.enc, r, h5]))
  all_goals first
    | exact deed_end H (e0.trans (if_pos h5)) (List.cons_ne_nil _ _) rfl rfl rfl
    | exact deed_end H (e0.trans (if_neg (by rw [h5]; exact Bool.false_ne_true))) (List.cons_ne_nil _ _) rfl rfl rfl
end Go.Proofs.YtcmflpdgfddmeaaDoorW.FA

namespace Go.Proofs.YtcmflpdgfddmeaaDoorW.FA
open Go.RowKit Go.Proofs.YtcmflpdgfddmeaaDoorW.XM Go.Proofs Go.Proofs.YtcmflpdgfddmeaaDoorW.XWords
set_option maxRecDepth 100000
set_option linter.unusedSimpArgs false
set_option linter.unusedVariables false
variable (w0 : World) (H : Hp)
def roleE (R : Rm) (m : Mem) (s : Sy) : En := ⟨R.name, R.next, if (s.num == 0) = true then 2 else 5, m.user, nickU R m.user, em, em, em, if (s.num == 0) = true then 1 else s.num⟩
def roleR (R : Rm) (u : ByteArray) (s : Sy) : List En × Int :=
  match R.ms.find? (isU u) with
  | none => ([], 7)
  | some a =>
    if (a.role == 3) = false then ([], 7)
    else match R.ms.find? (isN s.nick) with
    | none => ([], 8)
    | some m =>
      if (decide (rankB R.ks u < rankB R.ks m.user) || (decide (3 ≤ rankB R.ks m.user) && !(s.num == 3))) = true then ([], 7)
      else if (m.role == s.num) = true then ([], 0)
      else ([roleE R m s], 0)
theorem nil_end {l : List (Option Ob)} {k : Int} {r : List En × Int} (hr : r = ([], k)) : ∃ l' sel v3, Hx H l = Hx H l' ∧ (∀ i ∈ sel, PlainOb ((l'[i]?).join)) ∧ sel.Nodup ∧ ren3 (rho H sel) (.tuple #[.slice none 0 0, .int .i64 k]) = some v3 ∧ v3 = deedV H r ∧ Hx H (pick l' sel) = Hx H (esO r.1) := by
  subst hr
  exact ⟨l, [], _, rfl, by simp, List.nodup_nil, rfl, rfl, rfl⟩
set_option maxHeartbeats 20000000 in
theorem l6Role_ok (R : Rm) (x : Ad) (u : ByteArray) (s : Sy) (hr : RmAt w0 H R x) (hu : (R.ms.find? (isU u)).isSome = true) : AFn Tryd.prog w0 63 #[.agg (R.enc x).toArray, .string u, .agg s.enc.toArray] H fun v H2 => v = deedV H (roleR R u s) ∧ H2 = Hx H (esO (roleR R u s).1) := by
  obtain ⟨xa, xc, xb, xd⟩ := x
  have hl := hr.lm
  refine AFn.news Tryd.func63 rfl (by kernel_rfl) ?_
  have r := Tryd.results63
  simp only [go_sem, cond, Nat.reduceAdd, Nat.reduceLeDiff, Nat.reduceEqDiff, Nat.reduceBEq, decide_true, decide_false, Int.toNat_natCast, r]
  simp only [go_sem, cond, Nat.reduceAdd, Nat.reduceLeDiff, Nat.reduceEqDiff, Nat.reduceBEq, decide_true, decide_false, Int.toNat_natCast, Rm.enc, Sy.enc, r]
  refine call_eq (l6Nick_ok _ _ R _ s.nick (hr.old _)) ?_
  simp only [go_sem, cond, Nat.reduceAdd, Nat.reduceLeDiff, Nat.reduceEqDiff, Nat.reduceBEq, decide_true, decide_false, Int.toNat_natCast, Rm.enc, Sy.enc, r]
  rcases idxP_find (isU u) R.ms 0 with ⟨f1, f2⟩ | ⟨j, hj, f1, f2⟩
  · rw [f2] at hu; cases hu
  rw [Nat.zero_add] at f1
  obtain ⟨b, o, sp, rfl, hc, hw⟩ := mcell hr.sm hj
  have d1 : ((0 : Int) ≤ (j : Int)) = True := eq_true (by omega)
  have d2 : ((j : Int) < (R.ms.length : Int)) = True := eq_true (by omega)
  have c0 := fun L => hc 2 (.int .i64 R.ms[j].role) L (by decide) rfl
  (refine xw_open (id := 2) [0, 1, 0, 0, 12, 31, 63, 127, 255] [.q 0, .q 3, .l 1, .q 2, .e 4, .q 5, .q 6, .q 7, .q 8] rfl (by kernel_rfl) ?_; simp only [go_sem, cond, Nat.reduceAdd, Nat.reduceLeDiff, Nat.reduceEqDiff, Nat.reduceBEq, decide_true, decide_false, Int.toNat_natCast, Rm.enc, Sy.enc, r, d1, d2, c0])
  refine call_eq (l6Of_ok _ _ R _ u (hr.old _)) ?_
  rw [f1]
  simp only [go_sem, cond, Nat.reduceAdd, Nat.reduceLeDiff, Nat.reduceEqDiff, Nat.reduceBEq, decide_true, decide_false, Int.toNat_natCast, Rm.enc, Sy.enc, r, d1, d2, c0]
  refine Br_intro ?_ ?_ <;> intro h1 <;> simp only [go_sem, cond, Nat.reduceAdd, Nat.reduceLeDiff, Nat.reduceEqDiff, Nat.reduceBEq, decide_true, decide_false, Int.toNat_natCast, Rm.enc, Sy.enc, r, d1, d2, c0, h1]
  case' refine_2 =>
    have e : roleR R u s = ([], 7) := by simp only [roleR, f2, h1, if_true]
    rw [e]
    exact ⟨_, [], _, rfl, by simp, List.nodup_nil, rfl, rfl, rfl⟩
  rcases idxP_find (isN s.nick) R.ms 0 with ⟨g1, g2⟩ | ⟨a, ha, g1, g2⟩
  · rw [g1]
    have d3 : ((-1 : Int) < 0) = True := eq_true (by omega)
    simp only [go_sem, cond, Nat.reduceAdd, Nat.reduceLeDiff, Nat.reduceEqDiff, Nat.reduceBEq, decide_true, decide_false, Int.toNat_natCast, Rm.enc, Sy.enc, r, d1, d2, c0, h1, d3]
    have e : roleR R u s = ([], 8) := by simp only [roleR, f2, h1, g2, Bool.true_eq_false, if_false]
    rw [e]
    exact ⟨_, [], _, rfl, by simp, List.nodup_nil, rfl, rfl, rfl⟩
  rw [g1, Nat.zero_add]
  have d3 : ((a : Int) < 0) = False := eq_false (by omega)
  have d4 : ((0 : Int) ≤ (a : Int)) = True := eq_true (by omega)
  have d5 : ((a : Int) < (R.ms.length : Int)) = True := eq_true (by omega)
  obtain ⟨b2, o2, sp2, hA, hc2, hw2⟩ := mcell hr.sm ha
  cases hA
  have c1 := fun L => hw2 L rfl
  simp only [Mem.enc] at c1
  simp only [go_sem, cond, Nat.reduceAdd, Nat.reduceLeDiff, Nat.reduceEqDiff, Nat.reduceBEq, decide_true, decide_false, Int.toNat_natCast, Rm.enc, Sy.enc, r, d3, d4, d5, c1]
  refine call_eq (l6Rank_ok _ _ R _ _ (hr.old _)) ?_
  simp only [go_sem, cond, Nat.reduceAdd, Nat.reduceLeDiff, Nat.reduceEqDiff, Nat.reduceBEq, decide_true, decide_false, Int.toNat_natCast, Rm.enc, Sy.enc, r]
  refine call_eq (l6Rank_ok _ _ R _ _ (hr.old _)) ?_
  simp only [go_sem, cond, Nat.reduceAdd, Nat.reduceLeDiff, Nat.reduceEqDiff, Nat.reduceBEq, decide_true, decide_false, Int.toNat_natCast, Rm.enc, Sy.enc, r]
  clear c0 c1 hc hw hc2 hw2 d1 d2 d3 d4 d5
  have e0 : roleR R u s = if (decide (rankB R.ks u < rankB R.ks R.ms[a].user) || (decide (3 ≤ rankB R.ks R.ms[a].user) && !(s.num == 3))) = true then ([], 7) else if (R.ms[a].role == s.num) = true then ([], 0) else ([roleE R R.ms[a] s], 0) := by
    simp only [roleR, f2, h1, g2, Bool.true_eq_false, if_false]
  repeat' (first
    | (refine Br_intro ?_ ?_ <;> intro h2 <;> simp only [go_sem, cond, Nat.reduceAdd, Nat.reduceLeDiff, Nat.reduceEqDiff, Nat.reduceBEq, decide_true, decide_false, Int.toNat_natCast, Rm.enc, Sy.enc, r, h2])
    | (refine Req_intro ⟨_, rfl, rfl⟩ ?_; simp only [go_sem, cond, Nat.reduceAdd, Nat.reduceLeDiff, Nat.reduceEqDiff, Nat.reduceBEq, decide_true, decide_false, Int.toNat_natCast, Rm.enc, Sy.enc, r])
    | (refine call_eq (l6Entry_ok _ _ R _ _ _ (hr.old _)) ?_; simp only [go_sem, cond, Nat.reduceAdd, Nat.reduceLeDiff, Nat.reduceEqDiff, Nat.reduceBEq, decide_true, decide_false, Int.toNat_natCast, Rm.enc, Sy.enc, En.enc, entR, r]))
  all_goals first
    | (refine nil_end H (e0.trans ?_)
       simp only [*, Bool.true_or, Bool.false_or, Bool.true_and, Bool.false_and, Bool.and_true, Bool.and_false, Bool.not_true, Bool.not_false, Bool.false_eq_true, if_true, if_false])
    | (refine deed_end H (es := [roleE R R.ms[a] s]) (e0.trans ?_) (List.cons_ne_nil _ _) rfl rfl ?_
       · simp only [*, Bool.true_or, Bool.false_or, Bool.true_and, Bool.false_and, Bool.and_true, Bool.and_false, Bool.not_true, Bool.not_false, Bool.false_eq_true, if_true, if_false]
       · simp only [roleE, h2, Bool.false_eq_true, if_true, if_false]; rfl)
end Go.Proofs.YtcmflpdgfddmeaaDoorW.FA

namespace Go.Proofs.YtcmflpdgfddmeaaDoorW.FA
open Go.RowKit Go.Proofs.YtcmflpdgfddmeaaDoorW.XM Go.Proofs Go.Proofs.YtcmflpdgfddmeaaDoorW.XWords
set_option maxRecDepth 100000
set_option linter.unusedSimpArgs false
set_option linter.unusedVariables false
variable (w0 : World) (H : Hp)
def ent6 (R : Rm) (s : Sy) (n : Nat) : En := ⟨R.name, IntKind.i64.wrap (R.next + (n : Int)), 6, s.name, em, em, em, em, s.num⟩
def setL (R : Rm) (s : Sy) : List En :=
  match R.ms.find? (isU s.name) with
  | none => [ent6 R s 0]
  | some m =>
    if (s.num == 0) = true then [⟨R.name, R.next, 2, s.name, nickU R s.name, em, em, em, 2⟩, ent6 R s 1]
    else if (decide (3 ≤ s.num) && !(m.role == 3)) = true then [ent6 R s 0, ⟨R.name, IntKind.i64.wrap (R.next + ((1 : Nat) : Int)), 5, s.name, nickU R s.name, em, em, em, 3⟩]
    else [ent6 R s 0]
def setR (R : Rm) (u : ByteArray) (s : Sy) : List En × Int :=
  if (decide (rankB R.ks u < 3) || ((rankB R.ks u == 3) && (decide (3 ≤ rankB R.ks s.name) || decide (3 ≤ s.num)))) = true then ([], 7)
  else if (rankB R.ks s.name == s.num) = true then ([], 0)
  else if ((rankB R.ks s.name == 4) && (((ownB R.ks : Nat) : Int) == 1)) = true then ([], 9)
  else if ((rankB R.ks s.name == 1) && decide (6 ≤ (R.ks.length : Int))) = true then ([], 5)
  else (setL R s, 0)
theorem i66 (x : ByteArray) : (if ((6 : Int) == 6) = true then em else x) = em := rfl
theorem i26 (x : ByteArray) : (if ((2 : Int) == 6) = true then em else x) = x := rfl
theorem i56 (x : ByteArray) : (if ((5 : Int) == 6) = true then em else x) = x := rfl
set_option maxHeartbeats 20000000 in
theorem l6SetRank_ok (R : Rm) (x : Ad) (u : ByteArray) (s : Sy) (hr : RmAt w0 H R x) : AFn Tryd.prog w0 64 #[.agg (R.enc x).toArray, .string u, .agg s.enc.toArray] H fun v H2 => v = deedV H (setR R u s) ∧ H2 = Hx H (esO (setR R u s).1) := by
  obtain ⟨xa, xc, xb, xd⟩ := x
  have hl := hr.lm
  refine AFn.news Tryd.func64 rfl (by kernel_rfl) ?_
  have r := Tryd.results64
  simp only [go_sem, cond, Nat.reduceAdd, Nat.reduceLeDiff, Nat.reduceEqDiff, Nat.reduceBEq, decide_true, decide_false, Int.toNat_natCast, r]
  simp only [go_sem, cond, Nat.reduceAdd, Nat.reduceLeDiff, Nat.reduceEqDiff, Nat.reduceBEq, decide_true, decide_false, Int.toNat_natCast, Rm.enc, Sy.enc, r]
  refine call_eq (l6Rank_ok _ _ R _ _ (hr.old _)) ?_
  simp only [go_sem, cond, Nat.reduceAdd, Nat.reduceLeDiff, Nat.reduceEqDiff, Nat.reduceBEq, decide_true, decide_false, Int.toNat_natCast, Rm.enc, Sy.enc, r]
  refine call_eq (l6Rank_ok _ _ R _ _ (hr.old _)) ?_
  simp only [go_sem, cond, Nat.reduceAdd, Nat.reduceLeDiff, Nat.reduceEqDiff, Nat.reduceBEq, decide_true, decide_false, Int.toNat_natCast, Rm.enc, Sy.enc, r]
  have e0 : setR R u s = if (decide (rankB R.ks u < 3) || ((rankB R.ks u == 3) && (decide (3 ≤ rankB R.ks s.name) || decide (3 ≤ s.num)))) = true then ([], 7) else if (rankB R.ks s.name == s.num) = true then ([], 0) else if ((rankB R.ks s.name == 4) && (((ownB R.ks : Nat) : Int) == 1)) = true then ([], 9) else if ((rankB R.ks s.name == 1) && decide (6 ≤ (R.ks.length : Int))) = true then ([], 5) else (setL R s, 0) := rfl
  repeat' (first
    | (refine Br_intro ?_ ?_ <;> intro h2 <;> simp only [go_sem, cond, Nat.reduceAdd, Nat.reduceLeDiff, Nat.reduceEqDiff, Nat.reduceBEq, decide_true, decide_false, Int.toNat_natCast, Rm.enc, Sy.enc, r, h2])
    | (refine call_eq (l6Owners_ok _ _ R _ (hr.old _)) ?_; simp only [go_sem, cond, Nat.reduceAdd, Nat.reduceLeDiff, Nat.reduceEqDiff, Nat.reduceBEq, decide_true, decide_false, Int.toNat_natCast, Rm.enc, Sy.enc, r])
    | (refine nil_end H (e0.trans ?_)
       simp only [*, Bool.true_or, Bool.false_or, Bool.or_true, Bool.or_false, Bool.true_and, Bool.false_and, Bool.and_true, Bool.and_false, Bool.not_true, Bool.not_false, Bool.false_eq_true, if_true, if_false]
       done))
  all_goals
    have e1 : setR R u s = (setL R s, 0) := e0.trans (by simp only [*, Bool.true_or, Bool.false_or, Bool.or_true, Bool.or_false, Bool.true_and, Bool.false_and, Bool.and_true, Bool.and_false, Bool.not_true, Bool.not_false, Bool.false_eq_true, if_true, if_false])
    clear e0
    refine Req_intro ⟨_, rfl, rfl⟩ ?_
    simp only [go_sem, cond, Nat.reduceAdd, Nat.reduceLeDiff, Nat.reduceEqDiff, Nat.reduceBEq, decide_true, decide_false, Int.toNat_natCast, Rm.enc, Sy.enc, r]
    refine call_eq (l6Of_ok _ _ R _ _ (hr.old _)) ?_
    rcases idxP_find (isU s.name) R.ms 0 with ⟨g1, g2⟩ | ⟨a, ha, g1, g2⟩
    · rw [g1]
      have d3 : ((0 : Int) ≤ (-1 : Int)) = False := eq_false (by omega)
      simp only [go_sem, cond, Nat.reduceAdd, Nat.reduceLeDiff, Nat.reduceEqDiff, Nat.reduceBEq, decide_true, decide_false, Int.toNat_natCast, Rm.enc, Sy.enc, r, d3]
      repeat' (first
    | (refine Br_intro ?_ ?_ <;> intro h2 <;> simp only [go_sem, cond, Nat.reduceAdd, Nat.reduceLeDiff, Nat.reduceEqDiff, Nat.reduceBEq, decide_true, decide_false, Int.toNat_natCast, Rm.enc, Sy.enc, r, d3, h2])
    | (refine Req_intro ⟨_, rfl, rfl⟩ ?_; simp only [go_sem, cond, Nat.reduceAdd, Nat.reduceLeDiff, Nat.reduceEqDiff, Nat.reduceBEq, decide_true, decide_false, Int.toNat_natCast, Rm.enc, Sy.enc, r, d3])
    | (refine call_eq (l6Entry_ok _ _ R _ _ _ (hr.old _)) ?_; simp only [go_sem, cond, Nat.reduceAdd, Nat.reduceLeDiff, Nat.reduceEqDiff, Nat.reduceBEq, decide_true, decide_false, Int.toNat_natCast, Rm.enc, Sy.enc, En.enc, entR, i66, i26, i56, r, d3])
    | (refine appS_full (m := 1) (sl := 0) _ _ _ _ _ _ _ 2 _ _ _ rfl rfl rfl XF.lay_35 (by decide) (by rfl) (by decide) (by decide) ?_; simp only [go_sem, cond, Nat.reduceAdd, Nat.reduceLeDiff, Nat.reduceEqDiff, Nat.reduceBEq, decide_true, decide_false, Int.toNat_natCast, Rm.enc, Sy.enc, r, d3])
    | (refine appS_full (m := 1) (sl := 1) _ _ _ _ _ _ _ 2 _ _ _ rfl rfl rfl XF.lay_35 (by decide) (by rfl) (by decide) (by decide) ?_; simp only [go_sem, cond, Nat.reduceAdd, Nat.reduceLeDiff, Nat.reduceEqDiff, Nat.reduceBEq, decide_true, decide_false, Int.toNat_natCast, Rm.enc, Sy.enc, r, d3]))
      all_goals exact deed_end H (es := [ent6 R s 0]) (e1.trans (congrArg (fun l => (l, 0)) (by simp only [setL, g2]))) (List.cons_ne_nil _ _) rfl rfl rfl
    · rw [g1, Nat.zero_add]
      obtain ⟨b, o, sp, rfl, hc, hw⟩ := mcell hr.sm ha
      have d4 : ((0 : Int) ≤ (a : Int)) = True := eq_true (by omega)
      have d5 : ((a : Int) < (R.ms.length : Int)) = True := eq_true (by omega)
      have c0 := fun L => hc 2 (.int .i64 R.ms[a].role) L (by decide) rfl
      simp only [go_sem, cond, Nat.reduceAdd, Nat.reduceLeDiff, Nat.reduceEqDiff, Nat.reduceBEq, decide_true, decide_false, Int.toNat_natCast, Rm.enc, Sy.enc, r, d4, d5, c0]
      repeat' (first
    | (refine Br_intro ?_ ?_ <;> intro h2 <;> simp only [go_sem, cond, Nat.reduceAdd, Nat.reduceLeDiff, Nat.reduceEqDiff, Nat.reduceBEq, decide_true, decide_false, Int.toNat_natCast, Rm.enc, Sy.enc, r, d4, d5, c0, h2])
    | (refine Req_intro ⟨_, rfl, rfl⟩ ?_; simp only [go_sem, cond, Nat.reduceAdd, Nat.reduceLeDiff, Nat.reduceEqDiff, Nat.reduceBEq, decide_true, decide_false, Int.toNat_natCast, Rm.enc, Sy.enc, r, d4, d5, c0])
    | (refine call_eq (l6Entry_ok _ _ R _ _ _ (hr.old _)) ?_; simp only [go_sem, cond, Nat.reduceAdd, Nat.reduceLeDiff, Nat.reduceEqDiff, Nat.reduceBEq, decide_true, decide_false, Int.toNat_natCast, Rm.enc, Sy.enc, En.enc, entR, i66, i26, i56, r, d4, d5, c0])
    | (refine appS_full (m := 1) (sl := 0) _ _ _ _ _ _ _ 2 _ _ _ rfl rfl rfl XF.lay_35 (by decide) (by rfl) (by decide) (by decide) ?_; simp only [go_sem, cond, Nat.reduceAdd, Nat.reduceLeDiff, Nat.reduceEqDiff, Nat.reduceBEq, decide_true, decide_false, Int.toNat_natCast, Rm.enc, Sy.enc, r, d4, d5, c0])
    | (refine appS_full (m := 1) (sl := 1) _ _ _ _ _ _ _ 2 _ _ _ rfl rfl rfl XF.lay_35 (by decide) (by rfl) (by decide) (by decide) ?_; simp only [go_sem, cond, Nat.reduceAdd, Nat.reduceLeDiff, Nat.reduceEqDiff, Nat.reduceBEq, decide_true, decide_false, Int.toNat_natCast, Rm.enc, Sy.enc, r, d4, d5, c0]))
      all_goals first
        | exact deed_end H (es := [ent6 R s 0]) (e1.trans (congrArg (fun l => (l, 0)) (by simp only [setL, g2, *, Bool.true_or, Bool.false_or, Bool.or_true, Bool.or_false, Bool.true_and, Bool.false_and, Bool.and_true, Bool.and_false, Bool.not_true, Bool.not_false, Bool.false_eq_true, if_true, if_false]; done))) (List.cons_ne_nil _ _) rfl rfl rfl
        | exact deed_end H (es := [⟨R.name, R.next, 2, s.name, nickU R s.name, em, em, em, 2⟩, ent6 R s 1]) (e1.trans (congrArg (fun l => (l, 0)) (by simp only [setL, g2, *, Bool.true_or, Bool.false_or, Bool.or_true, Bool.or_false, Bool.true_and, Bool.false_and, Bool.and_true, Bool.and_false, Bool.not_true, Bool.not_false, Bool.false_eq_true, if_true, if_false]; done))) (List.cons_ne_nil _ _) rfl rfl rfl
        | (refine deed_end H (es := [ent6 R s 0, ⟨R.name, IntKind.i64.wrap (R.next + ((1 : Nat) : Int)), 5, s.name, nickU R s.name, em, em, em, 3⟩]) (e1.trans (congrArg (fun l => (l, 0)) ?_)) (List.cons_ne_nil _ _) rfl rfl rfl; simp only [setL, g2, *, Bool.true_or, Bool.false_or, Bool.or_true, Bool.or_false, Bool.true_and, Bool.false_and, Bool.and_true, Bool.and_false, Bool.not_true, Bool.not_false, Bool.false_eq_true, if_true, if_false]; done)
        | (exfalso
           simp only [beq_iff_eq, beq_eq_false_iff_ne, decide_eq_true_eq, decide_eq_false_iff_not] at *
           omega)
        | trace_state
end Go.Proofs.YtcmflpdgfddmeaaDoorW.FA

namespace Go.Proofs.YtcmflpdgfddmeaaDoorW.FA
open Go.RowKit Go.Proofs.YtcmflpdgfddmeaaDoorW.XM Go.Proofs Go.Proofs.YtcmflpdgfddmeaaDoorW.XWords
set_option maxRecDepth 100000
set_option linter.unusedSimpArgs false
set_option linter.unusedVariables false
variable (w0 : World) (H : Hp)
def leaveE (R : Rm) (u : ByteArray) : En := ⟨R.name, R.next, 2, u, nickU R u, em, em, em, 0⟩
def talkE (R : Rm) (u : ByteArray) (s : Sy) : En := ⟨R.name, R.next, 3, u, nickU R u, s.text, s.id, s.ref, 0⟩
def subjE (R : Rm) (u : ByteArray) (s : Sy) : En := ⟨R.name, R.next, 4, u, nickU R u, s.text, s.id, em, 0⟩
def insR (R : Rm) (log : List En) (u : ByteArray) (s : Sy) : List En × Int :=
  if (s.kind == 7) = true then ([leaveE R u], 0)
  else if (s.kind == 8) = true then
    (match R.ms.find? (isU u) with
    | none => ([], 7)
    | some m =>
      if m.role < 2 then ([], 7)
      else if (!(s.ref.toList == em.toList) && !(log.any (saidP R.name u s.ref))) = true then ([], 10)
      else ([talkE R u s], 0))
  else if (s.kind == 9) = true then
    (match R.ms.find? (isU u) with
    | none => ([], 7)
    | some m => if (m.role == 3) = false then ([], 7) else ([subjE R u s], 0))
  else if (s.kind == 10) = true then roleR R u s
  else setR R u s
/-- A deed that is handed on. -/
theorem pass_end {l : List (Option Ob)} {r q : List En × Int} (hq : q = r) : ∃ l' sel v3, Hx (Hx H l) (esO r.1) = Hx H l' ∧ (∀ i ∈ sel, PlainOb ((l'[i]?).join)) ∧ sel.Nodup ∧ ren3 (rho H sel) (.tuple #[esV (Hx H l) r.1, .int .i64 r.2]) = some v3 ∧ v3 = deedV H q ∧ Hx H (pick l' sel) = Hx H (esO q.1) := by
  subst hq
  obtain ⟨es, k⟩ := q
  cases es with
  | nil =>
    show ∃ l' sel v3, Hx (Hx H l) [] = Hx H l' ∧ _ ∧ _ ∧ ren3 (rho H sel) (.tuple #[.slice none 0 0, .int .i64 k]) = some v3 ∧ _
    rw [Hx_nil]
    exact nil_end H (r := ([], k)) rfl
  | cons e t =>
    have hn : nid (Hx H l) 0 = nid H l.length := by unfold nid Hx; simp
    show ∃ l' sel v3, Hx (Hx H l) (esO (e :: t)) = Hx H l' ∧ _ ∧ _ ∧ ren3 (rho H sel) (.tuple #[esV (Hx H l) (e :: t), .int .i64 k]) = some v3 ∧ _
    rw [Hx_Hx]
    unfold esV
    rw [hn]
    exact deed_end H (es := e :: t) (r := (e :: t, k)) rfl (List.cons_ne_nil _ _) rfl rfl (by simp [esO])
theorem i36 (x : ByteArray) : (if ((3 : Int) == 6) = true then em else x) = x := rfl
theorem i46 (x : ByteArray) : (if ((4 : Int) == 6) = true then em else x) = x := rfl
theorem pass_end' {l M : List (Option Ob)} {r q : List En × Int} (hM : M = l ++ esO r.1) (hq : q = r) : ∃ l' sel v3, Hx H M = Hx H l' ∧ (∀ i ∈ sel, PlainOb ((l'[i]?).join)) ∧ sel.Nodup ∧ ren3 (rho H sel) (.tuple #[esV (Hx H l) r.1, .int .i64 r.2]) = some v3 ∧ v3 = .tuple #[esV H q.1, .int .i64 q.2] ∧ Hx H (pick l' sel) = Hx H (esO q.1) := by
  subst hM
  rw [← Hx_Hx]
  exact pass_end H hq
set_option maxHeartbeats 20000000 in
theorem l6Inside_ok (R : Rm) (x : Ad) (es : List En) (A : Option Addr) (c : Nat) (u : ByteArray) (s : Sy) (hr : RmAt w0 H R x) (hs : Sl w0 H A 9 (es.map En.enc)) (hl2 : es.length ≤ 2000000) (hu : (R.ms.find? (isU u)).isSome = true) : AFn Tryd.prog w0 48 #[.agg (R.enc x).toArray, .slice A es.length c, .string u, .agg s.enc.toArray] H fun v H2 => v = deedV H (insR R es u s) ∧ H2 = Hx H (esO (insR R es u s).1) := by
  obtain ⟨xa, xc, xb, xd⟩ := x
  have hl := hr.lm
  refine AFn.news Tryd.func48 rfl (by kernel_rfl) ?_
  have r := Tryd.results48
  simp only [go_sem, cond, Nat.reduceAdd, Nat.reduceLeDiff, Nat.reduceEqDiff, Nat.reduceBEq, decide_true, decide_false, Int.toNat_natCast, r]
  simp only [go_sem, cond, Nat.reduceAdd, Nat.reduceLeDiff, Nat.reduceEqDiff, Nat.reduceBEq, decide_true, decide_false, Int.toNat_natCast, Rm.enc, Sy.enc, r]
  rcases idxP_find (isU u) R.ms 0 with ⟨f1, f2⟩ | ⟨j, hj, f1, f2⟩
  · rw [f2] at hu; cases hu
  rw [Nat.zero_add] at f1
  obtain ⟨b, o, sp, rfl, hc, hw⟩ := mcell hr.sm hj
  have d1 : ((0 : Int) ≤ (j : Int)) = True := eq_true (by omega)
  have d2 : ((j : Int) < (R.ms.length : Int)) = True := eq_true (by omega)
  have c0 := fun L => hw L rfl
  simp only [Mem.enc] at c0
  have e0 : insR R es u s = if (s.kind == 7) = true then ([leaveE R u], 0) else if (s.kind == 8) = true then (if decide (R.ms[j].role < 2) = true then ([], 7) else if (!(s.ref.toList == (ByteArray.mk #[]).toList) && !(es.any (saidP R.name u s.ref))) = true then ([], 10) else ([talkE R u s], 0)) else if (s.kind == 9) = true then (if (R.ms[j].role == 3) = false then ([], 7) else ([subjE R u s], 0)) else if (s.kind == 10) = true then roleR R u s else setR R u s := by
    simp only [insR, f2, decide_eq_true_eq]
  repeat' (first
    | (refine Both_intro ?_ ?_ <;> simp only [go_sem, cond, Nat.reduceAdd, Nat.reduceLeDiff, Nat.reduceEqDiff, Nat.reduceBEq, decide_true, decide_false, Int.toNat_natCast, Rm.enc, Sy.enc, r, d1, d2, c0])
    | (refine xw_tree (id := 1) [0, 1, 0, 0, 12, 31, 63, 0, 255] (.q 0 (.q 3 (.l 1 (.l 2 (.b 4 (.q 5 (.l 6 (.e 7 (.d 1 (.d 2 (.d 6 (.e 8 .z))))))) 7 (.d 2 (.e 4 (.d 1 (.q 5 (.q 6 (.e 8 .z))))))))))) rfl (by kernel_rfl) ?_; simp only [go_sem, cond, Nat.reduceAdd, Nat.reduceLeDiff, Nat.reduceEqDiff, Nat.reduceBEq, decide_true, decide_false, Int.toNat_natCast, Rm.enc, Sy.enc, r, d1, d2, c0])
    | (refine call_eq (l6Of_ok _ _ R _ u (hr.old _)) ?_; rw [f1]; simp only [go_sem, cond, Nat.reduceAdd, Nat.reduceLeDiff, Nat.reduceEqDiff, Nat.reduceBEq, decide_true, decide_false, Int.toNat_natCast, Rm.enc, Sy.enc, r, d1, d2, c0])
    | (refine Br_intro ?_ ?_ <;> intro h2 <;> simp only [go_sem, cond, Nat.reduceAdd, Nat.reduceLeDiff, Nat.reduceEqDiff, Nat.reduceBEq, decide_true, decide_false, Int.toNat_natCast, Rm.enc, Sy.enc, r, d1, d2, c0, h2])
    | (refine Req_intro ⟨_, rfl, rfl⟩ ?_; simp only [go_sem, cond, Nat.reduceAdd, Nat.reduceLeDiff, Nat.reduceEqDiff, Nat.reduceBEq, decide_true, decide_false, Int.toNat_natCast, Rm.enc, Sy.enc, r, d1, d2, c0])
    | (refine call_eq (l6Entry_ok _ _ R _ _ _ (hr.old _)) ?_; simp only [go_sem, cond, Nat.reduceAdd, Nat.reduceLeDiff, Nat.reduceEqDiff, Nat.reduceBEq, decide_true, decide_false, Int.toNat_natCast, Rm.enc, Sy.enc, r, d1, d2, c0, En.enc, entR, i26, i36, i46])
    | (refine call_eq (l6Said_ok _ _ es _ _ _ _ _ (hs.old _) hl2) ?_; simp only [go_sem, cond, Nat.reduceAdd, Nat.reduceLeDiff, Nat.reduceEqDiff, Nat.reduceBEq, decide_true, decide_false, Int.toNat_natCast, Rm.enc, Sy.enc, r, d1, d2, c0])
    | (refine call_eq (l6Role_ok _ _ R _ u s (hr.old _) hu) ?_; simp only [go_sem, cond, Nat.reduceAdd, Nat.reduceLeDiff, Nat.reduceEqDiff, Nat.reduceBEq, decide_true, decide_false, Int.toNat_natCast, r, deedV])
    | (refine call_eq (l6SetRank_ok _ _ R _ u s (hr.old _)) ?_; simp only [go_sem, cond, Nat.reduceAdd, Nat.reduceLeDiff, Nat.reduceEqDiff, Nat.reduceBEq, decide_true, decide_false, Int.toNat_natCast, r, deedV]))
  all_goals clear hc hw c0 d1 d2 hs
  all_goals first
    | (refine nil_end H (e0.trans ?_); simp only [*, Bool.true_or, Bool.false_or, Bool.or_true, Bool.or_false, Bool.true_and, Bool.false_and, Bool.and_true, Bool.and_false, Bool.not_true, Bool.not_false, Bool.false_eq_true, Bool.true_eq_false, if_true, if_false]; done)
    | (refine deed_end H (es := [leaveE R u]) (e0.trans ?_) (List.cons_ne_nil _ _) rfl rfl rfl; simp only [*, Bool.true_or, Bool.false_or, Bool.or_true, Bool.or_false, Bool.true_and, Bool.false_and, Bool.and_true, Bool.and_false, Bool.not_true, Bool.not_false, Bool.false_eq_true, Bool.true_eq_false, if_true, if_false]; done)
    | (refine deed_end H (es := [talkE R u s]) (e0.trans ?_) (List.cons_ne_nil _ _) rfl rfl rfl; simp only [*, Bool.true_or, Bool.false_or, Bool.or_true, Bool.or_false, Bool.true_and, Bool.false_and, Bool.and_true, Bool.and_false, Bool.not_true, Bool.not_false, Bool.false_eq_true, Bool.true_eq_false, if_true, if_false]; done)
    | (refine deed_end H (es := [subjE R u s]) (e0.trans ?_) (List.cons_ne_nil _ _) rfl rfl rfl; simp only [*, Bool.true_or, Bool.false_or, Bool.or_true, Bool.or_false, Bool.true_and, Bool.false_and, Bool.and_true, Bool.and_false, Bool.not_true, Bool.not_false, Bool.false_eq_true, Bool.true_eq_false, if_true, if_false]; done)
    | (refine pass_end' H ?_ (e0.trans ?_); · rfl
       simp only [*, Bool.true_or, Bool.false_or, Bool.or_true, Bool.or_false, Bool.true_and, Bool.false_and, Bool.and_true, Bool.and_false, Bool.not_true, Bool.not_false, Bool.false_eq_true, Bool.true_eq_false, if_true, if_false]; done)
    | trace_state
end Go.Proofs.YtcmflpdgfddmeaaDoorW.FA

namespace Go.Proofs.YtcmflpdgfddmeaaDoorW.FA
open Go.RowKit Go.Proofs.YtcmflpdgfddmeaaDoorW.XM Go.Proofs Go.Proofs.YtcmflpdgfddmeaaDoorW.XWords
set_option maxRecDepth 100000
set_option linter.unusedSimpArgs false
set_option linter.unusedVariables false
variable (w0 : World) (H : Hp)
theorem stpK_le (u : ByteArray) (num : Int) (x : Rk) (st : Bool × List Rk) : (stpK u num x st).2.length + (if (stpK u num x st).1 = true then 0 else 1) ≤ st.2.length + (if st.1 = true then 0 else 1) + 1 := by
  obtain ⟨dn, out⟩ := st
  unfold stpK
  cases dn <;> cases Op.bytesLess x.user.toList u.toList <;> cases (x.user.toList == u.toList) <;> simp
theorem runK_le (u : ByteArray) (num : Int) : ∀ (l : List Rk) (st : Bool × List Rk), (runK u num l st).2.length + (if (runK u num l st).1 = true then 0 else 1) ≤ st.2.length + (if st.1 = true then 0 else 1) + l.length
  | [], st => by simp only [runK, List.foldl_nil, List.length_nil, Nat.add_zero]; exact Nat.le_refl _
  | x :: l, st => by
    have h1 := stpK_le u num x st
    have h2 := runK_le u num l (stpK u num x st)
    have e : runK u num (x :: l) st = runK u num l (stpK u num x st) := rfl
    rw [e, List.length_cons]
    omega
theorem rkd_le (u : ByteArray) (num : Int) (l : List Rk) : (rkd u num l).length ≤ l.length + 1 := by
  have h := runK_le u num l (num == 1, [])
  have e : rkd u num l = if (runK u num l (num == 1, [])).1 = true then (runK u num l (num == 1, [])).2 else (runK u num l (num == 1, [])).2 ++ [⟨u, num⟩] := rfl
  rw [e]
  have e2 : (if ((num == 1, ([] : List Rk)) : Bool × List Rk).1 = true then 0 else 1) ≤ 1 := by split <;> omega
  split at h <;> rename_i h3
  · rw [if_pos h3]; simp at h e2 ⊢; omega
  · rw [if_neg h3]; simp at h e2 ⊢; omega
theorem applyR_le (R : Rm) (e : En) : (applyR R e).ms.length ≤ R.ms.length + 1 ∧ (applyR R e).ks.length ≤ R.ks.length + 1 := by
  have h1 := rkd_le e.user e.num R.ks
  have h2 := (outI_mem R.ms (idxP (isU e.user) R.ms 0)).1
  have h3 := (roleI_mem R.ms (idxP (isU e.user) R.ms 0) e.num).1
  unfold applyR
  repeat' split
  all_goals first | omega | (simp; done) | (simp; omega)
theorem applyR_next (R : Rm) (e : En) : (applyR R e).next = IntKind.i64.wrap (e.seq + 1) := by
  unfold applyR
  repeat' split
  all_goals rfl
/-- A room behind a log. -/
def stpR (na : ByteArray) (R : Rm) (e : En) : Rm := if (e.room.toList == na.toList) = true then applyR R e else R
def runR (na : ByteArray) (es : List En) (R : Rm) : Rm := es.foldl (stpR na) R
def roomR (na : ByteArray) (es : List En) : Rm := runR na es ⟨na, 0, [], [], em⟩
theorem runR_drop (na : ByteArray) (es : List En) (i : Nat) (hi : i < es.length) (R : Rm) : runR na (es.drop i) R = runR na (es.drop (i + 1)) (stpR na R es[i]) := by
  rw [List.drop_eq_getElem_cons hi]; rfl
theorem runR_app (na : ByteArray) (es fs : List En) (R : Rm) : runR na (es ++ fs) R = runR na fs (runR na es R) := by
  unfold runR; rw [List.foldl_append]
theorem stpR_le (na : ByteArray) (R : Rm) (e : En) : (stpR na R e).ms.length ≤ R.ms.length + 1 ∧ (stpR na R e).ks.length ≤ R.ks.length + 1 := by
  unfold stpR
  split
  · exact applyR_le R e
  · omega
/-- The texts of an entry are short. -/
structure SmE (e : En) : Prop where
  rm : e.room.size ≤ 100000
  us : e.user.size ≤ 100000
  ni : e.nick.size ≤ 100000
  tx : e.text.size ≤ 100000
  id : e.id.size ≤ 100000
  rf : e.ref.size ≤ 100000
  sq : 0 ≤ e.seq ∧ e.seq ≤ 20000
/-- A room whose texts are short. -/
structure SmR (R : Rm) : Prop where
  nm : R.name.size ≤ 100000
  sj : R.subj.size ≤ 100000
  ms : ∀ m ∈ R.ms, m.user.size ≤ 100000 ∧ m.nick.size ≤ 100000
  ks : ∀ k ∈ R.ks, k.user.size ≤ 100000
theorem applyR_sm (R : Rm) (e : En) (hb : SmR R) (he : SmE e) : SmR (applyR R e) := by
  have hm := hb.ms
  have hk := hb.ks
  unfold applyR
  repeat' split
  all_goals refine ⟨hb.nm, (by first | exact hb.sj | exact he.tx), ?_, ?_⟩
  all_goals first
    | exact hm
    | exact hk
    | skip
  · intro m h
    rcases List.mem_append.1 h with h | h
    · exact hm m h
    · simp only [List.mem_singleton] at h
      subst h
      exact ⟨he.us, he.ni⟩
  · exact fun m h => hm m ((outI_mem _ _).2 m h)
  · intro m h
    obtain ⟨y, h1, h2, h3⟩ := (roleI_mem _ _ _).2 m h
    rw [h2, h3]
    exact hm y h1
  · intro k h
    rcases (rkd_mem _ _ _).2 k h with h | h
    · exact hk k h
    · subst h; exact he.us
theorem stpR_sm (na : ByteArray) (R : Rm) (e : En) (hb : SmR R) (he : SmE e) : SmR (stpR na R e) := by
  unfold stpR
  split
  · exact applyR_sm R e hb he
  · exact hb
theorem runR_ok (na : ByteArray) : ∀ (es : List En) (R : Rm), SmR R → (∀ e ∈ es, SmE e) → SmR (runR na es R) ∧ (runR na es R).ms.length ≤ R.ms.length + es.length ∧ (runR na es R).ks.length ≤ R.ks.length + es.length
  | [], R, h, _ => ⟨h, by simp [runR], by simp [runR]⟩
  | e :: es, R, h, he => by
    have e1 : runR na (e :: es) R = runR na es (stpR na R e) := rfl
    obtain ⟨a, b, c⟩ := runR_ok na es (stpR na R e) (stpR_sm na R e h (he e (by simp))) (fun x hx => he x (by simp [hx]))
    have := stpR_le na R e
    rw [e1, List.length_cons]
    exact ⟨a, by omega, by omega⟩
theorem roomR_ok (na : ByteArray) (es : List En) (hn : na.size ≤ 100000) (he : ∀ e ∈ es, SmE e) : SmR (roomR na es) ∧ (roomR na es).ms.length ≤ es.length ∧ (roomR na es).ks.length ≤ es.length := by
  have := runR_ok na es ⟨na, 0, [], [], em⟩ ⟨hn, (by decide : em.size ≤ 100000), by simp, by simp⟩ he
  simpa [roomR] using this
theorem applyR_rg (R : Rm) (e : En) (he : SmE e) : 1 ≤ (applyR R e).next ∧ (applyR R e).next ≤ 20001 := by
  have := he.sq
  rw [applyR_next, wrap_i64 (by omega) (by omega)]
  omega
theorem stpR_rg (na : ByteArray) (R : Rm) (e : En) (he : SmE e) (h : 0 ≤ R.next ∧ R.next ≤ 20001) : 0 ≤ (stpR na R e).next ∧ (stpR na R e).next ≤ 20001 := by
  unfold stpR
  split
  · have := applyR_rg R e he; omega
  · exact h
theorem runR_rg (na : ByteArray) : ∀ (es : List En) (R : Rm), (∀ e ∈ es, SmE e) → 0 ≤ R.next ∧ R.next ≤ 20001 → 0 ≤ (runR na es R).next ∧ (runR na es R).next ≤ 20001
  | [], R, _, h => h
  | e :: es, R, he, h => runR_rg na es (stpR na R e) (fun x hx => he x (by simp [hx])) (stpR_rg na R e (he e (by simp)) h)
/-! rooms without members: no object at all -/
theorem RmAt_nil (B : Hp) (na su : ByteArray) (k : Int) : RmAt w0 B ⟨na, k, [], [], su⟩ ⟨none, 0, none, 0⟩ := ⟨.inl rfl, .inl rfl, by simp, by simp, fun L => rfl, fun L => rfl⟩
theorem RmOw_nil (B : Hp) (na su : ByteArray) (k : Int) : RmOw w0 B ⟨na, k, [], [], su⟩ ⟨none, 0, none, 0⟩ := ⟨Nat.le_refl _, (fun b o sp e => by cases e), (fun b o sp e => by cases e)⟩
end Go.Proofs.YtcmflpdgfddmeaaDoorW.FA

namespace Go.Proofs.YtcmflpdgfddmeaaDoorW.FA
open Go.RowKit Go.Proofs.YtcmflpdgfddmeaaDoorW.XM Go.Proofs Go.Proofs.YtcmflpdgfddmeaaDoorW.XWords
set_option maxRecDepth 100000
set_option linter.unusedSimpArgs false
set_option linter.unusedVariables false
variable (w0 : World) (H : Hp)
def doR (R : Rm) (log : List En) (u : ByteArray) (s : Sy) : List En × Int :=
  if 9999 < IntKind.i64.wrap (R.next + 3) then ([], 5)
  else if (s.kind == 6) = true then joinR R u s.nick
  else if idxP (isU u) R.ms 0 < 0 then ([], 2)
  else insR R log u s
set_option maxHeartbeats 4000000 in
theorem l6Do_ok (R : Rm) (x : Ad) (es : List En) (A : Option Addr) (c : Nat) (u : ByteArray) (s : Sy) (hr : RmAt w0 H R x) (hs : Sl w0 H A 9 (es.map En.enc)) (hl : es.length ≤ 2000000) : AFn Tryd.prog w0 26 #[.agg (R.enc x).toArray, .slice A es.length c, .string u, .agg s.enc.toArray] H fun v H2 => v = deedV H (doR R es u s) ∧ H2 = Hx H (esO (doR R es u s).1) := by
  refine AFn.news Tryd.func26 rfl (by kernel_rfl) ?_
  have r := Tryd.results26
  simp only [go_sem, cond, Nat.reduceAdd, Nat.reduceLeDiff, Nat.reduceEqDiff, Nat.reduceBEq, decide_true, decide_false, Int.toNat_natCast, r]
  simp only [go_sem, cond, Nat.reduceAdd, Nat.reduceLeDiff, Nat.reduceEqDiff, Nat.reduceBEq, decide_true, decide_false, Int.toNat_natCast, Rm.enc, Sy.enc, r]
  have e0 : doR R es u s = if 9999 < IntKind.i64.wrap (R.next + 3) then ([], 5) else if (s.kind == 6) = true then joinR R u s.nick else if idxP (isU u) R.ms 0 < 0 then ([], 2) else insR R es u s := rfl
  refine Br_intro ?_ ?_ <;> intro h1 <;> simp only [go_sem, cond, Nat.reduceAdd, Nat.reduceLeDiff, Nat.reduceEqDiff, Nat.reduceBEq, decide_true, decide_false, Int.toNat_natCast, Rm.enc, Sy.enc, r, h1]
  · exact nil_end H (e0.trans (if_pos (of_decide_eq_true h1)))
  rw [if_neg (of_decide_eq_false h1)] at e0
  refine Br_intro ?_ ?_ <;> intro h2 <;> simp only [go_sem, cond, Nat.reduceAdd, Nat.reduceLeDiff, Nat.reduceEqDiff, Nat.reduceBEq, decide_true, decide_false, Int.toNat_natCast, Rm.enc, Sy.enc, r, h2]
  · refine call_eq (l6Join_ok _ _ R _ _ _ (hr.old _)) ?_
    simp only [go_sem, cond, Nat.reduceAdd, Nat.reduceLeDiff, Nat.reduceEqDiff, Nat.reduceBEq, decide_true, decide_false, Int.toNat_natCast, r, deedV]
    refine pass_end' H ?_ (e0.trans (if_pos h2)); rfl
  rw [if_neg (by rw [h2]; decide)] at e0
  refine call_eq (l6Of_ok _ _ R _ _ (hr.old _)) ?_
  simp only [go_sem, cond, Nat.reduceAdd, Nat.reduceLeDiff, Nat.reduceEqDiff, Nat.reduceBEq, decide_true, decide_false, Int.toNat_natCast, r, Rm.enc, Sy.enc]
  refine Br_intro ?_ ?_ <;> intro h3 <;> simp only [go_sem, cond, Nat.reduceAdd, Nat.reduceLeDiff, Nat.reduceEqDiff, Nat.reduceBEq, decide_true, decide_false, Int.toNat_natCast, Rm.enc, Sy.enc, r, h3]
  · exact nil_end H (e0.trans (if_pos (of_decide_eq_true h3)))
  rw [if_neg (of_decide_eq_false h3)] at e0
  have hu : (R.ms.find? (isU u)).isSome = true := by
    rcases idxP_find (isU u) R.ms 0 with ⟨f1, f2⟩ | ⟨j, hj, f1, f2⟩
    · rw [f1] at h3; cases h3
    · rw [f2]; rfl
  refine call_eq (l6Inside_ok _ _ R _ es _ _ u s (hr.old _) (hs.old _) hl hu) ?_
  simp only [go_sem, cond, Nat.reduceAdd, Nat.reduceLeDiff, Nat.reduceEqDiff, Nat.reduceBEq, decide_true, decide_false, Int.toNat_natCast, r, deedV]
  refine pass_end' H ?_ e0; rfl
/-- What is said is short. -/
structure SmS (s : Sy) : Prop where
  ni : s.nick.size ≤ 100000
  na : s.name.size ≤ 100000
  tx : s.text.size ≤ 100000
  id : s.id.size ≤ 100000
  rf : s.ref.size ≤ 100000
theorem find_sm {p : Mem → Bool} {R : Rm} (h : SmR R) {m : Mem} (hm : R.ms.find? p = some m) : m.user.size ≤ 100000 ∧ m.nick.size ≤ 100000 := h.ms m (List.mem_of_find?_eq_some hm)
theorem nickU_sm {R : Rm} (h : SmR R) (u : ByteArray) : (nickU R u).size ≤ 100000 := by
  unfold nickU
  cases hm : R.ms.find? (isU u) with
  | none => decide
  | some m => exact (find_sm h hm).2
theorem em_sm : em.size ≤ 100000 := by decide
theorem doR_sm (R : Rm) (log : List En) (u : ByteArray) (s : Sy) (hR : SmR R) (hn : 0 ≤ R.next ∧ R.next ≤ 20001) (hu : u.size ≤ 100000) (hs : SmS s) : (doR R log u s).1.length ≤ 3 ∧ ∀ e ∈ (doR R log u s).1, SmE e := by
  have nk := nickU_sm hR
  have hem := em_sm
  obtain ⟨s1, s2, s3, s4, s5⟩ := hs
  have nm := hR.nm
  have w0 : IntKind.i64.wrap (R.next + ((0 : Nat) : Int)) = R.next := by rw [wrap_i64 (by omega) (by omega)]; omega
  have w1 : IntKind.i64.wrap (R.next + ((1 : Nat) : Int)) = R.next + 1 := by rw [wrap_i64 (by omega) (by omega)]; omega
  have w3 : IntKind.i64.wrap (R.next + 3) = R.next + 3 := by rw [wrap_i64 (by omega) (by omega)]
  unfold doR
  rw [w3]
  split
  · exact ⟨by simp, by simp⟩
  rename_i hlt
  have h2 : R.next + 3 ≤ 9999 := by omega
  have mk : ∀ (se k n : Int) (us ni te i re : ByteArray), 0 ≤ se → se ≤ 20000 → us.size ≤ 100000 → ni.size ≤ 100000 → te.size ≤ 100000 → i.size ≤ 100000 → re.size ≤ 100000 → SmE ⟨R.name, se, k, us, ni, te, i, re, n⟩ := fun se k n us ni te i re a b c d e f g => ⟨nm, c, d, e, f, g, a, b⟩
  split
  · unfold joinR
    rw [w0, w1]
    repeat' split
    all_goals refine ⟨by simp, ?_⟩
    all_goals intro e he
    all_goals simp only [List.mem_cons, List.not_mem_nil, or_false] at he
    · rcases he with rfl | rfl
      · exact mk _ _ _ _ _ _ _ _ (by omega) (by omega) hu hem hem hem hem
      · exact mk _ _ _ _ _ _ _ _ (by omega) (by omega) hu s1 hem hem hem
    · subst he
      exact mk _ _ _ _ _ _ _ _ (by omega) (by omega) hu s1 hem hem hem
  split
  · exact ⟨by simp, by simp⟩
  unfold insR
  split
  · refine ⟨by simp, fun e he => ?_⟩
    simp only [List.mem_singleton] at he
    subst he
    exact mk _ _ _ _ _ _ _ _ (by omega) (by omega) hu (nk u) hem hem hem
  split
  · split
    · exact ⟨by simp, by simp⟩
    repeat' split
    all_goals refine ⟨by simp, fun e he => ?_⟩
    all_goals simp only [List.mem_cons, List.not_mem_nil, or_false] at he
    subst he
    exact mk _ _ _ _ _ _ _ _ (by omega) (by omega) hu (nk u) s3 s4 s5
  split
  · split
    · exact ⟨by simp, by simp⟩
    repeat' split
    all_goals refine ⟨by simp, fun e he => ?_⟩
    all_goals simp only [List.mem_cons, List.not_mem_nil, or_false] at he
    subst he
    exact mk _ _ _ _ _ _ _ _ (by omega) (by omega) hu (nk u) s3 s4 hem
  split
  · unfold roleR
    split
    · exact ⟨by simp, by simp⟩
    split
    · exact ⟨by simp, by simp⟩
    split
    · exact ⟨by simp, by simp⟩
    rename_i m hm
    repeat' split
    all_goals refine ⟨by simp, fun e he => ?_⟩
    all_goals simp only [List.mem_cons, List.not_mem_nil, or_false] at he
    subst he
    exact mk _ _ _ _ _ _ _ _ (by omega) (by omega) (find_sm hR hm).1 (nk _) hem hem hem
  · unfold setR
    repeat' split
    all_goals first
      | (refine ⟨?_, ?_⟩ <;> (simp only [List.length_nil, List.not_mem_nil, Nat.zero_le, false_implies, implies_true]; done))
      | skip
    unfold setL ent6
    rw [w0, w1]
    split
    · refine ⟨by simp, fun e he => ?_⟩
      simp only [List.mem_cons, List.not_mem_nil, or_false] at he
      subst he
      exact mk _ _ _ _ _ _ _ _ (by omega) (by omega) s2 hem hem hem hem
    repeat' split
    all_goals refine ⟨by simp, fun e he => ?_⟩
    all_goals simp only [List.mem_cons, List.not_mem_nil, or_false] at he
    · rcases he with rfl | rfl
      · exact mk _ _ _ _ _ _ _ _ (by omega) (by omega) s2 (nk _) hem hem hem
      · exact mk _ _ _ _ _ _ _ _ (by omega) (by omega) s2 hem hem hem hem
    · rcases he with rfl | rfl
      · exact mk _ _ _ _ _ _ _ _ (by omega) (by omega) s2 hem hem hem hem
      · exact mk _ _ _ _ _ _ _ _ (by omega) (by omega) s2 (nk _) hem hem hem
    · subst he
      exact mk _ _ _ _ _ _ _ _ (by omega) (by omega) s2 hem hem hem hem
end Go.Proofs.YtcmflpdgfddmeaaDoorW.FA

namespace Go.Proofs.YtcmflpdgfddmeaaDoorW.FA
open Go.RowKit Go.Proofs.YtcmflpdgfddmeaaDoorW.XM Go.Proofs Go.Proofs.YtcmflpdgfddmeaaDoorW.XWords
set_option maxRecDepth 100000
set_option linter.unusedSimpArgs false
set_option linter.unusedVariables false
variable {w0 : World} {H : Hp}
/-- Where a room lies: nowhere, if nothing is in it, or in two objects of one's own. -/
def PlO (H : Hp) (n : Nat) (g : List (Option Ob)) (R : Rm) (x : Ad) : Prop := (x = ⟨none, 0, none, 0⟩ ∧ R.ms = [] ∧ R.ks = []) ∨ ∃ j k, g[j]? = some (some (.row 74 (flat Mem.enc R.ms))) ∧ g[k]? = some (some (.row 83 (flat Rk.enc R.ks))) ∧ x = adR H R (n + j) (n + k)
theorem PlO.shift {pre g : List (Option Ob)} {R : Rm} {x : Ad} (h : PlO H pre.length g R x) : PlO H 0 (pre ++ g) R x := by
  rcases h with h | ⟨j, k, a, b, rfl⟩
  · exact .inl h
  · refine .inr ⟨pre.length + j, pre.length + k, ?_, ?_, by rw [Nat.zero_add, Nat.zero_add]⟩
    · rw [List.getElem?_append_right (by omega), Nat.add_sub_cancel_left]; exact a
    · rw [List.getElem?_append_right (by omega), Nat.add_sub_cancel_left]; exact b
theorem PlO.more {n : Nat} {g : List (Option Ob)} {R : Rm} {x : Ad} (h : PlO H n g R x) (L : List (Option Ob)) : PlO H n (g ++ L) R x := by
  rcases h with h | ⟨j, k, a, b, rfl⟩
  · exact .inl h
  · exact .inr ⟨j, k, by rw [List.getElem?_append_left (lt_of_get a)]; exact a, by rw [List.getElem?_append_left (lt_of_get b)]; exact b, rfl⟩
theorem PlO.rm {g : List (Option Ob)} {R : Rm} {x : Ad} (h : PlO H 0 g R x) (lm : R.ms.length ≤ 2000000) (lk : R.ks.length ≤ 2000000) : RmAt w0 (Hx H g) R x := by
  rcases h with ⟨rfl, h1, h2⟩ | ⟨j, k, a, b, rfl⟩
  · obtain ⟨n, q, ms, ks, s⟩ := R
    simp only at h1 h2
    subst h1 h2
    exact RmAt_nil _ _ _ _ _
  · rw [Nat.zero_add, Nat.zero_add]
    exact RmAt_own a b lm lk
theorem PlO.ow {g : List (Option Ob)} {R : Rm} {x : Ad} (h : PlO H 0 g R x) : RmOw w0 (Hx H g) R x := by
  rcases h with ⟨rfl, h1, h2⟩ | ⟨j, k, a, b, rfl⟩
  · obtain ⟨n, q, ms, ks, s⟩ := R
    simp only at h1 h2
    subst h1 h2
    exact RmOw_nil _ _ _ _ _
  · rw [Nat.zero_add, Nat.zero_add]
    exact RmOw_own a
theorem adR_Hx (L : List (Option Ob)) (R : Rm) (j k : Nat) : adR (Hx H L) R j k = adR H R (L.length + j) (L.length + k) := by
  unfold adR nid Hx
  simp [Nat.add_assoc]
theorem AFn_nil {P : Program} {w0 : World} {f : FuncId} {args : Array Value} {H : Hp} {Q : Value → Hp → Prop} (h : AFn P w0 f args (Hx H []) Q) : AFn P w0 f args H Q := by rwa [Hx_nil] at h
variable (w0 H)
set_option maxHeartbeats 4000000 in
theorem l8Room_ok (es : List En) (A : Option Addr) (c : Nat) (na : ByteArray) (hs : Sl w0 H A 9 (es.map En.enc)) (hl : es.length ≤ 1000) (hsm : ∀ e ∈ es, SmE e) : AFn Tryd.prog w0 27 #[.slice A es.length c, .string na] H fun v H2 => ∃ x g, v = .agg ((roomR na es).enc x).toArray ∧ H2 = Hx H g ∧ PlO H 0 g (roomR na es) x ∧ (x.a = none ∨ 1 ≤ (roomR na es).next) := by
  refine AFn_nil ?_
  refine AFn_of Tryd.func27 rfl (by kernel_rfl) ?_
  have r := Tryd.results27
  simp only [go_sem, cond, Nat.reduceAdd, Nat.reduceLeDiff, Nat.reduceEqDiff, Nat.reduceBEq, decide_true, decide_false, Int.toNat_natCast, r]
  refine xw_loop (fun (i : Nat) T H' => i ≤ es.length ∧ T 0 = .slice A es.length c ∧ T 1 = .string na ∧ T 4 = .pointer (some ⟨nid H 0, 0, some 5⟩) ∧ T 5 = .pointer (some ⟨nid H 1, 0, some 5⟩) ∧ T 6 = .int .i64 i ∧ ∃ R x g, H' = Hx H (some (.row 59 [.string em, .int .i64 0, .slice none 0 0, .slice none 0 0, .string em]) :: some (.row 59 (R.enc x)) :: g) ∧ PlO H 2 g R x ∧ runR na (es.drop i) R = roomR na es ∧ R.ms.length ≤ i ∧ R.ks.length ≤ i ∧ (x.a = none ∨ 1 ≤ R.next)) (fun i => es.length - i) 0 (by kernel_rfl) ⟨Nat.zero_le _, rfl, rfl, rfl, rfl, rfl, ⟨na, 0, [], [], em⟩, ⟨none, 0, none, 0⟩, [], rfl, .inl ⟨rfl, rfl, rfl⟩, rfl, Nat.le_refl _, Nat.le_refl _, .inl rfl⟩ ?_
  rintro i T H' ⟨hi, t0, t1, t4, t5, t6, R, x, g, rfl, hp, he, hm, hk, hx⟩
  by_cases hlt : i < es.length
  · obtain ⟨b, o, sp, rfl, hc, hw⟩ := mcell hs hlt
    have c0 := hc 0 (.string es[i].room) (some (.row 59 [.string em, .int .i64 0, .slice none 0 0, .slice none 0 0, .string em]) :: some (.row 59 (R.enc x)) :: g) (by decide) rfl
    have c1 := hw (some (.row 59 [.string em, .int .i64 0, .slice none 0 0, .slice none 0 0, .string em]) :: some (.row 59 (R.enc x)) :: g) rfl
    have d1 : ((i : Int) < (es.length : Int)) = True := eq_true (by omega)
    have d2 : (0 ≤ (i : Int)) = True := eq_true (by omega)
    rw [runR_drop _ _ i hlt] at he
    simp only [Rm.enc, En.enc] at c0 c1
    simp only [go_sem, cond, Nat.reduceAdd, Nat.reduceLeDiff, Nat.reduceEqDiff, Nat.reduceBEq, decide_true, decide_false, Int.toNat_natCast, Rm.enc, t0, t1, t4, t5, t6, d1, d2, c0, r]
    refine Br_intro ?_ ?_ <;> intro h <;> simp only [go_sem, cond, Nat.reduceAdd, Nat.reduceLeDiff, Nat.reduceEqDiff, Nat.reduceBEq, decide_true, decide_false, Int.toNat_natCast, Rm.enc, t0, t1, t4, t5, t6, d1, d2, c0, c1, r, h]
    · rw [stpR, if_pos h] at he
      (refine xw_open (id := 6) [0, 0, 0, 6, 14, 31, 63] [.q 1, .q 2, .q 3, .q 0, .q 4, .e 5, .e 6] rfl (by kernel_rfl) ?_; simp only [go_sem, cond, Nat.reduceAdd, Nat.reduceLeDiff, Nat.reduceEqDiff, Nat.reduceBEq, decide_true, decide_false, Int.toNat_natCast, Rm.enc, t0, t1, t4, t5, t6, d1, d2, c0, c1, r, h])
      refine call_eq (l6Apply_ok w0 _ R x es[i] ?_ ?_) ?_
      · exact (hp.shift (pre := [_, _])).rm (by omega) (by omega)
      · exact (hp.shift (pre := [_, _])).ow
      have hle := applyR_le R es[i]
      have hrg := applyR_rg R es[i] (hsm _ (List.getElem_mem hlt))
      obtain ⟨R', hR'⟩ : ∃ R', R' = applyR R es[i] := ⟨_, rfl⟩
      rw [← hR'] at he hle hrg ⊢
      rw [adR_Hx]
      simp only [go_sem, cond, Nat.reduceAdd, Nat.reduceLeDiff, Nat.reduceEqDiff, Nat.reduceBEq, decide_true, decide_false, Int.toNat_natCast, Rm.enc, t0, t1, t4, t5, t6, List.cons_append, List.set_cons_succ, List.set_cons_zero, r]
      refine ⟨i + 1, ⟨hlt, t0, t1, t4, t5, int_succ hlt (by omega), R', _, g ++ obsR R', rfl, .inr ⟨g.length, g.length + 1, ?_, ?_, ?_⟩, he, by omega, by omega, .inr hrg.1⟩, lt_meas hlt⟩
      · rw [List.getElem?_append_right (by omega)]; simp [obsR]
      · rw [List.getElem?_append_right (by omega)]; simp [obsR]
      · congr 1 <;> first | omega | (simp only [List.length_cons]; omega)
    · rw [stpR, if_neg (by rw [h]; decide)] at he
      exact ⟨i + 1, ⟨hlt, t0, t1, t4, t5, int_succ hlt (by omega), R, x, g, rfl, hp, he, by omega, by omega, hx⟩, lt_meas hlt⟩
  · obtain rfl : i = es.length := by omega
    have d1 : ((es.length : Int) < (es.length : Int)) = False := eq_false (by omega)
    rw [List.drop_length] at he
    simp only [go_sem, cond, Nat.reduceAdd, Nat.reduceLeDiff, Nat.reduceEqDiff, Nat.reduceBEq, decide_true, decide_false, Int.toNat_natCast, Rm.enc, t0, t1, t4, t5, t6, d1, r]
    simp only [runR, List.foldl_nil] at he
    subst he
    exact ⟨x, _, rfl, rfl, hp.shift (pre := [_, _]), hx⟩
end Go.Proofs.YtcmflpdgfddmeaaDoorW.FA

namespace Go.Proofs.YtcmflpdgfddmeaaDoorW.FA
open Go.RowKit Go.Proofs.YtcmflpdgfddmeaaDoorW.XM Go.Proofs Go.Proofs.YtcmflpdgfddmeaaDoorW.XWords
set_option maxRecDepth 100000
set_option linter.unusedSimpArgs false
set_option linter.unusedVariables false
structure NmR (R : Rm) : Prop where
  ms : ∀ m ∈ R.ms, nmB m.user = true
  ks : ∀ k ∈ R.ks, nmB k.user = true
theorem applyR_nm (R : Rm) (e : En) (hb : NmR R) (he : nmB e.user = true) : NmR (applyR R e) := by
  have hm := hb.ms
  have hk := hb.ks
  unfold applyR
  repeat' split
  all_goals refine ⟨?_, ?_⟩
  all_goals first
    | exact hm
    | exact hk
    | skip
  · intro m h
    rcases List.mem_append.1 h with h | h
    · exact hm m h
    · simp only [List.mem_singleton] at h
      subst h
      exact he
  · exact fun m h => hm m ((outI_mem _ _).2 m h)
  · intro m h
    obtain ⟨y, h1, h2, h3⟩ := (roleI_mem _ _ _).2 m h
    rw [h2]
    exact hm y h1
  · intro k h
    rcases (rkd_mem _ _ _).2 k h with h | h
    · exact hk k h
    · subst h; exact he
theorem stpR_nm (na : ByteArray) (R : Rm) (e : En) (hb : NmR R) (he : nmB e.user = true) : NmR (stpR na R e) := by
  unfold stpR
  split
  · exact applyR_nm R e hb he
  · exact hb
theorem runR_nm (na : ByteArray) : ∀ (es : List En) (R : Rm), NmR R → (∀ e ∈ es, nmB e.user = true) → NmR (runR na es R)
  | [], R, h, _ => h
  | e :: es, R, h, he => runR_nm na es (stpR na R e) (stpR_nm na R e h (he e (by simp))) (fun x hx => he x (by simp [hx]))
theorem roomR_nm (na : ByteArray) (es : List En) (he : ∀ e ∈ es, nmB e.user = true) : NmR (roomR na es) := runR_nm na es _ ⟨by simp, by simp⟩ he
theorem doR_nm (R : Rm) (log : List En) (u : ByteArray) (s : Sy) (hR : NmR R) (hu : nmB u = true) (hs : nmB s.name = true) : ∀ e ∈ (doR R log u s).1, nmB e.user = true := by
  have mk : ∀ (ro : ByteArray) (se k n : Int) (us ni te i re : ByteArray), nmB us = true → nmB (⟨ro, se, k, us, ni, te, i, re, n⟩ : En).user = true := fun ro se k n us ni te i re h => h
  unfold doR
  split
  · simp
  split
  · unfold joinR
    repeat' split
    all_goals intro e he
    all_goals simp only [List.mem_cons, List.not_mem_nil, or_false] at he
    · rcases he with rfl | rfl <;> exact mk _ _ _ _ _ _ _ _ _ hu
    · subst he
      exact mk _ _ _ _ _ _ _ _ _ hu
  split
  · simp
  unfold insR
  split
  · intro e he
    simp only [List.mem_singleton] at he
    subst he
    exact mk _ _ _ _ _ _ _ _ _ hu
  split
  · split
    · simp
    repeat' split
    all_goals intro e he
    all_goals simp only [List.mem_cons, List.not_mem_nil, or_false] at he
    subst he
    exact mk _ _ _ _ _ _ _ _ _ hu
  split
  · split
    · simp
    repeat' split
    all_goals intro e he
    all_goals simp only [List.mem_cons, List.not_mem_nil, or_false] at he
    subst he
    exact mk _ _ _ _ _ _ _ _ _ hu
  split
  · unfold roleR
    split
    · simp
    split
    · simp
    split
    · simp
    rename_i m hm
    repeat' split
    all_goals intro e he
    all_goals simp only [List.mem_cons, List.not_mem_nil, or_false] at he
    subst he
    exact mk _ _ _ _ _ _ _ _ _ (hR.ms m (List.mem_of_find?_eq_some hm))
  · unfold setR
    repeat' split
    all_goals first
      | (simp only [List.not_mem_nil, false_implies, implies_true]; done)
      | skip
    unfold setL ent6
    split
    · intro e he
      simp only [List.mem_cons, List.not_mem_nil, or_false] at he
      subst he
      exact mk _ _ _ _ _ _ _ _ _ hs
    repeat' split
    all_goals intro e he
    all_goals simp only [List.mem_cons, List.not_mem_nil, or_false] at he
    · rcases he with rfl | rfl <;> exact mk _ _ _ _ _ _ _ _ _ hs
    · rcases he with rfl | rfl <;> exact mk _ _ _ _ _ _ _ _ _ hs
    · subst he
      exact mk _ _ _ _ _ _ _ _ _ hs
end Go.Proofs.YtcmflpdgfddmeaaDoorW.FA

namespace Go.Proofs.YtcmflpdgfddmeaaDoorW.FA
open Go.RowKit Go.Proofs.YtcmflpdgfddmeaaDoorW.XM Go.Proofs Go.Proofs.YtcmflpdgfddmeaaDoorW.XWords
set_option maxRecDepth 100000
set_option linter.unusedSimpArgs false
set_option linter.unusedVariables false
variable (w0 : World) (H : Hp)
/-- A log that deeds have made, one behind the other. -/
inductive LogD : List En → Prop
  | nil : LogD []
  | add {es : List En} (na u : ByteArray) (s : Sy) : LogD es → na.size ≤ 100000 → u.size ≤ 100000 → SmS s → nmB u = true → nmB s.name = true → LogD (es ++ (doR (roomR na es) es u s).1)
theorem LogD.sm {es : List En} (h : LogD es) : ∀ e ∈ es, SmE e := by
  induction h with
  | nil => simp
  | add na u s h h1 h2 h3 _ _ ih =>
    intro e he
    rcases List.mem_append.1 he with he | he
    · exact ih e he
    · exact (doR_sm _ _ _ _ (roomR_ok _ _ h1 ih).1 (runR_rg _ _ _ ih (by simp)) h2 h3).2 e he
theorem LogD.nm {es : List En} (h : LogD es) : ∀ e ∈ es, nmB e.user = true := by
  induction h with
  | nil => simp
  | add na u s h h1 h2 h3 h4 h5 ih =>
    intro e he
    rcases List.mem_append.1 he with he | he
    · exact ih e he
    · exact doR_nm _ _ _ _ (roomR_nm na _ ih) h4 h5 e he
theorem LogD.le {es : List En} (h : LogD es) (na u : ByteArray) (s : Sy) (h1 : na.size ≤ 100000) (h2 : u.size ≤ 100000) (h3 : SmS s) : (doR (roomR na es) es u s).1.length ≤ 3 := (doR_sm _ _ _ _ (roomR_ok _ _ h1 h.sm).1 (runR_rg _ _ _ h.sm (by simp)) h2 h3).1
theorem elen (m : En) : m.enc.length = 9 := rfl
theorem SyOk.sm {s : Sy} (h : SyOk s) : SmS s := ⟨by have := h.nick; omega, by have := h.name; omega, by have := h.text; omega, by have := h.id; omega, by have := h.ref; omega⟩
theorem PlO.rm' {B : Hp} {L g : List (Option Ob)} {R : Rm} {x : Ad} (h : PlO (Hx B L) 0 g R x) {M : List (Option Ob)} (hM : M = L ++ g) (lm : R.ms.length ≤ 2000000) (lk : R.ks.length ≤ 2000000) : RmAt w0 (Hx B M) R x := by
  subst hM
  rw [← Hx_Hx]
  exact h.rm lm lk
theorem PlO.rm2 {B : Hp} {L g r : List (Option Ob)} {R : Rm} {x : Ad} (h : PlO (Hx B L) 0 g R x) {M : List (Option Ob)} (hM : M = L ++ (g ++ r)) (lm : R.ms.length ≤ 2000000) (lk : R.ks.length ≤ 2000000) : RmAt w0 (Hx B M) R x := by
  subst hM
  rw [← Hx_Hx]
  exact (h.more r).rm lm lk
theorem esV_ne {H : Hp} {fs : List En} (h : fs ≠ []) : esV H fs = .slice (some ⟨nid H 0, 0, some (fs.length * 9)⟩) fs.length fs.length := by
  cases fs with
  | nil => exact absurd rfl h
  | cons e t => rfl
theorem esO_ne {fs : List En} (h : fs ≠ []) : esO fs = [some (.row 35 (flat En.enc fs))] := by
  cases fs with
  | nil => exact absurd rfl h
  | cons e t => rfl
theorem esV_nil (H : Hp) : esV H [] = .slice none 0 0 := rfl
theorem esO_nil : esO [] = [] := rfl
theorem rd_fs (fs : List En) : rdO (some (some (.row 35 (flat En.enc fs)))) 0 (fs.length * 9) (fs.length * 9) = some (flat En.enc fs) := by
  rw [rdO_row, if_pos ⟨flat_len elen fs, by rw [flat_len elen]; omega⟩, List.drop_zero, List.take_of_length_le (by rw [flat_len elen]; exact Nat.le_refl _)]
set_option maxHeartbeats 20000000 in
theorem l16Log_60 (D : Cd) (B : Hp) (l : List (Option Ob)) (q p : Nat) (hD : CdOk w0 D) (hq : l[q]? = some (dr D p)) (hp : p ≤ 300000) : AFn Tryd.prog w0 11 #[.pointer (some ⟨nid B q, 0, some 2⟩)] (Hx B l) fun v H2 => ∃ p' es k g, H2 = Hx B (l.set q (dr D p') ++ g) ∧ p ≤ p' ∧ p' ≤ p + 2000 ∧ LogD es ∧ es.length ≤ 60 ∧ v = .slice (some ⟨nid B (l.length + k), 0, some (es.length * 9)⟩) es.length es.length ∧ g[k]? = some (some (.row 35 (flat En.enc es))) := by
  have hlq := lt_of_get hq
  have e : Hx B l = Hx B (l.set q (dr D p)) := by conv => lhs; rw [set_same hq, List.append_nil]
  rw [e]
  obtain ⟨sA, gQ, gR, gR0, sR, sR0⟩ := dset hlq
  have gs : ∀ X : Option Ob, (l.set q X)[q]? = some X := fun X => by rw [List.getElem?_set_self hlq]
  have hb : ∀ (g : List (Option Ob)) (Y : Option Ob) (r : List (Option Ob)), (g ++ Y :: r)[g.length]? = some Y := fun g Y r => by rw [List.getElem?_append_right (Nat.le_refl _)]; simp
  have gi : ∀ (g r : List (Option Ob)) (k : Nat), (g ++ r)[g.length + k]? = r[k]? := fun g r k => by rw [List.getElem?_append_right (by omega)]; simp
  have si : ∀ (g r : List (Option Ob)) (k : Nat) (Z : Option Ob), (g ++ r).set (g.length + k) Z = g ++ r.set k Z := fun g r k Z => by rw [List.set_append_right _ _ (by omega)]; simp
  have si0 : ∀ (g r : List (Option Ob)) (Z : Option Ob), (g ++ r).set g.length Z = g ++ r.set 0 Z := fun g r Z => by rw [List.set_append_right _ _ (by omega)]; simp
  refine AFn_of Tryd.func11 rfl (by kernel_rfl) ?_
  have r := Tryd.results11
  simp only [go_sem, cond, Nat.reduceAdd, Nat.reduceLeDiff, Nat.reduceEqDiff, Nat.reduceBEq, decide_true, decide_false, Int.toNat_natCast, r, sA, gQ, gR, gR0, sR, sR0, List.set_set, List.append_assoc, List.length_append, List.length_set, List.singleton_append, List.cons_append, List.nil_append]
  refine Req_intro ⟨_, rfl, rfl⟩ ?_
  simp only [go_sem, cond, Nat.reduceAdd, Nat.reduceLeDiff, Nat.reduceEqDiff, Nat.reduceBEq, decide_true, decide_false, Int.toNat_natCast, r, sA, gQ, gR, gR0, sR, sR0, List.set_set, List.append_assoc, List.length_append, List.length_set, List.singleton_append, List.cons_append, List.nil_append]
  refine bsV_dense ⟨_, XF.zer_3, rfl⟩ rfl rfl (by decide) rfl ?_
  simp only [go_sem, cond, Nat.reduceAdd, Nat.reduceLeDiff, Nat.reduceEqDiff, Nat.reduceBEq, decide_true, decide_false, Int.toNat_natCast, r, sA, gQ, gR, gR0, sR, sR0, List.set_set, List.append_assoc, List.length_append, List.length_set, List.singleton_append, List.cons_append, List.nil_append]
  refine call (one_ok w0 D hD B _ q _ _ _ _ _ (gQ _ _) (by omega) (gR _ _ 1) rfl rfl (by decide) (by decide) (by decide)) ?_
  rintro v H2 ⟨many, -, -, hmem, rfl, rfl⟩
  have hm : 0 ≤ many ∧ many ≤ 22 := by
    simp only [List.mem_cons, List.not_mem_nil, or_false, Value.int.injEq, true_and] at hmem
    omega
  clear hmem
  obtain ⟨m, rfl⟩ : ∃ m : Nat, many = (m : Int) := ⟨many.toNat, by omega⟩
  simp only [go_sem, cond, Nat.reduceAdd, Nat.reduceLeDiff, Nat.reduceEqDiff, Nat.reduceBEq, decide_true, decide_false, Int.toNat_natCast, r, sA, gQ, gR, gR0, sR, sR0, List.set_set, List.append_assoc, List.length_append, List.length_set, List.singleton_append, List.cons_append, List.nil_append]
  refine xw_loop (fun (i : Nat) T H' => i ≤ 3 ∧ T 0 = .pointer (some ⟨nid B q, 0, some 2⟩) ∧ T 4 = .int .i64 (m : Int) ∧ T 5 = .int .i64 i ∧ ∃ es g, LogD es ∧ es.length ≤ 3 * i ∧ T 3 = .slice (some ⟨nid B l.length, 0, some (es.length * 9)⟩) es.length es.length ∧ H' = Hx B (l.set q (dr D (p + 1)) ++ some (.row 35 (flat En.enc es)) :: g)) (fun i => 3 - i) 0 (by kernel_rfl) ⟨Nat.zero_le _, rfl, rfl, rfl, [], _, .nil, Nat.le_refl _, rfl, rfl⟩ ?_
  rintro i T H' ⟨hi, t0, t4, t5, es, g, hes, hlen, t3, rfl⟩
  by_cases hmi : i < m
  · have d1 : ((i : Int) < (m : Int)) = True := eq_true (by omega)
    by_cases hi3 : i < 3
    · have d2 : ((i : Int) < 3) = True := eq_true (by omega)
      have d3 : ((0 : Int) ≤ (i : Int)) = True := eq_true (by omega)
      have hi' : i = 0 ∨ i = 1 ∨ i = 2 := by omega
      obtain ⟨us, ⟨hus, hun⟩, c0⟩ : ∃ us : ByteArray, (us.size ≤ 100000 ∧ nmB us = true) ∧ rdO (some (some (.row 9 [.string (ByteArray.mk #[97, 110, 110]), .string (ByteArray.mk #[98, 111, 98]), .string (ByteArray.mk #[99, 121, 100])]))) (i * 1) (3 * 1) 1 = some [.string us] := by
        rcases hi' with rfl | rfl | rfl
        · exact ⟨ByteArray.mk #[97, 110, 110], ⟨by decide, by decide⟩, rfl⟩
        · exact ⟨ByteArray.mk #[98, 111, 98], ⟨by decide, by decide⟩, rfl⟩
        · exact ⟨ByteArray.mk #[99, 121, 100], ⟨by decide, by decide⟩, rfl⟩
      obtain ⟨ni, hni, c1⟩ : ∃ us : ByteArray, us.size ≤ 100000 ∧ rdO (some (some (.row 9 [.string (ByteArray.mk #[65, 110, 110]), .string (ByteArray.mk #[66, 111, 98]), .string (ByteArray.mk #[67, 121, 100])]))) (i * 1) (3 * 1) 1 = some [.string us] := by
        rcases hi' with rfl | rfl | rfl
        · exact ⟨ByteArray.mk #[65, 110, 110], by decide, rfl⟩
        · exact ⟨ByteArray.mk #[66, 111, 98], by decide, rfl⟩
        · exact ⟨ByteArray.mk #[67, 121, 100], by decide, rfl⟩
      simp only [go_sem, cond, Nat.reduceAdd, Nat.reduceLeDiff, Nat.reduceEqDiff, Nat.reduceBEq, decide_true, decide_false, Int.toNat_natCast, r, sA, gQ, gR, gR0, sR, sR0, List.set_set, List.append_assoc, List.length_append, List.length_set, List.singleton_append, List.cons_append, List.nil_append, t0, t3, t4, t5, d1, d2, d3]
      refine bsV_dense ⟨_, XF.zer_9, rfl⟩ rfl rfl (by decide) rfl ?_
      simp only [go_sem, cond, Nat.reduceAdd, Nat.reduceLeDiff, Nat.reduceEqDiff, Nat.reduceBEq, decide_true, decide_false, Int.toNat_natCast, r, sA, gQ, gR, gR0, sR, sR0, List.set_set, List.append_assoc, List.length_append, List.length_set, List.singleton_append, List.cons_append, List.nil_append, t0, t3, t4, t5, d1, d2, d3]
      refine Req_intro (by omega) ?_
      simp only [go_sem, cond, Nat.reduceAdd, Nat.reduceLeDiff, Nat.reduceEqDiff, Nat.reduceBEq, decide_true, decide_false, Int.toNat_natCast, r, sA, gQ, gR, gR0, sR, sR0, List.set_set, List.append_assoc, List.length_append, List.length_set, List.singleton_append, List.cons_append, List.nil_append, t0, t3, t4, t5, d1, d2, d3, hb, gi, si, si0, List.set_cons_zero, List.set_cons_succ, c0]
      (refine xw_tree (id := 7) [0, 1, 0, 0, 0, 0, 48, 112, 240, 511, 1023, 2047, 2047, 4095, 16383] (.q 0 (.q 2 (.q 3 (.q 5 (.b 1 (.e 4 (.q 6 (.q 7 (.e 8 (.e 9 (.q 10 (.q 11 (.q 12 (.q 13 (.q 14 .z)))))))))) 4 (.q 6 (.l 7 (.b 1 (.d 7 (.e 8 (.e 9 (.q 10 (.q 11 (.q 12 (.q 13 (.q 14 .z)))))))) 8 (.e 1 (.d 7 (.e 9 (.q 10 (.q 11 (.q 12 (.q 13 (.q 14 .z)))))))))))))))) rfl (by kernel_rfl) ?_; simp only [go_sem, cond, Nat.reduceAdd, Nat.reduceLeDiff, Nat.reduceEqDiff, Nat.reduceBEq, decide_true, decide_false, Int.toNat_natCast, r, sA, gQ, gR, gR0, sR, sR0, List.set_set, List.append_assoc, List.length_append, List.length_set, List.singleton_append, List.cons_append, List.nil_append, t0, t3, t4, t5, d1, d2, d3, hb, gi, si, si0, List.set_cons_zero, List.set_cons_succ])
      have hro := roomR_ok (ByteArray.mk #[100, 101, 110]) es (by decide) hes.sm
      repeat' (first
        | (refine Both_intro ?_ ?_ <;> simp only [go_sem, cond, Nat.reduceAdd, Nat.reduceLeDiff, Nat.reduceEqDiff, Nat.reduceBEq, decide_true, decide_false, Int.toNat_natCast, r, sA, gQ, gR, gR0, sR, sR0, List.set_set, List.append_assoc, List.length_append, List.length_set, List.singleton_append, List.cons_append, List.nil_append, t0, t3, t4, t5, d1, d2, d3, hb, gi, si, si0, List.set_cons_zero, List.set_cons_succ, c1])
        | (refine call (l8Room_ok w0 _ es _ _ _ (Sl_own elen _ es B _ _ (gR0 _ _)) (by omega) hes.sm) ?_; rintro v H2 ⟨x, g2, rfl, rfl, hpl, -⟩; simp only [go_sem, cond, Nat.reduceAdd, Nat.reduceLeDiff, Nat.reduceEqDiff, Nat.reduceBEq, decide_true, decide_false, Int.toNat_natCast, r, sA, gQ, gR, gR0, sR, sR0, List.set_set, List.append_assoc, List.length_append, List.length_set, List.singleton_append, List.cons_append, List.nil_append, t0, t3, t4, t5, d1, d2, d3, hb, gi, si, si0, List.set_cons_zero, List.set_cons_succ, c1])
        | (refine bsV_dense ⟨_, XF.zer_9, rfl⟩ rfl rfl (by decide) rfl ?_; simp only [go_sem, cond, Nat.reduceAdd, Nat.reduceLeDiff, Nat.reduceEqDiff, Nat.reduceBEq, decide_true, decide_false, Int.toNat_natCast, r, sA, gQ, gR, gR0, sR, sR0, List.set_set, List.append_assoc, List.length_append, List.length_set, List.singleton_append, List.cons_append, List.nil_append, t0, t3, t4, t5, d1, d2, d3, hb, gi, si, si0, List.set_cons_zero, List.set_cons_succ, c1])
        | (refine Req_intro (by omega) ?_; simp only [go_sem, cond, Nat.reduceAdd, Nat.reduceLeDiff, Nat.reduceEqDiff, Nat.reduceBEq, decide_true, decide_false, Int.toNat_natCast, r, sA, gQ, gR, gR0, sR, sR0, List.set_set, List.append_assoc, List.length_append, List.length_set, List.singleton_append, List.cons_append, List.nil_append, t0, t3, t4, t5, d1, d2, d3, hb, gi, si, si0, List.set_cons_zero, List.set_cons_succ, c1]))
      all_goals
        have hadd := LogD.add (ByteArray.mk #[100, 101, 110]) us ⟨6, ByteArray.mk #[100, 101, 110], ni, em, em, em, em, 0, 0, 0⟩ hes (by decide) hus ⟨hni, em_sm, em_sm, em_sm, em_sm⟩ hun nm_em
        have hle := hes.le (ByteArray.mk #[100, 101, 110]) us ⟨6, ByteArray.mk #[100, 101, 110], ni, em, em, em, em, 0, 0, 0⟩ (by decide) hus ⟨hni, em_sm, em_sm, em_sm, em_sm⟩
        first
          | (refine call_eq (l6Do_ok w0 _ (roomR (ByteArray.mk #[100, 101, 110]) es) x es _ _ us ⟨6, ByteArray.mk #[100, 101, 110], ni, em, em, em, em, 0, 0, 0⟩ (PlO.rm' w0 hpl ?_ (by omega) (by omega)) (Sl_own elen _ es B _ _ (gR0 _ _)) (by omega)) ?_
             · simp only [List.append_assoc, List.cons_append, List.nil_append]
               done)
          | (refine call_eq (l6Do_ok w0 _ (roomR (ByteArray.mk #[100, 101, 110]) es) x es _ _ us ⟨6, ByteArray.mk #[100, 101, 110], ni, em, em, em, em, 0, 0, 0⟩ (PlO.rm2 w0 (r := [some (.row 9 [.string (ByteArray.mk #[65, 110, 110]), .string (ByteArray.mk #[66, 111, 98]), .string (ByteArray.mk #[67, 121, 100])])]) hpl ?_ (by omega) (by omega)) (Sl_own elen _ es B _ _ (gR0 _ _)) (by omega)) ?_
             · simp only [List.append_assoc, List.cons_append, List.nil_append]
               done)
        generalize doR _ _ _ _ = rs at *
        obtain ⟨fs, code⟩ := rs
        simp only at hadd hle
        by_cases hf : fs = []
        · subst hf
          simp only [go_sem, cond, Nat.reduceAdd, Nat.reduceLeDiff, Nat.reduceEqDiff, Nat.reduceBEq, decide_true, decide_false, Int.toNat_natCast, r, sA, gQ, gR, gR0, sR, sR0, List.set_set, List.append_assoc, List.length_append, List.length_set, List.singleton_append, List.cons_append, List.nil_append, t0, t3, t4, t5, hb, gi, si, si0, List.set_cons_zero, List.set_cons_succ, deedV, esV_nil, esO_nil]
          refine appS_full (m := 0) (sl := es.length) _ _ _ _ _ _ _ l.length _ _ _ (gR0 _ _) rfl (flat_len elen _) XF.lay_35 (by decide) (by rfl) (by omega) (by omega) ?_
          simp only [go_sem, cond, Nat.reduceAdd, Nat.reduceLeDiff, Nat.reduceEqDiff, Nat.reduceBEq, decide_true, decide_false, Int.toNat_natCast, r, sA, gQ, gR, gR0, sR, sR0, List.set_set, List.append_assoc, List.length_append, List.length_set, List.singleton_append, List.cons_append, List.nil_append, t0, t3, t4, t5, hb, gi, si, si0, List.set_cons_zero, List.set_cons_succ, List.append_nil]
          rw [List.append_nil] at hadd
          exact ⟨i + 1, ⟨by omega, t0, t4, int_succ hi3 (by omega), es, _, hes, by omega, rfl, rfl⟩, lt_meas hi3⟩
        · have v1 := fun H => esV_ne (H := H) hf
          have v2 := esO_ne hf
          have v3 := rd_fs fs
          simp only [go_sem, cond, Nat.reduceAdd, Nat.reduceLeDiff, Nat.reduceEqDiff, Nat.reduceBEq, decide_true, decide_false, Int.toNat_natCast, r, sA, gQ, gR, gR0, sR, sR0, List.set_set, List.append_assoc, List.length_append, List.length_set, List.singleton_append, List.cons_append, List.nil_append, t0, t3, t4, t5, hb, gi, si, si0, List.set_cons_zero, List.set_cons_succ, deedV, v1, v2, v3, Nat.add_zero]
          refine appS_full (m := fs.length) (sl := es.length) _ _ _ _ _ _ _ l.length _ _ _ (gR0 _ _) rfl (flat_len elen _) XF.lay_35 (by decide) (flat_len elen _) (by omega) (by omega) ?_
          simp only [go_sem, cond, Nat.reduceAdd, Nat.reduceLeDiff, Nat.reduceEqDiff, Nat.reduceBEq, decide_true, decide_false, Int.toNat_natCast, r, sA, gQ, gR, gR0, sR, sR0, List.set_set, List.append_assoc, List.length_append, List.length_set, List.singleton_append, List.cons_append, List.nil_append, t0, t3, t4, t5, hb, gi, si, si0, List.set_cons_zero, List.set_cons_succ]
          refine ⟨i + 1, ⟨by omega, t0, t4, int_succ hi3 (by omega), es ++ fs, _, hadd, by rw [List.length_append]; omega, by rw [List.length_append]; rfl, by rw [flat_app]⟩, lt_meas hi3⟩
    · have d2 : ((i : Int) < 3) = False := eq_false (by omega)
      simp only [go_sem, cond, Nat.reduceAdd, Nat.reduceLeDiff, Nat.reduceEqDiff, Nat.reduceBEq, decide_true, decide_false, Int.toNat_natCast, r, sA, gQ, gR, gR0, sR, sR0, List.set_set, List.append_assoc, List.length_append, List.length_set, List.singleton_append, List.cons_append, List.nil_append, t0, t3, t4, t5, d1, d2]
      have t0' := t0
      have t3' := t3
      clear d1 t0 t3 t4 t5 hmi
      refine xw_loop (fun (i : Nat) T H' => i ≤ 22 ∧ T 0 = .pointer (some ⟨nid B q, 0, some 2⟩) ∧ T 9 = .int .i64 i ∧ ∃ p' es g, p ≤ p' ∧ p' + i * 80 ≤ p + 2000 ∧ LogD es ∧ es.length ≤ 60 ∧ T 3 = .slice (some ⟨nid B l.length, 0, some (es.length * 9)⟩) es.length es.length ∧ H' = Hx B (l.set q (dr D p') ++ some (.row 35 (flat En.enc es)) :: g)) (fun i => i) m (by kernel_rfl) ⟨by omega, t0', rfl, p + 1, es, g, by omega, by omega, hes, by omega, t3', rfl⟩ ?_
      clear hlen hes t0' t3'
      clear es g
      rintro i T H' ⟨hi, t0, t9, p', es, g, hp1, hp2, hes, hlen, t3, rfl⟩
      by_cases hpos : 0 < i
      · obtain ⟨i, rfl⟩ : ∃ j, i = j + 1 := ⟨i - 1, by omega⟩
        have d1 : ((0 : Int) < ((i + 1 : Nat) : Int)) = True := eq_true (by omega)
        have wr : IntKind.i64.wrap (((i + 1 : Nat) : Int) - 1) = (i : Int) := by rw [wrap_i64 (by omega) (by omega)]; omega
        simp only [go_sem, cond, Nat.reduceAdd, Nat.reduceLeDiff, Nat.reduceEqDiff, Nat.reduceBEq, decide_true, decide_false, Int.toNat_natCast, r, sA, gQ, gR, gR0, sR, sR0, List.set_set, List.append_assoc, List.length_append, List.length_set, List.singleton_append, List.cons_append, List.nil_append, t0, t3, t9, d1]
        refine call (l16Say_nm w0 D B _ q _ hD (gQ _ _) (by omega)) ?_
        rintro v H2 ⟨p1, rfl, h1, h2, ⟨y1, y2, y3, y4, y5, y6, y7, y8, y9, y10⟩, ⟨hy, hyn⟩, rfl⟩
        have hy' := hy.sm
        have hyr : y2.size ≤ 500 := hy.room
        clear hy
        simp only [go_sem, cond, Nat.reduceAdd, Nat.reduceLeDiff, Nat.reduceEqDiff, Nat.reduceBEq, decide_true, decide_false, Int.toNat_natCast, r, sA, gQ, gR, gR0, sR, sR0, List.set_set, List.append_assoc, List.length_append, List.length_set, List.singleton_append, List.cons_append, List.nil_append, t0, t3, t9, d1, hb, gi, si, si0, List.set_cons_zero, List.set_cons_succ, wr, Sy.enc]
        refine call (l16User_nm w0 D B _ q _ hD (gQ _ _) (by omega)) ?_
        rintro v H2 ⟨p2, rfl, h3, h4, us, ⟨hus, hun⟩, rfl⟩
        simp only [go_sem, cond, Nat.reduceAdd, Nat.reduceLeDiff, Nat.reduceEqDiff, Nat.reduceBEq, decide_true, decide_false, Int.toNat_natCast, r, sA, gQ, gR, gR0, sR, sR0, List.set_set, List.append_assoc, List.length_append, List.length_set, List.singleton_append, List.cons_append, List.nil_append, t0, t3, t9, d1, hb, gi, si, si0, List.set_cons_zero, List.set_cons_succ, wr]
        refine call (pick_ok w0 D hD B _ q _ _ (gQ _ _) (by omega)) ?_
        rintro v H2 ⟨k, rfl, -, -, rfl⟩
        simp only [go_sem, cond, Nat.reduceAdd, Nat.reduceLeDiff, Nat.reduceEqDiff, Nat.reduceBEq, decide_true, decide_false, Int.toNat_natCast, r, sA, gQ, gR, gR0, sR, sR0, List.set_set, List.append_assoc, List.length_append, List.length_set, List.singleton_append, List.cons_append, List.nil_append, t0, t3, t9, d1, hb, gi, si, si0, List.set_cons_zero, List.set_cons_succ, wr]
        refine Br_intro ?_ ?_ <;> intro h0 <;> simp only [go_sem, cond, Nat.reduceAdd, Nat.reduceLeDiff, Nat.reduceEqDiff, Nat.reduceBEq, decide_true, decide_false, Int.toNat_natCast, r, sA, gQ, gR, gR0, sR, sR0, List.set_set, List.append_assoc, List.length_append, List.length_set, List.singleton_append, List.cons_append, List.nil_append, t0, t3, t9, d1, hb, gi, si, si0, List.set_cons_zero, List.set_cons_succ, wr, h0]
        · refine call (l16Room_ok w0 D B _ q _ hD (gQ _ _) (by omega)) ?_
          rintro v H2 ⟨p3, rfl, h5, h6, ro, hro0, rfl⟩
          simp only [go_sem, cond, Nat.reduceAdd, Nat.reduceLeDiff, Nat.reduceEqDiff, Nat.reduceBEq, decide_true, decide_false, Int.toNat_natCast, r, sA, gQ, gR, gR0, sR, sR0, List.set_set, List.append_assoc, List.length_append, List.length_set, List.singleton_append, List.cons_append, List.nil_append, t0, t3, t9, d1, hb, gi, si, si0, List.set_cons_zero, List.set_cons_succ, wr]
          refine call (l16Nick_ok w0 D B _ q _ hD (gQ _ _) (by omega)) ?_
          rintro v H2 ⟨p4, rfl, h7, h8, ni, hni, rfl⟩
          simp only [go_sem, cond, Nat.reduceAdd, Nat.reduceLeDiff, Nat.reduceEqDiff, Nat.reduceBEq, decide_true, decide_false, Int.toNat_natCast, r, sA, gQ, gR, gR0, sR, sR0, List.set_set, List.append_assoc, List.length_append, List.length_set, List.singleton_append, List.cons_append, List.nil_append, t0, t3, t9, d1, hb, gi, si, si0, List.set_cons_zero, List.set_cons_succ, wr]
          (refine xw_open (id := 17) [0, 0, 2, 7, 0, 0, 0, 127, 255, 511, 511, 1023, 4095] [.q 0, .q 1, .q 4, .q 5, .q 2, .l 6, .e 3, .d 6, .e 7, .q 8, .q 9, .q 10, .q 11, .q 12] rfl (by kernel_rfl) ?_; simp only [go_sem, cond, Nat.reduceAdd, Nat.reduceLeDiff, Nat.reduceEqDiff, Nat.reduceBEq, decide_true, decide_false, Int.toNat_natCast, r, sA, gQ, gR, gR0, sR, sR0, List.set_set, List.append_assoc, List.length_append, List.length_set, List.singleton_append, List.cons_append, List.nil_append, t0, t3, t9, d1, hb, gi, si, si0, List.set_cons_zero, List.set_cons_succ, wr])
          have hS : SmS ⟨6, ro, ni, em, em, em, em, 0, 0, 0⟩ := ⟨by show ni.size ≤ 100000; omega, em_sm, em_sm, em_sm, em_sm⟩
          have hro := roomR_ok ro es (by omega) hes.sm
          refine call (l8Room_ok w0 _ es _ _ _ (Sl_own elen _ es B _ _ (gR0 _ _)) (by omega) hes.sm) ?_
          rintro v H2 ⟨x, g2, rfl, rfl, hpl, -⟩
          simp only [go_sem, cond, Nat.reduceAdd, Nat.reduceLeDiff, Nat.reduceEqDiff, Nat.reduceBEq, decide_true, decide_false, Int.toNat_natCast, r, sA, gQ, gR, gR0, sR, sR0, List.set_set, List.append_assoc, List.length_append, List.length_set, List.singleton_append, List.cons_append, List.nil_append, t0, t3, t9, d1, hb, gi, si, si0, List.set_cons_zero, List.set_cons_succ, wr]
          have hadd := LogD.add ro us ⟨6, ro, ni, em, em, em, em, 0, 0, 0⟩ hes (by omega) (by omega) hS hun nm_em
          have hle := hes.le ro us ⟨6, ro, ni, em, em, em, em, 0, 0, 0⟩ (by omega) (by omega) hS
          refine call_eq (l6Do_ok w0 _ (roomR ro es) x es _ _ us ⟨6, ro, ni, em, em, em, em, 0, 0, 0⟩ (PlO.rm' w0 hpl ?_ (by omega) (by omega)) (Sl_own elen _ es B _ _ (gR0 _ _)) (by omega)) ?_
          · simp only [List.append_assoc, List.cons_append, List.nil_append]
          generalize doR _ _ _ _ = rs at *
          obtain ⟨fs, code⟩ := rs
          simp only at hadd hle
          have wl : IntKind.i64.wrap ((es.length : Int) + (fs.length : Int)) = ((es.length + fs.length : Nat) : Int) := by rw [wrap_i64 (by omega) (by omega)]; omega
          by_cases hf : fs = []
          · subst hf
            have wl0 : IntKind.i64.wrap ((es.length : Int) + ((0 : Nat) : Int)) = (es.length : Int) := wl
            simp only [go_sem, cond, Nat.reduceAdd, Nat.reduceLeDiff, Nat.reduceEqDiff, Nat.reduceBEq, decide_true, decide_false, Int.toNat_natCast, r, sA, gQ, gR, gR0, sR, sR0, List.set_set, List.append_assoc, List.length_append, List.length_set, List.singleton_append, List.cons_append, List.nil_append, t0, t3, t9, d1, hb, gi, si, si0, List.set_cons_zero, List.set_cons_succ, wr, deedV, esV_nil, esO_nil, wl0]
            refine Br_intro ?_ ?_ <;> intro h10 <;> simp only [go_sem, cond, Nat.reduceAdd, Nat.reduceLeDiff, Nat.reduceEqDiff, Nat.reduceBEq, decide_true, decide_false, Int.toNat_natCast, r, sA, gQ, gR, gR0, sR, sR0, List.set_set, List.append_assoc, List.length_append, List.length_set, List.singleton_append, List.cons_append, List.nil_append, t0, t3, t9, d1, hb, gi, si, si0, List.set_cons_zero, List.set_cons_succ, wr, wl0, h10]
            · refine Br_intro ?_ ?_ <;> intro h11 <;> simp only [go_sem, cond, Nat.reduceAdd, Nat.reduceLeDiff, Nat.reduceEqDiff, Nat.reduceBEq, decide_true, decide_false, Int.toNat_natCast, r, sA, gQ, gR, gR0, sR, sR0, List.set_set, List.append_assoc, List.length_append, List.length_set, List.singleton_append, List.cons_append, List.nil_append, t0, t3, t9, d1, hb, gi, si, si0, List.set_cons_zero, List.set_cons_succ, wr, wl0, h11]
              · refine appS_full (m := 0) (sl := es.length) _ _ _ _ _ _ _ l.length _ _ _ (gR0 _ _) rfl (flat_len elen _) XF.lay_35 (by decide) (by rfl) (by omega) (by omega) ?_
                simp only [go_sem, cond, Nat.reduceAdd, Nat.reduceLeDiff, Nat.reduceEqDiff, Nat.reduceBEq, decide_true, decide_false, Int.toNat_natCast, r, sA, gQ, gR, gR0, sR, sR0, List.set_set, List.append_assoc, List.length_append, List.length_set, List.singleton_append, List.cons_append, List.nil_append, t0, t3, t9, d1, hb, gi, si, si0, List.set_cons_zero, List.set_cons_succ, wr, List.append_nil]
                exact ⟨i, ⟨by omega, t0, rfl, _, es, _, by omega, by omega, hes, hlen, rfl, rfl⟩, Nat.lt_succ_self i⟩
              · exact ⟨i, ⟨by omega, t0, rfl, _, es, _, by omega, by omega, hes, hlen, t3, rfl⟩, Nat.lt_succ_self i⟩
            · exact ⟨i, ⟨by omega, t0, rfl, _, es, _, by omega, by omega, hes, hlen, t3, rfl⟩, Nat.lt_succ_self i⟩
          · have v1 := fun H => esV_ne (H := H) hf
            have v2 := esO_ne hf
            have v3 := rd_fs fs
            simp only [go_sem, cond, Nat.reduceAdd, Nat.reduceLeDiff, Nat.reduceEqDiff, Nat.reduceBEq, decide_true, decide_false, Int.toNat_natCast, r, sA, gQ, gR, gR0, sR, sR0, List.set_set, List.append_assoc, List.length_append, List.length_set, List.singleton_append, List.cons_append, List.nil_append, t0, t3, t9, d1, hb, gi, si, si0, List.set_cons_zero, List.set_cons_succ, wr, deedV, v1, v2, v3, Nat.add_zero, wl]
            refine Br_intro ?_ ?_ <;> intro h10 <;> simp only [go_sem, cond, Nat.reduceAdd, Nat.reduceLeDiff, Nat.reduceEqDiff, Nat.reduceBEq, decide_true, decide_false, Int.toNat_natCast, r, sA, gQ, gR, gR0, sR, sR0, List.set_set, List.append_assoc, List.length_append, List.length_set, List.singleton_append, List.cons_append, List.nil_append, t0, t3, t9, d1, hb, gi, si, si0, List.set_cons_zero, List.set_cons_succ, wr, wl, h10]
            · refine Br_intro ?_ ?_ <;> intro h11 <;> simp only [go_sem, cond, Nat.reduceAdd, Nat.reduceLeDiff, Nat.reduceEqDiff, Nat.reduceBEq, decide_true, decide_false, Int.toNat_natCast, r, sA, gQ, gR, gR0, sR, sR0, List.set_set, List.append_assoc, List.length_append, List.length_set, List.singleton_append, List.cons_append, List.nil_append, t0, t3, t9, d1, hb, gi, si, si0, List.set_cons_zero, List.set_cons_succ, wr, wl, h11, v3, Nat.add_zero]
              · have h12 : es.length + fs.length ≤ 60 := by have := of_decide_eq_true h11; omega
                refine appS_full (m := fs.length) (sl := es.length) _ _ _ _ _ _ _ l.length _ _ _ (gR0 _ _) rfl (flat_len elen _) XF.lay_35 (by decide) (flat_len elen _) (by omega) (by omega) ?_
                simp only [go_sem, cond, Nat.reduceAdd, Nat.reduceLeDiff, Nat.reduceEqDiff, Nat.reduceBEq, decide_true, decide_false, Int.toNat_natCast, r, sA, gQ, gR, gR0, sR, sR0, List.set_set, List.append_assoc, List.length_append, List.length_set, List.singleton_append, List.cons_append, List.nil_append, t0, t3, t9, d1, hb, gi, si, si0, List.set_cons_zero, List.set_cons_succ, wr]
                exact ⟨i, ⟨by omega, t0, rfl, p4, es ++ fs, _, by omega, by omega, hadd, by rw [List.length_append]; exact h12, by rw [List.length_append]; rfl, by rw [flat_app]⟩, Nat.lt_succ_self i⟩
              · exact ⟨i, ⟨by omega, t0, rfl, _, es, _, by omega, by omega, hes, hlen, t3, rfl⟩, Nat.lt_succ_self i⟩
            · exact ⟨i, ⟨by omega, t0, rfl, _, es, _, by omega, by omega, hes, hlen, t3, rfl⟩, Nat.lt_succ_self i⟩
        · refine Br_intro ?_ ?_ <;> intro h9 <;> simp only [go_sem, cond, Nat.reduceAdd, Nat.reduceLeDiff, Nat.reduceEqDiff, Nat.reduceBEq, decide_true, decide_false, Int.toNat_natCast, r, sA, gQ, gR, gR0, sR, sR0, List.set_set, List.append_assoc, List.length_append, List.length_set, List.singleton_append, List.cons_append, List.nil_append, t0, t3, t9, d1, hb, gi, si, si0, List.set_cons_zero, List.set_cons_succ, wr, h9]
          · exact ⟨i, ⟨by omega, t0, rfl, _, es, _, by omega, by omega, hes, hlen, t3, rfl⟩, Nat.lt_succ_self i⟩
          (refine xw_open (id := 17) [0, 0, 2, 7, 0, 0, 0, 127, 255, 511, 511, 1023, 4095] [.q 0, .q 1, .q 4, .q 5, .q 2, .l 6, .e 3, .d 6, .e 7, .q 8, .q 9, .q 10, .q 11, .q 12] rfl (by kernel_rfl) ?_; simp only [go_sem, cond, Nat.reduceAdd, Nat.reduceLeDiff, Nat.reduceEqDiff, Nat.reduceBEq, decide_true, decide_false, Int.toNat_natCast, r, sA, gQ, gR, gR0, sR, sR0, List.set_set, List.append_assoc, List.length_append, List.length_set, List.singleton_append, List.cons_append, List.nil_append, t0, t3, t9, d1, hb, gi, si, si0, List.set_cons_zero, List.set_cons_succ, wr])
          have hS : SmS ⟨y1, y2, y3, y4, y5, y6, y7, y8, y9, y10⟩ := hy'
          have hro := roomR_ok y2 es (by omega) hes.sm
          refine call (l8Room_ok w0 _ es _ _ _ (Sl_own elen _ es B _ _ (gR0 _ _)) (by omega) hes.sm) ?_
          rintro v H2 ⟨x, g2, rfl, rfl, hpl, -⟩
          simp only [go_sem, cond, Nat.reduceAdd, Nat.reduceLeDiff, Nat.reduceEqDiff, Nat.reduceBEq, decide_true, decide_false, Int.toNat_natCast, r, sA, gQ, gR, gR0, sR, sR0, List.set_set, List.append_assoc, List.length_append, List.length_set, List.singleton_append, List.cons_append, List.nil_append, t0, t3, t9, d1, hb, gi, si, si0, List.set_cons_zero, List.set_cons_succ, wr]
          have hadd := LogD.add y2 us ⟨y1, y2, y3, y4, y5, y6, y7, y8, y9, y10⟩ hes (by omega) (by omega) hS hun hyn
          have hle := hes.le y2 us ⟨y1, y2, y3, y4, y5, y6, y7, y8, y9, y10⟩ (by omega) (by omega) hS
          refine call_eq (l6Do_ok w0 _ (roomR y2 es) x es _ _ us ⟨y1, y2, y3, y4, y5, y6, y7, y8, y9, y10⟩ (PlO.rm' w0 hpl ?_ (by omega) (by omega)) (Sl_own elen _ es B _ _ (gR0 _ _)) (by omega)) ?_
          · simp only [List.append_assoc, List.cons_append, List.nil_append]
          generalize doR _ _ _ _ = rs at *
          obtain ⟨fs, code⟩ := rs
          simp only at hadd hle
          have wl : IntKind.i64.wrap ((es.length : Int) + (fs.length : Int)) = ((es.length + fs.length : Nat) : Int) := by rw [wrap_i64 (by omega) (by omega)]; omega
          by_cases hf : fs = []
          · subst hf
            have wl0 : IntKind.i64.wrap ((es.length : Int) + ((0 : Nat) : Int)) = (es.length : Int) := wl
            simp only [go_sem, cond, Nat.reduceAdd, Nat.reduceLeDiff, Nat.reduceEqDiff, Nat.reduceBEq, decide_true, decide_false, Int.toNat_natCast, r, sA, gQ, gR, gR0, sR, sR0, List.set_set, List.append_assoc, List.length_append, List.length_set, List.singleton_append, List.cons_append, List.nil_append, t0, t3, t9, d1, hb, gi, si, si0, List.set_cons_zero, List.set_cons_succ, wr, deedV, esV_nil, esO_nil, wl0]
            refine Br_intro ?_ ?_ <;> intro h10 <;> simp only [go_sem, cond, Nat.reduceAdd, Nat.reduceLeDiff, Nat.reduceEqDiff, Nat.reduceBEq, decide_true, decide_false, Int.toNat_natCast, r, sA, gQ, gR, gR0, sR, sR0, List.set_set, List.append_assoc, List.length_append, List.length_set, List.singleton_append, List.cons_append, List.nil_append, t0, t3, t9, d1, hb, gi, si, si0, List.set_cons_zero, List.set_cons_succ, wr, wl0, h10]
            · refine Br_intro ?_ ?_ <;> intro h11 <;> simp only [go_sem, cond, Nat.reduceAdd, Nat.reduceLeDiff, Nat.reduceEqDiff, Nat.reduceBEq, decide_true, decide_false, Int.toNat_natCast, r, sA, gQ, gR, gR0, sR, sR0, List.set_set, List.append_assoc, List.length_append, List.length_set, List.singleton_append, List.cons_append, List.nil_append, t0, t3, t9, d1, hb, gi, si, si0, List.set_cons_zero, List.set_cons_succ, wr, wl0, h11]
              · refine appS_full (m := 0) (sl := es.length) _ _ _ _ _ _ _ l.length _ _ _ (gR0 _ _) rfl (flat_len elen _) XF.lay_35 (by decide) (by rfl) (by omega) (by omega) ?_
                simp only [go_sem, cond, Nat.reduceAdd, Nat.reduceLeDiff, Nat.reduceEqDiff, Nat.reduceBEq, decide_true, decide_false, Int.toNat_natCast, r, sA, gQ, gR, gR0, sR, sR0, List.set_set, List.append_assoc, List.length_append, List.length_set, List.singleton_append, List.cons_append, List.nil_append, t0, t3, t9, d1, hb, gi, si, si0, List.set_cons_zero, List.set_cons_succ, wr, List.append_nil]
                exact ⟨i, ⟨by omega, t0, rfl, _, es, _, by omega, by omega, hes, hlen, rfl, rfl⟩, Nat.lt_succ_self i⟩
              · exact ⟨i, ⟨by omega, t0, rfl, _, es, _, by omega, by omega, hes, hlen, t3, rfl⟩, Nat.lt_succ_self i⟩
            · exact ⟨i, ⟨by omega, t0, rfl, _, es, _, by omega, by omega, hes, hlen, t3, rfl⟩, Nat.lt_succ_self i⟩
          · have v1 := fun H => esV_ne (H := H) hf
            have v2 := esO_ne hf
            have v3 := rd_fs fs
            simp only [go_sem, cond, Nat.reduceAdd, Nat.reduceLeDiff, Nat.reduceEqDiff, Nat.reduceBEq, decide_true, decide_false, Int.toNat_natCast, r, sA, gQ, gR, gR0, sR, sR0, List.set_set, List.append_assoc, List.length_append, List.length_set, List.singleton_append, List.cons_append, List.nil_append, t0, t3, t9, d1, hb, gi, si, si0, List.set_cons_zero, List.set_cons_succ, wr, deedV, v1, v2, v3, Nat.add_zero, wl]
            refine Br_intro ?_ ?_ <;> intro h10 <;> simp only [go_sem, cond, Nat.reduceAdd, Nat.reduceLeDiff, Nat.reduceEqDiff, Nat.reduceBEq, decide_true, decide_false, Int.toNat_natCast, r, sA, gQ, gR, gR0, sR, sR0, List.set_set, List.append_assoc, List.length_append, List.length_set, List.singleton_append, List.cons_append, List.nil_append, t0, t3, t9, d1, hb, gi, si, si0, List.set_cons_zero, List.set_cons_succ, wr, wl, h10]
            · refine Br_intro ?_ ?_ <;> intro h11 <;> simp only [go_sem, cond, Nat.reduceAdd, Nat.reduceLeDiff, Nat.reduceEqDiff, Nat.reduceBEq, decide_true, decide_false, Int.toNat_natCast, r, sA, gQ, gR, gR0, sR, sR0, List.set_set, List.append_assoc, List.length_append, List.length_set, List.singleton_append, List.cons_append, List.nil_append, t0, t3, t9, d1, hb, gi, si, si0, List.set_cons_zero, List.set_cons_succ, wr, wl, h11, v3, Nat.add_zero]
              · have h12 : es.length + fs.length ≤ 60 := by have := of_decide_eq_true h11; omega
                refine appS_full (m := fs.length) (sl := es.length) _ _ _ _ _ _ _ l.length _ _ _ (gR0 _ _) rfl (flat_len elen _) XF.lay_35 (by decide) (flat_len elen _) (by omega) (by omega) ?_
                simp only [go_sem, cond, Nat.reduceAdd, Nat.reduceLeDiff, Nat.reduceEqDiff, Nat.reduceBEq, decide_true, decide_false, Int.toNat_natCast, r, sA, gQ, gR, gR0, sR, sR0, List.set_set, List.append_assoc, List.length_append, List.length_set, List.singleton_append, List.cons_append, List.nil_append, t0, t3, t9, d1, hb, gi, si, si0, List.set_cons_zero, List.set_cons_succ, wr]
                exact ⟨i, ⟨by omega, t0, rfl, p2 + 1, es ++ fs, _, by omega, by omega, hadd, by rw [List.length_append]; exact h12, by rw [List.length_append]; rfl, by rw [flat_app]⟩, Nat.lt_succ_self i⟩
              · exact ⟨i, ⟨by omega, t0, rfl, _, es, _, by omega, by omega, hes, hlen, t3, rfl⟩, Nat.lt_succ_self i⟩
            · exact ⟨i, ⟨by omega, t0, rfl, _, es, _, by omega, by omega, hes, hlen, t3, rfl⟩, Nat.lt_succ_self i⟩
      · have d1 : ((0 : Int) < (i : Int)) = False := eq_false (by omega)
        simp only [go_sem, cond, Nat.reduceAdd, Nat.reduceLeDiff, Nat.reduceEqDiff, Nat.reduceBEq, decide_true, decide_false, Int.toNat_natCast, r, sA, gQ, gR, gR0, sR, sR0, List.set_set, List.append_assoc, List.length_append, List.length_set, List.singleton_append, List.cons_append, List.nil_append, t0, t3, t9, d1]
        exact ⟨p', es, 0, _, rfl, by omega, by omega, hes, by omega, rfl, rfl⟩
  · have d1 : ((i : Int) < (m : Int)) = False := eq_false (by omega)
    simp only [go_sem, cond, Nat.reduceAdd, Nat.reduceLeDiff, Nat.reduceEqDiff, Nat.reduceBEq, decide_true, decide_false, Int.toNat_natCast, r, sA, gQ, gR, gR0, sR, sR0, List.set_set, List.append_assoc, List.length_append, List.length_set, List.singleton_append, List.cons_append, List.nil_append, t0, t3, t4, t5, d1]
    have t0' := t0
    have t3' := t3
    clear d1 t0 t3 t4 t5 hmi
    refine xw_loop (fun (i : Nat) T H' => i ≤ 22 ∧ T 0 = .pointer (some ⟨nid B q, 0, some 2⟩) ∧ T 9 = .int .i64 i ∧ ∃ p' es g, p ≤ p' ∧ p' + i * 80 ≤ p + 2000 ∧ LogD es ∧ es.length ≤ 60 ∧ T 3 = .slice (some ⟨nid B l.length, 0, some (es.length * 9)⟩) es.length es.length ∧ H' = Hx B (l.set q (dr D p') ++ some (.row 35 (flat En.enc es)) :: g)) (fun i => i) m (by kernel_rfl) ⟨by omega, t0', rfl, p + 1, es, g, by omega, by omega, hes, by omega, t3', rfl⟩ ?_
    clear hlen hes t0' t3'
    clear es g
    rintro i T H' ⟨hi, t0, t9, p', es, g, hp1, hp2, hes, hlen, t3, rfl⟩
    by_cases hpos : 0 < i
    · obtain ⟨i, rfl⟩ : ∃ j, i = j + 1 := ⟨i - 1, by omega⟩
      have d1 : ((0 : Int) < ((i + 1 : Nat) : Int)) = True := eq_true (by omega)
      have wr : IntKind.i64.wrap (((i + 1 : Nat) : Int) - 1) = (i : Int) := by rw [wrap_i64 (by omega) (by omega)]; omega
      simp only [go_sem, cond, Nat.reduceAdd, Nat.reduceLeDiff, Nat.reduceEqDiff, Nat.reduceBEq, decide_true, decide_false, Int.toNat_natCast, r, sA, gQ, gR, gR0, sR, sR0, List.set_set, List.append_assoc, List.length_append, List.length_set, List.singleton_append, List.cons_append, List.nil_append, t0, t3, t9, d1]
      refine call (l16Say_nm w0 D B _ q _ hD (gQ _ _) (by omega)) ?_
      rintro v H2 ⟨p1, rfl, h1, h2, ⟨y1, y2, y3, y4, y5, y6, y7, y8, y9, y10⟩, ⟨hy, hyn⟩, rfl⟩
      have hy' := hy.sm
      have hyr : y2.size ≤ 500 := hy.room
      clear hy
      simp only [go_sem, cond, Nat.reduceAdd, Nat.reduceLeDiff, Nat.reduceEqDiff, Nat.reduceBEq, decide_true, decide_false, Int.toNat_natCast, r, sA, gQ, gR, gR0, sR, sR0, List.set_set, List.append_assoc, List.length_append, List.length_set, List.singleton_append, List.cons_append, List.nil_append, t0, t3, t9, d1, hb, gi, si, si0, List.set_cons_zero, List.set_cons_succ, wr, Sy.enc]
      refine call (l16User_nm w0 D B _ q _ hD (gQ _ _) (by omega)) ?_
      rintro v H2 ⟨p2, rfl, h3, h4, us, ⟨hus, hun⟩, rfl⟩
      simp only [go_sem, cond, Nat.reduceAdd, Nat.reduceLeDiff, Nat.reduceEqDiff, Nat.reduceBEq, decide_true, decide_false, Int.toNat_natCast, r, sA, gQ, gR, gR0, sR, sR0, List.set_set, List.append_assoc, List.length_append, List.length_set, List.singleton_append, List.cons_append, List.nil_append, t0, t3, t9, d1, hb, gi, si, si0, List.set_cons_zero, List.set_cons_succ, wr]
      refine call (pick_ok w0 D hD B _ q _ _ (gQ _ _) (by omega)) ?_
      rintro v H2 ⟨k, rfl, -, -, rfl⟩
      simp only [go_sem, cond, Nat.reduceAdd, Nat.reduceLeDiff, Nat.reduceEqDiff, Nat.reduceBEq, decide_true, decide_false, Int.toNat_natCast, r, sA, gQ, gR, gR0, sR, sR0, List.set_set, List.append_assoc, List.length_append, List.length_set, List.singleton_append, List.cons_append, List.nil_append, t0, t3, t9, d1, hb, gi, si, si0, List.set_cons_zero, List.set_cons_succ, wr]
      refine Br_intro ?_ ?_ <;> intro h0 <;> simp only [go_sem, cond, Nat.reduceAdd, Nat.reduceLeDiff, Nat.reduceEqDiff, Nat.reduceBEq, decide_true, decide_false, Int.toNat_natCast, r, sA, gQ, gR, gR0, sR, sR0, List.set_set, List.append_assoc, List.length_append, List.length_set, List.singleton_append, List.cons_append, List.nil_append, t0, t3, t9, d1, hb, gi, si, si0, List.set_cons_zero, List.set_cons_succ, wr, h0]
      · refine call (l16Room_ok w0 D B _ q _ hD (gQ _ _) (by omega)) ?_
        rintro v H2 ⟨p3, rfl, h5, h6, ro, hro0, rfl⟩
        simp only [go_sem, cond, Nat.reduceAdd, Nat.reduceLeDiff, Nat.reduceEqDiff, Nat.reduceBEq, decide_true, decide_false, Int.toNat_natCast, r, sA, gQ, gR, gR0, sR, sR0, List.set_set, List.append_assoc, List.length_append, List.length_set, List.singleton_append, List.cons_append, List.nil_append, t0, t3, t9, d1, hb, gi, si, si0, List.set_cons_zero, List.set_cons_succ, wr]
        refine call (l16Nick_ok w0 D B _ q _ hD (gQ _ _) (by omega)) ?_
        rintro v H2 ⟨p4, rfl, h7, h8, ni, hni, rfl⟩
        simp only [go_sem, cond, Nat.reduceAdd, Nat.reduceLeDiff, Nat.reduceEqDiff, Nat.reduceBEq, decide_true, decide_false, Int.toNat_natCast, r, sA, gQ, gR, gR0, sR, sR0, List.set_set, List.append_assoc, List.length_append, List.length_set, List.singleton_append, List.cons_append, List.nil_append, t0, t3, t9, d1, hb, gi, si, si0, List.set_cons_zero, List.set_cons_succ, wr]
        (refine xw_open (id := 17) [0, 0, 2, 7, 0, 0, 0, 127, 255, 511, 511, 1023, 4095] [.q 0, .q 1, .q 4, .q 5, .q 2, .l 6, .e 3, .d 6, .e 7, .q 8, .q 9, .q 10, .q 11, .q 12] rfl (by kernel_rfl) ?_; simp only [go_sem, cond, Nat.reduceAdd, Nat.reduceLeDiff, Nat.reduceEqDiff, Nat.reduceBEq, decide_true, decide_false, Int.toNat_natCast, r, sA, gQ, gR, gR0, sR, sR0, List.set_set, List.append_assoc, List.length_append, List.length_set, List.singleton_append, List.cons_append, List.nil_append, t0, t3, t9, d1, hb, gi, si, si0, List.set_cons_zero, List.set_cons_succ, wr])
        have hS : SmS ⟨6, ro, ni, em, em, em, em, 0, 0, 0⟩ := ⟨by show ni.size ≤ 100000; omega, em_sm, em_sm, em_sm, em_sm⟩
        have hro := roomR_ok ro es (by omega) hes.sm
        refine call (l8Room_ok w0 _ es _ _ _ (Sl_own elen _ es B _ _ (gR0 _ _)) (by omega) hes.sm) ?_
        rintro v H2 ⟨x, g2, rfl, rfl, hpl, -⟩
        simp only [go_sem, cond, Nat.reduceAdd, Nat.reduceLeDiff, Nat.reduceEqDiff, Nat.reduceBEq, decide_true, decide_false, Int.toNat_natCast, r, sA, gQ, gR, gR0, sR, sR0, List.set_set, List.append_assoc, List.length_append, List.length_set, List.singleton_append, List.cons_append, List.nil_append, t0, t3, t9, d1, hb, gi, si, si0, List.set_cons_zero, List.set_cons_succ, wr]
        have hadd := LogD.add ro us ⟨6, ro, ni, em, em, em, em, 0, 0, 0⟩ hes (by omega) (by omega) hS hun nm_em
        have hle := hes.le ro us ⟨6, ro, ni, em, em, em, em, 0, 0, 0⟩ (by omega) (by omega) hS
        refine call_eq (l6Do_ok w0 _ (roomR ro es) x es _ _ us ⟨6, ro, ni, em, em, em, em, 0, 0, 0⟩ (PlO.rm' w0 hpl ?_ (by omega) (by omega)) (Sl_own elen _ es B _ _ (gR0 _ _)) (by omega)) ?_
        · simp only [List.append_assoc, List.cons_append, List.nil_append]
        generalize doR _ _ _ _ = rs at *
        obtain ⟨fs, code⟩ := rs
        simp only at hadd hle
        have wl : IntKind.i64.wrap ((es.length : Int) + (fs.length : Int)) = ((es.length + fs.length : Nat) : Int) := by rw [wrap_i64 (by omega) (by omega)]; omega
        by_cases hf : fs = []
        · subst hf
          have wl0 : IntKind.i64.wrap ((es.length : Int) + ((0 : Nat) : Int)) = (es.length : Int) := wl
          simp only [go_sem, cond, Nat.reduceAdd, Nat.reduceLeDiff, Nat.reduceEqDiff, Nat.reduceBEq, decide_true, decide_false, Int.toNat_natCast, r, sA, gQ, gR, gR0, sR, sR0, List.set_set, List.append_assoc, List.length_append, List.length_set, List.singleton_append, List.cons_append, List.nil_append, t0, t3, t9, d1, hb, gi, si, si0, List.set_cons_zero, List.set_cons_succ, wr, deedV, esV_nil, esO_nil, wl0]
          refine Br_intro ?_ ?_ <;> intro h10 <;> simp only [go_sem, cond, Nat.reduceAdd, Nat.reduceLeDiff, Nat.reduceEqDiff, Nat.reduceBEq, decide_true, decide_false, Int.toNat_natCast, r, sA, gQ, gR, gR0, sR, sR0, List.set_set, List.append_assoc, List.length_append, List.length_set, List.singleton_append, List.cons_append, List.nil_append, t0, t3, t9, d1, hb, gi, si, si0, List.set_cons_zero, List.set_cons_succ, wr, wl0, h10]
          · refine Br_intro ?_ ?_ <;> intro h11 <;> simp only [go_sem, cond, Nat.reduceAdd, Nat.reduceLeDiff, Nat.reduceEqDiff, Nat.reduceBEq, decide_true, decide_false, Int.toNat_natCast, r, sA, gQ, gR, gR0, sR, sR0, List.set_set, List.append_assoc, List.length_append, List.length_set, List.singleton_append, List.cons_append, List.nil_append, t0, t3, t9, d1, hb, gi, si, si0, List.set_cons_zero, List.set_cons_succ, wr, wl0, h11]
            · refine appS_full (m := 0) (sl := es.length) _ _ _ _ _ _ _ l.length _ _ _ (gR0 _ _) rfl (flat_len elen _) XF.lay_35 (by decide) (by rfl) (by omega) (by omega) ?_
              simp only [go_sem, cond, Nat.reduceAdd, Nat.reduceLeDiff, Nat.reduceEqDiff, Nat.reduceBEq, decide_true, decide_false, Int.toNat_natCast, r, sA, gQ, gR, gR0, sR, sR0, List.set_set, List.append_assoc, List.length_append, List.length_set, List.singleton_append, List.cons_append, List.nil_append, t0, t3, t9, d1, hb, gi, si, si0, List.set_cons_zero, List.set_cons_succ, wr, List.append_nil]
              exact ⟨i, ⟨by omega, t0, rfl, _, es, _, by omega, by omega, hes, hlen, rfl, rfl⟩, Nat.lt_succ_self i⟩
            · exact ⟨i, ⟨by omega, t0, rfl, _, es, _, by omega, by omega, hes, hlen, t3, rfl⟩, Nat.lt_succ_self i⟩
          · exact ⟨i, ⟨by omega, t0, rfl, _, es, _, by omega, by omega, hes, hlen, t3, rfl⟩, Nat.lt_succ_self i⟩
        · have v1 := fun H => esV_ne (H := H) hf
          have v2 := esO_ne hf
          have v3 := rd_fs fs
          simp only [go_sem, cond, Nat.reduceAdd, Nat.reduceLeDiff, Nat.reduceEqDiff, Nat.reduceBEq, decide_true, decide_false, Int.toNat_natCast, r, sA, gQ, gR, gR0, sR, sR0, List.set_set, List.append_assoc, List.length_append, List.length_set, List.singleton_append, List.cons_append, List.nil_append, t0, t3, t9, d1, hb, gi, si, si0, List.set_cons_zero, List.set_cons_succ, wr, deedV, v1, v2, v3, Nat.add_zero, wl]
          refine Br_intro ?_ ?_ <;> intro h10 <;> simp only [go_sem, cond, Nat.reduceAdd, Nat.reduceLeDiff, Nat.reduceEqDiff, Nat.reduceBEq, decide_true, decide_false, Int.toNat_natCast, r, sA, gQ, gR, gR0, sR, sR0, List.set_set, List.append_assoc, List.length_append, List.length_set, List.singleton_append, List.cons_append, List.nil_append, t0, t3, t9, d1, hb, gi, si, si0, List.set_cons_zero, List.set_cons_succ, wr, wl, h10]
          · refine Br_intro ?_ ?_ <;> intro h11 <;> simp only [go_sem, cond, Nat.reduceAdd, Nat.reduceLeDiff, Nat.reduceEqDiff, Nat.reduceBEq, decide_true, decide_false, Int.toNat_natCast, r, sA, gQ, gR, gR0, sR, sR0, List.set_set, List.append_assoc, List.length_append, List.length_set, List.singleton_append, List.cons_append, List.nil_append, t0, t3, t9, d1, hb, gi, si, si0, List.set_cons_zero, List.set_cons_succ, wr, wl, h11, v3, Nat.add_zero]
            · have h12 : es.length + fs.length ≤ 60 := by have := of_decide_eq_true h11; omega
              refine appS_full (m := fs.length) (sl := es.length) _ _ _ _ _ _ _ l.length _ _ _ (gR0 _ _) rfl (flat_len elen _) XF.lay_35 (by decide) (flat_len elen _) (by omega) (by omega) ?_
              simp only [go_sem, cond, Nat.reduceAdd, Nat.reduceLeDiff, Nat.reduceEqDiff, Nat.reduceBEq, decide_true, decide_false, Int.toNat_natCast, r, sA, gQ, gR, gR0, sR, sR0, List.set_set, List.append_assoc, List.length_append, List.length_set, List.singleton_append, List.cons_append, List.nil_append, t0, t3, t9, d1, hb, gi, si, si0, List.set_cons_zero, List.set_cons_succ, wr]
              exact ⟨i, ⟨by omega, t0, rfl, p4, es ++ fs, _, by omega, by omega, hadd, by rw [List.length_append]; exact h12, by rw [List.length_append]; rfl, by rw [flat_app]⟩, Nat.lt_succ_self i⟩
            · exact ⟨i, ⟨by omega, t0, rfl, _, es, _, by omega, by omega, hes, hlen, t3, rfl⟩, Nat.lt_succ_self i⟩
          · exact ⟨i, ⟨by omega, t0, rfl, _, es, _, by omega, by omega, hes, hlen, t3, rfl⟩, Nat.lt_succ_self i⟩
      · refine Br_intro ?_ ?_ <;> intro h9 <;> simp only [go_sem, cond, Nat.reduceAdd, Nat.reduceLeDiff, Nat.reduceEqDiff, Nat.reduceBEq, decide_true, decide_false, Int.toNat_natCast, r, sA, gQ, gR, gR0, sR, sR0, List.set_set, List.append_assoc, List.length_append, List.length_set, List.singleton_append, List.cons_append, List.nil_append, t0, t3, t9, d1, hb, gi, si, si0, List.set_cons_zero, List.set_cons_succ, wr, h9]
        · exact ⟨i, ⟨by omega, t0, rfl, _, es, _, by omega, by omega, hes, hlen, t3, rfl⟩, Nat.lt_succ_self i⟩
        (refine xw_open (id := 17) [0, 0, 2, 7, 0, 0, 0, 127, 255, 511, 511, 1023, 4095] [.q 0, .q 1, .q 4, .q 5, .q 2, .l 6, .e 3, .d 6, .e 7, .q 8, .q 9, .q 10, .q 11, .q 12] rfl (by kernel_rfl) ?_; simp only [go_sem, cond, Nat.reduceAdd, Nat.reduceLeDiff, Nat.reduceEqDiff, Nat.reduceBEq, decide_true, decide_false, Int.toNat_natCast, r, sA, gQ, gR, gR0, sR, sR0, List.set_set, List.append_assoc, List.length_append, List.length_set, List.singleton_append, List.cons_append, List.nil_append, t0, t3, t9, d1, hb, gi, si, si0, List.set_cons_zero, List.set_cons_succ, wr])
        have hS : SmS ⟨y1, y2, y3, y4, y5, y6, y7, y8, y9, y10⟩ := hy'
        have hro := roomR_ok y2 es (by omega) hes.sm
        refine call (l8Room_ok w0 _ es _ _ _ (Sl_own elen _ es B _ _ (gR0 _ _)) (by omega) hes.sm) ?_
        rintro v H2 ⟨x, g2, rfl, rfl, hpl, -⟩
        simp only [go_sem, cond, Nat.reduceAdd, Nat.reduceLeDiff, Nat.reduceEqDiff, Nat.reduceBEq, decide_true, decide_false, Int.toNat_natCast, r, sA, gQ, gR, gR0, sR, sR0, List.set_set, List.append_assoc, List.length_append, List.length_set, List.singleton_append, List.cons_append, List.nil_append, t0, t3, t9, d1, hb, gi, si, si0, List.set_cons_zero, List.set_cons_succ, wr]
        have hadd := LogD.add y2 us ⟨y1, y2, y3, y4, y5, y6, y7, y8, y9, y10⟩ hes (by omega) (by omega) hS hun hyn
        have hle := hes.le y2 us ⟨y1, y2, y3, y4, y5, y6, y7, y8, y9, y10⟩ (by omega) (by omega) hS
        refine call_eq (l6Do_ok w0 _ (roomR y2 es) x es _ _ us ⟨y1, y2, y3, y4, y5, y6, y7, y8, y9, y10⟩ (PlO.rm' w0 hpl ?_ (by omega) (by omega)) (Sl_own elen _ es B _ _ (gR0 _ _)) (by omega)) ?_
        · simp only [List.append_assoc, List.cons_append, List.nil_append]
        generalize doR _ _ _ _ = rs at *
        obtain ⟨fs, code⟩ := rs
        simp only at hadd hle
        have wl : IntKind.i64.wrap ((es.length : Int) + (fs.length : Int)) = ((es.length + fs.length : Nat) : Int) := by rw [wrap_i64 (by omega) (by omega)]; omega
        by_cases hf : fs = []
        · subst hf
          have wl0 : IntKind.i64.wrap ((es.length : Int) + ((0 : Nat) : Int)) = (es.length : Int) := wl
          simp only [go_sem, cond, Nat.reduceAdd, Nat.reduceLeDiff, Nat.reduceEqDiff, Nat.reduceBEq, decide_true, decide_false, Int.toNat_natCast, r, sA, gQ, gR, gR0, sR, sR0, List.set_set, List.append_assoc, List.length_append, List.length_set, List.singleton_append, List.cons_append, List.nil_append, t0, t3, t9, d1, hb, gi, si, si0, List.set_cons_zero, List.set_cons_succ, wr, deedV, esV_nil, esO_nil, wl0]
          refine Br_intro ?_ ?_ <;> intro h10 <;> simp only [go_sem, cond, Nat.reduceAdd, Nat.reduceLeDiff, Nat.reduceEqDiff, Nat.reduceBEq, decide_true, decide_false, Int.toNat_natCast, r, sA, gQ, gR, gR0, sR, sR0, List.set_set, List.append_assoc, List.length_append, List.length_set, List.singleton_append, List.cons_append, List.nil_append, t0, t3, t9, d1, hb, gi, si, si0, List.set_cons_zero, List.set_cons_succ, wr, wl0, h10]
          · refine Br_intro ?_ ?_ <;> intro h11 <;> simp only [go_sem, cond, Nat.reduceAdd, Nat.reduceLeDiff, Nat.reduceEqDiff, Nat.reduceBEq, decide_true, decide_false, Int.toNat_natCast, r, sA, gQ, gR, gR0, sR, sR0, List.set_set, List.append_assoc, List.length_append, List.length_set, List.singleton_append, List.cons_append, List.nil_append, t0, t3, t9, d1, hb, gi, si, si0, List.set_cons_zero, List.set_cons_succ, wr, wl0, h11]
            · refine appS_full (m := 0) (sl := es.length) _ _ _ _ _ _ _ l.length _ _ _ (gR0 _ _) rfl (flat_len elen _) XF.lay_35 (by decide) (by rfl) (by omega) (by omega) ?_
              simp only [go_sem, cond, Nat.reduceAdd, Nat.reduceLeDiff, Nat.reduceEqDiff, Nat.reduceBEq, decide_true, decide_false, Int.toNat_natCast, r, sA, gQ, gR, gR0, sR, sR0, List.set_set, List.append_assoc, List.length_append, List.length_set, List.singleton_append, List.cons_append, List.nil_append, t0, t3, t9, d1, hb, gi, si, si0, List.set_cons_zero, List.set_cons_succ, wr, List.append_nil]
              exact ⟨i, ⟨by omega, t0, rfl, _, es, _, by omega, by omega, hes, hlen, rfl, rfl⟩, Nat.lt_succ_self i⟩
            · exact ⟨i, ⟨by omega, t0, rfl, _, es, _, by omega, by omega, hes, hlen, t3, rfl⟩, Nat.lt_succ_self i⟩
          · exact ⟨i, ⟨by omega, t0, rfl, _, es, _, by omega, by omega, hes, hlen, t3, rfl⟩, Nat.lt_succ_self i⟩
        · have v1 := fun H => esV_ne (H := H) hf
          have v2 := esO_ne hf
          have v3 := rd_fs fs
          simp only [go_sem, cond, Nat.reduceAdd, Nat.reduceLeDiff, Nat.reduceEqDiff, Nat.reduceBEq, decide_true, decide_false, Int.toNat_natCast, r, sA, gQ, gR, gR0, sR, sR0, List.set_set, List.append_assoc, List.length_append, List.length_set, List.singleton_append, List.cons_append, List.nil_append, t0, t3, t9, d1, hb, gi, si, si0, List.set_cons_zero, List.set_cons_succ, wr, deedV, v1, v2, v3, Nat.add_zero, wl]
          refine Br_intro ?_ ?_ <;> intro h10 <;> simp only [go_sem, cond, Nat.reduceAdd, Nat.reduceLeDiff, Nat.reduceEqDiff, Nat.reduceBEq, decide_true, decide_false, Int.toNat_natCast, r, sA, gQ, gR, gR0, sR, sR0, List.set_set, List.append_assoc, List.length_append, List.length_set, List.singleton_append, List.cons_append, List.nil_append, t0, t3, t9, d1, hb, gi, si, si0, List.set_cons_zero, List.set_cons_succ, wr, wl, h10]
          · refine Br_intro ?_ ?_ <;> intro h11 <;> simp only [go_sem, cond, Nat.reduceAdd, Nat.reduceLeDiff, Nat.reduceEqDiff, Nat.reduceBEq, decide_true, decide_false, Int.toNat_natCast, r, sA, gQ, gR, gR0, sR, sR0, List.set_set, List.append_assoc, List.length_append, List.length_set, List.singleton_append, List.cons_append, List.nil_append, t0, t3, t9, d1, hb, gi, si, si0, List.set_cons_zero, List.set_cons_succ, wr, wl, h11, v3, Nat.add_zero]
            · have h12 : es.length + fs.length ≤ 60 := by have := of_decide_eq_true h11; omega
              refine appS_full (m := fs.length) (sl := es.length) _ _ _ _ _ _ _ l.length _ _ _ (gR0 _ _) rfl (flat_len elen _) XF.lay_35 (by decide) (flat_len elen _) (by omega) (by omega) ?_
              simp only [go_sem, cond, Nat.reduceAdd, Nat.reduceLeDiff, Nat.reduceEqDiff, Nat.reduceBEq, decide_true, decide_false, Int.toNat_natCast, r, sA, gQ, gR, gR0, sR, sR0, List.set_set, List.append_assoc, List.length_append, List.length_set, List.singleton_append, List.cons_append, List.nil_append, t0, t3, t9, d1, hb, gi, si, si0, List.set_cons_zero, List.set_cons_succ, wr]
              exact ⟨i, ⟨by omega, t0, rfl, p2 + 1, es ++ fs, _, by omega, by omega, hadd, by rw [List.length_append]; exact h12, by rw [List.length_append]; rfl, by rw [flat_app]⟩, Nat.lt_succ_self i⟩
            · exact ⟨i, ⟨by omega, t0, rfl, _, es, _, by omega, by omega, hes, hlen, t3, rfl⟩, Nat.lt_succ_self i⟩
          · exact ⟨i, ⟨by omega, t0, rfl, _, es, _, by omega, by omega, hes, hlen, t3, rfl⟩, Nat.lt_succ_self i⟩
    · have d1 : ((0 : Int) < (i : Int)) = False := eq_false (by omega)
      simp only [go_sem, cond, Nat.reduceAdd, Nat.reduceLeDiff, Nat.reduceEqDiff, Nat.reduceBEq, decide_true, decide_false, Int.toNat_natCast, r, sA, gQ, gR, gR0, sR, sR0, List.set_set, List.append_assoc, List.length_append, List.length_set, List.singleton_append, List.cons_append, List.nil_append, t0, t3, t9, d1]
      exact ⟨p', es, 0, _, rfl, by omega, by omega, hes, by omega, rfl, rfl⟩
end Go.Proofs.YtcmflpdgfddmeaaDoorW.FA

namespace Go.Proofs.YtcmflpdgfddmeaaDoorW.FA
open Go.RowKit Go.Proofs.YtcmflpdgfddmeaaDoorW.XM Go.Proofs Go.Proofs.YtcmflpdgfddmeaaDoorW.XWords
set_option maxRecDepth 100000
set_option linter.unusedSimpArgs false
set_option linter.unusedVariables false
/-- Entries of a room, numbered on from the room's next number. -/
def Cns (R : Rm) (ns : List En) : Prop := ∀ i (h : i < ns.length), ns[i].room = R.name ∧ ns[i].seq = R.next + i
theorem cns_nil (R : Rm) : Cns R [] := fun i h => by simp at h
theorem cns_one {R : Rm} {a : En} (h1 : a.room = R.name) (h2 : a.seq = R.next) : Cns R [a] := fun i h => by
  obtain rfl : i = 0 := by simpa using h
  exact ⟨h1, by show a.seq = _; rw [h2]; simp⟩
theorem cns_two {R : Rm} {a b : En} (h1 : a.room = R.name) (h2 : a.seq = R.next) (h3 : b.room = R.name) (h4 : b.seq = R.next + 1) : Cns R [a, b] := fun i h => by
  match i, h with
  | 0, _ => exact ⟨h1, by show a.seq = _; rw [h2]; simp⟩
  | 1, _ => exact ⟨h3, by show b.seq = _; rw [h4]; rfl⟩
theorem doR_cns (R : Rm) (log : List En) (u : ByteArray) (s : Sy) (h0 : 0 ≤ R.next) (h1 : R.next ≤ 20001) : Cns R (doR R log u s).1 ∧ ((doR R log u s).1 ≠ [] → R.next ≤ 9996) ∧ (doR R log u s).1.length ≤ 2 := by
  unfold doR
  split
  · exact ⟨cns_nil R, fun h => absurd rfl h, by simp⟩
  · rename_i hb
    have w3 : IntKind.i64.wrap (R.next + 3) = R.next + 3 := wrap_i64 (by omega) (by omega)
    rw [w3] at hb
    have w0 : IntKind.i64.wrap (R.next + ((0 : Nat) : Int)) = R.next := by rw [wrap_i64 (by omega) (by omega)]; omega
    have w1 : IntKind.i64.wrap (R.next + ((1 : Nat) : Int)) = R.next + 1 := by rw [wrap_i64 (by omega) (by omega)]; omega
    have n0 : ∀ (k : Int), Cns R (([] : List En), k).1 ∧ ((([] : List En), k).1 ≠ [] → R.next ≤ 9996) ∧ (([] : List En), k).1.length ≤ 2 := fun k => ⟨cns_nil R, fun h => absurd rfl h, by simp⟩
    have n1 : ∀ (a : En) (k : Int), a.room = R.name → a.seq = R.next → Cns R ([a], k).1 ∧ (([a], k).1 ≠ [] → R.next ≤ 9996) ∧ ([a], k).1.length ≤ 2 := fun a k e1 e2 => ⟨cns_one e1 e2, fun _ => by omega, by simp⟩
    have n2 : ∀ (a b : En) (k : Int), a.room = R.name → a.seq = R.next → b.room = R.name → b.seq = R.next + 1 → Cns R ([a, b], k).1 ∧ (([a, b], k).1 ≠ [] → R.next ≤ 9996) ∧ ([a, b], k).1.length ≤ 2 := fun a b k e1 e2 e3 e4 => ⟨cns_two e1 e2 e3 e4, fun _ => by omega, by simp⟩
    split
    · unfold joinR
      repeat' split
      all_goals first
        | exact n0 _
        | exact n1 _ _ rfl w0
        | (rename_i hz; have hz' : R.next = 0 := by simpa using hz
           exact n2 _ _ _ rfl hz'.symm rfl w1)
    · split
      · exact n0 _
      · unfold insR
        repeat' split
        all_goals first
          | exact n0 _
          | exact n1 _ _ rfl rfl
          | skip
        · unfold roleR
          repeat' split
          all_goals first
            | exact n0 _
            | exact n1 _ _ rfl rfl
        · unfold setR
          repeat' split
          all_goals first
            | exact n0 _
            | skip
          unfold setL
          repeat' split
          all_goals first
            | exact n1 _ _ rfl w0
            | exact n2 _ _ _ rfl rfl rfl w1
            | exact n2 _ _ _ rfl w0 rfl w1
theorem stp_next {na : ByteArray} {R : Rm} {e : En} (h : e.room = na) (hs : 0 ≤ e.seq ∧ e.seq ≤ 20000) : (stpR na R e).next = e.seq + 1 := by
  unfold stpR
  rw [if_pos (by rw [h]; exact beq_self_eq_true _)]
  have w : IntKind.i64.wrap (e.seq + 1) = e.seq + 1 := wrap_i64 (by omega) (by omega)
  unfold applyR
  repeat' split
  all_goals exact w
theorem stp_name (na : ByteArray) (R : Rm) (e : En) : (stpR na R e).name = R.name := by
  unfold stpR applyR
  repeat' split
  all_goals rfl
theorem run_name (na : ByteArray) : ∀ (es : List En) (R : Rm), (runR na es R).name = R.name
  | [], R => rfl
  | e :: es, R => (run_name na es (stpR na R e)).trans (stp_name na R e)
theorem run_next (na : ByteArray) : ∀ (ns : List En) (R : Rm) (k : Int), 0 ≤ k → k + ns.length ≤ 20000 → R.next = k → (∀ i (h : i < ns.length), ns[i].room = na ∧ ns[i].seq = k + i) → (runR na ns R).next = k + ns.length
  | [], R, k, _, _, h, _ => by simp [runR, h]
  | e :: ns, R, k, h0, h1, h, hc => by
    have c0 := hc 0 (by simp)
    simp only [List.getElem_cons_zero] at c0
    have h2 : (stpR na R e).next = k + 1 := by
      rw [stp_next c0.1 (by rw [c0.2]; simp at h1; omega), c0.2]; omega
    have := run_next na ns (stpR na R e) (k + 1) (by omega) (by simp at h1; omega) h2 fun i hi => by
      have := hc (i + 1) (by simp; omega)
      simp only [List.getElem_cons_succ] at this
      exact ⟨this.1, by rw [this.2]; omega⟩
    show (runR na ns (stpR na R e)).next = _
    rw [this]; simp; omega
theorem run_other (ro : ByteArray) : ∀ (ns : List En) (R : Rm), (∀ e ∈ ns, (e.room.toList == ro.toList) = false) → runR ro ns R = R
  | [], R, _ => rfl
  | e :: ns, R, h => by
    have : stpR ro R e = R := by unfold stpR; rw [if_neg (by rw [h e (by simp)]; decide)]
    show runR ro ns (stpR ro R e) = R
    rw [this]
    exact run_other ro ns R fun x hx => h x (by simp [hx])
def inRo (ro : ByteArray) (e : En) : Bool := e.room.toList == ro.toList
/-- The numbers of a room's entries rise. -/
structure Rise (ro : ByteArray) (es : List En) : Prop where
  rg : 0 ≤ (roomR ro es).next ∧ (roomR ro es).next ≤ 9998
  each : ∀ e ∈ es.filter (inRo ro), 0 ≤ e.seq ∧ e.seq < (roomR ro es).next
  pair : (es.filter (inRo ro)).Pairwise fun a b => a.seq < b.seq
theorem LogD.rise {es : List En} (h : LogD es) (ro : ByteArray) : Rise ro es := by
  induction h with
  | nil => exact ⟨⟨Int.le_refl 0, (by decide : (0 : Int) ≤ 9998)⟩, fun e he => by simp at he, List.Pairwise.nil⟩
  | @add es na u s hes h1 h2 h3 h4 h5 ih =>
    have hrg := runR_rg na es ⟨na, 0, [], [], em⟩ hes.sm ⟨Int.le_refl 0, (by decide : (0 : Int) ≤ 20001)⟩
    obtain ⟨c1, c2, c3⟩ := doR_cns (roomR na es) es u s hrg.1 hrg.2
    have hname : (roomR na es).name = na := run_name na es _
    generalize hns : (doR (roomR na es) es u s).1 = ns at *
    have hroom : ∀ e ∈ ns, e.room = na := fun e he => by
      obtain ⟨i, hi, rfl⟩ := List.getElem_of_mem he
      rw [(c1 i hi).1, hname]
    have hrun : roomR ro (es ++ ns) = runR ro ns (roomR ro es) := runR_app ro es ns _
    by_cases hro : na = ro
    · subst hro
      have hf : (es ++ ns).filter (inRo na) = es.filter (inRo na) ++ ns := by
        rw [List.filter_append]
        congr 1
        exact List.filter_eq_self.2 fun e he => by rw [inRo, hroom e he]; exact beq_self_eq_true _
      by_cases hn : ns = []
      · subst hn
        rw [List.append_nil]; exact ih
      · have h96 := c2 hn
        have hnx : (roomR na (es ++ ns)).next = (roomR na es).next + ns.length := by
          rw [hrun]
          exact run_next na ns _ _ hrg.1 (by omega) rfl fun i hi => ⟨by rw [(c1 i hi).1, hname], (c1 i hi).2⟩
        have hge : 0 ≤ (roomR na es).next := hrg.1
        refine ⟨by omega, ?_, ?_⟩
        · rw [hf, hnx]
          intro e he
          rcases List.mem_append.1 he with he | he
          · have := ih.each e he; omega
          · obtain ⟨i, hi, rfl⟩ := List.getElem_of_mem he
            have := (c1 i hi).2
            omega
        · rw [hf, List.pairwise_append]
          refine ⟨ih.pair, ?_, fun a ha b hb => ?_⟩
          · rw [List.pairwise_iff_getElem]
            intro i j hi hj hij
            rw [(c1 i hi).2, (c1 j hj).2]; omega
          · have := ih.each a ha
            obtain ⟨i, hi, rfl⟩ := List.getElem_of_mem hb
            rw [(c1 i hi).2]; omega
    · have hne : ∀ e ∈ ns, (e.room.toList == ro.toList) = false := fun e he => by
        rw [hroom e he, beq_eq_false_iff_ne]
        exact fun x => hro (ba_ext x)
      have hf : (es ++ ns).filter (inRo ro) = es.filter (inRo ro) := by
        have h0 : ns.filter (inRo ro) = [] := List.filter_eq_nil_iff.2 (fun e he => by rw [inRo, hne e he]; decide)
        rw [List.filter_append, h0, List.append_nil]
      have hnx : roomR ro (es ++ ns) = roomR ro es := by rw [hrun]; exact run_other ro ns _ hne
      exact ⟨by rw [hnx]; exact ih.rg, by rw [hf, hnx]; exact ih.each, by rw [hf]; exact ih.pair⟩
end Go.Proofs.YtcmflpdgfddmeaaDoorW.FA

namespace Go.Proofs.YtcmflpdgfddmeaaDoorW.FA
open Go.RowKit Go.Proofs.YtcmflpdgfddmeaaDoorW.XM Go.Proofs Go.Proofs.YtcmflpdgfddmeaaDoorW.XWords
set_option maxRecDepth 100000
set_option linter.unusedSimpArgs false
set_option linter.unusedVariables false
variable {w0 : World} {H : Hp}
/-- Where a room lies whose members and whose ranks may each be nowhere. -/
structure PlS (H : Hp) (n : Nat) (g : List (Option Ob)) (R : Rm) (x : Ad) : Prop where
  m : (x.a = none ∧ x.c = 0 ∧ R.ms = []) ∨ ∃ j, g[j]? = some (some (.row 74 (flat Mem.enc R.ms))) ∧ x.a = some ⟨nid H (n + j), 0, some (R.ms.length * 3)⟩ ∧ x.c = R.ms.length
  k : (x.b = none ∧ x.d = 0 ∧ R.ks = []) ∨ ∃ j, g[j]? = some (some (.row 83 (flat Rk.enc R.ks))) ∧ x.b = some ⟨nid H (n + j), 0, some (R.ks.length * 2)⟩ ∧ x.d = R.ks.length
theorem PlS.more {n : Nat} {g : List (Option Ob)} {R : Rm} {x : Ad} (h : PlS H n g R x) (L : List (Option Ob)) : PlS H n (g ++ L) R x := by
  refine ⟨h.m.imp id fun ⟨j, a, b⟩ => ⟨j, ?_, b⟩, h.k.imp id fun ⟨j, a, b⟩ => ⟨j, ?_, b⟩⟩ <;> rw [List.getElem?_append_left (lt_of_get a)] <;> exact a
theorem PlS.shift {pre g : List (Option Ob)} {R : Rm} {x : Ad} (h : PlS H pre.length g R x) : PlS H 0 (pre ++ g) R x := by
  refine ⟨h.m.imp id fun ⟨j, a, b, c⟩ => ⟨pre.length + j, ?_, by rw [Nat.zero_add]; exact b, c⟩, h.k.imp id fun ⟨j, a, b, c⟩ => ⟨pre.length + j, ?_, by rw [Nat.zero_add]; exact b, c⟩⟩ <;> rw [List.getElem?_append_right (by omega), Nat.add_sub_cancel_left] <;> exact a
theorem PlS.at {n : Nat} {g pre : List (Option Ob)} {R : Rm} {x : Ad} (h : PlS H n g R x) (hn : pre.length = n) (lm : R.ms.length ≤ 2000000) (lk : R.ks.length ≤ 2000000) : RmAt w0 (Hx H (pre ++ g)) R x ∧ RmOw w0 (Hx H (pre ++ g)) R x := by
  subst hn
  obtain ⟨na, nx, ms, ks, su⟩ := R
  obtain ⟨a, c, b, d⟩ := x
  have gi : ∀ k, (pre ++ g)[pre.length + k]? = g[k]? := fun k => by rw [List.getElem?_append_right (by omega)]; simp
  have hm : (Sl w0 (Hx H (pre ++ g)) a 3 (ms.map Mem.enc) ∧ ∀ L, src w0 (Hx (Hx H (pre ++ g)) L) 3 (.slice a ms.length c) = some (ms.length, flat Mem.enc ms)) ∧ ms.length ≤ c ∧ (∀ b o sp, a = some ⟨b, o, sp⟩ → ∀ L, Go.Proofs.YtcmflpdgfddmeaaDoorW.XM.ownB Tryd.prog (Hx (Hx H (pre ++ g)) L) 3 b sp) ∧ (∀ b o sp, a = some ⟨b, o, sp⟩ → ∀ L, rd w0 (Hx (Hx H (pre ++ g)) L) ⟨b, o, sp⟩ (ms.length * 3) = some (flat Mem.enc ms)) := by
    rcases h.m with ⟨h1, h2, h3⟩ | ⟨j, h1, h2, h3⟩
    · simp only at h1 h2 h3
      subst h1 h2 h3
      exact ⟨⟨.inl rfl, fun L => rfl⟩, Nat.le_refl _, (fun _ _ _ e => by cases e), (fun _ _ _ e => by cases e)⟩
    · simp only at h1 h2 h3
      subst h2 h3
      have hj := (gi j).trans h1
      refine ⟨⟨Sl_own mlen _ ms H _ _ hj, fun L => by rw [src_sl, rd_flat mlen _ ms H _ _ hj]; rfl⟩, Nat.le_refl _, fun b o sp e L => ?_, fun b o sp e L => ?_⟩
      · cases e
        refine ⟨_, flat Mem.enc ms, false || true, ?_, flat_len mlen ms, XF.lay_74⟩
        have := lt_of_get hj
        rw [Hx_Hx, Hx_get, List.getElem?_append_left this]
        exact hj
      · cases e
        exact rd_flat mlen _ ms H _ _ hj L
  have hk : Sl w0 (Hx H (pre ++ g)) b 2 (ks.map Rk.enc) ∧ ∀ L, src w0 (Hx (Hx H (pre ++ g)) L) 2 (.slice b ks.length d) = some (ks.length, flat Rk.enc ks) := by
    rcases h.k with ⟨h1, h2, h3⟩ | ⟨j, h1, h2, h3⟩
    · simp only at h1 h2 h3
      subst h1 h2 h3
      exact ⟨.inl rfl, fun L => rfl⟩
    · simp only at h1 h2 h3
      subst h2 h3
      have hj := (gi j).trans h1
      exact ⟨Sl_own klen _ ks H _ _ hj, fun L => by rw [src_sl, rd_flat klen _ ks H _ _ hj]; rfl⟩
  exact ⟨⟨hm.1.1, hk.1, lm, lk, hm.1.2, hk.2⟩, ⟨hm.2.1, hm.2.2.1, hm.2.2.2⟩⟩
variable (w0 H)
end Go.Proofs.YtcmflpdgfddmeaaDoorW.FA

namespace Go.Proofs.YtcmflpdgfddmeaaDoorW.FA
open Go.RowKit Go.Proofs.YtcmflpdgfddmeaaDoorW.XM Go.Proofs Go.Proofs.YtcmflpdgfddmeaaDoorW.XWords
set_option maxRecDepth 100000
set_option linter.unusedSimpArgs false
set_option linter.unusedVariables false
variable (w0 : World) (H : Hp)
/-- The texts of an entry are short. -/
structure TxE (e : En) : Prop where
  rm : e.room.size ≤ 100000
  us : e.user.size ≤ 100000
  ni : e.nick.size ≤ 100000
  tx : e.text.size ≤ 100000
  id : e.id.size ≤ 100000
  rf : e.ref.size ≤ 100000
theorem TxE.mk2 {se k n : Int} {ro us ni te i re : ByteArray} (h1 : ro.size ≤ 100000) (h2 : us.size ≤ 100000) (h3 : ni.size ≤ 100000) (h4 : te.size ≤ 100000) (h5 : i.size ≤ 100000) (h6 : re.size ≤ 100000) : TxE ⟨ro, se, k, us, ni, te, i, re, n⟩ := ⟨h1, h2, h3, h4, h5, h6⟩
end Go.Proofs.YtcmflpdgfddmeaaDoorW.FA

namespace Go.Proofs.YtcmflpdgfddmeaaDoorW.FA
open Go.RowKit Go.Proofs.YtcmflpdgfddmeaaDoorW.XM Go.Proofs Go.Proofs.YtcmflpdgfddmeaaDoorW.XWords
set_option maxRecDepth 100000
set_option linter.unusedSimpArgs false
set_option linter.unusedVariables false
variable (w0 : World) (H : Hp)
/-- Where a law's code lies. -/
structure CoOk (w0 : World) (A : Option Addr) (c : Nat) (bs : List UInt8) : Prop where
  rd : ∀ H, Sl w0 H A 1 (bs.map encB)
  pl : plain (.slice A bs.length c) = true
  le : bs.length ≤ c
theorem Sl.take {w0 : World} {H : Hp} {A : Option Addr} {n : Nat} {rows : List (List Value)} (h : Sl w0 H A n rows) (k : Nat) : Sl w0 H A n (rows.take k) := by
  rcases h with h | ⟨b, o, sp, h, hr⟩
  · exact .inl (by rw [h, List.take_nil])
  · refine .inr ⟨b, o, sp, h, fun i r hi => hr i r ?_⟩
    rw [List.getElem?_take] at hi
    split at hi
    · exact hi
    · cases hi
theorem l16Open_ok (A : Option Addr) (c : Nat) (bs : List UInt8) (hc : CoOk w0 A c bs) : AFn Tryd.prog w0 10 #[.slice A bs.length c] H fun v H2 => ∃ D, CdOk w0 D ∧ v = .pointer (some ⟨nid H 0, 0, some 2⟩) ∧ H2 = Hx H [dr D 0] := by
  have hle := hc.le
  refine AFn_nil ?_
  refine AFn_of Tryd.func10 rfl (by kernel_rfl) ?_
  have r := Tryd.results10
  simp only [go_sem, cond, Nat.reduceAdd, Nat.reduceLeDiff, Nat.reduceEqDiff, Nat.reduceBEq, decide_true, decide_false, Int.toNat_natCast, r]
  refine Br_intro ?_ ?_ <;> intro h <;> simp only [go_sem, cond, Nat.reduceAdd, Nat.reduceLeDiff, Nat.reduceEqDiff, Nat.reduceBEq, decide_true, decide_false, Int.toNat_natCast, r, h]
  · have h := of_decide_eq_true h
    have hpl := hc.pl
    have hrd := hc.rd
    cases A with
    | none =>
      rcases hrd H with h2 | ⟨b, o, sp, h2, -⟩
      · simp only [List.map_eq_nil_iff] at h2
        subst h2
        simp at h
      · cases h2
    | some a =>
      obtain ⟨b, o, sp⟩ := a
      cases sp with
      | some t => simp [plain] at hpl
      | none =>
        refine ⟨_, _, XF.elm_22, by simp, 0, 2000, c, rfl, rfl, rfl, by omega, by omega, by omega, by omega, trivial, .inr (.inl ⟨by simp, ?_⟩)⟩
        have e1 : (if ((c : Int)).toNat = Int.toNat 0 then o else o + Int.toNat 0 * 1) = o := by split <;> simp
        rw [e1]
        simp only [go_sem, cond, Nat.reduceAdd, Nat.reduceLeDiff, Nat.reduceEqDiff, Nat.reduceBEq, decide_true, decide_false, Int.toNat_natCast, r]
        refine ⟨⟨some ⟨b, o, none⟩, 2000, c⟩, ⟨⟨bs.take 2000, by simp; omega, fun H => ?_⟩, by dsimp only; omega, rfl⟩, rfl⟩
        rw [List.map_take]
        exact Sl.take (hrd H) 2000
  · have h := of_decide_eq_false h
    refine ⟨⟨A, bs.length, c⟩, ⟨⟨bs, rfl, hc.rd⟩, by dsimp only; omega, hc.pl⟩, rfl⟩
end Go.Proofs.YtcmflpdgfddmeaaDoorW.FA

namespace Go.Proofs.YtcmflpdgfddmeaaDoorW.FA
open Go.RowKit Go.Proofs.YtcmflpdgfddmeaaDoorW.XM Go.Proofs Go.Proofs.YtcmflpdgfddmeaaDoorW.XWords
set_option maxRecDepth 100000
set_option linter.unusedSimpArgs false
set_option linter.unusedVariables false
variable (w0 : World) (H : Hp)
end Go.Proofs.YtcmflpdgfddmeaaDoorW.FA

namespace Go.Proofs.YtcmflpdgfddmeaaDoorW.FA
open Go.RowKit Go.Proofs.YtcmflpdgfddmeaaDoorW.XM Go.Proofs Go.Proofs.YtcmflpdgfddmeaaDoorW.XWords
set_option maxRecDepth 100000
set_option linter.unusedSimpArgs false
set_option linter.unusedVariables false
variable (w0 : World) (H : Hp)
end Go.Proofs.YtcmflpdgfddmeaaDoorW.FA

namespace Go.Proofs.YtcmflpdgfddmeaaDoorW.FA
open Go.RowKit Go.Proofs.YtcmflpdgfddmeaaDoorW.XM Go.Proofs Go.Proofs.YtcmflpdgfddmeaaDoorW.XWords
set_option maxRecDepth 100000
set_option linter.unusedSimpArgs false
set_option linter.unusedVariables false
variable (w0 : World) (H : Hp)
end Go.Proofs.YtcmflpdgfddmeaaDoorW.FA

namespace Go.Proofs.YtcmflpdgfddmeaaDoorW.FA
open Go.RowKit Go.Proofs.YtcmflpdgfddmeaaDoorW.XM Go.Proofs Go.Proofs.YtcmflpdgfddmeaaDoorW.XWords
set_option maxRecDepth 100000
set_option linter.unusedSimpArgs false
set_option linter.unusedVariables false
variable {w0 : World} {H : Hp}
theorem nid_Hx (B : Hp) (M : List (Option Ob)) (k : Nat) : nid (Hx B M) k = nid B (M.length + k) := by
  unfold nid Hx; simp [Nat.add_assoc]
variable (w0 H)
theorem PlS.nm {H : Hp} {n : Nat} {g : List (Option Ob)} {R : Rm} {x : Ad} (h : PlS H n g R x) : (x.a = none → x.c = 0 ∧ R.ms = []) ∧ (x.b = none → x.d = 0 ∧ R.ks = []) := by
  constructor
  · intro hx
    rcases h.m with ⟨_, h2, h3⟩ | ⟨j, _, h2, _⟩
    · exact ⟨h2, h3⟩
    · rw [h2] at hx; cases hx
  · intro hx
    rcases h.k with ⟨_, h2, h3⟩ | ⟨j, _, h2, _⟩
    · exact ⟨h2, h3⟩
    · rw [h2] at hx; cases hx
end Go.Proofs.YtcmflpdgfddmeaaDoorW.FA

namespace Go.Proofs.YtcmflpdgfddmeaaDoorW.FA
open Go.RowKit Go.Proofs.YtcmflpdgfddmeaaDoorW.XM Go.Proofs Go.Proofs.YtcmflpdgfddmeaaDoorW.XWords
set_option maxRecDepth 100000
set_option linter.unusedSimpArgs false
set_option linter.unusedVariables false
variable (w0 : World) (H : Hp)
end Go.Proofs.YtcmflpdgfddmeaaDoorW.FA

namespace Go.Proofs.YtcmflpdgfddmeaaDoorW.FA
open Go.RowKit Go.Proofs.YtcmflpdgfddmeaaDoorW.XM Go.Proofs Go.Proofs.YtcmflpdgfddmeaaDoorW.XWords
set_option maxRecDepth 100000
set_option linter.unusedSimpArgs false
set_option linter.unusedVariables false
variable (w0 : World) (H : Hp)
theorem indexE_ok {α : Type} (enc : α → List Value) (A : Option Addr) (c : Nat) (ms : List α) (hs : Sl w0 H A 9 (ms.map enc)) (hl : ms.length ≤ 2000000) (he : ∀ m, (enc m).length = 9) (g : FuncId) (fi ca : List Value) (p : α → Bool)
    (hp : ∀ i (h : i < ms.length), AFn Tryd.prog w0 g (fi ++ [Value.agg (enc ms[i]).toArray] ++ ca).toArray H fun v H2 => v = .bool (p ms[i]) ∧ H2 = H) :
    AFn Tryd.prog w0 21 #[.slice A ms.length c, .func (.func g) fi.toArray ca.toArray] H fun v H2 => v = .int .i64 (idxP p ms 0) ∧ H2 = H := by
  refine AFn.scal rfl Tryd.func21 rfl (by kernel_rfl) ?_
  have r := Tryd.results21
  simp only [go_sem, cond, Nat.reduceAdd, Nat.reduceLeDiff, Nat.reduceEqDiff, Nat.reduceBEq, decide_true, decide_false, Int.toNat_natCast, r]
  refine xw_loop (fun (i : Nat) T H' => i ≤ ms.length ∧ idxP p (ms.drop i) i = idxP p ms 0 ∧ T 0 = .slice A ms.length c ∧ T 1 = .func (.func g) fi.toArray ca.toArray ∧ T 7 = .int .i64 ms.length ∧ T 8 = .int .i64 i ∧ H' = Hx H []) (fun i => ms.length - i) 0 (by kernel_rfl) ⟨Nat.zero_le _, rfl, rfl, rfl, rfl, rfl, rfl⟩ ?_
  rintro i T H' ⟨hi, he2, t0, t1, t7, t8, rfl⟩
  by_cases hlt : i < ms.length
  · obtain ⟨b, o, sp, hx, _, hc⟩ := mcell hs hlt
    have c0 := hc [] (he _)
    have d1 : ((i : Int) < (ms.length : Int)) = True := eq_true (by omega)
    have d2 : (0 ≤ (i : Int)) = True := eq_true (by omega)
    have c1 := hp i hlt
    rw [← Hx_nil H] at c1
    rw [idxP_drop _ _ i hlt] at he2
    simp only [go_sem, cond, Nat.reduceAdd, Nat.reduceLeDiff, Nat.reduceEqDiff, Nat.reduceBEq, decide_true, decide_false, Int.toNat_natCast, hx, t0, t1, t7, t8, d1, d2, c0]
    refine call_eq c1 ?_
    simp only [go_sem, cond, Nat.reduceAdd, Nat.reduceLeDiff, Nat.reduceEqDiff, Nat.reduceBEq, decide_true, decide_false, Int.toNat_natCast, hx, t0, t1, t7, t8, d1, d2, c0]
    refine Br_intro ?_ ?_ <;> intro h <;> simp only [go_sem, cond, Nat.reduceAdd, Nat.reduceLeDiff, Nat.reduceEqDiff, Nat.reduceBEq, decide_true, decide_false, Int.toNat_natCast, t0, t1, t7, t8, h, r]
    · rw [if_pos h] at he2
      exact ⟨by rw [he2], _, rfl⟩
    · rw [if_neg (by rw [h]; decide)] at he2
      exact ⟨i + 1, ⟨hlt, he2, (by rw [← hx]; exact t0), t1, t7, int_succ hlt (by omega), rfl⟩, lt_meas hlt⟩
  · obtain rfl : i = ms.length := by omega
    have d1 : ((ms.length : Int) < (ms.length : Int)) = False := eq_false (by omega)
    rw [List.drop_length] at he2
    simp only [go_sem, cond, Nat.reduceAdd, Nat.reduceLeDiff, Nat.reduceEqDiff, Nat.reduceBEq, decide_true, decide_false, Int.toNat_natCast, t0, t1, t7, t8, d1, r]
    exact ⟨by rw [← he2]; rfl, _, rfl⟩
end Go.Proofs.YtcmflpdgfddmeaaDoorW.FA

namespace Go.Proofs.YtcmflpdgfddmeaaDoorW.FA
open Go.RowKit Go.Proofs.YtcmflpdgfddmeaaDoorW.XM Go.Proofs Go.Proofs.YtcmflpdgfddmeaaDoorW.XWords
set_option maxRecDepth 100000
set_option linter.unusedSimpArgs false
set_option linter.unusedVariables false
variable (w0 : World) (H : Hp)
def eqS (s t : Sy) : Bool := (s.kind == t.kind) && ((s.room.toList == t.room.toList) && ((s.nick.toList == t.nick.toList) && ((s.name.toList == t.name.toList) && ((s.id.toList == t.id.toList) && ((s.ref.toList == t.ref.toList) && ((s.text.toList == t.text.toList) && ((s.num == t.num) && ((s.frm == t.frm) && ((s.back == t.back) && true)))))))))
theorem eqS_comm (s t : Sy) : eqS s t = eqS t s := by
  unfold eqS
  simp only [Bool.beq_comm, BEq.comm]
/-- What is said has nothing but what its kind has. -/
def xS (s : Sy) : Bool := eqS s (cleanS s)
def restS (s : Sy) : Bool :=
  if (s.kind == 1) = true then userB s.name && wordB s.text
  else if (s.kind == 2) = true then true
  else if (s.kind == 4) = true then true
  else if (s.kind == 7) = true then true
  else if (s.kind == 3) = true then inB s.num 0 255
  else if (s.kind == 5) = true then wordB s.ref && inB s.num 0 255
  else if (s.kind == 6) = true then nickB s.nick
  else if (s.kind == 8) = true then bodyB s.text && orB wordB s.ref
  else if (s.kind == 9) = true then bodyB s.text
  else if (s.kind == 10) = true then nickB s.nick && inB s.num 0 3
  else if (s.kind == 11) = true then userB s.name && inB s.num 0 4
  else if (s.kind == 12) = true then orB userB s.name && (inB s.num 1 4 && (inB s.frm (-1) 9999 && (inB s.back (-1) 9999 && (decide (s.frm < 0) || decide (s.back < 0)))))
  else false
def sayB (s : Sy) : Bool := xS s && ((!decide (6 ≤ s.kind) || userB s.room) && ((!decide (8 ≤ s.kind) || wordB s.id) && restS s))
structure BigS (s : Sy) : Prop where
  rm : s.room.size ≤ 1000000000000
  ni : s.nick.size ≤ 1000000000000
  na : s.name.size ≤ 1000000000000
  id : s.id.size ≤ 1000000000000
  rf : s.ref.size ≤ 1000000000000
  tx : s.text.size ≤ 1000000000000
theorem bareS_ok (s : Sy) : AFn Tryd.prog w0 34 #[.agg s.enc.toArray] H fun v H2 => v = .agg (cleanS s).enc.toArray ∧ H2 = H := by
  refine AFn.scal rfl Tryd.func34 rfl (by kernel_rfl) ?_
  have r := Tryd.results34
  simp only [go_sem, cond, Nat.reduceAdd, Nat.reduceLeDiff, Nat.reduceEqDiff, Nat.reduceBEq, decide_true, decide_false, Int.toNat_natCast, r]
  simp only [go_sem, cond, Nat.reduceAdd, Nat.reduceLeDiff, Nat.reduceEqDiff, Nat.reduceBEq, decide_true, decide_false, Int.toNat_natCast, Sy.enc, r]
  repeat' (first
    | (refine Br_intro ?_ ?_ <;> intro h <;> simp only [go_sem, cond, Nat.reduceAdd, Nat.reduceLeDiff, Nat.reduceEqDiff, Nat.reduceBEq, decide_true, decide_false, Int.toNat_natCast, h, r])
    | ((refine xw_open (id := 4) [0, 1, 0, 4, 3, 19, 63, 127] [.q 0, .q 2, .q 1, .q 4, .l 3, .e 5, .d 3, .q 6, .e 7] rfl (by kernel_rfl) ?_; simp only [go_sem, cond, Nat.reduceAdd, Nat.reduceLeDiff, Nat.reduceEqDiff, Nat.reduceBEq, decide_true, decide_false, Int.toNat_natCast, r]))
    | ((refine xw_open (id := 8) [0, 1, 0, 4, 3, 19, 63, 127] [.q 0, .q 2, .q 1, .q 4, .l 3, .e 5, .d 3, .q 6, .e 7] rfl (by kernel_rfl) ?_; simp only [go_sem, cond, Nat.reduceAdd, Nat.reduceLeDiff, Nat.reduceEqDiff, Nat.reduceBEq, decide_true, decide_false, Int.toNat_natCast, r]))
    | ((refine xw_open (id := 10) [0, 1, 0, 4, 3, 19, 63, 127] [.q 0, .q 2, .q 1, .q 4, .l 3, .e 5, .d 3, .q 6, .e 7] rfl (by kernel_rfl) ?_; simp only [go_sem, cond, Nat.reduceAdd, Nat.reduceLeDiff, Nat.reduceEqDiff, Nat.reduceBEq, decide_true, decide_false, Int.toNat_natCast, r]))
    | ((refine xw_open (id := 14) [0, 1, 0, 4, 0, 16, 0, 64, 3, 259, 783, 1807, 3903, 7999, 16383, 32767] [.q 0, .q 2, .q 4, .q 6, .q 1, .q 8, .l 3, .l 5, .l 7, .e 9, .d 3, .q 10, .e 11, .d 5, .q 12, .e 13, .d 7, .q 14, .e 15] rfl (by kernel_rfl) ?_; simp only [go_sem, cond, Nat.reduceAdd, Nat.reduceLeDiff, Nat.reduceEqDiff, Nat.reduceBEq, decide_true, decide_false, Int.toNat_natCast, r]))
    | ((refine xw_open (id := 16) [0, 1, 0, 4, 0, 16, 3, 67, 207, 463, 1023, 2047] [.q 0, .q 2, .q 4, .q 1, .q 6, .l 3, .l 5, .e 7, .d 3, .q 8, .e 9, .d 5, .q 10, .e 11] rfl (by kernel_rfl) ?_; simp only [go_sem, cond, Nat.reduceAdd, Nat.reduceLeDiff, Nat.reduceEqDiff, Nat.reduceBEq, decide_true, decide_false, Int.toNat_natCast, r]))
    | ((refine xw_open (id := 18) [0, 1, 0, 4, 0, 16, 0, 64, 3, 259, 783, 1807, 3903, 7999, 16383, 32767] [.q 0, .q 2, .q 4, .q 6, .q 1, .q 8, .l 3, .l 5, .l 7, .e 9, .d 3, .q 10, .e 11, .d 5, .q 12, .e 13, .d 7, .q 14, .e 15] rfl (by kernel_rfl) ?_; simp only [go_sem, cond, Nat.reduceAdd, Nat.reduceLeDiff, Nat.reduceEqDiff, Nat.reduceBEq, decide_true, decide_false, Int.toNat_natCast, r]))
    | ((refine xw_open (id := 20) [0, 1, 0, 4, 0, 16, 0, 64, 3, 259, 783, 1807, 3903, 7999, 16383, 32767] [.q 0, .q 2, .q 4, .q 6, .q 1, .q 8, .l 3, .l 5, .l 7, .e 9, .d 3, .q 10, .e 11, .d 5, .q 12, .e 13, .d 7, .q 14, .e 15] rfl (by kernel_rfl) ?_; simp only [go_sem, cond, Nat.reduceAdd, Nat.reduceLeDiff, Nat.reduceEqDiff, Nat.reduceBEq, decide_true, decide_false, Int.toNat_natCast, r]))
    | ((refine xw_open (id := 22) [0, 1, 0, 4, 0, 16, 0, 64, 0, 256, 0, 1024, 3, 4099, 12303, 28687, 61503, 127039, 258303, 520447, 1045503, 2094079, 4194303, 8388607] [.q 0, .q 2, .q 4, .q 6, .q 8, .q 10, .q 1, .q 12, .l 3, .l 5, .l 7, .l 9, .l 11, .e 13, .d 3, .q 14, .e 15, .d 5, .q 16, .e 17, .d 7, .q 18, .e 19, .d 9, .q 20, .e 21, .d 11, .q 22, .e 23] rfl (by kernel_rfl) ?_; simp only [go_sem, cond, Nat.reduceAdd, Nat.reduceLeDiff, Nat.reduceEqDiff, Nat.reduceBEq, decide_true, decide_false, Int.toNat_natCast, r])))
  all_goals first
    | exact ⟨by simp only [cleanS, *]; rfl, _, rfl⟩
    | (exfalso
       simp only [beq_iff_eq, beq_eq_false_iff_ne] at *
       omega)
    | trace_state
theorem count_ok (n : Int) : AFn Tryd.prog w0 37 #[.int .i64 n] H fun v H2 => v = .bool (inB n 0 255) ∧ H2 = H := by
  refine AFn.scal rfl Tryd.func37 rfl (by kernel_rfl) ?_
  have r := Tryd.results37
  simp only [go_sem, cond, Nat.reduceAdd, Nat.reduceLeDiff, Nat.reduceEqDiff, Nat.reduceBEq, decide_true, decide_false, Int.toNat_natCast, r]
  refine call_eq (within_ok _ _ _ _ _) ?_
  simp only [go_sem, cond, Nat.reduceAdd, Nat.reduceLeDiff, Nat.reduceEqDiff, Nat.reduceBEq, decide_true, decide_false, Int.toNat_natCast, r]
  exact ⟨_, rfl⟩
end Go.Proofs.YtcmflpdgfddmeaaDoorW.FA

namespace Go.Proofs.YtcmflpdgfddmeaaDoorW.FA
open Go.RowKit Go.Proofs.YtcmflpdgfddmeaaDoorW.XM Go.Proofs Go.Proofs.YtcmflpdgfddmeaaDoorW.XWords
set_option maxRecDepth 100000
set_option linter.unusedSimpArgs false
set_option linter.unusedVariables false
variable (w0 : World) (H : Hp)
theorem minB {a b : Int} (ha : inB a (-1) 9999 = true) (hb : inB b (-1) 9999 = true) : ((if b < a then b else a) == -1) = (decide (a < 0) || decide (b < 0)) := by
  simp only [inB, Bool.and_eq_true, decide_eq_true_eq] at ha hb
  rw [Bool.eq_iff_iff]
  simp only [beq_iff_eq, Bool.or_eq_true, decide_eq_true_eq]
  split <;> omega
set_option maxHeartbeats 20000000 in
theorem SayOk_ok (s : Sy) (hT : Tabs w0) (hb : BigS s) : AFn Tryd.prog w0 17 #[.agg s.enc.toArray] H fun v H2 => v = .bool (sayB s) ∧ H2 = H := by
  refine AFn.scal rfl Tryd.func17 rfl (by kernel_rfl) ?_
  have r := Tryd.results17
  simp only [go_sem, cond, Nat.reduceAdd, Nat.reduceLeDiff, Nat.reduceEqDiff, Nat.reduceBEq, decide_true, decide_false, Int.toNat_natCast, r]
  simp only [go_sem, cond, Nat.reduceAdd, Nat.reduceLeDiff, Nat.reduceEqDiff, Nat.reduceBEq, decide_true, decide_false, Int.toNat_natCast, Sy.enc, r]
  (refine xw_open (id := 1) [0, 0, 2, 7, 15, 31, 63, 127, 255, 511, 1023, 2047, 4095, 8191, 16383, 32767, 65535, 131071, 262143, 524287, 1048575, 2097151, 4194303, 8388607, 16777215, 33554431] [.l 0, .q 1, .e 2, .d 0, .q 3, .q 4, .q 5, .q 6, .q 7, .q 8, .q 9, .q 10, .e 11, .q 12, .q 13, .q 14, .q 15, .q 16, .q 17, .q 18, .q 19, .q 20, .q 21, .e 22, .q 23, .q 24, .q 25] rfl (by kernel_rfl) ?_; simp only [go_sem, cond, Nat.reduceAdd, Nat.reduceLeDiff, Nat.reduceEqDiff, Nat.reduceBEq, decide_true, decide_false, Int.toNat_natCast, r])
  refine call_eq (bareS_ok _ _ s) ?_
  simp only [go_sem, cond, Nat.reduceAdd, Nat.reduceLeDiff, Nat.reduceEqDiff, Nat.reduceBEq, decide_true, decide_false, Int.toNat_natCast, r, Sy.enc]
  rw [show (s.kind == (cleanS s).kind && (s.room.toList == (cleanS s).room.toList && (s.nick.toList == (cleanS s).nick.toList && (s.name.toList == (cleanS s).name.toList && (s.id.toList == (cleanS s).id.toList && (s.ref.toList == (cleanS s).ref.toList && (s.text.toList == (cleanS s).text.toList && (s.num == (cleanS s).num && (s.frm == (cleanS s).frm && (s.back == (cleanS s).back && true)))))))))) = xS s from rfl]
  repeat' (first
    | (refine Br_intro ?_ ?_ <;> intro h <;> simp only [go_sem, cond, Nat.reduceAdd, Nat.reduceLeDiff, Nat.reduceEqDiff, Nat.reduceBEq, decide_true, decide_false, Int.toNat_natCast, h, r])
    | (refine call_eq (userOk_ok _ _ _ hb.rm) ?_; simp only [go_sem, cond, Nat.reduceAdd, Nat.reduceLeDiff, Nat.reduceEqDiff, Nat.reduceBEq, decide_true, decide_false, Int.toNat_natCast, r])
    | (refine call_eq (userOk_ok _ _ _ hb.na) ?_; simp only [go_sem, cond, Nat.reduceAdd, Nat.reduceLeDiff, Nat.reduceEqDiff, Nat.reduceBEq, decide_true, decide_false, Int.toNat_natCast, r])
    | (refine call_eq (nickOk_ok _ _ _ hT hb.ni) ?_; simp only [go_sem, cond, Nat.reduceAdd, Nat.reduceLeDiff, Nat.reduceEqDiff, Nat.reduceBEq, decide_true, decide_false, Int.toNat_natCast, r])
    | (refine call_eq (bodyOk_ok _ _ _ hT hb.tx) ?_; simp only [go_sem, cond, Nat.reduceAdd, Nat.reduceLeDiff, Nat.reduceEqDiff, Nat.reduceBEq, decide_true, decide_false, Int.toNat_natCast, r])
    | (refine call_eq (wordOk_ok _ _ _ hb.id) ?_; simp only [go_sem, cond, Nat.reduceAdd, Nat.reduceLeDiff, Nat.reduceEqDiff, Nat.reduceBEq, decide_true, decide_false, Int.toNat_natCast, r])
    | (refine call_eq (wordOk_ok _ _ _ hb.tx) ?_; simp only [go_sem, cond, Nat.reduceAdd, Nat.reduceLeDiff, Nat.reduceEqDiff, Nat.reduceBEq, decide_true, decide_false, Int.toNat_natCast, r])
    | (refine call_eq (wordOk_ok _ _ _ hb.rf) ?_; simp only [go_sem, cond, Nat.reduceAdd, Nat.reduceLeDiff, Nat.reduceEqDiff, Nat.reduceBEq, decide_true, decide_false, Int.toNat_natCast, r])
    | (refine call_eq (orEmpty_ok _ _ _ _ wordB (wordOk_ok _ _ _ hb.rf)) ?_; simp only [go_sem, cond, Nat.reduceAdd, Nat.reduceLeDiff, Nat.reduceEqDiff, Nat.reduceBEq, decide_true, decide_false, Int.toNat_natCast, r])
    | (refine call_eq (orEmpty_ok _ _ _ _ userB (userOk_ok _ _ _ hb.na)) ?_; simp only [go_sem, cond, Nat.reduceAdd, Nat.reduceLeDiff, Nat.reduceEqDiff, Nat.reduceBEq, decide_true, decide_false, Int.toNat_natCast, r])
    | (refine call_eq (count_ok _ _ _) ?_; simp only [go_sem, cond, Nat.reduceAdd, Nat.reduceLeDiff, Nat.reduceEqDiff, Nat.reduceBEq, decide_true, decide_false, Int.toNat_natCast, r])
    | (refine call_eq (within_ok _ _ _ _ _) ?_; simp only [go_sem, cond, Nat.reduceAdd, Nat.reduceLeDiff, Nat.reduceEqDiff, Nat.reduceBEq, decide_true, decide_false, Int.toNat_natCast, r]))
  all_goals first
    | (exfalso
       clear hb r
       simp only [beq_iff_eq, beq_eq_false_iff_ne, decide_eq_true_eq, decide_eq_false_iff_not] at *
       omega)
    | skip
  all_goals refine ⟨congrArg Value.bool ?_, _, rfl⟩
  all_goals clear hb r
  all_goals first
    | (simp only [sayB, restS, *, Bool.true_and, Bool.false_and, Bool.and_true, Bool.and_false, Bool.not_true, Bool.not_false, Bool.true_or, Bool.or_true, Bool.false_or, Bool.or_false, if_true, Bool.false_eq_true, if_false]; done)
    | (rw [minB (a := s.frm) (b := s.back) (by assumption) (by assumption)]; simp only [sayB, restS, *, Bool.true_and, Bool.false_and, Bool.and_true, Bool.and_false, Bool.not_true, Bool.not_false, Bool.true_or, Bool.or_true, Bool.false_or, Bool.or_false, if_true, Bool.false_eq_true, if_false]; done)
    | trace_state
end Go.Proofs.YtcmflpdgfddmeaaDoorW.FA

namespace Go.Proofs.YtcmflpdgfddmeaaDoorW.FA
open Go.RowKit Go.Proofs.YtcmflpdgfddmeaaDoorW.XM Go.Proofs Go.Proofs.YtcmflpdgfddmeaaDoorW.XWords
set_option maxRecDepth 100000
set_option linter.unusedSimpArgs false
set_option linter.unusedVariables false
variable (w0 : World) (H : Hp)
def rngB (s : Sy) : Bool := (!decide (6 ≤ s.kind) || userB s.room) && ((!decide (8 ≤ s.kind) || wordB s.id) && restS s)
set_option maxHeartbeats 20000000 in
theorem l5Ranged_ok (s : Sy) (hb : BigS s) : AFn Tryd.prog w0 43 #[.agg s.enc.toArray] H fun v H2 => v = .bool (rngB s) ∧ H2 = H := by
  refine AFn.scal rfl Tryd.func43 rfl (by kernel_rfl) ?_
  have r := Tryd.results43
  simp only [go_sem, cond, Nat.reduceAdd, Nat.reduceLeDiff, Nat.reduceEqDiff, Nat.reduceBEq, decide_true, decide_false, Int.toNat_natCast, r]
  simp only [go_sem, cond, Nat.reduceAdd, Nat.reduceLeDiff, Nat.reduceEqDiff, Nat.reduceBEq, decide_true, decide_false, Int.toNat_natCast, Sy.enc, r]
  repeat' (first
    | (refine Br_intro ?_ ?_ <;> intro h <;> simp only [go_sem, cond, Nat.reduceAdd, Nat.reduceLeDiff, Nat.reduceEqDiff, Nat.reduceBEq, decide_true, decide_false, Int.toNat_natCast, h, r])
    | (refine call_eq (l4User_ok _ _ _ hb.rm) ?_; simp only [go_sem, cond, Nat.reduceAdd, Nat.reduceLeDiff, Nat.reduceEqDiff, Nat.reduceBEq, decide_true, decide_false, Int.toNat_natCast, r])
    | (refine call_eq (l4User_ok _ _ _ hb.na) ?_; simp only [go_sem, cond, Nat.reduceAdd, Nat.reduceLeDiff, Nat.reduceEqDiff, Nat.reduceBEq, decide_true, decide_false, Int.toNat_natCast, r])
    | (refine call_eq (l4Nick_ok _ _ _ hb.ni) ?_; simp only [go_sem, cond, Nat.reduceAdd, Nat.reduceLeDiff, Nat.reduceEqDiff, Nat.reduceBEq, decide_true, decide_false, Int.toNat_natCast, r])
    | (refine call_eq (l5Body_ok _ _ _ hb.tx) ?_; simp only [go_sem, cond, Nat.reduceAdd, Nat.reduceLeDiff, Nat.reduceEqDiff, Nat.reduceBEq, decide_true, decide_false, Int.toNat_natCast, r])
    | (refine call_eq (l5Word_ok _ _ _ hb.id) ?_; simp only [go_sem, cond, Nat.reduceAdd, Nat.reduceLeDiff, Nat.reduceEqDiff, Nat.reduceBEq, decide_true, decide_false, Int.toNat_natCast, r])
    | (refine call_eq (l5Word_ok _ _ _ hb.tx) ?_; simp only [go_sem, cond, Nat.reduceAdd, Nat.reduceLeDiff, Nat.reduceEqDiff, Nat.reduceBEq, decide_true, decide_false, Int.toNat_natCast, r])
    | (refine call_eq (l5Word_ok _ _ _ hb.rf) ?_; simp only [go_sem, cond, Nat.reduceAdd, Nat.reduceLeDiff, Nat.reduceEqDiff, Nat.reduceBEq, decide_true, decide_false, Int.toNat_natCast, r])
    | (refine call_eq (l1In_ok _ _ _ _ _) ?_; simp only [go_sem, cond, Nat.reduceAdd, Nat.reduceLeDiff, Nat.reduceEqDiff, Nat.reduceBEq, decide_true, decide_false, Int.toNat_natCast, r]))
  all_goals refine ⟨congrArg Value.bool ?_, _, rfl⟩
  all_goals clear hb r
  all_goals first
    | (rename (s.kind == _) = true => hk
       obtain hk := eq_of_beq hk
       simp only [rngB, restS, orB, emB, hk, *]
       simp_all [emB]
       done)
    | (simp only [rngB, restS, *, Bool.false_eq_true, if_false, Bool.and_false]; done)
    | trace_state
theorem l5Ok_ok (s : Sy) (hb : BigS s) : AFn Tryd.prog w0 24 #[.agg s.enc.toArray] H fun v H2 => v = .bool (sayB s) ∧ H2 = H := by
  refine AFn.scal rfl Tryd.func24 rfl (by kernel_rfl) ?_
  have r := Tryd.results24
  simp only [go_sem, cond, Nat.reduceAdd, Nat.reduceLeDiff, Nat.reduceEqDiff, Nat.reduceBEq, decide_true, decide_false, Int.toNat_natCast, r]
  simp only [go_sem, cond, Nat.reduceAdd, Nat.reduceLeDiff, Nat.reduceEqDiff, Nat.reduceBEq, decide_true, decide_false, Int.toNat_natCast, Sy.enc, r]
  (refine xw_open (id := 1) [0, 1, 0, 7, 15, 31, 63, 127, 255] [.q 0, .l 2, .e 1, .d 2, .q 3, .q 4, .q 5, .e 6, .q 7, .q 8] rfl (by kernel_rfl) ?_; simp only [go_sem, cond, Nat.reduceAdd, Nat.reduceLeDiff, Nat.reduceEqDiff, Nat.reduceBEq, decide_true, decide_false, Int.toNat_natCast, r])
  refine call_eq (l5Clean_ok _ _ s) ?_
  simp only [go_sem, cond, Nat.reduceAdd, Nat.reduceLeDiff, Nat.reduceEqDiff, Nat.reduceBEq, decide_true, decide_false, Int.toNat_natCast, r, Sy.enc]
  rw [show ((cleanS s).kind == s.kind && ((cleanS s).room.toList == s.room.toList && ((cleanS s).nick.toList == s.nick.toList && ((cleanS s).name.toList == s.name.toList && ((cleanS s).id.toList == s.id.toList && ((cleanS s).ref.toList == s.ref.toList && ((cleanS s).text.toList == s.text.toList && ((cleanS s).num == s.num && ((cleanS s).frm == s.frm && ((cleanS s).back == s.back && true)))))))))) = xS s from eqS_comm _ _]
  refine Br_intro ?_ ?_ <;> intro h <;> simp only [go_sem, cond, Nat.reduceAdd, Nat.reduceLeDiff, Nat.reduceEqDiff, Nat.reduceBEq, decide_true, decide_false, Int.toNat_natCast, h, r]
  · refine call_eq (l5Ranged_ok _ _ s hb) ?_
    simp only [go_sem, cond, Nat.reduceAdd, Nat.reduceLeDiff, Nat.reduceEqDiff, Nat.reduceBEq, decide_true, decide_false, Int.toNat_natCast, r]
    exact ⟨by rw [sayB, h, Bool.true_and]; rfl, _, rfl⟩
  · exact ⟨by rw [sayB, h, Bool.false_and], _, rfl⟩
end Go.Proofs.YtcmflpdgfddmeaaDoorW.FA

namespace Go.Proofs.YtcmflpdgfddmeaaDoorW.FA
open Go.RowKit Go.Proofs.YtcmflpdgfddmeaaDoorW.XM Go.Proofs Go.Proofs.YtcmflpdgfddmeaaDoorW.XWords
set_option maxRecDepth 100000
set_option linter.unusedSimpArgs false
set_option linter.unusedVariables false
variable (w0 : World) (H : Hp)
/-- Something said in a room, by anyone or by one user. -/
def tkB (ro us : ByteArray) (e : En) : Bool := (e.room.toList == ro.toList) && ((e.kind == 3) && (emB us || (e.user.toList == us.toList)))
def tk (ro us : ByteArray) (es : List En) : List En := es.filter (tkB ro us)
theorem tk_drop (ro us : ByteArray) (es : List En) (i : Nat) (hi : i < es.length) : tk ro us (es.drop i) = if tkB ro us es[i] = true then es[i] :: tk ro us (es.drop (i + 1)) else tk ro us (es.drop (i + 1)) := by
  rw [List.drop_eq_getElem_cons hi, tk, List.filter_cons]; rfl
theorem tk_le (ro us : ByteArray) (es : List En) : (tk ro us es).length ≤ es.length := List.length_filter_le _ _
theorem l7Of_ok (A : Option Addr) (c : Nat) (es : List En) (ro us : ByteArray) (hs : Sl w0 H A 9 (es.map En.enc)) (hl : es.length ≤ 2000000) : AFn Tryd.prog w0 13 #[.slice A es.length c, .string ro, .string us] H fun v H2 => ∃ g, H2 = Hx H (some (.row 35 (flat En.enc (tk ro us es))) :: g) ∧ v = .slice (some ⟨nid H 0, 0, some ((tk ro us es).length * 9)⟩) (tk ro us es).length (tk ro us es).length := by
  have hb : ∀ (X : Option Ob) (g : List (Option Ob)) (Y : Option Ob), (X :: (g ++ [Y]))[g.length + 1]? = some Y := fun X g Y => by rw [List.getElem?_cons_succ, List.getElem?_append_right (Nat.le_refl _)]; simp
  have hb2 : ∀ (X : Option Ob) (g r : List (Option Ob)) (Y : Option Ob), (X :: (g ++ Y :: r))[g.length + 1]? = some Y := fun X g r Y => by rw [List.getElem?_cons_succ, List.getElem?_append_right (Nat.le_refl _)]; simp
  have hb3 : ∀ (g : List (Option Ob)) (Y : Option Ob) (r : List (Option Ob)), (g ++ Y :: r)[g.length]? = some Y := fun g Y r => by rw [List.getElem?_append_right (Nat.le_refl _)]; simp
  have si0 : ∀ (g r : List (Option Ob)) (Z : Option Ob), (g ++ r).set g.length Z = g ++ r.set 0 Z := fun g r Z => by rw [List.set_append_right _ _ (by omega)]; simp
  have gi : ∀ (g r : List (Option Ob)) (k : Nat), (g ++ r)[g.length + k]? = r[k]? := fun g r k => by rw [List.getElem?_append_right (by omega)]; simp
  have htl := tk_le ro us es
  refine AFn_nil ?_
  refine AFn_of Tryd.func13 rfl (by kernel_rfl) ?_
  have r := Tryd.results13
  simp only [go_sem, cond, Nat.reduceAdd, Nat.reduceLeDiff, Nat.reduceEqDiff, Nat.reduceBEq, decide_true, decide_false, Int.toNat_natCast, List.length_append, List.cons_append, List.length_cons, List.set_cons_zero, List.append_assoc, List.nil_append, r]
  refine Req_intro ⟨_, rfl, rfl⟩ ?_
  simp only [go_sem, cond, Nat.reduceAdd, Nat.reduceLeDiff, Nat.reduceEqDiff, Nat.reduceBEq, decide_true, decide_false, Int.toNat_natCast, List.length_append, List.cons_append, List.length_cons, List.set_cons_zero, List.append_assoc, List.nil_append, r]
  refine xw_loop (fun (i : Nat) T H' => i ≤ es.length ∧ T 0 = .slice A es.length c ∧ T 1 = .string ro ∧ T 2 = .string us ∧ T 8 = .int .i64 i ∧ ∃ K G, T 7 = .slice (some ⟨nid H 0, 0, some (K.length * 9)⟩) K.length K.length ∧ H' = Hx H (some (.row 35 (flat En.enc K)) :: G) ∧ K ++ tk ro us (es.drop i) = tk ro us es) (fun i => es.length - i) 0 (by kernel_rfl) ⟨Nat.zero_le _, rfl, rfl, rfl, rfl, [], [], rfl, rfl, rfl⟩ ?_
  rintro i T H' ⟨hi, t0, t1, t2, t8, K, G, t7, rfl, he⟩
  have hKl : K.length ≤ 2000000 := by
    have := congrArg List.length he
    rw [List.length_append] at this
    omega
  by_cases hlt : i < es.length
  · obtain ⟨b, o, sp, rfl, hc, hw⟩ := mcell hs hlt
    have c0 := fun L => hc 0 (.string es[i].room) L (by decide) rfl
    have c2 := fun L => hc 2 (.int .i64 es[i].kind) L (by decide) rfl
    have c3 := fun L => hc 3 (.string es[i].user) L (by decide) rfl
    have cw := fun L => hw L rfl
    have d1 : ((i : Int) < (es.length : Int)) = True := eq_true (by omega)
    have d2 : (0 ≤ (i : Int)) = True := eq_true (by omega)
    rw [tk_drop _ _ _ i hlt] at he
    simp only [En.enc] at cw
    simp only [go_sem, cond, Nat.reduceAdd, Nat.reduceLeDiff, Nat.reduceEqDiff, Nat.reduceBEq, decide_true, decide_false, Int.toNat_natCast, t0, t1, t2, t7, t8, d1, d2, c0, c2, c3, cw, hb, hb2, hb3, si0, gi, List.set_cons_succ, List.length_append, List.cons_append, List.length_cons, List.set_cons_zero, List.append_assoc, List.nil_append, r]
    repeat' (first
      | (refine Br_intro ?_ ?_ <;> intro h <;> simp only [go_sem, cond, Nat.reduceAdd, Nat.reduceLeDiff, Nat.reduceEqDiff, Nat.reduceBEq, decide_true, decide_false, Int.toNat_natCast, t0, t1, t2, t7, t8, d1, d2, c0, c2, c3, cw, hb, hb2, hb3, si0, gi, List.set_cons_succ, List.length_append, List.cons_append, List.length_cons, List.set_cons_zero, List.append_assoc, List.nil_append, r, h])
      | (refine Req_intro ⟨_, rfl, rfl⟩ ?_
         simp only [go_sem, cond, Nat.reduceAdd, Nat.reduceLeDiff, Nat.reduceEqDiff, Nat.reduceBEq, decide_true, decide_false, Int.toNat_natCast, t0, t1, t2, t7, t8, d1, d2, c0, c2, c3, cw, hb, hb2, hb3, si0, gi, List.set_cons_succ, List.length_append, List.cons_append, List.length_cons, List.set_cons_zero, List.append_assoc, List.nil_append, r]
         refine appS_full (m := 1) (sl := K.length) _ _ _ _ _ _ _ 0 _ _ _ rfl rfl (flat_len elen _) XF.lay_35 (by decide) (by rfl) (by omega) (by omega) ?_
         simp only [go_sem, cond, Nat.reduceAdd, Nat.reduceLeDiff, Nat.reduceEqDiff, Nat.reduceBEq, decide_true, decide_false, Int.toNat_natCast, t0, t1, t2, t7, t8, d1, d2, c0, c2, c3, cw, hb, hb2, hb3, si0, gi, List.set_cons_succ, List.length_append, List.cons_append, List.length_cons, List.set_cons_zero, List.append_assoc, List.nil_append, r]))
    all_goals first
      | (rw [if_pos (by simp only [tkB, emB, *, Bool.and_true, Bool.true_and, Bool.true_or, Bool.or_true, Bool.false_or])] at he
         exact ⟨i + 1, ⟨hlt, t0, t1, t2, int_succ hlt (by omega), K ++ [es[i]], _, by rw [List.length_append]; rfl, by rw [flat_app]; rfl, by rw [List.append_assoc]; exact he⟩, lt_meas hlt⟩)
      | (rw [if_neg (by simp only [tkB, emB, *, Bool.and_true, Bool.true_and, Bool.false_and, Bool.and_false, Bool.false_or, Bool.or_self]; decide)] at he
         exact ⟨i + 1, ⟨hlt, t0, t1, t2, int_succ hlt (by omega), K, _, t7, rfl, he⟩, lt_meas hlt⟩)
  · obtain rfl : i = es.length := by omega
    have d1 : ((es.length : Int) < (es.length : Int)) = False := eq_false (by omega)
    rw [List.drop_length] at he
    obtain rfl : K = tk ro us es := by rw [← he]; exact (List.append_nil _).symm
    simp only [go_sem, cond, Nat.reduceAdd, Nat.reduceLeDiff, Nat.reduceEqDiff, Nat.reduceBEq, decide_true, decide_false, Int.toNat_natCast, t0, t1, t2, t7, t8, d1, List.length_append, List.cons_append, List.length_cons, List.set_cons_zero, List.append_assoc, List.nil_append, r]
    exact ⟨_, rfl⟩
theorem hbTalk_ok (A : Option Addr) (c : Nat) (es : List En) (ro us : ByteArray) (hs : Sl w0 H A 9 (es.map En.enc)) (hl : es.length ≤ 2000000) : AFn Tryd.prog w0 5 #[.slice A es.length c, .string ro, .string us] H fun v H2 => ∃ g, H2 = Hx H (some (.row 35 (flat En.enc (tk ro us es))) :: g) ∧ v = .slice (some ⟨nid H 0, 0, some ((tk ro us es).length * 9)⟩) (tk ro us es).length (tk ro us es).length := by
  have hb : ∀ (X : Option Ob) (g : List (Option Ob)) (Y : Option Ob), (X :: (g ++ [Y]))[g.length + 1]? = some Y := fun X g Y => by rw [List.getElem?_cons_succ, List.getElem?_append_right (Nat.le_refl _)]; simp
  have hb2 : ∀ (X : Option Ob) (g r : List (Option Ob)) (Y : Option Ob), (X :: (g ++ Y :: r))[g.length + 1]? = some Y := fun X g r Y => by rw [List.getElem?_cons_succ, List.getElem?_append_right (Nat.le_refl _)]; simp
  have hb3 : ∀ (g : List (Option Ob)) (Y : Option Ob) (r : List (Option Ob)), (g ++ Y :: r)[g.length]? = some Y := fun g Y r => by rw [List.getElem?_append_right (Nat.le_refl _)]; simp
  have si0 : ∀ (g r : List (Option Ob)) (Z : Option Ob), (g ++ r).set g.length Z = g ++ r.set 0 Z := fun g r Z => by rw [List.set_append_right _ _ (by omega)]; simp
  have gi : ∀ (g r : List (Option Ob)) (k : Nat), (g ++ r)[g.length + k]? = r[k]? := fun g r k => by rw [List.getElem?_append_right (by omega)]; simp
  have htl := tk_le ro us es
  refine AFn_nil ?_
  refine AFn_of Tryd.func5 rfl (by kernel_rfl) ?_
  have r := Tryd.results5
  simp only [go_sem, cond, Nat.reduceAdd, Nat.reduceLeDiff, Nat.reduceEqDiff, Nat.reduceBEq, decide_true, decide_false, Int.toNat_natCast, List.length_append, List.cons_append, List.length_cons, List.set_cons_zero, List.append_assoc, List.nil_append, r]
  refine Req_intro ⟨_, rfl, rfl⟩ ?_
  simp only [go_sem, cond, Nat.reduceAdd, Nat.reduceLeDiff, Nat.reduceEqDiff, Nat.reduceBEq, decide_true, decide_false, Int.toNat_natCast, List.length_append, List.cons_append, List.length_cons, List.set_cons_zero, List.append_assoc, List.nil_append, r]
  refine xw_loop (fun (i : Nat) T H' => i ≤ es.length ∧ T 0 = .slice A es.length c ∧ T 1 = .string ro ∧ T 2 = .string us ∧ T 8 = .int .i64 i ∧ ∃ K G, T 7 = .slice (some ⟨nid H 0, 0, some (K.length * 9)⟩) K.length K.length ∧ H' = Hx H (some (.row 35 (flat En.enc K)) :: G) ∧ K ++ tk ro us (es.drop i) = tk ro us es) (fun i => es.length - i) 0 (by kernel_rfl) ⟨Nat.zero_le _, rfl, rfl, rfl, rfl, [], [], rfl, rfl, rfl⟩ ?_
  rintro i T H' ⟨hi, t0, t1, t2, t8, K, G, t7, rfl, he⟩
  have hKl : K.length ≤ 2000000 := by
    have := congrArg List.length he
    rw [List.length_append] at this
    omega
  by_cases hlt : i < es.length
  · obtain ⟨b, o, sp, rfl, hc, hw⟩ := mcell hs hlt
    have c0 := fun L => hc 0 (.string es[i].room) L (by decide) rfl
    have c2 := fun L => hc 2 (.int .i64 es[i].kind) L (by decide) rfl
    have c3 := fun L => hc 3 (.string es[i].user) L (by decide) rfl
    have cw := fun L => hw L rfl
    have d1 : ((i : Int) < (es.length : Int)) = True := eq_true (by omega)
    have d2 : (0 ≤ (i : Int)) = True := eq_true (by omega)
    rw [tk_drop _ _ _ i hlt] at he
    simp only [En.enc] at cw
    simp only [go_sem, cond, Nat.reduceAdd, Nat.reduceLeDiff, Nat.reduceEqDiff, Nat.reduceBEq, decide_true, decide_false, Int.toNat_natCast, t0, t1, t2, t7, t8, d1, d2, c0, c2, c3, cw, hb, hb2, hb3, si0, gi, List.set_cons_succ, List.length_append, List.cons_append, List.length_cons, List.set_cons_zero, List.append_assoc, List.nil_append, r]
    repeat' (first
      | (refine Br_intro ?_ ?_ <;> intro h <;> simp only [go_sem, cond, Nat.reduceAdd, Nat.reduceLeDiff, Nat.reduceEqDiff, Nat.reduceBEq, decide_true, decide_false, Int.toNat_natCast, t0, t1, t2, t7, t8, d1, d2, c0, c2, c3, cw, hb, hb2, hb3, si0, gi, List.set_cons_succ, List.length_append, List.cons_append, List.length_cons, List.set_cons_zero, List.append_assoc, List.nil_append, r, h])
      | (refine Req_intro ⟨_, rfl, rfl⟩ ?_
         simp only [go_sem, cond, Nat.reduceAdd, Nat.reduceLeDiff, Nat.reduceEqDiff, Nat.reduceBEq, decide_true, decide_false, Int.toNat_natCast, t0, t1, t2, t7, t8, d1, d2, c0, c2, c3, cw, hb, hb2, hb3, si0, gi, List.set_cons_succ, List.length_append, List.cons_append, List.length_cons, List.set_cons_zero, List.append_assoc, List.nil_append, r]
         refine appS_full (m := 1) (sl := K.length) _ _ _ _ _ _ _ 0 _ _ _ rfl rfl (flat_len elen _) XF.lay_35 (by decide) (by rfl) (by omega) (by omega) ?_
         simp only [go_sem, cond, Nat.reduceAdd, Nat.reduceLeDiff, Nat.reduceEqDiff, Nat.reduceBEq, decide_true, decide_false, Int.toNat_natCast, t0, t1, t2, t7, t8, d1, d2, c0, c2, c3, cw, hb, hb2, hb3, si0, gi, List.set_cons_succ, List.length_append, List.cons_append, List.length_cons, List.set_cons_zero, List.append_assoc, List.nil_append, r]))
    all_goals first
      | (rw [if_pos (by simp only [tkB, emB, *, Bool.and_true, Bool.true_and, Bool.true_or, Bool.or_true, Bool.false_or])] at he
         exact ⟨i + 1, ⟨hlt, t0, t1, t2, int_succ hlt (by omega), K ++ [es[i]], _, by rw [List.length_append]; rfl, by rw [flat_app]; rfl, by rw [List.append_assoc]; exact he⟩, lt_meas hlt⟩)
      | (rw [if_neg (by simp only [tkB, emB, *, Bool.and_true, Bool.true_and, Bool.false_and, Bool.and_false, Bool.false_or, Bool.or_self]; decide)] at he
         exact ⟨i + 1, ⟨hlt, t0, t1, t2, int_succ hlt (by omega), K, _, t7, rfl, he⟩, lt_meas hlt⟩)
  · obtain rfl : i = es.length := by omega
    have d1 : ((es.length : Int) < (es.length : Int)) = False := eq_false (by omega)
    rw [List.drop_length] at he
    obtain rfl : K = tk ro us es := by rw [← he]; exact (List.append_nil _).symm
    simp only [go_sem, cond, Nat.reduceAdd, Nat.reduceLeDiff, Nat.reduceEqDiff, Nat.reduceBEq, decide_true, decide_false, Int.toNat_natCast, t0, t1, t2, t7, t8, d1, List.length_append, List.cons_append, List.length_cons, List.set_cons_zero, List.append_assoc, List.nil_append, r]
    exact ⟨_, rfl⟩
end Go.Proofs.YtcmflpdgfddmeaaDoorW.FA

namespace Go.Proofs.YtcmflpdgfddmeaaDoorW.FA
open Go.RowKit Go.Proofs.YtcmflpdgfddmeaaDoorW.XM Go.Proofs Go.Proofs.YtcmflpdgfddmeaaDoorW.XWords
set_option maxRecDepth 100000
set_option linter.unusedSimpArgs false
set_option linter.unusedVariables false
variable (w0 : World) (H : Hp)
end Go.Proofs.YtcmflpdgfddmeaaDoorW.FA

namespace Go.Proofs.YtcmflpdgfddmeaaDoorW.FA
open Go.RowKit Go.Proofs.YtcmflpdgfddmeaaDoorW.XM Go.Proofs Go.Proofs.YtcmflpdgfddmeaaDoorW.XWords
set_option maxRecDepth 100000
set_option linter.unusedSimpArgs false
set_option linter.unusedVariables false
variable (w0 : World) (H : Hp)
/-- What has happened lies nowhere, or in an object of one's own. -/
def OutAt (H : Hp) (n : Nat) (g : List (Option Ob)) (o : Value) (es : List En) : Prop := (es = [] ∧ o = .slice none 0 0) ∨ ∃ k, g[k]? = some (some (.row 35 (flat En.enc es))) ∧ es ≠ [] ∧ o = .slice (some ⟨nid H (n + k), 0, some (es.length * 9)⟩) es.length es.length
end Go.Proofs.YtcmflpdgfddmeaaDoorW.FA

namespace Go.Proofs.YtcmflpdgfddmeaaDoorW.FA
open Go.RowKit Go.Proofs.YtcmflpdgfddmeaaDoorW.XM Go.Proofs Go.Proofs.YtcmflpdgfddmeaaDoorW.XWords
set_option maxRecDepth 100000
set_option linter.unusedSimpArgs false
set_option linter.unusedVariables false
variable (w0 : World) (H : Hp)
end Go.Proofs.YtcmflpdgfddmeaaDoorW.FA

namespace Go.Proofs.YtcmflpdgfddmeaaDoorW.FA
open Go.RowKit Go.Proofs.YtcmflpdgfddmeaaDoorW.XM Go.Proofs Go.Proofs.YtcmflpdgfddmeaaDoorW.XWords
set_option maxRecDepth 100000
set_option linter.unusedSimpArgs false
set_option linter.unusedVariables false
variable (w0 : World) (H : Hp)
end Go.Proofs.YtcmflpdgfddmeaaDoorW.FA

namespace Go.Proofs.YtcmflpdgfddmeaaDoorW.FA
open Go.RowKit Go.Proofs.YtcmflpdgfddmeaaDoorW.XM Go.Proofs Go.Proofs.YtcmflpdgfddmeaaDoorW.XWords
set_option maxRecDepth 100000
set_option linter.unusedSimpArgs false
set_option linter.unusedVariables false
variable (w0 : World) (H : Hp)
theorem OutAt.shift {H : Hp} {n : Nat} {G g : List (Option Ob)} {o : Value} {es : List En} (h : OutAt H (n + G.length) g o es) : OutAt H n (G ++ g) o es := by
  rcases h with h | ⟨k, a, b, c⟩
  · exact .inl h
  · exact .inr ⟨G.length + k, by rw [List.getElem?_append_right (by omega), Nat.add_sub_cancel_left]; exact a, b, by rw [c, Nat.add_assoc]⟩
end Go.Proofs.YtcmflpdgfddmeaaDoorW.FA

namespace Go.Proofs.YtcmflpdgfddmeaaDoorW.FA
open Go.RowKit Go.Proofs.YtcmflpdgfddmeaaDoorW.XM Go.Proofs Go.Proofs.YtcmflpdgfddmeaaDoorW.XWords
set_option maxRecDepth 100000
set_option linter.unusedSimpArgs false
set_option linter.unusedVariables false
variable (w0 : World) (H : Hp)
theorem clipE_ok (j o tag n c : Nat) (cs : List Value) (hj : H[j]? = some (some (.row 35 cs))) (hl : cs.length = tag) (hn : n ≤ c) : AFn Tryd.prog w0 23 #[.slice (some ⟨j, o, some tag⟩) n c] H fun v H2 => v = .slice (some ⟨j, o, some tag⟩) n n ∧ H2 = H := by
  refine AFn.scal (by simp [ren3, ren2, ren1, rho, lt_of_get hj]) Tryd.func23 rfl (by kernel_rfl) ?_
  have r := Tryd.results23
  simp only [go_sem, cond, Nat.reduceAdd, Nat.reduceLeDiff, Nat.reduceEqDiff, Nat.reduceBEq, decide_true, decide_false, Int.toNat_natCast, r]
  refine slc_clip XF.elm_23 hn _ _ _ _ ⟨_, cs, _, Hx_old hj [], hl, XF.lay_35⟩ ?_
  simp only [go_sem, cond, Nat.reduceAdd, Nat.reduceLeDiff, Nat.reduceEqDiff, Nat.reduceBEq, decide_true, decide_false, Int.toNat_natCast, r]
  exact ⟨_, rfl⟩
end Go.Proofs.YtcmflpdgfddmeaaDoorW.FA

namespace Go.Proofs.YtcmflpdgfddmeaaDoorW.FA
open Go.RowKit Go.Proofs.YtcmflpdgfddmeaaDoorW.XM Go.Proofs Go.Proofs.YtcmflpdgfddmeaaDoorW.XWords
set_option maxRecDepth 100000
set_option linter.unusedSimpArgs false
set_option linter.unusedVariables false
variable (w0 : World) (H : Hp)
def isAt (k : Int) (e : En) : Bool := e.seq == k
theorem l7At_ok (A : Option Addr) (c : Nat) (es : List En) (k : Int) (hs : Sl w0 H A 9 (es.map En.enc)) (hl : es.length ≤ 2000000) : AFn Tryd.prog w0 44 #[.slice A es.length c, .int .i64 k] H fun v H2 => v = .int .i64 (idxP (isAt k) es 0) ∧ H2 = H := by
  refine AFn.scal rfl Tryd.func44 rfl (by kernel_rfl) ?_
  have r := Tryd.results44
  simp only [go_sem, cond, Nat.reduceAdd, Nat.reduceLeDiff, Nat.reduceEqDiff, Nat.reduceBEq, decide_true, decide_false, Int.toNat_natCast, r]
  refine xw_loop (fun (i : Nat) T H' => i ≤ es.length ∧ idxP (isAt k) (es.drop i) i = idxP (isAt k) es 0 ∧ T 0 = .slice A es.length c ∧ T 1 = .int .i64 k ∧ T 5 = .int .i64 i ∧ H' = Hx H []) (fun i => es.length - i) 0 (by kernel_rfl) ⟨Nat.zero_le _, rfl, rfl, rfl, rfl, rfl⟩ ?_
  rintro i T H' ⟨hi, he, t0, t1, t5, rfl⟩
  by_cases hlt : i < es.length
  · obtain ⟨b, o, sp, rfl, hc, _⟩ := mcell hs hlt
    have c0 := hc 1 (.int .i64 es[i].seq) [] (by decide) rfl
    have d1 : ((i : Int) < (es.length : Int)) = True := eq_true (by omega)
    have d2 : (0 ≤ (i : Int)) = True := eq_true (by omega)
    rw [idxP_drop _ _ i hlt] at he
    simp only [go_sem, cond, Nat.reduceAdd, Nat.reduceLeDiff, Nat.reduceEqDiff, Nat.reduceBEq, decide_true, decide_false, Int.toNat_natCast, t0, t1, t5, d1, d2, c0]
    refine Br_intro ?_ ?_ <;> intro h <;> simp only [go_sem, cond, Nat.reduceAdd, Nat.reduceLeDiff, Nat.reduceEqDiff, Nat.reduceBEq, decide_true, decide_false, Int.toNat_natCast, t0, t1, t5, h, r]
    · rw [if_pos (show isAt k es[i] = true from h)] at he
      exact ⟨by rw [he], _, rfl⟩
    · rw [if_neg (show ¬ isAt k es[i] = true by rw [isAt, h]; decide)] at he
      exact ⟨i + 1, ⟨hlt, he, t0, t1, int_succ hlt (by omega), rfl⟩, lt_meas hlt⟩
  · obtain rfl : i = es.length := by omega
    have d1 : ((es.length : Int) < (es.length : Int)) = False := eq_false (by omega)
    rw [List.drop_length] at he
    simp only [go_sem, cond, Nat.reduceAdd, Nat.reduceLeDiff, Nat.reduceEqDiff, Nat.reduceBEq, decide_true, decide_false, Int.toNat_natCast, t0, t1, t5, d1, r]
    exact ⟨by rw [← he]; rfl, _, rfl⟩
theorem l7Copy_ok (a : Addr) (rows : List En) (c : Nat) (hs : ∀ L, srcO rows.length (rd w0 (Hx H L) a (rows.length * 9)) = some (rows.length, flat En.enc rows)) (hl : rows.length ≤ 2000000) : AFn Tryd.prog w0 45 #[.slice (some a) rows.length c] H fun v H2 => v = .slice (some ⟨nid H 0, 0, some (rows.length * 9)⟩) rows.length rows.length ∧ H2 = Hx H [some (.row 35 (flat En.enc rows))] := by
  refine AFn.news Tryd.func45 rfl (by kernel_rfl) ?_
  have r := Tryd.results45
  simp only [go_sem, cond, Nat.reduceAdd, Nat.reduceLeDiff, Nat.reduceEqDiff, Nat.reduceBEq, decide_true, decide_false, Int.toNat_natCast, r]
  refine Req_intro ⟨_, rfl, rfl⟩ ?_
  simp only [go_sem, cond, Nat.reduceAdd, Nat.reduceLeDiff, Nat.reduceEqDiff, Nat.reduceBEq, decide_true, decide_false, Int.toNat_natCast, r, hs]
  refine appS_full _ _ _ _ _ _ _ _ 0 0 _ _ _ rfl rfl rfl XF.lay_35 (by decide) (flat_len elen _) (by omega) (by omega) ?_
  simp only [go_sem, cond, Nat.reduceAdd, Nat.reduceLeDiff, Nat.reduceEqDiff, Nat.reduceBEq, decide_true, decide_false, Int.toNat_natCast, r, Nat.zero_add, List.nil_append]
  refine ⟨_, [0], _, rfl, ?_, by decide, by simp only [ren3, ren2, ren1, rho_nid, idx_hit, Option.map_some], rfl, rfl⟩
  intro k hk
  simp only [List.mem_singleton] at hk
  subst hk
  exact flat_plain (fun _ => rfl) rows
theorem cloneE_ok (a : Addr) (rows : List En) (c : Nat) (hs : ∀ L, srcO rows.length (rd w0 (Hx H L) a (rows.length * 9)) = some (rows.length, flat En.enc rows)) (hl : rows.length ≤ 2000000) : AFn Tryd.prog w0 19 #[.slice (some a) rows.length c] H fun v H2 => v = .slice (some ⟨nid H 0, 0, some (rows.length * 9)⟩) rows.length rows.length ∧ H2 = Hx H [some (.row 35 (flat En.enc rows))] := by
  refine AFn.news Tryd.func19 rfl (by kernel_rfl) ?_
  have r := Tryd.results19
  simp only [go_sem, cond, Nat.reduceAdd, Nat.reduceLeDiff, Nat.reduceEqDiff, Nat.reduceBEq, decide_true, decide_false, Int.toNat_natCast, r]
  refine Req_intro ⟨_, rfl, rfl⟩ ?_
  simp only [go_sem, cond, Nat.reduceAdd, Nat.reduceLeDiff, Nat.reduceEqDiff, Nat.reduceBEq, decide_true, decide_false, Int.toNat_natCast, r, hs]
  refine appS_full _ _ _ _ _ _ _ _ 0 0 _ _ _ rfl rfl rfl XF.lay_35 (by decide) (flat_len elen _) (by omega) (by omega) ?_
  simp only [go_sem, cond, Nat.reduceAdd, Nat.reduceLeDiff, Nat.reduceEqDiff, Nat.reduceBEq, decide_true, decide_false, Int.toNat_natCast, r, Nat.zero_add, List.nil_append]
  refine ⟨_, [0], _, rfl, ?_, by decide, by simp only [ren3, ren2, ren1, rho_nid, idx_hit, Option.map_some], rfl, rfl⟩
  intro k hk
  simp only [List.mem_singleton] at hk
  subst hk
  exact flat_plain (fun _ => rfl) rows
end Go.Proofs.YtcmflpdgfddmeaaDoorW.FA

