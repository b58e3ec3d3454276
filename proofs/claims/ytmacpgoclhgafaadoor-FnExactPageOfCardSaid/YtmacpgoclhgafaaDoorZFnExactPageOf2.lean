/- FnExactPageOf: own words and contracts that the law's proof uses, part 2. No condition of its own. -/
import Derived.Test.YtmacpgoclhgafaaDoorZFnExactPageOf1
import Derived.WalkKit
import Derived.ProofKit
import Derived.OpenShut
import Derived.ShutString
import Derived.ChangeOld
import Derived.DataReads
import Derived.DataElems
import Derived.Deep.Slices
import Derived.Lib.LaidTab
import Derived.Test.YtmacpgoclhgafaaDoorRows
import Derived.Lib.LaidU8
import Derived.LaidByTextLater
set_option linter.unusedSimpArgs false
set_option linter.unusedVariables false
namespace Go.Proofs.YtmacpgoclhgafaaDoorW.FA
open Go.RowKit Go.Proofs.YtmacpgoclhgafaaDoorW.XM Go.Proofs Go.Proofs.YtmacpgoclhgafaaDoorW.XWords
set_option maxRecDepth 100000
set_option linter.unusedSimpArgs false
variable {w0 : World} {H : Hp}
theorem rd_flat {α : Type} {enc : α → List Value} {n : Nat} (he : ∀ a, (enc a).length = n) (t : TypeId) (ls : List α) (B : Hp) (l : List (Option Ob)) (j : Nat) (hl : l[j]? = some (some (.row t (flat enc ls)))) (L : List (Option Ob)) : rd w0 (Hx (Hx B l) L) ⟨nid B j, 0, some (ls.length * n)⟩ (ls.length * n) = some (flat enc ls) := by
  refine rd_old ?_ L
  rw [rd_own, hl, rdO_row, if_pos ⟨flat_len he ls, by rw [flat_len he]; omega⟩, List.drop_zero, List.take_of_length_le (by rw [flat_len he]; exact Nat.le_refl _)]
theorem RmAt_own {B : Hp} {l : List (Option Ob)} {j k : Nat} {R : Rm} (hj : l[j]? = some (some (.row 60 (flat Mem.enc R.ms)))) (hk : l[k]? = some (some (.row 58 (flat Rk.enc R.ks)))) (lm : R.ms.length ≤ 2000000) (lk : R.ks.length ≤ 2000000) : RmAt w0 (Hx B l) R (adR B R j k) :=
  ⟨Sl_own mlen _ R.ms B l j hj, Sl_own klen _ R.ks B l k hk, lm, lk, fun L => by rw [adR, src_sl, rd_flat mlen _ R.ms B l j hj]; rfl, fun L => by rw [adR, src_sl, rd_flat klen _ R.ks B l k hk]; rfl⟩
theorem RmOw.old {R : Rm} {x : Ad} (h : RmOw w0 H R x) (l : List (Option Ob)) : RmOw w0 (Hx H l) R x := ⟨h.cm, fun b o sp e L => by rw [Hx_Hx]; exact h.om b o sp e _, fun b o sp e L => by rw [Hx_Hx]; exact h.rm b o sp e _⟩
theorem stpK_mem (u : ByteArray) (num : Int) (x : Rk) (st : Bool × List Rk) : (stpK u num x st).2.length ≤ st.2.length + 2 ∧ ∀ y ∈ (stpK u num x st).2, y ∈ st.2 ∨ y = x ∨ y = ⟨u, num⟩ := by
  unfold stpK
  simp only
  constructor
  · repeat' split
    all_goals first | omega | (simp; done) | (simp; omega)
  · intro y hy
    repeat' split at hy
    all_goals first
      | exact .inl hy
      | (rcases List.mem_append.1 hy with hy | hy
         · first
             | exact .inl hy
             | (rcases List.mem_append.1 hy with hy | hy
                · exact .inl hy
                · exact .inr (.inr (by simpa using hy)))
         · first
             | exact .inr (.inl (by simpa using hy))
             | exact .inr (.inr (by simpa using hy)))
theorem runK_mem (u : ByteArray) (num : Int) : ∀ (l : List Rk) (st : Bool × List Rk), (runK u num l st).2.length ≤ st.2.length + 2 * l.length ∧ ∀ y ∈ (runK u num l st).2, y ∈ st.2 ∨ y ∈ l ∨ y = ⟨u, num⟩
  | [], st => ⟨by simp [runK], fun y hy => .inl hy⟩
  | x :: l, st => by
    obtain ⟨a, b⟩ := stpK_mem u num x st
    obtain ⟨c, d⟩ := runK_mem u num l (stpK u num x st)
    refine ⟨by simp only [runK, List.foldl_cons, List.length_cons] at c ⊢; omega, fun y hy => ?_⟩
    rcases d y hy with h | h | h
    · rcases b y h with h | h | h
      · exact .inl h
      · exact .inr (.inl (by simp [h]))
      · exact .inr (.inr h)
    · exact .inr (.inl (List.mem_cons_of_mem _ h))
    · exact .inr (.inr h)
theorem rkd_mem (u : ByteArray) (num : Int) (l : List Rk) : (rkd u num l).length ≤ 2 * l.length + 1 ∧ ∀ y ∈ rkd u num l, y ∈ l ∨ y = ⟨u, num⟩ := by
  obtain ⟨a, b⟩ := runK_mem u num l (num == 1, [])
  unfold rkd
  simp only
  split
  · exact ⟨by simp at a; omega, fun y hy => by rcases b y hy with h | h | h; cases h; exact .inl h; exact .inr h⟩
  · refine ⟨by simp at a ⊢; omega, fun y hy => ?_⟩
    rcases List.mem_append.1 hy with hy | hy
    · rcases b y hy with h | h | h
      · cases h
      · exact .inl h
      · exact .inr h
    · exact .inr (by simpa using hy)
theorem outI_mem {α : Type} (l : List α) (i : Int) : (outI l i).length ≤ l.length ∧ ∀ x ∈ outI l i, x ∈ l := by
  unfold outI
  split
  · refine ⟨by simp; omega, fun x hx => ?_⟩
    rcases List.mem_append.1 hx with h | h
    · exact List.mem_of_mem_take h
    · exact List.mem_of_mem_drop h
  · exact ⟨Nat.le_refl _, fun x hx => hx⟩
theorem roleI_mem (l : List Mem) (i num : Int) : (roleI l i num).length = l.length ∧ ∀ x ∈ roleI l i num, ∃ y ∈ l, x.user = y.user ∧ x.nick = y.nick := by
  unfold roleI
  split
  · split
    · rename_i m hm
      refine ⟨by simp, fun x hx => ?_⟩
      rcases List.mem_or_eq_of_mem_set hx with h | h
      · exact ⟨x, h, rfl, rfl⟩
      · exact ⟨m, List.mem_of_getElem? hm, by rw [h], by rw [h]⟩
    · exact ⟨rfl, fun x hx => ⟨x, hx, rfl, rfl⟩⟩
  · exact ⟨rfl, fun x hx => ⟨x, hx, rfl, rfl⟩⟩
end Go.Proofs.YtmacpgoclhgafaaDoorW.FA

namespace Go.Proofs.YtmacpgoclhgafaaDoorW.FA
open Go.RowKit Go.Proofs.YtmacpgoclhgafaaDoorW.XM Go.Proofs Go.Proofs.YtmacpgoclhgafaaDoorW.XWords
set_option maxRecDepth 100000
set_option linter.unusedSimpArgs false
variable (w0 : World) (H : Hp)
end Go.Proofs.YtmacpgoclhgafaaDoorW.FA

namespace Go.Proofs.YtmacpgoclhgafaaDoorW.FA
open Go.RowKit Go.Proofs.YtmacpgoclhgafaaDoorW.XM Go.Proofs Go.Proofs.YtmacpgoclhgafaaDoorW.XWords
set_option maxRecDepth 100000
set_option linter.unusedSimpArgs false
variable (w0 : World) (H : Hp)
end Go.Proofs.YtmacpgoclhgafaaDoorW.FA

namespace Go.Proofs.YtmacpgoclhgafaaDoorW.FA
open Go.RowKit Go.Proofs.YtmacpgoclhgafaaDoorW.XM Go.Proofs Go.Proofs.YtmacpgoclhgafaaDoorW.XWords
set_option maxRecDepth 100000
set_option linter.unusedSimpArgs false
end Go.Proofs.YtmacpgoclhgafaaDoorW.FA

namespace Go.Proofs.YtmacpgoclhgafaaDoorW.FA
open Go.RowKit Go.Proofs.YtmacpgoclhgafaaDoorW.XM Go.Proofs Go.Proofs.YtmacpgoclhgafaaDoorW.XWords
set_option maxRecDepth 100000
set_option linter.unusedSimpArgs false
variable (w0 : World) (H : Hp)
end Go.Proofs.YtmacpgoclhgafaaDoorW.FA

namespace Go.Proofs.YtmacpgoclhgafaaDoorW.FA
open Go.RowKit Go.Proofs.YtmacpgoclhgafaaDoorW.XM Go.Proofs Go.Proofs.YtmacpgoclhgafaaDoorW.XWords
set_option maxRecDepth 100000
set_option linter.unusedSimpArgs false
variable (w0 : World) (H : Hp)
end Go.Proofs.YtmacpgoclhgafaaDoorW.FA

namespace Go.Proofs.YtmacpgoclhgafaaDoorW.FA
open Go.RowKit Go.Proofs.YtmacpgoclhgafaaDoorW.XM Go.Proofs Go.Proofs.YtmacpgoclhgafaaDoorW.XWords
set_option maxRecDepth 100000
set_option linter.unusedSimpArgs false
variable (w0 : World) (H : Hp)
end Go.Proofs.YtmacpgoclhgafaaDoorW.FA

namespace Go.Proofs.YtmacpgoclhgafaaDoorW.FA
open Go.RowKit Go.Proofs.YtmacpgoclhgafaaDoorW.XM Go.Proofs Go.Proofs.YtmacpgoclhgafaaDoorW.XWords
set_option maxRecDepth 100000
set_option linter.unusedSimpArgs false
variable (w0 : World) (H : Hp)
end Go.Proofs.YtmacpgoclhgafaaDoorW.FA

namespace Go.Proofs.YtmacpgoclhgafaaDoorW.FA
open Go.RowKit Go.Proofs.YtmacpgoclhgafaaDoorW.XM Go.Proofs Go.Proofs.YtmacpgoclhgafaaDoorW.XWords
set_option maxRecDepth 100000
set_option linter.unusedSimpArgs false
variable (w0 : World) (H : Hp)
end Go.Proofs.YtmacpgoclhgafaaDoorW.FA

namespace Go.Proofs.YtmacpgoclhgafaaDoorW.FA
open Go.RowKit Go.Proofs.YtmacpgoclhgafaaDoorW.XM Go.Proofs Go.Proofs.YtmacpgoclhgafaaDoorW.XWords
set_option maxRecDepth 100000
set_option linter.unusedSimpArgs false
variable (w0 : World) (H : Hp)
end Go.Proofs.YtmacpgoclhgafaaDoorW.FA

namespace Go.Proofs.YtmacpgoclhgafaaDoorW.FA
open Go.RowKit Go.Proofs.YtmacpgoclhgafaaDoorW.XM Go.Proofs Go.Proofs.YtmacpgoclhgafaaDoorW.XWords
set_option maxRecDepth 100000
set_option linter.unusedSimpArgs false
variable (w0 : World) (H : Hp)
end Go.Proofs.YtmacpgoclhgafaaDoorW.FA

namespace Go.Proofs.YtmacpgoclhgafaaDoorW.FA
open Go.RowKit Go.Proofs.YtmacpgoclhgafaaDoorW.XM Go.Proofs Go.Proofs.YtmacpgoclhgafaaDoorW.XWords
set_option maxRecDepth 100000
set_option linter.unusedSimpArgs false
variable (w0 : World) (H : Hp)
theorem sub1_nn {a : Int} {n : Nat} (h : 0 ≤ sub1 a n) : (n : Int) ≤ a ∧ sub1 a n = a - n := by
  unfold sub1 at h ⊢
  split at h
  · omega
  · rename_i h2
    rw [if_neg h2]
    omega
theorem szE_nn {e : En} {a : Int} (ha : a ≤ 1048576) (h : 0 ≤ szE e a) : BigE e := by
  have e0 : szE e a = sub1 (sub1 (sub1 (sub1 (sub1 (sub1 a e.room.size) e.user.size) e.nick.size) e.text.size) e.id.size) e.ref.size := rfl
  rw [e0] at h
  have g6 := sub1_nn h
  have g5 := sub1_nn (by omega : 0 ≤ sub1 (sub1 (sub1 (sub1 (sub1 a e.room.size) e.user.size) e.nick.size) e.text.size) e.id.size)
  have g4 := sub1_nn (by omega : 0 ≤ sub1 (sub1 (sub1 (sub1 a e.room.size) e.user.size) e.nick.size) e.text.size)
  have g3 := sub1_nn (by omega : 0 ≤ sub1 (sub1 (sub1 a e.room.size) e.user.size) e.nick.size)
  have g2 := sub1_nn (by omega : 0 ≤ sub1 (sub1 a e.room.size) e.user.size)
  have g1 := sub1_nn (by omega : 0 ≤ sub1 a e.room.size)
  exact ⟨by omega, by omega, by omega, by omega, by omega, by omega⟩
end Go.Proofs.YtmacpgoclhgafaaDoorW.FA

namespace Go.Proofs.YtmacpgoclhgafaaDoorW.XM
open Go.RowKit
section
variable {P : Program} {w0 : World}
inductive QT2 where
  | z
  | q (i : Nat) (r : QT2)
  | e (i : Nat) (r : QT2)
  | b (i : Nat) (r : QT2) (j : Nat) (s : QT2)
def QT2.len : QT2 → Nat
  | .z => 0
  | .q _ r => r.len + 1
  | .e _ r => r.len + 1
  | .b _ r _ _ => r.len + 1
def xdT (P : Program) (w0 : World) (ops : Array Oper) (Q : Ts → Hp → Prop) : QT2 → List Pd → Ts → Hp → Prop
  | .z, _, T, H => Q T H
  | .q i r, pd, T, H => match ops[i]? with
    | none => False
    | some o => if wan o ops T = true then ∃ v, Yl P w0 o.op T H v ∧ xdT P w0 ops Q r (⟨i, o.op, T, v⟩ :: pd) (upd T o.dst v) H else xdT P w0 ops Q r pd (upd T o.dst undef) H
  | .e i r, pd, T, H => match ops[i]? with
    | none => False
    | some o => if wan o ops T = true then xo P w0 o.op (ev T) H (fun v H2 => pendOk P w0 ops i H2 pd ∧ xdT P w0 ops Q r pd (upd T o.dst v) H2) else xdT P w0 ops Q r pd (upd T o.dst undef) H
  | .b i r j s, pd, T, H => (match ops[i]? with
    | none => False
    | some o => if wan o ops T = true then xo P w0 o.op (ev T) H (fun v H2 => pendOk P w0 ops i H2 pd ∧ xdT P w0 ops Q r pd (upd T o.dst v) H2) else xdT P w0 ops Q r pd (upd T o.dst undef) H) ∧ (match ops[j]? with
    | none => False
    | some o => if wan o ops T = true then xo P w0 o.op (ev T) H (fun v H2 => pendOk P w0 ops j H2 pd ∧ xdT P w0 ops Q s pd (upd T o.dst v) H2) else xdT P w0 ops Q s pd (upd T o.dst undef) H)
def planBT (ops : Array Oper) : QT2 → Array Bool → Bool
  | .z, listed => (Region.ready .any ops listed).isEmpty
  | .q i r, listed => (Region.ready .any ops listed).contains i && freeB ops listed i && planBT ops r (listed.setIfInBounds i true)
  | .e i r, listed => (Region.ready .any ops listed) == [i] && planBT ops r (listed.setIfInBounds i true)
  | .b i r j s, listed => ((Region.ready .any ops listed) == [i, j] || (Region.ready .any ops listed) == [j, i]) && (r.len == s.len && (planBT ops r (listed.setIfInBounds i true) && planBT ops s (listed.setIfInBounds j true)))
theorem xdT_ok {ops : Array Oper} {Q : Ts → Hp → Prop} : ∀ (l : QT2) (pd : List Pd) (listed : Array Bool) (T : Ts) (H : Hp), planBT ops l listed = true → Closed ops listed → xdT P w0 ops Q l pd T H →
    XA P w0 ops Q (fun j H' => pendOk P w0 ops j H' pd) l.len listed T H
  | .z, pd, listed, T, H, hp, hc, h => ⟨by simpa [planBT] using hp, h⟩
  | .q i r, pd, listed, T, H, hp, hc, h => by
    simp only [planBT, Bool.and_eq_true] at hp
    obtain ⟨⟨p1, p2⟩, p3⟩ := hp
    have hr : i ∈ Region.ready .any ops listed := by simpa using p1
    simp only [xdT] at h
    cases ho : ops[i]? with
    | none => rw [ho] at h; exact h.elim
    | some o =>
      rw [ho] at h
      simp only at h
      have hfree : ∀ j oj, ops[j]? = some oj → j ≠ i → listed.getD j true = false → anc ops ops.size i j = false → o.apart ops oj = true := fun j oj hj hne hl ha => by
        unfold freeB at p2
        rw [ho] at p2
        have := List.all_eq_true.1 p2 j (List.mem_range.2 (Array.getElem?_eq_some_iff.1 hj).1)
        rw [hj] at this
        simp only [Bool.or_eq_true, beq_iff_eq, hl, ha] at this
        simp only [hne, Bool.false_eq_true, false_or] at this
        exact this
      split at h
      · rename_i hw
        obtain ⟨v, h1, h2⟩ := h
        have := xdT_ok r _ _ _ _ p3 (hc.set hr) h2
        refine XA_first ho ops.size r.len hc hr hfree hw (fun _ => h1) (by simp) (XA.mono (fun j H' hh => ?_) _ this)
        simp only [pendOk] at hh
        refine ⟨hh.2, ?_⟩
        have h3 := hh.1
        split at h3
        · rename_i e; exact .inl e
        · exact .inr (.inr h3)
      · rename_i hw
        have := xdT_ok r _ _ _ _ p3 (hc.set hr) h
        exact XA_first (v := undef) (wn := false) ho ops.size r.len hc hr hfree (by simpa using hw) (by simp) (fun _ => rfl) (XA.mono (fun j H' hh => ⟨hh, .inr (.inl rfl)⟩) _ this)
  | .e i r, pd, listed, T, H, hp, hc, h => by
    simp only [planBT, Bool.and_eq_true, beq_iff_eq] at hp
    obtain ⟨p1, p3⟩ := hp
    have hr : i ∈ Region.ready .any ops listed := by rw [p1]; simp
    simp only [xdT] at h
    refine ⟨fun e => (by rw [p1] at e; cases e), fun j hj => ?_⟩
    rw [p1] at hj
    simp only [List.mem_singleton] at hj
    subst hj
    unfold xop1
    cases ho : ops[j]? with
    | none => rw [ho] at h; exact h.elim
    | some o =>
      rw [ho] at h
      simp only at h ⊢
      split at h
      · rename_i hw
        rw [if_pos hw]
        exact xo_mono (fun v H2 hh => ⟨.inr hh.1, xdT_ok r _ _ _ _ p3 (hc.set hr) hh.2⟩) h
      · rename_i hw
        rw [if_neg hw]
        exact ⟨.inl trivial, xdT_ok r _ _ _ _ p3 (hc.set hr) h⟩
  | .b i r j s, pd, listed, T, H, hp, hc, h => by
    simp only [planBT, Bool.and_eq_true, Bool.or_eq_true, beq_iff_eq] at hp
    obtain ⟨p1, p2, p3, p4⟩ := hp
    have hmem : ∀ k, k ∈ Region.ready .any ops listed → k = i ∨ k = j := fun k hk => by
      rcases p1 with p1 | p1 <;> (rw [p1] at hk; simp at hk; omega)
    have hne : Region.ready .any ops listed ≠ [] := by rcases p1 with p1 | p1 <;> (rw [p1]; simp)
    have one : ∀ (k : Nat) (t : QT2), k ∈ Region.ready .any ops listed → planBT ops t (listed.setIfInBounds k true) = true → t.len = r.len → (∀ (pd : List Pd) (listed : Array Bool) (T : Ts) (H : Hp), planBT ops t listed = true → Closed ops listed → xdT P w0 ops Q t pd T H → XA P w0 ops Q (fun j H' => pendOk P w0 ops j H' pd) t.len listed T H) → (match ops[k]? with
        | none => False
        | some o => if wan o ops T = true then xo P w0 o.op (ev T) H (fun v H2 => pendOk P w0 ops k H2 pd ∧ xdT P w0 ops Q t pd (upd T o.dst v) H2) else xdT P w0 ops Q t pd (upd T o.dst undef) H) →
        xop1 P w0 ops k T H fun T2 H2 => (H2 = H ∨ pendOk P w0 ops k H2 pd) ∧ XA P w0 ops Q (fun j H' => pendOk P w0 ops j H' pd) r.len (listed.setIfInBounds k true) T2 H2 := fun k t hk hp2 hl ih hh => by
      unfold xop1
      cases ho : ops[k]? with
      | none => rw [ho] at hh; exact hh.elim
      | some o =>
        rw [ho] at hh
        simp only at hh ⊢
        split at hh
        · rename_i hw
          rw [if_pos hw]
          exact xo_mono (fun v H2 hh => ⟨.inr hh.1, by rw [← hl]; exact ih _ _ _ _ hp2 (hc.set hk) hh.2⟩) hh
        · rename_i hw
          rw [if_neg hw]
          exact ⟨.inl trivial, by rw [← hl]; exact ih _ _ _ _ hp2 (hc.set hk) hh⟩
    simp only [xdT] at h
    refine ⟨fun e => absurd e hne, fun k hk => ?_⟩
    rcases hmem k hk with rfl | rfl
    · exact one k r hk p3 rfl (fun pd listed T H => xdT_ok r pd listed T H) h.1
    · exact one k s hk p4 p2.symm (fun pd listed T H => xdT_ok s pd listed T H) h.2
theorem xw_drawT {n id : Nat} {ops : Array Oper} {Q : QT} {T : Ts} {H : Hp} (plan : QT2) (hm : P.follows .mixedOrders = true) (hg : ops.all (goodO n) = true) (hp : (plan.len == ops.size && planBT ops plan (Array.replicate ops.size false)) = true) (h : xdT P w0 ops (Q .normal) plan [] T H) : xw P w0 n (.region id ops true) Q T H := by
  simp only [Bool.and_eq_true, beq_iff_eq] at hp
  intro H0 μ0 μ w a h1 h2 h3 h4
  refine wp_region_any hm ?_
  have hc : Closed ops (Array.replicate ops.size false) := fun j o hj => by
    by_cases hlt : j < ops.size <;> simp [Array.getD_eq_getD_getElem?, Array.getElem?_replicate, hlt] at hj
  have := xdT_ok plan [] _ T H hp.2 hc h
  rw [hp.1] at this
  exact XA_ok hg _ _ T H this H0 μ0 μ _ a h1.drew h2 h3 h4
inductive PT where
  | z
  | q (i : Nat) (r : PT)
  | l (i : Nat) (r : PT)
  | e (i : Nat) (r : PT)
  | d (i : Nat) (r : PT)
  | b (i : Nat) (r : PT) (j : Nat) (s : PT)
def PT.ps : PT → QT2
  | .z => .z
  | .q i r => .q i r.ps
  | .l i r => .q i r.ps
  | .e i r => .e i r.ps
  | .d _ r => r.ps
  | .b i r j s => .b i r.ps j s.ps
/-- Every operation that it does as it stands lies behind i. -/
def PT.aft (c : Nat → Bool) : PT → Bool
  | .z => true
  | .q _ r => r.aft c
  | .l _ r => r.aft c
  | .e j r => c j && r.aft c
  | .d _ r => r.aft c
  | .b i r j s => (c i && r.aft c) && (c j && s.aft c)
def xt (P : Program) (w0 : World) (l : List Oper) (Q : Ts → Hp → Prop) : PT → List Pd → Ts → Hp → Prop
  | .z, _, T, H => Q T H
  | .q i r, pd, T, H => match nth l i with
    | none => False
    | some o => if wan o l.toArray T = true then xo P w0 o.op (ev T) H (fun v H' => xt P w0 l Q r pd (upd T o.dst v) H') else xt P w0 l Q r pd (upd T o.dst undef) H
  | .l i r, pd, T, H => match nth l i with
    | none => False
    | some o => if wan o l.toArray T = true then xo P w0 o.op (ev T) H (fun v H' => xt P w0 l Q r (⟨i, o.op, T, v⟩ :: pd) (upd T o.dst v) H') else xt P w0 l Q r pd (upd T o.dst undef) H
  | .e i r, pd, T, H => match nth l i with
    | none => False
    | some o => if wan o l.toArray T = true then xo P w0 o.op (ev T) H (fun v H' => pdOk P w0 H' (xt P w0 l Q r pd (upd T o.dst v) H') pd) else xt P w0 l Q r pd (upd T o.dst undef) H
  | .d i r, pd, T, H => xt P w0 l Q r (drp i pd) T H
  | .b i r j s, pd, T, H => (match nth l i with
    | none => False
    | some o => if wan o l.toArray T = true then xo P w0 o.op (ev T) H (fun v H' => pdOk P w0 H' (xt P w0 l Q r pd (upd T o.dst v) H') pd) else xt P w0 l Q r pd (upd T o.dst undef) H) ∧ (match nth l j with
    | none => False
    | some o => if wan o l.toArray T = true then xo P w0 o.op (ev T) H (fun v H' => pdOk P w0 H' (xt P w0 l Q s pd (upd T o.dst v) H') pd) else xt P w0 l Q s pd (upd T o.dst undef) H)
def okPT (P : Program) (ops : Array Oper) : PT → Bool
  | .z => true
  | .q i r => (match ops[i]? with
    | some o => quiet P o.op || (isLoad o.op && r.aft fun j => anc ops ops.size i j)
    | none => false) && okPT P ops r
  | .l i r => (match ops[i]? with
    | some o => isLoad o.op
    | none => false) && okPT P ops r
  | .e _ r => okPT P ops r
  | .d i r => (r.aft fun j => anc ops ops.size i j) && okPT P ops r
  | .b _ r _ s => okPT P ops r && okPT P ops s
/-- What waits is as it was, whatever comes. -/
def Wt (P : Program) (w0 : World) (ops : Array Oper) (pm pd : List Pd) (t : PT) : Prop := ∀ p ∈ pd, (∀ H2, Yl P w0 p.o p.T H2 p.v) ∨ (t.aft fun j => anc ops ops.size p.i j) = true ∨ p ∈ pm
theorem xdT_xt {l : List Oper} {Q : Ts → Hp → Prop} : ∀ (pl : PT) (pm pd : List Pd) (T : Ts) (H : Hp), okPT P l.toArray pl = true → Wt P w0 l.toArray pm pd pl → xt P w0 l Q pl pm T H → xdT P w0 l.toArray Q pl.ps pd T H
  | .z, _, _, _, _, _, _, h => h
  | .q i r, pm, pd, T, H, hk, hp, h => by
    simp only [xt, nth_eq] at h
    simp only [PT.ps, xdT, List.getElem?_toArray]
    simp only [okPT, Bool.and_eq_true, List.getElem?_toArray] at hk
    have hp' : Wt P w0 l.toArray pm pd r := hp
    cases ho : l[i]? with
    | none => rw [ho] at h; exact h.elim
    | some o =>
      rw [ho] at h hk
      simp only at h hk ⊢
      split at h
      · rename_i hw
        rw [if_pos hw]
        obtain ⟨hk1, hk2⟩ := hk
        rw [Bool.or_eq_true] at hk1
        rcases hk1 with hq | hl
        · obtain ⟨v, h1, h2⟩ := xo_quiet hq h
          refine ⟨v, h1 H, xdT_xt r pm _ _ _ hk2 ?_ h2⟩
          intro p hm
          rcases List.mem_cons.1 hm with rfl | hm
          · exact .inl h1
          · exact hp' p hm
        · rw [Bool.and_eq_true] at hl
          obtain ⟨v, h1, h2⟩ := xo_loadO hl.1 h
          refine ⟨v, h1, xdT_xt r pm _ _ _ hk2 ?_ h2⟩
          intro p hm
          rcases List.mem_cons.1 hm with rfl | hm
          · exact .inr (.inl hl.2)
          · exact hp' p hm
      · rename_i hw
        rw [if_neg hw]
        exact xdT_xt r pm _ _ _ hk.2 hp' h
  | .l i r, pm, pd, T, H, hk, hp, h => by
    simp only [xt, nth_eq] at h
    simp only [PT.ps, xdT, List.getElem?_toArray]
    simp only [okPT, Bool.and_eq_true, List.getElem?_toArray] at hk
    have hp' : Wt P w0 l.toArray pm pd r := hp
    cases ho : l[i]? with
    | none => rw [ho] at h; exact h.elim
    | some o =>
      rw [ho] at h hk
      simp only at h hk ⊢
      split at h
      · rename_i hw
        rw [if_pos hw]
        obtain ⟨v, h1, h2⟩ := xo_loadO hk.1 h
        refine ⟨v, h1, xdT_xt r _ _ _ _ hk.2 ?_ h2⟩
        intro p hm
        rcases List.mem_cons.1 hm with rfl | hm
        · exact .inr (.inr List.mem_cons_self)
        · exact (hp' p hm).imp id (Or.imp id (List.mem_cons_of_mem _))
      · rename_i hw
        rw [if_neg hw]
        exact xdT_xt r _ _ _ _ hk.2 hp' h
  | .e i r, pm, pd, T, H, hk, hp, h => by
    simp only [xt, nth_eq] at h
    simp only [PT.ps, xdT, List.getElem?_toArray]
    simp only [okPT] at hk
    have hp' : Wt P w0 l.toArray pm pd r := fun p hm => (hp p hm).imp id (Or.imp (fun a => by simp only [PT.aft, Bool.and_eq_true] at a; exact a.2) id)
    cases ho : l[i]? with
    | none => rw [ho] at h; exact h.elim
    | some o =>
      rw [ho] at h
      simp only at h ⊢
      split at h
      · rename_i hw
        rw [if_pos hw]
        refine xo_mono (fun v H2 hh => ?_) h
        obtain ⟨h1, h2⟩ := pdOk_spec pm hh
        refine ⟨pend_ok pd fun p hm => ?_, xdT_xt r pm _ _ _ hk hp' h1⟩
        rcases hp p hm with a | a | a
        · exact .inl (a H2)
        · simp only [PT.aft, Bool.and_eq_true] at a
          exact .inr a.1
        · exact .inl (h2 p a)
      · rename_i hw
        rw [if_neg hw]
        exact xdT_xt r pm _ _ _ hk hp' h
  | .d i r, pm, pd, T, H, hk, hp, h => by
    simp only [okPT, Bool.and_eq_true] at hk
    refine xdT_xt r _ pd T H hk.2 (fun p hm => ?_) h
    rcases hp p hm with a | a | a
    · exact .inl a
    · exact .inr (.inl a)
    · rcases drp_mem (i := i) a with e | e
      · exact .inr (.inl (by rw [e]; exact hk.1))
      · exact .inr (.inr e)
  | .b i r j s, pm, pd, T, H, hk, hp, h => by
    simp only [xt, nth_eq] at h
    simp only [PT.ps, xdT, List.getElem?_toArray]
    simp only [okPT, Bool.and_eq_true] at hk
    have hp1 : Wt P w0 l.toArray pm pd r := fun p hm => (hp p hm).imp id (Or.imp (fun a => by simp only [PT.aft, Bool.and_eq_true] at a; exact a.1.2) id)
    have hp2 : Wt P w0 l.toArray pm pd s := fun p hm => (hp p hm).imp id (Or.imp (fun a => by simp only [PT.aft, Bool.and_eq_true] at a; exact a.2.2) id)
    refine ⟨?_, ?_⟩
    · replace h := h.1
      cases ho : l[i]? with
      | none => rw [ho] at h; exact h.elim
      | some o =>
        rw [ho] at h
        simp only at h ⊢
        split at h
        · rename_i hw
          rw [if_pos hw]
          refine xo_mono (fun v H2 hh => ?_) h
          obtain ⟨h1, h2⟩ := pdOk_spec pm hh
          refine ⟨pend_ok pd fun p hm => ?_, xdT_xt r pm _ _ _ hk.1 hp1 h1⟩
          rcases hp p hm with a | a | a
          · exact .inl (a H2)
          · simp only [PT.aft, Bool.and_eq_true] at a
            exact .inr a.1.1
          · exact .inl (h2 p a)
        · rename_i hw
          rw [if_neg hw]
          exact xdT_xt r pm _ _ _ hk.1 hp1 h
    · replace h := h.2
      cases ho : l[j]? with
      | none => rw [ho] at h; exact h.elim
      | some o =>
        rw [ho] at h
        simp only at h ⊢
        split at h
        · rename_i hw
          rw [if_pos hw]
          refine xo_mono (fun v H2 hh => ?_) h
          obtain ⟨h1, h2⟩ := pdOk_spec pm hh
          refine ⟨pend_ok pd fun p hm => ?_, xdT_xt s pm _ _ _ hk.2 hp2 h1⟩
          rcases hp p hm with a | a | a
          · exact .inl (a H2)
          · simp only [PT.aft, Bool.and_eq_true] at a
            exact .inr a.2.1
          · exact .inl (h2 p a)
        · rename_i hw
          rw [if_neg hw]
          exact xdT_xt s pm _ _ _ hk.2 hp2 h
def planMT (M : List Nat) (ops : Array Oper) : QT2 → Array Bool → Bool
  | .z, listed => (Region.ready .any ops listed).isEmpty
  | .q i r, listed => (Region.ready .any ops listed).contains i && (freeM M ops listed i && planMT M ops r (listed.setIfInBounds i true))
  | .e i r, listed => (Region.ready .any ops listed) == [i] && planMT M ops r (listed.setIfInBounds i true)
  | .b i r j s, listed => ((Region.ready .any ops listed) == [i, j] || (Region.ready .any ops listed) == [j, i]) && (Nat.beq r.len s.len && (planMT M ops r (listed.setIfInBounds i true) && planMT M ops s (listed.setIfInBounds j true)))
theorem planMT_ok {M : List Nat} {ops : Array Oper} (hM : chkM M ops = true) : ∀ (l : QT2) (listed : Array Bool), planMT M ops l listed = true → planBT ops l listed = true
  | .z, _, h => h
  | .q i r, listed, h => by
    simp only [planMT, Bool.and_eq_true] at h
    simp only [planBT, Bool.and_eq_true]
    exact ⟨⟨h.1, freeM_ok hM h.2.1⟩, planMT_ok hM r _ h.2.2⟩
  | .e i r, listed, h => by
    simp only [planMT, Bool.and_eq_true] at h
    simp only [planBT, Bool.and_eq_true]
    exact ⟨h.1, planMT_ok hM r _ h.2⟩
  | .b i r j s, listed, h => by
    simp only [planMT, Bool.and_eq_true] at h
    simp only [planBT, Bool.and_eq_true]
    exact ⟨h.1, beq_iff_eq.2 (Nat.eq_of_beq_eq_true h.2.1), planMT_ok hM r _ h.2.2.1, planMT_ok hM s _ h.2.2.2⟩
def okMT (P : Program) (M : List Nat) (ops : Array Oper) : PT → Bool
  | .z => true
  | .q i r => (match ops[i]? with
    | some o => quiet P o.op || (isLoad o.op && r.aft fun j => Nat.blt j ops.size && Nat.testBit (M.getD j 0) i)
    | none => false) && okMT P M ops r
  | .l i r => (match ops[i]? with
    | some o => isLoad o.op
    | none => false) && okMT P M ops r
  | .e _ r => okMT P M ops r
  | .d i r => (r.aft fun j => Nat.blt j ops.size && Nat.testBit (M.getD j 0) i) && okMT P M ops r
  | .b _ r _ s => okMT P M ops r && okMT P M ops s
theorem aft_mono {c c' : Nat → Bool} (h : ∀ j, c j = true → c' j = true) : ∀ t : PT, t.aft c = true → t.aft c' = true
  | .z, _ => rfl
  | .q _ r, a => aft_mono h r a
  | .l _ r, a => aft_mono h r a
  | .d _ r, a => aft_mono h r a
  | .e j r, a => by
    simp only [PT.aft, Bool.and_eq_true] at a ⊢
    exact ⟨h j a.1, aft_mono h r a.2⟩
  | .b i r j s, a => by
    simp only [PT.aft, Bool.and_eq_true] at a ⊢
    exact ⟨⟨h i a.1.1, aft_mono h r a.1.2⟩, h j a.2.1, aft_mono h s a.2.2⟩
theorem okMT_ok {M : List Nat} {ops : Array Oper} (hM : chkM M ops = true) : ∀ (l : PT), okMT P M ops l = true → okPT P ops l = true
  | .z, _ => rfl
  | .q i r, h => by
    simp only [okMT, Bool.and_eq_true] at h
    simp only [okPT, Bool.and_eq_true]
    refine ⟨?_, okMT_ok hM r h.2⟩
    have h1 := h.1
    cases ho : ops[i]? with
    | none => rw [ho] at h1; cases h1
    | some o =>
      rw [ho] at h1
      simp only [Bool.or_eq_true, Bool.and_eq_true] at h1 ⊢
      refine h1.imp id fun a => ⟨a.1, aft_mono (fun j hj => ?_) r a.2⟩
      simp only [Bool.and_eq_true, Nat.blt_eq] at hj
      exact mask_anc' hM hj.1 hj.2
  | .l i r, h => by
    simp only [okMT, Bool.and_eq_true] at h
    simp only [okPT, Bool.and_eq_true]
    exact ⟨h.1, okMT_ok hM r h.2⟩
  | .e i r, h => okMT_ok hM r h
  | .d i r, h => by
    simp only [okMT, Bool.and_eq_true] at h
    simp only [okPT, Bool.and_eq_true]
    refine ⟨aft_mono (fun j hj => ?_) r h.1, okMT_ok hM r h.2⟩
    simp only [Bool.and_eq_true, Nat.blt_eq] at hj
    exact mask_anc' hM hj.1 hj.2
  | .b _ r _ s, h => by
    simp only [okMT, Bool.and_eq_true] at h
    simp only [okPT, Bool.and_eq_true]
    exact ⟨okMT_ok hM r h.1, okMT_ok hM s h.2⟩
theorem xw_tree {n id : Nat} {l : List Oper} {Q : QT} {T : Ts} {H : Hp} (M : List Nat) (plan : PT) (hm : P.follows .mixedOrders = true) (hg : (l.toArray.all (goodO n) && (Nat.beq plan.ps.len l.toArray.size && (chkM M l.toArray && (planMT M l.toArray plan.ps (Array.replicate l.toArray.size false) && okMT P M l.toArray plan)))) = true) (h : xt P w0 l (Q .normal) plan [] T H) : xw P w0 n (.region id l.toArray true) Q T H := by
  simp only [Bool.and_eq_true] at hg
  obtain ⟨g1, g2, g3, g4, g5⟩ := hg
  refine xw_drawT plan.ps hm g1 ?_ (xdT_xt plan [] [] T H (okMT_ok g3 plan g5) (fun p hp => by cases hp) h)
  simp only [Bool.and_eq_true, beq_iff_eq]
  exact ⟨Nat.eq_of_beq_eq_true g2, planMT_ok g3 _ _ g4⟩
theorem pdOk_mono {H : Hp} {X Y : Prop} (h : X → Y) : ∀ (l : List Pd), pdOk P w0 H X l → pdOk P w0 H Y l
  | [], a => h a
  | _ :: r, a => ⟨a.1, pdOk_mono h r a.2⟩
/-- What is asked behind a region may be told beforehand. -/
theorem xt_mono {l : List Oper} {Q Q' : Ts → Hp → Prop} (hq : ∀ T H, Q' T H → Q T H) : ∀ (pl : PT) (pd : List Pd) (T : Ts) (H : Hp), xt P w0 l Q' pl pd T H → xt P w0 l Q pl pd T H
  | .z, _, T, H, h => hq T H h
  | .q i r, pd, T, H, h => by
    simp only [xt] at h ⊢
    cases ho : nth l i with
    | none => rw [ho] at h; exact h
    | some o =>
      rw [ho] at h
      simp only at h ⊢
      split at h
      · rename_i e; rw [if_pos e]; exact xo_mono (fun v H2 => xt_mono hq r _ _ _) h
      · rename_i e; rw [if_neg e]; exact xt_mono hq r _ _ _ h
  | .l i r, pd, T, H, h => by
    simp only [xt] at h ⊢
    cases ho : nth l i with
    | none => rw [ho] at h; exact h
    | some o =>
      rw [ho] at h
      simp only at h ⊢
      split at h
      · rename_i e; rw [if_pos e]; exact xo_mono (fun v H2 => xt_mono hq r _ _ _) h
      · rename_i e; rw [if_neg e]; exact xt_mono hq r _ _ _ h
  | .e i r, pd, T, H, h => by
    simp only [xt] at h ⊢
    cases ho : nth l i with
    | none => rw [ho] at h; exact h
    | some o =>
      rw [ho] at h
      simp only at h ⊢
      split at h
      · rename_i e; rw [if_pos e]; exact xo_mono (fun v H2 => pdOk_mono (xt_mono hq r _ _ _) pd) h
      · rename_i e; rw [if_neg e]; exact xt_mono hq r _ _ _ h
  | .d i r, pd, T, H, h => xt_mono hq r _ T H h
  | .b i r j s, pd, T, H, h => by
    simp only [xt] at h ⊢
    refine ⟨?_, ?_⟩
    · replace h := h.1
      cases ho : nth l i with
      | none => rw [ho] at h; exact h
      | some o =>
        rw [ho] at h
        simp only at h ⊢
        split at h
        · rename_i e; rw [if_pos e]; exact xo_mono (fun v H2 => pdOk_mono (xt_mono hq r _ _ _) pd) h
        · rename_i e; rw [if_neg e]; exact xt_mono hq r _ _ _ h
    · replace h := h.2
      cases ho : nth l j with
      | none => rw [ho] at h; exact h
      | some o =>
        rw [ho] at h
        simp only at h ⊢
        split at h
        · rename_i e; rw [if_pos e]; exact xo_mono (fun v H2 => pdOk_mono (xt_mono hq s _ _ _) pd) h
        · rename_i e; rw [if_neg e]; exact xt_mono hq s _ _ _ h
theorem xw_treeC {n id : Nat} {l : List Oper} {Q : QT} {T : Ts} {H : Hp} (M : List Nat) (plan : PT) (hm : P.follows .mixedOrders = true) (hg : (l.toArray.all (goodO n) && (Nat.beq plan.ps.len l.toArray.size && (chkM M l.toArray && (planMT M l.toArray plan.ps (Array.replicate l.toArray.size false) && okMT P M l.toArray plan)))) = true) (Q' : Ts → Hp → Prop) (h : xt P w0 l Q' plan [] T H) (hq : ∀ T H, Q' T H → Q .normal T H) : xw P w0 n (.region id l.toArray true) Q T H :=
  xw_tree M plan hm hg (xt_mono hq plan [] T H h)
/-! the steps as equations -/
def KTe (P : Program) (w0 : World) (l : List Oper) (Q : Ts → Hp → Prop) (r : PT) (pd : List Pd) (T : Ts) (d : Option Nat) : Value → Hp → Prop := fun v H => xt P w0 l Q r pd (upd T d v) H
@[go_sem] theorem KTe_app (l : List Oper) (Q : Ts → Hp → Prop) (r : PT) (pd : List Pd) (T : Ts) (d : Option Nat) (v : Value) (H : Hp) : KTe P w0 l Q r pd T d v H = xt P w0 l Q r pd (upd T d v) H := propext Iff.rfl
def KTl (P : Program) (w0 : World) (l : List Oper) (Q : Ts → Hp → Prop) (r : PT) (pd : List Pd) (T : Ts) (d : Option Nat) (i : Nat) (o : Op) : Value → Hp → Prop := fun v H => xt P w0 l Q r (⟨i, o, T, v⟩ :: pd) (upd T d v) H
@[go_sem] theorem KTl_app (l : List Oper) (Q : Ts → Hp → Prop) (r : PT) (pd : List Pd) (T : Ts) (d : Option Nat) (i : Nat) (o : Op) (v : Value) (H : Hp) : KTl P w0 l Q r pd T d i o v H = xt P w0 l Q r (⟨i, o, T, v⟩ :: pd) (upd T d v) H := propext Iff.rfl
def KTd (P : Program) (w0 : World) (l : List Oper) (Q : Ts → Hp → Prop) (r : PT) (pd : List Pd) (T : Ts) (d : Option Nat) : Value → Hp → Prop := fun v H => pdOk P w0 H (xt P w0 l Q r pd (upd T d v) H) pd
@[go_sem] theorem KTd_app (l : List Oper) (Q : Ts → Hp → Prop) (r : PT) (pd : List Pd) (T : Ts) (d : Option Nat) (v : Value) (H : Hp) : KTd P w0 l Q r pd T d v H = pdZ P w0 H pd (Lz.mk (X := xt P w0 l Q r pd (upd T d v) H)) := propext Iff.rfl
/-- The operation of a step: done as it stands (e), or waited for (l). -/
def XT (P : Program) (w0 : World) (l : List Oper) (Q : Ts → Hp → Prop) (k : Nat) (i : Nat) (r : PT) (pd : List Pd) (T : Ts) (H : Hp) : Option Oper → Prop
  | none => False
  | some o => if wan o l.toArray T = true then xo P w0 o.op (ev T) H (match k with
    | 0 => KTe P w0 l Q r pd T o.dst
    | 1 => KTl P w0 l Q r pd T o.dst i o.op
    | _ => KTd P w0 l Q r pd T o.dst) else xt P w0 l Q r pd (upd T o.dst undef) H
def Both {X Y : Prop} (_ : Lz X) (_ : Lz Y) : Prop := X ∧ Y
theorem Both_intro {X Y : Prop} {x : Lz X} {y : Lz Y} (h1 : X) (h2 : Y) : Both x y := ⟨h1, h2⟩
@[go_sem] theorem xt_z (l : List Oper) (Q : Ts → Hp → Prop) (pd : List Pd) (T : Ts) (H : Hp) : xt P w0 l Q .z pd T H = Q T H := propext Iff.rfl
@[go_sem] theorem xt_q (l : List Oper) (Q : Ts → Hp → Prop) (i : Nat) (r : PT) (pd : List Pd) (T : Ts) (H : Hp) : xt P w0 l Q (.q i r) pd T H = XT P w0 l Q 0 i r pd T H (nth l i) := by
  simp only [xt, XT]
  cases nth l i <;> rfl
@[go_sem] theorem xt_l (l : List Oper) (Q : Ts → Hp → Prop) (i : Nat) (r : PT) (pd : List Pd) (T : Ts) (H : Hp) : xt P w0 l Q (.l i r) pd T H = XT P w0 l Q 1 i r pd T H (nth l i) := by
  simp only [xt, XT]
  cases nth l i <;> rfl
@[go_sem] theorem xt_e (l : List Oper) (Q : Ts → Hp → Prop) (i : Nat) (r : PT) (pd : List Pd) (T : Ts) (H : Hp) : xt P w0 l Q (.e i r) pd T H = XT P w0 l Q 2 i r pd T H (nth l i) := by
  simp only [xt, XT]
  cases nth l i <;> rfl
@[go_sem] theorem xt_d (l : List Oper) (Q : Ts → Hp → Prop) (i : Nat) (r : PT) (pd : List Pd) (T : Ts) (H : Hp) : xt P w0 l Q (.d i r) pd T H = xt P w0 l Q r (drp i pd) T H := propext Iff.rfl
@[go_sem] theorem xt_b (l : List Oper) (Q : Ts → Hp → Prop) (i j : Nat) (r s : PT) (pd : List Pd) (T : Ts) (H : Hp) : xt P w0 l Q (.b i r j s) pd T H = Both (Lz.mk (X := XT P w0 l Q 2 i r pd T H (nth l i))) (Lz.mk (X := XT P w0 l Q 2 j s pd T H (nth l j))) := by
  simp only [xt, XT, Both]
  cases nth l i <;> cases nth l j <;> rfl
@[go_sem] theorem XT_0 (l : List Oper) (Q : Ts → Hp → Prop) (i : Nat) (r : PT) (pd : List Pd) (T : Ts) (H : Hp) (d : Option Tmp) (op : Op) (ty : TypeId) (ps : String) (af : Array Edge) :
    XT P w0 l Q 0 i r pd T H (some { dst := d, op := op, type := ty, pos := ps, after := af, guard := none }) = Do P w0 op T H (Lk.mk (K := KTe P w0 l Q r pd T d)) := propext Iff.rfl
@[go_sem] theorem XT_0g (l : List Oper) (Q : Ts → Hp → Prop) (i : Nat) (r : PT) (pd : List Pd) (T : Ts) (H : Hp) (d : Option Tmp) (op : Op) (ty : TypeId) (ps : String) (af : Array Edge) (j : Nat) (b : Bool) :
    XT P w0 l Q 0 i r pd T H (some { dst := d, op := op, type := ty, pos := ps, after := af, guard := some (j, b) }) = Br (atB T b (dstAt l j)) (Lz.mk (X := Do P w0 op T H (Lk.mk (K := KTe P w0 l Q r pd T d)))) (Lz.mk (X := xt P w0 l Q r pd (upd T d undef) H)) := by
  show (if wan _ _ T = true then _ else _) = _
  rw [wan_guard]
  rfl
@[go_sem] theorem XT_1 (l : List Oper) (Q : Ts → Hp → Prop) (i : Nat) (r : PT) (pd : List Pd) (T : Ts) (H : Hp) (d : Option Tmp) (op : Op) (ty : TypeId) (ps : String) (af : Array Edge) :
    XT P w0 l Q 1 i r pd T H (some { dst := d, op := op, type := ty, pos := ps, after := af, guard := none }) = Do P w0 op T H (Lk.mk (K := KTl P w0 l Q r pd T d i op)) := propext Iff.rfl
@[go_sem] theorem XT_1g (l : List Oper) (Q : Ts → Hp → Prop) (i : Nat) (r : PT) (pd : List Pd) (T : Ts) (H : Hp) (d : Option Tmp) (op : Op) (ty : TypeId) (ps : String) (af : Array Edge) (j : Nat) (b : Bool) :
    XT P w0 l Q 1 i r pd T H (some { dst := d, op := op, type := ty, pos := ps, after := af, guard := some (j, b) }) = Br (atB T b (dstAt l j)) (Lz.mk (X := Do P w0 op T H (Lk.mk (K := KTl P w0 l Q r pd T d i op)))) (Lz.mk (X := xt P w0 l Q r pd (upd T d undef) H)) := by
  show (if wan _ _ T = true then _ else _) = _
  rw [wan_guard]
  rfl
@[go_sem] theorem XT_2 (l : List Oper) (Q : Ts → Hp → Prop) (i : Nat) (r : PT) (pd : List Pd) (T : Ts) (H : Hp) (d : Option Tmp) (op : Op) (ty : TypeId) (ps : String) (af : Array Edge) :
    XT P w0 l Q 2 i r pd T H (some { dst := d, op := op, type := ty, pos := ps, after := af, guard := none }) = Do P w0 op T H (Lk.mk (K := KTd P w0 l Q r pd T d)) := propext Iff.rfl
@[go_sem] theorem XT_2g (l : List Oper) (Q : Ts → Hp → Prop) (i : Nat) (r : PT) (pd : List Pd) (T : Ts) (H : Hp) (d : Option Tmp) (op : Op) (ty : TypeId) (ps : String) (af : Array Edge) (j : Nat) (b : Bool) :
    XT P w0 l Q 2 i r pd T H (some { dst := d, op := op, type := ty, pos := ps, after := af, guard := some (j, b) }) = Br (atB T b (dstAt l j)) (Lz.mk (X := Do P w0 op T H (Lk.mk (K := KTd P w0 l Q r pd T d)))) (Lz.mk (X := xt P w0 l Q r pd (upd T d undef) H)) := by
  show (if wan _ _ T = true then _ else _) = _
  rw [wan_guard]
  rfl
end
end Go.Proofs.YtmacpgoclhgafaaDoorW.XM

namespace Go.Proofs.YtmacpgoclhgafaaDoorW.FA
open Go.RowKit Go.Proofs.YtmacpgoclhgafaaDoorW.XM Go.Proofs Go.Proofs.YtmacpgoclhgafaaDoorW.XWords
set_option maxRecDepth 100000
set_option linter.unusedSimpArgs false
variable (w0 : World) (H : Hp)
end Go.Proofs.YtmacpgoclhgafaaDoorW.FA

namespace Go.Proofs.YtmacpgoclhgafaaDoorW.FA
open Go.RowKit Go.Proofs.YtmacpgoclhgafaaDoorW.XM Go.Proofs Go.Proofs.YtmacpgoclhgafaaDoorW.XWords
set_option maxRecDepth 100000
set_option linter.unusedSimpArgs false
variable (w0 : World) (H : Hp)
end Go.Proofs.YtmacpgoclhgafaaDoorW.FA

namespace Go.Proofs.YtmacpgoclhgafaaDoorW.XRA
open Go.ChangeShapes Go.WideShapes Go.ChangeAt Go.RowKit Go.Deep Go.Proofs.YtmacpgoclhgafaaDoorW.XM
/-- Cells that read as a datum of type T are a value of a kind. -/
def ReadsA (P : Program) {α : Type} (enc : α → List Value) (T : TypeId) (Q : α → Prop) : Prop :=
  ∀ (H : Type) (en : TypeId × Value → H) (w : World) (base : Nat) (spare : Nat → Bool) (held : Bool) (fuel : Nat) (cs : List Value) (x : DataW H × List MemPlace),
    DataW.trod en P w base spare held fuel T cs = some x → ∃ v : α, cs = enc v ∧ Q v
section
variable {P : Program}
theorem ra_int {T : TypeId} {k : IntKind} (h : P.underlying T = some (.int k)) : ReadsA P (fun n : Int => [.int k n]) T (fun n => (Lit.int k n).wf = true) := by
  intro H enc w base spare held fuel cs x hx
  obtain ⟨n, rfl, _, hw⟩ := DataW.trod_int h hx
  exact ⟨n, rfl, hw⟩
theorem ra_str {T : TypeId} (h : P.underlying T = some .string) : ReadsA P (fun s : ByteArray => [.string s]) T (fun s => s.size ≤ maxLen) := by
  intro H enc w base spare held fuel cs x hx
  obtain ⟨s, rfl, _, hs⟩ := DataW.trod_string h hx
  exact ⟨s, rfl, hs⟩
/-- A struct's cells, field by field. -/
theorem struct_readA {fs : Array Field} {T : TypeId} (hT : P.underlying T = some (.struct fs)) {H : Type} {enc : TypeId × Value → H} {w : World} {base : Nat} {spare : Nat → Bool} {held : Bool} {fuel : Nat} {cs : List Value} {x : DataW H × List MemPlace}
    (h : DataW.trod enc P w base spare held fuel T cs = some x) :
    cs.length = P.cellsOf T ∧ ∃ n, ∀ (i : Nat) (ft off m : Nat) (l : List Value), fs[i]?.map (fun f => (f.type, f.offset)) = some (ft, off) → P.cellsOf ft = m → (cs.drop off).take m = l → ∃ y, DataW.trod enc P w base spare held n ft l = some y := by
  obtain ⟨xs, n, _, _, hl, hlen, hf⟩ := DataW.trod_struct hT h
  refine ⟨hl, n, fun i ft off m l hi hm hl2 => ?_⟩
  obtain ⟨f, h1, h2⟩ := Option.map_eq_some_iff.1 hi
  have hlt : i < xs.length := by
    have := (Array.getElem?_eq_some_iff.1 h1).1
    omega
  simp only [Prod.mk.injEq] at h2
  obtain ⟨h3, h4⟩ := h2
  have := hf i f h1
  rw [h3, h4, hm, hl2] at this
  exact ⟨xs[i], by rw [this]; exact List.getElem?_eq_getElem hlt⟩
theorem cells_eachA {w : World} {base : Nat} {a : Addr} {n : Nat} {cs : List Value} (h : w.cells? base a n = some cs) : cs.length = n ∧ ∀ i u, cs[i]? = some u → w.cell? (a.add i) = some u := by
  unfold World.cells? at h
  split at h
  · have hl : cs.length = n := by simpa using Lib.mapM_length h
    refine ⟨hl, fun i u hu => ?_⟩
    have hi : i < n := by
      have := (List.getElem?_eq_some_iff.1 hu).1
      omega
    obtain ⟨b, hb, hf⟩ := Lib.mapM_at h i i (by simp [hi])
    rw [hu] at hb
    cases hb
    exact hf
  · cases h
theorem rdRo_cells {w : World} {b : Nat} : ∀ (cs : List Value) (o : Nat), (∀ (j : Nat) (u : Value), cs[j]? = some u → w.cell? ⟨b, o + j, none⟩ = some u) → (∀ v ∈ cs, (plain v && v.oneCell') = true) → rdRo w b o cs.length = some cs
  | [], _, _, _ => rfl
  | c :: r, o, h1, h2 => by
    have h0 := h1 0 c rfl
    rw [Nat.add_zero] at h0
    simp only [List.length_cons, rdRo, h0, h2 c List.mem_cons_self, if_true]
    rw [rdRo_cells r (o + 1) (fun j u hj => by rw [show o + 1 + j = o + (j + 1) by omega]; exact h1 (j + 1) u (by simpa using hj)) (fun v hv => h2 v (List.mem_cons_of_mem _ hv))]
    rfl
theorem choose_ltA {α : Type} [Inhabited α] {n : Nat} {p : Nat → α → Prop} (h : ∀ i, i < n → ∃ v, p i v) : ∃ f : Nat → α, ∀ i, i < n → p i (f i) := by
  induction n with
  | zero => exact ⟨fun _ => default, fun i hi => by omega⟩
  | succ n ih =>
    obtain ⟨f, hf⟩ := ih fun i hi => h i (by omega)
    obtain ⟨v, hv⟩ := h n (by omega)
    refine ⟨fun i => if i = n then v else f i, fun i hi => ?_⟩
    by_cases e : i = n
    · subst e; simpa using hv
    · simp only [if_neg e]; exact hf i (by omega)
/-- A slice that reads as data: its rows. -/
theorem slice_readA {α : Type} [Inhabited α] {enc : α → List Value} {T e : TypeId} {Q : α → Prop} {sz : Nat} (hR : ReadsA P enc e Q) (hT : P.underlying T = some (.slice e)) (hc : P.cellsOf e = sz) (hz : ∀ a, (enc a).length = sz) (h0 : 0 < sz) (hp : ∀ a, ∀ v ∈ enc a, (plain v && v.oneCell') = true)
    {H : Type} {en : TypeId × Value → H} {w : World} {base : Nat} {spare : Nat → Bool} {held : Bool} {fuel : Nat} {u : Value} {x : DataW H × List MemPlace}
    (h : DataW.trod en P w base spare held fuel T [u] = some x) (hs : ∀ a n c, u = .slice (some a) n c → a.spot = none) :
    ∃ (A : Option Addr) (c : Nat) (l : List α), u = .slice A l.length c ∧ l.length ≤ c ∧ l.length ≤ maxLen ∧ (∀ v ∈ l, Q v) ∧ plain (.slice A l.length c) = true ∧ (A = none ∧ l = [] ∨ ∃ b o, A = some ⟨b, o, none⟩ ∧ rdRo w b o (l.length * sz) = some (flat enc l)) := by
  rcases open_slice hT h with ⟨hcs, _⟩ | ⟨a, len, cap, m, _, D, Pl, hcs, hb, hl, hm, hmm, _, hx⟩
  · obtain rfl : u = .slice none 0 0 := by simpa using hcs
    exact ⟨none, 0, [], rfl, Nat.le_refl _, Nat.zero_le _, fun v hv => (by cases hv), rfl, .inl ⟨rfl, rfl⟩⟩
  · obtain rfl : u = .slice (some a) len cap := by simpa using hcs
    have hsp := hs a len cap rfl
    obtain ⟨b, o, sp⟩ := a
    simp only at hsp
    subst hsp
    have hlm : len ≤ m := by rw [hmm]; split <;> omega
    obtain ⟨f, hf⟩ := choose_ltA (α := α) (n := len) (p := fun i v => Q v ∧ ∀ j c, (enc v)[j]? = some c → w.cell? ⟨b, o + i * sz + j, none⟩ = some c) (fun i hi => by
      obtain ⟨cs', h1, h2⟩ := hx i (by omega)
      obtain ⟨v, rfl, hQ⟩ := hR _ _ _ _ _ _ _ _ _ h2
      rw [hc] at h1
      obtain ⟨hlen, hcell⟩ := cells_eachA h1
      refine ⟨v, hQ, fun j c hj => ?_⟩
      have := hcell j c hj
      rw [Addr.add_add, add_at' _ _ rfl] at this
      rw [show o + i * sz + j = o + (i * sz + j) by omega]
      exact this)
    refine ⟨some ⟨b, o, none⟩, cap, (List.range len).map f, by simp, by simpa using hl, by simp; omega, fun v hv => ?_, rfl, .inr ⟨b, o, rfl, ?_⟩⟩
    · obtain ⟨i, hi, rfl⟩ := List.mem_map.1 hv
      exact (hf i (List.mem_range.1 hi)).1
    · have hL := flat_len hz ((List.range len).map f)
      rw [← hL]
      refine rdRo_cells _ o (fun q c hq => ?_) (fun v hv => ?_)
      · have hq' := lt_of_get hq
        rw [hL] at hq'
        simp only [List.length_map, List.length_range] at hq'
        have hi : q / sz < len := (Nat.div_lt_iff_lt_mul h0).2 hq'
        have hr : q % sz < sz := Nat.mod_lt _ h0
        have e1 : q = q / sz * sz + q % sz := by rw [Nat.mul_comm]; exact (Nat.div_add_mod q sz).symm
        have e2 := flat_row hz ((List.range len).map f) (i := q / sz) (by simpa using hi) (q % sz) 1 (by omega)
        rw [← e1] at e2
        have e3 : (flat enc ((List.range len).map f))[q]? = (((flat enc ((List.range len).map f)).drop q).take 1)[0]? := by
          rw [List.getElem?_take, if_pos (by omega), List.getElem?_drop, Nat.add_zero]
        rw [e3, e2, List.getElem?_take, if_pos (by omega), List.getElem?_drop, Nat.add_zero] at hq
        simp only [List.getElem_map, List.getElem_range] at hq
        have := (hf (q / sz) hi).2 (q % sz) c hq
        rw [show o + q / sz * sz + q % sz = o + q by omega] at this
        exact this
      · unfold flat at hv
        obtain ⟨r, hr, h2⟩ := List.mem_flatten.1 hv
        obtain ⟨a, _, rfl⟩ := List.mem_map.1 hr
        exact hp a v h2
/-- What the call's memory says of such a slice. -/
theorem sl_of {α : Type} {enc : α → List Value} {sz : Nat} (hz : ∀ a, (enc a).length = sz) {w : World} {A : Option Addr} {l : List α} (h : A = none ∧ l = [] ∨ ∃ b o, A = some ⟨b, o, none⟩ ∧ rdRo w b o (l.length * sz) = some (flat enc l)) (H : Hp) : Sl w H A sz (l.map enc) ∧ ∀ L c, src w (Hx H L) sz (.slice A l.length c) = some (l.length, flat enc l) := by
  rcases h with ⟨rfl, rfl⟩ | ⟨b, o, rfl, h⟩
  · exact ⟨.inl rfl, fun L c => rfl⟩
  · refine ⟨.inr ⟨b, o, none, rfl, fun i r hr f k hf => ?_⟩, fun L c => ?_⟩
    · have hi : i < l.length := by have := (List.getElem?_eq_some_iff.1 hr).1; simpa using this
      have hle : i * sz + sz ≤ l.length * sz := by rw [← Nat.succ_mul]; exact Nat.mul_le_mul_right _ hi
      have := rdRo_part (l.length * sz) b o (i * sz + f) k _ h (by omega)
      rw [List.getElem?_map, List.getElem?_eq_getElem hi] at hr
      cases hr
      show rdRo w b (o + i * sz + f) k = _
      rw [show o + i * sz + f = o + (i * sz + f) by omega, this, flat_row hz l hi f k hf]
    · rw [src_sl]
      show srcO _ (rdRo w b o (l.length * sz)) = _
      rw [h]
      rfl
/-- A slice in a struct that is handed in points at memory. -/
theorem row_spot {w : World} {base : Nat} {T : TypeId} {cs : Array Value} {r : Reach} (h : Row.okWide P w r base T cs) {i : Nat} {a : Addr} {n c : Nat} (hi : cs[i]? = some (.slice (some a) n c)) : a.spot = none := by
  obtain ⟨ts, _, _, h3⟩ := h
  obtain ⟨u, _, h5⟩ := h3 i _ hi
  unfold Cell.okWide at h5
  split at h5 <;> first
    | (rename_i h6; cases h6; done)
    | skip
  all_goals first
    | (unfold Cell.ok at h5
       split at h5 <;> first
         | (rename_i h6; cases h6; done)
         | (exact h5.elim)
         | (rename_i h6; cases h6; exact h5.2.2.2.1)
         | (exact h5.2.2.2.1))
    | skip
end
end Go.Proofs.YtmacpgoclhgafaaDoorW.XRA

namespace Go.Proofs.YtmacpgoclhgafaaDoorW.FA
open Go.RowKit Go.ChangeShapes Go.WideShapes Go.ChangeAt Go.Deep Go.Proofs.YtmacpgoclhgafaaDoorW.XM Go.Proofs Go.Proofs.YtmacpgoclhgafaaDoorW.XWords Go.Proofs.YtmacpgoclhgafaaDoorW.XRA
set_option maxRecDepth 100000
set_option linter.unusedVariables false
instance : Inhabited Mem := ⟨⟨em, em, 0⟩⟩
instance : Inhabited Rk := ⟨⟨em, 0⟩⟩
theorem list_9 {α : Type} : ∀ (l : List α), l.length = 9 → ∃ x0 x1 x2 x3 x4 x5 x6 x7 x8, l = [x0, x1, x2, x3, x4, x5, x6, x7, x8]
  | [x0, x1, x2, x3, x4, x5, x6, x7, x8], _ => ⟨x0, x1, x2, x3, x4, x5, x6, x7, x8, rfl⟩
theorem en_reads : ReadsA Tryd.prog En.enc 27 (fun m => m.room.size ≤ maxLen ∧ m.user.size ≤ maxLen ∧ m.nick.size ≤ maxLen ∧ m.text.size ≤ maxLen ∧ m.id.size ≤ maxLen ∧ m.ref.size ≤ maxLen) := by
  intro H enc w base spare held fuel cs x hx
  obtain ⟨hl, n, hf⟩ := struct_readA Tryd.underlying27 hx
  have hlen : cs.length = 9 := hl.trans (by kernel_rfl)
  obtain ⟨u0, u1, u2, u3, u4, u5, u6, u7, u8, rfl⟩ := list_9 cs hlen
  obtain ⟨y0, h0⟩ := hf 0 9 0 1 [u0] rfl (by kernel_rfl) rfl
  obtain ⟨a0, e0, q0⟩ := ra_str Tryd.underlying9 _ _ _ _ _ _ _ _ _ h0
  obtain rfl : u0 = .string a0 := List.singleton_inj.1 e0
  obtain ⟨y1, h1⟩ := hf 1 3 1 1 [u1] rfl (by kernel_rfl) rfl
  obtain ⟨a1, e1, q1⟩ := ra_int Tryd.underlying3 _ _ _ _ _ _ _ _ _ h1
  obtain rfl : u1 = .int .i64 a1 := List.singleton_inj.1 e1
  obtain ⟨y2, h2⟩ := hf 2 3 2 1 [u2] rfl (by kernel_rfl) rfl
  obtain ⟨a2, e2, q2⟩ := ra_int Tryd.underlying3 _ _ _ _ _ _ _ _ _ h2
  obtain rfl : u2 = .int .i64 a2 := List.singleton_inj.1 e2
  obtain ⟨y3, h3⟩ := hf 3 9 3 1 [u3] rfl (by kernel_rfl) rfl
  obtain ⟨a3, e3, q3⟩ := ra_str Tryd.underlying9 _ _ _ _ _ _ _ _ _ h3
  obtain rfl : u3 = .string a3 := List.singleton_inj.1 e3
  obtain ⟨y4, h4⟩ := hf 4 9 4 1 [u4] rfl (by kernel_rfl) rfl
  obtain ⟨a4, e4, q4⟩ := ra_str Tryd.underlying9 _ _ _ _ _ _ _ _ _ h4
  obtain rfl : u4 = .string a4 := List.singleton_inj.1 e4
  obtain ⟨y5, h5⟩ := hf 5 9 5 1 [u5] rfl (by kernel_rfl) rfl
  obtain ⟨a5, e5, q5⟩ := ra_str Tryd.underlying9 _ _ _ _ _ _ _ _ _ h5
  obtain rfl : u5 = .string a5 := List.singleton_inj.1 e5
  obtain ⟨y6, h6⟩ := hf 6 9 6 1 [u6] rfl (by kernel_rfl) rfl
  obtain ⟨a6, e6, q6⟩ := ra_str Tryd.underlying9 _ _ _ _ _ _ _ _ _ h6
  obtain rfl : u6 = .string a6 := List.singleton_inj.1 e6
  obtain ⟨y7, h7⟩ := hf 7 9 7 1 [u7] rfl (by kernel_rfl) rfl
  obtain ⟨a7, e7, q7⟩ := ra_str Tryd.underlying9 _ _ _ _ _ _ _ _ _ h7
  obtain rfl : u7 = .string a7 := List.singleton_inj.1 e7
  obtain ⟨y8, h8⟩ := hf 8 3 8 1 [u8] rfl (by kernel_rfl) rfl
  obtain ⟨a8, e8, q8⟩ := ra_int Tryd.underlying3 _ _ _ _ _ _ _ _ _ h8
  obtain rfl : u8 = .int .i64 a8 := List.singleton_inj.1 e8
  exact ⟨⟨a0, a1, a2, a3, a4, a5, a6, a7, a8⟩, rfl, q0, q3, q4, q5, q6, q7⟩
theorem struct_row {P : Program} {w : World} {base : Nat} {t : TypeId} {v : Value} {fs : Array Field} (ht : P.underlying t = some (.struct fs)) (h : Value.okWide P w .any base t v) : ∃ cs : List Value, v = .agg cs.toArray ∧ ∀ (i : Nat) (a : Addr) (n c : Nat), cs[i]? = some (.slice (some a) n c) → a.spot = none := by
  simp only [Value.okWide, ht] at h
  obtain ⟨cs, h1, h2, h3⟩ := h
  exact ⟨cs.toList, by simpa using h1, fun i a n c hi => row_spot h3 (by simpa using hi)⟩
end Go.Proofs.YtmacpgoclhgafaaDoorW.FA

namespace Go.Proofs.YtmacpgoclhgafaaDoorW.FA
open Go.RowKit Go.Proofs.YtmacpgoclhgafaaDoorW.XM Go.Proofs Go.Proofs.YtmacpgoclhgafaaDoorW.XWords
set_option maxRecDepth 100000
set_option linter.unusedSimpArgs false
variable (w0 : World) (H : Hp)
/-- Where a code lies. -/
structure Cd where
  A : Option Addr
  n : Nat
  c : Nat
def encB (b : UInt8) : List Value := [.int .u8 (b.toNat : Int)]
structure CdOk (w0 : World) (D : Cd) : Prop where
  ok : ∃ bs : List UInt8, bs.length = D.n ∧ ∀ H, Sl w0 H D.A 1 (bs.map encB)
  le : D.n ≤ 2000
  pl : plain (.slice D.A D.n D.c) = true
/-- A reader: its code, and how far it is. -/
def dr (D : Cd) (p : Nat) : Option Ob := some (.row 136 [.slice D.A D.n D.c, .int .i64 (p : Int)])
theorem byte_le (b : UInt8) : (b.toNat : Int) ≤ 255 := by have := b.toNat_lt; omega
theorem CdOk.at {D : Cd} (h : CdOk w0 D) {i : Nat} (hi : i < D.n) : ∃ b o sp, D.A = some ⟨b, o, sp⟩ ∧ ∃ x : Nat, x ≤ 255 ∧ ∀ L, rd w0 (Hx H L) ⟨b, o + i * 1, sp⟩ 1 = some [.int .u8 (x : Int)] := by
  obtain ⟨bs, hl, hs⟩ := h.ok
  obtain ⟨b, o, sp, e, _, hc⟩ := mcell (hs H) (i := i) (by omega)
  exact ⟨b, o, sp, e, bs[i].toNat, by have := byte_le bs[i]; omega, fun L => hc L rfl⟩
theorem xor_in (a b : Nat) (h1 : a < 4611686018427387904) (h2 : b < 4611686018427387904) : ∃ c : Nat, c < 4611686018427387904 ∧ IntKind.i64.wrap ((BitVec.ofInt 64 (a : Int) ^^^ BitVec.ofInt 64 (b : Int)).toNat : Int) = (c : Int) := by
  have hx : a ^^^ b < 2 ^ 62 := Nat.xor_lt_two_pow (by omega) (by omega)
  have e1 : (BitVec.ofInt 64 (a : Int)).toNat = a := by
    rw [BitVec.ofInt_natCast, BitVec.toNat_ofNat]; exact Nat.mod_eq_of_lt (by omega)
  have e2 : (BitVec.ofInt 64 (b : Int)).toNat = b := by
    rw [BitVec.ofInt_natCast, BitVec.toNat_ofNat]; exact Nat.mod_eq_of_lt (by omega)
  refine ⟨a ^^^ b, by omega, ?_⟩
  rw [BitVec.toNat_xor, e1, e2]
  exact wrap_i64 (by omega) (by omega)
theorem tmod_nat (a n : Nat) : (a : Int).tmod (n : Int) = ((a % n : Nat) : Int) := by
  rw [Int.tmod_eq_emod_of_nonneg (by omega)]; simp
theorem tdiv_nat (a n : Nat) : (a : Int).tdiv (n : Int) = ((a / n : Nat) : Int) := by
  rw [Int.tdiv_eq_ediv_of_nonneg (by omega)]; simp
theorem pick_ok (D : Cd) (hD : CdOk w0 D) (B : Hp) (l : List (Option Ob)) (q p : Nat) (n : Int) (hq : l[q]? = some (dr D p)) (hp : p ≤ 1000000) :
    AFn Tryd.prog w0 76 #[.pointer (some ⟨nid B q, 0, some 2⟩), .int .i64 n] (Hx B l) fun v H2 => ∃ k : Nat, v = .int .i64 (k : Int) ∧ (1 ≤ n → (k : Int) < n) ∧ (n < 1 → k = 0) ∧ H2 = Hx B (l.set q (dr D (p + 1))) := by
  refine AFn_of Tryd.func76 rfl (by kernel_rfl) ?_
  have r := Tryd.results76
  have hlq : q < l.length := lt_of_get hq
  have gs : ∀ X : Option Ob, (l.set q X)[q]? = some X := fun X => by rw [List.getElem?_set_self hlq]
  have w1 : IntKind.i64.wrap ((p : Int) + 1) = ((p + 1 : Nat) : Int) := by rw [wrap_i64 (by omega) (by omega)]; omega
  have w2 : IntKind.i64.wrap (((p + 1 : Nat) : Int) - 1) = (p : Int) := by rw [wrap_i64 (by omega) (by omega)]; omega
  have hle := hD.le
  unfold dr at hq ⊢
  simp only [go_sem, cond, Nat.reduceAdd, Nat.reduceLeDiff, Nat.reduceEqDiff, Nat.reduceBEq, decide_true, decide_false, Int.toNat_natCast, r, hq, gs, w1]
  by_cases hn : n < 1
  · have d1 : (n < 1) = True := eq_true hn
    simp only [go_sem, cond, Nat.reduceAdd, Nat.reduceLeDiff, Nat.reduceEqDiff, Nat.reduceBEq, decide_true, decide_false, Int.toNat_natCast, r, hq, gs, w1, d1]
    exact ⟨0, rfl, fun h => by omega, fun _ => rfl⟩
  have d1 : (n < 1) = False := eq_false hn
  by_cases hz : D.n = 0
  · have d2 : (((D.n : Nat) : Int) == 0) = true := by rw [hz]; rfl
    simp only [go_sem, cond, Nat.reduceAdd, Nat.reduceLeDiff, Nat.reduceEqDiff, Nat.reduceBEq, decide_true, decide_false, Int.toNat_natCast, r, hq, gs, w1, d1, d2]
    exact ⟨0, rfl, fun h => by omega, fun _ => rfl⟩
  have d2 : (((D.n : Nat) : Int) == 0) = false := by rw [beq_eq_false_iff_ne]; omega
  have hrem : ∀ (t : TypeId) (c : Bool) (x : Int), xBin Tryd.prog .rem t c (.int .i64 x) (.int .i64 n) = some (.int .i64 (x.tmod n)) := fun t c x => bin_rem t c _ x n (by omega)
  obtain ⟨N, rfl⟩ : ∃ N : Nat, n = (N : Int) := ⟨n.toNat, by omega⟩
  have hN : 1 ≤ N := by omega
  by_cases hlt : p < D.n
  · have d3 : ((p : Int) < (D.n : Int)) = True := eq_true (by omega)
    have d4 : ((0 : Int) ≤ (p : Int)) = True := eq_true (by omega)
    obtain ⟨b, o, sp, hA, x, hx, hc⟩ := hD.at w0 B hlt
    have w3 : IntKind.i64.wrap (x : Int) = (x : Int) := wrap_i64 (by omega) (by omega)
    simp only [go_sem, cond, Nat.reduceAdd, Nat.reduceLeDiff, Nat.reduceEqDiff, Nat.reduceBEq, decide_true, decide_false, Int.toNat_natCast, r, hq, gs, w1, w2, d1, d2, d3, d4, hA, hc, w3, hrem, tmod_nat]
    exact ⟨x % N, rfl, fun _ => by have := Nat.mod_lt x hN; omega, fun h => h.elim⟩
  · have d3 : ((p : Int) < (D.n : Int)) = False := eq_false (by omega)
    have hremL : ∀ (t : TypeId) (c : Bool) (x : Int), xBin Tryd.prog .rem t c (.int .i64 x) (.int .i64 (D.n : Int)) = some (.int .i64 (x.tmod (D.n : Int))) := fun t c x => bin_rem t c _ x _ (by omega)
    obtain ⟨t3, e3⟩ : ∃ t, t = p / D.n := ⟨_, rfl⟩
    have m3 : t3 ≤ p := e3 ▸ Nat.div_le_self _ _
    have hquoL : ∀ (t : TypeId) (c : Bool), xBin Tryd.prog .quo t c (.int .i64 (p : Int)) (.int .i64 (D.n : Int)) = some (.int .i64 (t3 : Int)) := fun t c => by rw [bin_quo t c _ _ _ (by omega), tdiv_nat, ← e3, wrap_i64 (by omega) (by omega)]
    have m1 : p % D.n < D.n := Nat.mod_lt _ (by omega)
    have m2 : (p * 7 + 3) % D.n < D.n := Nat.mod_lt _ (by omega)
    obtain ⟨b, o, sp, hA, x, hx, hc⟩ := hD.at w0 B m1
    obtain ⟨b2, o2, sp2, hA2, y, hy, hc2⟩ := hD.at w0 B m2
    rw [hA] at hA2
    cases hA2
    have d4 : (((p % D.n : Nat) : Int) < (D.n : Int)) = True := eq_true (by omega)
    have d5 : ((0 : Int) ≤ ((p % D.n : Nat) : Int)) = True := eq_true (by omega)
    have d6 : ((((p * 7 + 3) % D.n : Nat) : Int) < (D.n : Int)) = True := eq_true (by omega)
    have d7 : ((0 : Int) ≤ (((p * 7 + 3) % D.n : Nat) : Int)) = True := eq_true (by omega)
    have w3 : IntKind.i64.wrap (x : Int) = (x : Int) := wrap_i64 (by omega) (by omega)
    have w4 : IntKind.i64.wrap (y : Int) = (y : Int) := wrap_i64 (by omega) (by omega)
    have w5 : IntKind.i64.wrap ((x : Int) * 131) = ((x * 131 : Nat) : Int) := by rw [wrap_i64 (by omega) (by omega)]; omega
    have w6 : IntKind.i64.wrap ((y : Int) * 1117) = ((y * 1117 : Nat) : Int) := by rw [wrap_i64 (by omega) (by omega)]; omega
    have w7 : IntKind.i64.wrap ((p : Int) * 7) = ((p * 7 : Nat) : Int) := by rw [wrap_i64 (by omega) (by omega)]; omega
    have w8 : IntKind.i64.wrap (((p * 7 : Nat) : Int) + 3) = ((p * 7 + 3 : Nat) : Int) := by rw [wrap_i64 (by omega) (by omega)]; omega
    have w9 : IntKind.i64.wrap (((x * 131 : Nat) : Int) + ((y * 1117 : Nat) : Int)) = ((x * 131 + y * 1117 : Nat) : Int) := by rw [wrap_i64 (by omega) (by omega)]; omega
    have w10 : IntKind.i64.wrap ((p : Int) * 29) = ((p * 29 : Nat) : Int) := by rw [wrap_i64 (by omega) (by omega)]; omega
    have w11 : IntKind.i64.wrap (((x * 131 + y * 1117 : Nat) : Int) + ((p * 29 : Nat) : Int)) = ((x * 131 + y * 1117 + p * 29 : Nat) : Int) := by rw [wrap_i64 (by omega) (by omega)]; omega
    have w13 : IntKind.i64.wrap ((t3 : Int) * 53) = ((t3 * 53 : Nat) : Int) := by rw [wrap_i64 (by omega) (by omega)]; omega
    have w14 : IntKind.i64.wrap (((x * 131 + y * 1117 + p * 29 : Nat) : Int) + ((t3 * 53 : Nat) : Int)) = ((x * 131 + y * 1117 + p * 29 + t3 * 53 : Nat) : Int) := by rw [wrap_i64 (by omega) (by omega)]; omega
    have hzl : x * 131 + y * 1117 + p * 29 + t3 * 53 < 4611686018427387904 := by omega
    simp only [go_sem, cond, Nat.reduceAdd, Nat.reduceLeDiff, Nat.reduceEqDiff, Nat.reduceBEq, decide_true, decide_false, Int.toNat_natCast, r, hq, gs, w1, w2, d1, d2, d3]
    (refine xw_open (id := 7) [0, 1, 3, 7, 0, 0, 32, 96, 224, 480, 1008, 2047, 4095, 8191, 16383, 0, 32768, 98304, 229376, 0, 524288, 1572864, 0, 4194304, 12582912, 29360128, 62914560, 133693440, 268402688, 536838144, 1073709056, 2147450880, 4294967295, 0, 8589934592, 34359738367, 0, 0, 137438953472, 412316860416, 962072674304, 2061584302080, 4329327034368, 8727373545472, 17592186044415, 35184372088831] [.q 0, .q 1, .q 2, .q 4, .q 5, .q 6, .q 7, .q 15, .q 16, .q 17, .q 19, .q 20, .q 21, .q 22, .q 23, .q 24, .q 33, .q 34, .q 36, .q 37, .q 38, .q 39, .q 3, .q 8, .q 9, .q 10, .q 11, .q 12, .q 13, .q 14, .q 18, .q 25, .q 26, .q 27, .q 28, .q 29, .q 30, .q 31, .q 32, .q 35, .q 40, .q 41, .q 42, .q 43, .q 44, .q 45] rfl (by kernel_rfl) ?_; simp only [go_sem, cond, Nat.reduceAdd, Nat.reduceLeDiff, Nat.reduceEqDiff, Nat.reduceBEq, decide_true, decide_false, Int.toNat_natCast, r, hq, gs, w1, w2, d1, d2, d3, d4, d5, d6, d7, hA, hc, hc2, hremL, hquoL, tmod_nat, w3, w4, w5, w6, w7, w8, w9, w10, w11, w13, w14])
    generalize x * 131 + y * 1117 + p * 29 + t3 * 53 = z at *
    have hq64 : ∀ (t : TypeId) (c : Bool), xBin Tryd.prog .quo t c (.int .i64 (z : Int)) (.int .i64 64) = some (.int .i64 ((z / 64 : Nat) : Int)) := fun t c => by
      rw [bin_quo t c _ _ _ (by omega), show (64 : Int) = ((64 : Nat) : Int) from rfl, tdiv_nat]
      rw [wrap_i64 (by omega) (by omega)]
    obtain ⟨u, hu, he⟩ := xor_in z (z / 64) hzl (by omega)
    have he2 : IntKind.i64.wrap ((BitVec.ofInt IntKind.i64.bits (z : Int) ^^^ BitVec.ofInt IntKind.i64.bits ((z / 64 : Nat) : Int)).toNat : Int) = (u : Int) := he
    simp only [go_sem, cond, Nat.reduceAdd, Nat.reduceLeDiff, Nat.reduceEqDiff, Nat.reduceBEq, decide_true, decide_false, Int.toNat_natCast, r, hq, gs, hrem, hq64, he, he2, tmod_nat]
    refine ⟨u % N, ?_, fun _ => by have := Nat.mod_lt u hN; omega, fun h => h.elim⟩
    have he3 := tmod_nat u N
    rw [← he] at he3
    rw [← he3]
    rfl
end Go.Proofs.YtmacpgoclhgafaaDoorW.FA

namespace Go.Proofs.YtmacpgoclhgafaaDoorW.FA
open Go.RowKit Go.Proofs.YtmacpgoclhgafaaDoorW.XM Go.Proofs Go.Proofs.YtmacpgoclhgafaaDoorW.XWords
set_option maxRecDepth 100000
set_option linter.unusedSimpArgs false
variable (w0 : World) (H : Hp)
/-- A short text. -/
def isS : Value → Bool
  | .string s => decide (s.size ≤ 100)
  | _ => false
/-- A small number. -/
def isI : Value → Bool
  | .int .i64 k => decide (-100000 ≤ k) && decide (k ≤ 100000)
  | _ => false
theorem isI_spec {v : Value} (h : isI v = true) : ∃ k : Int, v = .int .i64 k ∧ -100000 ≤ k ∧ k ≤ 100000 := by
  unfold isI at h
  split at h
  · simp only [Bool.and_eq_true, decide_eq_true_eq] at h
    exact ⟨_, rfl, h⟩
  · cases h
/-- The names that are drawn. -/
def nmL : List (List UInt8) := [[], [88], [97, 110, 110], [98, 111, 98], [99, 121, 100], [100, 97, 110], [122, 101, 100]]
def nmB (s : ByteArray) : Bool := nmL.contains s.data.toList
theorem one_ok (D : Cd) (hD : CdOk w0 D) (B : Hp) (l : List (Option Ob)) (q p j n tag : Nat) (cs : List Value) (hq : l[q]? = some (dr D p)) (hp : p ≤ 1000000) (hj : l[j]? = some (some (.row 3 cs))) (hn : cs.length = n) (ht : tag = n) (h1 : 1 ≤ n) (h2 : n ≤ 100) (hs : cs.all isI = true) :
    AFn Tryd.prog w0 97 #[.pointer (some ⟨nid B q, 0, some 2⟩), .slice (some ⟨nid B j, 0, some tag⟩) n n] (Hx B l) fun v H2 => ∃ s : Int, -100000 ≤ s ∧ s ≤ 100000 ∧ .int .i64 s ∈ cs ∧ v = .int .i64 s ∧ H2 = Hx B (l.set q (dr D (p + 1))) := by
  subst ht
  have hlq : q < l.length := lt_of_get hq
  have hjq : q ≠ j := by
    intro e
    subst e
    rw [hq] at hj
    simp [dr] at hj
  refine AFn_of Tryd.func97 rfl (by kernel_rfl) ?_
  have r := Tryd.results97
  simp only [go_sem, cond, Nat.reduceAdd, Nat.reduceLeDiff, Nat.reduceEqDiff, Nat.reduceBEq, decide_true, decide_false, Int.toNat_natCast, r]
  refine call (pick_ok w0 D hD B l q p (tag : Int) hq hp) ?_
  rintro v H2 ⟨k, rfl, k1, _, rfl⟩
  have hk : k < tag := by have := k1 (by omega); omega
  have d1 : ((0 : Int) ≤ (k : Int)) = True := eq_true (by omega)
  have d2 : ((k : Int) < (tag : Int)) = True := eq_true (by omega)
  have hmem := List.getElem_mem (show k < cs.length by omega)
  obtain ⟨s, e, hs2, hs3⟩ := isI_spec (List.all_eq_true.1 hs _ hmem)
  have c0 : rdO ((l.set q (dr D (p + 1)))[j]?) (k * 1) tag 1 = some [.int .i64 s] := by
    rw [List.getElem?_set_ne hjq, hj, rdO_row, if_pos ⟨hn, by omega⟩, Nat.mul_one, List.drop_eq_getElem_cons (show k < cs.length by omega), e]
    rfl
  simp only [go_sem, cond, Nat.reduceAdd, Nat.reduceLeDiff, Nat.reduceEqDiff, Nat.reduceBEq, decide_true, decide_false, Int.toNat_natCast, r, d1, d2, c0]
  exact ⟨s, hs2, hs3, e ▸ hmem, rfl⟩
/-- What a draw leaves: the reader further on, all else as it was. -/
theorem AFn.dr {P : Program} {w0 : World} {f : FuncId} {args : Array Value} {B : Hp} {l : List (Option Ob)} {q : Nat} {D : Cd} {R : Value → Nat → Prop} (hD : CdOk w0 D) (hlq : q < l.length)
    (h : AFn P w0 f args (Hx B l) fun v H2 => ∃ p' g, H2 = Hx B (l.set q (dr D p') ++ g) ∧ R v p' ∧ ∀ ρ, ren3 ρ v = some v) : AFn P w0 f args (Hx B l) fun v H2 => ∃ p', H2 = Hx B (l.set q (FA.dr D p')) ∧ R v p' := by
  refine AFn.pack (h.mono ?_)
  rintro v H2 ⟨p', g, rfl, hR, hv⟩
  refine ⟨Hx B (l.set q (FA.dr D p')), g, [], v, by rw [Hx_Hx], by simp [Hx], ?_, by simp, List.nodup_nil, hv _, ⟨p', by simp [pick, Hx], hR⟩⟩
  intro i o ho
  unfold Hx at ho ⊢
  rw [List.getElem?_append] at ho ⊢
  split at ho
  · rename_i hlt; rw [if_pos hlt]; exact .inl ho
  · rename_i hlt
    rw [if_neg hlt]
    rw [List.getElem?_set] at ho
    split at ho
    · cases ho
      refine .inr ⟨_, _, rfl, fun v hv => ?_⟩
      simp only [List.mem_cons, List.not_mem_nil, or_false] at hv
      rcases hv with rfl | rfl
      · have := hD.pl
        cases hA : D.A with
        | none => rfl
        | some a =>
          rw [hA] at this
          obtain ⟨b, o, sp⟩ := a
          cases sp with
          | none => rfl
          | some t => simp [plain] at this
      · rfl
    · exact .inl ho
end Go.Proofs.YtmacpgoclhgafaaDoorW.FA

namespace Go.Proofs.YtmacpgoclhgafaaDoorW.FA
open Go.RowKit Go.Proofs.YtmacpgoclhgafaaDoorW.XM Go.Proofs Go.Proofs.YtmacpgoclhgafaaDoorW.XWords
set_option maxRecDepth 100000
set_option linter.unusedSimpArgs false
variable (w0 : World) (H : Hp)
structure Sy where
  kind : Int
  room : ByteArray
  nick : ByteArray
  name : ByteArray
  id : ByteArray
  ref : ByteArray
  text : ByteArray
  num : Int
  frm : Int
  back : Int
def Sy.enc (s : Sy) : List Value := [.int .i64 s.kind, .string s.room, .string s.nick, .string s.name, .string s.id, .string s.ref, .string s.text, .int .i64 s.num, .int .i64 s.frm, .int .i64 s.back]
def cleanS (s : Sy) : Sy :=
  if (s.kind == 1) = true then ⟨s.kind, em, em, s.name, em, em, s.text, 0, 0, 0⟩
  else if (s.kind == 3) = true then ⟨s.kind, em, em, em, em, em, em, s.num, 0, 0⟩
  else if (s.kind == 5) = true then ⟨s.kind, em, em, em, em, s.ref, em, s.num, 0, 0⟩
  else if (s.kind == 6) = true then ⟨s.kind, s.room, s.nick, em, em, em, em, 0, 0, 0⟩
  else if (s.kind == 7) = true then ⟨s.kind, s.room, em, em, em, em, em, 0, 0, 0⟩
  else if (s.kind == 8) = true then ⟨s.kind, s.room, em, em, s.id, s.ref, s.text, 0, 0, 0⟩
  else if (s.kind == 9) = true then ⟨s.kind, s.room, em, em, s.id, em, s.text, 0, 0, 0⟩
  else if (s.kind == 10) = true then ⟨s.kind, s.room, s.nick, em, s.id, em, em, s.num, 0, 0⟩
  else if (s.kind == 11) = true then ⟨s.kind, s.room, em, s.name, s.id, em, em, s.num, 0, 0⟩
  else if (s.kind == 12) = true then ⟨s.kind, s.room, em, s.name, s.id, em, em, s.num, s.frm, s.back⟩
  else ⟨s.kind, em, em, em, em, em, em, 0, 0, 0⟩
theorem l5Clean_ok (s : Sy) : AFn Tryd.prog w0 78 #[.agg s.enc.toArray] H fun v H2 => v = .agg (cleanS s).enc.toArray ∧ H2 = H := by
  refine AFn.scal rfl Tryd.func78 rfl (by kernel_rfl) ?_
  have r := Tryd.results78
  simp only [go_sem, cond, Nat.reduceAdd, Nat.reduceLeDiff, Nat.reduceEqDiff, Nat.reduceBEq, decide_true, decide_false, Int.toNat_natCast, r]
  simp only [go_sem, cond, Nat.reduceAdd, Nat.reduceLeDiff, Nat.reduceEqDiff, Nat.reduceBEq, decide_true, decide_false, Int.toNat_natCast, Sy.enc, r]
  repeat' (refine Br_intro ?_ ?_ <;> intro h <;> simp only [go_sem, cond, Nat.reduceAdd, Nat.reduceLeDiff, Nat.reduceEqDiff, Nat.reduceBEq, decide_true, decide_false, Int.toNat_natCast, h, r])
  all_goals first
    | exact ⟨by simp only [cleanS, *]; rfl, _, rfl⟩
    | (exfalso
       simp only [beq_iff_eq, beq_eq_false_iff_ne] at *
       omega)
end Go.Proofs.YtmacpgoclhgafaaDoorW.FA

namespace Go.Proofs.YtmacpgoclhgafaaDoorW.FA
open Go.RowKit Go.Proofs.YtmacpgoclhgafaaDoorW.XM Go.Proofs Go.Proofs.YtmacpgoclhgafaaDoorW.XWords
set_option maxRecDepth 100000
set_option linter.unusedSimpArgs false
set_option linter.unusedVariables false
variable (w0 : World) (H : Hp)
structure SyOk (s : Sy) : Prop where
  room : s.room.size ≤ 500
  nick : s.nick.size ≤ 500
  name : s.name.size ≤ 500
  id : s.id.size ≤ 500
  ref : s.ref.size ≤ 500
  text : s.text.size ≤ 500
  kind : -100000 ≤ s.kind ∧ s.kind ≤ 100000
  num : -100000 ≤ s.num ∧ s.num ≤ 100000
  frm : -100000 ≤ s.frm ∧ s.frm ≤ 100000
  back : -100000 ≤ s.back ∧ s.back ≤ 100000
theorem asInt (k : Nat) : ∃ z : Int, z = (k : Int) ∧ 0 ≤ z ∧ z.toNat = k := ⟨_, rfl, by omega, by omega⟩
end Go.Proofs.YtmacpgoclhgafaaDoorW.FA

namespace Go.Proofs.YtmacpgoclhgafaaDoorW.FA
open Go.RowKit Go.Proofs.YtmacpgoclhgafaaDoorW.XM Go.Proofs Go.Proofs.YtmacpgoclhgafaaDoorW.XWords
set_option maxRecDepth 100000
set_option linter.unusedSimpArgs false
set_option linter.unusedVariables false
variable (w0 : World) (H : Hp)
def byRank (k : Int) : Int := if 3 ≤ k then 3 else 2
/-- The nick of a member, where there is one. -/
def nickU (R : Rm) (u : ByteArray) : ByteArray := ((R.ms.find? (isU u)).map Mem.nick).getD em
/-- An entry of a log that was said so. -/
def saidP (room user id : ByteArray) (e : En) : Bool := (e.room.toList == room.toList) && (e.kind == 3) && (e.user.toList == user.toList) && (e.id.toList == id.toList) && (e.ref.toList == em.toList)
end Go.Proofs.YtmacpgoclhgafaaDoorW.FA

namespace Go.Proofs.YtmacpgoclhgafaaDoorW.FA
open Go.RowKit Go.Proofs.YtmacpgoclhgafaaDoorW.XM Go.Proofs Go.Proofs.YtmacpgoclhgafaaDoorW.XWords
set_option maxRecDepth 100000
set_option linter.unusedSimpArgs false
set_option linter.unusedVariables false
variable (w0 : World) (H : Hp)
def joinR (R : Rm) (u n : ByteArray) : List En × Int :=
  if (rankB R.ks u == 0) = true then ([], 6)
  else if 0 ≤ idxP (isU u) R.ms 0 then ([], 3)
  else if 0 ≤ idxP (isN n) R.ms 0 then ([], 4)
  else if 5 ≤ (R.ms.length : Int) then ([], 5)
  else if (R.next == 0) = true then ([⟨R.name, 0, 6, u, em, em, em, em, 4⟩, ⟨R.name, IntKind.i64.wrap (R.next + ((1 : Nat) : Int)), 1, u, n, em, em, em, byRank 4⟩], 0)
  else ([⟨R.name, IntKind.i64.wrap (R.next + ((0 : Nat) : Int)), 1, u, n, em, em, em, byRank (rankB R.ks u)⟩], 0)
end Go.Proofs.YtmacpgoclhgafaaDoorW.FA

namespace Go.Proofs.YtmacpgoclhgafaaDoorW.FA
open Go.RowKit Go.Proofs.YtmacpgoclhgafaaDoorW.XM Go.Proofs Go.Proofs.YtmacpgoclhgafaaDoorW.XWords
set_option maxRecDepth 100000
set_option linter.unusedSimpArgs false
set_option linter.unusedVariables false
variable (w0 : World) (H : Hp)
def roleE (R : Rm) (m : Mem) (s : Sy) : En := ⟨R.name, R.next, if (s.num == 0) = true then 2 else 5, m.user, nickU R m.user, em, em, em, if (s.num == 0) = true then 1 else s.num⟩
def roleR (R : Rm) (u : ByteArray) (s : Sy) : List En × Int :=
  match R.ms.find? (isU u) with
  | none => ([], 7)
  | some a =>
    if (a.role == 3) = false then ([], 7)
    else match R.ms.find? (isN s.nick) with
    | none => ([], 8)
    | some m =>
      if (decide (rankB R.ks u < rankB R.ks m.user) || (decide (3 ≤ rankB R.ks m.user) && !(s.num == 3))) = true then ([], 7)
      else if (m.role == s.num) = true then ([], 0)
      else ([roleE R m s], 0)
end Go.Proofs.YtmacpgoclhgafaaDoorW.FA

namespace Go.Proofs.YtmacpgoclhgafaaDoorW.FA
open Go.RowKit Go.Proofs.YtmacpgoclhgafaaDoorW.XM Go.Proofs Go.Proofs.YtmacpgoclhgafaaDoorW.XWords
set_option maxRecDepth 100000
set_option linter.unusedSimpArgs false
set_option linter.unusedVariables false
variable (w0 : World) (H : Hp)
def ent6 (R : Rm) (s : Sy) (n : Nat) : En := ⟨R.name, IntKind.i64.wrap (R.next + (n : Int)), 6, s.name, em, em, em, em, s.num⟩
def setL (R : Rm) (s : Sy) : List En :=
  match R.ms.find? (isU s.name) with
  | none => [ent6 R s 0]
  | some m =>
    if (s.num == 0) = true then [⟨R.name, R.next, 2, s.name, nickU R s.name, em, em, em, 2⟩, ent6 R s 1]
    else if (decide (3 ≤ s.num) && !(m.role == 3)) = true then [ent6 R s 0, ⟨R.name, IntKind.i64.wrap (R.next + ((1 : Nat) : Int)), 5, s.name, nickU R s.name, em, em, em, 3⟩]
    else [ent6 R s 0]
def setR (R : Rm) (u : ByteArray) (s : Sy) : List En × Int :=
  if (decide (rankB R.ks u < 3) || ((rankB R.ks u == 3) && (decide (3 ≤ rankB R.ks s.name) || decide (3 ≤ s.num)))) = true then ([], 7)
  else if (rankB R.ks s.name == s.num) = true then ([], 0)
  else if ((rankB R.ks s.name == 4) && (((ownB R.ks : Nat) : Int) == 1)) = true then ([], 9)
  else if ((rankB R.ks s.name == 1) && decide (6 ≤ (R.ks.length : Int))) = true then ([], 5)
  else (setL R s, 0)
end Go.Proofs.YtmacpgoclhgafaaDoorW.FA

namespace Go.Proofs.YtmacpgoclhgafaaDoorW.FA
open Go.RowKit Go.Proofs.YtmacpgoclhgafaaDoorW.XM Go.Proofs Go.Proofs.YtmacpgoclhgafaaDoorW.XWords
set_option maxRecDepth 100000
set_option linter.unusedSimpArgs false
set_option linter.unusedVariables false
variable (w0 : World) (H : Hp)
def leaveE (R : Rm) (u : ByteArray) : En := ⟨R.name, R.next, 2, u, nickU R u, em, em, em, 0⟩
def talkE (R : Rm) (u : ByteArray) (s : Sy) : En := ⟨R.name, R.next, 3, u, nickU R u, s.text, s.id, s.ref, 0⟩
def subjE (R : Rm) (u : ByteArray) (s : Sy) : En := ⟨R.name, R.next, 4, u, nickU R u, s.text, s.id, em, 0⟩
def insR (R : Rm) (log : List En) (u : ByteArray) (s : Sy) : List En × Int :=
  if (s.kind == 7) = true then ([leaveE R u], 0)
  else if (s.kind == 8) = true then
    (match R.ms.find? (isU u) with
    | none => ([], 7)
    | some m =>
      if m.role < 2 then ([], 7)
      else if (!(s.ref.toList == em.toList) && !(log.any (saidP R.name u s.ref))) = true then ([], 10)
      else ([talkE R u s], 0))
  else if (s.kind == 9) = true then
    (match R.ms.find? (isU u) with
    | none => ([], 7)
    | some m => if (m.role == 3) = false then ([], 7) else ([subjE R u s], 0))
  else if (s.kind == 10) = true then roleR R u s
  else setR R u s
end Go.Proofs.YtmacpgoclhgafaaDoorW.FA

namespace Go.Proofs.YtmacpgoclhgafaaDoorW.FA
open Go.RowKit Go.Proofs.YtmacpgoclhgafaaDoorW.XM Go.Proofs Go.Proofs.YtmacpgoclhgafaaDoorW.XWords
set_option maxRecDepth 100000
set_option linter.unusedSimpArgs false
set_option linter.unusedVariables false
variable (w0 : World) (H : Hp)
theorem stpK_le (u : ByteArray) (num : Int) (x : Rk) (st : Bool × List Rk) : (stpK u num x st).2.length + (if (stpK u num x st).1 = true then 0 else 1) ≤ st.2.length + (if st.1 = true then 0 else 1) + 1 := by
  obtain ⟨dn, out⟩ := st
  unfold stpK
  cases dn <;> cases Op.bytesLess x.user.toList u.toList <;> cases (x.user.toList == u.toList) <;> simp
theorem runK_le (u : ByteArray) (num : Int) : ∀ (l : List Rk) (st : Bool × List Rk), (runK u num l st).2.length + (if (runK u num l st).1 = true then 0 else 1) ≤ st.2.length + (if st.1 = true then 0 else 1) + l.length
  | [], st => by simp only [runK, List.foldl_nil, List.length_nil, Nat.add_zero]; exact Nat.le_refl _
  | x :: l, st => by
    have h1 := stpK_le u num x st
    have h2 := runK_le u num l (stpK u num x st)
    have e : runK u num (x :: l) st = runK u num l (stpK u num x st) := rfl
    rw [e, List.length_cons]
    omega
theorem rkd_le (u : ByteArray) (num : Int) (l : List Rk) : (rkd u num l).length ≤ l.length + 1 := by
  have h := runK_le u num l (num == 1, [])
  have e : rkd u num l = if (runK u num l (num == 1, [])).1 = true then (runK u num l (num == 1, [])).2 else (runK u num l (num == 1, [])).2 ++ [⟨u, num⟩] := rfl
  rw [e]
  have e2 : (if ((num == 1, ([] : List Rk)) : Bool × List Rk).1 = true then 0 else 1) ≤ 1 := by split <;> omega
  split at h <;> rename_i h3
  · rw [if_pos h3]; simp at h e2 ⊢; omega
  · rw [if_neg h3]; simp at h e2 ⊢; omega
theorem applyR_le (R : Rm) (e : En) : (applyR R e).ms.length ≤ R.ms.length + 1 ∧ (applyR R e).ks.length ≤ R.ks.length + 1 := by
  have h1 := rkd_le e.user e.num R.ks
  have h2 := (outI_mem R.ms (idxP (isU e.user) R.ms 0)).1
  have h3 := (roleI_mem R.ms (idxP (isU e.user) R.ms 0) e.num).1
  unfold applyR
  repeat' split
  all_goals first | omega | (simp; done) | (simp; omega)
theorem applyR_next (R : Rm) (e : En) : (applyR R e).next = IntKind.i64.wrap (e.seq + 1) := by
  unfold applyR
  repeat' split
  all_goals rfl
/-- A room behind a log. -/
def stpR (na : ByteArray) (R : Rm) (e : En) : Rm := if (e.room.toList == na.toList) = true then applyR R e else R
def runR (na : ByteArray) (es : List En) (R : Rm) : Rm := es.foldl (stpR na) R
def roomR (na : ByteArray) (es : List En) : Rm := runR na es ⟨na, 0, [], [], em⟩
theorem stpR_le (na : ByteArray) (R : Rm) (e : En) : (stpR na R e).ms.length ≤ R.ms.length + 1 ∧ (stpR na R e).ks.length ≤ R.ks.length + 1 := by
  unfold stpR
  split
  · exact applyR_le R e
  · omega
/-- The texts of an entry are short. -/
structure SmE (e : En) : Prop where
  rm : e.room.size ≤ 100000
  us : e.user.size ≤ 100000
  ni : e.nick.size ≤ 100000
  tx : e.text.size ≤ 100000
  id : e.id.size ≤ 100000
  rf : e.ref.size ≤ 100000
  sq : 0 ≤ e.seq ∧ e.seq ≤ 20000
/-- A room whose texts are short. -/
structure SmR (R : Rm) : Prop where
  nm : R.name.size ≤ 100000
  sj : R.subj.size ≤ 100000
  ms : ∀ m ∈ R.ms, m.user.size ≤ 100000 ∧ m.nick.size ≤ 100000
  ks : ∀ k ∈ R.ks, k.user.size ≤ 100000
theorem applyR_sm (R : Rm) (e : En) (hb : SmR R) (he : SmE e) : SmR (applyR R e) := by
  have hm := hb.ms
  have hk := hb.ks
  unfold applyR
  repeat' split
  all_goals refine ⟨hb.nm, (by first | exact hb.sj | exact he.tx), ?_, ?_⟩
  all_goals first
    | exact hm
    | exact hk
    | skip
  · intro m h
    rcases List.mem_append.1 h with h | h
    · exact hm m h
    · simp only [List.mem_singleton] at h
      subst h
      exact ⟨he.us, he.ni⟩
  · exact fun m h => hm m ((outI_mem _ _).2 m h)
  · intro m h
    obtain ⟨y, h1, h2, h3⟩ := (roleI_mem _ _ _).2 m h
    rw [h2, h3]
    exact hm y h1
  · intro k h
    rcases (rkd_mem _ _ _).2 k h with h | h
    · exact hk k h
    · subst h; exact he.us
theorem stpR_sm (na : ByteArray) (R : Rm) (e : En) (hb : SmR R) (he : SmE e) : SmR (stpR na R e) := by
  unfold stpR
  split
  · exact applyR_sm R e hb he
  · exact hb
theorem runR_ok (na : ByteArray) : ∀ (es : List En) (R : Rm), SmR R → (∀ e ∈ es, SmE e) → SmR (runR na es R) ∧ (runR na es R).ms.length ≤ R.ms.length + es.length ∧ (runR na es R).ks.length ≤ R.ks.length + es.length
  | [], R, h, _ => ⟨h, by simp [runR], by simp [runR]⟩
  | e :: es, R, h, he => by
    have e1 : runR na (e :: es) R = runR na es (stpR na R e) := rfl
    obtain ⟨a, b, c⟩ := runR_ok na es (stpR na R e) (stpR_sm na R e h (he e (by simp))) (fun x hx => he x (by simp [hx]))
    have := stpR_le na R e
    rw [e1, List.length_cons]
    exact ⟨a, by omega, by omega⟩
theorem roomR_ok (na : ByteArray) (es : List En) (hn : na.size ≤ 100000) (he : ∀ e ∈ es, SmE e) : SmR (roomR na es) ∧ (roomR na es).ms.length ≤ es.length ∧ (roomR na es).ks.length ≤ es.length := by
  have := runR_ok na es ⟨na, 0, [], [], em⟩ ⟨hn, (by decide : em.size ≤ 100000), by simp, by simp⟩ he
  simpa [roomR] using this
theorem applyR_rg (R : Rm) (e : En) (he : SmE e) : 1 ≤ (applyR R e).next ∧ (applyR R e).next ≤ 20001 := by
  have := he.sq
  rw [applyR_next, wrap_i64 (by omega) (by omega)]
  omega
theorem stpR_rg (na : ByteArray) (R : Rm) (e : En) (he : SmE e) (h : 0 ≤ R.next ∧ R.next ≤ 20001) : 0 ≤ (stpR na R e).next ∧ (stpR na R e).next ≤ 20001 := by
  unfold stpR
  split
  · have := applyR_rg R e he; omega
  · exact h
theorem runR_rg (na : ByteArray) : ∀ (es : List En) (R : Rm), (∀ e ∈ es, SmE e) → 0 ≤ R.next ∧ R.next ≤ 20001 → 0 ≤ (runR na es R).next ∧ (runR na es R).next ≤ 20001
  | [], R, _, h => h
  | e :: es, R, he, h => runR_rg na es (stpR na R e) (fun x hx => he x (by simp [hx])) (stpR_rg na R e (he e (by simp)) h)
/-! rooms without members: no object at all -/
theorem RmAt_nil (B : Hp) (na su : ByteArray) (k : Int) : RmAt w0 B ⟨na, k, [], [], su⟩ ⟨none, 0, none, 0⟩ := ⟨.inl rfl, .inl rfl, by simp, by simp, fun L => rfl, fun L => rfl⟩
end Go.Proofs.YtmacpgoclhgafaaDoorW.FA

namespace Go.Proofs.YtmacpgoclhgafaaDoorW.FA
open Go.RowKit Go.Proofs.YtmacpgoclhgafaaDoorW.XM Go.Proofs Go.Proofs.YtmacpgoclhgafaaDoorW.XWords
set_option maxRecDepth 100000
set_option linter.unusedSimpArgs false
set_option linter.unusedVariables false
variable (w0 : World) (H : Hp)
def doR (R : Rm) (log : List En) (u : ByteArray) (s : Sy) : List En × Int :=
  if 9999 < IntKind.i64.wrap (R.next + 3) then ([], 5)
  else if (s.kind == 6) = true then joinR R u s.nick
  else if idxP (isU u) R.ms 0 < 0 then ([], 2)
  else insR R log u s
/-- What is said is short. -/
structure SmS (s : Sy) : Prop where
  ni : s.nick.size ≤ 100000
  na : s.name.size ≤ 100000
  tx : s.text.size ≤ 100000
  id : s.id.size ≤ 100000
  rf : s.ref.size ≤ 100000
theorem find_sm {p : Mem → Bool} {R : Rm} (h : SmR R) {m : Mem} (hm : R.ms.find? p = some m) : m.user.size ≤ 100000 ∧ m.nick.size ≤ 100000 := h.ms m (List.mem_of_find?_eq_some hm)
theorem nickU_sm {R : Rm} (h : SmR R) (u : ByteArray) : (nickU R u).size ≤ 100000 := by
  unfold nickU
  cases hm : R.ms.find? (isU u) with
  | none => decide
  | some m => exact (find_sm h hm).2
theorem em_sm : em.size ≤ 100000 := by decide
theorem doR_sm (R : Rm) (log : List En) (u : ByteArray) (s : Sy) (hR : SmR R) (hn : 0 ≤ R.next ∧ R.next ≤ 20001) (hu : u.size ≤ 100000) (hs : SmS s) : (doR R log u s).1.length ≤ 3 ∧ ∀ e ∈ (doR R log u s).1, SmE e := by
  have nk := nickU_sm hR
  have hem := em_sm
  obtain ⟨s1, s2, s3, s4, s5⟩ := hs
  have nm := hR.nm
  have w0 : IntKind.i64.wrap (R.next + ((0 : Nat) : Int)) = R.next := by rw [wrap_i64 (by omega) (by omega)]; omega
  have w1 : IntKind.i64.wrap (R.next + ((1 : Nat) : Int)) = R.next + 1 := by rw [wrap_i64 (by omega) (by omega)]; omega
  have w3 : IntKind.i64.wrap (R.next + 3) = R.next + 3 := by rw [wrap_i64 (by omega) (by omega)]
  unfold doR
  rw [w3]
  split
  · exact ⟨by simp, by simp⟩
  rename_i hlt
  have h2 : R.next + 3 ≤ 9999 := by omega
  have mk : ∀ (se k n : Int) (us ni te i re : ByteArray), 0 ≤ se → se ≤ 20000 → us.size ≤ 100000 → ni.size ≤ 100000 → te.size ≤ 100000 → i.size ≤ 100000 → re.size ≤ 100000 → SmE ⟨R.name, se, k, us, ni, te, i, re, n⟩ := fun se k n us ni te i re a b c d e f g => ⟨nm, c, d, e, f, g, a, b⟩
  split
  · unfold joinR
    rw [w0, w1]
    repeat' split
    all_goals refine ⟨by simp, ?_⟩
    all_goals intro e he
    all_goals simp only [List.mem_cons, List.not_mem_nil, or_false] at he
    · rcases he with rfl | rfl
      · exact mk _ _ _ _ _ _ _ _ (by omega) (by omega) hu hem hem hem hem
      · exact mk _ _ _ _ _ _ _ _ (by omega) (by omega) hu s1 hem hem hem
    · subst he
      exact mk _ _ _ _ _ _ _ _ (by omega) (by omega) hu s1 hem hem hem
  split
  · exact ⟨by simp, by simp⟩
  unfold insR
  split
  · refine ⟨by simp, fun e he => ?_⟩
    simp only [List.mem_singleton] at he
    subst he
    exact mk _ _ _ _ _ _ _ _ (by omega) (by omega) hu (nk u) hem hem hem
  split
  · split
    · exact ⟨by simp, by simp⟩
    repeat' split
    all_goals refine ⟨by simp, fun e he => ?_⟩
    all_goals simp only [List.mem_cons, List.not_mem_nil, or_false] at he
    subst he
    exact mk _ _ _ _ _ _ _ _ (by omega) (by omega) hu (nk u) s3 s4 s5
  split
  · split
    · exact ⟨by simp, by simp⟩
    repeat' split
    all_goals refine ⟨by simp, fun e he => ?_⟩
    all_goals simp only [List.mem_cons, List.not_mem_nil, or_false] at he
    subst he
    exact mk _ _ _ _ _ _ _ _ (by omega) (by omega) hu (nk u) s3 s4 hem
  split
  · unfold roleR
    split
    · exact ⟨by simp, by simp⟩
    split
    · exact ⟨by simp, by simp⟩
    split
    · exact ⟨by simp, by simp⟩
    rename_i m hm
    repeat' split
    all_goals refine ⟨by simp, fun e he => ?_⟩
    all_goals simp only [List.mem_cons, List.not_mem_nil, or_false] at he
    subst he
    exact mk _ _ _ _ _ _ _ _ (by omega) (by omega) (find_sm hR hm).1 (nk _) hem hem hem
  · unfold setR
    repeat' split
    all_goals first
      | (refine ⟨?_, ?_⟩ <;> (simp only [List.length_nil, List.not_mem_nil, Nat.zero_le, false_implies, implies_true]; done))
      | skip
    unfold setL ent6
    rw [w0, w1]
    split
    · refine ⟨by simp, fun e he => ?_⟩
      simp only [List.mem_cons, List.not_mem_nil, or_false] at he
      subst he
      exact mk _ _ _ _ _ _ _ _ (by omega) (by omega) s2 hem hem hem hem
    repeat' split
    all_goals refine ⟨by simp, fun e he => ?_⟩
    all_goals simp only [List.mem_cons, List.not_mem_nil, or_false] at he
    · rcases he with rfl | rfl
      · exact mk _ _ _ _ _ _ _ _ (by omega) (by omega) s2 (nk _) hem hem hem
      · exact mk _ _ _ _ _ _ _ _ (by omega) (by omega) s2 hem hem hem hem
    · rcases he with rfl | rfl
      · exact mk _ _ _ _ _ _ _ _ (by omega) (by omega) s2 hem hem hem hem
      · exact mk _ _ _ _ _ _ _ _ (by omega) (by omega) s2 (nk _) hem hem hem
    · subst he
      exact mk _ _ _ _ _ _ _ _ (by omega) (by omega) s2 hem hem hem hem
end Go.Proofs.YtmacpgoclhgafaaDoorW.FA

namespace Go.Proofs.YtmacpgoclhgafaaDoorW.FA
open Go.RowKit Go.Proofs.YtmacpgoclhgafaaDoorW.XM Go.Proofs Go.Proofs.YtmacpgoclhgafaaDoorW.XWords
set_option maxRecDepth 100000
set_option linter.unusedSimpArgs false
set_option linter.unusedVariables false
variable {w0 : World} {H : Hp}
/-- Where a room lies: nowhere, if nothing is in it, or in two objects of one's own. -/
def PlO (H : Hp) (n : Nat) (g : List (Option Ob)) (R : Rm) (x : Ad) : Prop := (x = ⟨none, 0, none, 0⟩ ∧ R.ms = [] ∧ R.ks = []) ∨ ∃ j k, g[j]? = some (some (.row 60 (flat Mem.enc R.ms))) ∧ g[k]? = some (some (.row 58 (flat Rk.enc R.ks))) ∧ x = adR H R (n + j) (n + k)
theorem PlO.shift {pre g : List (Option Ob)} {R : Rm} {x : Ad} (h : PlO H pre.length g R x) : PlO H 0 (pre ++ g) R x := by
  rcases h with h | ⟨j, k, a, b, rfl⟩
  · exact .inl h
  · refine .inr ⟨pre.length + j, pre.length + k, ?_, ?_, by rw [Nat.zero_add, Nat.zero_add]⟩
    · rw [List.getElem?_append_right (by omega), Nat.add_sub_cancel_left]; exact a
    · rw [List.getElem?_append_right (by omega), Nat.add_sub_cancel_left]; exact b
theorem PlO.more {n : Nat} {g : List (Option Ob)} {R : Rm} {x : Ad} (h : PlO H n g R x) (L : List (Option Ob)) : PlO H n (g ++ L) R x := by
  rcases h with h | ⟨j, k, a, b, rfl⟩
  · exact .inl h
  · exact .inr ⟨j, k, by rw [List.getElem?_append_left (lt_of_get a)]; exact a, by rw [List.getElem?_append_left (lt_of_get b)]; exact b, rfl⟩
theorem PlO.rm {g : List (Option Ob)} {R : Rm} {x : Ad} (h : PlO H 0 g R x) (lm : R.ms.length ≤ 2000000) (lk : R.ks.length ≤ 2000000) : RmAt w0 (Hx H g) R x := by
  rcases h with ⟨rfl, h1, h2⟩ | ⟨j, k, a, b, rfl⟩
  · obtain ⟨n, q, ms, ks, s⟩ := R
    simp only at h1 h2
    subst h1 h2
    exact RmAt_nil _ _ _ _ _
  · rw [Nat.zero_add, Nat.zero_add]
    exact RmAt_own a b lm lk
theorem AFn_nil {P : Program} {w0 : World} {f : FuncId} {args : Array Value} {H : Hp} {Q : Value → Hp → Prop} (h : AFn P w0 f args (Hx H []) Q) : AFn P w0 f args H Q := by rwa [Hx_nil] at h
variable (w0 H)
end Go.Proofs.YtmacpgoclhgafaaDoorW.FA

namespace Go.Proofs.YtmacpgoclhgafaaDoorW.FA
open Go.RowKit Go.Proofs.YtmacpgoclhgafaaDoorW.XM Go.Proofs Go.Proofs.YtmacpgoclhgafaaDoorW.XWords
set_option maxRecDepth 100000
set_option linter.unusedSimpArgs false
set_option linter.unusedVariables false
structure NmR (R : Rm) : Prop where
  ms : ∀ m ∈ R.ms, nmB m.user = true
  ks : ∀ k ∈ R.ks, nmB k.user = true
theorem applyR_nm (R : Rm) (e : En) (hb : NmR R) (he : nmB e.user = true) : NmR (applyR R e) := by
  have hm := hb.ms
  have hk := hb.ks
  unfold applyR
  repeat' split
  all_goals refine ⟨?_, ?_⟩
  all_goals first
    | exact hm
    | exact hk
    | skip
  · intro m h
    rcases List.mem_append.1 h with h | h
    · exact hm m h
    · simp only [List.mem_singleton] at h
      subst h
      exact he
  · exact fun m h => hm m ((outI_mem _ _).2 m h)
  · intro m h
    obtain ⟨y, h1, h2, h3⟩ := (roleI_mem _ _ _).2 m h
    rw [h2]
    exact hm y h1
  · intro k h
    rcases (rkd_mem _ _ _).2 k h with h | h
    · exact hk k h
    · subst h; exact he
theorem stpR_nm (na : ByteArray) (R : Rm) (e : En) (hb : NmR R) (he : nmB e.user = true) : NmR (stpR na R e) := by
  unfold stpR
  split
  · exact applyR_nm R e hb he
  · exact hb
theorem runR_nm (na : ByteArray) : ∀ (es : List En) (R : Rm), NmR R → (∀ e ∈ es, nmB e.user = true) → NmR (runR na es R)
  | [], R, h, _ => h
  | e :: es, R, h, he => runR_nm na es (stpR na R e) (stpR_nm na R e h (he e (by simp))) (fun x hx => he x (by simp [hx]))
theorem roomR_nm (na : ByteArray) (es : List En) (he : ∀ e ∈ es, nmB e.user = true) : NmR (roomR na es) := runR_nm na es _ ⟨by simp, by simp⟩ he
theorem doR_nm (R : Rm) (log : List En) (u : ByteArray) (s : Sy) (hR : NmR R) (hu : nmB u = true) (hs : nmB s.name = true) : ∀ e ∈ (doR R log u s).1, nmB e.user = true := by
  have mk : ∀ (ro : ByteArray) (se k n : Int) (us ni te i re : ByteArray), nmB us = true → nmB (⟨ro, se, k, us, ni, te, i, re, n⟩ : En).user = true := fun ro se k n us ni te i re h => h
  unfold doR
  split
  · simp
  split
  · unfold joinR
    repeat' split
    all_goals intro e he
    all_goals simp only [List.mem_cons, List.not_mem_nil, or_false] at he
    · rcases he with rfl | rfl <;> exact mk _ _ _ _ _ _ _ _ _ hu
    · subst he
      exact mk _ _ _ _ _ _ _ _ _ hu
  split
  · simp
  unfold insR
  split
  · intro e he
    simp only [List.mem_singleton] at he
    subst he
    exact mk _ _ _ _ _ _ _ _ _ hu
  split
  · split
    · simp
    repeat' split
    all_goals intro e he
    all_goals simp only [List.mem_cons, List.not_mem_nil, or_false] at he
    subst he
    exact mk _ _ _ _ _ _ _ _ _ hu
  split
  · split
    · simp
    repeat' split
    all_goals intro e he
    all_goals simp only [List.mem_cons, List.not_mem_nil, or_false] at he
    subst he
    exact mk _ _ _ _ _ _ _ _ _ hu
  split
  · unfold roleR
    split
    · simp
    split
    · simp
    split
    · simp
    rename_i m hm
    repeat' split
    all_goals intro e he
    all_goals simp only [List.mem_cons, List.not_mem_nil, or_false] at he
    subst he
    exact mk _ _ _ _ _ _ _ _ _ (hR.ms m (List.mem_of_find?_eq_some hm))
  · unfold setR
    repeat' split
    all_goals first
      | (simp only [List.not_mem_nil, false_implies, implies_true]; done)
      | skip
    unfold setL ent6
    split
    · intro e he
      simp only [List.mem_cons, List.not_mem_nil, or_false] at he
      subst he
      exact mk _ _ _ _ _ _ _ _ _ hs
    repeat' split
    all_goals intro e he
    all_goals simp only [List.mem_cons, List.not_mem_nil, or_false] at he
    · rcases he with rfl | rfl <;> exact mk _ _ _ _ _ _ _ _ _ hs
    · rcases he with rfl | rfl <;> exact mk _ _ _ _ _ _ _ _ _ hs
    · subst he
      exact mk _ _ _ _ _ _ _ _ _ hs
end Go.Proofs.YtmacpgoclhgafaaDoorW.FA

namespace Go.Proofs.YtmacpgoclhgafaaDoorW.FA
open Go.RowKit Go.Proofs.YtmacpgoclhgafaaDoorW.XM Go.Proofs Go.Proofs.YtmacpgoclhgafaaDoorW.XWords
set_option maxRecDepth 100000
set_option linter.unusedSimpArgs false
set_option linter.unusedVariables false
variable (w0 : World) (H : Hp)
/-- A log that deeds have made, one behind the other. -/
inductive LogD : List En → Prop
  | nil : LogD []
  | add {es : List En} (na u : ByteArray) (s : Sy) : LogD es → na.size ≤ 100000 → u.size ≤ 100000 → SmS s → nmB u = true → nmB s.name = true → LogD (es ++ (doR (roomR na es) es u s).1)
theorem LogD.sm {es : List En} (h : LogD es) : ∀ e ∈ es, SmE e := by
  induction h with
  | nil => simp
  | add na u s h h1 h2 h3 _ _ ih =>
    intro e he
    rcases List.mem_append.1 he with he | he
    · exact ih e he
    · exact (doR_sm _ _ _ _ (roomR_ok _ _ h1 ih).1 (runR_rg _ _ _ ih (by simp)) h2 h3).2 e he
theorem LogD.nm {es : List En} (h : LogD es) : ∀ e ∈ es, nmB e.user = true := by
  induction h with
  | nil => simp
  | add na u s h h1 h2 h3 h4 h5 ih =>
    intro e he
    rcases List.mem_append.1 he with he | he
    · exact ih e he
    · exact doR_nm _ _ _ _ (roomR_nm na _ ih) h4 h5 e he
theorem LogD.le {es : List En} (h : LogD es) (na u : ByteArray) (s : Sy) (h1 : na.size ≤ 100000) (h2 : u.size ≤ 100000) (h3 : SmS s) : (doR (roomR na es) es u s).1.length ≤ 3 := (doR_sm _ _ _ _ (roomR_ok _ _ h1 h.sm).1 (runR_rg _ _ _ h.sm (by simp)) h2 h3).1
theorem elen (m : En) : m.enc.length = 9 := rfl
theorem SyOk.sm {s : Sy} (h : SyOk s) : SmS s := ⟨by have := h.nick; omega, by have := h.name; omega, by have := h.text; omega, by have := h.id; omega, by have := h.ref; omega⟩
end Go.Proofs.YtmacpgoclhgafaaDoorW.FA

namespace Go.Proofs.YtmacpgoclhgafaaDoorW.FA
open Go.RowKit Go.Proofs.YtmacpgoclhgafaaDoorW.XM Go.Proofs Go.Proofs.YtmacpgoclhgafaaDoorW.XWords
set_option maxRecDepth 100000
set_option linter.unusedSimpArgs false
set_option linter.unusedVariables false
variable {w0 : World} {H : Hp}
/-- Where a room lies whose members and whose ranks may each be nowhere. -/
structure PlS (H : Hp) (n : Nat) (g : List (Option Ob)) (R : Rm) (x : Ad) : Prop where
  m : (x.a = none ∧ x.c = 0 ∧ R.ms = []) ∨ ∃ j, g[j]? = some (some (.row 60 (flat Mem.enc R.ms))) ∧ x.a = some ⟨nid H (n + j), 0, some (R.ms.length * 3)⟩ ∧ x.c = R.ms.length
  k : (x.b = none ∧ x.d = 0 ∧ R.ks = []) ∨ ∃ j, g[j]? = some (some (.row 58 (flat Rk.enc R.ks))) ∧ x.b = some ⟨nid H (n + j), 0, some (R.ks.length * 2)⟩ ∧ x.d = R.ks.length
theorem PlS.more {n : Nat} {g : List (Option Ob)} {R : Rm} {x : Ad} (h : PlS H n g R x) (L : List (Option Ob)) : PlS H n (g ++ L) R x := by
  refine ⟨h.m.imp id fun ⟨j, a, b⟩ => ⟨j, ?_, b⟩, h.k.imp id fun ⟨j, a, b⟩ => ⟨j, ?_, b⟩⟩ <;> rw [List.getElem?_append_left (lt_of_get a)] <;> exact a
theorem PlS.shift {pre g : List (Option Ob)} {R : Rm} {x : Ad} (h : PlS H pre.length g R x) : PlS H 0 (pre ++ g) R x := by
  refine ⟨h.m.imp id fun ⟨j, a, b, c⟩ => ⟨pre.length + j, ?_, by rw [Nat.zero_add]; exact b, c⟩, h.k.imp id fun ⟨j, a, b, c⟩ => ⟨pre.length + j, ?_, by rw [Nat.zero_add]; exact b, c⟩⟩ <;> rw [List.getElem?_append_right (by omega), Nat.add_sub_cancel_left] <;> exact a
theorem PlS.at {n : Nat} {g pre : List (Option Ob)} {R : Rm} {x : Ad} (h : PlS H n g R x) (hn : pre.length = n) (lm : R.ms.length ≤ 2000000) (lk : R.ks.length ≤ 2000000) : RmAt w0 (Hx H (pre ++ g)) R x ∧ RmOw w0 (Hx H (pre ++ g)) R x := by
  subst hn
  obtain ⟨na, nx, ms, ks, su⟩ := R
  obtain ⟨a, c, b, d⟩ := x
  have gi : ∀ k, (pre ++ g)[pre.length + k]? = g[k]? := fun k => by rw [List.getElem?_append_right (by omega)]; simp
  have hm : (Sl w0 (Hx H (pre ++ g)) a 3 (ms.map Mem.enc) ∧ ∀ L, src w0 (Hx (Hx H (pre ++ g)) L) 3 (.slice a ms.length c) = some (ms.length, flat Mem.enc ms)) ∧ ms.length ≤ c ∧ (∀ b o sp, a = some ⟨b, o, sp⟩ → ∀ L, Go.Proofs.YtmacpgoclhgafaaDoorW.XM.ownB Tryd.prog (Hx (Hx H (pre ++ g)) L) 3 b sp) ∧ (∀ b o sp, a = some ⟨b, o, sp⟩ → ∀ L, rd w0 (Hx (Hx H (pre ++ g)) L) ⟨b, o, sp⟩ (ms.length * 3) = some (flat Mem.enc ms)) := by
    rcases h.m with ⟨h1, h2, h3⟩ | ⟨j, h1, h2, h3⟩
    · simp only at h1 h2 h3
      subst h1 h2 h3
      exact ⟨⟨.inl rfl, fun L => rfl⟩, Nat.le_refl _, (fun _ _ _ e => by cases e), (fun _ _ _ e => by cases e)⟩
    · simp only at h1 h2 h3
      subst h2 h3
      have hj := (gi j).trans h1
      refine ⟨⟨Sl_own mlen _ ms H _ _ hj, fun L => by rw [src_sl, rd_flat mlen _ ms H _ _ hj]; rfl⟩, Nat.le_refl _, fun b o sp e L => ?_, fun b o sp e L => ?_⟩
      · cases e
        refine ⟨_, flat Mem.enc ms, false || true, ?_, flat_len mlen ms, XF.lay_60⟩
        have := lt_of_get hj
        rw [Hx_Hx, Hx_get, List.getElem?_append_left this]
        exact hj
      · cases e
        exact rd_flat mlen _ ms H _ _ hj L
  have hk : Sl w0 (Hx H (pre ++ g)) b 2 (ks.map Rk.enc) ∧ ∀ L, src w0 (Hx (Hx H (pre ++ g)) L) 2 (.slice b ks.length d) = some (ks.length, flat Rk.enc ks) := by
    rcases h.k with ⟨h1, h2, h3⟩ | ⟨j, h1, h2, h3⟩
    · simp only at h1 h2 h3
      subst h1 h2 h3
      exact ⟨.inl rfl, fun L => rfl⟩
    · simp only at h1 h2 h3
      subst h2 h3
      have hj := (gi j).trans h1
      exact ⟨Sl_own klen _ ks H _ _ hj, fun L => by rw [src_sl, rd_flat klen _ ks H _ _ hj]; rfl⟩
  exact ⟨⟨hm.1.1, hk.1, lm, lk, hm.1.2, hk.2⟩, ⟨hm.2.1, hm.2.2.1, hm.2.2.2⟩⟩
variable (w0 H)
end Go.Proofs.YtmacpgoclhgafaaDoorW.FA

namespace Go.Proofs.YtmacpgoclhgafaaDoorW.FA
open Go.RowKit Go.Proofs.YtmacpgoclhgafaaDoorW.XM Go.Proofs Go.Proofs.YtmacpgoclhgafaaDoorW.XWords
set_option maxRecDepth 100000
set_option linter.unusedSimpArgs false
set_option linter.unusedVariables false
variable (w0 : World) (H : Hp)
end Go.Proofs.YtmacpgoclhgafaaDoorW.FA

namespace Go.Proofs.YtmacpgoclhgafaaDoorW.FA
open Go.RowKit Go.Proofs.YtmacpgoclhgafaaDoorW.XM Go.Proofs Go.Proofs.YtmacpgoclhgafaaDoorW.XWords
set_option maxRecDepth 100000
set_option linter.unusedSimpArgs false
set_option linter.unusedVariables false
variable (w0 : World) (H : Hp)
theorem Sl.take {w0 : World} {H : Hp} {A : Option Addr} {n : Nat} {rows : List (List Value)} (h : Sl w0 H A n rows) (k : Nat) : Sl w0 H A n (rows.take k) := by
  rcases h with h | ⟨b, o, sp, h, hr⟩
  · exact .inl (by rw [h, List.take_nil])
  · refine .inr ⟨b, o, sp, h, fun i r hi => hr i r ?_⟩
    rw [List.getElem?_take] at hi
    split at hi
    · exact hi
    · cases hi
end Go.Proofs.YtmacpgoclhgafaaDoorW.FA

namespace Go.Proofs.YtmacpgoclhgafaaDoorW.FA
open Go.RowKit Go.Proofs.YtmacpgoclhgafaaDoorW.XM Go.Proofs Go.Proofs.YtmacpgoclhgafaaDoorW.XWords
set_option maxRecDepth 100000
set_option linter.unusedSimpArgs false
set_option linter.unusedVariables false
variable (w0 : World) (H : Hp)
end Go.Proofs.YtmacpgoclhgafaaDoorW.FA

namespace Go.Proofs.YtmacpgoclhgafaaDoorW.FA
open Go.RowKit Go.Proofs.YtmacpgoclhgafaaDoorW.XM Go.Proofs Go.Proofs.YtmacpgoclhgafaaDoorW.XWords
set_option maxRecDepth 100000
set_option linter.unusedSimpArgs false
set_option linter.unusedVariables false
variable (w0 : World) (H : Hp)
end Go.Proofs.YtmacpgoclhgafaaDoorW.FA

namespace Go.Proofs.YtmacpgoclhgafaaDoorW.FA
open Go.RowKit Go.Proofs.YtmacpgoclhgafaaDoorW.XM Go.Proofs Go.Proofs.YtmacpgoclhgafaaDoorW.XWords
set_option maxRecDepth 100000
set_option linter.unusedSimpArgs false
set_option linter.unusedVariables false
variable (w0 : World) (H : Hp)
end Go.Proofs.YtmacpgoclhgafaaDoorW.FA

namespace Go.Proofs.YtmacpgoclhgafaaDoorW.FA
open Go.RowKit Go.Proofs.YtmacpgoclhgafaaDoorW.XM Go.Proofs Go.Proofs.YtmacpgoclhgafaaDoorW.XWords
set_option maxRecDepth 100000
set_option linter.unusedSimpArgs false
set_option linter.unusedVariables false
variable {w0 : World} {H : Hp}
theorem nid_Hx (B : Hp) (M : List (Option Ob)) (k : Nat) : nid (Hx B M) k = nid B (M.length + k) := by
  unfold nid Hx; simp [Nat.add_assoc]
variable (w0 H)
theorem PlS.nm {H : Hp} {n : Nat} {g : List (Option Ob)} {R : Rm} {x : Ad} (h : PlS H n g R x) : (x.a = none → x.c = 0 ∧ R.ms = []) ∧ (x.b = none → x.d = 0 ∧ R.ks = []) := by
  constructor
  · intro hx
    rcases h.m with ⟨_, h2, h3⟩ | ⟨j, _, h2, _⟩
    · exact ⟨h2, h3⟩
    · rw [h2] at hx; cases hx
  · intro hx
    rcases h.k with ⟨_, h2, h3⟩ | ⟨j, _, h2, _⟩
    · exact ⟨h2, h3⟩
    · rw [h2] at hx; cases hx
end Go.Proofs.YtmacpgoclhgafaaDoorW.FA

namespace Go.Proofs.YtmacpgoclhgafaaDoorW.FA
open Go.RowKit Go.Proofs.YtmacpgoclhgafaaDoorW.XM Go.Proofs Go.Proofs.YtmacpgoclhgafaaDoorW.XWords
set_option maxRecDepth 100000
set_option linter.unusedSimpArgs false
set_option linter.unusedVariables false
variable (w0 : World) (H : Hp)
/-- A deed: a room, a log, a user, what is said, what has happened. -/
def deedC (R : Rm) (x : Ad) (A : Option Addr) (n c : Nat) (u : ByteArray) (s : Sy) (o : Value) : List Value := [.string R.name, .int .i64 R.next, .slice x.a R.ms.length x.c, .slice x.b R.ks.length x.d, .string R.subj, .slice A n c, .string u, .int .i64 s.kind, .string s.room, .string s.nick, .string s.name, .string s.id, .string s.ref, .string s.text, .int .i64 s.num, .int .i64 s.frm, .int .i64 s.back, o]
def dd (R : Rm) (x : Ad) (A : Option Addr) (n c : Nat) (u : ByteArray) (s : Sy) (o : Value) : Option Ob := some (.row 112 (deedC R x A n c u s o))
end Go.Proofs.YtmacpgoclhgafaaDoorW.FA

namespace Go.Proofs.YtmacpgoclhgafaaDoorW.FA
open Go.RowKit Go.Proofs.YtmacpgoclhgafaaDoorW.XM Go.Proofs Go.Proofs.YtmacpgoclhgafaaDoorW.XWords
set_option maxRecDepth 100000
set_option linter.unusedSimpArgs false
set_option linter.unusedVariables false
variable (w0 : World) (H : Hp)
theorem indexE_ok {α : Type} (enc : α → List Value) (A : Option Addr) (c : Nat) (ms : List α) (hs : Sl w0 H A 9 (ms.map enc)) (hl : ms.length ≤ 2000000) (he : ∀ m, (enc m).length = 9) (g : FuncId) (fi ca : List Value) (p : α → Bool)
    (hp : ∀ i (h : i < ms.length), AFn Tryd.prog w0 g (fi ++ [Value.agg (enc ms[i]).toArray] ++ ca).toArray H fun v H2 => v = .bool (p ms[i]) ∧ H2 = H) :
    AFn Tryd.prog w0 91 #[.slice A ms.length c, .func (.func g) fi.toArray ca.toArray] H fun v H2 => v = .int .i64 (idxP p ms 0) ∧ H2 = H := by
  refine AFn.scal rfl Tryd.func91 rfl (by kernel_rfl) ?_
  have r := Tryd.results91
  simp only [go_sem, cond, Nat.reduceAdd, Nat.reduceLeDiff, Nat.reduceEqDiff, Nat.reduceBEq, decide_true, decide_false, Int.toNat_natCast, r]
  refine xw_loop (fun (i : Nat) T H' => i ≤ ms.length ∧ idxP p (ms.drop i) i = idxP p ms 0 ∧ T 0 = .slice A ms.length c ∧ T 1 = .func (.func g) fi.toArray ca.toArray ∧ T 7 = .int .i64 ms.length ∧ T 8 = .int .i64 i ∧ H' = Hx H []) (fun i => ms.length - i) 0 (by kernel_rfl) ⟨Nat.zero_le _, rfl, rfl, rfl, rfl, rfl, rfl⟩ ?_
  rintro i T H' ⟨hi, he2, t0, t1, t7, t8, rfl⟩
  by_cases hlt : i < ms.length
  · obtain ⟨b, o, sp, hx, _, hc⟩ := mcell hs hlt
    have c0 := hc [] (he _)
    have d1 : ((i : Int) < (ms.length : Int)) = True := eq_true (by omega)
    have d2 : (0 ≤ (i : Int)) = True := eq_true (by omega)
    have c1 := hp i hlt
    rw [← Hx_nil H] at c1
    rw [idxP_drop _ _ i hlt] at he2
    simp only [go_sem, cond, Nat.reduceAdd, Nat.reduceLeDiff, Nat.reduceEqDiff, Nat.reduceBEq, decide_true, decide_false, Int.toNat_natCast, hx, t0, t1, t7, t8, d1, d2, c0]
    refine call_eq c1 ?_
    simp only [go_sem, cond, Nat.reduceAdd, Nat.reduceLeDiff, Nat.reduceEqDiff, Nat.reduceBEq, decide_true, decide_false, Int.toNat_natCast, hx, t0, t1, t7, t8, d1, d2, c0]
    refine Br_intro ?_ ?_ <;> intro h <;> simp only [go_sem, cond, Nat.reduceAdd, Nat.reduceLeDiff, Nat.reduceEqDiff, Nat.reduceBEq, decide_true, decide_false, Int.toNat_natCast, t0, t1, t7, t8, h, r]
    · rw [if_pos h] at he2
      exact ⟨by rw [he2], _, rfl⟩
    · rw [if_neg (by rw [h]; decide)] at he2
      exact ⟨i + 1, ⟨hlt, he2, (by rw [← hx]; exact t0), t1, t7, int_succ hlt (by omega), rfl⟩, lt_meas hlt⟩
  · obtain rfl : i = ms.length := by omega
    have d1 : ((ms.length : Int) < (ms.length : Int)) = False := eq_false (by omega)
    rw [List.drop_length] at he2
    simp only [go_sem, cond, Nat.reduceAdd, Nat.reduceLeDiff, Nat.reduceEqDiff, Nat.reduceBEq, decide_true, decide_false, Int.toNat_natCast, t0, t1, t7, t8, d1, r]
    exact ⟨by rw [← he2]; rfl, _, rfl⟩
end Go.Proofs.YtmacpgoclhgafaaDoorW.FA

namespace Go.Proofs.YtmacpgoclhgafaaDoorW.FA
open Go.RowKit Go.Proofs.YtmacpgoclhgafaaDoorW.XM Go.Proofs Go.Proofs.YtmacpgoclhgafaaDoorW.XWords
set_option maxRecDepth 100000
set_option linter.unusedSimpArgs false
set_option linter.unusedVariables false
variable (w0 : World) (H : Hp)
def eqS (s t : Sy) : Bool := (s.kind == t.kind) && ((s.room.toList == t.room.toList) && ((s.nick.toList == t.nick.toList) && ((s.name.toList == t.name.toList) && ((s.id.toList == t.id.toList) && ((s.ref.toList == t.ref.toList) && ((s.text.toList == t.text.toList) && ((s.num == t.num) && ((s.frm == t.frm) && ((s.back == t.back) && true)))))))))
theorem eqS_comm (s t : Sy) : eqS s t = eqS t s := by
  unfold eqS
  simp only [Bool.beq_comm, BEq.comm]
/-- What is said has nothing but what its kind has. -/
def xS (s : Sy) : Bool := eqS s (cleanS s)
def restS (s : Sy) : Bool :=
  if (s.kind == 1) = true then userB s.name && wordB s.text
  else if (s.kind == 2) = true then true
  else if (s.kind == 4) = true then true
  else if (s.kind == 7) = true then true
  else if (s.kind == 3) = true then inB s.num 0 255
  else if (s.kind == 5) = true then wordB s.ref && inB s.num 0 255
  else if (s.kind == 6) = true then nickB s.nick
  else if (s.kind == 8) = true then bodyB s.text && orB wordB s.ref
  else if (s.kind == 9) = true then bodyB s.text
  else if (s.kind == 10) = true then nickB s.nick && inB s.num 0 3
  else if (s.kind == 11) = true then userB s.name && inB s.num 0 4
  else if (s.kind == 12) = true then orB userB s.name && (inB s.num 1 4 && (inB s.frm (-1) 9999 && (inB s.back (-1) 9999 && (decide (s.frm < 0) || decide (s.back < 0)))))
  else false
def sayB (s : Sy) : Bool := xS s && ((!decide (6 ≤ s.kind) || userB s.room) && ((!decide (8 ≤ s.kind) || wordB s.id) && restS s))
structure BigS (s : Sy) : Prop where
  rm : s.room.size ≤ 1000000000000
  ni : s.nick.size ≤ 1000000000000
  na : s.name.size ≤ 1000000000000
  id : s.id.size ≤ 1000000000000
  rf : s.ref.size ≤ 1000000000000
  tx : s.text.size ≤ 1000000000000
theorem bareS_ok (s : Sy) : AFn Tryd.prog w0 129 #[.agg s.enc.toArray] H fun v H2 => v = .agg (cleanS s).enc.toArray ∧ H2 = H := by
  refine AFn.scal rfl Tryd.func129 rfl (by kernel_rfl) ?_
  have r := Tryd.results129
  simp only [go_sem, cond, Nat.reduceAdd, Nat.reduceLeDiff, Nat.reduceEqDiff, Nat.reduceBEq, decide_true, decide_false, Int.toNat_natCast, r]
  simp only [go_sem, cond, Nat.reduceAdd, Nat.reduceLeDiff, Nat.reduceEqDiff, Nat.reduceBEq, decide_true, decide_false, Int.toNat_natCast, Sy.enc, r]
  repeat' (first
    | (refine Br_intro ?_ ?_ <;> intro h <;> simp only [go_sem, cond, Nat.reduceAdd, Nat.reduceLeDiff, Nat.reduceEqDiff, Nat.reduceBEq, decide_true, decide_false, Int.toNat_natCast, h, r])
    | ((refine xw_open (id := 4) [0, 1, 0, 4, 3, 19, 63, 127] [.q 0, .q 2, .q 1, .q 4, .l 3, .e 5, .d 3, .q 6, .e 7] rfl (by kernel_rfl) ?_; simp only [go_sem, cond, Nat.reduceAdd, Nat.reduceLeDiff, Nat.reduceEqDiff, Nat.reduceBEq, decide_true, decide_false, Int.toNat_natCast, r]))
    | ((refine xw_open (id := 8) [0, 1, 0, 4, 3, 19, 63, 127] [.q 0, .q 2, .q 1, .q 4, .l 3, .e 5, .d 3, .q 6, .e 7] rfl (by kernel_rfl) ?_; simp only [go_sem, cond, Nat.reduceAdd, Nat.reduceLeDiff, Nat.reduceEqDiff, Nat.reduceBEq, decide_true, decide_false, Int.toNat_natCast, r]))
    | ((refine xw_open (id := 10) [0, 1, 0, 4, 3, 19, 63, 127] [.q 0, .q 2, .q 1, .q 4, .l 3, .e 5, .d 3, .q 6, .e 7] rfl (by kernel_rfl) ?_; simp only [go_sem, cond, Nat.reduceAdd, Nat.reduceLeDiff, Nat.reduceEqDiff, Nat.reduceBEq, decide_true, decide_false, Int.toNat_natCast, r]))
    | ((refine xw_open (id := 14) [0, 1, 0, 4, 0, 16, 0, 64, 3, 259, 783, 1807, 3903, 7999, 16383, 32767] [.q 0, .q 2, .q 4, .q 6, .q 1, .q 8, .l 3, .l 5, .l 7, .e 9, .d 3, .q 10, .e 11, .d 5, .q 12, .e 13, .d 7, .q 14, .e 15] rfl (by kernel_rfl) ?_; simp only [go_sem, cond, Nat.reduceAdd, Nat.reduceLeDiff, Nat.reduceEqDiff, Nat.reduceBEq, decide_true, decide_false, Int.toNat_natCast, r]))
    | ((refine xw_open (id := 16) [0, 1, 0, 4, 0, 16, 3, 67, 207, 463, 1023, 2047] [.q 0, .q 2, .q 4, .q 1, .q 6, .l 3, .l 5, .e 7, .d 3, .q 8, .e 9, .d 5, .q 10, .e 11] rfl (by kernel_rfl) ?_; simp only [go_sem, cond, Nat.reduceAdd, Nat.reduceLeDiff, Nat.reduceEqDiff, Nat.reduceBEq, decide_true, decide_false, Int.toNat_natCast, r]))
    | ((refine xw_open (id := 18) [0, 1, 0, 4, 0, 16, 0, 64, 3, 259, 783, 1807, 3903, 7999, 16383, 32767] [.q 0, .q 2, .q 4, .q 6, .q 1, .q 8, .l 3, .l 5, .l 7, .e 9, .d 3, .q 10, .e 11, .d 5, .q 12, .e 13, .d 7, .q 14, .e 15] rfl (by kernel_rfl) ?_; simp only [go_sem, cond, Nat.reduceAdd, Nat.reduceLeDiff, Nat.reduceEqDiff, Nat.reduceBEq, decide_true, decide_false, Int.toNat_natCast, r]))
    | ((refine xw_open (id := 20) [0, 1, 0, 4, 0, 16, 0, 64, 3, 259, 783, 1807, 3903, 7999, 16383, 32767] [.q 0, .q 2, .q 4, .q 6, .q 1, .q 8, .l 3, .l 5, .l 7, .e 9, .d 3, .q 10, .e 11, .d 5, .q 12, .e 13, .d 7, .q 14, .e 15] rfl (by kernel_rfl) ?_; simp only [go_sem, cond, Nat.reduceAdd, Nat.reduceLeDiff, Nat.reduceEqDiff, Nat.reduceBEq, decide_true, decide_false, Int.toNat_natCast, r]))
    | ((refine xw_open (id := 22) [0, 1, 0, 4, 0, 16, 0, 64, 0, 256, 0, 1024, 3, 4099, 12303, 28687, 61503, 127039, 258303, 520447, 1045503, 2094079, 4194303, 8388607] [.q 0, .q 2, .q 4, .q 6, .q 8, .q 10, .q 1, .q 12, .l 3, .l 5, .l 7, .l 9, .l 11, .e 13, .d 3, .q 14, .e 15, .d 5, .q 16, .e 17, .d 7, .q 18, .e 19, .d 9, .q 20, .e 21, .d 11, .q 22, .e 23] rfl (by kernel_rfl) ?_; simp only [go_sem, cond, Nat.reduceAdd, Nat.reduceLeDiff, Nat.reduceEqDiff, Nat.reduceBEq, decide_true, decide_false, Int.toNat_natCast, r])))
  all_goals first
    | exact ⟨by simp only [cleanS, *]; rfl, _, rfl⟩
    | (exfalso
       simp only [beq_iff_eq, beq_eq_false_iff_ne] at *
       omega)
    | trace_state
theorem count_ok (n : Int) : AFn Tryd.prog w0 130 #[.int .i64 n] H fun v H2 => v = .bool (inB n 0 255) ∧ H2 = H := by
  refine AFn.scal rfl Tryd.func130 rfl (by kernel_rfl) ?_
  have r := Tryd.results130
  simp only [go_sem, cond, Nat.reduceAdd, Nat.reduceLeDiff, Nat.reduceEqDiff, Nat.reduceBEq, decide_true, decide_false, Int.toNat_natCast, r]
  refine call_eq (within_ok _ _ _ _ _) ?_
  simp only [go_sem, cond, Nat.reduceAdd, Nat.reduceLeDiff, Nat.reduceEqDiff, Nat.reduceBEq, decide_true, decide_false, Int.toNat_natCast, r]
  exact ⟨_, rfl⟩
end Go.Proofs.YtmacpgoclhgafaaDoorW.FA

namespace Go.Proofs.YtmacpgoclhgafaaDoorW.FA
open Go.RowKit Go.Proofs.YtmacpgoclhgafaaDoorW.XM Go.Proofs Go.Proofs.YtmacpgoclhgafaaDoorW.XWords
set_option maxRecDepth 100000
set_option linter.unusedSimpArgs false
set_option linter.unusedVariables false
variable (w0 : World) (H : Hp)
theorem minB {a b : Int} (ha : inB a (-1) 9999 = true) (hb : inB b (-1) 9999 = true) : ((if b < a then b else a) == -1) = (decide (a < 0) || decide (b < 0)) := by
  simp only [inB, Bool.and_eq_true, decide_eq_true_eq] at ha hb
  rw [Bool.eq_iff_iff]
  simp only [beq_iff_eq, Bool.or_eq_true, decide_eq_true_eq]
  split <;> omega
set_option maxHeartbeats 20000000 in
theorem SayOk_ok (s : Sy) (hT : Tabs w0) (hb : BigS s) : AFn Tryd.prog w0 80 #[.agg s.enc.toArray] H fun v H2 => v = .bool (sayB s) ∧ H2 = H := by
  refine AFn.scal rfl Tryd.func80 rfl (by kernel_rfl) ?_
  have r := Tryd.results80
  simp only [go_sem, cond, Nat.reduceAdd, Nat.reduceLeDiff, Nat.reduceEqDiff, Nat.reduceBEq, decide_true, decide_false, Int.toNat_natCast, r]
  simp only [go_sem, cond, Nat.reduceAdd, Nat.reduceLeDiff, Nat.reduceEqDiff, Nat.reduceBEq, decide_true, decide_false, Int.toNat_natCast, Sy.enc, r]
  (refine xw_open (id := 1) [0, 0, 2, 7, 15, 31, 63, 127, 255, 511, 1023, 2047, 4095, 8191, 16383, 32767, 65535, 131071, 262143, 524287, 1048575, 2097151, 4194303, 8388607, 16777215, 33554431] [.l 0, .q 1, .e 2, .d 0, .q 3, .q 4, .q 5, .q 6, .q 7, .q 8, .q 9, .q 10, .e 11, .q 12, .q 13, .q 14, .q 15, .q 16, .q 17, .q 18, .q 19, .q 20, .q 21, .e 22, .q 23, .q 24, .q 25] rfl (by kernel_rfl) ?_; simp only [go_sem, cond, Nat.reduceAdd, Nat.reduceLeDiff, Nat.reduceEqDiff, Nat.reduceBEq, decide_true, decide_false, Int.toNat_natCast, r])
  refine call_eq (bareS_ok _ _ s) ?_
  simp only [go_sem, cond, Nat.reduceAdd, Nat.reduceLeDiff, Nat.reduceEqDiff, Nat.reduceBEq, decide_true, decide_false, Int.toNat_natCast, r, Sy.enc]
  rw [show (s.kind == (cleanS s).kind && (s.room.toList == (cleanS s).room.toList && (s.nick.toList == (cleanS s).nick.toList && (s.name.toList == (cleanS s).name.toList && (s.id.toList == (cleanS s).id.toList && (s.ref.toList == (cleanS s).ref.toList && (s.text.toList == (cleanS s).text.toList && (s.num == (cleanS s).num && (s.frm == (cleanS s).frm && (s.back == (cleanS s).back && true)))))))))) = xS s from rfl]
  repeat' (first
    | (refine Br_intro ?_ ?_ <;> intro h <;> simp only [go_sem, cond, Nat.reduceAdd, Nat.reduceLeDiff, Nat.reduceEqDiff, Nat.reduceBEq, decide_true, decide_false, Int.toNat_natCast, h, r])
    | (refine call_eq (userOk_ok _ _ _ hb.rm) ?_; simp only [go_sem, cond, Nat.reduceAdd, Nat.reduceLeDiff, Nat.reduceEqDiff, Nat.reduceBEq, decide_true, decide_false, Int.toNat_natCast, r])
    | (refine call_eq (userOk_ok _ _ _ hb.na) ?_; simp only [go_sem, cond, Nat.reduceAdd, Nat.reduceLeDiff, Nat.reduceEqDiff, Nat.reduceBEq, decide_true, decide_false, Int.toNat_natCast, r])
    | (refine call_eq (nickOk_ok _ _ _ hT hb.ni) ?_; simp only [go_sem, cond, Nat.reduceAdd, Nat.reduceLeDiff, Nat.reduceEqDiff, Nat.reduceBEq, decide_true, decide_false, Int.toNat_natCast, r])
    | (refine call_eq (bodyOk_ok _ _ _ hT hb.tx) ?_; simp only [go_sem, cond, Nat.reduceAdd, Nat.reduceLeDiff, Nat.reduceEqDiff, Nat.reduceBEq, decide_true, decide_false, Int.toNat_natCast, r])
    | (refine call_eq (wordOk_ok _ _ _ hb.id) ?_; simp only [go_sem, cond, Nat.reduceAdd, Nat.reduceLeDiff, Nat.reduceEqDiff, Nat.reduceBEq, decide_true, decide_false, Int.toNat_natCast, r])
    | (refine call_eq (wordOk_ok _ _ _ hb.tx) ?_; simp only [go_sem, cond, Nat.reduceAdd, Nat.reduceLeDiff, Nat.reduceEqDiff, Nat.reduceBEq, decide_true, decide_false, Int.toNat_natCast, r])
    | (refine call_eq (wordOk_ok _ _ _ hb.rf) ?_; simp only [go_sem, cond, Nat.reduceAdd, Nat.reduceLeDiff, Nat.reduceEqDiff, Nat.reduceBEq, decide_true, decide_false, Int.toNat_natCast, r])
    | (refine call_eq (orEmpty_ok _ _ _ _ wordB (wordOk_ok _ _ _ hb.rf)) ?_; simp only [go_sem, cond, Nat.reduceAdd, Nat.reduceLeDiff, Nat.reduceEqDiff, Nat.reduceBEq, decide_true, decide_false, Int.toNat_natCast, r])
    | (refine call_eq (orEmpty_ok _ _ _ _ userB (userOk_ok _ _ _ hb.na)) ?_; simp only [go_sem, cond, Nat.reduceAdd, Nat.reduceLeDiff, Nat.reduceEqDiff, Nat.reduceBEq, decide_true, decide_false, Int.toNat_natCast, r])
    | (refine call_eq (count_ok _ _ _) ?_; simp only [go_sem, cond, Nat.reduceAdd, Nat.reduceLeDiff, Nat.reduceEqDiff, Nat.reduceBEq, decide_true, decide_false, Int.toNat_natCast, r])
    | (refine call_eq (within_ok _ _ _ _ _) ?_; simp only [go_sem, cond, Nat.reduceAdd, Nat.reduceLeDiff, Nat.reduceEqDiff, Nat.reduceBEq, decide_true, decide_false, Int.toNat_natCast, r]))
  all_goals first
    | (exfalso
       clear hb r
       simp only [beq_iff_eq, beq_eq_false_iff_ne, decide_eq_true_eq, decide_eq_false_iff_not] at *
       omega)
    | skip
  all_goals refine ⟨congrArg Value.bool ?_, _, rfl⟩
  all_goals clear hb r
  all_goals first
    | (simp only [sayB, restS, *, Bool.true_and, Bool.false_and, Bool.and_true, Bool.and_false, Bool.not_true, Bool.not_false, Bool.true_or, Bool.or_true, Bool.false_or, Bool.or_false, if_true, Bool.false_eq_true, if_false]; done)
    | (rw [minB (a := s.frm) (b := s.back) (by assumption) (by assumption)]; simp only [sayB, restS, *, Bool.true_and, Bool.false_and, Bool.and_true, Bool.and_false, Bool.not_true, Bool.not_false, Bool.true_or, Bool.or_true, Bool.false_or, Bool.or_false, if_true, Bool.false_eq_true, if_false]; done)
    | trace_state
end Go.Proofs.YtmacpgoclhgafaaDoorW.FA

namespace Go.Proofs.YtmacpgoclhgafaaDoorW.FA
open Go.RowKit Go.Proofs.YtmacpgoclhgafaaDoorW.XM Go.Proofs Go.Proofs.YtmacpgoclhgafaaDoorW.XWords
set_option maxRecDepth 100000
set_option linter.unusedSimpArgs false
set_option linter.unusedVariables false
variable (w0 : World) (H : Hp)
def rngB (s : Sy) : Bool := (!decide (6 ≤ s.kind) || userB s.room) && ((!decide (8 ≤ s.kind) || wordB s.id) && restS s)
set_option maxHeartbeats 20000000 in
theorem l5Ranged_ok (s : Sy) (hb : BigS s) : AFn Tryd.prog w0 137 #[.agg s.enc.toArray] H fun v H2 => v = .bool (rngB s) ∧ H2 = H := by
  refine AFn.scal rfl Tryd.func137 rfl (by kernel_rfl) ?_
  have r := Tryd.results137
  simp only [go_sem, cond, Nat.reduceAdd, Nat.reduceLeDiff, Nat.reduceEqDiff, Nat.reduceBEq, decide_true, decide_false, Int.toNat_natCast, r]
  simp only [go_sem, cond, Nat.reduceAdd, Nat.reduceLeDiff, Nat.reduceEqDiff, Nat.reduceBEq, decide_true, decide_false, Int.toNat_natCast, Sy.enc, r]
  repeat' (first
    | (refine Br_intro ?_ ?_ <;> intro h <;> simp only [go_sem, cond, Nat.reduceAdd, Nat.reduceLeDiff, Nat.reduceEqDiff, Nat.reduceBEq, decide_true, decide_false, Int.toNat_natCast, h, r])
    | (refine call_eq (l4User_ok _ _ _ hb.rm) ?_; simp only [go_sem, cond, Nat.reduceAdd, Nat.reduceLeDiff, Nat.reduceEqDiff, Nat.reduceBEq, decide_true, decide_false, Int.toNat_natCast, r])
    | (refine call_eq (l4User_ok _ _ _ hb.na) ?_; simp only [go_sem, cond, Nat.reduceAdd, Nat.reduceLeDiff, Nat.reduceEqDiff, Nat.reduceBEq, decide_true, decide_false, Int.toNat_natCast, r])
    | (refine call_eq (l4Nick_ok _ _ _ hb.ni) ?_; simp only [go_sem, cond, Nat.reduceAdd, Nat.reduceLeDiff, Nat.reduceEqDiff, Nat.reduceBEq, decide_true, decide_false, Int.toNat_natCast, r])
    | (refine call_eq (l5Body_ok _ _ _ hb.tx) ?_; simp only [go_sem, cond, Nat.reduceAdd, Nat.reduceLeDiff, Nat.reduceEqDiff, Nat.reduceBEq, decide_true, decide_false, Int.toNat_natCast, r])
    | (refine call_eq (l5Word_ok _ _ _ hb.id) ?_; simp only [go_sem, cond, Nat.reduceAdd, Nat.reduceLeDiff, Nat.reduceEqDiff, Nat.reduceBEq, decide_true, decide_false, Int.toNat_natCast, r])
    | (refine call_eq (l5Word_ok _ _ _ hb.tx) ?_; simp only [go_sem, cond, Nat.reduceAdd, Nat.reduceLeDiff, Nat.reduceEqDiff, Nat.reduceBEq, decide_true, decide_false, Int.toNat_natCast, r])
    | (refine call_eq (l5Word_ok _ _ _ hb.rf) ?_; simp only [go_sem, cond, Nat.reduceAdd, Nat.reduceLeDiff, Nat.reduceEqDiff, Nat.reduceBEq, decide_true, decide_false, Int.toNat_natCast, r])
    | (refine call_eq (l1In_ok _ _ _ _ _) ?_; simp only [go_sem, cond, Nat.reduceAdd, Nat.reduceLeDiff, Nat.reduceEqDiff, Nat.reduceBEq, decide_true, decide_false, Int.toNat_natCast, r]))
  all_goals refine ⟨congrArg Value.bool ?_, _, rfl⟩
  all_goals clear hb r
  all_goals first
    | (rename (s.kind == _) = true => hk
       obtain hk := eq_of_beq hk
       simp only [rngB, restS, orB, emB, hk, *]
       simp_all [emB]
       done)
    | (simp only [rngB, restS, *, Bool.false_eq_true, if_false, Bool.and_false]; done)
    | trace_state
theorem l5Ok_ok (s : Sy) (hb : BigS s) : AFn Tryd.prog w0 84 #[.agg s.enc.toArray] H fun v H2 => v = .bool (sayB s) ∧ H2 = H := by
  refine AFn.scal rfl Tryd.func84 rfl (by kernel_rfl) ?_
  have r := Tryd.results84
  simp only [go_sem, cond, Nat.reduceAdd, Nat.reduceLeDiff, Nat.reduceEqDiff, Nat.reduceBEq, decide_true, decide_false, Int.toNat_natCast, r]
  simp only [go_sem, cond, Nat.reduceAdd, Nat.reduceLeDiff, Nat.reduceEqDiff, Nat.reduceBEq, decide_true, decide_false, Int.toNat_natCast, Sy.enc, r]
  (refine xw_open (id := 1) [0, 1, 0, 7, 15, 31, 63, 127, 255] [.q 0, .l 2, .e 1, .d 2, .q 3, .q 4, .q 5, .e 6, .q 7, .q 8] rfl (by kernel_rfl) ?_; simp only [go_sem, cond, Nat.reduceAdd, Nat.reduceLeDiff, Nat.reduceEqDiff, Nat.reduceBEq, decide_true, decide_false, Int.toNat_natCast, r])
  refine call_eq (l5Clean_ok _ _ s) ?_
  simp only [go_sem, cond, Nat.reduceAdd, Nat.reduceLeDiff, Nat.reduceEqDiff, Nat.reduceBEq, decide_true, decide_false, Int.toNat_natCast, r, Sy.enc]
  rw [show ((cleanS s).kind == s.kind && ((cleanS s).room.toList == s.room.toList && ((cleanS s).nick.toList == s.nick.toList && ((cleanS s).name.toList == s.name.toList && ((cleanS s).id.toList == s.id.toList && ((cleanS s).ref.toList == s.ref.toList && ((cleanS s).text.toList == s.text.toList && ((cleanS s).num == s.num && ((cleanS s).frm == s.frm && ((cleanS s).back == s.back && true)))))))))) = xS s from eqS_comm _ _]
  refine Br_intro ?_ ?_ <;> intro h <;> simp only [go_sem, cond, Nat.reduceAdd, Nat.reduceLeDiff, Nat.reduceEqDiff, Nat.reduceBEq, decide_true, decide_false, Int.toNat_natCast, h, r]
  · refine call_eq (l5Ranged_ok _ _ s hb) ?_
    simp only [go_sem, cond, Nat.reduceAdd, Nat.reduceLeDiff, Nat.reduceEqDiff, Nat.reduceBEq, decide_true, decide_false, Int.toNat_natCast, r]
    exact ⟨by rw [sayB, h, Bool.true_and]; rfl, _, rfl⟩
  · exact ⟨by rw [sayB, h, Bool.false_and], _, rfl⟩
end Go.Proofs.YtmacpgoclhgafaaDoorW.FA

namespace Go.Proofs.YtmacpgoclhgafaaDoorW.FA
open Go.RowKit Go.Proofs.YtmacpgoclhgafaaDoorW.XM Go.Proofs Go.Proofs.YtmacpgoclhgafaaDoorW.XWords
set_option maxRecDepth 100000
set_option linter.unusedSimpArgs false
set_option linter.unusedVariables false
variable (w0 : World) (H : Hp)
/-- Something said in a room, by anyone or by one user. -/
def tkB (ro us : ByteArray) (e : En) : Bool := (e.room.toList == ro.toList) && ((e.kind == 3) && (emB us || (e.user.toList == us.toList)))
def tk (ro us : ByteArray) (es : List En) : List En := es.filter (tkB ro us)
theorem tk_drop (ro us : ByteArray) (es : List En) (i : Nat) (hi : i < es.length) : tk ro us (es.drop i) = if tkB ro us es[i] = true then es[i] :: tk ro us (es.drop (i + 1)) else tk ro us (es.drop (i + 1)) := by
  rw [List.drop_eq_getElem_cons hi, tk, List.filter_cons]; rfl
theorem tk_le (ro us : ByteArray) (es : List En) : (tk ro us es).length ≤ es.length := List.length_filter_le _ _
theorem l7Of_ok (A : Option Addr) (c : Nat) (es : List En) (ro us : ByteArray) (hs : Sl w0 H A 9 (es.map En.enc)) (hl : es.length ≤ 2000000) : AFn Tryd.prog w0 96 #[.slice A es.length c, .string ro, .string us] H fun v H2 => ∃ g, H2 = Hx H (some (.row 37 (flat En.enc (tk ro us es))) :: g) ∧ v = .slice (some ⟨nid H 0, 0, some ((tk ro us es).length * 9)⟩) (tk ro us es).length (tk ro us es).length := by
  have hb : ∀ (X : Option Ob) (g : List (Option Ob)) (Y : Option Ob), (X :: (g ++ [Y]))[g.length + 1]? = some Y := fun X g Y => by rw [List.getElem?_cons_succ, List.getElem?_append_right (Nat.le_refl _)]; simp
  have hb2 : ∀ (X : Option Ob) (g r : List (Option Ob)) (Y : Option Ob), (X :: (g ++ Y :: r))[g.length + 1]? = some Y := fun X g r Y => by rw [List.getElem?_cons_succ, List.getElem?_append_right (Nat.le_refl _)]; simp
  have hb3 : ∀ (g : List (Option Ob)) (Y : Option Ob) (r : List (Option Ob)), (g ++ Y :: r)[g.length]? = some Y := fun g Y r => by rw [List.getElem?_append_right (Nat.le_refl _)]; simp
  have si0 : ∀ (g r : List (Option Ob)) (Z : Option Ob), (g ++ r).set g.length Z = g ++ r.set 0 Z := fun g r Z => by rw [List.set_append_right _ _ (by omega)]; simp
  have gi : ∀ (g r : List (Option Ob)) (k : Nat), (g ++ r)[g.length + k]? = r[k]? := fun g r k => by rw [List.getElem?_append_right (by omega)]; simp
  have htl := tk_le ro us es
  refine AFn_nil ?_
  refine AFn_of Tryd.func96 rfl (by kernel_rfl) ?_
  have r := Tryd.results96
  simp only [go_sem, cond, Nat.reduceAdd, Nat.reduceLeDiff, Nat.reduceEqDiff, Nat.reduceBEq, decide_true, decide_false, Int.toNat_natCast, List.length_append, List.cons_append, List.length_cons, List.set_cons_zero, List.append_assoc, List.nil_append, r]
  refine Req_intro ⟨_, rfl, rfl⟩ ?_
  simp only [go_sem, cond, Nat.reduceAdd, Nat.reduceLeDiff, Nat.reduceEqDiff, Nat.reduceBEq, decide_true, decide_false, Int.toNat_natCast, List.length_append, List.cons_append, List.length_cons, List.set_cons_zero, List.append_assoc, List.nil_append, r]
  refine xw_loop (fun (i : Nat) T H' => i ≤ es.length ∧ T 0 = .slice A es.length c ∧ T 1 = .string ro ∧ T 2 = .string us ∧ T 8 = .int .i64 i ∧ ∃ K G, T 7 = .slice (some ⟨nid H 0, 0, some (K.length * 9)⟩) K.length K.length ∧ H' = Hx H (some (.row 37 (flat En.enc K)) :: G) ∧ K ++ tk ro us (es.drop i) = tk ro us es) (fun i => es.length - i) 0 (by kernel_rfl) ⟨Nat.zero_le _, rfl, rfl, rfl, rfl, [], [], rfl, rfl, rfl⟩ ?_
  rintro i T H' ⟨hi, t0, t1, t2, t8, K, G, t7, rfl, he⟩
  have hKl : K.length ≤ 2000000 := by
    have := congrArg List.length he
    rw [List.length_append] at this
    omega
  by_cases hlt : i < es.length
  · obtain ⟨b, o, sp, rfl, hc, hw⟩ := mcell hs hlt
    have c0 := fun L => hc 0 (.string es[i].room) L (by decide) rfl
    have c2 := fun L => hc 2 (.int .i64 es[i].kind) L (by decide) rfl
    have c3 := fun L => hc 3 (.string es[i].user) L (by decide) rfl
    have cw := fun L => hw L rfl
    have d1 : ((i : Int) < (es.length : Int)) = True := eq_true (by omega)
    have d2 : (0 ≤ (i : Int)) = True := eq_true (by omega)
    rw [tk_drop _ _ _ i hlt] at he
    simp only [En.enc] at cw
    simp only [go_sem, cond, Nat.reduceAdd, Nat.reduceLeDiff, Nat.reduceEqDiff, Nat.reduceBEq, decide_true, decide_false, Int.toNat_natCast, t0, t1, t2, t7, t8, d1, d2, c0, c2, c3, cw, hb, hb2, hb3, si0, gi, List.set_cons_succ, List.length_append, List.cons_append, List.length_cons, List.set_cons_zero, List.append_assoc, List.nil_append, r]
    repeat' (first
      | (refine Br_intro ?_ ?_ <;> intro h <;> simp only [go_sem, cond, Nat.reduceAdd, Nat.reduceLeDiff, Nat.reduceEqDiff, Nat.reduceBEq, decide_true, decide_false, Int.toNat_natCast, t0, t1, t2, t7, t8, d1, d2, c0, c2, c3, cw, hb, hb2, hb3, si0, gi, List.set_cons_succ, List.length_append, List.cons_append, List.length_cons, List.set_cons_zero, List.append_assoc, List.nil_append, r, h])
      | (refine Req_intro ⟨_, rfl, rfl⟩ ?_
         simp only [go_sem, cond, Nat.reduceAdd, Nat.reduceLeDiff, Nat.reduceEqDiff, Nat.reduceBEq, decide_true, decide_false, Int.toNat_natCast, t0, t1, t2, t7, t8, d1, d2, c0, c2, c3, cw, hb, hb2, hb3, si0, gi, List.set_cons_succ, List.length_append, List.cons_append, List.length_cons, List.set_cons_zero, List.append_assoc, List.nil_append, r]
         refine appS_full (m := 1) (sl := K.length) _ _ _ _ _ _ _ 0 _ _ _ rfl rfl (flat_len elen _) XF.lay_37 (by decide) (by rfl) (by omega) (by omega) ?_
         simp only [go_sem, cond, Nat.reduceAdd, Nat.reduceLeDiff, Nat.reduceEqDiff, Nat.reduceBEq, decide_true, decide_false, Int.toNat_natCast, t0, t1, t2, t7, t8, d1, d2, c0, c2, c3, cw, hb, hb2, hb3, si0, gi, List.set_cons_succ, List.length_append, List.cons_append, List.length_cons, List.set_cons_zero, List.append_assoc, List.nil_append, r]))
    all_goals first
      | (rw [if_pos (by simp only [tkB, emB, *, Bool.and_true, Bool.true_and, Bool.true_or, Bool.or_true, Bool.false_or])] at he
         exact ⟨i + 1, ⟨hlt, t0, t1, t2, int_succ hlt (by omega), K ++ [es[i]], _, by rw [List.length_append]; rfl, by rw [flat_app]; rfl, by rw [List.append_assoc]; exact he⟩, lt_meas hlt⟩)
      | (rw [if_neg (by simp only [tkB, emB, *, Bool.and_true, Bool.true_and, Bool.false_and, Bool.and_false, Bool.false_or, Bool.or_self]; decide)] at he
         exact ⟨i + 1, ⟨hlt, t0, t1, t2, int_succ hlt (by omega), K, _, t7, rfl, he⟩, lt_meas hlt⟩)
  · obtain rfl : i = es.length := by omega
    have d1 : ((es.length : Int) < (es.length : Int)) = False := eq_false (by omega)
    rw [List.drop_length] at he
    obtain rfl : K = tk ro us es := by rw [← he]; exact (List.append_nil _).symm
    simp only [go_sem, cond, Nat.reduceAdd, Nat.reduceLeDiff, Nat.reduceEqDiff, Nat.reduceBEq, decide_true, decide_false, Int.toNat_natCast, t0, t1, t2, t7, t8, d1, List.length_append, List.cons_append, List.length_cons, List.set_cons_zero, List.append_assoc, List.nil_append, r]
    exact ⟨_, rfl⟩
end Go.Proofs.YtmacpgoclhgafaaDoorW.FA

namespace Go.Proofs.YtmacpgoclhgafaaDoorW.FA
open Go.RowKit Go.Proofs.YtmacpgoclhgafaaDoorW.XM Go.Proofs Go.Proofs.YtmacpgoclhgafaaDoorW.XWords
set_option maxRecDepth 100000
set_option linter.unusedSimpArgs false
set_option linter.unusedVariables false
variable (w0 : World) (H : Hp)
end Go.Proofs.YtmacpgoclhgafaaDoorW.FA

namespace Go.Proofs.YtmacpgoclhgafaaDoorW.FA
open Go.RowKit Go.Proofs.YtmacpgoclhgafaaDoorW.XM Go.Proofs Go.Proofs.YtmacpgoclhgafaaDoorW.XWords
set_option maxRecDepth 100000
set_option linter.unusedSimpArgs false
set_option linter.unusedVariables false
variable (w0 : World) (H : Hp)
/-- What has happened lies nowhere, or in an object of one's own. -/
def OutAt (H : Hp) (n : Nat) (g : List (Option Ob)) (o : Value) (es : List En) : Prop := (es = [] ∧ o = .slice none 0 0) ∨ ∃ k, g[k]? = some (some (.row 37 (flat En.enc es))) ∧ es ≠ [] ∧ o = .slice (some ⟨nid H (n + k), 0, some (es.length * 9)⟩) es.length es.length
end Go.Proofs.YtmacpgoclhgafaaDoorW.FA

namespace Go.Proofs.YtmacpgoclhgafaaDoorW.FA
open Go.RowKit Go.Proofs.YtmacpgoclhgafaaDoorW.XM Go.Proofs Go.Proofs.YtmacpgoclhgafaaDoorW.XWords
set_option maxRecDepth 100000
set_option linter.unusedSimpArgs false
set_option linter.unusedVariables false
variable (w0 : World) (H : Hp)
end Go.Proofs.YtmacpgoclhgafaaDoorW.FA

namespace Go.Proofs.YtmacpgoclhgafaaDoorW.FA
open Go.RowKit Go.Proofs.YtmacpgoclhgafaaDoorW.XM Go.Proofs Go.Proofs.YtmacpgoclhgafaaDoorW.XWords
set_option maxRecDepth 100000
set_option linter.unusedSimpArgs false
set_option linter.unusedVariables false
variable (w0 : World) (H : Hp)
end Go.Proofs.YtmacpgoclhgafaaDoorW.FA

namespace Go.Proofs.YtmacpgoclhgafaaDoorW.FA
open Go.RowKit Go.Proofs.YtmacpgoclhgafaaDoorW.XM Go.Proofs Go.Proofs.YtmacpgoclhgafaaDoorW.XWords
set_option maxRecDepth 100000
set_option linter.unusedSimpArgs false
set_option linter.unusedVariables false
variable (w0 : World) (H : Hp)
theorem OutAt.shift {H : Hp} {n : Nat} {G g : List (Option Ob)} {o : Value} {es : List En} (h : OutAt H (n + G.length) g o es) : OutAt H n (G ++ g) o es := by
  rcases h with h | ⟨k, a, b, c⟩
  · exact .inl h
  · exact .inr ⟨G.length + k, by rw [List.getElem?_append_right (by omega), Nat.add_sub_cancel_left]; exact a, b, by rw [c, Nat.add_assoc]⟩
end Go.Proofs.YtmacpgoclhgafaaDoorW.FA

namespace Go.Proofs.YtmacpgoclhgafaaDoorW.FA
open Go.RowKit Go.Proofs.YtmacpgoclhgafaaDoorW.XM Go.Proofs Go.Proofs.YtmacpgoclhgafaaDoorW.XWords
set_option maxRecDepth 100000
set_option linter.unusedSimpArgs false
set_option linter.unusedVariables false
variable (w0 : World) (H : Hp)
theorem clipE_ok (j o tag n c : Nat) (cs : List Value) (hj : H[j]? = some (some (.row 37 cs))) (hl : cs.length = tag) (hn : n ≤ c) : AFn Tryd.prog w0 82 #[.slice (some ⟨j, o, some tag⟩) n c] H fun v H2 => v = .slice (some ⟨j, o, some tag⟩) n n ∧ H2 = H := by
  refine AFn.scal (by simp [ren3, ren2, ren1, rho, lt_of_get hj]) Tryd.func82 rfl (by kernel_rfl) ?_
  have r := Tryd.results82
  simp only [go_sem, cond, Nat.reduceAdd, Nat.reduceLeDiff, Nat.reduceEqDiff, Nat.reduceBEq, decide_true, decide_false, Int.toNat_natCast, r]
  refine slc_clip XF.elm_48 hn _ _ _ _ ⟨_, cs, _, Hx_old hj [], hl, XF.lay_37⟩ ?_
  simp only [go_sem, cond, Nat.reduceAdd, Nat.reduceLeDiff, Nat.reduceEqDiff, Nat.reduceBEq, decide_true, decide_false, Int.toNat_natCast, r]
  exact ⟨_, rfl⟩
end Go.Proofs.YtmacpgoclhgafaaDoorW.FA

namespace Go.Proofs.YtmacpgoclhgafaaDoorW.FA
open Go.RowKit Go.Proofs.YtmacpgoclhgafaaDoorW.XM Go.Proofs Go.Proofs.YtmacpgoclhgafaaDoorW.XWords
set_option maxRecDepth 100000
set_option linter.unusedSimpArgs false
set_option linter.unusedVariables false
variable (w0 : World) (H : Hp)
def isAt (k : Int) (e : En) : Bool := e.seq == k
theorem l7At_ok (A : Option Addr) (c : Nat) (es : List En) (k : Int) (hs : Sl w0 H A 9 (es.map En.enc)) (hl : es.length ≤ 2000000) : AFn Tryd.prog w0 140 #[.slice A es.length c, .int .i64 k] H fun v H2 => v = .int .i64 (idxP (isAt k) es 0) ∧ H2 = H := by
  refine AFn.scal rfl Tryd.func140 rfl (by kernel_rfl) ?_
  have r := Tryd.results140
  simp only [go_sem, cond, Nat.reduceAdd, Nat.reduceLeDiff, Nat.reduceEqDiff, Nat.reduceBEq, decide_true, decide_false, Int.toNat_natCast, r]
  refine xw_loop (fun (i : Nat) T H' => i ≤ es.length ∧ idxP (isAt k) (es.drop i) i = idxP (isAt k) es 0 ∧ T 0 = .slice A es.length c ∧ T 1 = .int .i64 k ∧ T 5 = .int .i64 i ∧ H' = Hx H []) (fun i => es.length - i) 0 (by kernel_rfl) ⟨Nat.zero_le _, rfl, rfl, rfl, rfl, rfl⟩ ?_
  rintro i T H' ⟨hi, he, t0, t1, t5, rfl⟩
  by_cases hlt : i < es.length
  · obtain ⟨b, o, sp, rfl, hc, _⟩ := mcell hs hlt
    have c0 := hc 1 (.int .i64 es[i].seq) [] (by decide) rfl
    have d1 : ((i : Int) < (es.length : Int)) = True := eq_true (by omega)
    have d2 : (0 ≤ (i : Int)) = True := eq_true (by omega)
    rw [idxP_drop _ _ i hlt] at he
    simp only [go_sem, cond, Nat.reduceAdd, Nat.reduceLeDiff, Nat.reduceEqDiff, Nat.reduceBEq, decide_true, decide_false, Int.toNat_natCast, t0, t1, t5, d1, d2, c0]
    refine Br_intro ?_ ?_ <;> intro h <;> simp only [go_sem, cond, Nat.reduceAdd, Nat.reduceLeDiff, Nat.reduceEqDiff, Nat.reduceBEq, decide_true, decide_false, Int.toNat_natCast, t0, t1, t5, h, r]
    · rw [if_pos (show isAt k es[i] = true from h)] at he
      exact ⟨by rw [he], _, rfl⟩
    · rw [if_neg (show ¬ isAt k es[i] = true by rw [isAt, h]; decide)] at he
      exact ⟨i + 1, ⟨hlt, he, t0, t1, int_succ hlt (by omega), rfl⟩, lt_meas hlt⟩
  · obtain rfl : i = es.length := by omega
    have d1 : ((es.length : Int) < (es.length : Int)) = False := eq_false (by omega)
    rw [List.drop_length] at he
    simp only [go_sem, cond, Nat.reduceAdd, Nat.reduceLeDiff, Nat.reduceEqDiff, Nat.reduceBEq, decide_true, decide_false, Int.toNat_natCast, t0, t1, t5, d1, r]
    exact ⟨by rw [← he]; rfl, _, rfl⟩
theorem l7Copy_ok (a : Addr) (rows : List En) (c : Nat) (hs : ∀ L, srcO rows.length (rd w0 (Hx H L) a (rows.length * 9)) = some (rows.length, flat En.enc rows)) (hl : rows.length ≤ 2000000) : AFn Tryd.prog w0 141 #[.slice (some a) rows.length c] H fun v H2 => v = .slice (some ⟨nid H 0, 0, some (rows.length * 9)⟩) rows.length rows.length ∧ H2 = Hx H [some (.row 37 (flat En.enc rows))] := by
  refine AFn.news Tryd.func141 rfl (by kernel_rfl) ?_
  have r := Tryd.results141
  simp only [go_sem, cond, Nat.reduceAdd, Nat.reduceLeDiff, Nat.reduceEqDiff, Nat.reduceBEq, decide_true, decide_false, Int.toNat_natCast, r]
  refine Req_intro ⟨_, rfl, rfl⟩ ?_
  simp only [go_sem, cond, Nat.reduceAdd, Nat.reduceLeDiff, Nat.reduceEqDiff, Nat.reduceBEq, decide_true, decide_false, Int.toNat_natCast, r, hs]
  refine appS_full _ _ _ _ _ _ _ _ 0 0 _ _ _ rfl rfl rfl XF.lay_37 (by decide) (flat_len elen _) (by omega) (by omega) ?_
  simp only [go_sem, cond, Nat.reduceAdd, Nat.reduceLeDiff, Nat.reduceEqDiff, Nat.reduceBEq, decide_true, decide_false, Int.toNat_natCast, r, Nat.zero_add, List.nil_append]
  refine ⟨_, [0], _, rfl, ?_, by decide, by simp only [ren3, ren2, ren1, rho_nid, idx_hit, Option.map_some], rfl, rfl⟩
  intro k hk
  simp only [List.mem_singleton] at hk
  subst hk
  exact flat_plain (fun _ => rfl) rows
theorem cloneE_ok (a : Addr) (rows : List En) (c : Nat) (hs : ∀ L, srcO rows.length (rd w0 (Hx H L) a (rows.length * 9)) = some (rows.length, flat En.enc rows)) (hl : rows.length ≤ 2000000) : AFn Tryd.prog w0 89 #[.slice (some a) rows.length c] H fun v H2 => v = .slice (some ⟨nid H 0, 0, some (rows.length * 9)⟩) rows.length rows.length ∧ H2 = Hx H [some (.row 37 (flat En.enc rows))] := by
  refine AFn.news Tryd.func89 rfl (by kernel_rfl) ?_
  have r := Tryd.results89
  simp only [go_sem, cond, Nat.reduceAdd, Nat.reduceLeDiff, Nat.reduceEqDiff, Nat.reduceBEq, decide_true, decide_false, Int.toNat_natCast, r]
  refine Req_intro ⟨_, rfl, rfl⟩ ?_
  simp only [go_sem, cond, Nat.reduceAdd, Nat.reduceLeDiff, Nat.reduceEqDiff, Nat.reduceBEq, decide_true, decide_false, Int.toNat_natCast, r, hs]
  refine appS_full _ _ _ _ _ _ _ _ 0 0 _ _ _ rfl rfl rfl XF.lay_37 (by decide) (flat_len elen _) (by omega) (by omega) ?_
  simp only [go_sem, cond, Nat.reduceAdd, Nat.reduceLeDiff, Nat.reduceEqDiff, Nat.reduceBEq, decide_true, decide_false, Int.toNat_natCast, r, Nat.zero_add, List.nil_append]
  refine ⟨_, [0], _, rfl, ?_, by decide, by simp only [ren3, ren2, ren1, rho_nid, idx_hit, Option.map_some], rfl, rfl⟩
  intro k hk
  simp only [List.mem_singleton] at hk
  subst hk
  exact flat_plain (fun _ => rfl) rows
end Go.Proofs.YtmacpgoclhgafaaDoorW.FA

namespace Go.Proofs.YtmacpgoclhgafaaDoorW.FA
open Go.RowKit Go.Proofs.YtmacpgoclhgafaaDoorW.XM Go.Proofs Go.Proofs.YtmacpgoclhgafaaDoorW.XWords
set_option maxRecDepth 100000
set_option linter.unusedSimpArgs false
set_option linter.unusedVariables false
variable (w0 : World) (H : Hp)
theorem idxP_all {α : Type} (p : α → Bool) : ∀ (l : List α) (i : Nat), (idxP p l i = -1 ∧ ∀ a ∈ l, p a = false) ∨ ∃ k, ∃ h : k < l.length, idxP p l i = ((i + k : Nat) : Int) ∧ p l[k] = true ∧ ∀ a ∈ l.take k, p a = false
  | [], _ => .inl ⟨rfl, by simp⟩
  | a :: r, i => by
    unfold idxP
    by_cases h : p a = true
    · rw [if_pos h]
      exact .inr ⟨0, by simp, by simp, by simpa using h, by simp⟩
    · rw [if_neg h]
      have h' : p a = false := by simpa using h
      rcases idxP_all p r (i + 1) with ⟨h1, h2⟩ | ⟨k, hk, h1, h2, h3⟩
      · refine .inl ⟨h1, fun x hx => ?_⟩
        rcases List.mem_cons.1 hx with rfl | hx
        · exact h'
        · exact h2 x hx
      · refine .inr ⟨k + 1, by simp; omega, by rw [h1]; congr 1; omega, by simpa using h2, fun x hx => ?_⟩
        rw [List.take_succ_cons] at hx
        rcases List.mem_cons.1 hx with rfl | hx
        · exact h'
        · exact h3 x hx
def kpt {α : Type} (p : α → Bool) (l : List α) : List α := l.filter fun a => !p a
theorem kpt_all {α : Type} {p : α → Bool} {l : List α} (h : ∀ a ∈ l, p a = false) : kpt p l = l := List.filter_eq_self.2 fun a ha => by simp [h a ha]
theorem kpt_take {α : Type} (p : α → Bool) (l : List α) (i : Nat) (hi : i < l.length) : kpt p (l.take (i + 1)) = if p l[i] = true then kpt p (l.take i) else kpt p (l.take i) ++ [l[i]] := by
  rw [List.take_add_one, List.getElem?_eq_getElem hi, kpt, List.filter_append]
  cases h : p l[i] <;> simp [kpt, h]
theorem set_idn {α : Type} {l : List α} {j : Nat} {x : α} (h : l[j]? = some x) : l.set j x = l := by
  apply List.ext_getElem?
  intro q
  rw [List.getElem?_set]
  by_cases e : j = q
  · subst e
    rw [if_pos rfl]
    have := lt_of_get h
    simp only [this, if_true, h]
  · rw [if_neg e]
theorem deleteE_ok (B : Hp) (l : List (Option Ob)) (j : Nat) (rows : List En) (g : FuncId) (fi ca : List Value) (p : En → Bool) (hj : l[j]? = some (some (.row 37 (flat En.enc rows)))) (hn : rows.length ≤ 2000000)
    (hp : ∀ (e : En) (M : List En) (G : List (Option Ob)), AFn Tryd.prog w0 g (fi ++ [Value.agg e.enc.toArray] ++ ca).toArray (Hx B (l.set j (some (.row 37 (flat En.enc M))) ++ G)) fun v H2 => v = .bool (p e) ∧ H2 = Hx B (l.set j (some (.row 37 (flat En.enc M))) ++ G)) :
    AFn Tryd.prog w0 88 #[.slice (some ⟨nid B j, 0, some (rows.length * 9)⟩) rows.length rows.length, .func (.func g) fi.toArray ca.toArray] (Hx B l) fun v H2 => ∃ G Z, H2 = Hx B (l.set j (some (.row 37 (flat En.enc (kpt p rows) ++ Z))) ++ G) ∧ (flat En.enc (kpt p rows) ++ Z).length = rows.length * 9 ∧ v = .slice (some ⟨nid B j, 0, some (rows.length * 9)⟩) (kpt p rows).length rows.length := by
  have hlj : j < l.length := lt_of_get hj
  have hset := set_idn hj
  refine AFn_of Tryd.func88 rfl (by kernel_rfl) ?_
  have r := Tryd.results88
  simp only [go_sem, cond, Nat.reduceAdd, Nat.reduceLeDiff, Nat.reduceEqDiff, Nat.reduceBEq, decide_true, decide_false, Int.toNat_natCast, r]
  refine call_eq (indexE_ok w0 (Hx B l) En.enc _ rows.length rows (Sl_own elen _ rows B l j hj) hn elen g fi ca p (fun i hi => ?_)) ?_
  · have := hp rows[i] rows []
    rw [hset, List.append_nil] at this
    exact this
  simp only [go_sem, cond, Nat.reduceAdd, Nat.reduceLeDiff, Nat.reduceEqDiff, Nat.reduceBEq, decide_true, decide_false, Int.toNat_natCast, r]
  rcases idxP_all p rows 0 with ⟨h1, h2⟩ | ⟨k, hk, h1, h2, h3⟩
  · rw [h1]
    have d1 : ((-1 : Int) == -1) = true := rfl
    simp only [go_sem, cond, Nat.reduceAdd, Nat.reduceLeDiff, Nat.reduceEqDiff, Nat.reduceBEq, decide_true, decide_false, Int.toNat_natCast, r, d1]
    refine ⟨[], [], ?_, ?_, ?_⟩
    · rw [List.append_nil, List.append_nil, kpt_all h2, hset]
    · rw [List.append_nil, kpt_all h2, flat_len elen]
    · rw [kpt_all h2]
  · rw [h1, Nat.zero_add]
    have d1 : ((k : Int) == -1) = false := by rw [beq_eq_false_iff_ne]; omega
    simp only [go_sem, cond, Nat.reduceAdd, Nat.reduceLeDiff, Nat.reduceEqDiff, Nat.reduceBEq, decide_true, decide_false, Int.toNat_natCast, r, d1]
    have gs : ∀ (X : Option Ob) (G : List (Option Ob)), (l.set j X ++ G)[j]? = some X := fun X G => by rw [List.getElem?_append_left (by simpa using hlj), List.getElem?_set_self hlj]
    have ss : ∀ (X Y : Option Ob) (G : List (Option Ob)), (l.set j X ++ G).set j Y = l.set j Y ++ G := fun X Y G => by rw [List.set_append_left _ _ (by simpa using hlj), List.set_set]
    have ls : ∀ X : Option Ob, (l.set j X).length = l.length := fun X => List.length_set ..
    refine xw_loop (fun (i : Nat) T H' => k < i ∧ i ≤ rows.length ∧ T 0 = .slice (some ⟨nid B j, 0, some (rows.length * 9)⟩) rows.length rows.length ∧ T 1 = .func (.func g) fi.toArray ca.toArray ∧ T 6 = .int .i64 i ∧ ∃ q G M, q < i ∧ T 5 = .int .i64 (q : Int) ∧ H' = Hx B (l.set j (some (.row 37 (flat En.enc M))) ++ G) ∧ M.length = rows.length ∧ q = (kpt p (rows.take i)).length ∧ M.take q = kpt p (rows.take i) ∧ M.drop i = rows.drop i) (fun i => rows.length - i) (k + 1) (by kernel_rfl) ?_ ?_
    · refine ⟨Nat.lt_succ_self _, hk, rfl, rfl, ?_, k, [], rows, Nat.lt_succ_self _, rfl, by rw [hset, List.append_nil], rfl, ?_, ?_, rfl⟩
      · exact int_succ (m := rows.length) hk (by omega)
      · rw [kpt_take p rows k hk, if_pos h2, kpt_all h3, List.length_take, Nat.min_eq_left (by omega)]
      · rw [kpt_take p rows k hk, if_pos h2, kpt_all h3]
    rintro i T H' ⟨hki, hi, t0, t1, t6, q, G, M, hq, t5, rfl, hM, eq, e1, e2⟩
    by_cases hlt : i < rows.length
    · have hMi : M[i] = rows[i] := by
        have a1 := congrArg (fun x : List En => x[0]?) e2
        simp only [List.getElem?_drop, Nat.add_zero] at a1
        rw [List.getElem?_eq_getElem (by omega), List.getElem?_eq_getElem hlt] at a1
        exact Option.some.inj a1
      obtain ⟨b, o, sp, hx, _, hc⟩ := mcell (Sl_own (w0 := w0) elen 37 M B (l.set j (some (.row 37 (flat En.enc M))) ++ G) j (gs _ _)) (i := i) (by omega)
      cases hx
      have c0 := hc [] (elen _)
      have d1 : ((i : Int) < (rows.length : Int)) = True := eq_true (by omega)
      have d2 : (0 ≤ (i : Int)) = True := eq_true (by omega)
      have d3 : (0 ≤ (q : Int)) = True := eq_true (by omega)
      have d4 : ((q : Int) < (rows.length : Int)) = True := eq_true (by omega)
      rw [hMi, hM, Hx_nil] at c0
      have hp1 := hp rows[i] M (G ++ [some (.row 37 rows[i].enc)])
      rw [← List.append_assoc] at hp1
      simp only [En.enc, Nat.zero_add] at c0 hp1
      have hb : ∀ (X : List (Option Ob)) (Y : Option Ob), (X ++ [Y])[X.length]? = some Y := fun X Y => by simp
      have sb : ∀ (X : List (Option Ob)) (Y Z : Option Ob), (X ++ [Y]).set X.length Z = X ++ [Z] := fun X Y Z => by rw [List.set_append_right _ _ (Nat.le_refl _)]; simp
      have sj : ∀ (X Y : Option Ob) (G G2 : List (Option Ob)), (l.set j X ++ G ++ G2).set j Y = l.set j Y ++ (G ++ G2) := fun X Y G G2 => by rw [List.append_assoc, ss]
      have gj : ∀ (X : Option Ob) (G G2 : List (Option Ob)), (l.set j X ++ G ++ G2)[j]? = some X := fun X G G2 => by rw [List.append_assoc, gs]
      simp only [go_sem, cond, Nat.reduceAdd, Nat.reduceLeDiff, Nat.reduceEqDiff, Nat.reduceBEq, decide_true, decide_false, Int.toNat_natCast, t0, t1, t5, t6, d1, d2, c0, hb, sb, r]
      refine call_eq hp1 ?_
      simp only [go_sem, cond, Nat.reduceAdd, Nat.reduceLeDiff, Nat.reduceEqDiff, Nat.reduceBEq, decide_true, decide_false, Int.toNat_natCast, t0, t1, t5, t6, d1, d2, c0, hb, sb, r]
      refine Br_intro ?_ ?_ <;> intro hx <;> simp only [go_sem, cond, Nat.reduceAdd, Nat.reduceLeDiff, Nat.reduceEqDiff, Nat.reduceBEq, decide_true, decide_false, Int.toNat_natCast, t0, t1, t5, t6, d1, d2, d3, d4, c0, hb, sb, sj, gj, hx, r]
      · refine ⟨i + 1, ⟨by omega, hlt, t0, t1, int_succ hlt (by omega), q, _, M, by omega, t5, by rw [List.append_assoc], hM, ?_, ?_, ?_⟩, lt_meas hlt⟩
        · rw [kpt_take p rows i hlt, if_pos hx]; exact eq
        · rw [kpt_take p rows i hlt, if_pos hx]; exact e1
        · rw [← List.drop_drop, ← List.drop_drop, e2]
      · have hlen := flat_len elen M
        rw [hM] at hlen
        refine Req_intro ⟨hlen, by rw [hlen]; omega⟩ ?_
        simp only [go_sem, cond, Nat.reduceAdd, Nat.reduceLeDiff, Nat.reduceEqDiff, Nat.reduceBEq, decide_true, decide_false, Int.toNat_natCast, t0, t1, t5, t6, d1, d2, d3, d4, c0, hb, sb, sj, gj, hx, r]
        have p0 := flat_set elen M q rows[i] (by omega)
        simp only [En.enc] at p0
        simp only [go_sem, cond, Nat.reduceAdd, Nat.reduceLeDiff, Nat.reduceEqDiff, Nat.reduceBEq, decide_true, decide_false, Int.toNat_natCast] at p0
        rw [p0]
        refine ⟨i + 1, ⟨by omega, hlt, t0, t1, int_succ hlt (by omega), q + 1, _, M.set q rows[i], by omega, int_succ (m := rows.length) (by omega) (by omega), rfl, by rw [List.length_set, hM], ?_, ?_, ?_⟩, lt_meas hlt⟩
        · rw [kpt_take p rows i hlt, if_neg (by rw [hx]; decide), List.length_append, ← eq]; rfl
        · rw [kpt_take p rows i hlt, if_neg (by rw [hx]; decide), ← e1, List.take_add_one, List.take_set_of_le (Nat.le_refl _), List.getElem?_set_self (by omega)]; rfl
        · rw [List.drop_set_of_lt (by omega), ← List.drop_drop, ← List.drop_drop, e2]
    · obtain rfl : i = rows.length := by omega
      have d1 : ((rows.length : Int) < (rows.length : Int)) = False := eq_false (by omega)
      simp only [go_sem, cond, Nat.reduceAdd, Nat.reduceLeDiff, Nat.reduceEqDiff, Nat.reduceBEq, decide_true, decide_false, Int.toNat_natCast, t0, t1, t5, t6, d1, r]
      rw [List.take_length] at eq e1
      have hlen := flat_len elen M
      rw [hM] at hlen
      have how : ∀ cs : List Value, cs.length = rows.length * 9 → Go.Proofs.YtmacpgoclhgafaaDoorW.XM.ownB Tryd.prog (Hx B (l.set j (some (.row 37 cs)) ++ G)) 9 (nid B j) (some (rows.length * 9)) := fun cs hcs => ⟨_, cs, false || true, by rw [Hx_get]; exact gs _ _, hcs, XF.lay_37⟩
      refine slc_sl XF.elm_48 rfl rfl _ _ _ _ (by omega) (by omega) (by omega) (how _ hlen) (.inr (by omega)) ?_
      have e5 : ((rows.length : Nat) : Int).toNat - ((q : Nat) : Int).toNat = rows.length - q := by omega
      rw [e5]
      simp only [go_sem, cond, Nat.reduceAdd, Nat.reduceLeDiff, Nat.reduceEqDiff, Nat.reduceBEq, decide_true, decide_false, Int.toNat_natCast, t0, t1, t5, t6, d1, r]
      have hle : q * 9 + (rows.length - q) * 9 ≤ rows.length * 9 := by omega
      refine clr_own _ rfl XF.elm_48 XF.zer_37 rfl (gs _ _) hlen XF.lay_37 hle ?_
      rw [ss]
      simp only [go_sem, cond, Nat.reduceAdd, Nat.reduceLeDiff, Nat.reduceEqDiff, Nat.reduceBEq, decide_true, decide_false, Int.toNat_natCast, t0, t1, t5, t6, d1, r]
      have hM2 : flat En.enc M = flat En.enc (kpt p rows) ++ flat En.enc (M.drop q) := by rw [← e1, ← flat_app, List.take_append_drop]
      have hq9 : (flat En.enc (kpt p rows)).length = q * 9 := by rw [flat_len elen, ← eq]
      generalize hz : (List.replicate (rows.length - q) [Value.string em, .int .i64 0, .int .i64 0, .string em, .string em, .string em, .string em, .string em, .int .i64 0]).flatten = Z
      have hZ : Z.length = (rows.length - q) * 9 := by rw [← hz]; simp
      have hp2 : putL (flat En.enc M) (q * 9) Z = flat En.enc (kpt p rows) ++ Z := by
        rw [hM2, ← hq9, putL_mid _ _ _ (by rw [flat_len elen, List.length_drop, hZ, hM]; exact Nat.le_refl _), List.drop_of_length_le (by rw [flat_len elen, List.length_drop, hZ, hM]; exact Nat.le_refl _), List.append_nil]
      have hlen2 : (flat En.enc (kpt p rows) ++ Z).length = rows.length * 9 := by rw [List.length_append, hq9, hZ]; omega
      simp only [em] at hz hp2
      try rw [hz]
      rw [hp2]
      refine slc_sl XF.elm_48 rfl rfl _ _ _ _ (by omega) (by omega) (by omega) (how _ hlen2) (.inl rfl) ?_
      simp only [go_sem, cond, Nat.reduceAdd, Nat.reduceLeDiff, Nat.reduceEqDiff, Nat.reduceBEq, decide_true, decide_false, Int.toNat_natCast, t0, t1, t5, t6, d1, r]
      refine ⟨G, Z, rfl, hlen2, ?_⟩
      rw [← eq]
      simp
end Go.Proofs.YtmacpgoclhgafaaDoorW.FA

namespace Go.Proofs.YtmacpgoclhgafaaDoorW.FA
open Go.RowKit Go.Proofs.YtmacpgoclhgafaaDoorW.XM Go.Proofs Go.Proofs.YtmacpgoclhgafaaDoorW.XWords
set_option maxRecDepth 100000
set_option linter.unusedSimpArgs false
set_option linter.unusedVariables false
variable (w0 : World) (H : Hp)
/-- A page, and a code. -/
structure Pg where
  full : Bool
  num : Nat
  rows : List En
  code : Int
def pgN (k : Int) : Pg := ⟨false, 0, [], k⟩
def pgR (es : List En) (s : Sy) : Pg :=
  let L := tk s.room s.name es
  if 0 ≤ s.frm then
    let z := idxP (isAt s.frm) L 0
    if z < 0 then pgN 11
    else let f := z.toNat + 1; let e := min (f + s.num.toNat) L.length; ⟨e == L.length, L.length, (L.drop f).take (e - f), 0⟩
  else if 0 ≤ s.back then
    let z := idxP (isAt s.back) L 0
    if z < 0 then pgN 11
    else let e := z.toNat; let f := e - s.num.toNat; ⟨f == 0, L.length, (L.drop f).take (e - f), 0⟩
  else let e := min s.num.toNat L.length; ⟨e == L.length, L.length, (L.drop 0).take (e - 0), 0⟩
/-- Where a page's entries lie. -/
def PgA (H : Hp) (g : List (Option Ob)) (A : Option Addr) (c : Nat) (rows : List En) : Prop := (A = none ∧ rows = [] ∧ c = 0) ∨ ∃ k, A = some ⟨nid H k, 0, some (rows.length * 9)⟩ ∧ g[k]? = some (some (.row 37 (flat En.enc rows)))
def pgV (p : Pg) (A : Option Addr) (c : Nat) : Value := .tuple #[.agg #[.bool p.full, .int .i64 p.num, .slice A p.rows.length c], .int .i64 p.code]
theorem idxP_rng {α : Type} (p : α → Bool) (l : List α) : idxP p l 0 = -1 ∨ ∃ j : Nat, j < l.length ∧ idxP p l 0 = (j : Int) := by
  rcases idxP_find p l 0 with ⟨f1, _⟩ | ⟨j, hj, f1, _⟩
  · exact .inl f1
  · exact .inr ⟨j, hj, by rw [f1, Nat.zero_add]⟩
theorem beq_cast (a b : Nat) : ((a : Int) == (b : Int)) = (a == b) := by
  rw [Bool.eq_iff_iff]; simp only [beq_iff_eq]; omega
theorem beq_cast0 (a : Nat) : ((a : Int) == 0) = (a == 0) := beq_cast a 0
/-- A part of a list of entries that is an own object. -/
theorem part_own (B : Hp) (l : List (Option Ob)) (j : Nat) (L : List En) (hj : l[j]? = some (some (.row 37 (flat En.enc L)))) {f e : Nat} (hfe : f ≤ e) (he : e ≤ L.length) :
    ∃ (a : Addr) (c' : Nat), (∀ (bb : Bool) (ee : Option (TypeId × Nat)) (K : Value → Hp → Prop) (k : Lk K), K (.slice (some a) (e - f) c') (Hx B l) → slcV Tryd.prog w0 48 bb ee (.slice (some ⟨nid B j, 0, some (L.length * 9)⟩) L.length L.length) (some (.int .i64 (f : Int))) (some (.int .i64 (e : Int))) none (Hx B l) k) ∧
      ∀ G, srcO (e - f) (rd w0 (Hx (Hx B l) G) a ((e - f) * 9)) = some (e - f, flat En.enc ((L.drop f).take (e - f))) := by
  have hlj : j < l.length := lt_of_get hj
  have how : ∀ G, Go.Proofs.YtmacpgoclhgafaaDoorW.XM.ownB Tryd.prog (Hx (Hx B l) G) 9 (nid B j) (some (L.length * 9)) := fun G => ⟨_, flat En.enc L, false || true, by rw [Hx_Hx, Hx_get, List.getElem?_append_left hlj]; exact hj, flat_len elen L, XF.lay_37⟩
  rcases Nat.eq_zero_or_pos L.length with h0 | hp
  · obtain rfl : f = 0 := by omega
    obtain rfl : e = 0 := by omega
    have hL : L = [] := List.eq_nil_of_length_eq_zero h0
    subst hL
    refine ⟨⟨nid B j, 0, some 0⟩, 0, fun bb ee K k hk => ?_, fun G => ?_⟩
    · have how0 := how []
      rw [Hx_nil] at how0
      refine slc_sl XF.elm_48 rfl rfl _ _ _ _ (by decide) (by decide) (by decide) how0 (.inl rfl) ?_
      exact hk
    · have h1 := rd_flat (w0 := w0) elen 37 ([] : List En) B l j hj G
      simp only [List.length_nil, Nat.zero_mul] at h1
      show srcO 0 (rd w0 (Hx (Hx B l) G) ⟨nid B j, 0, some 0⟩ 0) = _
      rw [h1]; rfl
  · obtain ⟨a1, c1, hc1, s1, q1⟩ := slc_part (H := Hx B l) elen (by decide) (rd_flat elen _ L B l j hj) (Nat.le_refl _) how (l := f) (h := e) hfe he hp
    refine ⟨a1, c1, fun bb ee K k hk => ?_, q1⟩
    have := s1 48 37 [] (some (.int .i64 (f : Int))) (some (.int .i64 (e : Int))) bb ee K k XF.elm_48 rfl rfl
    rw [Hx_nil] at this
    exact this hk
set_option maxHeartbeats 4000000 in
theorem l7Page_ok (A : Option Addr) (c : Nat) (es : List En) (s : Sy) (hs : Sl w0 H A 9 (es.map En.enc)) (hl : es.length ≤ 2000000) (hn : 1 ≤ s.num ∧ s.num ≤ 4) (hf : -1 ≤ s.frm ∧ s.frm ≤ 9999) (hbk : -1 ≤ s.back ∧ s.back ≤ 9999) (hx : s.frm < 0 ∨ s.back < 0) : AFn Tryd.prog w0 87 #[.slice A es.length c, .agg s.enc.toArray] H fun v H2 => ∃ A' c' g, H2 = Hx H g ∧ v = pgV (pgR es s) A' c' ∧ PgA H g A' c' (pgR es s).rows := by
  have hb : ∀ (g : List (Option Ob)) (Y : Option Ob) (r : List (Option Ob)), (g ++ Y :: r)[g.length]? = some Y := fun g Y r => by rw [List.getElem?_append_right (Nat.le_refl _)]; simp
  have gi : ∀ (g r : List (Option Ob)) (k : Nat), (g ++ r)[g.length + k]? = r[k]? := fun g r k => by rw [List.getElem?_append_right (by omega)]; simp
  have si : ∀ (g r : List (Option Ob)) (k : Nat) (Z : Option Ob), (g ++ r).set (g.length + k) Z = g ++ r.set k Z := fun g r k Z => by rw [List.set_append_right _ _ (by omega)]; simp
  have si0 : ∀ (g r : List (Option Ob)) (Z : Option Ob), (g ++ r).set g.length Z = g ++ r.set 0 Z := fun g r Z => by rw [List.set_append_right _ _ (by omega)]; simp
  refine AFn_nil ?_
  refine AFn_of Tryd.func87 rfl (by kernel_rfl) ?_
  have r := Tryd.results87
  have hle := tk_le s.room s.name es
  simp only [go_sem, cond, Nat.reduceAdd, Nat.reduceLeDiff, Nat.reduceEqDiff, Nat.reduceBEq, decide_true, decide_false, Int.toNat_natCast, r, hb, gi, si, si0, beq_self_eq_true, Bool.not_true, Bool.not_false, List.set_cons_zero, List.set_cons_succ, List.append_assoc, List.length_append, List.length_cons, List.singleton_append, List.cons_append, List.nil_append, Sy.enc]
  refine call (l7Of_ok w0 _ A c es s.room s.name (hs.old _) (by omega)) ?_
  rintro v H2 ⟨g, rfl, rfl⟩
  obtain ⟨P, e0⟩ : ∃ P, P = pgR es s := ⟨_, rfl⟩
  rw [← e0]
  unfold pgR at e0
  generalize tk s.room s.name es = L at *
  have hSL : ∀ (X Y : Option Ob) (G : List (Option Ob)), Sl w0 (Hx H (X :: Y :: some (.row 37 (flat En.enc L)) :: G)) (some ⟨nid H 2, 0, some (L.length * 9)⟩) 9 (L.map En.enc) := fun X Y G => Sl_own elen _ L H _ _ rfl
  simp only [go_sem, cond, Nat.reduceAdd, Nat.reduceLeDiff, Nat.reduceEqDiff, Nat.reduceBEq, decide_true, decide_false, Int.toNat_natCast, r, hb, gi, si, si0, beq_self_eq_true, Bool.not_true, Bool.not_false, List.set_cons_zero, List.set_cons_succ, List.append_assoc, List.length_append, List.length_cons, List.singleton_append, List.cons_append, List.nil_append, Sy.enc]
  obtain ⟨n, hnn⟩ : ∃ n : Nat, s.num = (n : Int) := ⟨s.num.toNat, by omega⟩
  have hnt : s.num.toNat = n := by rw [hnn]; rfl
  simp only [hnt] at e0
  rw [hnn] at hn
  refine Br_intro ?_ ?_ <;> intro h1 <;> simp only [go_sem, cond, Nat.reduceAdd, Nat.reduceLeDiff, Nat.reduceEqDiff, Nat.reduceBEq, decide_true, decide_false, Int.toNat_natCast, r, hb, gi, si, si0, beq_self_eq_true, Bool.not_true, Bool.not_false, List.set_cons_zero, List.set_cons_succ, List.append_assoc, List.length_append, List.length_cons, List.singleton_append, List.cons_append, List.nil_append, Sy.enc, h1, hnn]
  · have h1' := of_decide_eq_true h1
    have d2 : (0 ≤ s.back) = False := eq_false (by omega)
    refine call_eq (l7At_ok w0 _ _ _ L s.frm (hSL _ _ _) (by omega)) ?_
    rw [if_pos h1'] at e0
    rcases idxP_rng (isAt s.frm) L with hz | ⟨j, hj, hz⟩
    · rw [hz] at e0 ⊢
      have w1 : (IntKind.i64.wrap ((-1 : Int) + 1) == 0) = true := by decide
      simp only [go_sem, cond, Nat.reduceAdd, Nat.reduceLeDiff, Nat.reduceEqDiff, Nat.reduceBEq, decide_true, decide_false, Int.toNat_natCast, r, hb, gi, si, si0, beq_self_eq_true, Bool.not_true, Bool.not_false, List.set_cons_zero, List.set_cons_succ, List.append_assoc, List.length_append, List.length_cons, List.singleton_append, List.cons_append, List.nil_append, Sy.enc, h1, hnn, w1]
      rw [if_pos (by decide)] at e0
      subst e0
      exact ⟨none, 0, _, rfl, rfl, .inl ⟨rfl, rfl, rfl⟩⟩
    · rw [hz] at e0 ⊢
      rw [if_neg (by omega)] at e0
      have w1 : IntKind.i64.wrap ((j : Int) + 1) = ((j + 1 : Nat) : Int) := wrap_i64 (by omega) (by omega)
      have w2 : (((j + 1 : Nat) : Int) == 0) = false := by rw [beq_eq_false_iff_ne]; omega
      have w3 : IntKind.i64.wrap ((L.length : Int) - ((j + 1 : Nat) : Int)) = ((L.length - (j + 1) : Nat) : Int) := by rw [wrap_i64 (by omega) (by omega)]; omega
      have w4 : IntKind.i64.wrap (((j + 1 : Nat) : Int) + (n : Int)) = ((j + 1 + n : Nat) : Int) := by rw [wrap_i64 (by omega) (by omega)]; omega
      simp only [go_sem, cond, Nat.reduceAdd, Nat.reduceLeDiff, Nat.reduceEqDiff, Nat.reduceBEq, decide_true, decide_false, Int.toNat_natCast, r, hb, gi, si, si0, beq_self_eq_true, Bool.not_true, Bool.not_false, List.set_cons_zero, List.set_cons_succ, List.append_assoc, List.length_append, List.length_cons, List.singleton_append, List.cons_append, List.nil_append, Sy.enc, h1, hnn, w1, w2, w3, d2]
      refine Br_intro ?_ ?_ <;> intro h3 <;> simp only [go_sem, cond, Nat.reduceAdd, Nat.reduceLeDiff, Nat.reduceEqDiff, Nat.reduceBEq, decide_true, decide_false, Int.toNat_natCast, r, hb, gi, si, si0, beq_self_eq_true, Bool.not_true, Bool.not_false, List.set_cons_zero, List.set_cons_succ, List.append_assoc, List.length_append, List.length_cons, List.singleton_append, List.cons_append, List.nil_append, Sy.enc, h1, hnn, w1, w2, w3, w4, d2, h3]
      · have h3' := of_decide_eq_true h3
        obtain ⟨a1, k1, p1, p2⟩ := part_own w0 H (some (.row 50 [.int .i64 s.kind, .string s.room, .string s.nick, .string s.name, .string s.id, .string s.ref, .string s.text, .int .i64 (n : Int), .int .i64 s.frm, .int .i64 s.back]) :: some (.row 66 [.bool false, .int .i64 0, .slice none 0 0]) :: some (.row 37 (flat En.enc L)) :: g) 2 L rfl (f := j + 1) (e := (j + 1 + n)) (by omega) (by omega)
        refine p1 _ _ _ _ ?_
        simp only [go_sem, cond, Nat.reduceAdd, Nat.reduceLeDiff, Nat.reduceEqDiff, Nat.reduceBEq, decide_true, decide_false, Int.toNat_natCast, r, hb, gi, si, si0, beq_self_eq_true, Bool.not_true, Bool.not_false, List.set_cons_zero, List.set_cons_succ, List.append_assoc, List.length_append, List.length_cons, List.singleton_append, List.cons_append, List.nil_append, Sy.enc, h1, hnn, w1, w2, w3, w4, d2, h3]
        have hrl : ((L.drop (j + 1)).take ((j + 1 + n) - (j + 1))).length = (j + 1 + n) - (j + 1) := by rw [List.length_take, List.length_drop]; omega
        have hcp := l7Copy_ok w0 (Hx H (some (.row 50 [.int .i64 s.kind, .string s.room, .string s.nick, .string s.name, .string s.id, .string s.ref, .string s.text, .int .i64 (n : Int), .int .i64 s.frm, .int .i64 s.back]) :: some (.row 66 [.bool false, .int .i64 0, .slice none 0 0]) :: some (.row 37 (flat En.enc L)) :: g)) a1 ((L.drop (j + 1)).take ((j + 1 + n) - (j + 1))) k1 (by rw [hrl]; exact p2) (by omega)
        rw [hrl] at hcp
        refine call hcp ?_
        rintro v H2 ⟨rfl, rfl⟩
        simp only [go_sem, cond, Nat.reduceAdd, Nat.reduceLeDiff, Nat.reduceEqDiff, Nat.reduceBEq, decide_true, decide_false, Int.toNat_natCast, r, hb, gi, si, si0, beq_self_eq_true, Bool.not_true, Bool.not_false, List.set_cons_zero, List.set_cons_succ, List.append_assoc, List.length_append, List.length_cons, List.singleton_append, List.cons_append, List.nil_append, Sy.enc, h1, hnn, w1, w2, w3, w4, d2, h3]
        have e1 : P = ⟨j + 1 + n == L.length, L.length, (L.drop (j + 1)).take ((j + 1 + n) - (j + 1)), 0⟩ := by
          rw [e0]
          simp only [Int.toNat_natCast]; rw [show min (j + 1 + n) L.length = j + 1 + n by omega]
        refine ⟨some ⟨nid H (g.length + 1 + 1 + 1 + 0), 0, some (((j + 1 + n) - (j + 1)) * 9)⟩, (j + 1 + n) - (j + 1), _, rfl, ?_, .inr ⟨g.length + 1 + 1 + 1 + 0, ?_, ?_⟩⟩
        · rw [e1]
          simp only [pgV, hrl, beq_cast, beq_cast0, beq_self_eq_true, w1, w2, w3, w4, d2, h3]
        · rw [e1, hrl]
        · rw [e1]
          simp only [List.getElem?_cons_succ, Nat.add_zero, hb, List.drop_zero]
      · have h3' := of_decide_eq_false h3
        obtain ⟨a1, k1, p1, p2⟩ := part_own w0 H (some (.row 50 [.int .i64 s.kind, .string s.room, .string s.nick, .string s.name, .string s.id, .string s.ref, .string s.text, .int .i64 (n : Int), .int .i64 s.frm, .int .i64 s.back]) :: some (.row 66 [.bool false, .int .i64 0, .slice none 0 0]) :: some (.row 37 (flat En.enc L)) :: g) 2 L rfl (f := j + 1) (e := L.length) (by omega) (by omega)
        refine p1 _ _ _ _ ?_
        simp only [go_sem, cond, Nat.reduceAdd, Nat.reduceLeDiff, Nat.reduceEqDiff, Nat.reduceBEq, decide_true, decide_false, Int.toNat_natCast, r, hb, gi, si, si0, beq_self_eq_true, Bool.not_true, Bool.not_false, List.set_cons_zero, List.set_cons_succ, List.append_assoc, List.length_append, List.length_cons, List.singleton_append, List.cons_append, List.nil_append, Sy.enc, h1, hnn, w1, w2, w3, w4, d2, h3]
        have hrl : ((L.drop (j + 1)).take (L.length - (j + 1))).length = L.length - (j + 1) := by rw [List.length_take, List.length_drop]; omega
        have hcp := l7Copy_ok w0 (Hx H (some (.row 50 [.int .i64 s.kind, .string s.room, .string s.nick, .string s.name, .string s.id, .string s.ref, .string s.text, .int .i64 (n : Int), .int .i64 s.frm, .int .i64 s.back]) :: some (.row 66 [.bool false, .int .i64 0, .slice none 0 0]) :: some (.row 37 (flat En.enc L)) :: g)) a1 ((L.drop (j + 1)).take (L.length - (j + 1))) k1 (by rw [hrl]; exact p2) (by omega)
        rw [hrl] at hcp
        refine call hcp ?_
        rintro v H2 ⟨rfl, rfl⟩
        simp only [go_sem, cond, Nat.reduceAdd, Nat.reduceLeDiff, Nat.reduceEqDiff, Nat.reduceBEq, decide_true, decide_false, Int.toNat_natCast, r, hb, gi, si, si0, beq_self_eq_true, Bool.not_true, Bool.not_false, List.set_cons_zero, List.set_cons_succ, List.append_assoc, List.length_append, List.length_cons, List.singleton_append, List.cons_append, List.nil_append, Sy.enc, h1, hnn, w1, w2, w3, w4, d2, h3]
        have e1 : P = ⟨L.length == L.length, L.length, (L.drop (j + 1)).take (L.length - (j + 1)), 0⟩ := by
          rw [e0]
          simp only [Int.toNat_natCast]; rw [show min (j + 1 + n) L.length = L.length by omega]
        refine ⟨some ⟨nid H (g.length + 1 + 1 + 1 + 0), 0, some ((L.length - (j + 1)) * 9)⟩, L.length - (j + 1), _, rfl, ?_, .inr ⟨g.length + 1 + 1 + 1 + 0, ?_, ?_⟩⟩
        · rw [e1]
          simp only [pgV, hrl, beq_cast, beq_cast0, beq_self_eq_true, w1, w2, w3, w4, d2, h3]
        · rw [e1, hrl]
        · rw [e1]
          simp only [List.getElem?_cons_succ, Nat.add_zero, hb, List.drop_zero]
  rw [if_neg (of_decide_eq_false h1)] at e0
  refine Br_intro ?_ ?_ <;> intro h2 <;> simp only [go_sem, cond, Nat.reduceAdd, Nat.reduceLeDiff, Nat.reduceEqDiff, Nat.reduceBEq, decide_true, decide_false, Int.toNat_natCast, r, hb, gi, si, si0, beq_self_eq_true, Bool.not_true, Bool.not_false, List.set_cons_zero, List.set_cons_succ, List.append_assoc, List.length_append, List.length_cons, List.singleton_append, List.cons_append, List.nil_append, Sy.enc, h1, h2, hnn]
  · rw [if_pos (of_decide_eq_true h2)] at e0
    refine call_eq (l7At_ok w0 _ _ _ L s.back (hSL _ _ _) (by omega)) ?_
    rcases idxP_rng (isAt s.back) L with hz | ⟨j, hj, hz⟩
    · rw [hz] at e0 ⊢
      have w1 : ((-1 : Int) < 0) = True := eq_true (by decide)
      simp only [go_sem, cond, Nat.reduceAdd, Nat.reduceLeDiff, Nat.reduceEqDiff, Nat.reduceBEq, decide_true, decide_false, Int.toNat_natCast, r, hb, gi, si, si0, beq_self_eq_true, Bool.not_true, Bool.not_false, List.set_cons_zero, List.set_cons_succ, List.append_assoc, List.length_append, List.length_cons, List.singleton_append, List.cons_append, List.nil_append, Sy.enc, h1, h2, hnn, w1]
      rw [if_pos (by decide)] at e0
      subst e0
      exact ⟨none, 0, _, rfl, rfl, .inl ⟨rfl, rfl, rfl⟩⟩
    · rw [hz] at e0 ⊢
      rw [if_neg (by omega)] at e0
      have w1 : ((j : Int) < 0) = False := eq_false (by omega)
      simp only [go_sem, cond, Nat.reduceAdd, Nat.reduceLeDiff, Nat.reduceEqDiff, Nat.reduceBEq, decide_true, decide_false, Int.toNat_natCast, r, hb, gi, si, si0, beq_self_eq_true, Bool.not_true, Bool.not_false, List.set_cons_zero, List.set_cons_succ, List.append_assoc, List.length_append, List.length_cons, List.singleton_append, List.cons_append, List.nil_append, Sy.enc, h1, h2, hnn, w1]
      refine Br_intro ?_ ?_ <;> intro h3 <;> simp only [go_sem, cond, Nat.reduceAdd, Nat.reduceLeDiff, Nat.reduceEqDiff, Nat.reduceBEq, decide_true, decide_false, Int.toNat_natCast, r, hb, gi, si, si0, beq_self_eq_true, Bool.not_true, Bool.not_false, List.set_cons_zero, List.set_cons_succ, List.append_assoc, List.length_append, List.length_cons, List.singleton_append, List.cons_append, List.nil_append, Sy.enc, h1, h2, hnn, w1, h3]
      · have h3' := of_decide_eq_true h3
        have w2 : IntKind.i64.wrap ((j : Int) - (n : Int)) = ((j - n : Nat) : Int) := by rw [wrap_i64 (by omega) (by omega)]; omega
        have w3 : IntKind.i64.wrap ((j : Int) - ((j - n : Nat) : Int)) = (n : Int) := by rw [wrap_i64 (by omega) (by omega)]; omega
        have w4 : ((n : Int) < (n : Int)) = False := eq_false (by omega)
        simp only [go_sem, cond, Nat.reduceAdd, Nat.reduceLeDiff, Nat.reduceEqDiff, Nat.reduceBEq, decide_true, decide_false, Int.toNat_natCast, r, hb, gi, si, si0, beq_self_eq_true, Bool.not_true, Bool.not_false, List.set_cons_zero, List.set_cons_succ, List.append_assoc, List.length_append, List.length_cons, List.singleton_append, List.cons_append, List.nil_append, Sy.enc, h1, h2, hnn, w1, w2, w3, w4, h3]
        obtain ⟨a1, k1, p1, p2⟩ := part_own w0 H (some (.row 50 [.int .i64 s.kind, .string s.room, .string s.nick, .string s.name, .string s.id, .string s.ref, .string s.text, .int .i64 (n : Int), .int .i64 s.frm, .int .i64 s.back]) :: some (.row 66 [.bool false, .int .i64 0, .slice none 0 0]) :: some (.row 37 (flat En.enc L)) :: g) 2 L rfl (f := j - n) (e := j) (by omega) (by omega)
        refine p1 _ _ _ _ ?_
        simp only [go_sem, cond, Nat.reduceAdd, Nat.reduceLeDiff, Nat.reduceEqDiff, Nat.reduceBEq, decide_true, decide_false, Int.toNat_natCast, r, hb, gi, si, si0, beq_self_eq_true, Bool.not_true, Bool.not_false, List.set_cons_zero, List.set_cons_succ, List.append_assoc, List.length_append, List.length_cons, List.singleton_append, List.cons_append, List.nil_append, Sy.enc, h1, hnn, h2, w1, w2, w3, w4, h3]
        have hrl : ((L.drop (j - n)).take (j - (j - n))).length = j - (j - n) := by rw [List.length_take, List.length_drop]; omega
        have hcp := l7Copy_ok w0 (Hx H (some (.row 50 [.int .i64 s.kind, .string s.room, .string s.nick, .string s.name, .string s.id, .string s.ref, .string s.text, .int .i64 (n : Int), .int .i64 s.frm, .int .i64 s.back]) :: some (.row 66 [.bool false, .int .i64 0, .slice none 0 0]) :: some (.row 37 (flat En.enc L)) :: g)) a1 ((L.drop (j - n)).take (j - (j - n))) k1 (by rw [hrl]; exact p2) (by omega)
        rw [hrl] at hcp
        refine call hcp ?_
        rintro v H2 ⟨rfl, rfl⟩
        simp only [go_sem, cond, Nat.reduceAdd, Nat.reduceLeDiff, Nat.reduceEqDiff, Nat.reduceBEq, decide_true, decide_false, Int.toNat_natCast, r, hb, gi, si, si0, beq_self_eq_true, Bool.not_true, Bool.not_false, List.set_cons_zero, List.set_cons_succ, List.append_assoc, List.length_append, List.length_cons, List.singleton_append, List.cons_append, List.nil_append, Sy.enc, h1, hnn, h2, w1, w2, w3, w4, h3]
        have e1 : P = ⟨j - n == 0, L.length, (L.drop (j - n)).take (j - (j - n)), 0⟩ := by
          rw [e0]
          simp only [Int.toNat_natCast]
        refine ⟨some ⟨nid H (g.length + 1 + 1 + 1 + 0), 0, some ((j - (j - n)) * 9)⟩, j - (j - n), _, rfl, ?_, .inr ⟨g.length + 1 + 1 + 1 + 0, ?_, ?_⟩⟩
        · rw [e1]
          simp only [pgV, hrl, beq_cast, beq_cast0, beq_self_eq_true, h2, w1, w2, w3, w4, h3]
        · rw [e1, hrl]
        · rw [e1]
          simp only [List.getElem?_cons_succ, Nat.add_zero, hb, List.drop_zero]
      · have h3' := of_decide_eq_false h3
        have w2 : IntKind.i64.wrap ((j : Int) - 0) = (j : Int) := by rw [wrap_i64 (by omega) (by omega)]; omega
        have z0 : (0 : Int) = ((0 : Nat) : Int) := rfl
        simp only [go_sem, cond, Nat.reduceAdd, Nat.reduceLeDiff, Nat.reduceEqDiff, Nat.reduceBEq, decide_true, decide_false, Int.toNat_natCast, r, hb, gi, si, si0, beq_self_eq_true, Bool.not_true, Bool.not_false, List.set_cons_zero, List.set_cons_succ, List.append_assoc, List.length_append, List.length_cons, List.singleton_append, List.cons_append, List.nil_append, Sy.enc, h1, h2, hnn, w1, w2, h3]
        obtain ⟨a1, k1, p1, p2⟩ := part_own w0 H (some (.row 50 [.int .i64 s.kind, .string s.room, .string s.nick, .string s.name, .string s.id, .string s.ref, .string s.text, .int .i64 (n : Int), .int .i64 s.frm, .int .i64 s.back]) :: some (.row 66 [.bool false, .int .i64 0, .slice none 0 0]) :: some (.row 37 (flat En.enc L)) :: g) 2 L rfl (f := 0) (e := j) (by omega) (by omega)
        refine p1 _ _ _ _ ?_
        simp only [go_sem, cond, Nat.reduceAdd, Nat.reduceLeDiff, Nat.reduceEqDiff, Nat.reduceBEq, decide_true, decide_false, Int.toNat_natCast, r, hb, gi, si, si0, beq_self_eq_true, Bool.not_true, Bool.not_false, List.set_cons_zero, List.set_cons_succ, List.append_assoc, List.length_append, List.length_cons, List.singleton_append, List.cons_append, List.nil_append, Sy.enc, h1, hnn, h2, w1, w2, h3]
        have hrl : ((L.drop (0)).take (j - (0))).length = j - (0) := by rw [List.length_take, List.length_drop]; omega
        have hcp := l7Copy_ok w0 (Hx H (some (.row 50 [.int .i64 s.kind, .string s.room, .string s.nick, .string s.name, .string s.id, .string s.ref, .string s.text, .int .i64 (n : Int), .int .i64 s.frm, .int .i64 s.back]) :: some (.row 66 [.bool false, .int .i64 0, .slice none 0 0]) :: some (.row 37 (flat En.enc L)) :: g)) a1 ((L.drop (0)).take (j - (0))) k1 (by rw [hrl]; exact p2) (by omega)
        rw [hrl] at hcp
        refine call hcp ?_
        rintro v H2 ⟨rfl, rfl⟩
        simp only [go_sem, cond, Nat.reduceAdd, Nat.reduceLeDiff, Nat.reduceEqDiff, Nat.reduceBEq, decide_true, decide_false, Int.toNat_natCast, r, hb, gi, si, si0, beq_self_eq_true, Bool.not_true, Bool.not_false, List.set_cons_zero, List.set_cons_succ, List.append_assoc, List.length_append, List.length_cons, List.singleton_append, List.cons_append, List.nil_append, Sy.enc, h1, hnn, h2, w1, w2, h3]
        have e1 : P = ⟨true, L.length, (L.drop (0)).take (j - (0)), 0⟩ := by
          rw [e0]
          simp only [Int.toNat_natCast]; rw [show j - n = 0 by omega]; rfl
        refine ⟨some ⟨nid H (g.length + 1 + 1 + 1 + 0), 0, some ((j - (0)) * 9)⟩, j - (0), _, rfl, ?_, .inr ⟨g.length + 1 + 1 + 1 + 0, ?_, ?_⟩⟩
        · rw [e1]
          simp only [pgV, hrl, beq_cast, beq_cast0, beq_self_eq_true, h2, w1, w2, h3]
        · rw [e1, hrl]
        · rw [e1]
          simp only [List.getElem?_cons_succ, Nat.add_zero, hb, List.drop_zero]
  · rw [if_neg (of_decide_eq_false h2)] at e0
    have w2 : IntKind.i64.wrap ((L.length : Int) - 0) = (L.length : Int) := by rw [wrap_i64 (by omega) (by omega)]; omega
    have w3 : IntKind.i64.wrap (0 + (n : Int)) = ((n : Nat) : Int) := by rw [wrap_i64 (by omega) (by omega)]; omega
    simp only [go_sem, cond, Nat.reduceAdd, Nat.reduceLeDiff, Nat.reduceEqDiff, Nat.reduceBEq, decide_true, decide_false, Int.toNat_natCast, r, hb, gi, si, si0, beq_self_eq_true, Bool.not_true, Bool.not_false, List.set_cons_zero, List.set_cons_succ, List.append_assoc, List.length_append, List.length_cons, List.singleton_append, List.cons_append, List.nil_append, Sy.enc, h1, h2, hnn, w2, w3]
    refine Br_intro ?_ ?_ <;> intro h3 <;> simp only [go_sem, cond, Nat.reduceAdd, Nat.reduceLeDiff, Nat.reduceEqDiff, Nat.reduceBEq, decide_true, decide_false, Int.toNat_natCast, r, hb, gi, si, si0, beq_self_eq_true, Bool.not_true, Bool.not_false, List.set_cons_zero, List.set_cons_succ, List.append_assoc, List.length_append, List.length_cons, List.singleton_append, List.cons_append, List.nil_append, Sy.enc, h1, h2, hnn, w2, w3, h3]
    · have h3' := of_decide_eq_true h3
      obtain ⟨a1, k1, p1, p2⟩ := part_own w0 H (some (.row 50 [.int .i64 s.kind, .string s.room, .string s.nick, .string s.name, .string s.id, .string s.ref, .string s.text, .int .i64 (n : Int), .int .i64 s.frm, .int .i64 s.back]) :: some (.row 66 [.bool false, .int .i64 0, .slice none 0 0]) :: some (.row 37 (flat En.enc L)) :: g) 2 L rfl (f := 0) (e := n) (by omega) (by omega)
      refine p1 _ _ _ _ ?_
      simp only [go_sem, cond, Nat.reduceAdd, Nat.reduceLeDiff, Nat.reduceEqDiff, Nat.reduceBEq, decide_true, decide_false, Int.toNat_natCast, r, hb, gi, si, si0, beq_self_eq_true, Bool.not_true, Bool.not_false, List.set_cons_zero, List.set_cons_succ, List.append_assoc, List.length_append, List.length_cons, List.singleton_append, List.cons_append, List.nil_append, Sy.enc, h1, hnn, h2, w2, w3, h3]
      have hrl : ((L.drop (0)).take (n - (0))).length = n - (0) := by rw [List.length_take, List.length_drop]; omega
      have hcp := l7Copy_ok w0 (Hx H (some (.row 50 [.int .i64 s.kind, .string s.room, .string s.nick, .string s.name, .string s.id, .string s.ref, .string s.text, .int .i64 (n : Int), .int .i64 s.frm, .int .i64 s.back]) :: some (.row 66 [.bool false, .int .i64 0, .slice none 0 0]) :: some (.row 37 (flat En.enc L)) :: g)) a1 ((L.drop (0)).take (n - (0))) k1 (by rw [hrl]; exact p2) (by omega)
      rw [hrl] at hcp
      refine call hcp ?_
      rintro v H2 ⟨rfl, rfl⟩
      simp only [go_sem, cond, Nat.reduceAdd, Nat.reduceLeDiff, Nat.reduceEqDiff, Nat.reduceBEq, decide_true, decide_false, Int.toNat_natCast, r, hb, gi, si, si0, beq_self_eq_true, Bool.not_true, Bool.not_false, List.set_cons_zero, List.set_cons_succ, List.append_assoc, List.length_append, List.length_cons, List.singleton_append, List.cons_append, List.nil_append, Sy.enc, h1, hnn, h2, w2, w3, h3]
      have e1 : P = ⟨n == L.length, L.length, (L.drop (0)).take (n - (0)), 0⟩ := by
        rw [e0]
        rw [show min n L.length = n by omega]
      refine ⟨some ⟨nid H (g.length + 1 + 1 + 1 + 0), 0, some ((n - (0)) * 9)⟩, n - (0), _, rfl, ?_, .inr ⟨g.length + 1 + 1 + 1 + 0, ?_, ?_⟩⟩
      · rw [e1]
        simp only [pgV, hrl, beq_cast, beq_cast0, beq_self_eq_true, h2, w2, w3, h3]
      · rw [e1, hrl]
      · rw [e1]
        simp only [List.getElem?_cons_succ, Nat.add_zero, hb, List.drop_zero]
    · have h3' := of_decide_eq_false h3
      obtain ⟨a1, k1, p1, p2⟩ := part_own w0 H (some (.row 50 [.int .i64 s.kind, .string s.room, .string s.nick, .string s.name, .string s.id, .string s.ref, .string s.text, .int .i64 (n : Int), .int .i64 s.frm, .int .i64 s.back]) :: some (.row 66 [.bool false, .int .i64 0, .slice none 0 0]) :: some (.row 37 (flat En.enc L)) :: g) 2 L rfl (f := 0) (e := L.length) (by omega) (by omega)
      refine p1 _ _ _ _ ?_
      simp only [go_sem, cond, Nat.reduceAdd, Nat.reduceLeDiff, Nat.reduceEqDiff, Nat.reduceBEq, decide_true, decide_false, Int.toNat_natCast, r, hb, gi, si, si0, beq_self_eq_true, Bool.not_true, Bool.not_false, List.set_cons_zero, List.set_cons_succ, List.append_assoc, List.length_append, List.length_cons, List.singleton_append, List.cons_append, List.nil_append, Sy.enc, h1, hnn, h2, w2, w3, h3]
      have hrl : ((L.drop (0)).take (L.length - (0))).length = L.length - (0) := by rw [List.length_take, List.length_drop]; omega
      have hcp := l7Copy_ok w0 (Hx H (some (.row 50 [.int .i64 s.kind, .string s.room, .string s.nick, .string s.name, .string s.id, .string s.ref, .string s.text, .int .i64 (n : Int), .int .i64 s.frm, .int .i64 s.back]) :: some (.row 66 [.bool false, .int .i64 0, .slice none 0 0]) :: some (.row 37 (flat En.enc L)) :: g)) a1 ((L.drop (0)).take (L.length - (0))) k1 (by rw [hrl]; exact p2) (by omega)
      rw [hrl] at hcp
      refine call hcp ?_
      rintro v H2 ⟨rfl, rfl⟩
      simp only [go_sem, cond, Nat.reduceAdd, Nat.reduceLeDiff, Nat.reduceEqDiff, Nat.reduceBEq, decide_true, decide_false, Int.toNat_natCast, r, hb, gi, si, si0, beq_self_eq_true, Bool.not_true, Bool.not_false, List.set_cons_zero, List.set_cons_succ, List.append_assoc, List.length_append, List.length_cons, List.singleton_append, List.cons_append, List.nil_append, Sy.enc, h1, hnn, h2, w2, w3, h3]
      have e1 : P = ⟨L.length == L.length, L.length, (L.drop (0)).take (L.length - (0)), 0⟩ := by
        rw [e0]
        rw [show min n L.length = L.length by omega]
      refine ⟨some ⟨nid H (g.length + 1 + 1 + 1 + 0), 0, some ((L.length - (0)) * 9)⟩, L.length - (0), _, rfl, ?_, .inr ⟨g.length + 1 + 1 + 1 + 0, ?_, ?_⟩⟩
      · rw [e1]
        simp only [pgV, hrl, beq_cast, beq_cast0, beq_self_eq_true, h2, w2, w3, h3]
      · rw [e1, hrl]
      · rw [e1]
        simp only [List.getElem?_cons_succ, Nat.add_zero, hb, List.drop_zero]
end Go.Proofs.YtmacpgoclhgafaaDoorW.FA

namespace Go.Proofs.YtmacpgoclhgafaaDoorW.FA
open Go.RowKit Go.Proofs.YtmacpgoclhgafaaDoorW.XM Go.Proofs Go.Proofs.YtmacpgoclhgafaaDoorW.XWords
set_option maxRecDepth 100000
set_option linter.unusedSimpArgs false
set_option linter.unusedVariables false
variable (w0 : World) (H : Hp)
theorem pageF1_ok (b : Nat) (s : Sy) (e : En) (hb : ∀ (L : List (Option Ob)) (f : Nat) (v : Value), f < 10 → s.enc[f]? = some v → rd w0 (Hx H L) ⟨b, f, some 10⟩ 1 = some [v]) :
    AFn Tryd.prog w0 90 #[.agg e.enc.toArray, .pointer (some ⟨b, 0, some 10⟩)] H fun v H2 => v = .bool (!tkB s.room s.name e) ∧ H2 = H := by
  have c1 := fun L => hb L 1 (.string s.room) (by decide) rfl
  have c3 := fun L => hb L 3 (.string s.name) (by decide) rfl
  refine AFn.scal rfl Tryd.func90 rfl (by kernel_rfl) ?_
  have r := Tryd.results90
  simp only [go_sem, cond, Nat.reduceAdd, Nat.reduceLeDiff, Nat.reduceEqDiff, Nat.reduceBEq, decide_true, decide_false, Int.toNat_natCast, r]
  simp only [go_sem, cond, Nat.reduceAdd, Nat.reduceLeDiff, Nat.reduceEqDiff, Nat.reduceBEq, decide_true, decide_false, Int.toNat_natCast, En.enc, c1, c3, r]
  repeat' (refine Br_intro ?_ ?_ <;> intro h <;> simp only [go_sem, cond, Nat.reduceAdd, Nat.reduceLeDiff, Nat.reduceEqDiff, Nat.reduceBEq, decide_true, decide_false, Int.toNat_natCast, En.enc, c1, c3, r, h])
  all_goals exact ⟨by first | (simp_all [tkB, emB]; done) | (simp only [tkB, emB, *]; simp), _, rfl⟩
theorem pageF2_ok (b : Nat) (q : Int) (e : En) (hb : ∀ (L : List (Option Ob)), rd w0 (Hx H L) ⟨b, 0, some 1⟩ 1 = some [.int .i64 q]) :
    AFn Tryd.prog w0 92 #[.agg e.enc.toArray, .pointer (some ⟨b, 0, some 1⟩)] H fun v H2 => v = .bool (isAt q e) ∧ H2 = H := by
  refine AFn.scal rfl Tryd.func92 rfl (by kernel_rfl) ?_
  have r := Tryd.results92
  simp only [go_sem, cond, Nat.reduceAdd, Nat.reduceLeDiff, Nat.reduceEqDiff, Nat.reduceBEq, decide_true, decide_false, Int.toNat_natCast, r]
  simp only [go_sem, cond, Nat.reduceAdd, Nat.reduceLeDiff, Nat.reduceEqDiff, Nat.reduceBEq, decide_true, decide_false, Int.toNat_natCast, En.enc, hb, r]
  exact ⟨rfl, _, rfl⟩
theorem kpt_tk (ro us : ByteArray) (es : List En) : kpt (fun e => !tkB ro us e) es = tk ro us es := by
  unfold kpt tk
  congr 1; funext e; simp
def pageR (es : List En) (s : Sy) : Pg := if (sayB s && (s.kind == 12)) = true then pgR es s else pgN 1
theorem page_rng {s : Sy} (h : sayB s = true) (hk : (s.kind == 12) = true) : (1 ≤ s.num ∧ s.num ≤ 4) ∧ (-1 ≤ s.frm ∧ s.frm ≤ 9999) ∧ (-1 ≤ s.back ∧ s.back ≤ 9999) ∧ (s.frm < 0 ∨ s.back < 0) := by
  have hk' : s.kind = 12 := by simpa using hk
  unfold sayB restS at h
  simp only [hk', Bool.and_eq_true, Bool.or_eq_true] at h
  simp (config := { decide := true }) only [inB, if_true, if_false, Bool.and_eq_true, Bool.or_eq_true, decide_eq_true_eq] at h
  omega
theorem rd_pre {α : Type} {enc : α → List Value} {n : Nat} (he : ∀ a, (enc a).length = n) (t : TypeId) (ls : List α) (Z : List Value) (tag : Nat) (B : Hp) (l : List (Option Ob)) (j : Nat) (hl : l[j]? = some (some (.row t (flat enc ls ++ Z)))) (ht : (flat enc ls ++ Z).length = tag) (L : List (Option Ob)) : rd w0 (Hx (Hx B l) L) ⟨nid B j, 0, some tag⟩ (ls.length * n) = some (flat enc ls) := by
  refine rd_old ?_ L
  have h1 : (flat enc ls).length = ls.length * n := flat_len he ls
  rw [rd_own, hl, rdO_row, if_pos ⟨ht, by rw [List.length_append]; omega⟩, List.drop_zero, ← h1, List.take_left]
theorem Sl_pre {α : Type} {enc : α → List Value} {n : Nat} (he : ∀ a, (enc a).length = n) (t : TypeId) (ls : List α) (Z : List Value) (tag : Nat) (B : Hp) (l : List (Option Ob)) (j : Nat) (hl : l[j]? = some (some (.row t (flat enc ls ++ Z)))) (ht : (flat enc ls ++ Z).length = tag) : Sl w0 (Hx B l) (some ⟨nid B j, 0, some tag⟩) n (ls.map enc) := by
  refine .inr ⟨_, _, _, rfl, ?_⟩
  intro i r hr f k hf
  have hi : i < ls.length := by have := (List.getElem?_eq_some_iff.1 hr).1; simpa using this
  have hle : i * n + n ≤ ls.length * n := by rw [← Nat.succ_mul]; exact Nat.mul_le_mul_right _ hi
  have h0 := rd_pre (w0 := w0) he t ls Z tag B l j hl ht []
  rw [Hx_nil] at h0
  have := rd_part h0 (i * n + f) k (by omega)
  rw [show 0 + i * n + f = 0 + (i * n + f) by omega, this, flat_row he ls hi f k hf]
  rw [List.getElem?_map, List.getElem?_eq_getElem hi] at hr
  cases hr
  rfl
theorem part_pre (B : Hp) (l : List (Option Ob)) (j : Nat) (L : List En) (Z : List Value) (tag cap : Nat) (hj : l[j]? = some (some (.row 37 (flat En.enc L ++ Z)))) (ht : (flat En.enc L ++ Z).length = tag) (hcap : L.length ≤ cap) {f e : Nat} (hfe : f ≤ e) (he : e ≤ L.length) :
    ∃ (a : Addr) (c' : Nat), (∀ (bb : Bool) (ee : Option (TypeId × Nat)) (K : Value → Hp → Prop) (k : Lk K), K (.slice (some a) (e - f) c') (Hx B l) → slcV Tryd.prog w0 48 bb ee (.slice (some ⟨nid B j, 0, some tag⟩) L.length cap) (some (.int .i64 (f : Int))) (some (.int .i64 (e : Int))) none (Hx B l) k) ∧
      ∀ G, srcO (e - f) (rd w0 (Hx (Hx B l) G) a ((e - f) * 9)) = some (e - f, flat En.enc ((L.drop f).take (e - f))) := by
  have hlj : j < l.length := lt_of_get hj
  have how : ∀ G, Go.Proofs.YtmacpgoclhgafaaDoorW.XM.ownB Tryd.prog (Hx (Hx B l) G) 9 (nid B j) (some tag) := fun G => ⟨_, flat En.enc L ++ Z, false || true, by rw [Hx_Hx, Hx_get, List.getElem?_append_left hlj]; exact hj, ht, XF.lay_37⟩
  rcases Nat.eq_zero_or_pos L.length with h0 | hp
  · obtain rfl : f = 0 := by omega
    obtain rfl : e = 0 := by omega
    have hL : L = [] := List.eq_nil_of_length_eq_zero h0
    subst hL
    refine ⟨⟨nid B j, 0, some tag⟩, cap, fun bb ee K k hk => ?_, fun G => ?_⟩
    · have how0 := how []
      rw [Hx_nil] at how0
      refine slc_sl XF.elm_48 rfl rfl _ _ _ _ (by omega) (by omega) (by omega) how0 (.inl rfl) ?_
      exact hk
    · have h1 := rd_pre (w0 := w0) elen 37 ([] : List En) Z tag B l j hj ht G
      simp only [List.length_nil, Nat.zero_mul] at h1
      show srcO 0 (rd w0 (Hx (Hx B l) G) ⟨nid B j, 0, some tag⟩ 0) = _
      rw [h1]; rfl
  · obtain ⟨a1, c1, hc1, s1, q1⟩ := slc_part (H := Hx B l) elen (by decide) (rd_pre w0 elen _ L Z tag B l j hj ht) hcap how (l := f) (h := e) hfe he hp
    refine ⟨a1, c1, fun bb ee K k hk => ?_, q1⟩
    have := s1 48 37 [] (some (.int .i64 (f : Int))) (some (.int .i64 (e : Int))) bb ee K k XF.elm_48 rfl rfl
    rw [Hx_nil] at this
    exact this hk
theorem box_at {t : TypeId} {cs : List Value} {n : Nat} (hn : cs.length = n) (B : Hp) (l L : List (Option Ob)) (j f : Nat) (v : Value) (hl : l[j]? = some (some (.row t cs))) (hf : f < n) (hv : cs[f]? = some v) : rd w0 (Hx (Hx B l) L) ⟨nid B j, f, some n⟩ 1 = some [v] := by
  refine rd_old ?_ L
  rw [rd_own, hl, rdO_row, if_pos ⟨hn, by omega⟩]
  rw [show (cs.drop f).take 1 = [v] by
    obtain ⟨hlt, hv'⟩ := List.getElem?_eq_some_iff.1 hv
    rw [List.drop_eq_getElem_cons hlt, hv']; rfl]
set_option maxHeartbeats 4000000 in
theorem PageOfI_ok (a : Addr) (c : Nat) (es : List En) (s : Sy) (hT : Tabs w0) (hB : BigS s) (hs : ∀ L, srcO es.length (rd w0 (Hx H L) a (es.length * 9)) = some (es.length, flat En.enc es)) (hl : es.length ≤ 2000000) : AFn Tryd.prog w0 34 #[.slice (some a) es.length c, .agg s.enc.toArray] H fun v H2 => ∃ A' c' g, H2 = Hx H g ∧ v = pgV (pageR es s) A' c' ∧ PgA H g A' c' (pageR es s).rows := by
  have hb : ∀ (g : List (Option Ob)) (Y : Option Ob) (r : List (Option Ob)), (g ++ Y :: r)[g.length]? = some Y := fun g Y r => by rw [List.getElem?_append_right (Nat.le_refl _)]; simp
  have gi : ∀ (g r : List (Option Ob)) (k : Nat), (g ++ r)[g.length + k]? = r[k]? := fun g r k => by rw [List.getElem?_append_right (by omega)]; simp
  have si : ∀ (g r : List (Option Ob)) (k : Nat) (Z : Option Ob), (g ++ r).set (g.length + k) Z = g ++ r.set k Z := fun g r k Z => by rw [List.set_append_right _ _ (by omega)]; simp
  have si0 : ∀ (g r : List (Option Ob)) (Z : Option Ob), (g ++ r).set g.length Z = g ++ r.set 0 Z := fun g r Z => by rw [List.set_append_right _ _ (by omega)]; simp
  refine AFn_nil ?_
  refine AFn_of Tryd.func34 rfl (by kernel_rfl) ?_
  have r := Tryd.results34
  obtain ⟨P, e0⟩ : ∃ P, P = pageR es s := ⟨_, rfl⟩
  rw [← e0]
  unfold pageR at e0
  simp only [go_sem, cond, Nat.reduceAdd, Nat.reduceLeDiff, Nat.reduceEqDiff, Nat.reduceBEq, decide_true, decide_false, Int.toNat_natCast, r, hb, gi, si, si0, beq_self_eq_true, Bool.not_true, Bool.not_false, List.set_cons_zero, List.set_cons_succ, List.append_assoc, List.length_append, List.length_cons, List.singleton_append, List.cons_append, List.nil_append, Sy.enc]
  refine call_eq (SayOk_ok w0 _ s hT hB) ?_
  simp only [go_sem, cond, Nat.reduceAdd, Nat.reduceLeDiff, Nat.reduceEqDiff, Nat.reduceBEq, decide_true, decide_false, Int.toNat_natCast, r, hb, gi, si, si0, beq_self_eq_true, Bool.not_true, Bool.not_false, List.set_cons_zero, List.set_cons_succ, List.append_assoc, List.length_append, List.length_cons, List.singleton_append, List.cons_append, List.nil_append, Sy.enc]
  refine Br_intro ?_ ?_ <;> intro h0 <;> simp only [go_sem, cond, Nat.reduceAdd, Nat.reduceLeDiff, Nat.reduceEqDiff, Nat.reduceBEq, decide_true, decide_false, Int.toNat_natCast, r, hb, gi, si, si0, beq_self_eq_true, Bool.not_true, Bool.not_false, List.set_cons_zero, List.set_cons_succ, List.append_assoc, List.length_append, List.length_cons, List.singleton_append, List.cons_append, List.nil_append, Sy.enc, h0]
  case refine_2 =>
    rw [h0, Bool.false_and, if_neg (by decide)] at e0
    subst e0
    exact ⟨none, 0, _, rfl, rfl, .inl ⟨rfl, rfl, rfl⟩⟩
  refine Br_intro ?_ ?_ <;> intro h1 <;> simp only [go_sem, cond, Nat.reduceAdd, Nat.reduceLeDiff, Nat.reduceEqDiff, Nat.reduceBEq, decide_true, decide_false, Int.toNat_natCast, r, hb, gi, si, si0, beq_self_eq_true, Bool.not_true, Bool.not_false, List.set_cons_zero, List.set_cons_succ, List.append_assoc, List.length_append, List.length_cons, List.singleton_append, List.cons_append, List.nil_append, Sy.enc, h0, h1]
  case refine_2 =>
    rw [h0, h1, Bool.true_and, if_neg (by decide)] at e0
    subst e0
    exact ⟨none, 0, _, rfl, rfl, .inl ⟨rfl, rfl, rfl⟩⟩
  rw [h0, h1, Bool.true_and, if_pos rfl] at e0
  obtain ⟨hn, hf, hbk, hx⟩ := page_rng h0 h1
  refine call_eq (cloneE_ok w0 _ a es c (fun L => by rw [Hx_Hx]; exact hs _) (by omega)) ?_
  simp only [go_sem, cond, Nat.reduceAdd, Nat.reduceLeDiff, Nat.reduceEqDiff, Nat.reduceBEq, decide_true, decide_false, Int.toNat_natCast, r, hb, gi, si, si0, beq_self_eq_true, Bool.not_true, Bool.not_false, List.set_cons_zero, List.set_cons_succ, List.append_assoc, List.length_append, List.length_cons, List.singleton_append, List.cons_append, List.nil_append, Sy.enc]
  refine call (deleteE_ok w0 H _ 2 es 90 [] [.pointer (some ⟨nid H 0, 0, some 10⟩)] (fun e => !tkB s.room s.name e) rfl (by omega) (fun e M G => ?_)) ?_
  · exact pageF1_ok w0 _ _ s e (fun L f v hf hv => box_at w0 (t := 50) (cs := s.enc) (n := 10) rfl H _ L 0 f v rfl hf hv)
  rintro v H2 ⟨G, Z, rfl, hZ, rfl⟩
  rw [kpt_tk] at hZ ⊢
  have hLe := tk_le s.room s.name es
  unfold pgR at e0
  generalize tk s.room s.name es = L at *
  obtain ⟨n, hnn⟩ : ∃ n : Nat, s.num = (n : Int) := ⟨s.num.toNat, by omega⟩
  have hnt : s.num.toNat = n := by rw [hnn]; rfl
  simp only [hnt] at e0
  rw [hnn] at hn
  simp only [go_sem, cond, Nat.reduceAdd, Nat.reduceLeDiff, Nat.reduceEqDiff, Nat.reduceBEq, decide_true, decide_false, Int.toNat_natCast, r, hb, gi, si, si0, beq_self_eq_true, Bool.not_true, Bool.not_false, List.set_cons_zero, List.set_cons_succ, List.append_assoc, List.length_append, List.length_cons, List.singleton_append, List.cons_append, List.nil_append, Sy.enc, hnn]
  by_cases h3 : 0 ≤ s.frm
  · have hmx : (if s.back > s.frm then s.back else s.frm) = s.frm := if_neg (by omega)
    have d3 : (0 ≤ s.frm) = True := eq_true h3
    have d4 : (0 ≤ s.back) = False := eq_false (by omega)
    rw [if_pos h3] at e0
    simp only [go_sem, cond, Nat.reduceAdd, Nat.reduceLeDiff, Nat.reduceEqDiff, Nat.reduceBEq, decide_true, decide_false, Int.toNat_natCast, r, hb, gi, si, si0, beq_self_eq_true, Bool.not_true, Bool.not_false, List.set_cons_zero, List.set_cons_succ, List.append_assoc, List.length_append, List.length_cons, List.singleton_append, List.cons_append, List.nil_append, Sy.enc, hnn, hmx, d3, d4]
    refine call_eq (indexE_ok w0 _ En.enc _ es.length L (Sl_pre w0 elen 37 L Z _ H _ 2 rfl hZ) (by omega) elen 92 [] [.pointer (some ⟨nid H (G.length + 1 + 1 + 1), 0, some 1⟩)] (isAt s.frm) (fun i hi => pageF2_ok w0 _ _ s.frm L[i] (fun M => box_at w0 (t := 3) (cs := [.int .i64 s.frm]) (n := 1) rfl H _ M (G.length + 1 + 1 + 1) 0 _ (by simp only [go_sem, cond, Nat.reduceAdd, Nat.reduceLeDiff, Nat.reduceEqDiff, Nat.reduceBEq, decide_true, decide_false, Int.toNat_natCast, hb, gi, List.getElem?_cons_succ]) (by decide) rfl))) ?_
    rcases idxP_rng (isAt s.frm) L with hz | ⟨j, hj, hz⟩
    · rw [hz] at e0 ⊢
      have w1 : ((-1 : Int) < 0) = True := eq_true (by decide)
      simp only [go_sem, cond, Nat.reduceAdd, Nat.reduceLeDiff, Nat.reduceEqDiff, Nat.reduceBEq, decide_true, decide_false, Int.toNat_natCast, r, hb, gi, si, si0, beq_self_eq_true, Bool.not_true, Bool.not_false, List.set_cons_zero, List.set_cons_succ, List.append_assoc, List.length_append, List.length_cons, List.singleton_append, List.cons_append, List.nil_append, Sy.enc, hnn, hmx, d3, d4, w1]
      rw [if_pos (by decide)] at e0
      subst e0
      exact ⟨none, 0, _, rfl, rfl, .inl ⟨rfl, rfl, rfl⟩⟩
    · rw [hz] at e0 ⊢
      have w1 : ((j : Int) < 0) = False := eq_false (by omega)
      rw [if_neg (by omega)] at e0
      have w2 : IntKind.i64.wrap ((j : Int) + 1) = ((j + 1 : Nat) : Int) := wrap_i64 (by omega) (by omega)
      have w4 : IntKind.i64.wrap (((j + 1 : Nat) : Int) + (n : Int)) = ((j + 1 + n : Nat) : Int) := by rw [wrap_i64 (by omega) (by omega)]; omega
      have w5 : (if (L.length : Int) < ((j + 1 + n : Nat) : Int) then (L.length : Int) else ((j + 1 + n : Nat) : Int)) = ((min (j + 1 + n) L.length : Nat) : Int) := by split <;> omega
      simp only [go_sem, cond, Nat.reduceAdd, Nat.reduceLeDiff, Nat.reduceEqDiff, Nat.reduceBEq, decide_true, decide_false, Int.toNat_natCast, r, hb, gi, si, si0, beq_self_eq_true, Bool.not_true, Bool.not_false, List.set_cons_zero, List.set_cons_succ, List.append_assoc, List.length_append, List.length_cons, List.singleton_append, List.cons_append, List.nil_append, Sy.enc, hnn, hmx, d3, d4, w1, w2, w4, w5]
      generalize hE : min (j + 1 + n) L.length = E at *
      obtain ⟨a1, k1, p1, p2⟩ := part_pre w0 H (some (.row 50 [.int .i64 s.kind, .string s.room, .string s.nick, .string s.name, .string s.id, .string s.ref, .string s.text, .int .i64 (n : Int), .int .i64 s.frm, .int .i64 s.back]) :: some (.row 66 [.bool false, .int .i64 0, .slice none 0 0]) :: some (.row 37 (flat En.enc L ++ Z)) :: (G ++ [some (.row 3 [.int .i64 s.frm]), some (.row 66 [.bool ((E : Int) == (L.length : Int)), .int .i64 (L.length : Int), .slice none 0 0])])) 2 L Z (es.length * 9) es.length rfl hZ hLe (f := j + 1) (e := E) (by omega) (by omega)
      refine p1 _ _ _ _ ?_
      simp only [go_sem, cond, Nat.reduceAdd, Nat.reduceLeDiff, Nat.reduceEqDiff, Nat.reduceBEq, decide_true, decide_false, Int.toNat_natCast, r, hb, gi, si, si0, beq_self_eq_true, Bool.not_true, Bool.not_false, List.set_cons_zero, List.set_cons_succ, List.append_assoc, List.length_append, List.length_cons, List.singleton_append, List.cons_append, List.nil_append, Sy.enc, hnn, hmx, d3, d4, w1, w2, w4, w5]
      have hrl : ((L.drop (j + 1)).take (E - (j + 1))).length = E - (j + 1) := by rw [List.length_take, List.length_drop]; omega
      have hcp := cloneE_ok w0 (Hx H (some (.row 50 [.int .i64 s.kind, .string s.room, .string s.nick, .string s.name, .string s.id, .string s.ref, .string s.text, .int .i64 (n : Int), .int .i64 s.frm, .int .i64 s.back]) :: some (.row 66 [.bool false, .int .i64 0, .slice none 0 0]) :: some (.row 37 (flat En.enc L ++ Z)) :: (G ++ [some (.row 3 [.int .i64 s.frm]), some (.row 66 [.bool ((E : Int) == (L.length : Int)), .int .i64 (L.length : Int), .slice none 0 0])]))) a1 ((L.drop (j + 1)).take (E - (j + 1))) k1 (by rw [hrl]; exact p2) (by omega)
      rw [hrl] at hcp
      refine call hcp ?_
      rintro v H2 ⟨rfl, rfl⟩
      simp only [go_sem, cond, Nat.reduceAdd, Nat.reduceLeDiff, Nat.reduceEqDiff, Nat.reduceBEq, decide_true, decide_false, Int.toNat_natCast, r, hb, gi, si, si0, beq_self_eq_true, Bool.not_true, Bool.not_false, List.set_cons_zero, List.set_cons_succ, List.append_assoc, List.length_append, List.length_cons, List.singleton_append, List.cons_append, List.nil_append, Sy.enc, hnn, hmx, d3, d4, w1, w2, w4, w5]
      refine call_eq (clipE_ok w0 _ _ 0 _ _ _ (flat En.enc ((L.drop (j + 1)).take (E - (j + 1)))) (by rw [Hx_get]; simp only [go_sem, cond, Nat.reduceAdd, Nat.reduceLeDiff, Nat.reduceEqDiff, Nat.reduceBEq, decide_true, decide_false, Int.toNat_natCast, hb, gi, List.getElem?_cons_succ, Nat.add_zero]) (by rw [flat_len elen, hrl]) (Nat.le_refl _)) ?_
      simp only [go_sem, cond, Nat.reduceAdd, Nat.reduceLeDiff, Nat.reduceEqDiff, Nat.reduceBEq, decide_true, decide_false, Int.toNat_natCast, r, hb, gi, si, si0, beq_self_eq_true, Bool.not_true, Bool.not_false, List.set_cons_zero, List.set_cons_succ, List.append_assoc, List.length_append, List.length_cons, List.singleton_append, List.cons_append, List.nil_append, Sy.enc, hnn, hmx, d3, d4, w1, w2, w4, w5]
      have e1 : P = ⟨E == L.length, L.length, (L.drop (j + 1)).take (E - (j + 1)), 0⟩ := by
        rw [e0]
        simp only [Int.toNat_natCast]; rw [hE]
      refine ⟨some ⟨nid H (G.length + 2 + 1 + 1 + 1 + 0), 0, some ((E - (j + 1)) * 9)⟩, E - (j + 1), _, rfl, ?_, .inr ⟨G.length + 2 + 1 + 1 + 1 + 0, ?_, ?_⟩⟩
      · rw [e1]
        simp only [pgV, hrl, beq_cast, beq_cast0, beq_self_eq_true, Sy.enc, hnn, hmx, d3, d4, w1, w2, w4, w5]
      · rw [e1, hrl]
      · rw [e1]
        simp only [List.getElem?_cons_succ, Nat.add_zero, gi, List.getElem?_cons_zero, List.drop_zero]
  · have d3 : (0 ≤ s.frm) = False := eq_false h3
    rw [if_neg h3] at e0
    by_cases h4 : 0 ≤ s.back
    · have hmx : (if s.back > s.frm then s.back else s.frm) = s.back := if_pos (by omega)
      have d4 : (0 ≤ s.back) = True := eq_true h4
      rw [if_pos h4] at e0
      simp only [go_sem, cond, Nat.reduceAdd, Nat.reduceLeDiff, Nat.reduceEqDiff, Nat.reduceBEq, decide_true, decide_false, Int.toNat_natCast, r, hb, gi, si, si0, beq_self_eq_true, Bool.not_true, Bool.not_false, List.set_cons_zero, List.set_cons_succ, List.append_assoc, List.length_append, List.length_cons, List.singleton_append, List.cons_append, List.nil_append, Sy.enc, hnn, hmx, d3, d4]
      refine call_eq (indexE_ok w0 _ En.enc _ es.length L (Sl_pre w0 elen 37 L Z _ H _ 2 rfl hZ) (by omega) elen 92 [] [.pointer (some ⟨nid H (G.length + 1 + 1 + 1), 0, some 1⟩)] (isAt s.back) (fun i hi => pageF2_ok w0 _ _ s.back L[i] (fun M => box_at w0 (t := 3) (cs := [.int .i64 s.back]) (n := 1) rfl H _ M (G.length + 1 + 1 + 1) 0 _ (by simp only [go_sem, cond, Nat.reduceAdd, Nat.reduceLeDiff, Nat.reduceEqDiff, Nat.reduceBEq, decide_true, decide_false, Int.toNat_natCast, hb, gi, List.getElem?_cons_succ]) (by decide) rfl))) ?_
      rcases idxP_rng (isAt s.back) L with hz | ⟨j, hj, hz⟩
      · rw [hz] at e0 ⊢
        have w1 : ((-1 : Int) < 0) = True := eq_true (by decide)
        simp only [go_sem, cond, Nat.reduceAdd, Nat.reduceLeDiff, Nat.reduceEqDiff, Nat.reduceBEq, decide_true, decide_false, Int.toNat_natCast, r, hb, gi, si, si0, beq_self_eq_true, Bool.not_true, Bool.not_false, List.set_cons_zero, List.set_cons_succ, List.append_assoc, List.length_append, List.length_cons, List.singleton_append, List.cons_append, List.nil_append, Sy.enc, hnn, hmx, d3, d4, w1]
        rw [if_pos (by decide)] at e0
        subst e0
        exact ⟨none, 0, _, rfl, rfl, .inl ⟨rfl, rfl, rfl⟩⟩
      · rw [hz] at e0 ⊢
        have w1 : ((j : Int) < 0) = False := eq_false (by omega)
        rw [if_neg (by omega)] at e0
        have w2 : IntKind.i64.wrap ((j : Int) - (n : Int)) = (j : Int) - (n : Int) := wrap_i64 (by omega) (by omega)
        have w4 : (if (0 : Int) > (j : Int) - (n : Int) then (0 : Int) else (j : Int) - (n : Int)) = ((j - n : Nat) : Int) := by split <;> omega
        simp only [go_sem, cond, Nat.reduceAdd, Nat.reduceLeDiff, Nat.reduceEqDiff, Nat.reduceBEq, decide_true, decide_false, Int.toNat_natCast, r, hb, gi, si, si0, beq_self_eq_true, Bool.not_true, Bool.not_false, List.set_cons_zero, List.set_cons_succ, List.append_assoc, List.length_append, List.length_cons, List.singleton_append, List.cons_append, List.nil_append, Sy.enc, hnn, hmx, d3, d4, w1, w2, w4]
        obtain ⟨a1, k1, p1, p2⟩ := part_pre w0 H (some (.row 50 [.int .i64 s.kind, .string s.room, .string s.nick, .string s.name, .string s.id, .string s.ref, .string s.text, .int .i64 (n : Int), .int .i64 s.frm, .int .i64 s.back]) :: some (.row 66 [.bool false, .int .i64 0, .slice none 0 0]) :: some (.row 37 (flat En.enc L ++ Z)) :: (G ++ [some (.row 3 [.int .i64 s.back]), some (.row 66 [.bool (((j - n : Nat) : Int) == 0), .int .i64 (L.length : Int), .slice none 0 0])])) 2 L Z (es.length * 9) es.length rfl hZ hLe (f := j - n) (e := j) (by omega) (by omega)
        refine p1 _ _ _ _ ?_
        simp only [go_sem, cond, Nat.reduceAdd, Nat.reduceLeDiff, Nat.reduceEqDiff, Nat.reduceBEq, decide_true, decide_false, Int.toNat_natCast, r, hb, gi, si, si0, beq_self_eq_true, Bool.not_true, Bool.not_false, List.set_cons_zero, List.set_cons_succ, List.append_assoc, List.length_append, List.length_cons, List.singleton_append, List.cons_append, List.nil_append, Sy.enc, hnn, hmx, d3, d4, w1, w2, w4]
        have hrl : ((L.drop (j - n)).take (j - (j - n))).length = j - (j - n) := by rw [List.length_take, List.length_drop]; omega
        have hcp := cloneE_ok w0 (Hx H (some (.row 50 [.int .i64 s.kind, .string s.room, .string s.nick, .string s.name, .string s.id, .string s.ref, .string s.text, .int .i64 (n : Int), .int .i64 s.frm, .int .i64 s.back]) :: some (.row 66 [.bool false, .int .i64 0, .slice none 0 0]) :: some (.row 37 (flat En.enc L ++ Z)) :: (G ++ [some (.row 3 [.int .i64 s.back]), some (.row 66 [.bool (((j - n : Nat) : Int) == 0), .int .i64 (L.length : Int), .slice none 0 0])]))) a1 ((L.drop (j - n)).take (j - (j - n))) k1 (by rw [hrl]; exact p2) (by omega)
        rw [hrl] at hcp
        refine call hcp ?_
        rintro v H2 ⟨rfl, rfl⟩
        simp only [go_sem, cond, Nat.reduceAdd, Nat.reduceLeDiff, Nat.reduceEqDiff, Nat.reduceBEq, decide_true, decide_false, Int.toNat_natCast, r, hb, gi, si, si0, beq_self_eq_true, Bool.not_true, Bool.not_false, List.set_cons_zero, List.set_cons_succ, List.append_assoc, List.length_append, List.length_cons, List.singleton_append, List.cons_append, List.nil_append, Sy.enc, hnn, hmx, d3, d4, w1, w2, w4]
        refine call_eq (clipE_ok w0 _ _ 0 _ _ _ (flat En.enc ((L.drop (j - n)).take (j - (j - n)))) (by rw [Hx_get]; simp only [go_sem, cond, Nat.reduceAdd, Nat.reduceLeDiff, Nat.reduceEqDiff, Nat.reduceBEq, decide_true, decide_false, Int.toNat_natCast, hb, gi, List.getElem?_cons_succ, Nat.add_zero]) (by rw [flat_len elen, hrl]) (Nat.le_refl _)) ?_
        simp only [go_sem, cond, Nat.reduceAdd, Nat.reduceLeDiff, Nat.reduceEqDiff, Nat.reduceBEq, decide_true, decide_false, Int.toNat_natCast, r, hb, gi, si, si0, beq_self_eq_true, Bool.not_true, Bool.not_false, List.set_cons_zero, List.set_cons_succ, List.append_assoc, List.length_append, List.length_cons, List.singleton_append, List.cons_append, List.nil_append, Sy.enc, hnn, hmx, d3, d4, w1, w2, w4]
        have e1 : P = ⟨j - n == 0, L.length, (L.drop (j - n)).take (j - (j - n)), 0⟩ := by
          rw [e0]
          simp only [Int.toNat_natCast]
        refine ⟨some ⟨nid H (G.length + 2 + 1 + 1 + 1 + 0), 0, some ((j - (j - n)) * 9)⟩, j - (j - n), _, rfl, ?_, .inr ⟨G.length + 2 + 1 + 1 + 1 + 0, ?_, ?_⟩⟩
        · rw [e1]
          simp only [pgV, hrl, beq_cast, beq_cast0, beq_self_eq_true, Sy.enc, hnn, hmx, d3, d4, w1, w2, w4]
        · rw [e1, hrl]
        · rw [e1]
          simp only [List.getElem?_cons_succ, Nat.add_zero, gi, List.getElem?_cons_zero, List.drop_zero]
    · have hmx : (0 ≤ (if s.back > s.frm then s.back else s.frm)) = False := eq_false (by split <;> omega)
      have d4 : (0 ≤ s.back) = False := eq_false h4
      rw [if_neg h4] at e0
      have w2 : IntKind.i64.wrap (0 + (n : Int)) = (n : Int) := by rw [wrap_i64 (by omega) (by omega)]; omega
      have w4 : (if (L.length : Int) < (n : Int) then (L.length : Int) else (n : Int)) = ((min n L.length : Nat) : Int) := by split <;> omega
      simp only [go_sem, cond, Nat.reduceAdd, Nat.reduceLeDiff, Nat.reduceEqDiff, Nat.reduceBEq, decide_true, decide_false, Int.toNat_natCast, r, hb, gi, si, si0, beq_self_eq_true, Bool.not_true, Bool.not_false, List.set_cons_zero, List.set_cons_succ, List.append_assoc, List.length_append, List.length_cons, List.singleton_append, List.cons_append, List.nil_append, Sy.enc, hnn, hmx, d3, d4, w2, w4]
      generalize hE : min n L.length = E at *
      obtain ⟨a1, k1, p1, p2⟩ := part_pre w0 H (some (.row 50 [.int .i64 s.kind, .string s.room, .string s.nick, .string s.name, .string s.id, .string s.ref, .string s.text, .int .i64 (n : Int), .int .i64 s.frm, .int .i64 s.back]) :: some (.row 66 [.bool false, .int .i64 0, .slice none 0 0]) :: some (.row 37 (flat En.enc L ++ Z)) :: (G ++ [some (.row 3 [.int .i64 (if s.back > s.frm then s.back else s.frm)]), some (.row 66 [.bool ((E : Int) == (L.length : Int)), .int .i64 (L.length : Int), .slice none 0 0])])) 2 L Z (es.length * 9) es.length rfl hZ hLe (f := 0) (e := E) (by omega) (by omega)
      refine p1 _ _ _ _ ?_
      simp only [go_sem, cond, Nat.reduceAdd, Nat.reduceLeDiff, Nat.reduceEqDiff, Nat.reduceBEq, decide_true, decide_false, Int.toNat_natCast, r, hb, gi, si, si0, beq_self_eq_true, Bool.not_true, Bool.not_false, List.set_cons_zero, List.set_cons_succ, List.append_assoc, List.length_append, List.length_cons, List.singleton_append, List.cons_append, List.nil_append, Sy.enc, hnn, hmx, d3, d4, w2, w4]
      have hrl : ((L.drop (0)).take (E - (0))).length = E - (0) := by rw [List.length_take, List.length_drop]; omega
      have hcp := cloneE_ok w0 (Hx H (some (.row 50 [.int .i64 s.kind, .string s.room, .string s.nick, .string s.name, .string s.id, .string s.ref, .string s.text, .int .i64 (n : Int), .int .i64 s.frm, .int .i64 s.back]) :: some (.row 66 [.bool false, .int .i64 0, .slice none 0 0]) :: some (.row 37 (flat En.enc L ++ Z)) :: (G ++ [some (.row 3 [.int .i64 (if s.back > s.frm then s.back else s.frm)]), some (.row 66 [.bool ((E : Int) == (L.length : Int)), .int .i64 (L.length : Int), .slice none 0 0])]))) a1 ((L.drop (0)).take (E - (0))) k1 (by rw [hrl]; exact p2) (by omega)
      rw [hrl] at hcp
      refine call hcp ?_
      rintro v H2 ⟨rfl, rfl⟩
      simp only [go_sem, cond, Nat.reduceAdd, Nat.reduceLeDiff, Nat.reduceEqDiff, Nat.reduceBEq, decide_true, decide_false, Int.toNat_natCast, r, hb, gi, si, si0, beq_self_eq_true, Bool.not_true, Bool.not_false, List.set_cons_zero, List.set_cons_succ, List.append_assoc, List.length_append, List.length_cons, List.singleton_append, List.cons_append, List.nil_append, Sy.enc, hnn, hmx, d3, d4, w2, w4]
      refine call_eq (clipE_ok w0 _ _ 0 _ _ _ (flat En.enc ((L.drop (0)).take (E - (0)))) (by rw [Hx_get]; simp only [go_sem, cond, Nat.reduceAdd, Nat.reduceLeDiff, Nat.reduceEqDiff, Nat.reduceBEq, decide_true, decide_false, Int.toNat_natCast, hb, gi, List.getElem?_cons_succ, Nat.add_zero]) (by rw [flat_len elen, hrl]) (Nat.le_refl _)) ?_
      simp only [go_sem, cond, Nat.reduceAdd, Nat.reduceLeDiff, Nat.reduceEqDiff, Nat.reduceBEq, decide_true, decide_false, Int.toNat_natCast, r, hb, gi, si, si0, beq_self_eq_true, Bool.not_true, Bool.not_false, List.set_cons_zero, List.set_cons_succ, List.append_assoc, List.length_append, List.length_cons, List.singleton_append, List.cons_append, List.nil_append, Sy.enc, hnn, hmx, d3, d4, w2, w4]
      have e1 : P = ⟨E == L.length, L.length, (L.drop (0)).take (E - (0)), 0⟩ := by
        rw [e0]
        skip
      refine ⟨some ⟨nid H (G.length + 2 + 1 + 1 + 1 + 0), 0, some ((E - (0)) * 9)⟩, E - (0), _, rfl, ?_, .inr ⟨G.length + 2 + 1 + 1 + 1 + 0, ?_, ?_⟩⟩
      · rw [e1]
        simp only [pgV, hrl, beq_cast, beq_cast0, beq_self_eq_true, Sy.enc, hnn, hmx, d3, d4, w2, w4]
      · rw [e1, hrl]
      · rw [e1]
        simp only [List.getElem?_cons_succ, Nat.add_zero, gi, List.getElem?_cons_zero, List.drop_zero]
end Go.Proofs.YtmacpgoclhgafaaDoorW.FA

namespace Go.Proofs.YtmacpgoclhgafaaDoorW.FA
open Go.RowKit Go.Proofs.YtmacpgoclhgafaaDoorW.XM Go.Proofs Go.Proofs.YtmacpgoclhgafaaDoorW.XWords
set_option maxRecDepth 100000
set_option linter.unusedSimpArgs false
set_option linter.unusedVariables false
variable (w0 : World) (H : Hp)
end Go.Proofs.YtmacpgoclhgafaaDoorW.FA

namespace Go.Proofs.YtmacpgoclhgafaaDoorW.FA
open Go.RowKit Go.Proofs.YtmacpgoclhgafaaDoorW.XM Go.Proofs Go.Proofs.YtmacpgoclhgafaaDoorW.XWords
set_option maxRecDepth 100000
set_option linter.unusedSimpArgs false
set_option linter.unusedVariables false
variable (w0 : World) (H : Hp)
end Go.Proofs.YtmacpgoclhgafaaDoorW.FA

namespace Go.Proofs.YtmacpgoclhgafaaDoorW.FA
open Go.RowKit Go.Proofs.YtmacpgoclhgafaaDoorW.XM Go.Proofs Go.Proofs.YtmacpgoclhgafaaDoorW.XWords
set_option maxRecDepth 100000
set_option linter.unusedSimpArgs false
set_option linter.unusedVariables false
variable (w0 : World) (H : Hp)
set_option maxHeartbeats 4000000 in
theorem PageOfS_ok (A : Option Addr) (c : Nat) (es : List En) (s : Sy) (hB : BigS s) (hs : Sl w0 H A 9 (es.map En.enc)) (hl : es.length ≤ 2000000) : AFn Tryd.prog w0 31 #[.slice A es.length c, .agg s.enc.toArray] H fun v H2 => ∃ A' c' g, H2 = Hx H g ∧ v = pgV (pageR es s) A' c' ∧ PgA H g A' c' (pageR es s).rows := by
  refine AFn_nil ?_
  refine AFn_of Tryd.func31 rfl (by kernel_rfl) ?_
  have r := Tryd.results31
  obtain ⟨P, e0⟩ : ∃ P, P = pageR es s := ⟨_, rfl⟩
  rw [← e0]
  unfold pageR at e0
  simp only [go_sem, cond, Nat.reduceAdd, Nat.reduceLeDiff, Nat.reduceEqDiff, Nat.reduceBEq, decide_true, decide_false, Int.toNat_natCast, Sy.enc, r]
  refine call_eq (l5Ok_ok w0 _ s hB) ?_
  simp only [go_sem, cond, Nat.reduceAdd, Nat.reduceLeDiff, Nat.reduceEqDiff, Nat.reduceBEq, decide_true, decide_false, Int.toNat_natCast, Sy.enc, r]
  refine Br_intro ?_ ?_ <;> intro h0 <;> simp only [go_sem, cond, Nat.reduceAdd, Nat.reduceLeDiff, Nat.reduceEqDiff, Nat.reduceBEq, decide_true, decide_false, Int.toNat_natCast, Sy.enc, r, h0]
  case refine_2 =>
    rw [h0, Bool.false_and, if_neg (by decide)] at e0
    subst e0
    exact ⟨none, 0, _, rfl, rfl, .inl ⟨rfl, rfl, rfl⟩⟩
  refine Br_intro ?_ ?_ <;> intro h1 <;> simp only [go_sem, cond, Nat.reduceAdd, Nat.reduceLeDiff, Nat.reduceEqDiff, Nat.reduceBEq, decide_true, decide_false, Int.toNat_natCast, Sy.enc, r, h0, h1]
  case refine_2 =>
    rw [h0, h1, Bool.true_and, if_neg (by decide)] at e0
    subst e0
    exact ⟨none, 0, _, rfl, rfl, .inl ⟨rfl, rfl, rfl⟩⟩
  rw [h0, h1, Bool.true_and, if_pos rfl] at e0
  obtain ⟨hn, hf, hbk, hx⟩ := page_rng h0 h1
  refine call (l7Page_ok w0 _ A c es s (hs.old _) hl hn hf hbk hx) ?_
  rintro v H2 ⟨A', c', g, rfl, rfl, hA⟩
  rw [← e0] at hA
  rw [← e0]
  simp only [go_sem, cond, Nat.reduceAdd, Nat.reduceLeDiff, Nat.reduceEqDiff, Nat.reduceBEq, decide_true, decide_false, Int.toNat_natCast, pgV, Sy.enc, r, List.length_append, List.length_cons, List.set_cons_zero, List.set_cons_succ, List.cons_append, List.nil_append]
  refine ⟨A', c', _, rfl, rfl, ?_⟩
  rcases hA with ⟨a1, a2, a3⟩ | ⟨k, a1, a2⟩
  · exact .inl ⟨a1, a2, a3⟩
  · exact .inr ⟨k + 1 + 1, by rw [a1, nid_Hx]; simp only [List.length_cons, List.length_nil]; rw [show 0 + 1 + 1 + k = k + 1 + 1 by omega], by simpa using a2⟩
/-- A page's entries can be read. -/
theorem PgA.sl {H : Hp} {g : List (Option Ob)} {A : Option Addr} {c : Nat} {rows : List En} (h : PgA H g A c rows) : Sl w0 (Hx H g) A 9 (rows.map En.enc) := by
  rcases h with ⟨_, rfl, _⟩ | ⟨k, rfl, hk⟩
  · exact .inl rfl
  · exact Sl_own elen _ rows H g k hk
theorem pgL (es : List En) (s : Sy) : (pageR es s).rows.length ≤ es.length := by
  have h := tk_le s.room s.name es
  unfold pageR
  split
  · unfold pgR
    dsimp only
    repeat' split
    all_goals first
      | (simp only [pgN, List.length_nil]; omega)
      | (simp only [List.length_take, List.length_drop]; omega)
  · simp only [pgN, List.length_nil]; omega
theorem eqEntry_ok (e : En) : AFn Tryd.prog w0 93 #[.agg e.enc.toArray, .agg e.enc.toArray] H fun v H2 => v = .bool true ∧ H2 = H := by
  refine AFn.scal rfl Tryd.func93 rfl (by kernel_rfl) ?_
  have r := Tryd.results93
  simp only [go_sem, cond, Nat.reduceAdd, Nat.reduceLeDiff, Nat.reduceEqDiff, Nat.reduceBEq, decide_true, decide_false, Int.toNat_natCast, r]
  simp only [go_sem, cond, Nat.reduceAdd, Nat.reduceLeDiff, Nat.reduceEqDiff, Nat.reduceBEq, decide_true, decide_false, Int.toNat_natCast, En.enc, r, beq_self_eq_true]
  exact ⟨_, rfl⟩
theorem eqEntryS_ok (A A' : Option Addr) (c c' : Nat) (es : List En) (hs : Sl w0 H A 9 (es.map En.enc)) (hs' : Sl w0 H A' 9 (es.map En.enc)) (hl : es.length ≤ 2000000) : AFn Tryd.prog w0 36 #[.slice A es.length c, .slice A' es.length c'] H fun v H2 => v = .bool true ∧ H2 = H := by
  refine AFn.scal rfl Tryd.func36 rfl (by kernel_rfl) ?_
  have r := Tryd.results36
  simp only [go_sem, cond, Nat.reduceAdd, Nat.reduceLeDiff, Nat.reduceEqDiff, Nat.reduceBEq, decide_true, decide_false, Int.toNat_natCast, r]
  simp only [go_sem, cond, Nat.reduceAdd, Nat.reduceLeDiff, Nat.reduceEqDiff, Nat.reduceBEq, decide_true, decide_false, Int.toNat_natCast, r, beq_self_eq_true]
  refine xw_loop (fun (i : Nat) T H' => i ≤ es.length ∧ T 0 = .slice A es.length c ∧ T 1 = .slice A' es.length c' ∧ T 5 = .int .i64 i ∧ H' = Hx H []) (fun i => es.length - i) 0 (by kernel_rfl) ⟨Nat.zero_le _, rfl, rfl, rfl, rfl⟩ ?_
  rintro i T H' ⟨hi, t0, t1, t5, rfl⟩
  by_cases hlt : i < es.length
  · obtain ⟨b, o, sp, rfl, _, hc⟩ := mcell hs hlt
    obtain ⟨b', o', sp', rfl, _, hc'⟩ := mcell hs' hlt
    have c0 := fun L => hc L rfl
    have c1 := fun L => hc' L rfl
    have d1 : ((i : Int) < (es.length : Int)) = True := eq_true (by omega)
    have d2 : (0 ≤ (i : Int)) = True := eq_true (by omega)
    simp only [En.enc] at c0 c1
    simp only [go_sem, cond, Nat.reduceAdd, Nat.reduceLeDiff, Nat.reduceEqDiff, Nat.reduceBEq, decide_true, decide_false, Int.toNat_natCast, t0, t1, t5, d1, d2, r]
    (refine xw_open (id := 6) [0, 0, 3, 7, 0, 0, 48, 112, 255, 511] [.q 0, .q 1, .q 2, .q 4, .q 5, .q 6, .q 3, .q 7, .e 8, .q 9] rfl (by kernel_rfl) ?_; simp only [go_sem, cond, Nat.reduceAdd, Nat.reduceLeDiff, Nat.reduceEqDiff, Nat.reduceBEq, decide_true, decide_false, Int.toNat_natCast, t0, t1, t5, d1, d2, c0, c1, r])
    refine call_eq (eqEntry_ok w0 _ es[i]) ?_
    simp only [go_sem, cond, Nat.reduceAdd, Nat.reduceLeDiff, Nat.reduceEqDiff, Nat.reduceBEq, decide_true, decide_false, Int.toNat_natCast, t0, t1, t5, d1, d2, c0, c1, r]
    exact ⟨i + 1, ⟨hlt, t0, t1, int_succ hlt (by omega), rfl⟩, lt_meas hlt⟩
  · obtain rfl : i = es.length := by omega
    have d1 : ((es.length : Int) < (es.length : Int)) = False := eq_false (by omega)
    simp only [go_sem, cond, Nat.reduceAdd, Nat.reduceLeDiff, Nat.reduceEqDiff, Nat.reduceBEq, decide_true, decide_false, Int.toNat_natCast, t0, t1, t5, d1, r]
    exact ⟨_, rfl⟩
theorem bool_eq (t : TypeId) (c b d : Bool) (h : Go.Proofs.YtmacpgoclhgafaaDoorW.XM.isB Tryd.prog t = true) : xBin Tryd.prog .eql t c (.bool b) (.bool d) = some (.bool (b == d)) := by simp [xBin, h]
theorem bool_ne (t : TypeId) (c b d : Bool) (h : Go.Proofs.YtmacpgoclhgafaaDoorW.XM.isB Tryd.prog t = true) : xBin Tryd.prog .neq t c (.bool b) (.bool d) = some (.bool (!(b == d))) := by
  simp only [xBin, h, if_true]
theorem eqPage_ok (p : Pg) (A A' : Option Addr) (c c' : Nat) (hs : Sl w0 H A 9 (p.rows.map En.enc)) (hs' : Sl w0 H A' 9 (p.rows.map En.enc)) (hl : p.rows.length ≤ 2000000) : AFn Tryd.prog w0 35 #[.agg #[.bool p.full, .int .i64 p.num, .slice A p.rows.length c], .agg #[.bool p.full, .int .i64 p.num, .slice A' p.rows.length c']] H fun v H2 => v = .bool true ∧ H2 = H := by
  have b1 := fun c b d => bool_eq 4 c b d XF.isB_4
  have b2 := fun c b d => bool_ne 4 c b d XF.isB_4
  refine AFn.scal rfl Tryd.func35 rfl (by kernel_rfl) ?_
  have r := Tryd.results35
  simp only [go_sem, cond, Nat.reduceAdd, Nat.reduceLeDiff, Nat.reduceEqDiff, Nat.reduceBEq, decide_true, decide_false, Int.toNat_natCast, r]
  simp only [go_sem, cond, Nat.reduceAdd, Nat.reduceLeDiff, Nat.reduceEqDiff, Nat.reduceBEq, decide_true, decide_false, Int.toNat_natCast, r, beq_self_eq_true, b1, b2]
  refine call_eq (eqEntryS_ok w0 _ A A' c c' p.rows (hs.old _) (hs'.old _) hl) ?_
  simp only [go_sem, cond, Nat.reduceAdd, Nat.reduceLeDiff, Nat.reduceEqDiff, Nat.reduceBEq, decide_true, decide_false, Int.toNat_natCast, r, beq_self_eq_true, b1, b2]
  exact ⟨_, rfl⟩
theorem toSay_ok (s : Sy) : AFn Tryd.prog w0 33 #[.agg s.enc.toArray] H fun v H2 => v = .agg s.enc.toArray ∧ H2 = H := by
  refine AFn.scal rfl Tryd.func33 rfl (by kernel_rfl) ?_
  have r := Tryd.results33
  simp only [go_sem, cond, Nat.reduceAdd, Nat.reduceLeDiff, Nat.reduceEqDiff, Nat.reduceBEq, decide_true, decide_false, Int.toNat_natCast, r]
  simp only [go_sem, cond, Nat.reduceAdd, Nat.reduceLeDiff, Nat.reduceEqDiff, Nat.reduceBEq, decide_true, decide_false, Int.toNat_natCast, Sy.enc, r]
  exact ⟨_, rfl⟩
theorem toEntryS_ok (A : Option Addr) (c : Nat) (ms : List En) (hs : Sl w0 H A 9 (ms.map En.enc)) (hl : ms.length ≤ 2000000) : AFn Tryd.prog w0 32 #[.slice A ms.length c] H fun v H2 => v = .slice (some ⟨nid H 0, 0, some (ms.length * 9)⟩) ms.length ms.length ∧ H2 = Hx H [some (.row 37 (flat En.enc ms))] := by
  obtain ⟨z, hz⟩ : ∃ z : List Value, z = [.string em, .int .i64 0, .int .i64 0, .string em, .string em, .string em, .string em, .string em, .int .i64 0] := ⟨_, rfl⟩
  have hzl : z.length = 9 := by rw [hz]; rfl
  refine AFn.news Tryd.func32 rfl (by kernel_rfl) ?_
  have r := Tryd.results32
  simp only [go_sem, cond, Nat.reduceAdd, Nat.reduceLeDiff, Nat.reduceEqDiff, Nat.reduceBEq, decide_true, decide_false, Int.toNat_natCast, r]
  refine mk_some (z := z) (by rw [hz]; exact XF.zer_37) hzl XF.byt_37 (by omega) (by omega) _ _ ?_
  simp only [go_sem, cond, Nat.reduceAdd, Nat.reduceLeDiff, Nat.reduceEqDiff, Nat.reduceBEq, decide_true, decide_false, Int.toNat_natCast, r]
  refine xw_loop (fun (i : Nat) T H' => i ≤ ms.length ∧ T 0 = .slice A ms.length c ∧ T 3 = .slice (some ⟨nid H 0, 0, some (ms.length * 9)⟩) ms.length ms.length ∧ T 4 = .int .i64 i ∧ H' = Hx H [some (.row 37 (flat En.enc (ms.take i) ++ (List.replicate (ms.length - i) z).flatten))]) (fun i => ms.length - i) 0 (by kernel_rfl) ⟨Nat.zero_le _, rfl, rfl, rfl, rfl⟩ ?_
  rintro i T H' ⟨hi, t0, t3, t4, rfl⟩
  by_cases hlt : i < ms.length
  · obtain ⟨b, o, sp, rfl, _, hc⟩ := mcell hs hlt
    have c0 := hc [some (.row 37 (flat En.enc (ms.take i) ++ (List.replicate (ms.length - i) z).flatten))] rfl
    have d1 : ((i : Int) < (ms.length : Int)) = True := eq_true (by omega)
    have d2 : (0 ≤ (i : Int)) = True := eq_true (by omega)
    simp only [En.enc] at c0
    simp only [go_sem, cond, Nat.reduceAdd, Nat.reduceLeDiff, Nat.reduceEqDiff, Nat.reduceBEq, decide_true, decide_false, Int.toNat_natCast, t0, t3, t4, d1, d2, c0, r]
    refine call_eq (toEntry_ok _ _ ms[i]) ?_
    simp only [go_sem, cond, Nat.reduceAdd, Nat.reduceLeDiff, Nat.reduceEqDiff, Nat.reduceBEq, decide_true, decide_false, Int.toNat_natCast, t0, t3, t4, d1, d2, c0, r, En.enc]
    have hlen := put_len elen (z := z) hzl ms hi
    have p0 := put_row elen (z := z) hzl ms hlt
    rw [Nat.zero_add] at p0
    simp only [En.enc] at p0
    simp only [go_sem, cond, Nat.reduceAdd, Nat.reduceLeDiff, Nat.reduceEqDiff, Nat.reduceBEq, decide_true, decide_false, Int.toNat_natCast] at p0
    refine Req_intro ⟨hlen, by rw [hlen]; omega⟩ ?_
    simp only [go_sem, cond, Nat.reduceAdd, Nat.reduceLeDiff, Nat.reduceEqDiff, Nat.reduceBEq, decide_true, decide_false, Int.toNat_natCast, t0, t3, t4, d1, d2, p0, r]
    exact ⟨i + 1, ⟨hlt, t0, t3, int_succ hlt (by omega), rfl⟩, lt_meas hlt⟩
  · obtain rfl : i = ms.length := by omega
    have d1 : ((ms.length : Int) < (ms.length : Int)) = False := eq_false (by omega)
    simp only [go_sem, cond, Nat.reduceAdd, Nat.reduceLeDiff, Nat.reduceEqDiff, Nat.reduceBEq, decide_true, decide_false, Int.toNat_natCast, t0, t3, t4, d1, r]
    rw [List.take_length, Nat.sub_self, List.replicate_zero, List.flatten_nil, List.append_nil]
    refine ⟨_, [0], _, rfl, ?_, by decide, by simp only [ren3, ren2, ren1, rho_nid, idx_hit, Option.map_some], rfl, rfl⟩
    intro k hk
    simp only [List.mem_singleton] at hk
    subst hk
    exact flat_plain (fun _ => rfl) ms
/-- The size of what is said. -/
def SmS0 (s : Sy) : Prop := s.room.size ≤ 1048576 ∧ s.nick.size ≤ 1048576 ∧ s.name.size ≤ 1048576 ∧ s.id.size ≤ 1048576 ∧ s.ref.size ≤ 1048576 ∧ s.text.size ≤ 1048576
theorem szSay_ok (s : Sy) (left : Int) (h1 : -1 ≤ left) (h2 : left ≤ 1048576) (g0 : s.room.size ≤ 9223372036854775807) (g1 : s.nick.size ≤ 9223372036854775807) (g2 : s.name.size ≤ 9223372036854775807) (g3 : s.id.size ≤ 9223372036854775807) (g4 : s.ref.size ≤ 9223372036854775807) (g5 : s.text.size ≤ 9223372036854775807) : AFn Tryd.prog w0 30 #[.agg s.enc.toArray, .int .i64 left] H fun v H2 => (∃ n : Int, v = .int .i64 n ∧ (0 ≤ n → SmS0 s)) ∧ H2 = H := by
  refine AFn.trim (R := fun v => ∃ n : Int, v = .int .i64 n ∧ (0 ≤ n → SmS0 s)) ?_ (by rintro v ⟨n, rfl, _⟩; rfl)
  refine AFn_nil ?_
  refine AFn_of Tryd.func30 rfl (by kernel_rfl) ?_
  have r := Tryd.results30
  have d0 : IntKind.i64.wrap (left - (s.room.size : Int)) = left - s.room.size := wrap_i64 (by omega) (by omega)
  simp only [go_sem, cond, Nat.reduceAdd, Nat.reduceLeDiff, Nat.reduceEqDiff, Nat.reduceBEq, decide_true, decide_false, Int.toNat_natCast, Sy.enc, r, d0]
  refine Br_intro ?_ ?_ <;> intro h0x <;> simp only [go_sem, cond, Nat.reduceAdd, Nat.reduceLeDiff, Nat.reduceEqDiff, Nat.reduceBEq, decide_true, decide_false, Int.toNat_natCast, Sy.enc, r, d0, h0x]
  · exact ⟨_, rfl, -1, rfl, fun h => by omega⟩
  have h0x := of_decide_eq_false h0x
  have d1 : IntKind.i64.wrap (left - s.room.size - (s.nick.size : Int)) = left - s.room.size - s.nick.size := wrap_i64 (by omega) (by omega)
  simp only [go_sem, cond, Nat.reduceAdd, Nat.reduceLeDiff, Nat.reduceEqDiff, Nat.reduceBEq, decide_true, decide_false, Int.toNat_natCast, Sy.enc, r, d0, d1]
  refine Br_intro ?_ ?_ <;> intro h1x <;> simp only [go_sem, cond, Nat.reduceAdd, Nat.reduceLeDiff, Nat.reduceEqDiff, Nat.reduceBEq, decide_true, decide_false, Int.toNat_natCast, Sy.enc, r, d0, d1, h1x]
  · exact ⟨_, rfl, -1, rfl, fun h => by omega⟩
  have h1x := of_decide_eq_false h1x
  have d2 : IntKind.i64.wrap (left - s.room.size - s.nick.size - (s.name.size : Int)) = left - s.room.size - s.nick.size - s.name.size := wrap_i64 (by omega) (by omega)
  simp only [go_sem, cond, Nat.reduceAdd, Nat.reduceLeDiff, Nat.reduceEqDiff, Nat.reduceBEq, decide_true, decide_false, Int.toNat_natCast, Sy.enc, r, d0, d1, d2]
  refine Br_intro ?_ ?_ <;> intro h2x <;> simp only [go_sem, cond, Nat.reduceAdd, Nat.reduceLeDiff, Nat.reduceEqDiff, Nat.reduceBEq, decide_true, decide_false, Int.toNat_natCast, Sy.enc, r, d0, d1, d2, h2x]
  · exact ⟨_, rfl, -1, rfl, fun h => by omega⟩
  have h2x := of_decide_eq_false h2x
  have d3 : IntKind.i64.wrap (left - s.room.size - s.nick.size - s.name.size - (s.id.size : Int)) = left - s.room.size - s.nick.size - s.name.size - s.id.size := wrap_i64 (by omega) (by omega)
  simp only [go_sem, cond, Nat.reduceAdd, Nat.reduceLeDiff, Nat.reduceEqDiff, Nat.reduceBEq, decide_true, decide_false, Int.toNat_natCast, Sy.enc, r, d0, d1, d2, d3]
  refine Br_intro ?_ ?_ <;> intro h3x <;> simp only [go_sem, cond, Nat.reduceAdd, Nat.reduceLeDiff, Nat.reduceEqDiff, Nat.reduceBEq, decide_true, decide_false, Int.toNat_natCast, Sy.enc, r, d0, d1, d2, d3, h3x]
  · exact ⟨_, rfl, -1, rfl, fun h => by omega⟩
  have h3x := of_decide_eq_false h3x
  have d4 : IntKind.i64.wrap (left - s.room.size - s.nick.size - s.name.size - s.id.size - (s.ref.size : Int)) = left - s.room.size - s.nick.size - s.name.size - s.id.size - s.ref.size := wrap_i64 (by omega) (by omega)
  simp only [go_sem, cond, Nat.reduceAdd, Nat.reduceLeDiff, Nat.reduceEqDiff, Nat.reduceBEq, decide_true, decide_false, Int.toNat_natCast, Sy.enc, r, d0, d1, d2, d3, d4]
  refine Br_intro ?_ ?_ <;> intro h4x <;> simp only [go_sem, cond, Nat.reduceAdd, Nat.reduceLeDiff, Nat.reduceEqDiff, Nat.reduceBEq, decide_true, decide_false, Int.toNat_natCast, Sy.enc, r, d0, d1, d2, d3, d4, h4x]
  · exact ⟨_, rfl, -1, rfl, fun h => by omega⟩
  have h4x := of_decide_eq_false h4x
  have d5 : IntKind.i64.wrap (left - s.room.size - s.nick.size - s.name.size - s.id.size - s.ref.size - (s.text.size : Int)) = left - s.room.size - s.nick.size - s.name.size - s.id.size - s.ref.size - s.text.size := wrap_i64 (by omega) (by omega)
  simp only [go_sem, cond, Nat.reduceAdd, Nat.reduceLeDiff, Nat.reduceEqDiff, Nat.reduceBEq, decide_true, decide_false, Int.toNat_natCast, Sy.enc, r, d0, d1, d2, d3, d4, d5]
  refine Br_intro ?_ ?_ <;> intro h5x <;> simp only [go_sem, cond, Nat.reduceAdd, Nat.reduceLeDiff, Nat.reduceEqDiff, Nat.reduceBEq, decide_true, decide_false, Int.toNat_natCast, Sy.enc, r, d0, d1, d2, d3, d4, d5, h5x]
  · exact ⟨_, rfl, -1, rfl, fun h => by omega⟩
  have h5x := of_decide_eq_false h5x
  exact ⟨_, rfl, _, rfl, fun h => ⟨by omega, by omega, by omega, by omega, by omega, by omega⟩⟩
def mkE (k : Nat) (j : Nat) : En := ⟨mt (k + 9 * j), ((k + 9 * j + 1 : Nat) : Int), ((k + 9 * j + 2 : Nat) : Int), mt (k + 9 * j + 3), mt (k + 9 * j + 4), mt (k + 9 * j + 5), mt (k + 9 * j + 6), mt (k + 9 * j + 7), ((k + 9 * j + 8 : Nat) : Int)⟩
def mkEs (n k : Nat) : List En := (List.range n).map (mkE k)
def midE (ms : List En) (k i : Nat) : List En := mkEs i k ++ ms.drop i
theorem midE_len (ms : List En) (k i : Nat) (hi : i ≤ ms.length) : (midE ms k i).length = ms.length := by simp [midE, mkEs]; omega
theorem midE_succ (ms : List En) (k i : Nat) (hi : i < ms.length) : (midE ms k i).set i (mkE k i) = midE ms k (i + 1) := by
  unfold midE mkEs
  rw [List.set_append_right _ _ (by simp), List.drop_eq_getElem_cons hi, List.range_succ, List.map_append]
  rw [show i - (List.map (mkE k) (List.range i)).length = 0 by simp, List.set_cons_zero]
  simp
theorem mkEs_len (n k : Nat) : (mkEs n k).length = n := by simp [mkEs]
set_option maxHeartbeats 4000000 in
theorem markEntryS_ok (B : Hp) (l : List (Option Ob)) (j : Nat) (ms : List En) (c k : Nat) (hl : l[j]? = some (some (.row 37 (flat En.enc ms)))) (hn : ms.length ≤ 1048576) (hk : k ≤ 100) : AFn Tryd.prog w0 37 #[.slice (some ⟨nid B j, 0, some (ms.length * 9)⟩) ms.length c, .int .i64 k] (Hx B l) fun v H2 => v = .int .i64 ((k + 9 * ms.length : Nat) : Int) ∧ H2 = Hx B (l.set j (some (.row 37 (flat En.enc (mkEs ms.length k))))) := by
  have hj : j < l.length := lt_of_get hl
  refine AFn_of Tryd.func37 rfl (by kernel_rfl) ?_
  have r := Tryd.results37
  simp only [go_sem, cond, Nat.reduceAdd, Nat.reduceLeDiff, Nat.reduceEqDiff, Nat.reduceBEq, decide_true, decide_false, Int.toNat_natCast, r]
  refine xw_loop (fun (i : Nat) T H' => i ≤ ms.length ∧ T 0 = .slice (some ⟨nid B j, 0, some (ms.length * 9)⟩) ms.length c ∧ T 1 = .int .i64 ((k + 9 * i : Nat) : Int) ∧ T 5 = .int .i64 i ∧ H' = Hx B (l.set j (some (.row 37 (flat En.enc (midE ms k i)))))) (fun i => ms.length - i) 0 (by kernel_rfl) ⟨Nat.zero_le _, rfl, rfl, rfl, by
    have : midE ms k 0 = ms := by simp [midE, mkEs]
    rw [this, set_idn hl]⟩ ?_
  rintro i T H' ⟨hi, t0, t1, t5, rfl⟩
  have gs : ∀ X : Option Ob, (l.set j X)[j]? = some X := fun X => by rw [List.getElem?_set_self hj]
  by_cases hlt : i < ms.length
  · have d1 : ((i : Int) < (ms.length : Int)) = True := eq_true (by omega)
    have d2 : (0 ≤ (i : Int)) = True := eq_true (by omega)
    have hlen := flat_len elen (midE ms k i)
    rw [midE_len ms k i hi] at hlen
    have hle : i * 9 + 9 ≤ ms.length * 9 := by omega
    have w0 : IntKind.i64.wrap (((k + 9 * i : Nat) : Int) + 1) = ((k + 9 * i + 1 : Nat) : Int) := by rw [wrap_i64 (by omega) (by omega)]; omega
    have w1 : IntKind.i64.wrap (((k + 9 * i + 1 : Nat) : Int) + 1) = ((k + 9 * i + 2 : Nat) : Int) := by rw [wrap_i64 (by omega) (by omega)]; omega
    have w2 : IntKind.i64.wrap (((k + 9 * i + 2 : Nat) : Int) + 1) = ((k + 9 * i + 3 : Nat) : Int) := by rw [wrap_i64 (by omega) (by omega)]; omega
    have w3 : IntKind.i64.wrap (((k + 9 * i + 3 : Nat) : Int) + 1) = ((k + 9 * i + 4 : Nat) : Int) := by rw [wrap_i64 (by omega) (by omega)]; omega
    have w4 : IntKind.i64.wrap (((k + 9 * i + 4 : Nat) : Int) + 1) = ((k + 9 * i + 5 : Nat) : Int) := by rw [wrap_i64 (by omega) (by omega)]; omega
    have w5 : IntKind.i64.wrap (((k + 9 * i + 5 : Nat) : Int) + 1) = ((k + 9 * i + 6 : Nat) : Int) := by rw [wrap_i64 (by omega) (by omega)]; omega
    have w6 : IntKind.i64.wrap (((k + 9 * i + 6 : Nat) : Int) + 1) = ((k + 9 * i + 7 : Nat) : Int) := by rw [wrap_i64 (by omega) (by omega)]; omega
    have w7 : IntKind.i64.wrap (((k + 9 * i + 7 : Nat) : Int) + 1) = ((k + 9 * i + 8 : Nat) : Int) := by rw [wrap_i64 (by omega) (by omega)]; omega
    have w8 : IntKind.i64.wrap (((k + 9 * i + 8 : Nat) : Int) + 1) = ((k + 9 * (i + 1) : Nat) : Int) := by rw [wrap_i64 (by omega) (by omega)]; omega
    simp only [go_sem, cond, Nat.reduceAdd, Nat.reduceLeDiff, Nat.reduceEqDiff, Nat.reduceBEq, decide_true, decide_false, Int.toNat_natCast, t0, t1, t5, d1, d2, gs, List.set_set, List.length_set, hlen, w0, w1, w2, w3, w4, w5, w6, w7, w8, r]
    repeat' (first
      | (refine Req_intro (by omega) ?_; simp only [go_sem, cond, Nat.reduceAdd, Nat.reduceLeDiff, Nat.reduceEqDiff, Nat.reduceBEq, decide_true, decide_false, Int.toNat_natCast, t0, t1, t5, d1, d2, gs, List.set_set, List.length_set, hlen, w0, w1, w2, w3, w4, w5, w6, w7, w8, r])
      | (refine call_eq (markText_ok _ _ (k + 9 * i) (by omega)) ?_; simp only [go_sem, cond, Nat.reduceAdd, Nat.reduceLeDiff, Nat.reduceEqDiff, Nat.reduceBEq, decide_true, decide_false, Int.toNat_natCast, t0, t1, t5, d1, d2, gs, List.set_set, List.length_set, hlen, w0, w1, w2, w3, w4, w5, w6, w7, w8, r])
      | (refine call_eq (markText_ok _ _ (k + 9 * i + 3) (by omega)) ?_; simp only [go_sem, cond, Nat.reduceAdd, Nat.reduceLeDiff, Nat.reduceEqDiff, Nat.reduceBEq, decide_true, decide_false, Int.toNat_natCast, t0, t1, t5, d1, d2, gs, List.set_set, List.length_set, hlen, w0, w1, w2, w3, w4, w5, w6, w7, w8, r])
      | (refine call_eq (markText_ok _ _ (k + 9 * i + 4) (by omega)) ?_; simp only [go_sem, cond, Nat.reduceAdd, Nat.reduceLeDiff, Nat.reduceEqDiff, Nat.reduceBEq, decide_true, decide_false, Int.toNat_natCast, t0, t1, t5, d1, d2, gs, List.set_set, List.length_set, hlen, w0, w1, w2, w3, w4, w5, w6, w7, w8, r])
      | (refine call_eq (markText_ok _ _ (k + 9 * i + 5) (by omega)) ?_; simp only [go_sem, cond, Nat.reduceAdd, Nat.reduceLeDiff, Nat.reduceEqDiff, Nat.reduceBEq, decide_true, decide_false, Int.toNat_natCast, t0, t1, t5, d1, d2, gs, List.set_set, List.length_set, hlen, w0, w1, w2, w3, w4, w5, w6, w7, w8, r])
      | (refine call_eq (markText_ok _ _ (k + 9 * i + 6) (by omega)) ?_; simp only [go_sem, cond, Nat.reduceAdd, Nat.reduceLeDiff, Nat.reduceEqDiff, Nat.reduceBEq, decide_true, decide_false, Int.toNat_natCast, t0, t1, t5, d1, d2, gs, List.set_set, List.length_set, hlen, w0, w1, w2, w3, w4, w5, w6, w7, w8, r])
      | (refine call_eq (markText_ok _ _ (k + 9 * i + 7) (by omega)) ?_; simp only [go_sem, cond, Nat.reduceAdd, Nat.reduceLeDiff, Nat.reduceEqDiff, Nat.reduceBEq, decide_true, decide_false, Int.toNat_natCast, t0, t1, t5, d1, d2, gs, List.set_set, List.length_set, hlen, w0, w1, w2, w3, w4, w5, w6, w7, w8, r]))
    have p0 : (((((((((flat En.enc (midE ms k i)).set (i * 9 + 0) (.string (mt (k + 9 * i)))).set (i * 9 + 1) (.int .i64 ((k + 9 * i + 1 : Nat) : Int))).set (i * 9 + 2) (.int .i64 ((k + 9 * i + 2 : Nat) : Int))).set (i * 9 + 3) (.string (mt (k + 9 * i + 3)))).set (i * 9 + 4) (.string (mt (k + 9 * i + 4)))).set (i * 9 + 5) (.string (mt (k + 9 * i + 5)))).set (i * 9 + 6) (.string (mt (k + 9 * i + 6)))).set (i * 9 + 7) (.string (mt (k + 9 * i + 7)))).set (i * 9 + 8) (.int .i64 ((k + 9 * i + 8 : Nat) : Int)) = flat En.enc (midE ms k (i + 1)) := by
      rw [← midE_succ ms k i hlt]
      exact flat_set elen (midE ms k i) i (mkE k i) (by rw [midE_len ms k i hi]; exact hlt)
    rw [p0]
    exact ⟨i + 1, ⟨hlt, t0, rfl, int_succ hlt (by omega), rfl⟩, lt_meas hlt⟩
  · obtain rfl : i = ms.length := by omega
    have d1 : ((ms.length : Int) < (ms.length : Int)) = False := eq_false (by omega)
    simp only [go_sem, cond, Nat.reduceAdd, Nat.reduceLeDiff, Nat.reduceEqDiff, Nat.reduceBEq, decide_true, decide_false, Int.toNat_natCast, t0, t1, t5, d1, r]
    rw [midE, List.drop_length, List.append_nil]
set_option maxHeartbeats 4000000 in
theorem heldEntryS_ok (A : Option Addr) (c k n : Nat) (hA : Sl w0 H A 9 ((mkEs n k).map En.enc)) (hn : n ≤ 1048576) (hk : k ≤ 100) : AFn Tryd.prog w0 95 #[.slice A n c, .int .i64 k] H fun v H2 => v = .int .i64 ((k + 9 * n : Nat) : Int) ∧ H2 = H := by
  have hmn := mkEs_len n k
  refine AFn.scal rfl Tryd.func95 rfl (by kernel_rfl) ?_
  have r := Tryd.results95
  simp only [go_sem, cond, Nat.reduceAdd, Nat.reduceLeDiff, Nat.reduceEqDiff, Nat.reduceBEq, decide_true, decide_false, Int.toNat_natCast, r]
  refine xw_loop (fun (i : Nat) T H' => i ≤ n ∧ T 0 = .slice A n c ∧ T 1 = .int .i64 ((k + 9 * i : Nat) : Int) ∧ T 5 = .int .i64 i ∧ H' = Hx H []) (fun i => n - i) 0 (by kernel_rfl) ⟨Nat.zero_le _, rfl, rfl, rfl, rfl⟩ ?_
  rintro i T H' ⟨hi, t0, t1, t5, rfl⟩
  by_cases hlt : i < n
  · obtain ⟨b, o, sp, rfl, hc, _⟩ := mcell hA (i := i) (by omega)
    have hmi : (mkEs n k)[i]'(by omega) = mkE k i := by simp [mkEs]
    rw [hmi] at hc
    have c0 := fun L => hc 0 (.string (mt (k + 9 * i))) L (by decide) rfl
    have c1 := fun L => hc 1 (.int .i64 ((k + 9 * i + 1 : Nat) : Int)) L (by decide) rfl
    have c2 := fun L => hc 2 (.int .i64 ((k + 9 * i + 2 : Nat) : Int)) L (by decide) rfl
    have c3 := fun L => hc 3 (.string (mt (k + 9 * i + 3))) L (by decide) rfl
    have c4 := fun L => hc 4 (.string (mt (k + 9 * i + 4))) L (by decide) rfl
    have c5 := fun L => hc 5 (.string (mt (k + 9 * i + 5))) L (by decide) rfl
    have c6 := fun L => hc 6 (.string (mt (k + 9 * i + 6))) L (by decide) rfl
    have c7 := fun L => hc 7 (.string (mt (k + 9 * i + 7))) L (by decide) rfl
    have c8 := fun L => hc 8 (.int .i64 ((k + 9 * i + 8 : Nat) : Int)) L (by decide) rfl
    have d1 : ((i : Int) < (n : Int)) = True := eq_true (by omega)
    have d2 : (0 ≤ (i : Int)) = True := eq_true (by omega)
    have w0 : IntKind.i64.wrap (((k + 9 * i : Nat) : Int) + 1) = ((k + 9 * i + 1 : Nat) : Int) := by rw [wrap_i64 (by omega) (by omega)]; omega
    have w1 : IntKind.i64.wrap (((k + 9 * i + 1 : Nat) : Int) + 1) = ((k + 9 * i + 2 : Nat) : Int) := by rw [wrap_i64 (by omega) (by omega)]; omega
    have w2 : IntKind.i64.wrap (((k + 9 * i + 2 : Nat) : Int) + 1) = ((k + 9 * i + 3 : Nat) : Int) := by rw [wrap_i64 (by omega) (by omega)]; omega
    have w3 : IntKind.i64.wrap (((k + 9 * i + 3 : Nat) : Int) + 1) = ((k + 9 * i + 4 : Nat) : Int) := by rw [wrap_i64 (by omega) (by omega)]; omega
    have w4 : IntKind.i64.wrap (((k + 9 * i + 4 : Nat) : Int) + 1) = ((k + 9 * i + 5 : Nat) : Int) := by rw [wrap_i64 (by omega) (by omega)]; omega
    have w5 : IntKind.i64.wrap (((k + 9 * i + 5 : Nat) : Int) + 1) = ((k + 9 * i + 6 : Nat) : Int) := by rw [wrap_i64 (by omega) (by omega)]; omega
    have w6 : IntKind.i64.wrap (((k + 9 * i + 6 : Nat) : Int) + 1) = ((k + 9 * i + 7 : Nat) : Int) := by rw [wrap_i64 (by omega) (by omega)]; omega
    have w7 : IntKind.i64.wrap (((k + 9 * i + 7 : Nat) : Int) + 1) = ((k + 9 * i + 8 : Nat) : Int) := by rw [wrap_i64 (by omega) (by omega)]; omega
    have w8 : IntKind.i64.wrap (((k + 9 * i + 8 : Nat) : Int) + 1) = ((k + 9 * (i + 1) : Nat) : Int) := by rw [wrap_i64 (by omega) (by omega)]; omega
    simp only [go_sem, cond, Nat.reduceAdd, Nat.reduceLeDiff, Nat.reduceEqDiff, Nat.reduceBEq, decide_true, decide_false, Int.toNat_natCast, t0, t1, t5, d1, d2, c0, c1, c2, c3, c4, c5, c6, c7, c8, w0, w1, w2, w3, w4, w5, w6, w7, w8, beq_self_eq_true, r]
    repeat' (first
      | (refine xw_open (id := 4) [0, 0, 3, 7, 15, 0, 32, 127] [.q 0, .q 1, .q 2, .q 3, .q 5, .l 4, .e 6, .q 7] rfl (by kernel_rfl) ?_; simp only [go_sem, cond, Nat.reduceAdd, Nat.reduceLeDiff, Nat.reduceEqDiff, Nat.reduceBEq, decide_true, decide_false, Int.toNat_natCast, t0, t1, t5, d1, d2, c0, c1, c2, c3, c4, c5, c6, c7, c8, w0, w1, w2, w3, w4, w5, w6, w7, w8, beq_self_eq_true, r])
      | (refine xw_open (id := 13) [0, 0, 3, 7, 15, 0, 32, 127] [.q 0, .q 1, .q 2, .q 3, .q 5, .l 4, .e 6, .q 7] rfl (by kernel_rfl) ?_; simp only [go_sem, cond, Nat.reduceAdd, Nat.reduceLeDiff, Nat.reduceEqDiff, Nat.reduceBEq, decide_true, decide_false, Int.toNat_natCast, t0, t1, t5, d1, d2, c0, c1, c2, c3, c4, c5, c6, c7, c8, w0, w1, w2, w3, w4, w5, w6, w7, w8, beq_self_eq_true, r])
      | (refine xw_open (id := 16) [0, 0, 3, 7, 15, 0, 32, 127] [.q 0, .q 1, .q 2, .q 3, .q 5, .l 4, .e 6, .q 7] rfl (by kernel_rfl) ?_; simp only [go_sem, cond, Nat.reduceAdd, Nat.reduceLeDiff, Nat.reduceEqDiff, Nat.reduceBEq, decide_true, decide_false, Int.toNat_natCast, t0, t1, t5, d1, d2, c0, c1, c2, c3, c4, c5, c6, c7, c8, w0, w1, w2, w3, w4, w5, w6, w7, w8, beq_self_eq_true, r])
      | (refine xw_open (id := 19) [0, 0, 3, 7, 15, 0, 32, 127] [.q 0, .q 1, .q 2, .q 3, .q 5, .l 4, .e 6, .q 7] rfl (by kernel_rfl) ?_; simp only [go_sem, cond, Nat.reduceAdd, Nat.reduceLeDiff, Nat.reduceEqDiff, Nat.reduceBEq, decide_true, decide_false, Int.toNat_natCast, t0, t1, t5, d1, d2, c0, c1, c2, c3, c4, c5, c6, c7, c8, w0, w1, w2, w3, w4, w5, w6, w7, w8, beq_self_eq_true, r])
      | (refine xw_open (id := 22) [0, 0, 3, 7, 15, 0, 32, 127] [.q 0, .q 1, .q 2, .q 3, .q 5, .l 4, .e 6, .q 7] rfl (by kernel_rfl) ?_; simp only [go_sem, cond, Nat.reduceAdd, Nat.reduceLeDiff, Nat.reduceEqDiff, Nat.reduceBEq, decide_true, decide_false, Int.toNat_natCast, t0, t1, t5, d1, d2, c0, c1, c2, c3, c4, c5, c6, c7, c8, w0, w1, w2, w3, w4, w5, w6, w7, w8, beq_self_eq_true, r])
      | (refine xw_open (id := 25) [0, 0, 3, 7, 15, 0, 32, 127] [.q 0, .q 1, .q 2, .q 3, .q 5, .l 4, .e 6, .q 7] rfl (by kernel_rfl) ?_; simp only [go_sem, cond, Nat.reduceAdd, Nat.reduceLeDiff, Nat.reduceEqDiff, Nat.reduceBEq, decide_true, decide_false, Int.toNat_natCast, t0, t1, t5, d1, d2, c0, c1, c2, c3, c4, c5, c6, c7, c8, w0, w1, w2, w3, w4, w5, w6, w7, w8, beq_self_eq_true, r])
      | (refine call_eq (markText_ok _ _ (k + 9 * i) (by omega)) ?_; simp only [go_sem, cond, Nat.reduceAdd, Nat.reduceLeDiff, Nat.reduceEqDiff, Nat.reduceBEq, decide_true, decide_false, Int.toNat_natCast, t0, t1, t5, d1, d2, c0, c1, c2, c3, c4, c5, c6, c7, c8, w0, w1, w2, w3, w4, w5, w6, w7, w8, beq_self_eq_true, r])
      | (refine call_eq (markText_ok _ _ (k + 9 * i + 3) (by omega)) ?_; simp only [go_sem, cond, Nat.reduceAdd, Nat.reduceLeDiff, Nat.reduceEqDiff, Nat.reduceBEq, decide_true, decide_false, Int.toNat_natCast, t0, t1, t5, d1, d2, c0, c1, c2, c3, c4, c5, c6, c7, c8, w0, w1, w2, w3, w4, w5, w6, w7, w8, beq_self_eq_true, r])
      | (refine call_eq (markText_ok _ _ (k + 9 * i + 4) (by omega)) ?_; simp only [go_sem, cond, Nat.reduceAdd, Nat.reduceLeDiff, Nat.reduceEqDiff, Nat.reduceBEq, decide_true, decide_false, Int.toNat_natCast, t0, t1, t5, d1, d2, c0, c1, c2, c3, c4, c5, c6, c7, c8, w0, w1, w2, w3, w4, w5, w6, w7, w8, beq_self_eq_true, r])
      | (refine call_eq (markText_ok _ _ (k + 9 * i + 5) (by omega)) ?_; simp only [go_sem, cond, Nat.reduceAdd, Nat.reduceLeDiff, Nat.reduceEqDiff, Nat.reduceBEq, decide_true, decide_false, Int.toNat_natCast, t0, t1, t5, d1, d2, c0, c1, c2, c3, c4, c5, c6, c7, c8, w0, w1, w2, w3, w4, w5, w6, w7, w8, beq_self_eq_true, r])
      | (refine call_eq (markText_ok _ _ (k + 9 * i + 6) (by omega)) ?_; simp only [go_sem, cond, Nat.reduceAdd, Nat.reduceLeDiff, Nat.reduceEqDiff, Nat.reduceBEq, decide_true, decide_false, Int.toNat_natCast, t0, t1, t5, d1, d2, c0, c1, c2, c3, c4, c5, c6, c7, c8, w0, w1, w2, w3, w4, w5, w6, w7, w8, beq_self_eq_true, r])
      | (refine call_eq (markText_ok _ _ (k + 9 * i + 7) (by omega)) ?_; simp only [go_sem, cond, Nat.reduceAdd, Nat.reduceLeDiff, Nat.reduceEqDiff, Nat.reduceBEq, decide_true, decide_false, Int.toNat_natCast, t0, t1, t5, d1, d2, c0, c1, c2, c3, c4, c5, c6, c7, c8, w0, w1, w2, w3, w4, w5, w6, w7, w8, beq_self_eq_true, r]))
    exact ⟨i + 1, ⟨hlt, t0, rfl, int_succ hlt (by omega), rfl⟩, lt_meas hlt⟩
  · obtain rfl : i = n := by omega
    have d1 : ((i : Int) < (i : Int)) = False := eq_false (by omega)
    simp only [go_sem, cond, Nat.reduceAdd, Nat.reduceLeDiff, Nat.reduceEqDiff, Nat.reduceBEq, decide_true, decide_false, Int.toNat_natCast, t0, t1, t5, d1, r]
    exact ⟨_, rfl⟩
theorem markE0_ok (c : Nat) (k : Nat) : AFn Tryd.prog w0 37 #[.slice none 0 c, .int .i64 k] H fun v H2 => v = .int .i64 k ∧ H2 = H := by
  refine AFn.scal rfl Tryd.func37 rfl (by kernel_rfl) ?_
  have r := Tryd.results37
  simp only [go_sem, cond, Nat.reduceAdd, Nat.reduceLeDiff, Nat.reduceEqDiff, Nat.reduceBEq, decide_true, decide_false, Int.toNat_natCast, r]
  refine xw_loop (fun (i : Nat) T H' => T 0 = .slice none 0 c ∧ T 1 = .int .i64 k ∧ T 5 = .int .i64 0 ∧ H' = Hx H []) (fun i => 0) 0 (by kernel_rfl) ⟨rfl, rfl, rfl, rfl⟩ ?_
  rintro i T H' ⟨t0, t1, t5, rfl⟩
  have d1 : ((0 : Int) < ((0 : Nat) : Int)) = False := eq_false (by decide)
  simp only [go_sem, cond, Nat.reduceAdd, Nat.reduceLeDiff, Nat.reduceEqDiff, Nat.reduceBEq, decide_true, decide_false, Int.toNat_natCast, t0, t1, t5, d1, r]
  exact ⟨_, rfl⟩
end Go.Proofs.YtmacpgoclhgafaaDoorW.FA

namespace Go.Proofs.YtmacpgoclhgafaaDoorW.FA
open Go.RowKit Go.Proofs.YtmacpgoclhgafaaDoorW.XM Go.Proofs Go.Proofs.YtmacpgoclhgafaaDoorW.XWords
set_option maxRecDepth 100000
set_option linter.unusedSimpArgs false
set_option linter.unusedVariables false
variable (w0 : World) (H : Hp)
theorem szE_rng {e : En} {a : Int} (h1 : 0 ≤ a) (h2 : a ≤ 1048576) : -1 ≤ szE e a ∧ szE e a ≤ a := by
  have q : ∀ (x : Int) (n : Nat), -1 ≤ x → x ≤ 1048576 → -1 ≤ sub1 x n ∧ (sub1 x n ≤ x ∨ sub1 x n = -1) ∧ sub1 x n ≤ 1048576 := by
    intro x n g1 g2
    unfold sub1
    split <;> omega
  unfold szE
  have q1 := q a e.room.size (by omega) h2
  have q2 := q _ e.user.size q1.1 q1.2.2
  have q3 := q _ e.nick.size q2.1 q2.2.2
  have q4 := q _ e.text.size q3.1 q3.2.2
  have q5 := q _ e.id.size q4.1 q4.2.2
  have q6 := q _ e.ref.size q5.1 q5.2.2
  omega
structure WfE (e : En) : Prop where
  room : e.room.size ≤ 9223372036854775807
  user : e.user.size ≤ 9223372036854775807
  nick : e.nick.size ≤ 9223372036854775807
  text : e.text.size ≤ 9223372036854775807
  id : e.id.size ≤ 9223372036854775807
  ref : e.ref.size ≤ 9223372036854775807
theorem szEntryS_ok (A : Option Addr) (c : Nat) (es : List En) (hs : Sl w0 H A 9 (es.map En.enc)) (hl : es.length ≤ 9223372036854775807) (hw : ∀ e ∈ es, WfE e) : AFn Tryd.prog w0 29 #[.slice A es.length c, .int .i64 1048576] H fun v H2 => (∃ n : Int, v = .int .i64 n ∧ -1 ≤ n ∧ n ≤ 1048576 ∧ (0 ≤ n → es.length ≤ 1048576 ∧ ∀ e ∈ es, BigE e)) ∧ H2 = H := by
  refine AFn.trim (R := fun v => ∃ n : Int, v = .int .i64 n ∧ -1 ≤ n ∧ n ≤ 1048576 ∧ (0 ≤ n → es.length ≤ 1048576 ∧ ∀ e ∈ es, BigE e)) ?_ (by rintro v ⟨n, rfl, _⟩; rfl)
  refine AFn_nil ?_
  refine AFn_of Tryd.func29 rfl (by kernel_rfl) ?_
  have r := Tryd.results29
  have w0' : IntKind.i64.wrap (1048576 - (es.length : Int)) = 1048576 - es.length := wrap_i64 (by omega) (by omega)
  simp only [go_sem, cond, Nat.reduceAdd, Nat.reduceLeDiff, Nat.reduceEqDiff, Nat.reduceBEq, decide_true, decide_false, Int.toNat_natCast, r, w0']
  refine Br_intro ?_ ?_ <;> intro h <;> simp only [go_sem, cond, Nat.reduceAdd, Nat.reduceLeDiff, Nat.reduceEqDiff, Nat.reduceBEq, decide_true, decide_false, Int.toNat_natCast, r, w0', h]
  · exact ⟨_, rfl, -1, rfl, by omega, by omega, fun h => by omega⟩
  have h := of_decide_eq_false h
  refine xw_loop (fun (i : Nat) T H' => i ≤ es.length ∧ T 0 = .slice A es.length c ∧ T 5 = .int .i64 i ∧ (∃ m : Int, T 1 = .int .i64 m ∧ 0 ≤ m ∧ m ≤ 1048576) ∧ (∀ e ∈ es.take i, BigE e) ∧ H' = Hx H []) (fun i => es.length - i) 0 (by kernel_rfl) ⟨Nat.zero_le _, rfl, rfl, ⟨_, rfl, by omega, by omega⟩, by simp, rfl⟩ ?_
  rintro i T H' ⟨hi, t0, t5, ⟨m, t1, m1, m2⟩, hB, rfl⟩
  by_cases hlt : i < es.length
  · obtain ⟨b, o, sp, rfl, _, hc⟩ := mcell hs hlt
    have c0 := fun L => hc L rfl
    have d1 : ((i : Int) < (es.length : Int)) = True := eq_true (by omega)
    have d2 : (0 ≤ (i : Int)) = True := eq_true (by omega)
    have hwi := hw es[i] (List.getElem_mem hlt)
    simp only [En.enc] at c0
    simp only [go_sem, cond, Nat.reduceAdd, Nat.reduceLeDiff, Nat.reduceEqDiff, Nat.reduceBEq, decide_true, decide_false, Int.toNat_natCast, t0, t1, t5, d1, d2, c0, r]
    refine call_eq (szEntry_ok w0 _ es[i] m (by omega) m2 hwi.room hwi.user hwi.nick hwi.text hwi.id hwi.ref) ?_
    have hr := szE_rng (e := es[i]) m1 m2
    simp only [go_sem, cond, Nat.reduceAdd, Nat.reduceLeDiff, Nat.reduceEqDiff, Nat.reduceBEq, decide_true, decide_false, Int.toNat_natCast, t0, t1, t5, d1, d2, c0, r]
    refine Br_intro ?_ ?_ <;> intro hx <;> simp only [go_sem, cond, Nat.reduceAdd, Nat.reduceLeDiff, Nat.reduceEqDiff, Nat.reduceBEq, decide_true, decide_false, Int.toNat_natCast, t0, t1, t5, d1, d2, c0, r, hx]
    · exact ⟨_, rfl, -1, rfl, by omega, by omega, fun h => by omega⟩
    · have hx := of_decide_eq_false hx
      refine ⟨i + 1, ⟨hlt, t0, int_succ hlt (by omega), ⟨_, rfl, by omega, by omega⟩, ?_, rfl⟩, lt_meas hlt⟩
      intro e he
      rw [List.take_add_one, List.getElem?_eq_getElem hlt] at he
      rcases List.mem_append.1 he with he | he
      · exact hB e he
      · simp only [Option.toList_some, List.mem_singleton] at he
        subst he
        exact szE_nn m2 (by omega)
  · obtain rfl : i = es.length := by omega
    have d1 : ((es.length : Int) < (es.length : Int)) = False := eq_false (by omega)
    simp only [go_sem, cond, Nat.reduceAdd, Nat.reduceLeDiff, Nat.reduceEqDiff, Nat.reduceBEq, decide_true, decide_false, Int.toNat_natCast, t0, t1, t5, d1, r]
    rw [List.take_length] at hB
    exact ⟨_, rfl, m, rfl, by omega, by omega, fun _ => ⟨by omega, hB⟩⟩
end Go.Proofs.YtmacpgoclhgafaaDoorW.FA

namespace Go.Proofs.YtmacpgoclhgafaaDoorW.FA
open Go.RowKit Go.Proofs.YtmacpgoclhgafaaDoorW.XM Go.Proofs Go.Proofs.YtmacpgoclhgafaaDoorW.XWords
set_option maxRecDepth 100000
set_option linter.unusedSimpArgs false
set_option linter.unusedVariables false
variable (w0 : World) (H : Hp)
theorem PgA.at {H : Hp} {l0 g : List (Option Ob)} {A : Option Addr} {c : Nat} {rows : List En} (h : PgA (Hx H l0) g A c rows) (l0' r : List (Option Ob)) (hl : l0'.length = l0.length) : Sl w0 (Hx H (l0' ++ (g ++ r))) A 9 (rows.map En.enc) := by
  rcases h with ⟨_, rfl, _⟩ | ⟨k, rfl, hk⟩
  · exact .inl rfl
  · rw [nid_Hx]
    refine Sl_own elen 37 rows H _ _ ?_
    rw [← hl, List.getElem?_append_right (by omega), Nat.add_sub_cancel_left, List.getElem?_append_left (lt_of_get hk)]
    exact hk
theorem PgA.at0 {H : Hp} {l0 g : List (Option Ob)} {A : Option Addr} {c : Nat} {rows : List En} (h : PgA (Hx H l0) g A c rows) (l0' : List (Option Ob)) (hl : l0'.length = l0.length) : Sl w0 (Hx H (l0' ++ g)) A 9 (rows.map En.enc) := by
  have := h.at w0 l0' [] hl
  rwa [List.append_nil] at this
theorem markPage_own (B : Hp) (l : List (Option Ob)) (j : Nat) (p : Pg) (c k : Nat) (hl : l[j]? = some (some (.row 37 (flat En.enc p.rows)))) (hn : p.rows.length ≤ 1048576) (hk : k ≤ 100) : AFn Tryd.prog w0 38 #[.agg #[.bool p.full, .int .i64 p.num, .slice (some ⟨nid B j, 0, some (p.rows.length * 9)⟩) p.rows.length c], .int .i64 k] (Hx B l) fun v H2 => v = .int .i64 ((k + 9 * p.rows.length : Nat) : Int) ∧ ∃ G, H2 = Hx B ((l ++ G).set j (some (.row 37 (flat En.enc (mkEs p.rows.length k))))) := by
  refine AFn_of Tryd.func38 rfl (by kernel_rfl) ?_
  have r := Tryd.results38
  have lj : j < l.length := lt_of_get hl
  rw [← Hx_nil (Hx B l)]
  obtain ⟨C, hC⟩ : ∃ C, C = Hx B l := ⟨_, rfl⟩
  rw [← hC]
  simp only [go_sem, cond, Nat.reduceAdd, Nat.reduceLeDiff, Nat.reduceEqDiff, Nat.reduceBEq, decide_true, decide_false, Int.toNat_natCast, r]
  rw [hC, Hx_Hx]
  refine call_eq (markEntryS_ok _ B _ j p.rows c k (by rw [List.getElem?_append_left lj]; exact hl) hn (by omega)) ?_
  simp only [go_sem, cond, Nat.reduceAdd, Nat.reduceLeDiff, Nat.reduceEqDiff, Nat.reduceBEq, decide_true, decide_false, Int.toNat_natCast, r]
  exact ⟨_, rfl⟩
theorem markPage_nil (p : Pg) (c k : Nat) (hr : p.rows = []) : AFn Tryd.prog w0 38 #[.agg #[.bool p.full, .int .i64 p.num, .slice none p.rows.length c], .int .i64 k] H fun v H2 => v = .int .i64 k ∧ H2 = H := by
  rw [hr]
  refine AFn.scal rfl Tryd.func38 rfl (by kernel_rfl) ?_
  have r := Tryd.results38
  simp only [go_sem, cond, Nat.reduceAdd, Nat.reduceLeDiff, Nat.reduceEqDiff, Nat.reduceBEq, decide_true, decide_false, Int.toNat_natCast, r]
  refine call_eq (markE0_ok _ _ c k) ?_
  simp only [go_sem, cond, Nat.reduceAdd, Nat.reduceLeDiff, Nat.reduceEqDiff, Nat.reduceBEq, decide_true, decide_false, Int.toNat_natCast, r]
  exact ⟨_, rfl⟩
theorem markPg (B : Hp) (X0 X : Option Ob) (g r : List (Option Ob)) (A1 : Option Addr) (c1 : Nat) (p : Pg) (hA : PgA (Hx B [X0]) g A1 c1 p.rows) (hn : p.rows.length ≤ 1048576) : AFn Tryd.prog w0 38 #[.agg #[.bool p.full, .int .i64 p.num, .slice A1 p.rows.length c1], .int .i64 1] (Hx B (X :: (g ++ r))) fun v H2 => v = .int .i64 ((1 + 9 * p.rows.length : Nat) : Int) ∧ ∃ M3, H2 = Hx B M3 ∧ (∀ i, g.length ≤ i → ∀ Y, (X :: (g ++ r))[i + 1]? = some Y → M3[i + 1]? = some Y) ∧ Sl w0 (Hx B M3) A1 9 ((mkEs p.rows.length 1).map En.enc) := by
  rcases hA with ⟨rfl, hr, rfl⟩ | ⟨k, rfl, hk⟩
  · refine (markPage_nil w0 _ p 0 1 hr).mono ?_
    rintro v H2 ⟨rfl, rfl⟩
    exact ⟨by rw [hr]; rfl, _, rfl, fun i _ Y h => h, .inl (by rw [hr]; rfl)⟩
  · have hlt := lt_of_get hk
    have e1 : nid (Hx B [X0]) k = nid B (k + 1) := by rw [nid_Hx]; simp only [List.length_cons, List.length_nil]; rw [show 0 + 1 + k = k + 1 by omega]
    rw [e1]
    refine (markPage_own w0 B (X :: (g ++ r)) (k + 1) p c1 1 (by rw [List.getElem?_cons_succ, List.getElem?_append_left hlt]; exact hk) hn (by omega)).mono ?_
    rintro v H2 ⟨rfl, G, rfl⟩
    refine ⟨rfl, _, rfl, fun i hi Y h => ?_, ?_⟩
    · rw [List.getElem?_set_ne (by omega), List.getElem?_append_left (lt_of_get h)]
      exact h
    · have := Sl_own (w0 := w0) elen 37 (mkEs p.rows.length 1) B ((X :: (g ++ r) ++ G).set (k + 1) (some (.row 37 (flat En.enc (mkEs p.rows.length 1))))) (k + 1) (by rw [List.getElem?_set_self (by simp; omega)])
      rw [mkEs_len] at this
      exact this
theorem heldPage_ok (p : Pg) (A : Option Addr) (c k : Nat) (hA : Sl w0 H A 9 ((mkEs p.rows.length k).map En.enc)) (hn : p.rows.length ≤ 1048576) (hk : k ≤ 100) : AFn Tryd.prog w0 39 #[.agg #[.bool p.full, .int .i64 p.num, .slice A p.rows.length c], .int .i64 k] H fun v H2 => v = .int .i64 ((k + 9 * p.rows.length : Nat) : Int) ∧ H2 = H := by
  have neg : decide (((k + 9 * p.rows.length : Nat) : Int) < 0) = false := decide_eq_false (by omega)
  refine AFn.scal rfl Tryd.func39 rfl (by kernel_rfl) ?_
  have r := Tryd.results39
  simp only [go_sem, cond, Nat.reduceAdd, Nat.reduceLeDiff, Nat.reduceEqDiff, Nat.reduceBEq, decide_true, decide_false, Int.toNat_natCast, r]
  refine call_eq (heldEntryS_ok _ _ A c k p.rows.length (hA.old _) hn hk) ?_
  simp only [go_sem, cond, Nat.reduceAdd, Nat.reduceLeDiff, Nat.reduceEqDiff, Nat.reduceBEq, decide_true, decide_false, Int.toNat_natCast, r, neg]
  exact ⟨_, rfl⟩
def CutP (w0 : World) (H : Hp) (A0 : Option Addr) (c0 : Nat) (es : List En) (s : Sy) (P : Pg) (T : Ts) (H' : Hp) : Prop := ∃ (l : List (Option Ob)) (i : Nat) (A : Option Addr) (c : Nat), H' = Hx H l ∧ T 0 = .slice A0 es.length c0 ∧ T 3 = .pointer (some ⟨nid H 0, 0, some 10⟩) ∧ T 6 = .pointer (some ⟨nid H i, 0, some 3⟩) ∧ T 7 = .int .i64 P.code ∧
  (∀ L, rd w0 (Hx (Hx H l) L) ⟨nid H 0, 0, some 10⟩ 10 = some s.enc) ∧ (∀ L, rd w0 (Hx (Hx H l) L) ⟨nid H i, 0, some 3⟩ 3 = some [.bool P.full, .int .i64 P.num, .slice A P.rows.length c]) ∧ Sl w0 (Hx H l) A 9 (P.rows.map En.enc)
def CutQ (w0 : World) (C : Hp) (v6 v9 v12 : Value) (P : Pg) (T : Ts) (H' : Hp) : Prop := ∃ (l : List (Option Ob)) (i : Nat) (A : Option Addr) (c : Nat), H' = Hx C l ∧ T 6 = v6 ∧ T 9 = v9 ∧ T 12 = v12 ∧ T 7 = .int .i64 P.code ∧ T 14 = .pointer (some ⟨nid C i, 0, some 3⟩) ∧ T 15 = .int .i64 P.code ∧
  (∀ L, rd w0 (Hx (Hx C l) L) ⟨nid C i, 0, some 3⟩ 3 = some [.bool P.full, .int .i64 P.num, .slice A P.rows.length c]) ∧ Sl w0 (Hx C l) A 9 (P.rows.map En.enc)
set_option maxHeartbeats 20000000 in
theorem law_PageOf (A0 : Option Addr) (c0 : Nat) (es : List En) (s : Sy) (hT : Tabs w0) (hs : ∀ H, Sl w0 H A0 9 (es.map En.enc)) (hl : es.length ≤ 9223372036854775807) (hw : ∀ e ∈ es, WfE e) (g0 : s.room.size ≤ 9223372036854775807) (g1 : s.nick.size ≤ 9223372036854775807) (g2 : s.name.size ≤ 9223372036854775807) (g3 : s.id.size ≤ 9223372036854775807) (g4 : s.ref.size ≤ 9223372036854775807) (g5 : s.text.size ≤ 9223372036854775807) :
    AFn Tryd.prog w0 6 #[.slice A0 es.length c0, .agg s.enc.toArray] H fun v H2 => v = .bool true ∧ H2 = H := by
  refine AFn.scal rfl Tryd.func6 rfl (by kernel_rfl) ?_
  have r := Tryd.results6
  simp only [go_sem, cond, Nat.reduceAdd, Nat.reduceLeDiff, Nat.reduceEqDiff, Nat.reduceBEq, decide_true, decide_false, Int.toNat_natCast, r]
  simp only [go_sem, cond, Nat.reduceAdd, Nat.reduceLeDiff, Nat.reduceEqDiff, Nat.reduceBEq, decide_true, decide_false, Int.toNat_natCast, Sy.enc, r]
  refine call (szEntryS_ok w0 _ A0 c0 es (hs _) hl hw) ?_
  rintro v H2 ⟨⟨n, rfl, n1, n2, n3⟩, rfl⟩
  simp only [go_sem, cond, Nat.reduceAdd, Nat.reduceLeDiff, Nat.reduceEqDiff, Nat.reduceBEq, decide_true, decide_false, Int.toNat_natCast, Sy.enc, r]
  refine Br_intro ?_ ?_ <;> intro h <;> simp only [go_sem, cond, Nat.reduceAdd, Nat.reduceLeDiff, Nat.reduceEqDiff, Nat.reduceBEq, decide_true, decide_false, Int.toNat_natCast, h, r, Sy.enc]
  · exact ⟨_, rfl⟩
  obtain ⟨hl, hbe⟩ := n3 (by have := of_decide_eq_false h; omega)
  refine call (szSay_ok w0 _ s n n1 n2 g0 g1 g2 g3 g4 g5) ?_
  rintro v H2 ⟨⟨m, rfl, m3⟩, rfl⟩
  simp only [go_sem, cond, Nat.reduceAdd, Nat.reduceLeDiff, Nat.reduceEqDiff, Nat.reduceBEq, decide_true, decide_false, Int.toNat_natCast, Sy.enc, r]
  refine Br_intro ?_ ?_ <;> intro h2 <;> simp only [go_sem, cond, Nat.reduceAdd, Nat.reduceLeDiff, Nat.reduceEqDiff, Nat.reduceBEq, decide_true, decide_false, Int.toNat_natCast, h2, r, Sy.enc]
  · exact ⟨_, rfl⟩
  have hsm := m3 (by have := of_decide_eq_false h2; omega)
  have hB : BigS s := ⟨by have := hsm.1; omega, by have := hsm.2.1; omega, by have := hsm.2.2.1; omega, by have := hsm.2.2.2.1; omega, by have := hsm.2.2.2.2.1; omega, by have := hsm.2.2.2.2.2; omega⟩
  clear h h2 n3 m3 n1 n2 hsm g0 g1 g2 g3 g4 g5 hw
  have cS := fun (H : Hp) (A : Option Addr) (c : Nat) (hs : Sl w0 H A 9 (es.map En.enc)) => PageOfS_ok w0 H A c es s hB hs (by omega)
  have cI := fun (H : Hp) (a : Addr) (c : Nat) (hs : ∀ L, srcO es.length (rd w0 (Hx H L) a (es.length * 9)) = some (es.length, flat En.enc es)) => PageOfI_ok w0 H a c es s hT hB hs (by omega)
  have hPl := pgL es s
  generalize pageR es s = P at *
  have bnn : ∀ c b d, xBin Tryd.prog .neq 4 c (.bool b) (.bool d) = some (.bool (!(b == d))) := fun c b d => bool_ne 4 c b d XF.isB_4
  have hb : ∀ (g : List (Option Ob)) (Y : Option Ob) (r : List (Option Ob)), (g ++ Y :: r)[g.length]? = some Y := fun g Y r => by rw [List.getElem?_append_right (Nat.le_refl _)]; simp
  have gi : ∀ (g r : List (Option Ob)) (k : Nat), (g ++ r)[g.length + k]? = r[k]? := fun g r k => by rw [List.getElem?_append_right (by omega)]; simp
  have si : ∀ (g r : List (Option Ob)) (k : Nat) (Z : Option Ob), (g ++ r).set (g.length + k) Z = g ++ r.set k Z := fun g r k Z => by rw [List.set_append_right _ _ (by omega)]; simp
  have si0 : ∀ (g r : List (Option Ob)) (Z : Option Ob), (g ++ r).set g.length Z = g ++ r.set 0 Z := fun g r Z => by rw [List.set_append_right _ _ (by omega)]; simp
  have hgl : ∀ (X : Option Ob) (g r : List (Option Ob)) (k : Nat), (X :: (g ++ r))[1 + g.length + k]? = r[k]? := fun X g r k => by rw [show 1 + g.length + k = (g.length + k) + 1 by omega, List.getElem?_cons_succ, List.getElem?_append_right (by omega)]; simp
  (refine xw_treeC (id := 8) [0, 1, 0, 7, 15, 31, 63, 63, 0, 383, 1023] (.q 0 (.l 2 (.b 1 (.b 3 (.b 4 (.q 5 (.q 6 (.q 7 (.e 8 (.d 2 (.e 9 (.q 10 .z))))))) 8 (.d 2 (.e 4 (.q 5 (.q 6 (.q 7 (.e 9 (.q 10 .z)))))))) 8 (.d 2 (.e 3 (.e 4 (.q 5 (.q 6 (.q 7 (.e 9 (.q 10 .z))))))))) 8 (.e 1 (.d 2 (.e 3 (.e 4 (.q 5 (.q 6 (.q 7 (.e 9 (.q 10 .z)))))))))))) rfl (by kernel_rfl) (CutP w0 H A0 c0 es s P) ?_ ?_)
  · simp only [go_sem, cond, Nat.reduceAdd, Nat.reduceLeDiff, Nat.reduceEqDiff, Nat.reduceBEq, decide_true, decide_false, Int.toNat_natCast, r, hb, gi, si, si0, List.set_cons_zero, List.set_cons_succ, List.append_assoc, List.length_append, List.length_cons, List.singleton_append, List.cons_append, List.nil_append]
    repeat' (first
      | (refine Both_intro ?_ ?_ <;> simp only [go_sem, cond, Nat.reduceAdd, Nat.reduceLeDiff, Nat.reduceEqDiff, Nat.reduceBEq, decide_true, decide_false, Int.toNat_natCast, r, hb, gi, si, si0, List.set_cons_zero, List.set_cons_succ, List.append_assoc, List.length_append, List.length_cons, List.singleton_append, List.cons_append, List.nil_append])
      | (refine call_eq (toEntryS_ok _ _ A0 c0 es (hs _) (by omega)) ?_; simp only [go_sem, cond, Nat.reduceAdd, Nat.reduceLeDiff, Nat.reduceEqDiff, Nat.reduceBEq, decide_true, decide_false, Int.toNat_natCast, r, hb, gi, si, si0, List.set_cons_zero, List.set_cons_succ, List.append_assoc, List.length_append, List.length_cons, List.singleton_append, List.cons_append, List.nil_append, Sy.enc])
      | (refine call_eq (toSay_ok _ _ s) ?_; simp only [go_sem, cond, Nat.reduceAdd, Nat.reduceLeDiff, Nat.reduceEqDiff, Nat.reduceBEq, decide_true, decide_false, Int.toNat_natCast, r, hb, gi, si, si0, List.set_cons_zero, List.set_cons_succ, List.append_assoc, List.length_append, List.length_cons, List.singleton_append, List.cons_append, List.nil_append, Sy.enc])
      | (refine call (cS _ _ _ (Sl_own elen _ es H _ _ rfl)) ?_; rintro v H2 ⟨A, c, g, rfl, rfl, hA⟩; simp only [go_sem, cond, Nat.reduceAdd, Nat.reduceLeDiff, Nat.reduceEqDiff, Nat.reduceBEq, decide_true, decide_false, Int.toNat_natCast, r, hb, gi, si, si0, List.set_cons_zero, List.set_cons_succ, List.append_assoc, List.length_append, List.length_cons, List.singleton_append, List.cons_append, List.nil_append, Sy.enc, pgV]))
    all_goals refine ⟨_, _, A, c, rfl, rfl, rfl, rfl, rfl, fun L => rd_old (by rw [rd_own]; rfl) L, fun L => rd_old ?_ L, ?_⟩
    all_goals first
      | exact hA.at w0 [_, _] [_] rfl
      | exact hA.at0 w0 [_, _, _] rfl
      | simp only [go_sem, cond, Nat.reduceAdd, Nat.reduceLeDiff, Nat.reduceEqDiff, Nat.reduceBEq, decide_true, decide_false, Int.toNat_natCast, r, hb, gi, si, si0, List.set_cons_zero, List.set_cons_succ, List.append_assoc, List.length_append, List.length_cons, List.singleton_append, List.cons_append, List.nil_append]
  · rintro T H' ⟨l, i, A, c, rfl, t0, t3, t6, t7, c3, c6, hA⟩
    rw [← Hx_nil (Hx H l)]
    obtain ⟨B, hB⟩ : ∃ B, B = Hx H l := ⟨_, rfl⟩
    rw [← hB] at c3 c6 hA ⊢
    simp only [Sy.enc] at c3
    simp only [go_sem, cond, Nat.reduceAdd, Nat.reduceLeDiff, Nat.reduceEqDiff, Nat.reduceBEq, decide_true, decide_false, Int.toNat_natCast, r, hb, gi, si, si0, List.set_cons_zero, List.set_cons_succ, List.append_assoc, List.length_append, List.length_cons, List.singleton_append, List.cons_append, List.nil_append, t0, t3, t6, t7, c3, c6]
    refine call_eq (toEntryS_ok _ _ A0 c0 es (hs _) (by omega)) ?_
    simp only [go_sem, cond, Nat.reduceAdd, Nat.reduceLeDiff, Nat.reduceEqDiff, Nat.reduceBEq, decide_true, decide_false, Int.toNat_natCast, r, hb, gi, si, si0, List.set_cons_zero, List.set_cons_succ, List.append_assoc, List.length_append, List.length_cons, List.singleton_append, List.cons_append, List.nil_append, t0, t3, t6, t7, c3, c6]
    refine call_eq (toSay_ok _ _ s) ?_
    simp only [go_sem, cond, Nat.reduceAdd, Nat.reduceLeDiff, Nat.reduceEqDiff, Nat.reduceBEq, decide_true, decide_false, Int.toNat_natCast, r, hb, gi, si, si0, List.set_cons_zero, List.set_cons_succ, List.append_assoc, List.length_append, List.length_cons, List.singleton_append, List.cons_append, List.nil_append, t0, t3, t6, t7, c3, c6, Sy.enc]
    refine call (cI _ _ _ (fun L => by rw [rd_flat elen 37 es B _ 0 rfl]; rfl)) ?_
    rintro v H2 ⟨A1, c1, g, rfl, rfl, hA1⟩
    simp only [go_sem, cond, Nat.reduceAdd, Nat.reduceLeDiff, Nat.reduceEqDiff, Nat.reduceBEq, decide_true, decide_false, Int.toNat_natCast, r, hb, gi, si, si0, List.set_cons_zero, List.set_cons_succ, List.append_assoc, List.length_append, List.length_cons, List.singleton_append, List.cons_append, List.nil_append, t0, t3, t6, t7, c3, c6, Sy.enc, pgV]
    obtain ⟨PR, hPR⟩ : ∃ PR : Option Ob, PR = some (.row 66 [.bool P.full, .int .i64 P.num, .slice A1 P.rows.length c1]) := ⟨_, rfl⟩
    obtain ⟨XE, hXE⟩ : ∃ XE : Option Ob, XE = some (.row 37 (flat En.enc es)) := ⟨_, rfl⟩
    rw [← hPR, ← hXE]
    have hA1' := hA1.at w0 [XE] [PR] rfl
    have c8 := Sl_own (w0 := w0) elen 37 es B (XE :: (g ++ [PR])) 0 (by rw [hXE]; rfl)
    have c9g : ∀ M3 : List (Option Ob), M3[g.length + 1]? = some PR → ∀ L, rd w0 (Hx (Hx B M3) L) ⟨nid B (g.length + 1), 0, some 3⟩ 3 = some [.bool P.full, .int .i64 P.num, .slice A1 P.rows.length c1] := fun M3 h3 L => rd_old (by rw [rd_own, h3, hPR]; rfl) L
    have c9 := c9g (XE :: (g ++ [PR])) (by rw [List.getElem?_cons_succ]; exact hb _ _ _)
    have c6' : ∀ L L', rd w0 (Hx (Hx B L) L') ⟨nid H i, 0, some 3⟩ 3 = some [.bool P.full, .int .i64 P.num, .slice A P.rows.length c] := fun L L' => by rw [Hx_Hx]; exact c6 _
    have c3' : ∀ L L', rd w0 (Hx (Hx B L) L') ⟨nid H 0, 0, some 10⟩ 10 = some [.int .i64 s.kind, .string s.room, .string s.nick, .string s.name, .string s.id, .string s.ref, .string s.text, .int .i64 s.num, .int .i64 s.frm, .int .i64 s.back] := fun L L' => by rw [Hx_Hx]; exact c3 _
    have d3 := c3' (XE :: (g ++ [PR]))
    have d6 := c6' (XE :: (g ++ [PR]))
    have dA := hA.old (XE :: (g ++ [PR]))
    simp only [List.cons_append, List.nil_append] at hA1'
    rw [← Hx_nil (Hx B (XE :: (g ++ [PR])))]
    obtain ⟨C, hC⟩ : ∃ C, C = Hx B (XE :: (g ++ [PR])) := ⟨_, rfl⟩
    rw [← hC] at c8 c9 d3 d6 dA hA1' ⊢
    refine call_eq (eqPage_ok w0 _ P A1 A c1 c (hA1'.old _) (dA.old _) (by omega)) ?_
    simp only [go_sem, cond, Nat.reduceAdd, Nat.reduceLeDiff, Nat.reduceEqDiff, Nat.reduceBEq, decide_true, decide_false, Int.toNat_natCast, r, hb, gi, si, si0, List.set_cons_zero, List.set_cons_succ, List.append_assoc, List.length_append, List.length_cons, List.singleton_append, List.cons_append, List.nil_append, t0, t3, t6, t7, d3, d6, c9, bnn, beq_self_eq_true]
    refine call_eq (toEntryS_ok _ _ A0 c0 es (hs _) (by omega)) ?_
    simp only [go_sem, cond, Nat.reduceAdd, Nat.reduceLeDiff, Nat.reduceEqDiff, Nat.reduceBEq, decide_true, decide_false, Int.toNat_natCast, r, hb, gi, si, si0, List.set_cons_zero, List.set_cons_succ, List.append_assoc, List.length_append, List.length_cons, List.singleton_append, List.cons_append, List.nil_append, t0, t3, t6, t7, d3, d6, c9, bnn, beq_self_eq_true]
    refine call_eq (eqEntryS_ok w0 _ _ _ _ _ es (c8.old _) (Sl_own elen 37 es C _ _ rfl) (by omega)) ?_
    simp only [go_sem, cond, Nat.reduceAdd, Nat.reduceLeDiff, Nat.reduceEqDiff, Nat.reduceBEq, decide_true, decide_false, Int.toNat_natCast, r, hb, gi, si, si0, List.set_cons_zero, List.set_cons_succ, List.append_assoc, List.length_append, List.length_cons, List.singleton_append, List.cons_append, List.nil_append, t0, t3, t6, t7, d3, d6, c9, bnn, beq_self_eq_true]
    rw [hC, Hx_Hx]
    refine call_eq (markEntryS_ok w0 B _ 0 es _ 1 (by rw [hXE]; rfl) (by omega) (by omega)) ?_
    have negN : ∀ n : Nat, decide ((n : Int) < 0) = false := fun n => decide_eq_false (by omega)
    simp only [List.cons_append, List.append_assoc, List.set_cons_zero, List.nil_append]
    obtain ⟨XM, hXM⟩ : ∃ XM : Option Ob, XM = some (.row 37 (flat En.enc (mkEs es.length 1))) := ⟨_, rfl⟩
    rw [← hXM]
    generalize hR2 : (PR :: [some (Ob.row 37 (flat En.enc es))]) = R2
    have hR2' : R2[0]? = some PR := by rw [← hR2]; rfl
    clear hR2 c8 c9 d3 d6 dA hA1' hC
    have hA2 := hA1.at w0 [XM] R2 rfl
    have c9 := c9g (XM :: (g ++ R2)) (by rw [List.getElem?_cons_succ, List.getElem?_append_right (Nat.le_refl _), Nat.sub_self]; exact hR2')
    have d3 := c3' (XM :: (g ++ R2))
    have d6 := c6' (XM :: (g ++ R2))
    have dA := hA.old (XM :: (g ++ R2))
    simp only [List.cons_append, List.nil_append] at hA2
    rw [← Hx_nil (Hx B (XM :: (g ++ R2)))]
    obtain ⟨C2, hC2⟩ : ∃ C, C = Hx B (XM :: (g ++ R2)) := ⟨_, rfl⟩
    rw [← hC2] at c9 d3 d6 dA hA2 ⊢
    simp only [go_sem, cond, Nat.reduceAdd, Nat.reduceLeDiff, Nat.reduceEqDiff, Nat.reduceBEq, decide_true, decide_false, Int.toNat_natCast, r, hb, gi, si, si0, List.set_cons_zero, List.set_cons_succ, List.append_assoc, List.length_append, List.length_cons, List.singleton_append, List.cons_append, List.nil_append, t0, t3, t6, t7, d3, d6, c9, bnn, beq_self_eq_true, negN]
    refine call_eq (eqPage_ok w0 _ P A1 A c1 c (hA2.old _) (dA.old _) (by omega)) ?_
    simp only [go_sem, cond, Nat.reduceAdd, Nat.reduceLeDiff, Nat.reduceEqDiff, Nat.reduceBEq, decide_true, decide_false, Int.toNat_natCast, r, hb, gi, si, si0, List.set_cons_zero, List.set_cons_succ, List.append_assoc, List.length_append, List.length_cons, List.singleton_append, List.cons_append, List.nil_append, t0, t3, t6, t7, d3, d6, c9, bnn, beq_self_eq_true, negN]
    rw [Hx_nil, hC2]
    refine call (markPg w0 B XE XM g R2 A1 c1 P (by rw [hXE]; exact hA1) (by omega)) ?_
    rintro v H2 ⟨rfl, M3, rfl, hM3, hA3⟩
    clear c9 d3 d6 dA hA2 hC2
    have c9 := c9g M3 (hM3 g.length (Nat.le_refl _) _ (by rw [List.getElem?_cons_succ, List.getElem?_append_right (Nat.le_refl _), Nat.sub_self]; exact hR2'))
    have d3 := c3' M3
    have d6 := c6' M3
    have dA := hA.old M3
    rw [← Hx_nil (Hx B M3)]
    obtain ⟨C3, hC3⟩ : ∃ C, C = Hx B M3 := ⟨_, rfl⟩
    rw [← hC3] at c9 d3 d6 dA hA3 ⊢
    simp only [go_sem, cond, Nat.reduceAdd, Nat.reduceLeDiff, Nat.reduceEqDiff, Nat.reduceBEq, decide_true, decide_false, Int.toNat_natCast, r, hb, gi, si, si0, List.set_cons_zero, List.set_cons_succ, List.append_assoc, List.length_append, List.length_cons, List.singleton_append, List.cons_append, List.nil_append, t0, t3, t6, t7, d3, d6, c9, bnn, beq_self_eq_true, negN]
    refine call_eq (heldPage_ok w0 _ P A1 c1 1 (hA3.old _) (by omega) (by omega)) ?_
    simp only [go_sem, cond, Nat.reduceAdd, Nat.reduceLeDiff, Nat.reduceEqDiff, Nat.reduceBEq, decide_true, decide_false, Int.toNat_natCast, r, hb, gi, si, si0, List.set_cons_zero, List.set_cons_succ, List.append_assoc, List.length_append, List.length_cons, List.singleton_append, List.cons_append, List.nil_append, t0, t3, t6, t7, d3, d6, c9, bnn, beq_self_eq_true, negN]
    (refine xw_treeC (id := 27) [0, 1, 0, 7, 15, 31, 63, 63, 0, 383, 1023] (.q 0 (.l 2 (.b 1 (.b 3 (.b 4 (.q 5 (.q 6 (.q 7 (.e 8 (.d 2 (.e 9 (.q 10 .z))))))) 8 (.d 2 (.e 4 (.q 5 (.q 6 (.q 7 (.e 9 (.q 10 .z)))))))) 8 (.d 2 (.e 3 (.e 4 (.q 5 (.q 6 (.q 7 (.e 9 (.q 10 .z))))))))) 8 (.e 1 (.d 2 (.e 3 (.e 4 (.q 5 (.q 6 (.q 7 (.e 9 (.q 10 .z)))))))))))) rfl (by kernel_rfl) (CutQ w0 C3 (.pointer (some ⟨nid H i, 0, some 3⟩)) (.pointer (some ⟨nid B (g.length + 1), 0, some 3⟩)) (.int .i64 ((1 + 9 * P.rows.length : Nat) : Int)) P) ?_ ?_)
    · simp only [go_sem, cond, Nat.reduceAdd, Nat.reduceLeDiff, Nat.reduceEqDiff, Nat.reduceBEq, decide_true, decide_false, Int.toNat_natCast, r, hb, gi, si, si0, List.set_cons_zero, List.set_cons_succ, List.append_assoc, List.length_append, List.length_cons, List.singleton_append, List.cons_append, List.nil_append, t0, t3, t6, t7, d3, d6, c9]
      repeat' (first
        | (refine Both_intro ?_ ?_ <;> simp only [go_sem, cond, Nat.reduceAdd, Nat.reduceLeDiff, Nat.reduceEqDiff, Nat.reduceBEq, decide_true, decide_false, Int.toNat_natCast, r, hb, gi, si, si0, List.set_cons_zero, List.set_cons_succ, List.append_assoc, List.length_append, List.length_cons, List.singleton_append, List.cons_append, List.nil_append, t0, t3, t6, t7, d3, d6, c9])
        | (refine call_eq (toEntryS_ok _ _ A0 c0 es (hs _) (by omega)) ?_; simp only [go_sem, cond, Nat.reduceAdd, Nat.reduceLeDiff, Nat.reduceEqDiff, Nat.reduceBEq, decide_true, decide_false, Int.toNat_natCast, r, hb, gi, si, si0, List.set_cons_zero, List.set_cons_succ, List.append_assoc, List.length_append, List.length_cons, List.singleton_append, List.cons_append, List.nil_append, t0, t3, t6, t7, d3, d6, c9, Sy.enc])
        | (refine call_eq (toSay_ok _ _ s) ?_; simp only [go_sem, cond, Nat.reduceAdd, Nat.reduceLeDiff, Nat.reduceEqDiff, Nat.reduceBEq, decide_true, decide_false, Int.toNat_natCast, r, hb, gi, si, si0, List.set_cons_zero, List.set_cons_succ, List.append_assoc, List.length_append, List.length_cons, List.singleton_append, List.cons_append, List.nil_append, t0, t3, t6, t7, d3, d6, c9, Sy.enc])
        | (refine call (cI _ _ _ (fun L => by rw [rd_flat elen 37 es C3 _ _ rfl]; rfl)) ?_; rintro v H2 ⟨A, c, g, rfl, rfl, hA⟩; simp only [go_sem, cond, Nat.reduceAdd, Nat.reduceLeDiff, Nat.reduceEqDiff, Nat.reduceBEq, decide_true, decide_false, Int.toNat_natCast, r, hb, gi, si, si0, List.set_cons_zero, List.set_cons_succ, List.append_assoc, List.length_append, List.length_cons, List.singleton_append, List.cons_append, List.nil_append, t0, t3, t6, t7, d3, d6, c9, Sy.enc, pgV]))
      all_goals refine ⟨_, _, A, c, rfl, t6, rfl, rfl, t7, rfl, rfl, fun L => rd_old ?_ L, ?_⟩
      all_goals first
        | exact hA.at w0 [_] [_] rfl
        | exact hA.at0 w0 [_, _] rfl
        | simp only [go_sem, cond, Nat.reduceAdd, Nat.reduceLeDiff, Nat.reduceEqDiff, Nat.reduceBEq, decide_true, decide_false, Int.toNat_natCast, r, hb, gi, si, si0, List.set_cons_zero, List.set_cons_succ, List.append_assoc, List.length_append, List.length_cons, List.singleton_append, List.cons_append, List.nil_append]
    · rintro T H' ⟨l2, i2, A2, c2, rfl, t6, t9, t12, t7, t14, t15, c14, hA14⟩
      have e6 : ∀ L L', rd w0 (Hx (Hx C3 L) L') ⟨nid H i, 0, some 3⟩ 3 = some [.bool P.full, .int .i64 P.num, .slice A P.rows.length c] := fun L L' => by rw [Hx_Hx]; exact d6 _
      have e9 : ∀ L L', rd w0 (Hx (Hx C3 L) L') ⟨nid B (g.length + 1), 0, some 3⟩ 3 = some [.bool P.full, .int .i64 P.num, .slice A1 P.rows.length c1] := fun L L' => by rw [Hx_Hx]; exact c9 _
      have f6 := e6 l2
      have f9 := e9 l2
      have dA := dA.old l2
      have hA3 := hA3.old l2
      rw [← Hx_nil (Hx C3 l2)]
      obtain ⟨D, hD⟩ : ∃ C, C = Hx C3 l2 := ⟨_, rfl⟩
      rw [← hD] at f6 f9 dA hA3 c14 hA14 ⊢
      simp only [go_sem, cond, Nat.reduceAdd, Nat.reduceLeDiff, Nat.reduceEqDiff, Nat.reduceBEq, decide_true, decide_false, Int.toNat_natCast, r, hb, gi, si, si0, List.set_cons_zero, List.set_cons_succ, List.append_assoc, List.length_append, List.length_cons, List.singleton_append, List.cons_append, List.nil_append, t6, t9, t12, t7, t14, t15, f6, f9, c14, bnn, beq_self_eq_true, negN]
      refine call_eq (eqPage_ok w0 _ P A2 A c2 c (hA14.old _) (dA.old _) (by omega)) ?_
      simp only [go_sem, cond, Nat.reduceAdd, Nat.reduceLeDiff, Nat.reduceEqDiff, Nat.reduceBEq, decide_true, decide_false, Int.toNat_natCast, r, hb, gi, si, si0, List.set_cons_zero, List.set_cons_succ, List.append_assoc, List.length_append, List.length_cons, List.singleton_append, List.cons_append, List.nil_append, t6, t9, t12, t7, t14, t15, f6, f9, c14, bnn, beq_self_eq_true, negN]
      refine call_eq (heldPage_ok w0 _ P A1 c1 1 (hA3.old _) (by omega) (by omega)) ?_
      simp only [go_sem, cond, Nat.reduceAdd, Nat.reduceLeDiff, Nat.reduceEqDiff, Nat.reduceBEq, decide_true, decide_false, Int.toNat_natCast, r, hb, gi, si, si0, List.set_cons_zero, List.set_cons_succ, List.append_assoc, List.length_append, List.length_cons, List.singleton_append, List.cons_append, List.nil_append, t6, t9, t12, t7, t14, t15, f6, f9, c14, bnn, beq_self_eq_true, negN]
      exact ⟨_, by rw [hD, hC3, hB, Hx_Hx, Hx_Hx, Hx_Hx]⟩
end Go.Proofs.YtmacpgoclhgafaaDoorW.FA

namespace Go.Proofs.YtmacpgoclhgafaaDoorW.FA
open Go.RowKit Go.ChangeShapes Go.WideShapes Go.ChangeAt Go.Deep Go.Proofs.YtmacpgoclhgafaaDoorW.XM Go.Proofs Go.Proofs.YtmacpgoclhgafaaDoorW.XWords Go.Proofs.YtmacpgoclhgafaaDoorW.XRA
set_option maxRecDepth 100000
set_option linter.unusedVariables false
theorem slice_spot {P : Program} {w : World} {base : Nat} {T e : TypeId} {v : Value} (ht : P.underlying T = some (.slice e)) (h : Value.okWide P w .any base T v) : ∀ a n c, v = .slice (some a) n c → a.spot = none := by
  intro a n c hv
  subst hv
  simp only [Value.okWide, ht] at h
  unfold Cell.okWide at h
  split at h <;> first
    | (rename_i h6; cases h6; done)
    | skip
  all_goals first
    | (unfold Cell.ok at h
       split at h <;> first
         | (rename_i h6; cases h6; done)
         | (exact h.elim)
         | (rename_i h6; cases h6; exact h.2.2.2.1)
         | (exact h.2.2.2.1))
    | skip
end Go.Proofs.YtmacpgoclhgafaaDoorW.FA

namespace Go.Proofs.YtmacpgoclhgafaaDoorW.FA
open Go.RowKit Go.ChangeShapes Go.WideShapes Go.ChangeAt Go.Deep Go.Proofs.YtmacpgoclhgafaaDoorW.XM Go.Proofs Go.Proofs.YtmacpgoclhgafaaDoorW.XWords Go.Proofs.YtmacpgoclhgafaaDoorW.XRA
set_option maxRecDepth 100000
set_option linter.unusedVariables false
instance : Inhabited En := ⟨⟨em, 0, 0, em, em, em, em, em, 0⟩⟩
theorem ens_reads {H : Type} {en : TypeId × Value → H} {w : World} {base : Nat} {spare : Nat → Bool} {held : Bool} {fuel : Nat} {u : Value} {x : DataW H × List MemPlace} (h : DataW.trod en Tryd.prog w base spare held fuel 61 [u] = some x) (hs : ∀ a n c, u = .slice (some a) n c → a.spot = none) : ∃ (A : Option Addr) (c : Nat) (l : List En), u = .slice A l.length c ∧ plain (.slice A l.length c) = true ∧ (∀ H, Sl w H A 9 (l.map En.enc)) ∧ l.length ≤ 9223372036854775807 ∧ (∀ e ∈ l, WfE e) := by
  have hmx : maxLen = 9223372036854775807 := rfl
  obtain ⟨A, c, l, h1, h2, h3, h4, h5, h6⟩ := slice_readA en_reads Tryd.underlying61 (by kernel_rfl) elen (by decide) (fun a v hv => by
    simp only [En.enc, List.mem_cons, List.not_mem_nil, or_false] at hv
    rcases hv with rfl | rfl | rfl | rfl | rfl | rfl | rfl | rfl | rfl <;> rfl) h hs
  exact ⟨A, c, l, h1, h5, fun H => (sl_of elen h6 H).1, by omega, fun e he => (by have := h4 e he; exact ⟨by omega, by omega, by omega, by omega, by omega, by omega⟩)⟩
theorem list_10 {α : Type} : ∀ (l : List α), l.length = 10 → ∃ x0 x1 x2 x3 x4 x5 x6 x7 x8 x9, l = [x0, x1, x2, x3, x4, x5, x6, x7, x8, x9]
  | [x0, x1, x2, x3, x4, x5, x6, x7, x8, x9], _ => ⟨x0, x1, x2, x3, x4, x5, x6, x7, x8, x9, rfl⟩
theorem sy_reads : ReadsA Tryd.prog Sy.enc 62 (fun s => s.room.size ≤ maxLen ∧ s.nick.size ≤ maxLen ∧ s.name.size ≤ maxLen ∧ s.id.size ≤ maxLen ∧ s.ref.size ≤ maxLen ∧ s.text.size ≤ maxLen) := by
  intro H enc w base spare held fuel cs x hx
  obtain ⟨hl, n, hf⟩ := struct_readA Tryd.underlying62 hx
  have hlen : cs.length = 10 := hl.trans (by kernel_rfl)
  obtain ⟨u0, u1, u2, u3, u4, u5, u6, u7, u8, u9, rfl⟩ := list_10 cs hlen
  obtain ⟨y0, h0⟩ := hf 0 3 0 1 [u0] rfl (by kernel_rfl) rfl
  obtain ⟨a0, e0, q0⟩ := ra_int Tryd.underlying3 _ _ _ _ _ _ _ _ _ h0
  obtain rfl : u0 = .int .i64 a0 := List.singleton_inj.1 e0
  obtain ⟨y1, h1⟩ := hf 1 9 1 1 [u1] rfl (by kernel_rfl) rfl
  obtain ⟨a1, e1, q1⟩ := ra_str Tryd.underlying9 _ _ _ _ _ _ _ _ _ h1
  obtain rfl : u1 = .string a1 := List.singleton_inj.1 e1
  obtain ⟨y2, h2⟩ := hf 2 9 2 1 [u2] rfl (by kernel_rfl) rfl
  obtain ⟨a2, e2, q2⟩ := ra_str Tryd.underlying9 _ _ _ _ _ _ _ _ _ h2
  obtain rfl : u2 = .string a2 := List.singleton_inj.1 e2
  obtain ⟨y3, h3⟩ := hf 3 9 3 1 [u3] rfl (by kernel_rfl) rfl
  obtain ⟨a3, e3, q3⟩ := ra_str Tryd.underlying9 _ _ _ _ _ _ _ _ _ h3
  obtain rfl : u3 = .string a3 := List.singleton_inj.1 e3
  obtain ⟨y4, h4⟩ := hf 4 9 4 1 [u4] rfl (by kernel_rfl) rfl
  obtain ⟨a4, e4, q4⟩ := ra_str Tryd.underlying9 _ _ _ _ _ _ _ _ _ h4
  obtain rfl : u4 = .string a4 := List.singleton_inj.1 e4
  obtain ⟨y5, h5⟩ := hf 5 9 5 1 [u5] rfl (by kernel_rfl) rfl
  obtain ⟨a5, e5, q5⟩ := ra_str Tryd.underlying9 _ _ _ _ _ _ _ _ _ h5
  obtain rfl : u5 = .string a5 := List.singleton_inj.1 e5
  obtain ⟨y6, h6⟩ := hf 6 9 6 1 [u6] rfl (by kernel_rfl) rfl
  obtain ⟨a6, e6, q6⟩ := ra_str Tryd.underlying9 _ _ _ _ _ _ _ _ _ h6
  obtain rfl : u6 = .string a6 := List.singleton_inj.1 e6
  obtain ⟨y7, h7⟩ := hf 7 3 7 1 [u7] rfl (by kernel_rfl) rfl
  obtain ⟨a7, e7, q7⟩ := ra_int Tryd.underlying3 _ _ _ _ _ _ _ _ _ h7
  obtain rfl : u7 = .int .i64 a7 := List.singleton_inj.1 e7
  obtain ⟨y8, h8⟩ := hf 8 3 8 1 [u8] rfl (by kernel_rfl) rfl
  obtain ⟨a8, e8, q8⟩ := ra_int Tryd.underlying3 _ _ _ _ _ _ _ _ _ h8
  obtain rfl : u8 = .int .i64 a8 := List.singleton_inj.1 e8
  obtain ⟨y9, h9⟩ := hf 9 3 9 1 [u9] rfl (by kernel_rfl) rfl
  obtain ⟨a9, e9, q9⟩ := ra_int Tryd.underlying3 _ _ _ _ _ _ _ _ _ h9
  obtain rfl : u9 = .int .i64 a9 := List.singleton_inj.1 e9
  exact ⟨⟨a0, a1, a2, a3, a4, a5, a6, a7, a8, a9⟩, rfl, q1, q2, q3, q4, q5, q6⟩
end Go.Proofs.YtmacpgoclhgafaaDoorW.FA

namespace Go.Proofs.YtmacpgoclhgafaaDoorW.XWords
open Go.Shelf Go.RowKit
theorem u8x : U8Extra Tryd.prog Tryd.lays260_ren := {
  n3 := by kernel_rfl
  n4 := by kernel_rfl
  y3 := by kernel_rfl
  y4 := by kernel_rfl
  c5 := by kernel_rfl
  c119 := by kernel_rfl
  c138 := by kernel_rfl }
theorem firstD : Go.Pinned.utf8First = Lib.firstData := by kernel_rfl
theorem acceptD : (Go.Proofs.YtmacpgoclhgafaaDoor.Rows.laid_unicode_utf8_acceptRanges : DataW Unit) = Lib.acceptData := by kernel_rfl
theorem Tabs_of_laid {W : World} (h : laidMetH Tryd.prog Go.Proofs.YtmacpgoclhgafaaDoor.Rows.fnExactRoomApplyRow.laid W) : Tabs W := by
  have h' : laidMet Tryd.prog Go.Proofs.YtmacpgoclhgafaaDoor.Rows.fnExactRoomApplyRow.laid W := by
    rw [← MakeChecks.laidMetH_plain _ _ _ (by kernel_rfl)]
    exact h
  refine utf8Tabs_of_reads Tryd.lays260 u8x ?_ ?_
  · rw [← firstD]
    exact Lib.laidMet.reads h' (List.mem_cons_of_mem _ (List.mem_cons_self ..))
  · rw [← acceptD]
    exact Lib.laidMet.reads h' (List.mem_cons_self ..)
/-- What an initialiser lays, put into a variable's block. -/
def laidIn (cs : List Value) : Obj → Obj
  | .cells _ t frozen => .cells cs.toArray t frozen
  | o => o
def firstCells : List Value := Lib.firstTab.map fun z => Value.int .u8 z
def acceptCells : List Value := (List.range 16).flatMap fun i => [Value.int .u8 (Lib.accLo i), Value.int .u8 (Lib.accHi i)]
/-- A world for the rows' witness: the tables as their initialisers lay them. -/
noncomputable def laidWorld (os : Os) : World :=
  { World.holding Tryd.prog os ⟨#[], #[], []⟩ with heap := ((World.holding Tryd.prog os ⟨#[], #[], []⟩).heap.modify (Tryd.lays260_ren.g 3) (laidIn firstCells)).modify (Tryd.lays260_ren.g 4) (laidIn acceptCells) }
end Go.Proofs.YtmacpgoclhgafaaDoorW.XWords

