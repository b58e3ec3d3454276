-- laid by xprint.py and pack.py, programs of this session's; Lean checks it
import Derived.Test.YtgjecacalpaacaaRows
import Derived.Test.YtgjecacalpaacaaZFnExactServerNewK4
import Derived.Test.YtgjecacalpaacaaZFnExactServerNewP
import Derived.Test.YtgjecacalpaacaaZFnExactServerNewL
import Derived.WalkKit
import Derived.ProofKit
import Derived.OpenShut
import Derived.ShutString
import Derived.ChangeOld
import Derived.Below
-- laid by xprint.py, a program of this session's over the kit's print; Lean checks it
namespace Go.Proofs.Ytgjecacalpaacaa.fnExactServerNew
open Go.ChangeShapes Go.WideShapes Go.ChangeAt Go.RowKit Go.Proofs.YtgjecacalpaacaaW.XRow Go.Proofs.YtgjecacalpaacaaW.PrintWords Go.Proofs.YtgjecacalpaacaaW.PrintLast
open Go.ChangeMaps (open_string shut_string)
set_option linter.unusedVariables false
theorem own : ownKnob Try.prog.godebug = none := by kernel_rfl
theorem laidOut : laidOutB Try.prog = true := by kernel_rfl
theorem list_2 {α : Type} : ∀ (l : List α), l.length = 2 → ∃ x0 x1, l = [x0, x1]
  | [x0, x1], _ => ⟨x0, x1, rfl⟩
instance : Inhabited PAll.S38 := ⟨PAll.z38⟩
theorem reads_k38 : Reads Try.prog PAll.k38 38 (fun x => (x.f0.size ≤ maxLen ∧ x.f1.size ≤ maxLen)) := by
  intro H enc w base spare held fuel cs x hx
  have hlen : cs.length = 2 := (struct_read Try.underlying38 hx).1.trans (by kernel_rfl)
  obtain ⟨u0, u1, rfl⟩ := list_2 cs hlen
  obtain ⟨n, hf⟩ := struct_at Try.underlying38 hx
  obtain ⟨y0, hy0⟩ := hf 0 9 0 1 [u0] rfl (by kernel_rfl) rfl
  obtain ⟨a0, e0, hq0⟩ := (reads_string (P := Try.prog) Try.underlying9) _ _ _ _ _ _ _ _ _ hy0
  obtain rfl : u0 = .string a0 := List.singleton_inj.1 e0
  obtain ⟨y1, hy1⟩ := hf 1 9 1 1 [u1] rfl (by kernel_rfl) rfl
  obtain ⟨a1, e1, hq1⟩ := (reads_string (P := Try.prog) Try.underlying9) _ _ _ _ _ _ _ _ _ hy1
  obtain rfl : u1 = .string a1 := List.singleton_inj.1 e1
  exact ⟨⟨a0, a1⟩, PAll.k38_mk w ⟨a0, a1⟩ , hq0, hq1⟩
set_option maxRecDepth 100000 in
theorem lifted (os : Os) (started : os.Started) (H : Type) (enc : TypeId × Value → H) :
    ReturnsInHanded {} Try.checked os 3 .any (Rows.fnExactServerNewSpec.pre6 enc Try.prog Try.f3 Rows.fnExactServerNewRow.domain false) (Rows.fnExactServerNewSpec.post enc Try.prog Try.f3 false true false false) := by
  refine returnsInHanded_of_change_sized (C := Try.checked) own started (by kernel_rfl) Try.func3
    (ChangeSpec.witness6 (enc := enc) (C := Try.checked) false ⟨#[], #[.slice none 0 0], []⟩ 8 (by kernel_rfl) (by kernel_rfl) (by kernel_rfl) (by kernel_rfl)) ?_
  intro W base args ds gs before hval0 hW hcnd hsz0 _
  have hval : ∀ (j : Nat) t v, Try.f3.params[j]? = some t → args[j]? = some v → Value.okWide Try.prog W .any base t v := hval0
  have hW' := hW
  obtain ⟨p, q, hA0, hV, rfl, hfz, hnd⟩ := hW
  have hA : DataW.TrodAll enc Try.prog W 0 (fun _ => true) true Try.f3.params.toList args.toList ds p := hA0
  rw [Try.params3] at hA hval
  obtain ⟨v0, vs0, d0, ds0, p0, q0, hargs, rfl, rfl, h0, r0⟩ := trodAll_cons hA
  obtain ⟨rfl, rfl, rfl⟩ := trodAll_nil r0
  obtain rfl : args = #[v0] := by cases args; simp_all
  obtain ⟨rfl, rfl⟩ := trodVars_none hV
  clear hA0 hval0 hsz0 hcnd
  have k0 := h0
  have lt0 : ∀ x ∈ p0, x.block < W.heap.size := by obtain ⟨m, hm⟩ := k0; exact DataW.trod_lt m _ _ _ hm
  obtain ⟨aa0, len0, cap0, rfl⟩ := okWide_slice Try.underlying22 (hval 0 22 v0 rfl rfl)
  obtain ⟨fuel0, hf0⟩ := h0
  obtain ⟨A0, c0, l0, ev0, hc0, hm0, hr0, hq0⟩ := slice_read (u := .slice aa0 len0 cap0) reads_k38 Try.underlying22 (by kernel_rfl) hf0
  obtain ⟨rfl, rfl, rfl⟩ := Value.slice.inj ev0.symm
  obtain ⟨k, h⟩ := Pure.FnExactServerNew l0 hm0 hq0
  refine (PAll.laws_FnExactServerNew.calls k A0 c0 l0 true W hr0 hc0 h rfl).mono fun e W' ⟨he, bel0⟩ => ?_
  have bel : Below W.heap.size W W' := bel0
  subst he
  exact ⟨_, rfl, _, _, _, [], _, [], hW', trodAll_mk1 (shut_bool Try.underlying4 _), (trodAll_cons_mk (Below.trod laidOut (by kernel_rfl) (of_decide_eq_true (by kernel_rfl)) k0 bel lt0) trodAll_mk0), rfl, bel.frame _, fun h => by cases h⟩
theorem over : Rows.fnExactServerNewRow.holds Try.pinned (OpenSpec.ofChange Rows.fnExactServerNewSpec) :=
  OpenClaim.holds_of_wide 3 Try.f3 rfl rfl rfl rfl rfl rfl rfl ⟨rfl, rfl, rfl, rfl, rfl⟩ rfl rfl rfl rfl rfl (by kernel_rfl) Try.func3 (by kernel_rfl)
    (of_decide_eq_true (by kernel_rfl)) (by unfold Func.isWrapper; first | (rw [if_pos (by decide +kernel)]; kernel_rfl) | (rw [if_neg (by decide +kernel)]; exact ⟨rfl, rfl⟩))
    (fun os started H enc _ => lifted os started H enc)
theorem proved : Rows.FnExactServerNewSaid := over
#print axioms proved
end Go.Proofs.Ytgjecacalpaacaa.fnExactServerNew
namespace Go.Proofs.Ytgjecacalpaacaa
theorem fnExactServerNew_holds : Rows.FnExactServerNewSaid := fnExactServerNew.proved
end Go.Proofs.Ytgjecacalpaacaa

