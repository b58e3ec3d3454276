-- laid by xprint.py and pack.py, programs of this session's; Lean checks it
import Derived.Test.YtgjecacalpaacaaDoorRows
import Derived.Test.YtgjecacalpaacaaDoorCards
import Derived.Test.YtgjecacalpaacaaDoorTie
import Derived.Test.YtgjecacalpaacaaDoorZFnExactJidPutK1
import Derived.Test.YtgjecacalpaacaaDoorZFnExactJidPutP
import Derived.Test.YtgjecacalpaacaaDoorZFnExactJidPutL
import Derived.WalkKit
import Derived.ProofKit
import Derived.OpenShut
import Derived.ShutString
import Derived.ChangeOld
import Derived.Below
import Derived.Deep.DeepHandedRow
import Derived.Lib.LaidTab
-- laid by xprint.py, a program of this session's over the kit's print; Lean checks it
namespace Go.Proofs.YtgjecacalpaacaaDoor.fnExactJidPut
open Go.ChangeShapes Go.WideShapes Go.ChangeAt Go.RowKit Go.Proofs.YtgjecacalpaacaaDoorW.XRow Go.Proofs.YtgjecacalpaacaaDoorW.XWords Go.Proofs.YtgjecacalpaacaaDoorW.PrintWords Go.Proofs.YtgjecacalpaacaaDoorW.PrintLast
open Go.ChangeMaps (open_string shut_string)
set_option linter.unusedVariables false
theorem own : ownKnob Tryd.prog.godebug = none := by kernel_rfl
theorem laidOut : laidOutB Tryd.prog = true := by kernel_rfl
theorem list_3 {α : Type} : ∀ (l : List α), l.length = 3 → ∃ x0 x1 x2, l = [x0, x1, x2]
  | [x0, x1, x2], _ => ⟨x0, x1, x2, rfl⟩
set_option maxRecDepth 100000 in
theorem contract (H : Type) (enc : TypeId × Value → H) (W : World) (base : Nat) (args : Array Value) (ds gs : List (DataW H)) (before : List MemPlace)
    (hval0 : ∀ (j : Nat) t v, Tryd.f6.params[j]? = some t → args[j]? = some v → Value.okWide Tryd.prog W .any base t v)
    (hW : DataW.Whole enc Tryd.prog Tryd.f6.params.toList Rows.fnExactJidPutSpec.vars false W args.toList ds gs before) (hL : laidMetH Tryd.prog Rows.fnExactJidPutRow.laid W) :
    Calls Tryd.prog 6 args W fun e W' => ∃ v, e = .returned v ∧ Rows.fnExactJidPutSpec.post enc Tryd.prog Tryd.f6 false true false false W args v W' := by
  have HTabs : Tabs W := Tabs_of_laid hL
  have hval : ∀ (j : Nat) t v, Tryd.f6.params[j]? = some t → args[j]? = some v → Value.okWide Tryd.prog W .any base t v := hval0
  have hW' := hW
  obtain ⟨p, q, hA0, hV, rfl, hfz, hnd⟩ := hW
  have hA : DataW.TrodAll enc Tryd.prog W 0 (fun _ => true) true Tryd.f6.params.toList args.toList ds p := hA0
  rw [Tryd.params6] at hA hval
  obtain ⟨v0, vs0, d0, ds0, p0, q0, hargs, rfl, rfl, h0, r0⟩ := trodAll_cons hA
  obtain ⟨rfl, rfl, rfl⟩ := trodAll_nil r0
  obtain rfl : args = #[v0] := by cases args; simp_all
  obtain ⟨rfl, rfl⟩ := trodVars_none hV
  clear hA0 hval0
  obtain ⟨cs0, rfl, sz0⟩ := okWide_struct Tryd.underlying27 (hval 0 27 v0 rfl rfl)
  have k0 := h0
  have lt0 : ∀ x ∈ p0, x.block < W.heap.size := by obtain ⟨m, hm⟩ := k0; exact DataW.trod_lt m _ _ _ hm
  rw [show Tryd.prog.cellsOf 27 = 3 by kernel_rfl] at sz0
  obtain ⟨cs0⟩ := cs0
  replace sz0 : cs0.length = 3 := sz0
  obtain ⟨u0_0, u0_1, u0_2, rfl⟩ := list_3 cs0 sz0
  obtain ⟨fuel0, hf0⟩ := h0
  obtain ⟨n0, hx0⟩ := struct_at Tryd.underlying27 hf0
  obtain ⟨y0_0, hy0_0⟩ := hx0 0 9 0 1 [u0_0] rfl (by kernel_rfl) rfl
  obtain ⟨a0_0, e0_0, hq0_0⟩ := (reads_string (P := Tryd.prog) Tryd.underlying9) _ _ _ _ _ _ _ _ _ hy0_0
  obtain rfl : u0_0 = .string a0_0 := List.singleton_inj.1 e0_0
  obtain ⟨y0_1, hy0_1⟩ := hx0 1 9 1 1 [u0_1] rfl (by kernel_rfl) rfl
  obtain ⟨a0_1, e0_1, hq0_1⟩ := (reads_string (P := Tryd.prog) Tryd.underlying9) _ _ _ _ _ _ _ _ _ hy0_1
  obtain rfl : u0_1 = .string a0_1 := List.singleton_inj.1 e0_1
  obtain ⟨y0_2, hy0_2⟩ := hx0 2 9 2 1 [u0_2] rfl (by kernel_rfl) rfl
  obtain ⟨a0_2, e0_2, hq0_2⟩ := (reads_string (P := Tryd.prog) Tryd.underlying9) _ _ _ _ _ _ _ _ _ hy0_2
  obtain rfl : u0_2 = .string a0_2 := List.singleton_inj.1 e0_2
  obtain ⟨k, h⟩ := Pure.FnExactJidPut a0_0 a0_1 a0_2 hq0_0 hq0_1 hq0_2
  refine (PAll.laws_FnExactJidPut.calls k a0_0 a0_1 a0_2 true W h rfl HTabs).mono fun e W' ⟨he, bel0⟩ => ?_
  have bel : Below W.heap.size W W' := bel0
  subst he
  exact ⟨_, rfl, _, _, _, [], _, [], hW', trodAll_mk1 (shut_bool Tryd.underlying4 _), (trodAll_cons_mk (Below.trod laidOut (by kernel_rfl) (of_decide_eq_true (by kernel_rfl)) k0 bel lt0) trodAll_mk0), rfl, bel.frame _, fun h => by cases h⟩
theorem laid_met (os : Os) : laidMet Tryd.prog Rows.fnExactJidPutRow.laid ((laidWorld os).forCall (fun _ _ => 0) ⟨#[], #[.agg #[.string ByteArray.empty, .string ByteArray.empty, .string ByteArray.empty]], []⟩).memory :=
  laidMet_of_run' 8 (by kernel_rfl) (by kernel_rfl)
theorem reads_zero (os : Os) {H : Type} (enc : TypeId × Value → H) : (DataW.whole enc Tryd.prog ((laidWorld os).forCall (fun _ _ => 0) ⟨#[], #[.agg #[.string ByteArray.empty, .string ByteArray.empty, .string ByteArray.empty]], []⟩).memory Tryd.f6.params.toList Rows.fnExactJidPutSpec.vars false (#[.agg #[.string ByteArray.empty, .string ByteArray.empty, .string ByteArray.empty]] : Array Value).toList 8).isSome = true := by kernel_rfl
set_option maxRecDepth 100000 in
theorem lifted (os : Os) (started : os.Started) (H : Type) (enc : TypeId × Value → H) (F : Stop.Interp) :
    ReturnsInHanded {} Tryd.checked os 6 .any ((OpenSpec.ofChange Rows.fnExactJidPutSpec).preRow enc Tryd.prog Tryd.f6 Rows.fnExactJidPutRow.domain false Rows.fnExactJidPutRow.laid) (((OpenSpec.ofChange Rows.fnExactJidPutSpec).at F).post enc Tryd.prog Tryd.f6 false true false false) := by
  obtain ⟨x, hx⟩ := Option.isSome_iff_exists.1 (reads_zero os enc)
  refine returnsInHanded_of_row (C := Tryd.checked) (s := OpenSpec.ofChange Rows.fnExactJidPutSpec) own started (by kernel_rfl) Tryd.func6
    (witness_row_at (enc := enc) (C := Tryd.checked) false (laidWorld os) #[.agg #[.string ByteArray.empty, .string ByteArray.empty, .string ByteArray.empty]] rfl (by kernel_rfl) (by kernel_rfl) (by kernel_rfl)
      (OpenSpec.preRow_of_cond 8 hx (by kernel_rfl) (fun k hk => by cases hk) (by kernel_rfl) (laid_met os))) ?_
  intro W base args ds gs before hval hW _ _ _ hL _ _
  exact contract H enc W base args ds gs before hval hW hL
theorem said : Rows.FnExactJidPutSaid :=
  OpenClaim.holds_of_cond 6 Tryd.f6 rfl rfl rfl rfl rfl rfl rfl ⟨rfl, rfl, rfl, rfl, rfl⟩ rfl rfl rfl rfl rfl (by kernel_rfl) Tryd.func6 (by kernel_rfl)
    (of_decide_eq_true (by kernel_rfl)) (by unfold Func.isWrapper; first | (rw [if_pos (by decide +kernel)]; kernel_rfl) | (rw [if_neg (by decide +kernel)]; exact ⟨rfl, rfl⟩))
    (fun os started H enc _ F => by rw [OpenClaim.pre_eq_preRow]; exact lifted os started H enc F)
theorem plain (f : FuncId) (fn : Func) (hf : Tryd.pinned.checked.prog.funcNamed Rows.fnExactJidPutRow.func = some f) (hfn : Tryd.pinned.checked.prog.funcs[f]? = some fn) :
    false = Tryd.pinned.checked.prog.looks [] ∧ ∀ (j : Nat) t, fn.params[j]? = some t → Tryd.pinned.checked.prog.wantsStandIn t = false := by
  obtain rfl : f = 6 := Option.some.inj ((show Tryd.prog.funcNamed Rows.fnExactJidPutRow.func = some 6 by kernel_rfl).symm.trans hf) |>.symm
  obtain rfl : fn = Tryd.f6 := (Option.some.inj (Tryd.func6.symm.trans hfn)).symm
  refine ⟨by kernel_rfl, fun j t ht => ?_⟩
  rw [Tryd.params6] at ht
  have z : t = 27 := by simpa using Array.mem_of_getElem? ht
  rcases z with rfl
  · exact (show Tryd.prog.wantsStandIn 27 = false by kernel_rfl)
theorem card : Rows.FnExactJidPutCardSaid :=
  Claim7.holds_tied_plain_at .later [] _ _ _ _ said (fun _ h => by cases h) (by kernel_rfl) (fun _ h => by cases h) fnExactJidPut_row_tie rfl ⟨rfl, rfl⟩ (by kernel_rfl) rfl plain (by kernel_rfl)
#print axioms card
end Go.Proofs.YtgjecacalpaacaaDoor.fnExactJidPut
namespace Go.Proofs.YtgjecacalpaacaaDoor
theorem fnExactJidPut_holds : Rows.FnExactJidPutCardSaid := fnExactJidPut.card
end Go.Proofs.YtgjecacalpaacaaDoor

