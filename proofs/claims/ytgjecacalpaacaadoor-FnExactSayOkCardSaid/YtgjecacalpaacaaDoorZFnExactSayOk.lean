-- laid by xprint.py and pack.py, programs of this session's; Lean checks it
import Derived.Test.YtgjecacalpaacaaDoorRows
import Derived.Test.YtgjecacalpaacaaDoorCards
import Derived.Test.YtgjecacalpaacaaDoorTie
import Derived.Test.YtgjecacalpaacaaDoorZFnExactSayOkK3
import Derived.Test.YtgjecacalpaacaaDoorZFnExactSayOkP
import Derived.Test.YtgjecacalpaacaaDoorZFnExactSayOkL
import Derived.WalkKit
import Derived.ProofKit
import Derived.OpenShut
import Derived.ShutString
import Derived.ChangeOld
import Derived.Below
import Derived.Deep.DeepHandedRow
import Derived.Lib.LaidTab
-- laid by xprint.py, a program of this session's over the kit's print; Lean checks it
namespace Go.Proofs.YtgjecacalpaacaaDoor.fnExactSayOk
open Go.ChangeShapes Go.WideShapes Go.ChangeAt Go.RowKit Go.Proofs.YtgjecacalpaacaaDoorW.XRow Go.Proofs.YtgjecacalpaacaaDoorW.XWords Go.Proofs.YtgjecacalpaacaaDoorW.PrintWords Go.Proofs.YtgjecacalpaacaaDoorW.PrintLast
open Go.ChangeMaps (open_string shut_string)
set_option linter.unusedVariables false
theorem own : ownKnob Tryd.prog.godebug = none := by kernel_rfl
theorem laidOut : laidOutB Tryd.prog = true := by kernel_rfl
theorem list_10 {α : Type} : ∀ (l : List α), l.length = 10 → ∃ x0 x1 x2 x3 x4 x5 x6 x7 x8 x9, l = [x0, x1, x2, x3, x4, x5, x6, x7, x8, x9]
  | [x0, x1, x2, x3, x4, x5, x6, x7, x8, x9], _ => ⟨x0, x1, x2, x3, x4, x5, x6, x7, x8, x9, rfl⟩
set_option maxRecDepth 100000 in
theorem contract (H : Type) (enc : TypeId × Value → H) (W : World) (base : Nat) (args : Array Value) (ds gs : List (DataW H)) (before : List MemPlace)
    (hval0 : ∀ (j : Nat) t v, Tryd.f11.params[j]? = some t → args[j]? = some v → Value.okWide Tryd.prog W .any base t v)
    (hW : DataW.Whole enc Tryd.prog Tryd.f11.params.toList Rows.fnExactSayOkSpec.vars false W args.toList ds gs before) (hL : laidMetH Tryd.prog Rows.fnExactSayOkRow.laid W) :
    Calls Tryd.prog 11 args W fun e W' => ∃ v, e = .returned v ∧ Rows.fnExactSayOkSpec.post enc Tryd.prog Tryd.f11 false true false false W args v W' := by
  have HTabs : Tabs W := Tabs_of_laid hL
  have hval : ∀ (j : Nat) t v, Tryd.f11.params[j]? = some t → args[j]? = some v → Value.okWide Tryd.prog W .any base t v := hval0
  have hW' := hW
  obtain ⟨p, q, hA0, hV, rfl, hfz, hnd⟩ := hW
  have hA : DataW.TrodAll enc Tryd.prog W 0 (fun _ => true) true Tryd.f11.params.toList args.toList ds p := hA0
  rw [Tryd.params11] at hA hval
  obtain ⟨v0, vs0, d0, ds0, p0, q0, hargs, rfl, rfl, h0, r0⟩ := trodAll_cons hA
  obtain ⟨rfl, rfl, rfl⟩ := trodAll_nil r0
  obtain rfl : args = #[v0] := by cases args; simp_all
  obtain ⟨rfl, rfl⟩ := trodVars_none hV
  clear hA0 hval0
  obtain ⟨cs0, rfl, sz0⟩ := okWide_struct Tryd.underlying40 (hval 0 40 v0 rfl rfl)
  have k0 := h0
  have lt0 : ∀ x ∈ p0, x.block < W.heap.size := by obtain ⟨m, hm⟩ := k0; exact DataW.trod_lt m _ _ _ hm
  rw [show Tryd.prog.cellsOf 40 = 10 by kernel_rfl] at sz0
  obtain ⟨cs0⟩ := cs0
  replace sz0 : cs0.length = 10 := sz0
  obtain ⟨u0_0, u0_1, u0_2, u0_3, u0_4, u0_5, u0_6, u0_7, u0_8, u0_9, rfl⟩ := list_10 cs0 sz0
  obtain ⟨fuel0, hf0⟩ := h0
  obtain ⟨n0, hx0⟩ := struct_at Tryd.underlying40 hf0
  obtain ⟨y0_0, hy0_0⟩ := hx0 0 3 0 1 [u0_0] rfl (by kernel_rfl) rfl
  obtain ⟨a0_0, e0_0, hq0_0⟩ := (reads_int (P := Tryd.prog) (k := .i64) Tryd.underlying3) _ _ _ _ _ _ _ _ _ hy0_0
  obtain rfl : u0_0 = .int .i64 a0_0 := List.singleton_inj.1 e0_0
  obtain ⟨y0_1, hy0_1⟩ := hx0 1 9 1 1 [u0_1] rfl (by kernel_rfl) rfl
  obtain ⟨a0_1, e0_1, hq0_1⟩ := (reads_string (P := Tryd.prog) Tryd.underlying9) _ _ _ _ _ _ _ _ _ hy0_1
  obtain rfl : u0_1 = .string a0_1 := List.singleton_inj.1 e0_1
  obtain ⟨y0_2, hy0_2⟩ := hx0 2 9 2 1 [u0_2] rfl (by kernel_rfl) rfl
  obtain ⟨a0_2, e0_2, hq0_2⟩ := (reads_string (P := Tryd.prog) Tryd.underlying9) _ _ _ _ _ _ _ _ _ hy0_2
  obtain rfl : u0_2 = .string a0_2 := List.singleton_inj.1 e0_2
  obtain ⟨y0_3, hy0_3⟩ := hx0 3 9 3 1 [u0_3] rfl (by kernel_rfl) rfl
  obtain ⟨a0_3, e0_3, hq0_3⟩ := (reads_string (P := Tryd.prog) Tryd.underlying9) _ _ _ _ _ _ _ _ _ hy0_3
  obtain rfl : u0_3 = .string a0_3 := List.singleton_inj.1 e0_3
  obtain ⟨y0_4, hy0_4⟩ := hx0 4 9 4 1 [u0_4] rfl (by kernel_rfl) rfl
  obtain ⟨a0_4, e0_4, hq0_4⟩ := (reads_string (P := Tryd.prog) Tryd.underlying9) _ _ _ _ _ _ _ _ _ hy0_4
  obtain rfl : u0_4 = .string a0_4 := List.singleton_inj.1 e0_4
  obtain ⟨y0_5, hy0_5⟩ := hx0 5 9 5 1 [u0_5] rfl (by kernel_rfl) rfl
  obtain ⟨a0_5, e0_5, hq0_5⟩ := (reads_string (P := Tryd.prog) Tryd.underlying9) _ _ _ _ _ _ _ _ _ hy0_5
  obtain rfl : u0_5 = .string a0_5 := List.singleton_inj.1 e0_5
  obtain ⟨y0_6, hy0_6⟩ := hx0 6 9 6 1 [u0_6] rfl (by kernel_rfl) rfl
  obtain ⟨a0_6, e0_6, hq0_6⟩ := (reads_string (P := Tryd.prog) Tryd.underlying9) _ _ _ _ _ _ _ _ _ hy0_6
  obtain rfl : u0_6 = .string a0_6 := List.singleton_inj.1 e0_6
  obtain ⟨y0_7, hy0_7⟩ := hx0 7 3 7 1 [u0_7] rfl (by kernel_rfl) rfl
  obtain ⟨a0_7, e0_7, hq0_7⟩ := (reads_int (P := Tryd.prog) (k := .i64) Tryd.underlying3) _ _ _ _ _ _ _ _ _ hy0_7
  obtain rfl : u0_7 = .int .i64 a0_7 := List.singleton_inj.1 e0_7
  obtain ⟨y0_8, hy0_8⟩ := hx0 8 3 8 1 [u0_8] rfl (by kernel_rfl) rfl
  obtain ⟨a0_8, e0_8, hq0_8⟩ := (reads_int (P := Tryd.prog) (k := .i64) Tryd.underlying3) _ _ _ _ _ _ _ _ _ hy0_8
  obtain rfl : u0_8 = .int .i64 a0_8 := List.singleton_inj.1 e0_8
  obtain ⟨y0_9, hy0_9⟩ := hx0 9 3 9 1 [u0_9] rfl (by kernel_rfl) rfl
  obtain ⟨a0_9, e0_9, hq0_9⟩ := (reads_int (P := Tryd.prog) (k := .i64) Tryd.underlying3) _ _ _ _ _ _ _ _ _ hy0_9
  obtain rfl : u0_9 = .int .i64 a0_9 := List.singleton_inj.1 e0_9
  obtain ⟨k, h⟩ := Pure.FnExactSayOk a0_0 a0_1 a0_2 a0_3 a0_4 a0_5 a0_6 a0_7 a0_8 a0_9 hq0_0 hq0_1 hq0_2 hq0_3 hq0_4 hq0_5 hq0_6 hq0_7 hq0_8 hq0_9
  refine (PAll.laws_FnExactSayOk.calls k a0_0 a0_1 a0_2 a0_3 a0_4 a0_5 a0_6 a0_7 a0_8 a0_9 true W h rfl HTabs).mono fun e W' ⟨he, bel0⟩ => ?_
  have bel : Below W.heap.size W W' := bel0
  subst he
  exact ⟨_, rfl, _, _, _, [], _, [], hW', trodAll_mk1 (shut_bool Tryd.underlying4 _), (trodAll_cons_mk (Below.trod laidOut (by kernel_rfl) (of_decide_eq_true (by kernel_rfl)) k0 bel lt0) trodAll_mk0), rfl, bel.frame _, fun h => by cases h⟩
theorem laid_met (os : Os) : laidMet Tryd.prog Rows.fnExactSayOkRow.laid ((laidWorld os).forCall (fun _ _ => 0) ⟨#[], #[.agg #[.int .i64 0, .string ByteArray.empty, .string ByteArray.empty, .string ByteArray.empty, .string ByteArray.empty, .string ByteArray.empty, .string ByteArray.empty, .int .i64 0, .int .i64 0, .int .i64 0]], []⟩).memory :=
  laidMet_of_run' 8 (by kernel_rfl) (by kernel_rfl)
theorem reads_zero (os : Os) {H : Type} (enc : TypeId × Value → H) : (DataW.whole enc Tryd.prog ((laidWorld os).forCall (fun _ _ => 0) ⟨#[], #[.agg #[.int .i64 0, .string ByteArray.empty, .string ByteArray.empty, .string ByteArray.empty, .string ByteArray.empty, .string ByteArray.empty, .string ByteArray.empty, .int .i64 0, .int .i64 0, .int .i64 0]], []⟩).memory Tryd.f11.params.toList Rows.fnExactSayOkSpec.vars false (#[.agg #[.int .i64 0, .string ByteArray.empty, .string ByteArray.empty, .string ByteArray.empty, .string ByteArray.empty, .string ByteArray.empty, .string ByteArray.empty, .int .i64 0, .int .i64 0, .int .i64 0]] : Array Value).toList 8).isSome = true := by kernel_rfl
set_option maxRecDepth 100000 in
theorem lifted (os : Os) (started : os.Started) (H : Type) (enc : TypeId × Value → H) (F : Stop.Interp) :
    ReturnsInHanded {} Tryd.checked os 11 .any ((OpenSpec.ofChange Rows.fnExactSayOkSpec).preRow enc Tryd.prog Tryd.f11 Rows.fnExactSayOkRow.domain false Rows.fnExactSayOkRow.laid) (((OpenSpec.ofChange Rows.fnExactSayOkSpec).at F).post enc Tryd.prog Tryd.f11 false true false false) := by
  obtain ⟨x, hx⟩ := Option.isSome_iff_exists.1 (reads_zero os enc)
  refine returnsInHanded_of_row (C := Tryd.checked) (s := OpenSpec.ofChange Rows.fnExactSayOkSpec) own started (by kernel_rfl) Tryd.func11
    (witness_row_at (enc := enc) (C := Tryd.checked) false (laidWorld os) #[.agg #[.int .i64 0, .string ByteArray.empty, .string ByteArray.empty, .string ByteArray.empty, .string ByteArray.empty, .string ByteArray.empty, .string ByteArray.empty, .int .i64 0, .int .i64 0, .int .i64 0]] rfl (by kernel_rfl) (by kernel_rfl) (by kernel_rfl)
      (OpenSpec.preRow_of_cond 8 hx (by kernel_rfl) (fun k hk => by cases hk) (by kernel_rfl) (laid_met os))) ?_
  intro W base args ds gs before hval hW _ _ _ hL _ _
  exact contract H enc W base args ds gs before hval hW hL
theorem said : Rows.FnExactSayOkSaid :=
  OpenClaim.holds_of_cond 11 Tryd.f11 rfl rfl rfl rfl rfl rfl rfl ⟨rfl, rfl, rfl, rfl, rfl⟩ rfl rfl rfl rfl rfl (by kernel_rfl) Tryd.func11 (by kernel_rfl)
    (of_decide_eq_true (by kernel_rfl)) (by unfold Func.isWrapper; first | (rw [if_pos (by decide +kernel)]; kernel_rfl) | (rw [if_neg (by decide +kernel)]; exact ⟨rfl, rfl⟩))
    (fun os started H enc _ F => by rw [OpenClaim.pre_eq_preRow]; exact lifted os started H enc F)
theorem plain (f : FuncId) (fn : Func) (hf : Tryd.pinned.checked.prog.funcNamed Rows.fnExactSayOkRow.func = some f) (hfn : Tryd.pinned.checked.prog.funcs[f]? = some fn) :
    false = Tryd.pinned.checked.prog.looks [] ∧ ∀ (j : Nat) t, fn.params[j]? = some t → Tryd.pinned.checked.prog.wantsStandIn t = false := by
  obtain rfl : f = 11 := Option.some.inj ((show Tryd.prog.funcNamed Rows.fnExactSayOkRow.func = some 11 by kernel_rfl).symm.trans hf) |>.symm
  obtain rfl : fn = Tryd.f11 := (Option.some.inj (Tryd.func11.symm.trans hfn)).symm
  refine ⟨by kernel_rfl, fun j t ht => ?_⟩
  rw [Tryd.params11] at ht
  have z : t = 40 := by simpa using Array.mem_of_getElem? ht
  rcases z with rfl
  · exact (show Tryd.prog.wantsStandIn 40 = false by kernel_rfl)
theorem card : Rows.FnExactSayOkCardSaid :=
  Claim7.holds_tied_plain_at .later [] _ _ _ _ said (fun _ h => by cases h) (by kernel_rfl) (fun _ h => by cases h) fnExactSayOk_row_tie rfl ⟨rfl, rfl⟩ (by kernel_rfl) rfl plain (by kernel_rfl)
#print axioms card
end Go.Proofs.YtgjecacalpaacaaDoor.fnExactSayOk
namespace Go.Proofs.YtgjecacalpaacaaDoor
theorem fnExactSayOk_holds : Rows.FnExactSayOkCardSaid := fnExactSayOk.card
end Go.Proofs.YtgjecacalpaacaaDoor

