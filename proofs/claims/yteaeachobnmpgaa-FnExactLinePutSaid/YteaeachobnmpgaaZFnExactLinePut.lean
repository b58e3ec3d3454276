-- laid by xprint.py and pack.py, programs of this session's; Lean checks it
import Derived.Test.YteaeachobnmpgaaRows
import Derived.Test.YteaeachobnmpgaaZFnExactLinePutK1
import Derived.Test.YteaeachobnmpgaaZFnExactLinePutP
import Derived.Test.YteaeachobnmpgaaXRow
import Derived.WalkKit
import Derived.ProofKit
import Derived.OpenShut
import Derived.ShutString
import Derived.ChangeOld
import Derived.Below
namespace Go.Proofs.Yteaeachobnmpgaa.fnExactLinePut
open Go.ChangeShapes Go.WideShapes Go.ChangeAt Go.RowKit Go.Proofs.YteaeachobnmpgaaW.XRow Go.Proofs.YteaeachobnmpgaaW.PrintWords Go.Proofs.YteaeachobnmpgaaW.PrintLast
open Go.ChangeMaps (open_string shut_string)
set_option linter.unusedVariables false
theorem own : ownKnob Try.prog.godebug = none := by kernel_rfl
theorem laidOut : laidOutB Try.prog = true := by kernel_rfl
theorem list_4 {α : Type} : ∀ (l : List α), l.length = 4 → ∃ x0 x1 x2 x3, l = [x0, x1, x2, x3]
  | [x0, x1, x2, x3], _ => ⟨x0, x1, x2, x3, rfl⟩
set_option maxRecDepth 100000 in
theorem lifted (os : Os) (started : os.Started) (H : Type) (enc : TypeId × Value → H) :
    ReturnsInHanded {} Try.checked os 11 .any (Rows.fnExactLinePutSpec.pre6 enc Try.prog Try.f11 Rows.fnExactLinePutRow.domain false) (Rows.fnExactLinePutSpec.post enc Try.prog Try.f11 false true false false) := by
  refine returnsInHanded_of_change_sized (C := Try.checked) own started (by kernel_rfl) Try.func11
    (ChangeSpec.witness6 (enc := enc) (C := Try.checked) false ⟨#[], #[.agg #[.int .i64 0, .slice none 0 0, .int .i64 0, .bool false], .string ByteArray.empty], []⟩ 8 (by kernel_rfl) (by kernel_rfl) (by kernel_rfl) (by kernel_rfl)) ?_
  intro W base args ds gs before hval0 hW hcnd hsz0 _
  have hval : ∀ (j : Nat) t v, Try.f11.params[j]? = some t → args[j]? = some v → Value.okWide Try.prog W .any base t v := hval0
  have hW' := hW
  obtain ⟨p, q, hA0, hV, rfl, hfz, hnd⟩ := hW
  have hA : DataW.TrodAll enc Try.prog W 0 (fun _ => true) true Try.f11.params.toList args.toList ds p := hA0
  rw [Try.params11] at hA hval
  obtain ⟨v0, vs0, d0, ds0, p0, q0, hargs, rfl, rfl, h0, r0⟩ := trodAll_cons hA
  obtain ⟨v1, vs1, d1, ds1, p1, q1, rfl, rfl, rfl, h1, r1⟩ := trodAll_cons r0
  obtain ⟨rfl, rfl, rfl⟩ := trodAll_nil r1
  obtain rfl : args = #[v0, v1] := by cases args; simp_all
  obtain ⟨rfl, rfl⟩ := trodVars_none hV
  clear hA0 hval0 hsz0 hcnd
  obtain ⟨cs0, rfl, sz0⟩ := okWide_struct Try.underlying28 (hval 0 28 v0 rfl rfl)
  have k0 := h0
  have lt0 : ∀ x ∈ p0, x.block < W.heap.size := by obtain ⟨m, hm⟩ := k0; exact DataW.trod_lt m _ _ _ hm
  rw [show Try.prog.cellsOf 28 = 4 by kernel_rfl] at sz0
  obtain ⟨cs0⟩ := cs0
  replace sz0 : cs0.length = 4 := sz0
  obtain ⟨u0_0, u0_1, u0_2, u0_3, rfl⟩ := list_4 cs0 sz0
  obtain ⟨fuel0, hf0⟩ := h0
  obtain ⟨n0, hx0⟩ := struct_at Try.underlying28 hf0
  obtain ⟨y0_0, hy0_0⟩ := hx0 0 3 0 1 [u0_0] rfl (by kernel_rfl) rfl
  obtain ⟨a0_0, e0_0, hq0_0⟩ := (reads_int (P := Try.prog) (k := .i64) Try.underlying3) _ _ _ _ _ _ _ _ _ hy0_0
  obtain rfl : u0_0 = .int .i64 a0_0 := List.singleton_inj.1 e0_0
  obtain ⟨y0_1, hy0_1⟩ := hx0 1 26 1 1 [u0_1] rfl (by kernel_rfl) rfl
  obtain ⟨A0_1, c0_1, l0_1, rfl, hc0_1, hm0_1, hr0_1, hq0_1⟩ := slice_read (reads_string (P := Try.prog) Try.underlying9) Try.underlying26 (by kernel_rfl) hy0_1
  obtain ⟨y0_2, hy0_2⟩ := hx0 2 3 2 1 [u0_2] rfl (by kernel_rfl) rfl
  obtain ⟨a0_2, e0_2, hq0_2⟩ := (reads_int (P := Try.prog) (k := .i64) Try.underlying3) _ _ _ _ _ _ _ _ _ hy0_2
  obtain rfl : u0_2 = .int .i64 a0_2 := List.singleton_inj.1 e0_2
  obtain ⟨y0_3, hy0_3⟩ := hx0 3 4 3 1 [u0_3] rfl (by kernel_rfl) rfl
  obtain ⟨a0_3, e0_3, hq0_3⟩ := (reads_bool (P := Try.prog) Try.underlying4) _ _ _ _ _ _ _ _ _ hy0_3
  obtain rfl : u0_3 = .bool a0_3 := List.singleton_inj.1 e0_3
  have k1 := h1
  have lt1 : ∀ x ∈ p1, x.block < W.heap.size := by obtain ⟨m, hm⟩ := k1; exact DataW.trod_lt m _ _ _ hm
  obtain ⟨a1, rfl, rfl, rfl, hq1⟩ := open_string Try.underlying9 (hval 1 9 v1 rfl rfl) h1
  obtain ⟨k, h⟩ := Pure.FnExactLinePut a0_0 l0_1 a0_2 a0_3 a1 hq0_0 hm0_1 hq0_1 hq0_2 hq1
  refine (PAll.laws_FnExactLinePut.calls k a0_0 A0_1 c0_1 l0_1 a0_2 a0_3 a1 true W hr0_1 hc0_1 h rfl).mono fun e W' ⟨he, bel0⟩ => ?_
  have bel : Below W.heap.size W W' := bel0
  subst he
  exact ⟨_, rfl, _, _, _, [], _, [], hW', trodAll_mk1 (shut_bool Try.underlying4 _), (trodAll_cons_mk (Below.trod laidOut (by kernel_rfl) (of_decide_eq_true (by kernel_rfl)) k0 bel lt0) (trodAll_cons_mk (Below.trod laidOut (by kernel_rfl) (of_decide_eq_true (by kernel_rfl)) k1 bel lt1) trodAll_mk0)), rfl, bel.frame _, fun h => by cases h⟩
theorem over : Rows.fnExactLinePutRow.holds Try.pinned (OpenSpec.ofChange Rows.fnExactLinePutSpec) :=
  OpenClaim.holds_of_wide 11 Try.f11 rfl rfl rfl rfl rfl rfl rfl ⟨rfl, rfl, rfl, rfl, rfl⟩ rfl rfl rfl rfl rfl (by kernel_rfl) Try.func11 (by kernel_rfl)
    (of_decide_eq_true (by kernel_rfl)) (by unfold Func.isWrapper; first | (rw [if_pos (by decide +kernel)]; kernel_rfl) | (rw [if_neg (by decide +kernel)]; exact ⟨rfl, rfl⟩))
    (fun os started H enc _ => lifted os started H enc)
theorem proved : Rows.FnExactLinePutSaid := over
#print axioms proved
end Go.Proofs.Yteaeachobnmpgaa.fnExactLinePut
namespace Go.Proofs.Yteaeachobnmpgaa
theorem fnExactLinePut_holds : Rows.FnExactLinePutSaid := fnExactLinePut.proved
end Go.Proofs.Yteaeachobnmpgaa
