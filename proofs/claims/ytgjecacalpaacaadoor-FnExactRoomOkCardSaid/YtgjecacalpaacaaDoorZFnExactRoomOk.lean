-- laid by xprint.py and pack.py, programs of this session's; Lean checks it
import Derived.Test.YtgjecacalpaacaaDoorRows
import Derived.Test.YtgjecacalpaacaaDoorCards
import Derived.Test.YtgjecacalpaacaaDoorTie
import Derived.Test.YtgjecacalpaacaaDoorZFnExactRoomOkK5
import Derived.Test.YtgjecacalpaacaaDoorZFnExactRoomOkP
import Derived.Test.YtgjecacalpaacaaDoorZFnExactRoomOkL
import Derived.WalkKit
import Derived.ProofKit
import Derived.OpenShut
import Derived.ShutString
import Derived.ChangeOld
import Derived.Below
import Derived.Deep.DeepHandedRow
import Derived.Lib.LaidTab
-- laid by xprint.py, a program of this session's over the kit's print; Lean checks it
namespace Go.Proofs.YtgjecacalpaacaaDoor.fnExactRoomOk
open Go.ChangeShapes Go.WideShapes Go.ChangeAt Go.RowKit Go.Proofs.YtgjecacalpaacaaDoorW.XRow Go.Proofs.YtgjecacalpaacaaDoorW.XWords Go.Proofs.YtgjecacalpaacaaDoorW.PrintWords Go.Proofs.YtgjecacalpaacaaDoorW.PrintLast
open Go.ChangeMaps (open_string shut_string)
set_option linter.unusedVariables false
theorem own : ownKnob Tryd.prog.godebug = none := by kernel_rfl
theorem laidOut : laidOutB Tryd.prog = true := by kernel_rfl
theorem list_5 {α : Type} : ∀ (l : List α), l.length = 5 → ∃ x0 x1 x2 x3 x4, l = [x0, x1, x2, x3, x4]
  | [x0, x1, x2, x3, x4], _ => ⟨x0, x1, x2, x3, x4, rfl⟩
theorem list_3 {α : Type} : ∀ (l : List α), l.length = 3 → ∃ x0 x1 x2, l = [x0, x1, x2]
  | [x0, x1, x2], _ => ⟨x0, x1, x2, rfl⟩
instance : Inhabited PAll.S109 := ⟨PAll.z109⟩
theorem reads_k109 : Reads Tryd.prog PAll.k109 109 (fun x => (x.f0.size ≤ maxLen ∧ x.f1.size ≤ maxLen ∧ (Lit.int .i64 x.f2).wf = true)) := by
  intro H enc w base spare held fuel cs x hx
  have hlen : cs.length = 3 := (struct_read Tryd.underlying109 hx).1.trans (by kernel_rfl)
  obtain ⟨u0, u1, u2, rfl⟩ := list_3 cs hlen
  obtain ⟨n, hf⟩ := struct_at Tryd.underlying109 hx
  obtain ⟨y0, hy0⟩ := hf 0 9 0 1 [u0] rfl (by kernel_rfl) rfl
  obtain ⟨a0, e0, hq0⟩ := (reads_string (P := Tryd.prog) Tryd.underlying9) _ _ _ _ _ _ _ _ _ hy0
  obtain rfl : u0 = .string a0 := List.singleton_inj.1 e0
  obtain ⟨y1, hy1⟩ := hf 1 9 1 1 [u1] rfl (by kernel_rfl) rfl
  obtain ⟨a1, e1, hq1⟩ := (reads_string (P := Tryd.prog) Tryd.underlying9) _ _ _ _ _ _ _ _ _ hy1
  obtain rfl : u1 = .string a1 := List.singleton_inj.1 e1
  obtain ⟨y2, hy2⟩ := hf 2 3 2 1 [u2] rfl (by kernel_rfl) rfl
  obtain ⟨a2, e2, hq2⟩ := (reads_int (P := Tryd.prog) (k := .i64) Tryd.underlying3) _ _ _ _ _ _ _ _ _ hy2
  obtain rfl : u2 = .int .i64 a2 := List.singleton_inj.1 e2
  exact ⟨⟨a0, a1, a2⟩, PAll.k109_mk w ⟨a0, a1, a2⟩ , hq0, hq1, hq2⟩
theorem list_2 {α : Type} : ∀ (l : List α), l.length = 2 → ∃ x0 x1, l = [x0, x1]
  | [x0, x1], _ => ⟨x0, x1, rfl⟩
instance : Inhabited PAll.S111 := ⟨PAll.z111⟩
theorem reads_k111 : Reads Tryd.prog PAll.k111 111 (fun x => (x.f0.size ≤ maxLen ∧ (Lit.int .i64 x.f1).wf = true)) := by
  intro H enc w base spare held fuel cs x hx
  have hlen : cs.length = 2 := (struct_read Tryd.underlying111 hx).1.trans (by kernel_rfl)
  obtain ⟨u0, u1, rfl⟩ := list_2 cs hlen
  obtain ⟨n, hf⟩ := struct_at Tryd.underlying111 hx
  obtain ⟨y0, hy0⟩ := hf 0 9 0 1 [u0] rfl (by kernel_rfl) rfl
  obtain ⟨a0, e0, hq0⟩ := (reads_string (P := Tryd.prog) Tryd.underlying9) _ _ _ _ _ _ _ _ _ hy0
  obtain rfl : u0 = .string a0 := List.singleton_inj.1 e0
  obtain ⟨y1, hy1⟩ := hf 1 3 1 1 [u1] rfl (by kernel_rfl) rfl
  obtain ⟨a1, e1, hq1⟩ := (reads_int (P := Tryd.prog) (k := .i64) Tryd.underlying3) _ _ _ _ _ _ _ _ _ hy1
  obtain rfl : u1 = .int .i64 a1 := List.singleton_inj.1 e1
  exact ⟨⟨a0, a1⟩, PAll.k111_mk w ⟨a0, a1⟩ , hq0, hq1⟩
set_option maxRecDepth 100000 in
theorem contract (H : Type) (enc : TypeId × Value → H) (W : World) (base : Nat) (args : Array Value) (ds gs : List (DataW H)) (before : List MemPlace)
    (hval0 : ∀ (j : Nat) t v, Tryd.f13.params[j]? = some t → args[j]? = some v → Value.okWide Tryd.prog W .any base t v)
    (hW : DataW.Whole enc Tryd.prog Tryd.f13.params.toList Rows.fnExactRoomOkSpec.vars false W args.toList ds gs before) (hL : laidMetH Tryd.prog Rows.fnExactRoomOkRow.laid W) :
    Calls Tryd.prog 13 args W fun e W' => ∃ v, e = .returned v ∧ Rows.fnExactRoomOkSpec.post enc Tryd.prog Tryd.f13 false true false false W args v W' := by
  have HTabs : Tabs W := Tabs_of_laid hL
  have hval : ∀ (j : Nat) t v, Tryd.f13.params[j]? = some t → args[j]? = some v → Value.okWide Tryd.prog W .any base t v := hval0
  have hW' := hW
  obtain ⟨p, q, hA0, hV, rfl, hfz, hnd⟩ := hW
  have hA : DataW.TrodAll enc Tryd.prog W 0 (fun _ => true) true Tryd.f13.params.toList args.toList ds p := hA0
  rw [Tryd.params13] at hA hval
  obtain ⟨v0, vs0, d0, ds0, p0, q0, hargs, rfl, rfl, h0, r0⟩ := trodAll_cons hA
  obtain ⟨rfl, rfl, rfl⟩ := trodAll_nil r0
  obtain rfl : args = #[v0] := by cases args; simp_all
  obtain ⟨rfl, rfl⟩ := trodVars_none hV
  clear hA0 hval0
  obtain ⟨cs0, rfl, sz0⟩ := okWide_struct Tryd.underlying56 (hval 0 56 v0 rfl rfl)
  have k0 := h0
  have lt0 : ∀ x ∈ p0, x.block < W.heap.size := by obtain ⟨m, hm⟩ := k0; exact DataW.trod_lt m _ _ _ hm
  rw [show Tryd.prog.cellsOf 56 = 5 by kernel_rfl] at sz0
  obtain ⟨cs0⟩ := cs0
  replace sz0 : cs0.length = 5 := sz0
  obtain ⟨u0_0, u0_1, u0_2, u0_3, u0_4, rfl⟩ := list_5 cs0 sz0
  obtain ⟨fuel0, hf0⟩ := h0
  obtain ⟨n0, hx0⟩ := struct_at Tryd.underlying56 hf0
  obtain ⟨y0_0, hy0_0⟩ := hx0 0 9 0 1 [u0_0] rfl (by kernel_rfl) rfl
  obtain ⟨a0_0, e0_0, hq0_0⟩ := (reads_string (P := Tryd.prog) Tryd.underlying9) _ _ _ _ _ _ _ _ _ hy0_0
  obtain rfl : u0_0 = .string a0_0 := List.singleton_inj.1 e0_0
  obtain ⟨y0_1, hy0_1⟩ := hx0 1 3 1 1 [u0_1] rfl (by kernel_rfl) rfl
  obtain ⟨a0_1, e0_1, hq0_1⟩ := (reads_int (P := Tryd.prog) (k := .i64) Tryd.underlying3) _ _ _ _ _ _ _ _ _ hy0_1
  obtain rfl : u0_1 = .int .i64 a0_1 := List.singleton_inj.1 e0_1
  obtain ⟨y0_2, hy0_2⟩ := hx0 2 53 2 1 [u0_2] rfl (by kernel_rfl) rfl
  obtain ⟨A0_2, c0_2, l0_2, rfl, hc0_2, hm0_2, hr0_2, hq0_2⟩ := slice_read reads_k109 Tryd.underlying53 (by kernel_rfl) hy0_2
  obtain ⟨y0_3, hy0_3⟩ := hx0 3 54 3 1 [u0_3] rfl (by kernel_rfl) rfl
  obtain ⟨A0_3, c0_3, l0_3, rfl, hc0_3, hm0_3, hr0_3, hq0_3⟩ := slice_read reads_k111 Tryd.underlying54 (by kernel_rfl) hy0_3
  obtain ⟨y0_4, hy0_4⟩ := hx0 4 9 4 1 [u0_4] rfl (by kernel_rfl) rfl
  obtain ⟨a0_4, e0_4, hq0_4⟩ := (reads_string (P := Tryd.prog) Tryd.underlying9) _ _ _ _ _ _ _ _ _ hy0_4
  obtain rfl : u0_4 = .string a0_4 := List.singleton_inj.1 e0_4
  obtain ⟨k, h⟩ := Pure.FnExactRoomOk a0_0 a0_1 l0_2 l0_3 a0_4 hq0_0 hq0_1 hm0_2 hq0_2 hm0_3 hq0_3 hq0_4
  refine (PAll.laws_FnExactRoomOk.calls k a0_0 a0_1 A0_2 c0_2 l0_2 A0_3 c0_3 l0_3 a0_4 true W hr0_2 hc0_2 hr0_3 hc0_3 h rfl HTabs).mono fun e W' ⟨he, bel0⟩ => ?_
  have bel : Below W.heap.size W W' := bel0
  subst he
  exact ⟨_, rfl, _, _, _, [], _, [], hW', trodAll_mk1 (shut_bool Tryd.underlying4 _), (trodAll_cons_mk (Below.trod laidOut (by kernel_rfl) (of_decide_eq_true (by kernel_rfl)) k0 bel lt0) trodAll_mk0), rfl, bel.frame _, fun h => by cases h⟩
theorem laid_met (os : Os) : laidMet Tryd.prog Rows.fnExactRoomOkRow.laid ((laidWorld os).forCall (fun _ _ => 0) ⟨#[], #[.agg #[.string ByteArray.empty, .int .i64 0, .slice none 0 0, .slice none 0 0, .string ByteArray.empty]], []⟩).memory :=
  laidMet_of_run' 8 (by kernel_rfl) (by kernel_rfl)
theorem reads_zero (os : Os) {H : Type} (enc : TypeId × Value → H) : (DataW.whole enc Tryd.prog ((laidWorld os).forCall (fun _ _ => 0) ⟨#[], #[.agg #[.string ByteArray.empty, .int .i64 0, .slice none 0 0, .slice none 0 0, .string ByteArray.empty]], []⟩).memory Tryd.f13.params.toList Rows.fnExactRoomOkSpec.vars false (#[.agg #[.string ByteArray.empty, .int .i64 0, .slice none 0 0, .slice none 0 0, .string ByteArray.empty]] : Array Value).toList 8).isSome = true := by kernel_rfl
set_option maxRecDepth 100000 in
theorem lifted (os : Os) (started : os.Started) (H : Type) (enc : TypeId × Value → H) (F : Stop.Interp) :
    ReturnsInHanded {} Tryd.checked os 13 .any ((OpenSpec.ofChange Rows.fnExactRoomOkSpec).preRow enc Tryd.prog Tryd.f13 Rows.fnExactRoomOkRow.domain false Rows.fnExactRoomOkRow.laid) (((OpenSpec.ofChange Rows.fnExactRoomOkSpec).at F).post enc Tryd.prog Tryd.f13 false true false false) := by
  obtain ⟨x, hx⟩ := Option.isSome_iff_exists.1 (reads_zero os enc)
  refine returnsInHanded_of_row (C := Tryd.checked) (s := OpenSpec.ofChange Rows.fnExactRoomOkSpec) own started (by kernel_rfl) Tryd.func13
    (witness_row_at (enc := enc) (C := Tryd.checked) false (laidWorld os) #[.agg #[.string ByteArray.empty, .int .i64 0, .slice none 0 0, .slice none 0 0, .string ByteArray.empty]] rfl (by kernel_rfl) (by kernel_rfl) (by kernel_rfl)
      (OpenSpec.preRow_of_cond 8 hx (by kernel_rfl) (fun k hk => by cases hk) (by kernel_rfl) (laid_met os))) ?_
  intro W base args ds gs before hval hW _ _ _ hL _ _
  exact contract H enc W base args ds gs before hval hW hL
theorem said : Rows.FnExactRoomOkSaid :=
  OpenClaim.holds_of_cond 13 Tryd.f13 rfl rfl rfl rfl rfl rfl rfl ⟨rfl, rfl, rfl, rfl, rfl⟩ rfl rfl rfl rfl rfl (by kernel_rfl) Tryd.func13 (by kernel_rfl)
    (of_decide_eq_true (by kernel_rfl)) (by unfold Func.isWrapper; first | (rw [if_pos (by decide +kernel)]; kernel_rfl) | (rw [if_neg (by decide +kernel)]; exact ⟨rfl, rfl⟩))
    (fun os started H enc _ F => by rw [OpenClaim.pre_eq_preRow]; exact lifted os started H enc F)
theorem plain (f : FuncId) (fn : Func) (hf : Tryd.pinned.checked.prog.funcNamed Rows.fnExactRoomOkRow.func = some f) (hfn : Tryd.pinned.checked.prog.funcs[f]? = some fn) :
    false = Tryd.pinned.checked.prog.looks [] ∧ ∀ (j : Nat) t, fn.params[j]? = some t → Tryd.pinned.checked.prog.wantsStandIn t = false := by
  obtain rfl : f = 13 := Option.some.inj ((show Tryd.prog.funcNamed Rows.fnExactRoomOkRow.func = some 13 by kernel_rfl).symm.trans hf) |>.symm
  obtain rfl : fn = Tryd.f13 := (Option.some.inj (Tryd.func13.symm.trans hfn)).symm
  refine ⟨by kernel_rfl, fun j t ht => ?_⟩
  rw [Tryd.params13] at ht
  have z : t = 56 := by simpa using Array.mem_of_getElem? ht
  rcases z with rfl
  · exact (show Tryd.prog.wantsStandIn 56 = false by kernel_rfl)
theorem card : Rows.FnExactRoomOkCardSaid :=
  Claim7.holds_tied_plain_at .later [] _ _ _ _ said (fun _ h => by cases h) (by kernel_rfl) (fun _ h => by cases h) fnExactRoomOk_row_tie rfl ⟨rfl, rfl⟩ (by kernel_rfl) rfl plain (by kernel_rfl)
#print axioms card
end Go.Proofs.YtgjecacalpaacaaDoor.fnExactRoomOk
namespace Go.Proofs.YtgjecacalpaacaaDoor
theorem fnExactRoomOk_holds : Rows.FnExactRoomOkCardSaid := fnExactRoomOk.card
end Go.Proofs.YtgjecacalpaacaaDoor

