/- FnExactWorldNew: own words and contracts that the law's proof uses, part 2. No condition of its own. -/
import Derived.Test.YtcmflpdgfddmeaaZFnExactWorldNew1
import Derived.WalkKit
import Derived.ProofKit
import Derived.OpenShut
import Derived.ShutString
import Derived.ChangeOld
import Derived.DataReads
import Derived.DataElems
import Derived.Deep.Slices
import Derived.Lib.LaidTab
set_option linter.unusedSimpArgs false
set_option linter.unusedVariables false
namespace Go.Proofs.YtcmflpdgfddmeaaW.FA
open Go.RowKit Go.Proofs.YtcmflpdgfddmeaaW.XM Go.Proofs
set_option maxRecDepth 100000
set_option linter.unusedSimpArgs false
set_option linter.unusedVariables false
variable (w0 : World) (H : Hp)
theorem markEntryS_nil (c k : Nat) : AFn Try.prog w0 39 #[.slice none 0 c, .int .i64 k] H fun v H2 => v = .int .i64 k ∧ H2 = H := by
  refine AFn.scal rfl Try.func39 rfl (by kernel_rfl) ?_
  have r := Try.results39
  simp only [go_sem, cond, Nat.reduceAdd, Nat.reduceLeDiff, Nat.reduceEqDiff, Nat.reduceBEq, decide_true, decide_false, Int.toNat_natCast, r]
  refine xw_loop (fun (i : Nat) T H' => T 0 = .slice none 0 c ∧ T 1 = .int .i64 k ∧ T 5 = .int .i64 0 ∧ H' = Hx H []) (fun i => 0) 0 (by kernel_rfl) ⟨rfl, rfl, rfl, rfl⟩ ?_
  rintro i T H' ⟨t0, t1, t5, rfl⟩
  have d1 : ((0 : Int) < ((0 : Nat) : Int)) = False := eq_false (by decide)
  simp only [go_sem, cond, Nat.reduceAdd, Nat.reduceLeDiff, Nat.reduceEqDiff, Nat.reduceBEq, decide_true, decide_false, Int.toNat_natCast, t0, t1, t5, d1, r]
  exact ⟨_, rfl⟩
theorem markSessS_nil (c k : Nat) : AFn Try.prog w0 40 #[.slice none 0 c, .int .i64 k] H fun v H2 => v = .int .i64 k ∧ H2 = H := by
  refine AFn.scal rfl Try.func40 rfl (by kernel_rfl) ?_
  have r := Try.results40
  simp only [go_sem, cond, Nat.reduceAdd, Nat.reduceLeDiff, Nat.reduceEqDiff, Nat.reduceBEq, decide_true, decide_false, Int.toNat_natCast, r]
  refine xw_loop (fun (i : Nat) T H' => T 0 = .slice none 0 c ∧ T 1 = .int .i64 k ∧ T 5 = .int .i64 0 ∧ H' = Hx H []) (fun i => 0) 0 (by kernel_rfl) ⟨rfl, rfl, rfl, rfl⟩ ?_
  rintro i T H' ⟨t0, t1, t5, rfl⟩
  have d1 : ((0 : Int) < ((0 : Nat) : Int)) = False := eq_false (by decide)
  simp only [go_sem, cond, Nat.reduceAdd, Nat.reduceLeDiff, Nat.reduceEqDiff, Nat.reduceBEq, decide_true, decide_false, Int.toNat_natCast, t0, t1, t5, d1, r]
  exact ⟨_, rfl⟩
theorem markOutS_nil (c k : Nat) : AFn Try.prog w0 41 #[.slice none 0 c, .int .i64 k] H fun v H2 => v = .int .i64 k ∧ H2 = H := by
  refine AFn.scal rfl Try.func41 rfl (by kernel_rfl) ?_
  have r := Try.results41
  simp only [go_sem, cond, Nat.reduceAdd, Nat.reduceLeDiff, Nat.reduceEqDiff, Nat.reduceBEq, decide_true, decide_false, Int.toNat_natCast, r]
  refine xw_loop (fun (i : Nat) T H' => T 0 = .slice none 0 c ∧ T 1 = .int .i64 k ∧ T 5 = .int .i64 0 ∧ H' = Hx H []) (fun i => 0) 0 (by kernel_rfl) ⟨rfl, rfl, rfl, rfl⟩ ?_
  rintro i T H' ⟨t0, t1, t5, rfl⟩
  have d1 : ((0 : Int) < ((0 : Nat) : Int)) = False := eq_false (by decide)
  simp only [go_sem, cond, Nat.reduceAdd, Nat.reduceLeDiff, Nat.reduceEqDiff, Nat.reduceBEq, decide_true, decide_false, Int.toNat_natCast, t0, t1, t5, d1, r]
  exact ⟨_, rfl⟩
theorem markStringS_nil (c k : Nat) : AFn Try.prog w0 42 #[.slice none 0 c, .int .i64 k] H fun v H2 => v = .int .i64 k ∧ H2 = H := by
  refine AFn.scal rfl Try.func42 rfl (by kernel_rfl) ?_
  have r := Try.results42
  simp only [go_sem, cond, Nat.reduceAdd, Nat.reduceLeDiff, Nat.reduceEqDiff, Nat.reduceBEq, decide_true, decide_false, Int.toNat_natCast, r]
  refine xw_loop (fun (i : Nat) T H' => T 0 = .slice none 0 c ∧ T 1 = .int .i64 k ∧ T 5 = .int .i64 0 ∧ H' = Hx H []) (fun i => 0) 0 (by kernel_rfl) ⟨rfl, rfl, rfl, rfl⟩ ?_
  rintro i T H' ⟨t0, t1, t5, rfl⟩
  have d1 : ((0 : Int) < ((0 : Nat) : Int)) = False := eq_false (by decide)
  simp only [go_sem, cond, Nat.reduceAdd, Nat.reduceLeDiff, Nat.reduceEqDiff, Nat.reduceBEq, decide_true, decide_false, Int.toNat_natCast, t0, t1, t5, d1, r]
  exact ⟨_, rfl⟩
theorem heldEntryS_nil (c k : Nat) : AFn Try.prog w0 44 #[.slice none 0 c, .int .i64 k] H fun v H2 => v = .int .i64 k ∧ H2 = H := by
  refine AFn.scal rfl Try.func44 rfl (by kernel_rfl) ?_
  have r := Try.results44
  simp only [go_sem, cond, Nat.reduceAdd, Nat.reduceLeDiff, Nat.reduceEqDiff, Nat.reduceBEq, decide_true, decide_false, Int.toNat_natCast, r]
  refine xw_loop (fun (i : Nat) T H' => T 0 = .slice none 0 c ∧ T 1 = .int .i64 k ∧ T 5 = .int .i64 0 ∧ H' = Hx H []) (fun i => 0) 0 (by kernel_rfl) ⟨rfl, rfl, rfl, rfl⟩ ?_
  rintro i T H' ⟨t0, t1, t5, rfl⟩
  have d1 : ((0 : Int) < ((0 : Nat) : Int)) = False := eq_false (by decide)
  simp only [go_sem, cond, Nat.reduceAdd, Nat.reduceLeDiff, Nat.reduceEqDiff, Nat.reduceBEq, decide_true, decide_false, Int.toNat_natCast, t0, t1, t5, d1, r]
  exact ⟨_, rfl⟩
theorem heldSessS_nil (c k : Nat) : AFn Try.prog w0 45 #[.slice none 0 c, .int .i64 k] H fun v H2 => v = .int .i64 k ∧ H2 = H := by
  refine AFn.scal rfl Try.func45 rfl (by kernel_rfl) ?_
  have r := Try.results45
  simp only [go_sem, cond, Nat.reduceAdd, Nat.reduceLeDiff, Nat.reduceEqDiff, Nat.reduceBEq, decide_true, decide_false, Int.toNat_natCast, r]
  refine xw_loop (fun (i : Nat) T H' => T 0 = .slice none 0 c ∧ T 1 = .int .i64 k ∧ T 5 = .int .i64 0 ∧ H' = Hx H []) (fun i => 0) 0 (by kernel_rfl) ⟨rfl, rfl, rfl, rfl⟩ ?_
  rintro i T H' ⟨t0, t1, t5, rfl⟩
  have d1 : ((0 : Int) < ((0 : Nat) : Int)) = False := eq_false (by decide)
  simp only [go_sem, cond, Nat.reduceAdd, Nat.reduceLeDiff, Nat.reduceEqDiff, Nat.reduceBEq, decide_true, decide_false, Int.toNat_natCast, t0, t1, t5, d1, r]
  exact ⟨_, rfl⟩
theorem heldOutS_nil (c k : Nat) : AFn Try.prog w0 46 #[.slice none 0 c, .int .i64 k] H fun v H2 => v = .int .i64 k ∧ H2 = H := by
  refine AFn.scal rfl Try.func46 rfl (by kernel_rfl) ?_
  have r := Try.results46
  simp only [go_sem, cond, Nat.reduceAdd, Nat.reduceLeDiff, Nat.reduceEqDiff, Nat.reduceBEq, decide_true, decide_false, Int.toNat_natCast, r]
  refine xw_loop (fun (i : Nat) T H' => T 0 = .slice none 0 c ∧ T 1 = .int .i64 k ∧ T 5 = .int .i64 0 ∧ H' = Hx H []) (fun i => 0) 0 (by kernel_rfl) ⟨rfl, rfl, rfl, rfl⟩ ?_
  rintro i T H' ⟨t0, t1, t5, rfl⟩
  have d1 : ((0 : Int) < ((0 : Nat) : Int)) = False := eq_false (by decide)
  simp only [go_sem, cond, Nat.reduceAdd, Nat.reduceLeDiff, Nat.reduceEqDiff, Nat.reduceBEq, decide_true, decide_false, Int.toNat_natCast, t0, t1, t5, d1, r]
  exact ⟨_, rfl⟩
theorem heldStringS_nil (c k : Nat) : AFn Try.prog w0 47 #[.slice none 0 c, .int .i64 k] H fun v H2 => v = .int .i64 k ∧ H2 = H := by
  refine AFn.scal rfl Try.func47 rfl (by kernel_rfl) ?_
  have r := Try.results47
  simp only [go_sem, cond, Nat.reduceAdd, Nat.reduceLeDiff, Nat.reduceEqDiff, Nat.reduceBEq, decide_true, decide_false, Int.toNat_natCast, r]
  refine xw_loop (fun (i : Nat) T H' => T 0 = .slice none 0 c ∧ T 1 = .int .i64 k ∧ T 5 = .int .i64 0 ∧ H' = Hx H []) (fun i => 0) 0 (by kernel_rfl) ⟨rfl, rfl, rfl, rfl⟩ ?_
  rintro i T H' ⟨t0, t1, t5, rfl⟩
  have d1 : ((0 : Int) < ((0 : Nat) : Int)) = False := eq_false (by decide)
  simp only [go_sem, cond, Nat.reduceAdd, Nat.reduceLeDiff, Nat.reduceEqDiff, Nat.reduceBEq, decide_true, decide_false, Int.toNat_natCast, t0, t1, t5, d1, r]
  exact ⟨_, rfl⟩
theorem flat_cell {α : Type} {enc : α → List Value} {n : Nat} (he : ∀ a, (enc a).length = n) (l : List α) {i : Nat} (hi : i < l.length) (f : Nat) (hf : f < n) : (flat enc l)[i * n + f]? = (enc l[i])[f]? := by
  have h := flat_row he l hi f 1 (by omega)
  have h2 := congrArg (fun x => x[0]?) h
  simpa [List.getElem?_take, List.getElem?_drop] using h2
theorem rdO_cell {t : TypeId} {cs : List Value} {o tag : Nat} {v : Value} (ht : cs.length = tag) (hv : cs[o]? = some v) : rdO (some (some (.row t cs))) o tag 1 = some [v] := by
  have hlt := lt_of_get hv
  rw [rdO_row, if_pos ⟨ht, by omega⟩, List.drop_eq_getElem_cons hlt]
  rw [List.getElem?_eq_getElem hlt] at hv
  cases hv
  rfl
def mkC (k j : Nat) : Cl := ⟨((k + 3 * j : Nat) : Int), ((k + 3 * j + 1 : Nat) : Int), mt (k + 3 * j + 2)⟩
def mkCs (n k : Nat) : List Cl := (List.range n).map (mkC k)
def midC (ms : List Cl) (k i : Nat) : List Cl := mkCs i k ++ ms.drop i
theorem midC_len (ms : List Cl) (k i : Nat) (hi : i ≤ ms.length) : (midC ms k i).length = ms.length := by simp [midC, mkCs]; omega
theorem midC_succ (ms : List Cl) (k i : Nat) (hi : i < ms.length) : (midC ms k i).set i (mkC k i) = midC ms k (i + 1) := by
  unfold midC mkCs
  rw [List.set_append_right _ _ (by simp), List.drop_eq_getElem_cons hi, List.range_succ, List.map_append]
  rw [show i - (List.map (mkC k) (List.range i)).length = 0 by simp, List.set_cons_zero]
  simp
theorem mkCs_len (n k : Nat) : (mkCs n k).length = n := by simp [mkCs]
set_option maxHeartbeats 4000000 in
theorem markClientS_ok (B : Hp) (l : List (Option Ob)) (j : Nat) (ms : List Cl) (c k : Nat) (hl : l[j]? = some (some (.row 49 (flat Cl.enc ms)))) (hn : ms.length ≤ 1048576) (hk : k ≤ 4000000) : AFn Try.prog w0 24 #[.slice (some ⟨nid B j, 0, some (ms.length * 5)⟩) ms.length c, .int .i64 k] (Hx B l) fun v H2 => v = .int .i64 ((k + 3 * ms.length : Nat) : Int) ∧ H2 = Hx B (l.set j (some (.row 49 (flat Cl.enc (mkCs ms.length k))))) := by
  have hj : j < l.length := lt_of_get hl
  refine AFn_of Try.func24 rfl (by kernel_rfl) ?_
  have r := Try.results24
  simp only [go_sem, cond, Nat.reduceAdd, Nat.reduceLeDiff, Nat.reduceEqDiff, Nat.reduceBEq, decide_true, decide_false, Int.toNat_natCast, r]
  refine xw_loop (fun (i : Nat) T H' => i ≤ ms.length ∧ T 0 = .slice (some ⟨nid B j, 0, some (ms.length * 5)⟩) ms.length c ∧ T 1 = .int .i64 ((k + 3 * i : Nat) : Int) ∧ T 5 = .int .i64 i ∧ H' = Hx B (l.set j (some (.row 49 (flat Cl.enc (midC ms k i)))))) (fun i => ms.length - i) 0 (by kernel_rfl) ⟨Nat.zero_le _, rfl, rfl, rfl, by
    have : midC ms k 0 = ms := by simp [midC, mkCs]
    rw [this, set_idn hl]⟩ ?_
  rintro i T H' ⟨hi, t0, t1, t5, rfl⟩
  have gs : ∀ X : Option Ob, (l.set j X)[j]? = some X := fun X => by rw [List.getElem?_set_self hj]
  by_cases hlt : i < ms.length
  · have d1 : ((i : Int) < (ms.length : Int)) = True := eq_true (by omega)
    have d2 : (0 ≤ (i : Int)) = True := eq_true (by omega)
    have hlen := flat_len clen (midC ms k i)
    rw [midC_len ms k i hi] at hlen
    have hle : i * 5 + 5 ≤ ms.length * 5 := by omega
    have w0 : IntKind.i64.wrap (((k + 3 * i : Nat) : Int) + 1) = ((k + 3 * i + 1 : Nat) : Int) := by rw [wrap_i64 (by omega) (by omega)]; omega
    have w1 : IntKind.i64.wrap (((k + 3 * i + 1 : Nat) : Int) + 1) = ((k + 3 * i + 2 : Nat) : Int) := by rw [wrap_i64 (by omega) (by omega)]; omega
    have w2 : IntKind.i64.wrap (((k + 3 * i + 2 : Nat) : Int) + 1) = ((k + 3 * (i + 1) : Nat) : Int) := by rw [wrap_i64 (by omega) (by omega)]; omega
    have hi' : i < (midC ms k i).length := by rw [midC_len ms k i hi]; exact hlt
    have f1 : (flat Cl.enc (midC ms k i))[i * 5 + 1]? = some (.slice none 0 0) := (flat_cell clen _ hi' 1 (by decide)).trans rfl
    have f3 : (flat Cl.enc (midC ms k i))[i * 5 + 3]? = some (.slice none 0 0) := (flat_cell clen _ hi' 3 (by decide)).trans rfl
    have cA : ∀ X, rdO (some (some (.row 49 ((flat Cl.enc (midC ms k i)).set (i * 5 + 0) X)))) (i * 5 + 1) (ms.length * 5) 1 = some [.slice none 0 0] := fun X => rdO_cell (by rw [List.length_set]; exact hlen) (by rw [List.getElem?_set_ne (by omega)]; exact f1)
    have cG : ∀ X Y, rdO (some (some (.row 49 (((flat Cl.enc (midC ms k i)).set (i * 5 + 0) X).set (i * 5 + 2) Y)))) (i * 5 + 3) (ms.length * 5) 1 = some [.slice none 0 0] := fun X Y => rdO_cell (by rw [List.length_set, List.length_set]; exact hlen) (by rw [List.getElem?_set_ne (by omega), List.getElem?_set_ne (by omega)]; exact f3)
    simp only [go_sem, cond, Nat.reduceAdd, Nat.reduceLeDiff, Nat.reduceEqDiff, Nat.reduceBEq, decide_true, decide_false, Int.toNat_natCast, t0, t1, t5, d1, d2, gs, List.set_set, List.length_set, hlen, w0, w1, w2, cA, cG, r]
    repeat' (first
      | (refine Req_intro (by omega) ?_; simp only [go_sem, cond, Nat.reduceAdd, Nat.reduceLeDiff, Nat.reduceEqDiff, Nat.reduceBEq, decide_true, decide_false, Int.toNat_natCast, t0, t1, t5, d1, d2, gs, List.set_set, List.length_set, hlen, w0, w1, w2, cA, cG, r])
      | (refine call_eq (markOutS_nil _ _ 0 _) ?_; simp only [go_sem, cond, Nat.reduceAdd, Nat.reduceLeDiff, Nat.reduceEqDiff, Nat.reduceBEq, decide_true, decide_false, Int.toNat_natCast, t0, t1, t5, d1, d2, gs, List.set_set, List.length_set, hlen, w0, w1, w2, cA, cG, r])
      | (refine call_eq (markStringS_nil _ _ 0 _) ?_; simp only [go_sem, cond, Nat.reduceAdd, Nat.reduceLeDiff, Nat.reduceEqDiff, Nat.reduceBEq, decide_true, decide_false, Int.toNat_natCast, t0, t1, t5, d1, d2, gs, List.set_set, List.length_set, hlen, w0, w1, w2, cA, cG, r])
      | (refine call_eq (markText_ok _ _ (k + 3 * i + 2) (by omega)) ?_; simp only [go_sem, cond, Nat.reduceAdd, Nat.reduceLeDiff, Nat.reduceEqDiff, Nat.reduceBEq, decide_true, decide_false, Int.toNat_natCast, t0, t1, t5, d1, d2, gs, List.set_set, List.length_set, hlen, w0, w1, w2, cA, cG, r]))
    have p0 : (((flat Cl.enc (midC ms k i)).set (i * 5 + 0) (.int .i64 ((k + 3 * i : Nat) : Int))).set (i * 5 + 2) (.int .i64 ((k + 3 * i + 1 : Nat) : Int))).set (i * 5 + 4) (.string (mt (k + 3 * i + 2))) = flat Cl.enc (midC ms k (i + 1)) := by
      have q := flat_set clen (midC ms k i) i (mkC k i) hi'
      rw [← midC_succ ms k i hlt]
      have s1 : ((flat Cl.enc (midC ms k i)).set (i * 5 + 0) (.int .i64 ((k + 3 * i : Nat) : Int))).set (i * 5 + 1) (.slice none 0 0) = (flat Cl.enc (midC ms k i)).set (i * 5 + 0) (.int .i64 ((k + 3 * i : Nat) : Int)) := set_idn (by rw [List.getElem?_set_ne (by omega)]; exact f1)
      have s3 : (((flat Cl.enc (midC ms k i)).set (i * 5 + 0) (.int .i64 ((k + 3 * i : Nat) : Int))).set (i * 5 + 2) (.int .i64 ((k + 3 * i + 1 : Nat) : Int))).set (i * 5 + 3) (.slice none 0 0) = ((flat Cl.enc (midC ms k i)).set (i * 5 + 0) (.int .i64 ((k + 3 * i : Nat) : Int))).set (i * 5 + 2) (.int .i64 ((k + 3 * i + 1 : Nat) : Int)) := set_idn (by rw [List.getElem?_set_ne (by omega), List.getElem?_set_ne (by omega)]; exact f3)
      rw [← q]
      show _ = (((((flat Cl.enc (midC ms k i)).set (i * 5 + 0) (.int .i64 ((k + 3 * i : Nat) : Int))).set (i * 5 + 1) (.slice none 0 0)).set (i * 5 + 2) (.int .i64 ((k + 3 * i + 1 : Nat) : Int))).set (i * 5 + 3) (.slice none 0 0)).set (i * 5 + 4) (.string (mt (k + 3 * i + 2)))
      rw [s1, s3]
    rw [p0]
    exact ⟨i + 1, ⟨hlt, t0, rfl, int_succ hlt (by omega), rfl⟩, lt_meas hlt⟩
  · obtain rfl : i = ms.length := by omega
    have d1 : ((ms.length : Int) < (ms.length : Int)) = False := eq_false (by omega)
    simp only [go_sem, cond, Nat.reduceAdd, Nat.reduceLeDiff, Nat.reduceEqDiff, Nat.reduceBEq, decide_true, decide_false, Int.toNat_natCast, t0, t1, t5, d1, r]
    rw [midC, List.drop_length, List.append_nil]
set_option maxHeartbeats 4000000 in
theorem heldClientS_ok (A : Option Addr) (c k n : Nat) (hA : Sl w0 H A 5 ((mkCs n k).map Cl.enc)) (hn : n ≤ 1048576) (hk : k ≤ 4000000) : AFn Try.prog w0 26 #[.slice A n c, .int .i64 k] H fun v H2 => v = .int .i64 ((k + 3 * n : Nat) : Int) ∧ H2 = H := by
  have hmn := mkCs_len n k
  refine AFn.scal rfl Try.func26 rfl (by kernel_rfl) ?_
  have r := Try.results26
  simp only [go_sem, cond, Nat.reduceAdd, Nat.reduceLeDiff, Nat.reduceEqDiff, Nat.reduceBEq, decide_true, decide_false, Int.toNat_natCast, r]
  refine xw_loop (fun (i : Nat) T H' => i ≤ n ∧ T 0 = .slice A n c ∧ T 1 = .int .i64 ((k + 3 * i : Nat) : Int) ∧ T 5 = .int .i64 i ∧ H' = Hx H []) (fun i => n - i) 0 (by kernel_rfl) ⟨Nat.zero_le _, rfl, rfl, rfl, rfl⟩ ?_
  rintro i T H' ⟨hi, t0, t1, t5, rfl⟩
  by_cases hlt : i < n
  · obtain ⟨b, o, sp, rfl, hc, _⟩ := mcell hA (i := i) (by omega)
    have hmi : (mkCs n k)[i]'(by omega) = mkC k i := by simp [mkCs]
    rw [hmi] at hc
    have c0 := fun L => hc 0 (.int .i64 ((k + 3 * i : Nat) : Int)) L (by decide) rfl
    have c1 := fun L => hc 1 (.slice none 0 0) L (by decide) rfl
    have c2 := fun L => hc 2 (.int .i64 ((k + 3 * i + 1 : Nat) : Int)) L (by decide) rfl
    have c3 := fun L => hc 3 (.slice none 0 0) L (by decide) rfl
    have c4 := fun L => hc 4 (.string (mt (k + 3 * i + 2))) L (by decide) rfl
    have d1 : ((i : Int) < (n : Int)) = True := eq_true (by omega)
    have d2 : (0 ≤ (i : Int)) = True := eq_true (by omega)
    have w0 : IntKind.i64.wrap (((k + 3 * i : Nat) : Int) + 1) = ((k + 3 * i + 1 : Nat) : Int) := by rw [wrap_i64 (by omega) (by omega)]; omega
    have w1 : IntKind.i64.wrap (((k + 3 * i + 1 : Nat) : Int) + 1) = ((k + 3 * i + 2 : Nat) : Int) := by rw [wrap_i64 (by omega) (by omega)]; omega
    have w2 : IntKind.i64.wrap (((k + 3 * i + 2 : Nat) : Int) + 1) = ((k + 3 * (i + 1) : Nat) : Int) := by rw [wrap_i64 (by omega) (by omega)]; omega
    have z1 : (((k + 3 * i + 1 : Nat) : Int) < 0) = False := eq_false (by omega)
    have z2 : (((k + 3 * i + 2 : Nat) : Int) < 0) = False := eq_false (by omega)
    simp only [go_sem, cond, Nat.reduceAdd, Nat.reduceLeDiff, Nat.reduceEqDiff, Nat.reduceBEq, decide_true, decide_false, Int.toNat_natCast, t0, t1, t5, d1, d2, z1, z2, c0, c1, c2, c3, c4, w0, w1, w2, beq_self_eq_true, r]
    repeat' (first
      | (refine xw_open (id := 16) [0, 0, 3, 7, 15, 0, 32, 127] [.q 0, .q 1, .q 2, .q 3, .q 5, .l 4, .e 6, .q 7] rfl (by kernel_rfl) ?_; simp only [go_sem, cond, Nat.reduceAdd, Nat.reduceLeDiff, Nat.reduceEqDiff, Nat.reduceBEq, decide_true, decide_false, Int.toNat_natCast, t0, t1, t5, d1, d2, z1, z2, c0, c1, c2, c3, c4, w0, w1, w2, beq_self_eq_true, r])
      | (refine call_eq (heldOutS_nil _ _ 0 _) ?_; simp only [go_sem, cond, Nat.reduceAdd, Nat.reduceLeDiff, Nat.reduceEqDiff, Nat.reduceBEq, decide_true, decide_false, Int.toNat_natCast, t0, t1, t5, d1, d2, z1, z2, c0, c1, c2, c3, c4, w0, w1, w2, beq_self_eq_true, r])
      | (refine call_eq (heldStringS_nil _ _ 0 _) ?_; simp only [go_sem, cond, Nat.reduceAdd, Nat.reduceLeDiff, Nat.reduceEqDiff, Nat.reduceBEq, decide_true, decide_false, Int.toNat_natCast, t0, t1, t5, d1, d2, z1, z2, c0, c1, c2, c3, c4, w0, w1, w2, beq_self_eq_true, r])
      | (refine call_eq (markText_ok _ _ (k + 3 * i + 2) (by omega)) ?_; simp only [go_sem, cond, Nat.reduceAdd, Nat.reduceLeDiff, Nat.reduceEqDiff, Nat.reduceBEq, decide_true, decide_false, Int.toNat_natCast, t0, t1, t5, d1, d2, z1, z2, c0, c1, c2, c3, c4, w0, w1, w2, beq_self_eq_true, r]))
    exact ⟨i + 1, ⟨hlt, t0, rfl, int_succ hlt (by omega), rfl⟩, lt_meas hlt⟩
  · obtain rfl : i = n := by omega
    have d1 : ((i : Int) < (i : Int)) = False := eq_false (by omega)
    simp only [go_sem, cond, Nat.reduceAdd, Nat.reduceLeDiff, Nat.reduceEqDiff, Nat.reduceBEq, decide_true, decide_false, Int.toNat_natCast, t0, t1, t5, d1, r]
    exact ⟨_, rfl⟩
end Go.Proofs.YtcmflpdgfddmeaaW.FA

namespace Go.Proofs.YtcmflpdgfddmeaaW.FA
open Go.RowKit Go.Proofs.YtcmflpdgfddmeaaW.XM Go.Proofs
set_option maxRecDepth 100000
set_option linter.unusedSimpArgs false
set_option linter.unusedVariables false
variable (w0 : World) (H : Hp)
theorem heldServer_ok (A : Option Addr) (n k : Nat) (hA : Sl w0 H A 2 ((mkAs n k).map Ac.enc)) (hn : n ≤ 1048576) (hk : k ≤ 100) : AFn Try.prog w0 25 #[.agg (svC A n).toArray, .int .i64 k] H fun v H2 => v = .int .i64 ((k + 2 * n : Nat) : Int) ∧ H2 = H := by
  have z1 : (((k + 2 * n : Nat) : Int) < 0) = False := eq_false (by omega)
  refine AFn.scal rfl Try.func25 rfl (by kernel_rfl) ?_
  have r := Try.results25
  simp only [go_sem, cond, Nat.reduceAdd, Nat.reduceLeDiff, Nat.reduceEqDiff, Nat.reduceBEq, decide_true, decide_false, Int.toNat_natCast, r]
  simp only [go_sem, cond, Nat.reduceAdd, Nat.reduceLeDiff, Nat.reduceEqDiff, Nat.reduceBEq, decide_true, decide_false, Int.toNat_natCast, svC, z1, r]
  refine call_eq (heldAccountS_ok w0 _ A _ k n (hA.old _) hn hk) ?_
  simp only [go_sem, cond, Nat.reduceAdd, Nat.reduceLeDiff, Nat.reduceEqDiff, Nat.reduceBEq, decide_true, decide_false, Int.toNat_natCast, z1, r]
  refine call_eq (heldEntryS_nil w0 _ 0 _) ?_
  simp only [go_sem, cond, Nat.reduceAdd, Nat.reduceLeDiff, Nat.reduceEqDiff, Nat.reduceBEq, decide_true, decide_false, Int.toNat_natCast, z1, r]
  refine call_eq (heldSessS_nil w0 _ 0 _) ?_
  simp only [go_sem, cond, Nat.reduceAdd, Nat.reduceLeDiff, Nat.reduceEqDiff, Nat.reduceBEq, decide_true, decide_false, Int.toNat_natCast, z1, r]
  exact ⟨_, rfl⟩
theorem heldWorld_ok (A C : Option Addr) (n m k : Nat) (hA : Sl w0 H A 2 ((mkAs n k).map Ac.enc)) (hC : Sl w0 H C 5 ((mkCs m (k + 2 * n)).map Cl.enc)) (hn : n ≤ 1048576) (hm : m ≤ 1048576) (hk : k ≤ 100) : AFn Try.prog w0 12 #[.agg (wlC A n C m).toArray, .int .i64 k] H fun v H2 => v = .int .i64 ((k + 2 * n + 3 * m : Nat) : Int) ∧ H2 = H := by
  have z1 : (((k + 2 * n : Nat) : Int) < 0) = False := eq_false (by omega)
  have z2 : (((k + 2 * n + 3 * m : Nat) : Int) < 0) = False := eq_false (by omega)
  refine AFn.scal rfl Try.func12 rfl (by kernel_rfl) ?_
  have r := Try.results12
  simp only [go_sem, cond, Nat.reduceAdd, Nat.reduceLeDiff, Nat.reduceEqDiff, Nat.reduceBEq, decide_true, decide_false, Int.toNat_natCast, r]
  simp only [go_sem, cond, Nat.reduceAdd, Nat.reduceLeDiff, Nat.reduceEqDiff, Nat.reduceBEq, decide_true, decide_false, Int.toNat_natCast, wlC, svC, List.cons_append, List.nil_append, z1, z2, r]
  refine call_eq (heldServer_ok w0 _ A n k (hA.old _) hn hk) ?_
  simp only [go_sem, cond, Nat.reduceAdd, Nat.reduceLeDiff, Nat.reduceEqDiff, Nat.reduceBEq, decide_true, decide_false, Int.toNat_natCast, z1, z2, r]
  refine call_eq (heldClientS_ok w0 _ C _ (k + 2 * n) m (hC.old _) hm (by omega)) ?_
  simp only [go_sem, cond, Nat.reduceAdd, Nat.reduceLeDiff, Nat.reduceEqDiff, Nat.reduceBEq, decide_true, decide_false, Int.toNat_natCast, z1, z2, r]
  exact ⟨_, rfl⟩
theorem markClientS_nil (c k : Nat) : AFn Try.prog w0 24 #[.slice none 0 c, .int .i64 k] H fun v H2 => v = .int .i64 k ∧ H2 = H := by
  refine AFn.scal rfl Try.func24 rfl (by kernel_rfl) ?_
  have r := Try.results24
  simp only [go_sem, cond, Nat.reduceAdd, Nat.reduceLeDiff, Nat.reduceEqDiff, Nat.reduceBEq, decide_true, decide_false, Int.toNat_natCast, r]
  refine xw_loop (fun (i : Nat) T H' => T 0 = .slice none 0 c ∧ T 1 = .int .i64 k ∧ T 5 = .int .i64 0 ∧ H' = Hx H []) (fun i => 0) 0 (by kernel_rfl) ⟨rfl, rfl, rfl, rfl⟩ ?_
  rintro i T H' ⟨t0, t1, t5, rfl⟩
  have d1 : ((0 : Int) < ((0 : Nat) : Int)) = False := eq_false (by decide)
  simp only [go_sem, cond, Nat.reduceAdd, Nat.reduceLeDiff, Nat.reduceEqDiff, Nat.reduceBEq, decide_true, decide_false, Int.toNat_natCast, t0, t1, t5, d1, r]
  exact ⟨_, rfl⟩
theorem markServer_no (k : Nat) : AFn Try.prog w0 23 #[.agg (svC none 0).toArray, .int .i64 k] H fun v H2 => v = .int .i64 k ∧ H2 = H := by
  refine AFn.scal rfl Try.func23 rfl (by kernel_rfl) ?_
  have r := Try.results23
  simp only [go_sem, cond, Nat.reduceAdd, Nat.reduceLeDiff, Nat.reduceEqDiff, Nat.reduceBEq, decide_true, decide_false, Int.toNat_natCast, r]
  simp only [go_sem, cond, Nat.reduceAdd, Nat.reduceLeDiff, Nat.reduceEqDiff, Nat.reduceBEq, decide_true, decide_false, Int.toNat_natCast, svC, r]
  refine call_eq (markA0_ok w0 _ 0 k) ?_
  simp only [go_sem, cond, Nat.reduceAdd, Nat.reduceLeDiff, Nat.reduceEqDiff, Nat.reduceBEq, decide_true, decide_false, Int.toNat_natCast, r]
  refine call_eq (markEntryS_nil w0 _ 0 _) ?_
  simp only [go_sem, cond, Nat.reduceAdd, Nat.reduceLeDiff, Nat.reduceEqDiff, Nat.reduceBEq, decide_true, decide_false, Int.toNat_natCast, r]
  refine call_eq (markSessS_nil w0 _ 0 _) ?_
  simp only [go_sem, cond, Nat.reduceAdd, Nat.reduceLeDiff, Nat.reduceEqDiff, Nat.reduceBEq, decide_true, decide_false, Int.toNat_natCast, r]
  exact ⟨_, rfl⟩
theorem markWorld_no (k : Nat) : AFn Try.prog w0 11 #[.agg zW.toArray, .int .i64 k] H fun v H2 => v = .int .i64 k ∧ H2 = H := by
  refine AFn.scal rfl Try.func11 rfl (by kernel_rfl) ?_
  have r := Try.results11
  simp only [go_sem, cond, Nat.reduceAdd, Nat.reduceLeDiff, Nat.reduceEqDiff, Nat.reduceBEq, decide_true, decide_false, Int.toNat_natCast, r]
  simp only [go_sem, cond, Nat.reduceAdd, Nat.reduceLeDiff, Nat.reduceEqDiff, Nat.reduceBEq, decide_true, decide_false, Int.toNat_natCast, zW, wlC, svC, List.cons_append, List.nil_append, r]
  refine call_eq (markServer_no w0 _ k) ?_
  simp only [go_sem, cond, Nat.reduceAdd, Nat.reduceLeDiff, Nat.reduceEqDiff, Nat.reduceBEq, decide_true, decide_false, Int.toNat_natCast, r]
  refine call_eq (markClientS_nil w0 _ 0 _) ?_
  simp only [go_sem, cond, Nat.reduceAdd, Nat.reduceLeDiff, Nat.reduceEqDiff, Nat.reduceBEq, decide_true, decide_false, Int.toNat_natCast, r]
  exact ⟨_, rfl⟩
theorem markServer_ok (B : Hp) (l : List (Option Ob)) (j : Nat) (ms : List Ac) (k : Nat) (hl : l[j]? = some (obA ms)) (hn : ms.length ≤ 1048576) (hk : k ≤ 100) : AFn Try.prog w0 23 #[.agg (svC (some ⟨nid B j, 0, some (ms.length * 2)⟩) ms.length).toArray, .int .i64 k] (Hx B l) fun v H2 => v = .int .i64 ((k + 2 * ms.length : Nat) : Int) ∧ ∃ G, H2 = Hx B (l.set j (obA (mkAs ms.length k)) ++ G) := by
  have hj : j < l.length := lt_of_get hl
  refine AFn_of Try.func23 rfl (by kernel_rfl) ?_
  have r := Try.results23
  have gM : ∀ (Z : Option Ob) (G : List (Option Ob)), (l ++ Z :: G)[l.length]? = some Z := fun Z G => by rw [List.getElem?_append_right (Nat.le_refl _)]; simp
  simp only [go_sem, cond, Nat.reduceAdd, Nat.reduceLeDiff, Nat.reduceEqDiff, Nat.reduceBEq, decide_true, decide_false, Int.toNat_natCast, svC, r, gM]
  refine call_eq (markAccountS_ok w0 B _ j ms _ k (by rw [List.getElem?_append_left hj]; exact hl) hn hk) ?_
  have e1 : ∀ (X Z : Option Ob), (l ++ [Z]).set j X = l.set j X ++ [Z] := fun X Z => List.set_append_left _ _ hj
  have gS : ∀ (X Z : Option Ob), (l.set j X ++ [Z])[l.length]? = some Z := fun X Z => by rw [List.getElem?_append_right (by simp)]; simp
  simp only [go_sem, cond, Nat.reduceAdd, Nat.reduceLeDiff, Nat.reduceEqDiff, Nat.reduceBEq, decide_true, decide_false, Int.toNat_natCast, r, e1, gS]
  refine call_eq (markEntryS_nil w0 _ 0 _) ?_
  simp only [go_sem, cond, Nat.reduceAdd, Nat.reduceLeDiff, Nat.reduceEqDiff, Nat.reduceBEq, decide_true, decide_false, Int.toNat_natCast, r, e1, gS]
  refine call_eq (markSessS_nil w0 _ 0 _) ?_
  simp only [go_sem, cond, Nat.reduceAdd, Nat.reduceLeDiff, Nat.reduceEqDiff, Nat.reduceBEq, decide_true, decide_false, Int.toNat_natCast, r, e1, gS]
  exact ⟨_, rfl⟩
theorem markWorld_ok (B : Hp) (l : List (Option Ob)) (ja jc : Nat) (ms : List Ac) (cs : List Cl) (k : Nat) (ha : l[ja]? = some (obA ms)) (hc : l[jc]? = some (obC cs)) (hne : ja ≠ jc) (hn : ms.length ≤ 1048576) (hm : cs.length ≤ 1048576) (hk : k ≤ 100) : AFn Try.prog w0 11 #[.agg (wlC (some ⟨nid B ja, 0, some (ms.length * 2)⟩) ms.length (some ⟨nid B jc, 0, some (cs.length * 5)⟩) cs.length).toArray, .int .i64 k] (Hx B l) fun v H2 => v = .int .i64 ((k + 2 * ms.length + 3 * cs.length : Nat) : Int) ∧ ∃ G, H2 = Hx B ((l.set ja (obA (mkAs ms.length k))).set jc (obC (mkCs cs.length (k + 2 * ms.length))) ++ G) := by
  have hja : ja < l.length := lt_of_get ha
  have hjc : jc < l.length := lt_of_get hc
  refine AFn_of Try.func11 rfl (by kernel_rfl) ?_
  have r := Try.results11
  have gM : ∀ (Z : Option Ob) (G : List (Option Ob)), (l ++ Z :: G)[l.length]? = some Z := fun Z G => by rw [List.getElem?_append_right (Nat.le_refl _)]; simp
  simp only [go_sem, cond, Nat.reduceAdd, Nat.reduceLeDiff, Nat.reduceEqDiff, Nat.reduceBEq, decide_true, decide_false, Int.toNat_natCast, wlC, svC, List.cons_append, List.nil_append, r, gM]
  refine call (markServer_ok w0 B _ ja ms k (by rw [List.getElem?_append_left hja]; exact ha) hn hk) ?_
  rintro v H2 ⟨rfl, G, rfl⟩
  have e1 : ∀ (X Z : Option Ob), (l ++ [Z]).set ja X = l.set ja X ++ [Z] := fun X Z => List.set_append_left _ _ hja
  have gS : ∀ (X Z : Option Ob) (G : List (Option Ob)), (l.set ja X ++ Z :: G)[l.length]? = some Z := fun X Z G => by rw [List.getElem?_append_right (by simp)]; simp
  simp only [go_sem, cond, Nat.reduceAdd, Nat.reduceLeDiff, Nat.reduceEqDiff, Nat.reduceBEq, decide_true, decide_false, Int.toNat_natCast, r, e1, gS, List.append_assoc, List.singleton_append]
  refine call_eq (markClientS_ok w0 B _ jc cs _ (k + 2 * ms.length) (by rw [List.getElem?_append_left (by simpa using hjc), List.getElem?_set_ne hne]; exact hc) hm (by omega)) ?_
  have e2 : ∀ (X Y : Option Ob) (G : List (Option Ob)), (l.set ja X ++ G).set jc Y = (l.set ja X).set jc Y ++ G := fun X Y G => List.set_append_left _ _ (by simpa using hjc)
  simp only [go_sem, cond, Nat.reduceAdd, Nat.reduceLeDiff, Nat.reduceEqDiff, Nat.reduceBEq, decide_true, decide_false, Int.toNat_natCast, r, e1, e2]
  exact ⟨_, rfl⟩
end Go.Proofs.YtcmflpdgfddmeaaW.FA

namespace Go.Proofs.YtcmflpdgfddmeaaW.FA
open Go.RowKit Go.Proofs.YtcmflpdgfddmeaaW.XM Go.Proofs
set_option maxRecDepth 100000
set_option linter.unusedSimpArgs false
set_option linter.unusedVariables false
variable (w0 : World) (H : Hp)
set_option maxHeartbeats 20000000 in
theorem law_WorldNew (A : Option Addr) (c : Nat) (l : List Ac) (hs : ∀ H, Sl w0 H A 2 (l.map Ac.enc)) (hl : l.length ≤ 9223372036854775807) (hw : ∀ e ∈ l, WfA e) : AFn Try.prog w0 3 #[.slice A l.length c] H fun v H2 => v = .bool true ∧ H2 = H := by
  have hb : ∀ (g : List (Option Ob)) (Y : Option Ob) (r : List (Option Ob)), (g ++ Y :: r)[g.length]? = some Y := fun g Y r => by rw [List.getElem?_append_right (Nat.le_refl _)]; simp
  have gi : ∀ (g r : List (Option Ob)) (k : Nat), (g ++ r)[g.length + k]? = r[k]? := fun g r k => by rw [List.getElem?_append_right (by omega)]; simp
  have si : ∀ (g r : List (Option Ob)) (k : Nat) (Z : Option Ob), (g ++ r).set (g.length + k) Z = g ++ r.set k Z := fun g r k Z => by rw [List.set_append_right _ _ (by omega)]; simp
  have si0 : ∀ (g r : List (Option Ob)) (Z : Option Ob), (g ++ r).set g.length Z = g ++ r.set 0 Z := fun g r Z => by rw [List.set_append_right _ _ (by omega)]; simp
  refine AFn.scal rfl Try.func3 rfl (by kernel_rfl) ?_
  have r := Try.results3
  simp only [go_sem, cond, Nat.reduceAdd, Nat.reduceLeDiff, Nat.reduceEqDiff, Nat.reduceBEq, decide_true, decide_false, Int.toNat_natCast, r]
  refine call (szAccountS_ok w0 _ A c l (hs _) hl hw) ?_
  rintro v H2 ⟨⟨n, rfl, n1, n2, n3⟩, rfl⟩
  simp only [go_sem, cond, Nat.reduceAdd, Nat.reduceLeDiff, Nat.reduceEqDiff, Nat.reduceBEq, decide_true, decide_false, Int.toNat_natCast, r]
  refine Br_intro ?_ ?_ <;> intro h <;> simp only [go_sem, cond, Nat.reduceAdd, Nat.reduceLeDiff, Nat.reduceEqDiff, Nat.reduceBEq, decide_true, decide_false, Int.toNat_natCast, h, r]
  · exact ⟨_, rfl⟩
  obtain ⟨hl, hbe⟩ := n3 (by have := of_decide_eq_false h; omega)
  clear h n3 n1 n2 hw
  have z0 : ((1 : Int) < 0) = False := eq_false (by decide)
  have z1 : (((1 + 2 * l.length : Nat) : Int) < 0) = False := eq_false (by omega)
  have z2 : (((1 + 2 * l.length + 3 * l.length : Nat) : Int) < 0) = False := eq_false (by omega)
  have z3 : (((1 : Nat) : Int) < 0) = False := eq_false (by decide)
  have cT := fun H => toAccountS_ok w0 H A c l (hs _) (by omega)
  have cc : ∀ (B : Hp) (M : List (Option Ob)) (k : Nat), M[k]? = some (obA l) → Cp w0 (Hx B M) ⟨nid B k, 0, some (l.length * 2)⟩ l := fun B M k h => ⟨Sl_own alen _ l B M k h, fun L => by rw [rd_flat alen _ l B M k h]; rfl⟩
  have cX : ∀ (B : Hp) (M : List (Option Ob)) (k : Nat), M[k]? = some (obA l) → Sl w0 (Hx B M) (some ⟨nid B k, 0, some (l.length * 2)⟩) 2 (l.map Ac.enc) := fun B M k h => (cc B M k h).1
  have hoA : some (some (Ob.row 43 (flat Ac.enc l))) = some (obA l) := rfl
  by_cases hA : acB l = true
  · have h4 := acB_le hA
    obtain ⟨Ln, hLn⟩ : ∃ Ln, Ln = List.replicate l.length cl0 := ⟨_, rfl⟩
    have hLl : Ln.length = l.length := by rw [hLn, List.length_replicate]
    have cS := fun (H : Hp) (a : Addr) (hc : Cp w0 H a l) => WorldNewS_ok w0 H a l.length l hA hc hbe
    have cI := fun (H : Hp) (a : Addr) (hc : Cp w0 H a l) => WorldNewI_ok w0 H a l.length l hA hc hbe
    rw [← hLn] at cS cI
    have cY : ∀ (B : Hp) (M : List (Option Ob)) (k : Nat), M[k]? = some (obC Ln) → Sl w0 (Hx B M) (some ⟨nid B k, 0, some (l.length * 5)⟩) 5 (Ln.map Cl.enc) := fun B M k h => by rw [← hLl]; exact Sl_own clen _ Ln B M k h
    have cE : ∀ (H : Hp) (A A' C C' : Option Addr), Sl w0 H A 2 (l.map Ac.enc) → Sl w0 H A' 2 (l.map Ac.enc) → Sl w0 H C 5 (Ln.map Cl.enc) → Sl w0 H C' 5 (Ln.map Cl.enc) → AFn Try.prog w0 8 #[.agg (wlC A l.length C l.length).toArray, .agg (wlC A' l.length C' l.length).toArray] H fun v H2 => v = .bool true ∧ H2 = H := fun H A A' C C' h1 h2 h3 h5 => by
      have := eqWorld_ok w0 H l Ln A A' C C' h1 h2 h3 h5 (by omega) (by omega)
      rwa [hLl] at this
    have cM : ∀ (B : Hp) (M : List (Option Ob)) (ja jc : Nat), M[ja]? = some (obA l) → M[jc]? = some (obC Ln) → ja ≠ jc → AFn Try.prog w0 11 #[.agg (wlC (some ⟨nid B ja, 0, some (l.length * 2)⟩) l.length (some ⟨nid B jc, 0, some (l.length * 5)⟩) l.length).toArray, .int .i64 1] (Hx B M) fun v H2 => v = .int .i64 ((1 + 2 * l.length + 3 * l.length : Nat) : Int) ∧ ∃ G, H2 = Hx B ((M.set ja (obA (mkAs l.length 1))).set jc (obC (mkCs l.length (1 + 2 * l.length))) ++ G) := fun B M ja jc h1 h2 h3 => by
      have := markWorld_ok w0 B M ja jc l Ln 1 h1 h2 h3 (by omega) (by omega) (by omega)
      rwa [hLl] at this
    have cH : ∀ (B : Hp) (M : List (Option Ob)) (ja jc : Nat), M[ja]? = some (obA (mkAs l.length 1)) → M[jc]? = some (obC (mkCs l.length (1 + 2 * l.length))) → AFn Try.prog w0 12 #[.agg (wlC (some ⟨nid B ja, 0, some (l.length * 2)⟩) l.length (some ⟨nid B jc, 0, some (l.length * 5)⟩) l.length).toArray, .int .i64 1] (Hx B M) fun v H2 => v = .int .i64 ((1 + 2 * l.length + 3 * l.length : Nat) : Int) ∧ H2 = Hx B M := fun B M ja jc h1 h2 => by
      have q1 := Sl_own (w0 := w0) alen _ _ B M ja h1
      have q2 := Sl_own (w0 := w0) clen _ _ B M jc h2
      rw [mkAs_len] at q1
      rw [mkCs_len] at q2
      exact heldWorld_ok w0 _ _ _ l.length l.length 1 q1 q2 (by omega) (by omega) (by omega)
    have cK : ∀ (B : Hp) (M : List (Option Ob)) (j : Nat), M[j]? = some (obA l) → AFn Try.prog w0 10 #[.slice (some ⟨nid B j, 0, some (l.length * 2)⟩) l.length l.length, .int .i64 1] (Hx B M) fun v H2 => v = .int .i64 ((1 + 2 * l.length : Nat) : Int) ∧ H2 = Hx B (M.set j (obA (mkAs l.length 1))) := fun B M j h => markAccountS_ok w0 B M j l l.length 1 h hl (by omega)
    have oc : ∀ l, obA l = some (Ob.row 43 (flat Ac.enc l)) := fun l => rfl
    simp only [wlC, svC, List.cons_append, List.nil_append] at cS cI cE cM cH
    refine call_eq (cT _) ?_
    simp only [go_sem, cond, Nat.reduceAdd, Nat.reduceLeDiff, Nat.reduceEqDiff, Nat.reduceBEq, decide_true, decide_false, Int.toNat_natCast, r, hb, gi, si, si0, wlC, svC, zW, List.set_cons_zero, List.set_cons_succ, List.set_set, List.length_set, List.append_assoc, List.length_append, List.length_cons, List.length_nil, Nat.zero_add, List.singleton_append, List.cons_append, List.nil_append, beq_self_eq_true, z0, z1, z2, z3]
    refine call_eq (cS _ _ (cc _ _ _ rfl)) ?_
    simp only [go_sem, cond, Nat.reduceAdd, Nat.reduceLeDiff, Nat.reduceEqDiff, Nat.reduceBEq, decide_true, decide_false, Int.toNat_natCast, r, hb, gi, si, si0, wlC, svC, zW, List.set_cons_zero, List.set_cons_succ, List.set_set, List.length_set, List.append_assoc, List.length_append, List.length_cons, List.length_nil, Nat.zero_add, List.singleton_append, List.cons_append, List.nil_append, beq_self_eq_true, z0, z1, z2, z3]
    refine call_eq (cT _) ?_
    simp only [go_sem, cond, Nat.reduceAdd, Nat.reduceLeDiff, Nat.reduceEqDiff, Nat.reduceBEq, decide_true, decide_false, Int.toNat_natCast, r, hb, gi, si, si0, wlC, svC, zW, List.set_cons_zero, List.set_cons_succ, List.set_set, List.length_set, List.append_assoc, List.length_append, List.length_cons, List.length_nil, Nat.zero_add, List.singleton_append, List.cons_append, List.nil_append, beq_self_eq_true, z0, z1, z2, z3]
    refine call_eq (cI _ _ (cc _ _ _ rfl)) ?_
    simp only [go_sem, cond, Nat.reduceAdd, Nat.reduceLeDiff, Nat.reduceEqDiff, Nat.reduceBEq, decide_true, decide_false, Int.toNat_natCast, r, hb, gi, si, si0, wlC, svC, zW, List.set_cons_zero, List.set_cons_succ, List.set_set, List.length_set, List.append_assoc, List.length_append, List.length_cons, List.length_nil, Nat.zero_add, List.singleton_append, List.cons_append, List.nil_append, beq_self_eq_true, z0, z1, z2, z3]
    refine call_eq (cE _ _ _ _ _ (cX _ _ _ rfl) (cX _ _ _ rfl) (cY _ _ _ rfl) (cY _ _ _ rfl)) ?_
    simp only [go_sem, cond, Nat.reduceAdd, Nat.reduceLeDiff, Nat.reduceEqDiff, Nat.reduceBEq, decide_true, decide_false, Int.toNat_natCast, r, hb, gi, si, si0, wlC, svC, zW, List.set_cons_zero, List.set_cons_succ, List.set_set, List.length_set, List.append_assoc, List.length_append, List.length_cons, List.length_nil, Nat.zero_add, List.singleton_append, List.cons_append, List.nil_append, beq_self_eq_true, z0, z1, z2, z3]
    refine call_eq (cT _) ?_
    simp only [go_sem, cond, Nat.reduceAdd, Nat.reduceLeDiff, Nat.reduceEqDiff, Nat.reduceBEq, decide_true, decide_false, Int.toNat_natCast, r, hb, gi, si, si0, wlC, svC, zW, List.set_cons_zero, List.set_cons_succ, List.set_set, List.length_set, List.append_assoc, List.length_append, List.length_cons, List.length_nil, Nat.zero_add, List.singleton_append, List.cons_append, List.nil_append, beq_self_eq_true, z0, z1, z2, z3]
    refine call_eq (eqAccountS_ok w0 _ _ _ _ _ l (cX _ _ _ rfl) (cX _ _ _ rfl) (by omega)) ?_
    simp only [go_sem, cond, Nat.reduceAdd, Nat.reduceLeDiff, Nat.reduceEqDiff, Nat.reduceBEq, decide_true, decide_false, Int.toNat_natCast, r, hb, gi, si, si0, wlC, svC, zW, List.set_cons_zero, List.set_cons_succ, List.set_set, List.length_set, List.append_assoc, List.length_append, List.length_cons, List.length_nil, Nat.zero_add, List.singleton_append, List.cons_append, List.nil_append, beq_self_eq_true, z0, z1, z2, z3]
    refine call_eq (cK _ _ _ rfl) ?_
    simp only [go_sem, cond, Nat.reduceAdd, Nat.reduceLeDiff, Nat.reduceEqDiff, Nat.reduceBEq, decide_true, decide_false, Int.toNat_natCast, r, hb, gi, si, si0, wlC, svC, zW, List.set_cons_zero, List.set_cons_succ, List.set_set, List.length_set, List.append_assoc, List.length_append, List.length_cons, List.length_nil, Nat.zero_add, List.singleton_append, List.cons_append, List.nil_append, beq_self_eq_true, z0, z1, z2, z3]
    refine call_eq (cE _ _ _ _ _ (cX _ _ _ rfl) (cX _ _ _ rfl) (cY _ _ _ rfl) (cY _ _ _ rfl)) ?_
    simp only [go_sem, cond, Nat.reduceAdd, Nat.reduceLeDiff, Nat.reduceEqDiff, Nat.reduceBEq, decide_true, decide_false, Int.toNat_natCast, r, hb, gi, si, si0, wlC, svC, zW, List.set_cons_zero, List.set_cons_succ, List.set_set, List.length_set, List.append_assoc, List.length_append, List.length_cons, List.length_nil, Nat.zero_add, List.singleton_append, List.cons_append, List.nil_append, beq_self_eq_true, z0, z1, z2, z3]
    refine call (cM _ _ _ _ rfl rfl (by decide)) ?_
    rintro v H2 ⟨rfl, G, rfl⟩
    simp only [go_sem, cond, Nat.reduceAdd, Nat.reduceLeDiff, Nat.reduceEqDiff, Nat.reduceBEq, decide_true, decide_false, Int.toNat_natCast, r, hb, gi, si, si0, wlC, svC, zW, List.set_cons_zero, List.set_cons_succ, List.set_set, List.length_set, List.append_assoc, List.length_append, List.length_cons, List.length_nil, Nat.zero_add, List.singleton_append, List.cons_append, List.nil_append, beq_self_eq_true, z0, z1, z2, z3]
    refine call_eq (cH _ _ _ _ rfl rfl) ?_
    simp only [go_sem, cond, Nat.reduceAdd, Nat.reduceLeDiff, Nat.reduceEqDiff, Nat.reduceBEq, decide_true, decide_false, Int.toNat_natCast, r, hb, gi, si, si0, wlC, svC, zW, List.set_cons_zero, List.set_cons_succ, List.set_set, List.length_set, List.append_assoc, List.length_append, List.length_cons, List.length_nil, Nat.zero_add, List.singleton_append, List.cons_append, List.nil_append, beq_self_eq_true, z0, z1, z2, z3]
    refine call_eq (cT _) ?_
    simp only [go_sem, cond, Nat.reduceAdd, Nat.reduceLeDiff, Nat.reduceEqDiff, Nat.reduceBEq, decide_true, decide_false, Int.toNat_natCast, r, hb, gi, si, si0, wlC, svC, zW, List.set_cons_zero, List.set_cons_succ, List.set_set, List.length_set, List.append_assoc, List.length_append, List.length_cons, List.length_nil, Nat.zero_add, List.singleton_append, List.cons_append, List.nil_append, beq_self_eq_true, z0, z1, z2, z3]
    refine call_eq (cI _ _ (cc _ _ _ (by first | rfl | (simp only [List.getElem?_cons_succ, List.getElem?_cons_zero, Nat.add_zero, gi, hb, List.append_assoc, List.singleton_append, List.cons_append, List.nil_append]; try rfl)))) ?_
    simp only [go_sem, cond, Nat.reduceAdd, Nat.reduceLeDiff, Nat.reduceEqDiff, Nat.reduceBEq, decide_true, decide_false, Int.toNat_natCast, r, hb, gi, si, si0, wlC, svC, zW, List.set_cons_zero, List.set_cons_succ, List.set_set, List.length_set, List.append_assoc, List.length_append, List.length_cons, List.length_nil, Nat.zero_add, List.singleton_append, List.cons_append, List.nil_append, beq_self_eq_true, z0, z1, z2, z3]
    refine call_eq (cE _ _ _ _ _ (cX _ _ _ (by first | rfl | (simp only [List.getElem?_cons_succ, List.getElem?_cons_zero, Nat.add_zero, gi, hb, List.append_assoc, List.singleton_append, List.cons_append, List.nil_append]; try rfl))) (cX _ _ _ (by first | rfl | (simp only [List.getElem?_cons_succ, List.getElem?_cons_zero, Nat.add_zero, gi, hb, List.append_assoc, List.singleton_append, List.cons_append, List.nil_append]; try rfl))) (cY _ _ _ (by first | rfl | (simp only [List.getElem?_cons_succ, List.getElem?_cons_zero, Nat.add_zero, gi, hb, List.append_assoc, List.singleton_append, List.cons_append, List.nil_append]; try rfl))) (cY _ _ _ (by first | rfl | (simp only [List.getElem?_cons_succ, List.getElem?_cons_zero, Nat.add_zero, gi, hb, List.append_assoc, List.singleton_append, List.cons_append, List.nil_append]; try rfl)))) ?_
    simp only [go_sem, cond, Nat.reduceAdd, Nat.reduceLeDiff, Nat.reduceEqDiff, Nat.reduceBEq, decide_true, decide_false, Int.toNat_natCast, r, hb, gi, si, si0, wlC, svC, zW, List.set_cons_zero, List.set_cons_succ, List.set_set, List.length_set, List.append_assoc, List.length_append, List.length_cons, List.length_nil, Nat.zero_add, List.singleton_append, List.cons_append, List.nil_append, beq_self_eq_true, z0, z1, z2, z3]
    refine call_eq (cH _ _ _ _ (by first | rfl | (simp only [List.getElem?_cons_succ, List.getElem?_cons_zero, Nat.add_zero, gi, hb, List.append_assoc, List.singleton_append, List.cons_append, List.nil_append]; try rfl)) (by first | rfl | (simp only [List.getElem?_cons_succ, List.getElem?_cons_zero, Nat.add_zero, gi, hb, List.append_assoc, List.singleton_append, List.cons_append, List.nil_append]; try rfl))) ?_
    simp only [go_sem, cond, Nat.reduceAdd, Nat.reduceLeDiff, Nat.reduceEqDiff, Nat.reduceBEq, decide_true, decide_false, Int.toNat_natCast, r, hb, gi, si, si0, wlC, svC, zW, List.set_cons_zero, List.set_cons_succ, List.set_set, List.length_set, List.append_assoc, List.length_append, List.length_cons, List.length_nil, Nat.zero_add, List.singleton_append, List.cons_append, List.nil_append, beq_self_eq_true, z0, z1, z2, z3]
    exact ⟨_, rfl⟩
  · have hA' : acB l = false := by simpa using hA
    have cS := fun (H : Hp) (A : Option Addr) (hs : Sl w0 H A 2 (l.map Ac.enc)) => WorldNewS_no w0 H A l.length l hA' hs (by omega) hbe
    have cI := fun (H : Hp) (A : Option Addr) (hs : Sl w0 H A 2 (l.map Ac.enc)) => WorldNewI_no w0 H A l.length l hA' hs (by omega) hbe
    have cE : ∀ (H : Hp), AFn Try.prog w0 8 #[.agg (wlC none 0 none 0).toArray, .agg (wlC none 0 none 0).toArray] H fun v H2 => v = .bool true ∧ H2 = H := fun H => eqWorld_ok w0 H [] [] none none none none (.inl rfl) (.inl rfl) (.inl rfl) (.inl rfl) (by decide) (by decide)
    have cM := fun (H : Hp) => markWorld_no w0 H 1
    have cH : ∀ (H : Hp), AFn Try.prog w0 12 #[.agg (wlC none 0 none 0).toArray, .int .i64 (1 : Nat)] H fun v H2 => v = .int .i64 ((1 : Nat) : Int) ∧ H2 = H := fun H => heldWorld_ok w0 H none none 0 0 1 (.inl rfl) (.inl rfl) (by decide) (by decide) (by decide)
    have cK : ∀ (B : Hp) (M : List (Option Ob)) (j : Nat), M[j]? = some (obA l) → AFn Try.prog w0 10 #[.slice (some ⟨nid B j, 0, some (l.length * 2)⟩) l.length l.length, .int .i64 1] (Hx B M) fun v H2 => v = .int .i64 ((1 + 2 * l.length : Nat) : Int) ∧ H2 = Hx B (M.set j (obA (mkAs l.length 1))) := fun B M j h => markAccountS_ok w0 B M j l l.length 1 h hl (by omega)
    simp only [zW, wlC, svC, List.cons_append, List.nil_append] at cS cI cE cM cH
    refine call_eq (cT _) ?_
    simp only [go_sem, cond, Nat.reduceAdd, Nat.reduceLeDiff, Nat.reduceEqDiff, Nat.reduceBEq, decide_true, decide_false, Int.toNat_natCast, r, hb, gi, si, si0, wlC, svC, zW, List.set_cons_zero, List.set_cons_succ, List.set_set, List.length_set, List.append_assoc, List.length_append, List.length_cons, List.length_nil, Nat.zero_add, List.singleton_append, List.cons_append, List.nil_append, beq_self_eq_true, z0, z1, z2, z3]
    refine call_eq (cS _ _ (cX _ _ _ (by first | rfl | (simp only [List.getElem?_cons_succ, List.getElem?_cons_zero, Nat.add_zero, gi, hb, List.append_assoc, List.singleton_append, List.cons_append, List.nil_append]; try rfl)))) ?_
    simp only [go_sem, cond, Nat.reduceAdd, Nat.reduceLeDiff, Nat.reduceEqDiff, Nat.reduceBEq, decide_true, decide_false, Int.toNat_natCast, r, hb, gi, si, si0, wlC, svC, zW, List.set_cons_zero, List.set_cons_succ, List.set_set, List.length_set, List.append_assoc, List.length_append, List.length_cons, List.length_nil, Nat.zero_add, List.singleton_append, List.cons_append, List.nil_append, beq_self_eq_true, z0, z1, z2, z3]
    refine call_eq (cT _) ?_
    simp only [go_sem, cond, Nat.reduceAdd, Nat.reduceLeDiff, Nat.reduceEqDiff, Nat.reduceBEq, decide_true, decide_false, Int.toNat_natCast, r, hb, gi, si, si0, wlC, svC, zW, List.set_cons_zero, List.set_cons_succ, List.set_set, List.length_set, List.append_assoc, List.length_append, List.length_cons, List.length_nil, Nat.zero_add, List.singleton_append, List.cons_append, List.nil_append, beq_self_eq_true, z0, z1, z2, z3]
    refine call_eq (cI _ _ (cX _ _ _ (by first | rfl | (simp only [List.getElem?_cons_succ, List.getElem?_cons_zero, Nat.add_zero, gi, hb, List.append_assoc, List.singleton_append, List.cons_append, List.nil_append]; try rfl)))) ?_
    simp only [go_sem, cond, Nat.reduceAdd, Nat.reduceLeDiff, Nat.reduceEqDiff, Nat.reduceBEq, decide_true, decide_false, Int.toNat_natCast, r, hb, gi, si, si0, wlC, svC, zW, List.set_cons_zero, List.set_cons_succ, List.set_set, List.length_set, List.append_assoc, List.length_append, List.length_cons, List.length_nil, Nat.zero_add, List.singleton_append, List.cons_append, List.nil_append, beq_self_eq_true, z0, z1, z2, z3]
    refine call_eq (cE _) ?_
    simp only [go_sem, cond, Nat.reduceAdd, Nat.reduceLeDiff, Nat.reduceEqDiff, Nat.reduceBEq, decide_true, decide_false, Int.toNat_natCast, r, hb, gi, si, si0, wlC, svC, zW, List.set_cons_zero, List.set_cons_succ, List.set_set, List.length_set, List.append_assoc, List.length_append, List.length_cons, List.length_nil, Nat.zero_add, List.singleton_append, List.cons_append, List.nil_append, beq_self_eq_true, z0, z1, z2, z3]
    refine call_eq (cT _) ?_
    simp only [go_sem, cond, Nat.reduceAdd, Nat.reduceLeDiff, Nat.reduceEqDiff, Nat.reduceBEq, decide_true, decide_false, Int.toNat_natCast, r, hb, gi, si, si0, wlC, svC, zW, List.set_cons_zero, List.set_cons_succ, List.set_set, List.length_set, List.append_assoc, List.length_append, List.length_cons, List.length_nil, Nat.zero_add, List.singleton_append, List.cons_append, List.nil_append, beq_self_eq_true, z0, z1, z2, z3]
    refine call_eq (eqAccountS_ok w0 _ _ _ _ _ l (cX _ _ _ (by first | rfl | (simp only [List.getElem?_cons_succ, List.getElem?_cons_zero, Nat.add_zero, gi, hb, List.append_assoc, List.singleton_append, List.cons_append, List.nil_append]; try rfl))) (cX _ _ _ (by first | rfl | (simp only [List.getElem?_cons_succ, List.getElem?_cons_zero, Nat.add_zero, gi, hb, List.append_assoc, List.singleton_append, List.cons_append, List.nil_append]; try rfl))) (by omega)) ?_
    simp only [go_sem, cond, Nat.reduceAdd, Nat.reduceLeDiff, Nat.reduceEqDiff, Nat.reduceBEq, decide_true, decide_false, Int.toNat_natCast, r, hb, gi, si, si0, wlC, svC, zW, List.set_cons_zero, List.set_cons_succ, List.set_set, List.length_set, List.append_assoc, List.length_append, List.length_cons, List.length_nil, Nat.zero_add, List.singleton_append, List.cons_append, List.nil_append, beq_self_eq_true, z0, z1, z2, z3]
    refine call_eq (cK _ _ _ (by first | rfl | (simp only [List.getElem?_cons_succ, List.getElem?_cons_zero, Nat.add_zero, gi, hb, List.append_assoc, List.singleton_append, List.cons_append, List.nil_append]; try rfl))) ?_
    simp only [go_sem, cond, Nat.reduceAdd, Nat.reduceLeDiff, Nat.reduceEqDiff, Nat.reduceBEq, decide_true, decide_false, Int.toNat_natCast, r, hb, gi, si, si0, wlC, svC, zW, List.set_cons_zero, List.set_cons_succ, List.set_set, List.length_set, List.append_assoc, List.length_append, List.length_cons, List.length_nil, Nat.zero_add, List.singleton_append, List.cons_append, List.nil_append, beq_self_eq_true, z0, z1, z2, z3]
    refine call_eq (cE _) ?_
    simp only [go_sem, cond, Nat.reduceAdd, Nat.reduceLeDiff, Nat.reduceEqDiff, Nat.reduceBEq, decide_true, decide_false, Int.toNat_natCast, r, hb, gi, si, si0, wlC, svC, zW, List.set_cons_zero, List.set_cons_succ, List.set_set, List.length_set, List.append_assoc, List.length_append, List.length_cons, List.length_nil, Nat.zero_add, List.singleton_append, List.cons_append, List.nil_append, beq_self_eq_true, z0, z1, z2, z3]
    refine call_eq (cM _) ?_
    simp only [go_sem, cond, Nat.reduceAdd, Nat.reduceLeDiff, Nat.reduceEqDiff, Nat.reduceBEq, decide_true, decide_false, Int.toNat_natCast, r, hb, gi, si, si0, wlC, svC, zW, List.set_cons_zero, List.set_cons_succ, List.set_set, List.length_set, List.append_assoc, List.length_append, List.length_cons, List.length_nil, Nat.zero_add, List.singleton_append, List.cons_append, List.nil_append, beq_self_eq_true, z0, z1, z2, z3]
    refine call_eq (cH _) ?_
    simp only [go_sem, cond, Nat.reduceAdd, Nat.reduceLeDiff, Nat.reduceEqDiff, Nat.reduceBEq, decide_true, decide_false, Int.toNat_natCast, r, hb, gi, si, si0, wlC, svC, zW, List.set_cons_zero, List.set_cons_succ, List.set_set, List.length_set, List.append_assoc, List.length_append, List.length_cons, List.length_nil, Nat.zero_add, List.singleton_append, List.cons_append, List.nil_append, beq_self_eq_true, z0, z1, z2, z3]
    refine call_eq (cT _) ?_
    simp only [go_sem, cond, Nat.reduceAdd, Nat.reduceLeDiff, Nat.reduceEqDiff, Nat.reduceBEq, decide_true, decide_false, Int.toNat_natCast, r, hb, gi, si, si0, wlC, svC, zW, List.set_cons_zero, List.set_cons_succ, List.set_set, List.length_set, List.append_assoc, List.length_append, List.length_cons, List.length_nil, Nat.zero_add, List.singleton_append, List.cons_append, List.nil_append, beq_self_eq_true, z0, z1, z2, z3]
    refine call_eq (cI _ _ (cX _ _ _ (by first | rfl | (simp only [List.getElem?_cons_succ, List.getElem?_cons_zero, Nat.add_zero, gi, hb, List.append_assoc, List.singleton_append, List.cons_append, List.nil_append]; try rfl)))) ?_
    simp only [go_sem, cond, Nat.reduceAdd, Nat.reduceLeDiff, Nat.reduceEqDiff, Nat.reduceBEq, decide_true, decide_false, Int.toNat_natCast, r, hb, gi, si, si0, wlC, svC, zW, List.set_cons_zero, List.set_cons_succ, List.set_set, List.length_set, List.append_assoc, List.length_append, List.length_cons, List.length_nil, Nat.zero_add, List.singleton_append, List.cons_append, List.nil_append, beq_self_eq_true, z0, z1, z2, z3]
    refine call_eq (cE _) ?_
    simp only [go_sem, cond, Nat.reduceAdd, Nat.reduceLeDiff, Nat.reduceEqDiff, Nat.reduceBEq, decide_true, decide_false, Int.toNat_natCast, r, hb, gi, si, si0, wlC, svC, zW, List.set_cons_zero, List.set_cons_succ, List.set_set, List.length_set, List.append_assoc, List.length_append, List.length_cons, List.length_nil, Nat.zero_add, List.singleton_append, List.cons_append, List.nil_append, beq_self_eq_true, z0, z1, z2, z3]
    refine call_eq (cH _) ?_
    simp only [go_sem, cond, Nat.reduceAdd, Nat.reduceLeDiff, Nat.reduceEqDiff, Nat.reduceBEq, decide_true, decide_false, Int.toNat_natCast, r, hb, gi, si, si0, wlC, svC, zW, List.set_cons_zero, List.set_cons_succ, List.set_set, List.length_set, List.append_assoc, List.length_append, List.length_cons, List.length_nil, Nat.zero_add, List.singleton_append, List.cons_append, List.nil_append, beq_self_eq_true, z0, z1, z2, z3]
    exact ⟨_, rfl⟩
end Go.Proofs.YtcmflpdgfddmeaaW.FA

namespace Go.Proofs.YtcmflpdgfddmeaaW.XRA
open Go.ChangeShapes Go.WideShapes Go.ChangeAt Go.RowKit Go.Deep Go.Proofs.YtcmflpdgfddmeaaW.XM
/-- Cells that read as a datum of type T are a value of a kind. -/
def ReadsA (P : Program) {α : Type} (enc : α → List Value) (T : TypeId) (Q : α → Prop) : Prop :=
  ∀ (H : Type) (en : TypeId × Value → H) (w : World) (base : Nat) (spare : Nat → Bool) (held : Bool) (fuel : Nat) (cs : List Value) (x : DataW H × List MemPlace),
    DataW.trod en P w base spare held fuel T cs = some x → ∃ v : α, cs = enc v ∧ Q v
section
variable {P : Program}
theorem ra_str {T : TypeId} (h : P.underlying T = some .string) : ReadsA P (fun s : ByteArray => [.string s]) T (fun s => s.size ≤ maxLen) := by
  intro H enc w base spare held fuel cs x hx
  obtain ⟨s, rfl, _, hs⟩ := DataW.trod_string h hx
  exact ⟨s, rfl, hs⟩
/-- A struct's cells, field by field. -/
theorem struct_readA {fs : Array Field} {T : TypeId} (hT : P.underlying T = some (.struct fs)) {H : Type} {enc : TypeId × Value → H} {w : World} {base : Nat} {spare : Nat → Bool} {held : Bool} {fuel : Nat} {cs : List Value} {x : DataW H × List MemPlace}
    (h : DataW.trod enc P w base spare held fuel T cs = some x) :
    cs.length = P.cellsOf T ∧ ∃ n, ∀ (i : Nat) (ft off m : Nat) (l : List Value), fs[i]?.map (fun f => (f.type, f.offset)) = some (ft, off) → P.cellsOf ft = m → (cs.drop off).take m = l → ∃ y, DataW.trod enc P w base spare held n ft l = some y := by
  obtain ⟨xs, n, _, _, hl, hlen, hf⟩ := DataW.trod_struct hT h
  refine ⟨hl, n, fun i ft off m l hi hm hl2 => ?_⟩
  obtain ⟨f, h1, h2⟩ := Option.map_eq_some_iff.1 hi
  have hlt : i < xs.length := by
    have := (Array.getElem?_eq_some_iff.1 h1).1
    omega
  simp only [Prod.mk.injEq] at h2
  obtain ⟨h3, h4⟩ := h2
  have := hf i f h1
  rw [h3, h4, hm, hl2] at this
  exact ⟨xs[i], by rw [this]; exact List.getElem?_eq_getElem hlt⟩
theorem cells_eachA {w : World} {base : Nat} {a : Addr} {n : Nat} {cs : List Value} (h : w.cells? base a n = some cs) : cs.length = n ∧ ∀ i u, cs[i]? = some u → w.cell? (a.add i) = some u := by
  unfold World.cells? at h
  split at h
  · have hl : cs.length = n := by simpa using Lib.mapM_length h
    refine ⟨hl, fun i u hu => ?_⟩
    have hi : i < n := by
      have := (List.getElem?_eq_some_iff.1 hu).1
      omega
    obtain ⟨b, hb, hf⟩ := Lib.mapM_at h i i (by simp [hi])
    rw [hu] at hb
    cases hb
    exact hf
  · cases h
theorem rdRo_cells {w : World} {b : Nat} : ∀ (cs : List Value) (o : Nat), (∀ (j : Nat) (u : Value), cs[j]? = some u → w.cell? ⟨b, o + j, none⟩ = some u) → (∀ v ∈ cs, (plain v && v.oneCell') = true) → rdRo w b o cs.length = some cs
  | [], _, _, _ => rfl
  | c :: r, o, h1, h2 => by
    have h0 := h1 0 c rfl
    rw [Nat.add_zero] at h0
    simp only [List.length_cons, rdRo, h0, h2 c List.mem_cons_self, if_true]
    rw [rdRo_cells r (o + 1) (fun j u hj => by rw [show o + 1 + j = o + (j + 1) by omega]; exact h1 (j + 1) u (by simpa using hj)) (fun v hv => h2 v (List.mem_cons_of_mem _ hv))]
    rfl
theorem choose_ltA {α : Type} [Inhabited α] {n : Nat} {p : Nat → α → Prop} (h : ∀ i, i < n → ∃ v, p i v) : ∃ f : Nat → α, ∀ i, i < n → p i (f i) := by
  induction n with
  | zero => exact ⟨fun _ => default, fun i hi => by omega⟩
  | succ n ih =>
    obtain ⟨f, hf⟩ := ih fun i hi => h i (by omega)
    obtain ⟨v, hv⟩ := h n (by omega)
    refine ⟨fun i => if i = n then v else f i, fun i hi => ?_⟩
    by_cases e : i = n
    · subst e; simpa using hv
    · simp only [if_neg e]; exact hf i (by omega)
/-- A slice that reads as data: its rows. -/
theorem slice_readA {α : Type} [Inhabited α] {enc : α → List Value} {T e : TypeId} {Q : α → Prop} {sz : Nat} (hR : ReadsA P enc e Q) (hT : P.underlying T = some (.slice e)) (hc : P.cellsOf e = sz) (hz : ∀ a, (enc a).length = sz) (h0 : 0 < sz) (hp : ∀ a, ∀ v ∈ enc a, (plain v && v.oneCell') = true)
    {H : Type} {en : TypeId × Value → H} {w : World} {base : Nat} {spare : Nat → Bool} {held : Bool} {fuel : Nat} {u : Value} {x : DataW H × List MemPlace}
    (h : DataW.trod en P w base spare held fuel T [u] = some x) (hs : ∀ a n c, u = .slice (some a) n c → a.spot = none) :
    ∃ (A : Option Addr) (c : Nat) (l : List α), u = .slice A l.length c ∧ l.length ≤ c ∧ l.length ≤ maxLen ∧ (∀ v ∈ l, Q v) ∧ plain (.slice A l.length c) = true ∧ (A = none ∧ l = [] ∨ ∃ b o, A = some ⟨b, o, none⟩ ∧ rdRo w b o (l.length * sz) = some (flat enc l)) := by
  rcases open_slice hT h with ⟨hcs, _⟩ | ⟨a, len, cap, m, _, D, Pl, hcs, hb, hl, hm, hmm, _, hx⟩
  · obtain rfl : u = .slice none 0 0 := by simpa using hcs
    exact ⟨none, 0, [], rfl, Nat.le_refl _, Nat.zero_le _, fun v hv => (by cases hv), rfl, .inl ⟨rfl, rfl⟩⟩
  · obtain rfl : u = .slice (some a) len cap := by simpa using hcs
    have hsp := hs a len cap rfl
    obtain ⟨b, o, sp⟩ := a
    simp only at hsp
    subst hsp
    have hlm : len ≤ m := by rw [hmm]; split <;> omega
    obtain ⟨f, hf⟩ := choose_ltA (α := α) (n := len) (p := fun i v => Q v ∧ ∀ j c, (enc v)[j]? = some c → w.cell? ⟨b, o + i * sz + j, none⟩ = some c) (fun i hi => by
      obtain ⟨cs', h1, h2⟩ := hx i (by omega)
      obtain ⟨v, rfl, hQ⟩ := hR _ _ _ _ _ _ _ _ _ h2
      rw [hc] at h1
      obtain ⟨hlen, hcell⟩ := cells_eachA h1
      refine ⟨v, hQ, fun j c hj => ?_⟩
      have := hcell j c hj
      rw [Addr.add_add, add_at' _ _ rfl] at this
      rw [show o + i * sz + j = o + (i * sz + j) by omega]
      exact this)
    refine ⟨some ⟨b, o, none⟩, cap, (List.range len).map f, by simp, by simpa using hl, by simp; omega, fun v hv => ?_, rfl, .inr ⟨b, o, rfl, ?_⟩⟩
    · obtain ⟨i, hi, rfl⟩ := List.mem_map.1 hv
      exact (hf i (List.mem_range.1 hi)).1
    · have hL := flat_len hz ((List.range len).map f)
      rw [← hL]
      refine rdRo_cells _ o (fun q c hq => ?_) (fun v hv => ?_)
      · have hq' := lt_of_get hq
        rw [hL] at hq'
        simp only [List.length_map, List.length_range] at hq'
        have hi : q / sz < len := (Nat.div_lt_iff_lt_mul h0).2 hq'
        have hr : q % sz < sz := Nat.mod_lt _ h0
        have e1 : q = q / sz * sz + q % sz := by rw [Nat.mul_comm]; exact (Nat.div_add_mod q sz).symm
        have e2 := flat_row hz ((List.range len).map f) (i := q / sz) (by simpa using hi) (q % sz) 1 (by omega)
        rw [← e1] at e2
        have e3 : (flat enc ((List.range len).map f))[q]? = (((flat enc ((List.range len).map f)).drop q).take 1)[0]? := by
          rw [List.getElem?_take, if_pos (by omega), List.getElem?_drop, Nat.add_zero]
        rw [e3, e2, List.getElem?_take, if_pos (by omega), List.getElem?_drop, Nat.add_zero] at hq
        simp only [List.getElem_map, List.getElem_range] at hq
        have := (hf (q / sz) hi).2 (q % sz) c hq
        rw [show o + q / sz * sz + q % sz = o + q by omega] at this
        exact this
      · unfold flat at hv
        obtain ⟨r, hr, h2⟩ := List.mem_flatten.1 hv
        obtain ⟨a, _, rfl⟩ := List.mem_map.1 hr
        exact hp a v h2
/-- What the call's memory says of such a slice. -/
theorem sl_of {α : Type} {enc : α → List Value} {sz : Nat} (hz : ∀ a, (enc a).length = sz) {w : World} {A : Option Addr} {l : List α} (h : A = none ∧ l = [] ∨ ∃ b o, A = some ⟨b, o, none⟩ ∧ rdRo w b o (l.length * sz) = some (flat enc l)) (H : Hp) : Sl w H A sz (l.map enc) ∧ ∀ L c, src w (Hx H L) sz (.slice A l.length c) = some (l.length, flat enc l) := by
  rcases h with ⟨rfl, rfl⟩ | ⟨b, o, rfl, h⟩
  · exact ⟨.inl rfl, fun L c => rfl⟩
  · refine ⟨.inr ⟨b, o, none, rfl, fun i r hr f k hf => ?_⟩, fun L c => ?_⟩
    · have hi : i < l.length := by have := (List.getElem?_eq_some_iff.1 hr).1; simpa using this
      have hle : i * sz + sz ≤ l.length * sz := by rw [← Nat.succ_mul]; exact Nat.mul_le_mul_right _ hi
      have := rdRo_part (l.length * sz) b o (i * sz + f) k _ h (by omega)
      rw [List.getElem?_map, List.getElem?_eq_getElem hi] at hr
      cases hr
      show rdRo w b (o + i * sz + f) k = _
      rw [show o + i * sz + f = o + (i * sz + f) by omega, this, flat_row hz l hi f k hf]
    · rw [src_sl]
      show srcO _ (rdRo w b o (l.length * sz)) = _
      rw [h]
      rfl
end
end Go.Proofs.YtcmflpdgfddmeaaW.XRA

namespace Go.Proofs.YtcmflpdgfddmeaaW.FA
open Go.RowKit Go.ChangeShapes Go.WideShapes Go.ChangeAt Go.Deep Go.Proofs.YtcmflpdgfddmeaaW.XM Go.Proofs Go.Proofs.YtcmflpdgfddmeaaW.XRA
set_option maxRecDepth 100000
set_option linter.unusedVariables false
instance : Inhabited Ac := ⟨⟨em, em⟩⟩
theorem slice_spot {P : Program} {w : World} {base : Nat} {T e : TypeId} {v : Value} (ht : P.underlying T = some (.slice e)) (h : Value.okWide P w .any base T v) : ∀ a n c, v = .slice (some a) n c → a.spot = none := by
  intro a n c hv
  subst hv
  simp only [Value.okWide, ht] at h
  unfold Cell.okWide at h
  split at h <;> first
    | (rename_i h6; cases h6; done)
    | skip
  all_goals first
    | (unfold Cell.ok at h
       split at h <;> first
         | (rename_i h6; cases h6; done)
         | (exact h.elim)
         | (rename_i h6; cases h6; exact h.2.2.2.1)
         | (exact h.2.2.2.1))
    | skip
theorem ac_reads : ReadsA Try.prog Ac.enc 41 (fun s => s.user.size ≤ maxLen ∧ s.pass.size ≤ maxLen) := by
  intro H enc w base spare held fuel cs x hx
  obtain ⟨hl, n, hf⟩ := struct_readA Try.underlying41 hx
  have hlen : cs.length = 2 := hl.trans (by kernel_rfl)
  obtain ⟨u0, u1, rfl⟩ := list_2 cs hlen
  obtain ⟨y0, h0⟩ := hf 0 9 0 1 [u0] rfl (by kernel_rfl) rfl
  obtain ⟨a0, e0, q0⟩ := ra_str Try.underlying9 _ _ _ _ _ _ _ _ _ h0
  obtain rfl : u0 = .string a0 := List.singleton_inj.1 e0
  obtain ⟨y1, h1⟩ := hf 1 9 1 1 [u1] rfl (by kernel_rfl) rfl
  obtain ⟨a1, e1, q1⟩ := ra_str Try.underlying9 _ _ _ _ _ _ _ _ _ h1
  obtain rfl : u1 = .string a1 := List.singleton_inj.1 e1
  exact ⟨⟨a0, a1⟩, rfl, q0, q1⟩
theorem accs_reads {H : Type} {en : TypeId × Value → H} {w : World} {base : Nat} {spare : Nat → Bool} {held : Bool} {fuel : Nat} {u : Value} {x : DataW H × List MemPlace} (h : DataW.trod en Try.prog w base spare held fuel 22 [u] = some x) (hs : ∀ a n c, u = .slice (some a) n c → a.spot = none) : ∃ (A : Option Addr) (c : Nat) (l : List Ac), u = .slice A l.length c ∧ plain (.slice A l.length c) = true ∧ (∀ H, Sl w H A 2 (l.map Ac.enc)) ∧ l.length ≤ 9223372036854775807 ∧ (∀ e ∈ l, WfA e) := by
  have hmx : maxLen = 9223372036854775807 := rfl
  obtain ⟨A, c, l, h1, h2, h3, h4, h5, h6⟩ := slice_readA ac_reads Try.underlying22 (by kernel_rfl) alen (by decide) (fun a v hv => by
    simp only [Ac.enc, List.mem_cons, List.not_mem_nil, or_false] at hv
    rcases hv with rfl | rfl <;> rfl) h hs
  exact ⟨A, c, l, h1, h5, fun H => (sl_of alen h6 H).1, by omega, fun e he => (by have := h4 e he; exact ⟨by omega, by omega⟩)⟩
end Go.Proofs.YtcmflpdgfddmeaaW.FA

