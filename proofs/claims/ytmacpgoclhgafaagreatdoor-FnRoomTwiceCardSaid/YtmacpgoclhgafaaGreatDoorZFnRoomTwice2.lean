/- FnRoomTwice: own words and contracts that the law's proof uses, part 2. No condition of its own. -/
import Derived.Test.YtmacpgoclhgafaaGreatDoorZFnRoomTwice1
import Derived.WalkKit
import Derived.ProofKit
import Derived.OpenShut
import Derived.ShutString
import Derived.ChangeOld
import Derived.DataReads
import Derived.DataElems
import Derived.Deep.Slices
import Derived.Lib.LaidTab
set_option linter.unusedSimpArgs false
set_option linter.unusedVariables false
namespace Go.Proofs.YtmacpgoclhgafaaGreatDoorW.FA
open Go.RowKit Go.Proofs.YtmacpgoclhgafaaGreatDoorW.XM Go.Proofs Go.Proofs.YtmacpgoclhgafaaGreatDoorW.XWords
set_option maxRecDepth 100000
set_option linter.unusedSimpArgs false
variable (w0 : World) (H : Hp)
theorem orEmpty_ok (s : ByteArray) (g : FuncId) (p : ByteArray → Bool) (hg : AFn Tryz.prog w0 g ([] ++ [Value.string s] ++ []).toArray H fun v H2 => v = .bool (p s) ∧ H2 = H) : AFn Tryz.prog w0 37 #[.string s, .func (.func g) #[] #[]] H fun v H2 => v = .bool (orB p s) ∧ H2 = H := by
  rw [← Hx_nil H] at hg
  refine AFn.scal rfl Tryz.func37 rfl (by kernel_rfl) ?_
  have r := Tryz.results37
  simp only [go_sem, cond, Nat.reduceAdd, Nat.reduceLeDiff, Nat.reduceEqDiff, Nat.reduceBEq, decide_true, decide_false, Int.toNat_natCast, r]
  refine Br_intro ?_ ?_ <;> intro h <;> simp only [go_sem, cond, Nat.reduceAdd, Nat.reduceLeDiff, Nat.reduceEqDiff, Nat.reduceBEq, decide_true, decide_false, Int.toNat_natCast, h, r]
  · exact ⟨by simp only [orB, emB, h, Bool.true_or], _, rfl⟩
  · refine call_eq hg ?_
    simp only [go_sem, cond, Nat.reduceAdd, Nat.reduceLeDiff, Nat.reduceEqDiff, Nat.reduceBEq, decide_true, decide_false, Int.toNat_natCast, r]
    exact ⟨by simp only [orB, emB, h, Bool.false_or], _, rfl⟩
theorem RoomOk_ok (R : Rm) (x : Ad) (hT : Tabs w0) (hr : RmAt w0 H R x) (hb : Big R) : AFn Tryz.prog w0 14 #[.agg (R.enc x).toArray] H fun v H2 => v = .bool (roomB R) ∧ H2 = H := by
  obtain ⟨xa, xc, xb, xd⟩ := x
  have hlm := hr.lm
  have hlk := hr.lk
  refine AFn.scal rfl Tryz.func14 rfl (by kernel_rfl) ?_
  have r := Tryz.results14
  simp only [go_sem, cond, Nat.reduceAdd, Nat.reduceLeDiff, Nat.reduceEqDiff, Nat.reduceBEq, decide_true, decide_false, Int.toNat_natCast, r]
  simp only [go_sem, cond, Nat.reduceAdd, Nat.reduceLeDiff, Nat.reduceEqDiff, Nat.reduceBEq, decide_true, decide_false, Int.toNat_natCast, Rm.enc, r]
  refine call_eq (userOk_ok _ _ _ hb.nm) ?_
  simp only [go_sem, cond, Nat.reduceAdd, Nat.reduceLeDiff, Nat.reduceEqDiff, Nat.reduceBEq, decide_true, decide_false, Int.toNat_natCast, r]
  have g5 := gt_nat 5 R.ms.length
  have g6 := gt_nat 6 R.ks.length
  have e5 : ((5 : Nat) : Int) = 5 := rfl
  have e6 : ((6 : Nat) : Int) = 6 := rfl
  rw [e5] at g5
  rw [e6] at g6
  repeat' (first
    | (refine Br_intro ?_ ?_ <;> intro h <;> simp only [go_sem, cond, Nat.reduceAdd, Nat.reduceLeDiff, Nat.reduceEqDiff, Nat.reduceBEq, decide_true, decide_false, Int.toNat_natCast, h, r, g5, g6, gt_iff_lt])
    | (refine call_eq (within_ok _ _ _ _ _) ?_; simp only [go_sem, cond, Nat.reduceAdd, Nat.reduceLeDiff, Nat.reduceEqDiff, Nat.reduceBEq, decide_true, decide_false, Int.toNat_natCast, r, g5, g6, gt_iff_lt])
    | (refine call_eq (orEmpty_ok _ _ _ _ bodyB (bodyOk_ok _ _ _ hT hb.sj)) ?_; simp only [go_sem, cond, Nat.reduceAdd, Nat.reduceLeDiff, Nat.reduceEqDiff, Nat.reduceBEq, decide_true, decide_false, Int.toNat_natCast, r, g5, g6, gt_iff_lt]))
  all_goals first
    | (refine ⟨congrArg Value.bool ?_, _, rfl⟩
       clear hr hb r
       simp only [roomB, *, Bool.true_and, Bool.false_and, Bool.and_true, Bool.and_false]
       done)
    | skip
  rename_i h1 h2 h3 h4
  refine xw_loop (fun (i : Nat) T H' => i ≤ R.ms.length ∧ allI (memB R) (R.ms.drop i) i = allI (memB R) R.ms 0 ∧ T 1 = .pointer (some ⟨nid H 0, 0, some 5⟩) ∧ T 36 = .slice xa R.ms.length xc ∧ T 37 = .int .i64 R.ms.length ∧ T 38 = .int .i64 i ∧ ∃ l, H' = Hx H (some (.row 26 (R.enc ⟨xa, xc, xb, xd⟩)) :: l)) (fun i => R.ms.length - i) 0 (by kernel_rfl) ⟨Nat.zero_le _, rfl, rfl, rfl, rfl, rfl, _, rfl⟩ ?_
  rintro i T H' ⟨hi, he, t1, t36, t37, t38, l, rfl⟩
  rw [← Hx_nil (Hx H _)]
  have c2 := fun L => box_rd (w0 := w0) (H := H) (t := 26) (cs := R.enc ⟨xa, xc, xb, xd⟩) (n := 5) rfl l L (f := 3) (k := 1) (by omega)
  have c5 := fun L => box_rd (w0 := w0) (H := H) (t := 26) (cs := R.enc ⟨xa, xc, xb, xd⟩) (n := 5) rfl l L (f := 0) (k := 5) (by omega)
  have hrB : ∀ L, RmAt w0 (Hx (Hx H (some (.row 26 (R.enc ⟨xa, xc, xb, xd⟩)) :: l)) L) R ⟨xa, xc, xb, xd⟩ := fun L => (hr.old _).old L
  obtain ⟨B, hB⟩ : ∃ B, B = Hx H (some (.row 26 (R.enc ⟨xa, xc, xb, xd⟩)) :: l) := ⟨_, rfl⟩
  rw [← hB] at c2 c5 hrB ⊢
  by_cases hlt : i < R.ms.length
  · obtain ⟨b, o, sp, rfl, _, hc⟩ := mcell (hrB []).sm hlt
    have c0 := hc [] rfl
    rw [Hx_nil] at c0
    have d1 : ((i : Int) < (R.ms.length : Int)) = True := eq_true (by omega)
    have d2 : (0 ≤ (i : Int)) = True := eq_true (by omega)
    rw [allI_drop _ _ i hlt] at he
    simp only [Rm.enc, List.drop_zero, List.drop_succ_cons, List.take_succ_cons, List.take_zero] at c5
    simp only [Mem.enc] at c0
    simp only [go_sem, cond, Nat.reduceAdd, Nat.reduceLeDiff, Nat.reduceEqDiff, Nat.reduceBEq, decide_true, decide_false, Int.toNat_natCast, t1, t36, t37, t38, d1, d2, c0, c5, r]
    repeat' (first
      | (refine Br_intro ?_ ?_ <;> intro h <;> simp only [go_sem, cond, Nat.reduceAdd, Nat.reduceLeDiff, Nat.reduceEqDiff, Nat.reduceBEq, decide_true, decide_false, Int.toNat_natCast, t1, t36, t37, t38, d1, d2, c0, c5, r, h])
      | (refine call_eq (userOk_ok _ _ _ (hb.us i hlt)) ?_; simp only [go_sem, cond, Nat.reduceAdd, Nat.reduceLeDiff, Nat.reduceEqDiff, Nat.reduceBEq, decide_true, decide_false, Int.toNat_natCast, t1, t36, t37, t38, d1, d2, c0, c5, r])
      | (refine call_eq (nickOk_ok _ _ _ hT (hb.ni i hlt)) ?_; simp only [go_sem, cond, Nat.reduceAdd, Nat.reduceLeDiff, Nat.reduceEqDiff, Nat.reduceBEq, decide_true, decide_false, Int.toNat_natCast, t1, t36, t37, t38, d1, d2, c0, c5, r])
      | (refine call_eq (within_ok _ _ _ _ _) ?_; simp only [go_sem, cond, Nat.reduceAdd, Nat.reduceLeDiff, Nat.reduceEqDiff, Nat.reduceBEq, decide_true, decide_false, Int.toNat_natCast, t1, t36, t37, t38, d1, d2, c0, c5, r])
      | (refine call_eq (member_ok _ _ R _ _ (hrB _)) ?_; simp only [go_sem, cond, Nat.reduceAdd, Nat.reduceLeDiff, Nat.reduceEqDiff, Nat.reduceBEq, decide_true, decide_false, Int.toNat_natCast, t1, t36, t37, t38, d1, d2, c0, c5, r])
      | (refine call_eq (nick_ok _ _ R _ _ (hrB _)) ?_; simp only [go_sem, cond, Nat.reduceAdd, Nat.reduceLeDiff, Nat.reduceEqDiff, Nat.reduceBEq, decide_true, decide_false, Int.toNat_natCast, t1, t36, t37, t38, d1, d2, c0, c5, r])
      | (refine call_eq (rank_ok _ _ R _ _ (hrB _)) ?_; simp only [go_sem, cond, Nat.reduceAdd, Nat.reduceLeDiff, Nat.reduceEqDiff, Nat.reduceBEq, decide_true, decide_false, Int.toNat_natCast, t1, t36, t37, t38, d1, d2, c0, c5, r]))
    all_goals first
      | (refine ⟨i + 1, ⟨hlt, ?_, t1, t36, t37, int_succ hlt (by omega), _, by rw [hB, Hx_Hx]; rfl⟩, lt_meas hlt⟩
         rw [← he, show memB R i R.ms[i] = true by simp [memB, *], Bool.true_and])
      | exact ⟨by rw [roomB, ← he, show memB R i R.ms[i] = false by simp [memB, *], Bool.false_and, Bool.false_and, Bool.false_and, Bool.and_false, Bool.and_false, Bool.and_false], _, by rw [hB, Hx_Hx]⟩
  obtain rfl : i = R.ms.length := by omega
  have d1 : ((R.ms.length : Int) < (R.ms.length : Int)) = False := eq_false (by omega)
  rw [List.drop_length] at he
  simp only [Rm.enc, List.drop_zero, List.drop_succ_cons, List.take_succ_cons, List.take_zero] at c2
  simp only [go_sem, cond, Nat.reduceAdd, Nat.reduceLeDiff, Nat.reduceEqDiff, Nat.reduceBEq, decide_true, decide_false, Int.toNat_natCast, t1, t36, t37, t38, d1, c2, r]
  rw [hB, Hx_Hx]
  clear c2 c5 hrB hB t36 t37 t38 d1
  refine xw_loop (fun (i : Nat) T H' => i ≤ R.ks.length ∧ allI (rkB R) (R.ks.drop i) i = allI (rkB R) R.ks 0 ∧ T 1 = .pointer (some ⟨nid H 0, 0, some 5⟩) ∧ T 84 = .slice xb R.ks.length xd ∧ T 85 = .int .i64 R.ks.length ∧ T 86 = .int .i64 i ∧ ∃ l, H' = Hx H (some (.row 26 (R.enc ⟨xa, xc, xb, xd⟩)) :: l)) (fun i => R.ks.length - i) 0 (by kernel_rfl) ⟨Nat.zero_le _, rfl, t1, rfl, rfl, rfl, _, rfl⟩ ?_
  clear t1
  rintro i T H' ⟨hi, he2, t1, t84, t85, t86, l, rfl⟩
  rw [← Hx_nil (Hx H _)]
  have c2 := fun L => box_rd (w0 := w0) (H := H) (t := 26) (cs := R.enc ⟨xa, xc, xb, xd⟩) (n := 5) rfl l L (f := 3) (k := 1) (by omega)
  have c5 := fun L => box_rd (w0 := w0) (H := H) (t := 26) (cs := R.enc ⟨xa, xc, xb, xd⟩) (n := 5) rfl l L (f := 0) (k := 5) (by omega)
  have hrB : ∀ L, RmAt w0 (Hx (Hx H (some (.row 26 (R.enc ⟨xa, xc, xb, xd⟩)) :: l)) L) R ⟨xa, xc, xb, xd⟩ := fun L => (hr.old _).old L
  obtain ⟨B, hB⟩ : ∃ B, B = Hx H (some (.row 26 (R.enc ⟨xa, xc, xb, xd⟩)) :: l) := ⟨_, rfl⟩
  rw [← hB] at c2 c5 hrB ⊢
  by_cases hlt2 : i < R.ks.length
  · obtain ⟨b, o, sp, rfl, hc1, hc⟩ := mrows (hrB []).sk (by omega)
    have c0 := hc i hlt2 [] rfl
    rw [Hx_nil] at c0
    have d1 : ((i : Int) < (R.ks.length : Int)) = True := eq_true (by omega)
    have d2 : (0 ≤ (i : Int)) = True := eq_true (by omega)
    rw [allI_drop _ _ i hlt2] at he2
    simp only [Rm.enc, List.drop_zero, List.drop_succ_cons, List.take_succ_cons, List.take_zero] at c2
    simp only [Rk.enc] at c0
    simp only [go_sem, cond, Nat.reduceAdd, Nat.reduceLeDiff, Nat.reduceEqDiff, Nat.reduceBEq, decide_true, decide_false, Int.toNat_natCast, t1, t84, t85, t86, d1, d2, c0, c2, gt_iff_lt, r]
    (refine xw_open (id := 12) [0, 1, 3, 7, 15, 31, 63, 127, 255, 511, 255, 1279, 4095, 8191, 16383, 255, 33023, 131071, 262143, 524287, 1048575, 2097151, 4194303, 8388607, 16777215, 33554431, 67108863, 134217727, 268435455, 536870911, 1073741823] [.q 0, .q 1, .e 2, .q 3, .q 4, .q 5, .q 6, .q 7, .q 8, .q 10, .q 11, .q 15, .q 9, .q 12, .q 13, .q 14, .q 16, .q 17, .q 18, .q 19, .q 20, .q 21, .q 22, .e 23, .q 24, .q 25, .q 26, .q 27, .q 28, .q 29, .q 30] rfl (by kernel_rfl) ?_; simp only [go_sem, cond, Nat.reduceAdd, Nat.reduceLeDiff, Nat.reduceEqDiff, Nat.reduceBEq, decide_true, decide_false, Int.toNat_natCast, t1, t84, t85, t86, d1, d2, c0, c2, gt_iff_lt, r])
    have hp : (i = 0 ∧ prevB R i R.ks[i].user = true) ∨ ∃ p : Nat, i = p + 1 ∧ ∃ hp : p < R.ks.length, prevB R i R.ks[i].user = Op.bytesLess R.ks[p].user.toList R.ks[i].user.toList ∧ ∀ L, rd w0 (Hx B L) ⟨b, o + p * 2 + 0, sp⟩ 1 = some [.string R.ks[p].user] := by
      cases i with
      | zero => exact .inl ⟨rfl, rfl⟩
      | succ p => exact .inr ⟨p, rfl, by omega, by simp only [prevB]; rw [List.getElem?_eq_getElem (by omega)], fun L => by have := hc1 p (by omega) 0 (.string R.ks[p].user) L (by decide) rfl; rwa [Hx_nil] at this⟩
    rcases hp with ⟨rfl, hp0⟩ | ⟨p, rfl, hpl, hp0, c4⟩
    · have d3 : ((0 : Int) < ((0 : Nat) : Int)) = False := eq_false (by omega)
      repeat' (first
        | (refine Br_intro ?_ ?_ <;> intro h <;> simp only [go_sem, cond, Nat.reduceAdd, Nat.reduceLeDiff, Nat.reduceEqDiff, Nat.reduceBEq, decide_true, decide_false, Int.toNat_natCast, t1, t84, t85, t86, d1, d2, c0, c2, gt_iff_lt, r, d3, h])
        | (refine call_eq (userOk_ok _ _ _ (hb.ku _ hlt2)) ?_; simp only [go_sem, cond, Nat.reduceAdd, Nat.reduceLeDiff, Nat.reduceEqDiff, Nat.reduceBEq, decide_true, decide_false, Int.toNat_natCast, t1, t84, t85, t86, d1, d2, c0, c2, gt_iff_lt, r, d3])
        | (refine call_eq (within_ok _ _ _ _ _) ?_; simp only [go_sem, cond, Nat.reduceAdd, Nat.reduceLeDiff, Nat.reduceEqDiff, Nat.reduceBEq, decide_true, decide_false, Int.toNat_natCast, t1, t84, t85, t86, d1, d2, c0, c2, gt_iff_lt, r, d3]))
      all_goals first
        | (refine ⟨_ + 1, ⟨hlt2, ?_, t1, t84, t85, int_succ hlt2 (by omega), _, by rw [hB, Hx_Hx]; rfl⟩, lt_meas hlt2⟩
           rw [← he2, show rkB R _ _ = true by simp [rkB, *], Bool.true_and])
        | exact ⟨by rw [roomB, ← he2, show rkB R _ _ = false by simp [rkB, *], Bool.false_and, Bool.false_and, Bool.false_and, Bool.and_false, Bool.and_false, Bool.and_false, Bool.and_false], _, by rw [hB, Hx_Hx]⟩
    · have d3 : ((0 : Int) < ((p + 1 : Nat) : Int)) = True := eq_true (by omega)
      have d4 : IntKind.i64.wrap (((p + 1 : Nat) : Int) - 1) = (p : Int) := by rw [wrap_i64 (by omega) (by omega)]; omega
      have d5 : ((p : Int) < (R.ks.length : Int)) = True := eq_true (by omega)
      have d6 : ((0 : Int) ≤ (p : Int)) = True := eq_true (by omega)
      repeat' (first
        | (refine Br_intro ?_ ?_ <;> intro h <;> simp only [go_sem, cond, Nat.reduceAdd, Nat.reduceLeDiff, Nat.reduceEqDiff, Nat.reduceBEq, decide_true, decide_false, Int.toNat_natCast, t1, t84, t85, t86, d1, d2, c0, c2, gt_iff_lt, r, d3, d4, d5, d6, c4, h])
        | (refine call_eq (userOk_ok _ _ _ (hb.ku _ hlt2)) ?_; simp only [go_sem, cond, Nat.reduceAdd, Nat.reduceLeDiff, Nat.reduceEqDiff, Nat.reduceBEq, decide_true, decide_false, Int.toNat_natCast, t1, t84, t85, t86, d1, d2, c0, c2, gt_iff_lt, r, d3, d4, d5, d6, c4])
        | (refine call_eq (within_ok _ _ _ _ _) ?_; simp only [go_sem, cond, Nat.reduceAdd, Nat.reduceLeDiff, Nat.reduceEqDiff, Nat.reduceBEq, decide_true, decide_false, Int.toNat_natCast, t1, t84, t85, t86, d1, d2, c0, c2, gt_iff_lt, r, d3, d4, d5, d6, c4]))
      all_goals first
        | (refine ⟨_ + 1, ⟨hlt2, ?_, t1, t84, t85, int_succ hlt2 (by omega), _, by rw [hB, Hx_Hx]; rfl⟩, lt_meas hlt2⟩
           rw [← he2, show rkB R _ _ = true by simp [rkB, *], Bool.true_and])
        | exact ⟨by rw [roomB, ← he2, show rkB R _ _ = false by simp [rkB, *], Bool.false_and, Bool.false_and, Bool.false_and, Bool.and_false, Bool.and_false, Bool.and_false, Bool.and_false], _, by rw [hB, Hx_Hx]⟩
  obtain rfl : i = R.ks.length := by omega
  have d1 : ((R.ks.length : Int) < (R.ks.length : Int)) = False := eq_false (by omega)
  rw [List.drop_length] at he2
  have f1 := fun L => (box_rd (w0 := w0) (H := H) (t := 26) (cs := R.enc ⟨xa, xc, xb, xd⟩) (n := 5) rfl l L (f := 1) (k := 1) (by omega))
  have f2 := fun L => (box_rd (w0 := w0) (H := H) (t := 26) (cs := R.enc ⟨xa, xc, xb, xd⟩) (n := 5) rfl l L (f := 2) (k := 1) (by omega))
  have f4 := fun L => (box_rd (w0 := w0) (H := H) (t := 26) (cs := R.enc ⟨xa, xc, xb, xd⟩) (n := 5) rfl l L (f := 4) (k := 1) (by omega))
  rw [← hB] at f1 f2 f4
  simp only [Rm.enc, List.drop_zero, List.drop_succ_cons, List.take_succ_cons, List.take_zero] at c2 c5 f1 f2 f4
  simp only [go_sem, cond, Nat.reduceAdd, Nat.reduceLeDiff, Nat.reduceEqDiff, Nat.reduceBEq, decide_true, decide_false, Int.toNat_natCast, t1, t84, t85, t86, d1, c5, r]
  refine call_eq (owners_ok _ _ R _ (hrB _)) ?_
  simp only [go_sem, cond, Nat.reduceAdd, Nat.reduceLeDiff, Nat.reduceEqDiff, Nat.reduceBEq, decide_true, decide_false, Int.toNat_natCast, t1, c2, c5, f1, f2, f4, gt_iff_lt, pos_nat, r]
  repeat' (refine Br_intro ?_ ?_ <;> intro h <;> simp only [go_sem, cond, Nat.reduceAdd, Nat.reduceLeDiff, Nat.reduceEqDiff, Nat.reduceBEq, decide_true, decide_false, Int.toNat_natCast, h, t1, c2, c5, f1, f2, f4, gt_iff_lt, pos_nat, r])
  all_goals refine ⟨congrArg Value.bool ?_, _, by rw [hB, Hx_Hx]⟩
  all_goals simp only [allI] at he he2
  all_goals replace he := he.symm
  all_goals replace he2 := he2.symm
  all_goals clear hr hb r t1 t84 t85 t86 c2 c5 f1 f2 f4 hrB hB
  all_goals simp only [roomB, emB, idleB, *, Bool.true_and, Bool.false_and, Bool.and_true, Bool.and_false, Bool.true_or, Bool.or_true, Bool.false_or, Bool.or_false]
end Go.Proofs.YtmacpgoclhgafaaGreatDoorW.FA

namespace Go.Proofs.YtmacpgoclhgafaaGreatDoorW.FA
open Go.RowKit Go.Proofs.YtmacpgoclhgafaaGreatDoorW.XM Go.Proofs Go.Proofs.YtmacpgoclhgafaaGreatDoorW.XWords
set_option maxRecDepth 100000
set_option linter.unusedSimpArgs false
variable (w0 : World) (H : Hp)
structure En where
  room : ByteArray
  seq : Int
  kind : Int
  user : ByteArray
  nick : ByteArray
  text : ByteArray
  id : ByteArray
  ref : ByteArray
  num : Int
def En.enc (e : En) : List Value := [.string e.room, .int .i64 e.seq, .int .i64 e.kind, .string e.user, .string e.nick, .string e.text, .string e.id, .string e.ref, .int .i64 e.num]
abbrev em : ByteArray := ByteArray.mk #[]
def bareE (e : En) : En :=
  if (e.kind == 1) = true then ⟨e.room, e.seq, e.kind, e.user, e.nick, em, em, em, e.num⟩
  else if (e.kind == 2) = true then ⟨e.room, e.seq, e.kind, e.user, e.nick, em, em, em, e.num⟩
  else if (e.kind == 5) = true then ⟨e.room, e.seq, e.kind, e.user, e.nick, em, em, em, e.num⟩
  else if (e.kind == 3) = true then ⟨e.room, e.seq, e.kind, e.user, e.nick, e.text, e.id, e.ref, 0⟩
  else if (e.kind == 4) = true then ⟨e.room, e.seq, e.kind, e.user, e.nick, e.text, e.id, em, 0⟩
  else if (e.kind == 6) = true then ⟨e.room, e.seq, e.kind, e.user, em, em, em, em, e.num⟩
  else ⟨e.room, e.seq, e.kind, e.user, e.nick, em, em, em, 0⟩
theorem bare_ok (e : En) : AFn Tryz.prog w0 97 #[.agg e.enc.toArray] H fun v H2 => v = .agg (bareE e).enc.toArray ∧ H2 = H := by
  refine AFn.scal rfl Tryz.func97 rfl (by kernel_rfl) ?_
  have r := Tryz.results97
  simp only [go_sem, cond, Nat.reduceAdd, Nat.reduceLeDiff, Nat.reduceEqDiff, Nat.reduceBEq, decide_true, decide_false, Int.toNat_natCast, r]
  simp only [go_sem, cond, Nat.reduceAdd, Nat.reduceLeDiff, Nat.reduceEqDiff, Nat.reduceBEq, decide_true, decide_false, Int.toNat_natCast, En.enc, r]
  repeat' (first
    | (refine Br_intro ?_ ?_ <;> intro h <;> simp only [go_sem, cond, Nat.reduceAdd, Nat.reduceLeDiff, Nat.reduceEqDiff, Nat.reduceBEq, decide_true, decide_false, Int.toNat_natCast, h, r])
    | ((refine xw_open (id := 8) [0, 1, 0, 4, 0, 16, 3, 67, 207, 463, 1023, 2047] [.q 0, .q 2, .q 4, .q 1, .q 6, .l 3, .l 5, .e 7, .d 3, .q 8, .e 9, .d 5, .q 10, .e 11] rfl (by kernel_rfl) ?_; simp only [go_sem, cond, Nat.reduceAdd, Nat.reduceLeDiff, Nat.reduceEqDiff, Nat.reduceBEq, decide_true, decide_false, Int.toNat_natCast, r]))
    | ((refine xw_open (id := 10) [0, 1, 0, 4, 3, 19, 63, 127] [.q 0, .q 2, .q 1, .q 4, .l 3, .e 5, .d 3, .q 6, .e 7] rfl (by kernel_rfl) ?_; simp only [go_sem, cond, Nat.reduceAdd, Nat.reduceLeDiff, Nat.reduceEqDiff, Nat.reduceBEq, decide_true, decide_false, Int.toNat_natCast, r]))
    | ((refine xw_open (id := 12) [0, 1, 0, 4, 15, 31] [.q 0, .q 2, .l 1, .e 3, .d 1, .q 4, .e 5] rfl (by kernel_rfl) ?_; simp only [go_sem, cond, Nat.reduceAdd, Nat.reduceLeDiff, Nat.reduceEqDiff, Nat.reduceBEq, decide_true, decide_false, Int.toNat_natCast, r])))
  all_goals exact ⟨by simp only [bareE, *]; rfl, _, rfl⟩
end Go.Proofs.YtmacpgoclhgafaaGreatDoorW.FA

namespace Go.Proofs.YtmacpgoclhgafaaGreatDoorW.FA
open Go.RowKit Go.Proofs.YtmacpgoclhgafaaGreatDoorW.XM Go.Proofs Go.Proofs.YtmacpgoclhgafaaGreatDoorW.XWords
set_option maxRecDepth 100000
set_option linter.unusedSimpArgs false
variable (w0 : World) (H : Hp)
/-- An entry has nothing but what its kind has. -/
def xB (e : En) : Bool :=
  if (e.kind == 1) = true then emB e.text && (emB e.id && emB e.ref)
  else if (e.kind == 2) = true then emB e.text && (emB e.id && emB e.ref)
  else if (e.kind == 5) = true then emB e.text && (emB e.id && emB e.ref)
  else if (e.kind == 3) = true then (e.num == 0)
  else if (e.kind == 4) = true then emB e.ref && (e.num == 0)
  else if (e.kind == 6) = true then emB e.nick && (emB e.text && (emB e.id && emB e.ref))
  else emB e.text && (emB e.id && (emB e.ref && (e.num == 0)))
def restB (e : En) : Bool :=
  if (e.kind == 1) = true then inB e.num 1 3
  else if (e.kind == 2) = true then inB e.num 0 3
  else if (e.kind == 5) = true then inB e.num 1 3
  else if (e.kind == 3) = true then bodyB e.text && (wordB e.id && orB wordB e.ref)
  else if (e.kind == 4) = true then bodyB e.text && wordB e.id
  else if (e.kind == 6) = true then inB e.num 0 4
  else false
def entB (e : En) : Bool := userB e.room && (userB e.user && (inB e.seq 0 9998 && (xB e && (((e.kind == 6) || nickB e.nick) && restB e))))
def eqE (e f : En) : Bool := (e.room.toList == f.room.toList) && ((e.seq == f.seq) && ((e.kind == f.kind) && ((e.user.toList == f.user.toList) && ((e.nick.toList == f.nick.toList) && ((e.text.toList == f.text.toList) && ((e.id.toList == f.id.toList) && ((e.ref.toList == f.ref.toList) && ((e.num == f.num) && true))))))))
theorem eqE_bare (e : En) : eqE e (bareE e) = xB e := by
  unfold eqE bareE xB emB
  repeat' split
  all_goals simp
structure BigE (e : En) : Prop where
  rm : e.room.size ≤ 1000000000000
  us : e.user.size ≤ 1000000000000
  ni : e.nick.size ≤ 1000000000000
  tx : e.text.size ≤ 1000000000000
  id : e.id.size ≤ 1000000000000
  rf : e.ref.size ≤ 1000000000000
theorem EntryOk_ok (e : En) (hT : Tabs w0) (hb : BigE e) : AFn Tryz.prog w0 70 #[.agg e.enc.toArray] H fun v H2 => v = .bool (entB e) ∧ H2 = H := by
  refine AFn.scal rfl Tryz.func70 rfl (by kernel_rfl) ?_
  have r := Tryz.results70
  simp only [go_sem, cond, Nat.reduceAdd, Nat.reduceLeDiff, Nat.reduceEqDiff, Nat.reduceBEq, decide_true, decide_false, Int.toNat_natCast, r]
  simp only [go_sem, cond, Nat.reduceAdd, Nat.reduceLeDiff, Nat.reduceEqDiff, Nat.reduceBEq, decide_true, decide_false, Int.toNat_natCast, En.enc, r]
  (refine xw_open (id := 1) [0, 1, 3, 7, 15, 31, 63, 127, 255, 511, 1023, 2047, 4095, 8191, 16383, 32767, 65535, 131071, 131071, 393215, 1048575, 2097151, 4194303, 8388607, 16777215, 33554431, 67108863, 134217727, 268435455, 536870911, 1073741823, 2147483647, 4294967295] [.q 0, .q 1, .e 2, .q 3, .q 4, .q 5, .q 6, .e 7, .q 8, .q 9, .q 10, .q 11, .q 12, .e 13, .q 14, .q 15, .q 16, .l 17, .q 18, .e 19, .d 17, .q 20, .q 21, .q 22, .q 23, .q 24, .q 25, .q 26, .q 27, .q 28, .e 29, .q 30, .q 31, .q 32] rfl (by kernel_rfl) ?_; simp only [go_sem, cond, Nat.reduceAdd, Nat.reduceLeDiff, Nat.reduceEqDiff, Nat.reduceBEq, decide_true, decide_false, Int.toNat_natCast, r])
  repeat' (first
    | (refine Br_intro ?_ ?_ <;> intro h <;> simp only [go_sem, cond, Nat.reduceAdd, Nat.reduceLeDiff, Nat.reduceEqDiff, Nat.reduceBEq, decide_true, decide_false, Int.toNat_natCast, h, r])
    | (refine call_eq (userOk_ok _ _ _ hb.rm) ?_; simp only [go_sem, cond, Nat.reduceAdd, Nat.reduceLeDiff, Nat.reduceEqDiff, Nat.reduceBEq, decide_true, decide_false, Int.toNat_natCast, r])
    | (refine call_eq (userOk_ok _ _ _ hb.us) ?_; simp only [go_sem, cond, Nat.reduceAdd, Nat.reduceLeDiff, Nat.reduceEqDiff, Nat.reduceBEq, decide_true, decide_false, Int.toNat_natCast, r])
    | (refine call_eq (nickOk_ok _ _ _ hT hb.ni) ?_; simp only [go_sem, cond, Nat.reduceAdd, Nat.reduceLeDiff, Nat.reduceEqDiff, Nat.reduceBEq, decide_true, decide_false, Int.toNat_natCast, r])
    | (refine call_eq (bodyOk_ok _ _ _ hT hb.tx) ?_; simp only [go_sem, cond, Nat.reduceAdd, Nat.reduceLeDiff, Nat.reduceEqDiff, Nat.reduceBEq, decide_true, decide_false, Int.toNat_natCast, r])
    | (refine call_eq (wordOk_ok _ _ _ hb.id) ?_; simp only [go_sem, cond, Nat.reduceAdd, Nat.reduceLeDiff, Nat.reduceEqDiff, Nat.reduceBEq, decide_true, decide_false, Int.toNat_natCast, r])
    | (refine call_eq (orEmpty_ok _ _ _ _ wordB (wordOk_ok _ _ _ hb.rf)) ?_; simp only [go_sem, cond, Nat.reduceAdd, Nat.reduceLeDiff, Nat.reduceEqDiff, Nat.reduceBEq, decide_true, decide_false, Int.toNat_natCast, r])
    | (refine call_eq (within_ok _ _ _ _ _) ?_; simp only [go_sem, cond, Nat.reduceAdd, Nat.reduceLeDiff, Nat.reduceEqDiff, Nat.reduceBEq, decide_true, decide_false, Int.toNat_natCast, r])
    | (refine call_eq (bare_ok _ _ e) ?_; simp only [go_sem, cond, Nat.reduceAdd, Nat.reduceLeDiff, Nat.reduceEqDiff, Nat.reduceBEq, decide_true, decide_false, Int.toNat_natCast, r, En.enc]
       rw [show (e.room.toList == (bareE e).room.toList && (e.seq == (bareE e).seq && (e.kind == (bareE e).kind && (e.user.toList == (bareE e).user.toList && (e.nick.toList == (bareE e).nick.toList && (e.text.toList == (bareE e).text.toList && (e.id.toList == (bareE e).id.toList && (e.ref.toList == (bareE e).ref.toList && (e.num == (bareE e).num && true))))))))) = xB e from eqE_bare e]))
  all_goals refine ⟨congrArg Value.bool ?_, _, rfl⟩
  all_goals clear hb r
  all_goals simp only [entB, restB, *, Bool.true_and, Bool.false_and, Bool.and_true, Bool.and_false, Bool.true_or, Bool.or_true, Bool.false_or, Bool.or_false, if_true, Bool.false_eq_true, if_false]
  all_goals simp_all
end Go.Proofs.YtmacpgoclhgafaaGreatDoorW.FA

namespace Go.Proofs.YtmacpgoclhgafaaGreatDoorW.FA
open Go.RowKit Go.Proofs.YtmacpgoclhgafaaGreatDoorW.XM Go.Proofs Go.Proofs.YtmacpgoclhgafaaGreatDoorW.XWords
set_option maxRecDepth 100000
set_option linter.unusedSimpArgs false
variable (w0 : World) (H : Hp)
theorem mlen (m : Mem) : m.enc.length = 3 := rfl
theorem klen (m : Rk) : m.enc.length = 2 := rfl
end Go.Proofs.YtmacpgoclhgafaaGreatDoorW.FA

namespace Go.Proofs.YtmacpgoclhgafaaGreatDoorW.FA
open Go.RowKit Go.Proofs.YtmacpgoclhgafaaGreatDoorW.XM Go.Proofs Go.Proofs.YtmacpgoclhgafaaGreatDoorW.XWords
set_option maxRecDepth 100000
set_option linter.unusedSimpArgs false
variable (w0 : World) (H : Hp)
/-- A room's two objects, and where they lie. -/
def obsR (R : Rm) : List (Option Ob) := [some (.row 67 (flat Mem.enc R.ms)), some (.row 43 (flat Rk.enc R.ks))]
def adR (H : Hp) (R : Rm) (j k : Nat) : Ad := ⟨some ⟨nid H j, 0, some (R.ms.length * 3)⟩, R.ms.length, some ⟨nid H k, 0, some (R.ks.length * 2)⟩, R.ks.length⟩
theorem pl2 {t u : TypeId} (ms : List Mem) (ks : List Rk) {l : List (Option Ob)} {j k : Nat} (hj : l[j]? = some (some (.row t (flat Mem.enc ms)))) (hk : l[k]? = some (some (.row u (flat Rk.enc ks)))) : ∀ i ∈ [j, k], PlainOb ((l[i]?).join) := by
  intro i hi
  simp only [List.mem_cons, List.not_mem_nil, or_false] at hi
  rcases hi with rfl | rfl
  · rw [hj]; exact flat_plain (fun _ => rfl) ms
  · rw [hk]; exact flat_plain (fun _ => rfl) ks
theorem ren_room (R : Rm) {sel : List Nat} {j k j' k' : Nat} (hj : idx j sel = some j') (hk : idx k sel = some k') : ren3 (rho H sel) (.agg (R.enc (adR H R j k)).toArray) = some (.agg (R.enc (adR H R j' k')).toArray) := by
  simp [ren3, ren2, renL, ren1, Rm.enc, adR, rho_nid, hj, hk, plain]
theorem l6Copy_ok (R : Rm) (x : Ad) (hr : RmAt w0 H R x) : AFn Tryz.prog w0 81 #[.agg (R.enc x).toArray] H fun v H2 => v = .agg (R.enc (adR H R 0 1)).toArray ∧ H2 = Hx H (obsR R) := by
  refine AFn.news Tryz.func81 rfl (by kernel_rfl) ?_
  have r := Tryz.results81
  simp only [go_sem, cond, Nat.reduceAdd, Nat.reduceLeDiff, Nat.reduceEqDiff, Nat.reduceBEq, decide_true, decide_false, Int.toNat_natCast, r]
  simp only [go_sem, cond, Nat.reduceAdd, Nat.reduceLeDiff, Nat.reduceEqDiff, Nat.reduceBEq, decide_true, decide_false, Int.toNat_natCast, Rm.enc, r]
  refine Req_intro ⟨_, rfl, rfl⟩ ?_
  have om := hr.om
  have ok := hr.ok
  simp only [go_sem, cond, Nat.reduceAdd, Nat.reduceLeDiff, Nat.reduceEqDiff, Nat.reduceBEq, decide_true, decide_false, Int.toNat_natCast, r, om]
  refine appS_full _ _ _ _ _ _ _ _ 3 0 _ _ _ rfl rfl rfl XF.lay_67 (by decide) (flat_len mlen _) (by have := hr.lm; omega) (by have := hr.lm; omega) ?_
  simp only [go_sem, cond, Nat.reduceAdd, Nat.reduceLeDiff, Nat.reduceEqDiff, Nat.reduceBEq, decide_true, decide_false, Int.toNat_natCast, r, ok, Nat.zero_add, List.nil_append]
  refine Req_intro ⟨_, rfl, rfl⟩ ?_
  simp only [go_sem, cond, Nat.reduceAdd, Nat.reduceLeDiff, Nat.reduceEqDiff, Nat.reduceBEq, decide_true, decide_false, Int.toNat_natCast, r, ok, Nat.zero_add, List.nil_append]
  refine appS_full _ _ _ _ _ _ _ _ 4 0 _ _ _ rfl rfl rfl XF.lay_43 (by decide) (flat_len klen _) (by have := hr.lk; omega) (by have := hr.lk; omega) ?_
  simp only [go_sem, cond, Nat.reduceAdd, Nat.reduceLeDiff, Nat.reduceEqDiff, Nat.reduceBEq, decide_true, decide_false, Int.toNat_natCast, r, Nat.zero_add, List.nil_append]
  exact ⟨_, [3, 4], _, rfl, pl2 R.ms R.ks rfl rfl, by decide, ren_room H R rfl rfl, rfl, rfl⟩
end Go.Proofs.YtmacpgoclhgafaaGreatDoorW.FA

namespace Go.Proofs.YtmacpgoclhgafaaGreatDoorW.FA
open Go.RowKit Go.Proofs.YtmacpgoclhgafaaGreatDoorW.XM Go.Proofs Go.Proofs.YtmacpgoclhgafaaGreatDoorW.XWords
set_option maxRecDepth 100000
set_option linter.unusedSimpArgs false
variable (w0 : World) (H : Hp)
theorem clipM_ok (j o tag n c : Nat) (cs : List Value) (hj : H[j]? = some (some (.row 67 cs))) (hl : cs.length = tag) (hn : n ≤ c) : AFn Tryz.prog w0 73 #[.slice (some ⟨j, o, some tag⟩) n c] H fun v H2 => v = .slice (some ⟨j, o, some tag⟩) n n ∧ H2 = H := by
  refine AFn.scal (by simp [ren3, ren2, ren1, rho, lt_of_get hj]) Tryz.func73 rfl (by kernel_rfl) ?_
  have r := Tryz.results73
  simp only [go_sem, cond, Nat.reduceAdd, Nat.reduceLeDiff, Nat.reduceEqDiff, Nat.reduceBEq, decide_true, decide_false, Int.toNat_natCast, r]
  refine slc_clip XF.elm_23 hn _ _ _ _ ⟨_, cs, _, Hx_old hj [], hl, XF.lay_67⟩ ?_
  simp only [go_sem, cond, Nat.reduceAdd, Nat.reduceLeDiff, Nat.reduceEqDiff, Nat.reduceBEq, decide_true, decide_false, Int.toNat_natCast, r]
  exact ⟨_, rfl⟩
theorem clipK_ok (j o tag n c : Nat) (cs : List Value) (hj : H[j]? = some (some (.row 43 cs))) (hl : cs.length = tag) (hn : n ≤ c) : AFn Tryz.prog w0 75 #[.slice (some ⟨j, o, some tag⟩) n c] H fun v H2 => v = .slice (some ⟨j, o, some tag⟩) n n ∧ H2 = H := by
  refine AFn.scal (by simp [ren3, ren2, ren1, rho, lt_of_get hj]) Tryz.func75 rfl (by kernel_rfl) ?_
  have r := Tryz.results75
  simp only [go_sem, cond, Nat.reduceAdd, Nat.reduceLeDiff, Nat.reduceEqDiff, Nat.reduceBEq, decide_true, decide_false, Int.toNat_natCast, r]
  refine slc_clip XF.elm_24 hn _ _ _ _ ⟨_, cs, _, Hx_old hj [], hl, XF.lay_43⟩ ?_
  simp only [go_sem, cond, Nat.reduceAdd, Nat.reduceLeDiff, Nat.reduceEqDiff, Nat.reduceBEq, decide_true, decide_false, Int.toNat_natCast, r]
  exact ⟨_, rfl⟩
theorem cloneM_ok (a : Addr) (ms : List Mem) (c : Nat) (hs : ∀ L, src w0 (Hx H L) 3 (.slice (some a) ms.length c) = some (ms.length, flat Mem.enc ms)) (hl : ms.length ≤ 2000000) : AFn Tryz.prog w0 74 #[.slice (some a) ms.length c] H fun v H2 => v = .slice (some ⟨nid H 0, 0, some (ms.length * 3)⟩) ms.length ms.length ∧ H2 = Hx H [some (.row 67 (flat Mem.enc ms))] := by
  refine AFn.news Tryz.func74 rfl (by kernel_rfl) ?_
  have r := Tryz.results74
  simp only [go_sem, cond, Nat.reduceAdd, Nat.reduceLeDiff, Nat.reduceEqDiff, Nat.reduceBEq, decide_true, decide_false, Int.toNat_natCast, r]
  refine Req_intro ⟨_, rfl, rfl⟩ ?_
  simp only [src_sl] at hs
  simp only [go_sem, cond, Nat.reduceAdd, Nat.reduceLeDiff, Nat.reduceEqDiff, Nat.reduceBEq, decide_true, decide_false, Int.toNat_natCast, r, hs]
  refine appS_full _ _ _ _ _ _ _ _ 0 0 _ _ _ rfl rfl rfl XF.lay_67 (by decide) (flat_len mlen _) (by omega) (by omega) ?_
  simp only [go_sem, cond, Nat.reduceAdd, Nat.reduceLeDiff, Nat.reduceEqDiff, Nat.reduceBEq, decide_true, decide_false, Int.toNat_natCast, r, Nat.zero_add, List.nil_append]
  refine ⟨_, [0], _, rfl, ?_, by decide, by simp only [ren3, ren2, ren1, rho_nid, idx_hit, Option.map_some], rfl, rfl⟩
  intro k hk
  simp only [List.mem_singleton] at hk
  subst hk
  exact flat_plain (fun _ => rfl) ms
theorem cloneK_ok (a : Addr) (ms : List Rk) (c : Nat) (hs : ∀ L, src w0 (Hx H L) 2 (.slice (some a) ms.length c) = some (ms.length, flat Rk.enc ms)) (hl : ms.length ≤ 2000000) : AFn Tryz.prog w0 76 #[.slice (some a) ms.length c] H fun v H2 => v = .slice (some ⟨nid H 0, 0, some (ms.length * 2)⟩) ms.length ms.length ∧ H2 = Hx H [some (.row 43 (flat Rk.enc ms))] := by
  refine AFn.news Tryz.func76 rfl (by kernel_rfl) ?_
  have r := Tryz.results76
  simp only [go_sem, cond, Nat.reduceAdd, Nat.reduceLeDiff, Nat.reduceEqDiff, Nat.reduceBEq, decide_true, decide_false, Int.toNat_natCast, r]
  refine Req_intro ⟨_, rfl, rfl⟩ ?_
  simp only [src_sl] at hs
  simp only [go_sem, cond, Nat.reduceAdd, Nat.reduceLeDiff, Nat.reduceEqDiff, Nat.reduceBEq, decide_true, decide_false, Int.toNat_natCast, r, hs]
  refine appS_full _ _ _ _ _ _ _ _ 0 0 _ _ _ rfl rfl rfl XF.lay_43 (by decide) (flat_len klen _) (by omega) (by omega) ?_
  simp only [go_sem, cond, Nat.reduceAdd, Nat.reduceLeDiff, Nat.reduceEqDiff, Nat.reduceBEq, decide_true, decide_false, Int.toNat_natCast, r, Nat.zero_add, List.nil_append]
  refine ⟨_, [0], _, rfl, ?_, by decide, by simp only [ren3, ren2, ren1, rho_nid, idx_hit, Option.map_some], rfl, rfl⟩
  intro k hk
  simp only [List.mem_singleton] at hk
  subst hk
  exact flat_plain (fun _ => rfl) ms
end Go.Proofs.YtmacpgoclhgafaaGreatDoorW.FA

namespace Go.Proofs.YtmacpgoclhgafaaGreatDoorW.FA
open Go.RowKit Go.Proofs.YtmacpgoclhgafaaGreatDoorW.XM Go.Proofs Go.Proofs.YtmacpgoclhgafaaGreatDoorW.XWords
set_option maxRecDepth 100000
set_option linter.unusedSimpArgs false
variable (w0 : World) (H : Hp)
theorem copied_ok (R : Rm) (a b : Addr) (c d : Nat) (hr : RmAt w0 H R ⟨some a, c, some b, d⟩) : AFn Tryz.prog w0 36 #[.agg (R.enc ⟨some a, c, some b, d⟩).toArray] H fun v H2 => v = .agg (R.enc (adR H R 0 1)).toArray ∧ H2 = Hx H (obsR R) := by
  have om := hr.om
  have ok := hr.ok
  have hlm := hr.lm
  have hlk := hr.lk
  refine AFn.news Tryz.func36 rfl (by kernel_rfl) ?_
  have r := Tryz.results36
  simp only [go_sem, cond, Nat.reduceAdd, Nat.reduceLeDiff, Nat.reduceEqDiff, Nat.reduceBEq, decide_true, decide_false, Int.toNat_natCast, r]
  simp only [go_sem, cond, Nat.reduceAdd, Nat.reduceLeDiff, Nat.reduceEqDiff, Nat.reduceBEq, decide_true, decide_false, Int.toNat_natCast, Rm.enc, r]
  (refine xw_open (id := 1) [0, 1, 3, 7, 0, 16, 63, 127, 63, 511, 1023, 2047] [.q 0, .q 4, .q 1, .l 5, .e 2, .e 3, .d 5, .q 8, .e 6, .e 7, .e 9, .q 10, .e 11] rfl (by kernel_rfl) ?_; simp only [go_sem, cond, Nat.reduceAdd, Nat.reduceLeDiff, Nat.reduceEqDiff, Nat.reduceBEq, decide_true, decide_false, Int.toNat_natCast, r])
  refine call_eq (cloneM_ok _ _ a R.ms c (fun L => by rw [Hx_Hx]; exact om _) hlm) ?_
  simp only [go_sem, cond, Nat.reduceAdd, Nat.reduceLeDiff, Nat.reduceEqDiff, Nat.reduceBEq, decide_true, decide_false, Int.toNat_natCast, r]
  refine call_eq (clipM_ok _ _ (nid H 2) 0 _ _ _ (flat Mem.enc R.ms) (by rw [Hx_get]; rfl) (flat_len mlen _) (Nat.le_refl _)) ?_
  simp only [go_sem, cond, Nat.reduceAdd, Nat.reduceLeDiff, Nat.reduceEqDiff, Nat.reduceBEq, decide_true, decide_false, Int.toNat_natCast, r]
  refine call_eq (cloneK_ok _ _ b R.ks d (fun L => by rw [Hx_Hx]; exact ok _) hlk) ?_
  simp only [go_sem, cond, Nat.reduceAdd, Nat.reduceLeDiff, Nat.reduceEqDiff, Nat.reduceBEq, decide_true, decide_false, Int.toNat_natCast, r]
  refine call_eq (clipK_ok _ _ (nid H 3) 0 _ _ _ (flat Rk.enc R.ks) (by rw [Hx_get]; rfl) (flat_len klen _) (Nat.le_refl _)) ?_
  simp only [go_sem, cond, Nat.reduceAdd, Nat.reduceLeDiff, Nat.reduceEqDiff, Nat.reduceBEq, decide_true, decide_false, Int.toNat_natCast, r]
  exact ⟨_, [2, 3], _, rfl, pl2 R.ms R.ks rfl rfl, by decide, ren_room H R rfl rfl, rfl, rfl⟩
end Go.Proofs.YtmacpgoclhgafaaGreatDoorW.FA

namespace Go.Proofs.YtmacpgoclhgafaaGreatDoorW.FA
open Go.RowKit Go.Proofs.YtmacpgoclhgafaaGreatDoorW.XM Go.Proofs Go.Proofs.YtmacpgoclhgafaaGreatDoorW.XWords
set_option maxRecDepth 100000
set_option linter.unusedSimpArgs false
variable (w0 : World) (H : Hp)
def isB (R : Rm) (e : En) : Bool := match R.ms.find? (isU e.user) with
  | some m => m.nick.toList == e.nick.toList
  | none => false
theorem idxP_find {α : Type} (p : α → Bool) : ∀ (l : List α) (i : Nat), (idxP p l i = -1 ∧ l.find? p = none) ∨ ∃ k, ∃ h : k < l.length, idxP p l i = ((i + k : Nat) : Int) ∧ l.find? p = some l[k]
  | [], _ => .inl ⟨rfl, rfl⟩
  | a :: r, i => by
    unfold idxP
    by_cases h : p a = true
    · rw [if_pos h]
      exact .inr ⟨0, by simp, by simp, by simp [List.find?, h]⟩
    · rw [if_neg h]
      rcases idxP_find p r (i + 1) with ⟨h1, h2⟩ | ⟨k, hk, h1, h2⟩
      · exact .inl ⟨h1, by simp [List.find?, h, h2]⟩
      · exact .inr ⟨k + 1, by simp; omega, by rw [h1]; congr 1; omega, by simp [List.find?, h, h2]⟩
end Go.Proofs.YtmacpgoclhgafaaGreatDoorW.FA

namespace Go.Proofs.YtmacpgoclhgafaaGreatDoorW.FA
open Go.RowKit Go.Proofs.YtmacpgoclhgafaaGreatDoorW.XM Go.Proofs Go.Proofs.YtmacpgoclhgafaaGreatDoorW.XWords
set_option maxRecDepth 100000
set_option linter.unusedSimpArgs false
variable (w0 : World) (H : Hp)
end Go.Proofs.YtmacpgoclhgafaaGreatDoorW.FA

namespace Go.Proofs.YtmacpgoclhgafaaGreatDoorW.FA
open Go.RowKit Go.Proofs.YtmacpgoclhgafaaGreatDoorW.XM Go.Proofs Go.Proofs.YtmacpgoclhgafaaGreatDoorW.XWords
set_option maxRecDepth 100000
set_option linter.unusedSimpArgs false
variable (w0 : World) (H : Hp)
end Go.Proofs.YtmacpgoclhgafaaGreatDoorW.FA

namespace Go.Proofs.YtmacpgoclhgafaaGreatDoorW.FA
open Go.RowKit Go.Proofs.YtmacpgoclhgafaaGreatDoorW.XM Go.Proofs Go.Proofs.YtmacpgoclhgafaaGreatDoorW.XWords
set_option maxRecDepth 100000
set_option linter.unusedSimpArgs false
variable (w0 : World) (H : Hp)
end Go.Proofs.YtmacpgoclhgafaaGreatDoorW.FA

namespace Go.Proofs.YtmacpgoclhgafaaGreatDoorW.FA
open Go.RowKit Go.Proofs.YtmacpgoclhgafaaGreatDoorW.XM Go.Proofs Go.Proofs.YtmacpgoclhgafaaGreatDoorW.XWords
set_option maxRecDepth 100000
set_option linter.unusedSimpArgs false
variable (w0 : World) (H : Hp)
end Go.Proofs.YtmacpgoclhgafaaGreatDoorW.FA

namespace Go.Proofs.YtmacpgoclhgafaaGreatDoorW.FA
open Go.RowKit Go.Proofs.YtmacpgoclhgafaaGreatDoorW.XM Go.Proofs Go.Proofs.YtmacpgoclhgafaaGreatDoorW.XWords
set_option maxRecDepth 100000
set_option linter.unusedSimpArgs false
variable (w0 : World) (H : Hp)
end Go.Proofs.YtmacpgoclhgafaaGreatDoorW.FA

namespace Go.Proofs.YtmacpgoclhgafaaGreatDoorW.FA
open Go.RowKit Go.Proofs.YtmacpgoclhgafaaGreatDoorW.XM Go.Proofs Go.Proofs.YtmacpgoclhgafaaGreatDoorW.XWords
set_option maxRecDepth 100000
set_option linter.unusedSimpArgs false
variable (w0 : World) (H : Hp)
end Go.Proofs.YtmacpgoclhgafaaGreatDoorW.FA

namespace Go.Proofs.YtmacpgoclhgafaaGreatDoorW.FA
open Go.RowKit Go.Proofs.YtmacpgoclhgafaaGreatDoorW.XM Go.Proofs Go.Proofs.YtmacpgoclhgafaaGreatDoorW.XWords
set_option maxRecDepth 100000
set_option linter.unusedSimpArgs false
variable (w0 : World) (H : Hp)
end Go.Proofs.YtmacpgoclhgafaaGreatDoorW.FA

namespace Go.Proofs.YtmacpgoclhgafaaGreatDoorW.FA
open Go.RowKit Go.Proofs.YtmacpgoclhgafaaGreatDoorW.XM Go.Proofs Go.Proofs.YtmacpgoclhgafaaGreatDoorW.XWords
set_option maxRecDepth 100000
set_option linter.unusedSimpArgs false
variable (w0 : World) (H : Hp)
end Go.Proofs.YtmacpgoclhgafaaGreatDoorW.FA

namespace Go.Proofs.YtmacpgoclhgafaaGreatDoorW.FA
open Go.RowKit Go.Proofs.YtmacpgoclhgafaaGreatDoorW.XM Go.Proofs Go.Proofs.YtmacpgoclhgafaaGreatDoorW.XWords
set_option maxRecDepth 100000
set_option linter.unusedSimpArgs false
variable (w0 : World) (H : Hp)
end Go.Proofs.YtmacpgoclhgafaaGreatDoorW.FA

namespace Go.Proofs.YtmacpgoclhgafaaGreatDoorW.FA
open Go.RowKit Go.Proofs.YtmacpgoclhgafaaGreatDoorW.XM Go.Proofs Go.Proofs.YtmacpgoclhgafaaGreatDoorW.XWords
set_option maxRecDepth 100000
set_option linter.unusedSimpArgs false
variable (w0 : World) (H : Hp)
def stpK (u : ByteArray) (num : Int) (x : Rk) (st : Bool × List Rk) : Bool × List Rk :=
  let c := !st.1 && !(Op.bytesLess x.user.toList u.toList)
  let out := if c = true then st.2 ++ [⟨u, num⟩] else st.2
  (st.1 || c, if (x.user.toList == u.toList) = true then out else out ++ [x])
def runK (u : ByteArray) (num : Int) (l : List Rk) (st : Bool × List Rk) : Bool × List Rk := l.foldl (fun s x => stpK u num x s) st
theorem runK_drop (u : ByteArray) (num : Int) (l : List Rk) (i : Nat) (hi : i < l.length) (st : Bool × List Rk) : runK u num (l.drop i) st = runK u num (l.drop (i + 1)) (stpK u num l[i] st) := by
  rw [List.drop_eq_getElem_cons hi]; rfl
def rkd (u : ByteArray) (num : Int) (l : List Rk) : List Rk := let r := runK u num l (num == 1, []); if r.1 = true then r.2 else r.2 ++ [⟨u, num⟩]
theorem l6Ranked_ok (A : Option Addr) (c : Nat) (ks : List Rk) (u : ByteArray) (num : Int) (hs : Sl w0 H A 2 (ks.map Rk.enc)) (hl : ks.length ≤ 2000000) : AFn Tryz.prog w0 82 #[.slice A ks.length c, .string u, .int .i64 num] H fun v H2 => v = .slice (some ⟨nid H 0, 0, some ((rkd u num ks).length * 2)⟩) (rkd u num ks).length (rkd u num ks).length ∧ H2 = Hx H [some (.row 43 (flat Rk.enc (rkd u num ks)))] := by
  refine AFn.news Tryz.func82 rfl (by kernel_rfl) ?_
  have r := Tryz.results82
  simp only [go_sem, cond, Nat.reduceAdd, Nat.reduceLeDiff, Nat.reduceEqDiff, Nat.reduceBEq, decide_true, decide_false, Int.toNat_natCast, r]
  refine Req_intro ⟨_, rfl, rfl⟩ ?_
  simp only [go_sem, cond, Nat.reduceAdd, Nat.reduceLeDiff, Nat.reduceEqDiff, Nat.reduceBEq, decide_true, decide_false, Int.toNat_natCast, r]
  refine xw_loop (fun (i : Nat) T H' => i ≤ ks.length ∧ (∃ (dn : Bool) (out : List Rk) (g : List (Option Ob)), out.length ≤ 2 * i ∧ T 7 = .slice (some ⟨nid H 0, 0, some (out.length * 2)⟩) out.length out.length ∧ T 8 = .bool dn ∧ runK u num (ks.drop i) (dn, out) = runK u num ks (num == 1, []) ∧ H' = Hx H (some (.row 43 (flat Rk.enc out)) :: g)) ∧ T 0 = .slice A ks.length c ∧ T 1 = .string u ∧ T 2 = .int .i64 num ∧ T 9 = .int .i64 i) (fun i => ks.length - i) 0 (by kernel_rfl) ⟨Nat.zero_le _, ⟨num == 1, [], [], Nat.le_refl _, rfl, rfl, rfl, rfl⟩, rfl, rfl, rfl, rfl⟩ ?_
  rintro i T H' ⟨hi, ⟨dn, out, g, ho, t7, t8, he, rfl⟩, t0, t1, t2, t9⟩
  by_cases hlt : i < ks.length
  · obtain ⟨b, o, sp, rfl, hc, hw⟩ := mcell hs hlt
    have c0 := fun L => hc 0 (.string ks[i].user) L (by decide) rfl
    have c1 := fun L => hw L rfl
    have d1 : ((i : Int) < (ks.length : Int)) = True := eq_true (by omega)
    have d2 : (0 ≤ (i : Int)) = True := eq_true (by omega)
    rw [runK_drop _ _ _ i hlt] at he
    simp only [Rk.enc] at c1
    simp only [go_sem, cond, Nat.reduceAdd, Nat.reduceLeDiff, Nat.reduceEqDiff, Nat.reduceBEq, decide_true, decide_false, Int.toNat_natCast, t0, t1, t2, t7, t8, t9, d1, d2, c0, c1, r]
    have hb : ∀ (X : Option Ob) (g : List (Option Ob)) (Y : Option Ob), (X :: (g ++ [Y]))[g.length + 1]? = some Y := fun X g Y => by rw [List.getElem?_cons_succ, List.getElem?_append_right (Nat.le_refl _)]; simp
    refine Br_intro ?_ ?_ <;> intro h <;> simp only [go_sem, cond, Nat.reduceAdd, Nat.reduceLeDiff, Nat.reduceEqDiff, Nat.reduceBEq, decide_true, decide_false, Int.toNat_natCast, t0, t1, t2, t7, t8, t9, d1, d2, c0, c1, hb, List.cons_append, List.length_cons, List.set_cons_zero, r, h]
    · refine Br_intro ?_ ?_ <;> intro h3 <;> simp only [go_sem, cond, Nat.reduceAdd, Nat.reduceLeDiff, Nat.reduceEqDiff, Nat.reduceBEq, decide_true, decide_false, Int.toNat_natCast, t0, t1, t2, t7, t8, t9, d1, d2, c0, c1, hb, List.cons_append, List.length_cons, List.set_cons_zero, r, h, h3]
      · simp only [stpK, h, h3, Bool.not_true, Bool.not_false, Bool.false_and, Bool.true_and, Bool.and_true, Bool.and_false, Bool.false_eq_true, if_true, if_false, Bool.or_true, Bool.true_or, Bool.or_false, Bool.false_or, Bool.or_self] at he
        exact ⟨i + 1, ⟨hlt, ⟨true, out, _, by first | omega | (simp; omega), t7, by first | rfl | exact t8.trans (by rw [h]), he, rfl⟩, t0, t1, t2, int_succ hlt (by omega)⟩, lt_meas hlt⟩
      · simp only [stpK, h, h3, Bool.not_true, Bool.not_false, Bool.false_and, Bool.true_and, Bool.and_true, Bool.and_false, Bool.false_eq_true, if_true, if_false, Bool.or_true, Bool.true_or, Bool.or_false, Bool.false_or, Bool.or_self] at he
        refine Req_intro ⟨_, rfl, rfl⟩ ?_
        simp only [go_sem, cond, Nat.reduceAdd, Nat.reduceLeDiff, Nat.reduceEqDiff, Nat.reduceBEq, decide_true, decide_false, Int.toNat_natCast, t0, t1, t2, t7, t8, t9, d1, d2, c0, c1, hb, List.cons_append, List.length_cons, List.set_cons_zero, r, h, h3]
        refine appS_full (m := 1) (sl := (out).length) _ _ _ _ _ _ _ 0 _ _ _ rfl rfl (flat_len klen _) XF.lay_43 (by decide) (by rfl) (by first | omega | (simp; omega)) (by first | omega | (simp; omega)) ?_
        simp only [go_sem, cond, Nat.reduceAdd, Nat.reduceLeDiff, Nat.reduceEqDiff, Nat.reduceBEq, decide_true, decide_false, Int.toNat_natCast, t0, t1, t2, t7, t8, t9, d1, d2, c0, c1, hb, List.cons_append, List.length_cons, List.set_cons_zero, r, h, h3]
        exact ⟨i + 1, ⟨hlt, ⟨true, out ++ [ks[i]], _, by first | omega | (simp; omega), by rw [List.length_append]; rfl, by first | rfl | exact t8.trans (by rw [h]), he, by rw [flat_app]; rfl⟩, t0, t1, t2, int_succ hlt (by omega)⟩, lt_meas hlt⟩
    · refine Br_intro ?_ ?_ <;> intro h2 <;> simp only [go_sem, cond, Nat.reduceAdd, Nat.reduceLeDiff, Nat.reduceEqDiff, Nat.reduceBEq, decide_true, decide_false, Int.toNat_natCast, t0, t1, t2, t7, t8, t9, d1, d2, c0, c1, hb, List.cons_append, List.length_cons, List.set_cons_zero, r, h, h2]
      · refine Br_intro ?_ ?_ <;> intro h3 <;> simp only [go_sem, cond, Nat.reduceAdd, Nat.reduceLeDiff, Nat.reduceEqDiff, Nat.reduceBEq, decide_true, decide_false, Int.toNat_natCast, t0, t1, t2, t7, t8, t9, d1, d2, c0, c1, hb, List.cons_append, List.length_cons, List.set_cons_zero, r, h, h2, h3]
        · simp only [stpK, h, h2, h3, Bool.not_true, Bool.not_false, Bool.false_and, Bool.true_and, Bool.and_true, Bool.and_false, Bool.false_eq_true, if_true, if_false, Bool.or_true, Bool.true_or, Bool.or_false, Bool.false_or, Bool.or_self] at he
          exact ⟨i + 1, ⟨hlt, ⟨false, out, _, by first | omega | (simp; omega), t7, by first | rfl | exact t8.trans (by rw [h]), he, rfl⟩, t0, t1, t2, int_succ hlt (by omega)⟩, lt_meas hlt⟩
        · simp only [stpK, h, h2, h3, Bool.not_true, Bool.not_false, Bool.false_and, Bool.true_and, Bool.and_true, Bool.and_false, Bool.false_eq_true, if_true, if_false, Bool.or_true, Bool.true_or, Bool.or_false, Bool.false_or, Bool.or_self] at he
          refine Req_intro ⟨_, rfl, rfl⟩ ?_
          simp only [go_sem, cond, Nat.reduceAdd, Nat.reduceLeDiff, Nat.reduceEqDiff, Nat.reduceBEq, decide_true, decide_false, Int.toNat_natCast, t0, t1, t2, t7, t8, t9, d1, d2, c0, c1, hb, List.cons_append, List.length_cons, List.set_cons_zero, r, h, h2, h3]
          refine appS_full (m := 1) (sl := (out).length) _ _ _ _ _ _ _ 0 _ _ _ rfl rfl (flat_len klen _) XF.lay_43 (by decide) (by rfl) (by first | omega | (simp; omega)) (by first | omega | (simp; omega)) ?_
          simp only [go_sem, cond, Nat.reduceAdd, Nat.reduceLeDiff, Nat.reduceEqDiff, Nat.reduceBEq, decide_true, decide_false, Int.toNat_natCast, t0, t1, t2, t7, t8, t9, d1, d2, c0, c1, hb, List.cons_append, List.length_cons, List.set_cons_zero, r, h, h2, h3]
          exact ⟨i + 1, ⟨hlt, ⟨false, out ++ [ks[i]], _, by first | omega | (simp; omega), by rw [List.length_append]; rfl, by first | rfl | exact t8.trans (by rw [h]), he, by rw [flat_app]; rfl⟩, t0, t1, t2, int_succ hlt (by omega)⟩, lt_meas hlt⟩
      · refine Req_intro ⟨_, rfl, rfl⟩ ?_
        simp only [go_sem, cond, Nat.reduceAdd, Nat.reduceLeDiff, Nat.reduceEqDiff, Nat.reduceBEq, decide_true, decide_false, Int.toNat_natCast, t0, t1, t2, t7, t8, t9, d1, d2, c0, c1, hb, List.cons_append, List.length_cons, List.set_cons_zero, r, h, h2]
        refine appS_full (m := 1) (sl := (out).length) _ _ _ _ _ _ _ 0 _ _ _ rfl rfl (flat_len klen _) XF.lay_43 (by decide) (by rfl) (by first | omega | (simp; omega)) (by first | omega | (simp; omega)) ?_
        simp only [go_sem, cond, Nat.reduceAdd, Nat.reduceLeDiff, Nat.reduceEqDiff, Nat.reduceBEq, decide_true, decide_false, Int.toNat_natCast, t0, t1, t2, t7, t8, t9, d1, d2, c0, c1, hb, List.cons_append, List.length_cons, List.set_cons_zero, r, h, h2]
        have e1 : flat Rk.enc out ++ [.string u, .int .i64 num] = flat Rk.enc (out ++ [⟨u, num⟩]) := by rw [flat_app]; rfl
        have e2 : out.length + 1 = (out ++ [(⟨u, num⟩ : Rk)]).length := by simp
        have ho2 : (out ++ [(⟨u, num⟩ : Rk)]).length ≤ 2 * i + 1 := by simp; omega
        rw [e1, e2]
        simp only [stpK, h, h2, Bool.not_true, Bool.not_false, Bool.false_and, Bool.true_and, Bool.and_true, Bool.and_false, Bool.false_eq_true, if_true, if_false, Bool.or_true, Bool.true_or, Bool.or_false, Bool.false_or, Bool.or_self] at he
        generalize out ++ [(⟨u, num⟩ : Rk)] = o1 at *
        generalize g ++ [some (Ob.row 43 [.string u, .int .i64 num])] = g1 at *
        refine Br_intro ?_ ?_ <;> intro h3 <;> simp only [go_sem, cond, Nat.reduceAdd, Nat.reduceLeDiff, Nat.reduceEqDiff, Nat.reduceBEq, decide_true, decide_false, Int.toNat_natCast, t0, t1, t2, t8, t9, d1, d2, c0, c1, hb, List.cons_append, List.length_cons, List.set_cons_zero, r, h3]
        · simp only [h3, Bool.not_true, Bool.not_false, Bool.false_and, Bool.true_and, Bool.and_true, Bool.and_false, Bool.false_eq_true, if_true, if_false, Bool.or_true, Bool.true_or, Bool.or_false, Bool.false_or, Bool.or_self] at he
          exact ⟨i + 1, ⟨hlt, ⟨true, o1, _, by omega, rfl, rfl, he, rfl⟩, t0, t1, t2, int_succ hlt (by omega)⟩, lt_meas hlt⟩
        · simp only [h3, Bool.not_true, Bool.not_false, Bool.false_and, Bool.true_and, Bool.and_true, Bool.and_false, Bool.false_eq_true, if_true, if_false, Bool.or_true, Bool.true_or, Bool.or_false, Bool.false_or, Bool.or_self] at he
          refine Req_intro ⟨_, rfl, rfl⟩ ?_
          simp only [go_sem, cond, Nat.reduceAdd, Nat.reduceLeDiff, Nat.reduceEqDiff, Nat.reduceBEq, decide_true, decide_false, Int.toNat_natCast, t0, t1, t2, t8, t9, d1, d2, c0, c1, hb, List.cons_append, List.length_cons, List.set_cons_zero, r, h3]
          refine appS_full (m := 1) (sl := o1.length) _ _ _ _ _ _ _ 0 _ _ _ rfl rfl (flat_len klen _) XF.lay_43 (by decide) (by rfl) (by omega) (by omega) ?_
          simp only [go_sem, cond, Nat.reduceAdd, Nat.reduceLeDiff, Nat.reduceEqDiff, Nat.reduceBEq, decide_true, decide_false, Int.toNat_natCast, t0, t1, t2, t8, t9, d1, d2, c0, c1, hb, List.cons_append, List.length_cons, List.set_cons_zero, r, h3]
          exact ⟨i + 1, ⟨hlt, ⟨true, o1 ++ [ks[i]], _, by first | omega | (simp; omega), by rw [List.length_append]; rfl, rfl, he, by rw [flat_app]; rfl⟩, t0, t1, t2, int_succ hlt (by omega)⟩, lt_meas hlt⟩
  · obtain rfl : i = ks.length := by omega
    have d1 : ((ks.length : Int) < (ks.length : Int)) = False := eq_false (by omega)
    have hb : ∀ (X : Option Ob) (g : List (Option Ob)) (Y : Option Ob), (X :: (g ++ [Y]))[g.length + 1]? = some Y := fun X g Y => by rw [List.getElem?_cons_succ, List.getElem?_append_right (Nat.le_refl _)]; simp
    rw [List.drop_length] at he
    have he : (dn, out) = runK u num ks (num == 1, []) := he
    simp only [go_sem, cond, Nat.reduceAdd, Nat.reduceLeDiff, Nat.reduceEqDiff, Nat.reduceBEq, decide_true, decide_false, Int.toNat_natCast, t0, t1, t2, t7, t8, t9, d1, hb, List.cons_append, List.length_cons, List.set_cons_zero, r]
    refine Br_intro ?_ ?_ <;> intro h <;> simp only [go_sem, cond, Nat.reduceAdd, Nat.reduceLeDiff, Nat.reduceEqDiff, Nat.reduceBEq, decide_true, decide_false, Int.toNat_natCast, t0, t1, t2, t7, t8, t9, d1, hb, List.cons_append, List.length_cons, List.set_cons_zero, r, h]
    · have hk : rkd u num ks = out := by simp [rkd, ← he, h]
      rw [hk]
      refine ⟨_, [0], _, rfl, ?_, by decide, by simp only [ren3, ren2, ren1, rho_nid, idx_hit, Option.map_some], rfl, rfl⟩
      intro k hk
      simp only [List.mem_singleton] at hk
      subst hk
      exact flat_plain (fun _ => rfl) out
    · have hk : rkd u num ks = out ++ [⟨u, num⟩] := by simp [rkd, ← he, h]
      refine Req_intro ⟨_, rfl, rfl⟩ ?_
      simp only [go_sem, cond, Nat.reduceAdd, Nat.reduceLeDiff, Nat.reduceEqDiff, Nat.reduceBEq, decide_true, decide_false, Int.toNat_natCast, t0, t1, t2, t7, t8, t9, d1, hb, List.cons_append, List.length_cons, List.set_cons_zero, r, h]
      refine appS_full (m := 1) (sl := out.length) _ _ _ _ _ _ _ 0 _ _ _ rfl rfl (flat_len klen _) XF.lay_43 (by decide) (by rfl) (by omega) (by omega) ?_
      simp only [go_sem, cond, Nat.reduceAdd, Nat.reduceLeDiff, Nat.reduceEqDiff, Nat.reduceBEq, decide_true, decide_false, Int.toNat_natCast, t0, t1, t2, t7, t8, t9, d1, hb, List.cons_append, List.length_cons, List.set_cons_zero, r, h]
      rw [hk]
      have e1 : flat Rk.enc out ++ [.string u, .int .i64 num] = flat Rk.enc (out ++ [⟨u, num⟩]) := by rw [flat_app]; rfl
      have e2 : out.length + 1 = (out ++ [(⟨u, num⟩ : Rk)]).length := by simp
      rw [e1, e2]
      refine ⟨_, [0], _, rfl, ?_, by decide, by simp only [ren3, ren2, ren1, rho_nid, idx_hit, Option.map_some], rfl, rfl⟩
      intro k hk
      simp only [List.mem_singleton] at hk
      subst hk
      exact flat_plain (fun _ => rfl) _
end Go.Proofs.YtmacpgoclhgafaaGreatDoorW.FA

namespace Go.Proofs.YtmacpgoclhgafaaGreatDoorW.XM
open Go.RowKit
section
variable {P : Program} {w0 : World}
/-- Whatever stands beside the one stands beside the other. -/
def Wk (P : Program) (v u : Value) : Prop := ∀ H μ v', VR P H μ v v' → VR P H μ u v'
theorem Wk.refl (v : Value) : Wk P v v := fun _ _ _ h => h
theorem Wk.xs (v : Value) : Wk P (xs v) v := fun H μ v' h => by have := h.unx; rwa [unx_xs] at this
theorem Wk.agg {l m : List Value} (hl : l.length = m.length) (h : ∀ (j : Nat) (v u : Value), l[j]? = some v → m[j]? = some u → Wk P v u) : Wk P (.agg l.toArray) (.agg m.toArray) := fun H μ v' hv => by
  cases hv with
  | same hp => simp [plain] at hp
  | @agg _ cs' a b =>
    have a' : l.length = cs'.size := by simpa using a
    refine .agg (by simp [← hl, a']) fun j u u' e1 e2 => ?_
    have hj : j < l.length := by rw [hl]; exact lt_of_get (by simpa using e1)
    exact h j l[j] u (List.getElem?_eq_getElem hj) (by simpa using e1) H μ u' (b j _ _ (by simp [hj]) e2)
/-- Cell by cell. -/
inductive Wks (P : Program) : List Value → List Value → Prop
  | nil : Wks P [] []
  | cons {v u : Value} {l m : List Value} : Wk P v u → Wks P l m → Wks P (v :: l) (u :: m)
theorem Wks.get {l m : List Value} (h : Wks P l m) : l.length = m.length ∧ ∀ (j : Nat) (v u : Value), l[j]? = some v → m[j]? = some u → Wk P v u := by
  induction h with
  | nil => exact ⟨rfl, fun j v u a => by simp at a⟩
  | cons h _ ih =>
    refine ⟨by simp [ih.1], fun j v u a b => ?_⟩
    cases j with
    | zero => simp at a b; subst a; subst b; exact h
    | succ j => exact ih.2 j v u (by simpa using a) (by simpa using b)
theorem Wks.agg {l m : List Value} (h : Wks P l m) : Wk P (.agg l.toArray) (.agg m.toArray) := Wk.agg h.get.1 h.get.2
theorem AFn.weak {f : FuncId} {l m : List Value} {H : Hp} {Q : Value → Hp → Prop} (hw : Wks P l m) (h : AFn P w0 f m.toArray H Q) : AFn P w0 f l.toArray H Q := by
  refine ⟨h.1, fun μ w args' h1 h2 => h.2 μ w args' h1 ⟨?_, fun j u u' e1 e2 => ?_⟩⟩
  · have := h2.1; simp at this; simp [← hw.get.1, this]
  · have hj : j < l.length := by rw [hw.get.1]; exact lt_of_get (by simpa using e1)
    exact hw.get.2 j l[j] u (List.getElem?_eq_getElem hj) (by simpa using e1) H μ u' (h2.2 j _ _ (by simp [hj]) e2)
@[go_sem] theorem cells_xs (v : Value) : (XM.xs v).cells = #[XM.xs v] := rfl
@[go_sem] theorem cellsV_xs (v : Value) : cellsV (XM.xs v) = some [XM.xs v] := rfl
@[go_sem] theorem allOne_xs (v : Value) (r : List Value) : allOne (XM.xs v :: r) = allOne r := rfl
@[go_sem] theorem oneCell_xs (v : Value) : (XM.xs v).oneCell' = true := rfl
/-! parts -/
theorem slc_xs {t : TypeId} {e m : Nat} (he : elm P t = some (e, m)) {b o : Nat} {sp : Option Nat} {len cap : Nat} {lo hi : Option Value} {l h' : Int} (h1 : bnd lo 0 = some l) (h2 : bnd hi len = some h') (H : Hp) {K : Value → Hp → Prop} (k : Lk K) (bb : Bool) (ee : Option (TypeId × Nat))
    (h3 : 0 ≤ l) (h4 : l ≤ h') (h5 : h' ≤ cap) (ho : ownB P H m b sp) (h6 : l = 0 ∨ l < cap) (hk : K (xs (.slice (some ⟨b, o + l.toNat * m, sp⟩) (h'.toNat - l.toNat) (cap - l.toNat))) H) : slcV P w0 t bb ee (xs (.slice (some ⟨b, o, sp⟩) len cap)) lo hi none H k := by
  refine ⟨e, m, he, by simp, l, h', cap, h1, h2, rfl, h3, h4, h5, Int.le_refl _, ho, ?_⟩
  have : (if (cap : Int).toNat = l.toNat then o else o + l.toNat * m) = o + l.toNat * m := by
    split
    · rename_i e
      rcases h6 with h6 | h6
      · subst h6; simp
      · omega
    · rfl
  rw [this]
  simpa using hk
/-- The end of a slice, which nothing more fits behind: it holds nothing. -/
theorem slc_end {t : TypeId} {e m : Nat} (he : elm P t = some (e, m)) {b o tg : Nat} {len cap : Nat} {lo hi : Option Value} {l h' : Int} (h1 : bnd lo 0 = some l) (h2 : bnd hi len = some h') (H : Hp) {K : Value → Hp → Prop} (k : Lk K) (bb : Bool) (ee : Option (TypeId × Nat))
    (h3 : 0 ≤ l) (h4 : l ≤ h') (h5 : h' ≤ cap) (ho : ownB P H m b (some (tg + 1))) (h6 : l = cap) (hk : K (.slice (some ⟨b, o, some tg⟩) 0 0) H) : slcV P w0 t bb ee (.slice (some ⟨b, o, some (tg + 1)⟩) len cap) lo hi none H k :=
  ⟨e, m, he, by simp, l, h', cap, h1, h2, rfl, h3, h4, h5, Int.le_refl _, ho, .inl ⟨tg, rfl, rfl, h6, hk⟩⟩
theorem slc_clipX {t : TypeId} {e m : Nat} (he : elm P t = some (e, m)) {b o : Nat} {sp : Option Nat} {len cap : Nat} (hc : len ≤ cap) {k1 k2 : IntKind} (H : Hp) {K : Value → Hp → Prop} (k : Lk K) (bb : Bool) (ee : Option (TypeId × Nat)) (ho : ownB P H m b sp)
    (hk : K (xs (.slice (some ⟨b, o, sp⟩) len len)) H) : slcV P w0 t bb ee (.slice (some ⟨b, o, sp⟩) len cap) none (some (.int k1 (len : Int))) (some (.int k2 (len : Int))) H k := by
  refine ⟨e, m, he, by simp, 0, len, len, rfl, rfl, rfl, Int.le_refl _, by omega, Int.le_refl _, by omega, ho, .inr (.inr ⟨rfl, ?_⟩)⟩
  have : (if (len : Int).toNat = (0 : Int).toNat then o else o + (0 : Int).toNat * m) = o := by split <;> simp
  rw [this]
  simpa using hk
/-- A slice cut off in front and behind. -/
theorem slc_three {t : TypeId} {e m : Nat} (he : elm P t = some (e, m)) {b o : Nat} {sp : Option Nat} {len cap : Nat} {lo : Option Value} {l h' mx : Int} {k1 k2 : IntKind} (h1 : bnd lo 0 = some l) (H : Hp) {K : Value → Hp → Prop} (k : Lk K) (bb : Bool) (ee : Option (TypeId × Nat))
    (h3 : 0 ≤ l) (h4 : l ≤ h') (h5 : h' ≤ mx) (h6 : mx ≤ cap) (ho : ownB P H m b sp) (hk : ∀ v, K v H) : slcV P w0 t bb ee (.slice (some ⟨b, o, sp⟩) len cap) lo (some (.int k1 h')) (some (.int k2 mx)) H k :=
  ⟨e, m, he, by simp, l, h', mx, h1, rfl, rfl, h3, h4, h5, h6, ho, .inr (.inr ⟨rfl, hk _⟩)⟩
/-! appends to a slice of a known capacity -/
theorem app_out {ats : Array TypeId} {t0 t1 e n b m : Nat} {z cs old : List Value} {a : Addr} {sl sc : Nat} {x : Value} {B : Hp} {l : List (Option Ob)} {K : Value → Hp → Prop} (k : Lk K) (h1 : ats[0]? = some t0) (h2 : ats[1]? = some t1) (h3 : elm P t0 = some (e, n)) (h5 : zer P e = some z) (h6 : z.length = n) (h7 : byt P e = some b)
    (h8 : appd P w0 (Hx B l) n z (isInt P t1) (unx x) = some (m, cs)) (h9 : sc < sl + m) (hb : (sl + m) * b ≤ 140737488355328) (hn : sl + m ≤ 4611686018427387904) (ho : rd w0 (Hx B l) a (sl * n) = some old)
    (h : K (.slice (some ⟨nid B l.length, 0, some ((sl + m) * n)⟩) (sl + m) (sl + m)) (Hx B (l ++ [some (.row e (old ++ cs))]))) : appV P w0 ats (xs (.slice (some a) sl sc)) x (Hx B l) k := by
  refine .inr ⟨a, sl, sc, rfl, t0, t1, e, n, z, b, m, cs, old, h1, h2, h3, h5, h6, h7, h8, h9, ⟨hb, hn⟩, ho, ?_⟩
  rw [Hx_len, Hx_app]
  exact h
/-! capacities -/
@[go_sem] theorem callB_cap (ats : Array TypeId) (x : Value) (H : Hp) {K : Value → Hp → Prop} (k : Lk K) : callB P w0 .cap ats [x] H k = Opt (xCap P ats x) H k := by
  show (∃ v, xCap P ats x = some v ∧ K v H) = _
  generalize xCap P ats x = r
  cases r <;> simp [Opt]
@[go_sem] theorem cap_xs (t : TypeId) (a : Addr) (m c : Nat) : xCap P #[t] (xs (.slice (some a) m c)) = if isSl P t = true then some (.int .i64 c) else none := by simp [xCap, xs]
/-! cleared, copied -/
def clrV (P : Program) (w0 : World) (ats : Array TypeId) (x : Value) (H : Hp) {K : Value → Hp → Prop} (_ : Lk K) : Prop := xClear P ats x H K
@[go_sem] theorem callB_clear (ats : Array TypeId) (x : Value) (H : Hp) {K : Value → Hp → Prop} (k : Lk K) : callB P w0 .clear ats [x] H k = clrV P w0 ats (unx x) H k := propext Iff.rfl
theorem clr_own {ats : Array TypeId} {t0 e n ty : Nat} {z c0 : List Value} {bb : Bool} {B : Hp} {l : List (Option Ob)} {j o tag m c : Nat} {K : Value → Hp → Prop} (k : Lk K) (h1 : ats[0]? = some t0) (h2 : elm P t0 = some (e, n)) (h3 : zer P e = some z) (h4 : z.length = n) (hl : l[j]? = some (some (.row ty c0))) (ht : c0.length = tag) (hla : lay P ty = some (bb, n)) (hm : o + m * n ≤ tag)
    (h : K (.tuple #[]) (Hx B (l.set j (some (.row ty (putL c0 o (List.replicate m z).flatten)))))) : clrV P w0 ats (.slice (some ⟨nid B j, o, some tag⟩) m c) (Hx B l) k := by
  refine ⟨t0, e, n, z, ty, c0, bb, h1, h2, h3, h4, by rw [Hx_get]; exact hl, ht, hla, hm, ?_⟩
  rw [Hx_set]; exact h
theorem cop_own {ats : Array TypeId} {t0 e n ty m : Nat} {cs c0 : List Value} {bb : Bool} {B : Hp} {l : List (Option Ob)} {j o tag dl dc : Nat} {x : Value} {K : Value → Hp → Prop} (k : Lk K) (h1 : ats[0]? = some t0) (h2 : elm P t0 = some (e, n)) (h3 : src w0 (Hx B l) n x = some (m, cs)) (h4 : m ≤ dl) (hl : l[j]? = some (some (.row ty c0))) (ht : c0.length = tag) (hla : lay P ty = some (bb, n)) (hm : o + cs.length ≤ tag)
    (h : K (.int .i64 m) (Hx B (l.set j (some (.row ty (putL c0 o cs)))))) : copV P w0 ats (.slice (some ⟨nid B j, o, some tag⟩) dl dc) x (Hx B l) k := by
  refine ⟨t0, e, n, m, cs, ty, c0, bb, h1, h2, h3, h4, by rw [Hx_get]; exact hl, ht, hla, hm, ?_⟩
  rw [Hx_set]; exact h
/-! parts of rows -/
theorem rd_len : ∀ {H : Hp} {a : Addr} {n : Nat} {cs : List Value}, rd w0 H a n = some cs → cs.length = n := fun {H a n cs} h => by
  obtain ⟨b, o, sp⟩ := a
  cases sp with
  | none => exact (rdRo_spec n b o cs h).1
  | some tag =>
    simp only [rd] at h
    split at h
    · split at h
      · rename_i hc
        cases h
        simp; omega
      · cases h
    · cases h
theorem rdRo_part : ∀ (n b o f k : Nat) (cs : List Value), rdRo w0 b o n = some cs → f + k ≤ n → rdRo w0 b (o + f) k = some ((cs.drop f).take k) := by
  intro n
  induction n with
  | zero =>
    intro b o f k cs h hk
    obtain rfl : k = 0 := by omega
    simp [rdRo]
  | succ n ih =>
    intro b o f k cs h hk
    obtain ⟨h1, h2, h3⟩ := rdRo_spec (n + 1) b o cs h
    cases f with
    | zero =>
      cases k with
      | zero => simp [rdRo]
      | succ k =>
        simp only [rdRo] at h ⊢
        split at h
        · rename_i e1
          split at h
          · rename_i hv
            cases hr : rdRo w0 b (o + 1) n with
            | none => rw [hr] at h; cases h
            | some l2 =>
              rw [hr] at h
              cases h
              have := ih b (o + 1) 0 k l2 hr (by omega)
              simp only [Nat.add_zero] at this ⊢
              rw [e1]
              simp only [hv, if_true, this]
              simp
          · cases h
        · cases h
    | succ f =>
      simp only [rdRo] at h
      split at h
      · split at h
        · cases hr : rdRo w0 b (o + 1) n with
          | none => rw [hr] at h; cases h
          | some l2 =>
            rw [hr] at h
            cases h
            have := ih b (o + 1) f k l2 hr (by omega)
            rw [show o + (f + 1) = o + 1 + f by omega, this]
            simp
        · cases h
      · cases h
/-- A part of what can be read can be read. -/
theorem rd_part {H : Hp} {b o : Nat} {sp : Option Nat} {n : Nat} {cs : List Value} (h : rd w0 H ⟨b, o, sp⟩ n = some cs) (f k : Nat) (hk : f + k ≤ n) : rd w0 H ⟨b, o + f, sp⟩ k = some ((cs.drop f).take k) := by
  cases sp with
  | none => exact rdRo_part n b o f k cs h hk
  | some tag =>
    simp only [rd] at h ⊢
    split at h
    · rename_i e
      split at h
      · rename_i hc
        cases h
        rw [if_pos ⟨hc.1, by omega⟩]
        congr 1
        rw [List.drop_take, List.take_take, List.drop_drop, Nat.min_eq_left (by omega)]
      · cases h
    · cases h
end
end Go.Proofs.YtmacpgoclhgafaaGreatDoorW.XM

namespace Go.Proofs.YtmacpgoclhgafaaGreatDoorW.XM
open Go.RowKit
section
variable {P : Program} {w0 : World}
theorem flat_part {α : Type} {enc : α → List Value} {n : Nat} (he : ∀ a, (enc a).length = n) : ∀ (rows : List α) (l m : Nat), l + m ≤ rows.length → ((flat enc rows).drop (l * n)).take (m * n) = flat enc ((rows.drop l).take m)
  | rows, 0, m, h => by
    rw [Nat.zero_mul, List.drop_zero, List.drop_zero]
    have e : flat enc rows = flat enc (rows.take m) ++ flat enc (rows.drop m) := by rw [← flat_app, List.take_append_drop]
    rw [e]
    have : m * n = (flat enc (rows.take m)).length := by rw [flat_len he, List.length_take, Nat.min_eq_left (by omega)]
    rw [this, List.take_left]
  | [], l + 1, m, h => by simp at h
  | a :: r, l + 1, m, h => by
    have := flat_part he r l m (by simp at h; omega)
    have e : flat enc (a :: r) = enc a ++ flat enc r := rfl
    rw [e, List.drop_succ_cons, Nat.succ_mul, Nat.add_comm, ← List.drop_drop]
    have : n = (enc a).length := (he a).symm
    rw [show (enc a ++ flat enc r).drop n = flat enc r by rw [this]; exact List.drop_left]
    exact flat_part he r l m (by simp at h; omega)
/-- A slice's parts: how it is taken, and what it holds. -/
theorem slc_part {α : Type} {enc : α → List Value} {n : Nat} (he : ∀ a, (enc a).length = n) (hn : 0 < n) {H : Hp} {b o c : Nat} {sp : Option Nat} {rows : List α} (hr : ∀ L, rd w0 (Hx H L) ⟨b, o, sp⟩ (rows.length * n) = some (flat enc rows)) (hc : rows.length ≤ c) (ho : ∀ L, ownB P (Hx H L) n b sp) {l h : Nat} (hlh : l ≤ h) (hh : h ≤ rows.length) (hp : 0 < rows.length) :
    ∃ (a : Addr) (c' : Nat), h - l ≤ c' ∧ (∀ (t e : TypeId) (L : List (Option Ob)) (lo hi : Option Value) (bb : Bool) (ee : Option (TypeId × Nat)) (K : Value → Hp → Prop) (k : Lk K), elm P t = some (e, n) → bnd lo 0 = some (l : Int) → bnd hi rows.length = some (h : Int) → K (.slice (some a) (h - l) c') (Hx H L) → slcV P w0 t bb ee (.slice (some ⟨b, o, sp⟩) rows.length c) lo hi none (Hx H L) k) ∧
      ∀ L, srcO (h - l) (rd w0 (Hx H L) a ((h - l) * n)) = some (h - l, flat enc ((rows.drop l).take (h - l))) := by
  by_cases hd : l = c ∧ sp.isSome = true
  · obtain ⟨rfl, hs⟩ := hd
    cases sp with
    | none => cases hs
    | some tag =>
      have h0 : tag ≠ 0 := by
        intro e
        subst e
        have := hr []
        simp only [rd] at this
        split at this
        · split at this
          · rename_i hq
            have : rows.length * n ≥ 1 * 1 := Nat.mul_le_mul hp hn
            omega
          · cases this
        · cases this
      obtain ⟨tg, rfl⟩ : ∃ tg, tag = tg + 1 := ⟨tag - 1, by omega⟩
      have e0 : h - l = 0 := by omega
      rw [e0]
      refine ⟨⟨b, o, some tg⟩, 0, Nat.le_refl _, fun t e L lo hi bb ee K k h1 h2 h3 hk => slc_end h1 h2 h3 _ _ _ _ (by omega) (by omega) (by omega) (ho L) rfl hk, fun L => ?_⟩
      rw [List.take_zero]
      cases hq : rd w0 (Hx H L) ⟨b, o, some tg⟩ (0 * n) with
      | none => rfl
      | some l2 =>
        have := rd_len hq
        rw [Nat.zero_mul] at this
        rw [List.eq_nil_of_length_eq_zero this]
        rfl
  · by_cases hd2 : l = c
    · subst hd2
      have hs : sp = none := by
        cases sp with
        | none => rfl
        | some _ => exact absurd ⟨rfl, rfl⟩ hd
      subst hs
      have e0 : h - l = 0 := by omega
      rw [e0]
      refine ⟨⟨b, o, none⟩, 0, Nat.le_refl _, fun t e L lo hi bb ee K k h1 h2 h3 hk => ?_, fun L => by rw [Nat.zero_mul, List.take_zero]; rfl⟩
      refine ⟨e, n, h1, by simp, l, h, l, h2, h3, rfl, by omega, by omega, by omega, Int.le_refl _, trivial, .inr (.inl ⟨fun hx => (by cases hx), ?_⟩)⟩
      rw [if_pos rfl]
      have : (h : Int).toNat - (l : Int).toNat = 0 := by omega
      rw [this]
      simpa using hk
    · refine ⟨⟨b, o + l * n, sp⟩, c - l, by omega, fun t e L lo hi bb ee K k h1 h2 h3 hk => slc_sl h1 h2 h3 _ _ _ _ (by omega) (by omega) (by omega) (ho L) (by omega) (by simpa using hk), fun L => ?_⟩
      have hle : l * n + (h - l) * n ≤ rows.length * n := by rw [← Nat.add_mul]; exact Nat.mul_le_mul_right _ (by omega)
      rw [rd_part (hr L) (l * n) ((h - l) * n) hle, flat_part he rows l (h - l) (by omega)]
      rfl
end
end Go.Proofs.YtmacpgoclhgafaaGreatDoorW.XM

namespace Go.Proofs.YtmacpgoclhgafaaGreatDoorW.FA
open Go.RowKit Go.Proofs.YtmacpgoclhgafaaGreatDoorW.XM Go.Proofs Go.Proofs.YtmacpgoclhgafaaGreatDoorW.XWords
set_option maxRecDepth 100000
set_option linter.unusedSimpArgs false
variable (w0 : World) (H : Hp)
def outI {α : Type} (l : List α) (i : Int) : List α := if 0 ≤ i then l.take i.toNat ++ l.drop (i.toNat + 1) else l
def roleI (l : List Mem) (i : Int) (num : Int) : List Mem := if 0 ≤ i then (match l[i.toNat]? with | some m => l.set i.toNat ⟨m.user, m.nick, num⟩ | none => l) else l
def applyR (R : Rm) (e : En) : Rm :=
  if (e.kind == 1) = true then ⟨R.name, IntKind.i64.wrap (e.seq + 1), R.ms ++ [⟨e.user, e.nick, e.num⟩], R.ks, R.subj⟩
  else if (e.kind == 2) = true then ⟨R.name, IntKind.i64.wrap (e.seq + 1), outI R.ms (idxP (isU e.user) R.ms 0), R.ks, R.subj⟩
  else if (e.kind == 4) = true then ⟨R.name, IntKind.i64.wrap (e.seq + 1), R.ms, R.ks, e.text⟩
  else if (e.kind == 5) = true then ⟨R.name, IntKind.i64.wrap (e.seq + 1), roleI R.ms (idxP (isU e.user) R.ms 0) e.num, R.ks, R.subj⟩
  else if (e.kind == 6) = true then ⟨R.name, IntKind.i64.wrap (e.seq + 1), R.ms, rkd e.user e.num R.ks, R.subj⟩
  else ⟨R.name, IntKind.i64.wrap (e.seq + 1), R.ms, R.ks, R.subj⟩
/-- A room whose members may be taken in part. -/
structure RmOw (w0 : World) (H : Hp) (R : Rm) (x : Ad) : Prop where
  cm : R.ms.length ≤ x.c
  om : ∀ b o sp, x.a = some ⟨b, o, sp⟩ → ∀ L, Go.Proofs.YtmacpgoclhgafaaGreatDoorW.XM.ownB Tryz.prog (Hx H L) 3 b sp
  rm : ∀ b o sp, x.a = some ⟨b, o, sp⟩ → ∀ L, rd w0 (Hx H L) ⟨b, o, sp⟩ (R.ms.length * 3) = some (flat Mem.enc R.ms)
/-- A cell of a row changed. -/
theorem flat_put {α : Type} {enc : α → List Value} {n : Nat} (he : ∀ a, (enc a).length = n) : ∀ (l : List α) (k : Nat) (y : α) (hk : k < l.length) (f : Nat) (v : Value), f < n → (enc l[k]).set f v = enc y → (flat enc l).set (k * n + f) v = flat enc (l.set k y)
  | a :: r, 0, y, _, f, v, hf, h => by
    have e : flat enc (a :: r) = enc a ++ flat enc r := rfl
    rw [e, Nat.zero_mul, Nat.zero_add, List.set_append_left _ _ (by rw [he]; exact hf)]
    rw [show (enc a).set f v = enc y from h]
    rfl
  | a :: r, k + 1, y, hk, f, v, hf, h => by
    have e : flat enc (a :: r) = enc a ++ flat enc r := rfl
    rw [e, List.set_append_right _ _ (by rw [he, Nat.succ_mul]; omega), he, show (k + 1) * n + f - n = k * n + f by rw [Nat.succ_mul]; omega, flat_put he r k y (by simpa using hk) f v hf (by simpa using h)]
    rfl
theorem l6Apply_ok (R : Rm) (x : Ad) (e : En) (hr : RmAt w0 H R x) (ho : RmOw w0 H R x) : AFn Tryz.prog w0 49 #[.agg (R.enc x).toArray, .agg e.enc.toArray] H fun v H2 => v = .agg ((applyR R e).enc (adR H (applyR R e) 0 1)).toArray ∧ H2 = Hx H (obsR (applyR R e)) := by
  obtain ⟨xa, xc, xb, xd⟩ := x
  have hlm := hr.lm
  have hlk := hr.lk
  refine AFn.news Tryz.func49 rfl (by kernel_rfl) ?_
  have r := Tryz.results49
  simp only [go_sem, cond, Nat.reduceAdd, Nat.reduceLeDiff, Nat.reduceEqDiff, Nat.reduceBEq, decide_true, decide_false, Int.toNat_natCast, r]
  simp only [go_sem, cond, Nat.reduceAdd, Nat.reduceLeDiff, Nat.reduceEqDiff, Nat.reduceBEq, decide_true, decide_false, Int.toNat_natCast, Rm.enc, En.enc, r]
  refine call_eq (l6Copy_ok _ _ R _ (hr.old _)) ?_
  simp only [go_sem, cond, Nat.reduceAdd, Nat.reduceLeDiff, Nat.reduceEqDiff, Nat.reduceBEq, decide_true, decide_false, Int.toNat_natCast, Rm.enc, En.enc, r, obsR, adR]
  refine Br_intro ?_ ?_ <;> intro h1 <;> simp only [go_sem, cond, Nat.reduceAdd, Nat.reduceLeDiff, Nat.reduceEqDiff, Nat.reduceBEq, decide_true, decide_false, Int.toNat_natCast, Rm.enc, En.enc, r, obsR, adR, h1]
  · refine Req_intro ⟨_, rfl, rfl⟩ ?_
    simp only [go_sem, cond, Nat.reduceAdd, Nat.reduceLeDiff, Nat.reduceEqDiff, Nat.reduceBEq, decide_true, decide_false, Int.toNat_natCast, Rm.enc, En.enc, r, obsR, adR, h1]
    refine appS_full _ _ _ _ _ _ _ _ 3 _ _ _ _ rfl rfl (flat_len mlen _) XF.lay_67 (by decide) (by rfl) (by omega) (by omega) ?_
    simp only [go_sem, cond, Nat.reduceAdd, Nat.reduceLeDiff, Nat.reduceEqDiff, Nat.reduceBEq, decide_true, decide_false, Int.toNat_natCast, Rm.enc, En.enc, r, obsR, adR, h1]
    have ha : applyR R e = ⟨R.name, IntKind.i64.wrap (e.seq + 1), R.ms ++ [⟨e.user, e.nick, e.num⟩], R.ks, R.subj⟩ := by simp only [applyR, h1, if_true]
    rw [ha]
    have e1 : flat Mem.enc R.ms ++ [.string e.user, .string e.nick, .int .i64 e.num] = flat Mem.enc (R.ms ++ [⟨e.user, e.nick, e.num⟩]) := by rw [flat_app]; rfl
    have e2 : R.ms.length + 1 = (R.ms ++ [(⟨e.user, e.nick, e.num⟩ : Mem)]).length := by simp
    rw [e1, e2]
    clear e1 e2 ha
    generalize R.ms ++ [(⟨e.user, e.nick, e.num⟩ : Mem)] = ms'
    exact ⟨_, [3, 4], _, rfl, pl2 ms' R.ks rfl rfl, by decide, ren_room H ⟨R.name, IntKind.i64.wrap (e.seq + 1), ms', R.ks, R.subj⟩ rfl rfl, rfl, rfl⟩
  refine Br_intro ?_ ?_ <;> intro h2 <;> simp only [go_sem, cond, Nat.reduceAdd, Nat.reduceLeDiff, Nat.reduceEqDiff, Nat.reduceBEq, decide_true, decide_false, Int.toNat_natCast, Rm.enc, En.enc, r, obsR, adR, h1, h2]
  · refine call_eq (l6Of_ok _ _ R _ _ (hr.old _)) ?_
    simp only [go_sem, cond, Nat.reduceAdd, Nat.reduceLeDiff, Nat.reduceEqDiff, Nat.reduceBEq, decide_true, decide_false, Int.toNat_natCast, r]
    have ha : applyR R e = ⟨R.name, IntKind.i64.wrap (e.seq + 1), outI R.ms (idxP (isU e.user) R.ms 0), R.ks, R.subj⟩ := by simp only [applyR, h1, h2, if_true, Bool.false_eq_true, if_false]
    rw [ha]
    clear ha
    rcases idxP_find (isU e.user) R.ms 0 with ⟨g1, _⟩ | ⟨k, hk, g1, _⟩
    · have d1 : ((0 : Int) ≤ -1) = False := eq_false (by omega)
      rw [g1]
      simp only [go_sem, cond, Nat.reduceAdd, Nat.reduceLeDiff, Nat.reduceEqDiff, Nat.reduceBEq, decide_true, decide_false, Int.toNat_natCast, r, d1]
      have ha : outI R.ms (-1) = R.ms := rfl
      rw [ha]
      exact ⟨_, [3, 4], _, rfl, pl2 R.ms R.ks rfl rfl, by decide, ren_room H ⟨R.name, IntKind.i64.wrap (e.seq + 1), R.ms, R.ks, R.subj⟩ rfl rfl, rfl, rfl⟩
    · rw [Nat.zero_add] at g1
      have d1 : ((0 : Int) ≤ (k : Int)) = True := eq_true (by omega)
      rw [g1]
      simp only [go_sem, cond, Nat.reduceAdd, Nat.reduceLeDiff, Nat.reduceEqDiff, Nat.reduceBEq, decide_true, decide_false, Int.toNat_natCast, r, d1]
      obtain ⟨b, o, sp, rfl, _, _⟩ := mcell hr.sm hk
      have w1 : IntKind.i64.wrap ((k : Int) + 1) = ((k + 1 : Nat) : Int) := by rw [wrap_i64 (by omega) (by omega)]; omega
      obtain ⟨a1, c1, _, s1, q1⟩ := slc_part mlen (by decide) (ho.rm b o sp rfl) ho.cm (ho.om b o sp rfl) (l := 0) (h := k) (by omega) (by omega) (by omega)
      obtain ⟨a2, c2, _, s2, q2⟩ := slc_part mlen (by decide) (ho.rm b o sp rfl) ho.cm (ho.om b o sp rfl) (l := k + 1) (h := R.ms.length) (by omega) (by omega) (by omega)
      simp only [Nat.sub_zero, List.drop_zero] at s1 q1
      have e3 : (R.ms.drop (k + 1)).take (R.ms.length - (k + 1)) = R.ms.drop (k + 1) := List.take_of_length_le (by simp)
      rw [e3] at q2
      (refine xw_open (id := 9) [0, 0, 2, 0, 14, 31, 0, 64, 0, 256, 960, 2047, 4095, 8191] [.q 1, .q 3, .q 6, .q 8, .q 9, .l 2, .l 4, .l 7, .l 10, .e 0, .d 4, .d 2, .e 5, .d 10, .d 7, .e 11, .q 12, .e 13] rfl (by kernel_rfl) ?_; simp only [go_sem, cond, Nat.reduceAdd, Nat.reduceLeDiff, Nat.reduceEqDiff, Nat.reduceBEq, decide_true, decide_false, Int.toNat_natCast, r, w1])
      refine s1 _ _ _ _ _ _ _ _ _ XF.elm_23 rfl rfl ?_
      simp only [go_sem, cond, Nat.reduceAdd, Nat.reduceLeDiff, Nat.reduceEqDiff, Nat.reduceBEq, decide_true, decide_false, Int.toNat_natCast, r, w1]
      refine s2 _ _ _ _ _ _ _ _ _ XF.elm_23 rfl rfl ?_
      simp only [go_sem, cond, Nat.reduceAdd, Nat.reduceLeDiff, Nat.reduceEqDiff, Nat.reduceBEq, decide_true, decide_false, Int.toNat_natCast, r, w1]
      refine Req_intro ⟨_, rfl, rfl⟩ ?_
      simp only [go_sem, cond, Nat.reduceAdd, Nat.reduceLeDiff, Nat.reduceEqDiff, Nat.reduceBEq, decide_true, decide_false, Int.toNat_natCast, r, w1]
      refine Req_intro (s2 _ _ _ _ _ _ _ _ _ XF.elm_23 rfl rfl ⟨rfl, rfl⟩) ?_
      simp only [go_sem, cond, Nat.reduceAdd, Nat.reduceLeDiff, Nat.reduceEqDiff, Nat.reduceBEq, decide_true, decide_false, Int.toNat_natCast, r, w1]
      refine Req_intro (s1 _ _ _ _ _ _ _ _ _ XF.elm_23 rfl rfl ⟨rfl, rfl⟩) ?_
      simp only [go_sem, cond, Nat.reduceAdd, Nat.reduceLeDiff, Nat.reduceEqDiff, Nat.reduceBEq, decide_true, decide_false, Int.toNat_natCast, r, w1, q1]
      refine appS_full _ _ _ _ _ _ _ _ 6 0 _ _ _ rfl rfl rfl XF.lay_67 (by decide) (flat_len mlen _ |>.trans (by rw [List.length_take, Nat.min_eq_left (by omega)])) (by omega) (by omega) ?_
      simp only [go_sem, cond, Nat.reduceAdd, Nat.reduceLeDiff, Nat.reduceEqDiff, Nat.reduceBEq, decide_true, decide_false, Int.toNat_natCast, r, w1, q1, Nat.zero_add, List.nil_append]
      refine Req_intro (s2 _ _ _ _ _ _ _ _ _ XF.elm_23 rfl rfl ⟨rfl, rfl⟩) ?_
      simp only [go_sem, cond, Nat.reduceAdd, Nat.reduceLeDiff, Nat.reduceEqDiff, Nat.reduceBEq, decide_true, decide_false, Int.toNat_natCast, r, w1, q2]
      refine appS_full _ _ _ _ _ _ _ _ 6 k _ _ _ rfl rfl (flat_len mlen _ |>.trans (by rw [List.length_take, Nat.min_eq_left (by omega)])) XF.lay_67 (by decide) (flat_len mlen _ |>.trans (by rw [List.length_drop])) (by omega) (by omega) ?_
      simp only [go_sem, cond, Nat.reduceAdd, Nat.reduceLeDiff, Nat.reduceEqDiff, Nat.reduceBEq, decide_true, decide_false, Int.toNat_natCast, r, w1]
      rw [← flat_app]
      have e4 : outI R.ms (k : Int) = R.ms.take k ++ R.ms.drop (k + 1) := by unfold outI; rw [if_pos (by omega), Int.toNat_natCast]
      have e5 : k + (R.ms.length - (k + 1)) = (R.ms.take k ++ R.ms.drop (k + 1)).length := by rw [List.length_append, List.length_take, List.length_drop]; omega
      rw [e4, e5]
      clear e4 e5 e3 s1 s2 q1 q2
      generalize R.ms.take k ++ R.ms.drop (k + 1) = ms'
      exact ⟨_, [6, 4], _, rfl, pl2 ms' R.ks rfl rfl, by decide, ren_room H ⟨R.name, IntKind.i64.wrap (e.seq + 1), ms', R.ks, R.subj⟩ rfl rfl, rfl, rfl⟩
  refine Br_intro ?_ ?_ <;> intro h3 <;> simp only [go_sem, cond, Nat.reduceAdd, Nat.reduceLeDiff, Nat.reduceEqDiff, Nat.reduceBEq, decide_true, decide_false, Int.toNat_natCast, Rm.enc, En.enc, r, obsR, adR, h1, h2, h3]
  · have ha : applyR R e = ⟨R.name, IntKind.i64.wrap (e.seq + 1), R.ms, R.ks, e.text⟩ := by simp only [applyR, h1, h2, h3, if_true, Bool.false_eq_true, if_false]
    rw [ha]
    exact ⟨_, [3, 4], _, rfl, pl2 R.ms R.ks rfl rfl, by decide, ren_room H ⟨R.name, IntKind.i64.wrap (e.seq + 1), R.ms, R.ks, e.text⟩ rfl rfl, rfl, rfl⟩
  refine Br_intro ?_ ?_ <;> intro h4 <;> simp only [go_sem, cond, Nat.reduceAdd, Nat.reduceLeDiff, Nat.reduceEqDiff, Nat.reduceBEq, decide_true, decide_false, Int.toNat_natCast, Rm.enc, En.enc, r, obsR, adR, h1, h2, h3, h4]
  · refine call_eq (l6Of_ok _ _ R _ _ (hr.old _)) ?_
    simp only [go_sem, cond, Nat.reduceAdd, Nat.reduceLeDiff, Nat.reduceEqDiff, Nat.reduceBEq, decide_true, decide_false, Int.toNat_natCast, r]
    have ha : applyR R e = ⟨R.name, IntKind.i64.wrap (e.seq + 1), roleI R.ms (idxP (isU e.user) R.ms 0) e.num, R.ks, R.subj⟩ := by simp only [applyR, h1, h2, h3, h4, if_true, Bool.false_eq_true, if_false]
    rw [ha]
    clear ha
    rcases idxP_find (isU e.user) R.ms 0 with ⟨g1, _⟩ | ⟨k, hk, g1, _⟩
    · have d1 : ((0 : Int) ≤ -1) = False := eq_false (by omega)
      rw [g1]
      simp only [go_sem, cond, Nat.reduceAdd, Nat.reduceLeDiff, Nat.reduceEqDiff, Nat.reduceBEq, decide_true, decide_false, Int.toNat_natCast, r, d1]
      have ha : roleI R.ms (-1) e.num = R.ms := rfl
      rw [ha]
      exact ⟨_, [3, 4], _, rfl, pl2 R.ms R.ks rfl rfl, by decide, ren_room H ⟨R.name, IntKind.i64.wrap (e.seq + 1), R.ms, R.ks, R.subj⟩ rfl rfl, rfl, rfl⟩
    · rw [Nat.zero_add] at g1
      have d1 : ((0 : Int) ≤ (k : Int)) = True := eq_true (by omega)
      have d2 : ((k : Int) < (R.ms.length : Int)) = True := eq_true (by omega)
      rw [g1]
      have hlen := flat_len mlen R.ms
      simp only [go_sem, cond, Nat.reduceAdd, Nat.reduceLeDiff, Nat.reduceEqDiff, Nat.reduceBEq, decide_true, decide_false, Int.toNat_natCast, r, d1, d2, hlen]
      refine Req_intro (by omega) ?_
      simp only [go_sem, cond, Nat.reduceAdd, Nat.reduceLeDiff, Nat.reduceEqDiff, Nat.reduceBEq, decide_true, decide_false, Int.toNat_natCast, r, d1, d2, hlen]
      have p0 : (flat Mem.enc R.ms).set (k * 3 + 2) (.int .i64 e.num) = flat Mem.enc (roleI R.ms (k : Int) e.num) := by
        unfold roleI
        rw [if_pos (by omega), Int.toNat_natCast]
        have := flat_put mlen R.ms k ⟨R.ms[k].user, R.ms[k].nick, e.num⟩ hk 2 (.int .i64 e.num) (by decide) rfl
        rw [this, List.getElem?_eq_getElem hk]
      have e5 : R.ms.length = (roleI R.ms (k : Int) e.num).length := by unfold roleI; rw [if_pos (by omega), Int.toNat_natCast, List.getElem?_eq_getElem hk]; simp
      rw [p0, e5]
      clear e5 p0 hlen
      generalize roleI R.ms (k : Int) e.num = ms'
      exact ⟨_, [3, 4], _, rfl, pl2 ms' R.ks rfl rfl, by decide, ren_room H ⟨R.name, IntKind.i64.wrap (e.seq + 1), ms', R.ks, R.subj⟩ rfl rfl, rfl, rfl⟩
  refine Br_intro ?_ ?_ <;> intro h5 <;> simp only [go_sem, cond, Nat.reduceAdd, Nat.reduceLeDiff, Nat.reduceEqDiff, Nat.reduceBEq, decide_true, decide_false, Int.toNat_natCast, Rm.enc, En.enc, r, obsR, adR, h1, h2, h3, h4, h5]
  · refine call_eq (l6Ranked_ok _ _ xb xd R.ks e.user e.num (hr.sk.old _) hlk) ?_
    simp only [go_sem, cond, Nat.reduceAdd, Nat.reduceLeDiff, Nat.reduceEqDiff, Nat.reduceBEq, decide_true, decide_false, Int.toNat_natCast, r]
    have ha : applyR R e = ⟨R.name, IntKind.i64.wrap (e.seq + 1), R.ms, rkd e.user e.num R.ks, R.subj⟩ := by simp only [applyR, h1, h2, h3, h4, h5, if_true, Bool.false_eq_true, if_false]
    rw [ha]
    clear ha
    generalize rkd e.user e.num R.ks = ks'
    exact ⟨_, [3, 6], _, rfl, pl2 R.ms ks' rfl rfl, by decide, ren_room H ⟨R.name, IntKind.i64.wrap (e.seq + 1), R.ms, ks', R.subj⟩ rfl rfl, rfl, rfl⟩
  · have ha : applyR R e = ⟨R.name, IntKind.i64.wrap (e.seq + 1), R.ms, R.ks, R.subj⟩ := by simp only [applyR, h1, h2, h3, h4, h5, if_true, Bool.false_eq_true, if_false]
    rw [ha]
    exact ⟨_, [3, 4], _, rfl, pl2 R.ms R.ks rfl rfl, by decide, ren_room H ⟨R.name, IntKind.i64.wrap (e.seq + 1), R.ms, R.ks, R.subj⟩ rfl rfl, rfl, rfl⟩
end Go.Proofs.YtmacpgoclhgafaaGreatDoorW.FA

namespace Go.Proofs.YtmacpgoclhgafaaGreatDoorW.FA
open Go.RowKit Go.Proofs.YtmacpgoclhgafaaGreatDoorW.XM Go.Proofs Go.Proofs.YtmacpgoclhgafaaGreatDoorW.XWords
set_option maxRecDepth 100000
set_option linter.unusedSimpArgs false
variable {w0 : World} {H : Hp}
theorem rd_flat {α : Type} {enc : α → List Value} {n : Nat} (he : ∀ a, (enc a).length = n) (t : TypeId) (ls : List α) (B : Hp) (l : List (Option Ob)) (j : Nat) (hl : l[j]? = some (some (.row t (flat enc ls)))) (L : List (Option Ob)) : rd w0 (Hx (Hx B l) L) ⟨nid B j, 0, some (ls.length * n)⟩ (ls.length * n) = some (flat enc ls) := by
  refine rd_old ?_ L
  rw [rd_own, hl, rdO_row, if_pos ⟨flat_len he ls, by rw [flat_len he]; omega⟩, List.drop_zero, List.take_of_length_le (by rw [flat_len he]; exact Nat.le_refl _)]
theorem RmAt_own {B : Hp} {l : List (Option Ob)} {j k : Nat} {R : Rm} (hj : l[j]? = some (some (.row 67 (flat Mem.enc R.ms)))) (hk : l[k]? = some (some (.row 43 (flat Rk.enc R.ks)))) (lm : R.ms.length ≤ 2000000) (lk : R.ks.length ≤ 2000000) : RmAt w0 (Hx B l) R (adR B R j k) :=
  ⟨Sl_own mlen _ R.ms B l j hj, Sl_own klen _ R.ks B l k hk, lm, lk, fun L => by rw [adR, src_sl, rd_flat mlen _ R.ms B l j hj]; rfl, fun L => by rw [adR, src_sl, rd_flat klen _ R.ks B l k hk]; rfl⟩
theorem RmOw_own {B : Hp} {l : List (Option Ob)} {j k : Nat} {R : Rm} (hj : l[j]? = some (some (.row 67 (flat Mem.enc R.ms)))) : RmOw w0 (Hx B l) R (adR B R j k) := by
  refine ⟨Nat.le_refl _, fun b o sp e L => ?_, fun b o sp e L => ?_⟩
  · cases e
    refine ⟨_, flat Mem.enc R.ms, false || true, ?_, flat_len mlen R.ms, XF.lay_67⟩
    have := lt_of_get hj
    rw [Hx_Hx, Hx_get, List.getElem?_append_left this]
    exact hj
  · cases e
    exact rd_flat mlen _ R.ms B l j hj L
theorem RmOw.old {R : Rm} {x : Ad} (h : RmOw w0 H R x) (l : List (Option Ob)) : RmOw w0 (Hx H l) R x := ⟨h.cm, fun b o sp e L => by rw [Hx_Hx]; exact h.om b o sp e _, fun b o sp e L => by rw [Hx_Hx]; exact h.rm b o sp e _⟩
theorem Big.of_mem {R : Rm} (nm : R.name.size ≤ 1000000000000) (sj : R.subj.size ≤ 1000000000000) (hm : ∀ m ∈ R.ms, m.user.size ≤ 1000000000000 ∧ m.nick.size ≤ 1000000000000) (hk : ∀ k ∈ R.ks, k.user.size ≤ 1000000000000) : Big R :=
  ⟨nm, sj, fun i h => (hm _ (List.getElem_mem h)).1, fun i h => (hm _ (List.getElem_mem h)).2, fun i h => hk _ (List.getElem_mem h)⟩
theorem Big.mem {R : Rm} (hb : Big R) : (∀ m ∈ R.ms, m.user.size ≤ 1000000000000 ∧ m.nick.size ≤ 1000000000000) ∧ ∀ k ∈ R.ks, k.user.size ≤ 1000000000000 := by
  refine ⟨fun m hm => ?_, fun k hk => ?_⟩
  · obtain ⟨i, h, rfl⟩ := List.mem_iff_getElem.1 hm
    exact ⟨hb.us i h, hb.ni i h⟩
  · obtain ⟨i, h, rfl⟩ := List.mem_iff_getElem.1 hk
    exact hb.ku i h
theorem stpK_mem (u : ByteArray) (num : Int) (x : Rk) (st : Bool × List Rk) : (stpK u num x st).2.length ≤ st.2.length + 2 ∧ ∀ y ∈ (stpK u num x st).2, y ∈ st.2 ∨ y = x ∨ y = ⟨u, num⟩ := by
  unfold stpK
  simp only
  constructor
  · repeat' split
    all_goals first | omega | (simp; done) | (simp; omega)
  · intro y hy
    repeat' split at hy
    all_goals first
      | exact .inl hy
      | (rcases List.mem_append.1 hy with hy | hy
         · first
             | exact .inl hy
             | (rcases List.mem_append.1 hy with hy | hy
                · exact .inl hy
                · exact .inr (.inr (by simpa using hy)))
         · first
             | exact .inr (.inl (by simpa using hy))
             | exact .inr (.inr (by simpa using hy)))
theorem runK_mem (u : ByteArray) (num : Int) : ∀ (l : List Rk) (st : Bool × List Rk), (runK u num l st).2.length ≤ st.2.length + 2 * l.length ∧ ∀ y ∈ (runK u num l st).2, y ∈ st.2 ∨ y ∈ l ∨ y = ⟨u, num⟩
  | [], st => ⟨by simp [runK], fun y hy => .inl hy⟩
  | x :: l, st => by
    obtain ⟨a, b⟩ := stpK_mem u num x st
    obtain ⟨c, d⟩ := runK_mem u num l (stpK u num x st)
    refine ⟨by simp only [runK, List.foldl_cons, List.length_cons] at c ⊢; omega, fun y hy => ?_⟩
    rcases d y hy with h | h | h
    · rcases b y h with h | h | h
      · exact .inl h
      · exact .inr (.inl (by simp [h]))
      · exact .inr (.inr h)
    · exact .inr (.inl (List.mem_cons_of_mem _ h))
    · exact .inr (.inr h)
theorem rkd_mem (u : ByteArray) (num : Int) (l : List Rk) : (rkd u num l).length ≤ 2 * l.length + 1 ∧ ∀ y ∈ rkd u num l, y ∈ l ∨ y = ⟨u, num⟩ := by
  obtain ⟨a, b⟩ := runK_mem u num l (num == 1, [])
  unfold rkd
  simp only
  split
  · exact ⟨by simp at a; omega, fun y hy => by rcases b y hy with h | h | h; cases h; exact .inl h; exact .inr h⟩
  · refine ⟨by simp at a ⊢; omega, fun y hy => ?_⟩
    rcases List.mem_append.1 hy with hy | hy
    · rcases b y hy with h | h | h
      · cases h
      · exact .inl h
      · exact .inr h
    · exact .inr (by simpa using hy)
theorem outI_mem {α : Type} (l : List α) (i : Int) : (outI l i).length ≤ l.length ∧ ∀ x ∈ outI l i, x ∈ l := by
  unfold outI
  split
  · refine ⟨by simp; omega, fun x hx => ?_⟩
    rcases List.mem_append.1 hx with h | h
    · exact List.mem_of_mem_take h
    · exact List.mem_of_mem_drop h
  · exact ⟨Nat.le_refl _, fun x hx => hx⟩
theorem roleI_mem (l : List Mem) (i num : Int) : (roleI l i num).length = l.length ∧ ∀ x ∈ roleI l i num, ∃ y ∈ l, x.user = y.user ∧ x.nick = y.nick := by
  unfold roleI
  split
  · split
    · rename_i m hm
      refine ⟨by simp, fun x hx => ?_⟩
      rcases List.mem_or_eq_of_mem_set hx with h | h
      · exact ⟨x, h, rfl, rfl⟩
      · exact ⟨m, List.mem_of_getElem? hm, by rw [h], by rw [h]⟩
    · exact ⟨rfl, fun x hx => ⟨x, hx, rfl, rfl⟩⟩
  · exact ⟨rfl, fun x hx => ⟨x, hx, rfl, rfl⟩⟩
theorem applyR_len (R : Rm) (e : En) : (applyR R e).ms.length ≤ R.ms.length + 1 ∧ (applyR R e).ks.length ≤ 2 * R.ks.length + 1 := by
  have h1 := (rkd_mem e.user e.num R.ks).1
  have h2 := (outI_mem R.ms (idxP (isU e.user) R.ms 0)).1
  have h3 := (roleI_mem R.ms (idxP (isU e.user) R.ms 0) e.num).1
  unfold applyR
  repeat' split
  all_goals first | omega | (simp; done) | (simp; omega)
theorem applyR_big (R : Rm) (e : En) (hb : Big R) (he : BigE e) : Big (applyR R e) := by
  obtain ⟨hm, hk⟩ := hb.mem
  unfold applyR
  repeat' split
  all_goals refine Big.of_mem hb.nm (by first | exact hb.sj | exact he.tx) ?_ ?_
  all_goals first
    | exact hm
    | exact hk
    | skip
  · intro m h
    rcases List.mem_append.1 h with h | h
    · exact hm m h
    · simp only [List.mem_singleton] at h
      subst h
      exact ⟨he.us, he.ni⟩
  · exact fun m h => hm m ((outI_mem _ _).2 m h)
  · intro m h
    obtain ⟨y, h1, h2, h3⟩ := (roleI_mem _ _ _).2 m h
    rw [h2, h3]
    exact hm y h1
  · intro k h
    rcases (rkd_mem _ _ _).2 k h with h | h
    · exact hk k h
    · subst h; exact he.us
end Go.Proofs.YtmacpgoclhgafaaGreatDoorW.FA

namespace Go.Proofs.YtmacpgoclhgafaaGreatDoorW.FA
open Go.RowKit Go.Proofs.YtmacpgoclhgafaaGreatDoorW.XM Go.Proofs Go.Proofs.YtmacpgoclhgafaaGreatDoorW.XWords
set_option maxRecDepth 100000
set_option linter.unusedSimpArgs false
variable (w0 : World) (H : Hp)
def needB (R : Rm) (e : En) : Bool := (e.kind == 6) || ((e.kind == 1) || isB R e)
def canB (R : Rm) (e : En) : Bool := entB e && ((e.room.toList == R.name.toList) && ((e.seq == R.next) && (needB R e && roomB (applyR R e))))
end Go.Proofs.YtmacpgoclhgafaaGreatDoorW.FA

namespace Go.Proofs.YtmacpgoclhgafaaGreatDoorW.FA
open Go.RowKit Go.Proofs.YtmacpgoclhgafaaGreatDoorW.XM Go.Proofs Go.Proofs.YtmacpgoclhgafaaGreatDoorW.XWords
set_option maxRecDepth 100000
set_option linter.unusedSimpArgs false
variable (w0 : World) (H : Hp)
def outR (R : Rm) (e : En) : Rm := if canB R e = true then applyR R e else R
theorem ren_roomT (R : Rm) (b : Bool) {sel : List Nat} {j k j' k' : Nat} (hj : idx j sel = some j') (hk : idx k sel = some k') : ren3 (rho H sel) (.tuple #[.agg (R.enc (adR H R j k)).toArray, .bool b]) = some (.tuple #[.agg (R.enc (adR H R j' k')).toArray, .bool b]) := by
  simp [ren3, ren2, renL, ren1, Rm.enc, adR, rho_nid, hj, hk, plain]
end Go.Proofs.YtmacpgoclhgafaaGreatDoorW.FA

namespace Go.Proofs.YtmacpgoclhgafaaGreatDoorW.FA
open Go.RowKit Go.Proofs.YtmacpgoclhgafaaGreatDoorW.XM Go.Proofs Go.Proofs.YtmacpgoclhgafaaGreatDoorW.XWords
set_option maxRecDepth 100000
set_option linter.unusedSimpArgs false
theorem ba_ext {x y : ByteArray} (h : x.toList = y.toList) : x = y := by
  rw [ByteArray.toList_eq, ByteArray.toList_eq] at h
  exact ByteArray.ext (Array.toList_inj.mp h)
theorem less_irrefl : ∀ x : List UInt8, Op.bytesLess x x = false
  | [] => rfl
  | a :: x => by
    simp only [Op.bytesLess, less_irrefl x, Bool.and_false, Bool.or_false, decide_eq_false_iff_not]
    exact UInt8.lt_irrefl a
theorem less_trans : ∀ x y z : List UInt8, Op.bytesLess x y = true → Op.bytesLess y z = true → Op.bytesLess x z = true
  | x, y, [], _, h => by cases y <;> simp [Op.bytesLess] at h
  | x, [], _ :: _, h, _ => by cases x <;> simp [Op.bytesLess] at h
  | [], _ :: _, _ :: _, _, _ => rfl
  | a :: x, b :: y, c :: z, h1, h2 => by
    have ih := less_trans x y z
    simp only [Op.bytesLess, Bool.or_eq_true, decide_eq_true_eq, Bool.and_eq_true, beq_iff_eq] at h1 h2 ⊢
    rcases h1 with h1 | ⟨rfl, h1⟩
    · rcases h2 with h2 | ⟨rfl, h2⟩
      · exact .inl (UInt8.lt_trans h1 h2)
      · exact .inl h1
    · rcases h2 with h2 | ⟨rfl, h2⟩
      · exact .inl h2
      · exact .inr ⟨rfl, ih h1 h2⟩
/-- In order: each stands behind the one ahead of it. -/
def Asc : List Rk → Prop
  | [] => True
  | x :: t => (∀ y ∈ t, Op.bytesLess x.user.toList y.user.toList = true) ∧ Asc t
theorem asc_pair : ∀ (l : List Rk), (∀ i (h : i + 1 < l.length), Op.bytesLess (l[i]'(Nat.lt_of_succ_lt h)).user.toList l[i + 1].user.toList = true) → Asc l
  | [], _ => trivial
  | [x], _ => ⟨fun y hy => absurd hy (by simp), trivial⟩
  | x :: y :: t, h => by
    have ih := asc_pair (y :: t) (fun i hi => h (i + 1) (by simpa using hi))
    refine ⟨fun z hz => ?_, ih⟩
    have h0 : Op.bytesLess x.user.toList y.user.toList = true := h 0 (by simp)
    rcases List.mem_cons.1 hz with rfl | hz
    · exact h0
    · exact less_trans _ _ _ h0 (ih.1 z hz)
theorem allI_get {α : Type} (p : Nat → α → Bool) : ∀ (l : List α) (i : Nat), allI p l i = true → ∀ j (h : j < l.length), p (i + j) l[j] = true
  | [], _, _, j, h => by simp at h
  | x :: t, i, ha, j, h => by
    simp only [allI, Bool.and_eq_true] at ha
    cases j with
    | zero => exact ha.1
    | succ j =>
      have := allI_get p t (i + 1) ha.2 j (by simpa using h)
      rw [show i + (j + 1) = i + 1 + j by omega]
      exact this
theorem asc_room {R : Rm} (h : allI (rkB R) R.ks 0 = true) : Asc R.ks := by
  refine asc_pair _ fun i hi => ?_
  have := allI_get _ _ _ h (i + 1) hi
  rw [Nat.zero_add] at this
  simp only [rkB, prevB, Bool.and_eq_true, List.getElem?_eq_getElem (Nat.lt_of_succ_lt hi)] at this
  exact this.2.1
/-- Without it; and set in. -/
def outK (u : ByteArray) : List Rk → List Rk
  | [] => []
  | x :: t => if x.user.toList = u.toList then outK u t else x :: outK u t
def inK (u : ByteArray) (num : Int) : List Rk → List Rk
  | [] => [⟨u, num⟩]
  | x :: t => if Op.bytesLess x.user.toList u.toList = true then (if x.user.toList = u.toList then inK u num t else x :: inK u num t) else ⟨u, num⟩ :: outK u (x :: t)
theorem out_all (u : ByteArray) : ∀ l : List Rk, (∀ x ∈ l, ¬ x.user.toList = u.toList) → outK u l = l
  | [], _ => rfl
  | x :: t, h => by
    rw [outK, if_neg (h x (List.mem_cons_self ..)), out_all u t (fun y hy => h y (List.mem_cons_of_mem _ hy))]
theorem ne_of_less {x y : List UInt8} (h : Op.bytesLess x y = true) : ¬ x = y := fun e => by rw [e, less_irrefl] at h; cases h
theorem tail_ne {x : Rk} {t : List Rk} {u : ByteArray} (ha : Asc (x :: t)) (hx : Op.bytesLess x.user.toList u.toList = false) : ∀ y ∈ t, ¬ y.user.toList = u.toList := fun y hy e => by
  have := ha.1 y hy
  rw [e, hx] at this
  cases this
/-- Where it stands, or would. -/
def atK (u : ByteArray) : List Rk → Nat
  | [] => 0
  | x :: t => if Op.bytesLess x.user.toList u.toList = true then atK u t + 1 else 0
def thereK (u : ByteArray) (l : List Rk) : Bool := match l[atK u l]? with
  | some k => k.user.toList == u.toList
  | none => false
theorem atK_le (u : ByteArray) : ∀ l : List Rk, atK u l ≤ l.length
  | [] => Nat.le_refl _
  | x :: t => by
    have := atK_le u t
    unfold atK
    split <;> simp <;> omega
theorem atK_lt (u : ByteArray) : ∀ (l : List Rk) (p : Nat) (hp : p < l.length), p < atK u l → Op.bytesLess l[p].user.toList u.toList = true
  | [], p, hp, _ => by simp at hp
  | x :: t, p, hp, h => by
    unfold atK at h
    split at h
    · rename_i hx
      cases p with
      | zero => exact hx
      | succ p => exact atK_lt u t p (by simpa using hp) (by omega)
    · omega
theorem atK_ge (u : ByteArray) : ∀ (l : List Rk), Asc l → ∀ (p : Nat) (hp : p < l.length), atK u l ≤ p → Op.bytesLess l[p].user.toList u.toList = false
  | [], _, p, hp, _ => by simp at hp
  | x :: t, ha, p, hp, h => by
    unfold atK at h
    split at h
    · cases p with
      | zero => omega
      | succ p => exact atK_ge u t ha.2 p (by simpa using hp) (by omega)
    · rename_i hx
      rw [Bool.not_eq_true] at hx
      cases p with
      | zero => exact hx
      | succ p =>
        have h1 := ha.1 (t[p]'(by simpa using hp)) (List.getElem_mem _)
        cases e : Op.bytesLess (x :: t)[p + 1].user.toList u.toList with
        | false => rfl
        | true =>
          have := less_trans _ _ _ h1 e
          rw [hx] at this
          cases this
/-- What the program's three ways come to. -/
def rankedI (u : ByteArray) (num : Int) (l : List Rk) : List Rk :=
  if thereK u l = true then (if num = 1 then l.eraseIdx (atK u l) else match l[atK u l]? with | some k => l.set (atK u l) ⟨k.user, num⟩ | none => l)
  else if num = 1 then l else l.take (atK u l) ++ ⟨u, num⟩ :: l.drop (atK u l)
theorem ranked_split (u : ByteArray) (num : Int) : ∀ (l : List Rk), Asc l → rankedI u num l = if num = 1 then outK u l else inK u num l
  | [], _ => by
    unfold rankedI thereK atK outK inK
    simp
  | x :: t, ha => by
    have ih := ranked_split u num t ha.2
    by_cases hx : Op.bytesLess x.user.toList u.toList = true
    · have hne := ne_of_less hx
      have e1 : atK u (x :: t) = atK u t + 1 := by rw [atK, if_pos hx]
      have e2 : thereK u (x :: t) = thereK u t := by unfold thereK; rw [e1]; simp
      have e3 : rankedI u num (x :: t) = x :: rankedI u num t := by
        unfold rankedI
        rw [e2, e1]
        simp only [List.getElem?_cons_succ]
        repeat' split
        all_goals simp
      rw [e3, ih, outK, inK, if_neg hne, if_pos hx, if_neg hne]
      split <;> rfl
    · rw [Bool.not_eq_true] at hx
      have ht := tail_ne ha hx
      have e1 : atK u (x :: t) = 0 := by rw [atK, if_neg (by rw [hx]; decide)]
      have e2 : thereK u (x :: t) = (x.user.toList == u.toList) := by unfold thereK; rw [e1]; rfl
      have ho : outK u (x :: t) = if x.user.toList = u.toList then t else x :: t := by rw [outK, out_all u t ht]
      have hi : inK u num (x :: t) = ⟨u, num⟩ :: outK u (x :: t) := by rw [inK, if_neg (by rw [hx]; decide)]
      rw [hi, ho]
      unfold rankedI
      rw [e2, e1]
      by_cases he : x.user.toList = u.toList
      · rw [if_pos he, if_pos (by rw [he]; simp)]
        obtain rfl : x.user = u := ba_ext he
        rfl
      · rw [if_neg he, if_neg (by rw [beq_iff_eq]; exact he)]
        rfl
theorem runK_true (u : ByteArray) (num : Int) : ∀ (l : List Rk) (acc : List Rk), runK u num l (true, acc) = (true, acc ++ outK u l)
  | [], acc => by simp [runK, outK]
  | x :: t, acc => by
    have e : runK u num (x :: t) (true, acc) = runK u num t (stpK u num x (true, acc)) := rfl
    rw [e, outK]
    by_cases h : x.user.toList = u.toList
    · have : stpK u num x (true, acc) = (true, acc) := by simp [stpK, h]
      rw [this, runK_true u num t, if_pos h]
    · have : stpK u num x (true, acc) = (true, acc ++ [x]) := by simp [stpK, h]
      rw [this, runK_true u num t, if_neg h]
      simp
theorem runK_false (u : ByteArray) (num : Int) : ∀ (l : List Rk) (acc : List Rk), (let r := runK u num l (false, acc); if r.1 = true then r.2 else r.2 ++ [⟨u, num⟩]) = acc ++ inK u num l
  | [], acc => by simp [runK, inK]
  | x :: t, acc => by
    have e : runK u num (x :: t) (false, acc) = runK u num t (stpK u num x (false, acc)) := rfl
    rw [e, inK]
    by_cases hx : Op.bytesLess x.user.toList u.toList = true
    · by_cases h : x.user.toList = u.toList
      · exact absurd h (ne_of_less hx)
      · have : stpK u num x (false, acc) = (false, acc ++ [x]) := by simp [stpK, h, hx]
        rw [this, if_pos hx, if_neg h]
        have := runK_false u num t (acc ++ [x])
        rw [this]
        simp
    · rw [if_neg hx, outK]
      rw [Bool.not_eq_true] at hx
      by_cases h : x.user.toList = u.toList
      · have : stpK u num x (false, acc) = (true, acc ++ [⟨u, num⟩]) := by simp [stpK, h, less_irrefl]
        rw [this, runK_true, if_pos h]
        simp
      · have : stpK u num x (false, acc) = (true, acc ++ [⟨u, num⟩] ++ [x]) := by simp [stpK, h, hx]
        rw [this, runK_true, if_neg h]
        simp
theorem rkd_ranked (u : ByteArray) (num : Int) (l : List Rk) (ha : Asc l) : rkd u num l = rankedI u num l := by
  rw [ranked_split u num l ha]
  by_cases hn : num = 1
  · rw [if_pos hn]
    subst hn
    unfold rkd
    rw [show ((1 : Int) == 1) = true from rfl, runK_true]
    rfl
  · rw [if_neg hn]
    unfold rkd
    rw [beq_eq_false_iff_ne.mpr hn]
    exact (runK_false u num l []).trans (List.nil_append _)
end Go.Proofs.YtmacpgoclhgafaaGreatDoorW.FA

namespace Go.Proofs.YtmacpgoclhgafaaGreatDoorW.FA
open Go.RowKit Go.Proofs.YtmacpgoclhgafaaGreatDoorW.XM Go.Proofs Go.Proofs.YtmacpgoclhgafaaGreatDoorW.XWords
set_option maxRecDepth 100000
set_option linter.unusedSimpArgs false
variable (w0 : World) (H : Hp)
def cmpS (a b : ByteArray) : Int := if Op.bytesLess a.toList b.toList = true then -1 else if (Op.bytesLess a.toList b.toList || a.toList == b.toList) = true then 0 else 1
theorem isNaN_ok (a : ByteArray) : AFn Tryz.prog w0 106 #[.string a] H fun v H2 => v = .bool false ∧ H2 = H := by
  refine AFn.scal rfl Tryz.func106 rfl (by kernel_rfl) ?_
  have r := Tryz.results106
  simp only [go_sem, cond, Nat.reduceAdd, Nat.reduceLeDiff, Nat.reduceEqDiff, Nat.reduceBEq, decide_true, decide_false, Int.toNat_natCast, r]
  exact ⟨by simp, _, rfl⟩
theorem Compare_ok (a b : ByteArray) : AFn Tryz.prog w0 100 #[.string a, .string b] H fun v H2 => v = .int .i64 (cmpS a b) ∧ H2 = H := by
  refine AFn.scal rfl Tryz.func100 rfl (by kernel_rfl) ?_
  have r := Tryz.results100
  simp only [go_sem, cond, Nat.reduceAdd, Nat.reduceLeDiff, Nat.reduceEqDiff, Nat.reduceBEq, decide_true, decide_false, Int.toNat_natCast, r]
  repeat' (first
    | (refine call_eq (isNaN_ok _ _ _) ?_; simp only [go_sem, cond, Nat.reduceAdd, Nat.reduceLeDiff, Nat.reduceEqDiff, Nat.reduceBEq, decide_true, decide_false, Int.toNat_natCast, r])
    | (refine Br_intro ?_ ?_ <;> intro h <;> simp only [go_sem, cond, Nat.reduceAdd, Nat.reduceLeDiff, Nat.reduceEqDiff, Nat.reduceBEq, decide_true, decide_false, Int.toNat_natCast, h, r]))
  all_goals (refine ⟨congrArg (Value.int .i64) ?_, _, rfl⟩; unfold cmpS; simp only [*, if_true, Bool.false_eq_true, if_false])
theorem ranked1_ok (k : Rk) (u : ByteArray) : AFn Tryz.prog w0 99 #[.agg k.enc.toArray, .string u] H fun v H2 => v = .int .i64 (cmpS k.user u) ∧ H2 = H := by
  refine AFn.scal rfl Tryz.func99 rfl (by kernel_rfl) ?_
  have r := Tryz.results99
  simp only [go_sem, cond, Nat.reduceAdd, Nat.reduceLeDiff, Nat.reduceEqDiff, Nat.reduceBEq, decide_true, decide_false, Int.toNat_natCast, r]
  simp only [go_sem, cond, Nat.reduceAdd, Nat.reduceLeDiff, Nat.reduceEqDiff, Nat.reduceBEq, decide_true, decide_false, Int.toNat_natCast, Rk.enc, r]
  refine call_eq (Compare_ok _ _ _ _) ?_
  simp only [go_sem, cond, Nat.reduceAdd, Nat.reduceLeDiff, Nat.reduceEqDiff, Nat.reduceBEq, decide_true, decide_false, Int.toNat_natCast, r]
  exact ⟨_, rfl⟩
theorem cmp_lt (a b : ByteArray) : decide (cmpS a b < 0) = Op.bytesLess a.toList b.toList := by
  unfold cmpS
  split
  · next h => simp [h]
  · next h => split <;> simp [h]
theorem cmp_eq (a b : ByteArray) : (cmpS a b == 0) = (a.toList == b.toList) := by
  unfold cmpS
  split
  · next h =>
    cases e : (a.toList == b.toList) with
    | false => rfl
    | true =>
      rw [beq_iff_eq] at e
      rw [e, less_irrefl] at h
      cases h
  · next h => split <;> simp_all
theorem bin_shr1 {P : Program} (t : TypeId) (c : Bool) (x : Int) : xBin P .shr t c (.int .u64 x) (.int .u64 1) = some (.int .u64 (x.fdiv 2)) := by
  simp [xBin, IntKind.bits]
theorem search_ok (A : Option Addr) (c : Nat) (ks : List Rk) (u : ByteArray) (ha : Asc ks) (hs : Sl w0 H A 2 (ks.map Rk.enc)) (hl : ks.length ≤ 2000000) : AFn Tryz.prog w0 98 #[.slice A ks.length c, .string u, .func (.func 99) #[] #[]] H fun v H2 => v = .tuple #[.int .i64 (atK u ks), .bool (thereK u ks)] ∧ H2 = H := by
  refine AFn.scal rfl Tryz.func98 rfl (by kernel_rfl) ?_
  have r := Tryz.results98
  simp only [go_sem, cond, Nat.reduceAdd, Nat.reduceLeDiff, Nat.reduceEqDiff, Nat.reduceBEq, decide_true, decide_false, Int.toNat_natCast, r]
  have hm := atK_le u ks
  refine xw_loop (fun (q : Nat × Nat) T H' => q.1 ≤ atK u ks ∧ atK u ks ≤ q.2 ∧ q.2 ≤ ks.length ∧ T 0 = .slice A ks.length c ∧ T 1 = .string u ∧ T 2 = .func (.func 99) #[] #[] ∧ T 8 = .int .i64 ks.length ∧ T 9 = .int .i64 q.1 ∧ T 10 = .int .i64 q.2 ∧ H' = Hx H []) (fun q => q.2 - q.1) (0, ks.length) (by kernel_rfl) ⟨Nat.zero_le _, hm, Nat.le_refl _, rfl, rfl, rfl, rfl, rfl, rfl, rfl⟩ ?_
  rintro ⟨i, j⟩ T H' ⟨h1, h2, h3, t0, t1, t2, t8, t9, t10, rfl⟩
  simp only at h1 h2 h3 t9 t10
  by_cases hlt : i < j
  · have d1 : ((i : Int) < (j : Int)) = True := eq_true (by omega)
    have w1 : IntKind.i64.wrap ((i : Int) + (j : Int)) = ((i + j : Nat) : Int) := by rw [wrap_i64 (by omega) (by omega)]; omega
    have w2 : IntKind.u64.wrap ((i + j : Nat) : Int) = ((i + j : Nat) : Int) := by simp only [IntKind.wrap, IntKind.signed, IntKind.bits]; simp; omega
    have w3 : ((i + j : Nat) : Int).fdiv 2 = (((i + j) / 2 : Nat) : Int) := by rw [Int.fdiv_eq_ediv_of_nonneg _ (by omega)]; omega
    have w4 : IntKind.i64.wrap ((((i + j) / 2 : Nat)) : Int) = (((i + j) / 2 : Nat) : Int) := wrap_i64 (by omega) (by omega)
    have hlt2 : (i + j) / 2 < ks.length := by omega
    obtain ⟨b, o, sp, rfl, _, hc⟩ := mcell hs hlt2
    have c0 := fun L => hc L rfl
    have d2 : (0 ≤ ((((i + j) / 2 : Nat)) : Int)) = True := eq_true (by omega)
    have d3 : (((((i + j) / 2 : Nat)) : Int) < (ks.length : Int)) = True := eq_true (by omega)
    simp only [Rk.enc] at c0
    simp only [go_sem, cond, Nat.reduceAdd, Nat.reduceLeDiff, Nat.reduceEqDiff, Nat.reduceBEq, decide_true, decide_false, Int.toNat_natCast, t0, t1, t2, t8, t9, t10, d1, w1, w2, bin_shr1, w3, w4, d2, d3, c0, r]
    refine call_eq (ranked1_ok _ _ ks[(i + j) / 2] u) ?_
    simp only [go_sem, cond, Nat.reduceAdd, Nat.reduceLeDiff, Nat.reduceEqDiff, Nat.reduceBEq, decide_true, decide_false, Int.toNat_natCast, t0, t1, t2, t8, t9, t10, r, cmp_lt]
    refine Br_intro ?_ ?_ <;> intro h <;> simp only [go_sem, cond, Nat.reduceAdd, Nat.reduceLeDiff, Nat.reduceEqDiff, Nat.reduceBEq, decide_true, decide_false, Int.toNat_natCast, h, t0, t1, t2, t8, t9, t10, r]
    · have h5 : (i + j) / 2 < atK u ks := by
        rcases Nat.lt_or_ge ((i + j) / 2) (atK u ks) with h5 | h5
        · exact h5
        · rw [atK_ge u ks ha _ hlt2 h5] at h; cases h
      have w5 : IntKind.i64.wrap ((((i + j) / 2 : Nat) : Int) + 1) = (((i + j) / 2 + 1 : Nat) : Int) := by rw [wrap_i64 (by omega) (by omega)]; omega
      exact ⟨((i + j) / 2 + 1, j), ⟨h5, h2, h3, t0, t1, t2, t8, congrArg (Value.int .i64) w5, t10, rfl⟩, by simp only; omega⟩
    · have h5 : atK u ks ≤ (i + j) / 2 := by
        rcases Nat.lt_or_ge ((i + j) / 2) (atK u ks) with h5 | h5
        · rw [atK_lt u ks _ hlt2 h5] at h; cases h
        · exact h5
      exact ⟨(i, (i + j) / 2), ⟨h1, h5, by simp only; omega, t0, t1, t2, t8, t9, rfl, rfl⟩, by simp only; omega⟩
  · obtain rfl : i = j := by omega
    obtain rfl : i = atK u ks := by omega
    have d1 : ((atK u ks : Int) < (atK u ks : Int)) = False := eq_false (by omega)
    by_cases hlt2 : atK u ks < ks.length
    · have d2 : ((atK u ks : Int) < (ks.length : Int)) = True := eq_true (by omega)
      have d3 : ((0 : Int) ≤ (atK u ks : Int)) = True := eq_true (by omega)
      obtain ⟨b, o, sp, rfl, _, hc⟩ := mcell hs hlt2
      have c0 := fun L => hc L rfl
      simp only [Rk.enc] at c0
      simp only [go_sem, cond, Nat.reduceAdd, Nat.reduceLeDiff, Nat.reduceEqDiff, Nat.reduceBEq, decide_true, decide_false, Int.toNat_natCast, t0, t1, t2, t8, t9, t10, d1, d2, d3, c0, r]
      refine call_eq (ranked1_ok _ _ ks[atK u ks] u) ?_
      simp only [go_sem, cond, Nat.reduceAdd, Nat.reduceLeDiff, Nat.reduceEqDiff, Nat.reduceBEq, decide_true, decide_false, Int.toNat_natCast, t0, t1, t2, t8, t9, t10, cmp_eq, r]
      have e : thereK u ks = (ks[atK u ks].user.toList == u.toList) := by unfold thereK; rw [List.getElem?_eq_getElem hlt2]
      exact ⟨by rw [e], _, rfl⟩
    · have d2 : ((atK u ks : Int) < (ks.length : Int)) = False := eq_false (by omega)
      simp only [go_sem, cond, Nat.reduceAdd, Nat.reduceLeDiff, Nat.reduceEqDiff, Nat.reduceBEq, decide_true, decide_false, Int.toNat_natCast, t0, t1, t2, t8, t9, t10, d1, d2, r]
      have e : thereK u ks = false := by unfold thereK; rw [List.getElem?_eq_none (by omega)]
      exact ⟨by rw [e], _, rfl⟩
end Go.Proofs.YtmacpgoclhgafaaGreatDoorW.FA

namespace Go.Proofs.YtmacpgoclhgafaaGreatDoorW.FA
open Go.RowKit Go.Proofs.YtmacpgoclhgafaaGreatDoorW.XM Go.Proofs Go.Proofs.YtmacpgoclhgafaaGreatDoorW.XWords
set_option maxRecDepth 100000
set_option linter.unusedSimpArgs false
variable (w0 : World) (H : Hp)
theorem del_cells {α : Type} {enc : α → List Value} {n : Nat} (he : ∀ a, (enc a).length = n) {z : List Value} (hz : z.length = n) (rows : List α) (i : Nat) (hi : i < rows.length) :
    putL (putL (flat enc rows) (0 + i * n) (flat enc (rows.drop (i + 1)))) (0 + (rows.length - 1) * n) z = flat enc (rows.eraseIdx i) ++ z := by
  have e1 : flat enc rows = flat enc (rows.take i) ++ flat enc (rows.drop i) := by rw [← flat_app, List.take_append_drop]
  have l1 : (flat enc (rows.take i)).length = 0 + i * n := by rw [flat_len he, List.length_take, Nat.min_eq_left (by omega)]; omega
  have l2 : (flat enc (rows.drop (i + 1))).length = (rows.length - (i + 1)) * n := by rw [flat_len he, List.length_drop]
  have l3 : (flat enc (rows.drop i)).length = (rows.length - i) * n := by rw [flat_len he, List.length_drop]
  have hle : (rows.length - (i + 1)) * n + n = (rows.length - i) * n := by rw [← Nat.succ_mul]; congr 1; omega
  rw [e1, ← l1, putL_mid _ _ _ (by omega)]
  have e2 : rows.eraseIdx i = rows.take i ++ rows.drop (i + 1) := List.eraseIdx_eq_take_drop_succ ..
  have e3 : flat enc (rows.take i) ++ (flat enc (rows.drop (i + 1)) ++ (flat enc (rows.drop i)).drop (flat enc (rows.drop (i + 1))).length) = flat enc (rows.eraseIdx i) ++ (flat enc (rows.drop i)).drop (flat enc (rows.drop (i + 1))).length := by rw [e2, flat_app, List.append_assoc]
  have l4 : (flat enc (rows.eraseIdx i)).length = 0 + (rows.length - 1) * n := by rw [flat_len he, List.length_eraseIdx, if_pos hi]; omega
  first
    | rw [e3]
    | rw [List.append_assoc, e3]
  rw [← l4, putL_mid _ _ _ (by rw [List.length_drop, l2, l3, hz]; omega)]
  have l5 : ((flat enc (rows.drop i)).drop (flat enc (rows.drop (i + 1))).length).length = n := by rw [List.length_drop, l2, l3]; omega
  rw [List.drop_of_length_le (by rw [l5, hz]; exact Nat.le_refl _), List.append_nil]
theorem delM_ok (B : Hp) (l : List (Option Ob)) (j : Nat) (rows : List Mem) (i : Nat) (hi : i < rows.length) (hn : rows.length ≤ 2000000) (hj : l[j]? = some (some (.row 67 (flat Mem.enc rows)))) :
    AFn Tryz.prog w0 71 #[.slice (some ⟨nid B j, 0, some (rows.length * 3)⟩) rows.length rows.length, .int .i64 i, .int .i64 ((i + 1 : Nat) : Int)] (Hx B l) fun v H2 => v = .slice (some ⟨nid B j, 0, some (rows.length * 3)⟩) (rows.length - 1) rows.length ∧ H2 = Hx B (l.set j (some (.row 67 (flat Mem.enc (rows.eraseIdx i) ++ [.string em, .string em, .int .i64 0])))) := by
  refine AFn_of Tryz.func71 rfl (by kernel_rfl) ?_
  have r := Tryz.results71
  have hlj : j < l.length := lt_of_get hj
  have how : ∀ L, Go.Proofs.YtmacpgoclhgafaaGreatDoorW.XM.ownB Tryz.prog (Hx (Hx B l) L) 3 (nid B j) (some (rows.length * 3)) := fun L => ⟨_, flat Mem.enc rows, false || true, by rw [Hx_Hx, Hx_get, List.getElem?_append_left hlj]; exact hj, flat_len mlen rows, XF.lay_67⟩
  have how0 := how []
  rw [Hx_nil] at how0
  have w1 : ((i : Int) == ((i + 1 : Nat) : Int)) = false := by rw [beq_eq_false_iff_ne]; omega
  obtain ⟨a1, c1, hc1, s1, q1⟩ := slc_part (H := Hx B l) mlen (by decide) (rd_flat mlen _ rows B l j hj) (Nat.le_refl _) how (l := i + 1) (h := rows.length) (by omega) (by omega) (by omega)
  have s2 := fun t e lo hi bb ee K k => s1 t e [] lo hi bb ee K k
  have q2 := q1 []
  have e3 : (rows.drop (i + 1)).take (rows.length - (i + 1)) = rows.drop (i + 1) := List.take_of_length_le (by simp)
  rw [e3] at q2
  simp only [Hx_nil] at s2 q2
  clear s1 q1
  simp only [go_sem, cond, Nat.reduceAdd, Nat.reduceLeDiff, Nat.reduceEqDiff, Nat.reduceBEq, decide_true, decide_false, Int.toNat_natCast, r]
  refine slc_three XF.elm_23 rfl _ _ _ _ (by omega) (by omega) (by omega) (by omega) how0 (fun v => ?_)
  simp only [go_sem, cond, Nat.reduceAdd, Nat.reduceLeDiff, Nat.reduceEqDiff, Nat.reduceBEq, decide_true, decide_false, Int.toNat_natCast, r, w1]
  (refine xw_open (id := 5) [0, 0, 3, 0, 0, 24, 63, 127] [.q 0, .q 1, .q 3, .q 4, .q 2, .q 5, .e 6, .q 7] rfl (by kernel_rfl) ?_; simp only [go_sem, cond, Nat.reduceAdd, Nat.reduceLeDiff, Nat.reduceEqDiff, Nat.reduceBEq, decide_true, decide_false, Int.toNat_natCast, r])
  refine slc_sl XF.elm_23 rfl rfl _ _ _ _ (by omega) (by omega) (by omega) how0 (.inl rfl) ?_
  simp only [go_sem, cond, Nat.reduceAdd, Nat.reduceLeDiff, Nat.reduceEqDiff, Nat.reduceBEq, decide_true, decide_false, Int.toNat_natCast, r]
  refine s2 _ _ _ _ _ _ _ _ XF.elm_23 rfl rfl ?_
  simp only [go_sem, cond, Nat.reduceAdd, Nat.reduceLeDiff, Nat.reduceEqDiff, Nat.reduceBEq, decide_true, decide_false, Int.toNat_natCast, r, q2, Nat.sub_zero]
  have hle : i * 3 + (rows.length - (i + 1)) * 3 ≤ rows.length * 3 := by rw [← Nat.add_mul]; exact Nat.mul_le_mul_right _ (by omega)
  refine appS_room _ _ _ _ _ _ _ _ _ _ _ _ _ _ _ _ hj (flat_len mlen rows) XF.lay_67 (by omega) (by rw [flat_len mlen, List.length_drop]; omega) ?_
  have hlen2 : (putL (flat Mem.enc rows) (i * 3) (flat Mem.enc (rows.drop (i + 1)))).length = rows.length * 3 := by rw [putL_len, flat_len mlen]
  have gs : ∀ X : Option Ob, (l.set j X)[j]? = some X := fun X => by rw [List.getElem?_set_self hlj]
  have how3 : Go.Proofs.YtmacpgoclhgafaaGreatDoorW.XM.ownB Tryz.prog (Hx B (l.set j (some (.row 67 (putL (flat Mem.enc rows) (i * 3) (flat Mem.enc (rows.drop (i + 1)))))))) 3 (nid B j) (some (rows.length * 3)) := ⟨_, _, false || true, by rw [Hx_get, gs], hlen2, XF.lay_67⟩
  have e4 : i + (rows.length - (i + 1)) = rows.length - 1 := by omega
  rw [e4]
  simp only [go_sem, cond, Nat.reduceAdd, Nat.reduceLeDiff, Nat.reduceEqDiff, Nat.reduceBEq, decide_true, decide_false, Int.toNat_natCast, r]
  refine slc_sl XF.elm_23 rfl rfl _ _ _ _ (by omega) (by omega) (by omega) how3 (.inr (by omega)) ?_
  have e5 : (((rows.length : Nat) : Int)).toNat - (((rows.length - 1 : Nat) : Int)).toNat = 1 := by omega
  rw [e5]
  simp only [go_sem, cond, Nat.reduceAdd, Nat.reduceLeDiff, Nat.reduceEqDiff, Nat.reduceBEq, decide_true, decide_false, Int.toNat_natCast, r]
  refine clr_own _ rfl XF.elm_23 XF.zer_67 rfl (by rw [gs]) hlen2 XF.lay_67 (by omega) ?_
  simp only [go_sem, cond, Nat.reduceAdd, Nat.reduceLeDiff, Nat.reduceEqDiff, Nat.reduceBEq, decide_true, decide_false, Int.toNat_natCast, r]
  rw [List.set_set]
  have := del_cells mlen (z := [.string em, .string em, .int .i64 0]) rfl rows i hi
  simp only [Nat.zero_add] at this ⊢
  rw [← this]
  simp
theorem delK_ok (B : Hp) (l : List (Option Ob)) (j : Nat) (rows : List Rk) (i : Nat) (hi : i < rows.length) (hn : rows.length ≤ 2000000) (hj : l[j]? = some (some (.row 43 (flat Rk.enc rows)))) :
    AFn Tryz.prog w0 101 #[.slice (some ⟨nid B j, 0, some (rows.length * 2)⟩) rows.length rows.length, .int .i64 i, .int .i64 ((i + 1 : Nat) : Int)] (Hx B l) fun v H2 => v = .slice (some ⟨nid B j, 0, some (rows.length * 2)⟩) (rows.length - 1) rows.length ∧ H2 = Hx B (l.set j (some (.row 43 (flat Rk.enc (rows.eraseIdx i) ++ [.string em, .int .i64 0])))) := by
  refine AFn_of Tryz.func101 rfl (by kernel_rfl) ?_
  have r := Tryz.results101
  have hlj : j < l.length := lt_of_get hj
  have how : ∀ L, Go.Proofs.YtmacpgoclhgafaaGreatDoorW.XM.ownB Tryz.prog (Hx (Hx B l) L) 2 (nid B j) (some (rows.length * 2)) := fun L => ⟨_, flat Rk.enc rows, false || true, by rw [Hx_Hx, Hx_get, List.getElem?_append_left hlj]; exact hj, flat_len klen rows, XF.lay_43⟩
  have how0 := how []
  rw [Hx_nil] at how0
  have w1 : ((i : Int) == ((i + 1 : Nat) : Int)) = false := by rw [beq_eq_false_iff_ne]; omega
  obtain ⟨a1, c1, hc1, s1, q1⟩ := slc_part (H := Hx B l) klen (by decide) (rd_flat klen _ rows B l j hj) (Nat.le_refl _) how (l := i + 1) (h := rows.length) (by omega) (by omega) (by omega)
  have s2 := fun t e lo hi bb ee K k => s1 t e [] lo hi bb ee K k
  have q2 := q1 []
  have e3 : (rows.drop (i + 1)).take (rows.length - (i + 1)) = rows.drop (i + 1) := List.take_of_length_le (by simp)
  rw [e3] at q2
  simp only [Hx_nil] at s2 q2
  clear s1 q1
  simp only [go_sem, cond, Nat.reduceAdd, Nat.reduceLeDiff, Nat.reduceEqDiff, Nat.reduceBEq, decide_true, decide_false, Int.toNat_natCast, r]
  refine slc_three XF.elm_24 rfl _ _ _ _ (by omega) (by omega) (by omega) (by omega) how0 (fun v => ?_)
  simp only [go_sem, cond, Nat.reduceAdd, Nat.reduceLeDiff, Nat.reduceEqDiff, Nat.reduceBEq, decide_true, decide_false, Int.toNat_natCast, r, w1]
  (refine xw_open (id := 5) [0, 0, 3, 0, 0, 24, 63, 127] [.q 0, .q 1, .q 3, .q 4, .q 2, .q 5, .e 6, .q 7] rfl (by kernel_rfl) ?_; simp only [go_sem, cond, Nat.reduceAdd, Nat.reduceLeDiff, Nat.reduceEqDiff, Nat.reduceBEq, decide_true, decide_false, Int.toNat_natCast, r])
  refine slc_sl XF.elm_24 rfl rfl _ _ _ _ (by omega) (by omega) (by omega) how0 (.inl rfl) ?_
  simp only [go_sem, cond, Nat.reduceAdd, Nat.reduceLeDiff, Nat.reduceEqDiff, Nat.reduceBEq, decide_true, decide_false, Int.toNat_natCast, r]
  refine s2 _ _ _ _ _ _ _ _ XF.elm_24 rfl rfl ?_
  simp only [go_sem, cond, Nat.reduceAdd, Nat.reduceLeDiff, Nat.reduceEqDiff, Nat.reduceBEq, decide_true, decide_false, Int.toNat_natCast, r, q2, Nat.sub_zero]
  have hle : i * 2 + (rows.length - (i + 1)) * 2 ≤ rows.length * 2 := by rw [← Nat.add_mul]; exact Nat.mul_le_mul_right _ (by omega)
  refine appS_room _ _ _ _ _ _ _ _ _ _ _ _ _ _ _ _ hj (flat_len klen rows) XF.lay_43 (by omega) (by rw [flat_len klen, List.length_drop]; omega) ?_
  have hlen2 : (putL (flat Rk.enc rows) (i * 2) (flat Rk.enc (rows.drop (i + 1)))).length = rows.length * 2 := by rw [putL_len, flat_len klen]
  have gs : ∀ X : Option Ob, (l.set j X)[j]? = some X := fun X => by rw [List.getElem?_set_self hlj]
  have how3 : Go.Proofs.YtmacpgoclhgafaaGreatDoorW.XM.ownB Tryz.prog (Hx B (l.set j (some (.row 43 (putL (flat Rk.enc rows) (i * 2) (flat Rk.enc (rows.drop (i + 1)))))))) 2 (nid B j) (some (rows.length * 2)) := ⟨_, _, false || true, by rw [Hx_get, gs], hlen2, XF.lay_43⟩
  have e4 : i + (rows.length - (i + 1)) = rows.length - 1 := by omega
  rw [e4]
  simp only [go_sem, cond, Nat.reduceAdd, Nat.reduceLeDiff, Nat.reduceEqDiff, Nat.reduceBEq, decide_true, decide_false, Int.toNat_natCast, r]
  refine slc_sl XF.elm_24 rfl rfl _ _ _ _ (by omega) (by omega) (by omega) how3 (.inr (by omega)) ?_
  have e5 : (((rows.length : Nat) : Int)).toNat - (((rows.length - 1 : Nat) : Int)).toNat = 1 := by omega
  rw [e5]
  simp only [go_sem, cond, Nat.reduceAdd, Nat.reduceLeDiff, Nat.reduceEqDiff, Nat.reduceBEq, decide_true, decide_false, Int.toNat_natCast, r]
  refine clr_own _ rfl XF.elm_24 XF.zer_43 rfl (by rw [gs]) hlen2 XF.lay_43 (by omega) ?_
  simp only [go_sem, cond, Nat.reduceAdd, Nat.reduceLeDiff, Nat.reduceEqDiff, Nat.reduceBEq, decide_true, decide_false, Int.toNat_natCast, r]
  rw [List.set_set]
  have := del_cells klen (z := [.string em, .int .i64 0]) rfl rows i hi
  simp only [Nat.zero_add] at this ⊢
  rw [← this]
  simp
end Go.Proofs.YtmacpgoclhgafaaGreatDoorW.FA

namespace Go.Proofs.YtmacpgoclhgafaaGreatDoorW.FA
open Go.RowKit Go.Proofs.YtmacpgoclhgafaaGreatDoorW.XM Go.Proofs Go.Proofs.YtmacpgoclhgafaaGreatDoorW.XWords
set_option maxRecDepth 100000
set_option linter.unusedSimpArgs false
variable (w0 : World) (H : Hp)
theorem slc_anyX {P : Program} {t : TypeId} {e m : Nat} (he : elm P t = some (e, m)) {b o : Nat} {sp : Option Nat} {len cap : Nat} {lo hi : Option Value} {l h' : Int} (h1 : bnd lo 0 = some l) (h2 : bnd hi len = some h') (H : Hp) {K : Value → Hp → Prop} (k : Lk K) (bb : Bool) (ee : Option (TypeId × Nat))
    (h3 : 0 ≤ l) (h4 : l ≤ h') (h5 : h' ≤ cap) (ho : Go.Proofs.YtmacpgoclhgafaaGreatDoorW.XM.ownB P H m b sp) (hk : ∀ v, K v H) : slcV P w0 t bb ee (xs (.slice (some ⟨b, o, sp⟩) len cap)) lo hi none H k :=
  ⟨e, m, he, by simp, l, h', cap, h1, h2, rfl, h3, h4, h5, Int.le_refl _, ho, hk _⟩
theorem ins_cells {α : Type} {enc : α → List Value} {n : Nat} (he : ∀ a, (enc a).length = n) {z : List Value} (hz : z.length = n) (rows : List α) (y : α) (i : Nat) (hi : i ≤ rows.length) :
    putL (putL (flat enc (rows.take i) ++ (List.replicate (rows.length + 1 - i) z).flatten) (i * n) (enc y)) ((i + 1) * n) (flat enc (rows.drop i)) = flat enc (rows.take i ++ y :: rows.drop i) := by
  have l1 : (flat enc (rows.take i)).length = i * n := by rw [flat_len he, List.length_take, Nat.min_eq_left (by omega)]
  have l3 : (flat enc (rows.drop i)).length = (rows.length - i) * n := by rw [flat_len he, List.length_drop]
  have lz : ∀ m, (List.replicate m z).flatten.length = m * n := fun m => by simp [hz]
  have e1 : (List.replicate (rows.length + 1 - i) z).flatten = z ++ (List.replicate (rows.length - i) z).flatten := by rw [show rows.length + 1 - i = (rows.length - i) + 1 by omega, List.replicate_succ, List.flatten_cons]
  rw [← l1, putL_mid _ _ _ (by rw [e1, List.length_append, he, hz]; omega), e1, he, ← hz, List.drop_left]
  have l2 : (flat enc (rows.take i) ++ enc y).length = (i + 1) * z.length := by rw [List.length_append, l1, he, hz, Nat.succ_mul]
  rw [← l2]
  have := putL_mid (flat enc (rows.drop i)) (flat enc (rows.take i) ++ enc y) ((List.replicate (rows.length - i) z).flatten) (by rw [l3, lz]; exact Nat.le_refl _)
  first
    | rw [← List.append_assoc, this]
    | rw [this]
  have e5 : ((List.replicate (rows.length - i) z).flatten).drop (flat enc (rows.drop i)).length = [] := List.drop_of_length_le (by rw [l3, lz]; exact Nat.le_refl _)
  rw [e5, List.append_nil, flat_app]
  simp [flat]
theorem insK_ok (B : Hp) (l : List (Option Ob)) (j q : Nat) (rows : List Rk) (y : Rk) (i : Nat) (hi : i ≤ rows.length) (hn : rows.length ≤ 2000000) (hj : l[j]? = some (some (.row 43 (flat Rk.enc rows)))) (hq : l[q]? = some (some (.row 43 y.enc))) :
    AFn Tryz.prog w0 102 #[xs (.slice (some ⟨nid B j, 0, some (rows.length * 2)⟩) rows.length rows.length), .int .i64 i, .slice (some ⟨nid B q, 0, some 2⟩) 1 1] (Hx B l) fun v H2 => v = .slice (some ⟨nid B l.length, 0, some ((rows.length + 1) * 2)⟩) (rows.length + 1) (rows.length + 1) ∧ H2 = Hx B (l ++ [some (.row 43 (flat Rk.enc (rows.take i ++ y :: rows.drop i)))]) := by
  refine AFn_of Tryz.func102 rfl (by kernel_rfl) ?_
  have r := Tryz.results102
  have hlj : j < l.length := lt_of_get hj
  have hlq : q < l.length := lt_of_get hq
  have how : ∀ L, Go.Proofs.YtmacpgoclhgafaaGreatDoorW.XM.ownB Tryz.prog (Hx B (l ++ L)) 2 (nid B j) (some (rows.length * 2)) := fun L => ⟨_, flat Rk.enc rows, false || true, by rw [Hx_get, List.getElem?_append_left hlj]; exact hj, flat_len klen rows, XF.lay_43⟩
  have how0 := how []
  rw [List.append_nil] at how0
  have rdj := fun L => rd_flat (w0 := w0) klen _ rows B l j hj L
  have rdq : rd w0 (Hx B l) ⟨nid B q, 0, some 2⟩ (1 * 2) = some y.enc := by rw [rd_own, hq]; rfl
  simp only [go_sem, cond, Nat.reduceAdd, Nat.reduceLeDiff, Nat.reduceEqDiff, Nat.reduceBEq, decide_true, decide_false, Int.toNat_natCast, r]
  refine slc_anyX _ XF.elm_24 rfl rfl _ _ _ _ (by omega) (by omega) (by omega) how0 (fun v => ?_)
  simp only [go_sem, cond, Nat.reduceAdd, Nat.reduceLeDiff, Nat.reduceEqDiff, Nat.reduceBEq, decide_true, decide_false, Int.toNat_natCast, r]
  have d0 : (((1 : Nat) : Int) == 0) = false := rfl
  by_cases he : i = rows.length
  · subst he
    simp only [go_sem, cond, Nat.reduceAdd, Nat.reduceLeDiff, Nat.reduceEqDiff, Nat.reduceBEq, decide_true, decide_false, Int.toNat_natCast, r, d0, beq_self_eq_true]
    refine app_out _ rfl rfl XF.elm_24 XF.zer_43 rfl XF.byt_43 (m := 1) (cs := y.enc) ?ha (by omega) (by omega) (by omega) (by have := rdj []; rw [Hx_nil] at this; exact this) ?_
    case ha =>
      show appd _ _ _ _ _ (isInt Tryz.prog 24) _ = _
      rw [XF.isInt_24]
      show src _ _ _ _ = _
      rw [unx_sl, src_sl, rdq]
      rfl
    simp only [go_sem, cond, Nat.reduceAdd, Nat.reduceLeDiff, Nat.reduceEqDiff, Nat.reduceBEq, decide_true, decide_false, Int.toNat_natCast, r]
    rw [List.take_length, List.drop_length, flat_app]
    simp [flat]
  · have w1 : ((i : Int) == (rows.length : Int)) = false := by rw [beq_eq_false_iff_ne]; omega
    have w2 : IntKind.i64.wrap ((rows.length : Int) + ((1 : Nat) : Int)) = ((rows.length + 1 : Nat) : Int) := by rw [wrap_i64 (by omega) (by omega)]; omega
    have w3 : ((rows.length : Int) < ((rows.length + 1 : Nat) : Int)) = True := eq_true (by omega)
    simp only [go_sem, cond, Nat.reduceAdd, Nat.reduceLeDiff, Nat.reduceEqDiff, Nat.reduceBEq, decide_true, decide_false, Int.toNat_natCast, r, d0, w1, w2, w3]
    refine slc_xs XF.elm_24 rfl rfl _ _ _ _ (by omega) (by omega) (by omega) how0 (.inl rfl) ?_
    have w4 : IntKind.i64.wrap (((rows.length + 1 : Nat) : Int) - (i : Int)) = ((rows.length + 1 - i : Nat) : Int) := by rw [wrap_i64 (by omega) (by omega)]; omega
    simp only [go_sem, cond, Nat.reduceAdd, Nat.reduceLeDiff, Nat.reduceEqDiff, Nat.reduceBEq, decide_true, decide_false, Int.toNat_natCast, r, d0, w1, w2, w3, w4, Nat.sub_zero]
    have e1 : i + (rows.length + 1 - i) = rows.length + 1 := by omega
    refine app_out _ rfl rfl XF.elm_24 XF.zer_43 rfl XF.byt_43 (m := rows.length + 1 - i) (cs := (List.replicate (rows.length + 1 - i) [.string em, .int .i64 0]).flatten) (old := flat Rk.enc (rows.take i)) ?ha (by omega) (by omega) (by omega) ?hb ?_
    case ha =>
      show appd _ _ _ _ _ (isInt Tryz.prog 3) _ = _
      rw [XF.isInt_3]
      simp only [appd, unx_int]
      rw [if_pos (by omega), Int.toNat_natCast]
    case hb =>
      have h1 := rd_part (rdj []) 0 (i * 2) (by omega)
      have h2 := flat_part klen rows 0 i (by omega)
      rw [Nat.zero_mul, List.drop_zero, List.drop_zero] at h2
      rw [Hx_nil, List.drop_zero, h2] at h1
      exact h1
    rw [e1]
    have gl : ∀ X : Option Ob, (l ++ [X])[l.length]? = some X := fun X => by simp
    have gs : ∀ X Y : Option Ob, (l ++ [X]).set l.length Y = l ++ [Y] := fun X Y => by simp
    have hN : ∀ cs : List Value, cs.length = (rows.length + 1) * 2 → Go.Proofs.YtmacpgoclhgafaaGreatDoorW.XM.ownB Tryz.prog (Hx B (l ++ [some (.row 43 cs)])) 2 (nid B l.length) (some ((rows.length + 1) * 2)) := fun cs hc => ⟨_, cs, false || true, by rw [Hx_get, gl], hc, XF.lay_43⟩
    have lz : ∀ m, (List.replicate m [Value.string em, Value.int .i64 0]).flatten.length = m * 2 := fun m => by simp
    have c1 : (flat Rk.enc (rows.take i) ++ (List.replicate (rows.length + 1 - i) [Value.string em, Value.int .i64 0]).flatten).length = (rows.length + 1) * 2 := by rw [List.length_append, flat_len klen, lz, List.length_take, Nat.min_eq_left hi]; omega
    have c2 : (putL (flat Rk.enc (rows.take i) ++ (List.replicate (rows.length + 1 - i) [Value.string em, Value.int .i64 0]).flatten) (i * 2) y.enc).length = (rows.length + 1) * 2 := by rw [putL_len, c1]
    have c3 := ins_cells klen (z := [Value.string em, Value.int .i64 0]) rfl rows y i hi
    have rdq2 := rd_old rdq [some (.row 43 (flat Rk.enc (rows.take i) ++ (List.replicate (rows.length + 1 - i) [.string em, .int .i64 0]).flatten))]
    rw [Hx_Hx] at rdq2
    generalize flat Rk.enc (rows.take i) ++ (List.replicate (rows.length + 1 - i) [.string em, .int .i64 0]).flatten = cs1 at *
    simp only [go_sem, cond, Nat.reduceAdd, Nat.reduceLeDiff, Nat.reduceEqDiff, Nat.reduceBEq, decide_true, decide_false, Int.toNat_natCast, r, d0, w1, w2, w3, w4, Nat.sub_zero]
    refine slc_sl XF.elm_24 rfl rfl _ _ _ _ (by omega) (by omega) (by omega) (hN _ c1) (.inr (by omega)) ?_
    simp only [go_sem, cond, Nat.reduceAdd, Nat.reduceLeDiff, Nat.reduceEqDiff, Nat.reduceBEq, decide_true, decide_false, Int.toNat_natCast, r, d0, w1, w2, w3, w4, Nat.sub_zero]
    refine cop_own (m := 1) (cs := y.enc) _ rfl XF.elm_24 ?hs (by omega) (gl _) c1 XF.lay_43 (by rw [klen]; omega) ?_
    case hs => rw [src_sl, rdq2]; rfl
    rw [gs]
    simp only [go_sem, cond, Nat.reduceAdd, Nat.reduceLeDiff, Nat.reduceEqDiff, Nat.reduceBEq, decide_true, decide_false, Int.toNat_natCast, r, d0, w1, w2, w3, w4, Nat.sub_zero]
    have w5 : IntKind.i64.wrap ((i : Int) + ((1 : Nat) : Int)) = ((i + 1 : Nat) : Int) := by rw [wrap_i64 (by omega) (by omega)]; omega
    (refine xw_open (id := 11) [0, 0, 0, 6, 15, 0, 0, 96, 255] [.q 0, .q 1, .q 2, .q 3, .q 5, .q 6, .q 4, .q 7, .e 8] rfl (by kernel_rfl) ?_; simp only [go_sem, cond, Nat.reduceAdd, Nat.reduceLeDiff, Nat.reduceEqDiff, Nat.reduceBEq, decide_true, decide_false, Int.toNat_natCast, r, d0, w1, w2, w3, w4, w5, Nat.sub_zero])
    refine slc_sl XF.elm_24 rfl rfl _ _ _ _ (by omega) (by omega) (by omega) (hN _ c2) (.inr (by omega)) ?_
    simp only [go_sem, cond, Nat.reduceAdd, Nat.reduceLeDiff, Nat.reduceEqDiff, Nat.reduceBEq, decide_true, decide_false, Int.toNat_natCast, r, d0, w1, w2, w3, w4, w5, Nat.sub_zero]
    refine slc_xs XF.elm_24 rfl rfl _ _ _ _ (by omega) (by omega) (by omega) (how _) (.inr (by omega)) ?_
    simp only [go_sem, cond, Nat.reduceAdd, Nat.reduceLeDiff, Nat.reduceEqDiff, Nat.reduceBEq, decide_true, decide_false, Int.toNat_natCast, r, d0, w1, w2, w3, w4, w5, Nat.sub_zero]
    refine cop_own (m := rows.length - i) (cs := flat Rk.enc (rows.drop i)) _ rfl XF.elm_24 ?ht (by omega) (gl _) c2 XF.lay_43 (by rw [flat_len klen, List.length_drop]; omega) ?_
    case ht =>
      have h1 := rd_part (rdj [some (.row 43 (putL cs1 (i * 2) y.enc))]) (i * 2) ((rows.length - i) * 2) (by omega)
      have h2 := flat_part klen rows i (rows.length - i) (by omega)
      have h3 : (rows.drop i).take (rows.length - i) = rows.drop i := List.take_of_length_le (by simp)
      rw [h3] at h2
      rw [Hx_Hx, h2, Nat.zero_add] at h1
      rw [src_sl, h1]
      rfl
    rw [gs]
    simp only [go_sem, cond, Nat.reduceAdd, Nat.reduceLeDiff, Nat.reduceEqDiff, Nat.reduceBEq, decide_true, decide_false, Int.toNat_natCast, r, d0, w1, w2, w3, w4, w5, Nat.sub_zero]
    rw [c3]
end Go.Proofs.YtmacpgoclhgafaaGreatDoorW.FA

namespace Go.Proofs.YtmacpgoclhgafaaGreatDoorW.FA
open Go.RowKit Go.Proofs.YtmacpgoclhgafaaGreatDoorW.XM Go.Proofs Go.Proofs.YtmacpgoclhgafaaGreatDoorW.XWords
set_option maxRecDepth 100000
set_option linter.unusedSimpArgs false
variable (w0 : World) (H : Hp)
def Rm.encX (r : Rm) (x : Ad) : List Value := [.string r.name, .int .i64 r.next, xs (.slice x.a r.ms.length x.c), xs (.slice x.b r.ks.length x.d), .string r.subj]
theorem ren1_xs (ρ : Nat → Option Nat) (i o t n c : Nat) : ren1 ρ (xs (.slice (some ⟨i, o, some t⟩) n c)) = (ρ i).map fun j => xs (.slice (some ⟨j, o, some t⟩) n c) := rfl
theorem ren_roomX (R : Rm) {sel : List Nat} {j k j' k' : Nat} (hj : idx j sel = some j') (hk : idx k sel = some k') : ren3 (rho H sel) (.agg (R.encX (adR H R j k)).toArray) = some (.agg (R.encX (adR H R j' k')).toArray) := by
  simp only [ren3, ren2, renL, Rm.encX, adR, ren1_xs, rho_nid, hj, hk, Option.map_some]
  simp [renL, ren1, ren1_xs, rho_nid, hj, hk, plain]
theorem clipMX_ok (j o tag n c : Nat) (cs : List Value) (hj : H[j]? = some (some (.row 67 cs))) (hl : cs.length = tag) (hn : n ≤ c) : AFn Tryz.prog w0 73 #[.slice (some ⟨j, o, some tag⟩) n c] H fun v H2 => v = xs (.slice (some ⟨j, o, some tag⟩) n n) ∧ H2 = H := by
  refine AFn.scal (by simp [ren3, ren2, ren1_xs, xs, ren1, rho, lt_of_get hj]) Tryz.func73 rfl (by kernel_rfl) ?_
  have r := Tryz.results73
  simp only [go_sem, cond, Nat.reduceAdd, Nat.reduceLeDiff, Nat.reduceEqDiff, Nat.reduceBEq, decide_true, decide_false, Int.toNat_natCast, r]
  refine slc_clipX XF.elm_23 hn _ _ _ _ ⟨_, cs, _, Hx_old hj [], hl, XF.lay_67⟩ ?_
  simp only [go_sem, cond, Nat.reduceAdd, Nat.reduceLeDiff, Nat.reduceEqDiff, Nat.reduceBEq, decide_true, decide_false, Int.toNat_natCast, r]
  exact ⟨_, rfl⟩
theorem clipKX_ok (j o tag n c : Nat) (cs : List Value) (hj : H[j]? = some (some (.row 43 cs))) (hl : cs.length = tag) (hn : n ≤ c) : AFn Tryz.prog w0 75 #[.slice (some ⟨j, o, some tag⟩) n c] H fun v H2 => v = xs (.slice (some ⟨j, o, some tag⟩) n n) ∧ H2 = H := by
  refine AFn.scal (by simp [ren3, ren2, ren1_xs, xs, ren1, rho, lt_of_get hj]) Tryz.func75 rfl (by kernel_rfl) ?_
  have r := Tryz.results75
  simp only [go_sem, cond, Nat.reduceAdd, Nat.reduceLeDiff, Nat.reduceEqDiff, Nat.reduceBEq, decide_true, decide_false, Int.toNat_natCast, r]
  refine slc_clipX XF.elm_24 hn _ _ _ _ ⟨_, cs, _, Hx_old hj [], hl, XF.lay_43⟩ ?_
  simp only [go_sem, cond, Nat.reduceAdd, Nat.reduceLeDiff, Nat.reduceEqDiff, Nat.reduceBEq, decide_true, decide_false, Int.toNat_natCast, r]
  exact ⟨_, rfl⟩
theorem copiedX_ok (R : Rm) (a b : Addr) (c d : Nat) (hr : RmAt w0 H R ⟨some a, c, some b, d⟩) : AFn Tryz.prog w0 36 #[.agg (R.enc ⟨some a, c, some b, d⟩).toArray] H fun v H2 => v = .agg (R.encX (adR H R 0 1)).toArray ∧ H2 = Hx H (obsR R) := by
  have om := hr.om
  have ok := hr.ok
  have hlm := hr.lm
  have hlk := hr.lk
  refine AFn.news Tryz.func36 rfl (by kernel_rfl) ?_
  have r := Tryz.results36
  simp only [go_sem, cond, Nat.reduceAdd, Nat.reduceLeDiff, Nat.reduceEqDiff, Nat.reduceBEq, decide_true, decide_false, Int.toNat_natCast, r]
  simp only [go_sem, cond, Nat.reduceAdd, Nat.reduceLeDiff, Nat.reduceEqDiff, Nat.reduceBEq, decide_true, decide_false, Int.toNat_natCast, Rm.enc, r]
  (refine xw_open (id := 1) [0, 1, 3, 7, 0, 16, 63, 127, 63, 511, 1023, 2047] [.q 0, .q 4, .q 1, .l 5, .e 2, .e 3, .d 5, .q 8, .e 6, .e 7, .e 9, .q 10, .e 11] rfl (by kernel_rfl) ?_; simp only [go_sem, cond, Nat.reduceAdd, Nat.reduceLeDiff, Nat.reduceEqDiff, Nat.reduceBEq, decide_true, decide_false, Int.toNat_natCast, r])
  refine call_eq (cloneM_ok _ _ a R.ms c (fun L => by rw [Hx_Hx]; exact om _) hlm) ?_
  simp only [go_sem, cond, Nat.reduceAdd, Nat.reduceLeDiff, Nat.reduceEqDiff, Nat.reduceBEq, decide_true, decide_false, Int.toNat_natCast, r]
  refine call_eq (clipMX_ok _ _ (nid H 2) 0 _ _ _ (flat Mem.enc R.ms) (by rw [Hx_get]; rfl) (flat_len mlen _) (Nat.le_refl _)) ?_
  simp only [go_sem, cond, Nat.reduceAdd, Nat.reduceLeDiff, Nat.reduceEqDiff, Nat.reduceBEq, decide_true, decide_false, Int.toNat_natCast, r]
  refine call_eq (cloneK_ok _ _ b R.ks d (fun L => by rw [Hx_Hx]; exact ok _) hlk) ?_
  simp only [go_sem, cond, Nat.reduceAdd, Nat.reduceLeDiff, Nat.reduceEqDiff, Nat.reduceBEq, decide_true, decide_false, Int.toNat_natCast, r]
  refine call_eq (clipKX_ok _ _ (nid H 3) 0 _ _ _ (flat Rk.enc R.ks) (by rw [Hx_get]; rfl) (flat_len klen _) (Nat.le_refl _)) ?_
  simp only [go_sem, cond, Nat.reduceAdd, Nat.reduceLeDiff, Nat.reduceEqDiff, Nat.reduceBEq, decide_true, decide_false, Int.toNat_natCast, r]
  exact ⟨_, [2, 3], _, rfl, pl2 R.ms R.ks rfl rfl, by decide, ren_roomX H R rfl rfl, rfl, rfl⟩
end Go.Proofs.YtmacpgoclhgafaaGreatDoorW.FA

namespace Go.Proofs.YtmacpgoclhgafaaGreatDoorW.FA
open Go.RowKit Go.Proofs.YtmacpgoclhgafaaGreatDoorW.XM Go.Proofs Go.Proofs.YtmacpgoclhgafaaGreatDoorW.XWords
set_option maxRecDepth 100000
set_option linter.unusedSimpArgs false
variable (w0 : World) (H : Hp)
/-- Ranks that lie in an object of the call's own, behind them perhaps more. -/
theorem own_more {α : Type} {enc : α → List Value} {n : Nat} (he : ∀ a, (enc a).length = n) (t : TypeId) (ls : List α) (z : List Value) (tag : Nat) (B : Hp) (l : List (Option Ob)) (k : Nat) (hl : l[k]? = some (some (.row t (flat enc ls ++ z)))) (ht : (flat enc ls ++ z).length = tag) :
    Sl w0 (Hx B l) (some ⟨nid B k, 0, some tag⟩) n (ls.map enc) ∧ ∀ L, rd w0 (Hx (Hx B l) L) ⟨nid B k, 0, some tag⟩ (ls.length * n) = some (flat enc ls) := by
  have h2 : ∀ L, rd w0 (Hx (Hx B l) L) ⟨nid B k, 0, some tag⟩ (ls.length * n) = some (flat enc ls) := fun L => by
    refine rd_old ?_ L
    rw [rd_own, hl, rdO_row, if_pos ⟨ht, by rw [List.length_append, flat_len he]; omega⟩, List.drop_zero]
    have := flat_len he ls
    rw [← this, List.take_left]
  refine ⟨.inr ⟨_, _, _, rfl, fun i r hr f m hf => ?_⟩, h2⟩
  have hi : i < ls.length := by have := (List.getElem?_eq_some_iff.1 hr).1; simpa using this
  have h3 := h2 []
  rw [Hx_nil] at h3
  have hle : i * n + n ≤ ls.length * n := by rw [← Nat.succ_mul]; exact Nat.mul_le_mul_right _ hi
  have := rd_part h3 (i * n + f) m (by omega)
  rw [show 0 + i * n + f = 0 + (i * n + f) by omega, this, flat_row he ls hi f m hf]
  rw [List.getElem?_map, List.getElem?_eq_getElem hi] at hr
  cases hr
  rfl
/-- What a room's box holds behind a rank that was set. -/
structure Rkd (w0 : World) (B : Hp) (l l2 : List (Option Ob)) (p k : Nat) (a b vm c : Value) (ks : List Rk) : Prop where
  ex : ∃ (rk : Value) (A : Addr) (d : Nat), l2[p]? = some (some (.row 26 [a, b, vm, rk, c])) ∧ Wk Tryz.prog rk (.slice (some A) ks.length d) ∧ rk.oneCell' = true ∧ Sl w0 (Hx B l2) (some A) 2 (ks.map Rk.enc) ∧ ∀ L, rd w0 (Hx (Hx B l2) L) A (ks.length * 2) = some (flat Rk.enc ks)
  oth : ∀ q, q < l.length → q ≠ p → q ≠ k → l2[q]? = l[q]?
theorem ranked_ok (B : Hp) (l : List (Option Ob)) (p k : Nat) (a b vm c : Value) (ks : List Rk) (u : ByteArray) (num : Int) (hpk : p ≠ k) (ha : Asc ks) (hn : ks.length ≤ 1000)
    (hp : l[p]? = some (some (.row 26 [a, b, vm, xs (.slice (some ⟨nid B k, 0, some (ks.length * 2)⟩) ks.length ks.length), c]))) (hk : l[k]? = some (some (.row 43 (flat Rk.enc ks)))) :
    AFn Tryz.prog w0 72 #[.pointer (some ⟨nid B p, 0, some 5⟩), .string u, .int .i64 num] (Hx B l) fun v H2 => v = .tuple #[] ∧ ∃ l2, H2 = Hx B l2 ∧ Rkd w0 B l l2 p k a b vm c (rankedI u num ks) := by
  refine AFn_of Tryz.func72 rfl (by kernel_rfl) ?_
  have r := Tryz.results72
  have hlp : p < l.length := lt_of_get hp
  have hlk : k < l.length := lt_of_get hk
  have hs := Sl_own (w0 := w0) klen _ ks B l k hk
  have hm := atK_le u ks
  simp only [go_sem, cond, Nat.reduceAdd, Nat.reduceLeDiff, Nat.reduceEqDiff, Nat.reduceBEq, decide_true, decide_false, Int.toNat_natCast, r, hp]
  refine call_eq (AFn.weak (.cons (.xs _) (.cons (.refl _) (.cons (.refl _) .nil))) (search_ok w0 _ _ ks.length ks u ha hs (by omega))) ?_
  simp only [go_sem, cond, Nat.reduceAdd, Nat.reduceLeDiff, Nat.reduceEqDiff, Nat.reduceBEq, decide_true, decide_false, Int.toNat_natCast, r, hp]
  refine Br_intro ?_ ?_ <;> intro h1 <;> simp only [go_sem, cond, Nat.reduceAdd, Nat.reduceLeDiff, Nat.reduceEqDiff, Nat.reduceBEq, decide_true, decide_false, Int.toNat_natCast, r, hp, h1]
  · have hat : atK u ks < ks.length := by
      unfold thereK at h1
      rcases Nat.lt_or_ge (atK u ks) ks.length with h | h
      · exact h
      · rw [List.getElem?_eq_none h] at h1; cases h1
    have hget : ks[atK u ks]? = some ks[atK u ks] := List.getElem?_eq_getElem hat
    refine Br_intro ?_ ?_ <;> intro h2 <;> simp only [go_sem, cond, Nat.reduceAdd, Nat.reduceLeDiff, Nat.reduceEqDiff, Nat.reduceBEq, decide_true, decide_false, Int.toNat_natCast, r, hp, h1, h2]
    · have hnum : num = 1 := eq_of_beq h2
      have w1 : IntKind.i64.wrap ((atK u ks : Int) + 1) = ((atK u ks + 1 : Nat) : Int) := by rw [wrap_i64 (by omega) (by omega)]; omega
      rw [w1]
      refine call_eq (AFn.weak (.cons (.xs _) (.cons (.refl _) (.cons (.refl _) .nil))) (delK_ok w0 B l k ks (atK u ks) hat (by omega) hk)) ?_
      have gp : ∀ X : Option Ob, (l.set k X)[p]? = l[p]? := fun X => by rw [List.getElem?_set_ne (fun e => hpk e.symm)]
      simp only [go_sem, cond, Nat.reduceAdd, Nat.reduceLeDiff, Nat.reduceEqDiff, Nat.reduceBEq, decide_true, decide_false, Int.toNat_natCast, r, hp, gp, h1, h2]
      have e : rankedI u num ks = ks.eraseIdx (atK u ks) := by unfold rankedI; rw [if_pos h1, if_pos hnum]
      have el : (ks.eraseIdx (atK u ks)).length = ks.length - 1 := by rw [List.length_eraseIdx, if_pos hat]
      rw [e]
      obtain ⟨g1, g2⟩ := own_more (w0 := w0) klen 43 (ks.eraseIdx (atK u ks)) [.string em, .int .i64 0] (ks.length * 2) B ((l.set k (some (.row 43 (flat Rk.enc (ks.eraseIdx (atK u ks)) ++ [.string em, .int .i64 0])))).set p (some (.row 26 [a, b, vm, .slice (some ⟨nid B k, 0, some (ks.length * 2)⟩) (ks.length - 1) ks.length, c]))) k (by rw [List.getElem?_set_ne hpk, List.getElem?_set_self hlk]) (by rw [List.length_append, flat_len klen, el]; simp; omega)
      refine ⟨rfl, _, rfl, ⟨⟨.slice (some ⟨nid B k, 0, some (ks.length * 2)⟩) (ks.length - 1) ks.length, _, ks.length, ?_, by rw [el]; exact .refl _, rfl, g1, g2⟩, fun q hq h3 h4 => ?_⟩⟩
      · rw [List.getElem?_set_self (by simpa using hlp)]
      · rw [List.getElem?_set_ne (fun e => h3 e.symm), List.getElem?_set_ne (fun e => h4 e.symm)]
    · have hnum : ¬ num = 1 := by intro e; subst e; cases h2
      have d1 : (0 : Int) ≤ (atK u ks : Int) ∧ (atK u ks : Int) < (ks.length : Int) := by omega
      have hlen := flat_len klen ks
      refine Req_intro d1 ?_
      simp only [go_sem, cond, Nat.reduceAdd, Nat.reduceLeDiff, Nat.reduceEqDiff, Nat.reduceBEq, decide_true, decide_false, Int.toNat_natCast, r, hp, hk, h1, h2, hlen]
      refine Req_intro (by omega) ?_
      simp only [go_sem, cond, Nat.reduceAdd, Nat.reduceLeDiff, Nat.reduceEqDiff, Nat.reduceBEq, decide_true, decide_false, Int.toNat_natCast, r, hp, hk, h1, h2, hlen]
      have e : rankedI u num ks = ks.set (atK u ks) ⟨ks[atK u ks].user, num⟩ := by unfold rankedI; rw [if_pos h1, if_neg hnum, hget]
      have el : (ks.set (atK u ks) ⟨ks[atK u ks].user, num⟩).length = ks.length := List.length_set ..
      have p0 : (flat Rk.enc ks).set (atK u ks * 2 + 1) (.int .i64 num) = flat Rk.enc (ks.set (atK u ks) ⟨ks[atK u ks].user, num⟩) := flat_put klen ks (atK u ks) ⟨ks[atK u ks].user, num⟩ hat 1 (.int .i64 num) (by decide) rfl
      rw [e, p0]
      obtain ⟨g1, g2⟩ := own_more (w0 := w0) klen 43 (ks.set (atK u ks) ⟨ks[atK u ks].user, num⟩) [] (ks.length * 2) B (l.set k (some (.row 43 (flat Rk.enc (ks.set (atK u ks) ⟨ks[atK u ks].user, num⟩))))) k (by rw [List.getElem?_set_self hlk, List.append_nil]) (by rw [List.append_nil, flat_len klen, el])
      refine ⟨rfl, _, rfl, ⟨⟨xs (.slice (some ⟨nid B k, 0, some (ks.length * 2)⟩) ks.length ks.length), _, ks.length, ?_, by rw [el]; exact .xs _, rfl, g1, g2⟩, fun q hq h3 h4 => ?_⟩⟩
      · rw [List.getElem?_set_ne (fun e => hpk e.symm)]; exact hp
      · rw [List.getElem?_set_ne (fun e => h4 e.symm)]
  · refine Br_intro ?_ ?_ <;> intro h2 <;> simp only [go_sem, cond, Nat.reduceAdd, Nat.reduceLeDiff, Nat.reduceEqDiff, Nat.reduceBEq, decide_true, decide_false, Int.toNat_natCast, r, hp, h1, h2]
    · have hnum : num = 1 := eq_of_beq h2
      have e : rankedI u num ks = ks := by unfold rankedI; rw [if_neg (by rw [h1]; decide), if_pos hnum]
      rw [e]
      obtain ⟨g1, g2⟩ := own_more (w0 := w0) klen 43 ks [] (ks.length * 2) B l k (by rw [List.append_nil]; exact hk) (by rw [List.append_nil, flat_len klen])
      exact ⟨rfl, _, rfl, ⟨⟨_, _, _, hp, .xs _, rfl, g1, g2⟩, fun q hq h3 h4 => rfl⟩⟩
    · have hnum : ¬ num = 1 := by intro e; subst e; cases h2
      refine Req_intro ⟨_, rfl, rfl⟩ ?_
      have gq : ∀ X : Option Ob, (l ++ [X])[p]? = l[p]? := fun X => List.getElem?_append_left hlp
      have gq2 : ∀ X Y : Option Ob, (l ++ [X, Y])[p]? = l[p]? := fun X Y => List.getElem?_append_left hlp
      simp only [go_sem, cond, Nat.reduceAdd, Nat.reduceLeDiff, Nat.reduceEqDiff, Nat.reduceBEq, decide_true, decide_false, Int.toNat_natCast, r, hp, gq, h1, h2]
      refine call_eq (insK_ok w0 B (l ++ [some (.row 43 [.string u, .int .i64 num])]) k l.length ks ⟨u, num⟩ (atK u ks) hm (by omega) (by rw [List.getElem?_append_left hlk]; exact hk) (by rw [List.getElem?_append_right (Nat.le_refl _)]; simp [Rk.enc])) ?_
      rw [List.append_assoc]
      simp only [go_sem, cond, Nat.reduceAdd, Nat.reduceLeDiff, Nat.reduceEqDiff, Nat.reduceBEq, decide_true, decide_false, Int.toNat_natCast, r, hp, gq2, h1, h2]
      have e : rankedI u num ks = ks.take (atK u ks) ++ ⟨u, num⟩ :: ks.drop (atK u ks) := by unfold rankedI; rw [if_neg (by rw [h1]; decide), if_neg hnum]
      have el : (ks.take (atK u ks) ++ (⟨u, num⟩ : Rk) :: ks.drop (atK u ks)).length = ks.length + 1 := by simp; omega
      rw [e]
      generalize ks.take (atK u ks) ++ (⟨u, num⟩ : Rk) :: ks.drop (atK u ks) = ks2 at *
      have ep : (l ++ [some (Ob.row 43 [Value.string u, .int .i64 num])]).length = l.length + 1 := by simp
      rw [ep]
      obtain ⟨g1, g2⟩ := own_more (w0 := w0) klen 43 ks2 [] ((ks.length + 1) * 2) B ((l ++ [some (Ob.row 43 [Value.string u, Value.int .i64 num]), some (Ob.row 43 (flat Rk.enc ks2))]).set p (some (Ob.row 26 [a, b, vm, .slice (some ⟨nid B (l.length + 1), 0, some ((ks.length + 1) * 2)⟩) (ks.length + 1) (ks.length + 1), c]))) (l.length + 1) (by rw [List.getElem?_set_ne (by omega), List.append_nil, List.getElem?_append_right (by omega)]; simp) (by rw [List.append_nil, flat_len klen, el])
      refine ⟨rfl, _, rfl, ⟨⟨.slice (some ⟨nid B (l.length + 1), 0, some ((ks.length + 1) * 2)⟩) (ks.length + 1) (ks.length + 1), _, ks.length + 1, ?_, by rw [el]; exact .refl _, rfl, g1, g2⟩, fun q hq h3 h4 => ?_⟩⟩
      · rw [List.getElem?_set_self (by simp; omega)]
      · rw [List.getElem?_set_ne (fun e => h3 e.symm), List.getElem?_append_left hq]
end Go.Proofs.YtmacpgoclhgafaaGreatDoorW.FA

namespace Go.Proofs.YtmacpgoclhgafaaGreatDoorW.FA
open Go.RowKit Go.Proofs.YtmacpgoclhgafaaGreatDoorW.XM Go.Proofs Go.Proofs.YtmacpgoclhgafaaGreatDoorW.XWords
set_option maxRecDepth 100000
set_option linter.unusedSimpArgs false
variable (w0 : World) (H : Hp)
theorem RmAt_more {H : Hp} {l : List (Option Ob)} {j k : Nat} {n s : ByteArray} {q : Int} {ms : List Mem} {ks : List Rk} (z1 z2 : List Value) {t1 t2 c d : Nat} (hj : l[j]? = some (some (.row 67 (flat Mem.enc ms ++ z1)))) (hk : l[k]? = some (some (.row 43 (flat Rk.enc ks ++ z2)))) (h1 : (flat Mem.enc ms ++ z1).length = t1) (h2 : (flat Rk.enc ks ++ z2).length = t2) (lm : ms.length ≤ 2000000) (lk : ks.length ≤ 2000000) : RmAt w0 (Hx H l) ⟨n, q, ms, ks, s⟩ ⟨some ⟨nid H j, 0, some t1⟩, c, some ⟨nid H k, 0, some t2⟩, d⟩ := by
  obtain ⟨a1, a2⟩ := own_more (w0 := w0) mlen _ ms z1 t1 H l j hj h1
  obtain ⟨b1, b2⟩ := own_more (w0 := w0) klen _ ks z2 t2 H l k hk h2
  exact ⟨a1, b1, lm, lk, fun L => by rw [src_sl, a2]; rfl, fun L => by rw [src_sl, b2]; rfl⟩
theorem applied_ok (R : Rm) (xa xb : Addr) (xc xd : Nat) (e : En) (hT : Tabs w0) (hr : RmAt w0 H R ⟨some xa, xc, some xb, xd⟩) (hb : Big R) (he : BigE e) (lm : R.ms.length ≤ 5) (lk : R.ks.length ≤ 6) (hR : roomB R = true)
    (hold : ∀ sel, ren3 (rho H sel) (.tuple #[.agg (R.enc ⟨some xa, xc, some xb, xd⟩).toArray, .bool false]) = some (.tuple #[.agg (R.enc ⟨some xa, xc, some xb, xd⟩).toArray, .bool false])) :
    AFn Tryz.prog w0 35 #[.agg (R.enc ⟨some xa, xc, some xb, xd⟩).toArray, .agg e.enc.toArray] H fun v H2 => (canB R e = true ∧ v = .tuple #[.agg ((applyR R e).enc (adR H (applyR R e) 0 1)).toArray, .bool true] ∧ H2 = Hx H (obsR (applyR R e))) ∨ (canB R e = false ∧ v = .tuple #[.agg (R.enc ⟨some xa, xc, some xb, xd⟩).toArray, .bool false] ∧ H2 = H) := by
  refine AFn.news Tryz.func35 rfl (by kernel_rfl) ?_
  have r := Tryz.results35
  simp only [go_sem, cond, Nat.reduceAdd, Nat.reduceLeDiff, Nat.reduceEqDiff, Nat.reduceBEq, decide_true, decide_false, Int.toNat_natCast, r]
  simp only [go_sem, cond, Nat.reduceAdd, Nat.reduceLeDiff, Nat.reduceEqDiff, Nat.reduceBEq, decide_true, decide_false, Int.toNat_natCast, Rm.enc, En.enc, r]
  have hno : canB R e = false → ∀ l, ∃ l' sel v3, Hx H l = Hx H l' ∧ (∀ k ∈ sel, PlainOb ((l'[k]?).join)) ∧ sel.Nodup ∧ ren3 (rho H sel) (.tuple #[.agg (R.enc ⟨some xa, xc, some xb, xd⟩).toArray, .bool false]) = some v3 ∧ ((canB R e = true ∧ v3 = .tuple #[.agg ((applyR R e).enc (adR H (applyR R e) 0 1)).toArray, .bool true] ∧ Hx H (pick l' sel) = Hx H (obsR (applyR R e))) ∨ (canB R e = false ∧ v3 = .tuple #[.agg (R.enc ⟨some xa, xc, some xb, xd⟩).toArray, .bool false] ∧ Hx H (pick l' sel) = H)) := fun hc l => ⟨l, [], _, rfl, by simp, List.nodup_nil, hold [], .inr ⟨hc, rfl, Hx_nil H⟩⟩
  refine call_eq (EntryOk_ok _ _ e hT he) ?_
  simp only [go_sem, cond, Nat.reduceAdd, Nat.reduceLeDiff, Nat.reduceEqDiff, Nat.reduceBEq, decide_true, decide_false, Int.toNat_natCast, Rm.enc, En.enc, r]
  repeat' (refine Br_intro ?_ ?_ <;> intro h <;> simp only [go_sem, cond, Nat.reduceAdd, Nat.reduceLeDiff, Nat.reduceEqDiff, Nat.reduceBEq, decide_true, decide_false, Int.toNat_natCast, Rm.enc, En.enc, r, h])
  all_goals first
    | exact hno (by simp only [canB, *, Bool.true_and, Bool.false_and]) _
    | skip
  rename_i g1 g2
  have hs : e.seq = R.next := eq_of_beq h
  refine call_eq (copiedX_ok _ _ R xa xb xc xd (hr.old _)) ?_
  simp only [go_sem, cond, Nat.reduceAdd, Nat.reduceLeDiff, Nat.reduceEqDiff, Nat.reduceBEq, decide_true, decide_false, Int.toNat_natCast, Rm.encX, En.enc, r, obsR, adR]
  refine call_eq (member_ok _ _ R _ _ (hr.old _)) ?_
  simp only [go_sem, cond, Nat.reduceAdd, Nat.reduceLeDiff, Nat.reduceEqDiff, Nat.reduceBEq, decide_true, decide_false, Int.toNat_natCast, r]
  obtain ⟨al1, al2⟩ := applyR_len R e
  have hb2 := applyR_big R e hb he
  by_cases k1 : (e.kind == 1) = true
  · have hc : canB R e = roomB (applyR R e) := by simp only [canB, needB, g1, g2, h, k1, Bool.true_and, Bool.true_or, Bool.or_true]
    have ha : applyR R e = ⟨R.name, IntKind.i64.wrap (R.next + 1), R.ms ++ [⟨e.user, e.nick, e.num⟩], R.ks, R.subj⟩ := by simp only [applyR, k1, hs, if_true]
    (refine xw_open (id := 6) [0, 1, 3, 7, 15, 31, 63, 127, 255, 511, 1023, 2047, 4095, 8191, 4095, 32767, 65535, 131071, 4095, 266239, 1048575, 2097151, 4194303] [.q 0, .q 1, .q 2, .q 3, .q 4, .q 5, .q 6, .q 7, .q 8, .q 9, .q 10, .q 11, .q 12, .q 14, .q 18, .q 13, .q 15, .q 16, .q 17, .q 19, .q 20, .q 21, .q 22] rfl (by kernel_rfl) ?_; simp only [go_sem, cond, Nat.reduceAdd, Nat.reduceLeDiff, Nat.reduceEqDiff, Nat.reduceBEq, decide_true, decide_false, Int.toNat_natCast, r, k1])
    refine Req_intro ⟨_, rfl, rfl⟩ ?_
    simp only [go_sem, cond, Nat.reduceAdd, Nat.reduceLeDiff, Nat.reduceEqDiff, Nat.reduceBEq, decide_true, decide_false, Int.toNat_natCast, r, k1]
    refine app_out _ rfl rfl XF.elm_23 XF.zer_67 rfl XF.byt_67 (m := 1) (cs := [.string e.user, .string e.nick, .int .i64 e.num]) (old := flat Mem.enc R.ms) ?ha (by omega) (by omega) (by omega) ?hb ?_
    case ha =>
      show appd _ _ _ _ _ (isInt Tryz.prog 23) _ = _
      simp only [go_sem, cond, Nat.reduceAdd, Nat.reduceLeDiff, Nat.reduceEqDiff, Nat.reduceBEq, decide_true, decide_false, Int.toNat_natCast, appd]
    case hb => rw [rd_own]; show rdO (some (some (.row _ _))) _ _ _ = _; rw [rdO_row, if_pos ⟨flat_len mlen _, by rw [flat_len mlen]; omega⟩, List.drop_zero, List.take_of_length_le (by rw [flat_len mlen]; exact Nat.le_refl _)]
    simp only [go_sem, cond, Nat.reduceAdd, Nat.reduceLeDiff, Nat.reduceEqDiff, Nat.reduceBEq, decide_true, decide_false, Int.toNat_natCast, r, k1]
    have e1 : flat Mem.enc R.ms ++ [.string e.user, .string e.nick, .int .i64 e.num] = flat Mem.enc (R.ms ++ [⟨e.user, e.nick, e.num⟩]) := by rw [flat_app]; rfl
    have e2 : R.ms.length + 1 = (R.ms ++ [(⟨e.user, e.nick, e.num⟩ : Mem)]).length := by simp
    rw [e1, e2]
    rw [ha] at hb2 hc al1 al2 hno ⊢
    simp only at al1 al2
    clear e1 e2 ha
    generalize R.ms ++ [(⟨e.user, e.nick, e.num⟩ : Mem)] = ms' at *
    refine call_eq (AFn.weak (.cons (Wks.agg (.cons (.refl _) (.cons (.refl _) (.cons (.refl _) (.cons (.xs _) (.cons (.refl _) .nil)))))) .nil) (RoomOk_ok w0 _ ⟨R.name, IntKind.i64.wrap (R.next + 1), ms', R.ks, R.subj⟩ (adR H ⟨R.name, IntKind.i64.wrap (R.next + 1), ms', R.ks, R.subj⟩ 7 4) hT (RmAt_own (j := 7) (k := 4) rfl rfl (by simp only; omega) (by simp only; omega)) hb2)) ?_
    simp only [go_sem, cond, Nat.reduceAdd, Nat.reduceLeDiff, Nat.reduceEqDiff, Nat.reduceBEq, decide_true, decide_false, Int.toNat_natCast, r]
    refine Br_intro ?_ ?_ <;> intro ho <;> simp only [go_sem, cond, Nat.reduceAdd, Nat.reduceLeDiff, Nat.reduceEqDiff, Nat.reduceBEq, decide_true, decide_false, Int.toNat_natCast, r, ho]
    · refine call_eq (AFn.weak (.cons (Wks.agg (.cons (.refl _) (.cons (.refl _) (.cons (.refl _) (.cons (.xs _) (.cons (.refl _) .nil)))))) .nil) (copied_ok w0 _ ⟨R.name, IntKind.i64.wrap (R.next + 1), ms', R.ks, R.subj⟩ _ _ _ _ (RmAt_own (j := 7) (k := 4) rfl rfl (by simp only; omega) (by simp only; omega)))) ?_
      simp only [go_sem, cond, Nat.reduceAdd, Nat.reduceLeDiff, Nat.reduceEqDiff, Nat.reduceBEq, decide_true, decide_false, Int.toNat_natCast, Rm.enc, r, obsR, adR]
      exact ⟨_, [8, 9], _, rfl, pl2 ms' R.ks rfl rfl, by decide, ren_roomT H ⟨R.name, IntKind.i64.wrap (R.next + 1), ms', R.ks, R.subj⟩ true rfl rfl, .inl ⟨hc.trans ho, rfl, rfl⟩⟩
    · exact hno (hc.trans ho) _
  rw [Bool.not_eq_true] at k1
  have hasc : Asc R.ks := by
    simp only [roomB, Bool.and_eq_true] at hR
    exact asc_room hR.2.2.2.2.1.1
  by_cases k6 : (e.kind == 6) = true
  · have hc : canB R e = roomB (applyR R e) := by simp only [canB, needB, g1, g2, h, k6, Bool.true_and, Bool.true_or, Bool.or_true]
    have k2 : (e.kind == 2) = false := by rw [eq_of_beq k6]; rfl
    have k4 : (e.kind == 4) = false := by rw [eq_of_beq k6]; rfl
    have k5 : (e.kind == 5) = false := by rw [eq_of_beq k6]; rfl
    have ha : applyR R e = ⟨R.name, IntKind.i64.wrap (R.next + 1), R.ms, rankedI e.user e.num R.ks, R.subj⟩ := by rw [← rkd_ranked _ _ _ hasc]; simp only [applyR, k1, k2, k4, k5, k6, hs, if_true, Bool.false_eq_true, if_false]
    (refine xw_open (id := 6) [0, 1, 3, 7, 15, 31, 63, 127, 255, 511, 1023, 2047, 4095, 8191, 4095, 32767, 65535, 131071, 4095, 266239, 1048575, 2097151, 4194303] [.q 0, .q 1, .q 2, .q 3, .q 4, .q 5, .q 6, .q 7, .q 8, .q 9, .q 10, .q 11, .q 12, .q 14, .q 18, .q 13, .q 15, .q 16, .q 17, .q 19, .q 20, .q 21, .q 22] rfl (by kernel_rfl) ?_; simp only [go_sem, cond, Nat.reduceAdd, Nat.reduceLeDiff, Nat.reduceEqDiff, Nat.reduceBEq, decide_true, decide_false, Int.toNat_natCast, r, k1, k2, k4, k5, k6])
    refine call (ranked_ok w0 H _ 5 4 _ _ _ _ R.ks e.user e.num (by decide) hasc (by omega) rfl rfl) ?_
    rintro v H2 ⟨rfl, l2, rfl, ⟨⟨rk, A, d, hbx, hwk, hone, hsl, hrd⟩, hoth⟩⟩
    have q0 := hoth 0 (by simp) (by decide) (by decide)
    have q2 := hoth 2 (by simp) (by decide) (by decide)
    have q3 := hoth 3 (by simp) (by decide) (by decide)
    simp only [List.getElem?_cons_zero, List.getElem?_cons_succ] at q0 q2 q3
    clear hoth
    rw [ha] at hb2 hc al1 al2 hno ⊢
    simp only at al1 al2
    clear ha
    generalize rankedI e.user e.num R.ks = ks' at *
    have lt2 : 2 < l2.length := lt_of_get q2
    have hRM : RmAt w0 (Hx H l2) ⟨R.name, IntKind.i64.wrap (R.next + 1), R.ms, ks', R.subj⟩ ⟨some ⟨nid H 3, 0, some (R.ms.length * 3)⟩, R.ms.length, some A, d⟩ := ⟨Sl_own mlen _ R.ms H l2 3 q3, hsl, by simp only; omega, by simp only; omega, fun L => by rw [src_sl, rd_flat mlen _ R.ms H l2 3 q3]; rfl, fun L => by rw [src_sl, hrd]; rfl⟩
    have p2 : ∀ X Y : Option Ob, (l2 ++ [X, Y])[2]? = l2[2]? := fun X Y => List.getElem?_append_left lt2
    have p5 : ∀ X Y Z : Option Ob, ((l2 ++ [X, Y]).set 2 Z)[2]? = some Z := fun X Y Z => by rw [List.getElem?_set_self (by simp; omega)]
    have p6 : ∀ Z : Option Ob, (l2.set 2 Z)[2]? = some Z := fun Z => by rw [List.getElem?_set_self lt2]
    have pA : ∀ X Y Z : Option Ob, ((l2 ++ [X, Y]).set 2 Z)[l2.length]? = some X := fun X Y Z => by rw [List.getElem?_set_ne (by omega), List.getElem?_append_right (Nat.le_refl _)]; simp
    have pB : ∀ X Y Z : Option Ob, ((l2 ++ [X, Y]).set 2 Z)[l2.length + 1]? = some Y := fun X Y Z => by rw [List.getElem?_set_ne (by omega), List.getElem?_append_right (by omega)]; simp
    simp only [go_sem, cond, Nat.reduceAdd, Nat.reduceLeDiff, Nat.reduceEqDiff, Nat.reduceBEq, decide_true, decide_false, Int.toNat_natCast, r, hbx]
    refine call_eq (AFn.weak (.cons (Wks.agg (.cons (.refl _) (.cons (.refl _) (.cons (.xs _) (.cons hwk (.cons (.refl _) .nil)))))) .nil) (RoomOk_ok w0 _ ⟨R.name, IntKind.i64.wrap (R.next + 1), R.ms, ks', R.subj⟩ ⟨some ⟨nid H 3, 0, some (R.ms.length * 3)⟩, R.ms.length, some A, d⟩ hT hRM hb2)) ?_
    simp only [go_sem, cond, Nat.reduceAdd, Nat.reduceLeDiff, Nat.reduceEqDiff, Nat.reduceBEq, decide_true, decide_false, Int.toNat_natCast, r, hbx, q0, q2]
    refine Br_intro ?_ ?_ <;> intro ho <;> simp only [go_sem, cond, Nat.reduceAdd, Nat.reduceLeDiff, Nat.reduceEqDiff, Nat.reduceBEq, decide_true, decide_false, Int.toNat_natCast, r, ho, hbx, q0, q2, p6]
    · refine call_eq (AFn.weak (.cons (Wks.agg (.cons (.refl _) (.cons (.refl _) (.cons (.xs _) (.cons hwk (.cons (.refl _) .nil)))))) .nil) (copied_ok w0 _ ⟨R.name, IntKind.i64.wrap (R.next + 1), R.ms, ks', R.subj⟩ _ _ _ _ hRM)) ?_
      simp only [go_sem, cond, Nat.reduceAdd, Nat.reduceLeDiff, Nat.reduceEqDiff, Nat.reduceBEq, decide_true, decide_false, Int.toNat_natCast, Rm.enc, r, obsR, adR, p2, q2, p5, Nat.add_zero]
      exact ⟨_, [l2.length, l2.length + 1], _, rfl, pl2 R.ms ks' (pA _ _ _) (pB _ _ _), by simp, ren_roomT H ⟨R.name, IntKind.i64.wrap (R.next + 1), R.ms, ks', R.subj⟩ true (idx_hit _ _) (by simp [idx]), .inl ⟨hc.trans ho, rfl, by simp only [pick, List.map_cons, List.map_nil, pA, pB]; rfl⟩⟩
    · exact hno (hc.trans ho) _
  rw [Bool.not_eq_true] at k6
  rcases idxP_find (isU e.user) R.ms 0 with ⟨f1, f2⟩ | ⟨k, hk, f1, f2⟩
  · have d1 : ((-1 : Int) < 0) = True := eq_true (by omega)
    have hn : canB R e = false := by simp only [canB, needB, isB, f2, k1, k6, Bool.false_or, Bool.false_and, Bool.and_false]
    rw [f1]
    (refine xw_open (id := 6) [0, 1, 3, 7, 15, 31, 63, 127, 255, 511, 1023, 2047, 4095, 8191, 4095, 32767, 65535, 131071, 4095, 266239, 1048575, 2097151, 4194303] [.q 0, .q 1, .q 2, .q 3, .q 4, .q 5, .q 6, .q 7, .q 8, .q 9, .q 10, .q 11, .q 12, .q 14, .q 18, .q 13, .q 15, .q 16, .q 17, .q 19, .q 20, .q 21, .q 22] rfl (by kernel_rfl) ?_; simp only [go_sem, cond, Nat.reduceAdd, Nat.reduceLeDiff, Nat.reduceEqDiff, Nat.reduceBEq, decide_true, decide_false, Int.toNat_natCast, r, d1, k1, k6])
    exact hno hn _
  · rw [Nat.zero_add] at f1
    have d1 : ((k : Int) < 0) = False := eq_false (by omega)
    have d2 : ((k : Int) < (R.ms.length : Int)) = True := eq_true (by omega)
    have d3 : ((0 : Int) ≤ (k : Int)) = True := eq_true (by omega)
    obtain ⟨b, o, sp, hx, hc1, _⟩ := mcell hr.sm hk
    cases hx
    have c0 := fun L => hc1 1 (.string R.ms[k].nick) L (by decide) rfl
    have hB : isB R e = (R.ms[k].nick.toList == e.nick.toList) := by rw [isB, f2]
    rw [f1]
    (refine xw_open (id := 6) [0, 1, 3, 7, 15, 31, 63, 127, 255, 511, 1023, 2047, 4095, 8191, 4095, 32767, 65535, 131071, 4095, 266239, 1048575, 2097151, 4194303] [.q 0, .q 1, .q 2, .q 3, .q 4, .q 5, .q 6, .q 7, .q 8, .q 9, .q 10, .q 11, .q 12, .q 14, .q 18, .q 13, .q 15, .q 16, .q 17, .q 19, .q 20, .q 21, .q 22] rfl (by kernel_rfl) ?_; simp only [go_sem, cond, Nat.reduceAdd, Nat.reduceLeDiff, Nat.reduceEqDiff, Nat.reduceBEq, decide_true, decide_false, Int.toNat_natCast, r, d1, d2, d3, c0, k1, k6])
    refine Br_intro ?_ ?_ <;> intro h5 <;> simp only [go_sem, cond, Nat.reduceAdd, Nat.reduceLeDiff, Nat.reduceEqDiff, Nat.reduceBEq, decide_true, decide_false, Int.toNat_natCast, r, h5, k1, k6]
    case refine_2 => exact hno (by simp only [canB, needB, hB, h5, k1, k6, Bool.false_or, Bool.false_and, Bool.and_false]) _
    have hc : canB R e = roomB (applyR R e) := by simp only [canB, needB, g1, g2, h, hB, h5, Bool.true_and, Bool.or_true]
    have tM := flat_len mlen R.ms
    have tK := flat_len klen R.ks
    refine Br_intro ?_ ?_ <;> intro k2 <;> simp only [go_sem, cond, Nat.reduceAdd, Nat.reduceLeDiff, Nat.reduceEqDiff, Nat.reduceBEq, decide_true, decide_false, Int.toNat_natCast, r, k2]
    · have w1 : IntKind.i64.wrap ((k : Int) + 1) = ((k + 1 : Nat) : Int) := by rw [wrap_i64 (by omega) (by omega)]; omega
      have ha : applyR R e = ⟨R.name, IntKind.i64.wrap (R.next + 1), R.ms.eraseIdx k, R.ks, R.subj⟩ := by
        have e1 : outI R.ms (k : Int) = R.ms.eraseIdx k := by unfold outI; rw [if_pos (by omega), Int.toNat_natCast, List.eraseIdx_eq_take_drop_succ]
        simp only [applyR, k1, k2, hs, f1, e1, if_true, Bool.false_eq_true, if_false]
      rw [w1]
      refine call_eq (AFn.weak (.cons (.xs _) (.cons (.refl _) (.cons (.refl _) .nil))) (delM_ok w0 H _ 3 R.ms k hk (by omega) rfl)) ?_
      simp only [go_sem, cond, Nat.reduceAdd, Nat.reduceLeDiff, Nat.reduceEqDiff, Nat.reduceBEq, decide_true, decide_false, Int.toNat_natCast, r, k2]
      have el : (R.ms.eraseIdx k).length = R.ms.length - 1 := by rw [List.length_eraseIdx, if_pos hk]
      rw [← el]
      rw [ha] at hb2 hc al1 al2 hno ⊢
      simp only at al1 al2
      have tM2 : (flat Mem.enc (R.ms.eraseIdx k) ++ [Value.string em, Value.string em, Value.int .i64 0]).length = R.ms.length * 3 := by rw [List.length_append, flat_len mlen, el]; simp; omega
      clear ha el
      generalize R.ms.eraseIdx k = ms' at *
      refine call_eq (AFn.weak (.cons (Wks.agg (.cons (.refl _) (.cons (.refl _) (.cons (.refl _) (.cons (.xs _) (.cons (.refl _) .nil)))))) .nil) (RoomOk_ok w0 _ ⟨R.name, IntKind.i64.wrap (R.next + 1), ms', R.ks, R.subj⟩ ⟨some ⟨nid H 3, 0, some (R.ms.length * 3)⟩, R.ms.length, some ⟨nid H 4, 0, some (R.ks.length * 2)⟩, R.ks.length⟩ hT (RmAt_more w0 (j := 3) (k := 4) [.string em, .string em, .int .i64 0] [] rfl (by rw [List.append_nil]; rfl) tM2 (by rw [List.append_nil]; exact tK) (by omega) (by omega)) hb2)) ?_
      simp only [go_sem, cond, Nat.reduceAdd, Nat.reduceLeDiff, Nat.reduceEqDiff, Nat.reduceBEq, decide_true, decide_false, Int.toNat_natCast, r]
      refine Br_intro ?_ ?_ <;> intro ho <;> simp only [go_sem, cond, Nat.reduceAdd, Nat.reduceLeDiff, Nat.reduceEqDiff, Nat.reduceBEq, decide_true, decide_false, Int.toNat_natCast, r, ho]
      · refine call_eq (AFn.weak (.cons (Wks.agg (.cons (.refl _) (.cons (.refl _) (.cons (.refl _) (.cons (.xs _) (.cons (.refl _) .nil)))))) .nil) (copied_ok w0 _ ⟨R.name, IntKind.i64.wrap (R.next + 1), ms', R.ks, R.subj⟩ _ _ _ _ (RmAt_more w0 (j := 3) (k := 4) [.string em, .string em, .int .i64 0] [] rfl (by rw [List.append_nil]; rfl) tM2 (by rw [List.append_nil]; exact tK) (by omega) (by omega)))) ?_
        simp only [go_sem, cond, Nat.reduceAdd, Nat.reduceLeDiff, Nat.reduceEqDiff, Nat.reduceBEq, decide_true, decide_false, Int.toNat_natCast, Rm.enc, r, obsR, adR]
        exact ⟨_, [6, 7], _, rfl, pl2 ms' R.ks rfl rfl, by decide, ren_roomT H ⟨R.name, IntKind.i64.wrap (R.next + 1), ms', R.ks, R.subj⟩ true rfl rfl, .inl ⟨hc.trans ho, rfl, rfl⟩⟩
      · exact hno (hc.trans ho) _
    refine Br_intro ?_ ?_ <;> intro k4 <;> simp only [go_sem, cond, Nat.reduceAdd, Nat.reduceLeDiff, Nat.reduceEqDiff, Nat.reduceBEq, decide_true, decide_false, Int.toNat_natCast, r, k2, k4]
    · have ha : applyR R e = ⟨R.name, IntKind.i64.wrap (R.next + 1), R.ms, R.ks, e.text⟩ := by simp only [applyR, k1, k2, k4, hs, if_true, Bool.false_eq_true, if_false]
      rw [ha] at hb2 hc al1 al2 hno ⊢
      simp only at al1 al2
      refine call_eq (AFn.weak (.cons (Wks.agg (.cons (.refl _) (.cons (.refl _) (.cons (.xs _) (.cons (.xs _) (.cons (.refl _) .nil)))))) .nil) (RoomOk_ok w0 _ ⟨R.name, IntKind.i64.wrap (R.next + 1), R.ms, R.ks, e.text⟩ ⟨some ⟨nid H 3, 0, some (R.ms.length * 3)⟩, R.ms.length, some ⟨nid H 4, 0, some (R.ks.length * 2)⟩, R.ks.length⟩ hT (RmAt_more w0 (j := 3) (k := 4) [] [] (by rw [List.append_nil]; rfl) (by rw [List.append_nil]; rfl) (by rw [List.append_nil]; exact tM) (by rw [List.append_nil]; exact tK) (by omega) (by omega)) hb2)) ?_
      simp only [go_sem, cond, Nat.reduceAdd, Nat.reduceLeDiff, Nat.reduceEqDiff, Nat.reduceBEq, decide_true, decide_false, Int.toNat_natCast, r]
      refine Br_intro ?_ ?_ <;> intro ho <;> simp only [go_sem, cond, Nat.reduceAdd, Nat.reduceLeDiff, Nat.reduceEqDiff, Nat.reduceBEq, decide_true, decide_false, Int.toNat_natCast, r, ho]
      · refine call_eq (AFn.weak (.cons (Wks.agg (.cons (.refl _) (.cons (.refl _) (.cons (.xs _) (.cons (.xs _) (.cons (.refl _) .nil)))))) .nil) (copied_ok w0 _ ⟨R.name, IntKind.i64.wrap (R.next + 1), R.ms, R.ks, e.text⟩ _ _ _ _ (RmAt_more w0 (j := 3) (k := 4) [] [] (by rw [List.append_nil]; rfl) (by rw [List.append_nil]; rfl) (by rw [List.append_nil]; exact tM) (by rw [List.append_nil]; exact tK) (by omega) (by omega)))) ?_
        simp only [go_sem, cond, Nat.reduceAdd, Nat.reduceLeDiff, Nat.reduceEqDiff, Nat.reduceBEq, decide_true, decide_false, Int.toNat_natCast, Rm.enc, r, obsR, adR]
        exact ⟨_, [6, 7], _, rfl, pl2 R.ms R.ks rfl rfl, by decide, ren_roomT H ⟨R.name, IntKind.i64.wrap (R.next + 1), R.ms, R.ks, e.text⟩ true rfl rfl, .inl ⟨hc.trans ho, rfl, rfl⟩⟩
      · exact hno (hc.trans ho) _
    refine Br_intro ?_ ?_ <;> intro k5 <;> simp only [go_sem, cond, Nat.reduceAdd, Nat.reduceLeDiff, Nat.reduceEqDiff, Nat.reduceBEq, decide_true, decide_false, Int.toNat_natCast, r, k2, k4, k5]
    · have ha : applyR R e = ⟨R.name, IntKind.i64.wrap (R.next + 1), roleI R.ms (k : Int) e.num, R.ks, R.subj⟩ := by simp only [applyR, k1, k2, k4, k5, hs, f1, if_true, Bool.false_eq_true, if_false]
      simp only [go_sem, cond, Nat.reduceAdd, Nat.reduceLeDiff, Nat.reduceEqDiff, Nat.reduceBEq, decide_true, decide_false, Int.toNat_natCast, r, d2, d3, tM]
      refine Req_intro (by omega) ?_
      simp only [go_sem, cond, Nat.reduceAdd, Nat.reduceLeDiff, Nat.reduceEqDiff, Nat.reduceBEq, decide_true, decide_false, Int.toNat_natCast, r, d2, d3, tM]
      have p0 : (flat Mem.enc R.ms).set (k * 3 + 2) (.int .i64 e.num) = flat Mem.enc (roleI R.ms (k : Int) e.num) := by
        unfold roleI
        rw [if_pos (by omega), Int.toNat_natCast]
        have := flat_put mlen R.ms k ⟨R.ms[k].user, R.ms[k].nick, e.num⟩ hk 2 (.int .i64 e.num) (by decide) rfl
        rw [this, List.getElem?_eq_getElem hk]
      have el : R.ms.length = (roleI R.ms (k : Int) e.num).length := (roleI_mem _ _ _).1.symm
      rw [p0]
      rw [ha] at hb2 hc al1 al2 hno ⊢
      simp only at al1 al2
      have tM2 : (flat Mem.enc (roleI R.ms (k : Int) e.num) ++ []).length = R.ms.length * 3 := by rw [List.append_nil, flat_len mlen, ← el]
      clear ha p0
      generalize roleI R.ms (k : Int) e.num = ms' at *
      refine call_eq (AFn.weak (.cons (Wks.agg (.cons (.refl _) (.cons (.refl _) (.cons (by rw [el]; exact .xs _) (.cons (.xs _) (.cons (.refl _) .nil)))))) .nil) (RoomOk_ok w0 _ ⟨R.name, IntKind.i64.wrap (R.next + 1), ms', R.ks, R.subj⟩ ⟨some ⟨nid H 3, 0, some (R.ms.length * 3)⟩, R.ms.length, some ⟨nid H 4, 0, some (R.ks.length * 2)⟩, R.ks.length⟩ hT (RmAt_more w0 (j := 3) (k := 4) [] [] (by rw [List.append_nil]; rfl) (by rw [List.append_nil]; rfl) tM2 (by rw [List.append_nil]; exact tK) (by omega) (by omega)) hb2)) ?_
      simp only [go_sem, cond, Nat.reduceAdd, Nat.reduceLeDiff, Nat.reduceEqDiff, Nat.reduceBEq, decide_true, decide_false, Int.toNat_natCast, r]
      refine Br_intro ?_ ?_ <;> intro ho <;> simp only [go_sem, cond, Nat.reduceAdd, Nat.reduceLeDiff, Nat.reduceEqDiff, Nat.reduceBEq, decide_true, decide_false, Int.toNat_natCast, r, ho]
      · refine call_eq (AFn.weak (.cons (Wks.agg (.cons (.refl _) (.cons (.refl _) (.cons (by rw [el]; exact .xs _) (.cons (.xs _) (.cons (.refl _) .nil)))))) .nil) (copied_ok w0 _ ⟨R.name, IntKind.i64.wrap (R.next + 1), ms', R.ks, R.subj⟩ _ _ _ _ (RmAt_more w0 (j := 3) (k := 4) [] [] (by rw [List.append_nil]; rfl) (by rw [List.append_nil]; rfl) tM2 (by rw [List.append_nil]; exact tK) (by omega) (by omega)))) ?_
        simp only [go_sem, cond, Nat.reduceAdd, Nat.reduceLeDiff, Nat.reduceEqDiff, Nat.reduceBEq, decide_true, decide_false, Int.toNat_natCast, Rm.enc, r, obsR, adR]
        exact ⟨_, [6, 7], _, rfl, pl2 ms' R.ks rfl rfl, by decide, ren_roomT H ⟨R.name, IntKind.i64.wrap (R.next + 1), ms', R.ks, R.subj⟩ true rfl rfl, .inl ⟨hc.trans ho, rfl, rfl⟩⟩
      · exact hno (hc.trans ho) _
    have ha : applyR R e = ⟨R.name, IntKind.i64.wrap (R.next + 1), R.ms, R.ks, R.subj⟩ := by simp only [applyR, k1, k2, k4, k5, k6, hs, if_true, Bool.false_eq_true, if_false]
    rw [ha] at hb2 hc al1 al2 hno ⊢
    simp only at al1 al2
    simp only [go_sem, cond, Nat.reduceAdd, Nat.reduceLeDiff, Nat.reduceEqDiff, Nat.reduceBEq, decide_true, decide_false, Int.toNat_natCast, r, k6]
    refine call_eq (AFn.weak (.cons (Wks.agg (.cons (.refl _) (.cons (.refl _) (.cons (.xs _) (.cons (.xs _) (.cons (.refl _) .nil)))))) .nil) (RoomOk_ok w0 _ ⟨R.name, IntKind.i64.wrap (R.next + 1), R.ms, R.ks, R.subj⟩ ⟨some ⟨nid H 3, 0, some (R.ms.length * 3)⟩, R.ms.length, some ⟨nid H 4, 0, some (R.ks.length * 2)⟩, R.ks.length⟩ hT (RmAt_more w0 (j := 3) (k := 4) [] [] (by rw [List.append_nil]; rfl) (by rw [List.append_nil]; rfl) (by rw [List.append_nil]; exact tM) (by rw [List.append_nil]; exact tK) (by omega) (by omega)) hb2)) ?_
    simp only [go_sem, cond, Nat.reduceAdd, Nat.reduceLeDiff, Nat.reduceEqDiff, Nat.reduceBEq, decide_true, decide_false, Int.toNat_natCast, r]
    refine Br_intro ?_ ?_ <;> intro ho <;> simp only [go_sem, cond, Nat.reduceAdd, Nat.reduceLeDiff, Nat.reduceEqDiff, Nat.reduceBEq, decide_true, decide_false, Int.toNat_natCast, r, ho]
    · refine call_eq (AFn.weak (.cons (Wks.agg (.cons (.refl _) (.cons (.refl _) (.cons (.xs _) (.cons (.xs _) (.cons (.refl _) .nil)))))) .nil) (copied_ok w0 _ ⟨R.name, IntKind.i64.wrap (R.next + 1), R.ms, R.ks, R.subj⟩ _ _ _ _ (RmAt_more w0 (j := 3) (k := 4) [] [] (by rw [List.append_nil]; rfl) (by rw [List.append_nil]; rfl) (by rw [List.append_nil]; exact tM) (by rw [List.append_nil]; exact tK) (by omega) (by omega)))) ?_
      simp only [go_sem, cond, Nat.reduceAdd, Nat.reduceLeDiff, Nat.reduceEqDiff, Nat.reduceBEq, decide_true, decide_false, Int.toNat_natCast, Rm.enc, r, obsR, adR]
      exact ⟨_, [6, 7], _, rfl, pl2 R.ms R.ks rfl rfl, by decide, ren_roomT H ⟨R.name, IntKind.i64.wrap (R.next + 1), R.ms, R.ks, R.subj⟩ true rfl rfl, .inl ⟨hc.trans ho, rfl, rfl⟩⟩
    · exact hno (hc.trans ho) _
end Go.Proofs.YtmacpgoclhgafaaGreatDoorW.FA

namespace Go.Proofs.YtmacpgoclhgafaaGreatDoorW.FA
open Go.RowKit Go.Proofs.YtmacpgoclhgafaaGreatDoorW.XM Go.Proofs Go.Proofs.YtmacpgoclhgafaaGreatDoorW.XWords
set_option maxRecDepth 100000
set_option linter.unusedSimpArgs false
variable (w0 : World) (H : Hp)
/-- Where a room lies that is no part of what a call makes. -/
def Old (H : Hp) (R : Rm) (x : Ad) : Prop := ∀ sel, ren2 (rho H sel) (.agg (R.enc x).toArray) = some (.agg (R.enc x).toArray)
theorem Old.tup {H : Hp} {R : Rm} {x : Ad} (h : Old H R x) (b : Bool) (sel : List Nat) : ren3 (rho H sel) (.tuple #[.agg (R.enc x).toArray, .bool b]) = some (.tuple #[.agg (R.enc x).toArray, .bool b]) := by
  simp only [ren3, renL, h sel, Option.map_some]
  simp [renL, ren2, ren1, plain]
theorem ren_lt {B : Hp} {l : List (Option Ob)} {k : Nat} (h : k < l.length) (L : List (Option Ob)) (sel : List Nat) : rho (Hx (Hx B l) L) sel (nid B k) = some (nid B k) := by
  unfold rho nid Hx
  rw [if_pos (by simp; omega)]
theorem Old_own {B : Hp} {l : List (Option Ob)} {j k : Nat} (R : Rm) (hj : j < l.length) (hk : k < l.length) (L : List (Option Ob)) : Old (Hx (Hx B l) L) R (adR B R j k) := fun sel => by
  simp only [ren2, Rm.enc, adR, renL, ren1, ren_lt hj, ren_lt hk, Option.map_some, plain, if_true]
theorem RoomApplyI_ok (R : Rm) (xa xb : Addr) (xc xd : Nat) (e : En) (hT : Tabs w0) (hr : RmAt w0 H R ⟨some xa, xc, some xb, xd⟩) (hb : Big R) (he : BigE e) (lm : R.ms.length ≤ 5) (lk : R.ks.length ≤ 6) (hR : roomB R = true) (hold : ∀ L, Old (Hx H L) R ⟨some xa, xc, some xb, xd⟩) :
    AFn Tryz.prog w0 13 #[.agg (R.enc ⟨some xa, xc, some xb, xd⟩).toArray, .agg e.enc.toArray] H fun v H2 => v = .tuple #[.agg ((outR R e).enc (adR H (outR R e) 0 1)).toArray, .bool (canB R e)] ∧ H2 = Hx H (obsR (outR R e)) := by
  obtain ⟨q1, q2⟩ := applyR_len R e
  refine AFn.news Tryz.func13 rfl (by kernel_rfl) ?_
  have r := Tryz.results13
  simp only [go_sem, cond, Nat.reduceAdd, Nat.reduceLeDiff, Nat.reduceEqDiff, Nat.reduceBEq, decide_true, decide_false, Int.toNat_natCast, r]
  simp only [go_sem, cond, Nat.reduceAdd, Nat.reduceLeDiff, Nat.reduceEqDiff, Nat.reduceBEq, decide_true, decide_false, Int.toNat_natCast, Rm.enc, En.enc, r]
  refine call_eq (RoomOk_ok w0 _ R _ hT (hr.old _) hb) ?_
  simp only [go_sem, cond, Nat.reduceAdd, Nat.reduceLeDiff, Nat.reduceEqDiff, Nat.reduceBEq, decide_true, decide_false, Int.toNat_natCast, r, hR]
  refine call (applied_ok w0 _ R xa xb xc xd e hT (hr.old _) hb he lm lk hR (fun sel => (hold _).tup false sel)) ?_
  rintro v H2 (⟨hc, rfl, rfl⟩ | ⟨hc, rfl, rfl⟩)
  · have ha : outR R e = applyR R e := by rw [outR, if_pos hc]
    rw [ha, hc]
    clear ha
    generalize applyR R e = R' at *
    simp only [go_sem, cond, Nat.reduceAdd, Nat.reduceLeDiff, Nat.reduceEqDiff, Nat.reduceBEq, decide_true, decide_false, Int.toNat_natCast, Rm.enc, r, obsR, adR]
    refine call_eq (copied_ok w0 _ R' _ _ _ _ (RmAt_own (B := H) (j := 3) (k := 4) rfl rfl (by omega) (by omega))) ?_
    simp only [go_sem, cond, Nat.reduceAdd, Nat.reduceLeDiff, Nat.reduceEqDiff, Nat.reduceBEq, decide_true, decide_false, Int.toNat_natCast, Rm.enc, r, obsR, adR]
    exact ⟨_, [6, 7], _, rfl, pl2 R'.ms R'.ks rfl rfl, by decide, ren_roomT H R' true rfl rfl, rfl, rfl⟩
  · have ha : outR R e = R := by rw [outR, if_neg (by rw [hc]; decide)]
    rw [ha, hc]
    simp only [go_sem, cond, Nat.reduceAdd, Nat.reduceLeDiff, Nat.reduceEqDiff, Nat.reduceBEq, decide_true, decide_false, Int.toNat_natCast, Rm.enc, r]
    refine call_eq (copied_ok w0 _ R xa xb xc xd (hr.old _)) ?_
    simp only [go_sem, cond, Nat.reduceAdd, Nat.reduceLeDiff, Nat.reduceEqDiff, Nat.reduceBEq, decide_true, decide_false, Int.toNat_natCast, Rm.enc, r, obsR, adR]
    exact ⟨_, [4, 5], _, rfl, pl2 R.ms R.ks rfl rfl, by decide, ren_roomT H R false rfl rfl, rfl, rfl⟩
end Go.Proofs.YtmacpgoclhgafaaGreatDoorW.FA

namespace Go.Proofs.YtmacpgoclhgafaaGreatDoorW.FA
open Go.RowKit Go.Proofs.YtmacpgoclhgafaaGreatDoorW.XM Go.Proofs Go.Proofs.YtmacpgoclhgafaaGreatDoorW.XWords
set_option maxRecDepth 100000
set_option linter.unusedSimpArgs false
variable (w0 : World) (H : Hp)
end Go.Proofs.YtmacpgoclhgafaaGreatDoorW.FA

namespace Go.Proofs.YtmacpgoclhgafaaGreatDoorW.XM
open Go.RowKit
section
variable {P : Program} {w0 : World}
inductive QT2 where
  | z
  | q (i : Nat) (r : QT2)
  | e (i : Nat) (r : QT2)
  | b (i : Nat) (r : QT2) (j : Nat) (s : QT2)
def QT2.len : QT2 → Nat
  | .z => 0
  | .q _ r => r.len + 1
  | .e _ r => r.len + 1
  | .b _ r _ _ => r.len + 1
def xdT (P : Program) (w0 : World) (ops : Array Oper) (Q : Ts → Hp → Prop) : QT2 → List Pd → Ts → Hp → Prop
  | .z, _, T, H => Q T H
  | .q i r, pd, T, H => match ops[i]? with
    | none => False
    | some o => if wan o ops T = true then ∃ v, Yl P w0 o.op T H v ∧ xdT P w0 ops Q r (⟨i, o.op, T, v⟩ :: pd) (upd T o.dst v) H else xdT P w0 ops Q r pd (upd T o.dst undef) H
  | .e i r, pd, T, H => match ops[i]? with
    | none => False
    | some o => if wan o ops T = true then xo P w0 o.op (ev T) H (fun v H2 => pendOk P w0 ops i H2 pd ∧ xdT P w0 ops Q r pd (upd T o.dst v) H2) else xdT P w0 ops Q r pd (upd T o.dst undef) H
  | .b i r j s, pd, T, H => (match ops[i]? with
    | none => False
    | some o => if wan o ops T = true then xo P w0 o.op (ev T) H (fun v H2 => pendOk P w0 ops i H2 pd ∧ xdT P w0 ops Q r pd (upd T o.dst v) H2) else xdT P w0 ops Q r pd (upd T o.dst undef) H) ∧ (match ops[j]? with
    | none => False
    | some o => if wan o ops T = true then xo P w0 o.op (ev T) H (fun v H2 => pendOk P w0 ops j H2 pd ∧ xdT P w0 ops Q s pd (upd T o.dst v) H2) else xdT P w0 ops Q s pd (upd T o.dst undef) H)
def planBT (ops : Array Oper) : QT2 → Array Bool → Bool
  | .z, listed => (Region.ready .any ops listed).isEmpty
  | .q i r, listed => (Region.ready .any ops listed).contains i && freeB ops listed i && planBT ops r (listed.setIfInBounds i true)
  | .e i r, listed => (Region.ready .any ops listed) == [i] && planBT ops r (listed.setIfInBounds i true)
  | .b i r j s, listed => ((Region.ready .any ops listed) == [i, j] || (Region.ready .any ops listed) == [j, i]) && (r.len == s.len && (planBT ops r (listed.setIfInBounds i true) && planBT ops s (listed.setIfInBounds j true)))
theorem xdT_ok {ops : Array Oper} {Q : Ts → Hp → Prop} : ∀ (l : QT2) (pd : List Pd) (listed : Array Bool) (T : Ts) (H : Hp), planBT ops l listed = true → Closed ops listed → xdT P w0 ops Q l pd T H →
    XA P w0 ops Q (fun j H' => pendOk P w0 ops j H' pd) l.len listed T H
  | .z, pd, listed, T, H, hp, hc, h => ⟨by simpa [planBT] using hp, h⟩
  | .q i r, pd, listed, T, H, hp, hc, h => by
    simp only [planBT, Bool.and_eq_true] at hp
    obtain ⟨⟨p1, p2⟩, p3⟩ := hp
    have hr : i ∈ Region.ready .any ops listed := by simpa using p1
    simp only [xdT] at h
    cases ho : ops[i]? with
    | none => rw [ho] at h; exact h.elim
    | some o =>
      rw [ho] at h
      simp only at h
      have hfree : ∀ j oj, ops[j]? = some oj → j ≠ i → listed.getD j true = false → anc ops ops.size i j = false → o.apart ops oj = true := fun j oj hj hne hl ha => by
        unfold freeB at p2
        rw [ho] at p2
        have := List.all_eq_true.1 p2 j (List.mem_range.2 (Array.getElem?_eq_some_iff.1 hj).1)
        rw [hj] at this
        simp only [Bool.or_eq_true, beq_iff_eq, hl, ha] at this
        simp only [hne, Bool.false_eq_true, false_or] at this
        exact this
      split at h
      · rename_i hw
        obtain ⟨v, h1, h2⟩ := h
        have := xdT_ok r _ _ _ _ p3 (hc.set hr) h2
        refine XA_first ho ops.size r.len hc hr hfree hw (fun _ => h1) (by simp) (XA.mono (fun j H' hh => ?_) _ this)
        simp only [pendOk] at hh
        refine ⟨hh.2, ?_⟩
        have h3 := hh.1
        split at h3
        · rename_i e; exact .inl e
        · exact .inr (.inr h3)
      · rename_i hw
        have := xdT_ok r _ _ _ _ p3 (hc.set hr) h
        exact XA_first (v := undef) (wn := false) ho ops.size r.len hc hr hfree (by simpa using hw) (by simp) (fun _ => rfl) (XA.mono (fun j H' hh => ⟨hh, .inr (.inl rfl)⟩) _ this)
  | .e i r, pd, listed, T, H, hp, hc, h => by
    simp only [planBT, Bool.and_eq_true, beq_iff_eq] at hp
    obtain ⟨p1, p3⟩ := hp
    have hr : i ∈ Region.ready .any ops listed := by rw [p1]; simp
    simp only [xdT] at h
    refine ⟨fun e => (by rw [p1] at e; cases e), fun j hj => ?_⟩
    rw [p1] at hj
    simp only [List.mem_singleton] at hj
    subst hj
    unfold xop1
    cases ho : ops[j]? with
    | none => rw [ho] at h; exact h.elim
    | some o =>
      rw [ho] at h
      simp only at h ⊢
      split at h
      · rename_i hw
        rw [if_pos hw]
        exact xo_mono (fun v H2 hh => ⟨.inr hh.1, xdT_ok r _ _ _ _ p3 (hc.set hr) hh.2⟩) h
      · rename_i hw
        rw [if_neg hw]
        exact ⟨.inl trivial, xdT_ok r _ _ _ _ p3 (hc.set hr) h⟩
  | .b i r j s, pd, listed, T, H, hp, hc, h => by
    simp only [planBT, Bool.and_eq_true, Bool.or_eq_true, beq_iff_eq] at hp
    obtain ⟨p1, p2, p3, p4⟩ := hp
    have hmem : ∀ k, k ∈ Region.ready .any ops listed → k = i ∨ k = j := fun k hk => by
      rcases p1 with p1 | p1 <;> (rw [p1] at hk; simp at hk; omega)
    have hne : Region.ready .any ops listed ≠ [] := by rcases p1 with p1 | p1 <;> (rw [p1]; simp)
    have one : ∀ (k : Nat) (t : QT2), k ∈ Region.ready .any ops listed → planBT ops t (listed.setIfInBounds k true) = true → t.len = r.len → (∀ (pd : List Pd) (listed : Array Bool) (T : Ts) (H : Hp), planBT ops t listed = true → Closed ops listed → xdT P w0 ops Q t pd T H → XA P w0 ops Q (fun j H' => pendOk P w0 ops j H' pd) t.len listed T H) → (match ops[k]? with
        | none => False
        | some o => if wan o ops T = true then xo P w0 o.op (ev T) H (fun v H2 => pendOk P w0 ops k H2 pd ∧ xdT P w0 ops Q t pd (upd T o.dst v) H2) else xdT P w0 ops Q t pd (upd T o.dst undef) H) →
        xop1 P w0 ops k T H fun T2 H2 => (H2 = H ∨ pendOk P w0 ops k H2 pd) ∧ XA P w0 ops Q (fun j H' => pendOk P w0 ops j H' pd) r.len (listed.setIfInBounds k true) T2 H2 := fun k t hk hp2 hl ih hh => by
      unfold xop1
      cases ho : ops[k]? with
      | none => rw [ho] at hh; exact hh.elim
      | some o =>
        rw [ho] at hh
        simp only at hh ⊢
        split at hh
        · rename_i hw
          rw [if_pos hw]
          exact xo_mono (fun v H2 hh => ⟨.inr hh.1, by rw [← hl]; exact ih _ _ _ _ hp2 (hc.set hk) hh.2⟩) hh
        · rename_i hw
          rw [if_neg hw]
          exact ⟨.inl trivial, by rw [← hl]; exact ih _ _ _ _ hp2 (hc.set hk) hh⟩
    simp only [xdT] at h
    refine ⟨fun e => absurd e hne, fun k hk => ?_⟩
    rcases hmem k hk with rfl | rfl
    · exact one k r hk p3 rfl (fun pd listed T H => xdT_ok r pd listed T H) h.1
    · exact one k s hk p4 p2.symm (fun pd listed T H => xdT_ok s pd listed T H) h.2
theorem xw_drawT {n id : Nat} {ops : Array Oper} {Q : QT} {T : Ts} {H : Hp} (plan : QT2) (hm : P.follows .mixedOrders = true) (hg : ops.all (goodO n) = true) (hp : (plan.len == ops.size && planBT ops plan (Array.replicate ops.size false)) = true) (h : xdT P w0 ops (Q .normal) plan [] T H) : xw P w0 n (.region id ops true) Q T H := by
  simp only [Bool.and_eq_true, beq_iff_eq] at hp
  intro H0 μ0 μ w a h1 h2 h3 h4
  refine wp_region_any hm ?_
  have hc : Closed ops (Array.replicate ops.size false) := fun j o hj => by
    by_cases hlt : j < ops.size <;> simp [Array.getD_eq_getD_getElem?, Array.getElem?_replicate, hlt] at hj
  have := xdT_ok plan [] _ T H hp.2 hc h
  rw [hp.1] at this
  exact XA_ok hg _ _ T H this H0 μ0 μ _ a h1.drew h2 h3 h4
inductive PT where
  | z
  | q (i : Nat) (r : PT)
  | l (i : Nat) (r : PT)
  | e (i : Nat) (r : PT)
  | d (i : Nat) (r : PT)
  | b (i : Nat) (r : PT) (j : Nat) (s : PT)
def PT.ps : PT → QT2
  | .z => .z
  | .q i r => .q i r.ps
  | .l i r => .q i r.ps
  | .e i r => .e i r.ps
  | .d _ r => r.ps
  | .b i r j s => .b i r.ps j s.ps
/-- Every operation that it does as it stands lies behind i. -/
def PT.aft (c : Nat → Bool) : PT → Bool
  | .z => true
  | .q _ r => r.aft c
  | .l _ r => r.aft c
  | .e j r => c j && r.aft c
  | .d _ r => r.aft c
  | .b i r j s => (c i && r.aft c) && (c j && s.aft c)
def xt (P : Program) (w0 : World) (l : List Oper) (Q : Ts → Hp → Prop) : PT → List Pd → Ts → Hp → Prop
  | .z, _, T, H => Q T H
  | .q i r, pd, T, H => match nth l i with
    | none => False
    | some o => if wan o l.toArray T = true then xo P w0 o.op (ev T) H (fun v H' => xt P w0 l Q r pd (upd T o.dst v) H') else xt P w0 l Q r pd (upd T o.dst undef) H
  | .l i r, pd, T, H => match nth l i with
    | none => False
    | some o => if wan o l.toArray T = true then xo P w0 o.op (ev T) H (fun v H' => xt P w0 l Q r (⟨i, o.op, T, v⟩ :: pd) (upd T o.dst v) H') else xt P w0 l Q r pd (upd T o.dst undef) H
  | .e i r, pd, T, H => match nth l i with
    | none => False
    | some o => if wan o l.toArray T = true then xo P w0 o.op (ev T) H (fun v H' => pdOk P w0 H' (xt P w0 l Q r pd (upd T o.dst v) H') pd) else xt P w0 l Q r pd (upd T o.dst undef) H
  | .d i r, pd, T, H => xt P w0 l Q r (drp i pd) T H
  | .b i r j s, pd, T, H => (match nth l i with
    | none => False
    | some o => if wan o l.toArray T = true then xo P w0 o.op (ev T) H (fun v H' => pdOk P w0 H' (xt P w0 l Q r pd (upd T o.dst v) H') pd) else xt P w0 l Q r pd (upd T o.dst undef) H) ∧ (match nth l j with
    | none => False
    | some o => if wan o l.toArray T = true then xo P w0 o.op (ev T) H (fun v H' => pdOk P w0 H' (xt P w0 l Q s pd (upd T o.dst v) H') pd) else xt P w0 l Q s pd (upd T o.dst undef) H)
def okPT (P : Program) (ops : Array Oper) : PT → Bool
  | .z => true
  | .q i r => (match ops[i]? with
    | some o => quiet P o.op || (isLoad o.op && r.aft fun j => anc ops ops.size i j)
    | none => false) && okPT P ops r
  | .l i r => (match ops[i]? with
    | some o => isLoad o.op
    | none => false) && okPT P ops r
  | .e _ r => okPT P ops r
  | .d i r => (r.aft fun j => anc ops ops.size i j) && okPT P ops r
  | .b _ r _ s => okPT P ops r && okPT P ops s
/-- What waits is as it was, whatever comes. -/
def Wt (P : Program) (w0 : World) (ops : Array Oper) (pm pd : List Pd) (t : PT) : Prop := ∀ p ∈ pd, (∀ H2, Yl P w0 p.o p.T H2 p.v) ∨ (t.aft fun j => anc ops ops.size p.i j) = true ∨ p ∈ pm
theorem xdT_xt {l : List Oper} {Q : Ts → Hp → Prop} : ∀ (pl : PT) (pm pd : List Pd) (T : Ts) (H : Hp), okPT P l.toArray pl = true → Wt P w0 l.toArray pm pd pl → xt P w0 l Q pl pm T H → xdT P w0 l.toArray Q pl.ps pd T H
  | .z, _, _, _, _, _, _, h => h
  | .q i r, pm, pd, T, H, hk, hp, h => by
    simp only [xt, nth_eq] at h
    simp only [PT.ps, xdT, List.getElem?_toArray]
    simp only [okPT, Bool.and_eq_true, List.getElem?_toArray] at hk
    have hp' : Wt P w0 l.toArray pm pd r := hp
    cases ho : l[i]? with
    | none => rw [ho] at h; exact h.elim
    | some o =>
      rw [ho] at h hk
      simp only at h hk ⊢
      split at h
      · rename_i hw
        rw [if_pos hw]
        obtain ⟨hk1, hk2⟩ := hk
        rw [Bool.or_eq_true] at hk1
        rcases hk1 with hq | hl
        · obtain ⟨v, h1, h2⟩ := xo_quiet hq h
          refine ⟨v, h1 H, xdT_xt r pm _ _ _ hk2 ?_ h2⟩
          intro p hm
          rcases List.mem_cons.1 hm with rfl | hm
          · exact .inl h1
          · exact hp' p hm
        · rw [Bool.and_eq_true] at hl
          obtain ⟨v, h1, h2⟩ := xo_loadO hl.1 h
          refine ⟨v, h1, xdT_xt r pm _ _ _ hk2 ?_ h2⟩
          intro p hm
          rcases List.mem_cons.1 hm with rfl | hm
          · exact .inr (.inl hl.2)
          · exact hp' p hm
      · rename_i hw
        rw [if_neg hw]
        exact xdT_xt r pm _ _ _ hk.2 hp' h
  | .l i r, pm, pd, T, H, hk, hp, h => by
    simp only [xt, nth_eq] at h
    simp only [PT.ps, xdT, List.getElem?_toArray]
    simp only [okPT, Bool.and_eq_true, List.getElem?_toArray] at hk
    have hp' : Wt P w0 l.toArray pm pd r := hp
    cases ho : l[i]? with
    | none => rw [ho] at h; exact h.elim
    | some o =>
      rw [ho] at h hk
      simp only at h hk ⊢
      split at h
      · rename_i hw
        rw [if_pos hw]
        obtain ⟨v, h1, h2⟩ := xo_loadO hk.1 h
        refine ⟨v, h1, xdT_xt r _ _ _ _ hk.2 ?_ h2⟩
        intro p hm
        rcases List.mem_cons.1 hm with rfl | hm
        · exact .inr (.inr List.mem_cons_self)
        · exact (hp' p hm).imp id (Or.imp id (List.mem_cons_of_mem _))
      · rename_i hw
        rw [if_neg hw]
        exact xdT_xt r _ _ _ _ hk.2 hp' h
  | .e i r, pm, pd, T, H, hk, hp, h => by
    simp only [xt, nth_eq] at h
    simp only [PT.ps, xdT, List.getElem?_toArray]
    simp only [okPT] at hk
    have hp' : Wt P w0 l.toArray pm pd r := fun p hm => (hp p hm).imp id (Or.imp (fun a => by simp only [PT.aft, Bool.and_eq_true] at a; exact a.2) id)
    cases ho : l[i]? with
    | none => rw [ho] at h; exact h.elim
    | some o =>
      rw [ho] at h
      simp only at h ⊢
      split at h
      · rename_i hw
        rw [if_pos hw]
        refine xo_mono (fun v H2 hh => ?_) h
        obtain ⟨h1, h2⟩ := pdOk_spec pm hh
        refine ⟨pend_ok pd fun p hm => ?_, xdT_xt r pm _ _ _ hk hp' h1⟩
        rcases hp p hm with a | a | a
        · exact .inl (a H2)
        · simp only [PT.aft, Bool.and_eq_true] at a
          exact .inr a.1
        · exact .inl (h2 p a)
      · rename_i hw
        rw [if_neg hw]
        exact xdT_xt r pm _ _ _ hk hp' h
  | .d i r, pm, pd, T, H, hk, hp, h => by
    simp only [okPT, Bool.and_eq_true] at hk
    refine xdT_xt r _ pd T H hk.2 (fun p hm => ?_) h
    rcases hp p hm with a | a | a
    · exact .inl a
    · exact .inr (.inl a)
    · rcases drp_mem (i := i) a with e | e
      · exact .inr (.inl (by rw [e]; exact hk.1))
      · exact .inr (.inr e)
  | .b i r j s, pm, pd, T, H, hk, hp, h => by
    simp only [xt, nth_eq] at h
    simp only [PT.ps, xdT, List.getElem?_toArray]
    simp only [okPT, Bool.and_eq_true] at hk
    have hp1 : Wt P w0 l.toArray pm pd r := fun p hm => (hp p hm).imp id (Or.imp (fun a => by simp only [PT.aft, Bool.and_eq_true] at a; exact a.1.2) id)
    have hp2 : Wt P w0 l.toArray pm pd s := fun p hm => (hp p hm).imp id (Or.imp (fun a => by simp only [PT.aft, Bool.and_eq_true] at a; exact a.2.2) id)
    refine ⟨?_, ?_⟩
    · replace h := h.1
      cases ho : l[i]? with
      | none => rw [ho] at h; exact h.elim
      | some o =>
        rw [ho] at h
        simp only at h ⊢
        split at h
        · rename_i hw
          rw [if_pos hw]
          refine xo_mono (fun v H2 hh => ?_) h
          obtain ⟨h1, h2⟩ := pdOk_spec pm hh
          refine ⟨pend_ok pd fun p hm => ?_, xdT_xt r pm _ _ _ hk.1 hp1 h1⟩
          rcases hp p hm with a | a | a
          · exact .inl (a H2)
          · simp only [PT.aft, Bool.and_eq_true] at a
            exact .inr a.1.1
          · exact .inl (h2 p a)
        · rename_i hw
          rw [if_neg hw]
          exact xdT_xt r pm _ _ _ hk.1 hp1 h
    · replace h := h.2
      cases ho : l[j]? with
      | none => rw [ho] at h; exact h.elim
      | some o =>
        rw [ho] at h
        simp only at h ⊢
        split at h
        · rename_i hw
          rw [if_pos hw]
          refine xo_mono (fun v H2 hh => ?_) h
          obtain ⟨h1, h2⟩ := pdOk_spec pm hh
          refine ⟨pend_ok pd fun p hm => ?_, xdT_xt s pm _ _ _ hk.2 hp2 h1⟩
          rcases hp p hm with a | a | a
          · exact .inl (a H2)
          · simp only [PT.aft, Bool.and_eq_true] at a
            exact .inr a.2.1
          · exact .inl (h2 p a)
        · rename_i hw
          rw [if_neg hw]
          exact xdT_xt s pm _ _ _ hk.2 hp2 h
def planMT (M : List Nat) (ops : Array Oper) : QT2 → Array Bool → Bool
  | .z, listed => (Region.ready .any ops listed).isEmpty
  | .q i r, listed => (Region.ready .any ops listed).contains i && (freeM M ops listed i && planMT M ops r (listed.setIfInBounds i true))
  | .e i r, listed => (Region.ready .any ops listed) == [i] && planMT M ops r (listed.setIfInBounds i true)
  | .b i r j s, listed => ((Region.ready .any ops listed) == [i, j] || (Region.ready .any ops listed) == [j, i]) && (Nat.beq r.len s.len && (planMT M ops r (listed.setIfInBounds i true) && planMT M ops s (listed.setIfInBounds j true)))
theorem planMT_ok {M : List Nat} {ops : Array Oper} (hM : chkM M ops = true) : ∀ (l : QT2) (listed : Array Bool), planMT M ops l listed = true → planBT ops l listed = true
  | .z, _, h => h
  | .q i r, listed, h => by
    simp only [planMT, Bool.and_eq_true] at h
    simp only [planBT, Bool.and_eq_true]
    exact ⟨⟨h.1, freeM_ok hM h.2.1⟩, planMT_ok hM r _ h.2.2⟩
  | .e i r, listed, h => by
    simp only [planMT, Bool.and_eq_true] at h
    simp only [planBT, Bool.and_eq_true]
    exact ⟨h.1, planMT_ok hM r _ h.2⟩
  | .b i r j s, listed, h => by
    simp only [planMT, Bool.and_eq_true] at h
    simp only [planBT, Bool.and_eq_true]
    exact ⟨h.1, beq_iff_eq.2 (Nat.eq_of_beq_eq_true h.2.1), planMT_ok hM r _ h.2.2.1, planMT_ok hM s _ h.2.2.2⟩
def okMT (P : Program) (M : List Nat) (ops : Array Oper) : PT → Bool
  | .z => true
  | .q i r => (match ops[i]? with
    | some o => quiet P o.op || (isLoad o.op && r.aft fun j => Nat.blt j ops.size && Nat.testBit (M.getD j 0) i)
    | none => false) && okMT P M ops r
  | .l i r => (match ops[i]? with
    | some o => isLoad o.op
    | none => false) && okMT P M ops r
  | .e _ r => okMT P M ops r
  | .d i r => (r.aft fun j => Nat.blt j ops.size && Nat.testBit (M.getD j 0) i) && okMT P M ops r
  | .b _ r _ s => okMT P M ops r && okMT P M ops s
theorem aft_mono {c c' : Nat → Bool} (h : ∀ j, c j = true → c' j = true) : ∀ t : PT, t.aft c = true → t.aft c' = true
  | .z, _ => rfl
  | .q _ r, a => aft_mono h r a
  | .l _ r, a => aft_mono h r a
  | .d _ r, a => aft_mono h r a
  | .e j r, a => by
    simp only [PT.aft, Bool.and_eq_true] at a ⊢
    exact ⟨h j a.1, aft_mono h r a.2⟩
  | .b i r j s, a => by
    simp only [PT.aft, Bool.and_eq_true] at a ⊢
    exact ⟨⟨h i a.1.1, aft_mono h r a.1.2⟩, h j a.2.1, aft_mono h s a.2.2⟩
theorem okMT_ok {M : List Nat} {ops : Array Oper} (hM : chkM M ops = true) : ∀ (l : PT), okMT P M ops l = true → okPT P ops l = true
  | .z, _ => rfl
  | .q i r, h => by
    simp only [okMT, Bool.and_eq_true] at h
    simp only [okPT, Bool.and_eq_true]
    refine ⟨?_, okMT_ok hM r h.2⟩
    have h1 := h.1
    cases ho : ops[i]? with
    | none => rw [ho] at h1; cases h1
    | some o =>
      rw [ho] at h1
      simp only [Bool.or_eq_true, Bool.and_eq_true] at h1 ⊢
      refine h1.imp id fun a => ⟨a.1, aft_mono (fun j hj => ?_) r a.2⟩
      simp only [Bool.and_eq_true, Nat.blt_eq] at hj
      exact mask_anc' hM hj.1 hj.2
  | .l i r, h => by
    simp only [okMT, Bool.and_eq_true] at h
    simp only [okPT, Bool.and_eq_true]
    exact ⟨h.1, okMT_ok hM r h.2⟩
  | .e i r, h => okMT_ok hM r h
  | .d i r, h => by
    simp only [okMT, Bool.and_eq_true] at h
    simp only [okPT, Bool.and_eq_true]
    refine ⟨aft_mono (fun j hj => ?_) r h.1, okMT_ok hM r h.2⟩
    simp only [Bool.and_eq_true, Nat.blt_eq] at hj
    exact mask_anc' hM hj.1 hj.2
  | .b _ r _ s, h => by
    simp only [okMT, Bool.and_eq_true] at h
    simp only [okPT, Bool.and_eq_true]
    exact ⟨okMT_ok hM r h.1, okMT_ok hM s h.2⟩
theorem xw_tree {n id : Nat} {l : List Oper} {Q : QT} {T : Ts} {H : Hp} (M : List Nat) (plan : PT) (hm : P.follows .mixedOrders = true) (hg : (l.toArray.all (goodO n) && (Nat.beq plan.ps.len l.toArray.size && (chkM M l.toArray && (planMT M l.toArray plan.ps (Array.replicate l.toArray.size false) && okMT P M l.toArray plan)))) = true) (h : xt P w0 l (Q .normal) plan [] T H) : xw P w0 n (.region id l.toArray true) Q T H := by
  simp only [Bool.and_eq_true] at hg
  obtain ⟨g1, g2, g3, g4, g5⟩ := hg
  refine xw_drawT plan.ps hm g1 ?_ (xdT_xt plan [] [] T H (okMT_ok g3 plan g5) (fun p hp => by cases hp) h)
  simp only [Bool.and_eq_true, beq_iff_eq]
  exact ⟨Nat.eq_of_beq_eq_true g2, planMT_ok g3 _ _ g4⟩
theorem pdOk_mono {H : Hp} {X Y : Prop} (h : X → Y) : ∀ (l : List Pd), pdOk P w0 H X l → pdOk P w0 H Y l
  | [], a => h a
  | _ :: r, a => ⟨a.1, pdOk_mono h r a.2⟩
/-- What is asked behind a region may be told beforehand. -/
theorem xt_mono {l : List Oper} {Q Q' : Ts → Hp → Prop} (hq : ∀ T H, Q' T H → Q T H) : ∀ (pl : PT) (pd : List Pd) (T : Ts) (H : Hp), xt P w0 l Q' pl pd T H → xt P w0 l Q pl pd T H
  | .z, _, T, H, h => hq T H h
  | .q i r, pd, T, H, h => by
    simp only [xt] at h ⊢
    cases ho : nth l i with
    | none => rw [ho] at h; exact h
    | some o =>
      rw [ho] at h
      simp only at h ⊢
      split at h
      · rename_i e; rw [if_pos e]; exact xo_mono (fun v H2 => xt_mono hq r _ _ _) h
      · rename_i e; rw [if_neg e]; exact xt_mono hq r _ _ _ h
  | .l i r, pd, T, H, h => by
    simp only [xt] at h ⊢
    cases ho : nth l i with
    | none => rw [ho] at h; exact h
    | some o =>
      rw [ho] at h
      simp only at h ⊢
      split at h
      · rename_i e; rw [if_pos e]; exact xo_mono (fun v H2 => xt_mono hq r _ _ _) h
      · rename_i e; rw [if_neg e]; exact xt_mono hq r _ _ _ h
  | .e i r, pd, T, H, h => by
    simp only [xt] at h ⊢
    cases ho : nth l i with
    | none => rw [ho] at h; exact h
    | some o =>
      rw [ho] at h
      simp only at h ⊢
      split at h
      · rename_i e; rw [if_pos e]; exact xo_mono (fun v H2 => pdOk_mono (xt_mono hq r _ _ _) pd) h
      · rename_i e; rw [if_neg e]; exact xt_mono hq r _ _ _ h
  | .d i r, pd, T, H, h => xt_mono hq r _ T H h
  | .b i r j s, pd, T, H, h => by
    simp only [xt] at h ⊢
    refine ⟨?_, ?_⟩
    · replace h := h.1
      cases ho : nth l i with
      | none => rw [ho] at h; exact h
      | some o =>
        rw [ho] at h
        simp only at h ⊢
        split at h
        · rename_i e; rw [if_pos e]; exact xo_mono (fun v H2 => pdOk_mono (xt_mono hq r _ _ _) pd) h
        · rename_i e; rw [if_neg e]; exact xt_mono hq r _ _ _ h
    · replace h := h.2
      cases ho : nth l j with
      | none => rw [ho] at h; exact h
      | some o =>
        rw [ho] at h
        simp only at h ⊢
        split at h
        · rename_i e; rw [if_pos e]; exact xo_mono (fun v H2 => pdOk_mono (xt_mono hq s _ _ _) pd) h
        · rename_i e; rw [if_neg e]; exact xt_mono hq s _ _ _ h
theorem xw_treeC {n id : Nat} {l : List Oper} {Q : QT} {T : Ts} {H : Hp} (M : List Nat) (plan : PT) (hm : P.follows .mixedOrders = true) (hg : (l.toArray.all (goodO n) && (Nat.beq plan.ps.len l.toArray.size && (chkM M l.toArray && (planMT M l.toArray plan.ps (Array.replicate l.toArray.size false) && okMT P M l.toArray plan)))) = true) (Q' : Ts → Hp → Prop) (h : xt P w0 l Q' plan [] T H) (hq : ∀ T H, Q' T H → Q .normal T H) : xw P w0 n (.region id l.toArray true) Q T H :=
  xw_tree M plan hm hg (xt_mono hq plan [] T H h)
/-! the steps as equations -/
def KTe (P : Program) (w0 : World) (l : List Oper) (Q : Ts → Hp → Prop) (r : PT) (pd : List Pd) (T : Ts) (d : Option Nat) : Value → Hp → Prop := fun v H => xt P w0 l Q r pd (upd T d v) H
@[go_sem] theorem KTe_app (l : List Oper) (Q : Ts → Hp → Prop) (r : PT) (pd : List Pd) (T : Ts) (d : Option Nat) (v : Value) (H : Hp) : KTe P w0 l Q r pd T d v H = xt P w0 l Q r pd (upd T d v) H := propext Iff.rfl
def KTl (P : Program) (w0 : World) (l : List Oper) (Q : Ts → Hp → Prop) (r : PT) (pd : List Pd) (T : Ts) (d : Option Nat) (i : Nat) (o : Op) : Value → Hp → Prop := fun v H => xt P w0 l Q r (⟨i, o, T, v⟩ :: pd) (upd T d v) H
@[go_sem] theorem KTl_app (l : List Oper) (Q : Ts → Hp → Prop) (r : PT) (pd : List Pd) (T : Ts) (d : Option Nat) (i : Nat) (o : Op) (v : Value) (H : Hp) : KTl P w0 l Q r pd T d i o v H = xt P w0 l Q r (⟨i, o, T, v⟩ :: pd) (upd T d v) H := propext Iff.rfl
def KTd (P : Program) (w0 : World) (l : List Oper) (Q : Ts → Hp → Prop) (r : PT) (pd : List Pd) (T : Ts) (d : Option Nat) : Value → Hp → Prop := fun v H => pdOk P w0 H (xt P w0 l Q r pd (upd T d v) H) pd
@[go_sem] theorem KTd_app (l : List Oper) (Q : Ts → Hp → Prop) (r : PT) (pd : List Pd) (T : Ts) (d : Option Nat) (v : Value) (H : Hp) : KTd P w0 l Q r pd T d v H = pdZ P w0 H pd (Lz.mk (X := xt P w0 l Q r pd (upd T d v) H)) := propext Iff.rfl
/-- The operation of a step: done as it stands (e), or waited for (l). -/
def XT (P : Program) (w0 : World) (l : List Oper) (Q : Ts → Hp → Prop) (k : Nat) (i : Nat) (r : PT) (pd : List Pd) (T : Ts) (H : Hp) : Option Oper → Prop
  | none => False
  | some o => if wan o l.toArray T = true then xo P w0 o.op (ev T) H (match k with
    | 0 => KTe P w0 l Q r pd T o.dst
    | 1 => KTl P w0 l Q r pd T o.dst i o.op
    | _ => KTd P w0 l Q r pd T o.dst) else xt P w0 l Q r pd (upd T o.dst undef) H
def Both {X Y : Prop} (_ : Lz X) (_ : Lz Y) : Prop := X ∧ Y
theorem Both_intro {X Y : Prop} {x : Lz X} {y : Lz Y} (h1 : X) (h2 : Y) : Both x y := ⟨h1, h2⟩
@[go_sem] theorem xt_z (l : List Oper) (Q : Ts → Hp → Prop) (pd : List Pd) (T : Ts) (H : Hp) : xt P w0 l Q .z pd T H = Q T H := propext Iff.rfl
@[go_sem] theorem xt_q (l : List Oper) (Q : Ts → Hp → Prop) (i : Nat) (r : PT) (pd : List Pd) (T : Ts) (H : Hp) : xt P w0 l Q (.q i r) pd T H = XT P w0 l Q 0 i r pd T H (nth l i) := by
  simp only [xt, XT]
  cases nth l i <;> rfl
@[go_sem] theorem xt_l (l : List Oper) (Q : Ts → Hp → Prop) (i : Nat) (r : PT) (pd : List Pd) (T : Ts) (H : Hp) : xt P w0 l Q (.l i r) pd T H = XT P w0 l Q 1 i r pd T H (nth l i) := by
  simp only [xt, XT]
  cases nth l i <;> rfl
@[go_sem] theorem xt_e (l : List Oper) (Q : Ts → Hp → Prop) (i : Nat) (r : PT) (pd : List Pd) (T : Ts) (H : Hp) : xt P w0 l Q (.e i r) pd T H = XT P w0 l Q 2 i r pd T H (nth l i) := by
  simp only [xt, XT]
  cases nth l i <;> rfl
@[go_sem] theorem xt_d (l : List Oper) (Q : Ts → Hp → Prop) (i : Nat) (r : PT) (pd : List Pd) (T : Ts) (H : Hp) : xt P w0 l Q (.d i r) pd T H = xt P w0 l Q r (drp i pd) T H := propext Iff.rfl
@[go_sem] theorem xt_b (l : List Oper) (Q : Ts → Hp → Prop) (i j : Nat) (r s : PT) (pd : List Pd) (T : Ts) (H : Hp) : xt P w0 l Q (.b i r j s) pd T H = Both (Lz.mk (X := XT P w0 l Q 2 i r pd T H (nth l i))) (Lz.mk (X := XT P w0 l Q 2 j s pd T H (nth l j))) := by
  simp only [xt, XT, Both]
  cases nth l i <;> cases nth l j <;> rfl
@[go_sem] theorem XT_0 (l : List Oper) (Q : Ts → Hp → Prop) (i : Nat) (r : PT) (pd : List Pd) (T : Ts) (H : Hp) (d : Option Tmp) (op : Op) (ty : TypeId) (ps : String) (af : Array Edge) :
    XT P w0 l Q 0 i r pd T H (some { dst := d, op := op, type := ty, pos := ps, after := af, guard := none }) = Do P w0 op T H (Lk.mk (K := KTe P w0 l Q r pd T d)) := propext Iff.rfl
@[go_sem] theorem XT_0g (l : List Oper) (Q : Ts → Hp → Prop) (i : Nat) (r : PT) (pd : List Pd) (T : Ts) (H : Hp) (d : Option Tmp) (op : Op) (ty : TypeId) (ps : String) (af : Array Edge) (j : Nat) (b : Bool) :
    XT P w0 l Q 0 i r pd T H (some { dst := d, op := op, type := ty, pos := ps, after := af, guard := some (j, b) }) = Br (atB T b (dstAt l j)) (Lz.mk (X := Do P w0 op T H (Lk.mk (K := KTe P w0 l Q r pd T d)))) (Lz.mk (X := xt P w0 l Q r pd (upd T d undef) H)) := by
  show (if wan _ _ T = true then _ else _) = _
  rw [wan_guard]
  rfl
@[go_sem] theorem XT_1 (l : List Oper) (Q : Ts → Hp → Prop) (i : Nat) (r : PT) (pd : List Pd) (T : Ts) (H : Hp) (d : Option Tmp) (op : Op) (ty : TypeId) (ps : String) (af : Array Edge) :
    XT P w0 l Q 1 i r pd T H (some { dst := d, op := op, type := ty, pos := ps, after := af, guard := none }) = Do P w0 op T H (Lk.mk (K := KTl P w0 l Q r pd T d i op)) := propext Iff.rfl
@[go_sem] theorem XT_1g (l : List Oper) (Q : Ts → Hp → Prop) (i : Nat) (r : PT) (pd : List Pd) (T : Ts) (H : Hp) (d : Option Tmp) (op : Op) (ty : TypeId) (ps : String) (af : Array Edge) (j : Nat) (b : Bool) :
    XT P w0 l Q 1 i r pd T H (some { dst := d, op := op, type := ty, pos := ps, after := af, guard := some (j, b) }) = Br (atB T b (dstAt l j)) (Lz.mk (X := Do P w0 op T H (Lk.mk (K := KTl P w0 l Q r pd T d i op)))) (Lz.mk (X := xt P w0 l Q r pd (upd T d undef) H)) := by
  show (if wan _ _ T = true then _ else _) = _
  rw [wan_guard]
  rfl
@[go_sem] theorem XT_2 (l : List Oper) (Q : Ts → Hp → Prop) (i : Nat) (r : PT) (pd : List Pd) (T : Ts) (H : Hp) (d : Option Tmp) (op : Op) (ty : TypeId) (ps : String) (af : Array Edge) :
    XT P w0 l Q 2 i r pd T H (some { dst := d, op := op, type := ty, pos := ps, after := af, guard := none }) = Do P w0 op T H (Lk.mk (K := KTd P w0 l Q r pd T d)) := propext Iff.rfl
@[go_sem] theorem XT_2g (l : List Oper) (Q : Ts → Hp → Prop) (i : Nat) (r : PT) (pd : List Pd) (T : Ts) (H : Hp) (d : Option Tmp) (op : Op) (ty : TypeId) (ps : String) (af : Array Edge) (j : Nat) (b : Bool) :
    XT P w0 l Q 2 i r pd T H (some { dst := d, op := op, type := ty, pos := ps, after := af, guard := some (j, b) }) = Br (atB T b (dstAt l j)) (Lz.mk (X := Do P w0 op T H (Lk.mk (K := KTd P w0 l Q r pd T d)))) (Lz.mk (X := xt P w0 l Q r pd (upd T d undef) H)) := by
  show (if wan _ _ T = true then _ else _) = _
  rw [wan_guard]
  rfl
end
end Go.Proofs.YtmacpgoclhgafaaGreatDoorW.XM

namespace Go.Proofs.YtmacpgoclhgafaaGreatDoorW.FA
open Go.RowKit Go.Proofs.YtmacpgoclhgafaaGreatDoorW.XM Go.Proofs Go.Proofs.YtmacpgoclhgafaaGreatDoorW.XWords
set_option maxRecDepth 100000
set_option linter.unusedSimpArgs false
variable (w0 : World) (H : Hp)
end Go.Proofs.YtmacpgoclhgafaaGreatDoorW.FA

namespace Go.Proofs.YtmacpgoclhgafaaGreatDoorW.FA
open Go.RowKit Go.Proofs.YtmacpgoclhgafaaGreatDoorW.XM Go.Proofs Go.Proofs.YtmacpgoclhgafaaGreatDoorW.XWords
set_option maxRecDepth 100000
set_option linter.unusedSimpArgs false
variable (w0 : World) (H : Hp)
end Go.Proofs.YtmacpgoclhgafaaGreatDoorW.FA

namespace Go.Proofs.YtmacpgoclhgafaaGreatDoorW.XRA
open Go.ChangeShapes Go.WideShapes Go.ChangeAt Go.RowKit Go.Deep Go.Proofs.YtmacpgoclhgafaaGreatDoorW.XM
/-- Cells that read as a datum of type T are a value of a kind. -/
def ReadsA (P : Program) {α : Type} (enc : α → List Value) (T : TypeId) (Q : α → Prop) : Prop :=
  ∀ (H : Type) (en : TypeId × Value → H) (w : World) (base : Nat) (spare : Nat → Bool) (held : Bool) (fuel : Nat) (cs : List Value) (x : DataW H × List MemPlace),
    DataW.trod en P w base spare held fuel T cs = some x → ∃ v : α, cs = enc v ∧ Q v
section
variable {P : Program}
theorem ra_int {T : TypeId} {k : IntKind} (h : P.underlying T = some (.int k)) : ReadsA P (fun n : Int => [.int k n]) T (fun n => (Lit.int k n).wf = true) := by
  intro H enc w base spare held fuel cs x hx
  obtain ⟨n, rfl, _, hw⟩ := DataW.trod_int h hx
  exact ⟨n, rfl, hw⟩
theorem cells_eachA {w : World} {base : Nat} {a : Addr} {n : Nat} {cs : List Value} (h : w.cells? base a n = some cs) : cs.length = n ∧ ∀ i u, cs[i]? = some u → w.cell? (a.add i) = some u := by
  unfold World.cells? at h
  split at h
  · have hl : cs.length = n := by simpa using Lib.mapM_length h
    refine ⟨hl, fun i u hu => ?_⟩
    have hi : i < n := by
      have := (List.getElem?_eq_some_iff.1 hu).1
      omega
    obtain ⟨b, hb, hf⟩ := Lib.mapM_at h i i (by simp [hi])
    rw [hu] at hb
    cases hb
    exact hf
  · cases h
theorem rdRo_cells {w : World} {b : Nat} : ∀ (cs : List Value) (o : Nat), (∀ (j : Nat) (u : Value), cs[j]? = some u → w.cell? ⟨b, o + j, none⟩ = some u) → (∀ v ∈ cs, (plain v && v.oneCell') = true) → rdRo w b o cs.length = some cs
  | [], _, _, _ => rfl
  | c :: r, o, h1, h2 => by
    have h0 := h1 0 c rfl
    rw [Nat.add_zero] at h0
    simp only [List.length_cons, rdRo, h0, h2 c List.mem_cons_self, if_true]
    rw [rdRo_cells r (o + 1) (fun j u hj => by rw [show o + 1 + j = o + (j + 1) by omega]; exact h1 (j + 1) u (by simpa using hj)) (fun v hv => h2 v (List.mem_cons_of_mem _ hv))]
    rfl
theorem choose_ltA {α : Type} [Inhabited α] {n : Nat} {p : Nat → α → Prop} (h : ∀ i, i < n → ∃ v, p i v) : ∃ f : Nat → α, ∀ i, i < n → p i (f i) := by
  induction n with
  | zero => exact ⟨fun _ => default, fun i hi => by omega⟩
  | succ n ih =>
    obtain ⟨f, hf⟩ := ih fun i hi => h i (by omega)
    obtain ⟨v, hv⟩ := h n (by omega)
    refine ⟨fun i => if i = n then v else f i, fun i hi => ?_⟩
    by_cases e : i = n
    · subst e; simpa using hv
    · simp only [if_neg e]; exact hf i (by omega)
/-- A slice that reads as data: its rows. -/
theorem slice_readA {α : Type} [Inhabited α] {enc : α → List Value} {T e : TypeId} {Q : α → Prop} {sz : Nat} (hR : ReadsA P enc e Q) (hT : P.underlying T = some (.slice e)) (hc : P.cellsOf e = sz) (hz : ∀ a, (enc a).length = sz) (h0 : 0 < sz) (hp : ∀ a, ∀ v ∈ enc a, (plain v && v.oneCell') = true)
    {H : Type} {en : TypeId × Value → H} {w : World} {base : Nat} {spare : Nat → Bool} {held : Bool} {fuel : Nat} {u : Value} {x : DataW H × List MemPlace}
    (h : DataW.trod en P w base spare held fuel T [u] = some x) (hs : ∀ a n c, u = .slice (some a) n c → a.spot = none) :
    ∃ (A : Option Addr) (c : Nat) (l : List α), u = .slice A l.length c ∧ l.length ≤ c ∧ l.length ≤ maxLen ∧ (∀ v ∈ l, Q v) ∧ plain (.slice A l.length c) = true ∧ (A = none ∧ l = [] ∨ ∃ b o, A = some ⟨b, o, none⟩ ∧ rdRo w b o (l.length * sz) = some (flat enc l)) := by
  rcases open_slice hT h with ⟨hcs, _⟩ | ⟨a, len, cap, m, _, D, Pl, hcs, hb, hl, hm, hmm, _, hx⟩
  · obtain rfl : u = .slice none 0 0 := by simpa using hcs
    exact ⟨none, 0, [], rfl, Nat.le_refl _, Nat.zero_le _, fun v hv => (by cases hv), rfl, .inl ⟨rfl, rfl⟩⟩
  · obtain rfl : u = .slice (some a) len cap := by simpa using hcs
    have hsp := hs a len cap rfl
    obtain ⟨b, o, sp⟩ := a
    simp only at hsp
    subst hsp
    have hlm : len ≤ m := by rw [hmm]; split <;> omega
    obtain ⟨f, hf⟩ := choose_ltA (α := α) (n := len) (p := fun i v => Q v ∧ ∀ j c, (enc v)[j]? = some c → w.cell? ⟨b, o + i * sz + j, none⟩ = some c) (fun i hi => by
      obtain ⟨cs', h1, h2⟩ := hx i (by omega)
      obtain ⟨v, rfl, hQ⟩ := hR _ _ _ _ _ _ _ _ _ h2
      rw [hc] at h1
      obtain ⟨hlen, hcell⟩ := cells_eachA h1
      refine ⟨v, hQ, fun j c hj => ?_⟩
      have := hcell j c hj
      rw [Addr.add_add, add_at' _ _ rfl] at this
      rw [show o + i * sz + j = o + (i * sz + j) by omega]
      exact this)
    refine ⟨some ⟨b, o, none⟩, cap, (List.range len).map f, by simp, by simpa using hl, by simp; omega, fun v hv => ?_, rfl, .inr ⟨b, o, rfl, ?_⟩⟩
    · obtain ⟨i, hi, rfl⟩ := List.mem_map.1 hv
      exact (hf i (List.mem_range.1 hi)).1
    · have hL := flat_len hz ((List.range len).map f)
      rw [← hL]
      refine rdRo_cells _ o (fun q c hq => ?_) (fun v hv => ?_)
      · have hq' := lt_of_get hq
        rw [hL] at hq'
        simp only [List.length_map, List.length_range] at hq'
        have hi : q / sz < len := (Nat.div_lt_iff_lt_mul h0).2 hq'
        have hr : q % sz < sz := Nat.mod_lt _ h0
        have e1 : q = q / sz * sz + q % sz := by rw [Nat.mul_comm]; exact (Nat.div_add_mod q sz).symm
        have e2 := flat_row hz ((List.range len).map f) (i := q / sz) (by simpa using hi) (q % sz) 1 (by omega)
        rw [← e1] at e2
        have e3 : (flat enc ((List.range len).map f))[q]? = (((flat enc ((List.range len).map f)).drop q).take 1)[0]? := by
          rw [List.getElem?_take, if_pos (by omega), List.getElem?_drop, Nat.add_zero]
        rw [e3, e2, List.getElem?_take, if_pos (by omega), List.getElem?_drop, Nat.add_zero] at hq
        simp only [List.getElem_map, List.getElem_range] at hq
        have := (hf (q / sz) hi).2 (q % sz) c hq
        rw [show o + q / sz * sz + q % sz = o + q by omega] at this
        exact this
      · unfold flat at hv
        obtain ⟨r, hr, h2⟩ := List.mem_flatten.1 hv
        obtain ⟨a, _, rfl⟩ := List.mem_map.1 hr
        exact hp a v h2
/-- What the call's memory says of such a slice. -/
theorem sl_of {α : Type} {enc : α → List Value} {sz : Nat} (hz : ∀ a, (enc a).length = sz) {w : World} {A : Option Addr} {l : List α} (h : A = none ∧ l = [] ∨ ∃ b o, A = some ⟨b, o, none⟩ ∧ rdRo w b o (l.length * sz) = some (flat enc l)) (H : Hp) : Sl w H A sz (l.map enc) ∧ ∀ L c, src w (Hx H L) sz (.slice A l.length c) = some (l.length, flat enc l) := by
  rcases h with ⟨rfl, rfl⟩ | ⟨b, o, rfl, h⟩
  · exact ⟨.inl rfl, fun L c => rfl⟩
  · refine ⟨.inr ⟨b, o, none, rfl, fun i r hr f k hf => ?_⟩, fun L c => ?_⟩
    · have hi : i < l.length := by have := (List.getElem?_eq_some_iff.1 hr).1; simpa using this
      have hle : i * sz + sz ≤ l.length * sz := by rw [← Nat.succ_mul]; exact Nat.mul_le_mul_right _ hi
      have := rdRo_part (l.length * sz) b o (i * sz + f) k _ h (by omega)
      rw [List.getElem?_map, List.getElem?_eq_getElem hi] at hr
      cases hr
      show rdRo w b (o + i * sz + f) k = _
      rw [show o + i * sz + f = o + (i * sz + f) by omega, this, flat_row hz l hi f k hf]
    · rw [src_sl]
      show srcO _ (rdRo w b o (l.length * sz)) = _
      rw [h]
      rfl
end
end Go.Proofs.YtmacpgoclhgafaaGreatDoorW.XRA

namespace Go.Proofs.YtmacpgoclhgafaaGreatDoorW.FA
open Go.RowKit Go.ChangeShapes Go.WideShapes Go.ChangeAt Go.Deep Go.Proofs.YtmacpgoclhgafaaGreatDoorW.XM Go.Proofs Go.Proofs.YtmacpgoclhgafaaGreatDoorW.XWords Go.Proofs.YtmacpgoclhgafaaGreatDoorW.XRA
set_option maxRecDepth 100000
set_option linter.unusedVariables false
instance : Inhabited Mem := ⟨⟨em, em, 0⟩⟩
instance : Inhabited Rk := ⟨⟨em, 0⟩⟩
end Go.Proofs.YtmacpgoclhgafaaGreatDoorW.FA

namespace Go.Proofs.YtmacpgoclhgafaaGreatDoorW.FA
open Go.RowKit Go.Proofs.YtmacpgoclhgafaaGreatDoorW.XM Go.Proofs Go.Proofs.YtmacpgoclhgafaaGreatDoorW.XWords
set_option maxRecDepth 100000
set_option linter.unusedSimpArgs false
variable (w0 : World) (H : Hp)
/-- Where a code lies. -/
structure Cd where
  A : Option Addr
  n : Nat
  c : Nat
def encB (b : UInt8) : List Value := [.int .u8 (b.toNat : Int)]
structure CdOk (w0 : World) (D : Cd) : Prop where
  ok : ∃ bs : List UInt8, bs.length = D.n ∧ ∀ H, Sl w0 H D.A 1 (bs.map encB)
  le : D.n ≤ 2000
  pl : plain (.slice D.A D.n D.c) = true
/-- A reader: its code, and how far it is. -/
def dr (D : Cd) (p : Nat) : Option Ob := some (.row 70 [.slice D.A D.n D.c, .int .i64 (p : Int)])
theorem byte_le (b : UInt8) : (b.toNat : Int) ≤ 255 := by have := b.toNat_lt; omega
theorem CdOk.at {D : Cd} (h : CdOk w0 D) {i : Nat} (hi : i < D.n) : ∃ b o sp, D.A = some ⟨b, o, sp⟩ ∧ ∃ x : Nat, x ≤ 255 ∧ ∀ L, rd w0 (Hx H L) ⟨b, o + i * 1, sp⟩ 1 = some [.int .u8 (x : Int)] := by
  obtain ⟨bs, hl, hs⟩ := h.ok
  obtain ⟨b, o, sp, e, _, hc⟩ := mcell (hs H) (i := i) (by omega)
  exact ⟨b, o, sp, e, bs[i].toNat, by have := byte_le bs[i]; omega, fun L => hc L rfl⟩
theorem xor_in (a b : Nat) (h1 : a < 4611686018427387904) (h2 : b < 4611686018427387904) : ∃ c : Nat, c < 4611686018427387904 ∧ IntKind.i64.wrap ((BitVec.ofInt 64 (a : Int) ^^^ BitVec.ofInt 64 (b : Int)).toNat : Int) = (c : Int) := by
  have hx : a ^^^ b < 2 ^ 62 := Nat.xor_lt_two_pow (by omega) (by omega)
  have e1 : (BitVec.ofInt 64 (a : Int)).toNat = a := by
    rw [BitVec.ofInt_natCast, BitVec.toNat_ofNat]; exact Nat.mod_eq_of_lt (by omega)
  have e2 : (BitVec.ofInt 64 (b : Int)).toNat = b := by
    rw [BitVec.ofInt_natCast, BitVec.toNat_ofNat]; exact Nat.mod_eq_of_lt (by omega)
  refine ⟨a ^^^ b, by omega, ?_⟩
  rw [BitVec.toNat_xor, e1, e2]
  exact wrap_i64 (by omega) (by omega)
theorem tmod_nat (a n : Nat) : (a : Int).tmod (n : Int) = ((a % n : Nat) : Int) := by
  rw [Int.tmod_eq_emod_of_nonneg (by omega)]; simp
theorem tdiv_nat (a n : Nat) : (a : Int).tdiv (n : Int) = ((a / n : Nat) : Int) := by
  rw [Int.tdiv_eq_ediv_of_nonneg (by omega)]; simp
theorem pick_ok (D : Cd) (hD : CdOk w0 D) (B : Hp) (l : List (Option Ob)) (q p : Nat) (n : Int) (hq : l[q]? = some (dr D p)) (hp : p ≤ 1000000) :
    AFn Tryz.prog w0 20 #[.pointer (some ⟨nid B q, 0, some 2⟩), .int .i64 n] (Hx B l) fun v H2 => ∃ k : Nat, v = .int .i64 (k : Int) ∧ (1 ≤ n → (k : Int) < n) ∧ (n < 1 → k = 0) ∧ H2 = Hx B (l.set q (dr D (p + 1))) := by
  refine AFn_of Tryz.func20 rfl (by kernel_rfl) ?_
  have r := Tryz.results20
  have hlq : q < l.length := lt_of_get hq
  have gs : ∀ X : Option Ob, (l.set q X)[q]? = some X := fun X => by rw [List.getElem?_set_self hlq]
  have w1 : IntKind.i64.wrap ((p : Int) + 1) = ((p + 1 : Nat) : Int) := by rw [wrap_i64 (by omega) (by omega)]; omega
  have w2 : IntKind.i64.wrap (((p + 1 : Nat) : Int) - 1) = (p : Int) := by rw [wrap_i64 (by omega) (by omega)]; omega
  have hle := hD.le
  unfold dr at hq ⊢
  simp only [go_sem, cond, Nat.reduceAdd, Nat.reduceLeDiff, Nat.reduceEqDiff, Nat.reduceBEq, decide_true, decide_false, Int.toNat_natCast, r, hq, gs, w1]
  by_cases hn : n < 1
  · have d1 : (n < 1) = True := eq_true hn
    simp only [go_sem, cond, Nat.reduceAdd, Nat.reduceLeDiff, Nat.reduceEqDiff, Nat.reduceBEq, decide_true, decide_false, Int.toNat_natCast, r, hq, gs, w1, d1]
    exact ⟨0, rfl, fun h => by omega, fun _ => rfl⟩
  have d1 : (n < 1) = False := eq_false hn
  by_cases hz : D.n = 0
  · have d2 : (((D.n : Nat) : Int) == 0) = true := by rw [hz]; rfl
    simp only [go_sem, cond, Nat.reduceAdd, Nat.reduceLeDiff, Nat.reduceEqDiff, Nat.reduceBEq, decide_true, decide_false, Int.toNat_natCast, r, hq, gs, w1, d1, d2]
    exact ⟨0, rfl, fun h => by omega, fun _ => rfl⟩
  have d2 : (((D.n : Nat) : Int) == 0) = false := by rw [beq_eq_false_iff_ne]; omega
  have hrem : ∀ (t : TypeId) (c : Bool) (x : Int), xBin Tryz.prog .rem t c (.int .i64 x) (.int .i64 n) = some (.int .i64 (x.tmod n)) := fun t c x => bin_rem t c _ x n (by omega)
  obtain ⟨N, rfl⟩ : ∃ N : Nat, n = (N : Int) := ⟨n.toNat, by omega⟩
  have hN : 1 ≤ N := by omega
  by_cases hlt : p < D.n
  · have d3 : ((p : Int) < (D.n : Int)) = True := eq_true (by omega)
    have d4 : ((0 : Int) ≤ (p : Int)) = True := eq_true (by omega)
    obtain ⟨b, o, sp, hA, x, hx, hc⟩ := hD.at w0 B hlt
    have w3 : IntKind.i64.wrap (x : Int) = (x : Int) := wrap_i64 (by omega) (by omega)
    simp only [go_sem, cond, Nat.reduceAdd, Nat.reduceLeDiff, Nat.reduceEqDiff, Nat.reduceBEq, decide_true, decide_false, Int.toNat_natCast, r, hq, gs, w1, w2, d1, d2, d3, d4, hA, hc, w3, hrem, tmod_nat]
    exact ⟨x % N, rfl, fun _ => by have := Nat.mod_lt x hN; omega, fun h => h.elim⟩
  · have d3 : ((p : Int) < (D.n : Int)) = False := eq_false (by omega)
    have hremL : ∀ (t : TypeId) (c : Bool) (x : Int), xBin Tryz.prog .rem t c (.int .i64 x) (.int .i64 (D.n : Int)) = some (.int .i64 (x.tmod (D.n : Int))) := fun t c x => bin_rem t c _ x _ (by omega)
    obtain ⟨t3, e3⟩ : ∃ t, t = p / D.n := ⟨_, rfl⟩
    have m3 : t3 ≤ p := e3 ▸ Nat.div_le_self _ _
    have hquoL : ∀ (t : TypeId) (c : Bool), xBin Tryz.prog .quo t c (.int .i64 (p : Int)) (.int .i64 (D.n : Int)) = some (.int .i64 (t3 : Int)) := fun t c => by rw [bin_quo t c _ _ _ (by omega), tdiv_nat, ← e3, wrap_i64 (by omega) (by omega)]
    have m1 : p % D.n < D.n := Nat.mod_lt _ (by omega)
    have m2 : (p * 7 + 3) % D.n < D.n := Nat.mod_lt _ (by omega)
    obtain ⟨b, o, sp, hA, x, hx, hc⟩ := hD.at w0 B m1
    obtain ⟨b2, o2, sp2, hA2, y, hy, hc2⟩ := hD.at w0 B m2
    rw [hA] at hA2
    cases hA2
    have d4 : (((p % D.n : Nat) : Int) < (D.n : Int)) = True := eq_true (by omega)
    have d5 : ((0 : Int) ≤ ((p % D.n : Nat) : Int)) = True := eq_true (by omega)
    have d6 : ((((p * 7 + 3) % D.n : Nat) : Int) < (D.n : Int)) = True := eq_true (by omega)
    have d7 : ((0 : Int) ≤ (((p * 7 + 3) % D.n : Nat) : Int)) = True := eq_true (by omega)
    have w3 : IntKind.i64.wrap (x : Int) = (x : Int) := wrap_i64 (by omega) (by omega)
    have w4 : IntKind.i64.wrap (y : Int) = (y : Int) := wrap_i64 (by omega) (by omega)
    have w5 : IntKind.i64.wrap ((x : Int) * 131) = ((x * 131 : Nat) : Int) := by rw [wrap_i64 (by omega) (by omega)]; omega
    have w6 : IntKind.i64.wrap ((y : Int) * 1117) = ((y * 1117 : Nat) : Int) := by rw [wrap_i64 (by omega) (by omega)]; omega
    have w7 : IntKind.i64.wrap ((p : Int) * 7) = ((p * 7 : Nat) : Int) := by rw [wrap_i64 (by omega) (by omega)]; omega
    have w8 : IntKind.i64.wrap (((p * 7 : Nat) : Int) + 3) = ((p * 7 + 3 : Nat) : Int) := by rw [wrap_i64 (by omega) (by omega)]; omega
    have w9 : IntKind.i64.wrap (((x * 131 : Nat) : Int) + ((y * 1117 : Nat) : Int)) = ((x * 131 + y * 1117 : Nat) : Int) := by rw [wrap_i64 (by omega) (by omega)]; omega
    have w10 : IntKind.i64.wrap ((p : Int) * 29) = ((p * 29 : Nat) : Int) := by rw [wrap_i64 (by omega) (by omega)]; omega
    have w11 : IntKind.i64.wrap (((x * 131 + y * 1117 : Nat) : Int) + ((p * 29 : Nat) : Int)) = ((x * 131 + y * 1117 + p * 29 : Nat) : Int) := by rw [wrap_i64 (by omega) (by omega)]; omega
    have w13 : IntKind.i64.wrap ((t3 : Int) * 53) = ((t3 * 53 : Nat) : Int) := by rw [wrap_i64 (by omega) (by omega)]; omega
    have w14 : IntKind.i64.wrap (((x * 131 + y * 1117 + p * 29 : Nat) : Int) + ((t3 * 53 : Nat) : Int)) = ((x * 131 + y * 1117 + p * 29 + t3 * 53 : Nat) : Int) := by rw [wrap_i64 (by omega) (by omega)]; omega
    have hzl : x * 131 + y * 1117 + p * 29 + t3 * 53 < 4611686018427387904 := by omega
    simp only [go_sem, cond, Nat.reduceAdd, Nat.reduceLeDiff, Nat.reduceEqDiff, Nat.reduceBEq, decide_true, decide_false, Int.toNat_natCast, r, hq, gs, w1, w2, d1, d2, d3]
    (refine xw_open (id := 7) [0, 1, 3, 7, 0, 0, 32, 96, 224, 480, 1008, 2047, 4095, 8191, 16383, 0, 32768, 98304, 229376, 0, 524288, 1572864, 0, 4194304, 12582912, 29360128, 62914560, 133693440, 268402688, 536838144, 1073709056, 2147450880, 4294967295, 0, 8589934592, 34359738367, 0, 0, 137438953472, 412316860416, 962072674304, 2061584302080, 4329327034368, 8727373545472, 17592186044415, 35184372088831] [.q 0, .q 1, .q 2, .q 4, .q 5, .q 6, .q 7, .q 15, .q 16, .q 17, .q 19, .q 20, .q 21, .q 22, .q 23, .q 24, .q 33, .q 34, .q 36, .q 37, .q 38, .q 39, .q 3, .q 8, .q 9, .q 10, .q 11, .q 12, .q 13, .q 14, .q 18, .q 25, .q 26, .q 27, .q 28, .q 29, .q 30, .q 31, .q 32, .q 35, .q 40, .q 41, .q 42, .q 43, .q 44, .q 45] rfl (by kernel_rfl) ?_; simp only [go_sem, cond, Nat.reduceAdd, Nat.reduceLeDiff, Nat.reduceEqDiff, Nat.reduceBEq, decide_true, decide_false, Int.toNat_natCast, r, hq, gs, w1, w2, d1, d2, d3, d4, d5, d6, d7, hA, hc, hc2, hremL, hquoL, tmod_nat, w3, w4, w5, w6, w7, w8, w9, w10, w11, w13, w14])
    generalize x * 131 + y * 1117 + p * 29 + t3 * 53 = z at *
    have hq64 : ∀ (t : TypeId) (c : Bool), xBin Tryz.prog .quo t c (.int .i64 (z : Int)) (.int .i64 64) = some (.int .i64 ((z / 64 : Nat) : Int)) := fun t c => by
      rw [bin_quo t c _ _ _ (by omega), show (64 : Int) = ((64 : Nat) : Int) from rfl, tdiv_nat]
      rw [wrap_i64 (by omega) (by omega)]
    obtain ⟨u, hu, he⟩ := xor_in z (z / 64) hzl (by omega)
    have he2 : IntKind.i64.wrap ((BitVec.ofInt IntKind.i64.bits (z : Int) ^^^ BitVec.ofInt IntKind.i64.bits ((z / 64 : Nat) : Int)).toNat : Int) = (u : Int) := he
    simp only [go_sem, cond, Nat.reduceAdd, Nat.reduceLeDiff, Nat.reduceEqDiff, Nat.reduceBEq, decide_true, decide_false, Int.toNat_natCast, r, hq, gs, hrem, hq64, he, he2, tmod_nat]
    refine ⟨u % N, ?_, fun _ => by have := Nat.mod_lt u hN; omega, fun h => h.elim⟩
    have he3 := tmod_nat u N
    rw [← he] at he3
    rw [← he3]
    rfl
end Go.Proofs.YtmacpgoclhgafaaGreatDoorW.FA

namespace Go.Proofs.YtmacpgoclhgafaaGreatDoorW.FA
open Go.RowKit Go.Proofs.YtmacpgoclhgafaaGreatDoorW.XM Go.Proofs Go.Proofs.YtmacpgoclhgafaaGreatDoorW.XWords
set_option maxRecDepth 100000
set_option linter.unusedSimpArgs false
variable (w0 : World) (H : Hp)
/-- A short text. -/
def isS : Value → Bool
  | .string s => decide (s.size ≤ 100)
  | _ => false
/-- A small number. -/
def isI : Value → Bool
  | .int .i64 k => decide (-100000 ≤ k) && decide (k ≤ 100000)
  | _ => false
theorem isI_spec {v : Value} (h : isI v = true) : ∃ k : Int, v = .int .i64 k ∧ -100000 ≤ k ∧ k ≤ 100000 := by
  unfold isI at h
  split at h
  · simp only [Bool.and_eq_true, decide_eq_true_eq] at h
    exact ⟨_, rfl, h⟩
  · cases h
/-- The names that are drawn. -/
def nmL : List (List UInt8) := [[], [88], [97, 110, 110], [98, 111, 98], [99, 121, 100], [100, 97, 110], [122, 101, 100]]
def nmB (s : ByteArray) : Bool := nmL.contains s.data.toList
def nmS (s : ByteArray) : Bool := decide (s.size ≤ 100) && nmB s
def isSP (p : ByteArray → Bool) : Value → Bool
  | .string s => p s
  | _ => false
theorem isSP_spec {p : ByteArray → Bool} {v : Value} (h : isSP p v = true) : ∃ s : ByteArray, v = .string s ∧ p s = true := by
  unfold isSP at h
  split at h
  · exact ⟨_, rfl, h⟩
  · cases h
theorem isS_P : isS = isSP (fun s => decide (s.size ≤ 100)) := by
  funext v
  cases v <;> rfl
theorem nmS_spec {s : ByteArray} (h : nmS s = true) : s.size ≤ 100 ∧ nmB s = true := by
  simpa only [nmS, Bool.and_eq_true, decide_eq_true_eq] using h
theorem of_okP (p0 : ByteArray → Bool) (D : Cd) (hD : CdOk w0 D) (B : Hp) (l : List (Option Ob)) (q p j n tag : Nat) (cs : List Value) (hq : l[q]? = some (dr D p)) (hp : p ≤ 1000000) (hj : l[j]? = some (some (.row 9 cs))) (hn : cs.length = n) (ht : tag = n) (h1 : 1 ≤ n) (h2 : n ≤ 100) (hs : cs.all (isSP p0) = true) :
    AFn Tryz.prog w0 24 #[.pointer (some ⟨nid B q, 0, some 2⟩), .slice (some ⟨nid B j, 0, some tag⟩) n n] (Hx B l) fun v H2 => ∃ s : ByteArray, p0 s = true ∧ v = .string s ∧ H2 = Hx B (l.set q (dr D (p + 1))) := by
  subst ht
  have hlq : q < l.length := lt_of_get hq
  have hjq : q ≠ j := by
    intro e
    subst e
    rw [hq] at hj
    simp [dr] at hj
  refine AFn_of Tryz.func24 rfl (by kernel_rfl) ?_
  have r := Tryz.results24
  simp only [go_sem, cond, Nat.reduceAdd, Nat.reduceLeDiff, Nat.reduceEqDiff, Nat.reduceBEq, decide_true, decide_false, Int.toNat_natCast, r]
  refine call (pick_ok w0 D hD B l q p (tag : Int) hq hp) ?_
  rintro v H2 ⟨k, rfl, k1, _, rfl⟩
  have hk : k < tag := by have := k1 (by omega); omega
  have d1 : ((0 : Int) ≤ (k : Int)) = True := eq_true (by omega)
  have d2 : ((k : Int) < (tag : Int)) = True := eq_true (by omega)
  obtain ⟨s, e, hs2⟩ := isSP_spec (List.all_eq_true.1 hs _ (List.getElem_mem (show k < cs.length by omega)))
  have c0 : rdO ((l.set q (dr D (p + 1)))[j]?) (k * 1) tag 1 = some [.string s] := by
    rw [List.getElem?_set_ne hjq, hj, rdO_row, if_pos ⟨hn, by omega⟩, Nat.mul_one, List.drop_eq_getElem_cons (show k < cs.length by omega), e]
    rfl
  simp only [go_sem, cond, Nat.reduceAdd, Nat.reduceLeDiff, Nat.reduceEqDiff, Nat.reduceBEq, decide_true, decide_false, Int.toNat_natCast, r, d1, d2, c0]
  exact ⟨s, hs2, rfl⟩
theorem of_ok (D : Cd) (hD : CdOk w0 D) (B : Hp) (l : List (Option Ob)) (q p j n tag : Nat) (cs : List Value) (hq : l[q]? = some (dr D p)) (hp : p ≤ 1000000) (hj : l[j]? = some (some (.row 9 cs))) (hn : cs.length = n) (ht : tag = n) (h1 : 1 ≤ n) (h2 : n ≤ 100) (hs : cs.all isS = true) :
    AFn Tryz.prog w0 24 #[.pointer (some ⟨nid B q, 0, some 2⟩), .slice (some ⟨nid B j, 0, some tag⟩) n n] (Hx B l) fun v H2 => ∃ s : ByteArray, s.size ≤ 100 ∧ v = .string s ∧ H2 = Hx B (l.set q (dr D (p + 1))) := by
  rw [isS_P] at hs
  refine (of_okP w0 (fun s => decide (s.size ≤ 100)) D hD B l q p j n tag cs hq hp hj hn ht h1 h2 hs).mono ?_
  rintro v H2 ⟨s, a, b, c⟩
  exact ⟨s, of_decide_eq_true a, b, c⟩
theorem one_ok (D : Cd) (hD : CdOk w0 D) (B : Hp) (l : List (Option Ob)) (q p j n tag : Nat) (cs : List Value) (hq : l[q]? = some (dr D p)) (hp : p ≤ 1000000) (hj : l[j]? = some (some (.row 3 cs))) (hn : cs.length = n) (ht : tag = n) (h1 : 1 ≤ n) (h2 : n ≤ 100) (hs : cs.all isI = true) :
    AFn Tryz.prog w0 44 #[.pointer (some ⟨nid B q, 0, some 2⟩), .slice (some ⟨nid B j, 0, some tag⟩) n n] (Hx B l) fun v H2 => ∃ s : Int, -100000 ≤ s ∧ s ≤ 100000 ∧ .int .i64 s ∈ cs ∧ v = .int .i64 s ∧ H2 = Hx B (l.set q (dr D (p + 1))) := by
  subst ht
  have hlq : q < l.length := lt_of_get hq
  have hjq : q ≠ j := by
    intro e
    subst e
    rw [hq] at hj
    simp [dr] at hj
  refine AFn_of Tryz.func44 rfl (by kernel_rfl) ?_
  have r := Tryz.results44
  simp only [go_sem, cond, Nat.reduceAdd, Nat.reduceLeDiff, Nat.reduceEqDiff, Nat.reduceBEq, decide_true, decide_false, Int.toNat_natCast, r]
  refine call (pick_ok w0 D hD B l q p (tag : Int) hq hp) ?_
  rintro v H2 ⟨k, rfl, k1, _, rfl⟩
  have hk : k < tag := by have := k1 (by omega); omega
  have d1 : ((0 : Int) ≤ (k : Int)) = True := eq_true (by omega)
  have d2 : ((k : Int) < (tag : Int)) = True := eq_true (by omega)
  have hmem := List.getElem_mem (show k < cs.length by omega)
  obtain ⟨s, e, hs2, hs3⟩ := isI_spec (List.all_eq_true.1 hs _ hmem)
  have c0 : rdO ((l.set q (dr D (p + 1)))[j]?) (k * 1) tag 1 = some [.int .i64 s] := by
    rw [List.getElem?_set_ne hjq, hj, rdO_row, if_pos ⟨hn, by omega⟩, Nat.mul_one, List.drop_eq_getElem_cons (show k < cs.length by omega), e]
    rfl
  simp only [go_sem, cond, Nat.reduceAdd, Nat.reduceLeDiff, Nat.reduceEqDiff, Nat.reduceBEq, decide_true, decide_false, Int.toNat_natCast, r, d1, d2, c0]
  exact ⟨s, hs2, hs3, e ▸ hmem, rfl⟩
/-- What a draw leaves: the reader further on, all else as it was. -/
theorem AFn.dr {P : Program} {w0 : World} {f : FuncId} {args : Array Value} {B : Hp} {l : List (Option Ob)} {q : Nat} {D : Cd} {R : Value → Nat → Prop} (hD : CdOk w0 D) (hlq : q < l.length)
    (h : AFn P w0 f args (Hx B l) fun v H2 => ∃ p' g, H2 = Hx B (l.set q (dr D p') ++ g) ∧ R v p' ∧ ∀ ρ, ren3 ρ v = some v) : AFn P w0 f args (Hx B l) fun v H2 => ∃ p', H2 = Hx B (l.set q (FA.dr D p')) ∧ R v p' := by
  refine AFn.pack (h.mono ?_)
  rintro v H2 ⟨p', g, rfl, hR, hv⟩
  refine ⟨Hx B (l.set q (FA.dr D p')), g, [], v, by rw [Hx_Hx], by simp [Hx], ?_, by simp, List.nodup_nil, hv _, ⟨p', by simp [pick, Hx], hR⟩⟩
  intro i o ho
  unfold Hx at ho ⊢
  rw [List.getElem?_append] at ho ⊢
  split at ho
  · rename_i hlt; rw [if_pos hlt]; exact .inl ho
  · rename_i hlt
    rw [if_neg hlt]
    rw [List.getElem?_set] at ho
    split at ho
    · cases ho
      refine .inr ⟨_, _, rfl, fun v hv => ?_⟩
      simp only [List.mem_cons, List.not_mem_nil, or_false] at hv
      rcases hv with rfl | rfl
      · have := hD.pl
        cases hA : D.A with
        | none => rfl
        | some a =>
          rw [hA] at this
          obtain ⟨b, o, sp⟩ := a
          cases sp with
          | none => rfl
          | some t => simp [plain] at this
      · rfl
    · exact .inl ho
/-- Lists with a reader in them, and what is behind. -/
theorem dset {l : List (Option Ob)} {q : Nat} (h : q < l.length) : (∀ X Y L, (l.set q X ++ L).set q Y = l.set q Y ++ L) ∧ (∀ X L, (l.set q X ++ L)[q]? = some X) ∧ (∀ X L i, (l.set q X ++ L)[l.length + i]? = L[i]?) ∧ (∀ X L, (l.set q X ++ L)[l.length]? = L[0]?) ∧ (∀ X Y L i, (l.set q X ++ L).set (l.length + i) Y = l.set q X ++ L.set i Y) ∧ (∀ X Y L, (l.set q X ++ L).set l.length Y = l.set q X ++ L.set 0 Y) := by
  refine ⟨fun X Y L => ?_, fun X L => ?_, fun X L i => ?_, fun X L => ?_, fun X Y L i => ?_, fun X Y L => ?_⟩
  · rw [List.set_append_left _ _ (by simpa using h), List.set_set]
  · rw [List.getElem?_append_left (by simpa using h), List.getElem?_set_self h]
  · rw [List.getElem?_append_right (by simp)]; simp
  · rw [List.getElem?_append_right (by simp)]; simp
  · rw [List.set_append_right _ _ (by simp)]; simp
  · rw [List.set_append_right _ _ (by simp)]; simp
theorem set_same {l : List (Option Ob)} {q : Nat} {x : Option Ob} (h : l[q]? = some x) : l = l.set q x ++ [] := by
  rw [List.append_nil]
  apply List.ext_getElem?
  intro i
  rw [List.getElem?_set]
  split
  · rename_i e
    subst e
    rw [if_pos (lt_of_get h)]
    exact h
  · rfl
/-- A draw of a short text. -/
def DrS (w0 : World) (f : FuncId) (c N : Nat) : Prop := ∀ (D : Cd) (B : Hp) (l : List (Option Ob)) (q p : Nat), CdOk w0 D → l[q]? = some (dr D p) → p ≤ 900000 → AFn Tryz.prog w0 f #[.pointer (some ⟨nid B q, 0, some 2⟩)] (Hx B l) fun v H2 => ∃ p', H2 = Hx B (l.set q (dr D p')) ∧ p ≤ p' ∧ p' ≤ p + c ∧ ∃ s : ByteArray, s.size ≤ N ∧ v = .string s

theorem l16Text_ok : DrS w0 83 1 100 := by
  intro D B l q p hD hq hp
  have hlq := lt_of_get hq
  refine AFn.dr (R := fun v p' => p ≤ p' ∧ p' ≤ p + 1 ∧ ∃ s : ByteArray, s.size ≤ 100 ∧ v = .string s) hD hlq ?_
  obtain ⟨sA, gQ, gR, gR0, sR, sR0⟩ := dset hlq
  rw [set_same hq]
  refine AFn_of Tryz.func83 rfl (by kernel_rfl) ?_
  have r := Tryz.results83
  simp only [go_sem, cond, Nat.reduceAdd, Nat.reduceLeDiff, Nat.reduceEqDiff, Nat.reduceBEq, decide_true, decide_false, Int.toNat_natCast, r, List.append_assoc, List.length_append, List.length_set]
  refine bsV_dense ⟨_, XF.zer_9, rfl⟩ rfl rfl (by decide) rfl ?_
  simp only [go_sem, cond, Nat.reduceAdd, Nat.reduceLeDiff, Nat.reduceEqDiff, Nat.reduceBEq, decide_true, decide_false, Int.toNat_natCast, r, List.append_assoc, List.length_append, List.length_set]
  refine call (of_ok w0 D hD B _ q p _ _ _ _ (gQ _ _) (by omega) (gR0 _ _) rfl rfl (by decide) (by decide) (by decide)) ?_
  rintro v H2 ⟨s, hs, rfl, rfl⟩
  simp only [go_sem, cond, Nat.reduceAdd, Nat.reduceLeDiff, Nat.reduceEqDiff, Nat.reduceBEq, decide_true, decide_false, Int.toNat_natCast, r, sA, List.set_set]
  exact ⟨p + 1, _, rfl, ⟨by omega, by omega, s, by omega, rfl⟩, fun ρ => rfl⟩
/-- A draw of a name. -/
def DrN (w0 : World) (f : FuncId) (c : Nat) : Prop := ∀ (D : Cd) (B : Hp) (l : List (Option Ob)) (q p : Nat), CdOk w0 D → l[q]? = some (dr D p) → p ≤ 900000 → AFn Tryz.prog w0 f #[.pointer (some ⟨nid B q, 0, some 2⟩)] (Hx B l) fun v H2 => ∃ p', H2 = Hx B (l.set q (dr D p')) ∧ p ≤ p' ∧ p' ≤ p + c ∧ ∃ s : ByteArray, (s.size ≤ 100 ∧ nmB s = true) ∧ v = .string s
theorem l16User_nm : DrN w0 46 1 := by
  intro D B l q p hD hq hp
  have hlq := lt_of_get hq
  refine AFn.dr (R := fun v p' => p ≤ p' ∧ p' ≤ p + 1 ∧ ∃ s : ByteArray, (s.size ≤ 100 ∧ nmB s = true) ∧ v = .string s) hD hlq ?_
  obtain ⟨sA, gQ, gR, gR0, sR, sR0⟩ := dset hlq
  rw [set_same hq]
  refine AFn_of Tryz.func46 rfl (by kernel_rfl) ?_
  have r := Tryz.results46
  simp only [go_sem, cond, Nat.reduceAdd, Nat.reduceLeDiff, Nat.reduceEqDiff, Nat.reduceBEq, decide_true, decide_false, Int.toNat_natCast, r, List.append_assoc, List.length_append, List.length_set]
  refine bsV_dense ⟨_, XF.zer_9, rfl⟩ rfl rfl (by decide) rfl ?_
  simp only [go_sem, cond, Nat.reduceAdd, Nat.reduceLeDiff, Nat.reduceEqDiff, Nat.reduceBEq, decide_true, decide_false, Int.toNat_natCast, r, List.append_assoc, List.length_append, List.length_set]
  refine call (of_okP w0 nmS D hD B _ q p _ _ _ _ (gQ _ _) (by omega) (gR0 _ _) rfl rfl (by decide) (by decide) (by decide)) ?_
  rintro v H2 ⟨s, hs, rfl, rfl⟩
  simp only [go_sem, cond, Nat.reduceAdd, Nat.reduceLeDiff, Nat.reduceEqDiff, Nat.reduceBEq, decide_true, decide_false, Int.toNat_natCast, r, sA, List.set_set]
  exact ⟨p + 1, _, rfl, ⟨by omega, by omega, s, nmS_spec hs, rfl⟩, fun ρ => rfl⟩
theorem l16User_ok : DrS w0 46 1 100 := by
  intro D B l q p hD hq hp
  refine (l16User_nm w0 D B l q p hD hq hp).mono ?_
  rintro v H2 ⟨p', a, b, c, s, ⟨d, -⟩, e⟩
  exact ⟨p', a, b, c, s, d, e⟩
theorem l16Nick_ok : DrS w0 48 1 100 := by
  intro D B l q p hD hq hp
  have hlq := lt_of_get hq
  refine AFn.dr (R := fun v p' => p ≤ p' ∧ p' ≤ p + 1 ∧ ∃ s : ByteArray, s.size ≤ 100 ∧ v = .string s) hD hlq ?_
  obtain ⟨sA, gQ, gR, gR0, sR, sR0⟩ := dset hlq
  rw [set_same hq]
  refine AFn_of Tryz.func48 rfl (by kernel_rfl) ?_
  have r := Tryz.results48
  simp only [go_sem, cond, Nat.reduceAdd, Nat.reduceLeDiff, Nat.reduceEqDiff, Nat.reduceBEq, decide_true, decide_false, Int.toNat_natCast, r, List.append_assoc, List.length_append, List.length_set]
  refine bsV_dense ⟨_, XF.zer_9, rfl⟩ rfl rfl (by decide) rfl ?_
  simp only [go_sem, cond, Nat.reduceAdd, Nat.reduceLeDiff, Nat.reduceEqDiff, Nat.reduceBEq, decide_true, decide_false, Int.toNat_natCast, r, List.append_assoc, List.length_append, List.length_set]
  refine call (of_ok w0 D hD B _ q p _ _ _ _ (gQ _ _) (by omega) (gR0 _ _) rfl rfl (by decide) (by decide) (by decide)) ?_
  rintro v H2 ⟨s, hs, rfl, rfl⟩
  simp only [go_sem, cond, Nat.reduceAdd, Nat.reduceLeDiff, Nat.reduceEqDiff, Nat.reduceBEq, decide_true, decide_false, Int.toNat_natCast, r, sA, List.set_set]
  exact ⟨p + 1, _, rfl, ⟨by omega, by omega, s, by omega, rfl⟩, fun ρ => rfl⟩
theorem l16Room_ok : DrS w0 47 1 100 := by
  intro D B l q p hD hq hp
  have hlq := lt_of_get hq
  refine AFn.dr (R := fun v p' => p ≤ p' ∧ p' ≤ p + 1 ∧ ∃ s : ByteArray, s.size ≤ 100 ∧ v = .string s) hD hlq ?_
  obtain ⟨sA, gQ, gR, gR0, sR, sR0⟩ := dset hlq
  rw [set_same hq]
  refine AFn_of Tryz.func47 rfl (by kernel_rfl) ?_
  have r := Tryz.results47
  simp only [go_sem, cond, Nat.reduceAdd, Nat.reduceLeDiff, Nat.reduceEqDiff, Nat.reduceBEq, decide_true, decide_false, Int.toNat_natCast, r, List.append_assoc, List.length_append, List.length_set]
  refine bsV_dense ⟨_, XF.zer_9, rfl⟩ rfl rfl (by decide) rfl ?_
  simp only [go_sem, cond, Nat.reduceAdd, Nat.reduceLeDiff, Nat.reduceEqDiff, Nat.reduceBEq, decide_true, decide_false, Int.toNat_natCast, r, List.append_assoc, List.length_append, List.length_set]
  refine call (of_ok w0 D hD B _ q p _ _ _ _ (gQ _ _) (by omega) (gR0 _ _) rfl rfl (by decide) (by decide) (by decide)) ?_
  rintro v H2 ⟨s, hs, rfl, rfl⟩
  simp only [go_sem, cond, Nat.reduceAdd, Nat.reduceLeDiff, Nat.reduceEqDiff, Nat.reduceBEq, decide_true, decide_false, Int.toNat_natCast, r, sA, List.set_set]
  exact ⟨p + 1, _, rfl, ⟨by omega, by omega, s, by omega, rfl⟩, fun ρ => rfl⟩
theorem l16Any_ok : DrS w0 50 2 200 := by
  intro D B l q p hD hq hp
  have hlq := lt_of_get hq
  refine AFn.dr (R := fun v p' => p ≤ p' ∧ p' ≤ p + 2 ∧ ∃ s : ByteArray, s.size ≤ 200 ∧ v = .string s) hD hlq ?_
  obtain ⟨sA, gQ, gR, gR0, sR, sR0⟩ := dset hlq
  have gs : ∀ X : Option Ob, (l.set q X)[q]? = some X := fun X => by rw [List.getElem?_set_self hlq]
  rw [set_same hq]
  refine AFn_of Tryz.func50 rfl (by kernel_rfl) ?_
  have r := Tryz.results50
  simp only [go_sem, cond, Nat.reduceAdd, Nat.reduceLeDiff, Nat.reduceEqDiff, Nat.reduceBEq, decide_true, decide_false, Int.toNat_natCast, r, List.append_assoc, List.length_append, List.length_set]
  refine call (l16Text_ok w0 D B _ q p hD (gs _) hp) ?_
  rintro v H2 ⟨p1, rfl, h1, h2, s1, hs1, rfl⟩
  simp only [go_sem, cond, Nat.reduceAdd, Nat.reduceLeDiff, Nat.reduceEqDiff, Nat.reduceBEq, decide_true, decide_false, Int.toNat_natCast, r, sA, List.set_set, List.append_assoc, List.length_append, List.length_set]
  refine bsV_dense ⟨_, XF.zer_9, rfl⟩ rfl rfl (by decide) rfl ?_
  simp only [go_sem, cond, Nat.reduceAdd, Nat.reduceLeDiff, Nat.reduceEqDiff, Nat.reduceBEq, decide_true, decide_false, Int.toNat_natCast, r, List.append_assoc, List.length_append, List.length_set]
  refine call (of_ok w0 D hD B _ q p1 _ _ _ _ (gQ _ _) (by omega) (gR0 _ _) rfl rfl (by decide) (by decide) (by decide)) ?_
  rintro v H2 ⟨s, hs, rfl, rfl⟩
  have d1 : (s1.size + s.size ≤ 4611686018427387904) = True := eq_true (by omega)
  simp only [go_sem, cond, Nat.reduceAdd, Nat.reduceLeDiff, Nat.reduceEqDiff, Nat.reduceBEq, decide_true, decide_false, Int.toNat_natCast, r, sA, List.set_set, d1]
  exact ⟨p1 + 1, _, rfl, ⟨by omega, by omega, _, by rw [ByteArray.size_append]; omega, rfl⟩, fun ρ => rfl⟩
end Go.Proofs.YtmacpgoclhgafaaGreatDoorW.FA

namespace Go.Proofs.YtmacpgoclhgafaaGreatDoorW.FA
open Go.RowKit Go.Proofs.YtmacpgoclhgafaaGreatDoorW.XM Go.Proofs Go.Proofs.YtmacpgoclhgafaaGreatDoorW.XWords
set_option maxRecDepth 100000
set_option linter.unusedSimpArgs false
variable (w0 : World) (H : Hp)
structure Sy where
  kind : Int
  room : ByteArray
  nick : ByteArray
  name : ByteArray
  id : ByteArray
  ref : ByteArray
  text : ByteArray
  num : Int
  frm : Int
  back : Int
def Sy.enc (s : Sy) : List Value := [.int .i64 s.kind, .string s.room, .string s.nick, .string s.name, .string s.id, .string s.ref, .string s.text, .int .i64 s.num, .int .i64 s.frm, .int .i64 s.back]
def cleanS (s : Sy) : Sy :=
  if (s.kind == 1) = true then ⟨s.kind, em, em, s.name, em, em, s.text, 0, 0, 0⟩
  else if (s.kind == 3) = true then ⟨s.kind, em, em, em, em, em, em, s.num, 0, 0⟩
  else if (s.kind == 5) = true then ⟨s.kind, em, em, em, em, s.ref, em, s.num, 0, 0⟩
  else if (s.kind == 6) = true then ⟨s.kind, s.room, s.nick, em, em, em, em, 0, 0, 0⟩
  else if (s.kind == 7) = true then ⟨s.kind, s.room, em, em, em, em, em, 0, 0, 0⟩
  else if (s.kind == 8) = true then ⟨s.kind, s.room, em, em, s.id, s.ref, s.text, 0, 0, 0⟩
  else if (s.kind == 9) = true then ⟨s.kind, s.room, em, em, s.id, em, s.text, 0, 0, 0⟩
  else if (s.kind == 10) = true then ⟨s.kind, s.room, s.nick, em, s.id, em, em, s.num, 0, 0⟩
  else if (s.kind == 11) = true then ⟨s.kind, s.room, em, s.name, s.id, em, em, s.num, 0, 0⟩
  else if (s.kind == 12) = true then ⟨s.kind, s.room, em, s.name, s.id, em, em, s.num, s.frm, s.back⟩
  else ⟨s.kind, em, em, em, em, em, em, 0, 0, 0⟩
theorem l5Clean_ok (s : Sy) : AFn Tryz.prog w0 23 #[.agg s.enc.toArray] H fun v H2 => v = .agg (cleanS s).enc.toArray ∧ H2 = H := by
  refine AFn.scal rfl Tryz.func23 rfl (by kernel_rfl) ?_
  have r := Tryz.results23
  simp only [go_sem, cond, Nat.reduceAdd, Nat.reduceLeDiff, Nat.reduceEqDiff, Nat.reduceBEq, decide_true, decide_false, Int.toNat_natCast, r]
  simp only [go_sem, cond, Nat.reduceAdd, Nat.reduceLeDiff, Nat.reduceEqDiff, Nat.reduceBEq, decide_true, decide_false, Int.toNat_natCast, Sy.enc, r]
  repeat' (refine Br_intro ?_ ?_ <;> intro h <;> simp only [go_sem, cond, Nat.reduceAdd, Nat.reduceLeDiff, Nat.reduceEqDiff, Nat.reduceBEq, decide_true, decide_false, Int.toNat_natCast, h, r])
  all_goals first
    | exact ⟨by simp only [cleanS, *]; rfl, _, rfl⟩
    | (exfalso
       simp only [beq_iff_eq, beq_eq_false_iff_ne] at *
       omega)
end Go.Proofs.YtmacpgoclhgafaaGreatDoorW.FA

namespace Go.Proofs.YtmacpgoclhgafaaGreatDoorW.FA
open Go.RowKit Go.Proofs.YtmacpgoclhgafaaGreatDoorW.XM Go.Proofs Go.Proofs.YtmacpgoclhgafaaGreatDoorW.XWords
set_option maxRecDepth 100000
set_option linter.unusedSimpArgs false
set_option linter.unusedVariables false
variable (w0 : World) (H : Hp)
structure SyOk (s : Sy) : Prop where
  room : s.room.size ≤ 500
  nick : s.nick.size ≤ 500
  name : s.name.size ≤ 500
  id : s.id.size ≤ 500
  ref : s.ref.size ≤ 500
  text : s.text.size ≤ 500
  kind : -100000 ≤ s.kind ∧ s.kind ≤ 100000
  num : -100000 ≤ s.num ∧ s.num ≤ 100000
  frm : -100000 ≤ s.frm ∧ s.frm ≤ 100000
  back : -100000 ≤ s.back ∧ s.back ≤ 100000
theorem opt_if {c : Prop} [Decidable c] {v : Value} {B : Hp} {K : Value → Hp → Prop} {k : Lk K} (h : c) (h2 : K v B) : Opt (if c then some v else none) B k := by
  rw [if_pos h]; exact h2
theorem one_size (x : UInt8) : (#[x] : Array UInt8).size = 1 := rfl
theorem bone_size (x : UInt8) : (ByteArray.mk #[x]).size = 1 := rfl
theorem SyOk.mk2 {k n f b : Int} {ro ni na i re te : ByteArray} (h1 : ro.size ≤ 500) (h2 : ni.size ≤ 500) (h3 : na.size ≤ 500) (h4 : i.size ≤ 500) (h5 : re.size ≤ 500) (h6 : te.size ≤ 500) (k1 : -100000 ≤ k) (k2 : k ≤ 100000) (n1 : -100000 ≤ n) (n2 : n ≤ 100000) (f1 : -100000 ≤ f) (f2 : f ≤ 100000) (b1 : -100000 ≤ b) (b2 : b ≤ 100000) : SyOk ⟨k, ro, ni, na, i, re, te, n, f, b⟩ :=
  ⟨h1, h2, h3, h4, h5, h6, ⟨k1, k2⟩, ⟨n1, n2⟩, ⟨f1, f2⟩, ⟨b1, b2⟩⟩
theorem em_size : em.size = 0 := rfl
theorem cleanS_ok {s : Sy} (h : SyOk s) : SyOk (cleanS s) := by
  obtain ⟨h1, h2, h3, h4, h5, h6, h7, h8, h9, h10⟩ := h
  unfold cleanS
  repeat' split
  all_goals constructor <;> first | assumption | (simp only [em_size]; omega) | (constructor <;> omega)
/-- A draw of what is said. -/
def DrY (w0 : World) (f : FuncId) (c : Nat) : Prop := ∀ (D : Cd) (B : Hp) (l : List (Option Ob)) (q p : Nat), CdOk w0 D → l[q]? = some (dr D p) → p + c ≤ 700000 → AFn Tryz.prog w0 f #[.pointer (some ⟨nid B q, 0, some 2⟩)] (Hx B l) fun v H2 => ∃ p', H2 = Hx B (l.set q (dr D p')) ∧ p ≤ p' ∧ p' ≤ p + c ∧ ∃ s : Sy, SyOk s ∧ v = .agg s.enc.toArray
theorem DrY.mk' {f : FuncId} {c : Nat} (h : ∀ (D : Cd) (B : Hp) (l : List (Option Ob)) (q p : Nat), CdOk w0 D → q < l.length → (∀ X : Option Ob, (l.set q X)[q]? = some X) → p + c ≤ 700000 → AFn Tryz.prog w0 f #[.pointer (some ⟨nid B q, 0, some 2⟩)] (Hx B (l.set q (dr D p))) fun v H2 => ∃ p' g, H2 = Hx B (l.set q (dr D p') ++ g) ∧ p ≤ p' ∧ p' ≤ p + c ∧ ∃ s : Sy, SyOk s ∧ v = .agg s.enc.toArray) : DrY w0 f c := by
  intro D B l q p hD hq hp
  have hlq := lt_of_get hq
  refine AFn.dr (R := fun v p' => p ≤ p' ∧ p' ≤ p + c ∧ ∃ s : Sy, SyOk s ∧ v = .agg s.enc.toArray) hD hlq ?_
  have gs : ∀ X : Option Ob, (l.set q X)[q]? = some X := fun X => by rw [List.getElem?_set_self hlq]
  have e : Hx B l = Hx B (l.set q (dr D p)) := by conv => lhs; rw [set_same hq, List.append_nil]
  rw [e]
  refine (h D B l q p hD hlq gs hp).mono ?_
  rintro v H2 ⟨p', g, rfl, h1, h2, s, hs, rfl⟩
  exact ⟨p', g, rfl, ⟨h1, h2, s, hs, rfl⟩, fun ρ => rfl⟩
/-- A draw of what is said, with a name that is drawn. -/
def DrYN (w0 : World) (f : FuncId) (c : Nat) : Prop := ∀ (D : Cd) (B : Hp) (l : List (Option Ob)) (q p : Nat), CdOk w0 D → l[q]? = some (dr D p) → p + c ≤ 700000 → AFn Tryz.prog w0 f #[.pointer (some ⟨nid B q, 0, some 2⟩)] (Hx B l) fun v H2 => ∃ p', H2 = Hx B (l.set q (dr D p')) ∧ p ≤ p' ∧ p' ≤ p + c ∧ ∃ s : Sy, (SyOk s ∧ nmB s.name = true) ∧ v = .agg s.enc.toArray
theorem DrYN.mk' {f : FuncId} {c : Nat} (h : ∀ (D : Cd) (B : Hp) (l : List (Option Ob)) (q p : Nat), CdOk w0 D → q < l.length → (∀ X : Option Ob, (l.set q X)[q]? = some X) → p + c ≤ 700000 → AFn Tryz.prog w0 f #[.pointer (some ⟨nid B q, 0, some 2⟩)] (Hx B (l.set q (dr D p))) fun v H2 => ∃ p' g, H2 = Hx B (l.set q (dr D p') ++ g) ∧ p ≤ p' ∧ p' ≤ p + c ∧ ∃ s : Sy, (SyOk s ∧ nmB s.name = true) ∧ v = .agg s.enc.toArray) : DrYN w0 f c := by
  intro D B l q p hD hq hp
  have hlq := lt_of_get hq
  refine AFn.dr (R := fun v p' => p ≤ p' ∧ p' ≤ p + c ∧ ∃ s : Sy, (SyOk s ∧ nmB s.name = true) ∧ v = .agg s.enc.toArray) hD hlq ?_
  have gs : ∀ X : Option Ob, (l.set q X)[q]? = some X := fun X => by rw [List.getElem?_set_self hlq]
  have e : Hx B l = Hx B (l.set q (dr D p)) := by conv => lhs; rw [set_same hq, List.append_nil]
  rw [e]
  refine (h D B l q p hD hlq gs hp).mono ?_
  rintro v H2 ⟨p', g, rfl, h1, h2, s, hs, rfl⟩
  exact ⟨p', g, rfl, ⟨h1, h2, s, hs, rfl⟩, fun ρ => rfl⟩
theorem asInt (k : Nat) : ∃ z : Int, z = (k : Int) ∧ 0 ≤ z ∧ z.toNat = k := ⟨_, rfl, by omega, by omega⟩
theorem wrap1 (k : Int) (h : 0 ≤ k) (h2 : k ≤ 1000) : ∃ j : Int, -100000 ≤ j ∧ j ≤ 100000 ∧ IntKind.i64.wrap (1 + k) = j := ⟨1 + k, by omega, by omega, wrap_i64 (by omega) (by omega)⟩
theorem em_size0 : ({ data := #[] } : ByteArray).size = 0 := rfl
theorem l16Server_ok : DrY w0 51 10 := by
  refine DrY.mk' w0 ?_
  intro D B l q p hD hlq gs hp
  obtain ⟨sA, gQ, gR, gR0, sR, sR0⟩ := dset hlq
  refine AFn_of Tryz.func51 rfl (by kernel_rfl) ?_
  have r := Tryz.results51
  simp only [go_sem, cond, Nat.reduceAdd, Nat.reduceLeDiff, Nat.reduceEqDiff, Nat.reduceBEq, decide_true, decide_false, Int.toNat_natCast, r, sA, gQ, gR, gR0, sR, sR0, List.set_set, List.append_assoc, List.length_append, List.length_set]
  repeat' (first
    | (refine Br_intro ?_ ?_ <;> intro h <;> simp only [go_sem, cond, Nat.reduceAdd, Nat.reduceLeDiff, Nat.reduceEqDiff, Nat.reduceBEq, decide_true, decide_false, Int.toNat_natCast, h, r, sA, gQ, gR, gR0, sR, sR0, List.set_set, List.append_assoc, List.length_append, List.length_set])
    | (refine call (pick_ok w0 D hD B _ q _ _ (gQ _ _) (by omega)) ?_; rintro v H2 ⟨k, rfl, k1, _, rfl⟩; have k2 := k1 (by decide); clear k1; obtain ⟨kz, z1, z2, z3⟩ := asInt k; rw [← z1] at k2 ⊢; obtain ⟨j, j1, j2, k3⟩ := wrap1 kz z2 (by omega); simp only [go_sem, cond, Nat.reduceAdd, Nat.reduceLeDiff, Nat.reduceEqDiff, Nat.reduceBEq, decide_true, decide_false, Int.toNat_natCast, k3, r, sA, gQ, gR, gR0, sR, sR0, List.set_set, List.append_assoc, List.length_append, List.length_set])
    | (refine call (l16Text_ok w0 D B _ q _ hD (gQ _ _) (by omega)) ?_; rintro v H2 ⟨p1, rfl, h1, h2, s1, hs1, rfl⟩; simp only [go_sem, cond, Nat.reduceAdd, Nat.reduceLeDiff, Nat.reduceEqDiff, Nat.reduceBEq, decide_true, decide_false, Int.toNat_natCast, r, sA, gQ, gR, gR0, sR, sR0, List.set_set, List.append_assoc, List.length_append, List.length_set])
    | (refine call (l16User_ok w0 D B _ q _ hD (gQ _ _) (by omega)) ?_; rintro v H2 ⟨p1, rfl, h1, h2, s1, hs1, rfl⟩; simp only [go_sem, cond, Nat.reduceAdd, Nat.reduceLeDiff, Nat.reduceEqDiff, Nat.reduceBEq, decide_true, decide_false, Int.toNat_natCast, r, sA, gQ, gR, gR0, sR, sR0, List.set_set, List.append_assoc, List.length_append, List.length_set])
    | (refine call (l16Nick_ok w0 D B _ q _ hD (gQ _ _) (by omega)) ?_; rintro v H2 ⟨p1, rfl, h1, h2, s1, hs1, rfl⟩; simp only [go_sem, cond, Nat.reduceAdd, Nat.reduceLeDiff, Nat.reduceEqDiff, Nat.reduceBEq, decide_true, decide_false, Int.toNat_natCast, r, sA, gQ, gR, gR0, sR, sR0, List.set_set, List.append_assoc, List.length_append, List.length_set])
    | (refine call (l16Room_ok w0 D B _ q _ hD (gQ _ _) (by omega)) ?_; rintro v H2 ⟨p1, rfl, h1, h2, s1, hs1, rfl⟩; simp only [go_sem, cond, Nat.reduceAdd, Nat.reduceLeDiff, Nat.reduceEqDiff, Nat.reduceBEq, decide_true, decide_false, Int.toNat_natCast, r, sA, gQ, gR, gR0, sR, sR0, List.set_set, List.append_assoc, List.length_append, List.length_set])
    | (refine call (l16Any_ok w0 D B _ q _ hD (gQ _ _) (by omega)) ?_; rintro v H2 ⟨p1, rfl, h1, h2, s1, hs1, rfl⟩; simp only [go_sem, cond, Nat.reduceAdd, Nat.reduceLeDiff, Nat.reduceEqDiff, Nat.reduceBEq, decide_true, decide_false, Int.toNat_natCast, r, sA, gQ, gR, gR0, sR, sR0, List.set_set, List.append_assoc, List.length_append, List.length_set])
    | (refine call (of_ok w0 D hD B _ q _ _ _ _ _ (gQ _ _) (by omega) (by first | exact gR _ _ _ | exact gR0 _ _ | (rw [gR]; rfl)) rfl rfl (by decide) (by decide) (by first | decide | (simp only [List.all_cons, List.all_nil, isS, Bool.and_true, Bool.and_eq_true, decide_eq_true_eq, em_size0]; omega))) ?_; rintro v H2 ⟨s1, hs1, rfl, rfl⟩; simp only [go_sem, cond, Nat.reduceAdd, Nat.reduceLeDiff, Nat.reduceEqDiff, Nat.reduceBEq, decide_true, decide_false, Int.toNat_natCast, r, sA, gQ, gR, gR0, sR, sR0, List.set_set, List.append_assoc, List.length_append, List.length_set])
    | (refine call (one_ok w0 D hD B _ q _ _ _ _ _ (gQ _ _) (by omega) (by first | exact gR _ _ _ | exact gR0 _ _ | (rw [gR]; rfl)) rfl rfl (by decide) (by decide) (by decide)) ?_; rintro v H2 ⟨s1, hs1, hs2, -, rfl, rfl⟩; simp only [go_sem, cond, Nat.reduceAdd, Nat.reduceLeDiff, Nat.reduceEqDiff, Nat.reduceBEq, decide_true, decide_false, Int.toNat_natCast, r, sA, gQ, gR, gR0, sR, sR0, List.set_set, List.append_assoc, List.length_append, List.length_set])
    | (refine bsV_dense ⟨_, XF.zer_9, rfl⟩ rfl rfl (by decide) rfl ?_; simp only [go_sem, cond, Nat.reduceAdd, Nat.reduceLeDiff, Nat.reduceEqDiff, Nat.reduceBEq, decide_true, decide_false, Int.toNat_natCast, r, sA, gQ, gR, gR0, sR, sR0, List.set_set, List.append_assoc, List.length_append, List.length_set])
    | (refine bsV_dense ⟨_, XF.zer_3, rfl⟩ rfl rfl (by decide) rfl ?_; simp only [go_sem, cond, Nat.reduceAdd, Nat.reduceLeDiff, Nat.reduceEqDiff, Nat.reduceBEq, decide_true, decide_false, Int.toNat_natCast, r, sA, gQ, gR, gR0, sR, sR0, List.set_set, List.append_assoc, List.length_append, List.length_set])
    | (refine opt_if (by simp only [ByteArray.size_append, one_size]; omega) ?_; simp only [go_sem, cond, Nat.reduceAdd, Nat.reduceLeDiff, Nat.reduceEqDiff, Nat.reduceBEq, decide_true, decide_false, Int.toNat_natCast, r, sA, gQ, gR, gR0, sR, sR0, List.set_set, List.append_assoc, List.length_append, List.length_set])
)
  all_goals refine ⟨_, _, rfl, by omega, by omega, ⟨_, _, _, _, _, _, _, _, _, _⟩, ?_, rfl⟩
  all_goals apply SyOk.mk2
  all_goals first | omega | (simp only [em_size, em_size0, ByteArray.size_append, bone_size]; omega) | assumption | decide
theorem l5Clean_ok' {s : Sy} (h : SyOk s) : AFn Tryz.prog w0 23 #[.agg s.enc.toArray] H fun v H2 => ∃ c : Sy, SyOk c ∧ v = .agg c.enc.toArray ∧ H2 = H :=
  (l5Clean_ok w0 H s).mono fun v H2 ⟨a, b⟩ => ⟨_, cleanS_ok h, a, b⟩
theorem nm_em : nmB em = true := by decide
theorem cleanS_nm {s : Sy} (h : nmB s.name = true) : nmB (cleanS s).name = true := by
  unfold cleanS
  repeat' split
  all_goals first | exact h | exact nm_em
theorem l5Clean_nm {s : Sy} (h : SyOk s) (h2 : nmB s.name = true) : AFn Tryz.prog w0 23 #[.agg s.enc.toArray] H fun v H2 => ∃ c : Sy, SyOk c ∧ nmB c.name = true ∧ v = .agg c.enc.toArray ∧ H2 = H :=
  (l5Clean_ok w0 H s).mono fun v H2 ⟨a, b⟩ => ⟨_, cleanS_ok h, cleanS_nm h2, a, b⟩
theorem l16Say_nm : DrYN w0 45 60 := by
  refine DrYN.mk' w0 ?_
  intro D B l q p hD hlq gs hp
  obtain ⟨sA, gQ, gR, gR0, sR, sR0⟩ := dset hlq
  refine AFn_of Tryz.func45 rfl (by kernel_rfl) ?_
  have r := Tryz.results45
  simp only [go_sem, cond, Nat.reduceAdd, Nat.reduceLeDiff, Nat.reduceEqDiff, Nat.reduceBEq, decide_true, decide_false, Int.toNat_natCast, r, sA, gQ, gR, gR0, sR, sR0, List.set_set, List.append_assoc, List.length_append, List.length_set]
  repeat' (first
    | (refine Br_intro ?_ ?_ <;> intro h <;> simp only [go_sem, cond, Nat.reduceAdd, Nat.reduceLeDiff, Nat.reduceEqDiff, Nat.reduceBEq, decide_true, decide_false, Int.toNat_natCast, h, r, sA, gQ, gR, gR0, sR, sR0, List.set_set, List.append_assoc, List.length_append, List.length_set])
    | (refine call (pick_ok w0 D hD B _ q _ _ (gQ _ _) (by omega)) ?_; rintro v H2 ⟨k, rfl, k1, _, rfl⟩; have k2 := k1 (by decide); clear k1; obtain ⟨kz, z1, z2, z3⟩ := asInt k; rw [← z1] at k2 ⊢; obtain ⟨j, j1, j2, k3⟩ := wrap1 kz z2 (by omega); simp only [go_sem, cond, Nat.reduceAdd, Nat.reduceLeDiff, Nat.reduceEqDiff, Nat.reduceBEq, decide_true, decide_false, Int.toNat_natCast, k3, r, sA, gQ, gR, gR0, sR, sR0, List.set_set, List.append_assoc, List.length_append, List.length_set])
    | (refine call (l16Text_ok w0 D B _ q _ hD (gQ _ _) (by omega)) ?_; rintro v H2 ⟨p1, rfl, h1, h2, s1, hs1, rfl⟩; simp only [go_sem, cond, Nat.reduceAdd, Nat.reduceLeDiff, Nat.reduceEqDiff, Nat.reduceBEq, decide_true, decide_false, Int.toNat_natCast, r, sA, gQ, gR, gR0, sR, sR0, List.set_set, List.append_assoc, List.length_append, List.length_set])
    | (refine call (l16User_nm w0 D B _ q _ hD (gQ _ _) (by omega)) ?_; rintro v H2 ⟨p1, rfl, h1, h2, s1, ⟨hs1, hn1⟩, rfl⟩; simp only [go_sem, cond, Nat.reduceAdd, Nat.reduceLeDiff, Nat.reduceEqDiff, Nat.reduceBEq, decide_true, decide_false, Int.toNat_natCast, r, sA, gQ, gR, gR0, sR, sR0, List.set_set, List.append_assoc, List.length_append, List.length_set])
    | (refine call (l16Nick_ok w0 D B _ q _ hD (gQ _ _) (by omega)) ?_; rintro v H2 ⟨p1, rfl, h1, h2, s1, hs1, rfl⟩; simp only [go_sem, cond, Nat.reduceAdd, Nat.reduceLeDiff, Nat.reduceEqDiff, Nat.reduceBEq, decide_true, decide_false, Int.toNat_natCast, r, sA, gQ, gR, gR0, sR, sR0, List.set_set, List.append_assoc, List.length_append, List.length_set])
    | (refine call (l16Room_ok w0 D B _ q _ hD (gQ _ _) (by omega)) ?_; rintro v H2 ⟨p1, rfl, h1, h2, s1, hs1, rfl⟩; simp only [go_sem, cond, Nat.reduceAdd, Nat.reduceLeDiff, Nat.reduceEqDiff, Nat.reduceBEq, decide_true, decide_false, Int.toNat_natCast, r, sA, gQ, gR, gR0, sR, sR0, List.set_set, List.append_assoc, List.length_append, List.length_set])
    | (refine call (l16Any_ok w0 D B _ q _ hD (gQ _ _) (by omega)) ?_; rintro v H2 ⟨p1, rfl, h1, h2, s1, hs1, rfl⟩; simp only [go_sem, cond, Nat.reduceAdd, Nat.reduceLeDiff, Nat.reduceEqDiff, Nat.reduceBEq, decide_true, decide_false, Int.toNat_natCast, r, sA, gQ, gR, gR0, sR, sR0, List.set_set, List.append_assoc, List.length_append, List.length_set])
    | (refine call (of_okP w0 nmS D hD B _ q _ _ _ _ _ (gQ _ _) (by omega) (by first | exact gR _ _ _ | exact gR0 _ _ | (rw [gR]; rfl)) rfl rfl (by decide) (by decide) (by first | decide | (simp only [List.all_cons, List.all_nil, isSP, nmS, Bool.and_true, Bool.and_eq_true, decide_eq_true_eq]; exact ⟨⟨by decide, by decide⟩, ⟨by decide, by decide⟩, by omega, by assumption⟩))) ?_; rintro v H2 ⟨s1, hs0, rfl, rfl⟩; obtain ⟨hs1, hn1⟩ := nmS_spec hs0; simp only [go_sem, cond, Nat.reduceAdd, Nat.reduceLeDiff, Nat.reduceEqDiff, Nat.reduceBEq, decide_true, decide_false, Int.toNat_natCast, r, sA, gQ, gR, gR0, sR, sR0, List.set_set, List.append_assoc, List.length_append, List.length_set])
    | (refine call (of_ok w0 D hD B _ q _ _ _ _ _ (gQ _ _) (by omega) (by first | exact gR _ _ _ | exact gR0 _ _ | (rw [gR]; rfl)) rfl rfl (by decide) (by decide) (by first | decide | (simp only [List.all_cons, List.all_nil, isS, Bool.and_true, Bool.and_eq_true, decide_eq_true_eq, em_size0]; omega))) ?_; rintro v H2 ⟨s1, hs1, rfl, rfl⟩; simp only [go_sem, cond, Nat.reduceAdd, Nat.reduceLeDiff, Nat.reduceEqDiff, Nat.reduceBEq, decide_true, decide_false, Int.toNat_natCast, r, sA, gQ, gR, gR0, sR, sR0, List.set_set, List.append_assoc, List.length_append, List.length_set])
    | (refine call (one_ok w0 D hD B _ q _ _ _ _ _ (gQ _ _) (by omega) (by first | exact gR _ _ _ | exact gR0 _ _ | (rw [gR]; rfl)) rfl rfl (by decide) (by decide) (by decide)) ?_; rintro v H2 ⟨s1, hs1, hs2, -, rfl, rfl⟩; simp only [go_sem, cond, Nat.reduceAdd, Nat.reduceLeDiff, Nat.reduceEqDiff, Nat.reduceBEq, decide_true, decide_false, Int.toNat_natCast, r, sA, gQ, gR, gR0, sR, sR0, List.set_set, List.append_assoc, List.length_append, List.length_set])
    | (refine bsV_dense ⟨_, XF.zer_9, rfl⟩ rfl rfl (by decide) rfl ?_; simp only [go_sem, cond, Nat.reduceAdd, Nat.reduceLeDiff, Nat.reduceEqDiff, Nat.reduceBEq, decide_true, decide_false, Int.toNat_natCast, r, sA, gQ, gR, gR0, sR, sR0, List.set_set, List.append_assoc, List.length_append, List.length_set])
    | (refine bsV_dense ⟨_, XF.zer_3, rfl⟩ rfl rfl (by decide) rfl ?_; simp only [go_sem, cond, Nat.reduceAdd, Nat.reduceLeDiff, Nat.reduceEqDiff, Nat.reduceBEq, decide_true, decide_false, Int.toNat_natCast, r, sA, gQ, gR, gR0, sR, sR0, List.set_set, List.append_assoc, List.length_append, List.length_set])
    | (refine opt_if (by simp only [ByteArray.size_append, one_size]; omega) ?_; simp only [go_sem, cond, Nat.reduceAdd, Nat.reduceLeDiff, Nat.reduceEqDiff, Nat.reduceBEq, decide_true, decide_false, Int.toNat_natCast, r, sA, gQ, gR, gR0, sR, sR0, List.set_set, List.append_assoc, List.length_append, List.length_set])
    | (refine call (l5Clean_nm w0 _ (s := ⟨_, _, _, _, _, _, _, _, _, _⟩) ?_ ?_) ?_; (apply SyOk.mk2 <;> first | omega | (simp only [em_size, em_size0, ByteArray.size_append, bone_size]; omega) | assumption | decide); (first | assumption | decide); rintro v H2 ⟨cl, hcl, hcn, rfl, rfl⟩; simp only [go_sem, cond, Nat.reduceAdd, Nat.reduceLeDiff, Nat.reduceEqDiff, Nat.reduceBEq, decide_true, decide_false, Int.toNat_natCast, Sy.enc, r, sA, gQ, gR, gR0, sR, sR0, List.set_set, List.append_assoc, List.length_append, List.length_set])
)
  all_goals refine ⟨_, _, rfl, by omega, by omega, _, ⟨by assumption, by assumption⟩, rfl⟩
theorem l16Say_ok : DrY w0 45 60 := by
  intro D B l q p hD hq hp
  refine (l16Say_nm w0 D B l q p hD hq hp).mono ?_
  rintro v H2 ⟨p', a, b, c, s, ⟨d, -⟩, e⟩
  exact ⟨p', a, b, c, s, d, e⟩
theorem l16AnySay_ok : DrY w0 22 80 := by
  refine DrY.mk' w0 ?_
  intro D B l q p hD hlq gs hp
  obtain ⟨sA, gQ, gR, gR0, sR, sR0⟩ := dset hlq
  refine AFn_of Tryz.func22 rfl (by kernel_rfl) ?_
  have r := Tryz.results22
  simp only [go_sem, cond, Nat.reduceAdd, Nat.reduceLeDiff, Nat.reduceEqDiff, Nat.reduceBEq, decide_true, decide_false, Int.toNat_natCast, r, sA, gQ, gR, gR0, sR, sR0, List.set_set, List.append_assoc, List.length_append, List.length_set]
  repeat' (first
    | (refine Br_intro ?_ ?_ <;> intro h <;> simp only [go_sem, cond, Nat.reduceAdd, Nat.reduceLeDiff, Nat.reduceEqDiff, Nat.reduceBEq, decide_true, decide_false, Int.toNat_natCast, h, r, sA, gQ, gR, gR0, sR, sR0, List.set_set, List.append_assoc, List.length_append, List.length_set])
    | (refine call (pick_ok w0 D hD B _ q _ _ (gQ _ _) (by omega)) ?_; rintro v H2 ⟨k, rfl, k1, _, rfl⟩; have k2 := k1 (by decide); clear k1; obtain ⟨kz, z1, z2, z3⟩ := asInt k; rw [← z1] at k2 ⊢; obtain ⟨j, j1, j2, k3⟩ := wrap1 kz z2 (by omega); simp only [go_sem, cond, Nat.reduceAdd, Nat.reduceLeDiff, Nat.reduceEqDiff, Nat.reduceBEq, decide_true, decide_false, Int.toNat_natCast, k3, r, sA, gQ, gR, gR0, sR, sR0, List.set_set, List.append_assoc, List.length_append, List.length_set])
    | (refine call (l16Text_ok w0 D B _ q _ hD (gQ _ _) (by omega)) ?_; rintro v H2 ⟨p1, rfl, h1, h2, s1, hs1, rfl⟩; simp only [go_sem, cond, Nat.reduceAdd, Nat.reduceLeDiff, Nat.reduceEqDiff, Nat.reduceBEq, decide_true, decide_false, Int.toNat_natCast, r, sA, gQ, gR, gR0, sR, sR0, List.set_set, List.append_assoc, List.length_append, List.length_set])
    | (refine call (l16User_ok w0 D B _ q _ hD (gQ _ _) (by omega)) ?_; rintro v H2 ⟨p1, rfl, h1, h2, s1, hs1, rfl⟩; simp only [go_sem, cond, Nat.reduceAdd, Nat.reduceLeDiff, Nat.reduceEqDiff, Nat.reduceBEq, decide_true, decide_false, Int.toNat_natCast, r, sA, gQ, gR, gR0, sR, sR0, List.set_set, List.append_assoc, List.length_append, List.length_set])
    | (refine call (l16Nick_ok w0 D B _ q _ hD (gQ _ _) (by omega)) ?_; rintro v H2 ⟨p1, rfl, h1, h2, s1, hs1, rfl⟩; simp only [go_sem, cond, Nat.reduceAdd, Nat.reduceLeDiff, Nat.reduceEqDiff, Nat.reduceBEq, decide_true, decide_false, Int.toNat_natCast, r, sA, gQ, gR, gR0, sR, sR0, List.set_set, List.append_assoc, List.length_append, List.length_set])
    | (refine call (l16Room_ok w0 D B _ q _ hD (gQ _ _) (by omega)) ?_; rintro v H2 ⟨p1, rfl, h1, h2, s1, hs1, rfl⟩; simp only [go_sem, cond, Nat.reduceAdd, Nat.reduceLeDiff, Nat.reduceEqDiff, Nat.reduceBEq, decide_true, decide_false, Int.toNat_natCast, r, sA, gQ, gR, gR0, sR, sR0, List.set_set, List.append_assoc, List.length_append, List.length_set])
    | (refine call (l16Any_ok w0 D B _ q _ hD (gQ _ _) (by omega)) ?_; rintro v H2 ⟨p1, rfl, h1, h2, s1, hs1, rfl⟩; simp only [go_sem, cond, Nat.reduceAdd, Nat.reduceLeDiff, Nat.reduceEqDiff, Nat.reduceBEq, decide_true, decide_false, Int.toNat_natCast, r, sA, gQ, gR, gR0, sR, sR0, List.set_set, List.append_assoc, List.length_append, List.length_set])
    | (refine call (of_ok w0 D hD B _ q _ _ _ _ _ (gQ _ _) (by omega) (by first | exact gR _ _ _ | exact gR0 _ _ | (rw [gR]; rfl)) rfl rfl (by decide) (by decide) (by first | decide | (simp only [List.all_cons, List.all_nil, isS, Bool.and_true, Bool.and_eq_true, decide_eq_true_eq, em_size0]; omega))) ?_; rintro v H2 ⟨s1, hs1, rfl, rfl⟩; simp only [go_sem, cond, Nat.reduceAdd, Nat.reduceLeDiff, Nat.reduceEqDiff, Nat.reduceBEq, decide_true, decide_false, Int.toNat_natCast, r, sA, gQ, gR, gR0, sR, sR0, List.set_set, List.append_assoc, List.length_append, List.length_set])
    | (refine call (one_ok w0 D hD B _ q _ _ _ _ _ (gQ _ _) (by omega) (by first | exact gR _ _ _ | exact gR0 _ _ | (rw [gR]; rfl)) rfl rfl (by decide) (by decide) (by decide)) ?_; rintro v H2 ⟨s1, hs1, hs2, -, rfl, rfl⟩; simp only [go_sem, cond, Nat.reduceAdd, Nat.reduceLeDiff, Nat.reduceEqDiff, Nat.reduceBEq, decide_true, decide_false, Int.toNat_natCast, r, sA, gQ, gR, gR0, sR, sR0, List.set_set, List.append_assoc, List.length_append, List.length_set])
    | (refine bsV_dense ⟨_, XF.zer_9, rfl⟩ rfl rfl (by decide) rfl ?_; simp only [go_sem, cond, Nat.reduceAdd, Nat.reduceLeDiff, Nat.reduceEqDiff, Nat.reduceBEq, decide_true, decide_false, Int.toNat_natCast, r, sA, gQ, gR, gR0, sR, sR0, List.set_set, List.append_assoc, List.length_append, List.length_set])
    | (refine bsV_dense ⟨_, XF.zer_3, rfl⟩ rfl rfl (by decide) rfl ?_; simp only [go_sem, cond, Nat.reduceAdd, Nat.reduceLeDiff, Nat.reduceEqDiff, Nat.reduceBEq, decide_true, decide_false, Int.toNat_natCast, r, sA, gQ, gR, gR0, sR, sR0, List.set_set, List.append_assoc, List.length_append, List.length_set])
    | (refine opt_if (by simp only [ByteArray.size_append, one_size]; omega) ?_; simp only [go_sem, cond, Nat.reduceAdd, Nat.reduceLeDiff, Nat.reduceEqDiff, Nat.reduceBEq, decide_true, decide_false, Int.toNat_natCast, r, sA, gQ, gR, gR0, sR, sR0, List.set_set, List.append_assoc, List.length_append, List.length_set])
    | (refine call (l16Say_ok w0 D B _ q _ hD (gQ _ _) (by omega)) ?_; rintro v H2 ⟨p1, rfl, h1, h2, ⟨y1, y2, y3, y4, y5, y6, y7, y8, y9, y10⟩, ⟨a1, a2, a3, a4, a5, a6, ⟨a7, a8⟩, ⟨a9, a10⟩, ⟨a11, a12⟩, ⟨a13, a14⟩⟩, rfl⟩; dsimp only at a1 a2 a3 a4 a5 a6 a7 a8 a9 a10 a11 a12 a13 a14; simp only [go_sem, cond, Nat.reduceAdd, Nat.reduceLeDiff, Nat.reduceEqDiff, Nat.reduceBEq, decide_true, decide_false, Int.toNat_natCast, Sy.enc, r, sA, gQ, gR, gR0, sR, sR0, List.set_set, List.append_assoc, List.length_append, List.length_set])
    | (refine call (l16Server_ok w0 D B _ q _ hD (gQ _ _) (by omega)) ?_; rintro v H2 ⟨p1, rfl, h1, h2, ⟨y1, y2, y3, y4, y5, y6, y7, y8, y9, y10⟩, ⟨a1, a2, a3, a4, a5, a6, ⟨a7, a8⟩, ⟨a9, a10⟩, ⟨a11, a12⟩, ⟨a13, a14⟩⟩, rfl⟩; dsimp only at a1 a2 a3 a4 a5 a6 a7 a8 a9 a10 a11 a12 a13 a14; simp only [go_sem, cond, Nat.reduceAdd, Nat.reduceLeDiff, Nat.reduceEqDiff, Nat.reduceBEq, decide_true, decide_false, Int.toNat_natCast, Sy.enc, r, sA, gQ, gR, gR0, sR, sR0, List.set_set, List.append_assoc, List.length_append, List.length_set])
)
  all_goals refine ⟨_, _, rfl, by omega, by omega, ⟨_, _, _, _, _, _, _, _, _, _⟩, ?_, rfl⟩
  all_goals apply SyOk.mk2
  all_goals first | omega | (simp only [em_size, em_size0, ByteArray.size_append, bone_size]; omega) | assumption | decide
end Go.Proofs.YtmacpgoclhgafaaGreatDoorW.FA

namespace Go.Proofs.YtmacpgoclhgafaaGreatDoorW.FA
open Go.RowKit Go.Proofs.YtmacpgoclhgafaaGreatDoorW.XM Go.Proofs Go.Proofs.YtmacpgoclhgafaaGreatDoorW.XWords
set_option maxRecDepth 100000
set_option linter.unusedSimpArgs false
set_option linter.unusedVariables false
variable (w0 : World) (H : Hp)
def byRank (k : Int) : Int := if 3 ≤ k then 3 else 2
theorem l6ByRank_ok (k : Int) : AFn Tryz.prog w0 92 #[.int .i64 k] H fun v H2 => v = .int .i64 (byRank k) ∧ H2 = H := by
  refine AFn.scal rfl Tryz.func92 rfl (by kernel_rfl) ?_
  have r := Tryz.results92
  simp only [go_sem, cond, Nat.reduceAdd, Nat.reduceLeDiff, Nat.reduceEqDiff, Nat.reduceBEq, decide_true, decide_false, Int.toNat_natCast, r]
  refine Br_intro ?_ ?_ <;> intro h <;> simp only [go_sem, cond, Nat.reduceAdd, Nat.reduceLeDiff, Nat.reduceEqDiff, Nat.reduceBEq, decide_true, decide_false, Int.toNat_natCast, h, r]
  · have h : (3 : Int) ≤ k := of_decide_eq_true h
    exact ⟨by rw [byRank, if_pos h], _, rfl⟩
  · have h : ¬ (3 : Int) ≤ k := of_decide_eq_false h
    exact ⟨by rw [byRank, if_neg h], _, rfl⟩
/-- The nick of a member, where there is one. -/
def nickU (R : Rm) (u : ByteArray) : ByteArray := ((R.ms.find? (isU u)).map Mem.nick).getD em
def entR (R : Rm) (k : Int) (u : ByteArray) : En := ⟨R.name, R.next, k, u, if (k == 6) = true then em else nickU R u, em, em, em, 0⟩
theorem l6Entry_ok (R : Rm) (x : Ad) (k : Int) (u : ByteArray) (hr : RmAt w0 H R x) : AFn Tryz.prog w0 93 #[.agg (R.enc x).toArray, .int .i64 k, .string u] H fun v H2 => v = .agg (entR R k u).enc.toArray ∧ H2 = H := by
  have hl := hr.lm
  refine AFn.scal rfl Tryz.func93 rfl (by kernel_rfl) ?_
  have r := Tryz.results93
  simp only [go_sem, cond, Nat.reduceAdd, Nat.reduceLeDiff, Nat.reduceEqDiff, Nat.reduceBEq, decide_true, decide_false, Int.toNat_natCast, r]
  simp only [go_sem, cond, Nat.reduceAdd, Nat.reduceLeDiff, Nat.reduceEqDiff, Nat.reduceBEq, decide_true, decide_false, Int.toNat_natCast, Rm.enc, r]
  refine call_eq (l6Of_ok _ _ R x u (hr.old _)) ?_
  rcases idxP_find (isU u) R.ms 0 with ⟨f1, f2⟩ | ⟨j, hj, f1, f2⟩
  · rw [f1]
    have d1 : ((0 : Int) ≤ (-1 : Int)) = False := eq_false (by omega)
    simp only [go_sem, cond, Nat.reduceAdd, Nat.reduceLeDiff, Nat.reduceEqDiff, Nat.reduceBEq, decide_true, decide_false, Int.toNat_natCast, Rm.enc, r, d1]
    exact ⟨by
      have e : (if (k == 6) = true then em else nickU R u) = em := by
        rw [nickU, f2]; split <;> rfl
      rw [entR, e]; rfl, _, rfl⟩
  · rw [f1, Nat.zero_add]
    obtain ⟨b, o, sp, hx, hc, _⟩ := mcell hr.sm hj
    have d1 : ((0 : Int) ≤ (j : Int)) = True := eq_true (by omega)
    have d2 : ((j : Int) < (R.ms.length : Int)) = True := eq_true (by omega)
    have c0 := fun L => hc 1 (.string R.ms[j].nick) L (by decide) rfl
    simp only [go_sem, cond, Nat.reduceAdd, Nat.reduceLeDiff, Nat.reduceEqDiff, Nat.reduceBEq, decide_true, decide_false, Int.toNat_natCast, Rm.enc, r, d1, d2, hx, c0]
    refine Br_intro ?_ ?_ <;> intro h <;> simp only [go_sem, cond, Nat.reduceAdd, Nat.reduceLeDiff, Nat.reduceEqDiff, Nat.reduceBEq, decide_true, decide_false, Int.toNat_natCast, Rm.enc, r, d1, d2, hx, c0, h]
    · exact ⟨by rw [entR, if_pos h]; rfl, _, rfl⟩
    · exact ⟨by rw [entR, if_neg (by rw [h]; decide), nickU, f2]; rfl, _, rfl⟩
/-- An entry of a log that was said so. -/
def saidP (room user id : ByteArray) (e : En) : Bool := (e.room.toList == room.toList) && (e.kind == 3) && (e.user.toList == user.toList) && (e.id.toList == id.toList) && (e.ref.toList == em.toList)
theorem any_drop {α : Type} (p : α → Bool) (l : List α) (i : Nat) (hi : i < l.length) : (l.drop i).any p = (p l[i] || (l.drop (i + 1)).any p) := by
  rw [List.drop_eq_getElem_cons hi, List.any_cons]
theorem l6Said_ok (es : List En) (A : Option Addr) (c : Nat) (ro us id : ByteArray) (hs : Sl w0 H A 9 (es.map En.enc)) (hl : es.length ≤ 2000000) : AFn Tryz.prog w0 94 #[.slice A es.length c, .string ro, .string us, .string id] H fun v H2 => v = .bool (es.any (saidP ro us id)) ∧ H2 = H := by
  refine AFn.scal rfl Tryz.func94 rfl (by kernel_rfl) ?_
  have r := Tryz.results94
  simp only [go_sem, cond, Nat.reduceAdd, Nat.reduceLeDiff, Nat.reduceEqDiff, Nat.reduceBEq, decide_true, decide_false, Int.toNat_natCast, r]
  refine xw_loop (fun (i : Nat) T H' => i ≤ es.length ∧ (es.drop i).any (saidP ro us id) = es.any (saidP ro us id) ∧ T 0 = .slice A es.length c ∧ T 1 = .string ro ∧ T 2 = .string us ∧ T 3 = .string id ∧ T 9 = .int .i64 i ∧ ∃ l, H' = Hx H l) (fun i => es.length - i) 0 (by kernel_rfl) ⟨Nat.zero_le _, rfl, rfl, rfl, rfl, rfl, rfl, [], rfl⟩ ?_
  rintro i T H' ⟨hi, he, t0, t1, t2, t3, t9, l, rfl⟩
  rw [← Hx_nil (Hx H l)]
  have hs' := hs.old l
  obtain ⟨B, hB⟩ : ∃ B, B = Hx H l := ⟨_, rfl⟩
  rw [← hB] at hs' ⊢
  by_cases hlt : i < es.length
  · obtain ⟨b, o, sp, hx, hc, hw⟩ := mcell hs' hlt
    have c0 := fun L => hw L rfl
    have d1 : ((i : Int) < (es.length : Int)) = True := eq_true (by omega)
    have d2 : (0 ≤ (i : Int)) = True := eq_true (by omega)
    rw [any_drop _ _ i hlt] at he
    simp only [go_sem, cond, Nat.reduceAdd, Nat.reduceLeDiff, Nat.reduceEqDiff, Nat.reduceBEq, decide_true, decide_false, Int.toNat_natCast, En.enc, hx, t0, t1, t2, t3, t9, d1, d2, c0]
    repeat' (refine Br_intro ?_ ?_ <;> intro h <;> simp only [go_sem, cond, Nat.reduceAdd, Nat.reduceLeDiff, Nat.reduceEqDiff, Nat.reduceBEq, decide_true, decide_false, Int.toNat_natCast, En.enc, hx, t0, t1, t2, t3, t9, d1, d2, h, r])
    all_goals first
      | (have hp : saidP ro us id es[i] = true := by simp only [saidP, *]; rfl
         rw [hp, Bool.true_or] at he
         exact ⟨by rw [he], _, by rw [hB, Hx_Hx]⟩)
      | (have hp : saidP ro us id es[i] = false := by simp only [saidP, *, Bool.false_and, Bool.and_false]
         rw [hp, Bool.false_or] at he
         exact ⟨i + 1, ⟨hlt, he, t0.trans (by rw [hx]), t1, t2, t3, int_succ hlt (by omega), _, by rw [hB, Hx_Hx]⟩, lt_meas hlt⟩)

  · obtain rfl : i = es.length := by omega
    have d1 : ((es.length : Int) < (es.length : Int)) = False := eq_false (by omega)
    rw [List.drop_length] at he
    simp only [go_sem, cond, Nat.reduceAdd, Nat.reduceLeDiff, Nat.reduceEqDiff, Nat.reduceBEq, decide_true, decide_false, Int.toNat_natCast, t0, t9, d1, r]
    exact ⟨by rw [← he]; rfl, _, by rw [hB, Hx_Hx]⟩
end Go.Proofs.YtmacpgoclhgafaaGreatDoorW.FA

namespace Go.Proofs.YtmacpgoclhgafaaGreatDoorW.FA
open Go.RowKit Go.Proofs.YtmacpgoclhgafaaGreatDoorW.XM Go.Proofs Go.Proofs.YtmacpgoclhgafaaGreatDoorW.XWords
set_option maxRecDepth 100000
set_option linter.unusedSimpArgs false
set_option linter.unusedVariables false
variable (w0 : World) (H : Hp)
/-- What a deed answers: its entries, and a code. -/
def esV (H : Hp) : List En → Value
  | [] => .slice none 0 0
  | e :: t => .slice (some ⟨nid H 0, 0, some ((e :: t).length * 9)⟩) (e :: t).length (e :: t).length
def esO : List En → List (Option Ob)
  | [] => []
  | e :: t => [some (.row 38 (flat En.enc (e :: t)))]
def deedV (H : Hp) (r : List En × Int) : Value := .tuple #[esV H r.1, .int .i64 r.2]
theorem deed_end {l : List (Option Ob)} {j n m : Nat} {es : List En} {k : Int} {r : List En × Int} (hr : r = (es, k)) (hne : es ≠ []) (hn : n = es.length) (hm : m = es.length * 9) (hj : l[j]? = some (some (.row 38 (flat En.enc es)))) : ∃ l' sel v3, Hx H l = Hx H l' ∧ (∀ i ∈ sel, PlainOb ((l'[i]?).join)) ∧ sel.Nodup ∧ ren3 (rho H sel) (.tuple #[.slice (some ⟨nid H j, 0, some m⟩) n n, .int .i64 k]) = some v3 ∧ v3 = deedV H r ∧ Hx H (pick l' sel) = Hx H (esO r.1) := by
  subst hr hn hm
  obtain ⟨e, t, rfl⟩ : ∃ e t, es = e :: t := by
    cases es with
    | nil => exact absurd rfl hne
    | cons e t => exact ⟨e, t, rfl⟩
  refine ⟨l, [j], _, rfl, ?_, by simp, by simp [ren3, ren2, renL, ren1, rho_nid, idx_hit, plain]; rfl, rfl, by simp [pick, hj, esO]⟩
  intro i hi
  simp only [List.mem_singleton] at hi
  subst hi
  rw [hj]
  exact flat_plain (fun _ => rfl) (e :: t)
def joinR (R : Rm) (u n : ByteArray) : List En × Int :=
  if (rankB R.ks u == 0) = true then ([], 6)
  else if 0 ≤ idxP (isU u) R.ms 0 then ([], 3)
  else if 0 ≤ idxP (isN n) R.ms 0 then ([], 4)
  else if 5 ≤ (R.ms.length : Int) then ([], 5)
  else if (R.next == 0) = true then ([⟨R.name, 0, 6, u, em, em, em, em, 4⟩, ⟨R.name, IntKind.i64.wrap (R.next + ((1 : Nat) : Int)), 1, u, n, em, em, em, byRank 4⟩], 0)
  else ([⟨R.name, IntKind.i64.wrap (R.next + ((0 : Nat) : Int)), 1, u, n, em, em, em, byRank (rankB R.ks u)⟩], 0)
set_option maxHeartbeats 20000000 in
theorem l6Join_ok (R : Rm) (x : Ad) (u n : ByteArray) (hr : RmAt w0 H R x) : AFn Tryz.prog w0 67 #[.agg (R.enc x).toArray, .string u, .string n] H fun v H2 => v = deedV H (joinR R u n) ∧ H2 = Hx H (esO (joinR R u n).1) := by
  have hl := hr.lm
  refine AFn.news Tryz.func67 rfl (by kernel_rfl) ?_
  have r := Tryz.results67
  simp only [go_sem, cond, Nat.reduceAdd, Nat.reduceLeDiff, Nat.reduceEqDiff, Nat.reduceBEq, decide_true, decide_false, Int.toNat_natCast, r]
  simp only [go_sem, cond, Nat.reduceAdd, Nat.reduceLeDiff, Nat.reduceEqDiff, Nat.reduceBEq, decide_true, decide_false, Int.toNat_natCast, Rm.enc, r]
  refine call_eq (l6Rank_ok _ _ R x u (hr.old _)) ?_
  simp only [go_sem, cond, Nat.reduceAdd, Nat.reduceLeDiff, Nat.reduceEqDiff, Nat.reduceBEq, decide_true, decide_false, Int.toNat_natCast, Rm.enc, r]
  refine Br_intro ?_ ?_ <;> intro h1 <;> simp only [go_sem, cond, Nat.reduceAdd, Nat.reduceLeDiff, Nat.reduceEqDiff, Nat.reduceBEq, decide_true, decide_false, Int.toNat_natCast, Rm.enc, r, h1]
  · have e : joinR R u n = ([], 6) := by rw [joinR, if_pos h1]
    rw [e]
    exact ⟨_, [], _, rfl, by simp, List.nodup_nil, rfl, rfl, rfl⟩
  refine call_eq (l6Of_ok _ _ R x u (hr.old _)) ?_
  simp only [go_sem, cond, Nat.reduceAdd, Nat.reduceLeDiff, Nat.reduceEqDiff, Nat.reduceBEq, decide_true, decide_false, Int.toNat_natCast, Rm.enc, r, h1]
  refine Br_intro ?_ ?_ <;> intro h2 <;> simp only [go_sem, cond, Nat.reduceAdd, Nat.reduceLeDiff, Nat.reduceEqDiff, Nat.reduceBEq, decide_true, decide_false, Int.toNat_natCast, Rm.enc, r, h1, h2]
  · have e : joinR R u n = ([], 3) := by rw [joinR, if_neg (by rw [h1]; decide), if_pos (of_decide_eq_true h2)]
    rw [e]
    exact ⟨_, [], _, rfl, by simp, List.nodup_nil, rfl, rfl, rfl⟩
  refine call_eq (l6Nick_ok _ _ R x n (hr.old _)) ?_
  simp only [go_sem, cond, Nat.reduceAdd, Nat.reduceLeDiff, Nat.reduceEqDiff, Nat.reduceBEq, decide_true, decide_false, Int.toNat_natCast, Rm.enc, r, h1, h2]
  refine Br_intro ?_ ?_ <;> intro h3 <;> simp only [go_sem, cond, Nat.reduceAdd, Nat.reduceLeDiff, Nat.reduceEqDiff, Nat.reduceBEq, decide_true, decide_false, Int.toNat_natCast, Rm.enc, r, h1, h2, h3]
  · have e : joinR R u n = ([], 4) := by rw [joinR, if_neg (by rw [h1]; decide), if_neg (of_decide_eq_false h2), if_pos (of_decide_eq_true h3)]
    rw [e]
    exact ⟨_, [], _, rfl, by simp, List.nodup_nil, rfl, rfl, rfl⟩
  refine Br_intro ?_ ?_ <;> intro h4 <;> simp only [go_sem, cond, Nat.reduceAdd, Nat.reduceLeDiff, Nat.reduceEqDiff, Nat.reduceBEq, decide_true, decide_false, Int.toNat_natCast, Rm.enc, r, h1, h2, h3, h4]
  · have e : joinR R u n = ([], 5) := by rw [joinR, if_neg (by rw [h1]; decide), if_neg (of_decide_eq_false h2), if_neg (of_decide_eq_false h3), if_pos (of_decide_eq_true h4)]
    rw [e]
    exact ⟨_, [], _, rfl, by simp, List.nodup_nil, rfl, rfl, rfl⟩
  have e0 : joinR R u n = if (R.next == 0) = true then ([⟨R.name, 0, 6, u, em, em, em, em, 4⟩, ⟨R.name, IntKind.i64.wrap (R.next + ((1 : Nat) : Int)), 1, u, n, em, em, em, byRank 4⟩], 0) else ([⟨R.name, IntKind.i64.wrap (R.next + ((0 : Nat) : Int)), 1, u, n, em, em, em, byRank (rankB R.ks u)⟩], 0) := by
    rw [joinR, if_neg (by rw [h1]; decide), if_neg (of_decide_eq_false h2), if_neg (of_decide_eq_false h3), if_neg (of_decide_eq_false h4)]
  clear h2 h3 h4
  refine Req_intro ⟨_, rfl, rfl⟩ ?_
  simp only [go_sem, cond, Nat.reduceAdd, Nat.reduceLeDiff, Nat.reduceEqDiff, Nat.reduceBEq, decide_true, decide_false, Int.toNat_natCast, Rm.enc, r]
  refine Br_intro ?_ ?_ <;> intro h5 <;> simp only [go_sem, cond, Nat.reduceAdd, Nat.reduceLeDiff, Nat.reduceEqDiff, Nat.reduceBEq, decide_true, decide_false, Int.toNat_natCast, Rm.enc, r, h5]
  all_goals repeat' (first
    | (refine Both_intro ?_ ?_ <;> simp only [go_sem, cond, Nat.reduceAdd, Nat.reduceLeDiff, Nat.reduceEqDiff, Nat.reduceBEq, decide_true, decide_false, Int.toNat_natCast, Rm.enc, r, h5])
    | (refine Req_intro ⟨_, rfl, rfl⟩ ?_; simp only [go_sem, cond, Nat.reduceAdd, Nat.reduceLeDiff, Nat.reduceEqDiff, Nat.reduceBEq, decide_true, decide_false, Int.toNat_natCast, Rm.enc, r, h5])
    | (refine xw_tree (id := 14) [0, 1, 0, 4, 0, 16, 60, 0, 0, 0, 512, 2047, 0, 8191] (.q 0 (.q 2 (.q 4 (.q 5 (.q 7 (.q 8 (.q 9 (.l 1 (.l 3 (.q 6 (.b 10 (.b 11 (.e 12 (.d 1 (.d 3 (.e 13 .z)))) 12 (.d 1 (.d 3 (.e 11 (.e 13 .z))))) 12 (.e 10 (.d 1 (.d 3 (.e 11 (.e 13 .z)))))))))))))))) rfl (by kernel_rfl) ?_; simp only [go_sem, cond, Nat.reduceAdd, Nat.reduceLeDiff, Nat.reduceEqDiff, Nat.reduceBEq, decide_true, decide_false, Int.toNat_natCast, Rm.enc, r, h5])
    | (refine call_eq (l6ByRank_ok _ _ _) ?_; simp only [go_sem, cond, Nat.reduceAdd, Nat.reduceLeDiff, Nat.reduceEqDiff, Nat.reduceBEq, decide_true, decide_false, Int.toNat_natCast, Rm.enc, r, h5])
    | (refine appS_full (m := 1) (sl := 0) _ _ _ _ _ _ _ 1 _ _ _ rfl rfl rfl XF.lay_38 (by decide) (by rfl) (by decide) (by decide) ?_; simp only [go_sem, cond, Nat.reduceAdd, Nat.reduceLeDiff, Nat.reduceEqDiff, Nat.reduceBEq, decide_true, decide_false, Int.toNat_natCast, Rm.enc, r, h5])
    | (refine appS_full (m := 1) (sl := 1) _ _ _ _ _ _ _ 1 _ _ _ rfl rfl rfl XF.lay_38 (by decide) (by rfl) (by decide) (by decide) ?_; simp only [go_sem, cond, Nat.reduceAdd, Nat.reduceLeDiff, Nat.reduceEqDiff, Nat.reduceBEq, decide_true, decide_false, Int.toNat_natCast, Rm.enc, r, h5]))
  all_goals first
    | exact deed_end H (e0.trans (if_pos h5)) (List.cons_ne_nil _ _) rfl rfl rfl
    | exact deed_end H (e0.trans (if_neg (by rw [h5]; exact Bool.false_ne_true))) (List.cons_ne_nil _ _) rfl rfl rfl
end Go.Proofs.YtmacpgoclhgafaaGreatDoorW.FA

