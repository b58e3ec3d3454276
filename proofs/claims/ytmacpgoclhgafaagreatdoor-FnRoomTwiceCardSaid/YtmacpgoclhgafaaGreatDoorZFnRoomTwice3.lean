/- FnRoomTwice: own words and contracts that the law's proof uses, part 3. No condition of its own. -/
import Derived.Test.YtmacpgoclhgafaaGreatDoorZFnRoomTwice2
set_option linter.unusedSimpArgs false
set_option linter.unusedVariables false
namespace Go.Proofs.YtmacpgoclhgafaaGreatDoorW.FA
open Go.RowKit Go.Proofs.YtmacpgoclhgafaaGreatDoorW.XM Go.Proofs Go.Proofs.YtmacpgoclhgafaaGreatDoorW.XWords
set_option maxRecDepth 100000
set_option linter.unusedSimpArgs false
set_option linter.unusedVariables false
variable (w0 : World) (H : Hp)
def roleE (R : Rm) (m : Mem) (s : Sy) : En := ⟨R.name, R.next, if (s.num == 0) = true then 2 else 5, m.user, nickU R m.user, em, em, em, if (s.num == 0) = true then 1 else s.num⟩
def roleR (R : Rm) (u : ByteArray) (s : Sy) : List En × Int :=
  match R.ms.find? (isU u) with
  | none => ([], 7)
  | some a =>
    if (a.role == 3) = false then ([], 7)
    else match R.ms.find? (isN s.nick) with
    | none => ([], 8)
    | some m =>
      if (decide (rankB R.ks u < rankB R.ks m.user) || (decide (3 ≤ rankB R.ks m.user) && !(s.num == 3))) = true then ([], 7)
      else if (m.role == s.num) = true then ([], 0)
      else ([roleE R m s], 0)
theorem nil_end {l : List (Option Ob)} {k : Int} {r : List En × Int} (hr : r = ([], k)) : ∃ l' sel v3, Hx H l = Hx H l' ∧ (∀ i ∈ sel, PlainOb ((l'[i]?).join)) ∧ sel.Nodup ∧ ren3 (rho H sel) (.tuple #[.slice none 0 0, .int .i64 k]) = some v3 ∧ v3 = deedV H r ∧ Hx H (pick l' sel) = Hx H (esO r.1) := by
  subst hr
  exact ⟨l, [], _, rfl, by simp, List.nodup_nil, rfl, rfl, rfl⟩
set_option maxHeartbeats 20000000 in
theorem l6Role_ok (R : Rm) (x : Ad) (u : ByteArray) (s : Sy) (hr : RmAt w0 H R x) (hu : (R.ms.find? (isU u)).isSome = true) : AFn Tryz.prog w0 95 #[.agg (R.enc x).toArray, .string u, .agg s.enc.toArray] H fun v H2 => v = deedV H (roleR R u s) ∧ H2 = Hx H (esO (roleR R u s).1) := by
  obtain ⟨xa, xc, xb, xd⟩ := x
  have hl := hr.lm
  refine AFn.news Tryz.func95 rfl (by kernel_rfl) ?_
  have r := Tryz.results95
  simp only [go_sem, cond, Nat.reduceAdd, Nat.reduceLeDiff, Nat.reduceEqDiff, Nat.reduceBEq, decide_true, decide_false, Int.toNat_natCast, r]
  simp only [go_sem, cond, Nat.reduceAdd, Nat.reduceLeDiff, Nat.reduceEqDiff, Nat.reduceBEq, decide_true, decide_false, Int.toNat_natCast, Rm.enc, Sy.enc, r]
  refine call_eq (l6Nick_ok _ _ R _ s.nick (hr.old _)) ?_
  simp only [go_sem, cond, Nat.reduceAdd, Nat.reduceLeDiff, Nat.reduceEqDiff, Nat.reduceBEq, decide_true, decide_false, Int.toNat_natCast, Rm.enc, Sy.enc, r]
  rcases idxP_find (isU u) R.ms 0 with ⟨f1, f2⟩ | ⟨j, hj, f1, f2⟩
  · rw [f2] at hu; cases hu
  rw [Nat.zero_add] at f1
  obtain ⟨b, o, sp, rfl, hc, hw⟩ := mcell hr.sm hj
  have d1 : ((0 : Int) ≤ (j : Int)) = True := eq_true (by omega)
  have d2 : ((j : Int) < (R.ms.length : Int)) = True := eq_true (by omega)
  have c0 := fun L => hc 2 (.int .i64 R.ms[j].role) L (by decide) rfl
  (refine xw_open (id := 2) [0, 1, 0, 0, 12, 31, 63, 127, 255] [.q 0, .q 3, .l 1, .q 2, .e 4, .q 5, .q 6, .q 7, .q 8] rfl (by kernel_rfl) ?_; simp only [go_sem, cond, Nat.reduceAdd, Nat.reduceLeDiff, Nat.reduceEqDiff, Nat.reduceBEq, decide_true, decide_false, Int.toNat_natCast, Rm.enc, Sy.enc, r, d1, d2, c0])
  refine call_eq (l6Of_ok _ _ R _ u (hr.old _)) ?_
  rw [f1]
  simp only [go_sem, cond, Nat.reduceAdd, Nat.reduceLeDiff, Nat.reduceEqDiff, Nat.reduceBEq, decide_true, decide_false, Int.toNat_natCast, Rm.enc, Sy.enc, r, d1, d2, c0]
  refine Br_intro ?_ ?_ <;> intro h1 <;> simp only [go_sem, cond, Nat.reduceAdd, Nat.reduceLeDiff, Nat.reduceEqDiff, Nat.reduceBEq, decide_true, decide_false, Int.toNat_natCast, Rm.enc, Sy.enc, r, d1, d2, c0, h1]
  case' refine_2 =>
    have e : roleR R u s = ([], 7) := by simp only [roleR, f2, h1, if_true]
    rw [e]
    exact ⟨_, [], _, rfl, by simp, List.nodup_nil, rfl, rfl, rfl⟩
  rcases idxP_find (isN s.nick) R.ms 0 with ⟨g1, g2⟩ | ⟨a, ha, g1, g2⟩
  · rw [g1]
    have d3 : ((-1 : Int) < 0) = True := eq_true (by omega)
    simp only [go_sem, cond, Nat.reduceAdd, Nat.reduceLeDiff, Nat.reduceEqDiff, Nat.reduceBEq, decide_true, decide_false, Int.toNat_natCast, Rm.enc, Sy.enc, r, d1, d2, c0, h1, d3]
    have e : roleR R u s = ([], 8) := by simp only [roleR, f2, h1, g2, Bool.true_eq_false, if_false]
    rw [e]
    exact ⟨_, [], _, rfl, by simp, List.nodup_nil, rfl, rfl, rfl⟩
  rw [g1, Nat.zero_add]
  have d3 : ((a : Int) < 0) = False := eq_false (by omega)
  have d4 : ((0 : Int) ≤ (a : Int)) = True := eq_true (by omega)
  have d5 : ((a : Int) < (R.ms.length : Int)) = True := eq_true (by omega)
  obtain ⟨b2, o2, sp2, hA, hc2, hw2⟩ := mcell hr.sm ha
  cases hA
  have c1 := fun L => hw2 L rfl
  simp only [Mem.enc] at c1
  simp only [go_sem, cond, Nat.reduceAdd, Nat.reduceLeDiff, Nat.reduceEqDiff, Nat.reduceBEq, decide_true, decide_false, Int.toNat_natCast, Rm.enc, Sy.enc, r, d3, d4, d5, c1]
  refine call_eq (l6Rank_ok _ _ R _ _ (hr.old _)) ?_
  simp only [go_sem, cond, Nat.reduceAdd, Nat.reduceLeDiff, Nat.reduceEqDiff, Nat.reduceBEq, decide_true, decide_false, Int.toNat_natCast, Rm.enc, Sy.enc, r]
  refine call_eq (l6Rank_ok _ _ R _ _ (hr.old _)) ?_
  simp only [go_sem, cond, Nat.reduceAdd, Nat.reduceLeDiff, Nat.reduceEqDiff, Nat.reduceBEq, decide_true, decide_false, Int.toNat_natCast, Rm.enc, Sy.enc, r]
  clear c0 c1 hc hw hc2 hw2 d1 d2 d3 d4 d5
  have e0 : roleR R u s = if (decide (rankB R.ks u < rankB R.ks R.ms[a].user) || (decide (3 ≤ rankB R.ks R.ms[a].user) && !(s.num == 3))) = true then ([], 7) else if (R.ms[a].role == s.num) = true then ([], 0) else ([roleE R R.ms[a] s], 0) := by
    simp only [roleR, f2, h1, g2, Bool.true_eq_false, if_false]
  repeat' (first
    | (refine Br_intro ?_ ?_ <;> intro h2 <;> simp only [go_sem, cond, Nat.reduceAdd, Nat.reduceLeDiff, Nat.reduceEqDiff, Nat.reduceBEq, decide_true, decide_false, Int.toNat_natCast, Rm.enc, Sy.enc, r, h2])
    | (refine Req_intro ⟨_, rfl, rfl⟩ ?_; simp only [go_sem, cond, Nat.reduceAdd, Nat.reduceLeDiff, Nat.reduceEqDiff, Nat.reduceBEq, decide_true, decide_false, Int.toNat_natCast, Rm.enc, Sy.enc, r])
    | (refine call_eq (l6Entry_ok _ _ R _ _ _ (hr.old _)) ?_; simp only [go_sem, cond, Nat.reduceAdd, Nat.reduceLeDiff, Nat.reduceEqDiff, Nat.reduceBEq, decide_true, decide_false, Int.toNat_natCast, Rm.enc, Sy.enc, En.enc, entR, r]))
  all_goals first
    | (refine nil_end H (e0.trans ?_)
       simp only [*, Bool.true_or, Bool.false_or, Bool.true_and, Bool.false_and, Bool.and_true, Bool.and_false, Bool.not_true, Bool.not_false, Bool.false_eq_true, if_true, if_false])
    | (refine deed_end H (es := [roleE R R.ms[a] s]) (e0.trans ?_) (List.cons_ne_nil _ _) rfl rfl ?_
       · simp only [*, Bool.true_or, Bool.false_or, Bool.true_and, Bool.false_and, Bool.and_true, Bool.and_false, Bool.not_true, Bool.not_false, Bool.false_eq_true, if_true, if_false]
       · simp only [roleE, h2, Bool.false_eq_true, if_true, if_false]; rfl)
end Go.Proofs.YtmacpgoclhgafaaGreatDoorW.FA

namespace Go.Proofs.YtmacpgoclhgafaaGreatDoorW.FA
open Go.RowKit Go.Proofs.YtmacpgoclhgafaaGreatDoorW.XM Go.Proofs Go.Proofs.YtmacpgoclhgafaaGreatDoorW.XWords
set_option maxRecDepth 100000
set_option linter.unusedSimpArgs false
set_option linter.unusedVariables false
variable (w0 : World) (H : Hp)
def ent6 (R : Rm) (s : Sy) (n : Nat) : En := ⟨R.name, IntKind.i64.wrap (R.next + (n : Int)), 6, s.name, em, em, em, em, s.num⟩
def setL (R : Rm) (s : Sy) : List En :=
  match R.ms.find? (isU s.name) with
  | none => [ent6 R s 0]
  | some m =>
    if (s.num == 0) = true then [⟨R.name, R.next, 2, s.name, nickU R s.name, em, em, em, 2⟩, ent6 R s 1]
    else if (decide (3 ≤ s.num) && !(m.role == 3)) = true then [ent6 R s 0, ⟨R.name, IntKind.i64.wrap (R.next + ((1 : Nat) : Int)), 5, s.name, nickU R s.name, em, em, em, 3⟩]
    else [ent6 R s 0]
def setR (R : Rm) (u : ByteArray) (s : Sy) : List En × Int :=
  if (decide (rankB R.ks u < 3) || ((rankB R.ks u == 3) && (decide (3 ≤ rankB R.ks s.name) || decide (3 ≤ s.num)))) = true then ([], 7)
  else if (rankB R.ks s.name == s.num) = true then ([], 0)
  else if ((rankB R.ks s.name == 4) && (((ownB R.ks : Nat) : Int) == 1)) = true then ([], 9)
  else if ((rankB R.ks s.name == 1) && decide (6 ≤ (R.ks.length : Int))) = true then ([], 5)
  else (setL R s, 0)
theorem i66 (x : ByteArray) : (if ((6 : Int) == 6) = true then em else x) = em := rfl
theorem i26 (x : ByteArray) : (if ((2 : Int) == 6) = true then em else x) = x := rfl
theorem i56 (x : ByteArray) : (if ((5 : Int) == 6) = true then em else x) = x := rfl
set_option maxHeartbeats 20000000 in
theorem l6SetRank_ok (R : Rm) (x : Ad) (u : ByteArray) (s : Sy) (hr : RmAt w0 H R x) : AFn Tryz.prog w0 96 #[.agg (R.enc x).toArray, .string u, .agg s.enc.toArray] H fun v H2 => v = deedV H (setR R u s) ∧ H2 = Hx H (esO (setR R u s).1) := by
  obtain ⟨xa, xc, xb, xd⟩ := x
  have hl := hr.lm
  refine AFn.news Tryz.func96 rfl (by kernel_rfl) ?_
  have r := Tryz.results96
  simp only [go_sem, cond, Nat.reduceAdd, Nat.reduceLeDiff, Nat.reduceEqDiff, Nat.reduceBEq, decide_true, decide_false, Int.toNat_natCast, r]
  simp only [go_sem, cond, Nat.reduceAdd, Nat.reduceLeDiff, Nat.reduceEqDiff, Nat.reduceBEq, decide_true, decide_false, Int.toNat_natCast, Rm.enc, Sy.enc, r]
  refine call_eq (l6Rank_ok _ _ R _ _ (hr.old _)) ?_
  simp only [go_sem, cond, Nat.reduceAdd, Nat.reduceLeDiff, Nat.reduceEqDiff, Nat.reduceBEq, decide_true, decide_false, Int.toNat_natCast, Rm.enc, Sy.enc, r]
  refine call_eq (l6Rank_ok _ _ R _ _ (hr.old _)) ?_
  simp only [go_sem, cond, Nat.reduceAdd, Nat.reduceLeDiff, Nat.reduceEqDiff, Nat.reduceBEq, decide_true, decide_false, Int.toNat_natCast, Rm.enc, Sy.enc, r]
  have e0 : setR R u s = if (decide (rankB R.ks u < 3) || ((rankB R.ks u == 3) && (decide (3 ≤ rankB R.ks s.name) || decide (3 ≤ s.num)))) = true then ([], 7) else if (rankB R.ks s.name == s.num) = true then ([], 0) else if ((rankB R.ks s.name == 4) && (((ownB R.ks : Nat) : Int) == 1)) = true then ([], 9) else if ((rankB R.ks s.name == 1) && decide (6 ≤ (R.ks.length : Int))) = true then ([], 5) else (setL R s, 0) := rfl
  repeat' (first
    | (refine Br_intro ?_ ?_ <;> intro h2 <;> simp only [go_sem, cond, Nat.reduceAdd, Nat.reduceLeDiff, Nat.reduceEqDiff, Nat.reduceBEq, decide_true, decide_false, Int.toNat_natCast, Rm.enc, Sy.enc, r, h2])
    | (refine call_eq (l6Owners_ok _ _ R _ (hr.old _)) ?_; simp only [go_sem, cond, Nat.reduceAdd, Nat.reduceLeDiff, Nat.reduceEqDiff, Nat.reduceBEq, decide_true, decide_false, Int.toNat_natCast, Rm.enc, Sy.enc, r])
    | (refine nil_end H (e0.trans ?_)
       simp only [*, Bool.true_or, Bool.false_or, Bool.or_true, Bool.or_false, Bool.true_and, Bool.false_and, Bool.and_true, Bool.and_false, Bool.not_true, Bool.not_false, Bool.false_eq_true, if_true, if_false]
       done))
  all_goals
    have e1 : setR R u s = (setL R s, 0) := e0.trans (by simp only [*, Bool.true_or, Bool.false_or, Bool.or_true, Bool.or_false, Bool.true_and, Bool.false_and, Bool.and_true, Bool.and_false, Bool.not_true, Bool.not_false, Bool.false_eq_true, if_true, if_false])
    clear e0
    refine Req_intro ⟨_, rfl, rfl⟩ ?_
    simp only [go_sem, cond, Nat.reduceAdd, Nat.reduceLeDiff, Nat.reduceEqDiff, Nat.reduceBEq, decide_true, decide_false, Int.toNat_natCast, Rm.enc, Sy.enc, r]
    refine call_eq (l6Of_ok _ _ R _ _ (hr.old _)) ?_
    rcases idxP_find (isU s.name) R.ms 0 with ⟨g1, g2⟩ | ⟨a, ha, g1, g2⟩
    · rw [g1]
      have d3 : ((0 : Int) ≤ (-1 : Int)) = False := eq_false (by omega)
      simp only [go_sem, cond, Nat.reduceAdd, Nat.reduceLeDiff, Nat.reduceEqDiff, Nat.reduceBEq, decide_true, decide_false, Int.toNat_natCast, Rm.enc, Sy.enc, r, d3]
      repeat' (first
    | (refine Br_intro ?_ ?_ <;> intro h2 <;> simp only [go_sem, cond, Nat.reduceAdd, Nat.reduceLeDiff, Nat.reduceEqDiff, Nat.reduceBEq, decide_true, decide_false, Int.toNat_natCast, Rm.enc, Sy.enc, r, d3, h2])
    | (refine Req_intro ⟨_, rfl, rfl⟩ ?_; simp only [go_sem, cond, Nat.reduceAdd, Nat.reduceLeDiff, Nat.reduceEqDiff, Nat.reduceBEq, decide_true, decide_false, Int.toNat_natCast, Rm.enc, Sy.enc, r, d3])
    | (refine call_eq (l6Entry_ok _ _ R _ _ _ (hr.old _)) ?_; simp only [go_sem, cond, Nat.reduceAdd, Nat.reduceLeDiff, Nat.reduceEqDiff, Nat.reduceBEq, decide_true, decide_false, Int.toNat_natCast, Rm.enc, Sy.enc, En.enc, entR, i66, i26, i56, r, d3])
    | (refine appS_full (m := 1) (sl := 0) _ _ _ _ _ _ _ 2 _ _ _ rfl rfl rfl XF.lay_38 (by decide) (by rfl) (by decide) (by decide) ?_; simp only [go_sem, cond, Nat.reduceAdd, Nat.reduceLeDiff, Nat.reduceEqDiff, Nat.reduceBEq, decide_true, decide_false, Int.toNat_natCast, Rm.enc, Sy.enc, r, d3])
    | (refine appS_full (m := 1) (sl := 1) _ _ _ _ _ _ _ 2 _ _ _ rfl rfl rfl XF.lay_38 (by decide) (by rfl) (by decide) (by decide) ?_; simp only [go_sem, cond, Nat.reduceAdd, Nat.reduceLeDiff, Nat.reduceEqDiff, Nat.reduceBEq, decide_true, decide_false, Int.toNat_natCast, Rm.enc, Sy.enc, r, d3]))
      all_goals exact deed_end H (es := [ent6 R s 0]) (e1.trans (congrArg (fun l => (l, 0)) (by simp only [setL, g2]))) (List.cons_ne_nil _ _) rfl rfl rfl
    · rw [g1, Nat.zero_add]
      obtain ⟨b, o, sp, rfl, hc, hw⟩ := mcell hr.sm ha
      have d4 : ((0 : Int) ≤ (a : Int)) = True := eq_true (by omega)
      have d5 : ((a : Int) < (R.ms.length : Int)) = True := eq_true (by omega)
      have c0 := fun L => hc 2 (.int .i64 R.ms[a].role) L (by decide) rfl
      simp only [go_sem, cond, Nat.reduceAdd, Nat.reduceLeDiff, Nat.reduceEqDiff, Nat.reduceBEq, decide_true, decide_false, Int.toNat_natCast, Rm.enc, Sy.enc, r, d4, d5, c0]
      repeat' (first
    | (refine Br_intro ?_ ?_ <;> intro h2 <;> simp only [go_sem, cond, Nat.reduceAdd, Nat.reduceLeDiff, Nat.reduceEqDiff, Nat.reduceBEq, decide_true, decide_false, Int.toNat_natCast, Rm.enc, Sy.enc, r, d4, d5, c0, h2])
    | (refine Req_intro ⟨_, rfl, rfl⟩ ?_; simp only [go_sem, cond, Nat.reduceAdd, Nat.reduceLeDiff, Nat.reduceEqDiff, Nat.reduceBEq, decide_true, decide_false, Int.toNat_natCast, Rm.enc, Sy.enc, r, d4, d5, c0])
    | (refine call_eq (l6Entry_ok _ _ R _ _ _ (hr.old _)) ?_; simp only [go_sem, cond, Nat.reduceAdd, Nat.reduceLeDiff, Nat.reduceEqDiff, Nat.reduceBEq, decide_true, decide_false, Int.toNat_natCast, Rm.enc, Sy.enc, En.enc, entR, i66, i26, i56, r, d4, d5, c0])
    | (refine appS_full (m := 1) (sl := 0) _ _ _ _ _ _ _ 2 _ _ _ rfl rfl rfl XF.lay_38 (by decide) (by rfl) (by decide) (by decide) ?_; simp only [go_sem, cond, Nat.reduceAdd, Nat.reduceLeDiff, Nat.reduceEqDiff, Nat.reduceBEq, decide_true, decide_false, Int.toNat_natCast, Rm.enc, Sy.enc, r, d4, d5, c0])
    | (refine appS_full (m := 1) (sl := 1) _ _ _ _ _ _ _ 2 _ _ _ rfl rfl rfl XF.lay_38 (by decide) (by rfl) (by decide) (by decide) ?_; simp only [go_sem, cond, Nat.reduceAdd, Nat.reduceLeDiff, Nat.reduceEqDiff, Nat.reduceBEq, decide_true, decide_false, Int.toNat_natCast, Rm.enc, Sy.enc, r, d4, d5, c0]))
      all_goals first
        | exact deed_end H (es := [ent6 R s 0]) (e1.trans (congrArg (fun l => (l, 0)) (by simp only [setL, g2, *, Bool.true_or, Bool.false_or, Bool.or_true, Bool.or_false, Bool.true_and, Bool.false_and, Bool.and_true, Bool.and_false, Bool.not_true, Bool.not_false, Bool.false_eq_true, if_true, if_false]; done))) (List.cons_ne_nil _ _) rfl rfl rfl
        | exact deed_end H (es := [⟨R.name, R.next, 2, s.name, nickU R s.name, em, em, em, 2⟩, ent6 R s 1]) (e1.trans (congrArg (fun l => (l, 0)) (by simp only [setL, g2, *, Bool.true_or, Bool.false_or, Bool.or_true, Bool.or_false, Bool.true_and, Bool.false_and, Bool.and_true, Bool.and_false, Bool.not_true, Bool.not_false, Bool.false_eq_true, if_true, if_false]; done))) (List.cons_ne_nil _ _) rfl rfl rfl
        | (refine deed_end H (es := [ent6 R s 0, ⟨R.name, IntKind.i64.wrap (R.next + ((1 : Nat) : Int)), 5, s.name, nickU R s.name, em, em, em, 3⟩]) (e1.trans (congrArg (fun l => (l, 0)) ?_)) (List.cons_ne_nil _ _) rfl rfl rfl; simp only [setL, g2, *, Bool.true_or, Bool.false_or, Bool.or_true, Bool.or_false, Bool.true_and, Bool.false_and, Bool.and_true, Bool.and_false, Bool.not_true, Bool.not_false, Bool.false_eq_true, if_true, if_false]; done)
        | (exfalso
           simp only [beq_iff_eq, beq_eq_false_iff_ne, decide_eq_true_eq, decide_eq_false_iff_not] at *
           omega)
        | trace_state
end Go.Proofs.YtmacpgoclhgafaaGreatDoorW.FA

namespace Go.Proofs.YtmacpgoclhgafaaGreatDoorW.FA
open Go.RowKit Go.Proofs.YtmacpgoclhgafaaGreatDoorW.XM Go.Proofs Go.Proofs.YtmacpgoclhgafaaGreatDoorW.XWords
set_option maxRecDepth 100000
set_option linter.unusedSimpArgs false
set_option linter.unusedVariables false
variable (w0 : World) (H : Hp)
def leaveE (R : Rm) (u : ByteArray) : En := ⟨R.name, R.next, 2, u, nickU R u, em, em, em, 0⟩
def talkE (R : Rm) (u : ByteArray) (s : Sy) : En := ⟨R.name, R.next, 3, u, nickU R u, s.text, s.id, s.ref, 0⟩
def subjE (R : Rm) (u : ByteArray) (s : Sy) : En := ⟨R.name, R.next, 4, u, nickU R u, s.text, s.id, em, 0⟩
def insR (R : Rm) (log : List En) (u : ByteArray) (s : Sy) : List En × Int :=
  if (s.kind == 7) = true then ([leaveE R u], 0)
  else if (s.kind == 8) = true then
    (match R.ms.find? (isU u) with
    | none => ([], 7)
    | some m =>
      if m.role < 2 then ([], 7)
      else if (!(s.ref.toList == em.toList) && !(log.any (saidP R.name u s.ref))) = true then ([], 10)
      else ([talkE R u s], 0))
  else if (s.kind == 9) = true then
    (match R.ms.find? (isU u) with
    | none => ([], 7)
    | some m => if (m.role == 3) = false then ([], 7) else ([subjE R u s], 0))
  else if (s.kind == 10) = true then roleR R u s
  else setR R u s
/-- A deed that is handed on. -/
theorem pass_end {l : List (Option Ob)} {r q : List En × Int} (hq : q = r) : ∃ l' sel v3, Hx (Hx H l) (esO r.1) = Hx H l' ∧ (∀ i ∈ sel, PlainOb ((l'[i]?).join)) ∧ sel.Nodup ∧ ren3 (rho H sel) (.tuple #[esV (Hx H l) r.1, .int .i64 r.2]) = some v3 ∧ v3 = deedV H q ∧ Hx H (pick l' sel) = Hx H (esO q.1) := by
  subst hq
  obtain ⟨es, k⟩ := q
  cases es with
  | nil =>
    show ∃ l' sel v3, Hx (Hx H l) [] = Hx H l' ∧ _ ∧ _ ∧ ren3 (rho H sel) (.tuple #[.slice none 0 0, .int .i64 k]) = some v3 ∧ _
    rw [Hx_nil]
    exact nil_end H (r := ([], k)) rfl
  | cons e t =>
    have hn : nid (Hx H l) 0 = nid H l.length := by unfold nid Hx; simp
    show ∃ l' sel v3, Hx (Hx H l) (esO (e :: t)) = Hx H l' ∧ _ ∧ _ ∧ ren3 (rho H sel) (.tuple #[esV (Hx H l) (e :: t), .int .i64 k]) = some v3 ∧ _
    rw [Hx_Hx]
    unfold esV
    rw [hn]
    exact deed_end H (es := e :: t) (r := (e :: t, k)) rfl (List.cons_ne_nil _ _) rfl rfl (by simp [esO])
theorem i36 (x : ByteArray) : (if ((3 : Int) == 6) = true then em else x) = x := rfl
theorem i46 (x : ByteArray) : (if ((4 : Int) == 6) = true then em else x) = x := rfl
theorem pass_end' {l M : List (Option Ob)} {r q : List En × Int} (hM : M = l ++ esO r.1) (hq : q = r) : ∃ l' sel v3, Hx H M = Hx H l' ∧ (∀ i ∈ sel, PlainOb ((l'[i]?).join)) ∧ sel.Nodup ∧ ren3 (rho H sel) (.tuple #[esV (Hx H l) r.1, .int .i64 r.2]) = some v3 ∧ v3 = .tuple #[esV H q.1, .int .i64 q.2] ∧ Hx H (pick l' sel) = Hx H (esO q.1) := by
  subst hM
  rw [← Hx_Hx]
  exact pass_end H hq
set_option maxHeartbeats 20000000 in
theorem l6Inside_ok (R : Rm) (x : Ad) (es : List En) (A : Option Addr) (c : Nat) (u : ByteArray) (s : Sy) (hr : RmAt w0 H R x) (hs : Sl w0 H A 9 (es.map En.enc)) (hl2 : es.length ≤ 2000000) (hu : (R.ms.find? (isU u)).isSome = true) : AFn Tryz.prog w0 69 #[.agg (R.enc x).toArray, .slice A es.length c, .string u, .agg s.enc.toArray] H fun v H2 => v = deedV H (insR R es u s) ∧ H2 = Hx H (esO (insR R es u s).1) := by
  obtain ⟨xa, xc, xb, xd⟩ := x
  have hl := hr.lm
  refine AFn.news Tryz.func69 rfl (by kernel_rfl) ?_
  have r := Tryz.results69
  simp only [go_sem, cond, Nat.reduceAdd, Nat.reduceLeDiff, Nat.reduceEqDiff, Nat.reduceBEq, decide_true, decide_false, Int.toNat_natCast, r]
  simp only [go_sem, cond, Nat.reduceAdd, Nat.reduceLeDiff, Nat.reduceEqDiff, Nat.reduceBEq, decide_true, decide_false, Int.toNat_natCast, Rm.enc, Sy.enc, r]
  rcases idxP_find (isU u) R.ms 0 with ⟨f1, f2⟩ | ⟨j, hj, f1, f2⟩
  · rw [f2] at hu; cases hu
  rw [Nat.zero_add] at f1
  obtain ⟨b, o, sp, rfl, hc, hw⟩ := mcell hr.sm hj
  have d1 : ((0 : Int) ≤ (j : Int)) = True := eq_true (by omega)
  have d2 : ((j : Int) < (R.ms.length : Int)) = True := eq_true (by omega)
  have c0 := fun L => hw L rfl
  simp only [Mem.enc] at c0
  have e0 : insR R es u s = if (s.kind == 7) = true then ([leaveE R u], 0) else if (s.kind == 8) = true then (if decide (R.ms[j].role < 2) = true then ([], 7) else if (!(s.ref.toList == (ByteArray.mk #[]).toList) && !(es.any (saidP R.name u s.ref))) = true then ([], 10) else ([talkE R u s], 0)) else if (s.kind == 9) = true then (if (R.ms[j].role == 3) = false then ([], 7) else ([subjE R u s], 0)) else if (s.kind == 10) = true then roleR R u s else setR R u s := by
    simp only [insR, f2, decide_eq_true_eq]
  repeat' (first
    | (refine Both_intro ?_ ?_ <;> simp only [go_sem, cond, Nat.reduceAdd, Nat.reduceLeDiff, Nat.reduceEqDiff, Nat.reduceBEq, decide_true, decide_false, Int.toNat_natCast, Rm.enc, Sy.enc, r, d1, d2, c0])
    | (refine xw_tree (id := 1) [0, 1, 0, 0, 12, 31, 63, 0, 255] (.q 0 (.q 3 (.l 1 (.l 2 (.b 4 (.q 5 (.l 6 (.e 7 (.d 1 (.d 2 (.d 6 (.e 8 .z))))))) 7 (.d 2 (.e 4 (.d 1 (.q 5 (.q 6 (.e 8 .z))))))))))) rfl (by kernel_rfl) ?_; simp only [go_sem, cond, Nat.reduceAdd, Nat.reduceLeDiff, Nat.reduceEqDiff, Nat.reduceBEq, decide_true, decide_false, Int.toNat_natCast, Rm.enc, Sy.enc, r, d1, d2, c0])
    | (refine call_eq (l6Of_ok _ _ R _ u (hr.old _)) ?_; rw [f1]; simp only [go_sem, cond, Nat.reduceAdd, Nat.reduceLeDiff, Nat.reduceEqDiff, Nat.reduceBEq, decide_true, decide_false, Int.toNat_natCast, Rm.enc, Sy.enc, r, d1, d2, c0])
    | (refine Br_intro ?_ ?_ <;> intro h2 <;> simp only [go_sem, cond, Nat.reduceAdd, Nat.reduceLeDiff, Nat.reduceEqDiff, Nat.reduceBEq, decide_true, decide_false, Int.toNat_natCast, Rm.enc, Sy.enc, r, d1, d2, c0, h2])
    | (refine Req_intro ⟨_, rfl, rfl⟩ ?_; simp only [go_sem, cond, Nat.reduceAdd, Nat.reduceLeDiff, Nat.reduceEqDiff, Nat.reduceBEq, decide_true, decide_false, Int.toNat_natCast, Rm.enc, Sy.enc, r, d1, d2, c0])
    | (refine call_eq (l6Entry_ok _ _ R _ _ _ (hr.old _)) ?_; simp only [go_sem, cond, Nat.reduceAdd, Nat.reduceLeDiff, Nat.reduceEqDiff, Nat.reduceBEq, decide_true, decide_false, Int.toNat_natCast, Rm.enc, Sy.enc, r, d1, d2, c0, En.enc, entR, i26, i36, i46])
    | (refine call_eq (l6Said_ok _ _ es _ _ _ _ _ (hs.old _) hl2) ?_; simp only [go_sem, cond, Nat.reduceAdd, Nat.reduceLeDiff, Nat.reduceEqDiff, Nat.reduceBEq, decide_true, decide_false, Int.toNat_natCast, Rm.enc, Sy.enc, r, d1, d2, c0])
    | (refine call_eq (l6Role_ok _ _ R _ u s (hr.old _) hu) ?_; simp only [go_sem, cond, Nat.reduceAdd, Nat.reduceLeDiff, Nat.reduceEqDiff, Nat.reduceBEq, decide_true, decide_false, Int.toNat_natCast, r, deedV])
    | (refine call_eq (l6SetRank_ok _ _ R _ u s (hr.old _)) ?_; simp only [go_sem, cond, Nat.reduceAdd, Nat.reduceLeDiff, Nat.reduceEqDiff, Nat.reduceBEq, decide_true, decide_false, Int.toNat_natCast, r, deedV]))
  all_goals clear hc hw c0 d1 d2 hs
  all_goals first
    | (refine nil_end H (e0.trans ?_); simp only [*, Bool.true_or, Bool.false_or, Bool.or_true, Bool.or_false, Bool.true_and, Bool.false_and, Bool.and_true, Bool.and_false, Bool.not_true, Bool.not_false, Bool.false_eq_true, Bool.true_eq_false, if_true, if_false]; done)
    | (refine deed_end H (es := [leaveE R u]) (e0.trans ?_) (List.cons_ne_nil _ _) rfl rfl rfl; simp only [*, Bool.true_or, Bool.false_or, Bool.or_true, Bool.or_false, Bool.true_and, Bool.false_and, Bool.and_true, Bool.and_false, Bool.not_true, Bool.not_false, Bool.false_eq_true, Bool.true_eq_false, if_true, if_false]; done)
    | (refine deed_end H (es := [talkE R u s]) (e0.trans ?_) (List.cons_ne_nil _ _) rfl rfl rfl; simp only [*, Bool.true_or, Bool.false_or, Bool.or_true, Bool.or_false, Bool.true_and, Bool.false_and, Bool.and_true, Bool.and_false, Bool.not_true, Bool.not_false, Bool.false_eq_true, Bool.true_eq_false, if_true, if_false]; done)
    | (refine deed_end H (es := [subjE R u s]) (e0.trans ?_) (List.cons_ne_nil _ _) rfl rfl rfl; simp only [*, Bool.true_or, Bool.false_or, Bool.or_true, Bool.or_false, Bool.true_and, Bool.false_and, Bool.and_true, Bool.and_false, Bool.not_true, Bool.not_false, Bool.false_eq_true, Bool.true_eq_false, if_true, if_false]; done)
    | (refine pass_end' H ?_ (e0.trans ?_); · rfl
       simp only [*, Bool.true_or, Bool.false_or, Bool.or_true, Bool.or_false, Bool.true_and, Bool.false_and, Bool.and_true, Bool.and_false, Bool.not_true, Bool.not_false, Bool.false_eq_true, Bool.true_eq_false, if_true, if_false]; done)
    | trace_state
end Go.Proofs.YtmacpgoclhgafaaGreatDoorW.FA

namespace Go.Proofs.YtmacpgoclhgafaaGreatDoorW.FA
open Go.RowKit Go.Proofs.YtmacpgoclhgafaaGreatDoorW.XM Go.Proofs Go.Proofs.YtmacpgoclhgafaaGreatDoorW.XWords
set_option maxRecDepth 100000
set_option linter.unusedSimpArgs false
set_option linter.unusedVariables false
variable (w0 : World) (H : Hp)
theorem stpK_le (u : ByteArray) (num : Int) (x : Rk) (st : Bool × List Rk) : (stpK u num x st).2.length + (if (stpK u num x st).1 = true then 0 else 1) ≤ st.2.length + (if st.1 = true then 0 else 1) + 1 := by
  obtain ⟨dn, out⟩ := st
  unfold stpK
  cases dn <;> cases Op.bytesLess x.user.toList u.toList <;> cases (x.user.toList == u.toList) <;> simp
theorem runK_le (u : ByteArray) (num : Int) : ∀ (l : List Rk) (st : Bool × List Rk), (runK u num l st).2.length + (if (runK u num l st).1 = true then 0 else 1) ≤ st.2.length + (if st.1 = true then 0 else 1) + l.length
  | [], st => by simp only [runK, List.foldl_nil, List.length_nil, Nat.add_zero]; exact Nat.le_refl _
  | x :: l, st => by
    have h1 := stpK_le u num x st
    have h2 := runK_le u num l (stpK u num x st)
    have e : runK u num (x :: l) st = runK u num l (stpK u num x st) := rfl
    rw [e, List.length_cons]
    omega
theorem rkd_le (u : ByteArray) (num : Int) (l : List Rk) : (rkd u num l).length ≤ l.length + 1 := by
  have h := runK_le u num l (num == 1, [])
  have e : rkd u num l = if (runK u num l (num == 1, [])).1 = true then (runK u num l (num == 1, [])).2 else (runK u num l (num == 1, [])).2 ++ [⟨u, num⟩] := rfl
  rw [e]
  have e2 : (if ((num == 1, ([] : List Rk)) : Bool × List Rk).1 = true then 0 else 1) ≤ 1 := by split <;> omega
  split at h <;> rename_i h3
  · rw [if_pos h3]; simp at h e2 ⊢; omega
  · rw [if_neg h3]; simp at h e2 ⊢; omega
theorem applyR_le (R : Rm) (e : En) : (applyR R e).ms.length ≤ R.ms.length + 1 ∧ (applyR R e).ks.length ≤ R.ks.length + 1 := by
  have h1 := rkd_le e.user e.num R.ks
  have h2 := (outI_mem R.ms (idxP (isU e.user) R.ms 0)).1
  have h3 := (roleI_mem R.ms (idxP (isU e.user) R.ms 0) e.num).1
  unfold applyR
  repeat' split
  all_goals first | omega | (simp; done) | (simp; omega)
theorem applyR_next (R : Rm) (e : En) : (applyR R e).next = IntKind.i64.wrap (e.seq + 1) := by
  unfold applyR
  repeat' split
  all_goals rfl
/-- A room behind a log. -/
def stpR (na : ByteArray) (R : Rm) (e : En) : Rm := if (e.room.toList == na.toList) = true then applyR R e else R
def runR (na : ByteArray) (es : List En) (R : Rm) : Rm := es.foldl (stpR na) R
def roomR (na : ByteArray) (es : List En) : Rm := runR na es ⟨na, 0, [], [], em⟩
theorem runR_drop (na : ByteArray) (es : List En) (i : Nat) (hi : i < es.length) (R : Rm) : runR na (es.drop i) R = runR na (es.drop (i + 1)) (stpR na R es[i]) := by
  rw [List.drop_eq_getElem_cons hi]; rfl
theorem stpR_le (na : ByteArray) (R : Rm) (e : En) : (stpR na R e).ms.length ≤ R.ms.length + 1 ∧ (stpR na R e).ks.length ≤ R.ks.length + 1 := by
  unfold stpR
  split
  · exact applyR_le R e
  · omega
/-- The texts of an entry are short. -/
structure SmE (e : En) : Prop where
  rm : e.room.size ≤ 100000
  us : e.user.size ≤ 100000
  ni : e.nick.size ≤ 100000
  tx : e.text.size ≤ 100000
  id : e.id.size ≤ 100000
  rf : e.ref.size ≤ 100000
  sq : 0 ≤ e.seq ∧ e.seq ≤ 20000
theorem SmE.big {e : En} (h : SmE e) : BigE e := ⟨by have := h.rm; omega, by have := h.us; omega, by have := h.ni; omega, by have := h.tx; omega, by have := h.id; omega, by have := h.rf; omega⟩
/-- A room whose texts are short. -/
structure SmR (R : Rm) : Prop where
  nm : R.name.size ≤ 100000
  sj : R.subj.size ≤ 100000
  ms : ∀ m ∈ R.ms, m.user.size ≤ 100000 ∧ m.nick.size ≤ 100000
  ks : ∀ k ∈ R.ks, k.user.size ≤ 100000
theorem SmR.big {R : Rm} (h : SmR R) : Big R := Big.of_mem (by have := h.nm; omega) (by have := h.sj; omega) (fun m hm => by have := h.ms m hm; omega) (fun k hk => by have := h.ks k hk; omega)
theorem applyR_sm (R : Rm) (e : En) (hb : SmR R) (he : SmE e) : SmR (applyR R e) := by
  have hm := hb.ms
  have hk := hb.ks
  unfold applyR
  repeat' split
  all_goals refine ⟨hb.nm, (by first | exact hb.sj | exact he.tx), ?_, ?_⟩
  all_goals first
    | exact hm
    | exact hk
    | skip
  · intro m h
    rcases List.mem_append.1 h with h | h
    · exact hm m h
    · simp only [List.mem_singleton] at h
      subst h
      exact ⟨he.us, he.ni⟩
  · exact fun m h => hm m ((outI_mem _ _).2 m h)
  · intro m h
    obtain ⟨y, h1, h2, h3⟩ := (roleI_mem _ _ _).2 m h
    rw [h2, h3]
    exact hm y h1
  · intro k h
    rcases (rkd_mem _ _ _).2 k h with h | h
    · exact hk k h
    · subst h; exact he.us
theorem stpR_sm (na : ByteArray) (R : Rm) (e : En) (hb : SmR R) (he : SmE e) : SmR (stpR na R e) := by
  unfold stpR
  split
  · exact applyR_sm R e hb he
  · exact hb
theorem runR_ok (na : ByteArray) : ∀ (es : List En) (R : Rm), SmR R → (∀ e ∈ es, SmE e) → SmR (runR na es R) ∧ (runR na es R).ms.length ≤ R.ms.length + es.length ∧ (runR na es R).ks.length ≤ R.ks.length + es.length
  | [], R, h, _ => ⟨h, by simp [runR], by simp [runR]⟩
  | e :: es, R, h, he => by
    have e1 : runR na (e :: es) R = runR na es (stpR na R e) := rfl
    obtain ⟨a, b, c⟩ := runR_ok na es (stpR na R e) (stpR_sm na R e h (he e (by simp))) (fun x hx => he x (by simp [hx]))
    have := stpR_le na R e
    rw [e1, List.length_cons]
    exact ⟨a, by omega, by omega⟩
theorem roomR_ok (na : ByteArray) (es : List En) (hn : na.size ≤ 100000) (he : ∀ e ∈ es, SmE e) : SmR (roomR na es) ∧ (roomR na es).ms.length ≤ es.length ∧ (roomR na es).ks.length ≤ es.length := by
  have := runR_ok na es ⟨na, 0, [], [], em⟩ ⟨hn, (by decide : em.size ≤ 100000), by simp, by simp⟩ he
  simpa [roomR] using this
theorem applyR_rg (R : Rm) (e : En) (he : SmE e) : 1 ≤ (applyR R e).next ∧ (applyR R e).next ≤ 20001 := by
  have := he.sq
  rw [applyR_next, wrap_i64 (by omega) (by omega)]
  omega
theorem stpR_rg (na : ByteArray) (R : Rm) (e : En) (he : SmE e) (h : 0 ≤ R.next ∧ R.next ≤ 20001) : 0 ≤ (stpR na R e).next ∧ (stpR na R e).next ≤ 20001 := by
  unfold stpR
  split
  · have := applyR_rg R e he; omega
  · exact h
theorem runR_rg (na : ByteArray) : ∀ (es : List En) (R : Rm), (∀ e ∈ es, SmE e) → 0 ≤ R.next ∧ R.next ≤ 20001 → 0 ≤ (runR na es R).next ∧ (runR na es R).next ≤ 20001
  | [], R, _, h => h
  | e :: es, R, he, h => runR_rg na es (stpR na R e) (fun x hx => he x (by simp [hx])) (stpR_rg na R e (he e (by simp)) h)
/-! rooms without members: no object at all -/
theorem RmAt_nil (B : Hp) (na su : ByteArray) (k : Int) : RmAt w0 B ⟨na, k, [], [], su⟩ ⟨none, 0, none, 0⟩ := ⟨.inl rfl, .inl rfl, by simp, by simp, fun L => rfl, fun L => rfl⟩
theorem RmOw_nil (B : Hp) (na su : ByteArray) (k : Int) : RmOw w0 B ⟨na, k, [], [], su⟩ ⟨none, 0, none, 0⟩ := ⟨Nat.le_refl _, (fun b o sp e => by cases e), (fun b o sp e => by cases e)⟩
end Go.Proofs.YtmacpgoclhgafaaGreatDoorW.FA

namespace Go.Proofs.YtmacpgoclhgafaaGreatDoorW.FA
open Go.RowKit Go.Proofs.YtmacpgoclhgafaaGreatDoorW.XM Go.Proofs Go.Proofs.YtmacpgoclhgafaaGreatDoorW.XWords
set_option maxRecDepth 100000
set_option linter.unusedSimpArgs false
set_option linter.unusedVariables false
variable (w0 : World) (H : Hp)
def doR (R : Rm) (log : List En) (u : ByteArray) (s : Sy) : List En × Int :=
  if 9999 < IntKind.i64.wrap (R.next + 3) then ([], 5)
  else if (s.kind == 6) = true then joinR R u s.nick
  else if idxP (isU u) R.ms 0 < 0 then ([], 2)
  else insR R log u s
set_option maxHeartbeats 4000000 in
theorem l6Do_ok (R : Rm) (x : Ad) (es : List En) (A : Option Addr) (c : Nat) (u : ByteArray) (s : Sy) (hr : RmAt w0 H R x) (hs : Sl w0 H A 9 (es.map En.enc)) (hl : es.length ≤ 2000000) : AFn Tryz.prog w0 34 #[.agg (R.enc x).toArray, .slice A es.length c, .string u, .agg s.enc.toArray] H fun v H2 => v = deedV H (doR R es u s) ∧ H2 = Hx H (esO (doR R es u s).1) := by
  refine AFn.news Tryz.func34 rfl (by kernel_rfl) ?_
  have r := Tryz.results34
  simp only [go_sem, cond, Nat.reduceAdd, Nat.reduceLeDiff, Nat.reduceEqDiff, Nat.reduceBEq, decide_true, decide_false, Int.toNat_natCast, r]
  simp only [go_sem, cond, Nat.reduceAdd, Nat.reduceLeDiff, Nat.reduceEqDiff, Nat.reduceBEq, decide_true, decide_false, Int.toNat_natCast, Rm.enc, Sy.enc, r]
  have e0 : doR R es u s = if 9999 < IntKind.i64.wrap (R.next + 3) then ([], 5) else if (s.kind == 6) = true then joinR R u s.nick else if idxP (isU u) R.ms 0 < 0 then ([], 2) else insR R es u s := rfl
  refine Br_intro ?_ ?_ <;> intro h1 <;> simp only [go_sem, cond, Nat.reduceAdd, Nat.reduceLeDiff, Nat.reduceEqDiff, Nat.reduceBEq, decide_true, decide_false, Int.toNat_natCast, Rm.enc, Sy.enc, r, h1]
  · exact nil_end H (e0.trans (if_pos (of_decide_eq_true h1)))
  rw [if_neg (of_decide_eq_false h1)] at e0
  refine Br_intro ?_ ?_ <;> intro h2 <;> simp only [go_sem, cond, Nat.reduceAdd, Nat.reduceLeDiff, Nat.reduceEqDiff, Nat.reduceBEq, decide_true, decide_false, Int.toNat_natCast, Rm.enc, Sy.enc, r, h2]
  · refine call_eq (l6Join_ok _ _ R _ _ _ (hr.old _)) ?_
    simp only [go_sem, cond, Nat.reduceAdd, Nat.reduceLeDiff, Nat.reduceEqDiff, Nat.reduceBEq, decide_true, decide_false, Int.toNat_natCast, r, deedV]
    refine pass_end' H ?_ (e0.trans (if_pos h2)); rfl
  rw [if_neg (by rw [h2]; decide)] at e0
  refine call_eq (l6Of_ok _ _ R _ _ (hr.old _)) ?_
  simp only [go_sem, cond, Nat.reduceAdd, Nat.reduceLeDiff, Nat.reduceEqDiff, Nat.reduceBEq, decide_true, decide_false, Int.toNat_natCast, r, Rm.enc, Sy.enc]
  refine Br_intro ?_ ?_ <;> intro h3 <;> simp only [go_sem, cond, Nat.reduceAdd, Nat.reduceLeDiff, Nat.reduceEqDiff, Nat.reduceBEq, decide_true, decide_false, Int.toNat_natCast, Rm.enc, Sy.enc, r, h3]
  · exact nil_end H (e0.trans (if_pos (of_decide_eq_true h3)))
  rw [if_neg (of_decide_eq_false h3)] at e0
  have hu : (R.ms.find? (isU u)).isSome = true := by
    rcases idxP_find (isU u) R.ms 0 with ⟨f1, f2⟩ | ⟨j, hj, f1, f2⟩
    · rw [f1] at h3; cases h3
    · rw [f2]; rfl
  refine call_eq (l6Inside_ok _ _ R _ es _ _ u s (hr.old _) (hs.old _) hl hu) ?_
  simp only [go_sem, cond, Nat.reduceAdd, Nat.reduceLeDiff, Nat.reduceEqDiff, Nat.reduceBEq, decide_true, decide_false, Int.toNat_natCast, r, deedV]
  refine pass_end' H ?_ e0; rfl
/-- What is said is short. -/
structure SmS (s : Sy) : Prop where
  ni : s.nick.size ≤ 100000
  na : s.name.size ≤ 100000
  tx : s.text.size ≤ 100000
  id : s.id.size ≤ 100000
  rf : s.ref.size ≤ 100000
theorem find_sm {p : Mem → Bool} {R : Rm} (h : SmR R) {m : Mem} (hm : R.ms.find? p = some m) : m.user.size ≤ 100000 ∧ m.nick.size ≤ 100000 := h.ms m (List.mem_of_find?_eq_some hm)
theorem nickU_sm {R : Rm} (h : SmR R) (u : ByteArray) : (nickU R u).size ≤ 100000 := by
  unfold nickU
  cases hm : R.ms.find? (isU u) with
  | none => decide
  | some m => exact (find_sm h hm).2
theorem em_sm : em.size ≤ 100000 := by decide
theorem doR_sm (R : Rm) (log : List En) (u : ByteArray) (s : Sy) (hR : SmR R) (hn : 0 ≤ R.next ∧ R.next ≤ 20001) (hu : u.size ≤ 100000) (hs : SmS s) : (doR R log u s).1.length ≤ 3 ∧ ∀ e ∈ (doR R log u s).1, SmE e := by
  have nk := nickU_sm hR
  have hem := em_sm
  obtain ⟨s1, s2, s3, s4, s5⟩ := hs
  have nm := hR.nm
  have w0 : IntKind.i64.wrap (R.next + ((0 : Nat) : Int)) = R.next := by rw [wrap_i64 (by omega) (by omega)]; omega
  have w1 : IntKind.i64.wrap (R.next + ((1 : Nat) : Int)) = R.next + 1 := by rw [wrap_i64 (by omega) (by omega)]; omega
  have w3 : IntKind.i64.wrap (R.next + 3) = R.next + 3 := by rw [wrap_i64 (by omega) (by omega)]
  unfold doR
  rw [w3]
  split
  · exact ⟨by simp, by simp⟩
  rename_i hlt
  have h2 : R.next + 3 ≤ 9999 := by omega
  have mk : ∀ (se k n : Int) (us ni te i re : ByteArray), 0 ≤ se → se ≤ 20000 → us.size ≤ 100000 → ni.size ≤ 100000 → te.size ≤ 100000 → i.size ≤ 100000 → re.size ≤ 100000 → SmE ⟨R.name, se, k, us, ni, te, i, re, n⟩ := fun se k n us ni te i re a b c d e f g => ⟨nm, c, d, e, f, g, a, b⟩
  split
  · unfold joinR
    rw [w0, w1]
    repeat' split
    all_goals refine ⟨by simp, ?_⟩
    all_goals intro e he
    all_goals simp only [List.mem_cons, List.not_mem_nil, or_false] at he
    · rcases he with rfl | rfl
      · exact mk _ _ _ _ _ _ _ _ (by omega) (by omega) hu hem hem hem hem
      · exact mk _ _ _ _ _ _ _ _ (by omega) (by omega) hu s1 hem hem hem
    · subst he
      exact mk _ _ _ _ _ _ _ _ (by omega) (by omega) hu s1 hem hem hem
  split
  · exact ⟨by simp, by simp⟩
  unfold insR
  split
  · refine ⟨by simp, fun e he => ?_⟩
    simp only [List.mem_singleton] at he
    subst he
    exact mk _ _ _ _ _ _ _ _ (by omega) (by omega) hu (nk u) hem hem hem
  split
  · split
    · exact ⟨by simp, by simp⟩
    repeat' split
    all_goals refine ⟨by simp, fun e he => ?_⟩
    all_goals simp only [List.mem_cons, List.not_mem_nil, or_false] at he
    subst he
    exact mk _ _ _ _ _ _ _ _ (by omega) (by omega) hu (nk u) s3 s4 s5
  split
  · split
    · exact ⟨by simp, by simp⟩
    repeat' split
    all_goals refine ⟨by simp, fun e he => ?_⟩
    all_goals simp only [List.mem_cons, List.not_mem_nil, or_false] at he
    subst he
    exact mk _ _ _ _ _ _ _ _ (by omega) (by omega) hu (nk u) s3 s4 hem
  split
  · unfold roleR
    split
    · exact ⟨by simp, by simp⟩
    split
    · exact ⟨by simp, by simp⟩
    split
    · exact ⟨by simp, by simp⟩
    rename_i m hm
    repeat' split
    all_goals refine ⟨by simp, fun e he => ?_⟩
    all_goals simp only [List.mem_cons, List.not_mem_nil, or_false] at he
    subst he
    exact mk _ _ _ _ _ _ _ _ (by omega) (by omega) (find_sm hR hm).1 (nk _) hem hem hem
  · unfold setR
    repeat' split
    all_goals first
      | (refine ⟨?_, ?_⟩ <;> (simp only [List.length_nil, List.not_mem_nil, Nat.zero_le, false_implies, implies_true]; done))
      | skip
    unfold setL ent6
    rw [w0, w1]
    split
    · refine ⟨by simp, fun e he => ?_⟩
      simp only [List.mem_cons, List.not_mem_nil, or_false] at he
      subst he
      exact mk _ _ _ _ _ _ _ _ (by omega) (by omega) s2 hem hem hem hem
    repeat' split
    all_goals refine ⟨by simp, fun e he => ?_⟩
    all_goals simp only [List.mem_cons, List.not_mem_nil, or_false] at he
    · rcases he with rfl | rfl
      · exact mk _ _ _ _ _ _ _ _ (by omega) (by omega) s2 (nk _) hem hem hem
      · exact mk _ _ _ _ _ _ _ _ (by omega) (by omega) s2 hem hem hem hem
    · rcases he with rfl | rfl
      · exact mk _ _ _ _ _ _ _ _ (by omega) (by omega) s2 hem hem hem hem
      · exact mk _ _ _ _ _ _ _ _ (by omega) (by omega) s2 (nk _) hem hem hem
    · subst he
      exact mk _ _ _ _ _ _ _ _ (by omega) (by omega) s2 hem hem hem hem
end Go.Proofs.YtmacpgoclhgafaaGreatDoorW.FA

namespace Go.Proofs.YtmacpgoclhgafaaGreatDoorW.FA
open Go.RowKit Go.Proofs.YtmacpgoclhgafaaGreatDoorW.XM Go.Proofs Go.Proofs.YtmacpgoclhgafaaGreatDoorW.XWords
set_option maxRecDepth 100000
set_option linter.unusedSimpArgs false
set_option linter.unusedVariables false
variable {w0 : World} {H : Hp}
/-- Where a room lies: nowhere, if nothing is in it, or in two objects of one's own. -/
def PlO (H : Hp) (n : Nat) (g : List (Option Ob)) (R : Rm) (x : Ad) : Prop := (x = ⟨none, 0, none, 0⟩ ∧ R.ms = [] ∧ R.ks = []) ∨ ∃ j k, g[j]? = some (some (.row 67 (flat Mem.enc R.ms))) ∧ g[k]? = some (some (.row 43 (flat Rk.enc R.ks))) ∧ x = adR H R (n + j) (n + k)
theorem PlO.shift {pre g : List (Option Ob)} {R : Rm} {x : Ad} (h : PlO H pre.length g R x) : PlO H 0 (pre ++ g) R x := by
  rcases h with h | ⟨j, k, a, b, rfl⟩
  · exact .inl h
  · refine .inr ⟨pre.length + j, pre.length + k, ?_, ?_, by rw [Nat.zero_add, Nat.zero_add]⟩
    · rw [List.getElem?_append_right (by omega), Nat.add_sub_cancel_left]; exact a
    · rw [List.getElem?_append_right (by omega), Nat.add_sub_cancel_left]; exact b
theorem PlO.more {n : Nat} {g : List (Option Ob)} {R : Rm} {x : Ad} (h : PlO H n g R x) (L : List (Option Ob)) : PlO H n (g ++ L) R x := by
  rcases h with h | ⟨j, k, a, b, rfl⟩
  · exact .inl h
  · exact .inr ⟨j, k, by rw [List.getElem?_append_left (lt_of_get a)]; exact a, by rw [List.getElem?_append_left (lt_of_get b)]; exact b, rfl⟩
theorem PlO.rm {g : List (Option Ob)} {R : Rm} {x : Ad} (h : PlO H 0 g R x) (lm : R.ms.length ≤ 2000000) (lk : R.ks.length ≤ 2000000) : RmAt w0 (Hx H g) R x := by
  rcases h with ⟨rfl, h1, h2⟩ | ⟨j, k, a, b, rfl⟩
  · obtain ⟨n, q, ms, ks, s⟩ := R
    simp only at h1 h2
    subst h1 h2
    exact RmAt_nil _ _ _ _ _
  · rw [Nat.zero_add, Nat.zero_add]
    exact RmAt_own a b lm lk
theorem PlO.ow {g : List (Option Ob)} {R : Rm} {x : Ad} (h : PlO H 0 g R x) : RmOw w0 (Hx H g) R x := by
  rcases h with ⟨rfl, h1, h2⟩ | ⟨j, k, a, b, rfl⟩
  · obtain ⟨n, q, ms, ks, s⟩ := R
    simp only at h1 h2
    subst h1 h2
    exact RmOw_nil _ _ _ _ _
  · rw [Nat.zero_add, Nat.zero_add]
    exact RmOw_own a
theorem adR_Hx (L : List (Option Ob)) (R : Rm) (j k : Nat) : adR (Hx H L) R j k = adR H R (L.length + j) (L.length + k) := by
  unfold adR nid Hx
  simp [Nat.add_assoc]
theorem PlO.obs (L : List (Option Ob)) (R : Rm) (n : Nat) (hn : n ≤ L.length) : PlO H n (L.drop n ++ obsR R) R (adR (Hx H L) R 0 1) := by
  refine .inr ⟨L.length - n, L.length - n + 1, ?_, ?_, ?_⟩
  · rw [List.getElem?_append_right (by simp)]; simp [obsR]
  · rw [List.getElem?_append_right (by simp)]; simp [obsR]
  · rw [adR_Hx]; congr 1 <;> omega
theorem AFn_nil {P : Program} {w0 : World} {f : FuncId} {args : Array Value} {H : Hp} {Q : Value → Hp → Prop} (h : AFn P w0 f args (Hx H []) Q) : AFn P w0 f args H Q := by rwa [Hx_nil] at h
variable (w0 H)
set_option maxHeartbeats 4000000 in
theorem l8Room_ok (es : List En) (A : Option Addr) (c : Nat) (na : ByteArray) (hs : Sl w0 H A 9 (es.map En.enc)) (hl : es.length ≤ 1000) (hsm : ∀ e ∈ es, SmE e) : AFn Tryz.prog w0 19 #[.slice A es.length c, .string na] H fun v H2 => ∃ x g, v = .agg ((roomR na es).enc x).toArray ∧ H2 = Hx H g ∧ PlO H 0 g (roomR na es) x ∧ (x.a = none ∨ 1 ≤ (roomR na es).next) := by
  refine AFn_nil ?_
  refine AFn_of Tryz.func19 rfl (by kernel_rfl) ?_
  have r := Tryz.results19
  simp only [go_sem, cond, Nat.reduceAdd, Nat.reduceLeDiff, Nat.reduceEqDiff, Nat.reduceBEq, decide_true, decide_false, Int.toNat_natCast, r]
  refine xw_loop (fun (i : Nat) T H' => i ≤ es.length ∧ T 0 = .slice A es.length c ∧ T 1 = .string na ∧ T 4 = .pointer (some ⟨nid H 0, 0, some 5⟩) ∧ T 5 = .pointer (some ⟨nid H 1, 0, some 5⟩) ∧ T 6 = .int .i64 i ∧ ∃ R x g, H' = Hx H (some (.row 26 [.string em, .int .i64 0, .slice none 0 0, .slice none 0 0, .string em]) :: some (.row 26 (R.enc x)) :: g) ∧ PlO H 2 g R x ∧ runR na (es.drop i) R = roomR na es ∧ R.ms.length ≤ i ∧ R.ks.length ≤ i ∧ (x.a = none ∨ 1 ≤ R.next)) (fun i => es.length - i) 0 (by kernel_rfl) ⟨Nat.zero_le _, rfl, rfl, rfl, rfl, rfl, ⟨na, 0, [], [], em⟩, ⟨none, 0, none, 0⟩, [], rfl, .inl ⟨rfl, rfl, rfl⟩, rfl, Nat.le_refl _, Nat.le_refl _, .inl rfl⟩ ?_
  rintro i T H' ⟨hi, t0, t1, t4, t5, t6, R, x, g, rfl, hp, he, hm, hk, hx⟩
  by_cases hlt : i < es.length
  · obtain ⟨b, o, sp, rfl, hc, hw⟩ := mcell hs hlt
    have c0 := hc 0 (.string es[i].room) (some (.row 26 [.string em, .int .i64 0, .slice none 0 0, .slice none 0 0, .string em]) :: some (.row 26 (R.enc x)) :: g) (by decide) rfl
    have c1 := hw (some (.row 26 [.string em, .int .i64 0, .slice none 0 0, .slice none 0 0, .string em]) :: some (.row 26 (R.enc x)) :: g) rfl
    have d1 : ((i : Int) < (es.length : Int)) = True := eq_true (by omega)
    have d2 : (0 ≤ (i : Int)) = True := eq_true (by omega)
    rw [runR_drop _ _ i hlt] at he
    simp only [Rm.enc, En.enc] at c0 c1
    simp only [go_sem, cond, Nat.reduceAdd, Nat.reduceLeDiff, Nat.reduceEqDiff, Nat.reduceBEq, decide_true, decide_false, Int.toNat_natCast, Rm.enc, t0, t1, t4, t5, t6, d1, d2, c0, r]
    refine Br_intro ?_ ?_ <;> intro h <;> simp only [go_sem, cond, Nat.reduceAdd, Nat.reduceLeDiff, Nat.reduceEqDiff, Nat.reduceBEq, decide_true, decide_false, Int.toNat_natCast, Rm.enc, t0, t1, t4, t5, t6, d1, d2, c0, c1, r, h]
    · rw [stpR, if_pos h] at he
      (refine xw_open (id := 6) [0, 0, 0, 6, 14, 31, 63] [.q 1, .q 2, .q 3, .q 0, .q 4, .e 5, .e 6] rfl (by kernel_rfl) ?_; simp only [go_sem, cond, Nat.reduceAdd, Nat.reduceLeDiff, Nat.reduceEqDiff, Nat.reduceBEq, decide_true, decide_false, Int.toNat_natCast, Rm.enc, t0, t1, t4, t5, t6, d1, d2, c0, c1, r, h])
      refine call_eq (l6Apply_ok w0 _ R x es[i] ?_ ?_) ?_
      · exact (hp.shift (pre := [_, _])).rm (by omega) (by omega)
      · exact (hp.shift (pre := [_, _])).ow
      have hle := applyR_le R es[i]
      have hrg := applyR_rg R es[i] (hsm _ (List.getElem_mem hlt))
      obtain ⟨R', hR'⟩ : ∃ R', R' = applyR R es[i] := ⟨_, rfl⟩
      rw [← hR'] at he hle hrg ⊢
      rw [adR_Hx]
      simp only [go_sem, cond, Nat.reduceAdd, Nat.reduceLeDiff, Nat.reduceEqDiff, Nat.reduceBEq, decide_true, decide_false, Int.toNat_natCast, Rm.enc, t0, t1, t4, t5, t6, List.cons_append, List.set_cons_succ, List.set_cons_zero, r]
      refine ⟨i + 1, ⟨hlt, t0, t1, t4, t5, int_succ hlt (by omega), R', _, g ++ obsR R', rfl, .inr ⟨g.length, g.length + 1, ?_, ?_, ?_⟩, he, by omega, by omega, .inr hrg.1⟩, lt_meas hlt⟩
      · rw [List.getElem?_append_right (by omega)]; simp [obsR]
      · rw [List.getElem?_append_right (by omega)]; simp [obsR]
      · congr 1 <;> first | omega | (simp only [List.length_cons]; omega)
    · rw [stpR, if_neg (by rw [h]; decide)] at he
      exact ⟨i + 1, ⟨hlt, t0, t1, t4, t5, int_succ hlt (by omega), R, x, g, rfl, hp, he, by omega, by omega, hx⟩, lt_meas hlt⟩
  · obtain rfl : i = es.length := by omega
    have d1 : ((es.length : Int) < (es.length : Int)) = False := eq_false (by omega)
    rw [List.drop_length] at he
    simp only [go_sem, cond, Nat.reduceAdd, Nat.reduceLeDiff, Nat.reduceEqDiff, Nat.reduceBEq, decide_true, decide_false, Int.toNat_natCast, Rm.enc, t0, t1, t4, t5, t6, d1, r]
    simp only [runR, List.foldl_nil] at he
    subst he
    exact ⟨x, _, rfl, rfl, hp.shift (pre := [_, _]), hx⟩
end Go.Proofs.YtmacpgoclhgafaaGreatDoorW.FA

namespace Go.Proofs.YtmacpgoclhgafaaGreatDoorW.FA
open Go.RowKit Go.Proofs.YtmacpgoclhgafaaGreatDoorW.XM Go.Proofs Go.Proofs.YtmacpgoclhgafaaGreatDoorW.XWords
set_option maxRecDepth 100000
set_option linter.unusedSimpArgs false
set_option linter.unusedVariables false
structure NmR (R : Rm) : Prop where
  ms : ∀ m ∈ R.ms, nmB m.user = true
  ks : ∀ k ∈ R.ks, nmB k.user = true
theorem applyR_nm (R : Rm) (e : En) (hb : NmR R) (he : nmB e.user = true) : NmR (applyR R e) := by
  have hm := hb.ms
  have hk := hb.ks
  unfold applyR
  repeat' split
  all_goals refine ⟨?_, ?_⟩
  all_goals first
    | exact hm
    | exact hk
    | skip
  · intro m h
    rcases List.mem_append.1 h with h | h
    · exact hm m h
    · simp only [List.mem_singleton] at h
      subst h
      exact he
  · exact fun m h => hm m ((outI_mem _ _).2 m h)
  · intro m h
    obtain ⟨y, h1, h2, h3⟩ := (roleI_mem _ _ _).2 m h
    rw [h2]
    exact hm y h1
  · intro k h
    rcases (rkd_mem _ _ _).2 k h with h | h
    · exact hk k h
    · subst h; exact he
theorem stpR_nm (na : ByteArray) (R : Rm) (e : En) (hb : NmR R) (he : nmB e.user = true) : NmR (stpR na R e) := by
  unfold stpR
  split
  · exact applyR_nm R e hb he
  · exact hb
theorem runR_nm (na : ByteArray) : ∀ (es : List En) (R : Rm), NmR R → (∀ e ∈ es, nmB e.user = true) → NmR (runR na es R)
  | [], R, h, _ => h
  | e :: es, R, h, he => runR_nm na es (stpR na R e) (stpR_nm na R e h (he e (by simp))) (fun x hx => he x (by simp [hx]))
theorem roomR_nm (na : ByteArray) (es : List En) (he : ∀ e ∈ es, nmB e.user = true) : NmR (roomR na es) := runR_nm na es _ ⟨by simp, by simp⟩ he
theorem doR_nm (R : Rm) (log : List En) (u : ByteArray) (s : Sy) (hR : NmR R) (hu : nmB u = true) (hs : nmB s.name = true) : ∀ e ∈ (doR R log u s).1, nmB e.user = true := by
  have mk : ∀ (ro : ByteArray) (se k n : Int) (us ni te i re : ByteArray), nmB us = true → nmB (⟨ro, se, k, us, ni, te, i, re, n⟩ : En).user = true := fun ro se k n us ni te i re h => h
  unfold doR
  split
  · simp
  split
  · unfold joinR
    repeat' split
    all_goals intro e he
    all_goals simp only [List.mem_cons, List.not_mem_nil, or_false] at he
    · rcases he with rfl | rfl <;> exact mk _ _ _ _ _ _ _ _ _ hu
    · subst he
      exact mk _ _ _ _ _ _ _ _ _ hu
  split
  · simp
  unfold insR
  split
  · intro e he
    simp only [List.mem_singleton] at he
    subst he
    exact mk _ _ _ _ _ _ _ _ _ hu
  split
  · split
    · simp
    repeat' split
    all_goals intro e he
    all_goals simp only [List.mem_cons, List.not_mem_nil, or_false] at he
    subst he
    exact mk _ _ _ _ _ _ _ _ _ hu
  split
  · split
    · simp
    repeat' split
    all_goals intro e he
    all_goals simp only [List.mem_cons, List.not_mem_nil, or_false] at he
    subst he
    exact mk _ _ _ _ _ _ _ _ _ hu
  split
  · unfold roleR
    split
    · simp
    split
    · simp
    split
    · simp
    rename_i m hm
    repeat' split
    all_goals intro e he
    all_goals simp only [List.mem_cons, List.not_mem_nil, or_false] at he
    subst he
    exact mk _ _ _ _ _ _ _ _ _ (hR.ms m (List.mem_of_find?_eq_some hm))
  · unfold setR
    repeat' split
    all_goals first
      | (simp only [List.not_mem_nil, false_implies, implies_true]; done)
      | skip
    unfold setL ent6
    split
    · intro e he
      simp only [List.mem_cons, List.not_mem_nil, or_false] at he
      subst he
      exact mk _ _ _ _ _ _ _ _ _ hs
    repeat' split
    all_goals intro e he
    all_goals simp only [List.mem_cons, List.not_mem_nil, or_false] at he
    · rcases he with rfl | rfl <;> exact mk _ _ _ _ _ _ _ _ _ hs
    · rcases he with rfl | rfl <;> exact mk _ _ _ _ _ _ _ _ _ hs
    · subst he
      exact mk _ _ _ _ _ _ _ _ _ hs
end Go.Proofs.YtmacpgoclhgafaaGreatDoorW.FA

namespace Go.Proofs.YtmacpgoclhgafaaGreatDoorW.FA
open Go.RowKit Go.Proofs.YtmacpgoclhgafaaGreatDoorW.XM Go.Proofs Go.Proofs.YtmacpgoclhgafaaGreatDoorW.XWords
set_option maxRecDepth 100000
set_option linter.unusedSimpArgs false
set_option linter.unusedVariables false
variable (w0 : World) (H : Hp)
/-- A log that deeds have made, one behind the other. -/
inductive LogD : List En → Prop
  | nil : LogD []
  | add {es : List En} (na u : ByteArray) (s : Sy) : LogD es → na.size ≤ 100000 → u.size ≤ 100000 → SmS s → nmB u = true → nmB s.name = true → LogD (es ++ (doR (roomR na es) es u s).1)
theorem LogD.sm {es : List En} (h : LogD es) : ∀ e ∈ es, SmE e := by
  induction h with
  | nil => simp
  | add na u s h h1 h2 h3 _ _ ih =>
    intro e he
    rcases List.mem_append.1 he with he | he
    · exact ih e he
    · exact (doR_sm _ _ _ _ (roomR_ok _ _ h1 ih).1 (runR_rg _ _ _ ih (by simp)) h2 h3).2 e he
theorem LogD.nm {es : List En} (h : LogD es) : ∀ e ∈ es, nmB e.user = true := by
  induction h with
  | nil => simp
  | add na u s h h1 h2 h3 h4 h5 ih =>
    intro e he
    rcases List.mem_append.1 he with he | he
    · exact ih e he
    · exact doR_nm _ _ _ _ (roomR_nm na _ ih) h4 h5 e he
theorem LogD.le {es : List En} (h : LogD es) (na u : ByteArray) (s : Sy) (h1 : na.size ≤ 100000) (h2 : u.size ≤ 100000) (h3 : SmS s) : (doR (roomR na es) es u s).1.length ≤ 3 := (doR_sm _ _ _ _ (roomR_ok _ _ h1 h.sm).1 (runR_rg _ _ _ h.sm (by simp)) h2 h3).1
theorem elen (m : En) : m.enc.length = 9 := rfl
theorem SyOk.sm {s : Sy} (h : SyOk s) : SmS s := ⟨by have := h.nick; omega, by have := h.name; omega, by have := h.text; omega, by have := h.id; omega, by have := h.ref; omega⟩
theorem PlO.rm' {B : Hp} {L g : List (Option Ob)} {R : Rm} {x : Ad} (h : PlO (Hx B L) 0 g R x) {M : List (Option Ob)} (hM : M = L ++ g) (lm : R.ms.length ≤ 2000000) (lk : R.ks.length ≤ 2000000) : RmAt w0 (Hx B M) R x := by
  subst hM
  rw [← Hx_Hx]
  exact h.rm lm lk
theorem PlO.rm2 {B : Hp} {L g r : List (Option Ob)} {R : Rm} {x : Ad} (h : PlO (Hx B L) 0 g R x) {M : List (Option Ob)} (hM : M = L ++ (g ++ r)) (lm : R.ms.length ≤ 2000000) (lk : R.ks.length ≤ 2000000) : RmAt w0 (Hx B M) R x := by
  subst hM
  rw [← Hx_Hx]
  exact (h.more r).rm lm lk
theorem esV_ne {H : Hp} {fs : List En} (h : fs ≠ []) : esV H fs = .slice (some ⟨nid H 0, 0, some (fs.length * 9)⟩) fs.length fs.length := by
  cases fs with
  | nil => exact absurd rfl h
  | cons e t => rfl
theorem esO_ne {fs : List En} (h : fs ≠ []) : esO fs = [some (.row 38 (flat En.enc fs))] := by
  cases fs with
  | nil => exact absurd rfl h
  | cons e t => rfl
theorem esV_nil (H : Hp) : esV H [] = .slice none 0 0 := rfl
theorem esO_nil : esO [] = [] := rfl
theorem rd_fs (fs : List En) : rdO (some (some (.row 38 (flat En.enc fs)))) 0 (fs.length * 9) (fs.length * 9) = some (flat En.enc fs) := by
  rw [rdO_row, if_pos ⟨flat_len elen fs, by rw [flat_len elen]; omega⟩, List.drop_zero, List.take_of_length_le (by rw [flat_len elen]; exact Nat.le_refl _)]
set_option maxHeartbeats 20000000 in
theorem l16Log_ok (D : Cd) (B : Hp) (l : List (Option Ob)) (q p : Nat) (hD : CdOk w0 D) (hq : l[q]? = some (dr D p)) (hp : p ≤ 300000) : AFn Tryz.prog w0 18 #[.pointer (some ⟨nid B q, 0, some 2⟩)] (Hx B l) fun v H2 => ∃ p' es k g, H2 = Hx B (l.set q (dr D p') ++ g) ∧ p ≤ p' ∧ p' ≤ p + 2000 ∧ LogD es ∧ es.length ≤ 100 ∧ v = .slice (some ⟨nid B (l.length + k), 0, some (es.length * 9)⟩) es.length es.length ∧ g[k]? = some (some (.row 38 (flat En.enc es))) := by
  have hlq := lt_of_get hq
  have e : Hx B l = Hx B (l.set q (dr D p)) := by conv => lhs; rw [set_same hq, List.append_nil]
  rw [e]
  obtain ⟨sA, gQ, gR, gR0, sR, sR0⟩ := dset hlq
  have gs : ∀ X : Option Ob, (l.set q X)[q]? = some X := fun X => by rw [List.getElem?_set_self hlq]
  have hb : ∀ (g : List (Option Ob)) (Y : Option Ob) (r : List (Option Ob)), (g ++ Y :: r)[g.length]? = some Y := fun g Y r => by rw [List.getElem?_append_right (Nat.le_refl _)]; simp
  have gi : ∀ (g r : List (Option Ob)) (k : Nat), (g ++ r)[g.length + k]? = r[k]? := fun g r k => by rw [List.getElem?_append_right (by omega)]; simp
  have si : ∀ (g r : List (Option Ob)) (k : Nat) (Z : Option Ob), (g ++ r).set (g.length + k) Z = g ++ r.set k Z := fun g r k Z => by rw [List.set_append_right _ _ (by omega)]; simp
  have si0 : ∀ (g r : List (Option Ob)) (Z : Option Ob), (g ++ r).set g.length Z = g ++ r.set 0 Z := fun g r Z => by rw [List.set_append_right _ _ (by omega)]; simp
  refine AFn_of Tryz.func18 rfl (by kernel_rfl) ?_
  have r := Tryz.results18
  simp only [go_sem, cond, Nat.reduceAdd, Nat.reduceLeDiff, Nat.reduceEqDiff, Nat.reduceBEq, decide_true, decide_false, Int.toNat_natCast, r, sA, gQ, gR, gR0, sR, sR0, List.set_set, List.append_assoc, List.length_append, List.length_set, List.singleton_append, List.cons_append, List.nil_append]
  refine Req_intro ⟨_, rfl, rfl⟩ ?_
  simp only [go_sem, cond, Nat.reduceAdd, Nat.reduceLeDiff, Nat.reduceEqDiff, Nat.reduceBEq, decide_true, decide_false, Int.toNat_natCast, r, sA, gQ, gR, gR0, sR, sR0, List.set_set, List.append_assoc, List.length_append, List.length_set, List.singleton_append, List.cons_append, List.nil_append]
  refine bsV_dense ⟨_, XF.zer_3, rfl⟩ rfl rfl (by decide) rfl ?_
  simp only [go_sem, cond, Nat.reduceAdd, Nat.reduceLeDiff, Nat.reduceEqDiff, Nat.reduceBEq, decide_true, decide_false, Int.toNat_natCast, r, sA, gQ, gR, gR0, sR, sR0, List.set_set, List.append_assoc, List.length_append, List.length_set, List.singleton_append, List.cons_append, List.nil_append]
  refine call (one_ok w0 D hD B _ q _ _ _ _ _ (gQ _ _) (by omega) (gR _ _ 1) rfl rfl (by decide) (by decide) (by decide)) ?_
  rintro v H2 ⟨many, -, -, hmem, rfl, rfl⟩
  have hm : 0 ≤ many ∧ many ≤ 22 := by
    simp only [List.mem_cons, List.not_mem_nil, or_false, Value.int.injEq, true_and] at hmem
    omega
  clear hmem
  obtain ⟨m, rfl⟩ : ∃ m : Nat, many = (m : Int) := ⟨many.toNat, by omega⟩
  simp only [go_sem, cond, Nat.reduceAdd, Nat.reduceLeDiff, Nat.reduceEqDiff, Nat.reduceBEq, decide_true, decide_false, Int.toNat_natCast, r, sA, gQ, gR, gR0, sR, sR0, List.set_set, List.append_assoc, List.length_append, List.length_set, List.singleton_append, List.cons_append, List.nil_append]
  refine xw_loop (fun (i : Nat) T H' => i ≤ 3 ∧ T 0 = .pointer (some ⟨nid B q, 0, some 2⟩) ∧ T 4 = .int .i64 (m : Int) ∧ T 5 = .int .i64 i ∧ ∃ es g, LogD es ∧ es.length ≤ 3 * i ∧ T 3 = .slice (some ⟨nid B l.length, 0, some (es.length * 9)⟩) es.length es.length ∧ H' = Hx B (l.set q (dr D (p + 1)) ++ some (.row 38 (flat En.enc es)) :: g)) (fun i => 3 - i) 0 (by kernel_rfl) ⟨Nat.zero_le _, rfl, rfl, rfl, [], _, .nil, Nat.le_refl _, rfl, rfl⟩ ?_
  rintro i T H' ⟨hi, t0, t4, t5, es, g, hes, hlen, t3, rfl⟩
  by_cases hmi : i < m
  · have d1 : ((i : Int) < (m : Int)) = True := eq_true (by omega)
    by_cases hi3 : i < 3
    · have d2 : ((i : Int) < 3) = True := eq_true (by omega)
      have d3 : ((0 : Int) ≤ (i : Int)) = True := eq_true (by omega)
      have hi' : i = 0 ∨ i = 1 ∨ i = 2 := by omega
      obtain ⟨us, ⟨hus, hun⟩, c0⟩ : ∃ us : ByteArray, (us.size ≤ 100000 ∧ nmB us = true) ∧ rdO (some (some (.row 9 [.string (ByteArray.mk #[97, 110, 110]), .string (ByteArray.mk #[98, 111, 98]), .string (ByteArray.mk #[99, 121, 100])]))) (i * 1) (3 * 1) 1 = some [.string us] := by
        rcases hi' with rfl | rfl | rfl
        · exact ⟨ByteArray.mk #[97, 110, 110], ⟨by decide, by decide⟩, rfl⟩
        · exact ⟨ByteArray.mk #[98, 111, 98], ⟨by decide, by decide⟩, rfl⟩
        · exact ⟨ByteArray.mk #[99, 121, 100], ⟨by decide, by decide⟩, rfl⟩
      obtain ⟨ni, hni, c1⟩ : ∃ us : ByteArray, us.size ≤ 100000 ∧ rdO (some (some (.row 9 [.string (ByteArray.mk #[65, 110, 110]), .string (ByteArray.mk #[66, 111, 98]), .string (ByteArray.mk #[67, 121, 100])]))) (i * 1) (3 * 1) 1 = some [.string us] := by
        rcases hi' with rfl | rfl | rfl
        · exact ⟨ByteArray.mk #[65, 110, 110], by decide, rfl⟩
        · exact ⟨ByteArray.mk #[66, 111, 98], by decide, rfl⟩
        · exact ⟨ByteArray.mk #[67, 121, 100], by decide, rfl⟩
      simp only [go_sem, cond, Nat.reduceAdd, Nat.reduceLeDiff, Nat.reduceEqDiff, Nat.reduceBEq, decide_true, decide_false, Int.toNat_natCast, r, sA, gQ, gR, gR0, sR, sR0, List.set_set, List.append_assoc, List.length_append, List.length_set, List.singleton_append, List.cons_append, List.nil_append, t0, t3, t4, t5, d1, d2, d3]
      refine bsV_dense ⟨_, XF.zer_9, rfl⟩ rfl rfl (by decide) rfl ?_
      simp only [go_sem, cond, Nat.reduceAdd, Nat.reduceLeDiff, Nat.reduceEqDiff, Nat.reduceBEq, decide_true, decide_false, Int.toNat_natCast, r, sA, gQ, gR, gR0, sR, sR0, List.set_set, List.append_assoc, List.length_append, List.length_set, List.singleton_append, List.cons_append, List.nil_append, t0, t3, t4, t5, d1, d2, d3]
      refine Req_intro (by omega) ?_
      simp only [go_sem, cond, Nat.reduceAdd, Nat.reduceLeDiff, Nat.reduceEqDiff, Nat.reduceBEq, decide_true, decide_false, Int.toNat_natCast, r, sA, gQ, gR, gR0, sR, sR0, List.set_set, List.append_assoc, List.length_append, List.length_set, List.singleton_append, List.cons_append, List.nil_append, t0, t3, t4, t5, d1, d2, d3, hb, gi, si, si0, List.set_cons_zero, List.set_cons_succ, c0]
      (refine xw_tree (id := 7) [0, 1, 0, 0, 0, 0, 48, 112, 240, 511, 1023, 2047, 2047, 4095, 16383] (.q 0 (.q 2 (.q 3 (.q 5 (.b 1 (.e 4 (.q 6 (.q 7 (.e 8 (.e 9 (.q 10 (.q 11 (.q 12 (.q 13 (.q 14 .z)))))))))) 4 (.q 6 (.l 7 (.b 1 (.d 7 (.e 8 (.e 9 (.q 10 (.q 11 (.q 12 (.q 13 (.q 14 .z)))))))) 8 (.e 1 (.d 7 (.e 9 (.q 10 (.q 11 (.q 12 (.q 13 (.q 14 .z)))))))))))))))) rfl (by kernel_rfl) ?_; simp only [go_sem, cond, Nat.reduceAdd, Nat.reduceLeDiff, Nat.reduceEqDiff, Nat.reduceBEq, decide_true, decide_false, Int.toNat_natCast, r, sA, gQ, gR, gR0, sR, sR0, List.set_set, List.append_assoc, List.length_append, List.length_set, List.singleton_append, List.cons_append, List.nil_append, t0, t3, t4, t5, d1, d2, d3, hb, gi, si, si0, List.set_cons_zero, List.set_cons_succ])
      have hro := roomR_ok (ByteArray.mk #[100, 101, 110]) es (by decide) hes.sm
      repeat' (first
        | (refine Both_intro ?_ ?_ <;> simp only [go_sem, cond, Nat.reduceAdd, Nat.reduceLeDiff, Nat.reduceEqDiff, Nat.reduceBEq, decide_true, decide_false, Int.toNat_natCast, r, sA, gQ, gR, gR0, sR, sR0, List.set_set, List.append_assoc, List.length_append, List.length_set, List.singleton_append, List.cons_append, List.nil_append, t0, t3, t4, t5, d1, d2, d3, hb, gi, si, si0, List.set_cons_zero, List.set_cons_succ, c1])
        | (refine call (l8Room_ok w0 _ es _ _ _ (Sl_own elen _ es B _ _ (gR0 _ _)) (by omega) hes.sm) ?_; rintro v H2 ⟨x, g2, rfl, rfl, hpl, -⟩; simp only [go_sem, cond, Nat.reduceAdd, Nat.reduceLeDiff, Nat.reduceEqDiff, Nat.reduceBEq, decide_true, decide_false, Int.toNat_natCast, r, sA, gQ, gR, gR0, sR, sR0, List.set_set, List.append_assoc, List.length_append, List.length_set, List.singleton_append, List.cons_append, List.nil_append, t0, t3, t4, t5, d1, d2, d3, hb, gi, si, si0, List.set_cons_zero, List.set_cons_succ, c1])
        | (refine bsV_dense ⟨_, XF.zer_9, rfl⟩ rfl rfl (by decide) rfl ?_; simp only [go_sem, cond, Nat.reduceAdd, Nat.reduceLeDiff, Nat.reduceEqDiff, Nat.reduceBEq, decide_true, decide_false, Int.toNat_natCast, r, sA, gQ, gR, gR0, sR, sR0, List.set_set, List.append_assoc, List.length_append, List.length_set, List.singleton_append, List.cons_append, List.nil_append, t0, t3, t4, t5, d1, d2, d3, hb, gi, si, si0, List.set_cons_zero, List.set_cons_succ, c1])
        | (refine Req_intro (by omega) ?_; simp only [go_sem, cond, Nat.reduceAdd, Nat.reduceLeDiff, Nat.reduceEqDiff, Nat.reduceBEq, decide_true, decide_false, Int.toNat_natCast, r, sA, gQ, gR, gR0, sR, sR0, List.set_set, List.append_assoc, List.length_append, List.length_set, List.singleton_append, List.cons_append, List.nil_append, t0, t3, t4, t5, d1, d2, d3, hb, gi, si, si0, List.set_cons_zero, List.set_cons_succ, c1]))
      all_goals
        have hadd := LogD.add (ByteArray.mk #[100, 101, 110]) us ⟨6, ByteArray.mk #[100, 101, 110], ni, em, em, em, em, 0, 0, 0⟩ hes (by decide) hus ⟨hni, em_sm, em_sm, em_sm, em_sm⟩ hun nm_em
        have hle := hes.le (ByteArray.mk #[100, 101, 110]) us ⟨6, ByteArray.mk #[100, 101, 110], ni, em, em, em, em, 0, 0, 0⟩ (by decide) hus ⟨hni, em_sm, em_sm, em_sm, em_sm⟩
        first
          | (refine call_eq (l6Do_ok w0 _ (roomR (ByteArray.mk #[100, 101, 110]) es) x es _ _ us ⟨6, ByteArray.mk #[100, 101, 110], ni, em, em, em, em, 0, 0, 0⟩ (PlO.rm' w0 hpl ?_ (by omega) (by omega)) (Sl_own elen _ es B _ _ (gR0 _ _)) (by omega)) ?_
             · simp only [List.append_assoc, List.cons_append, List.nil_append]
               done)
          | (refine call_eq (l6Do_ok w0 _ (roomR (ByteArray.mk #[100, 101, 110]) es) x es _ _ us ⟨6, ByteArray.mk #[100, 101, 110], ni, em, em, em, em, 0, 0, 0⟩ (PlO.rm2 w0 (r := [some (.row 9 [.string (ByteArray.mk #[65, 110, 110]), .string (ByteArray.mk #[66, 111, 98]), .string (ByteArray.mk #[67, 121, 100])])]) hpl ?_ (by omega) (by omega)) (Sl_own elen _ es B _ _ (gR0 _ _)) (by omega)) ?_
             · simp only [List.append_assoc, List.cons_append, List.nil_append]
               done)
        generalize doR _ _ _ _ = rs at *
        obtain ⟨fs, code⟩ := rs
        simp only at hadd hle
        by_cases hf : fs = []
        · subst hf
          simp only [go_sem, cond, Nat.reduceAdd, Nat.reduceLeDiff, Nat.reduceEqDiff, Nat.reduceBEq, decide_true, decide_false, Int.toNat_natCast, r, sA, gQ, gR, gR0, sR, sR0, List.set_set, List.append_assoc, List.length_append, List.length_set, List.singleton_append, List.cons_append, List.nil_append, t0, t3, t4, t5, hb, gi, si, si0, List.set_cons_zero, List.set_cons_succ, deedV, esV_nil, esO_nil]
          refine appS_full (m := 0) (sl := es.length) _ _ _ _ _ _ _ l.length _ _ _ (gR0 _ _) rfl (flat_len elen _) XF.lay_38 (by decide) (by rfl) (by omega) (by omega) ?_
          simp only [go_sem, cond, Nat.reduceAdd, Nat.reduceLeDiff, Nat.reduceEqDiff, Nat.reduceBEq, decide_true, decide_false, Int.toNat_natCast, r, sA, gQ, gR, gR0, sR, sR0, List.set_set, List.append_assoc, List.length_append, List.length_set, List.singleton_append, List.cons_append, List.nil_append, t0, t3, t4, t5, hb, gi, si, si0, List.set_cons_zero, List.set_cons_succ, List.append_nil]
          rw [List.append_nil] at hadd
          exact ⟨i + 1, ⟨by omega, t0, t4, int_succ hi3 (by omega), es, _, hes, by omega, rfl, rfl⟩, lt_meas hi3⟩
        · have v1 := fun H => esV_ne (H := H) hf
          have v2 := esO_ne hf
          have v3 := rd_fs fs
          simp only [go_sem, cond, Nat.reduceAdd, Nat.reduceLeDiff, Nat.reduceEqDiff, Nat.reduceBEq, decide_true, decide_false, Int.toNat_natCast, r, sA, gQ, gR, gR0, sR, sR0, List.set_set, List.append_assoc, List.length_append, List.length_set, List.singleton_append, List.cons_append, List.nil_append, t0, t3, t4, t5, hb, gi, si, si0, List.set_cons_zero, List.set_cons_succ, deedV, v1, v2, v3, Nat.add_zero]
          refine appS_full (m := fs.length) (sl := es.length) _ _ _ _ _ _ _ l.length _ _ _ (gR0 _ _) rfl (flat_len elen _) XF.lay_38 (by decide) (flat_len elen _) (by omega) (by omega) ?_
          simp only [go_sem, cond, Nat.reduceAdd, Nat.reduceLeDiff, Nat.reduceEqDiff, Nat.reduceBEq, decide_true, decide_false, Int.toNat_natCast, r, sA, gQ, gR, gR0, sR, sR0, List.set_set, List.append_assoc, List.length_append, List.length_set, List.singleton_append, List.cons_append, List.nil_append, t0, t3, t4, t5, hb, gi, si, si0, List.set_cons_zero, List.set_cons_succ]
          refine ⟨i + 1, ⟨by omega, t0, t4, int_succ hi3 (by omega), es ++ fs, _, hadd, by rw [List.length_append]; omega, by rw [List.length_append]; rfl, by rw [flat_app]⟩, lt_meas hi3⟩
    · have d2 : ((i : Int) < 3) = False := eq_false (by omega)
      simp only [go_sem, cond, Nat.reduceAdd, Nat.reduceLeDiff, Nat.reduceEqDiff, Nat.reduceBEq, decide_true, decide_false, Int.toNat_natCast, r, sA, gQ, gR, gR0, sR, sR0, List.set_set, List.append_assoc, List.length_append, List.length_set, List.singleton_append, List.cons_append, List.nil_append, t0, t3, t4, t5, d1, d2]
      have t0' := t0
      have t3' := t3
      clear d1 t0 t3 t4 t5 hmi
      refine xw_loop (fun (i : Nat) T H' => i ≤ 22 ∧ T 0 = .pointer (some ⟨nid B q, 0, some 2⟩) ∧ T 9 = .int .i64 i ∧ ∃ p' es g, p ≤ p' ∧ p' + i * 80 ≤ p + 2000 ∧ LogD es ∧ es.length ≤ 60 ∧ T 3 = .slice (some ⟨nid B l.length, 0, some (es.length * 9)⟩) es.length es.length ∧ H' = Hx B (l.set q (dr D p') ++ some (.row 38 (flat En.enc es)) :: g)) (fun i => i) m (by kernel_rfl) ⟨by omega, t0', rfl, p + 1, es, g, by omega, by omega, hes, by omega, t3', rfl⟩ ?_
      clear hlen hes t0' t3'
      clear es g
      rintro i T H' ⟨hi, t0, t9, p', es, g, hp1, hp2, hes, hlen, t3, rfl⟩
      by_cases hpos : 0 < i
      · obtain ⟨i, rfl⟩ : ∃ j, i = j + 1 := ⟨i - 1, by omega⟩
        have d1 : ((0 : Int) < ((i + 1 : Nat) : Int)) = True := eq_true (by omega)
        have wr : IntKind.i64.wrap (((i + 1 : Nat) : Int) - 1) = (i : Int) := by rw [wrap_i64 (by omega) (by omega)]; omega
        simp only [go_sem, cond, Nat.reduceAdd, Nat.reduceLeDiff, Nat.reduceEqDiff, Nat.reduceBEq, decide_true, decide_false, Int.toNat_natCast, r, sA, gQ, gR, gR0, sR, sR0, List.set_set, List.append_assoc, List.length_append, List.length_set, List.singleton_append, List.cons_append, List.nil_append, t0, t3, t9, d1]
        refine call (l16Say_nm w0 D B _ q _ hD (gQ _ _) (by omega)) ?_
        rintro v H2 ⟨p1, rfl, h1, h2, ⟨y1, y2, y3, y4, y5, y6, y7, y8, y9, y10⟩, ⟨hy, hyn⟩, rfl⟩
        have hy' := hy.sm
        have hyr : y2.size ≤ 500 := hy.room
        clear hy
        simp only [go_sem, cond, Nat.reduceAdd, Nat.reduceLeDiff, Nat.reduceEqDiff, Nat.reduceBEq, decide_true, decide_false, Int.toNat_natCast, r, sA, gQ, gR, gR0, sR, sR0, List.set_set, List.append_assoc, List.length_append, List.length_set, List.singleton_append, List.cons_append, List.nil_append, t0, t3, t9, d1, hb, gi, si, si0, List.set_cons_zero, List.set_cons_succ, wr, Sy.enc]
        refine call (l16User_nm w0 D B _ q _ hD (gQ _ _) (by omega)) ?_
        rintro v H2 ⟨p2, rfl, h3, h4, us, ⟨hus, hun⟩, rfl⟩
        simp only [go_sem, cond, Nat.reduceAdd, Nat.reduceLeDiff, Nat.reduceEqDiff, Nat.reduceBEq, decide_true, decide_false, Int.toNat_natCast, r, sA, gQ, gR, gR0, sR, sR0, List.set_set, List.append_assoc, List.length_append, List.length_set, List.singleton_append, List.cons_append, List.nil_append, t0, t3, t9, d1, hb, gi, si, si0, List.set_cons_zero, List.set_cons_succ, wr]
        refine call (pick_ok w0 D hD B _ q _ _ (gQ _ _) (by omega)) ?_
        rintro v H2 ⟨k, rfl, -, -, rfl⟩
        simp only [go_sem, cond, Nat.reduceAdd, Nat.reduceLeDiff, Nat.reduceEqDiff, Nat.reduceBEq, decide_true, decide_false, Int.toNat_natCast, r, sA, gQ, gR, gR0, sR, sR0, List.set_set, List.append_assoc, List.length_append, List.length_set, List.singleton_append, List.cons_append, List.nil_append, t0, t3, t9, d1, hb, gi, si, si0, List.set_cons_zero, List.set_cons_succ, wr]
        refine Br_intro ?_ ?_ <;> intro h0 <;> simp only [go_sem, cond, Nat.reduceAdd, Nat.reduceLeDiff, Nat.reduceEqDiff, Nat.reduceBEq, decide_true, decide_false, Int.toNat_natCast, r, sA, gQ, gR, gR0, sR, sR0, List.set_set, List.append_assoc, List.length_append, List.length_set, List.singleton_append, List.cons_append, List.nil_append, t0, t3, t9, d1, hb, gi, si, si0, List.set_cons_zero, List.set_cons_succ, wr, h0]
        · refine call (l16Room_ok w0 D B _ q _ hD (gQ _ _) (by omega)) ?_
          rintro v H2 ⟨p3, rfl, h5, h6, ro, hro0, rfl⟩
          simp only [go_sem, cond, Nat.reduceAdd, Nat.reduceLeDiff, Nat.reduceEqDiff, Nat.reduceBEq, decide_true, decide_false, Int.toNat_natCast, r, sA, gQ, gR, gR0, sR, sR0, List.set_set, List.append_assoc, List.length_append, List.length_set, List.singleton_append, List.cons_append, List.nil_append, t0, t3, t9, d1, hb, gi, si, si0, List.set_cons_zero, List.set_cons_succ, wr]
          refine call (l16Nick_ok w0 D B _ q _ hD (gQ _ _) (by omega)) ?_
          rintro v H2 ⟨p4, rfl, h7, h8, ni, hni, rfl⟩
          simp only [go_sem, cond, Nat.reduceAdd, Nat.reduceLeDiff, Nat.reduceEqDiff, Nat.reduceBEq, decide_true, decide_false, Int.toNat_natCast, r, sA, gQ, gR, gR0, sR, sR0, List.set_set, List.append_assoc, List.length_append, List.length_set, List.singleton_append, List.cons_append, List.nil_append, t0, t3, t9, d1, hb, gi, si, si0, List.set_cons_zero, List.set_cons_succ, wr]
          (refine xw_open (id := 17) [0, 0, 2, 7, 0, 0, 0, 127, 255, 511, 511, 1023, 4095] [.q 0, .q 1, .q 4, .q 5, .q 2, .l 6, .e 3, .d 6, .e 7, .q 8, .q 9, .q 10, .q 11, .q 12] rfl (by kernel_rfl) ?_; simp only [go_sem, cond, Nat.reduceAdd, Nat.reduceLeDiff, Nat.reduceEqDiff, Nat.reduceBEq, decide_true, decide_false, Int.toNat_natCast, r, sA, gQ, gR, gR0, sR, sR0, List.set_set, List.append_assoc, List.length_append, List.length_set, List.singleton_append, List.cons_append, List.nil_append, t0, t3, t9, d1, hb, gi, si, si0, List.set_cons_zero, List.set_cons_succ, wr])
          have hS : SmS ⟨6, ro, ni, em, em, em, em, 0, 0, 0⟩ := ⟨by show ni.size ≤ 100000; omega, em_sm, em_sm, em_sm, em_sm⟩
          have hro := roomR_ok ro es (by omega) hes.sm
          refine call (l8Room_ok w0 _ es _ _ _ (Sl_own elen _ es B _ _ (gR0 _ _)) (by omega) hes.sm) ?_
          rintro v H2 ⟨x, g2, rfl, rfl, hpl, -⟩
          simp only [go_sem, cond, Nat.reduceAdd, Nat.reduceLeDiff, Nat.reduceEqDiff, Nat.reduceBEq, decide_true, decide_false, Int.toNat_natCast, r, sA, gQ, gR, gR0, sR, sR0, List.set_set, List.append_assoc, List.length_append, List.length_set, List.singleton_append, List.cons_append, List.nil_append, t0, t3, t9, d1, hb, gi, si, si0, List.set_cons_zero, List.set_cons_succ, wr]
          have hadd := LogD.add ro us ⟨6, ro, ni, em, em, em, em, 0, 0, 0⟩ hes (by omega) (by omega) hS hun nm_em
          have hle := hes.le ro us ⟨6, ro, ni, em, em, em, em, 0, 0, 0⟩ (by omega) (by omega) hS
          refine call_eq (l6Do_ok w0 _ (roomR ro es) x es _ _ us ⟨6, ro, ni, em, em, em, em, 0, 0, 0⟩ (PlO.rm' w0 hpl ?_ (by omega) (by omega)) (Sl_own elen _ es B _ _ (gR0 _ _)) (by omega)) ?_
          · simp only [List.append_assoc, List.cons_append, List.nil_append]
          generalize doR _ _ _ _ = rs at *
          obtain ⟨fs, code⟩ := rs
          simp only at hadd hle
          have wl : IntKind.i64.wrap ((es.length : Int) + (fs.length : Int)) = ((es.length + fs.length : Nat) : Int) := by rw [wrap_i64 (by omega) (by omega)]; omega
          by_cases hf : fs = []
          · subst hf
            have wl0 : IntKind.i64.wrap ((es.length : Int) + ((0 : Nat) : Int)) = (es.length : Int) := wl
            simp only [go_sem, cond, Nat.reduceAdd, Nat.reduceLeDiff, Nat.reduceEqDiff, Nat.reduceBEq, decide_true, decide_false, Int.toNat_natCast, r, sA, gQ, gR, gR0, sR, sR0, List.set_set, List.append_assoc, List.length_append, List.length_set, List.singleton_append, List.cons_append, List.nil_append, t0, t3, t9, d1, hb, gi, si, si0, List.set_cons_zero, List.set_cons_succ, wr, deedV, esV_nil, esO_nil, wl0]
            refine Br_intro ?_ ?_ <;> intro h10 <;> simp only [go_sem, cond, Nat.reduceAdd, Nat.reduceLeDiff, Nat.reduceEqDiff, Nat.reduceBEq, decide_true, decide_false, Int.toNat_natCast, r, sA, gQ, gR, gR0, sR, sR0, List.set_set, List.append_assoc, List.length_append, List.length_set, List.singleton_append, List.cons_append, List.nil_append, t0, t3, t9, d1, hb, gi, si, si0, List.set_cons_zero, List.set_cons_succ, wr, wl0, h10]
            · refine Br_intro ?_ ?_ <;> intro h11 <;> simp only [go_sem, cond, Nat.reduceAdd, Nat.reduceLeDiff, Nat.reduceEqDiff, Nat.reduceBEq, decide_true, decide_false, Int.toNat_natCast, r, sA, gQ, gR, gR0, sR, sR0, List.set_set, List.append_assoc, List.length_append, List.length_set, List.singleton_append, List.cons_append, List.nil_append, t0, t3, t9, d1, hb, gi, si, si0, List.set_cons_zero, List.set_cons_succ, wr, wl0, h11]
              · refine appS_full (m := 0) (sl := es.length) _ _ _ _ _ _ _ l.length _ _ _ (gR0 _ _) rfl (flat_len elen _) XF.lay_38 (by decide) (by rfl) (by omega) (by omega) ?_
                simp only [go_sem, cond, Nat.reduceAdd, Nat.reduceLeDiff, Nat.reduceEqDiff, Nat.reduceBEq, decide_true, decide_false, Int.toNat_natCast, r, sA, gQ, gR, gR0, sR, sR0, List.set_set, List.append_assoc, List.length_append, List.length_set, List.singleton_append, List.cons_append, List.nil_append, t0, t3, t9, d1, hb, gi, si, si0, List.set_cons_zero, List.set_cons_succ, wr, List.append_nil]
                exact ⟨i, ⟨by omega, t0, rfl, _, es, _, by omega, by omega, hes, hlen, rfl, rfl⟩, Nat.lt_succ_self i⟩
              · exact ⟨i, ⟨by omega, t0, rfl, _, es, _, by omega, by omega, hes, hlen, t3, rfl⟩, Nat.lt_succ_self i⟩
            · exact ⟨i, ⟨by omega, t0, rfl, _, es, _, by omega, by omega, hes, hlen, t3, rfl⟩, Nat.lt_succ_self i⟩
          · have v1 := fun H => esV_ne (H := H) hf
            have v2 := esO_ne hf
            have v3 := rd_fs fs
            simp only [go_sem, cond, Nat.reduceAdd, Nat.reduceLeDiff, Nat.reduceEqDiff, Nat.reduceBEq, decide_true, decide_false, Int.toNat_natCast, r, sA, gQ, gR, gR0, sR, sR0, List.set_set, List.append_assoc, List.length_append, List.length_set, List.singleton_append, List.cons_append, List.nil_append, t0, t3, t9, d1, hb, gi, si, si0, List.set_cons_zero, List.set_cons_succ, wr, deedV, v1, v2, v3, Nat.add_zero, wl]
            refine Br_intro ?_ ?_ <;> intro h10 <;> simp only [go_sem, cond, Nat.reduceAdd, Nat.reduceLeDiff, Nat.reduceEqDiff, Nat.reduceBEq, decide_true, decide_false, Int.toNat_natCast, r, sA, gQ, gR, gR0, sR, sR0, List.set_set, List.append_assoc, List.length_append, List.length_set, List.singleton_append, List.cons_append, List.nil_append, t0, t3, t9, d1, hb, gi, si, si0, List.set_cons_zero, List.set_cons_succ, wr, wl, h10]
            · refine Br_intro ?_ ?_ <;> intro h11 <;> simp only [go_sem, cond, Nat.reduceAdd, Nat.reduceLeDiff, Nat.reduceEqDiff, Nat.reduceBEq, decide_true, decide_false, Int.toNat_natCast, r, sA, gQ, gR, gR0, sR, sR0, List.set_set, List.append_assoc, List.length_append, List.length_set, List.singleton_append, List.cons_append, List.nil_append, t0, t3, t9, d1, hb, gi, si, si0, List.set_cons_zero, List.set_cons_succ, wr, wl, h11, v3, Nat.add_zero]
              · have h12 : es.length + fs.length ≤ 60 := by have := of_decide_eq_true h11; omega
                refine appS_full (m := fs.length) (sl := es.length) _ _ _ _ _ _ _ l.length _ _ _ (gR0 _ _) rfl (flat_len elen _) XF.lay_38 (by decide) (flat_len elen _) (by omega) (by omega) ?_
                simp only [go_sem, cond, Nat.reduceAdd, Nat.reduceLeDiff, Nat.reduceEqDiff, Nat.reduceBEq, decide_true, decide_false, Int.toNat_natCast, r, sA, gQ, gR, gR0, sR, sR0, List.set_set, List.append_assoc, List.length_append, List.length_set, List.singleton_append, List.cons_append, List.nil_append, t0, t3, t9, d1, hb, gi, si, si0, List.set_cons_zero, List.set_cons_succ, wr]
                exact ⟨i, ⟨by omega, t0, rfl, p4, es ++ fs, _, by omega, by omega, hadd, by rw [List.length_append]; exact h12, by rw [List.length_append]; rfl, by rw [flat_app]⟩, Nat.lt_succ_self i⟩
              · exact ⟨i, ⟨by omega, t0, rfl, _, es, _, by omega, by omega, hes, hlen, t3, rfl⟩, Nat.lt_succ_self i⟩
            · exact ⟨i, ⟨by omega, t0, rfl, _, es, _, by omega, by omega, hes, hlen, t3, rfl⟩, Nat.lt_succ_self i⟩
        · refine Br_intro ?_ ?_ <;> intro h9 <;> simp only [go_sem, cond, Nat.reduceAdd, Nat.reduceLeDiff, Nat.reduceEqDiff, Nat.reduceBEq, decide_true, decide_false, Int.toNat_natCast, r, sA, gQ, gR, gR0, sR, sR0, List.set_set, List.append_assoc, List.length_append, List.length_set, List.singleton_append, List.cons_append, List.nil_append, t0, t3, t9, d1, hb, gi, si, si0, List.set_cons_zero, List.set_cons_succ, wr, h9]
          · exact ⟨i, ⟨by omega, t0, rfl, _, es, _, by omega, by omega, hes, hlen, t3, rfl⟩, Nat.lt_succ_self i⟩
          (refine xw_open (id := 17) [0, 0, 2, 7, 0, 0, 0, 127, 255, 511, 511, 1023, 4095] [.q 0, .q 1, .q 4, .q 5, .q 2, .l 6, .e 3, .d 6, .e 7, .q 8, .q 9, .q 10, .q 11, .q 12] rfl (by kernel_rfl) ?_; simp only [go_sem, cond, Nat.reduceAdd, Nat.reduceLeDiff, Nat.reduceEqDiff, Nat.reduceBEq, decide_true, decide_false, Int.toNat_natCast, r, sA, gQ, gR, gR0, sR, sR0, List.set_set, List.append_assoc, List.length_append, List.length_set, List.singleton_append, List.cons_append, List.nil_append, t0, t3, t9, d1, hb, gi, si, si0, List.set_cons_zero, List.set_cons_succ, wr])
          have hS : SmS ⟨y1, y2, y3, y4, y5, y6, y7, y8, y9, y10⟩ := hy'
          have hro := roomR_ok y2 es (by omega) hes.sm
          refine call (l8Room_ok w0 _ es _ _ _ (Sl_own elen _ es B _ _ (gR0 _ _)) (by omega) hes.sm) ?_
          rintro v H2 ⟨x, g2, rfl, rfl, hpl, -⟩
          simp only [go_sem, cond, Nat.reduceAdd, Nat.reduceLeDiff, Nat.reduceEqDiff, Nat.reduceBEq, decide_true, decide_false, Int.toNat_natCast, r, sA, gQ, gR, gR0, sR, sR0, List.set_set, List.append_assoc, List.length_append, List.length_set, List.singleton_append, List.cons_append, List.nil_append, t0, t3, t9, d1, hb, gi, si, si0, List.set_cons_zero, List.set_cons_succ, wr]
          have hadd := LogD.add y2 us ⟨y1, y2, y3, y4, y5, y6, y7, y8, y9, y10⟩ hes (by omega) (by omega) hS hun hyn
          have hle := hes.le y2 us ⟨y1, y2, y3, y4, y5, y6, y7, y8, y9, y10⟩ (by omega) (by omega) hS
          refine call_eq (l6Do_ok w0 _ (roomR y2 es) x es _ _ us ⟨y1, y2, y3, y4, y5, y6, y7, y8, y9, y10⟩ (PlO.rm' w0 hpl ?_ (by omega) (by omega)) (Sl_own elen _ es B _ _ (gR0 _ _)) (by omega)) ?_
          · simp only [List.append_assoc, List.cons_append, List.nil_append]
          generalize doR _ _ _ _ = rs at *
          obtain ⟨fs, code⟩ := rs
          simp only at hadd hle
          have wl : IntKind.i64.wrap ((es.length : Int) + (fs.length : Int)) = ((es.length + fs.length : Nat) : Int) := by rw [wrap_i64 (by omega) (by omega)]; omega
          by_cases hf : fs = []
          · subst hf
            have wl0 : IntKind.i64.wrap ((es.length : Int) + ((0 : Nat) : Int)) = (es.length : Int) := wl
            simp only [go_sem, cond, Nat.reduceAdd, Nat.reduceLeDiff, Nat.reduceEqDiff, Nat.reduceBEq, decide_true, decide_false, Int.toNat_natCast, r, sA, gQ, gR, gR0, sR, sR0, List.set_set, List.append_assoc, List.length_append, List.length_set, List.singleton_append, List.cons_append, List.nil_append, t0, t3, t9, d1, hb, gi, si, si0, List.set_cons_zero, List.set_cons_succ, wr, deedV, esV_nil, esO_nil, wl0]
            refine Br_intro ?_ ?_ <;> intro h10 <;> simp only [go_sem, cond, Nat.reduceAdd, Nat.reduceLeDiff, Nat.reduceEqDiff, Nat.reduceBEq, decide_true, decide_false, Int.toNat_natCast, r, sA, gQ, gR, gR0, sR, sR0, List.set_set, List.append_assoc, List.length_append, List.length_set, List.singleton_append, List.cons_append, List.nil_append, t0, t3, t9, d1, hb, gi, si, si0, List.set_cons_zero, List.set_cons_succ, wr, wl0, h10]
            · refine Br_intro ?_ ?_ <;> intro h11 <;> simp only [go_sem, cond, Nat.reduceAdd, Nat.reduceLeDiff, Nat.reduceEqDiff, Nat.reduceBEq, decide_true, decide_false, Int.toNat_natCast, r, sA, gQ, gR, gR0, sR, sR0, List.set_set, List.append_assoc, List.length_append, List.length_set, List.singleton_append, List.cons_append, List.nil_append, t0, t3, t9, d1, hb, gi, si, si0, List.set_cons_zero, List.set_cons_succ, wr, wl0, h11]
              · refine appS_full (m := 0) (sl := es.length) _ _ _ _ _ _ _ l.length _ _ _ (gR0 _ _) rfl (flat_len elen _) XF.lay_38 (by decide) (by rfl) (by omega) (by omega) ?_
                simp only [go_sem, cond, Nat.reduceAdd, Nat.reduceLeDiff, Nat.reduceEqDiff, Nat.reduceBEq, decide_true, decide_false, Int.toNat_natCast, r, sA, gQ, gR, gR0, sR, sR0, List.set_set, List.append_assoc, List.length_append, List.length_set, List.singleton_append, List.cons_append, List.nil_append, t0, t3, t9, d1, hb, gi, si, si0, List.set_cons_zero, List.set_cons_succ, wr, List.append_nil]
                exact ⟨i, ⟨by omega, t0, rfl, _, es, _, by omega, by omega, hes, hlen, rfl, rfl⟩, Nat.lt_succ_self i⟩
              · exact ⟨i, ⟨by omega, t0, rfl, _, es, _, by omega, by omega, hes, hlen, t3, rfl⟩, Nat.lt_succ_self i⟩
            · exact ⟨i, ⟨by omega, t0, rfl, _, es, _, by omega, by omega, hes, hlen, t3, rfl⟩, Nat.lt_succ_self i⟩
          · have v1 := fun H => esV_ne (H := H) hf
            have v2 := esO_ne hf
            have v3 := rd_fs fs
            simp only [go_sem, cond, Nat.reduceAdd, Nat.reduceLeDiff, Nat.reduceEqDiff, Nat.reduceBEq, decide_true, decide_false, Int.toNat_natCast, r, sA, gQ, gR, gR0, sR, sR0, List.set_set, List.append_assoc, List.length_append, List.length_set, List.singleton_append, List.cons_append, List.nil_append, t0, t3, t9, d1, hb, gi, si, si0, List.set_cons_zero, List.set_cons_succ, wr, deedV, v1, v2, v3, Nat.add_zero, wl]
            refine Br_intro ?_ ?_ <;> intro h10 <;> simp only [go_sem, cond, Nat.reduceAdd, Nat.reduceLeDiff, Nat.reduceEqDiff, Nat.reduceBEq, decide_true, decide_false, Int.toNat_natCast, r, sA, gQ, gR, gR0, sR, sR0, List.set_set, List.append_assoc, List.length_append, List.length_set, List.singleton_append, List.cons_append, List.nil_append, t0, t3, t9, d1, hb, gi, si, si0, List.set_cons_zero, List.set_cons_succ, wr, wl, h10]
            · refine Br_intro ?_ ?_ <;> intro h11 <;> simp only [go_sem, cond, Nat.reduceAdd, Nat.reduceLeDiff, Nat.reduceEqDiff, Nat.reduceBEq, decide_true, decide_false, Int.toNat_natCast, r, sA, gQ, gR, gR0, sR, sR0, List.set_set, List.append_assoc, List.length_append, List.length_set, List.singleton_append, List.cons_append, List.nil_append, t0, t3, t9, d1, hb, gi, si, si0, List.set_cons_zero, List.set_cons_succ, wr, wl, h11, v3, Nat.add_zero]
              · have h12 : es.length + fs.length ≤ 60 := by have := of_decide_eq_true h11; omega
                refine appS_full (m := fs.length) (sl := es.length) _ _ _ _ _ _ _ l.length _ _ _ (gR0 _ _) rfl (flat_len elen _) XF.lay_38 (by decide) (flat_len elen _) (by omega) (by omega) ?_
                simp only [go_sem, cond, Nat.reduceAdd, Nat.reduceLeDiff, Nat.reduceEqDiff, Nat.reduceBEq, decide_true, decide_false, Int.toNat_natCast, r, sA, gQ, gR, gR0, sR, sR0, List.set_set, List.append_assoc, List.length_append, List.length_set, List.singleton_append, List.cons_append, List.nil_append, t0, t3, t9, d1, hb, gi, si, si0, List.set_cons_zero, List.set_cons_succ, wr]
                exact ⟨i, ⟨by omega, t0, rfl, p2 + 1, es ++ fs, _, by omega, by omega, hadd, by rw [List.length_append]; exact h12, by rw [List.length_append]; rfl, by rw [flat_app]⟩, Nat.lt_succ_self i⟩
              · exact ⟨i, ⟨by omega, t0, rfl, _, es, _, by omega, by omega, hes, hlen, t3, rfl⟩, Nat.lt_succ_self i⟩
            · exact ⟨i, ⟨by omega, t0, rfl, _, es, _, by omega, by omega, hes, hlen, t3, rfl⟩, Nat.lt_succ_self i⟩
      · have d1 : ((0 : Int) < (i : Int)) = False := eq_false (by omega)
        simp only [go_sem, cond, Nat.reduceAdd, Nat.reduceLeDiff, Nat.reduceEqDiff, Nat.reduceBEq, decide_true, decide_false, Int.toNat_natCast, r, sA, gQ, gR, gR0, sR, sR0, List.set_set, List.append_assoc, List.length_append, List.length_set, List.singleton_append, List.cons_append, List.nil_append, t0, t3, t9, d1]
        exact ⟨p', es, 0, _, rfl, by omega, by omega, hes, by omega, rfl, rfl⟩
  · have d1 : ((i : Int) < (m : Int)) = False := eq_false (by omega)
    simp only [go_sem, cond, Nat.reduceAdd, Nat.reduceLeDiff, Nat.reduceEqDiff, Nat.reduceBEq, decide_true, decide_false, Int.toNat_natCast, r, sA, gQ, gR, gR0, sR, sR0, List.set_set, List.append_assoc, List.length_append, List.length_set, List.singleton_append, List.cons_append, List.nil_append, t0, t3, t4, t5, d1]
    have t0' := t0
    have t3' := t3
    clear d1 t0 t3 t4 t5 hmi
    refine xw_loop (fun (i : Nat) T H' => i ≤ 22 ∧ T 0 = .pointer (some ⟨nid B q, 0, some 2⟩) ∧ T 9 = .int .i64 i ∧ ∃ p' es g, p ≤ p' ∧ p' + i * 80 ≤ p + 2000 ∧ LogD es ∧ es.length ≤ 60 ∧ T 3 = .slice (some ⟨nid B l.length, 0, some (es.length * 9)⟩) es.length es.length ∧ H' = Hx B (l.set q (dr D p') ++ some (.row 38 (flat En.enc es)) :: g)) (fun i => i) m (by kernel_rfl) ⟨by omega, t0', rfl, p + 1, es, g, by omega, by omega, hes, by omega, t3', rfl⟩ ?_
    clear hlen hes t0' t3'
    clear es g
    rintro i T H' ⟨hi, t0, t9, p', es, g, hp1, hp2, hes, hlen, t3, rfl⟩
    by_cases hpos : 0 < i
    · obtain ⟨i, rfl⟩ : ∃ j, i = j + 1 := ⟨i - 1, by omega⟩
      have d1 : ((0 : Int) < ((i + 1 : Nat) : Int)) = True := eq_true (by omega)
      have wr : IntKind.i64.wrap (((i + 1 : Nat) : Int) - 1) = (i : Int) := by rw [wrap_i64 (by omega) (by omega)]; omega
      simp only [go_sem, cond, Nat.reduceAdd, Nat.reduceLeDiff, Nat.reduceEqDiff, Nat.reduceBEq, decide_true, decide_false, Int.toNat_natCast, r, sA, gQ, gR, gR0, sR, sR0, List.set_set, List.append_assoc, List.length_append, List.length_set, List.singleton_append, List.cons_append, List.nil_append, t0, t3, t9, d1]
      refine call (l16Say_nm w0 D B _ q _ hD (gQ _ _) (by omega)) ?_
      rintro v H2 ⟨p1, rfl, h1, h2, ⟨y1, y2, y3, y4, y5, y6, y7, y8, y9, y10⟩, ⟨hy, hyn⟩, rfl⟩
      have hy' := hy.sm
      have hyr : y2.size ≤ 500 := hy.room
      clear hy
      simp only [go_sem, cond, Nat.reduceAdd, Nat.reduceLeDiff, Nat.reduceEqDiff, Nat.reduceBEq, decide_true, decide_false, Int.toNat_natCast, r, sA, gQ, gR, gR0, sR, sR0, List.set_set, List.append_assoc, List.length_append, List.length_set, List.singleton_append, List.cons_append, List.nil_append, t0, t3, t9, d1, hb, gi, si, si0, List.set_cons_zero, List.set_cons_succ, wr, Sy.enc]
      refine call (l16User_nm w0 D B _ q _ hD (gQ _ _) (by omega)) ?_
      rintro v H2 ⟨p2, rfl, h3, h4, us, ⟨hus, hun⟩, rfl⟩
      simp only [go_sem, cond, Nat.reduceAdd, Nat.reduceLeDiff, Nat.reduceEqDiff, Nat.reduceBEq, decide_true, decide_false, Int.toNat_natCast, r, sA, gQ, gR, gR0, sR, sR0, List.set_set, List.append_assoc, List.length_append, List.length_set, List.singleton_append, List.cons_append, List.nil_append, t0, t3, t9, d1, hb, gi, si, si0, List.set_cons_zero, List.set_cons_succ, wr]
      refine call (pick_ok w0 D hD B _ q _ _ (gQ _ _) (by omega)) ?_
      rintro v H2 ⟨k, rfl, -, -, rfl⟩
      simp only [go_sem, cond, Nat.reduceAdd, Nat.reduceLeDiff, Nat.reduceEqDiff, Nat.reduceBEq, decide_true, decide_false, Int.toNat_natCast, r, sA, gQ, gR, gR0, sR, sR0, List.set_set, List.append_assoc, List.length_append, List.length_set, List.singleton_append, List.cons_append, List.nil_append, t0, t3, t9, d1, hb, gi, si, si0, List.set_cons_zero, List.set_cons_succ, wr]
      refine Br_intro ?_ ?_ <;> intro h0 <;> simp only [go_sem, cond, Nat.reduceAdd, Nat.reduceLeDiff, Nat.reduceEqDiff, Nat.reduceBEq, decide_true, decide_false, Int.toNat_natCast, r, sA, gQ, gR, gR0, sR, sR0, List.set_set, List.append_assoc, List.length_append, List.length_set, List.singleton_append, List.cons_append, List.nil_append, t0, t3, t9, d1, hb, gi, si, si0, List.set_cons_zero, List.set_cons_succ, wr, h0]
      · refine call (l16Room_ok w0 D B _ q _ hD (gQ _ _) (by omega)) ?_
        rintro v H2 ⟨p3, rfl, h5, h6, ro, hro0, rfl⟩
        simp only [go_sem, cond, Nat.reduceAdd, Nat.reduceLeDiff, Nat.reduceEqDiff, Nat.reduceBEq, decide_true, decide_false, Int.toNat_natCast, r, sA, gQ, gR, gR0, sR, sR0, List.set_set, List.append_assoc, List.length_append, List.length_set, List.singleton_append, List.cons_append, List.nil_append, t0, t3, t9, d1, hb, gi, si, si0, List.set_cons_zero, List.set_cons_succ, wr]
        refine call (l16Nick_ok w0 D B _ q _ hD (gQ _ _) (by omega)) ?_
        rintro v H2 ⟨p4, rfl, h7, h8, ni, hni, rfl⟩
        simp only [go_sem, cond, Nat.reduceAdd, Nat.reduceLeDiff, Nat.reduceEqDiff, Nat.reduceBEq, decide_true, decide_false, Int.toNat_natCast, r, sA, gQ, gR, gR0, sR, sR0, List.set_set, List.append_assoc, List.length_append, List.length_set, List.singleton_append, List.cons_append, List.nil_append, t0, t3, t9, d1, hb, gi, si, si0, List.set_cons_zero, List.set_cons_succ, wr]
        (refine xw_open (id := 17) [0, 0, 2, 7, 0, 0, 0, 127, 255, 511, 511, 1023, 4095] [.q 0, .q 1, .q 4, .q 5, .q 2, .l 6, .e 3, .d 6, .e 7, .q 8, .q 9, .q 10, .q 11, .q 12] rfl (by kernel_rfl) ?_; simp only [go_sem, cond, Nat.reduceAdd, Nat.reduceLeDiff, Nat.reduceEqDiff, Nat.reduceBEq, decide_true, decide_false, Int.toNat_natCast, r, sA, gQ, gR, gR0, sR, sR0, List.set_set, List.append_assoc, List.length_append, List.length_set, List.singleton_append, List.cons_append, List.nil_append, t0, t3, t9, d1, hb, gi, si, si0, List.set_cons_zero, List.set_cons_succ, wr])
        have hS : SmS ⟨6, ro, ni, em, em, em, em, 0, 0, 0⟩ := ⟨by show ni.size ≤ 100000; omega, em_sm, em_sm, em_sm, em_sm⟩
        have hro := roomR_ok ro es (by omega) hes.sm
        refine call (l8Room_ok w0 _ es _ _ _ (Sl_own elen _ es B _ _ (gR0 _ _)) (by omega) hes.sm) ?_
        rintro v H2 ⟨x, g2, rfl, rfl, hpl, -⟩
        simp only [go_sem, cond, Nat.reduceAdd, Nat.reduceLeDiff, Nat.reduceEqDiff, Nat.reduceBEq, decide_true, decide_false, Int.toNat_natCast, r, sA, gQ, gR, gR0, sR, sR0, List.set_set, List.append_assoc, List.length_append, List.length_set, List.singleton_append, List.cons_append, List.nil_append, t0, t3, t9, d1, hb, gi, si, si0, List.set_cons_zero, List.set_cons_succ, wr]
        have hadd := LogD.add ro us ⟨6, ro, ni, em, em, em, em, 0, 0, 0⟩ hes (by omega) (by omega) hS hun nm_em
        have hle := hes.le ro us ⟨6, ro, ni, em, em, em, em, 0, 0, 0⟩ (by omega) (by omega) hS
        refine call_eq (l6Do_ok w0 _ (roomR ro es) x es _ _ us ⟨6, ro, ni, em, em, em, em, 0, 0, 0⟩ (PlO.rm' w0 hpl ?_ (by omega) (by omega)) (Sl_own elen _ es B _ _ (gR0 _ _)) (by omega)) ?_
        · simp only [List.append_assoc, List.cons_append, List.nil_append]
        generalize doR _ _ _ _ = rs at *
        obtain ⟨fs, code⟩ := rs
        simp only at hadd hle
        have wl : IntKind.i64.wrap ((es.length : Int) + (fs.length : Int)) = ((es.length + fs.length : Nat) : Int) := by rw [wrap_i64 (by omega) (by omega)]; omega
        by_cases hf : fs = []
        · subst hf
          have wl0 : IntKind.i64.wrap ((es.length : Int) + ((0 : Nat) : Int)) = (es.length : Int) := wl
          simp only [go_sem, cond, Nat.reduceAdd, Nat.reduceLeDiff, Nat.reduceEqDiff, Nat.reduceBEq, decide_true, decide_false, Int.toNat_natCast, r, sA, gQ, gR, gR0, sR, sR0, List.set_set, List.append_assoc, List.length_append, List.length_set, List.singleton_append, List.cons_append, List.nil_append, t0, t3, t9, d1, hb, gi, si, si0, List.set_cons_zero, List.set_cons_succ, wr, deedV, esV_nil, esO_nil, wl0]
          refine Br_intro ?_ ?_ <;> intro h10 <;> simp only [go_sem, cond, Nat.reduceAdd, Nat.reduceLeDiff, Nat.reduceEqDiff, Nat.reduceBEq, decide_true, decide_false, Int.toNat_natCast, r, sA, gQ, gR, gR0, sR, sR0, List.set_set, List.append_assoc, List.length_append, List.length_set, List.singleton_append, List.cons_append, List.nil_append, t0, t3, t9, d1, hb, gi, si, si0, List.set_cons_zero, List.set_cons_succ, wr, wl0, h10]
          · refine Br_intro ?_ ?_ <;> intro h11 <;> simp only [go_sem, cond, Nat.reduceAdd, Nat.reduceLeDiff, Nat.reduceEqDiff, Nat.reduceBEq, decide_true, decide_false, Int.toNat_natCast, r, sA, gQ, gR, gR0, sR, sR0, List.set_set, List.append_assoc, List.length_append, List.length_set, List.singleton_append, List.cons_append, List.nil_append, t0, t3, t9, d1, hb, gi, si, si0, List.set_cons_zero, List.set_cons_succ, wr, wl0, h11]
            · refine appS_full (m := 0) (sl := es.length) _ _ _ _ _ _ _ l.length _ _ _ (gR0 _ _) rfl (flat_len elen _) XF.lay_38 (by decide) (by rfl) (by omega) (by omega) ?_
              simp only [go_sem, cond, Nat.reduceAdd, Nat.reduceLeDiff, Nat.reduceEqDiff, Nat.reduceBEq, decide_true, decide_false, Int.toNat_natCast, r, sA, gQ, gR, gR0, sR, sR0, List.set_set, List.append_assoc, List.length_append, List.length_set, List.singleton_append, List.cons_append, List.nil_append, t0, t3, t9, d1, hb, gi, si, si0, List.set_cons_zero, List.set_cons_succ, wr, List.append_nil]
              exact ⟨i, ⟨by omega, t0, rfl, _, es, _, by omega, by omega, hes, hlen, rfl, rfl⟩, Nat.lt_succ_self i⟩
            · exact ⟨i, ⟨by omega, t0, rfl, _, es, _, by omega, by omega, hes, hlen, t3, rfl⟩, Nat.lt_succ_self i⟩
          · exact ⟨i, ⟨by omega, t0, rfl, _, es, _, by omega, by omega, hes, hlen, t3, rfl⟩, Nat.lt_succ_self i⟩
        · have v1 := fun H => esV_ne (H := H) hf
          have v2 := esO_ne hf
          have v3 := rd_fs fs
          simp only [go_sem, cond, Nat.reduceAdd, Nat.reduceLeDiff, Nat.reduceEqDiff, Nat.reduceBEq, decide_true, decide_false, Int.toNat_natCast, r, sA, gQ, gR, gR0, sR, sR0, List.set_set, List.append_assoc, List.length_append, List.length_set, List.singleton_append, List.cons_append, List.nil_append, t0, t3, t9, d1, hb, gi, si, si0, List.set_cons_zero, List.set_cons_succ, wr, deedV, v1, v2, v3, Nat.add_zero, wl]
          refine Br_intro ?_ ?_ <;> intro h10 <;> simp only [go_sem, cond, Nat.reduceAdd, Nat.reduceLeDiff, Nat.reduceEqDiff, Nat.reduceBEq, decide_true, decide_false, Int.toNat_natCast, r, sA, gQ, gR, gR0, sR, sR0, List.set_set, List.append_assoc, List.length_append, List.length_set, List.singleton_append, List.cons_append, List.nil_append, t0, t3, t9, d1, hb, gi, si, si0, List.set_cons_zero, List.set_cons_succ, wr, wl, h10]
          · refine Br_intro ?_ ?_ <;> intro h11 <;> simp only [go_sem, cond, Nat.reduceAdd, Nat.reduceLeDiff, Nat.reduceEqDiff, Nat.reduceBEq, decide_true, decide_false, Int.toNat_natCast, r, sA, gQ, gR, gR0, sR, sR0, List.set_set, List.append_assoc, List.length_append, List.length_set, List.singleton_append, List.cons_append, List.nil_append, t0, t3, t9, d1, hb, gi, si, si0, List.set_cons_zero, List.set_cons_succ, wr, wl, h11, v3, Nat.add_zero]
            · have h12 : es.length + fs.length ≤ 60 := by have := of_decide_eq_true h11; omega
              refine appS_full (m := fs.length) (sl := es.length) _ _ _ _ _ _ _ l.length _ _ _ (gR0 _ _) rfl (flat_len elen _) XF.lay_38 (by decide) (flat_len elen _) (by omega) (by omega) ?_
              simp only [go_sem, cond, Nat.reduceAdd, Nat.reduceLeDiff, Nat.reduceEqDiff, Nat.reduceBEq, decide_true, decide_false, Int.toNat_natCast, r, sA, gQ, gR, gR0, sR, sR0, List.set_set, List.append_assoc, List.length_append, List.length_set, List.singleton_append, List.cons_append, List.nil_append, t0, t3, t9, d1, hb, gi, si, si0, List.set_cons_zero, List.set_cons_succ, wr]
              exact ⟨i, ⟨by omega, t0, rfl, p4, es ++ fs, _, by omega, by omega, hadd, by rw [List.length_append]; exact h12, by rw [List.length_append]; rfl, by rw [flat_app]⟩, Nat.lt_succ_self i⟩
            · exact ⟨i, ⟨by omega, t0, rfl, _, es, _, by omega, by omega, hes, hlen, t3, rfl⟩, Nat.lt_succ_self i⟩
          · exact ⟨i, ⟨by omega, t0, rfl, _, es, _, by omega, by omega, hes, hlen, t3, rfl⟩, Nat.lt_succ_self i⟩
      · refine Br_intro ?_ ?_ <;> intro h9 <;> simp only [go_sem, cond, Nat.reduceAdd, Nat.reduceLeDiff, Nat.reduceEqDiff, Nat.reduceBEq, decide_true, decide_false, Int.toNat_natCast, r, sA, gQ, gR, gR0, sR, sR0, List.set_set, List.append_assoc, List.length_append, List.length_set, List.singleton_append, List.cons_append, List.nil_append, t0, t3, t9, d1, hb, gi, si, si0, List.set_cons_zero, List.set_cons_succ, wr, h9]
        · exact ⟨i, ⟨by omega, t0, rfl, _, es, _, by omega, by omega, hes, hlen, t3, rfl⟩, Nat.lt_succ_self i⟩
        (refine xw_open (id := 17) [0, 0, 2, 7, 0, 0, 0, 127, 255, 511, 511, 1023, 4095] [.q 0, .q 1, .q 4, .q 5, .q 2, .l 6, .e 3, .d 6, .e 7, .q 8, .q 9, .q 10, .q 11, .q 12] rfl (by kernel_rfl) ?_; simp only [go_sem, cond, Nat.reduceAdd, Nat.reduceLeDiff, Nat.reduceEqDiff, Nat.reduceBEq, decide_true, decide_false, Int.toNat_natCast, r, sA, gQ, gR, gR0, sR, sR0, List.set_set, List.append_assoc, List.length_append, List.length_set, List.singleton_append, List.cons_append, List.nil_append, t0, t3, t9, d1, hb, gi, si, si0, List.set_cons_zero, List.set_cons_succ, wr])
        have hS : SmS ⟨y1, y2, y3, y4, y5, y6, y7, y8, y9, y10⟩ := hy'
        have hro := roomR_ok y2 es (by omega) hes.sm
        refine call (l8Room_ok w0 _ es _ _ _ (Sl_own elen _ es B _ _ (gR0 _ _)) (by omega) hes.sm) ?_
        rintro v H2 ⟨x, g2, rfl, rfl, hpl, -⟩
        simp only [go_sem, cond, Nat.reduceAdd, Nat.reduceLeDiff, Nat.reduceEqDiff, Nat.reduceBEq, decide_true, decide_false, Int.toNat_natCast, r, sA, gQ, gR, gR0, sR, sR0, List.set_set, List.append_assoc, List.length_append, List.length_set, List.singleton_append, List.cons_append, List.nil_append, t0, t3, t9, d1, hb, gi, si, si0, List.set_cons_zero, List.set_cons_succ, wr]
        have hadd := LogD.add y2 us ⟨y1, y2, y3, y4, y5, y6, y7, y8, y9, y10⟩ hes (by omega) (by omega) hS hun hyn
        have hle := hes.le y2 us ⟨y1, y2, y3, y4, y5, y6, y7, y8, y9, y10⟩ (by omega) (by omega) hS
        refine call_eq (l6Do_ok w0 _ (roomR y2 es) x es _ _ us ⟨y1, y2, y3, y4, y5, y6, y7, y8, y9, y10⟩ (PlO.rm' w0 hpl ?_ (by omega) (by omega)) (Sl_own elen _ es B _ _ (gR0 _ _)) (by omega)) ?_
        · simp only [List.append_assoc, List.cons_append, List.nil_append]
        generalize doR _ _ _ _ = rs at *
        obtain ⟨fs, code⟩ := rs
        simp only at hadd hle
        have wl : IntKind.i64.wrap ((es.length : Int) + (fs.length : Int)) = ((es.length + fs.length : Nat) : Int) := by rw [wrap_i64 (by omega) (by omega)]; omega
        by_cases hf : fs = []
        · subst hf
          have wl0 : IntKind.i64.wrap ((es.length : Int) + ((0 : Nat) : Int)) = (es.length : Int) := wl
          simp only [go_sem, cond, Nat.reduceAdd, Nat.reduceLeDiff, Nat.reduceEqDiff, Nat.reduceBEq, decide_true, decide_false, Int.toNat_natCast, r, sA, gQ, gR, gR0, sR, sR0, List.set_set, List.append_assoc, List.length_append, List.length_set, List.singleton_append, List.cons_append, List.nil_append, t0, t3, t9, d1, hb, gi, si, si0, List.set_cons_zero, List.set_cons_succ, wr, deedV, esV_nil, esO_nil, wl0]
          refine Br_intro ?_ ?_ <;> intro h10 <;> simp only [go_sem, cond, Nat.reduceAdd, Nat.reduceLeDiff, Nat.reduceEqDiff, Nat.reduceBEq, decide_true, decide_false, Int.toNat_natCast, r, sA, gQ, gR, gR0, sR, sR0, List.set_set, List.append_assoc, List.length_append, List.length_set, List.singleton_append, List.cons_append, List.nil_append, t0, t3, t9, d1, hb, gi, si, si0, List.set_cons_zero, List.set_cons_succ, wr, wl0, h10]
          · refine Br_intro ?_ ?_ <;> intro h11 <;> simp only [go_sem, cond, Nat.reduceAdd, Nat.reduceLeDiff, Nat.reduceEqDiff, Nat.reduceBEq, decide_true, decide_false, Int.toNat_natCast, r, sA, gQ, gR, gR0, sR, sR0, List.set_set, List.append_assoc, List.length_append, List.length_set, List.singleton_append, List.cons_append, List.nil_append, t0, t3, t9, d1, hb, gi, si, si0, List.set_cons_zero, List.set_cons_succ, wr, wl0, h11]
            · refine appS_full (m := 0) (sl := es.length) _ _ _ _ _ _ _ l.length _ _ _ (gR0 _ _) rfl (flat_len elen _) XF.lay_38 (by decide) (by rfl) (by omega) (by omega) ?_
              simp only [go_sem, cond, Nat.reduceAdd, Nat.reduceLeDiff, Nat.reduceEqDiff, Nat.reduceBEq, decide_true, decide_false, Int.toNat_natCast, r, sA, gQ, gR, gR0, sR, sR0, List.set_set, List.append_assoc, List.length_append, List.length_set, List.singleton_append, List.cons_append, List.nil_append, t0, t3, t9, d1, hb, gi, si, si0, List.set_cons_zero, List.set_cons_succ, wr, List.append_nil]
              exact ⟨i, ⟨by omega, t0, rfl, _, es, _, by omega, by omega, hes, hlen, rfl, rfl⟩, Nat.lt_succ_self i⟩
            · exact ⟨i, ⟨by omega, t0, rfl, _, es, _, by omega, by omega, hes, hlen, t3, rfl⟩, Nat.lt_succ_self i⟩
          · exact ⟨i, ⟨by omega, t0, rfl, _, es, _, by omega, by omega, hes, hlen, t3, rfl⟩, Nat.lt_succ_self i⟩
        · have v1 := fun H => esV_ne (H := H) hf
          have v2 := esO_ne hf
          have v3 := rd_fs fs
          simp only [go_sem, cond, Nat.reduceAdd, Nat.reduceLeDiff, Nat.reduceEqDiff, Nat.reduceBEq, decide_true, decide_false, Int.toNat_natCast, r, sA, gQ, gR, gR0, sR, sR0, List.set_set, List.append_assoc, List.length_append, List.length_set, List.singleton_append, List.cons_append, List.nil_append, t0, t3, t9, d1, hb, gi, si, si0, List.set_cons_zero, List.set_cons_succ, wr, deedV, v1, v2, v3, Nat.add_zero, wl]
          refine Br_intro ?_ ?_ <;> intro h10 <;> simp only [go_sem, cond, Nat.reduceAdd, Nat.reduceLeDiff, Nat.reduceEqDiff, Nat.reduceBEq, decide_true, decide_false, Int.toNat_natCast, r, sA, gQ, gR, gR0, sR, sR0, List.set_set, List.append_assoc, List.length_append, List.length_set, List.singleton_append, List.cons_append, List.nil_append, t0, t3, t9, d1, hb, gi, si, si0, List.set_cons_zero, List.set_cons_succ, wr, wl, h10]
          · refine Br_intro ?_ ?_ <;> intro h11 <;> simp only [go_sem, cond, Nat.reduceAdd, Nat.reduceLeDiff, Nat.reduceEqDiff, Nat.reduceBEq, decide_true, decide_false, Int.toNat_natCast, r, sA, gQ, gR, gR0, sR, sR0, List.set_set, List.append_assoc, List.length_append, List.length_set, List.singleton_append, List.cons_append, List.nil_append, t0, t3, t9, d1, hb, gi, si, si0, List.set_cons_zero, List.set_cons_succ, wr, wl, h11, v3, Nat.add_zero]
            · have h12 : es.length + fs.length ≤ 60 := by have := of_decide_eq_true h11; omega
              refine appS_full (m := fs.length) (sl := es.length) _ _ _ _ _ _ _ l.length _ _ _ (gR0 _ _) rfl (flat_len elen _) XF.lay_38 (by decide) (flat_len elen _) (by omega) (by omega) ?_
              simp only [go_sem, cond, Nat.reduceAdd, Nat.reduceLeDiff, Nat.reduceEqDiff, Nat.reduceBEq, decide_true, decide_false, Int.toNat_natCast, r, sA, gQ, gR, gR0, sR, sR0, List.set_set, List.append_assoc, List.length_append, List.length_set, List.singleton_append, List.cons_append, List.nil_append, t0, t3, t9, d1, hb, gi, si, si0, List.set_cons_zero, List.set_cons_succ, wr]
              exact ⟨i, ⟨by omega, t0, rfl, p2 + 1, es ++ fs, _, by omega, by omega, hadd, by rw [List.length_append]; exact h12, by rw [List.length_append]; rfl, by rw [flat_app]⟩, Nat.lt_succ_self i⟩
            · exact ⟨i, ⟨by omega, t0, rfl, _, es, _, by omega, by omega, hes, hlen, t3, rfl⟩, Nat.lt_succ_self i⟩
          · exact ⟨i, ⟨by omega, t0, rfl, _, es, _, by omega, by omega, hes, hlen, t3, rfl⟩, Nat.lt_succ_self i⟩
    · have d1 : ((0 : Int) < (i : Int)) = False := eq_false (by omega)
      simp only [go_sem, cond, Nat.reduceAdd, Nat.reduceLeDiff, Nat.reduceEqDiff, Nat.reduceBEq, decide_true, decide_false, Int.toNat_natCast, r, sA, gQ, gR, gR0, sR, sR0, List.set_set, List.append_assoc, List.length_append, List.length_set, List.singleton_append, List.cons_append, List.nil_append, t0, t3, t9, d1]
      exact ⟨p', es, 0, _, rfl, by omega, by omega, hes, by omega, rfl, rfl⟩
end Go.Proofs.YtmacpgoclhgafaaGreatDoorW.FA

namespace Go.Proofs.YtmacpgoclhgafaaGreatDoorW.FA
open Go.RowKit Go.Proofs.YtmacpgoclhgafaaGreatDoorW.XM Go.Proofs Go.Proofs.YtmacpgoclhgafaaGreatDoorW.XWords
set_option maxRecDepth 100000
set_option linter.unusedSimpArgs false
set_option linter.unusedVariables false
variable {w0 : World} {H : Hp}
/-- Where a room lies whose members and whose ranks may each be nowhere. -/
structure PlS (H : Hp) (n : Nat) (g : List (Option Ob)) (R : Rm) (x : Ad) : Prop where
  m : (x.a = none ∧ x.c = 0 ∧ R.ms = []) ∨ ∃ j, g[j]? = some (some (.row 67 (flat Mem.enc R.ms))) ∧ x.a = some ⟨nid H (n + j), 0, some (R.ms.length * 3)⟩ ∧ x.c = R.ms.length
  k : (x.b = none ∧ x.d = 0 ∧ R.ks = []) ∨ ∃ j, g[j]? = some (some (.row 43 (flat Rk.enc R.ks))) ∧ x.b = some ⟨nid H (n + j), 0, some (R.ks.length * 2)⟩ ∧ x.d = R.ks.length
theorem PlS.more {n : Nat} {g : List (Option Ob)} {R : Rm} {x : Ad} (h : PlS H n g R x) (L : List (Option Ob)) : PlS H n (g ++ L) R x := by
  refine ⟨h.m.imp id fun ⟨j, a, b⟩ => ⟨j, ?_, b⟩, h.k.imp id fun ⟨j, a, b⟩ => ⟨j, ?_, b⟩⟩ <;> rw [List.getElem?_append_left (lt_of_get a)] <;> exact a
theorem PlS.shift {pre g : List (Option Ob)} {R : Rm} {x : Ad} (h : PlS H pre.length g R x) : PlS H 0 (pre ++ g) R x := by
  refine ⟨h.m.imp id fun ⟨j, a, b, c⟩ => ⟨pre.length + j, ?_, by rw [Nat.zero_add]; exact b, c⟩, h.k.imp id fun ⟨j, a, b, c⟩ => ⟨pre.length + j, ?_, by rw [Nat.zero_add]; exact b, c⟩⟩ <;> rw [List.getElem?_append_right (by omega), Nat.add_sub_cancel_left] <;> exact a
theorem PlS.at {n : Nat} {g pre : List (Option Ob)} {R : Rm} {x : Ad} (h : PlS H n g R x) (hn : pre.length = n) (lm : R.ms.length ≤ 2000000) (lk : R.ks.length ≤ 2000000) : RmAt w0 (Hx H (pre ++ g)) R x ∧ RmOw w0 (Hx H (pre ++ g)) R x := by
  subst hn
  obtain ⟨na, nx, ms, ks, su⟩ := R
  obtain ⟨a, c, b, d⟩ := x
  have gi : ∀ k, (pre ++ g)[pre.length + k]? = g[k]? := fun k => by rw [List.getElem?_append_right (by omega)]; simp
  have hm : (Sl w0 (Hx H (pre ++ g)) a 3 (ms.map Mem.enc) ∧ ∀ L, src w0 (Hx (Hx H (pre ++ g)) L) 3 (.slice a ms.length c) = some (ms.length, flat Mem.enc ms)) ∧ ms.length ≤ c ∧ (∀ b o sp, a = some ⟨b, o, sp⟩ → ∀ L, Go.Proofs.YtmacpgoclhgafaaGreatDoorW.XM.ownB Tryz.prog (Hx (Hx H (pre ++ g)) L) 3 b sp) ∧ (∀ b o sp, a = some ⟨b, o, sp⟩ → ∀ L, rd w0 (Hx (Hx H (pre ++ g)) L) ⟨b, o, sp⟩ (ms.length * 3) = some (flat Mem.enc ms)) := by
    rcases h.m with ⟨h1, h2, h3⟩ | ⟨j, h1, h2, h3⟩
    · simp only at h1 h2 h3
      subst h1 h2 h3
      exact ⟨⟨.inl rfl, fun L => rfl⟩, Nat.le_refl _, (fun _ _ _ e => by cases e), (fun _ _ _ e => by cases e)⟩
    · simp only at h1 h2 h3
      subst h2 h3
      have hj := (gi j).trans h1
      refine ⟨⟨Sl_own mlen _ ms H _ _ hj, fun L => by rw [src_sl, rd_flat mlen _ ms H _ _ hj]; rfl⟩, Nat.le_refl _, fun b o sp e L => ?_, fun b o sp e L => ?_⟩
      · cases e
        refine ⟨_, flat Mem.enc ms, false || true, ?_, flat_len mlen ms, XF.lay_67⟩
        have := lt_of_get hj
        rw [Hx_Hx, Hx_get, List.getElem?_append_left this]
        exact hj
      · cases e
        exact rd_flat mlen _ ms H _ _ hj L
  have hk : Sl w0 (Hx H (pre ++ g)) b 2 (ks.map Rk.enc) ∧ ∀ L, src w0 (Hx (Hx H (pre ++ g)) L) 2 (.slice b ks.length d) = some (ks.length, flat Rk.enc ks) := by
    rcases h.k with ⟨h1, h2, h3⟩ | ⟨j, h1, h2, h3⟩
    · simp only at h1 h2 h3
      subst h1 h2 h3
      exact ⟨.inl rfl, fun L => rfl⟩
    · simp only at h1 h2 h3
      subst h2 h3
      have hj := (gi j).trans h1
      exact ⟨Sl_own klen _ ks H _ _ hj, fun L => by rw [src_sl, rd_flat klen _ ks H _ _ hj]; rfl⟩
  exact ⟨⟨hm.1.1, hk.1, lm, lk, hm.1.2, hk.2⟩, ⟨hm.2.1, hm.2.2.1, hm.2.2.2⟩⟩
variable (w0 H)
set_option maxHeartbeats 20000000 in
theorem l16AnyRoom_nm (D : Cd) (B : Hp) (l : List (Option Ob)) (q p : Nat) (hD : CdOk w0 D) (hq : l[q]? = some (dr D p)) (hp : p ≤ 200000) : AFn Tryz.prog w0 21 #[.pointer (some ⟨nid B q, 0, some 2⟩)] (Hx B l) fun v H2 => ∃ p' R x g, H2 = Hx B (l.set q (dr D p') ++ g) ∧ p ≤ p' ∧ p' ≤ p + 2100 ∧ v = .agg (R.enc x).toArray ∧ PlS B l.length g R x ∧ SmR R ∧ NmR R ∧ R.ms.length ≤ 200 ∧ R.ks.length ≤ 200 ∧ (x.b = none → x.a = none ∨ 1 ≤ R.next ∨ R.ms ≠ []) := by
  have hlq := lt_of_get hq
  have e : Hx B l = Hx B (l.set q (dr D p)) := by conv => lhs; rw [set_same hq, List.append_nil]
  rw [e]
  obtain ⟨sA, gQ, gR, gR0, sR, sR0⟩ := dset hlq
  have gs : ∀ X : Option Ob, (l.set q X)[q]? = some X := fun X => by rw [List.getElem?_set_self hlq]
  have hb : ∀ (g : List (Option Ob)) (Y : Option Ob) (r : List (Option Ob)), (g ++ Y :: r)[g.length]? = some Y := fun g Y r => by rw [List.getElem?_append_right (Nat.le_refl _)]; simp
  have gi : ∀ (g r : List (Option Ob)) (k : Nat), (g ++ r)[g.length + k]? = r[k]? := fun g r k => by rw [List.getElem?_append_right (by omega)]; simp
  have si : ∀ (g r : List (Option Ob)) (k : Nat) (Z : Option Ob), (g ++ r).set (g.length + k) Z = g ++ r.set k Z := fun g r k Z => by rw [List.set_append_right _ _ (by omega)]; simp
  have si0 : ∀ (g r : List (Option Ob)) (Z : Option Ob), (g ++ r).set g.length Z = g ++ r.set 0 Z := fun g r Z => by rw [List.set_append_right _ _ (by omega)]; simp
  refine AFn_of Tryz.func21 rfl (by kernel_rfl) ?_
  have r := Tryz.results21
  simp only [go_sem, cond, Nat.reduceAdd, Nat.reduceLeDiff, Nat.reduceEqDiff, Nat.reduceBEq, decide_true, decide_false, Int.toNat_natCast, r, sA, gQ, gR, gR0, sR, sR0, hb, gi, si, si0, List.set_cons_zero, List.set_cons_succ, List.set_set, List.append_assoc, List.length_append, List.length_set, List.singleton_append, List.cons_append, List.nil_append]
  refine call (l16Log_ok w0 D B _ q _ hD (gQ _ _) (by omega)) ?_
  rintro v H2 ⟨p1, es, kl, g, rfl, hp1, hp2, hes, hlen, rfl, hkl⟩
  simp only [go_sem, cond, Nat.reduceAdd, Nat.reduceLeDiff, Nat.reduceEqDiff, Nat.reduceBEq, decide_true, decide_false, Int.toNat_natCast, r, sA, gQ, gR, gR0, sR, sR0, hb, gi, si, si0, List.set_cons_zero, List.set_cons_succ, List.set_set, List.append_assoc, List.length_append, List.length_set, List.singleton_append, List.cons_append, List.nil_append]
  have hlk : (l.set q (dr D p1) ++ some (.row 26 [.string em, .int .i64 0, .slice none 0 0, .slice none 0 0, .string em]) :: g)[l.length + 1 + kl]? = some (some (.row 38 (flat En.enc es))) := by
    rw [Nat.add_assoc, gR, Nat.add_comm 1 kl]; exact hkl
  have hro := roomR_ok (ByteArray.mk #[100, 101, 110]) es (by decide) hes.sm
  have hnm := roomR_nm (ByteArray.mk #[100, 101, 110]) es hes.nm
  refine call (l8Room_ok w0 _ es _ _ _ (Sl_own elen _ es B _ _ hlk) (by omega) hes.sm) ?_
  rintro v H2 ⟨x, g2, rfl, rfl, hpl, hxa⟩
  clear hlk hkl
  generalize roomR (ByteArray.mk #[100, 101, 110]) es = R at *
  obtain ⟨hsm, hlm, hlk⟩ := hro
  obtain ⟨na, nx, ms, ks, su⟩ := R
  simp only at hlm hlk hxa
  obtain ⟨g3, hg3⟩ : ∃ g3, g3 = g ++ g2 := ⟨_, rfl⟩
  have hA : ∀ r, g ++ (g2 ++ r) = g3 ++ r := fun r => by rw [hg3, List.append_assoc]
  have hA0 : g ++ g2 = g3 := hg3.symm
  have hgl : g.length + g2.length = g3.length := by rw [hg3, List.length_append]
  have hgl2 : ∀ k, g.length + (g2.length + k) = g3.length + k := fun k => by rw [← hgl]; omega
  have hbs : ∀ (j : Nat) (X Y : Option Ob) (r : List (Option Ob)), (g3.set j X ++ Y :: r)[g3.length]? = some Y := fun j X Y r => by have := hb (g3.set j X) Y r; rwa [List.length_set] at this
  have sis : ∀ (j : Nat) (X Z : Option Ob) (r : List (Option Ob)), (g3.set j X ++ r).set g3.length Z = g3.set j X ++ r.set 0 Z := fun j X Z r => by have := si0 (g3.set j X) r Z; rwa [List.length_set] at this
  rcases hpl with ⟨rfl, h1, h2⟩ | ⟨j, k, hj, hk, rfl⟩
  · simp only at h1 h2
    subst h1 h2
    simp only [go_sem, cond, Nat.reduceAdd, Nat.reduceLeDiff, Nat.reduceEqDiff, Nat.reduceBEq, decide_true, decide_false, Int.toNat_natCast, r, sA, gQ, gR, gR0, sR, sR0, hb, gi, si, si0, List.set_cons_zero, List.set_cons_succ, List.set_set, List.append_assoc, List.length_append, List.length_set, List.singleton_append, List.cons_append, List.nil_append, hbs, sis, hA, hA0, hgl, hgl2, Rm.enc]
    repeat' (first
      | (refine Br_intro ?_ ?_ <;> intro h <;> simp only [go_sem, cond, Nat.reduceAdd, Nat.reduceLeDiff, Nat.reduceEqDiff, Nat.reduceBEq, decide_true, decide_false, Int.toNat_natCast, r, sA, gQ, gR, gR0, sR, sR0, hb, gi, si, si0, List.set_cons_zero, List.set_cons_succ, List.set_set, List.append_assoc, List.length_append, List.length_set, List.singleton_append, List.cons_append, List.nil_append, hbs, sis, hA, hA0, hgl, hgl2, h])
      | (refine xw_open (id := 8) [0, 1, 0, 4, 0, 28, 0, 124, 252, 508, 1023, 2047, 4095] [.q 0, .q 2, .q 4, .q 6, .l 1, .e 3, .e 5, .e 7, .e 8, .e 9, .d 1, .e 10, .q 11, .e 12] rfl (by kernel_rfl) ?_; simp only [go_sem, cond, Nat.reduceAdd, Nat.reduceLeDiff, Nat.reduceEqDiff, Nat.reduceBEq, decide_true, decide_false, Int.toNat_natCast, r, sA, gQ, gR, gR0, sR, sR0, hb, gi, si, si0, List.set_cons_zero, List.set_cons_succ, List.set_set, List.append_assoc, List.length_append, List.length_set, List.singleton_append, List.cons_append, List.nil_append, hbs, sis, hA, hA0, hgl, hgl2])
      | (refine xw_open (id := 10) [0, 1, 0, 0, 12, 0, 60, 124, 252, 511, 1023, 2047] [.q 0, .q 2, .q 5, .l 1, .e 3, .e 4, .e 6, .e 7, .e 8, .d 1, .e 9, .q 10, .e 11] rfl (by kernel_rfl) ?_; simp only [go_sem, cond, Nat.reduceAdd, Nat.reduceLeDiff, Nat.reduceEqDiff, Nat.reduceBEq, decide_true, decide_false, Int.toNat_natCast, r, sA, gQ, gR, gR0, sR, sR0, hb, gi, si, si0, List.set_cons_zero, List.set_cons_succ, List.set_set, List.append_assoc, List.length_append, List.length_set, List.singleton_append, List.cons_append, List.nil_append, hbs, sis, hA, hA0, hgl, hgl2])
      | (refine call (pick_ok w0 D hD B _ q _ _ (gQ _ _) (by omega)) ?_; rintro v H2 ⟨c, rfl, c1, -, rfl⟩; clear c1; simp only [go_sem, cond, Nat.reduceAdd, Nat.reduceLeDiff, Nat.reduceEqDiff, Nat.reduceBEq, decide_true, decide_false, Int.toNat_natCast, r, sA, gQ, gR, gR0, sR, sR0, hb, gi, si, si0, List.set_cons_zero, List.set_cons_succ, List.set_set, List.append_assoc, List.length_append, List.length_set, List.singleton_append, List.cons_append, List.nil_append, hbs, sis, hA, hA0, hgl, hgl2])
      | (refine call (l16User_nm w0 D B _ q _ hD (gQ _ _) (by omega)) ?_; rintro v H2 ⟨p3, rfl, h3, h4, us, ⟨hus, hun⟩, rfl⟩; simp only [go_sem, cond, Nat.reduceAdd, Nat.reduceLeDiff, Nat.reduceEqDiff, Nat.reduceBEq, decide_true, decide_false, Int.toNat_natCast, r, sA, gQ, gR, gR0, sR, sR0, hb, gi, si, si0, List.set_cons_zero, List.set_cons_succ, List.set_set, List.append_assoc, List.length_append, List.length_set, List.singleton_append, List.cons_append, List.nil_append, hbs, sis, hA, hA0, hgl, hgl2])
      | (refine call (l16Nick_ok w0 D B _ q _ hD (gQ _ _) (by omega)) ?_; rintro v H2 ⟨p3, rfl, h3, h4, ni, hni, rfl⟩; simp only [go_sem, cond, Nat.reduceAdd, Nat.reduceLeDiff, Nat.reduceEqDiff, Nat.reduceBEq, decide_true, decide_false, Int.toNat_natCast, r, sA, gQ, gR, gR0, sR, sR0, hb, gi, si, si0, List.set_cons_zero, List.set_cons_succ, List.set_set, List.append_assoc, List.length_append, List.length_set, List.singleton_append, List.cons_append, List.nil_append, hbs, sis, hA, hA0, hgl, hgl2])
      | (refine call (l16Any_ok w0 D B _ q _ hD (gQ _ _) (by omega)) ?_; rintro v H2 ⟨p3, rfl, h3, h4, su2, hsu2, rfl⟩; simp only [go_sem, cond, Nat.reduceAdd, Nat.reduceLeDiff, Nat.reduceEqDiff, Nat.reduceBEq, decide_true, decide_false, Int.toNat_natCast, r, sA, gQ, gR, gR0, sR, sR0, hb, gi, si, si0, List.set_cons_zero, List.set_cons_succ, List.set_set, List.append_assoc, List.length_append, List.length_set, List.singleton_append, List.cons_append, List.nil_append, hbs, sis, hA, hA0, hgl, hgl2])
      | (refine call (of_okP w0 nmS D hD B _ q _ _ _ _ _ (gQ _ _) (by omega) (by first | exact gR _ _ _ | exact gR0 _ _ | (rw [gR, List.getElem?_cons_succ, gi]; rfl)) rfl rfl (by decide) (by decide) (by decide)) ?_; rintro v H2 ⟨s1, hs0, rfl, rfl⟩; obtain ⟨hs1, hn1⟩ := nmS_spec hs0; simp only [go_sem, cond, Nat.reduceAdd, Nat.reduceLeDiff, Nat.reduceEqDiff, Nat.reduceBEq, decide_true, decide_false, Int.toNat_natCast, r, sA, gQ, gR, gR0, sR, sR0, hb, gi, si, si0, List.set_cons_zero, List.set_cons_succ, List.set_set, List.append_assoc, List.length_append, List.length_set, List.singleton_append, List.cons_append, List.nil_append, hbs, sis, hA, hA0, hgl, hgl2])
      | (refine call (of_ok w0 D hD B _ q _ _ _ _ _ (gQ _ _) (by omega) (by first | exact gR _ _ _ | exact gR0 _ _ | (rw [gR, List.getElem?_cons_succ, gi]; rfl)) rfl rfl (by decide) (by decide) (by decide)) ?_; rintro v H2 ⟨s1, hs1, rfl, rfl⟩; simp only [go_sem, cond, Nat.reduceAdd, Nat.reduceLeDiff, Nat.reduceEqDiff, Nat.reduceBEq, decide_true, decide_false, Int.toNat_natCast, r, sA, gQ, gR, gR0, sR, sR0, hb, gi, si, si0, List.set_cons_zero, List.set_cons_succ, List.set_set, List.append_assoc, List.length_append, List.length_set, List.singleton_append, List.cons_append, List.nil_append, hbs, sis, hA, hA0, hgl, hgl2])
      | (refine call (one_ok w0 D hD B _ q _ _ _ _ _ (gQ _ _) (by omega) (by first | exact gR _ _ _ | exact gR0 _ _ | (rw [gR, List.getElem?_cons_succ, gi]; rfl)) rfl rfl (by decide) (by decide) (by decide)) ?_; rintro v H2 ⟨s1, hs1, hs2, -, rfl, rfl⟩; simp only [go_sem, cond, Nat.reduceAdd, Nat.reduceLeDiff, Nat.reduceEqDiff, Nat.reduceBEq, decide_true, decide_false, Int.toNat_natCast, r, sA, gQ, gR, gR0, sR, sR0, hb, gi, si, si0, List.set_cons_zero, List.set_cons_succ, List.set_set, List.append_assoc, List.length_append, List.length_set, List.singleton_append, List.cons_append, List.nil_append, hbs, sis, hA, hA0, hgl, hgl2])
      | (refine bsV_dense ⟨_, XF.zer_9, rfl⟩ rfl rfl (by decide) rfl ?_; simp only [go_sem, cond, Nat.reduceAdd, Nat.reduceLeDiff, Nat.reduceEqDiff, Nat.reduceBEq, decide_true, decide_false, Int.toNat_natCast, r, sA, gQ, gR, gR0, sR, sR0, hb, gi, si, si0, List.set_cons_zero, List.set_cons_succ, List.set_set, List.append_assoc, List.length_append, List.length_set, List.singleton_append, List.cons_append, List.nil_append, hbs, sis, hA, hA0, hgl, hgl2])
      | (refine bsV_dense ⟨_, XF.zer_3, rfl⟩ rfl rfl (by decide) rfl ?_; simp only [go_sem, cond, Nat.reduceAdd, Nat.reduceLeDiff, Nat.reduceEqDiff, Nat.reduceBEq, decide_true, decide_false, Int.toNat_natCast, r, sA, gQ, gR, gR0, sR, sR0, hb, gi, si, si0, List.set_cons_zero, List.set_cons_succ, List.set_set, List.append_assoc, List.length_append, List.length_set, List.singleton_append, List.cons_append, List.nil_append, hbs, sis, hA, hA0, hgl, hgl2])
      | (refine Req_intro ⟨_, rfl, rfl⟩ ?_; simp only [go_sem, cond, Nat.reduceAdd, Nat.reduceLeDiff, Nat.reduceEqDiff, Nat.reduceBEq, decide_true, decide_false, Int.toNat_natCast, r, sA, gQ, gR, gR0, sR, sR0, hb, gi, si, si0, List.set_cons_zero, List.set_cons_succ, List.set_set, List.append_assoc, List.length_append, List.length_set, List.singleton_append, List.cons_append, List.nil_append, hbs, sis, hA, hA0, hgl, hgl2]))
    all_goals first
      | exact ⟨_, ⟨_, _, [], [], _⟩, ⟨none, 0, none, 0⟩, _, rfl, by omega, by omega, rfl, ⟨.inl ⟨rfl, rfl, rfl⟩, .inl ⟨rfl, rfl, rfl⟩⟩, ⟨by first | exact hsm.nm | (dsimp only; omega), by first | exact hsm.sj | (dsimp only; omega), by simp, by simp⟩, ⟨by simp, by simp⟩, by simp, by simp, fun _ => .inl rfl⟩
      | (refine appS_nil _ _ _ 1 _ _ _ _ (by decide) ?_ (by decide) ?_
         · decide
         simp only [go_sem, cond, Nat.reduceAdd, Nat.reduceLeDiff, Nat.reduceEqDiff, Nat.reduceBEq, decide_true, decide_false, Int.toNat_natCast, r, sA, gQ, gR, gR0, sR, sR0, hb, gi, si, si0, List.set_cons_zero, List.set_cons_succ, List.set_set, List.append_assoc, List.length_append, List.length_set, List.singleton_append, List.cons_append, List.nil_append, hbs, sis, hA, hA0, hgl, hgl2])
    · exact ⟨_, ⟨_, _, [⟨us, ni, (c : Int)⟩], [], _⟩, ⟨some _, _, none, 0⟩, _, rfl, by omega, by omega, rfl, ⟨.inr ⟨g3.length + 2 + 1, by rw [List.getElem?_cons_succ, gi]; rfl, rfl, rfl⟩, .inl ⟨rfl, rfl, rfl⟩⟩, ⟨hsm.nm, hsm.sj, (fun m hm => by simp only [List.mem_singleton] at hm; subst hm; exact ⟨by dsimp only; omega, by dsimp only; omega⟩), by simp⟩, ⟨(fun m hm => by simp only [List.mem_singleton] at hm; subst hm; exact hun), by simp⟩, by simp, by simp, fun _ => .inr (.inr (by simp))⟩
    · exact ⟨_, ⟨_, _, [], [⟨s1, (c : Int)⟩], _⟩, ⟨none, 0, some _, _⟩, _, rfl, by omega, by omega, rfl, ⟨.inl ⟨rfl, rfl, rfl⟩, .inr ⟨g3.length + 3 + 1, by rw [List.getElem?_cons_succ, gi]; rfl, rfl, rfl⟩⟩, ⟨hsm.nm, hsm.sj, by simp, (fun m hm => by simp only [List.mem_singleton] at hm; subst hm; dsimp only; omega)⟩, ⟨by simp, (fun m hm => by simp only [List.mem_singleton] at hm; subst hm; exact hn1)⟩, by simp, by simp, fun _ => .inl rfl⟩
  · rw [adR_Hx]
    have hj1 : g3[g.length + j]? = some (some (.row 67 (flat Mem.enc ms))) := by rw [hg3, gi]; exact hj
    have hk1 : g3[g.length + k]? = some (some (.row 43 (flat Rk.enc ks))) := by rw [hg3, gi]; exact hk
    have hlt : g.length + j < g3.length := lt_of_get hj1
    have hlt2 : g.length + k < g3.length := lt_of_get hk1
    simp only [go_sem, cond, Nat.reduceAdd, Nat.reduceLeDiff, Nat.reduceEqDiff, Nat.reduceBEq, decide_true, decide_false, Int.toNat_natCast, r, sA, gQ, gR, gR0, sR, sR0, hb, gi, si, si0, List.set_cons_zero, List.set_cons_succ, List.set_set, List.append_assoc, List.length_append, List.length_set, List.singleton_append, List.cons_append, List.nil_append, hbs, sis, hA, hA0, hgl, hgl2, Rm.enc, adR]
    have e1 : ∀ i, l.length + (g.length + 1) + i = l.length + (g.length + i + 1) := fun i => by omega
    simp only [Nat.zero_add, e1]
    clear hj hk
    generalize g.length + j = j1 at *
    generalize g.length + k = k1 at *
    have gj : ∀ r, (g3 ++ r)[j1]? = g3[j1]? := fun r => List.getElem?_append_left hlt
    have gk : ∀ r, (g3 ++ r)[k1]? = g3[k1]? := fun r => List.getElem?_append_left hlt2
    have sj : ∀ X r, (g3 ++ r).set j1 X = g3.set j1 X ++ r := fun X r => List.set_append_left _ _ hlt
    have sk : ∀ X r, (g3 ++ r).set k1 X = g3.set k1 X ++ r := fun X r => List.set_append_left _ _ hlt2
    have hne : j1 ≠ k1 := by
      intro e
      rw [e, hk1] at hj1
      simp at hj1
    repeat' (first
      | (refine Br_intro ?_ ?_ <;> intro h <;> simp only [go_sem, cond, Nat.reduceAdd, Nat.reduceLeDiff, Nat.reduceEqDiff, Nat.reduceBEq, decide_true, decide_false, Int.toNat_natCast, r, sA, gQ, gR, gR0, sR, sR0, hb, gi, si, si0, List.set_cons_zero, List.set_cons_succ, List.set_set, List.append_assoc, List.length_append, List.length_set, List.singleton_append, List.cons_append, List.nil_append, hbs, sis, hA, hA0, hgl, hgl2, gj, gk, sj, sk, h])
      | (refine xw_open (id := 8) [0, 1, 0, 4, 0, 28, 0, 124, 252, 508, 1023, 2047, 4095] [.q 0, .q 2, .q 4, .q 6, .l 1, .e 3, .e 5, .e 7, .e 8, .e 9, .d 1, .e 10, .q 11, .e 12] rfl (by kernel_rfl) ?_; simp only [go_sem, cond, Nat.reduceAdd, Nat.reduceLeDiff, Nat.reduceEqDiff, Nat.reduceBEq, decide_true, decide_false, Int.toNat_natCast, r, sA, gQ, gR, gR0, sR, sR0, hb, gi, si, si0, List.set_cons_zero, List.set_cons_succ, List.set_set, List.append_assoc, List.length_append, List.length_set, List.singleton_append, List.cons_append, List.nil_append, hbs, sis, hA, hA0, hgl, hgl2, gj, gk, sj, sk])
      | (refine xw_open (id := 10) [0, 1, 0, 0, 12, 0, 60, 124, 252, 511, 1023, 2047] [.q 0, .q 2, .q 5, .l 1, .e 3, .e 4, .e 6, .e 7, .e 8, .d 1, .e 9, .q 10, .e 11] rfl (by kernel_rfl) ?_; simp only [go_sem, cond, Nat.reduceAdd, Nat.reduceLeDiff, Nat.reduceEqDiff, Nat.reduceBEq, decide_true, decide_false, Int.toNat_natCast, r, sA, gQ, gR, gR0, sR, sR0, hb, gi, si, si0, List.set_cons_zero, List.set_cons_succ, List.set_set, List.append_assoc, List.length_append, List.length_set, List.singleton_append, List.cons_append, List.nil_append, hbs, sis, hA, hA0, hgl, hgl2, gj, gk, sj, sk])
      | (refine call (pick_ok w0 D hD B _ q _ _ (gQ _ _) (by omega)) ?_; rintro v H2 ⟨c, rfl, c1, -, rfl⟩; clear c1; simp only [go_sem, cond, Nat.reduceAdd, Nat.reduceLeDiff, Nat.reduceEqDiff, Nat.reduceBEq, decide_true, decide_false, Int.toNat_natCast, r, sA, gQ, gR, gR0, sR, sR0, hb, gi, si, si0, List.set_cons_zero, List.set_cons_succ, List.set_set, List.append_assoc, List.length_append, List.length_set, List.singleton_append, List.cons_append, List.nil_append, hbs, sis, hA, hA0, hgl, hgl2, gj, gk, sj, sk])
      | (refine call (l16User_nm w0 D B _ q _ hD (gQ _ _) (by omega)) ?_; rintro v H2 ⟨p3, rfl, h3, h4, us, ⟨hus, hun⟩, rfl⟩; simp only [go_sem, cond, Nat.reduceAdd, Nat.reduceLeDiff, Nat.reduceEqDiff, Nat.reduceBEq, decide_true, decide_false, Int.toNat_natCast, r, sA, gQ, gR, gR0, sR, sR0, hb, gi, si, si0, List.set_cons_zero, List.set_cons_succ, List.set_set, List.append_assoc, List.length_append, List.length_set, List.singleton_append, List.cons_append, List.nil_append, hbs, sis, hA, hA0, hgl, hgl2, gj, gk, sj, sk])
      | (refine call (l16Nick_ok w0 D B _ q _ hD (gQ _ _) (by omega)) ?_; rintro v H2 ⟨p3, rfl, h3, h4, ni, hni, rfl⟩; simp only [go_sem, cond, Nat.reduceAdd, Nat.reduceLeDiff, Nat.reduceEqDiff, Nat.reduceBEq, decide_true, decide_false, Int.toNat_natCast, r, sA, gQ, gR, gR0, sR, sR0, hb, gi, si, si0, List.set_cons_zero, List.set_cons_succ, List.set_set, List.append_assoc, List.length_append, List.length_set, List.singleton_append, List.cons_append, List.nil_append, hbs, sis, hA, hA0, hgl, hgl2, gj, gk, sj, sk])
      | (refine call (l16Any_ok w0 D B _ q _ hD (gQ _ _) (by omega)) ?_; rintro v H2 ⟨p3, rfl, h3, h4, su2, hsu2, rfl⟩; simp only [go_sem, cond, Nat.reduceAdd, Nat.reduceLeDiff, Nat.reduceEqDiff, Nat.reduceBEq, decide_true, decide_false, Int.toNat_natCast, r, sA, gQ, gR, gR0, sR, sR0, hb, gi, si, si0, List.set_cons_zero, List.set_cons_succ, List.set_set, List.append_assoc, List.length_append, List.length_set, List.singleton_append, List.cons_append, List.nil_append, hbs, sis, hA, hA0, hgl, hgl2, gj, gk, sj, sk])
      | (refine call (of_okP w0 nmS D hD B _ q _ _ _ _ _ (gQ _ _) (by omega) (by first | exact gR _ _ _ | exact gR0 _ _ | (rw [gR, List.getElem?_cons_succ, gi]; rfl)) rfl rfl (by decide) (by decide) (by decide)) ?_; rintro v H2 ⟨s1, hs0, rfl, rfl⟩; obtain ⟨hs1, hn1⟩ := nmS_spec hs0; simp only [go_sem, cond, Nat.reduceAdd, Nat.reduceLeDiff, Nat.reduceEqDiff, Nat.reduceBEq, decide_true, decide_false, Int.toNat_natCast, r, sA, gQ, gR, gR0, sR, sR0, hb, gi, si, si0, List.set_cons_zero, List.set_cons_succ, List.set_set, List.append_assoc, List.length_append, List.length_set, List.singleton_append, List.cons_append, List.nil_append, hbs, sis, hA, hA0, hgl, hgl2, gj, gk, sj, sk])
      | (refine call (of_ok w0 D hD B _ q _ _ _ _ _ (gQ _ _) (by omega) (by first | exact gR _ _ _ | exact gR0 _ _ | (rw [gR, List.getElem?_cons_succ, gi]; rfl)) rfl rfl (by decide) (by decide) (by decide)) ?_; rintro v H2 ⟨s1, hs1, rfl, rfl⟩; simp only [go_sem, cond, Nat.reduceAdd, Nat.reduceLeDiff, Nat.reduceEqDiff, Nat.reduceBEq, decide_true, decide_false, Int.toNat_natCast, r, sA, gQ, gR, gR0, sR, sR0, hb, gi, si, si0, List.set_cons_zero, List.set_cons_succ, List.set_set, List.append_assoc, List.length_append, List.length_set, List.singleton_append, List.cons_append, List.nil_append, hbs, sis, hA, hA0, hgl, hgl2, gj, gk, sj, sk])
      | (refine call (one_ok w0 D hD B _ q _ _ _ _ _ (gQ _ _) (by omega) (by first | exact gR _ _ _ | exact gR0 _ _ | (rw [gR, List.getElem?_cons_succ, gi]; rfl)) rfl rfl (by decide) (by decide) (by decide)) ?_; rintro v H2 ⟨s1, hs1, hs2, -, rfl, rfl⟩; simp only [go_sem, cond, Nat.reduceAdd, Nat.reduceLeDiff, Nat.reduceEqDiff, Nat.reduceBEq, decide_true, decide_false, Int.toNat_natCast, r, sA, gQ, gR, gR0, sR, sR0, hb, gi, si, si0, List.set_cons_zero, List.set_cons_succ, List.set_set, List.append_assoc, List.length_append, List.length_set, List.singleton_append, List.cons_append, List.nil_append, hbs, sis, hA, hA0, hgl, hgl2, gj, gk, sj, sk])
      | (refine bsV_dense ⟨_, XF.zer_9, rfl⟩ rfl rfl (by decide) rfl ?_; simp only [go_sem, cond, Nat.reduceAdd, Nat.reduceLeDiff, Nat.reduceEqDiff, Nat.reduceBEq, decide_true, decide_false, Int.toNat_natCast, r, sA, gQ, gR, gR0, sR, sR0, hb, gi, si, si0, List.set_cons_zero, List.set_cons_succ, List.set_set, List.append_assoc, List.length_append, List.length_set, List.singleton_append, List.cons_append, List.nil_append, hbs, sis, hA, hA0, hgl, hgl2, gj, gk, sj, sk])
      | (refine bsV_dense ⟨_, XF.zer_3, rfl⟩ rfl rfl (by decide) rfl ?_; simp only [go_sem, cond, Nat.reduceAdd, Nat.reduceLeDiff, Nat.reduceEqDiff, Nat.reduceBEq, decide_true, decide_false, Int.toNat_natCast, r, sA, gQ, gR, gR0, sR, sR0, hb, gi, si, si0, List.set_cons_zero, List.set_cons_succ, List.set_set, List.append_assoc, List.length_append, List.length_set, List.singleton_append, List.cons_append, List.nil_append, hbs, sis, hA, hA0, hgl, hgl2, gj, gk, sj, sk])
      | (refine Req_intro ⟨_, rfl, rfl⟩ ?_; simp only [go_sem, cond, Nat.reduceAdd, Nat.reduceLeDiff, Nat.reduceEqDiff, Nat.reduceBEq, decide_true, decide_false, Int.toNat_natCast, r, sA, gQ, gR, gR0, sR, sR0, hb, gi, si, si0, List.set_cons_zero, List.set_cons_succ, List.set_set, List.append_assoc, List.length_append, List.length_set, List.singleton_append, List.cons_append, List.nil_append, hbs, sis, hA, hA0, hgl, hgl2, gj, gk, sj, sk]))
    all_goals first
      | exact ⟨_, ⟨_, _, ms, ks, _⟩, ⟨some _, _, some _, _⟩, _, rfl, by omega, by omega, rfl, ⟨.inr ⟨j1 + 1, by rw [List.getElem?_cons_succ, gj]; exact hj1, rfl, rfl⟩, .inr ⟨k1 + 1, by rw [List.getElem?_cons_succ, gk]; exact hk1, rfl, rfl⟩⟩, ⟨by first | exact hsm.nm | (dsimp only; omega), by first | exact hsm.sj | (dsimp only; omega), hsm.ms, hsm.ks⟩, ⟨hnm.ms, hnm.ks⟩, by dsimp only; omega, by dsimp only; omega, fun h => by cases h⟩
      | exact ⟨_, ⟨_, _, ms, [], _⟩, ⟨some _, _, none, 0⟩, _, rfl, by omega, by omega, rfl, ⟨.inr ⟨j1 + 1, by rw [List.getElem?_cons_succ, gj]; exact hj1, rfl, rfl⟩, .inl ⟨rfl, rfl, rfl⟩⟩, ⟨hsm.nm, hsm.sj, hsm.ms, by simp⟩, ⟨hnm.ms, by simp⟩, by dsimp only; omega, by simp, fun h => .inr (.inl (hxa.resolve_left (by simp [adR])))⟩
      | (refine appS_full (m := 1) (sl := ms.length) _ _ _ _ _ _ _ (l.length + (j1 + 1)) _ _ _ (by rw [gR, List.getElem?_cons_succ, gj]; exact hj1) rfl (flat_len mlen _) XF.lay_67 (by decide) (by rfl) (by omega) (by omega) ?_
         simp only [go_sem, cond, Nat.reduceAdd, Nat.reduceLeDiff, Nat.reduceEqDiff, Nat.reduceBEq, decide_true, decide_false, Int.toNat_natCast, r, sA, gQ, gR, gR0, sR, sR0, hb, gi, si, si0, List.set_cons_zero, List.set_cons_succ, List.set_set, List.append_assoc, List.length_append, List.length_set, List.singleton_append, List.cons_append, List.nil_append, hbs, sis, hA, hA0, hgl, hgl2, gj, gk, sj, sk])
      | (refine appS_full (m := 1) (sl := ks.length) _ _ _ _ _ _ _ (l.length + (k1 + 1)) _ _ _ (by rw [gR, List.getElem?_cons_succ, gk]; exact hk1) rfl (flat_len klen _) XF.lay_43 (by decide) (by rfl) (by omega) (by omega) ?_
         simp only [go_sem, cond, Nat.reduceAdd, Nat.reduceLeDiff, Nat.reduceEqDiff, Nat.reduceBEq, decide_true, decide_false, Int.toNat_natCast, r, sA, gQ, gR, gR0, sR, sR0, hb, gi, si, si0, List.set_cons_zero, List.set_cons_succ, List.set_set, List.append_assoc, List.length_append, List.length_set, List.singleton_append, List.cons_append, List.nil_append, hbs, sis, hA, hA0, hgl, hgl2, gj, gk, sj, sk])
    · have e1 : flat Mem.enc ms ++ [.string us, .string ni, .int .i64 (c : Int)] = flat Mem.enc (ms ++ [⟨us, ni, (c : Int)⟩]) := by rw [flat_app]; rfl
      have e2 : ms.length + 1 = (ms ++ [(⟨us, ni, (c : Int)⟩ : Mem)]).length := by simp
      have e3 : ∀ m ∈ ms ++ [(⟨us, ni, (c : Int)⟩ : Mem)], m.user.size ≤ 100000 ∧ m.nick.size ≤ 100000 := fun m hm => by
        rcases List.mem_append.1 hm with hm | hm
        · exact hsm.ms m hm
        · simp only [List.mem_singleton] at hm; subst hm; exact ⟨by dsimp only; omega, by dsimp only; omega⟩
      have e5 : ∀ m ∈ ms ++ [(⟨us, ni, (c : Int)⟩ : Mem)], nmB m.user = true := fun m hm => by
        rcases List.mem_append.1 hm with hm | hm
        · exact hnm.ms m hm
        · simp only [List.mem_singleton] at hm; subst hm; exact hun
      have e4 : (ms ++ [(⟨us, ni, (c : Int)⟩ : Mem)]).length ≤ 200 := by rw [← e2]; omega
      rw [e1, e2]
      clear e1 e2
      generalize ms ++ [(⟨us, ni, (c : Int)⟩ : Mem)] = ms' at *
      exact ⟨_, ⟨_, _, ms', ks, _⟩, ⟨some _, _, some _, _⟩, _, rfl, by omega, by omega, rfl, ⟨.inr ⟨j1 + 1, by rw [List.getElem?_cons_succ, List.getElem?_append_left (by rw [List.length_set]; exact hlt), List.getElem?_set_self hlt], rfl, rfl⟩, .inr ⟨k1 + 1, by rw [List.getElem?_cons_succ, List.getElem?_append_left (by rw [List.length_set]; exact hlt2), List.getElem?_set_ne hne]; exact hk1, rfl, rfl⟩⟩, ⟨hsm.nm, hsm.sj, e3, hsm.ks⟩, ⟨e5, hnm.ks⟩, e4, by dsimp only; omega, fun h => by cases h⟩
    · have e1 : flat Rk.enc ks ++ [.string s1, .int .i64 (c : Int)] = flat Rk.enc (ks ++ [⟨s1, (c : Int)⟩]) := by rw [flat_app]; rfl
      have e2 : ks.length + 1 = (ks ++ [(⟨s1, (c : Int)⟩ : Rk)]).length := by simp
      have e3 : ∀ m ∈ ks ++ [(⟨s1, (c : Int)⟩ : Rk)], m.user.size ≤ 100000 := fun m hm => by
        rcases List.mem_append.1 hm with hm | hm
        · exact hsm.ks m hm
        · simp only [List.mem_singleton] at hm; subst hm; dsimp only; omega
      have e5 : ∀ m ∈ ks ++ [(⟨s1, (c : Int)⟩ : Rk)], nmB m.user = true := fun m hm => by
        rcases List.mem_append.1 hm with hm | hm
        · exact hnm.ks m hm
        · simp only [List.mem_singleton] at hm; subst hm; exact hn1
      have e4 : (ks ++ [(⟨s1, (c : Int)⟩ : Rk)]).length ≤ 200 := by rw [← e2]; omega
      rw [e1, e2]
      clear e1 e2
      generalize ks ++ [(⟨s1, (c : Int)⟩ : Rk)] = ks' at *
      exact ⟨_, ⟨_, _, ms, ks', _⟩, ⟨some _, _, some _, _⟩, _, rfl, by omega, by omega, rfl, ⟨.inr ⟨j1 + 1, by rw [List.getElem?_cons_succ, List.getElem?_append_left (by rw [List.length_set]; exact hlt), List.getElem?_set_ne hne.symm]; exact hj1, rfl, rfl⟩, .inr ⟨k1 + 1, by rw [List.getElem?_cons_succ, List.getElem?_append_left (by rw [List.length_set]; exact hlt2), List.getElem?_set_self hlt2], rfl, rfl⟩⟩, ⟨hsm.nm, hsm.sj, hsm.ms, e3⟩, ⟨hnm.ms, e5⟩, by dsimp only; omega, e4, fun h => by cases h⟩
end Go.Proofs.YtmacpgoclhgafaaGreatDoorW.FA

namespace Go.Proofs.YtmacpgoclhgafaaGreatDoorW.FA
open Go.RowKit Go.Proofs.YtmacpgoclhgafaaGreatDoorW.XM Go.Proofs Go.Proofs.YtmacpgoclhgafaaGreatDoorW.XWords
set_option maxRecDepth 100000
set_option linter.unusedSimpArgs false
set_option linter.unusedVariables false
variable (w0 : World) (H : Hp)
/-- The texts of an entry are short. -/
structure TxE (e : En) : Prop where
  rm : e.room.size ≤ 100000
  us : e.user.size ≤ 100000
  ni : e.nick.size ≤ 100000
  tx : e.text.size ≤ 100000
  id : e.id.size ≤ 100000
  rf : e.ref.size ≤ 100000
theorem TxE.big {e : En} (h : TxE e) : BigE e := ⟨by have := h.rm; omega, by have := h.us; omega, by have := h.ni; omega, by have := h.tx; omega, by have := h.id; omega, by have := h.rf; omega⟩
theorem TxE.mk2 {se k n : Int} {ro us ni te i re : ByteArray} (h1 : ro.size ≤ 100000) (h2 : us.size ≤ 100000) (h3 : ni.size ≤ 100000) (h4 : te.size ≤ 100000) (h5 : i.size ≤ 100000) (h6 : re.size ≤ 100000) : TxE ⟨ro, se, k, us, ni, te, i, re, n⟩ := ⟨h1, h2, h3, h4, h5, h6⟩
end Go.Proofs.YtmacpgoclhgafaaGreatDoorW.FA

namespace Go.Proofs.YtmacpgoclhgafaaGreatDoorW.FA
open Go.RowKit Go.Proofs.YtmacpgoclhgafaaGreatDoorW.XM Go.Proofs Go.Proofs.YtmacpgoclhgafaaGreatDoorW.XWords
set_option maxRecDepth 100000
set_option linter.unusedSimpArgs false
set_option linter.unusedVariables false
variable (w0 : World) (H : Hp)
/-- Where a law's code lies. -/
structure CoOk (w0 : World) (A : Option Addr) (c : Nat) (bs : List UInt8) : Prop where
  rd : ∀ H, Sl w0 H A 1 (bs.map encB)
  pl : plain (.slice A bs.length c) = true
  le : bs.length ≤ c
theorem Sl.take {w0 : World} {H : Hp} {A : Option Addr} {n : Nat} {rows : List (List Value)} (h : Sl w0 H A n rows) (k : Nat) : Sl w0 H A n (rows.take k) := by
  rcases h with h | ⟨b, o, sp, h, hr⟩
  · exact .inl (by rw [h, List.take_nil])
  · refine .inr ⟨b, o, sp, h, fun i r hi => hr i r ?_⟩
    rw [List.getElem?_take] at hi
    split at hi
    · exact hi
    · cases hi
theorem l16Open_ok (A : Option Addr) (c : Nat) (bs : List UInt8) (hc : CoOk w0 A c bs) : AFn Tryz.prog w0 17 #[.slice A bs.length c] H fun v H2 => ∃ D, CdOk w0 D ∧ v = .pointer (some ⟨nid H 0, 0, some 2⟩) ∧ H2 = Hx H [dr D 0] := by
  have hle := hc.le
  refine AFn_nil ?_
  refine AFn_of Tryz.func17 rfl (by kernel_rfl) ?_
  have r := Tryz.results17
  simp only [go_sem, cond, Nat.reduceAdd, Nat.reduceLeDiff, Nat.reduceEqDiff, Nat.reduceBEq, decide_true, decide_false, Int.toNat_natCast, r]
  refine Br_intro ?_ ?_ <;> intro h <;> simp only [go_sem, cond, Nat.reduceAdd, Nat.reduceLeDiff, Nat.reduceEqDiff, Nat.reduceBEq, decide_true, decide_false, Int.toNat_natCast, r, h]
  · have h := of_decide_eq_true h
    have hpl := hc.pl
    have hrd := hc.rd
    cases A with
    | none =>
      rcases hrd H with h2 | ⟨b, o, sp, h2, -⟩
      · simp only [List.map_eq_nil_iff] at h2
        subst h2
        simp at h
      · cases h2
    | some a =>
      obtain ⟨b, o, sp⟩ := a
      cases sp with
      | some t => simp [plain] at hpl
      | none =>
        refine ⟨_, _, XF.elm_22, by simp, 0, 2000, c, rfl, rfl, rfl, by omega, by omega, by omega, by omega, trivial, .inr (.inl ⟨by simp, ?_⟩)⟩
        have e1 : (if ((c : Int)).toNat = Int.toNat 0 then o else o + Int.toNat 0 * 1) = o := by split <;> simp
        rw [e1]
        simp only [go_sem, cond, Nat.reduceAdd, Nat.reduceLeDiff, Nat.reduceEqDiff, Nat.reduceBEq, decide_true, decide_false, Int.toNat_natCast, r]
        refine ⟨⟨some ⟨b, o, none⟩, 2000, c⟩, ⟨⟨bs.take 2000, by simp; omega, fun H => ?_⟩, by dsimp only; omega, rfl⟩, rfl⟩
        rw [List.map_take]
        exact Sl.take (hrd H) 2000
  · have h := of_decide_eq_false h
    refine ⟨⟨A, bs.length, c⟩, ⟨⟨bs, rfl, hc.rd⟩, by dsimp only; omega, hc.pl⟩, rfl⟩
end Go.Proofs.YtmacpgoclhgafaaGreatDoorW.FA

namespace Go.Proofs.YtmacpgoclhgafaaGreatDoorW.FA
open Go.RowKit Go.Proofs.YtmacpgoclhgafaaGreatDoorW.XM Go.Proofs Go.Proofs.YtmacpgoclhgafaaGreatDoorW.XWords
set_option maxRecDepth 100000
set_option linter.unusedSimpArgs false
set_option linter.unusedVariables false
variable (w0 : World) (H : Hp)
end Go.Proofs.YtmacpgoclhgafaaGreatDoorW.FA

namespace Go.Proofs.YtmacpgoclhgafaaGreatDoorW.FA
open Go.RowKit Go.Proofs.YtmacpgoclhgafaaGreatDoorW.XM Go.Proofs Go.Proofs.YtmacpgoclhgafaaGreatDoorW.XWords
set_option maxRecDepth 100000
set_option linter.unusedSimpArgs false
set_option linter.unusedVariables false
variable (w0 : World) (H : Hp)
theorem cloneM_nil : AFn Tryz.prog w0 74 #[.slice none 0 0] H fun v H2 => v = .slice none 0 0 ∧ H2 = H := by
  refine AFn.scal rfl Tryz.func74 rfl (by kernel_rfl) ?_
  have r := Tryz.results74
  simp only [go_sem, cond, Nat.reduceAdd, Nat.reduceLeDiff, Nat.reduceEqDiff, Nat.reduceBEq, decide_true, decide_false, Int.toNat_natCast, r]
  exact ⟨_, rfl⟩
theorem cloneK_nil : AFn Tryz.prog w0 76 #[.slice none 0 0] H fun v H2 => v = .slice none 0 0 ∧ H2 = H := by
  refine AFn.scal rfl Tryz.func76 rfl (by kernel_rfl) ?_
  have r := Tryz.results76
  simp only [go_sem, cond, Nat.reduceAdd, Nat.reduceLeDiff, Nat.reduceEqDiff, Nat.reduceBEq, decide_true, decide_false, Int.toNat_natCast, r]
  exact ⟨_, rfl⟩
theorem clipM_nil : AFn Tryz.prog w0 73 #[.slice none 0 0] H fun v H2 => v = .slice none 0 0 ∧ H2 = H := by
  refine AFn.scal rfl Tryz.func73 rfl (by kernel_rfl) ?_
  have r := Tryz.results73
  simp only [go_sem, cond, Nat.reduceAdd, Nat.reduceLeDiff, Nat.reduceEqDiff, Nat.reduceBEq, decide_true, decide_false, Int.toNat_natCast, r]
  refine ⟨_, _, XF.elm_23, by simp, 0, 0, 0, rfl, rfl, rfl, by decide, by decide, by decide, by decide, ?_⟩
  simp only [go_sem, cond, Nat.reduceAdd, Nat.reduceLeDiff, Nat.reduceEqDiff, Nat.reduceBEq, decide_true, decide_false, Int.toNat_natCast, r]
  exact ⟨_, rfl⟩
theorem clipK_nil : AFn Tryz.prog w0 75 #[.slice none 0 0] H fun v H2 => v = .slice none 0 0 ∧ H2 = H := by
  refine AFn.scal rfl Tryz.func75 rfl (by kernel_rfl) ?_
  have r := Tryz.results75
  simp only [go_sem, cond, Nat.reduceAdd, Nat.reduceLeDiff, Nat.reduceEqDiff, Nat.reduceBEq, decide_true, decide_false, Int.toNat_natCast, r]
  refine ⟨_, _, XF.elm_24, by simp, 0, 0, 0, rfl, rfl, rfl, by decide, by decide, by decide, by decide, ?_⟩
  simp only [go_sem, cond, Nat.reduceAdd, Nat.reduceLeDiff, Nat.reduceEqDiff, Nat.reduceBEq, decide_true, decide_false, Int.toNat_natCast, r]
  exact ⟨_, rfl⟩
/-- A room of which nothing lies anywhere. -/
theorem copiedNN_ok (na su : ByteArray) (nx : Int) : AFn Tryz.prog w0 36 #[.agg #[.string na, .int .i64 nx, .slice none 0 0, .slice none 0 0, .string su]] H fun v H2 => v = .agg #[.string na, .int .i64 nx, .slice none 0 0, .slice none 0 0, .string su] ∧ H2 = H := by
  refine AFn.scal rfl Tryz.func36 rfl (by kernel_rfl) ?_
  have r := Tryz.results36
  simp only [go_sem, cond, Nat.reduceAdd, Nat.reduceLeDiff, Nat.reduceEqDiff, Nat.reduceBEq, decide_true, decide_false, Int.toNat_natCast, r]
  (refine xw_open (id := 1) [0, 1, 3, 7, 0, 16, 63, 127, 63, 511, 1023, 2047] [.q 0, .q 4, .q 1, .l 5, .e 2, .e 3, .d 5, .q 8, .e 6, .e 7, .e 9, .q 10, .e 11] rfl (by kernel_rfl) ?_; simp only [go_sem, cond, Nat.reduceAdd, Nat.reduceLeDiff, Nat.reduceEqDiff, Nat.reduceBEq, decide_true, decide_false, Int.toNat_natCast, r])
  refine call_eq (cloneM_nil _ _) ?_
  simp only [go_sem, cond, Nat.reduceAdd, Nat.reduceLeDiff, Nat.reduceEqDiff, Nat.reduceBEq, decide_true, decide_false, Int.toNat_natCast, r]
  refine call_eq (clipM_nil _ _) ?_
  simp only [go_sem, cond, Nat.reduceAdd, Nat.reduceLeDiff, Nat.reduceEqDiff, Nat.reduceBEq, decide_true, decide_false, Int.toNat_natCast, r]
  refine call_eq (cloneK_nil _ _) ?_
  simp only [go_sem, cond, Nat.reduceAdd, Nat.reduceLeDiff, Nat.reduceEqDiff, Nat.reduceBEq, decide_true, decide_false, Int.toNat_natCast, r]
  refine call_eq (clipK_nil _ _) ?_
  simp only [go_sem, cond, Nat.reduceAdd, Nat.reduceLeDiff, Nat.reduceEqDiff, Nat.reduceBEq, decide_true, decide_false, Int.toNat_natCast, r]
  exact ⟨_, rfl⟩
/-- A room without members. -/
theorem copiedNS_ok (na su : ByteArray) (nx : Int) (ks : List Rk) (b : Addr) (d : Nat) (hk : ∀ L, src w0 (Hx H L) 2 (.slice (some b) ks.length d) = some (ks.length, flat Rk.enc ks)) (hlk : ks.length ≤ 2000000) : AFn Tryz.prog w0 36 #[.agg #[.string na, .int .i64 nx, .slice none 0 0, .slice (some b) ks.length d, .string su]] H fun v H2 => v = .agg #[.string na, .int .i64 nx, .slice none 0 0, xs (.slice (some ⟨nid H 0, 0, some (ks.length * 2)⟩) ks.length ks.length), .string su] ∧ H2 = Hx H [some (.row 43 (flat Rk.enc ks))] := by
  refine AFn.news Tryz.func36 rfl (by kernel_rfl) ?_
  have r := Tryz.results36
  simp only [go_sem, cond, Nat.reduceAdd, Nat.reduceLeDiff, Nat.reduceEqDiff, Nat.reduceBEq, decide_true, decide_false, Int.toNat_natCast, r]
  (refine xw_open (id := 1) [0, 1, 3, 7, 0, 16, 63, 127, 63, 511, 1023, 2047] [.q 0, .q 4, .q 1, .l 5, .e 2, .e 3, .d 5, .q 8, .e 6, .e 7, .e 9, .q 10, .e 11] rfl (by kernel_rfl) ?_; simp only [go_sem, cond, Nat.reduceAdd, Nat.reduceLeDiff, Nat.reduceEqDiff, Nat.reduceBEq, decide_true, decide_false, Int.toNat_natCast, r])
  refine call_eq (cloneM_nil _ _) ?_
  simp only [go_sem, cond, Nat.reduceAdd, Nat.reduceLeDiff, Nat.reduceEqDiff, Nat.reduceBEq, decide_true, decide_false, Int.toNat_natCast, r]
  refine call_eq (clipM_nil _ _) ?_
  simp only [go_sem, cond, Nat.reduceAdd, Nat.reduceLeDiff, Nat.reduceEqDiff, Nat.reduceBEq, decide_true, decide_false, Int.toNat_natCast, r]
  refine call_eq (cloneK_ok _ _ b ks d (fun L => by rw [Hx_Hx]; exact hk _) hlk) ?_
  simp only [go_sem, cond, Nat.reduceAdd, Nat.reduceLeDiff, Nat.reduceEqDiff, Nat.reduceBEq, decide_true, decide_false, Int.toNat_natCast, r]
  refine call_eq (clipKX_ok _ _ (nid H 2) 0 _ _ _ (flat Rk.enc ks) (by rw [Hx_get]; rfl) (flat_len klen _) (Nat.le_refl _)) ?_
  simp only [go_sem, cond, Nat.reduceAdd, Nat.reduceLeDiff, Nat.reduceEqDiff, Nat.reduceBEq, decide_true, decide_false, Int.toNat_natCast, r]
  refine ⟨_, [2], _, rfl, ?_, by decide, ?_, rfl, rfl⟩
  · intro k hk
    simp only [List.mem_singleton] at hk
    subst hk
    exact flat_plain (fun _ => rfl) ks
  · simp only [ren3, ren2, renL, ren1_xs, rho_nid, idx_hit, Option.map_some]
    simp only [ren1, plain, if_true, Option.map_some]
/-- The same, nothing being told of the capacity. -/
theorem copiedNSp_ok (na su : ByteArray) (nx : Int) (ks : List Rk) (b : Addr) (d : Nat) (hk : ∀ L, src w0 (Hx H L) 2 (.slice (some b) ks.length d) = some (ks.length, flat Rk.enc ks)) (hlk : ks.length ≤ 2000000) : AFn Tryz.prog w0 36 #[.agg #[.string na, .int .i64 nx, .slice none 0 0, .slice (some b) ks.length d, .string su]] H fun v H2 => v = .agg #[.string na, .int .i64 nx, .slice none 0 0, (.slice (some ⟨nid H 0, 0, some (ks.length * 2)⟩) ks.length ks.length), .string su] ∧ H2 = Hx H [some (.row 43 (flat Rk.enc ks))] := by
  refine AFn.news Tryz.func36 rfl (by kernel_rfl) ?_
  have r := Tryz.results36
  simp only [go_sem, cond, Nat.reduceAdd, Nat.reduceLeDiff, Nat.reduceEqDiff, Nat.reduceBEq, decide_true, decide_false, Int.toNat_natCast, r]
  (refine xw_open (id := 1) [0, 1, 3, 7, 0, 16, 63, 127, 63, 511, 1023, 2047] [.q 0, .q 4, .q 1, .l 5, .e 2, .e 3, .d 5, .q 8, .e 6, .e 7, .e 9, .q 10, .e 11] rfl (by kernel_rfl) ?_; simp only [go_sem, cond, Nat.reduceAdd, Nat.reduceLeDiff, Nat.reduceEqDiff, Nat.reduceBEq, decide_true, decide_false, Int.toNat_natCast, r])
  refine call_eq (cloneM_nil _ _) ?_
  simp only [go_sem, cond, Nat.reduceAdd, Nat.reduceLeDiff, Nat.reduceEqDiff, Nat.reduceBEq, decide_true, decide_false, Int.toNat_natCast, r]
  refine call_eq (clipM_nil _ _) ?_
  simp only [go_sem, cond, Nat.reduceAdd, Nat.reduceLeDiff, Nat.reduceEqDiff, Nat.reduceBEq, decide_true, decide_false, Int.toNat_natCast, r]
  refine call_eq (cloneK_ok _ _ b ks d (fun L => by rw [Hx_Hx]; exact hk _) hlk) ?_
  simp only [go_sem, cond, Nat.reduceAdd, Nat.reduceLeDiff, Nat.reduceEqDiff, Nat.reduceBEq, decide_true, decide_false, Int.toNat_natCast, r]
  refine call_eq (clipK_ok _ _ (nid H 2) 0 _ _ _ (flat Rk.enc ks) (by rw [Hx_get]; rfl) (flat_len klen _) (Nat.le_refl _)) ?_
  simp only [go_sem, cond, Nat.reduceAdd, Nat.reduceLeDiff, Nat.reduceEqDiff, Nat.reduceBEq, decide_true, decide_false, Int.toNat_natCast, r]
  refine ⟨_, [2], _, rfl, ?_, by decide, ?_, rfl, rfl⟩
  · intro k hk
    simp only [List.mem_singleton] at hk
    subst hk
    exact flat_plain (fun _ => rfl) ks
  · simp only [ren3, ren2, renL, ren1, rho_nid, idx_hit, Option.map_some, plain, if_true]
theorem insK_nil (B : Hp) (l : List (Option Ob)) (q : Nat) (y : Rk) (hq : l[q]? = some (some (.row 43 y.enc))) : AFn Tryz.prog w0 102 #[.slice none 0 0, .int .i64 0, .slice (some ⟨nid B q, 0, some 2⟩) 1 1] (Hx B l) fun v H2 => v = .slice (some ⟨nid B l.length, 0, some 2⟩) 1 1 ∧ H2 = Hx B (l ++ [some (.row 43 y.enc)]) := by
  refine AFn_of Tryz.func102 rfl (by kernel_rfl) ?_
  have r := Tryz.results102
  simp only [go_sem, cond, Nat.reduceAdd, Nat.reduceLeDiff, Nat.reduceEqDiff, Nat.reduceBEq, decide_true, decide_false, Int.toNat_natCast, r, hq]
  refine ⟨_, _, XF.elm_24, by simp, 0, 0, 0, rfl, rfl, rfl, by decide, by decide, by decide, by decide, ?_⟩
  have c0 : rdO (some (some (.row 43 y.enc))) 0 2 2 = some y.enc := rfl
  have n1 : (((1 : Nat) : Int) == (0 : Int)) = false := rfl
  have n0 : ((0 : Int) == ((0 : Nat) : Int)) = true := rfl
  simp only [go_sem, cond, Nat.reduceAdd, Nat.reduceLeDiff, Nat.reduceEqDiff, Nat.reduceBEq, decide_true, decide_false, Int.toNat_natCast, r, hq, c0, n1, n0]
  refine appS_nil _ _ _ 1 _ _ _ _ (by decide) ?_ (by decide) ?_
  · decide
  simp only [go_sem, cond, Nat.reduceAdd, Nat.reduceLeDiff, Nat.reduceEqDiff, Nat.reduceBEq, decide_true, decide_false, Int.toNat_natCast, r, hq]
theorem rankedN_ok (B : Hp) (l : List (Option Ob)) (p : Nat) (a b vm c : Value) (u : ByteArray) (num : Int)
    (hp : l[p]? = some (some (.row 26 [a, b, vm, .slice none 0 0, c]))) :
    AFn Tryz.prog w0 72 #[.pointer (some ⟨nid B p, 0, some 5⟩), .string u, .int .i64 num] (Hx B l) fun v H2 => v = .tuple #[] ∧ H2 = Hx B (if num = 1 then l else (l ++ [some (Ob.row 43 [.string u, .int .i64 num]), some (Ob.row 43 [.string u, .int .i64 num])]).set p (some (Ob.row 26 [a, b, vm, .slice (some ⟨nid B (l.length + 1), 0, some 2⟩) 1 1, c]))) := by
  refine AFn_of Tryz.func72 rfl (by kernel_rfl) ?_
  have r := Tryz.results72
  have hlp : p < l.length := lt_of_get hp
  simp only [go_sem, cond, Nat.reduceAdd, Nat.reduceLeDiff, Nat.reduceEqDiff, Nat.reduceBEq, decide_true, decide_false, Int.toNat_natCast, r, hp]
  refine call_eq (search_ok w0 _ none 0 [] u trivial (.inl rfl) (by simp)) ?_
  have tk : thereK u [] = false := rfl
  have ak : ((atK u [] : Nat) : Int) = 0 := rfl
  simp only [go_sem, cond, Nat.reduceAdd, Nat.reduceLeDiff, Nat.reduceEqDiff, Nat.reduceBEq, decide_true, decide_false, Int.toNat_natCast, r, hp, tk, ak]
  refine Br_intro ?_ ?_ <;> intro h2 <;> simp only [go_sem, cond, Nat.reduceAdd, Nat.reduceLeDiff, Nat.reduceEqDiff, Nat.reduceBEq, decide_true, decide_false, Int.toNat_natCast, r, hp, h2]
  · rw [if_pos (eq_of_beq h2)]
    exact ⟨rfl, rfl⟩
  · have hnum : ¬ num = 1 := by intro e; subst e; cases h2
    refine Req_intro ⟨_, rfl, rfl⟩ ?_
    have gq : ∀ X : Option Ob, (l ++ [X])[p]? = l[p]? := fun X => List.getElem?_append_left hlp
    have gq2 : ∀ X Y : Option Ob, (l ++ [X, Y])[p]? = l[p]? := fun X Y => List.getElem?_append_left hlp
    simp only [go_sem, cond, Nat.reduceAdd, Nat.reduceLeDiff, Nat.reduceEqDiff, Nat.reduceBEq, decide_true, decide_false, Int.toNat_natCast, r, hp, gq, h2]
    refine call_eq (insK_nil w0 B (l ++ [some (Ob.row 43 [.string u, .int .i64 num])]) l.length ⟨u, num⟩ (by rw [List.getElem?_append_right (Nat.le_refl _)]; simp [Rk.enc])) ?_
    rw [List.append_assoc]
    simp only [go_sem, cond, Nat.reduceAdd, Nat.reduceLeDiff, Nat.reduceEqDiff, Nat.reduceBEq, decide_true, decide_false, Int.toNat_natCast, r, hp, gq, gq2, h2, Rk.enc, List.length_append, List.singleton_append]
    rw [if_neg hnum]
    exact ⟨rfl, rfl⟩
end Go.Proofs.YtmacpgoclhgafaaGreatDoorW.FA

namespace Go.Proofs.YtmacpgoclhgafaaGreatDoorW.FA
open Go.RowKit Go.Proofs.YtmacpgoclhgafaaGreatDoorW.XM Go.Proofs Go.Proofs.YtmacpgoclhgafaaGreatDoorW.XWords
set_option maxRecDepth 100000
set_option linter.unusedSimpArgs false
set_option linter.unusedVariables false
variable (w0 : World) (H : Hp)
/-- A room that is ok and has no owner has nothing. -/
theorem roomB_noks {R : Rm} (h : roomB R = true) (hk : R.ks = []) : R.ms = [] ∧ R.next = 0 := by
  simp only [roomB, Bool.and_eq_true] at h
  have h := h.2.2.2.2.2
  rw [hk] at h
  simp only [FA.ownB, Nat.lt_irrefl, decide_false, Bool.false_or, idleB, Bool.and_eq_true, beq_iff_eq] at h
  refine ⟨?_, h.1⟩
  have := h.2.1
  cases hm : R.ms with
  | nil => rfl
  | cons a t => rw [hm] at this; simp at this; omega
theorem appliedNN_ok (na su : ByteArray) (nx : Int) (e : En) (hT : Tabs w0) (hb : Big ⟨na, nx, [], [], su⟩) (he : BigE e) :
    AFn Tryz.prog w0 35 #[.agg #[.string na, .int .i64 nx, .slice none 0 0, .slice none 0 0, .string su], .agg e.enc.toArray] H fun v H2 => ∃ x' L, H2 = Hx H L ∧ v = .tuple #[.agg ((outR ⟨na, nx, [], [], su⟩ e).enc x').toArray, .bool (canB ⟨na, nx, [], [], su⟩ e)] ∧ PlS H 0 L (outR ⟨na, nx, [], [], su⟩ e) x' ∧ x'.a = none := by
  refine AFn_nil ?_
  refine AFn_of Tryz.func35 rfl (by kernel_rfl) ?_
  have r := Tryz.results35
  obtain ⟨R, hR⟩ : ∃ R : Rm, R = ⟨na, nx, [], [], su⟩ := ⟨_, rfl⟩
  rw [← hR]
  have hno : canB R e = false → ∀ l, ∃ x' L, Hx H l = Hx H L ∧ Value.tuple #[.agg #[.string na, .int .i64 nx, .slice none 0 0, .slice none 0 0, .string su], .bool false] = .tuple #[.agg ((outR R e).enc x').toArray, .bool (canB R e)] ∧ PlS H 0 L (outR R e) x' ∧ x'.a = none := fun hc l => by
    refine ⟨⟨none, 0, none, 0⟩, l, rfl, ?_, ?_, rfl⟩
    · rw [hc, outR, if_neg (by rw [hc]; decide), hR]; rfl
    · rw [outR, if_neg (by rw [hc]; decide), hR]; exact ⟨.inl ⟨rfl, rfl, rfl⟩, .inl ⟨rfl, rfl, rfl⟩⟩
  simp only [go_sem, cond, Nat.reduceAdd, Nat.reduceLeDiff, Nat.reduceEqDiff, Nat.reduceBEq, decide_true, decide_false, Int.toNat_natCast, En.enc, r]
  refine call_eq (EntryOk_ok _ _ e hT he) ?_
  simp only [go_sem, cond, Nat.reduceAdd, Nat.reduceLeDiff, Nat.reduceEqDiff, Nat.reduceBEq, decide_true, decide_false, Int.toNat_natCast, En.enc, r]
  have en : R.name = na := by rw [hR]
  have ex : R.next = nx := by rw [hR]
  repeat' (refine Br_intro ?_ ?_ <;> intro h <;> simp only [go_sem, cond, Nat.reduceAdd, Nat.reduceLeDiff, Nat.reduceEqDiff, Nat.reduceBEq, decide_true, decide_false, Int.toNat_natCast, En.enc, r, h])
  all_goals first
    | exact hno (by simp only [canB, en, ex, *, Bool.true_and, Bool.false_and]) _
    | skip
  rename_i g1 g2
  have hs : e.seq = nx := eq_of_beq h
  refine call_eq (copiedNN_ok _ _ na su nx) ?_
  simp only [go_sem, cond, Nat.reduceAdd, Nat.reduceLeDiff, Nat.reduceEqDiff, Nat.reduceBEq, decide_true, decide_false, Int.toNat_natCast, En.enc, r]
  refine call_eq (member_ok _ _ ⟨na, nx, [], [], su⟩ ⟨none, 0, none, 0⟩ _ (RmAt_nil _ _ _ _ _)) ?_
  rw [show idxP (isU e.user) ([] : List Mem) 0 = -1 from rfl]
  simp only [go_sem, cond, Nat.reduceAdd, Nat.reduceLeDiff, Nat.reduceEqDiff, Nat.reduceBEq, decide_true, decide_false, Int.toNat_natCast, r]
  have hb2 := applyR_big R e (hR ▸ hb) he
  have d1 : ((-1 : Int) < 0) = True := eq_true (by omega)
  by_cases k1 : (e.kind == 1) = true
  · have hc : canB R e = roomB (applyR R e) := by simp only [canB, needB, en, ex, g1, g2, h, k1, Bool.true_and, Bool.true_or, Bool.or_true]
    have ha : applyR R e = ⟨na, IntKind.i64.wrap (nx + 1), [⟨e.user, e.nick, e.num⟩], [], su⟩ := by simp only [applyR, k1, hs, hR, if_true, List.nil_append]
    (refine xw_open (id := 6) [0, 1, 3, 7, 15, 31, 63, 127, 255, 511, 1023, 2047, 4095, 8191, 4095, 32767, 65535, 131071, 4095, 266239, 1048575, 2097151, 4194303] [.q 0, .q 1, .q 2, .q 3, .q 4, .q 5, .q 6, .q 7, .q 8, .q 9, .q 10, .q 11, .q 12, .q 14, .q 18, .q 13, .q 15, .q 16, .q 17, .q 19, .q 20, .q 21, .q 22] rfl (by kernel_rfl) ?_; simp only [go_sem, cond, Nat.reduceAdd, Nat.reduceLeDiff, Nat.reduceEqDiff, Nat.reduceBEq, decide_true, decide_false, Int.toNat_natCast, r, k1, d1])
    refine Req_intro ⟨_, rfl, rfl⟩ ?_
    simp only [go_sem, cond, Nat.reduceAdd, Nat.reduceLeDiff, Nat.reduceEqDiff, Nat.reduceBEq, decide_true, decide_false, Int.toNat_natCast, r, k1]
    refine appS_nil _ _ _ 1 _ _ _ _ (by decide) ?_ (by decide) ?_
    · decide
    rw [ha] at hb2 hc
    simp only [go_sem, cond, Nat.reduceAdd, Nat.reduceLeDiff, Nat.reduceEqDiff, Nat.reduceBEq, decide_true, decide_false, Int.toNat_natCast, r, k1]
    refine call_eq (RoomOk_ok w0 _ ⟨na, IntKind.i64.wrap (nx + 1), [⟨e.user, e.nick, e.num⟩], [], su⟩ ⟨some ⟨nid H 5, 0, some (1 * 3)⟩, 1, none, 0⟩ hT (PlS.at (n := 0) (pre := []) ⟨.inr ⟨5, rfl, rfl, rfl⟩, .inl ⟨rfl, rfl, rfl⟩⟩ rfl (by simp) (by simp)).1 hb2) ?_
    simp only [go_sem, cond, Nat.reduceAdd, Nat.reduceLeDiff, Nat.reduceEqDiff, Nat.reduceBEq, decide_true, decide_false, Int.toNat_natCast, r, k1]
    refine Br_intro ?_ ?_ <;> intro ho <;> simp only [go_sem, cond, Nat.reduceAdd, Nat.reduceLeDiff, Nat.reduceEqDiff, Nat.reduceBEq, decide_true, decide_false, Int.toNat_natCast, r, ho]
    · have := (roomB_noks ho rfl).1
      cases this
    · exact hno (hc.trans ho) _
  by_cases k6 : (e.kind == 6) = true
  · have hc : canB R e = roomB (applyR R e) := by simp only [canB, needB, en, ex, g1, g2, h, k6, Bool.true_and, Bool.true_or, Bool.or_true]
    have k2 : (e.kind == 2) = false := by rw [eq_of_beq k6]; rfl
    have k4 : (e.kind == 4) = false := by rw [eq_of_beq k6]; rfl
    have k5 : (e.kind == 5) = false := by rw [eq_of_beq k6]; rfl
    rw [Bool.not_eq_true] at k1
    have ha : applyR R e = ⟨na, IntKind.i64.wrap (nx + 1), [], rkd e.user e.num [], su⟩ := by simp only [applyR, k1, k2, k4, k5, k6, hs, hR, if_true, Bool.false_eq_true, if_false]
    have hq : 0 ≤ nx ∧ nx ≤ 9998 := by
      simp only [entB, inB, Bool.and_eq_true, decide_eq_true_eq] at g1
      rw [hs] at g1
      exact g1.2.2.1
    (refine xw_open (id := 6) [0, 1, 3, 7, 15, 31, 63, 127, 255, 511, 1023, 2047, 4095, 8191, 4095, 32767, 65535, 131071, 4095, 266239, 1048575, 2097151, 4194303] [.q 0, .q 1, .q 2, .q 3, .q 4, .q 5, .q 6, .q 7, .q 8, .q 9, .q 10, .q 11, .q 12, .q 14, .q 18, .q 13, .q 15, .q 16, .q 17, .q 19, .q 20, .q 21, .q 22] rfl (by kernel_rfl) ?_; simp only [go_sem, cond, Nat.reduceAdd, Nat.reduceLeDiff, Nat.reduceEqDiff, Nat.reduceBEq, decide_true, decide_false, Int.toNat_natCast, r, k1, k2, k4, k5, k6])
    refine call_eq (rankedN_ok w0 H _ 3 _ _ _ _ e.user e.num rfl) ?_
    rw [ha] at hb2 hc
    by_cases hn1 : e.num = 1
    · rw [if_pos hn1]
      have hk : rkd e.user e.num [] = [] := by rw [hn1]; rfl
      rw [hk] at hb2 hc ha
      simp only [go_sem, cond, Nat.reduceAdd, Nat.reduceLeDiff, Nat.reduceEqDiff, Nat.reduceBEq, decide_true, decide_false, Int.toNat_natCast, r, k1, k2, k4, k5, k6]
      refine call_eq (RoomOk_ok w0 _ ⟨na, IntKind.i64.wrap (nx + 1), [], [], su⟩ ⟨none, 0, none, 0⟩ hT (RmAt_nil _ _ _ _ _) hb2) ?_
      simp only [go_sem, cond, Nat.reduceAdd, Nat.reduceLeDiff, Nat.reduceEqDiff, Nat.reduceBEq, decide_true, decide_false, Int.toNat_natCast, r]
      refine Br_intro ?_ ?_ <;> intro ho <;> simp only [go_sem, cond, Nat.reduceAdd, Nat.reduceLeDiff, Nat.reduceEqDiff, Nat.reduceBEq, decide_true, decide_false, Int.toNat_natCast, r, ho]
      · have := (roomB_noks ho rfl).2
        simp only at this
        rw [wrap_i64 (by omega) (by omega)] at this
        omega
      · exact hno (hc.trans ho) _
    · rw [if_neg hn1]
      have hk : rkd e.user e.num [] = [⟨e.user, e.num⟩] := by
        have : (e.num == 1) = false := beq_eq_false_iff_ne.2 hn1
        simp [rkd, runK, this]
      rw [hk] at hb2 hc ha
      simp only [go_sem, cond, Nat.reduceAdd, Nat.reduceLeDiff, Nat.reduceEqDiff, Nat.reduceBEq, decide_true, decide_false, Int.toNat_natCast, r, k1, k2, k4, k5, k6, List.cons_append, List.nil_append, List.set_cons_succ, List.set_cons_zero]
      refine call_eq (RoomOk_ok w0 _ ⟨na, IntKind.i64.wrap (nx + 1), [], [⟨e.user, e.num⟩], su⟩ ⟨none, 0, some ⟨nid H 5, 0, some 2⟩, 1⟩ hT (PlS.at (n := 0) (pre := []) ⟨.inl ⟨rfl, rfl, rfl⟩, .inr ⟨5, rfl, rfl, rfl⟩⟩ rfl (by simp) (by simp)).1 hb2) ?_
      simp only [go_sem, cond, Nat.reduceAdd, Nat.reduceLeDiff, Nat.reduceEqDiff, Nat.reduceBEq, decide_true, decide_false, Int.toNat_natCast, r]
      refine Br_intro ?_ ?_ <;> intro ho <;> simp only [go_sem, cond, Nat.reduceAdd, Nat.reduceLeDiff, Nat.reduceEqDiff, Nat.reduceBEq, decide_true, decide_false, Int.toNat_natCast, r, ho]
      · refine call_eq (copiedNSp_ok w0 _ na su (IntKind.i64.wrap (nx + 1)) [⟨e.user, e.num⟩] ⟨nid H 5, 0, some 2⟩ 1 (PlS.at (R := ⟨na, IntKind.i64.wrap (nx + 1), [], [⟨e.user, e.num⟩], su⟩) (x := ⟨none, 0, some ⟨nid H 5, 0, some 2⟩, 1⟩) (n := 0) (pre := []) ⟨.inl ⟨rfl, rfl, rfl⟩, .inr ⟨5, rfl, rfl, rfl⟩⟩ rfl (by simp) (by simp)).1.ok (by simp)) ?_
        simp only [go_sem, cond, Nat.reduceAdd, Nat.reduceLeDiff, Nat.reduceEqDiff, Nat.reduceBEq, decide_true, decide_false, Int.toNat_natCast, r, List.cons_append, List.nil_append]
        have hcc := hc.trans ho
        rw [hcc, outR, if_pos hcc, ha]
        exact ⟨⟨none, 0, some _, _⟩, _, rfl, rfl, ⟨.inl ⟨rfl, rfl, rfl⟩, .inr ⟨6, rfl, rfl, rfl⟩⟩, rfl⟩
      · exact hno (hc.trans ho) _
  rw [Bool.not_eq_true] at k1 k6
  have hn : canB R e = false := by
    have hi : isB R e = false := by rw [isB, hR]; rfl
    simp only [canB, needB, hi, k1, k6, Bool.false_or, Bool.false_and, Bool.and_false]
  (refine xw_open (id := 6) [0, 1, 3, 7, 15, 31, 63, 127, 255, 511, 1023, 2047, 4095, 8191, 4095, 32767, 65535, 131071, 4095, 266239, 1048575, 2097151, 4194303] [.q 0, .q 1, .q 2, .q 3, .q 4, .q 5, .q 6, .q 7, .q 8, .q 9, .q 10, .q 11, .q 12, .q 14, .q 18, .q 13, .q 15, .q 16, .q 17, .q 19, .q 20, .q 21, .q 22] rfl (by kernel_rfl) ?_; simp only [go_sem, cond, Nat.reduceAdd, Nat.reduceLeDiff, Nat.reduceEqDiff, Nat.reduceBEq, decide_true, decide_false, Int.toNat_natCast, r, d1, k1, k6])
  exact hno hn _
theorem appliedNS_ok (na su : ByteArray) (nx : Int) (ks : List Rk) (b : Addr) (d : Nat) (e : En) (hT : Tabs w0) (hr : RmAt w0 H ⟨na, nx, [], ks, su⟩ ⟨none, 0, some b, d⟩) (hb : Big ⟨na, nx, [], ks, su⟩) (he : BigE e) (lk : ks.length ≤ 6) (h0 : roomB ⟨na, nx, [], ks, su⟩ = true) :
    AFn Tryz.prog w0 35 #[.agg #[.string na, .int .i64 nx, .slice none 0 0, .slice (some b) ks.length d, .string su], .agg e.enc.toArray] H fun v H2 => ∃ x' L, H2 = Hx H L ∧ v = .tuple #[.agg ((outR ⟨na, nx, [], ks, su⟩ e).enc x').toArray, .bool (canB ⟨na, nx, [], ks, su⟩ e)] ∧ (canB ⟨na, nx, [], ks, su⟩ e = true → PlS H 0 L (applyR ⟨na, nx, [], ks, su⟩ e) x') ∧ (canB ⟨na, nx, [], ks, su⟩ e = false → x' = ⟨none, 0, some b, d⟩) ∧ x'.b ≠ none := by
  refine AFn_nil ?_
  refine AFn_of Tryz.func35 rfl (by kernel_rfl) ?_
  have r := Tryz.results35
  obtain ⟨R, hR⟩ : ∃ R : Rm, R = ⟨na, nx, [], ks, su⟩ := ⟨_, rfl⟩
  rw [← hR]
  have hno : canB R e = false → ∀ l, ∃ x' L, Hx H l = Hx H L ∧ Value.tuple #[.agg #[.string na, .int .i64 nx, .slice none 0 0, .slice (some b) ks.length d, .string su], .bool false] = .tuple #[.agg ((outR R e).enc x').toArray, .bool (canB R e)] ∧ (canB R e = true → PlS H 0 L (applyR R e) x') ∧ (canB R e = false → x' = ⟨none, 0, some b, d⟩) ∧ x'.b ≠ none := fun hc l => by
    refine ⟨⟨none, 0, some b, d⟩, l, rfl, ?_, (fun h => by rw [hc] at h; cases h), (fun _ => rfl), by simp⟩
    rw [hc, outR, if_neg (by rw [hc]; decide), hR]; rfl
  have hasc : Asc ks := by
    simp only [roomB, Bool.and_eq_true] at h0
    exact asc_room h0.2.2.2.2.1.1
  have hok := hr.ok
  have hlk := hr.lk
  simp only at hok hlk
  simp only [go_sem, cond, Nat.reduceAdd, Nat.reduceLeDiff, Nat.reduceEqDiff, Nat.reduceBEq, decide_true, decide_false, Int.toNat_natCast, En.enc, r]
  refine call_eq (EntryOk_ok _ _ e hT he) ?_
  simp only [go_sem, cond, Nat.reduceAdd, Nat.reduceLeDiff, Nat.reduceEqDiff, Nat.reduceBEq, decide_true, decide_false, Int.toNat_natCast, En.enc, r]
  have en : R.name = na := by rw [hR]
  have ex : R.next = nx := by rw [hR]
  repeat' (refine Br_intro ?_ ?_ <;> intro h <;> simp only [go_sem, cond, Nat.reduceAdd, Nat.reduceLeDiff, Nat.reduceEqDiff, Nat.reduceBEq, decide_true, decide_false, Int.toNat_natCast, En.enc, r, h])
  all_goals first
    | exact hno (by simp only [canB, en, ex, *, Bool.true_and, Bool.false_and]) _
    | skip
  rename_i g1 g2
  have hs : e.seq = nx := eq_of_beq h
  refine call_eq (copiedNS_ok _ _ na su nx ks b d (fun L => by rw [Hx_Hx]; exact hok _) hlk) ?_
  simp only [go_sem, cond, Nat.reduceAdd, Nat.reduceLeDiff, Nat.reduceEqDiff, Nat.reduceBEq, decide_true, decide_false, Int.toNat_natCast, En.enc, r, List.cons_append, List.nil_append]
  refine call_eq (member_ok _ _ ⟨na, nx, [], ks, su⟩ ⟨none, 0, some b, d⟩ _ (hr.old _)) ?_
  rw [show idxP (isU e.user) ([] : List Mem) 0 = -1 from rfl]
  simp only [go_sem, cond, Nat.reduceAdd, Nat.reduceLeDiff, Nat.reduceEqDiff, Nat.reduceBEq, decide_true, decide_false, Int.toNat_natCast, r]
  have hb2 := applyR_big R e (hR ▸ hb) he
  have hln := applyR_len R e
  have d1 : ((-1 : Int) < 0) = True := eq_true (by omega)
  by_cases k1 : (e.kind == 1) = true
  · have hc : canB R e = roomB (applyR R e) := by simp only [canB, needB, en, ex, g1, g2, h, k1, Bool.true_and, Bool.true_or, Bool.or_true]
    have ha : applyR R e = ⟨na, IntKind.i64.wrap (nx + 1), [⟨e.user, e.nick, e.num⟩], ks, su⟩ := by simp only [applyR, k1, hs, hR, if_true, List.nil_append]
    (refine xw_open (id := 6) [0, 1, 3, 7, 15, 31, 63, 127, 255, 511, 1023, 2047, 4095, 8191, 4095, 32767, 65535, 131071, 4095, 266239, 1048575, 2097151, 4194303] [.q 0, .q 1, .q 2, .q 3, .q 4, .q 5, .q 6, .q 7, .q 8, .q 9, .q 10, .q 11, .q 12, .q 14, .q 18, .q 13, .q 15, .q 16, .q 17, .q 19, .q 20, .q 21, .q 22] rfl (by kernel_rfl) ?_; simp only [go_sem, cond, Nat.reduceAdd, Nat.reduceLeDiff, Nat.reduceEqDiff, Nat.reduceBEq, decide_true, decide_false, Int.toNat_natCast, r, k1, d1])
    refine Req_intro ⟨_, rfl, rfl⟩ ?_
    simp only [go_sem, cond, Nat.reduceAdd, Nat.reduceLeDiff, Nat.reduceEqDiff, Nat.reduceBEq, decide_true, decide_false, Int.toNat_natCast, r, k1]
    refine appS_nil _ _ _ 1 _ _ _ _ (by decide) ?_ (by decide) ?_
    · decide
    rw [ha] at hb2 hc
    simp only [go_sem, cond, Nat.reduceAdd, Nat.reduceLeDiff, Nat.reduceEqDiff, Nat.reduceBEq, decide_true, decide_false, Int.toNat_natCast, r, k1]
    refine call_eq (AFn.weak (.cons (Wks.agg (.cons (.refl _) (.cons (.refl _) (.cons (.refl _) (.cons (.xs _) (.cons (.refl _) .nil)))))) .nil) (RoomOk_ok w0 _ ⟨na, IntKind.i64.wrap (nx + 1), [⟨e.user, e.nick, e.num⟩], ks, su⟩ ⟨some ⟨nid H 6, 0, some (1 * 3)⟩, 1, some ⟨nid H 3, 0, some (ks.length * 2)⟩, ks.length⟩ hT (PlS.at (n := 0) (pre := []) ⟨.inr ⟨6, rfl, rfl, rfl⟩, .inr ⟨3, rfl, rfl, rfl⟩⟩ rfl (by simp) (by dsimp only; omega)).1 hb2)) ?_
    simp only [go_sem, cond, Nat.reduceAdd, Nat.reduceLeDiff, Nat.reduceEqDiff, Nat.reduceBEq, decide_true, decide_false, Int.toNat_natCast, r, k1]
    refine Br_intro ?_ ?_ <;> intro ho <;> simp only [go_sem, cond, Nat.reduceAdd, Nat.reduceLeDiff, Nat.reduceEqDiff, Nat.reduceBEq, decide_true, decide_false, Int.toNat_natCast, r, ho]
    · refine call_eq (AFn.weak (.cons (Wks.agg (.cons (.refl _) (.cons (.refl _) (.cons (.refl _) (.cons (.xs _) (.cons (.refl _) .nil)))))) .nil) (copied_ok w0 _ ⟨na, IntKind.i64.wrap (nx + 1), [⟨e.user, e.nick, e.num⟩], ks, su⟩ ⟨nid H 6, 0, some (1 * 3)⟩ ⟨nid H 3, 0, some (ks.length * 2)⟩ 1 ks.length (PlS.at (n := 0) (pre := []) ⟨.inr ⟨6, rfl, rfl, rfl⟩, .inr ⟨3, rfl, rfl, rfl⟩⟩ rfl (by simp) (by dsimp only; omega)).1)) ?_
      simp only [go_sem, cond, Nat.reduceAdd, Nat.reduceLeDiff, Nat.reduceEqDiff, Nat.reduceBEq, decide_true, decide_false, Int.toNat_natCast, Rm.enc, r, obsR, adR, List.cons_append, List.nil_append]
      have hcc := hc.trans ho
      rw [hcc, outR, if_pos hcc, ha]
      exact ⟨⟨some _, _, some _, _⟩, _, rfl, rfl, fun _ => ⟨.inr ⟨7, rfl, rfl, rfl⟩, .inr ⟨8, rfl, rfl, rfl⟩⟩, (fun h => by cases h), by simp⟩
    · exact hno (hc.trans ho) _
  by_cases k6 : (e.kind == 6) = true
  · have hc : canB R e = roomB (applyR R e) := by simp only [canB, needB, en, ex, g1, g2, h, k6, Bool.true_and, Bool.true_or, Bool.or_true]
    have k2 : (e.kind == 2) = false := by rw [eq_of_beq k6]; rfl
    have k4 : (e.kind == 4) = false := by rw [eq_of_beq k6]; rfl
    have k5 : (e.kind == 5) = false := by rw [eq_of_beq k6]; rfl
    rw [Bool.not_eq_true] at k1
    have ha : applyR R e = ⟨na, IntKind.i64.wrap (nx + 1), [], rankedI e.user e.num ks, su⟩ := by rw [← rkd_ranked _ _ _ hasc]; simp only [applyR, k1, k2, k4, k5, k6, hs, hR, if_true, Bool.false_eq_true, if_false]
    (refine xw_open (id := 6) [0, 1, 3, 7, 15, 31, 63, 127, 255, 511, 1023, 2047, 4095, 8191, 4095, 32767, 65535, 131071, 4095, 266239, 1048575, 2097151, 4194303] [.q 0, .q 1, .q 2, .q 3, .q 4, .q 5, .q 6, .q 7, .q 8, .q 9, .q 10, .q 11, .q 12, .q 14, .q 18, .q 13, .q 15, .q 16, .q 17, .q 19, .q 20, .q 21, .q 22] rfl (by kernel_rfl) ?_; simp only [go_sem, cond, Nat.reduceAdd, Nat.reduceLeDiff, Nat.reduceEqDiff, Nat.reduceBEq, decide_true, decide_false, Int.toNat_natCast, r, k1, k2, k4, k5, k6])
    refine call (ranked_ok w0 H _ 4 3 _ _ _ _ ks e.user e.num (by decide) hasc (by omega) rfl rfl) ?_
    rintro v H2 ⟨rfl, l2, rfl, ⟨⟨rk, A, d2, hbx, hwk, hone, hsl, hrd⟩, hoth⟩⟩
    have q0 := hoth 0 (by simp) (by decide) (by decide)
    have q2 := hoth 2 (by simp) (by decide) (by decide)
    simp only [List.getElem?_cons_zero, List.getElem?_cons_succ] at q0 q2
    clear hoth
    rw [ha] at hb2 hc
    have hlk2 : (rankedI e.user e.num ks).length ≤ 1000 := by
      have := hln.2
      rw [ha, hR] at this
      simp only at this
      omega
    generalize rankedI e.user e.num ks = ks' at *
    have lt2 : 2 < l2.length := lt_of_get q2
    have hRM : RmAt w0 (Hx H l2) ⟨na, IntKind.i64.wrap (nx + 1), [], ks', su⟩ ⟨none, 0, some A, d2⟩ := ⟨.inl rfl, hsl, by simp, by dsimp only; omega, fun L => rfl, fun L => by rw [src_sl, hrd]; rfl⟩
    simp only [go_sem, cond, Nat.reduceAdd, Nat.reduceLeDiff, Nat.reduceEqDiff, Nat.reduceBEq, decide_true, decide_false, Int.toNat_natCast, r, hbx]
    refine call_eq (AFn.weak (.cons (Wks.agg (.cons (.refl _) (.cons (.refl _) (.cons (.refl _) (.cons hwk (.cons (.refl _) .nil)))))) .nil) (RoomOk_ok w0 _ ⟨na, IntKind.i64.wrap (nx + 1), [], ks', su⟩ ⟨none, 0, some A, d2⟩ hT hRM hb2)) ?_
    have p6 : ∀ Z : Option Ob, (l2.set 2 Z)[2]? = some Z := fun Z => by rw [List.getElem?_set_self lt2]
    have p2 : ∀ X : Option Ob, (l2 ++ [X])[2]? = l2[2]? := fun X => List.getElem?_append_left lt2
    have p5 : ∀ X Z : Option Ob, ((l2 ++ [X]).set 2 Z)[2]? = some Z := fun X Z => by rw [List.getElem?_set_self (by simp; omega)]
    have pA : ∀ X Z : Option Ob, ((l2 ++ [X]).set 2 Z)[l2.length]? = some X := fun X Z => by rw [List.getElem?_set_ne (by omega), List.getElem?_append_right (Nat.le_refl _)]; simp
    simp only [go_sem, cond, Nat.reduceAdd, Nat.reduceLeDiff, Nat.reduceEqDiff, Nat.reduceBEq, decide_true, decide_false, Int.toNat_natCast, r, hbx, q0, q2]
    refine Br_intro ?_ ?_ <;> intro ho <;> simp only [go_sem, cond, Nat.reduceAdd, Nat.reduceLeDiff, Nat.reduceEqDiff, Nat.reduceBEq, decide_true, decide_false, Int.toNat_natCast, r, ho, hbx, q0, q2, p6]
    · refine call_eq (AFn.weak (.cons (Wks.agg (.cons (.refl _) (.cons (.refl _) (.cons (.refl _) (.cons hwk (.cons (.refl _) .nil)))))) .nil) (copiedNSp_ok w0 _ na su (IntKind.i64.wrap (nx + 1)) ks' A d2 hRM.ok (by omega))) ?_
      simp only [go_sem, cond, Nat.reduceAdd, Nat.reduceLeDiff, Nat.reduceEqDiff, Nat.reduceBEq, decide_true, decide_false, Int.toNat_natCast, Rm.enc, r, p2, q2, p5, Nat.add_zero]
      have hcc := hc.trans ho
      rw [hcc, outR, if_pos hcc, ha]
      exact ⟨⟨none, 0, some _, _⟩, _, rfl, rfl, fun _ => ⟨.inl ⟨rfl, rfl, rfl⟩, .inr ⟨l2.length, pA _ _, by rw [Nat.zero_add], rfl⟩⟩, (fun h => by cases h), by simp⟩
    · exact hno (hc.trans ho) _
  rw [Bool.not_eq_true] at k1 k6
  have hn : canB R e = false := by
    have hi : isB R e = false := by rw [isB, hR]; rfl
    simp only [canB, needB, hi, k1, k6, Bool.false_or, Bool.false_and, Bool.and_false]
  (refine xw_open (id := 6) [0, 1, 3, 7, 15, 31, 63, 127, 255, 511, 1023, 2047, 4095, 8191, 4095, 32767, 65535, 131071, 4095, 266239, 1048575, 2097151, 4194303] [.q 0, .q 1, .q 2, .q 3, .q 4, .q 5, .q 6, .q 7, .q 8, .q 9, .q 10, .q 11, .q 12, .q 14, .q 18, .q 13, .q 15, .q 16, .q 17, .q 19, .q 20, .q 21, .q 22] rfl (by kernel_rfl) ?_; simp only [go_sem, cond, Nat.reduceAdd, Nat.reduceLeDiff, Nat.reduceEqDiff, Nat.reduceBEq, decide_true, decide_false, Int.toNat_natCast, r, d1, k1, k6])
  exact hno hn _
end Go.Proofs.YtmacpgoclhgafaaGreatDoorW.FA

namespace Go.Proofs.YtmacpgoclhgafaaGreatDoorW.FA
open Go.RowKit Go.Proofs.YtmacpgoclhgafaaGreatDoorW.XM Go.Proofs Go.Proofs.YtmacpgoclhgafaaGreatDoorW.XWords
set_option maxRecDepth 100000
set_option linter.unusedSimpArgs false
set_option linter.unusedVariables false
variable {w0 : World} {H : Hp}
theorem nid_Hx (B : Hp) (M : List (Option Ob)) (k : Nat) : nid (Hx B M) k = nid B (M.length + k) := by
  unfold nid Hx; simp [Nat.add_assoc]
theorem PlS.down' {B : Hp} {M M' L : List (Option Ob)} {R : Rm} {x : Ad} (hl : M'.length = M.length) (h : PlS (Hx B M) 0 L R x) : PlS B 0 (M' ++ L) R x := by
  refine ⟨h.m.imp id fun ⟨j, a, b, c⟩ => ⟨M.length + j, ?_, ?_, c⟩, h.k.imp id fun ⟨j, a, b, c⟩ => ⟨M.length + j, ?_, ?_, c⟩⟩
  · rw [List.getElem?_append_right (by omega), hl, Nat.add_sub_cancel_left]; exact a
  · rw [b, nid_Hx, Nat.zero_add, Nat.zero_add]
  · rw [List.getElem?_append_right (by omega), hl, Nat.add_sub_cancel_left]; exact a
  · rw [b, nid_Hx, Nat.zero_add, Nat.zero_add]
theorem PlS.down {B : Hp} {M L : List (Option Ob)} {R : Rm} {x : Ad} (h : PlS (Hx B M) 0 L R x) : PlS B 0 (M ++ L) R x := by
  refine ⟨h.m.imp id fun ⟨j, a, b, c⟩ => ⟨M.length + j, ?_, ?_, c⟩, h.k.imp id fun ⟨j, a, b, c⟩ => ⟨M.length + j, ?_, ?_, c⟩⟩
  · rw [List.getElem?_append_right (by omega), Nat.add_sub_cancel_left]; exact a
  · rw [b, nid_Hx, Nat.zero_add, Nat.zero_add]
  · rw [List.getElem?_append_right (by omega), Nat.add_sub_cancel_left]; exact a
  · rw [b, nid_Hx, Nat.zero_add, Nat.zero_add]
theorem PlS.obs (B : Hp) (R : Rm) : PlS B 0 (obsR R) R (adR B R 0 1) := ⟨.inr ⟨0, rfl, rfl, rfl⟩, .inr ⟨1, rfl, rfl, rfl⟩⟩
variable (w0 H)
/-- A room is copied, wherever it lies. -/
theorem copiedAny_ok (R : Rm) (x : Ad) (hr : RmAt w0 H R x) (ha : x.a = none → x.c = 0 ∧ R.ms = []) (hb : x.b = none → x.d = 0 ∧ R.ks = []) (hab : x.b = none → x.a = none) : AFn Tryz.prog w0 36 #[.agg (R.enc x).toArray] H fun v H2 => ∃ x' L, H2 = Hx H L ∧ v = .agg (R.enc x').toArray ∧ PlS H 0 L R x' ∧ (x'.b = none → x'.a = none) := by
  obtain ⟨na, nx, ms, ks, su⟩ := R
  obtain ⟨a, c, b, d⟩ := x
  simp only at ha hb hab
  cases b with
  | none =>
    obtain ⟨rfl, rfl⟩ := hb rfl
    obtain rfl := hab rfl
    obtain ⟨rfl, rfl⟩ := ha rfl
    exact (copiedNN_ok w0 H na su nx).mono fun v H2 ⟨h1, h2⟩ => ⟨⟨none, 0, none, 0⟩, [], by rw [h2, Hx_nil], h1, ⟨.inl ⟨rfl, rfl, rfl⟩, .inl ⟨rfl, rfl, rfl⟩⟩, fun _ => rfl⟩
  | some b =>
    cases a with
    | none =>
      obtain ⟨rfl, rfl⟩ := ha rfl
      exact (copiedNSp_ok w0 H na su nx ks b d hr.ok hr.lk).mono fun v H2 ⟨h1, h2⟩ => ⟨⟨none, 0, some _, _⟩, _, h2, h1, ⟨.inl ⟨rfl, rfl, rfl⟩, .inr ⟨0, rfl, rfl, rfl⟩⟩, fun h => by cases h⟩
    | some a => exact (copied_ok w0 H ⟨na, nx, ms, ks, su⟩ a b c d hr).mono fun v H2 ⟨h1, h2⟩ => ⟨_, _, h2, h1, PlS.obs _ _, fun h => by cases h⟩
theorem outR_sm {R : Rm} {e : En} (hb : Big R) (he : BigE e) : Big (outR R e) := by
  unfold outR
  split
  · exact applyR_big R e hb he
  · exact hb
theorem outR_le (R : Rm) (e : En) : (outR R e).ms.length ≤ R.ms.length + 1 ∧ (outR R e).ks.length ≤ 2 * R.ks.length + 1 := by
  have := applyR_len R e
  unfold outR
  split
  · exact this
  · omega
theorem roomB_len {R : Rm} (h : roomB R = true) : R.ms.length ≤ 5 ∧ R.ks.length ≤ 6 := by
  simp only [roomB, Bool.and_eq_true, decide_eq_true_eq] at h
  exact ⟨h.2.2.2.1.2, h.2.2.2.2.1.2⟩
theorem PlS.nm {H : Hp} {n : Nat} {g : List (Option Ob)} {R : Rm} {x : Ad} (h : PlS H n g R x) : (x.a = none → x.c = 0 ∧ R.ms = []) ∧ (x.b = none → x.d = 0 ∧ R.ks = []) := by
  constructor
  · intro hx
    rcases h.m with ⟨_, h2, h3⟩ | ⟨j, _, h2, _⟩
    · exact ⟨h2, h3⟩
    · rw [h2] at hx; cases hx
  · intro hx
    rcases h.k with ⟨_, h2, h3⟩ | ⟨j, _, h2, _⟩
    · exact ⟨h2, h3⟩
    · rw [h2] at hx; cases hx
theorem appliedN_any (na su : ByteArray) (nx : Int) (ks : List Rk) (b : Option Addr) (d : Nat) (e : En) (hT : Tabs w0) (hr : RmAt w0 H ⟨na, nx, [], ks, su⟩ ⟨none, 0, b, d⟩) (hn : b = none → d = 0 ∧ ks = []) (hb : Big ⟨na, nx, [], ks, su⟩) (he : BigE e) (h0 : roomB ⟨na, nx, [], ks, su⟩ = true) :
    AFn Tryz.prog w0 35 #[.agg #[.string na, .int .i64 nx, .slice none 0 0, .slice b ks.length d, .string su], .agg e.enc.toArray] H fun v H2 => ∃ x' L, H2 = Hx H L ∧ v = .tuple #[.agg ((outR ⟨na, nx, [], ks, su⟩ e).enc x').toArray, .bool (canB ⟨na, nx, [], ks, su⟩ e)] ∧ RmAt w0 (Hx H L) (outR ⟨na, nx, [], ks, su⟩ e) x' ∧ (x'.a = none → x'.c = 0 ∧ (outR ⟨na, nx, [], ks, su⟩ e).ms = []) ∧ (x'.b = none → x'.d = 0 ∧ (outR ⟨na, nx, [], ks, su⟩ e).ks = []) ∧ (x'.b = none → x'.a = none) := by
  obtain ⟨lm, lk⟩ := roomB_len h0
  have hol := outR_le ⟨na, nx, [], ks, su⟩ e
  simp only [List.length_nil] at lk hol
  cases b with
  | none =>
    obtain ⟨rfl, rfl⟩ := hn rfl
    refine (appliedNN_ok w0 H na su nx e hT hb he).mono ?_
    rintro v H2 ⟨x', L, rfl, h1, h2, h3⟩
    obtain ⟨n1, n2⟩ := h2.nm
    have := (PlS.at (w0 := w0) (pre := []) h2 rfl (by omega) (by simp only [List.length_nil] at hol; omega)).1
    exact ⟨x', L, rfl, h1, this, n1, n2, fun _ => h3⟩
  | some b =>
    refine (appliedNS_ok w0 H na su nx ks b d e hT hr hb he lk h0).mono ?_
    rintro v H2 ⟨x', L, rfl, h1, h2, h3, h4⟩
    by_cases hc : canB ⟨na, nx, [], ks, su⟩ e = true
    · have ho : outR ⟨na, nx, [], ks, su⟩ e = applyR ⟨na, nx, [], ks, su⟩ e := by rw [outR, if_pos hc]
      have h2 := h2 hc
      rw [← ho] at h2
      obtain ⟨n1, n2⟩ := h2.nm
      have := (PlS.at (w0 := w0) (pre := []) h2 rfl (by omega) (by omega)).1
      exact ⟨x', L, rfl, h1, this, n1, n2, fun h => absurd h h4⟩
    · have ho : outR ⟨na, nx, [], ks, su⟩ e = ⟨na, nx, [], ks, su⟩ := by rw [outR, if_neg hc]
      obtain rfl := h3 (by simpa using hc)
      refine ⟨_, L, rfl, h1, ?_, ?_, ?_, ?_⟩
      · rw [ho]; exact hr.old L
      · rw [ho]; exact fun _ => ⟨rfl, rfl⟩
      · intro h; cases h
      · intro h; cases h
set_option maxHeartbeats 4000000 in
theorem RoomApplyN_ok (na su : ByteArray) (nx : Int) (ks : List Rk) (b : Option Addr) (d : Nat) (e : En) (hT : Tabs w0) (hr : RmAt w0 H ⟨na, nx, [], ks, su⟩ ⟨none, 0, b, d⟩) (hn : b = none → d = 0 ∧ ks = []) (hb : Big ⟨na, nx, [], ks, su⟩) (he : BigE e) (h0 : roomB ⟨na, nx, [], ks, su⟩ = true) :
    AFn Tryz.prog w0 13 #[.agg #[.string na, .int .i64 nx, .slice none 0 0, .slice b ks.length d, .string su], .agg e.enc.toArray] H fun v H2 => ∃ x' L, H2 = Hx H L ∧ v = .tuple #[.agg ((outR ⟨na, nx, [], ks, su⟩ e).enc x').toArray, .bool (canB ⟨na, nx, [], ks, su⟩ e)] ∧ PlS H 0 L (outR ⟨na, nx, [], ks, su⟩ e) x' ∧ (x'.b = none → x'.a = none) := by
  refine AFn_nil ?_
  refine AFn_of Tryz.func13 rfl (by kernel_rfl) ?_
  have r := Tryz.results13
  simp only [go_sem, cond, Nat.reduceAdd, Nat.reduceLeDiff, Nat.reduceEqDiff, Nat.reduceBEq, decide_true, decide_false, Int.toNat_natCast, En.enc, r]
  refine call_eq (RoomOk_ok w0 _ ⟨na, nx, [], ks, su⟩ ⟨none, 0, b, d⟩ hT (hr.old _) hb) ?_
  simp only [go_sem, cond, Nat.reduceAdd, Nat.reduceLeDiff, Nat.reduceEqDiff, Nat.reduceBEq, decide_true, decide_false, Int.toNat_natCast, r, h0]
  refine call (appliedN_any w0 _ na su nx ks b d e hT (hr.old _) hn hb he h0) ?_
  rintro v H2 ⟨x', L, rfl, rfl, h1, h2, h3, h4⟩
  generalize outR ⟨na, nx, [], ks, su⟩ e = R' at *
  generalize canB ⟨na, nx, [], ks, su⟩ e = cb at *
  rw [Hx_Hx] at h1
  have hb : ∀ (g : List (Option Ob)) (Y : Option Ob) (r : List (Option Ob)), (g ++ Y :: r)[g.length]? = some Y := fun g Y r => by rw [List.getElem?_append_right (Nat.le_refl _)]; simp
  have si0 : ∀ (g r : List (Option Ob)) (Z : Option Ob), (g ++ r).set g.length Z = g ++ r.set 0 Z := fun g r Z => by rw [List.set_append_right _ _ (by omega)]; simp
  simp only [go_sem, cond, Nat.reduceAdd, Nat.reduceLeDiff, Nat.reduceEqDiff, Nat.reduceBEq, decide_true, decide_false, Int.toNat_natCast, r, Rm.enc, List.cons_append, List.nil_append, hb, si0, List.set_cons_zero, List.set_cons_succ]
  refine call (copiedAny_ok w0 _ R' x' ?_ h2 h3 h4) ?_
  · have := h1.old [some (.row 26 [.string R'.name, .int .i64 R'.next, .slice x'.a R'.ms.length x'.c, .slice x'.b R'.ks.length x'.d, .string R'.subj])]
    rw [Hx_Hx] at this
    exact this
  rintro v H2 ⟨x2, L2, rfl, rfl, g1, g2⟩
  simp only [go_sem, cond, Nat.reduceAdd, Nat.reduceLeDiff, Nat.reduceEqDiff, Nat.reduceBEq, decide_true, decide_false, Int.toNat_natCast, r, Rm.enc, List.cons_append, List.nil_append, List.append_assoc, hb, si0, List.set_cons_zero, List.set_cons_succ]
  refine ⟨x2, _, rfl, rfl, ?_, g2⟩
  have e1 : ∀ (a b c X : Option Ob), a :: b :: c :: (L ++ X :: L2) = (a :: b :: c :: (L ++ [X])) ++ L2 := fun a b c X => by simp
  rw [e1]
  exact g1.down' (by simp)
set_option maxHeartbeats 4000000 in
theorem RoomApplyI_any (B : Hp) (M : List (Option Ob)) (R : Rm) (x : Ad) (e : En) (hT : Tabs w0) (hpl : PlS B 0 M R x) (hsh : x.b = none → x.a = none) (hb : Big R) (he : BigE e) (hR : roomB R = true) :
    AFn Tryz.prog w0 13 #[.agg (R.enc x).toArray, .agg e.enc.toArray] (Hx B M) fun v H2 => ∃ x' L, H2 = Hx B (M ++ L) ∧ v = .tuple #[.agg ((outR R e).enc x').toArray, .bool (canB R e)] ∧ PlS B 0 (M ++ L) (outR R e) x' ∧ (x'.b = none → x'.a = none) := by
  obtain ⟨lm, lk⟩ := roomB_len hR
  have hr := (PlS.at (w0 := w0) (pre := []) hpl rfl (by omega) (by omega)).1
  rw [List.nil_append] at hr
  obtain ⟨n1, n2⟩ := hpl.nm
  have hm := hpl.m
  have hk := hpl.k
  obtain ⟨na, nx, ms, ks, su⟩ := R
  obtain ⟨a, c, b, d⟩ := x
  simp only at n1 n2 lm lk hsh hm hk
  cases a with
  | none =>
    obtain ⟨rfl, rfl⟩ := n1 rfl
    refine (RoomApplyN_ok w0 (Hx B M) na su nx ks b d e hT hr n2 hb he hR).mono ?_
    rintro v H2 ⟨x', L, rfl, h1, h2, h3⟩
    exact ⟨x', L, by rw [Hx_Hx], h1, h2.down, h3⟩
  | some a =>
    cases b with
    | none => cases hsh rfl
    | some b =>
      rcases hm with ⟨h, _⟩ | ⟨j, h1, h2, h3⟩
      · cases h
      rcases hk with ⟨h, _⟩ | ⟨k, h4, h5, h6⟩
      · cases h
      simp only [Nat.zero_add, Option.some.injEq] at h2 h5
      subst h2 h3 h5 h6
      refine (RoomApplyI_ok w0 (Hx B M) ⟨na, nx, ms, ks, su⟩ _ _ _ _ e hT hr hb he lm lk hR (fun L => Old_own _ (lt_of_get h1) (lt_of_get h4) L)).mono ?_
      rintro v H2 ⟨g1, rfl⟩
      exact ⟨_, _, by rw [Hx_Hx], g1, (PlS.obs _ _).down, fun h => by cases h⟩
end Go.Proofs.YtmacpgoclhgafaaGreatDoorW.FA

namespace Go.Proofs.YtmacpgoclhgafaaGreatDoorW.FA
open Go.RowKit Go.Proofs.YtmacpgoclhgafaaGreatDoorW.XM Go.Proofs Go.Proofs.YtmacpgoclhgafaaGreatDoorW.XWords
set_option maxRecDepth 100000
set_option linter.unusedSimpArgs false
set_option linter.unusedVariables false
variable (w0 : World) (H : Hp)
/-- A deed: a room, a log, a user, what is said, what has happened. -/
def deedC (R : Rm) (x : Ad) (A : Option Addr) (n c : Nat) (u : ByteArray) (s : Sy) (o : Value) : List Value := [.string R.name, .int .i64 R.next, .slice x.a R.ms.length x.c, .slice x.b R.ks.length x.d, .string R.subj, .slice A n c, .string u, .int .i64 s.kind, .string s.room, .string s.nick, .string s.name, .string s.id, .string s.ref, .string s.text, .int .i64 s.num, .int .i64 s.frm, .int .i64 s.back, o]
def hapE (R : Rm) (n : Nat) (e : En) : En := ⟨R.name, IntKind.i64.wrap (R.next + (n : Int)), e.kind, e.user, e.nick, e.text, e.id, e.ref, e.num⟩
def dd (R : Rm) (x : Ad) (A : Option Addr) (n c : Nat) (u : ByteArray) (s : Sy) (o : Value) : Option Ob := some (.row 60 (deedC R x A n c u s o))
set_option maxHeartbeats 4000000 in
theorem happens0_ok (l : List (Option Ob)) (p : Nat) (R : Rm) (x : Ad) (A : Option Addr) (n c : Nat) (u : ByteArray) (s : Sy) (e : En) (hp : l[p]? = some (dd R x A n c u s (.slice none 0 0))) :
    AFn Tryz.prog w0 57 #[.pointer (some ⟨nid H p, 0, some 18⟩), .agg e.enc.toArray] (Hx H l) fun v H2 => v = .tuple #[] ∧ H2 = Hx H (l.set p (dd R x A n c u s (.slice (some ⟨nid H (l.length + 2), 0, some 9⟩) 1 1)) ++ [some (.row 38 (hapE R 0 e).enc), some (.row 38 (hapE R 0 e).enc), some (.row 38 (hapE R 0 e).enc)]) := by
  have hlp := lt_of_get hp
  refine AFn_of Tryz.func57 rfl (by kernel_rfl) ?_
  have r := Tryz.results57
  unfold dd at hp ⊢
  unfold deedC at hp ⊢
  have gp : ∀ r : List (Option Ob), (l ++ r)[p]? = l[p]? := fun r => List.getElem?_append_left hlp
  have sp : ∀ (X : Option Ob) (r : List (Option Ob)), (l ++ r).set p X = l.set p X ++ r := fun X r => List.set_append_left _ _ hlp
  have hb : ∀ (g : List (Option Ob)) (Y : Option Ob) (r : List (Option Ob)), (g ++ Y :: r)[g.length]? = some Y := fun g Y r => by rw [List.getElem?_append_right (Nat.le_refl _)]; simp
  have gi : ∀ (g r : List (Option Ob)) (k : Nat), (g ++ r)[g.length + k]? = r[k]? := fun g r k => by rw [List.getElem?_append_right (by omega)]; simp
  have si0 : ∀ (g r : List (Option Ob)) (Z : Option Ob), (g ++ r).set g.length Z = g ++ r.set 0 Z := fun g r Z => by rw [List.set_append_right _ _ (by omega)]; simp
  simp only [go_sem, cond, Nat.reduceAdd, Nat.reduceLeDiff, Nat.reduceEqDiff, Nat.reduceBEq, decide_true, decide_false, Int.toNat_natCast, En.enc, r, hp, gp, sp, hb, gi, si0]
  (refine xw_open (id := 1) [0, 1, 3, 7, 15, 0, 32, 96, 224, 480, 0, 1024, 3072, 7168, 15360, 32736, 31, 65567, 262143, 524287] [.q 0, .q 1, .q 2, .q 3, .q 5, .q 6, .q 7, .q 8, .q 10, .q 11, .q 12, .q 4, .q 16, .l 9, .l 13, .q 14, .q 15, .e 17, .d 13, .d 9, .q 18, .e 19] rfl (by kernel_rfl) ?_; simp only [go_sem, cond, Nat.reduceAdd, Nat.reduceLeDiff, Nat.reduceEqDiff, Nat.reduceBEq, decide_true, decide_false, Int.toNat_natCast, En.enc, r, hp, gp, sp, hb, gi, si0, List.set_cons_zero])
  have gp2 : ∀ (X : Option Ob) (r : List (Option Ob)), (l.set p X ++ r)[p]? = some X := fun X r => by rw [List.getElem?_append_left (by simpa using hlp), List.getElem?_set_self hlp]
  (refine xw_open (id := 2) [0, 0, 2, 6, 14, 0, 32, 126, 255, 511, 1023] [.q 0, .q 1, .q 2, .q 3, .l 4, .q 5, .e 6, .d 4, .e 7, .q 8, .q 9, .e 10] rfl (by kernel_rfl) ?_; simp only [go_sem, cond, Nat.reduceAdd, Nat.reduceLeDiff, Nat.reduceEqDiff, Nat.reduceBEq, decide_true, decide_false, Int.toNat_natCast, En.enc, r, hp, gp, gp2, sp, hb, gi, si0, List.set_cons_zero, List.append_assoc, List.singleton_append, List.length_append, Nat.zero_add])
  refine Req_intro ⟨_, rfl, rfl⟩ ?_
  simp only [go_sem, cond, Nat.reduceAdd, Nat.reduceLeDiff, Nat.reduceEqDiff, Nat.reduceBEq, decide_true, decide_false, Int.toNat_natCast, En.enc, r, hp, gp, gp2, sp, hb, gi, si0, List.set_cons_zero, List.append_assoc, List.singleton_append, List.length_append, Nat.zero_add]
  refine appS_nil _ _ _ 1 _ _ _ _ (by decide) ?_ (by decide) ?_
  · decide
  simp only [go_sem, cond, Nat.reduceAdd, Nat.reduceLeDiff, Nat.reduceEqDiff, Nat.reduceBEq, decide_true, decide_false, Int.toNat_natCast, En.enc, r, hp, gp, gp2, sp, hb, gi, si0, List.set_cons_zero, List.append_assoc, List.singleton_append, List.length_append, Nat.zero_add]
  exact ⟨rfl, rfl⟩
set_option maxHeartbeats 4000000 in
theorem happens1_ok (l : List (Option Ob)) (p k : Nat) (R : Rm) (x : Ad) (A : Option Addr) (n c : Nat) (u : ByteArray) (s : Sy) (e : En) (os : List En) (hos : os.length ≤ 100) (hk : l[k]? = some (some (.row 38 (flat En.enc os)))) (hp : l[p]? = some (dd R x A n c u s (.slice (some ⟨nid H k, 0, some (os.length * 9)⟩) os.length os.length))) :
    AFn Tryz.prog w0 57 #[.pointer (some ⟨nid H p, 0, some 18⟩), .agg e.enc.toArray] (Hx H l) fun v H2 => v = .tuple #[] ∧ H2 = Hx H ((l.set k (some (.row 38 (flat En.enc (os ++ [hapE R os.length e]))))).set p (dd R x A n c u s (.slice (some ⟨nid H k, 0, some ((os ++ [hapE R os.length e]).length * 9)⟩) (os ++ [hapE R os.length e]).length (os ++ [hapE R os.length e]).length)) ++ [some (.row 38 (hapE R os.length e).enc), some (.row 38 (hapE R os.length e).enc)]) := by
  have hlp := lt_of_get hp
  have hlk := lt_of_get hk
  have hne : p ≠ k := by
    intro e
    rw [e, hk] at hp
    simp [dd] at hp
  refine AFn_of Tryz.func57 rfl (by kernel_rfl) ?_
  have r := Tryz.results57
  unfold dd at hp ⊢
  unfold deedC at hp ⊢
  have gp : ∀ r : List (Option Ob), (l ++ r)[p]? = l[p]? := fun r => List.getElem?_append_left hlp
  have gk : ∀ r : List (Option Ob), (l ++ r)[k]? = l[k]? := fun r => List.getElem?_append_left hlk
  have sp : ∀ (X : Option Ob) (r : List (Option Ob)), (l ++ r).set p X = l.set p X ++ r := fun X r => List.set_append_left _ _ hlp
  have sk : ∀ (X : Option Ob) (r : List (Option Ob)), (l ++ r).set k X = l.set k X ++ r := fun X r => List.set_append_left _ _ hlk
  have skp : ∀ (X Y : Option Ob) (r : List (Option Ob)), (l.set k X ++ r).set p Y = (l.set k X).set p Y ++ r := fun X Y r => List.set_append_left _ _ (by simpa using hlp)
  have gkp : ∀ (X : Option Ob) (r : List (Option Ob)), (l.set k X ++ r)[p]? = l[p]? := fun X r => by rw [List.getElem?_append_left (by simpa using hlp), List.getElem?_set_ne (fun e => hne e.symm)]
  have hb : ∀ (g : List (Option Ob)) (Y : Option Ob) (r : List (Option Ob)), (g ++ Y :: r)[g.length]? = some Y := fun g Y r => by rw [List.getElem?_append_right (Nat.le_refl _)]; simp
  have gi : ∀ (g r : List (Option Ob)) (k : Nat), (g ++ r)[g.length + k]? = r[k]? := fun g r k => by rw [List.getElem?_append_right (by omega)]; simp
  have si0 : ∀ (g r : List (Option Ob)) (Z : Option Ob), (g ++ r).set g.length Z = g ++ r.set 0 Z := fun g r Z => by rw [List.set_append_right _ _ (by omega)]; simp
  simp only [go_sem, cond, Nat.reduceAdd, Nat.reduceLeDiff, Nat.reduceEqDiff, Nat.reduceBEq, decide_true, decide_false, Int.toNat_natCast, En.enc, r, hp, hk, gp, gk, sp, sk, skp, gkp, hb, gi, si0, List.set_cons_zero, List.append_assoc, List.singleton_append, List.length_append]
  (refine xw_open (id := 1) [0, 1, 3, 7, 15, 0, 32, 96, 224, 480, 0, 1024, 3072, 7168, 15360, 32736, 31, 65567, 262143, 524287] [.q 0, .q 1, .q 2, .q 3, .q 5, .q 6, .q 7, .q 8, .q 10, .q 11, .q 12, .q 4, .q 16, .l 9, .l 13, .q 14, .q 15, .e 17, .d 13, .d 9, .q 18, .e 19] rfl (by kernel_rfl) ?_; simp only [go_sem, cond, Nat.reduceAdd, Nat.reduceLeDiff, Nat.reduceEqDiff, Nat.reduceBEq, decide_true, decide_false, Int.toNat_natCast, En.enc, r, hp, hk, gp, gk, sp, sk, skp, gkp, hb, gi, si0, List.set_cons_zero, List.append_assoc, List.singleton_append, List.length_append])
  (refine xw_open (id := 2) [0, 0, 2, 6, 14, 0, 32, 126, 255, 511, 1023] [.q 0, .q 1, .q 2, .q 3, .l 4, .q 5, .e 6, .d 4, .e 7, .q 8, .q 9, .e 10] rfl (by kernel_rfl) ?_; simp only [go_sem, cond, Nat.reduceAdd, Nat.reduceLeDiff, Nat.reduceEqDiff, Nat.reduceBEq, decide_true, decide_false, Int.toNat_natCast, En.enc, r, hp, hk, gp, gk, sp, sk, skp, gkp, hb, gi, si0, List.set_cons_zero, List.append_assoc, List.singleton_append, List.length_append])
  refine Req_intro ⟨_, rfl, rfl⟩ ?_
  simp only [go_sem, cond, Nat.reduceAdd, Nat.reduceLeDiff, Nat.reduceEqDiff, Nat.reduceBEq, decide_true, decide_false, Int.toNat_natCast, En.enc, r, hp, hk, gp, gk, sp, sk, skp, gkp, hb, gi, si0, List.set_cons_zero, List.append_assoc, List.singleton_append, List.length_append]
  refine appS_full (m := 1) (sl := os.length) _ _ _ _ _ _ _ k _ _ _ (by rw [gk]; exact hk) rfl (flat_len elen _) XF.lay_38 (by decide) (by rfl) (by omega) (by omega) ?_
  simp only [go_sem, cond, Nat.reduceAdd, Nat.reduceLeDiff, Nat.reduceEqDiff, Nat.reduceBEq, decide_true, decide_false, Int.toNat_natCast, En.enc, r, hp, hk, gp, gk, sp, sk, skp, gkp, hb, gi, si0, List.set_cons_zero, List.append_assoc, List.singleton_append, List.length_append]
  have e1 : flat En.enc os ++ [.string R.name, .int .i64 (IntKind.i64.wrap (R.next + (os.length : Int))), .int .i64 e.kind, .string e.user, .string e.nick, .string e.text, .string e.id, .string e.ref, .int .i64 e.num] = flat En.enc (os ++ [hapE R os.length e]) := by rw [flat_app]; rfl
  have e2 : os.length + 1 = (os ++ [hapE R os.length e]).length := by simp
  rw [e1, e2]
  exact ⟨rfl, rfl⟩
end Go.Proofs.YtmacpgoclhgafaaGreatDoorW.FA

namespace Go.Proofs.YtmacpgoclhgafaaGreatDoorW.FA
open Go.RowKit Go.Proofs.YtmacpgoclhgafaaGreatDoorW.XM Go.Proofs Go.Proofs.YtmacpgoclhgafaaGreatDoorW.XWords
set_option maxRecDepth 100000
set_option linter.unusedSimpArgs false
set_option linter.unusedVariables false
variable (w0 : World) (H : Hp)
theorem indexE_ok {α : Type} (enc : α → List Value) (A : Option Addr) (c : Nat) (ms : List α) (hs : Sl w0 H A 9 (ms.map enc)) (hl : ms.length ≤ 2000000) (he : ∀ m, (enc m).length = 9) (g : FuncId) (fi ca : List Value) (p : α → Bool)
    (hp : ∀ i (h : i < ms.length), AFn Tryz.prog w0 g (fi ++ [Value.agg (enc ms[i]).toArray] ++ ca).toArray H fun v H2 => v = .bool (p ms[i]) ∧ H2 = H) :
    AFn Tryz.prog w0 104 #[.slice A ms.length c, .func (.func g) fi.toArray ca.toArray] H fun v H2 => v = .int .i64 (idxP p ms 0) ∧ H2 = H := by
  refine AFn.scal rfl Tryz.func104 rfl (by kernel_rfl) ?_
  have r := Tryz.results104
  simp only [go_sem, cond, Nat.reduceAdd, Nat.reduceLeDiff, Nat.reduceEqDiff, Nat.reduceBEq, decide_true, decide_false, Int.toNat_natCast, r]
  refine xw_loop (fun (i : Nat) T H' => i ≤ ms.length ∧ idxP p (ms.drop i) i = idxP p ms 0 ∧ T 0 = .slice A ms.length c ∧ T 1 = .func (.func g) fi.toArray ca.toArray ∧ T 7 = .int .i64 ms.length ∧ T 8 = .int .i64 i ∧ H' = Hx H []) (fun i => ms.length - i) 0 (by kernel_rfl) ⟨Nat.zero_le _, rfl, rfl, rfl, rfl, rfl, rfl⟩ ?_
  rintro i T H' ⟨hi, he2, t0, t1, t7, t8, rfl⟩
  by_cases hlt : i < ms.length
  · obtain ⟨b, o, sp, hx, _, hc⟩ := mcell hs hlt
    have c0 := hc [] (he _)
    have d1 : ((i : Int) < (ms.length : Int)) = True := eq_true (by omega)
    have d2 : (0 ≤ (i : Int)) = True := eq_true (by omega)
    have c1 := hp i hlt
    rw [← Hx_nil H] at c1
    rw [idxP_drop _ _ i hlt] at he2
    simp only [go_sem, cond, Nat.reduceAdd, Nat.reduceLeDiff, Nat.reduceEqDiff, Nat.reduceBEq, decide_true, decide_false, Int.toNat_natCast, hx, t0, t1, t7, t8, d1, d2, c0]
    refine call_eq c1 ?_
    simp only [go_sem, cond, Nat.reduceAdd, Nat.reduceLeDiff, Nat.reduceEqDiff, Nat.reduceBEq, decide_true, decide_false, Int.toNat_natCast, hx, t0, t1, t7, t8, d1, d2, c0]
    refine Br_intro ?_ ?_ <;> intro h <;> simp only [go_sem, cond, Nat.reduceAdd, Nat.reduceLeDiff, Nat.reduceEqDiff, Nat.reduceBEq, decide_true, decide_false, Int.toNat_natCast, t0, t1, t7, t8, h, r]
    · rw [if_pos h] at he2
      exact ⟨by rw [he2], _, rfl⟩
    · rw [if_neg (by rw [h]; decide)] at he2
      exact ⟨i + 1, ⟨hlt, he2, (by rw [← hx]; exact t0), t1, t7, int_succ hlt (by omega), rfl⟩, lt_meas hlt⟩
  · obtain rfl : i = ms.length := by omega
    have d1 : ((ms.length : Int) < (ms.length : Int)) = False := eq_false (by omega)
    rw [List.drop_length] at he2
    simp only [go_sem, cond, Nat.reduceAdd, Nat.reduceLeDiff, Nat.reduceEqDiff, Nat.reduceBEq, decide_true, decide_false, Int.toNat_natCast, t0, t1, t7, t8, d1, r]
    exact ⟨by rw [← he2]; rfl, _, rfl⟩
theorem idxP_any {α : Type} (p : α → Bool) : ∀ (l : List α) (i : Nat), decide (0 ≤ idxP p l i) = l.any p
  | [], i => rfl
  | a :: l, i => by
    rw [idxP, List.any_cons]
    by_cases h : p a = true
    · rw [if_pos h, h]; simp
    · rw [if_neg h, idxP_any p l (i + 1)]; simp [h]
theorem containsE_ok {α : Type} (enc : α → List Value) (A : Option Addr) (c : Nat) (ms : List α) (hs : Sl w0 H A 9 (ms.map enc)) (hl : ms.length ≤ 2000000) (he : ∀ m, (enc m).length = 9) (g : FuncId) (fi ca : List Value) (p : α → Bool)
    (hp : ∀ i (h : i < ms.length), AFn Tryz.prog w0 g (fi ++ [Value.agg (enc ms[i]).toArray] ++ ca).toArray H fun v H2 => v = .bool (p ms[i]) ∧ H2 = H) :
    AFn Tryz.prog w0 84 #[.slice A ms.length c, .func (.func g) fi.toArray ca.toArray] H fun v H2 => v = .bool (ms.any p) ∧ H2 = H := by
  refine AFn.scal rfl Tryz.func84 rfl (by kernel_rfl) ?_
  have r := Tryz.results84
  simp only [go_sem, cond, Nat.reduceAdd, Nat.reduceLeDiff, Nat.reduceEqDiff, Nat.reduceBEq, decide_true, decide_false, Int.toNat_natCast, r]
  have c1 := indexE_ok w0 H enc A c ms hs hl he g fi ca p hp
  rw [← Hx_nil H] at c1
  refine call_eq c1 ?_
  simp only [go_sem, cond, Nat.reduceAdd, Nat.reduceLeDiff, Nat.reduceEqDiff, Nat.reduceBEq, decide_true, decide_false, Int.toNat_natCast, r, ge_iff_le]
  rw [idxP_any]
  exact ⟨rfl, _, rfl⟩
end Go.Proofs.YtmacpgoclhgafaaGreatDoorW.FA

namespace Go.Proofs.YtmacpgoclhgafaaGreatDoorW.FA
open Go.RowKit Go.Proofs.YtmacpgoclhgafaaGreatDoorW.XM Go.Proofs Go.Proofs.YtmacpgoclhgafaaGreatDoorW.XWords
set_option maxRecDepth 100000
set_option linter.unusedSimpArgs false
set_option linter.unusedVariables false
variable (w0 : World) (H : Hp)
theorem said1_ok (B : Hp) (l : List (Option Ob)) (p k1 k2 : Nat) (R : Rm) (x : Ad) (A : Option Addr) (n c : Nat) (u : ByteArray) (s : Sy) (o : Value) (id : ByteArray) (e : En) (hp : l[p]? = some (dd R x A n c u s o)) (h1 : l[k1]? = some (some (.row 58 [.pointer (some ⟨nid B p, 0, some 18⟩)]))) (h2 : l[k2]? = some (some (.row 9 [.string id]))) :
    AFn Tryz.prog w0 85 ([] ++ [Value.agg e.enc.toArray] ++ [Value.pointer (some ⟨nid B k1, 0, some 1⟩), Value.pointer (some ⟨nid B k2, 0, some 1⟩)]).toArray (Hx B l) fun v H2 => v = .bool (saidP R.name u id e) ∧ H2 = Hx B l := by
  unfold dd deedC at hp
  have c0 : ∀ l', rd w0 (Hx (Hx B l) l') ⟨nid B p, 0, some 18⟩ 1 = some [.string R.name] := fun l' => rd_old (by rw [rd_own, hp]; rfl) l'
  have c6 : ∀ l', rd w0 (Hx (Hx B l) l') ⟨nid B p, 6, some 18⟩ 1 = some [.string u] := fun l' => rd_old (by rw [rd_own, hp]; rfl) l'
  have c1 : ∀ l', rd w0 (Hx (Hx B l) l') ⟨nid B k1, 0, some 1⟩ 1 = some [.pointer (some ⟨nid B p, 0, some 18⟩)] := fun l' => rd_old (by rw [rd_own, h1]; rfl) l'
  have c2 : ∀ l', rd w0 (Hx (Hx B l) l') ⟨nid B k2, 0, some 1⟩ 1 = some [.string id] := fun l' => rd_old (by rw [rd_own, h2]; rfl) l'
  generalize hB : Hx B l = B2 at *
  refine AFn.scal rfl Tryz.func85 rfl (by kernel_rfl) ?_
  have r := Tryz.results85
  simp only [go_sem, cond, Nat.reduceAdd, Nat.reduceLeDiff, Nat.reduceEqDiff, Nat.reduceBEq, decide_true, decide_false, Int.toNat_natCast, r]
  simp only [go_sem, cond, Nat.reduceAdd, Nat.reduceLeDiff, Nat.reduceEqDiff, Nat.reduceBEq, decide_true, decide_false, Int.toNat_natCast, En.enc, c0, c1, c2, c6]
  (refine xw_open (id := 1) [0, 1, 3, 7, 15, 31, 15, 79, 207, 463, 975, 2047, 4095, 8191, 16383, 32767, 16383, 81919, 212991, 475135, 1048575, 2097151, 4194303, 8388607, 16777215, 8388607, 67108863, 134217727, 268435455, 536870911, 1073741823, 2147483647, 4294967295, 8589934591] [.q 0, .q 1, .q 2, .q 3, .q 4, .q 5, .q 6, .q 7, .q 8, .q 9, .q 10, .q 11, .q 12, .q 13, .q 14, .q 15, .q 16, .q 17, .q 18, .q 19, .q 20, .q 21, .q 22, .q 23, .q 24, .q 25, .q 26, .q 27, .q 28, .q 29, .q 30, .q 31, .q 32, .q 33] rfl (by kernel_rfl) ?_; simp only [go_sem, cond, Nat.reduceAdd, Nat.reduceLeDiff, Nat.reduceEqDiff, Nat.reduceBEq, decide_true, decide_false, Int.toNat_natCast, En.enc, c0, c1, c2, c6, r])
  repeat' (refine Br_intro ?_ ?_ <;> intro h <;> simp only [go_sem, cond, Nat.reduceAdd, Nat.reduceLeDiff, Nat.reduceEqDiff, Nat.reduceBEq, decide_true, decide_false, Int.toNat_natCast, h, c0, c1, c2, c6, r])
  all_goals exact ⟨by simp only [saidP, *, Bool.true_and, Bool.and_true, Bool.false_and, Bool.and_false], _, rfl⟩
theorem said_ok (l : List (Option Ob)) (p : Nat) (R : Rm) (x : Ad) (es : List En) (A : Option Addr) (c : Nat) (u : ByteArray) (s : Sy) (o : Value) (id : ByteArray) (hp : l[p]? = some (dd R x A es.length c u s o)) (hs : Sl w0 H A 9 (es.map En.enc)) (hl : es.length ≤ 2000000) :
    AFn Tryz.prog w0 58 #[.pointer (some ⟨nid H p, 0, some 18⟩), .string id] (Hx H l) fun v H2 => v = .bool (es.any (saidP R.name u id)) ∧ H2 = Hx H l := by
  have hp0 := hp
  unfold dd deedC at hp
  have hlp := lt_of_get hp
  have gp : ∀ r : List (Option Ob), (l ++ r)[p]? = l[p]? := fun r => List.getElem?_append_left hlp
  have hb : ∀ (g : List (Option Ob)) (Y : Option Ob) (r : List (Option Ob)), (g ++ Y :: r)[g.length]? = some Y := fun g Y r => by rw [List.getElem?_append_right (Nat.le_refl _)]; simp
  refine AFn.scal rfl Tryz.func58 rfl (by kernel_rfl) ?_
  have r := Tryz.results58
  simp only [go_sem, cond, Nat.reduceAdd, Nat.reduceLeDiff, Nat.reduceEqDiff, Nat.reduceBEq, decide_true, decide_false, Int.toNat_natCast, r]
  simp only [go_sem, cond, Nat.reduceAdd, Nat.reduceLeDiff, Nat.reduceEqDiff, Nat.reduceBEq, decide_true, decide_false, Int.toNat_natCast, gp, hp, hb, List.append_assoc, List.singleton_append, List.length_append, List.length_singleton, r]
  refine call_eq (containsE_ok w0 _ En.enc A c es (hs.old _) hl (fun _ => rfl) _ [] [.pointer (some ⟨nid H l.length, 0, some 1⟩), .pointer (some ⟨nid H (l.length + 1), 0, some 1⟩)] (saidP R.name u id) (fun i h => said1_ok w0 H (l ++ [some (.row 58 [.pointer (some ⟨nid H p, 0, some 18⟩)]), some (.row 9 [.string id])]) p l.length (l.length + 1) R x A es.length c u s o id es[i] (by rw [gp]; exact hp0) (hb _ _ _) (by rw [List.getElem?_append_right (by omega)]; simp))) ?_
  simp only [go_sem, cond, Nat.reduceAdd, Nat.reduceLeDiff, Nat.reduceEqDiff, Nat.reduceBEq, decide_true, decide_false, Int.toNat_natCast, r]
  exact ⟨_, rfl⟩
end Go.Proofs.YtmacpgoclhgafaaGreatDoorW.FA

namespace Go.Proofs.YtmacpgoclhgafaaGreatDoorW.FA
open Go.RowKit Go.Proofs.YtmacpgoclhgafaaGreatDoorW.XM Go.Proofs Go.Proofs.YtmacpgoclhgafaaGreatDoorW.XWords
set_option maxRecDepth 100000
set_option linter.unusedSimpArgs false
set_option linter.unusedVariables false
variable (w0 : World) (H : Hp)
/-- What has happened lies nowhere, or in an object of one's own. -/
def OutAt (H : Hp) (n : Nat) (g : List (Option Ob)) (o : Value) (es : List En) : Prop := (es = [] ∧ o = .slice none 0 0) ∨ ∃ k, g[k]? = some (some (.row 38 (flat En.enc es))) ∧ es ≠ [] ∧ o = .slice (some ⟨nid H (n + k), 0, some (es.length * 9)⟩) es.length es.length
set_option maxHeartbeats 20000000 in
theorem djoin_ok (l : List (Option Ob)) (p : Nat) (R : Rm) (x : Ad) (es : List En) (A : Option Addr) (c : Nat) (u : ByteArray) (s : Sy) (hp : l[p]? = some (dd R x A es.length c u s (.slice none 0 0))) (hr : RmAt w0 H R x) : AFn Tryz.prog w0 56 #[.pointer (some ⟨nid H p, 0, some 18⟩)] (Hx H l) fun v H2 => v = .int .i64 (joinR R u s.nick).2 ∧ ∃ g o, H2 = Hx H (l.set p (dd R x A es.length c u s o) ++ g) ∧ OutAt H l.length g o (joinR R u s.nick).1 := by
  have hlp := lt_of_get hp
  have e : Hx H l = Hx H (l.set p (dd R x A es.length c u s (.slice none 0 0))) := by conv => lhs; rw [set_same hp, List.append_nil]
  rw [e]
  obtain ⟨sA, gQ, gR, gR0, sR, sR0⟩ := dset hlp
  have gs : ∀ X : Option Ob, (l.set p X)[p]? = some X := fun X => by rw [List.getElem?_set_self hlp]
  have hb : ∀ (g : List (Option Ob)) (Y : Option Ob) (r : List (Option Ob)), (g ++ Y :: r)[g.length]? = some Y := fun g Y r => by rw [List.getElem?_append_right (Nat.le_refl _)]; simp
  have gi : ∀ (g r : List (Option Ob)) (k : Nat), (g ++ r)[g.length + k]? = r[k]? := fun g r k => by rw [List.getElem?_append_right (by omega)]; simp
  have si0 : ∀ (g r : List (Option Ob)) (Z : Option Ob), (g ++ r).set g.length Z = g ++ r.set 0 Z := fun g r Z => by rw [List.set_append_right _ _ (by omega)]; simp
  refine AFn_of Tryz.func56 rfl (by kernel_rfl) ?_
  have r := Tryz.results56
  simp only [go_sem, cond, Nat.reduceAdd, Nat.reduceLeDiff, Nat.reduceEqDiff, Nat.reduceBEq, decide_true, decide_false, Int.toNat_natCast, r, sA, gQ, gR, gR0, sR, sR0, hb, gi, si0, Rm.enc, dd, deedC, Nat.add_zero, List.set_cons_zero, List.set_cons_succ, List.set_set, List.append_assoc, List.length_append, List.length_set, List.singleton_append, List.cons_append, List.nil_append, gs]
  (refine xw_open (id := 2) [0, 0, 2, 6, 14, 31, 63] [.q 1, .q 2, .q 3, .q 0, .q 4, .e 5, .q 6] rfl (by kernel_rfl) ?_; simp only [go_sem, cond, Nat.reduceAdd, Nat.reduceLeDiff, Nat.reduceEqDiff, Nat.reduceBEq, decide_true, decide_false, Int.toNat_natCast, r, sA, gQ, gR, gR0, sR, sR0, hb, gi, si0, Rm.enc, dd, deedC, Nat.add_zero, List.set_cons_zero, List.set_cons_succ, List.set_set, List.append_assoc, List.length_append, List.length_set, List.singleton_append, List.cons_append, List.nil_append, gs])
  refine call_eq (rank_ok _ _ R _ u (hr.old _)) ?_
  simp only [go_sem, cond, Nat.reduceAdd, Nat.reduceLeDiff, Nat.reduceEqDiff, Nat.reduceBEq, decide_true, decide_false, Int.toNat_natCast, r, sA, gQ, gR, gR0, sR, sR0, hb, gi, si0, Rm.enc, dd, deedC, Nat.add_zero, List.set_cons_zero, List.set_cons_succ, List.set_set, List.append_assoc, List.length_append, List.length_set, List.singleton_append, List.cons_append, List.nil_append]
  have e0 : joinR R u s.nick = if (rankB R.ks u == 0) = true then ([], 6) else if decide (0 ≤ idxP (isU u) R.ms 0) = true then ([], 3) else if decide (0 ≤ idxP (isN s.nick) R.ms 0) = true then ([], 4) else if decide (5 ≤ (R.ms.length : Int)) = true then ([], 5) else if (R.next == 0) = true then ([⟨R.name, 0, 6, u, em, em, em, em, 4⟩, ⟨R.name, IntKind.i64.wrap (R.next + ((1 : Nat) : Int)), 1, u, s.nick, em, em, em, byRank 4⟩], 0) else ([⟨R.name, IntKind.i64.wrap (R.next + ((0 : Nat) : Int)), 1, u, s.nick, em, em, em, byRank (rankB R.ks u)⟩], 0) := by
    simp only [joinR, decide_eq_true_eq]
  repeat' (first
    | (refine Br_intro ?_ ?_ <;> intro h2 <;> simp only [go_sem, cond, Nat.reduceAdd, Nat.reduceLeDiff, Nat.reduceEqDiff, Nat.reduceBEq, decide_true, decide_false, Int.toNat_natCast, r, sA, gQ, gR, gR0, sR, sR0, hb, gi, si0, Rm.enc, dd, deedC, Nat.add_zero, List.set_cons_zero, List.set_cons_succ, List.set_set, List.append_assoc, List.length_append, List.length_set, List.singleton_append, List.cons_append, List.nil_append, ge_iff_le, h2])
    | (refine xw_open (id := 5) [0, 0, 2, 6, 14, 31, 63, 127] [.q 1, .q 2, .q 3, .q 0, .q 4, .e 5, .q 6, .q 7] rfl (by kernel_rfl) ?_; simp only [go_sem, cond, Nat.reduceAdd, Nat.reduceLeDiff, Nat.reduceEqDiff, Nat.reduceBEq, decide_true, decide_false, Int.toNat_natCast, r, sA, gQ, gR, gR0, sR, sR0, hb, gi, si0, Rm.enc, dd, deedC, Nat.add_zero, List.set_cons_zero, List.set_cons_succ, List.set_set, List.append_assoc, List.length_append, List.length_set, List.singleton_append, List.cons_append, List.nil_append, ge_iff_le])
    | (refine xw_open (id := 7) [0, 0, 2, 6, 14, 30, 63, 127, 255] [.q 1, .q 2, .q 3, .q 4, .q 0, .q 5, .e 6, .q 7, .q 8] rfl (by kernel_rfl) ?_; simp only [go_sem, cond, Nat.reduceAdd, Nat.reduceLeDiff, Nat.reduceEqDiff, Nat.reduceBEq, decide_true, decide_false, Int.toNat_natCast, r, sA, gQ, gR, gR0, sR, sR0, hb, gi, si0, Rm.enc, dd, deedC, Nat.add_zero, List.set_cons_zero, List.set_cons_succ, List.set_set, List.append_assoc, List.length_append, List.length_set, List.singleton_append, List.cons_append, List.nil_append, ge_iff_le])
    | (refine xw_open (id := 17) [0, 0, 2, 6, 14, 0, 32, 96, 224, 480, 0, 2046, 4095] [.q 0, .q 1, .q 2, .q 3, .q 5, .q 6, .q 7, .q 8, .q 10, .q 4, .q 9, .e 11, .e 12] rfl (by kernel_rfl) ?_; simp only [go_sem, cond, Nat.reduceAdd, Nat.reduceLeDiff, Nat.reduceEqDiff, Nat.reduceBEq, decide_true, decide_false, Int.toNat_natCast, r, sA, gQ, gR, gR0, sR, sR0, hb, gi, si0, Rm.enc, dd, deedC, Nat.add_zero, List.set_cons_zero, List.set_cons_succ, List.set_set, List.append_assoc, List.length_append, List.length_set, List.singleton_append, List.cons_append, List.nil_append, ge_iff_le])
    | (refine call_eq (member_ok _ _ R _ _ (hr.old _)) ?_; simp only [go_sem, cond, Nat.reduceAdd, Nat.reduceLeDiff, Nat.reduceEqDiff, Nat.reduceBEq, decide_true, decide_false, Int.toNat_natCast, r, sA, gQ, gR, gR0, sR, sR0, hb, gi, si0, Rm.enc, dd, deedC, Nat.add_zero, List.set_cons_zero, List.set_cons_succ, List.set_set, List.append_assoc, List.length_append, List.length_set, List.singleton_append, List.cons_append, List.nil_append, ge_iff_le])
    | (refine call_eq (nick_ok _ _ R _ _ (hr.old _)) ?_; simp only [go_sem, cond, Nat.reduceAdd, Nat.reduceLeDiff, Nat.reduceEqDiff, Nat.reduceBEq, decide_true, decide_false, Int.toNat_natCast, r, sA, gQ, gR, gR0, sR, sR0, hb, gi, si0, Rm.enc, dd, deedC, Nat.add_zero, List.set_cons_zero, List.set_cons_succ, List.set_set, List.append_assoc, List.length_append, List.length_set, List.singleton_append, List.cons_append, List.nil_append, ge_iff_le]))
  all_goals first
    | (have ej : joinR R u s.nick = ([], 6) := e0.trans (by simp only [*, Bool.true_or, Bool.false_or, Bool.or_true, Bool.or_false, Bool.true_and, Bool.false_and, Bool.and_true, Bool.and_false, Bool.not_true, Bool.not_false, Bool.false_eq_true, Bool.true_eq_false, if_true, if_false]; done)
       rw [ej]; exact ⟨rfl, _, _, rfl, .inl ⟨rfl, rfl⟩⟩)
    | (have ej : joinR R u s.nick = ([], 3) := e0.trans (by simp only [*, Bool.true_or, Bool.false_or, Bool.or_true, Bool.or_false, Bool.true_and, Bool.false_and, Bool.and_true, Bool.and_false, Bool.not_true, Bool.not_false, Bool.false_eq_true, Bool.true_eq_false, if_true, if_false]; done)
       rw [ej]; exact ⟨rfl, _, _, rfl, .inl ⟨rfl, rfl⟩⟩)
    | (have ej : joinR R u s.nick = ([], 4) := e0.trans (by simp only [*, Bool.true_or, Bool.false_or, Bool.or_true, Bool.or_false, Bool.true_and, Bool.false_and, Bool.and_true, Bool.and_false, Bool.not_true, Bool.not_false, Bool.false_eq_true, Bool.true_eq_false, if_true, if_false]; done)
       rw [ej]; exact ⟨rfl, _, _, rfl, .inl ⟨rfl, rfl⟩⟩)
    | (have ej : joinR R u s.nick = ([], 5) := e0.trans (by simp only [*, Bool.true_or, Bool.false_or, Bool.or_true, Bool.or_false, Bool.true_and, Bool.false_and, Bool.and_true, Bool.and_false, Bool.not_true, Bool.not_false, Bool.false_eq_true, Bool.true_eq_false, if_true, if_false]; done)
       rw [ej]; exact ⟨rfl, _, _, rfl, .inl ⟨rfl, rfl⟩⟩)
    | skip
  · have d34 : decide ((3 : Int) ≤ 4) = true := rfl
    have ej : joinR R u s.nick = ([⟨R.name, 0, 6, u, em, em, em, em, 4⟩, ⟨R.name, IntKind.i64.wrap (R.next + ((1 : Nat) : Int)), 1, u, s.nick, em, em, em, byRank 4⟩], 0) := e0.trans (by simp only [*, Bool.true_or, Bool.false_or, Bool.or_true, Bool.or_false, Bool.true_and, Bool.false_and, Bool.and_true, Bool.and_false, Bool.not_true, Bool.not_false, Bool.false_eq_true, Bool.true_eq_false, if_true, if_false])
    have hz0 : R.next = 0 := eq_of_beq h2
    refine call_eq (happens0_ok w0 H _ p R x A es.length c u s ⟨em, 0, 6, u, em, em, em, em, 4⟩ (gQ _ _)) ?_
    simp only [go_sem, cond, Nat.reduceAdd, Nat.reduceLeDiff, Nat.reduceEqDiff, Nat.reduceBEq, decide_true, decide_false, Int.toNat_natCast, r, sA, gQ, gR, gR0, sR, sR0, hb, gi, si0, Rm.enc, dd, deedC, Nat.add_zero, List.set_cons_zero, List.set_cons_succ, List.set_set, List.append_assoc, List.length_append, List.length_set, List.singleton_append, List.cons_append, List.nil_append, hapE, En.enc, d34, ge_iff_le]
    (refine xw_open (id := 17) [0, 0, 2, 6, 14, 0, 32, 96, 224, 480, 0, 2046, 4095] [.q 0, .q 1, .q 2, .q 3, .q 5, .q 6, .q 7, .q 8, .q 10, .q 4, .q 9, .e 11, .e 12] rfl (by kernel_rfl) ?_; simp only [go_sem, cond, Nat.reduceAdd, Nat.reduceLeDiff, Nat.reduceEqDiff, Nat.reduceBEq, decide_true, decide_false, Int.toNat_natCast, r, sA, gQ, gR, gR0, sR, sR0, hb, gi, si0, Rm.enc, dd, deedC, Nat.add_zero, List.set_cons_zero, List.set_cons_succ, List.set_set, List.append_assoc, List.length_append, List.length_set, List.singleton_append, List.cons_append, List.nil_append, hapE, En.enc])
    refine call_eq (happens1_ok w0 H _ p (l.length + 3) R x A es.length c u s ⟨em, 0, 1, u, s.nick, em, em, em, 3⟩ [hapE R 0 ⟨em, 0, 6, u, em, em, em, em, 4⟩] (by simp) (by rw [gR]; rfl) (gQ _ _)) ?_
    simp only [go_sem, cond, Nat.reduceAdd, Nat.reduceLeDiff, Nat.reduceEqDiff, Nat.reduceBEq, decide_true, decide_false, Int.toNat_natCast, r, sA, gQ, gR, gR0, sR, sR0, hb, gi, si0, Rm.enc, dd, deedC, Nat.add_zero, List.set_cons_zero, List.set_cons_succ, List.set_set, List.append_assoc, List.length_append, List.length_set, List.singleton_append, List.cons_append, List.nil_append, sR, hapE, En.enc]
    have e1 : IntKind.i64.wrap (R.next + ((0 : Nat) : Int)) = 0 := by rw [hz0]; rfl
    rw [ej]
    rw [e1]
    exact ⟨rfl, _, _, rfl, .inr ⟨3, rfl, by simp, rfl⟩⟩
  · have hbr : byRank (rankB R.ks u) = 3 := if_pos (of_decide_eq_true h2)
    have ej : joinR R u s.nick = ([⟨R.name, IntKind.i64.wrap (R.next + ((0 : Nat) : Int)), 1, u, s.nick, em, em, em, byRank (rankB R.ks u)⟩], 0) := e0.trans (by simp only [*, Bool.true_or, Bool.false_or, Bool.or_true, Bool.or_false, Bool.true_and, Bool.false_and, Bool.and_true, Bool.and_false, Bool.not_true, Bool.not_false, Bool.false_eq_true, Bool.true_eq_false, if_true, if_false])
    refine call_eq (happens0_ok w0 H _ p R x A es.length c u s ⟨em, 0, 1, u, s.nick, em, em, em, _⟩ (gQ _ _)) ?_
    simp only [go_sem, cond, Nat.reduceAdd, Nat.reduceLeDiff, Nat.reduceEqDiff, Nat.reduceBEq, decide_true, decide_false, Int.toNat_natCast, r, sA, gQ, gR, gR0, sR, sR0, hb, gi, si0, Rm.enc, dd, deedC, Nat.add_zero, List.set_cons_zero, List.set_cons_succ, List.set_set, List.append_assoc, List.length_append, List.length_set, List.singleton_append, List.cons_append, List.nil_append, hapE, En.enc]
    rw [ej, hbr]
    exact ⟨rfl, _, _, rfl, .inr ⟨3, rfl, by simp, rfl⟩⟩
  · have hbr : byRank (rankB R.ks u) = 2 := if_neg (of_decide_eq_false h2)
    have ej : joinR R u s.nick = ([⟨R.name, IntKind.i64.wrap (R.next + ((0 : Nat) : Int)), 1, u, s.nick, em, em, em, byRank (rankB R.ks u)⟩], 0) := e0.trans (by simp only [*, Bool.true_or, Bool.false_or, Bool.or_true, Bool.or_false, Bool.true_and, Bool.false_and, Bool.and_true, Bool.and_false, Bool.not_true, Bool.not_false, Bool.false_eq_true, Bool.true_eq_false, if_true, if_false])
    refine call_eq (happens0_ok w0 H _ p R x A es.length c u s ⟨em, 0, 1, u, s.nick, em, em, em, _⟩ (gQ _ _)) ?_
    simp only [go_sem, cond, Nat.reduceAdd, Nat.reduceLeDiff, Nat.reduceEqDiff, Nat.reduceBEq, decide_true, decide_false, Int.toNat_natCast, r, sA, gQ, gR, gR0, sR, sR0, hb, gi, si0, Rm.enc, dd, deedC, Nat.add_zero, List.set_cons_zero, List.set_cons_succ, List.set_set, List.append_assoc, List.length_append, List.length_set, List.singleton_append, List.cons_append, List.nil_append, hapE, En.enc]
    rw [ej, hbr]
    exact ⟨rfl, _, _, rfl, .inr ⟨3, rfl, by simp, rfl⟩⟩
end Go.Proofs.YtmacpgoclhgafaaGreatDoorW.FA

namespace Go.Proofs.YtmacpgoclhgafaaGreatDoorW.FA
open Go.RowKit Go.Proofs.YtmacpgoclhgafaaGreatDoorW.XM Go.Proofs Go.Proofs.YtmacpgoclhgafaaGreatDoorW.XWords
set_option maxRecDepth 100000
set_option linter.unusedSimpArgs false
set_option linter.unusedVariables false
variable (w0 : World) (H : Hp)
set_option maxHeartbeats 20000000 in
theorem drole_ok (l : List (Option Ob)) (p : Nat) (R : Rm) (x : Ad) (es : List En) (A : Option Addr) (c : Nat) (u : ByteArray) (s : Sy) (hp : l[p]? = some (dd R x A es.length c u s (.slice none 0 0))) (hr : RmAt w0 H R x) (m0 : Mem) (h0 : R.ms.find? (isU u) = some m0) (h3 : (m0.role == 3) = true) (hq : ∀ m ∈ R.ms, nickU R m.user = m.nick) (hn : 0 ≤ R.next ∧ R.next ≤ 9999) : AFn Tryz.prog w0 60 #[.pointer (some ⟨nid H p, 0, some 18⟩)] (Hx H l) fun v H2 => v = .int .i64 (roleR R u s).2 ∧ ∃ g o, H2 = Hx H (l.set p (dd R x A es.length c u s o) ++ g) ∧ OutAt H l.length g o (roleR R u s).1 := by
  have hl := hr.lm
  have hlp := lt_of_get hp
  have e : Hx H l = Hx H (l.set p (dd R x A es.length c u s (.slice none 0 0))) := by conv => lhs; rw [set_same hp, List.append_nil]
  rw [e]
  obtain ⟨sA, gQ, gR, gR0, sR, sR0⟩ := dset hlp
  have gs : ∀ X : Option Ob, (l.set p X)[p]? = some X := fun X => by rw [List.getElem?_set_self hlp]
  have hb : ∀ (g : List (Option Ob)) (Y : Option Ob) (r : List (Option Ob)), (g ++ Y :: r)[g.length]? = some Y := fun g Y r => by rw [List.getElem?_append_right (Nat.le_refl _)]; simp
  have gi : ∀ (g r : List (Option Ob)) (k : Nat), (g ++ r)[g.length + k]? = r[k]? := fun g r k => by rw [List.getElem?_append_right (by omega)]; simp
  have si0 : ∀ (g r : List (Option Ob)) (Z : Option Ob), (g ++ r).set g.length Z = g ++ r.set 0 Z := fun g r Z => by rw [List.set_append_right _ _ (by omega)]; simp
  have e2 : IntKind.i64.wrap (R.next + ((0 : Nat) : Int)) = R.next := by rw [wrap_i64 (by omega) (by omega)]; omega
  obtain ⟨xa, xc, xb, xd⟩ := x
  refine AFn_of Tryz.func60 rfl (by kernel_rfl) ?_
  have r := Tryz.results60
  rcases idxP_find (isN s.nick) R.ms 0 with ⟨g1, g2⟩ | ⟨a, ha, g1, g2⟩
  · have d3 : ((-1 : Int) < 0) = True := eq_true (by omega)
    have ej : roleR R u s = ([], 8) := by simp only [roleR, h0, h3, g2, Bool.true_eq_false, if_false]
    simp only [go_sem, cond, Nat.reduceAdd, Nat.reduceLeDiff, Nat.reduceEqDiff, Nat.reduceBEq, decide_true, decide_false, Int.toNat_natCast, r, sA, gQ, gR, gR0, sR, sR0, hb, gi, si0, Rm.enc, dd, deedC, Nat.add_zero, List.set_cons_zero, List.set_cons_succ, List.set_set, List.append_assoc, List.length_append, List.length_set, List.singleton_append, List.cons_append, List.nil_append, gs]
    repeat' (first
      | (refine Both_intro ?_ ?_ <;> simp only [go_sem, cond, Nat.reduceAdd, Nat.reduceLeDiff, Nat.reduceEqDiff, Nat.reduceBEq, decide_true, decide_false, Int.toNat_natCast, r, sA, gQ, gR, gR0, sR, sR0, hb, gi, si0, Rm.enc, dd, deedC, Nat.add_zero, List.set_cons_zero, List.set_cons_succ, List.set_set, List.append_assoc, List.length_append, List.length_set, List.singleton_append, List.cons_append, List.nil_append, gs, d3])
      | (refine xw_tree (id := 1) [0, 1, 3, 7, 0, 16, 48, 112, 0, 0, 783, 2047] (.q 0 (.q 1 (.q 2 (.q 4 (.q 5 (.q 6 (.l 3 (.l 7 (.b 8 (.e 9 (.d 3 (.e 10 (.d 7 (.e 11 .z))))) 9 (.e 8 (.d 3 (.e 10 (.d 7 (.e 11 .z)))))))))))))) rfl (by kernel_rfl) ?_; simp only [go_sem, cond, Nat.reduceAdd, Nat.reduceLeDiff, Nat.reduceEqDiff, Nat.reduceBEq, decide_true, decide_false, Int.toNat_natCast, r, sA, gQ, gR, gR0, sR, sR0, hb, gi, si0, Rm.enc, dd, deedC, Nat.add_zero, List.set_cons_zero, List.set_cons_succ, List.set_set, List.append_assoc, List.length_append, List.length_set, List.singleton_append, List.cons_append, List.nil_append, gs])
      | (refine call_eq (nick_ok _ _ R _ _ (hr.old _)) ?_; rw [g1]; simp only [go_sem, cond, Nat.reduceAdd, Nat.reduceLeDiff, Nat.reduceEqDiff, Nat.reduceBEq, decide_true, decide_false, Int.toNat_natCast, r, sA, gQ, gR, gR0, sR, sR0, hb, gi, si0, Rm.enc, dd, deedC, Nat.add_zero, List.set_cons_zero, List.set_cons_succ, List.set_set, List.append_assoc, List.length_append, List.length_set, List.singleton_append, List.cons_append, List.nil_append, gs, d3]))
    all_goals
      rw [ej]
      exact ⟨rfl, _, _, rfl, .inl ⟨rfl, rfl⟩⟩
  · rw [Nat.zero_add] at g1
    have d3 : ((a : Int) < 0) = False := eq_false (by omega)
    have d4 : ((0 : Int) ≤ (a : Int)) = True := eq_true (by omega)
    have d5 : ((a : Int) < (R.ms.length : Int)) = True := eq_true (by omega)
    obtain ⟨b2, o2, sp2, hA, hc2, hw2⟩ := mcell hr.sm ha
    cases hA
    have c1 := fun L => hw2 L rfl
    simp only [Mem.enc] at c1
    have hmq := hq _ (List.getElem_mem ha)
    have e0 : roleR R u s = if (decide (rankB R.ks u < rankB R.ks R.ms[a].user) || (decide (3 ≤ rankB R.ks R.ms[a].user) && !(s.num == 3))) = true then ([], 7) else if (s.num == R.ms[a].role) = true then ([], 0) else ([roleE R R.ms[a] s], 0) := by
      simp only [roleR, h0, h3, g2, Bool.true_eq_false, if_false]
      rw [show (R.ms[a].role == s.num) = (s.num == R.ms[a].role) from BEq.comm]
    simp only [go_sem, cond, Nat.reduceAdd, Nat.reduceLeDiff, Nat.reduceEqDiff, Nat.reduceBEq, decide_true, decide_false, Int.toNat_natCast, r, sA, gQ, gR, gR0, sR, sR0, hb, gi, si0, Rm.enc, dd, deedC, Nat.add_zero, List.set_cons_zero, List.set_cons_succ, List.set_set, List.append_assoc, List.length_append, List.length_set, List.singleton_append, List.cons_append, List.nil_append, gs]
    repeat' (first
      | (refine Both_intro ?_ ?_ <;> simp only [go_sem, cond, Nat.reduceAdd, Nat.reduceLeDiff, Nat.reduceEqDiff, Nat.reduceBEq, decide_true, decide_false, Int.toNat_natCast, r, sA, gQ, gR, gR0, sR, sR0, hb, gi, si0, Rm.enc, dd, deedC, Nat.add_zero, List.set_cons_zero, List.set_cons_succ, List.set_set, List.append_assoc, List.length_append, List.length_set, List.singleton_append, List.cons_append, List.nil_append, gs, d3, d4, d5, c1])
      | (refine xw_tree (id := 1) [0, 1, 3, 7, 0, 16, 48, 112, 0, 0, 783, 2047] (.q 0 (.q 1 (.q 2 (.q 4 (.q 5 (.q 6 (.l 3 (.l 7 (.b 8 (.e 9 (.d 3 (.e 10 (.d 7 (.e 11 .z))))) 9 (.e 8 (.d 3 (.e 10 (.d 7 (.e 11 .z)))))))))))))) rfl (by kernel_rfl) ?_; simp only [go_sem, cond, Nat.reduceAdd, Nat.reduceLeDiff, Nat.reduceEqDiff, Nat.reduceBEq, decide_true, decide_false, Int.toNat_natCast, r, sA, gQ, gR, gR0, sR, sR0, hb, gi, si0, Rm.enc, dd, deedC, Nat.add_zero, List.set_cons_zero, List.set_cons_succ, List.set_set, List.append_assoc, List.length_append, List.length_set, List.singleton_append, List.cons_append, List.nil_append, gs])
      | (refine xw_open (id := 8) [0, 0, 0, 4, 12, 28, 62, 127, 255, 511, 1023, 2047, 4095, 8191, 16383, 32767, 65535, 131071] [.q 0, .q 2, .q 3, .q 4, .q 1, .q 5, .e 6, .q 7, .q 8, .q 9, .q 10, .q 11, .q 12, .q 13, .q 14, .q 15, .q 16, .q 17] rfl (by kernel_rfl) ?_; simp only [go_sem, cond, Nat.reduceAdd, Nat.reduceLeDiff, Nat.reduceEqDiff, Nat.reduceBEq, decide_true, decide_false, Int.toNat_natCast, r, sA, gQ, gR, gR0, sR, sR0, hb, gi, si0, Rm.enc, dd, deedC, Nat.add_zero, List.set_cons_zero, List.set_cons_succ, List.set_set, List.append_assoc, List.length_append, List.length_set, List.singleton_append, List.cons_append, List.nil_append, gs, d3, d4, d5, c1])
      | (refine call_eq (nick_ok _ _ R _ _ (hr.old _)) ?_; rw [g1]; simp only [go_sem, cond, Nat.reduceAdd, Nat.reduceLeDiff, Nat.reduceEqDiff, Nat.reduceBEq, decide_true, decide_false, Int.toNat_natCast, r, sA, gQ, gR, gR0, sR, sR0, hb, gi, si0, Rm.enc, dd, deedC, Nat.add_zero, List.set_cons_zero, List.set_cons_succ, List.set_set, List.append_assoc, List.length_append, List.length_set, List.singleton_append, List.cons_append, List.nil_append, gs, d3, d4, d5, c1])
      | (refine call_eq (rank_ok _ _ R _ _ (hr.old _)) ?_; simp only [go_sem, cond, Nat.reduceAdd, Nat.reduceLeDiff, Nat.reduceEqDiff, Nat.reduceBEq, decide_true, decide_false, Int.toNat_natCast, r, sA, gQ, gR, gR0, sR, sR0, hb, gi, si0, Rm.enc, dd, deedC, Nat.add_zero, List.set_cons_zero, List.set_cons_succ, List.set_set, List.append_assoc, List.length_append, List.length_set, List.singleton_append, List.cons_append, List.nil_append, gs, d3, d4, d5, c1, gt_iff_lt, ge_iff_le])
      | (refine Br_intro ?_ ?_ <;> intro h2 <;> simp only [go_sem, cond, Nat.reduceAdd, Nat.reduceLeDiff, Nat.reduceEqDiff, Nat.reduceBEq, decide_true, decide_false, Int.toNat_natCast, r, sA, gQ, gR, gR0, sR, sR0, hb, gi, si0, Rm.enc, dd, deedC, Nat.add_zero, List.set_cons_zero, List.set_cons_succ, List.set_set, List.append_assoc, List.length_append, List.length_set, List.singleton_append, List.cons_append, List.nil_append, gs, d3, d4, d5, c1, h2])
      | (refine call_eq (happens0_ok w0 H _ p R ⟨some ⟨b2, o2, sp2⟩, xc, xb, xd⟩ A es.length c u s ⟨em, 0, _, _, _, em, em, em, _⟩ (gQ _ _)) ?_; simp only [go_sem, cond, Nat.reduceAdd, Nat.reduceLeDiff, Nat.reduceEqDiff, Nat.reduceBEq, decide_true, decide_false, Int.toNat_natCast, r, sA, gQ, gR, gR0, sR, sR0, hb, gi, si0, Rm.enc, dd, deedC, Nat.add_zero, List.set_cons_zero, List.set_cons_succ, List.set_set, List.append_assoc, List.length_append, List.length_set, List.singleton_append, List.cons_append, List.nil_append, hapE, En.enc]))
    all_goals clear c1 hw2 hc2
    all_goals first
      | (have ej : roleR R u s = ([], 7) := e0.trans (by simp only [*, Bool.true_or, Bool.false_or, Bool.or_true, Bool.or_false, Bool.true_and, Bool.false_and, Bool.and_true, Bool.and_false, Bool.not_true, Bool.not_false, Bool.false_eq_true, Bool.true_eq_false, if_true, if_false]; done)
         rw [ej]; exact ⟨rfl, _, _, rfl, .inl ⟨rfl, rfl⟩⟩)
      | (have ej : roleR R u s = ([], 0) := e0.trans (by simp only [*, Bool.true_or, Bool.false_or, Bool.or_true, Bool.or_false, Bool.true_and, Bool.false_and, Bool.and_true, Bool.and_false, Bool.not_true, Bool.not_false, Bool.false_eq_true, Bool.true_eq_false, if_true, if_false]; done)
         rw [ej]; exact ⟨rfl, _, _, rfl, .inl ⟨rfl, rfl⟩⟩)
      | (have ej : roleR R u s = ([roleE R R.ms[a] s], 0) := e0.trans (by simp only [*, Bool.true_or, Bool.false_or, Bool.or_true, Bool.or_false, Bool.true_and, Bool.false_and, Bool.and_true, Bool.and_false, Bool.not_true, Bool.not_false, Bool.false_eq_true, Bool.true_eq_false, if_true, if_false]; done)
         rw [ej, e2]
         exact ⟨rfl, _, _, rfl, .inr ⟨5, by simp only [roleE, hmq, h2, Bool.false_eq_true, if_true, if_false]; rfl, by simp, rfl⟩⟩)
      | (have ej : roleR R u s = ([roleE R R.ms[a] s], 0) := e0.trans (by simp only [*, Bool.true_or, Bool.false_or, Bool.or_true, Bool.or_false, Bool.true_and, Bool.false_and, Bool.and_true, Bool.and_false, Bool.not_true, Bool.not_false, Bool.false_eq_true, Bool.true_eq_false, if_true, if_false]; done)
         rw [ej, e2]
         exact ⟨rfl, _, _, rfl, .inr ⟨6, by simp only [roleE, hmq, h2, Bool.false_eq_true, if_true, if_false]; rfl, by simp, rfl⟩⟩)
      | trace_state
end Go.Proofs.YtmacpgoclhgafaaGreatDoorW.FA

namespace Go.Proofs.YtmacpgoclhgafaaGreatDoorW.FA
open Go.RowKit Go.Proofs.YtmacpgoclhgafaaGreatDoorW.XM Go.Proofs Go.Proofs.YtmacpgoclhgafaaGreatDoorW.XWords
set_option maxRecDepth 100000
set_option linter.unusedSimpArgs false
set_option linter.unusedVariables false
variable (w0 : World) (H : Hp)
set_option maxHeartbeats 20000000 in
theorem drank_ok (l : List (Option Ob)) (p : Nat) (R : Rm) (x : Ad) (es : List En) (A : Option Addr) (c : Nat) (u : ByteArray) (s : Sy) (hp : l[p]? = some (dd R x A es.length c u s (.slice none 0 0))) (hr : RmAt w0 H R x) (hn : 0 ≤ R.next ∧ R.next ≤ 9999) : AFn Tryz.prog w0 59 #[.pointer (some ⟨nid H p, 0, some 18⟩)] (Hx H l) fun v H2 => v = .int .i64 (setR R u s).2 ∧ ∃ g o, H2 = Hx H (l.set p (dd R x A es.length c u s o) ++ g) ∧ OutAt H l.length g o (setR R u s).1 := by
  have hl := hr.lm
  have hlp := lt_of_get hp
  have e : Hx H l = Hx H (l.set p (dd R x A es.length c u s (.slice none 0 0))) := by conv => lhs; rw [set_same hp, List.append_nil]
  rw [e]
  obtain ⟨sA, gQ, gR, gR0, sR, sR0⟩ := dset hlp
  have gs : ∀ X : Option Ob, (l.set p X)[p]? = some X := fun X => by rw [List.getElem?_set_self hlp]
  have hb : ∀ (g : List (Option Ob)) (Y : Option Ob) (r : List (Option Ob)), (g ++ Y :: r)[g.length]? = some Y := fun g Y r => by rw [List.getElem?_append_right (Nat.le_refl _)]; simp
  have gi : ∀ (g r : List (Option Ob)) (k : Nat), (g ++ r)[g.length + k]? = r[k]? := fun g r k => by rw [List.getElem?_append_right (by omega)]; simp
  have si0 : ∀ (g r : List (Option Ob)) (Z : Option Ob), (g ++ r).set g.length Z = g ++ r.set 0 Z := fun g r Z => by rw [List.set_append_right _ _ (by omega)]; simp
  have e2 : IntKind.i64.wrap (R.next + ((0 : Nat) : Int)) = R.next := by rw [wrap_i64 (by omega) (by omega)]; omega
  obtain ⟨xa, xc, xb, xd⟩ := x
  refine AFn_of Tryz.func59 rfl (by kernel_rfl) ?_
  have r := Tryz.results59
  have e0 : setR R u s = if (decide (rankB R.ks u < 3) || ((rankB R.ks u == 3) && (decide (3 ≤ rankB R.ks s.name) || decide (3 ≤ s.num)))) = true then ([], 7) else if (rankB R.ks s.name == s.num) = true then ([], 0) else if ((rankB R.ks s.name == 4) && (((ownB R.ks : Nat) : Int) == 1)) = true then ([], 9) else if ((rankB R.ks s.name == 1) && decide (6 ≤ (R.ks.length : Int))) = true then ([], 5) else (setL R s, 0) := rfl
  simp only [go_sem, cond, Nat.reduceAdd, Nat.reduceLeDiff, Nat.reduceEqDiff, Nat.reduceBEq, decide_true, decide_false, Int.toNat_natCast, r, sA, gQ, gR, gR0, sR, sR0, hb, gi, si0, Rm.enc, dd, deedC, Nat.add_zero, List.set_cons_zero, List.set_cons_succ, List.set_set, List.append_assoc, List.length_append, List.length_set, List.singleton_append, List.cons_append, List.nil_append, gs]
  repeat' (first
    | (refine Both_intro ?_ ?_ <;> simp only [go_sem, cond, Nat.reduceAdd, Nat.reduceLeDiff, Nat.reduceEqDiff, Nat.reduceBEq, decide_true, decide_false, Int.toNat_natCast, r, sA, gQ, gR, gR0, sR, sR0, hb, gi, si0, Rm.enc, dd, deedC, Nat.add_zero, List.set_cons_zero, List.set_cons_succ, List.set_set, List.append_assoc, List.length_append, List.length_set, List.singleton_append, List.cons_append, List.nil_append, gs])
    | (refine xw_tree (id := 1) [0, 1, 3, 7, 0, 16, 48, 112, 0, 0, 783, 2047] (.q 0 (.q 1 (.q 2 (.q 4 (.q 5 (.q 6 (.l 3 (.l 7 (.b 8 (.e 9 (.d 3 (.e 10 (.d 7 (.e 11 .z))))) 9 (.e 8 (.d 3 (.e 10 (.d 7 (.e 11 .z)))))))))))))) rfl (by kernel_rfl) ?_; simp only [go_sem, cond, Nat.reduceAdd, Nat.reduceLeDiff, Nat.reduceEqDiff, Nat.reduceBEq, decide_true, decide_false, Int.toNat_natCast, r, sA, gQ, gR, gR0, sR, sR0, hb, gi, si0, Rm.enc, dd, deedC, Nat.add_zero, List.set_cons_zero, List.set_cons_succ, List.set_set, List.append_assoc, List.length_append, List.length_set, List.singleton_append, List.cons_append, List.nil_append, gs])
    | (refine xw_open (id := 2) [0, 0, 2, 6, 14, 31, 0, 0, 128, 511, 1023, 2047] [.q 1, .q 2, .q 3, .q 7, .q 0, .q 4, .l 6, .l 8, .e 5, .d 8, .d 6, .e 9, .q 10, .q 11] rfl (by kernel_rfl) ?_; simp only [go_sem, cond, Nat.reduceAdd, Nat.reduceLeDiff, Nat.reduceEqDiff, Nat.reduceBEq, decide_true, decide_false, Int.toNat_natCast, r, sA, gQ, gR, gR0, sR, sR0, hb, gi, si0, Rm.enc, dd, deedC, Nat.add_zero, List.set_cons_zero, List.set_cons_succ, List.set_set, List.append_assoc, List.length_append, List.length_set, List.singleton_append, List.cons_append, List.nil_append, gs])
    | (refine call_eq (rank_ok _ _ R _ _ (hr.old _)) ?_; simp only [go_sem, cond, Nat.reduceAdd, Nat.reduceLeDiff, Nat.reduceEqDiff, Nat.reduceBEq, decide_true, decide_false, Int.toNat_natCast, r, sA, gQ, gR, gR0, sR, sR0, hb, gi, si0, Rm.enc, dd, deedC, Nat.add_zero, List.set_cons_zero, List.set_cons_succ, List.set_set, List.append_assoc, List.length_append, List.length_set, List.singleton_append, List.cons_append, List.nil_append, gs, gt_iff_lt, ge_iff_le])
    | (refine call_eq (owners_ok _ _ R _ (hr.old _)) ?_; simp only [go_sem, cond, Nat.reduceAdd, Nat.reduceLeDiff, Nat.reduceEqDiff, Nat.reduceBEq, decide_true, decide_false, Int.toNat_natCast, r, sA, gQ, gR, gR0, sR, sR0, hb, gi, si0, Rm.enc, dd, deedC, Nat.add_zero, List.set_cons_zero, List.set_cons_succ, List.set_set, List.append_assoc, List.length_append, List.length_set, List.singleton_append, List.cons_append, List.nil_append, gs, gt_iff_lt, ge_iff_le])
    | (refine Br_intro ?_ ?_ <;> intro h2 <;> simp only [go_sem, cond, Nat.reduceAdd, Nat.reduceLeDiff, Nat.reduceEqDiff, Nat.reduceBEq, decide_true, decide_false, Int.toNat_natCast, r, sA, gQ, gR, gR0, sR, sR0, hb, gi, si0, Rm.enc, dd, deedC, Nat.add_zero, List.set_cons_zero, List.set_cons_succ, List.set_set, List.append_assoc, List.length_append, List.length_set, List.singleton_append, List.cons_append, List.nil_append, gs, gt_iff_lt, ge_iff_le, h2])
    | (suffices ej : setR R u s = ([], 7) by rw [ej]; exact ⟨rfl, _, _, rfl, .inl ⟨rfl, rfl⟩⟩
       refine e0.trans ?_; simp only [*, Bool.true_or, Bool.false_or, Bool.or_true, Bool.or_false, Bool.true_and, Bool.false_and, Bool.and_true, Bool.and_false, Bool.not_true, Bool.not_false, Bool.false_eq_true, Bool.true_eq_false, if_true, if_false]; done)
    | (suffices ej : setR R u s = ([], 0) by rw [ej]; exact ⟨rfl, _, _, rfl, .inl ⟨rfl, rfl⟩⟩
       refine e0.trans ?_; simp only [*, Bool.true_or, Bool.false_or, Bool.or_true, Bool.or_false, Bool.true_and, Bool.false_and, Bool.and_true, Bool.and_false, Bool.not_true, Bool.not_false, Bool.false_eq_true, Bool.true_eq_false, if_true, if_false]; done)
    | (suffices ej : setR R u s = ([], 9) by rw [ej]; exact ⟨rfl, _, _, rfl, .inl ⟨rfl, rfl⟩⟩
       refine e0.trans ?_; simp only [*, Bool.true_or, Bool.false_or, Bool.or_true, Bool.or_false, Bool.true_and, Bool.false_and, Bool.and_true, Bool.and_false, Bool.not_true, Bool.not_false, Bool.false_eq_true, Bool.true_eq_false, if_true, if_false]; done)
    | (suffices ej : setR R u s = ([], 5) by rw [ej]; exact ⟨rfl, _, _, rfl, .inl ⟨rfl, rfl⟩⟩
       refine e0.trans ?_; simp only [*, Bool.true_or, Bool.false_or, Bool.or_true, Bool.or_false, Bool.true_and, Bool.false_and, Bool.and_true, Bool.and_false, Bool.not_true, Bool.not_false, Bool.false_eq_true, Bool.true_eq_false, if_true, if_false]; done))
  all_goals
    have e1 : setR R u s = (setL R s, 0) := by
      refine e0.trans ?_
      simp only [*, Bool.true_or, Bool.false_or, Bool.or_true, Bool.or_false, Bool.true_and, Bool.false_and, Bool.and_true, Bool.and_false, Bool.not_true, Bool.not_false, Bool.false_eq_true, Bool.true_eq_false, if_true, if_false]
    rw [e1]
    clear e0 e1
    refine call_eq (member_ok _ _ R _ _ (hr.old _)) ?_
    rcases idxP_find (isU s.name) R.ms 0 with ⟨g1, g2⟩ | ⟨a, ha, g1, g2⟩
    · rw [g1]
      have d3 : ((0 : Int) ≤ (-1 : Int)) = False := eq_false (by omega)
      have es1 : setL R s = [ent6 R s 0] := by simp only [setL, g2]
      simp only [go_sem, cond, Nat.reduceAdd, Nat.reduceLeDiff, Nat.reduceEqDiff, Nat.reduceBEq, decide_true, decide_false, Int.toNat_natCast, r, sA, gQ, gR, gR0, sR, sR0, hb, gi, si0, Rm.enc, dd, deedC, Nat.add_zero, List.set_cons_zero, List.set_cons_succ, List.set_set, List.append_assoc, List.length_append, List.length_set, List.singleton_append, List.cons_append, List.nil_append, gs, ge_iff_le, d3]
      refine call_eq (happens0_ok w0 H _ p R ⟨xa, xc, xb, xd⟩ A es.length c u s ⟨em, 0, 6, s.name, em, em, em, em, s.num⟩ (gQ _ _)) ?_
      simp only [go_sem, cond, Nat.reduceAdd, Nat.reduceLeDiff, Nat.reduceEqDiff, Nat.reduceBEq, decide_true, decide_false, Int.toNat_natCast, r, sA, gQ, gR, gR0, sR, sR0, hb, gi, si0, Rm.enc, dd, deedC, Nat.add_zero, List.set_cons_zero, List.set_cons_succ, List.set_set, List.append_assoc, List.length_append, List.length_set, List.singleton_append, List.cons_append, List.nil_append, hapE, En.enc, ge_iff_le, d3]
      rw [es1]
      exact ⟨_, _, rfl, .inr ⟨4, rfl, by simp, rfl⟩⟩
    · rw [g1, Nat.zero_add]
      obtain ⟨b2, o2, sp2, hA, hc2, hw2⟩ := mcell hr.sm ha
      cases hA
      have d3 : ((0 : Int) ≤ (a : Int)) = True := eq_true (by omega)
      have d5 : ((a : Int) < (R.ms.length : Int)) = True := eq_true (by omega)
      have c1 := fun L => hc2 1 (.string R.ms[a].nick) L (by decide) rfl
      have c2 := fun L => hc2 2 (.int .i64 R.ms[a].role) L (by decide) rfl
      have hnk : nickU R s.name = R.ms[a].nick := by rw [nickU, g2]; rfl
      have es0 : setL R s = if (s.num == 0) = true then [⟨R.name, R.next, 2, s.name, nickU R s.name, em, em, em, 2⟩, ent6 R s 1] else if (decide (3 ≤ s.num) && !(R.ms[a].role == 3)) = true then [ent6 R s 0, ⟨R.name, IntKind.i64.wrap (R.next + ((1 : Nat) : Int)), 5, s.name, nickU R s.name, em, em, em, 3⟩] else [ent6 R s 0] := by
        simp only [setL, g2]
      simp only [go_sem, cond, Nat.reduceAdd, Nat.reduceLeDiff, Nat.reduceEqDiff, Nat.reduceBEq, decide_true, decide_false, Int.toNat_natCast, r, sA, gQ, gR, gR0, sR, sR0, hb, gi, si0, Rm.enc, dd, deedC, Nat.add_zero, List.set_cons_zero, List.set_cons_succ, List.set_set, List.append_assoc, List.length_append, List.length_set, List.singleton_append, List.cons_append, List.nil_append, gs, ge_iff_le, d3, d5, c1, c2]
      clear g1 g2 hw2 hc2
      repeat' (first
        | (refine Br_intro ?_ ?_ <;> intro k2 <;> simp only [go_sem, cond, Nat.reduceAdd, Nat.reduceLeDiff, Nat.reduceEqDiff, Nat.reduceBEq, decide_true, decide_false, Int.toNat_natCast, r, sA, gQ, gR, gR0, sR, sR0, hb, gi, si0, Rm.enc, dd, deedC, Nat.add_zero, List.set_cons_zero, List.set_cons_succ, List.set_set, List.append_assoc, List.length_append, List.length_set, List.singleton_append, List.cons_append, List.nil_append, gs, gt_iff_lt, ge_iff_le, d3, d5, c1, c2, k2])
        | (refine xw_open (id := 13) [0, 0, 2, 0, 8, 0, 56, 120, 248, 510, 1023] [.q 0, .q 1, .q 3, .q 5, .q 2, .q 4, .q 6, .q 7, .q 8, .e 9, .e 10] rfl (by kernel_rfl) ?_; simp only [go_sem, cond, Nat.reduceAdd, Nat.reduceLeDiff, Nat.reduceEqDiff, Nat.reduceBEq, decide_true, decide_false, Int.toNat_natCast, r, sA, gQ, gR, gR0, sR, sR0, hb, gi, si0, Rm.enc, dd, deedC, Nat.add_zero, List.set_cons_zero, List.set_cons_succ, List.set_set, List.append_assoc, List.length_append, List.length_set, List.singleton_append, List.cons_append, List.nil_append, gs, ge_iff_le, d3, d5, c1, c2])
        | (refine xw_open (id := 16) [0, 0, 2, 0, 8, 0, 56, 120, 248, 510, 1023] [.q 0, .q 1, .q 3, .q 5, .q 2, .q 4, .q 6, .q 7, .q 8, .e 9, .e 10] rfl (by kernel_rfl) ?_; simp only [go_sem, cond, Nat.reduceAdd, Nat.reduceLeDiff, Nat.reduceEqDiff, Nat.reduceBEq, decide_true, decide_false, Int.toNat_natCast, r, sA, gQ, gR, gR0, sR, sR0, hb, gi, si0, Rm.enc, dd, deedC, Nat.add_zero, List.set_cons_zero, List.set_cons_succ, List.set_set, List.append_assoc, List.length_append, List.length_set, List.singleton_append, List.cons_append, List.nil_append, gs, ge_iff_le, d3, d5, c1, c2])
        | (refine call_eq (happens0_ok w0 H _ p R ⟨some ⟨b2, o2, sp2⟩, xc, xb, xd⟩ A es.length c u s ⟨em, 0, 2, s.name, R.ms[a].nick, em, em, em, 2⟩ (gQ _ _)) ?_; simp only [go_sem, cond, Nat.reduceAdd, Nat.reduceLeDiff, Nat.reduceEqDiff, Nat.reduceBEq, decide_true, decide_false, Int.toNat_natCast, r, sA, gQ, gR, gR0, sR, sR0, hb, gi, si0, Rm.enc, dd, deedC, Nat.add_zero, List.set_cons_zero, List.set_cons_succ, List.set_set, List.append_assoc, List.length_append, List.length_set, List.singleton_append, List.cons_append, List.nil_append, hapE, En.enc, ge_iff_le, d3, d5, c1, c2])
        | (refine call_eq (happens0_ok w0 H _ p R ⟨some ⟨b2, o2, sp2⟩, xc, xb, xd⟩ A es.length c u s ⟨em, 0, 6, s.name, em, em, em, em, s.num⟩ (gQ _ _)) ?_; simp only [go_sem, cond, Nat.reduceAdd, Nat.reduceLeDiff, Nat.reduceEqDiff, Nat.reduceBEq, decide_true, decide_false, Int.toNat_natCast, r, sA, gQ, gR, gR0, sR, sR0, hb, gi, si0, Rm.enc, dd, deedC, Nat.add_zero, List.set_cons_zero, List.set_cons_succ, List.set_set, List.append_assoc, List.length_append, List.length_set, List.singleton_append, List.cons_append, List.nil_append, hapE, En.enc, ge_iff_le, d3, d5, c1, c2])
        | (refine call_eq (happens1_ok w0 H _ p (l.length + 4) R ⟨some ⟨b2, o2, sp2⟩, xc, xb, xd⟩ A es.length c u s ⟨em, 0, 6, s.name, em, em, em, em, s.num⟩ [hapE R 0 ⟨em, 0, 2, s.name, R.ms[a].nick, em, em, em, 2⟩] (by simp) (by rw [gR]; rfl) (gQ _ _)) ?_; simp only [go_sem, cond, Nat.reduceAdd, Nat.reduceLeDiff, Nat.reduceEqDiff, Nat.reduceBEq, decide_true, decide_false, Int.toNat_natCast, r, sA, gQ, gR, gR0, sR, sR0, hb, gi, si0, Rm.enc, dd, deedC, Nat.add_zero, List.set_cons_zero, List.set_cons_succ, List.set_set, List.append_assoc, List.length_append, List.length_set, List.singleton_append, List.cons_append, List.nil_append, sR, hapE, En.enc, ge_iff_le, d3, d5, c1, c2])
        | (refine call_eq (happens1_ok w0 H _ p (l.length + 4) R ⟨some ⟨b2, o2, sp2⟩, xc, xb, xd⟩ A es.length c u s ⟨em, 0, 5, s.name, R.ms[a].nick, em, em, em, 3⟩ [hapE R 0 ⟨em, 0, 6, s.name, em, em, em, em, s.num⟩] (by simp) (by rw [gR]; rfl) (gQ _ _)) ?_; simp only [go_sem, cond, Nat.reduceAdd, Nat.reduceLeDiff, Nat.reduceEqDiff, Nat.reduceBEq, decide_true, decide_false, Int.toNat_natCast, r, sA, gQ, gR, gR0, sR, sR0, hb, gi, si0, Rm.enc, dd, deedC, Nat.add_zero, List.set_cons_zero, List.set_cons_succ, List.set_set, List.append_assoc, List.length_append, List.length_set, List.singleton_append, List.cons_append, List.nil_append, sR, hapE, En.enc, ge_iff_le, d3, d5, c1, c2]))
      all_goals clear c1 c2
      all_goals first
        | (suffices ej : setL R s = [ent6 R s 0] by rw [ej]; exact ⟨_, _, rfl, .inr ⟨4, rfl, by simp, rfl⟩⟩
           refine es0.trans ?_; simp only [*, Bool.true_or, Bool.false_or, Bool.or_true, Bool.or_false, Bool.true_and, Bool.false_and, Bool.and_true, Bool.and_false, Bool.not_true, Bool.not_false, Bool.false_eq_true, Bool.true_eq_false, if_true, if_false]; done)
        | (suffices ej : setL R s = [⟨R.name, R.next, 2, s.name, nickU R s.name, em, em, em, 2⟩, ent6 R s 1] by
             rw [ej, hnk]
             exact ⟨_, _, rfl, .inr ⟨4, by rw [e2]; rfl, by simp, rfl⟩⟩
           refine es0.trans ?_; simp only [*, Bool.true_or, Bool.false_or, Bool.or_true, Bool.or_false, Bool.true_and, Bool.false_and, Bool.and_true, Bool.and_false, Bool.not_true, Bool.not_false, Bool.false_eq_true, Bool.true_eq_false, if_true, if_false]; done)
        | (suffices ej : setL R s = [ent6 R s 0, ⟨R.name, IntKind.i64.wrap (R.next + ((1 : Nat) : Int)), 5, s.name, nickU R s.name, em, em, em, 3⟩] by
             rw [ej, hnk]
             exact ⟨_, _, rfl, .inr ⟨4, rfl, by simp, rfl⟩⟩
           refine es0.trans ?_; simp only [*, Bool.true_or, Bool.false_or, Bool.or_true, Bool.or_false, Bool.true_and, Bool.false_and, Bool.and_true, Bool.and_false, Bool.not_true, Bool.not_false, Bool.false_eq_true, Bool.true_eq_false, if_true, if_false]; done)
        | (exfalso
           simp only [beq_iff_eq, beq_eq_false_iff_ne, decide_eq_true_eq, decide_eq_false_iff_not] at *
           omega)
        | trace_state
end Go.Proofs.YtmacpgoclhgafaaGreatDoorW.FA

namespace Go.Proofs.YtmacpgoclhgafaaGreatDoorW.FA
open Go.RowKit Go.Proofs.YtmacpgoclhgafaaGreatDoorW.XM Go.Proofs Go.Proofs.YtmacpgoclhgafaaGreatDoorW.XWords
set_option maxRecDepth 100000
set_option linter.unusedSimpArgs false
set_option linter.unusedVariables false
variable (w0 : World) (H : Hp)
theorem OutAt.shift {H : Hp} {n : Nat} {G g : List (Option Ob)} {o : Value} {es : List En} (h : OutAt H (n + G.length) g o es) : OutAt H n (G ++ g) o es := by
  rcases h with h | ⟨k, a, b, c⟩
  · exact .inl h
  · exact .inr ⟨G.length + k, by rw [List.getElem?_append_right (by omega), Nat.add_sub_cancel_left]; exact a, b, by rw [c, Nat.add_assoc]⟩
/-- How far a deed is, in whatever order its boxes were laid down. -/
def CutD (w0 : World) (H : Hp) (l : List (Option Ob)) (p : Nat) (R : Rm) (x : Ad) (es : List En) (A : Option Addr) (c : Nat) (u : ByteArray) (s : Sy) (T : Ts) (H' : Hp) : Prop := ∃ (G : List (Option Ob)) (i j : Nat), G.length = 2 ∧ G[i]? = some (some (.row 26 (R.enc x))) ∧ G[j]? = some (some (.row 29 s.enc)) ∧ T 0 = .pointer (some ⟨nid H p, 0, some 18⟩) ∧ T 3 = .pointer (some ⟨nid H (l.length + i), 0, some 5⟩) ∧ T 4 = .pointer (some ⟨nid H (l.length + j), 0, some 10⟩) ∧ H' = Hx H (l.set p (dd R x A es.length c u s (.slice none 0 0)) ++ G)
set_option maxHeartbeats 20000000 in
theorem ddo_ok (l : List (Option Ob)) (p : Nat) (R : Rm) (x : Ad) (es : List En) (A : Option Addr) (c : Nat) (u : ByteArray) (s : Sy) (hp : l[p]? = some (dd R x A es.length c u s (.slice none 0 0))) (hr : RmAt w0 H R x) (hs : Sl w0 H A 9 (es.map En.enc)) (hle : es.length ≤ 2000000) (hq : ∀ m ∈ R.ms, nickU R m.user = m.nick) (hro : ∀ m ∈ R.ms, 1 ≤ m.role) (hn : 0 ≤ R.next ∧ R.next ≤ 9999) (hk : 6 ≤ s.kind ∧ s.kind ≤ 11) : AFn Tryz.prog w0 28 #[.pointer (some ⟨nid H p, 0, some 18⟩)] (Hx H l) fun v H2 => v = .int .i64 (doR R es u s).2 ∧ ∃ g o, H2 = Hx H (l.set p (dd R x A es.length c u s o) ++ g) ∧ OutAt H l.length g o (doR R es u s).1 := by
  have hl := hr.lm
  have hp0 := hp
  have hlp := lt_of_get hp
  have e : Hx H l = Hx H (l.set p (dd R x A es.length c u s (.slice none 0 0))) := by conv => lhs; rw [set_same hp, List.append_nil]
  rw [e]
  obtain ⟨sA, gQ, gR, gR0, sR, sR0⟩ := dset hlp
  have gs : ∀ X : Option Ob, (l.set p X)[p]? = some X := fun X => by rw [List.getElem?_set_self hlp]
  have hb : ∀ (g : List (Option Ob)) (Y : Option Ob) (r : List (Option Ob)), (g ++ Y :: r)[g.length]? = some Y := fun g Y r => by rw [List.getElem?_append_right (Nat.le_refl _)]; simp
  have gi : ∀ (g r : List (Option Ob)) (k : Nat), (g ++ r)[g.length + k]? = r[k]? := fun g r k => by rw [List.getElem?_append_right (by omega)]; simp
  have si0 : ∀ (g r : List (Option Ob)) (Z : Option Ob), (g ++ r).set g.length Z = g ++ r.set 0 Z := fun g r Z => by rw [List.set_append_right _ _ (by omega)]; simp
  have e2 : IntKind.i64.wrap (R.next + ((0 : Nat) : Int)) = R.next := by rw [wrap_i64 (by omega) (by omega)]; omega
  obtain ⟨xa, xc, xb, xd⟩ := x
  refine AFn_of Tryz.func28 rfl (by kernel_rfl) ?_
  have r := Tryz.results28
  have e0 : doR R es u s = if 9999 < IntKind.i64.wrap (R.next + 3) then ([], 5) else if (s.kind == 6) = true then joinR R u s.nick else if idxP (isU u) R.ms 0 < 0 then ([], 2) else insR R es u s := rfl
  simp only [go_sem, cond, Nat.reduceAdd, Nat.reduceLeDiff, Nat.reduceEqDiff, Nat.reduceBEq, decide_true, decide_false, Int.toNat_natCast, r, sA, gQ, gR, gR0, sR, sR0, hb, gi, si0, Rm.enc, dd, deedC, Nat.add_zero, List.set_cons_zero, List.set_cons_succ, List.set_set, List.append_assoc, List.length_append, List.length_set, List.singleton_append, List.cons_append, List.nil_append, gs]
  (refine xw_treeC (id := 1) [0, 1, 3, 7, 0, 16, 48, 112, 0, 0, 783, 2047] (.q 0 (.q 1 (.q 2 (.q 4 (.q 5 (.q 6 (.l 3 (.l 7 (.b 8 (.e 9 (.d 3 (.e 10 (.d 7 (.e 11 .z))))) 9 (.e 8 (.d 3 (.e 10 (.d 7 (.e 11 .z)))))))))))))) rfl (by kernel_rfl) (CutD w0 H l p R ⟨xa, xc, xb, xd⟩ es A c u s) ?_ ?_)
  · simp only [go_sem, cond, Nat.reduceAdd, Nat.reduceLeDiff, Nat.reduceEqDiff, Nat.reduceBEq, decide_true, decide_false, Int.toNat_natCast, r, sA, gQ, gR, gR0, sR, sR0, hb, gi, si0, Rm.enc, dd, deedC, Nat.add_zero, List.set_cons_zero, List.set_cons_succ, List.set_set, List.append_assoc, List.length_append, List.length_set, List.singleton_append, List.cons_append, List.nil_append, gs]
    repeat' (refine Both_intro ?_ ?_ <;> simp only [go_sem, cond, Nat.reduceAdd, Nat.reduceLeDiff, Nat.reduceEqDiff, Nat.reduceBEq, decide_true, decide_false, Int.toNat_natCast, r, sA, gQ, gR, gR0, sR, sR0, hb, gi, si0, Rm.enc, dd, deedC, Nat.add_zero, List.set_cons_zero, List.set_cons_succ, List.set_set, List.append_assoc, List.length_append, List.length_set, List.singleton_append, List.cons_append, List.nil_append, gs])
    all_goals first
      | exact ⟨_, 0, 1, rfl, rfl, rfl, rfl, rfl, rfl, rfl⟩
      | exact ⟨_, 1, 0, rfl, rfl, rfl, rfl, rfl, rfl, rfl⟩
  rintro T H' ⟨G, gx, gy, hG, gx1, gy1, t0, t3, t4, rfl⟩
  simp only [Rm.enc] at gx1
  simp only [Sy.enc] at gy1
  have gx2 : ∀ Y, (G ++ Y)[gx]? = G[gx]? := fun Y => List.getElem?_append_left (lt_of_get gx1)
  have gy2 : ∀ Y, (G ++ Y)[gy]? = G[gy]? := fun Y => List.getElem?_append_left (lt_of_get gy1)
  have g22 : ∀ (Y : Option Ob) (r : List (Option Ob)), (G ++ Y :: r)[2]? = some Y := fun Y r => by rw [← hG]; exact hb _ _ _
  have s22 : ∀ (Y Z : Option Ob) (r : List (Option Ob)), (G ++ Y :: r).set 2 Z = G ++ Z :: r := fun Y Z r => by rw [← hG, si0]; rfl
  simp only [go_sem, cond, Nat.reduceAdd, Nat.reduceLeDiff, Nat.reduceEqDiff, Nat.reduceBEq, decide_true, decide_false, Int.toNat_natCast, r, sA, gQ, gR, gR0, sR, sR0, hb, gi, si0, Rm.enc, dd, deedC, Nat.add_zero, List.set_cons_zero, List.set_cons_succ, List.set_set, List.append_assoc, List.length_append, List.length_set, List.singleton_append, List.cons_append, List.nil_append, gs, t0, t3, t4, gx1, gy1, gx2, gy2, g22, s22, hG, gt_iff_lt]
  refine Br_intro ?_ ?_ <;> intro h1 <;> simp only [go_sem, cond, Nat.reduceAdd, Nat.reduceLeDiff, Nat.reduceEqDiff, Nat.reduceBEq, decide_true, decide_false, Int.toNat_natCast, r, sA, gQ, gR, gR0, sR, sR0, hb, gi, si0, Rm.enc, dd, deedC, Nat.add_zero, List.set_cons_zero, List.set_cons_succ, List.set_set, List.append_assoc, List.length_append, List.length_set, List.singleton_append, List.cons_append, List.nil_append, gs, t0, t3, t4, gx1, gy1, gx2, gy2, g22, s22, hG, gt_iff_lt, h1]
  · rw [e0, if_pos (of_decide_eq_true h1)]
    exact ⟨rfl, _, _, rfl, .inl ⟨rfl, rfl⟩⟩
  rw [if_neg (of_decide_eq_false h1)] at e0
  refine Br_intro ?_ ?_ <;> intro h5 <;> simp only [go_sem, cond, Nat.reduceAdd, Nat.reduceLeDiff, Nat.reduceEqDiff, Nat.reduceBEq, decide_true, decide_false, Int.toNat_natCast, r, sA, gQ, gR, gR0, sR, sR0, hb, gi, si0, Rm.enc, dd, deedC, Nat.add_zero, List.set_cons_zero, List.set_cons_succ, List.set_set, List.append_assoc, List.length_append, List.length_set, List.singleton_append, List.cons_append, List.nil_append, gs, t0, t3, t4, gx1, gy1, gx2, gy2, g22, s22, hG, gt_iff_lt, h5]
  · rw [if_pos h5] at e0
    refine call (djoin_ok w0 H _ p R ⟨xa, xc, xb, xd⟩ es A c u s (gQ _ _) hr) ?_
    rintro v H2 ⟨rfl, g, o, rfl, ho⟩
    simp only [go_sem, cond, Nat.reduceAdd, Nat.reduceLeDiff, Nat.reduceEqDiff, Nat.reduceBEq, decide_true, decide_false, Int.toNat_natCast, r, sA, gQ, gR, gR0, sR, sR0, hb, gi, si0, Rm.enc, dd, deedC, Nat.add_zero, List.set_cons_zero, List.set_cons_succ, List.set_set, List.append_assoc, List.length_append, List.length_set, List.singleton_append, List.cons_append, List.nil_append, gs, t0, t3, t4, gx1, gy1, gx2, gy2, g22, s22, hG, gt_iff_lt]
    rw [e0]
    first
      | exact ⟨rfl, _, _, rfl, OutAt.shift (by simpa [hG] using ho)⟩
      | exact ⟨_, _, rfl, OutAt.shift (by simpa [hG] using ho)⟩
  rw [if_neg (by rw [h5]; decide)] at e0
  (refine xw_open (id := 6) [0, 0, 2, 6, 14, 31, 63] [.q 1, .q 2, .q 3, .q 0, .q 4, .e 5, .q 6] rfl (by kernel_rfl) ?_; simp only [go_sem, cond, Nat.reduceAdd, Nat.reduceLeDiff, Nat.reduceEqDiff, Nat.reduceBEq, decide_true, decide_false, Int.toNat_natCast, r, sA, gQ, gR, gR0, sR, sR0, hb, gi, si0, Rm.enc, dd, deedC, Nat.add_zero, List.set_cons_zero, List.set_cons_succ, List.set_set, List.append_assoc, List.length_append, List.length_set, List.singleton_append, List.cons_append, List.nil_append, gs, t0, t3, t4, gx1, gy1, gx2, gy2, g22, s22, hG, gt_iff_lt])
  refine call_eq (member_ok _ _ R _ _ (hr.old _)) ?_
  rcases idxP_find (isU u) R.ms 0 with ⟨f1, f2⟩ | ⟨a, ha, f1, f2⟩
  · rw [f1]
    have d3 : ((-1 : Int) < 0) = True := eq_true (by omega)
    simp only [go_sem, cond, Nat.reduceAdd, Nat.reduceLeDiff, Nat.reduceEqDiff, Nat.reduceBEq, decide_true, decide_false, Int.toNat_natCast, r, sA, gQ, gR, gR0, sR, sR0, hb, gi, si0, Rm.enc, dd, deedC, Nat.add_zero, List.set_cons_zero, List.set_cons_succ, List.set_set, List.append_assoc, List.length_append, List.length_set, List.singleton_append, List.cons_append, List.nil_append, gs, t0, t3, t4, gx1, gy1, gx2, gy2, g22, s22, hG, gt_iff_lt, d3]
    rw [f1, if_pos (by omega)] at e0
    rw [e0]
    exact ⟨rfl, _, _, rfl, .inl ⟨rfl, rfl⟩⟩
  rw [Nat.zero_add] at f1
  rw [f1] at e0 ⊢
  rw [if_neg (by omega)] at e0
  obtain ⟨b2, o2, sp2, hA, hc2, hw2⟩ := mcell hr.sm ha
  cases hA
  have d3 : ((a : Int) < 0) = False := eq_false (by omega)
  have d4 : ((0 : Int) ≤ (a : Int)) = True := eq_true (by omega)
  have d5 : ((a : Int) < (R.ms.length : Int)) = True := eq_true (by omega)
  have c1 := fun L => hw2 L rfl
  simp only [Mem.enc] at c1
  have hmu0 := List.find?_some f2
  have hmu : R.ms[a].user = u := ba_ext (eq_of_beq (show (R.ms[a].user.toList == u.toList) = true from hmu0))
  have hnk : nickU R u = R.ms[a].nick := by rw [nickU, f2]; rfl
  have hr1 : decide (R.ms[a].role < 2) = (R.ms[a].role == 1) := by
    have := hro _ (List.getElem_mem ha)
    rw [Bool.eq_iff_iff, decide_eq_true_eq, beq_iff_eq]; omega
  have e3 : doR R es u s = if (s.kind == 7) = true then ([leaveE R u], 0) else if (s.kind == 8) = true then (if (R.ms[a].role == 1) = true then ([], 7) else if (!(s.ref.toList == (ByteArray.mk #[]).toList) && !(es.any (saidP R.name u s.ref))) = true then ([], 10) else ([talkE R u s], 0)) else if (s.kind == 9) = true then (if (R.ms[a].role == 3) = false then ([], 7) else ([subjE R u s], 0)) else if (s.kind == 10) = true then roleR R u s else setR R u s := by
    rw [e0]
    simp only [insR, f2, ← hr1, decide_eq_true_eq]
  have hmr : (R.ms[a].role == 3) = false → roleR R u s = ([], 7) := fun h => by simp only [roleR, f2, h, if_true]
  clear e0
  have g25 : ∀ (a b c d : Option Ob) (r : List (Option Ob)), (G ++ a :: b :: c :: d :: r)[5]? = some d := fun a b c d r => by rw [List.getElem?_append_right (by omega), hG]; rfl
  simp only [go_sem, cond, Nat.reduceAdd, Nat.reduceLeDiff, Nat.reduceEqDiff, Nat.reduceBEq, decide_true, decide_false, Int.toNat_natCast, r, sA, gQ, gR, gR0, sR, sR0, hb, gi, si0, Rm.enc, dd, deedC, Nat.add_zero, List.set_cons_zero, List.set_cons_succ, List.set_set, List.append_assoc, List.length_append, List.length_set, List.singleton_append, List.cons_append, List.nil_append, gs, t0, t3, t4, gx1, gy1, gx2, gy2, g22, s22, hG, gt_iff_lt, d3, d4, d5, c1, hmu]
  repeat' (first
    | (refine Br_intro ?_ ?_ <;> intro h2 <;> simp only [go_sem, cond, Nat.reduceAdd, Nat.reduceLeDiff, Nat.reduceEqDiff, Nat.reduceBEq, decide_true, decide_false, Int.toNat_natCast, r, sA, gQ, gR, gR0, sR, sR0, hb, gi, si0, Rm.enc, dd, deedC, Nat.add_zero, List.set_cons_zero, List.set_cons_succ, List.set_set, List.append_assoc, List.length_append, List.length_set, List.singleton_append, List.cons_append, List.nil_append, gs, t0, t3, t4, gx1, gy1, gx2, gy2, g22, s22, hG, gt_iff_lt, d3, d4, d5, c1, h2])
    | (refine call_eq (said_ok w0 H _ p R ⟨some ⟨b2, o2, sp2⟩, xc, xb, xd⟩ es A c u s (.slice none 0 0) s.ref (gQ _ _) hs hle) ?_; simp only [go_sem, cond, Nat.reduceAdd, Nat.reduceLeDiff, Nat.reduceEqDiff, Nat.reduceBEq, decide_true, decide_false, Int.toNat_natCast, r, sA, gQ, gR, gR0, sR, sR0, hb, gi, si0, Rm.enc, dd, deedC, Nat.add_zero, List.set_cons_zero, List.set_cons_succ, List.set_set, List.append_assoc, List.length_append, List.length_set, List.singleton_append, List.cons_append, List.nil_append, gs, t0, t3, t4, gx1, gy1, gx2, gy2, g22, s22, hG, gt_iff_lt, d3, d4, d5, c1])
    | (refine call_eq (happens0_ok w0 H _ p R ⟨some ⟨b2, o2, sp2⟩, xc, xb, xd⟩ A es.length c u s ⟨em, 0, _, _, _, _, _, _, _⟩ (gQ _ _)) ?_; simp only [go_sem, cond, Nat.reduceAdd, Nat.reduceLeDiff, Nat.reduceEqDiff, Nat.reduceBEq, decide_true, decide_false, Int.toNat_natCast, r, sA, gQ, gR, gR0, sR, sR0, hb, gi, si0, Rm.enc, dd, deedC, Nat.add_zero, List.set_cons_zero, List.set_cons_succ, List.set_set, List.append_assoc, List.length_append, List.length_set, List.singleton_append, List.cons_append, List.nil_append, gs, t0, t3, t4, gx1, gy1, gx2, gy2, g22, s22, hG, gt_iff_lt, hapE, En.enc])
    | (refine call (drole_ok w0 H _ p R ⟨some ⟨b2, o2, sp2⟩, xc, xb, xd⟩ es A c u s (gQ _ _) hr R.ms[a] f2 (by assumption) hq hn) ?_; rintro v H2 ⟨rfl, g, o, rfl, ho⟩; simp only [go_sem, cond, Nat.reduceAdd, Nat.reduceLeDiff, Nat.reduceEqDiff, Nat.reduceBEq, decide_true, decide_false, Int.toNat_natCast, r, sA, gQ, gR, gR0, sR, sR0, hb, gi, si0, Rm.enc, dd, deedC, Nat.add_zero, List.set_cons_zero, List.set_cons_succ, List.set_set, List.append_assoc, List.length_append, List.length_set, List.singleton_append, List.cons_append, List.nil_append, gs, t0, t3, t4, gx1, gy1, gx2, gy2, g22, s22, hG, gt_iff_lt])
    | (refine call (drank_ok w0 H _ p R ⟨some ⟨b2, o2, sp2⟩, xc, xb, xd⟩ es A c u s (gQ _ _) hr hn) ?_; rintro v H2 ⟨rfl, g, o, rfl, ho⟩; simp only [go_sem, cond, Nat.reduceAdd, Nat.reduceLeDiff, Nat.reduceEqDiff, Nat.reduceBEq, decide_true, decide_false, Int.toNat_natCast, r, sA, gQ, gR, gR0, sR, sR0, hb, gi, si0, Rm.enc, dd, deedC, Nat.add_zero, List.set_cons_zero, List.set_cons_succ, List.set_set, List.append_assoc, List.length_append, List.length_set, List.singleton_append, List.cons_append, List.nil_append, gs, t0, t3, t4, gx1, gy1, gx2, gy2, g22, s22, hG, gt_iff_lt]))
  all_goals clear c1 hw2 hc2 t0 t3 t4 gx1 gy1 gx2 gy2 g22 s22 hp e d3 d4 d5 hs
  all_goals first
    | (exfalso
       simp only [beq_iff_eq, beq_eq_false_iff_ne] at *
       omega)
    | (suffices ej : doR R es u s = ([], 7) by rw [ej]; exact ⟨rfl, _, _, rfl, .inl ⟨rfl, rfl⟩⟩
       have hmr2 := hmr (by assumption)
       have h9 : s.kind = 9 ∨ s.kind = 10 := by simp only [beq_iff_eq, beq_eq_false_iff_ne] at *; omega
       refine e3.trans ?_
       rcases h9 with h9 | h9 <;> (simp only [h9, hmr2, Int.reduceBEq, Bool.true_or, Bool.false_or, Bool.or_true, Bool.or_false, Bool.true_and, Bool.false_and, Bool.and_true, Bool.and_false, Bool.not_true, Bool.not_false, Bool.false_eq_true, Bool.true_eq_false, if_true, if_false]; first | done | (rw [if_pos (by assumption)]; done))
       done)
    | (suffices ej : doR R es u s = ([], 7) by rw [ej]; exact ⟨rfl, _, _, rfl, .inl ⟨rfl, rfl⟩⟩
       refine e3.trans ?_; simp only [*, Bool.true_or, Bool.false_or, Bool.or_true, Bool.or_false, Bool.true_and, Bool.false_and, Bool.and_true, Bool.and_false, Bool.not_true, Bool.not_false, Bool.false_eq_true, Bool.true_eq_false, if_true, if_false]; done)
    | (suffices ej : doR R es u s = ([], 10) by rw [ej]; exact ⟨rfl, _, _, rfl, .inl ⟨rfl, rfl⟩⟩
       refine e3.trans ?_; simp only [*, Bool.true_or, Bool.false_or, Bool.or_true, Bool.or_false, Bool.true_and, Bool.false_and, Bool.and_true, Bool.and_false, Bool.not_true, Bool.not_false, Bool.false_eq_true, Bool.true_eq_false, if_true, if_false]; done)
    | (suffices ej : doR R es u s = ([leaveE R u], 0) by
         rw [ej]; exact ⟨rfl, _, _, rfl, .inr ⟨5, by rw [g25, e2]; unfold leaveE; rw [hnk]; rfl, by simp, rfl⟩⟩
       refine e3.trans ?_; simp only [*, Bool.true_or, Bool.false_or, Bool.or_true, Bool.or_false, Bool.true_and, Bool.false_and, Bool.and_true, Bool.and_false, Bool.not_true, Bool.not_false, Bool.false_eq_true, Bool.true_eq_false, if_true, if_false]; done)
    | (suffices ej : doR R es u s = ([talkE R u s], 0) by
         rw [ej]; exact ⟨rfl, _, _, rfl, .inr ⟨5, by rw [g25, e2]; unfold talkE; rw [hnk]; rfl, by simp, rfl⟩⟩
       refine e3.trans ?_; simp only [*, Bool.true_or, Bool.false_or, Bool.or_true, Bool.or_false, Bool.true_and, Bool.false_and, Bool.and_true, Bool.and_false, Bool.not_true, Bool.not_false, Bool.false_eq_true, Bool.true_eq_false, if_true, if_false]; done)
    | (suffices ej : doR R es u s = ([subjE R u s], 0) by
         rw [ej]; exact ⟨rfl, _, _, rfl, .inr ⟨5, by rw [g25, e2]; unfold subjE; rw [hnk]; rfl, by simp, rfl⟩⟩
       refine e3.trans ?_; simp only [*, Bool.true_or, Bool.false_or, Bool.or_true, Bool.or_false, Bool.true_and, Bool.false_and, Bool.and_true, Bool.and_false, Bool.not_true, Bool.not_false, Bool.false_eq_true, Bool.true_eq_false, if_true, if_false]; done)
    | (suffices ej : doR R es u s = setR R u s by
         rw [ej]; exact ⟨rfl, _, _, rfl, by rw [List.append_cons]; exact OutAt.shift (by simpa [hG] using ho)⟩
       have h10 : s.kind = 11 := by simp only [beq_iff_eq, beq_eq_false_iff_ne] at *; omega
       refine e3.trans ?_; simp only [h10, Int.reduceBEq, Bool.true_or, Bool.false_or, Bool.or_true, Bool.or_false, Bool.true_and, Bool.false_and, Bool.and_true, Bool.and_false, Bool.not_true, Bool.not_false, Bool.false_eq_true, Bool.true_eq_false, if_true, if_false]; done)
    | (suffices ej : doR R es u s = roleR R u s by
         rw [ej]; exact ⟨rfl, _, _, rfl, by rw [List.append_cons]; exact OutAt.shift (by simpa [hG] using ho)⟩
       have h10 : s.kind = 10 := by simp only [beq_iff_eq, beq_eq_false_iff_ne] at *; omega
       refine e3.trans ?_; simp only [h10, Int.reduceBEq, Bool.true_or, Bool.false_or, Bool.or_true, Bool.or_false, Bool.true_and, Bool.false_and, Bool.and_true, Bool.and_false, Bool.not_true, Bool.not_false, Bool.false_eq_true, Bool.true_eq_false, if_true, if_false]; done)
    | trace_state
end Go.Proofs.YtmacpgoclhgafaaGreatDoorW.FA

namespace Go.Proofs.YtmacpgoclhgafaaGreatDoorW.FA
open Go.RowKit Go.Proofs.YtmacpgoclhgafaaGreatDoorW.XM Go.Proofs Go.Proofs.YtmacpgoclhgafaaGreatDoorW.XWords
set_option maxRecDepth 100000
set_option linter.unusedSimpArgs false
set_option linter.unusedVariables false
variable (w0 : World) (H : Hp)
def eqS (s t : Sy) : Bool := (s.kind == t.kind) && ((s.room.toList == t.room.toList) && ((s.nick.toList == t.nick.toList) && ((s.name.toList == t.name.toList) && ((s.id.toList == t.id.toList) && ((s.ref.toList == t.ref.toList) && ((s.text.toList == t.text.toList) && ((s.num == t.num) && ((s.frm == t.frm) && ((s.back == t.back) && true)))))))))
theorem eqS_comm (s t : Sy) : eqS s t = eqS t s := by
  unfold eqS
  simp only [Bool.beq_comm, BEq.comm]
/-- What is said has nothing but what its kind has. -/
def xS (s : Sy) : Bool := eqS s (cleanS s)
def restS (s : Sy) : Bool :=
  if (s.kind == 1) = true then userB s.name && wordB s.text
  else if (s.kind == 2) = true then true
  else if (s.kind == 4) = true then true
  else if (s.kind == 7) = true then true
  else if (s.kind == 3) = true then inB s.num 0 255
  else if (s.kind == 5) = true then wordB s.ref && inB s.num 0 255
  else if (s.kind == 6) = true then nickB s.nick
  else if (s.kind == 8) = true then bodyB s.text && orB wordB s.ref
  else if (s.kind == 9) = true then bodyB s.text
  else if (s.kind == 10) = true then nickB s.nick && inB s.num 0 3
  else if (s.kind == 11) = true then userB s.name && inB s.num 0 4
  else if (s.kind == 12) = true then orB userB s.name && (inB s.num 1 4 && (inB s.frm (-1) 9999 && (inB s.back (-1) 9999 && (decide (s.frm < 0) || decide (s.back < 0)))))
  else false
def sayB (s : Sy) : Bool := xS s && ((!decide (6 ≤ s.kind) || userB s.room) && ((!decide (8 ≤ s.kind) || wordB s.id) && restS s))
structure BigS (s : Sy) : Prop where
  rm : s.room.size ≤ 1000000000000
  ni : s.nick.size ≤ 1000000000000
  na : s.name.size ≤ 1000000000000
  id : s.id.size ≤ 1000000000000
  rf : s.ref.size ≤ 1000000000000
  tx : s.text.size ≤ 1000000000000
theorem bareS_ok (s : Sy) : AFn Tryz.prog w0 53 #[.agg s.enc.toArray] H fun v H2 => v = .agg (cleanS s).enc.toArray ∧ H2 = H := by
  refine AFn.scal rfl Tryz.func53 rfl (by kernel_rfl) ?_
  have r := Tryz.results53
  simp only [go_sem, cond, Nat.reduceAdd, Nat.reduceLeDiff, Nat.reduceEqDiff, Nat.reduceBEq, decide_true, decide_false, Int.toNat_natCast, r]
  simp only [go_sem, cond, Nat.reduceAdd, Nat.reduceLeDiff, Nat.reduceEqDiff, Nat.reduceBEq, decide_true, decide_false, Int.toNat_natCast, Sy.enc, r]
  repeat' (first
    | (refine Br_intro ?_ ?_ <;> intro h <;> simp only [go_sem, cond, Nat.reduceAdd, Nat.reduceLeDiff, Nat.reduceEqDiff, Nat.reduceBEq, decide_true, decide_false, Int.toNat_natCast, h, r])
    | ((refine xw_open (id := 4) [0, 1, 0, 4, 3, 19, 63, 127] [.q 0, .q 2, .q 1, .q 4, .l 3, .e 5, .d 3, .q 6, .e 7] rfl (by kernel_rfl) ?_; simp only [go_sem, cond, Nat.reduceAdd, Nat.reduceLeDiff, Nat.reduceEqDiff, Nat.reduceBEq, decide_true, decide_false, Int.toNat_natCast, r]))
    | ((refine xw_open (id := 8) [0, 1, 0, 4, 3, 19, 63, 127] [.q 0, .q 2, .q 1, .q 4, .l 3, .e 5, .d 3, .q 6, .e 7] rfl (by kernel_rfl) ?_; simp only [go_sem, cond, Nat.reduceAdd, Nat.reduceLeDiff, Nat.reduceEqDiff, Nat.reduceBEq, decide_true, decide_false, Int.toNat_natCast, r]))
    | ((refine xw_open (id := 10) [0, 1, 0, 4, 3, 19, 63, 127] [.q 0, .q 2, .q 1, .q 4, .l 3, .e 5, .d 3, .q 6, .e 7] rfl (by kernel_rfl) ?_; simp only [go_sem, cond, Nat.reduceAdd, Nat.reduceLeDiff, Nat.reduceEqDiff, Nat.reduceBEq, decide_true, decide_false, Int.toNat_natCast, r]))
    | ((refine xw_open (id := 14) [0, 1, 0, 4, 0, 16, 0, 64, 3, 259, 783, 1807, 3903, 7999, 16383, 32767] [.q 0, .q 2, .q 4, .q 6, .q 1, .q 8, .l 3, .l 5, .l 7, .e 9, .d 3, .q 10, .e 11, .d 5, .q 12, .e 13, .d 7, .q 14, .e 15] rfl (by kernel_rfl) ?_; simp only [go_sem, cond, Nat.reduceAdd, Nat.reduceLeDiff, Nat.reduceEqDiff, Nat.reduceBEq, decide_true, decide_false, Int.toNat_natCast, r]))
    | ((refine xw_open (id := 16) [0, 1, 0, 4, 0, 16, 3, 67, 207, 463, 1023, 2047] [.q 0, .q 2, .q 4, .q 1, .q 6, .l 3, .l 5, .e 7, .d 3, .q 8, .e 9, .d 5, .q 10, .e 11] rfl (by kernel_rfl) ?_; simp only [go_sem, cond, Nat.reduceAdd, Nat.reduceLeDiff, Nat.reduceEqDiff, Nat.reduceBEq, decide_true, decide_false, Int.toNat_natCast, r]))
    | ((refine xw_open (id := 18) [0, 1, 0, 4, 0, 16, 0, 64, 3, 259, 783, 1807, 3903, 7999, 16383, 32767] [.q 0, .q 2, .q 4, .q 6, .q 1, .q 8, .l 3, .l 5, .l 7, .e 9, .d 3, .q 10, .e 11, .d 5, .q 12, .e 13, .d 7, .q 14, .e 15] rfl (by kernel_rfl) ?_; simp only [go_sem, cond, Nat.reduceAdd, Nat.reduceLeDiff, Nat.reduceEqDiff, Nat.reduceBEq, decide_true, decide_false, Int.toNat_natCast, r]))
    | ((refine xw_open (id := 20) [0, 1, 0, 4, 0, 16, 0, 64, 3, 259, 783, 1807, 3903, 7999, 16383, 32767] [.q 0, .q 2, .q 4, .q 6, .q 1, .q 8, .l 3, .l 5, .l 7, .e 9, .d 3, .q 10, .e 11, .d 5, .q 12, .e 13, .d 7, .q 14, .e 15] rfl (by kernel_rfl) ?_; simp only [go_sem, cond, Nat.reduceAdd, Nat.reduceLeDiff, Nat.reduceEqDiff, Nat.reduceBEq, decide_true, decide_false, Int.toNat_natCast, r]))
    | ((refine xw_open (id := 22) [0, 1, 0, 4, 0, 16, 0, 64, 0, 256, 0, 1024, 3, 4099, 12303, 28687, 61503, 127039, 258303, 520447, 1045503, 2094079, 4194303, 8388607] [.q 0, .q 2, .q 4, .q 6, .q 8, .q 10, .q 1, .q 12, .l 3, .l 5, .l 7, .l 9, .l 11, .e 13, .d 3, .q 14, .e 15, .d 5, .q 16, .e 17, .d 7, .q 18, .e 19, .d 9, .q 20, .e 21, .d 11, .q 22, .e 23] rfl (by kernel_rfl) ?_; simp only [go_sem, cond, Nat.reduceAdd, Nat.reduceLeDiff, Nat.reduceEqDiff, Nat.reduceBEq, decide_true, decide_false, Int.toNat_natCast, r])))
  all_goals first
    | exact ⟨by simp only [cleanS, *]; rfl, _, rfl⟩
    | (exfalso
       simp only [beq_iff_eq, beq_eq_false_iff_ne] at *
       omega)
    | trace_state
theorem count_ok (n : Int) : AFn Tryz.prog w0 55 #[.int .i64 n] H fun v H2 => v = .bool (inB n 0 255) ∧ H2 = H := by
  refine AFn.scal rfl Tryz.func55 rfl (by kernel_rfl) ?_
  have r := Tryz.results55
  simp only [go_sem, cond, Nat.reduceAdd, Nat.reduceLeDiff, Nat.reduceEqDiff, Nat.reduceBEq, decide_true, decide_false, Int.toNat_natCast, r]
  refine call_eq (within_ok _ _ _ _ _) ?_
  simp only [go_sem, cond, Nat.reduceAdd, Nat.reduceLeDiff, Nat.reduceEqDiff, Nat.reduceBEq, decide_true, decide_false, Int.toNat_natCast, r]
  exact ⟨_, rfl⟩
end Go.Proofs.YtmacpgoclhgafaaGreatDoorW.FA

namespace Go.Proofs.YtmacpgoclhgafaaGreatDoorW.FA
open Go.RowKit Go.Proofs.YtmacpgoclhgafaaGreatDoorW.XM Go.Proofs Go.Proofs.YtmacpgoclhgafaaGreatDoorW.XWords
set_option maxRecDepth 100000
set_option linter.unusedSimpArgs false
set_option linter.unusedVariables false
variable (w0 : World) (H : Hp)
theorem minB {a b : Int} (ha : inB a (-1) 9999 = true) (hb : inB b (-1) 9999 = true) : ((if b < a then b else a) == -1) = (decide (a < 0) || decide (b < 0)) := by
  simp only [inB, Bool.and_eq_true, decide_eq_true_eq] at ha hb
  rw [Bool.eq_iff_iff]
  simp only [beq_iff_eq, Bool.or_eq_true, decide_eq_true_eq]
  split <;> omega
set_option maxHeartbeats 20000000 in
theorem SayOk_ok (s : Sy) (hT : Tabs w0) (hb : BigS s) : AFn Tryz.prog w0 26 #[.agg s.enc.toArray] H fun v H2 => v = .bool (sayB s) ∧ H2 = H := by
  refine AFn.scal rfl Tryz.func26 rfl (by kernel_rfl) ?_
  have r := Tryz.results26
  simp only [go_sem, cond, Nat.reduceAdd, Nat.reduceLeDiff, Nat.reduceEqDiff, Nat.reduceBEq, decide_true, decide_false, Int.toNat_natCast, r]
  simp only [go_sem, cond, Nat.reduceAdd, Nat.reduceLeDiff, Nat.reduceEqDiff, Nat.reduceBEq, decide_true, decide_false, Int.toNat_natCast, Sy.enc, r]
  (refine xw_open (id := 1) [0, 0, 2, 7, 15, 31, 63, 127, 255, 511, 1023, 2047, 4095, 8191, 16383, 32767, 65535, 131071, 262143, 524287, 1048575, 2097151, 4194303, 8388607, 16777215, 33554431] [.l 0, .q 1, .e 2, .d 0, .q 3, .q 4, .q 5, .q 6, .q 7, .q 8, .q 9, .q 10, .e 11, .q 12, .q 13, .q 14, .q 15, .q 16, .q 17, .q 18, .q 19, .q 20, .q 21, .e 22, .q 23, .q 24, .q 25] rfl (by kernel_rfl) ?_; simp only [go_sem, cond, Nat.reduceAdd, Nat.reduceLeDiff, Nat.reduceEqDiff, Nat.reduceBEq, decide_true, decide_false, Int.toNat_natCast, r])
  refine call_eq (bareS_ok _ _ s) ?_
  simp only [go_sem, cond, Nat.reduceAdd, Nat.reduceLeDiff, Nat.reduceEqDiff, Nat.reduceBEq, decide_true, decide_false, Int.toNat_natCast, r, Sy.enc]
  rw [show (s.kind == (cleanS s).kind && (s.room.toList == (cleanS s).room.toList && (s.nick.toList == (cleanS s).nick.toList && (s.name.toList == (cleanS s).name.toList && (s.id.toList == (cleanS s).id.toList && (s.ref.toList == (cleanS s).ref.toList && (s.text.toList == (cleanS s).text.toList && (s.num == (cleanS s).num && (s.frm == (cleanS s).frm && (s.back == (cleanS s).back && true)))))))))) = xS s from rfl]
  repeat' (first
    | (refine Br_intro ?_ ?_ <;> intro h <;> simp only [go_sem, cond, Nat.reduceAdd, Nat.reduceLeDiff, Nat.reduceEqDiff, Nat.reduceBEq, decide_true, decide_false, Int.toNat_natCast, h, r])
    | (refine call_eq (userOk_ok _ _ _ hb.rm) ?_; simp only [go_sem, cond, Nat.reduceAdd, Nat.reduceLeDiff, Nat.reduceEqDiff, Nat.reduceBEq, decide_true, decide_false, Int.toNat_natCast, r])
    | (refine call_eq (userOk_ok _ _ _ hb.na) ?_; simp only [go_sem, cond, Nat.reduceAdd, Nat.reduceLeDiff, Nat.reduceEqDiff, Nat.reduceBEq, decide_true, decide_false, Int.toNat_natCast, r])
    | (refine call_eq (nickOk_ok _ _ _ hT hb.ni) ?_; simp only [go_sem, cond, Nat.reduceAdd, Nat.reduceLeDiff, Nat.reduceEqDiff, Nat.reduceBEq, decide_true, decide_false, Int.toNat_natCast, r])
    | (refine call_eq (bodyOk_ok _ _ _ hT hb.tx) ?_; simp only [go_sem, cond, Nat.reduceAdd, Nat.reduceLeDiff, Nat.reduceEqDiff, Nat.reduceBEq, decide_true, decide_false, Int.toNat_natCast, r])
    | (refine call_eq (wordOk_ok _ _ _ hb.id) ?_; simp only [go_sem, cond, Nat.reduceAdd, Nat.reduceLeDiff, Nat.reduceEqDiff, Nat.reduceBEq, decide_true, decide_false, Int.toNat_natCast, r])
    | (refine call_eq (wordOk_ok _ _ _ hb.tx) ?_; simp only [go_sem, cond, Nat.reduceAdd, Nat.reduceLeDiff, Nat.reduceEqDiff, Nat.reduceBEq, decide_true, decide_false, Int.toNat_natCast, r])
    | (refine call_eq (wordOk_ok _ _ _ hb.rf) ?_; simp only [go_sem, cond, Nat.reduceAdd, Nat.reduceLeDiff, Nat.reduceEqDiff, Nat.reduceBEq, decide_true, decide_false, Int.toNat_natCast, r])
    | (refine call_eq (orEmpty_ok _ _ _ _ wordB (wordOk_ok _ _ _ hb.rf)) ?_; simp only [go_sem, cond, Nat.reduceAdd, Nat.reduceLeDiff, Nat.reduceEqDiff, Nat.reduceBEq, decide_true, decide_false, Int.toNat_natCast, r])
    | (refine call_eq (orEmpty_ok _ _ _ _ userB (userOk_ok _ _ _ hb.na)) ?_; simp only [go_sem, cond, Nat.reduceAdd, Nat.reduceLeDiff, Nat.reduceEqDiff, Nat.reduceBEq, decide_true, decide_false, Int.toNat_natCast, r])
    | (refine call_eq (count_ok _ _ _) ?_; simp only [go_sem, cond, Nat.reduceAdd, Nat.reduceLeDiff, Nat.reduceEqDiff, Nat.reduceBEq, decide_true, decide_false, Int.toNat_natCast, r])
    | (refine call_eq (within_ok _ _ _ _ _) ?_; simp only [go_sem, cond, Nat.reduceAdd, Nat.reduceLeDiff, Nat.reduceEqDiff, Nat.reduceBEq, decide_true, decide_false, Int.toNat_natCast, r]))
  all_goals first
    | (exfalso
       clear hb r
       simp only [beq_iff_eq, beq_eq_false_iff_ne, decide_eq_true_eq, decide_eq_false_iff_not] at *
       omega)
    | skip
  all_goals refine ⟨congrArg Value.bool ?_, _, rfl⟩
  all_goals clear hb r
  all_goals first
    | (simp only [sayB, restS, *, Bool.true_and, Bool.false_and, Bool.and_true, Bool.and_false, Bool.not_true, Bool.not_false, Bool.true_or, Bool.or_true, Bool.false_or, Bool.or_false, if_true, Bool.false_eq_true, if_false]; done)
    | (rw [minB (a := s.frm) (b := s.back) (by assumption) (by assumption)]; simp only [sayB, restS, *, Bool.true_and, Bool.false_and, Bool.and_true, Bool.and_false, Bool.not_true, Bool.not_false, Bool.true_or, Bool.or_true, Bool.false_or, Bool.or_false, if_true, Bool.false_eq_true, if_false]; done)
    | trace_state
end Go.Proofs.YtmacpgoclhgafaaGreatDoorW.FA

namespace Go.Proofs.YtmacpgoclhgafaaGreatDoorW.FA
open Go.RowKit Go.Proofs.YtmacpgoclhgafaaGreatDoorW.XM Go.Proofs Go.Proofs.YtmacpgoclhgafaaGreatDoorW.XWords
set_option maxRecDepth 100000
set_option linter.unusedSimpArgs false
set_option linter.unusedVariables false
variable (w0 : World) (H : Hp)
def rngB (s : Sy) : Bool := (!decide (6 ≤ s.kind) || userB s.room) && ((!decide (8 ≤ s.kind) || wordB s.id) && restS s)
set_option maxHeartbeats 20000000 in
theorem l5Ranged_ok (s : Sy) (hb : BigS s) : AFn Tryz.prog w0 66 #[.agg s.enc.toArray] H fun v H2 => v = .bool (rngB s) ∧ H2 = H := by
  refine AFn.scal rfl Tryz.func66 rfl (by kernel_rfl) ?_
  have r := Tryz.results66
  simp only [go_sem, cond, Nat.reduceAdd, Nat.reduceLeDiff, Nat.reduceEqDiff, Nat.reduceBEq, decide_true, decide_false, Int.toNat_natCast, r]
  simp only [go_sem, cond, Nat.reduceAdd, Nat.reduceLeDiff, Nat.reduceEqDiff, Nat.reduceBEq, decide_true, decide_false, Int.toNat_natCast, Sy.enc, r]
  repeat' (first
    | (refine Br_intro ?_ ?_ <;> intro h <;> simp only [go_sem, cond, Nat.reduceAdd, Nat.reduceLeDiff, Nat.reduceEqDiff, Nat.reduceBEq, decide_true, decide_false, Int.toNat_natCast, h, r])
    | (refine call_eq (l4User_ok _ _ _ hb.rm) ?_; simp only [go_sem, cond, Nat.reduceAdd, Nat.reduceLeDiff, Nat.reduceEqDiff, Nat.reduceBEq, decide_true, decide_false, Int.toNat_natCast, r])
    | (refine call_eq (l4User_ok _ _ _ hb.na) ?_; simp only [go_sem, cond, Nat.reduceAdd, Nat.reduceLeDiff, Nat.reduceEqDiff, Nat.reduceBEq, decide_true, decide_false, Int.toNat_natCast, r])
    | (refine call_eq (l4Nick_ok _ _ _ hb.ni) ?_; simp only [go_sem, cond, Nat.reduceAdd, Nat.reduceLeDiff, Nat.reduceEqDiff, Nat.reduceBEq, decide_true, decide_false, Int.toNat_natCast, r])
    | (refine call_eq (l5Body_ok _ _ _ hb.tx) ?_; simp only [go_sem, cond, Nat.reduceAdd, Nat.reduceLeDiff, Nat.reduceEqDiff, Nat.reduceBEq, decide_true, decide_false, Int.toNat_natCast, r])
    | (refine call_eq (l5Word_ok _ _ _ hb.id) ?_; simp only [go_sem, cond, Nat.reduceAdd, Nat.reduceLeDiff, Nat.reduceEqDiff, Nat.reduceBEq, decide_true, decide_false, Int.toNat_natCast, r])
    | (refine call_eq (l5Word_ok _ _ _ hb.tx) ?_; simp only [go_sem, cond, Nat.reduceAdd, Nat.reduceLeDiff, Nat.reduceEqDiff, Nat.reduceBEq, decide_true, decide_false, Int.toNat_natCast, r])
    | (refine call_eq (l5Word_ok _ _ _ hb.rf) ?_; simp only [go_sem, cond, Nat.reduceAdd, Nat.reduceLeDiff, Nat.reduceEqDiff, Nat.reduceBEq, decide_true, decide_false, Int.toNat_natCast, r])
    | (refine call_eq (l1In_ok _ _ _ _ _) ?_; simp only [go_sem, cond, Nat.reduceAdd, Nat.reduceLeDiff, Nat.reduceEqDiff, Nat.reduceBEq, decide_true, decide_false, Int.toNat_natCast, r]))
  all_goals refine ⟨congrArg Value.bool ?_, _, rfl⟩
  all_goals clear hb r
  all_goals first
    | (rename (s.kind == _) = true => hk
       obtain hk := eq_of_beq hk
       simp only [rngB, restS, orB, emB, hk, *]
       simp_all [emB]
       done)
    | (simp only [rngB, restS, *, Bool.false_eq_true, if_false, Bool.and_false]; done)
    | trace_state
theorem l5Ok_ok (s : Sy) (hb : BigS s) : AFn Tryz.prog w0 32 #[.agg s.enc.toArray] H fun v H2 => v = .bool (sayB s) ∧ H2 = H := by
  refine AFn.scal rfl Tryz.func32 rfl (by kernel_rfl) ?_
  have r := Tryz.results32
  simp only [go_sem, cond, Nat.reduceAdd, Nat.reduceLeDiff, Nat.reduceEqDiff, Nat.reduceBEq, decide_true, decide_false, Int.toNat_natCast, r]
  simp only [go_sem, cond, Nat.reduceAdd, Nat.reduceLeDiff, Nat.reduceEqDiff, Nat.reduceBEq, decide_true, decide_false, Int.toNat_natCast, Sy.enc, r]
  (refine xw_open (id := 1) [0, 1, 0, 7, 15, 31, 63, 127, 255] [.q 0, .l 2, .e 1, .d 2, .q 3, .q 4, .q 5, .e 6, .q 7, .q 8] rfl (by kernel_rfl) ?_; simp only [go_sem, cond, Nat.reduceAdd, Nat.reduceLeDiff, Nat.reduceEqDiff, Nat.reduceBEq, decide_true, decide_false, Int.toNat_natCast, r])
  refine call_eq (l5Clean_ok _ _ s) ?_
  simp only [go_sem, cond, Nat.reduceAdd, Nat.reduceLeDiff, Nat.reduceEqDiff, Nat.reduceBEq, decide_true, decide_false, Int.toNat_natCast, r, Sy.enc]
  rw [show ((cleanS s).kind == s.kind && ((cleanS s).room.toList == s.room.toList && ((cleanS s).nick.toList == s.nick.toList && ((cleanS s).name.toList == s.name.toList && ((cleanS s).id.toList == s.id.toList && ((cleanS s).ref.toList == s.ref.toList && ((cleanS s).text.toList == s.text.toList && ((cleanS s).num == s.num && ((cleanS s).frm == s.frm && ((cleanS s).back == s.back && true)))))))))) = xS s from eqS_comm _ _]
  refine Br_intro ?_ ?_ <;> intro h <;> simp only [go_sem, cond, Nat.reduceAdd, Nat.reduceLeDiff, Nat.reduceEqDiff, Nat.reduceBEq, decide_true, decide_false, Int.toNat_natCast, h, r]
  · refine call_eq (l5Ranged_ok _ _ s hb) ?_
    simp only [go_sem, cond, Nat.reduceAdd, Nat.reduceLeDiff, Nat.reduceEqDiff, Nat.reduceBEq, decide_true, decide_false, Int.toNat_natCast, r]
    exact ⟨by rw [sayB, h, Bool.true_and]; rfl, _, rfl⟩
  · exact ⟨by rw [sayB, h, Bool.false_and], _, rfl⟩
end Go.Proofs.YtmacpgoclhgafaaGreatDoorW.FA

