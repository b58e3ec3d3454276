/- FnExactRoomApply: own words and contracts that the law's proof uses, part 3. No condition of its own. -/
import Derived.Test.YtmacpgoclhgafaaDoorZFnExactRoomApply2
import Derived.WalkKit
import Derived.ProofKit
import Derived.OpenShut
import Derived.ShutString
import Derived.ChangeOld
import Derived.DataReads
import Derived.DataElems
import Derived.Deep.Slices
import Derived.Lib.LaidTab
import Derived.Test.YtmacpgoclhgafaaDoorRows
import Derived.Lib.LaidU8
import Derived.LaidByTextLater
set_option linter.unusedSimpArgs false
set_option linter.unusedVariables false
namespace Go.Proofs.YtmacpgoclhgafaaDoorW.FA
open Go.RowKit Go.Proofs.YtmacpgoclhgafaaDoorW.XM Go.Proofs Go.Proofs.YtmacpgoclhgafaaDoorW.XWords
set_option maxRecDepth 100000
set_option linter.unusedSimpArgs false
variable (w0 : World) (H : Hp)
theorem RmAt_more {H : Hp} {l : List (Option Ob)} {j k : Nat} {n s : ByteArray} {q : Int} {ms : List Mem} {ks : List Rk} (z1 z2 : List Value) {t1 t2 c d : Nat} (hj : l[j]? = some (some (.row 60 (flat Mem.enc ms ++ z1)))) (hk : l[k]? = some (some (.row 58 (flat Rk.enc ks ++ z2)))) (h1 : (flat Mem.enc ms ++ z1).length = t1) (h2 : (flat Rk.enc ks ++ z2).length = t2) (lm : ms.length ≤ 2000000) (lk : ks.length ≤ 2000000) : RmAt w0 (Hx H l) ⟨n, q, ms, ks, s⟩ ⟨some ⟨nid H j, 0, some t1⟩, c, some ⟨nid H k, 0, some t2⟩, d⟩ := by
  obtain ⟨a1, a2⟩ := own_more (w0 := w0) mlen _ ms z1 t1 H l j hj h1
  obtain ⟨b1, b2⟩ := own_more (w0 := w0) klen _ ks z2 t2 H l k hk h2
  exact ⟨a1, b1, lm, lk, fun L => by rw [src_sl, a2]; rfl, fun L => by rw [src_sl, b2]; rfl⟩
theorem applied_ok (R : Rm) (xa xb : Addr) (xc xd : Nat) (e : En) (hT : Tabs w0) (hr : RmAt w0 H R ⟨some xa, xc, some xb, xd⟩) (hb : Big R) (he : BigE e) (lm : R.ms.length ≤ 5) (lk : R.ks.length ≤ 6) (hR : roomB R = true)
    (hold : ∀ sel, ren3 (rho H sel) (.tuple #[.agg (R.enc ⟨some xa, xc, some xb, xd⟩).toArray, .bool false]) = some (.tuple #[.agg (R.enc ⟨some xa, xc, some xb, xd⟩).toArray, .bool false])) :
    AFn Tryd.prog w0 51 #[.agg (R.enc ⟨some xa, xc, some xb, xd⟩).toArray, .agg e.enc.toArray] H fun v H2 => (canB R e = true ∧ v = .tuple #[.agg ((applyR R e).enc (adR H (applyR R e) 0 1)).toArray, .bool true] ∧ H2 = Hx H (obsR (applyR R e))) ∨ (canB R e = false ∧ v = .tuple #[.agg (R.enc ⟨some xa, xc, some xb, xd⟩).toArray, .bool false] ∧ H2 = H) := by
  refine AFn.news Tryd.func51 rfl (by kernel_rfl) ?_
  have r := Tryd.results51
  simp only [go_sem, cond, Nat.reduceAdd, Nat.reduceLeDiff, Nat.reduceEqDiff, Nat.reduceBEq, decide_true, decide_false, Int.toNat_natCast, r]
  simp only [go_sem, cond, Nat.reduceAdd, Nat.reduceLeDiff, Nat.reduceEqDiff, Nat.reduceBEq, decide_true, decide_false, Int.toNat_natCast, Rm.enc, En.enc, r]
  have hno : canB R e = false → ∀ l, ∃ l' sel v3, Hx H l = Hx H l' ∧ (∀ k ∈ sel, PlainOb ((l'[k]?).join)) ∧ sel.Nodup ∧ ren3 (rho H sel) (.tuple #[.agg (R.enc ⟨some xa, xc, some xb, xd⟩).toArray, .bool false]) = some v3 ∧ ((canB R e = true ∧ v3 = .tuple #[.agg ((applyR R e).enc (adR H (applyR R e) 0 1)).toArray, .bool true] ∧ Hx H (pick l' sel) = Hx H (obsR (applyR R e))) ∨ (canB R e = false ∧ v3 = .tuple #[.agg (R.enc ⟨some xa, xc, some xb, xd⟩).toArray, .bool false] ∧ Hx H (pick l' sel) = H)) := fun hc l => ⟨l, [], _, rfl, by simp, List.nodup_nil, hold [], .inr ⟨hc, rfl, Hx_nil H⟩⟩
  refine call_eq (EntryOk_ok _ _ e hT he) ?_
  simp only [go_sem, cond, Nat.reduceAdd, Nat.reduceLeDiff, Nat.reduceEqDiff, Nat.reduceBEq, decide_true, decide_false, Int.toNat_natCast, Rm.enc, En.enc, r]
  repeat' (refine Br_intro ?_ ?_ <;> intro h <;> simp only [go_sem, cond, Nat.reduceAdd, Nat.reduceLeDiff, Nat.reduceEqDiff, Nat.reduceBEq, decide_true, decide_false, Int.toNat_natCast, Rm.enc, En.enc, r, h])
  all_goals first
    | exact hno (by simp only [canB, *, Bool.true_and, Bool.false_and]) _
    | skip
  rename_i g1 g2
  have hs : e.seq = R.next := eq_of_beq h
  refine call_eq (copiedX_ok _ _ R xa xb xc xd (hr.old _)) ?_
  simp only [go_sem, cond, Nat.reduceAdd, Nat.reduceLeDiff, Nat.reduceEqDiff, Nat.reduceBEq, decide_true, decide_false, Int.toNat_natCast, Rm.encX, En.enc, r, obsR, adR]
  refine call_eq (member_ok _ _ R _ _ (hr.old _)) ?_
  simp only [go_sem, cond, Nat.reduceAdd, Nat.reduceLeDiff, Nat.reduceEqDiff, Nat.reduceBEq, decide_true, decide_false, Int.toNat_natCast, r]
  obtain ⟨al1, al2⟩ := applyR_len R e
  have hb2 := applyR_big R e hb he
  by_cases k1 : (e.kind == 1) = true
  · have hc : canB R e = roomB (applyR R e) := by simp only [canB, needB, g1, g2, h, k1, Bool.true_and, Bool.true_or, Bool.or_true]
    have ha : applyR R e = ⟨R.name, IntKind.i64.wrap (R.next + 1), R.ms ++ [⟨e.user, e.nick, e.num⟩], R.ks, R.subj⟩ := by simp only [applyR, k1, hs, if_true]
    (refine xw_open (id := 6) [0, 1, 3, 7, 15, 31, 63, 127, 255, 511, 1023, 2047, 4095, 8191, 4095, 32767, 65535, 131071, 4095, 266239, 1048575, 2097151, 4194303] [.q 0, .q 1, .q 2, .q 3, .q 4, .q 5, .q 6, .q 7, .q 8, .q 9, .q 10, .q 11, .q 12, .q 14, .q 18, .q 13, .q 15, .q 16, .q 17, .q 19, .q 20, .q 21, .q 22] rfl (by kernel_rfl) ?_; simp only [go_sem, cond, Nat.reduceAdd, Nat.reduceLeDiff, Nat.reduceEqDiff, Nat.reduceBEq, decide_true, decide_false, Int.toNat_natCast, r, k1])
    refine Req_intro ⟨_, rfl, rfl⟩ ?_
    simp only [go_sem, cond, Nat.reduceAdd, Nat.reduceLeDiff, Nat.reduceEqDiff, Nat.reduceBEq, decide_true, decide_false, Int.toNat_natCast, r, k1]
    refine app_out _ rfl rfl XF.elm_30 XF.zer_60 rfl XF.byt_60 (m := 1) (cs := [.string e.user, .string e.nick, .int .i64 e.num]) (old := flat Mem.enc R.ms) ?ha (by omega) (by omega) (by omega) ?hb ?_
    case ha =>
      show appd _ _ _ _ _ (isInt Tryd.prog 30) _ = _
      simp only [go_sem, cond, Nat.reduceAdd, Nat.reduceLeDiff, Nat.reduceEqDiff, Nat.reduceBEq, decide_true, decide_false, Int.toNat_natCast, appd]
    case hb => rw [rd_own]; show rdO (some (some (.row _ _))) _ _ _ = _; rw [rdO_row, if_pos ⟨flat_len mlen _, by rw [flat_len mlen]; omega⟩, List.drop_zero, List.take_of_length_le (by rw [flat_len mlen]; exact Nat.le_refl _)]
    simp only [go_sem, cond, Nat.reduceAdd, Nat.reduceLeDiff, Nat.reduceEqDiff, Nat.reduceBEq, decide_true, decide_false, Int.toNat_natCast, r, k1]
    have e1 : flat Mem.enc R.ms ++ [.string e.user, .string e.nick, .int .i64 e.num] = flat Mem.enc (R.ms ++ [⟨e.user, e.nick, e.num⟩]) := by rw [flat_app]; rfl
    have e2 : R.ms.length + 1 = (R.ms ++ [(⟨e.user, e.nick, e.num⟩ : Mem)]).length := by simp
    rw [e1, e2]
    rw [ha] at hb2 hc al1 al2 hno ⊢
    simp only at al1 al2
    clear e1 e2 ha
    generalize R.ms ++ [(⟨e.user, e.nick, e.num⟩ : Mem)] = ms' at *
    refine call_eq (AFn.weak (.cons (Wks.agg (.cons (.refl _) (.cons (.refl _) (.cons (.refl _) (.cons (.xs _) (.cons (.refl _) .nil)))))) .nil) (RoomOk_ok w0 _ ⟨R.name, IntKind.i64.wrap (R.next + 1), ms', R.ks, R.subj⟩ (adR H ⟨R.name, IntKind.i64.wrap (R.next + 1), ms', R.ks, R.subj⟩ 7 4) hT (RmAt_own (j := 7) (k := 4) rfl rfl (by simp only; omega) (by simp only; omega)) hb2)) ?_
    simp only [go_sem, cond, Nat.reduceAdd, Nat.reduceLeDiff, Nat.reduceEqDiff, Nat.reduceBEq, decide_true, decide_false, Int.toNat_natCast, r]
    refine Br_intro ?_ ?_ <;> intro ho <;> simp only [go_sem, cond, Nat.reduceAdd, Nat.reduceLeDiff, Nat.reduceEqDiff, Nat.reduceBEq, decide_true, decide_false, Int.toNat_natCast, r, ho]
    · refine call_eq (AFn.weak (.cons (Wks.agg (.cons (.refl _) (.cons (.refl _) (.cons (.refl _) (.cons (.xs _) (.cons (.refl _) .nil)))))) .nil) (copied_ok w0 _ ⟨R.name, IntKind.i64.wrap (R.next + 1), ms', R.ks, R.subj⟩ _ _ _ _ (RmAt_own (j := 7) (k := 4) rfl rfl (by simp only; omega) (by simp only; omega)))) ?_
      simp only [go_sem, cond, Nat.reduceAdd, Nat.reduceLeDiff, Nat.reduceEqDiff, Nat.reduceBEq, decide_true, decide_false, Int.toNat_natCast, Rm.enc, r, obsR, adR]
      exact ⟨_, [8, 9], _, rfl, pl2 ms' R.ks rfl rfl, by decide, ren_roomT H ⟨R.name, IntKind.i64.wrap (R.next + 1), ms', R.ks, R.subj⟩ true rfl rfl, .inl ⟨hc.trans ho, rfl, rfl⟩⟩
    · exact hno (hc.trans ho) _
  rw [Bool.not_eq_true] at k1
  have hasc : Asc R.ks := by
    simp only [roomB, Bool.and_eq_true] at hR
    exact asc_room hR.2.2.2.2.1.1
  by_cases k6 : (e.kind == 6) = true
  · have hc : canB R e = roomB (applyR R e) := by simp only [canB, needB, g1, g2, h, k6, Bool.true_and, Bool.true_or, Bool.or_true]
    have k2 : (e.kind == 2) = false := by rw [eq_of_beq k6]; rfl
    have k4 : (e.kind == 4) = false := by rw [eq_of_beq k6]; rfl
    have k5 : (e.kind == 5) = false := by rw [eq_of_beq k6]; rfl
    have ha : applyR R e = ⟨R.name, IntKind.i64.wrap (R.next + 1), R.ms, rankedI e.user e.num R.ks, R.subj⟩ := by rw [← rkd_ranked _ _ _ hasc]; simp only [applyR, k1, k2, k4, k5, k6, hs, if_true, Bool.false_eq_true, if_false]
    (refine xw_open (id := 6) [0, 1, 3, 7, 15, 31, 63, 127, 255, 511, 1023, 2047, 4095, 8191, 4095, 32767, 65535, 131071, 4095, 266239, 1048575, 2097151, 4194303] [.q 0, .q 1, .q 2, .q 3, .q 4, .q 5, .q 6, .q 7, .q 8, .q 9, .q 10, .q 11, .q 12, .q 14, .q 18, .q 13, .q 15, .q 16, .q 17, .q 19, .q 20, .q 21, .q 22] rfl (by kernel_rfl) ?_; simp only [go_sem, cond, Nat.reduceAdd, Nat.reduceLeDiff, Nat.reduceEqDiff, Nat.reduceBEq, decide_true, decide_false, Int.toNat_natCast, r, k1, k2, k4, k5, k6])
    refine call (ranked_ok w0 H _ 5 4 _ _ _ _ R.ks e.user e.num (by decide) hasc (by omega) rfl rfl) ?_
    rintro v H2 ⟨rfl, l2, rfl, ⟨⟨rk, A, d, hbx, hwk, hone, hsl, hrd⟩, hoth⟩⟩
    have q0 := hoth 0 (by simp) (by decide) (by decide)
    have q2 := hoth 2 (by simp) (by decide) (by decide)
    have q3 := hoth 3 (by simp) (by decide) (by decide)
    simp only [List.getElem?_cons_zero, List.getElem?_cons_succ] at q0 q2 q3
    clear hoth
    rw [ha] at hb2 hc al1 al2 hno ⊢
    simp only at al1 al2
    clear ha
    generalize rankedI e.user e.num R.ks = ks' at *
    have lt2 : 2 < l2.length := lt_of_get q2
    have hRM : RmAt w0 (Hx H l2) ⟨R.name, IntKind.i64.wrap (R.next + 1), R.ms, ks', R.subj⟩ ⟨some ⟨nid H 3, 0, some (R.ms.length * 3)⟩, R.ms.length, some A, d⟩ := ⟨Sl_own mlen _ R.ms H l2 3 q3, hsl, by simp only; omega, by simp only; omega, fun L => by rw [src_sl, rd_flat mlen _ R.ms H l2 3 q3]; rfl, fun L => by rw [src_sl, hrd]; rfl⟩
    have p2 : ∀ X Y : Option Ob, (l2 ++ [X, Y])[2]? = l2[2]? := fun X Y => List.getElem?_append_left lt2
    have p5 : ∀ X Y Z : Option Ob, ((l2 ++ [X, Y]).set 2 Z)[2]? = some Z := fun X Y Z => by rw [List.getElem?_set_self (by simp; omega)]
    have p6 : ∀ Z : Option Ob, (l2.set 2 Z)[2]? = some Z := fun Z => by rw [List.getElem?_set_self lt2]
    have pA : ∀ X Y Z : Option Ob, ((l2 ++ [X, Y]).set 2 Z)[l2.length]? = some X := fun X Y Z => by rw [List.getElem?_set_ne (by omega), List.getElem?_append_right (Nat.le_refl _)]; simp
    have pB : ∀ X Y Z : Option Ob, ((l2 ++ [X, Y]).set 2 Z)[l2.length + 1]? = some Y := fun X Y Z => by rw [List.getElem?_set_ne (by omega), List.getElem?_append_right (by omega)]; simp
    simp only [go_sem, cond, Nat.reduceAdd, Nat.reduceLeDiff, Nat.reduceEqDiff, Nat.reduceBEq, decide_true, decide_false, Int.toNat_natCast, r, hbx]
    refine call_eq (AFn.weak (.cons (Wks.agg (.cons (.refl _) (.cons (.refl _) (.cons (.xs _) (.cons hwk (.cons (.refl _) .nil)))))) .nil) (RoomOk_ok w0 _ ⟨R.name, IntKind.i64.wrap (R.next + 1), R.ms, ks', R.subj⟩ ⟨some ⟨nid H 3, 0, some (R.ms.length * 3)⟩, R.ms.length, some A, d⟩ hT hRM hb2)) ?_
    simp only [go_sem, cond, Nat.reduceAdd, Nat.reduceLeDiff, Nat.reduceEqDiff, Nat.reduceBEq, decide_true, decide_false, Int.toNat_natCast, r, hbx, q0, q2]
    refine Br_intro ?_ ?_ <;> intro ho <;> simp only [go_sem, cond, Nat.reduceAdd, Nat.reduceLeDiff, Nat.reduceEqDiff, Nat.reduceBEq, decide_true, decide_false, Int.toNat_natCast, r, ho, hbx, q0, q2, p6]
    · refine call_eq (AFn.weak (.cons (Wks.agg (.cons (.refl _) (.cons (.refl _) (.cons (.xs _) (.cons hwk (.cons (.refl _) .nil)))))) .nil) (copied_ok w0 _ ⟨R.name, IntKind.i64.wrap (R.next + 1), R.ms, ks', R.subj⟩ _ _ _ _ hRM)) ?_
      simp only [go_sem, cond, Nat.reduceAdd, Nat.reduceLeDiff, Nat.reduceEqDiff, Nat.reduceBEq, decide_true, decide_false, Int.toNat_natCast, Rm.enc, r, obsR, adR, p2, q2, p5, Nat.add_zero]
      exact ⟨_, [l2.length, l2.length + 1], _, rfl, pl2 R.ms ks' (pA _ _ _) (pB _ _ _), by simp, ren_roomT H ⟨R.name, IntKind.i64.wrap (R.next + 1), R.ms, ks', R.subj⟩ true (idx_hit _ _) (by simp [idx]), .inl ⟨hc.trans ho, rfl, by simp only [pick, List.map_cons, List.map_nil, pA, pB]; rfl⟩⟩
    · exact hno (hc.trans ho) _
  rw [Bool.not_eq_true] at k6
  rcases idxP_find (isU e.user) R.ms 0 with ⟨f1, f2⟩ | ⟨k, hk, f1, f2⟩
  · have d1 : ((-1 : Int) < 0) = True := eq_true (by omega)
    have hn : canB R e = false := by simp only [canB, needB, isB, f2, k1, k6, Bool.false_or, Bool.false_and, Bool.and_false]
    rw [f1]
    (refine xw_open (id := 6) [0, 1, 3, 7, 15, 31, 63, 127, 255, 511, 1023, 2047, 4095, 8191, 4095, 32767, 65535, 131071, 4095, 266239, 1048575, 2097151, 4194303] [.q 0, .q 1, .q 2, .q 3, .q 4, .q 5, .q 6, .q 7, .q 8, .q 9, .q 10, .q 11, .q 12, .q 14, .q 18, .q 13, .q 15, .q 16, .q 17, .q 19, .q 20, .q 21, .q 22] rfl (by kernel_rfl) ?_; simp only [go_sem, cond, Nat.reduceAdd, Nat.reduceLeDiff, Nat.reduceEqDiff, Nat.reduceBEq, decide_true, decide_false, Int.toNat_natCast, r, d1, k1, k6])
    exact hno hn _
  · rw [Nat.zero_add] at f1
    have d1 : ((k : Int) < 0) = False := eq_false (by omega)
    have d2 : ((k : Int) < (R.ms.length : Int)) = True := eq_true (by omega)
    have d3 : ((0 : Int) ≤ (k : Int)) = True := eq_true (by omega)
    obtain ⟨b, o, sp, hx, hc1, _⟩ := mcell hr.sm hk
    cases hx
    have c0 := fun L => hc1 1 (.string R.ms[k].nick) L (by decide) rfl
    have hB : isB R e = (R.ms[k].nick.toList == e.nick.toList) := by rw [isB, f2]
    rw [f1]
    (refine xw_open (id := 6) [0, 1, 3, 7, 15, 31, 63, 127, 255, 511, 1023, 2047, 4095, 8191, 4095, 32767, 65535, 131071, 4095, 266239, 1048575, 2097151, 4194303] [.q 0, .q 1, .q 2, .q 3, .q 4, .q 5, .q 6, .q 7, .q 8, .q 9, .q 10, .q 11, .q 12, .q 14, .q 18, .q 13, .q 15, .q 16, .q 17, .q 19, .q 20, .q 21, .q 22] rfl (by kernel_rfl) ?_; simp only [go_sem, cond, Nat.reduceAdd, Nat.reduceLeDiff, Nat.reduceEqDiff, Nat.reduceBEq, decide_true, decide_false, Int.toNat_natCast, r, d1, d2, d3, c0, k1, k6])
    refine Br_intro ?_ ?_ <;> intro h5 <;> simp only [go_sem, cond, Nat.reduceAdd, Nat.reduceLeDiff, Nat.reduceEqDiff, Nat.reduceBEq, decide_true, decide_false, Int.toNat_natCast, r, h5, k1, k6]
    case refine_2 => exact hno (by simp only [canB, needB, hB, h5, k1, k6, Bool.false_or, Bool.false_and, Bool.and_false]) _
    have hc : canB R e = roomB (applyR R e) := by simp only [canB, needB, g1, g2, h, hB, h5, Bool.true_and, Bool.or_true]
    have tM := flat_len mlen R.ms
    have tK := flat_len klen R.ks
    refine Br_intro ?_ ?_ <;> intro k2 <;> simp only [go_sem, cond, Nat.reduceAdd, Nat.reduceLeDiff, Nat.reduceEqDiff, Nat.reduceBEq, decide_true, decide_false, Int.toNat_natCast, r, k2]
    · have w1 : IntKind.i64.wrap ((k : Int) + 1) = ((k + 1 : Nat) : Int) := by rw [wrap_i64 (by omega) (by omega)]; omega
      have ha : applyR R e = ⟨R.name, IntKind.i64.wrap (R.next + 1), R.ms.eraseIdx k, R.ks, R.subj⟩ := by
        have e1 : outI R.ms (k : Int) = R.ms.eraseIdx k := by unfold outI; rw [if_pos (by omega), Int.toNat_natCast, List.eraseIdx_eq_take_drop_succ]
        simp only [applyR, k1, k2, hs, f1, e1, if_true, Bool.false_eq_true, if_false]
      rw [w1]
      refine call_eq (AFn.weak (.cons (.xs _) (.cons (.refl _) (.cons (.refl _) .nil))) (delM_ok w0 H _ 3 R.ms k hk (by omega) rfl)) ?_
      simp only [go_sem, cond, Nat.reduceAdd, Nat.reduceLeDiff, Nat.reduceEqDiff, Nat.reduceBEq, decide_true, decide_false, Int.toNat_natCast, r, k2]
      have el : (R.ms.eraseIdx k).length = R.ms.length - 1 := by rw [List.length_eraseIdx, if_pos hk]
      rw [← el]
      rw [ha] at hb2 hc al1 al2 hno ⊢
      simp only at al1 al2
      have tM2 : (flat Mem.enc (R.ms.eraseIdx k) ++ [Value.string em, Value.string em, Value.int .i64 0]).length = R.ms.length * 3 := by rw [List.length_append, flat_len mlen, el]; simp; omega
      clear ha el
      generalize R.ms.eraseIdx k = ms' at *
      refine call_eq (AFn.weak (.cons (Wks.agg (.cons (.refl _) (.cons (.refl _) (.cons (.refl _) (.cons (.xs _) (.cons (.refl _) .nil)))))) .nil) (RoomOk_ok w0 _ ⟨R.name, IntKind.i64.wrap (R.next + 1), ms', R.ks, R.subj⟩ ⟨some ⟨nid H 3, 0, some (R.ms.length * 3)⟩, R.ms.length, some ⟨nid H 4, 0, some (R.ks.length * 2)⟩, R.ks.length⟩ hT (RmAt_more w0 (j := 3) (k := 4) [.string em, .string em, .int .i64 0] [] rfl (by rw [List.append_nil]; rfl) tM2 (by rw [List.append_nil]; exact tK) (by omega) (by omega)) hb2)) ?_
      simp only [go_sem, cond, Nat.reduceAdd, Nat.reduceLeDiff, Nat.reduceEqDiff, Nat.reduceBEq, decide_true, decide_false, Int.toNat_natCast, r]
      refine Br_intro ?_ ?_ <;> intro ho <;> simp only [go_sem, cond, Nat.reduceAdd, Nat.reduceLeDiff, Nat.reduceEqDiff, Nat.reduceBEq, decide_true, decide_false, Int.toNat_natCast, r, ho]
      · refine call_eq (AFn.weak (.cons (Wks.agg (.cons (.refl _) (.cons (.refl _) (.cons (.refl _) (.cons (.xs _) (.cons (.refl _) .nil)))))) .nil) (copied_ok w0 _ ⟨R.name, IntKind.i64.wrap (R.next + 1), ms', R.ks, R.subj⟩ _ _ _ _ (RmAt_more w0 (j := 3) (k := 4) [.string em, .string em, .int .i64 0] [] rfl (by rw [List.append_nil]; rfl) tM2 (by rw [List.append_nil]; exact tK) (by omega) (by omega)))) ?_
        simp only [go_sem, cond, Nat.reduceAdd, Nat.reduceLeDiff, Nat.reduceEqDiff, Nat.reduceBEq, decide_true, decide_false, Int.toNat_natCast, Rm.enc, r, obsR, adR]
        exact ⟨_, [6, 7], _, rfl, pl2 ms' R.ks rfl rfl, by decide, ren_roomT H ⟨R.name, IntKind.i64.wrap (R.next + 1), ms', R.ks, R.subj⟩ true rfl rfl, .inl ⟨hc.trans ho, rfl, rfl⟩⟩
      · exact hno (hc.trans ho) _
    refine Br_intro ?_ ?_ <;> intro k4 <;> simp only [go_sem, cond, Nat.reduceAdd, Nat.reduceLeDiff, Nat.reduceEqDiff, Nat.reduceBEq, decide_true, decide_false, Int.toNat_natCast, r, k2, k4]
    · have ha : applyR R e = ⟨R.name, IntKind.i64.wrap (R.next + 1), R.ms, R.ks, e.text⟩ := by simp only [applyR, k1, k2, k4, hs, if_true, Bool.false_eq_true, if_false]
      rw [ha] at hb2 hc al1 al2 hno ⊢
      simp only at al1 al2
      refine call_eq (AFn.weak (.cons (Wks.agg (.cons (.refl _) (.cons (.refl _) (.cons (.xs _) (.cons (.xs _) (.cons (.refl _) .nil)))))) .nil) (RoomOk_ok w0 _ ⟨R.name, IntKind.i64.wrap (R.next + 1), R.ms, R.ks, e.text⟩ ⟨some ⟨nid H 3, 0, some (R.ms.length * 3)⟩, R.ms.length, some ⟨nid H 4, 0, some (R.ks.length * 2)⟩, R.ks.length⟩ hT (RmAt_more w0 (j := 3) (k := 4) [] [] (by rw [List.append_nil]; rfl) (by rw [List.append_nil]; rfl) (by rw [List.append_nil]; exact tM) (by rw [List.append_nil]; exact tK) (by omega) (by omega)) hb2)) ?_
      simp only [go_sem, cond, Nat.reduceAdd, Nat.reduceLeDiff, Nat.reduceEqDiff, Nat.reduceBEq, decide_true, decide_false, Int.toNat_natCast, r]
      refine Br_intro ?_ ?_ <;> intro ho <;> simp only [go_sem, cond, Nat.reduceAdd, Nat.reduceLeDiff, Nat.reduceEqDiff, Nat.reduceBEq, decide_true, decide_false, Int.toNat_natCast, r, ho]
      · refine call_eq (AFn.weak (.cons (Wks.agg (.cons (.refl _) (.cons (.refl _) (.cons (.xs _) (.cons (.xs _) (.cons (.refl _) .nil)))))) .nil) (copied_ok w0 _ ⟨R.name, IntKind.i64.wrap (R.next + 1), R.ms, R.ks, e.text⟩ _ _ _ _ (RmAt_more w0 (j := 3) (k := 4) [] [] (by rw [List.append_nil]; rfl) (by rw [List.append_nil]; rfl) (by rw [List.append_nil]; exact tM) (by rw [List.append_nil]; exact tK) (by omega) (by omega)))) ?_
        simp only [go_sem, cond, Nat.reduceAdd, Nat.reduceLeDiff, Nat.reduceEqDiff, Nat.reduceBEq, decide_true, decide_false, Int.toNat_natCast, Rm.enc, r, obsR, adR]
        exact ⟨_, [6, 7], _, rfl, pl2 R.ms R.ks rfl rfl, by decide, ren_roomT H ⟨R.name, IntKind.i64.wrap (R.next + 1), R.ms, R.ks, e.text⟩ true rfl rfl, .inl ⟨hc.trans ho, rfl, rfl⟩⟩
      · exact hno (hc.trans ho) _
    refine Br_intro ?_ ?_ <;> intro k5 <;> simp only [go_sem, cond, Nat.reduceAdd, Nat.reduceLeDiff, Nat.reduceEqDiff, Nat.reduceBEq, decide_true, decide_false, Int.toNat_natCast, r, k2, k4, k5]
    · have ha : applyR R e = ⟨R.name, IntKind.i64.wrap (R.next + 1), roleI R.ms (k : Int) e.num, R.ks, R.subj⟩ := by simp only [applyR, k1, k2, k4, k5, hs, f1, if_true, Bool.false_eq_true, if_false]
      simp only [go_sem, cond, Nat.reduceAdd, Nat.reduceLeDiff, Nat.reduceEqDiff, Nat.reduceBEq, decide_true, decide_false, Int.toNat_natCast, r, d2, d3, tM]
      refine Req_intro (by omega) ?_
      simp only [go_sem, cond, Nat.reduceAdd, Nat.reduceLeDiff, Nat.reduceEqDiff, Nat.reduceBEq, decide_true, decide_false, Int.toNat_natCast, r, d2, d3, tM]
      have p0 : (flat Mem.enc R.ms).set (k * 3 + 2) (.int .i64 e.num) = flat Mem.enc (roleI R.ms (k : Int) e.num) := by
        unfold roleI
        rw [if_pos (by omega), Int.toNat_natCast]
        have := flat_put mlen R.ms k ⟨R.ms[k].user, R.ms[k].nick, e.num⟩ hk 2 (.int .i64 e.num) (by decide) rfl
        rw [this, List.getElem?_eq_getElem hk]
      have el : R.ms.length = (roleI R.ms (k : Int) e.num).length := (roleI_mem _ _ _).1.symm
      rw [p0]
      rw [ha] at hb2 hc al1 al2 hno ⊢
      simp only at al1 al2
      have tM2 : (flat Mem.enc (roleI R.ms (k : Int) e.num) ++ []).length = R.ms.length * 3 := by rw [List.append_nil, flat_len mlen, ← el]
      clear ha p0
      generalize roleI R.ms (k : Int) e.num = ms' at *
      refine call_eq (AFn.weak (.cons (Wks.agg (.cons (.refl _) (.cons (.refl _) (.cons (by rw [el]; exact .xs _) (.cons (.xs _) (.cons (.refl _) .nil)))))) .nil) (RoomOk_ok w0 _ ⟨R.name, IntKind.i64.wrap (R.next + 1), ms', R.ks, R.subj⟩ ⟨some ⟨nid H 3, 0, some (R.ms.length * 3)⟩, R.ms.length, some ⟨nid H 4, 0, some (R.ks.length * 2)⟩, R.ks.length⟩ hT (RmAt_more w0 (j := 3) (k := 4) [] [] (by rw [List.append_nil]; rfl) (by rw [List.append_nil]; rfl) tM2 (by rw [List.append_nil]; exact tK) (by omega) (by omega)) hb2)) ?_
      simp only [go_sem, cond, Nat.reduceAdd, Nat.reduceLeDiff, Nat.reduceEqDiff, Nat.reduceBEq, decide_true, decide_false, Int.toNat_natCast, r]
      refine Br_intro ?_ ?_ <;> intro ho <;> simp only [go_sem, cond, Nat.reduceAdd, Nat.reduceLeDiff, Nat.reduceEqDiff, Nat.reduceBEq, decide_true, decide_false, Int.toNat_natCast, r, ho]
      · refine call_eq (AFn.weak (.cons (Wks.agg (.cons (.refl _) (.cons (.refl _) (.cons (by rw [el]; exact .xs _) (.cons (.xs _) (.cons (.refl _) .nil)))))) .nil) (copied_ok w0 _ ⟨R.name, IntKind.i64.wrap (R.next + 1), ms', R.ks, R.subj⟩ _ _ _ _ (RmAt_more w0 (j := 3) (k := 4) [] [] (by rw [List.append_nil]; rfl) (by rw [List.append_nil]; rfl) tM2 (by rw [List.append_nil]; exact tK) (by omega) (by omega)))) ?_
        simp only [go_sem, cond, Nat.reduceAdd, Nat.reduceLeDiff, Nat.reduceEqDiff, Nat.reduceBEq, decide_true, decide_false, Int.toNat_natCast, Rm.enc, r, obsR, adR]
        exact ⟨_, [6, 7], _, rfl, pl2 ms' R.ks rfl rfl, by decide, ren_roomT H ⟨R.name, IntKind.i64.wrap (R.next + 1), ms', R.ks, R.subj⟩ true rfl rfl, .inl ⟨hc.trans ho, rfl, rfl⟩⟩
      · exact hno (hc.trans ho) _
    have ha : applyR R e = ⟨R.name, IntKind.i64.wrap (R.next + 1), R.ms, R.ks, R.subj⟩ := by simp only [applyR, k1, k2, k4, k5, k6, hs, if_true, Bool.false_eq_true, if_false]
    rw [ha] at hb2 hc al1 al2 hno ⊢
    simp only at al1 al2
    simp only [go_sem, cond, Nat.reduceAdd, Nat.reduceLeDiff, Nat.reduceEqDiff, Nat.reduceBEq, decide_true, decide_false, Int.toNat_natCast, r, k6]
    refine call_eq (AFn.weak (.cons (Wks.agg (.cons (.refl _) (.cons (.refl _) (.cons (.xs _) (.cons (.xs _) (.cons (.refl _) .nil)))))) .nil) (RoomOk_ok w0 _ ⟨R.name, IntKind.i64.wrap (R.next + 1), R.ms, R.ks, R.subj⟩ ⟨some ⟨nid H 3, 0, some (R.ms.length * 3)⟩, R.ms.length, some ⟨nid H 4, 0, some (R.ks.length * 2)⟩, R.ks.length⟩ hT (RmAt_more w0 (j := 3) (k := 4) [] [] (by rw [List.append_nil]; rfl) (by rw [List.append_nil]; rfl) (by rw [List.append_nil]; exact tM) (by rw [List.append_nil]; exact tK) (by omega) (by omega)) hb2)) ?_
    simp only [go_sem, cond, Nat.reduceAdd, Nat.reduceLeDiff, Nat.reduceEqDiff, Nat.reduceBEq, decide_true, decide_false, Int.toNat_natCast, r]
    refine Br_intro ?_ ?_ <;> intro ho <;> simp only [go_sem, cond, Nat.reduceAdd, Nat.reduceLeDiff, Nat.reduceEqDiff, Nat.reduceBEq, decide_true, decide_false, Int.toNat_natCast, r, ho]
    · refine call_eq (AFn.weak (.cons (Wks.agg (.cons (.refl _) (.cons (.refl _) (.cons (.xs _) (.cons (.xs _) (.cons (.refl _) .nil)))))) .nil) (copied_ok w0 _ ⟨R.name, IntKind.i64.wrap (R.next + 1), R.ms, R.ks, R.subj⟩ _ _ _ _ (RmAt_more w0 (j := 3) (k := 4) [] [] (by rw [List.append_nil]; rfl) (by rw [List.append_nil]; rfl) (by rw [List.append_nil]; exact tM) (by rw [List.append_nil]; exact tK) (by omega) (by omega)))) ?_
      simp only [go_sem, cond, Nat.reduceAdd, Nat.reduceLeDiff, Nat.reduceEqDiff, Nat.reduceBEq, decide_true, decide_false, Int.toNat_natCast, Rm.enc, r, obsR, adR]
      exact ⟨_, [6, 7], _, rfl, pl2 R.ms R.ks rfl rfl, by decide, ren_roomT H ⟨R.name, IntKind.i64.wrap (R.next + 1), R.ms, R.ks, R.subj⟩ true rfl rfl, .inl ⟨hc.trans ho, rfl, rfl⟩⟩
    · exact hno (hc.trans ho) _
end Go.Proofs.YtmacpgoclhgafaaDoorW.FA
namespace Go.Proofs.YtmacpgoclhgafaaDoorW.FA
open Go.RowKit Go.Proofs.YtmacpgoclhgafaaDoorW.XM Go.Proofs Go.Proofs.YtmacpgoclhgafaaDoorW.XWords
set_option maxRecDepth 100000
set_option linter.unusedSimpArgs false
variable (w0 : World) (H : Hp)
theorem RoomApplyI_no (R : Rm) (x : Ad) (e : En) (hT : Tabs w0) (hr : RmAt w0 H R x) (hb : Big R) (hR : roomB R = false) : AFn Tryd.prog w0 14 #[.agg (R.enc x).toArray, .agg e.enc.toArray] H fun v H2 => v = .tuple #[zRoom, .bool false] ∧ H2 = H := by
  refine AFn.scal rfl Tryd.func14 rfl (by kernel_rfl) ?_
  have r := Tryd.results14
  simp only [go_sem, cond, Nat.reduceAdd, Nat.reduceLeDiff, Nat.reduceEqDiff, Nat.reduceBEq, decide_true, decide_false, Int.toNat_natCast, Rm.enc, En.enc, r]
  refine call_eq (RoomOk_ok w0 _ R _ hT (hr.old _) hb) ?_
  simp only [go_sem, cond, Nat.reduceAdd, Nat.reduceLeDiff, Nat.reduceEqDiff, Nat.reduceBEq, decide_true, decide_false, Int.toNat_natCast, r, hR]
  exact ⟨rfl, _, rfl⟩
/-- Where a room lies that is no part of what a call makes. -/
def Old (H : Hp) (R : Rm) (x : Ad) : Prop := ∀ sel, ren2 (rho H sel) (.agg (R.enc x).toArray) = some (.agg (R.enc x).toArray)
theorem Old.tup {H : Hp} {R : Rm} {x : Ad} (h : Old H R x) (b : Bool) (sel : List Nat) : ren3 (rho H sel) (.tuple #[.agg (R.enc x).toArray, .bool b]) = some (.tuple #[.agg (R.enc x).toArray, .bool b]) := by
  simp only [ren3, renL, h sel, Option.map_some]
  simp [renL, ren2, ren1, plain]
theorem ren_lt {B : Hp} {l : List (Option Ob)} {k : Nat} (h : k < l.length) (L : List (Option Ob)) (sel : List Nat) : rho (Hx (Hx B l) L) sel (nid B k) = some (nid B k) := by
  unfold rho nid Hx
  rw [if_pos (by simp; omega)]
theorem Old_own {B : Hp} {l : List (Option Ob)} {j k : Nat} (R : Rm) (hj : j < l.length) (hk : k < l.length) (L : List (Option Ob)) : Old (Hx (Hx B l) L) R (adR B R j k) := fun sel => by
  simp only [ren2, Rm.enc, adR, renL, ren1, ren_lt hj, ren_lt hk, Option.map_some, plain, if_true]
theorem RoomApplyI_ok (R : Rm) (xa xb : Addr) (xc xd : Nat) (e : En) (hT : Tabs w0) (hr : RmAt w0 H R ⟨some xa, xc, some xb, xd⟩) (hb : Big R) (he : BigE e) (lm : R.ms.length ≤ 5) (lk : R.ks.length ≤ 6) (hR : roomB R = true) (hold : ∀ L, Old (Hx H L) R ⟨some xa, xc, some xb, xd⟩) :
    AFn Tryd.prog w0 14 #[.agg (R.enc ⟨some xa, xc, some xb, xd⟩).toArray, .agg e.enc.toArray] H fun v H2 => v = .tuple #[.agg ((outR R e).enc (adR H (outR R e) 0 1)).toArray, .bool (canB R e)] ∧ H2 = Hx H (obsR (outR R e)) := by
  obtain ⟨q1, q2⟩ := applyR_len R e
  refine AFn.news Tryd.func14 rfl (by kernel_rfl) ?_
  have r := Tryd.results14
  simp only [go_sem, cond, Nat.reduceAdd, Nat.reduceLeDiff, Nat.reduceEqDiff, Nat.reduceBEq, decide_true, decide_false, Int.toNat_natCast, r]
  simp only [go_sem, cond, Nat.reduceAdd, Nat.reduceLeDiff, Nat.reduceEqDiff, Nat.reduceBEq, decide_true, decide_false, Int.toNat_natCast, Rm.enc, En.enc, r]
  refine call_eq (RoomOk_ok w0 _ R _ hT (hr.old _) hb) ?_
  simp only [go_sem, cond, Nat.reduceAdd, Nat.reduceLeDiff, Nat.reduceEqDiff, Nat.reduceBEq, decide_true, decide_false, Int.toNat_natCast, r, hR]
  refine call (applied_ok w0 _ R xa xb xc xd e hT (hr.old _) hb he lm lk hR (fun sel => (hold _).tup false sel)) ?_
  rintro v H2 (⟨hc, rfl, rfl⟩ | ⟨hc, rfl, rfl⟩)
  · have ha : outR R e = applyR R e := by rw [outR, if_pos hc]
    rw [ha, hc]
    clear ha
    generalize applyR R e = R' at *
    simp only [go_sem, cond, Nat.reduceAdd, Nat.reduceLeDiff, Nat.reduceEqDiff, Nat.reduceBEq, decide_true, decide_false, Int.toNat_natCast, Rm.enc, r, obsR, adR]
    refine call_eq (copied_ok w0 _ R' _ _ _ _ (RmAt_own (B := H) (j := 3) (k := 4) rfl rfl (by omega) (by omega))) ?_
    simp only [go_sem, cond, Nat.reduceAdd, Nat.reduceLeDiff, Nat.reduceEqDiff, Nat.reduceBEq, decide_true, decide_false, Int.toNat_natCast, Rm.enc, r, obsR, adR]
    exact ⟨_, [6, 7], _, rfl, pl2 R'.ms R'.ks rfl rfl, by decide, ren_roomT H R' true rfl rfl, rfl, rfl⟩
  · have ha : outR R e = R := by rw [outR, if_neg (by rw [hc]; decide)]
    rw [ha, hc]
    simp only [go_sem, cond, Nat.reduceAdd, Nat.reduceLeDiff, Nat.reduceEqDiff, Nat.reduceBEq, decide_true, decide_false, Int.toNat_natCast, Rm.enc, r]
    refine call_eq (copied_ok w0 _ R xa xb xc xd (hr.old _)) ?_
    simp only [go_sem, cond, Nat.reduceAdd, Nat.reduceLeDiff, Nat.reduceEqDiff, Nat.reduceBEq, decide_true, decide_false, Int.toNat_natCast, Rm.enc, r, obsR, adR]
    exact ⟨_, [4, 5], _, rfl, pl2 R.ms R.ks rfl rfl, by decide, ren_roomT H R false rfl rfl, rfl, rfl⟩
end Go.Proofs.YtmacpgoclhgafaaDoorW.FA
namespace Go.Proofs.YtmacpgoclhgafaaDoorW.FA
open Go.RowKit Go.Proofs.YtmacpgoclhgafaaDoorW.XM Go.Proofs Go.Proofs.YtmacpgoclhgafaaDoorW.XWords
set_option maxRecDepth 100000
set_option linter.unusedSimpArgs false
variable (w0 : World) (H : Hp)
theorem sub1_nn {a : Int} {n : Nat} (h : 0 ≤ sub1 a n) : (n : Int) ≤ a ∧ sub1 a n = a - n := by
  unfold sub1 at h ⊢
  split at h
  · omega
  · rename_i h2
    rw [if_neg h2]
    omega
theorem szMs_nn : ∀ (l : List Mem) (a : Int), 0 ≤ szMs l a → szMs l a ≤ a ∧ 0 ≤ a ∧ ∀ m ∈ l, (m.user.size : Int) ≤ a ∧ (m.nick.size : Int) ≤ a
  | [], a, h => ⟨Int.le_refl _, h, fun m hm => by cases hm⟩
  | m :: r, a, h => by
    obtain ⟨h1, h2, h3⟩ := szMs_nn r (szM m a) h
    have g2 := sub1_nn (show 0 ≤ sub1 (sub1 a m.user.size) m.nick.size from h2)
    have g1 := sub1_nn (show 0 ≤ sub1 a m.user.size by omega)
    have e : szM m a = sub1 (sub1 a m.user.size) m.nick.size := rfl
    refine ⟨?_, by omega, fun x hx => ?_⟩
    · show szMs r (szM m a) ≤ a
      omega
    · rcases List.mem_cons.1 hx with rfl | hx
      · omega
      · have := h3 x hx; omega
theorem szKs_nn : ∀ (l : List Rk) (a : Int), 0 ≤ szKs l a → szKs l a ≤ a ∧ 0 ≤ a ∧ ∀ m ∈ l, (m.user.size : Int) ≤ a
  | [], a, h => ⟨Int.le_refl _, h, fun m hm => by cases hm⟩
  | m :: r, a, h => by
    obtain ⟨h1, h2, h3⟩ := szKs_nn r (szK m a) h
    have g1 := sub1_nn (show 0 ≤ sub1 a m.user.size from h2)
    have e : szK m a = sub1 a m.user.size := rfl
    refine ⟨?_, by omega, fun x hx => ?_⟩
    · show szKs r (szK m a) ≤ a
      omega
    · rcases List.mem_cons.1 hx with rfl | hx
      · omega
      · have := h3 x hx; omega
theorem szR_nn {R : Rm} {a : Int} (ha : a ≤ 1048576) (h : 0 ≤ szR R a) : Big R ∧ R.ms.length ≤ 1048576 ∧ R.ks.length ≤ 1048576 ∧ szR R a ≤ a := by
  have e : szR R a = sub1 (szKs R.ks (sub1 (szMs R.ms (sub1 (sub1 a R.name.size) R.ms.length)) R.ks.length)) R.subj.size := rfl
  rw [e] at h ⊢
  have g5 := sub1_nn h
  have g4 := szKs_nn R.ks _ (by omega : 0 ≤ szKs R.ks (sub1 (szMs R.ms (sub1 (sub1 a R.name.size) R.ms.length)) R.ks.length))
  have g3 := sub1_nn g4.2.1
  have g2 := szMs_nn R.ms _ (by omega : 0 ≤ szMs R.ms (sub1 (sub1 a R.name.size) R.ms.length))
  have g1 := sub1_nn g2.2.1
  have g0 := sub1_nn (by omega : 0 ≤ sub1 a R.name.size)
  exact ⟨Big.of_mem (by omega) (by omega) (fun m hm => by have := g2.2.2 m hm; omega) (fun m hm => by have := g4.2.2 m hm; omega), by omega, by omega, by omega⟩
theorem szE_nn {e : En} {a : Int} (ha : a ≤ 1048576) (h : 0 ≤ szE e a) : BigE e := by
  have e0 : szE e a = sub1 (sub1 (sub1 (sub1 (sub1 (sub1 a e.room.size) e.user.size) e.nick.size) e.text.size) e.id.size) e.ref.size := rfl
  rw [e0] at h
  have g6 := sub1_nn h
  have g5 := sub1_nn (by omega : 0 ≤ sub1 (sub1 (sub1 (sub1 (sub1 a e.room.size) e.user.size) e.nick.size) e.text.size) e.id.size)
  have g4 := sub1_nn (by omega : 0 ≤ sub1 (sub1 (sub1 (sub1 a e.room.size) e.user.size) e.nick.size) e.text.size)
  have g3 := sub1_nn (by omega : 0 ≤ sub1 (sub1 (sub1 a e.room.size) e.user.size) e.nick.size)
  have g2 := sub1_nn (by omega : 0 ≤ sub1 (sub1 a e.room.size) e.user.size)
  have g1 := sub1_nn (by omega : 0 ≤ sub1 a e.room.size)
  exact ⟨by omega, by omega, by omega, by omega, by omega, by omega⟩
theorem eqZ_refl {α : Type} (p : α → α → Bool) (hp : ∀ a, p a a = true) : ∀ l : List α, eqZ p l l = true
  | [] => rfl
  | a :: r => by rw [eqZ, hp, eqZ_refl p hp r]; rfl
theorem eqRB_refl (R : Rm) : eqRB R R = true := by
  unfold eqRB eqLs
  rw [eqZ_refl eqMB (fun a => by simp [eqMB]), eqZ_refl eqKB (fun a => by simp [eqKB])]
  simp
theorem mkMs_len (n k : Nat) : (mkMs n k).length = n := by simp [mkMs]
theorem mkKs_len (n k : Nat) : (mkKs n k).length = n := by simp [mkKs]
theorem heldMs_go : ∀ (l : List Nat) (s k : Nat), (∀ i (h : i < l.length), l[i] = s + i) → heldMs (l.map (mkM k)) (k + 3 * s) = ((k + 3 * (s + l.length) : Nat) : Int)
  | [], s, k, _ => rfl
  | a :: r, s, k, h => by
    obtain rfl : a = s := h 0 (by simp)
    have ih := heldMs_go r (a + 1) k (fun i hi => by have := h (i + 1) (by simpa using hi); simp at this; omega)
    rw [List.map_cons, heldMs, if_pos (by simp [mkM]), if_pos (by simp [mkM]), if_pos (by simp [mkM]), show k + 3 * a + 3 = k + 3 * (a + 1) by omega, ih, List.length_cons]
    congr 1; omega
theorem heldKs_go : ∀ (l : List Nat) (s k : Nat), (∀ i (h : i < l.length), l[i] = s + i) → heldKs (l.map (mkK k)) (k + 2 * s) = ((k + 2 * (s + l.length) : Nat) : Int)
  | [], s, k, _ => rfl
  | a :: r, s, k, h => by
    obtain rfl : a = s := h 0 (by simp)
    have ih := heldKs_go r (a + 1) k (fun i hi => by have := h (i + 1) (by simpa using hi); simp at this; omega)
    rw [List.map_cons, heldKs, if_pos (by simp [mkK]), if_pos (by simp [mkK]), show k + 2 * a + 2 = k + 2 * (a + 1) by omega, ih, List.length_cons]
    congr 1; omega
theorem heldMs_mkMs (n k : Nat) : heldMs (mkMs n k) k = ((k + 3 * n : Nat) : Int) := by
  have := heldMs_go (List.range n) 0 k (fun i h => by simp)
  simpa [mkMs] using this
theorem heldKs_mkKs (n k : Nat) : heldKs (mkKs n k) k = ((k + 2 * n : Nat) : Int) := by
  have := heldKs_go (List.range n) 0 k (fun i h => by simp)
  simpa [mkKs] using this
theorem heldMark_ok (B : Hp) (l : List (Option Ob)) (i j : Nat) (R : Rm) (k : Nat) (hi : l[i]? = some (some (.row 60 (flat Mem.enc (mkMs R.ms.length k))))) (hj : l[j]? = some (some (.row 58 (flat Rk.enc (mkKs R.ks.length (k + 3 * R.ms.length)))))) (lm : R.ms.length ≤ 1048576) (lk : R.ks.length ≤ 1048576) (h1 : k ≤ 1000000) :
    AFn Tryd.prog w0 17 #[.agg (R.enc (adR B R i j)).toArray, .int .i64 k] (Hx B l) fun v H2 => v = .int .i64 ((k + 3 * R.ms.length + 2 * R.ks.length : Nat) : Int) ∧ H2 = Hx B l := by
  have e1 := mkMs_len R.ms.length k
  have e2 := mkKs_len R.ks.length (k + 3 * R.ms.length)
  have h := heldRoom_ok w0 (Hx B l) ⟨R.name, R.next, mkMs R.ms.length k, mkKs R.ks.length (k + 3 * R.ms.length), R.subj⟩ (adR B R i j) k (by have := Sl_own (w0 := w0) mlen _ (mkMs R.ms.length k) B l i hi; rw [e1] at this; exact this) (by have := Sl_own (w0 := w0) klen _ (mkKs R.ks.length (k + 3 * R.ms.length)) B l j hj; rw [e2] at this; exact this) (by simp only [e1]; exact lm) (by simp only [e2]; exact lk) (by omega)
  have e3 : heldR ⟨R.name, R.next, mkMs R.ms.length k, mkKs R.ks.length (k + 3 * R.ms.length), R.subj⟩ k = ((k + 3 * R.ms.length + 2 * R.ks.length : Nat) : Int) := by
    unfold heldR
    simp only [heldMs_mkMs, e1, heldKs_mkKs]
    rw [if_neg (by omega), if_neg (by omega)]
  rw [e3] at h
  have e4 : Rm.enc ⟨R.name, R.next, mkMs R.ms.length k, mkKs R.ks.length (k + 3 * R.ms.length), R.subj⟩ (adR B R i j) = R.enc (adR B R i j) := by simp only [Rm.enc, e1, e2]
  rw [e4] at h
  exact h
/-! a room that is none -/
def zrm : Rm := ⟨em, 0, [], [], em⟩
theorem zrm_at : RmAt w0 H zrm ⟨none, 0, none, 0⟩ := ⟨.inl rfl, .inl rfl, Nat.zero_le _, Nat.zero_le _, fun L => rfl, fun L => rfl⟩
theorem markM0_ok (c : Nat) (k : Nat) : AFn Tryd.prog w0 55 #[.slice none 0 c, .int .i64 k] H fun v H2 => v = .int .i64 k ∧ H2 = H := by
  refine AFn.scal rfl Tryd.func55 rfl (by kernel_rfl) ?_
  have r := Tryd.results55
  simp only [go_sem, cond, Nat.reduceAdd, Nat.reduceLeDiff, Nat.reduceEqDiff, Nat.reduceBEq, decide_true, decide_false, Int.toNat_natCast, r]
  refine xw_loop (fun (_ : Unit) T H' => T 0 = .slice none 0 c ∧ T 1 = .int .i64 k ∧ T 5 = .int .i64 0 ∧ H' = Hx H []) (fun _ => 0) () (by kernel_rfl) ⟨rfl, rfl, rfl, rfl⟩ ?_
  rintro _ T H' ⟨t0, t1, t5, rfl⟩
  have d1 : ((0 : Int) < ((0 : Nat) : Int)) = False := eq_false (by omega)
  simp only [go_sem, cond, Nat.reduceAdd, Nat.reduceLeDiff, Nat.reduceEqDiff, Nat.reduceBEq, decide_true, decide_false, Int.toNat_natCast, t0, t1, t5, d1, r]
  exact ⟨_, rfl⟩
theorem markK0_ok (c : Nat) (k : Nat) : AFn Tryd.prog w0 56 #[.slice none 0 c, .int .i64 k] H fun v H2 => v = .int .i64 k ∧ H2 = H := by
  refine AFn.scal rfl Tryd.func56 rfl (by kernel_rfl) ?_
  have r := Tryd.results56
  simp only [go_sem, cond, Nat.reduceAdd, Nat.reduceLeDiff, Nat.reduceEqDiff, Nat.reduceBEq, decide_true, decide_false, Int.toNat_natCast, r]
  refine xw_loop (fun (_ : Unit) T H' => T 0 = .slice none 0 c ∧ T 1 = .int .i64 k ∧ T 5 = .int .i64 0 ∧ H' = Hx H []) (fun _ => 0) () (by kernel_rfl) ⟨rfl, rfl, rfl, rfl⟩ ?_
  rintro _ T H' ⟨t0, t1, t5, rfl⟩
  have d1 : ((0 : Int) < ((0 : Nat) : Int)) = False := eq_false (by omega)
  simp only [go_sem, cond, Nat.reduceAdd, Nat.reduceLeDiff, Nat.reduceEqDiff, Nat.reduceBEq, decide_true, decide_false, Int.toNat_natCast, t0, t1, t5, d1, r]
  exact ⟨_, rfl⟩
theorem markZ_ok (k : Nat) : AFn Tryd.prog w0 16 #[zRoom, .int .i64 k] H fun v H2 => v = .int .i64 k ∧ H2 = H := by
  refine AFn.scal rfl Tryd.func16 rfl (by kernel_rfl) ?_
  have r := Tryd.results16
  simp only [go_sem, cond, Nat.reduceAdd, Nat.reduceLeDiff, Nat.reduceEqDiff, Nat.reduceBEq, decide_true, decide_false, Int.toNat_natCast, r]
  simp only [go_sem, cond, Nat.reduceAdd, Nat.reduceLeDiff, Nat.reduceEqDiff, Nat.reduceBEq, decide_true, decide_false, Int.toNat_natCast, zRoom, r]
  refine call_eq (markM0_ok _ _ _ _) ?_
  simp only [go_sem, cond, Nat.reduceAdd, Nat.reduceLeDiff, Nat.reduceEqDiff, Nat.reduceBEq, decide_true, decide_false, Int.toNat_natCast, r]
  refine call_eq (markK0_ok _ _ _ _) ?_
  simp only [go_sem, cond, Nat.reduceAdd, Nat.reduceLeDiff, Nat.reduceEqDiff, Nat.reduceBEq, decide_true, decide_false, Int.toNat_natCast, r]
  exact ⟨_, rfl⟩
end Go.Proofs.YtmacpgoclhgafaaDoorW.FA
namespace Go.Proofs.YtmacpgoclhgafaaDoorW.XM
open Go.RowKit
section
variable {P : Program} {w0 : World}
inductive QT2 where
  | z
  | q (i : Nat) (r : QT2)
  | e (i : Nat) (r : QT2)
  | b (i : Nat) (r : QT2) (j : Nat) (s : QT2)
def QT2.len : QT2 → Nat
  | .z => 0
  | .q _ r => r.len + 1
  | .e _ r => r.len + 1
  | .b _ r _ _ => r.len + 1
def xdT (P : Program) (w0 : World) (ops : Array Oper) (Q : Ts → Hp → Prop) : QT2 → List Pd → Ts → Hp → Prop
  | .z, _, T, H => Q T H
  | .q i r, pd, T, H => match ops[i]? with
    | none => False
    | some o => if wan o ops T = true then ∃ v, Yl P w0 o.op T H v ∧ xdT P w0 ops Q r (⟨i, o.op, T, v⟩ :: pd) (upd T o.dst v) H else xdT P w0 ops Q r pd (upd T o.dst undef) H
  | .e i r, pd, T, H => match ops[i]? with
    | none => False
    | some o => if wan o ops T = true then xo P w0 o.op (ev T) H (fun v H2 => pendOk P w0 ops i H2 pd ∧ xdT P w0 ops Q r pd (upd T o.dst v) H2) else xdT P w0 ops Q r pd (upd T o.dst undef) H
  | .b i r j s, pd, T, H => (match ops[i]? with
    | none => False
    | some o => if wan o ops T = true then xo P w0 o.op (ev T) H (fun v H2 => pendOk P w0 ops i H2 pd ∧ xdT P w0 ops Q r pd (upd T o.dst v) H2) else xdT P w0 ops Q r pd (upd T o.dst undef) H) ∧ (match ops[j]? with
    | none => False
    | some o => if wan o ops T = true then xo P w0 o.op (ev T) H (fun v H2 => pendOk P w0 ops j H2 pd ∧ xdT P w0 ops Q s pd (upd T o.dst v) H2) else xdT P w0 ops Q s pd (upd T o.dst undef) H)
def planBT (ops : Array Oper) : QT2 → Array Bool → Bool
  | .z, listed => (Region.ready .any ops listed).isEmpty
  | .q i r, listed => (Region.ready .any ops listed).contains i && freeB ops listed i && planBT ops r (listed.setIfInBounds i true)
  | .e i r, listed => (Region.ready .any ops listed) == [i] && planBT ops r (listed.setIfInBounds i true)
  | .b i r j s, listed => ((Region.ready .any ops listed) == [i, j] || (Region.ready .any ops listed) == [j, i]) && (r.len == s.len && (planBT ops r (listed.setIfInBounds i true) && planBT ops s (listed.setIfInBounds j true)))
theorem xdT_ok {ops : Array Oper} {Q : Ts → Hp → Prop} : ∀ (l : QT2) (pd : List Pd) (listed : Array Bool) (T : Ts) (H : Hp), planBT ops l listed = true → Closed ops listed → xdT P w0 ops Q l pd T H →
    XA P w0 ops Q (fun j H' => pendOk P w0 ops j H' pd) l.len listed T H
  | .z, pd, listed, T, H, hp, hc, h => ⟨by simpa [planBT] using hp, h⟩
  | .q i r, pd, listed, T, H, hp, hc, h => by
    simp only [planBT, Bool.and_eq_true] at hp
    obtain ⟨⟨p1, p2⟩, p3⟩ := hp
    have hr : i ∈ Region.ready .any ops listed := by simpa using p1
    simp only [xdT] at h
    cases ho : ops[i]? with
    | none => rw [ho] at h; exact h.elim
    | some o =>
      rw [ho] at h
      simp only at h
      have hfree : ∀ j oj, ops[j]? = some oj → j ≠ i → listed.getD j true = false → anc ops ops.size i j = false → o.apart ops oj = true := fun j oj hj hne hl ha => by
        unfold freeB at p2
        rw [ho] at p2
        have := List.all_eq_true.1 p2 j (List.mem_range.2 (Array.getElem?_eq_some_iff.1 hj).1)
        rw [hj] at this
        simp only [Bool.or_eq_true, beq_iff_eq, hl, ha] at this
        simp only [hne, Bool.false_eq_true, false_or] at this
        exact this
      split at h
      · rename_i hw
        obtain ⟨v, h1, h2⟩ := h
        have := xdT_ok r _ _ _ _ p3 (hc.set hr) h2
        refine XA_first ho ops.size r.len hc hr hfree hw (fun _ => h1) (by simp) (XA.mono (fun j H' hh => ?_) _ this)
        simp only [pendOk] at hh
        refine ⟨hh.2, ?_⟩
        have h3 := hh.1
        split at h3
        · rename_i e; exact .inl e
        · exact .inr (.inr h3)
      · rename_i hw
        have := xdT_ok r _ _ _ _ p3 (hc.set hr) h
        exact XA_first (v := undef) (wn := false) ho ops.size r.len hc hr hfree (by simpa using hw) (by simp) (fun _ => rfl) (XA.mono (fun j H' hh => ⟨hh, .inr (.inl rfl)⟩) _ this)
  | .e i r, pd, listed, T, H, hp, hc, h => by
    simp only [planBT, Bool.and_eq_true, beq_iff_eq] at hp
    obtain ⟨p1, p3⟩ := hp
    have hr : i ∈ Region.ready .any ops listed := by rw [p1]; simp
    simp only [xdT] at h
    refine ⟨fun e => (by rw [p1] at e; cases e), fun j hj => ?_⟩
    rw [p1] at hj
    simp only [List.mem_singleton] at hj
    subst hj
    unfold xop1
    cases ho : ops[j]? with
    | none => rw [ho] at h; exact h.elim
    | some o =>
      rw [ho] at h
      simp only at h ⊢
      split at h
      · rename_i hw
        rw [if_pos hw]
        exact xo_mono (fun v H2 hh => ⟨.inr hh.1, xdT_ok r _ _ _ _ p3 (hc.set hr) hh.2⟩) h
      · rename_i hw
        rw [if_neg hw]
        exact ⟨.inl trivial, xdT_ok r _ _ _ _ p3 (hc.set hr) h⟩
  | .b i r j s, pd, listed, T, H, hp, hc, h => by
    simp only [planBT, Bool.and_eq_true, Bool.or_eq_true, beq_iff_eq] at hp
    obtain ⟨p1, p2, p3, p4⟩ := hp
    have hmem : ∀ k, k ∈ Region.ready .any ops listed → k = i ∨ k = j := fun k hk => by
      rcases p1 with p1 | p1 <;> (rw [p1] at hk; simp at hk; omega)
    have hne : Region.ready .any ops listed ≠ [] := by rcases p1 with p1 | p1 <;> (rw [p1]; simp)
    have one : ∀ (k : Nat) (t : QT2), k ∈ Region.ready .any ops listed → planBT ops t (listed.setIfInBounds k true) = true → t.len = r.len → (∀ (pd : List Pd) (listed : Array Bool) (T : Ts) (H : Hp), planBT ops t listed = true → Closed ops listed → xdT P w0 ops Q t pd T H → XA P w0 ops Q (fun j H' => pendOk P w0 ops j H' pd) t.len listed T H) → (match ops[k]? with
        | none => False
        | some o => if wan o ops T = true then xo P w0 o.op (ev T) H (fun v H2 => pendOk P w0 ops k H2 pd ∧ xdT P w0 ops Q t pd (upd T o.dst v) H2) else xdT P w0 ops Q t pd (upd T o.dst undef) H) →
        xop1 P w0 ops k T H fun T2 H2 => (H2 = H ∨ pendOk P w0 ops k H2 pd) ∧ XA P w0 ops Q (fun j H' => pendOk P w0 ops j H' pd) r.len (listed.setIfInBounds k true) T2 H2 := fun k t hk hp2 hl ih hh => by
      unfold xop1
      cases ho : ops[k]? with
      | none => rw [ho] at hh; exact hh.elim
      | some o =>
        rw [ho] at hh
        simp only at hh ⊢
        split at hh
        · rename_i hw
          rw [if_pos hw]
          exact xo_mono (fun v H2 hh => ⟨.inr hh.1, by rw [← hl]; exact ih _ _ _ _ hp2 (hc.set hk) hh.2⟩) hh
        · rename_i hw
          rw [if_neg hw]
          exact ⟨.inl trivial, by rw [← hl]; exact ih _ _ _ _ hp2 (hc.set hk) hh⟩
    simp only [xdT] at h
    refine ⟨fun e => absurd e hne, fun k hk => ?_⟩
    rcases hmem k hk with rfl | rfl
    · exact one k r hk p3 rfl (fun pd listed T H => xdT_ok r pd listed T H) h.1
    · exact one k s hk p4 p2.symm (fun pd listed T H => xdT_ok s pd listed T H) h.2
theorem xw_drawT {n id : Nat} {ops : Array Oper} {Q : QT} {T : Ts} {H : Hp} (plan : QT2) (hm : P.follows .mixedOrders = true) (hg : ops.all (goodO n) = true) (hp : (plan.len == ops.size && planBT ops plan (Array.replicate ops.size false)) = true) (h : xdT P w0 ops (Q .normal) plan [] T H) : xw P w0 n (.region id ops true) Q T H := by
  simp only [Bool.and_eq_true, beq_iff_eq] at hp
  intro H0 μ0 μ w a h1 h2 h3 h4
  refine wp_region_any hm ?_
  have hc : Closed ops (Array.replicate ops.size false) := fun j o hj => by
    by_cases hlt : j < ops.size <;> simp [Array.getD_eq_getD_getElem?, Array.getElem?_replicate, hlt] at hj
  have := xdT_ok plan [] _ T H hp.2 hc h
  rw [hp.1] at this
  exact XA_ok hg _ _ T H this H0 μ0 μ _ a h1.drew h2 h3 h4
inductive PT where
  | z
  | q (i : Nat) (r : PT)
  | l (i : Nat) (r : PT)
  | e (i : Nat) (r : PT)
  | d (i : Nat) (r : PT)
  | b (i : Nat) (r : PT) (j : Nat) (s : PT)
def PT.ps : PT → QT2
  | .z => .z
  | .q i r => .q i r.ps
  | .l i r => .q i r.ps
  | .e i r => .e i r.ps
  | .d _ r => r.ps
  | .b i r j s => .b i r.ps j s.ps
/-- Every operation that it does as it stands lies behind i. -/
def PT.aft (c : Nat → Bool) : PT → Bool
  | .z => true
  | .q _ r => r.aft c
  | .l _ r => r.aft c
  | .e j r => c j && r.aft c
  | .d _ r => r.aft c
  | .b i r j s => (c i && r.aft c) && (c j && s.aft c)
def xt (P : Program) (w0 : World) (l : List Oper) (Q : Ts → Hp → Prop) : PT → List Pd → Ts → Hp → Prop
  | .z, _, T, H => Q T H
  | .q i r, pd, T, H => match nth l i with
    | none => False
    | some o => if wan o l.toArray T = true then xo P w0 o.op (ev T) H (fun v H' => xt P w0 l Q r pd (upd T o.dst v) H') else xt P w0 l Q r pd (upd T o.dst undef) H
  | .l i r, pd, T, H => match nth l i with
    | none => False
    | some o => if wan o l.toArray T = true then xo P w0 o.op (ev T) H (fun v H' => xt P w0 l Q r (⟨i, o.op, T, v⟩ :: pd) (upd T o.dst v) H') else xt P w0 l Q r pd (upd T o.dst undef) H
  | .e i r, pd, T, H => match nth l i with
    | none => False
    | some o => if wan o l.toArray T = true then xo P w0 o.op (ev T) H (fun v H' => pdOk P w0 H' (xt P w0 l Q r pd (upd T o.dst v) H') pd) else xt P w0 l Q r pd (upd T o.dst undef) H
  | .d i r, pd, T, H => xt P w0 l Q r (drp i pd) T H
  | .b i r j s, pd, T, H => (match nth l i with
    | none => False
    | some o => if wan o l.toArray T = true then xo P w0 o.op (ev T) H (fun v H' => pdOk P w0 H' (xt P w0 l Q r pd (upd T o.dst v) H') pd) else xt P w0 l Q r pd (upd T o.dst undef) H) ∧ (match nth l j with
    | none => False
    | some o => if wan o l.toArray T = true then xo P w0 o.op (ev T) H (fun v H' => pdOk P w0 H' (xt P w0 l Q s pd (upd T o.dst v) H') pd) else xt P w0 l Q s pd (upd T o.dst undef) H)
def okPT (P : Program) (ops : Array Oper) : PT → Bool
  | .z => true
  | .q i r => (match ops[i]? with
    | some o => quiet P o.op || (isLoad o.op && r.aft fun j => anc ops ops.size i j)
    | none => false) && okPT P ops r
  | .l i r => (match ops[i]? with
    | some o => isLoad o.op
    | none => false) && okPT P ops r
  | .e _ r => okPT P ops r
  | .d i r => (r.aft fun j => anc ops ops.size i j) && okPT P ops r
  | .b _ r _ s => okPT P ops r && okPT P ops s
/-- What waits is as it was, whatever comes. -/
def Wt (P : Program) (w0 : World) (ops : Array Oper) (pm pd : List Pd) (t : PT) : Prop := ∀ p ∈ pd, (∀ H2, Yl P w0 p.o p.T H2 p.v) ∨ (t.aft fun j => anc ops ops.size p.i j) = true ∨ p ∈ pm
theorem xdT_xt {l : List Oper} {Q : Ts → Hp → Prop} : ∀ (pl : PT) (pm pd : List Pd) (T : Ts) (H : Hp), okPT P l.toArray pl = true → Wt P w0 l.toArray pm pd pl → xt P w0 l Q pl pm T H → xdT P w0 l.toArray Q pl.ps pd T H
  | .z, _, _, _, _, _, _, h => h
  | .q i r, pm, pd, T, H, hk, hp, h => by
    simp only [xt, nth_eq] at h
    simp only [PT.ps, xdT, List.getElem?_toArray]
    simp only [okPT, Bool.and_eq_true, List.getElem?_toArray] at hk
    have hp' : Wt P w0 l.toArray pm pd r := hp
    cases ho : l[i]? with
    | none => rw [ho] at h; exact h.elim
    | some o =>
      rw [ho] at h hk
      simp only at h hk ⊢
      split at h
      · rename_i hw
        rw [if_pos hw]
        obtain ⟨hk1, hk2⟩ := hk
        rw [Bool.or_eq_true] at hk1
        rcases hk1 with hq | hl
        · obtain ⟨v, h1, h2⟩ := xo_quiet hq h
          refine ⟨v, h1 H, xdT_xt r pm _ _ _ hk2 ?_ h2⟩
          intro p hm
          rcases List.mem_cons.1 hm with rfl | hm
          · exact .inl h1
          · exact hp' p hm
        · rw [Bool.and_eq_true] at hl
          obtain ⟨v, h1, h2⟩ := xo_loadO hl.1 h
          refine ⟨v, h1, xdT_xt r pm _ _ _ hk2 ?_ h2⟩
          intro p hm
          rcases List.mem_cons.1 hm with rfl | hm
          · exact .inr (.inl hl.2)
          · exact hp' p hm
      · rename_i hw
        rw [if_neg hw]
        exact xdT_xt r pm _ _ _ hk.2 hp' h
  | .l i r, pm, pd, T, H, hk, hp, h => by
    simp only [xt, nth_eq] at h
    simp only [PT.ps, xdT, List.getElem?_toArray]
    simp only [okPT, Bool.and_eq_true, List.getElem?_toArray] at hk
    have hp' : Wt P w0 l.toArray pm pd r := hp
    cases ho : l[i]? with
    | none => rw [ho] at h; exact h.elim
    | some o =>
      rw [ho] at h hk
      simp only at h hk ⊢
      split at h
      · rename_i hw
        rw [if_pos hw]
        obtain ⟨v, h1, h2⟩ := xo_loadO hk.1 h
        refine ⟨v, h1, xdT_xt r _ _ _ _ hk.2 ?_ h2⟩
        intro p hm
        rcases List.mem_cons.1 hm with rfl | hm
        · exact .inr (.inr List.mem_cons_self)
        · exact (hp' p hm).imp id (Or.imp id (List.mem_cons_of_mem _))
      · rename_i hw
        rw [if_neg hw]
        exact xdT_xt r _ _ _ _ hk.2 hp' h
  | .e i r, pm, pd, T, H, hk, hp, h => by
    simp only [xt, nth_eq] at h
    simp only [PT.ps, xdT, List.getElem?_toArray]
    simp only [okPT] at hk
    have hp' : Wt P w0 l.toArray pm pd r := fun p hm => (hp p hm).imp id (Or.imp (fun a => by simp only [PT.aft, Bool.and_eq_true] at a; exact a.2) id)
    cases ho : l[i]? with
    | none => rw [ho] at h; exact h.elim
    | some o =>
      rw [ho] at h
      simp only at h ⊢
      split at h
      · rename_i hw
        rw [if_pos hw]
        refine xo_mono (fun v H2 hh => ?_) h
        obtain ⟨h1, h2⟩ := pdOk_spec pm hh
        refine ⟨pend_ok pd fun p hm => ?_, xdT_xt r pm _ _ _ hk hp' h1⟩
        rcases hp p hm with a | a | a
        · exact .inl (a H2)
        · simp only [PT.aft, Bool.and_eq_true] at a
          exact .inr a.1
        · exact .inl (h2 p a)
      · rename_i hw
        rw [if_neg hw]
        exact xdT_xt r pm _ _ _ hk hp' h
  | .d i r, pm, pd, T, H, hk, hp, h => by
    simp only [okPT, Bool.and_eq_true] at hk
    refine xdT_xt r _ pd T H hk.2 (fun p hm => ?_) h
    rcases hp p hm with a | a | a
    · exact .inl a
    · exact .inr (.inl a)
    · rcases drp_mem (i := i) a with e | e
      · exact .inr (.inl (by rw [e]; exact hk.1))
      · exact .inr (.inr e)
  | .b i r j s, pm, pd, T, H, hk, hp, h => by
    simp only [xt, nth_eq] at h
    simp only [PT.ps, xdT, List.getElem?_toArray]
    simp only [okPT, Bool.and_eq_true] at hk
    have hp1 : Wt P w0 l.toArray pm pd r := fun p hm => (hp p hm).imp id (Or.imp (fun a => by simp only [PT.aft, Bool.and_eq_true] at a; exact a.1.2) id)
    have hp2 : Wt P w0 l.toArray pm pd s := fun p hm => (hp p hm).imp id (Or.imp (fun a => by simp only [PT.aft, Bool.and_eq_true] at a; exact a.2.2) id)
    refine ⟨?_, ?_⟩
    · replace h := h.1
      cases ho : l[i]? with
      | none => rw [ho] at h; exact h.elim
      | some o =>
        rw [ho] at h
        simp only at h ⊢
        split at h
        · rename_i hw
          rw [if_pos hw]
          refine xo_mono (fun v H2 hh => ?_) h
          obtain ⟨h1, h2⟩ := pdOk_spec pm hh
          refine ⟨pend_ok pd fun p hm => ?_, xdT_xt r pm _ _ _ hk.1 hp1 h1⟩
          rcases hp p hm with a | a | a
          · exact .inl (a H2)
          · simp only [PT.aft, Bool.and_eq_true] at a
            exact .inr a.1.1
          · exact .inl (h2 p a)
        · rename_i hw
          rw [if_neg hw]
          exact xdT_xt r pm _ _ _ hk.1 hp1 h
    · replace h := h.2
      cases ho : l[j]? with
      | none => rw [ho] at h; exact h.elim
      | some o =>
        rw [ho] at h
        simp only at h ⊢
        split at h
        · rename_i hw
          rw [if_pos hw]
          refine xo_mono (fun v H2 hh => ?_) h
          obtain ⟨h1, h2⟩ := pdOk_spec pm hh
          refine ⟨pend_ok pd fun p hm => ?_, xdT_xt s pm _ _ _ hk.2 hp2 h1⟩
          rcases hp p hm with a | a | a
          · exact .inl (a H2)
          · simp only [PT.aft, Bool.and_eq_true] at a
            exact .inr a.2.1
          · exact .inl (h2 p a)
        · rename_i hw
          rw [if_neg hw]
          exact xdT_xt s pm _ _ _ hk.2 hp2 h
def planMT (M : List Nat) (ops : Array Oper) : QT2 → Array Bool → Bool
  | .z, listed => (Region.ready .any ops listed).isEmpty
  | .q i r, listed => (Region.ready .any ops listed).contains i && (freeM M ops listed i && planMT M ops r (listed.setIfInBounds i true))
  | .e i r, listed => (Region.ready .any ops listed) == [i] && planMT M ops r (listed.setIfInBounds i true)
  | .b i r j s, listed => ((Region.ready .any ops listed) == [i, j] || (Region.ready .any ops listed) == [j, i]) && (Nat.beq r.len s.len && (planMT M ops r (listed.setIfInBounds i true) && planMT M ops s (listed.setIfInBounds j true)))
theorem planMT_ok {M : List Nat} {ops : Array Oper} (hM : chkM M ops = true) : ∀ (l : QT2) (listed : Array Bool), planMT M ops l listed = true → planBT ops l listed = true
  | .z, _, h => h
  | .q i r, listed, h => by
    simp only [planMT, Bool.and_eq_true] at h
    simp only [planBT, Bool.and_eq_true]
    exact ⟨⟨h.1, freeM_ok hM h.2.1⟩, planMT_ok hM r _ h.2.2⟩
  | .e i r, listed, h => by
    simp only [planMT, Bool.and_eq_true] at h
    simp only [planBT, Bool.and_eq_true]
    exact ⟨h.1, planMT_ok hM r _ h.2⟩
  | .b i r j s, listed, h => by
    simp only [planMT, Bool.and_eq_true] at h
    simp only [planBT, Bool.and_eq_true]
    exact ⟨h.1, beq_iff_eq.2 (Nat.eq_of_beq_eq_true h.2.1), planMT_ok hM r _ h.2.2.1, planMT_ok hM s _ h.2.2.2⟩
def okMT (P : Program) (M : List Nat) (ops : Array Oper) : PT → Bool
  | .z => true
  | .q i r => (match ops[i]? with
    | some o => quiet P o.op || (isLoad o.op && r.aft fun j => Nat.blt j ops.size && Nat.testBit (M.getD j 0) i)
    | none => false) && okMT P M ops r
  | .l i r => (match ops[i]? with
    | some o => isLoad o.op
    | none => false) && okMT P M ops r
  | .e _ r => okMT P M ops r
  | .d i r => (r.aft fun j => Nat.blt j ops.size && Nat.testBit (M.getD j 0) i) && okMT P M ops r
  | .b _ r _ s => okMT P M ops r && okMT P M ops s
theorem aft_mono {c c' : Nat → Bool} (h : ∀ j, c j = true → c' j = true) : ∀ t : PT, t.aft c = true → t.aft c' = true
  | .z, _ => rfl
  | .q _ r, a => aft_mono h r a
  | .l _ r, a => aft_mono h r a
  | .d _ r, a => aft_mono h r a
  | .e j r, a => by
    simp only [PT.aft, Bool.and_eq_true] at a ⊢
    exact ⟨h j a.1, aft_mono h r a.2⟩
  | .b i r j s, a => by
    simp only [PT.aft, Bool.and_eq_true] at a ⊢
    exact ⟨⟨h i a.1.1, aft_mono h r a.1.2⟩, h j a.2.1, aft_mono h s a.2.2⟩
theorem okMT_ok {M : List Nat} {ops : Array Oper} (hM : chkM M ops = true) : ∀ (l : PT), okMT P M ops l = true → okPT P ops l = true
  | .z, _ => rfl
  | .q i r, h => by
    simp only [okMT, Bool.and_eq_true] at h
    simp only [okPT, Bool.and_eq_true]
    refine ⟨?_, okMT_ok hM r h.2⟩
    have h1 := h.1
    cases ho : ops[i]? with
    | none => rw [ho] at h1; cases h1
    | some o =>
      rw [ho] at h1
      simp only [Bool.or_eq_true, Bool.and_eq_true] at h1 ⊢
      refine h1.imp id fun a => ⟨a.1, aft_mono (fun j hj => ?_) r a.2⟩
      simp only [Bool.and_eq_true, Nat.blt_eq] at hj
      exact mask_anc' hM hj.1 hj.2
  | .l i r, h => by
    simp only [okMT, Bool.and_eq_true] at h
    simp only [okPT, Bool.and_eq_true]
    exact ⟨h.1, okMT_ok hM r h.2⟩
  | .e i r, h => okMT_ok hM r h
  | .d i r, h => by
    simp only [okMT, Bool.and_eq_true] at h
    simp only [okPT, Bool.and_eq_true]
    refine ⟨aft_mono (fun j hj => ?_) r h.1, okMT_ok hM r h.2⟩
    simp only [Bool.and_eq_true, Nat.blt_eq] at hj
    exact mask_anc' hM hj.1 hj.2
  | .b _ r _ s, h => by
    simp only [okMT, Bool.and_eq_true] at h
    simp only [okPT, Bool.and_eq_true]
    exact ⟨okMT_ok hM r h.1, okMT_ok hM s h.2⟩
theorem xw_tree {n id : Nat} {l : List Oper} {Q : QT} {T : Ts} {H : Hp} (M : List Nat) (plan : PT) (hm : P.follows .mixedOrders = true) (hg : (l.toArray.all (goodO n) && (Nat.beq plan.ps.len l.toArray.size && (chkM M l.toArray && (planMT M l.toArray plan.ps (Array.replicate l.toArray.size false) && okMT P M l.toArray plan)))) = true) (h : xt P w0 l (Q .normal) plan [] T H) : xw P w0 n (.region id l.toArray true) Q T H := by
  simp only [Bool.and_eq_true] at hg
  obtain ⟨g1, g2, g3, g4, g5⟩ := hg
  refine xw_drawT plan.ps hm g1 ?_ (xdT_xt plan [] [] T H (okMT_ok g3 plan g5) (fun p hp => by cases hp) h)
  simp only [Bool.and_eq_true, beq_iff_eq]
  exact ⟨Nat.eq_of_beq_eq_true g2, planMT_ok g3 _ _ g4⟩
theorem pdOk_mono {H : Hp} {X Y : Prop} (h : X → Y) : ∀ (l : List Pd), pdOk P w0 H X l → pdOk P w0 H Y l
  | [], a => h a
  | _ :: r, a => ⟨a.1, pdOk_mono h r a.2⟩
/-- What is asked behind a region may be told beforehand. -/
theorem xt_mono {l : List Oper} {Q Q' : Ts → Hp → Prop} (hq : ∀ T H, Q' T H → Q T H) : ∀ (pl : PT) (pd : List Pd) (T : Ts) (H : Hp), xt P w0 l Q' pl pd T H → xt P w0 l Q pl pd T H
  | .z, _, T, H, h => hq T H h
  | .q i r, pd, T, H, h => by
    simp only [xt] at h ⊢
    cases ho : nth l i with
    | none => rw [ho] at h; exact h
    | some o =>
      rw [ho] at h
      simp only at h ⊢
      split at h
      · rename_i e; rw [if_pos e]; exact xo_mono (fun v H2 => xt_mono hq r _ _ _) h
      · rename_i e; rw [if_neg e]; exact xt_mono hq r _ _ _ h
  | .l i r, pd, T, H, h => by
    simp only [xt] at h ⊢
    cases ho : nth l i with
    | none => rw [ho] at h; exact h
    | some o =>
      rw [ho] at h
      simp only at h ⊢
      split at h
      · rename_i e; rw [if_pos e]; exact xo_mono (fun v H2 => xt_mono hq r _ _ _) h
      · rename_i e; rw [if_neg e]; exact xt_mono hq r _ _ _ h
  | .e i r, pd, T, H, h => by
    simp only [xt] at h ⊢
    cases ho : nth l i with
    | none => rw [ho] at h; exact h
    | some o =>
      rw [ho] at h
      simp only at h ⊢
      split at h
      · rename_i e; rw [if_pos e]; exact xo_mono (fun v H2 => pdOk_mono (xt_mono hq r _ _ _) pd) h
      · rename_i e; rw [if_neg e]; exact xt_mono hq r _ _ _ h
  | .d i r, pd, T, H, h => xt_mono hq r _ T H h
  | .b i r j s, pd, T, H, h => by
    simp only [xt] at h ⊢
    refine ⟨?_, ?_⟩
    · replace h := h.1
      cases ho : nth l i with
      | none => rw [ho] at h; exact h
      | some o =>
        rw [ho] at h
        simp only at h ⊢
        split at h
        · rename_i e; rw [if_pos e]; exact xo_mono (fun v H2 => pdOk_mono (xt_mono hq r _ _ _) pd) h
        · rename_i e; rw [if_neg e]; exact xt_mono hq r _ _ _ h
    · replace h := h.2
      cases ho : nth l j with
      | none => rw [ho] at h; exact h
      | some o =>
        rw [ho] at h
        simp only at h ⊢
        split at h
        · rename_i e; rw [if_pos e]; exact xo_mono (fun v H2 => pdOk_mono (xt_mono hq s _ _ _) pd) h
        · rename_i e; rw [if_neg e]; exact xt_mono hq s _ _ _ h
theorem xw_treeC {n id : Nat} {l : List Oper} {Q : QT} {T : Ts} {H : Hp} (M : List Nat) (plan : PT) (hm : P.follows .mixedOrders = true) (hg : (l.toArray.all (goodO n) && (Nat.beq plan.ps.len l.toArray.size && (chkM M l.toArray && (planMT M l.toArray plan.ps (Array.replicate l.toArray.size false) && okMT P M l.toArray plan)))) = true) (Q' : Ts → Hp → Prop) (h : xt P w0 l Q' plan [] T H) (hq : ∀ T H, Q' T H → Q .normal T H) : xw P w0 n (.region id l.toArray true) Q T H :=
  xw_tree M plan hm hg (xt_mono hq plan [] T H h)
/-! the steps as equations -/
def KTe (P : Program) (w0 : World) (l : List Oper) (Q : Ts → Hp → Prop) (r : PT) (pd : List Pd) (T : Ts) (d : Option Nat) : Value → Hp → Prop := fun v H => xt P w0 l Q r pd (upd T d v) H
@[go_sem] theorem KTe_app (l : List Oper) (Q : Ts → Hp → Prop) (r : PT) (pd : List Pd) (T : Ts) (d : Option Nat) (v : Value) (H : Hp) : KTe P w0 l Q r pd T d v H = xt P w0 l Q r pd (upd T d v) H := propext Iff.rfl
def KTl (P : Program) (w0 : World) (l : List Oper) (Q : Ts → Hp → Prop) (r : PT) (pd : List Pd) (T : Ts) (d : Option Nat) (i : Nat) (o : Op) : Value → Hp → Prop := fun v H => xt P w0 l Q r (⟨i, o, T, v⟩ :: pd) (upd T d v) H
@[go_sem] theorem KTl_app (l : List Oper) (Q : Ts → Hp → Prop) (r : PT) (pd : List Pd) (T : Ts) (d : Option Nat) (i : Nat) (o : Op) (v : Value) (H : Hp) : KTl P w0 l Q r pd T d i o v H = xt P w0 l Q r (⟨i, o, T, v⟩ :: pd) (upd T d v) H := propext Iff.rfl
def KTd (P : Program) (w0 : World) (l : List Oper) (Q : Ts → Hp → Prop) (r : PT) (pd : List Pd) (T : Ts) (d : Option Nat) : Value → Hp → Prop := fun v H => pdOk P w0 H (xt P w0 l Q r pd (upd T d v) H) pd
@[go_sem] theorem KTd_app (l : List Oper) (Q : Ts → Hp → Prop) (r : PT) (pd : List Pd) (T : Ts) (d : Option Nat) (v : Value) (H : Hp) : KTd P w0 l Q r pd T d v H = pdZ P w0 H pd (Lz.mk (X := xt P w0 l Q r pd (upd T d v) H)) := propext Iff.rfl
/-- The operation of a step: done as it stands (e), or waited for (l). -/
def XT (P : Program) (w0 : World) (l : List Oper) (Q : Ts → Hp → Prop) (k : Nat) (i : Nat) (r : PT) (pd : List Pd) (T : Ts) (H : Hp) : Option Oper → Prop
  | none => False
  | some o => if wan o l.toArray T = true then xo P w0 o.op (ev T) H (match k with
    | 0 => KTe P w0 l Q r pd T o.dst
    | 1 => KTl P w0 l Q r pd T o.dst i o.op
    | _ => KTd P w0 l Q r pd T o.dst) else xt P w0 l Q r pd (upd T o.dst undef) H
def Both {X Y : Prop} (_ : Lz X) (_ : Lz Y) : Prop := X ∧ Y
theorem Both_intro {X Y : Prop} {x : Lz X} {y : Lz Y} (h1 : X) (h2 : Y) : Both x y := ⟨h1, h2⟩
@[go_sem] theorem xt_z (l : List Oper) (Q : Ts → Hp → Prop) (pd : List Pd) (T : Ts) (H : Hp) : xt P w0 l Q .z pd T H = Q T H := propext Iff.rfl
@[go_sem] theorem xt_q (l : List Oper) (Q : Ts → Hp → Prop) (i : Nat) (r : PT) (pd : List Pd) (T : Ts) (H : Hp) : xt P w0 l Q (.q i r) pd T H = XT P w0 l Q 0 i r pd T H (nth l i) := by
  simp only [xt, XT]
  cases nth l i <;> rfl
@[go_sem] theorem xt_l (l : List Oper) (Q : Ts → Hp → Prop) (i : Nat) (r : PT) (pd : List Pd) (T : Ts) (H : Hp) : xt P w0 l Q (.l i r) pd T H = XT P w0 l Q 1 i r pd T H (nth l i) := by
  simp only [xt, XT]
  cases nth l i <;> rfl
@[go_sem] theorem xt_e (l : List Oper) (Q : Ts → Hp → Prop) (i : Nat) (r : PT) (pd : List Pd) (T : Ts) (H : Hp) : xt P w0 l Q (.e i r) pd T H = XT P w0 l Q 2 i r pd T H (nth l i) := by
  simp only [xt, XT]
  cases nth l i <;> rfl
@[go_sem] theorem xt_d (l : List Oper) (Q : Ts → Hp → Prop) (i : Nat) (r : PT) (pd : List Pd) (T : Ts) (H : Hp) : xt P w0 l Q (.d i r) pd T H = xt P w0 l Q r (drp i pd) T H := propext Iff.rfl
@[go_sem] theorem xt_b (l : List Oper) (Q : Ts → Hp → Prop) (i j : Nat) (r s : PT) (pd : List Pd) (T : Ts) (H : Hp) : xt P w0 l Q (.b i r j s) pd T H = Both (Lz.mk (X := XT P w0 l Q 2 i r pd T H (nth l i))) (Lz.mk (X := XT P w0 l Q 2 j s pd T H (nth l j))) := by
  simp only [xt, XT, Both]
  cases nth l i <;> cases nth l j <;> rfl
@[go_sem] theorem XT_0 (l : List Oper) (Q : Ts → Hp → Prop) (i : Nat) (r : PT) (pd : List Pd) (T : Ts) (H : Hp) (d : Option Tmp) (op : Op) (ty : TypeId) (ps : String) (af : Array Edge) :
    XT P w0 l Q 0 i r pd T H (some { dst := d, op := op, type := ty, pos := ps, after := af, guard := none }) = Do P w0 op T H (Lk.mk (K := KTe P w0 l Q r pd T d)) := propext Iff.rfl
@[go_sem] theorem XT_0g (l : List Oper) (Q : Ts → Hp → Prop) (i : Nat) (r : PT) (pd : List Pd) (T : Ts) (H : Hp) (d : Option Tmp) (op : Op) (ty : TypeId) (ps : String) (af : Array Edge) (j : Nat) (b : Bool) :
    XT P w0 l Q 0 i r pd T H (some { dst := d, op := op, type := ty, pos := ps, after := af, guard := some (j, b) }) = Br (atB T b (dstAt l j)) (Lz.mk (X := Do P w0 op T H (Lk.mk (K := KTe P w0 l Q r pd T d)))) (Lz.mk (X := xt P w0 l Q r pd (upd T d undef) H)) := by
  show (if wan _ _ T = true then _ else _) = _
  rw [wan_guard]
  rfl
@[go_sem] theorem XT_1 (l : List Oper) (Q : Ts → Hp → Prop) (i : Nat) (r : PT) (pd : List Pd) (T : Ts) (H : Hp) (d : Option Tmp) (op : Op) (ty : TypeId) (ps : String) (af : Array Edge) :
    XT P w0 l Q 1 i r pd T H (some { dst := d, op := op, type := ty, pos := ps, after := af, guard := none }) = Do P w0 op T H (Lk.mk (K := KTl P w0 l Q r pd T d i op)) := propext Iff.rfl
@[go_sem] theorem XT_1g (l : List Oper) (Q : Ts → Hp → Prop) (i : Nat) (r : PT) (pd : List Pd) (T : Ts) (H : Hp) (d : Option Tmp) (op : Op) (ty : TypeId) (ps : String) (af : Array Edge) (j : Nat) (b : Bool) :
    XT P w0 l Q 1 i r pd T H (some { dst := d, op := op, type := ty, pos := ps, after := af, guard := some (j, b) }) = Br (atB T b (dstAt l j)) (Lz.mk (X := Do P w0 op T H (Lk.mk (K := KTl P w0 l Q r pd T d i op)))) (Lz.mk (X := xt P w0 l Q r pd (upd T d undef) H)) := by
  show (if wan _ _ T = true then _ else _) = _
  rw [wan_guard]
  rfl
@[go_sem] theorem XT_2 (l : List Oper) (Q : Ts → Hp → Prop) (i : Nat) (r : PT) (pd : List Pd) (T : Ts) (H : Hp) (d : Option Tmp) (op : Op) (ty : TypeId) (ps : String) (af : Array Edge) :
    XT P w0 l Q 2 i r pd T H (some { dst := d, op := op, type := ty, pos := ps, after := af, guard := none }) = Do P w0 op T H (Lk.mk (K := KTd P w0 l Q r pd T d)) := propext Iff.rfl
@[go_sem] theorem XT_2g (l : List Oper) (Q : Ts → Hp → Prop) (i : Nat) (r : PT) (pd : List Pd) (T : Ts) (H : Hp) (d : Option Tmp) (op : Op) (ty : TypeId) (ps : String) (af : Array Edge) (j : Nat) (b : Bool) :
    XT P w0 l Q 2 i r pd T H (some { dst := d, op := op, type := ty, pos := ps, after := af, guard := some (j, b) }) = Br (atB T b (dstAt l j)) (Lz.mk (X := Do P w0 op T H (Lk.mk (K := KTd P w0 l Q r pd T d)))) (Lz.mk (X := xt P w0 l Q r pd (upd T d undef) H)) := by
  show (if wan _ _ T = true then _ else _) = _
  rw [wan_guard]
  rfl
end
end Go.Proofs.YtmacpgoclhgafaaDoorW.XM
namespace Go.Proofs.YtmacpgoclhgafaaDoorW.FA
open Go.RowKit Go.Proofs.YtmacpgoclhgafaaDoorW.XM Go.Proofs Go.Proofs.YtmacpgoclhgafaaDoorW.XWords
set_option maxRecDepth 100000
set_option linter.unusedSimpArgs false
variable (w0 : World) (H : Hp)
theorem room_lens {R : Rm} (h : roomB R = true) : R.ms.length ≤ 5 ∧ R.ks.length ≤ 6 := by
  simp only [roomB, Bool.and_eq_true, decide_eq_true_eq] at h
  exact ⟨h.2.2.2.1.2, h.2.2.2.2.1.2⟩
theorem outR_len {R : Rm} {e : En} (h1 : R.ms.length ≤ 5) (h2 : R.ks.length ≤ 6) : (outR R e).ms.length ≤ 1000 ∧ (outR R e).ks.length ≤ 1000 := by
  have := applyR_len R e
  unfold outR
  split <;> omega
/-- What stands behind the reference's answer, in whatever order it was laid down. -/
def Cut8 (w0 : World) (H : Hp) (R : Rm) (x : Ad) (e : En) (X : Rm) (cb : Bool) (T : Ts) (H' : Hp) : Prop := ∃ (l : List (Option Ob)) (i j k : Nat), H' = Hx H l ∧ T 2 = .pointer (some ⟨nid H 0, 0, some 5⟩) ∧ T 3 = .pointer (some ⟨nid H 1, 0, some 9⟩) ∧ T 6 = .pointer (some ⟨nid H k, 0, some 5⟩) ∧ T 7 = .bool cb ∧
  (∀ L, rd w0 (Hx (Hx H l) L) ⟨nid H 0, 0, some 5⟩ 5 = some (R.enc x)) ∧ (∀ L, rd w0 (Hx (Hx H l) L) ⟨nid H 1, 0, some 9⟩ 9 = some e.enc) ∧ (∀ L, rd w0 (Hx (Hx H l) L) ⟨nid H k, 0, some 5⟩ 5 = some (X.enc (adR H X i j))) ∧ ∀ L, RmAt w0 (Hx (Hx H l) L) X (adR H X i j)
set_option maxHeartbeats 20000000 in
theorem law_yes (R : Rm) (x : Ad) (e : En) (hT : Tabs w0) (hR : roomB R = true) (hr : ∀ H, RmAt w0 H R x ∨ 1048576 < R.ms.length ∨ 1048576 < R.ks.length) (hsm : ∀ H, Sl w0 H x.a 3 (R.ms.map Mem.enc)) (hsk : ∀ H, Sl w0 H x.b 2 (R.ks.map Rk.enc)) (hw : Wf R) (g0 : e.room.size ≤ 9223372036854775807) (g1 : e.user.size ≤ 9223372036854775807) (g2 : e.nick.size ≤ 9223372036854775807) (g3 : e.text.size ≤ 9223372036854775807) (g4 : e.id.size ≤ 9223372036854775807) (g5 : e.ref.size ≤ 9223372036854775807) :
    AFn Tryd.prog w0 3 #[.agg (R.enc x).toArray, .agg e.enc.toArray] H fun v H2 => v = .bool true ∧ H2 = H := by
  refine AFn.scal rfl Tryd.func3 rfl (by kernel_rfl) ?_
  have r := Tryd.results3
  simp only [go_sem, cond, Nat.reduceAdd, Nat.reduceLeDiff, Nat.reduceEqDiff, Nat.reduceBEq, decide_true, decide_false, Int.toNat_natCast, r]
  simp only [go_sem, cond, Nat.reduceAdd, Nat.reduceLeDiff, Nat.reduceEqDiff, Nat.reduceBEq, decide_true, decide_false, Int.toNat_natCast, Rm.enc, En.enc, r]
  refine call_eq (szRoom_ok _ _ R x 1048576 (hsm _) (hsk _) hw (by omega) (by omega)) ?_
  simp only [go_sem, cond, Nat.reduceAdd, Nat.reduceLeDiff, Nat.reduceEqDiff, Nat.reduceBEq, decide_true, decide_false, Int.toNat_natCast, r]
  refine Br_intro ?_ ?_ <;> intro h <;> simp only [go_sem, cond, Nat.reduceAdd, Nat.reduceLeDiff, Nat.reduceEqDiff, Nat.reduceBEq, decide_true, decide_false, Int.toNat_natCast, h, r]
  · exact ⟨_, rfl⟩
  have h := of_decide_eq_false h
  obtain ⟨hb, lm, lk, hle⟩ := szR_nn (Int.le_refl _) (by omega : 0 ≤ szR R 1048576)
  have hr := fun H => (hr H).resolve_right (by omega)
  obtain ⟨a, ha⟩ : ∃ a, a = szR R 1048576 := ⟨_, rfl⟩
  rw [← ha] at h hle ⊢
  refine call_eq (szEntry_ok _ _ e a (by omega) (by omega) g0 g1 g2 g3 g4 g5) ?_
  simp only [go_sem, cond, Nat.reduceAdd, Nat.reduceLeDiff, Nat.reduceEqDiff, Nat.reduceBEq, decide_true, decide_false, Int.toNat_natCast, r]
  refine Br_intro ?_ ?_ <;> intro h2 <;> simp only [go_sem, cond, Nat.reduceAdd, Nat.reduceLeDiff, Nat.reduceEqDiff, Nat.reduceBEq, decide_true, decide_false, Int.toNat_natCast, h2, r]
  · exact ⟨_, rfl⟩
  have h2 := of_decide_eq_false h2
  have he := szE_nn hle (by omega : 0 ≤ szE e a)
  clear h h2 ha hle g0 g1 g2 g3 g4 g5 hw hsm hsk
  obtain ⟨lm5, lk6⟩ := room_lens hR
  have hXl := outR_len (e := e) lm5 lk6
  have cS : ∀ (H : Hp) (x : Ad), RmAt w0 H R x → RmOw w0 H R x → AFn Tryd.prog w0 11 #[.agg (R.enc x).toArray, .agg e.enc.toArray] H fun v H2 => v = .tuple #[.agg ((outR R e).enc (adR H (outR R e) 0 1)).toArray, .bool (canB R e)] ∧ H2 = Hx H (obsR (outR R e)) := fun H x h1 h2 => RoomApplyS_ok w0 H R x e h1 h2 hb he (by omega) (by omega) hR
  have cI : ∀ (H : Hp) (xa xb : Addr) (xc xd : Nat), RmAt w0 H R ⟨some xa, xc, some xb, xd⟩ → (∀ L, Old (Hx H L) R ⟨some xa, xc, some xb, xd⟩) → AFn Tryd.prog w0 14 #[.agg (R.enc ⟨some xa, xc, some xb, xd⟩).toArray, .agg e.enc.toArray] H fun v H2 => v = .tuple #[.agg ((outR R e).enc (adR H (outR R e) 0 1)).toArray, .bool (canB R e)] ∧ H2 = Hx H (obsR (outR R e)) := fun H xa xb xc xd h1 h2 => RoomApplyI_ok w0 H R xa xb xc xd e hT h1 hb he lm5 lk6 hR h2
  generalize outR R e = X at *
  generalize canB R e = cb at *
  obtain ⟨om, ok⟩ := hXl
  have bnn : ∀ c : Bool, xBin Tryd.prog .neq 4 c (.bool cb) (.bool cb) = some (.bool false) := fun c => by simp [xBin, XF.isB_4]
  have negN : ∀ n : Nat, decide ((n : Int) < 0) = false := fun n => decide_eq_false (by omega)
  (refine xw_treeC (id := 8) [0, 1, 0, 7, 15, 31, 63, 63, 0, 383, 1023] (.l 0 (.l 2 (.b 1 (.b 3 (.b 4 (.q 5 (.q 6 (.q 7 (.e 8 (.d 0 (.d 2 (.e 9 (.q 10 .z)))))))) 8 (.d 0 (.d 2 (.e 4 (.q 5 (.q 6 (.q 7 (.e 9 (.q 10 .z))))))))) 8 (.d 0 (.d 2 (.e 3 (.e 4 (.q 5 (.q 6 (.q 7 (.e 9 (.q 10 .z)))))))))) 8 (.d 0 (.e 1 (.d 2 (.e 3 (.e 4 (.q 5 (.q 6 (.q 7 (.e 9 (.q 10 .z))))))))))))) rfl (by kernel_rfl) (Cut8 w0 H R x e X cb) ?_ ?_)
  · simp only [go_sem, cond, Nat.reduceAdd, Nat.reduceLeDiff, Nat.reduceEqDiff, Nat.reduceBEq, decide_true, decide_false, Int.toNat_natCast, r]
    repeat' (first
      | (refine Both_intro ?_ ?_ <;> simp only [go_sem, cond, Nat.reduceAdd, Nat.reduceLeDiff, Nat.reduceEqDiff, Nat.reduceBEq, decide_true, decide_false, Int.toNat_natCast, r])
      | (refine call_eq (toRoom_ok _ _ R _ (hr _)) ?_; simp only [go_sem, cond, Nat.reduceAdd, Nat.reduceLeDiff, Nat.reduceEqDiff, Nat.reduceBEq, decide_true, decide_false, Int.toNat_natCast, r, obsR, adR, Rm.enc])
      | (refine call_eq (toEntry_ok _ _ e) ?_; simp only [go_sem, cond, Nat.reduceAdd, Nat.reduceLeDiff, Nat.reduceEqDiff, Nat.reduceBEq, decide_true, decide_false, Int.toNat_natCast, r, En.enc])
      | (refine call_eq (cS _ _ (RmAt_own (B := H) rfl rfl (by omega) (by omega)) (RmOw_own (B := H) rfl)) ?_; simp only [go_sem, cond, Nat.reduceAdd, Nat.reduceLeDiff, Nat.reduceEqDiff, Nat.reduceBEq, decide_true, decide_false, Int.toNat_natCast, r, obsR, adR, Rm.enc]))
    all_goals exact ⟨_, _, _, _, rfl, rfl, rfl, rfl, rfl, fun L => rd_old (by rw [rd_own]; rfl) L, fun L => rd_old (by rw [rd_own]; rfl) L, fun L => rd_old (by rw [rd_own]; rfl) L, fun L => (RmAt_own (B := H) rfl rfl (by omega) (by omega)).old L⟩
  · rintro T H' ⟨l, i, j, k, rfl, t2, t3, t6, t7, c2, c3, c6, hX2⟩
    rw [← Hx_nil (Hx H l)]
    obtain ⟨B, hB⟩ : ∃ B, B = Hx H l := ⟨_, rfl⟩
    rw [← hB] at c2 c3 c6 hX2 ⊢
    simp only [Rm.enc, En.enc, adR] at c2 c3 c6
    simp only [go_sem, cond, Nat.reduceAdd, Nat.reduceLeDiff, Nat.reduceEqDiff, Nat.reduceBEq, decide_true, decide_false, Int.toNat_natCast, r, t2, t3, t6, t7, c2, c3, c6]
    repeat' (first
      | (refine Both_intro ?_ ?_ <;> simp only [go_sem, cond, Nat.reduceAdd, Nat.reduceLeDiff, Nat.reduceEqDiff, Nat.reduceBEq, decide_true, decide_false, Int.toNat_natCast, r, t2, t3, t6, t7, c2, c3, c6, eqRB_refl, negN, bnn, beq_self_eq_true])
      | (refine xw_tree (id := 10) [0, 0, 2, 7, 15, 31, 31, 0, 191, 511] (.l 0 (.l 1 (.b 2 (.b 3 (.q 4 (.q 5 (.q 6 (.e 7 (.d 0 (.d 1 (.e 8 (.q 9 .z)))))))) 7 (.d 0 (.d 1 (.e 3 (.q 4 (.q 5 (.q 6 (.e 8 (.q 9 .z))))))))) 7 (.d 1 (.e 2 (.d 0 (.e 3 (.q 4 (.q 5 (.q 6 (.e 8 (.q 9 .z)))))))))))) rfl (by kernel_rfl) ?_; simp only [go_sem, cond, Nat.reduceAdd, Nat.reduceLeDiff, Nat.reduceEqDiff, Nat.reduceBEq, decide_true, decide_false, Int.toNat_natCast, r, t2, t3, t6, t7, c2, c3, c6])
      | (refine xw_tree (id := 13) [0, 0, 2, 7, 15] (.l 0 (.q 1 (.e 2 (.d 0 (.e 3 (.q 4 .z)))))) rfl (by kernel_rfl) ?_; simp only [go_sem, cond, Nat.reduceAdd, Nat.reduceLeDiff, Nat.reduceEqDiff, Nat.reduceBEq, decide_true, decide_false, Int.toNat_natCast, r, t2, t3, t6, t7, c2, c3, c6])
      | (refine xw_tree (id := 27) [0, 1, 0, 7, 15, 31, 63, 63, 0, 383, 1023] (.l 0 (.l 2 (.b 1 (.b 3 (.b 4 (.q 5 (.q 6 (.q 7 (.e 8 (.d 0 (.d 2 (.e 9 (.q 10 .z)))))))) 8 (.d 0 (.d 2 (.e 4 (.q 5 (.q 6 (.q 7 (.e 9 (.q 10 .z))))))))) 8 (.d 0 (.d 2 (.e 3 (.e 4 (.q 5 (.q 6 (.q 7 (.e 9 (.q 10 .z)))))))))) 8 (.d 0 (.e 1 (.d 2 (.e 3 (.e 4 (.q 5 (.q 6 (.q 7 (.e 9 (.q 10 .z))))))))))))) rfl (by kernel_rfl) ?_; simp only [go_sem, cond, Nat.reduceAdd, Nat.reduceLeDiff, Nat.reduceEqDiff, Nat.reduceBEq, decide_true, decide_false, Int.toNat_natCast, r, t2, t3, t6, t7, c2, c3, c6])
      | (refine call_eq (toRoom_ok _ _ R _ (hr _)) ?_; simp only [go_sem, cond, Nat.reduceAdd, Nat.reduceLeDiff, Nat.reduceEqDiff, Nat.reduceBEq, decide_true, decide_false, Int.toNat_natCast, obsR, adR, Rm.enc, r, t2, t3, t6, t7, c2, c3, c6, eqRB_refl, negN, bnn, beq_self_eq_true])
      | (refine call_eq (toEntry_ok _ _ e) ?_; simp only [go_sem, cond, Nat.reduceAdd, Nat.reduceLeDiff, Nat.reduceEqDiff, Nat.reduceBEq, decide_true, decide_false, Int.toNat_natCast, En.enc, r, t2, t3, t6, t7, c2, c3, c6, eqRB_refl, negN, bnn, beq_self_eq_true])
      | (refine call_eq (cI _ _ _ _ _ (RmAt_own (B := B) rfl rfl (by omega) (by omega)) (fun L => Old_own (B := B) R (by simp) (by simp) L)) ?_; simp only [go_sem, cond, Nat.reduceAdd, Nat.reduceLeDiff, Nat.reduceEqDiff, Nat.reduceBEq, decide_true, decide_false, Int.toNat_natCast, obsR, adR, Rm.enc, r, t2, t3, t6, t7, c2, c3, c6, eqRB_refl, negN, bnn, beq_self_eq_true])
      | (refine call_eq (eqRoom_ok _ _ X X _ (adR H X i j) (RmAt_own (B := B) rfl rfl (by omega) (by omega)) (hX2 _)) ?_; simp only [go_sem, cond, Nat.reduceAdd, Nat.reduceLeDiff, Nat.reduceEqDiff, Nat.reduceBEq, decide_true, decide_false, Int.toNat_natCast, r, t2, t3, t6, t7, c2, c3, c6, eqRB_refl, negN, bnn, beq_self_eq_true])
      | (refine call_eq (eqRoom_ok _ _ R R _ _ (RmAt_own (B := B) rfl rfl (by omega) (by omega)) (RmAt_own (B := B) rfl rfl (by omega) (by omega))) ?_; simp only [go_sem, cond, Nat.reduceAdd, Nat.reduceLeDiff, Nat.reduceEqDiff, Nat.reduceBEq, decide_true, decide_false, Int.toNat_natCast, r, t2, t3, t6, t7, c2, c3, c6, eqRB_refl, negN, bnn, beq_self_eq_true])
      | (refine call_eq (markRoom_ok _ B _ _ _ R _ _ 1 rfl rfl (by decide) (by omega) (by omega) (by omega)) ?_; simp only [go_sem, cond, Nat.reduceAdd, Nat.reduceLeDiff, Nat.reduceEqDiff, Nat.reduceBEq, decide_true, decide_false, Int.toNat_natCast, r, t2, t3, t6, t7, c2, c3, c6, eqRB_refl, negN, bnn, beq_self_eq_true])
      | (refine call_eq (markRoom_ok _ B _ _ _ X _ _ 1 rfl rfl (by decide) (by omega) (by omega) (by omega)) ?_; simp only [go_sem, cond, Nat.reduceAdd, Nat.reduceLeDiff, Nat.reduceEqDiff, Nat.reduceBEq, decide_true, decide_false, Int.toNat_natCast, r, t2, t3, t6, t7, c2, c3, c6, eqRB_refl, negN, bnn, beq_self_eq_true])
      | (refine call_eq (heldMark_ok _ B _ _ _ X 1 rfl rfl (by omega) (by omega) (by omega)) ?_; simp only [go_sem, cond, Nat.reduceAdd, Nat.reduceLeDiff, Nat.reduceEqDiff, Nat.reduceBEq, decide_true, decide_false, Int.toNat_natCast, r, t2, t3, t6, t7, c2, c3, c6, eqRB_refl, negN, bnn, beq_self_eq_true]))
    all_goals exact ⟨_, by rw [hB, Hx_Hx]⟩
end Go.Proofs.YtmacpgoclhgafaaDoorW.FA
namespace Go.Proofs.YtmacpgoclhgafaaDoorW.FA
open Go.RowKit Go.Proofs.YtmacpgoclhgafaaDoorW.XM Go.Proofs Go.Proofs.YtmacpgoclhgafaaDoorW.XWords
set_option maxRecDepth 100000
set_option linter.unusedSimpArgs false
variable (w0 : World) (H : Hp)
theorem heldZ_ok : AFn Tryd.prog w0 17 #[zRoom, .int .i64 1] H fun v H2 => v = .int .i64 1 ∧ H2 = H := heldRoom_ok w0 H zrm ⟨none, 0, none, 0⟩ 1 (.inl rfl) (.inl rfl) (by decide) (by decide) (by decide)
def CutZ (w0 : World) (H : Hp) (R : Rm) (x : Ad) (e : En) (T : Ts) (H' : Hp) : Prop := ∃ (l : List (Option Ob)) (k : Nat), H' = Hx H l ∧ T 2 = .pointer (some ⟨nid H 0, 0, some 5⟩) ∧ T 3 = .pointer (some ⟨nid H 1, 0, some 9⟩) ∧ T 6 = .pointer (some ⟨nid H k, 0, some 5⟩) ∧ T 7 = .bool false ∧
  (∀ L, rd w0 (Hx (Hx H l) L) ⟨nid H 0, 0, some 5⟩ 5 = some (R.enc x)) ∧ (∀ L, rd w0 (Hx (Hx H l) L) ⟨nid H 1, 0, some 9⟩ 9 = some e.enc) ∧ ∀ L, rd w0 (Hx (Hx H l) L) ⟨nid H k, 0, some 5⟩ 5 = some [.string em, .int .i64 0, .slice none 0 0, .slice none 0 0, .string em]
set_option maxHeartbeats 20000000 in
theorem law_no (R : Rm) (x : Ad) (e : En) (hT : Tabs w0) (hR : roomB R = false) (hr : ∀ H, RmAt w0 H R x ∨ 1048576 < R.ms.length ∨ 1048576 < R.ks.length) (hsm : ∀ H, Sl w0 H x.a 3 (R.ms.map Mem.enc)) (hsk : ∀ H, Sl w0 H x.b 2 (R.ks.map Rk.enc)) (hw : Wf R) (g0 : e.room.size ≤ 9223372036854775807) (g1 : e.user.size ≤ 9223372036854775807) (g2 : e.nick.size ≤ 9223372036854775807) (g3 : e.text.size ≤ 9223372036854775807) (g4 : e.id.size ≤ 9223372036854775807) (g5 : e.ref.size ≤ 9223372036854775807) :
    AFn Tryd.prog w0 3 #[.agg (R.enc x).toArray, .agg e.enc.toArray] H fun v H2 => v = .bool true ∧ H2 = H := by
  refine AFn.scal rfl Tryd.func3 rfl (by kernel_rfl) ?_
  have r := Tryd.results3
  simp only [go_sem, cond, Nat.reduceAdd, Nat.reduceLeDiff, Nat.reduceEqDiff, Nat.reduceBEq, decide_true, decide_false, Int.toNat_natCast, r]
  simp only [go_sem, cond, Nat.reduceAdd, Nat.reduceLeDiff, Nat.reduceEqDiff, Nat.reduceBEq, decide_true, decide_false, Int.toNat_natCast, Rm.enc, En.enc, r]
  refine call_eq (szRoom_ok _ _ R x 1048576 (hsm _) (hsk _) hw (by omega) (by omega)) ?_
  simp only [go_sem, cond, Nat.reduceAdd, Nat.reduceLeDiff, Nat.reduceEqDiff, Nat.reduceBEq, decide_true, decide_false, Int.toNat_natCast, r]
  refine Br_intro ?_ ?_ <;> intro h <;> simp only [go_sem, cond, Nat.reduceAdd, Nat.reduceLeDiff, Nat.reduceEqDiff, Nat.reduceBEq, decide_true, decide_false, Int.toNat_natCast, h, r]
  · exact ⟨_, rfl⟩
  have h := of_decide_eq_false h
  obtain ⟨hb, lm, lk, hle⟩ := szR_nn (Int.le_refl _) (by omega : 0 ≤ szR R 1048576)
  have hr := fun H => (hr H).resolve_right (by omega)
  obtain ⟨a, ha⟩ : ∃ a, a = szR R 1048576 := ⟨_, rfl⟩
  rw [← ha] at h hle ⊢
  refine call_eq (szEntry_ok _ _ e a (by omega) (by omega) g0 g1 g2 g3 g4 g5) ?_
  simp only [go_sem, cond, Nat.reduceAdd, Nat.reduceLeDiff, Nat.reduceEqDiff, Nat.reduceBEq, decide_true, decide_false, Int.toNat_natCast, r]
  refine Br_intro ?_ ?_ <;> intro h2 <;> simp only [go_sem, cond, Nat.reduceAdd, Nat.reduceLeDiff, Nat.reduceEqDiff, Nat.reduceBEq, decide_true, decide_false, Int.toNat_natCast, h2, r]
  · exact ⟨_, rfl⟩
  have h2 := of_decide_eq_false h2
  have he := szE_nn hle (by omega : 0 ≤ szE e a)
  clear h h2 ha hle g0 g1 g2 g3 g4 g5 hw hsm hsk
  have cS : ∀ (H : Hp) (x : Ad), RmAt w0 H R x → AFn Tryd.prog w0 11 #[.agg (R.enc x).toArray, .agg e.enc.toArray] H fun v H2 => v = .tuple #[zRoom, .bool false] ∧ H2 = H := fun H x h1 => RoomApplyS_no w0 H R x e h1 hb hR
  have cI : ∀ (H : Hp) (x : Ad), RmAt w0 H R x → AFn Tryd.prog w0 14 #[.agg (R.enc x).toArray, .agg e.enc.toArray] H fun v H2 => v = .tuple #[zRoom, .bool false] ∧ H2 = H := fun H x h1 => RoomApplyI_no w0 H R x e hT h1 hb hR
  have bnn : ∀ c : Bool, xBin Tryd.prog .neq 4 c (.bool false) (.bool false) = some (.bool false) := fun c => by simp [xBin, XF.isB_4]
  have negN : ∀ n : Nat, decide ((n : Int) < 0) = false := fun n => decide_eq_false (by omega)
  have one1 : ((1 : Nat) : Int) = 1 := rfl
  have neg1 : decide ((1 : Int) < 0) = false := rfl
  (refine xw_treeC (id := 8) [0, 1, 0, 7, 15, 31, 63, 63, 0, 383, 1023] (.l 0 (.l 2 (.b 1 (.b 3 (.b 4 (.q 5 (.q 6 (.q 7 (.e 8 (.d 0 (.d 2 (.e 9 (.q 10 .z)))))))) 8 (.d 0 (.d 2 (.e 4 (.q 5 (.q 6 (.q 7 (.e 9 (.q 10 .z))))))))) 8 (.d 0 (.d 2 (.e 3 (.e 4 (.q 5 (.q 6 (.q 7 (.e 9 (.q 10 .z)))))))))) 8 (.d 0 (.e 1 (.d 2 (.e 3 (.e 4 (.q 5 (.q 6 (.q 7 (.e 9 (.q 10 .z))))))))))))) rfl (by kernel_rfl) (CutZ w0 H R x e) ?_ ?_)
  · simp only [go_sem, cond, Nat.reduceAdd, Nat.reduceLeDiff, Nat.reduceEqDiff, Nat.reduceBEq, decide_true, decide_false, Int.toNat_natCast, r]
    repeat' (first
      | (refine Both_intro ?_ ?_ <;> simp only [go_sem, cond, Nat.reduceAdd, Nat.reduceLeDiff, Nat.reduceEqDiff, Nat.reduceBEq, decide_true, decide_false, Int.toNat_natCast, r])
      | (refine call_eq (toRoom_ok _ _ R _ (hr _)) ?_; simp only [go_sem, cond, Nat.reduceAdd, Nat.reduceLeDiff, Nat.reduceEqDiff, Nat.reduceBEq, decide_true, decide_false, Int.toNat_natCast, r, obsR, adR, Rm.enc])
      | (refine call_eq (toEntry_ok _ _ e) ?_; simp only [go_sem, cond, Nat.reduceAdd, Nat.reduceLeDiff, Nat.reduceEqDiff, Nat.reduceBEq, decide_true, decide_false, Int.toNat_natCast, r, En.enc])
      | (refine call_eq (cS _ _ (RmAt_own (B := H) rfl rfl (by omega) (by omega))) ?_; simp only [go_sem, cond, Nat.reduceAdd, Nat.reduceLeDiff, Nat.reduceEqDiff, Nat.reduceBEq, decide_true, decide_false, Int.toNat_natCast, r, zRoom, Rm.enc]))
    all_goals exact ⟨_, _, rfl, rfl, rfl, rfl, rfl, fun L => rd_old (by rw [rd_own]; rfl) L, fun L => rd_old (by rw [rd_own]; rfl) L, fun L => rd_old (by rw [rd_own]; rfl) L⟩
  · rintro T H' ⟨l, k, rfl, t2, t3, t6, t7, c2, c3, c6⟩
    rw [← Hx_nil (Hx H l)]
    obtain ⟨B, hB⟩ : ∃ B, B = Hx H l := ⟨_, rfl⟩
    rw [← hB] at c2 c3 c6 ⊢
    simp only [Rm.enc, En.enc] at c2 c3 c6
    simp only [go_sem, cond, Nat.reduceAdd, Nat.reduceLeDiff, Nat.reduceEqDiff, Nat.reduceBEq, decide_true, decide_false, Int.toNat_natCast, r, t2, t3, t6, t7, c2, c3, c6]
    repeat' (first
      | (refine Both_intro ?_ ?_ <;> simp only [go_sem, cond, Nat.reduceAdd, Nat.reduceLeDiff, Nat.reduceEqDiff, Nat.reduceBEq, decide_true, decide_false, Int.toNat_natCast, r, t2, t3, t6, t7, c2, c3, c6, eqRB_refl, negN, neg1, one1, bnn, beq_self_eq_true])
      | (refine xw_tree (id := 10) [0, 0, 2, 7, 15, 31, 31, 0, 191, 511] (.l 0 (.l 1 (.b 2 (.b 3 (.q 4 (.q 5 (.q 6 (.e 7 (.d 0 (.d 1 (.e 8 (.q 9 .z)))))))) 7 (.d 0 (.d 1 (.e 3 (.q 4 (.q 5 (.q 6 (.e 8 (.q 9 .z))))))))) 7 (.d 1 (.e 2 (.d 0 (.e 3 (.q 4 (.q 5 (.q 6 (.e 8 (.q 9 .z)))))))))))) rfl (by kernel_rfl) ?_; simp only [go_sem, cond, Nat.reduceAdd, Nat.reduceLeDiff, Nat.reduceEqDiff, Nat.reduceBEq, decide_true, decide_false, Int.toNat_natCast, r, t2, t3, t6, t7, c2, c3, c6])
      | (refine xw_tree (id := 13) [0, 0, 2, 7, 15] (.l 0 (.q 1 (.e 2 (.d 0 (.e 3 (.q 4 .z)))))) rfl (by kernel_rfl) ?_; simp only [go_sem, cond, Nat.reduceAdd, Nat.reduceLeDiff, Nat.reduceEqDiff, Nat.reduceBEq, decide_true, decide_false, Int.toNat_natCast, r, t2, t3, t6, t7, c2, c3, c6])
      | (refine xw_tree (id := 27) [0, 1, 0, 7, 15, 31, 63, 63, 0, 383, 1023] (.l 0 (.l 2 (.b 1 (.b 3 (.b 4 (.q 5 (.q 6 (.q 7 (.e 8 (.d 0 (.d 2 (.e 9 (.q 10 .z)))))))) 8 (.d 0 (.d 2 (.e 4 (.q 5 (.q 6 (.q 7 (.e 9 (.q 10 .z))))))))) 8 (.d 0 (.d 2 (.e 3 (.e 4 (.q 5 (.q 6 (.q 7 (.e 9 (.q 10 .z)))))))))) 8 (.d 0 (.e 1 (.d 2 (.e 3 (.e 4 (.q 5 (.q 6 (.q 7 (.e 9 (.q 10 .z))))))))))))) rfl (by kernel_rfl) ?_; simp only [go_sem, cond, Nat.reduceAdd, Nat.reduceLeDiff, Nat.reduceEqDiff, Nat.reduceBEq, decide_true, decide_false, Int.toNat_natCast, r, t2, t3, t6, t7, c2, c3, c6])
      | (refine call_eq (toRoom_ok _ _ R _ (hr _)) ?_; simp only [go_sem, cond, Nat.reduceAdd, Nat.reduceLeDiff, Nat.reduceEqDiff, Nat.reduceBEq, decide_true, decide_false, Int.toNat_natCast, obsR, adR, Rm.enc, r, t2, t3, t6, t7, c2, c3, c6, eqRB_refl, negN, neg1, one1, bnn, beq_self_eq_true])
      | (refine call_eq (toEntry_ok _ _ e) ?_; simp only [go_sem, cond, Nat.reduceAdd, Nat.reduceLeDiff, Nat.reduceEqDiff, Nat.reduceBEq, decide_true, decide_false, Int.toNat_natCast, En.enc, r, t2, t3, t6, t7, c2, c3, c6, eqRB_refl, negN, neg1, one1, bnn, beq_self_eq_true])
      | (refine call_eq (cI _ _ (RmAt_own (B := B) rfl rfl (by omega) (by omega))) ?_; simp only [go_sem, cond, Nat.reduceAdd, Nat.reduceLeDiff, Nat.reduceEqDiff, Nat.reduceBEq, decide_true, decide_false, Int.toNat_natCast, zRoom, r, t2, t3, t6, t7, c2, c3, c6, eqRB_refl, negN, neg1, one1, bnn, beq_self_eq_true])
      | (refine call_eq (eqRoom_ok _ _ zrm zrm ⟨none, 0, none, 0⟩ ⟨none, 0, none, 0⟩ (zrm_at _ _) (zrm_at _ _)) ?_; simp only [go_sem, cond, Nat.reduceAdd, Nat.reduceLeDiff, Nat.reduceEqDiff, Nat.reduceBEq, decide_true, decide_false, Int.toNat_natCast, r, t2, t3, t6, t7, c2, c3, c6, eqRB_refl, negN, neg1, one1, bnn, beq_self_eq_true])
      | (refine call_eq (eqRoom_ok _ _ R R _ _ (RmAt_own (B := B) rfl rfl (by omega) (by omega)) (RmAt_own (B := B) rfl rfl (by omega) (by omega))) ?_; simp only [go_sem, cond, Nat.reduceAdd, Nat.reduceLeDiff, Nat.reduceEqDiff, Nat.reduceBEq, decide_true, decide_false, Int.toNat_natCast, r, t2, t3, t6, t7, c2, c3, c6, eqRB_refl, negN, neg1, one1, bnn, beq_self_eq_true])
      | (refine call_eq (markRoom_ok _ B _ _ _ R _ _ 1 rfl rfl (by decide) (by omega) (by omega) (by omega)) ?_; simp only [go_sem, cond, Nat.reduceAdd, Nat.reduceLeDiff, Nat.reduceEqDiff, Nat.reduceBEq, decide_true, decide_false, Int.toNat_natCast, r, t2, t3, t6, t7, c2, c3, c6, eqRB_refl, negN, neg1, one1, bnn, beq_self_eq_true])
      | (refine call_eq (markZ_ok _ _ 1) ?_; simp only [go_sem, cond, Nat.reduceAdd, Nat.reduceLeDiff, Nat.reduceEqDiff, Nat.reduceBEq, decide_true, decide_false, Int.toNat_natCast, r, t2, t3, t6, t7, c2, c3, c6, eqRB_refl, negN, neg1, one1, bnn, beq_self_eq_true])
      | (refine call_eq (heldZ_ok _ _) ?_; simp only [go_sem, cond, Nat.reduceAdd, Nat.reduceLeDiff, Nat.reduceEqDiff, Nat.reduceBEq, decide_true, decide_false, Int.toNat_natCast, r, t2, t3, t6, t7, c2, c3, c6, eqRB_refl, negN, neg1, one1, bnn, beq_self_eq_true]))
    all_goals exact ⟨_, by rw [hB, Hx_Hx]⟩
theorem law_RoomApply (R : Rm) (x : Ad) (e : En) (hT : Tabs w0) (hr : ∀ H, RmAt w0 H R x ∨ 1048576 < R.ms.length ∨ 1048576 < R.ks.length) (hsm : ∀ H, Sl w0 H x.a 3 (R.ms.map Mem.enc)) (hsk : ∀ H, Sl w0 H x.b 2 (R.ks.map Rk.enc)) (hw : Wf R) (g0 : e.room.size ≤ 9223372036854775807) (g1 : e.user.size ≤ 9223372036854775807) (g2 : e.nick.size ≤ 9223372036854775807) (g3 : e.text.size ≤ 9223372036854775807) (g4 : e.id.size ≤ 9223372036854775807) (g5 : e.ref.size ≤ 9223372036854775807) :
    AFn Tryd.prog w0 3 #[.agg (R.enc x).toArray, .agg e.enc.toArray] H fun v H2 => v = .bool true ∧ H2 = H := by
  cases hR : roomB R with
  | true => exact law_yes w0 H R x e hT hR hr hsm hsk hw g0 g1 g2 g3 g4 g5
  | false => exact law_no w0 H R x e hT hR hr hsm hsk hw g0 g1 g2 g3 g4 g5
end Go.Proofs.YtmacpgoclhgafaaDoorW.FA
namespace Go.Proofs.YtmacpgoclhgafaaDoorW.XRA
open Go.ChangeShapes Go.WideShapes Go.ChangeAt Go.RowKit Go.Deep Go.Proofs.YtmacpgoclhgafaaDoorW.XM
/-- Cells that read as a datum of type T are a value of a kind. -/
def ReadsA (P : Program) {α : Type} (enc : α → List Value) (T : TypeId) (Q : α → Prop) : Prop :=
  ∀ (H : Type) (en : TypeId × Value → H) (w : World) (base : Nat) (spare : Nat → Bool) (held : Bool) (fuel : Nat) (cs : List Value) (x : DataW H × List MemPlace),
    DataW.trod en P w base spare held fuel T cs = some x → ∃ v : α, cs = enc v ∧ Q v
section
variable {P : Program}
theorem ra_int {T : TypeId} {k : IntKind} (h : P.underlying T = some (.int k)) : ReadsA P (fun n : Int => [.int k n]) T (fun n => (Lit.int k n).wf = true) := by
  intro H enc w base spare held fuel cs x hx
  obtain ⟨n, rfl, _, hw⟩ := DataW.trod_int h hx
  exact ⟨n, rfl, hw⟩
theorem ra_bool {T : TypeId} (h : P.underlying T = some .bool) : ReadsA P (fun n : Bool => [.bool n]) T (fun _ => True) := by
  intro H enc w base spare held fuel cs x hx
  obtain ⟨b, rfl, _⟩ := DataW.trod_bool h hx
  exact ⟨b, rfl, trivial⟩
theorem ra_str {T : TypeId} (h : P.underlying T = some .string) : ReadsA P (fun s : ByteArray => [.string s]) T (fun s => s.size ≤ maxLen) := by
  intro H enc w base spare held fuel cs x hx
  obtain ⟨s, rfl, _, hs⟩ := DataW.trod_string h hx
  exact ⟨s, rfl, hs⟩
/-- A struct's cells, field by field. -/
theorem struct_readA {fs : Array Field} {T : TypeId} (hT : P.underlying T = some (.struct fs)) {H : Type} {enc : TypeId × Value → H} {w : World} {base : Nat} {spare : Nat → Bool} {held : Bool} {fuel : Nat} {cs : List Value} {x : DataW H × List MemPlace}
    (h : DataW.trod enc P w base spare held fuel T cs = some x) :
    cs.length = P.cellsOf T ∧ ∃ n, ∀ (i : Nat) (ft off m : Nat) (l : List Value), fs[i]?.map (fun f => (f.type, f.offset)) = some (ft, off) → P.cellsOf ft = m → (cs.drop off).take m = l → ∃ y, DataW.trod enc P w base spare held n ft l = some y := by
  obtain ⟨xs, n, _, _, hl, hlen, hf⟩ := DataW.trod_struct hT h
  refine ⟨hl, n, fun i ft off m l hi hm hl2 => ?_⟩
  obtain ⟨f, h1, h2⟩ := Option.map_eq_some_iff.1 hi
  have hlt : i < xs.length := by
    have := (Array.getElem?_eq_some_iff.1 h1).1
    omega
  simp only [Prod.mk.injEq] at h2
  obtain ⟨h3, h4⟩ := h2
  have := hf i f h1
  rw [h3, h4, hm, hl2] at this
  exact ⟨xs[i], by rw [this]; exact List.getElem?_eq_getElem hlt⟩
theorem cells_eachA {w : World} {base : Nat} {a : Addr} {n : Nat} {cs : List Value} (h : w.cells? base a n = some cs) : cs.length = n ∧ ∀ i u, cs[i]? = some u → w.cell? (a.add i) = some u := by
  unfold World.cells? at h
  split at h
  · have hl : cs.length = n := by simpa using Lib.mapM_length h
    refine ⟨hl, fun i u hu => ?_⟩
    have hi : i < n := by
      have := (List.getElem?_eq_some_iff.1 hu).1
      omega
    obtain ⟨b, hb, hf⟩ := Lib.mapM_at h i i (by simp [hi])
    rw [hu] at hb
    cases hb
    exact hf
  · cases h
theorem rdRo_cells {w : World} {b : Nat} : ∀ (cs : List Value) (o : Nat), (∀ (j : Nat) (u : Value), cs[j]? = some u → w.cell? ⟨b, o + j, none⟩ = some u) → (∀ v ∈ cs, (plain v && v.oneCell') = true) → rdRo w b o cs.length = some cs
  | [], _, _, _ => rfl
  | c :: r, o, h1, h2 => by
    have h0 := h1 0 c rfl
    rw [Nat.add_zero] at h0
    simp only [List.length_cons, rdRo, h0, h2 c List.mem_cons_self, if_true]
    rw [rdRo_cells r (o + 1) (fun j u hj => by rw [show o + 1 + j = o + (j + 1) by omega]; exact h1 (j + 1) u (by simpa using hj)) (fun v hv => h2 v (List.mem_cons_of_mem _ hv))]
    rfl
theorem choose_ltA {α : Type} [Inhabited α] {n : Nat} {p : Nat → α → Prop} (h : ∀ i, i < n → ∃ v, p i v) : ∃ f : Nat → α, ∀ i, i < n → p i (f i) := by
  induction n with
  | zero => exact ⟨fun _ => default, fun i hi => by omega⟩
  | succ n ih =>
    obtain ⟨f, hf⟩ := ih fun i hi => h i (by omega)
    obtain ⟨v, hv⟩ := h n (by omega)
    refine ⟨fun i => if i = n then v else f i, fun i hi => ?_⟩
    by_cases e : i = n
    · subst e; simpa using hv
    · simp only [if_neg e]; exact hf i (by omega)
/-- A slice that reads as data: its rows. -/
theorem slice_readA {α : Type} [Inhabited α] {enc : α → List Value} {T e : TypeId} {Q : α → Prop} {sz : Nat} (hR : ReadsA P enc e Q) (hT : P.underlying T = some (.slice e)) (hc : P.cellsOf e = sz) (hz : ∀ a, (enc a).length = sz) (h0 : 0 < sz) (hp : ∀ a, ∀ v ∈ enc a, (plain v && v.oneCell') = true)
    {H : Type} {en : TypeId × Value → H} {w : World} {base : Nat} {spare : Nat → Bool} {held : Bool} {fuel : Nat} {u : Value} {x : DataW H × List MemPlace}
    (h : DataW.trod en P w base spare held fuel T [u] = some x) (hs : ∀ a n c, u = .slice (some a) n c → a.spot = none) :
    ∃ (A : Option Addr) (c : Nat) (l : List α), u = .slice A l.length c ∧ l.length ≤ c ∧ l.length ≤ maxLen ∧ (∀ v ∈ l, Q v) ∧ plain (.slice A l.length c) = true ∧ (A = none ∧ l = [] ∨ ∃ b o, A = some ⟨b, o, none⟩ ∧ rdRo w b o (l.length * sz) = some (flat enc l)) := by
  rcases open_slice hT h with ⟨hcs, _⟩ | ⟨a, len, cap, m, _, D, Pl, hcs, hb, hl, hm, hmm, _, hx⟩
  · obtain rfl : u = .slice none 0 0 := by simpa using hcs
    exact ⟨none, 0, [], rfl, Nat.le_refl _, Nat.zero_le _, fun v hv => (by cases hv), rfl, .inl ⟨rfl, rfl⟩⟩
  · obtain rfl : u = .slice (some a) len cap := by simpa using hcs
    have hsp := hs a len cap rfl
    obtain ⟨b, o, sp⟩ := a
    simp only at hsp
    subst hsp
    have hlm : len ≤ m := by rw [hmm]; split <;> omega
    obtain ⟨f, hf⟩ := choose_ltA (α := α) (n := len) (p := fun i v => Q v ∧ ∀ j c, (enc v)[j]? = some c → w.cell? ⟨b, o + i * sz + j, none⟩ = some c) (fun i hi => by
      obtain ⟨cs', h1, h2⟩ := hx i (by omega)
      obtain ⟨v, rfl, hQ⟩ := hR _ _ _ _ _ _ _ _ _ h2
      rw [hc] at h1
      obtain ⟨hlen, hcell⟩ := cells_eachA h1
      refine ⟨v, hQ, fun j c hj => ?_⟩
      have := hcell j c hj
      rw [Addr.add_add, add_at' _ _ rfl] at this
      rw [show o + i * sz + j = o + (i * sz + j) by omega]
      exact this)
    refine ⟨some ⟨b, o, none⟩, cap, (List.range len).map f, by simp, by simpa using hl, by simp; omega, fun v hv => ?_, rfl, .inr ⟨b, o, rfl, ?_⟩⟩
    · obtain ⟨i, hi, rfl⟩ := List.mem_map.1 hv
      exact (hf i (List.mem_range.1 hi)).1
    · have hL := flat_len hz ((List.range len).map f)
      rw [← hL]
      refine rdRo_cells _ o (fun q c hq => ?_) (fun v hv => ?_)
      · have hq' := lt_of_get hq
        rw [hL] at hq'
        simp only [List.length_map, List.length_range] at hq'
        have hi : q / sz < len := (Nat.div_lt_iff_lt_mul h0).2 hq'
        have hr : q % sz < sz := Nat.mod_lt _ h0
        have e1 : q = q / sz * sz + q % sz := by rw [Nat.mul_comm]; exact (Nat.div_add_mod q sz).symm
        have e2 := flat_row hz ((List.range len).map f) (i := q / sz) (by simpa using hi) (q % sz) 1 (by omega)
        rw [← e1] at e2
        have e3 : (flat enc ((List.range len).map f))[q]? = (((flat enc ((List.range len).map f)).drop q).take 1)[0]? := by
          rw [List.getElem?_take, if_pos (by omega), List.getElem?_drop, Nat.add_zero]
        rw [e3, e2, List.getElem?_take, if_pos (by omega), List.getElem?_drop, Nat.add_zero] at hq
        simp only [List.getElem_map, List.getElem_range] at hq
        have := (hf (q / sz) hi).2 (q % sz) c hq
        rw [show o + q / sz * sz + q % sz = o + q by omega] at this
        exact this
      · unfold flat at hv
        obtain ⟨r, hr, h2⟩ := List.mem_flatten.1 hv
        obtain ⟨a, _, rfl⟩ := List.mem_map.1 hr
        exact hp a v h2
/-- What the call's memory says of such a slice. -/
theorem sl_of {α : Type} {enc : α → List Value} {sz : Nat} (hz : ∀ a, (enc a).length = sz) {w : World} {A : Option Addr} {l : List α} (h : A = none ∧ l = [] ∨ ∃ b o, A = some ⟨b, o, none⟩ ∧ rdRo w b o (l.length * sz) = some (flat enc l)) (H : Hp) : Sl w H A sz (l.map enc) ∧ ∀ L c, src w (Hx H L) sz (.slice A l.length c) = some (l.length, flat enc l) := by
  rcases h with ⟨rfl, rfl⟩ | ⟨b, o, rfl, h⟩
  · exact ⟨.inl rfl, fun L c => rfl⟩
  · refine ⟨.inr ⟨b, o, none, rfl, fun i r hr f k hf => ?_⟩, fun L c => ?_⟩
    · have hi : i < l.length := by have := (List.getElem?_eq_some_iff.1 hr).1; simpa using this
      have hle : i * sz + sz ≤ l.length * sz := by rw [← Nat.succ_mul]; exact Nat.mul_le_mul_right _ hi
      have := rdRo_part (l.length * sz) b o (i * sz + f) k _ h (by omega)
      rw [List.getElem?_map, List.getElem?_eq_getElem hi] at hr
      cases hr
      show rdRo w b (o + i * sz + f) k = _
      rw [show o + i * sz + f = o + (i * sz + f) by omega, this, flat_row hz l hi f k hf]
    · rw [src_sl]
      show srcO _ (rdRo w b o (l.length * sz)) = _
      rw [h]
      rfl
/-- A slice in a struct that is handed in points at memory. -/
theorem row_spot {w : World} {base : Nat} {T : TypeId} {cs : Array Value} {r : Reach} (h : Row.okWide P w r base T cs) {i : Nat} {a : Addr} {n c : Nat} (hi : cs[i]? = some (.slice (some a) n c)) : a.spot = none := by
  obtain ⟨ts, _, _, h3⟩ := h
  obtain ⟨u, _, h5⟩ := h3 i _ hi
  unfold Cell.okWide at h5
  split at h5 <;> first
    | (rename_i h6; cases h6; done)
    | skip
  all_goals first
    | (unfold Cell.ok at h5
       split at h5 <;> first
         | (rename_i h6; cases h6; done)
         | (exact h5.elim)
         | (rename_i h6; cases h6; exact h5.2.2.2.1)
         | (exact h5.2.2.2.1))
    | skip
end
end Go.Proofs.YtmacpgoclhgafaaDoorW.XRA
namespace Go.Proofs.YtmacpgoclhgafaaDoorW.FA
open Go.RowKit Go.ChangeShapes Go.WideShapes Go.ChangeAt Go.Deep Go.Proofs.YtmacpgoclhgafaaDoorW.XM Go.Proofs Go.Proofs.YtmacpgoclhgafaaDoorW.XWords Go.Proofs.YtmacpgoclhgafaaDoorW.XRA
set_option maxRecDepth 100000
set_option linter.unusedVariables false
instance : Inhabited Mem := ⟨⟨em, em, 0⟩⟩
instance : Inhabited Rk := ⟨⟨em, 0⟩⟩
theorem list_2 {α : Type} : ∀ (l : List α), l.length = 2 → ∃ x0 x1, l = [x0, x1]
  | [x0, x1], _ => ⟨x0, x1, rfl⟩
theorem list_3 {α : Type} : ∀ (l : List α), l.length = 3 → ∃ x0 x1 x2, l = [x0, x1, x2]
  | [x0, x1, x2], _ => ⟨x0, x1, x2, rfl⟩
theorem list_5 {α : Type} : ∀ (l : List α), l.length = 5 → ∃ x0 x1 x2 x3 x4, l = [x0, x1, x2, x3, x4]
  | [x0, x1, x2, x3, x4], _ => ⟨x0, x1, x2, x3, x4, rfl⟩
theorem list_9 {α : Type} : ∀ (l : List α), l.length = 9 → ∃ x0 x1 x2 x3 x4 x5 x6 x7 x8, l = [x0, x1, x2, x3, x4, x5, x6, x7, x8]
  | [x0, x1, x2, x3, x4, x5, x6, x7, x8], _ => ⟨x0, x1, x2, x3, x4, x5, x6, x7, x8, rfl⟩
theorem mem_reads : ReadsA Tryd.prog Mem.enc 122 (fun m => m.user.size ≤ maxLen ∧ m.nick.size ≤ maxLen) := by
  intro H enc w base spare held fuel cs x hx
  obtain ⟨hl, n, hf⟩ := struct_readA Tryd.underlying122 hx
  have hlen : cs.length = 3 := hl.trans (by kernel_rfl)
  obtain ⟨u0, u1, u2, rfl⟩ := list_3 cs hlen
  obtain ⟨y0, h0⟩ := hf 0 9 0 1 [u0] rfl (by kernel_rfl) rfl
  obtain ⟨a0, e0, q0⟩ := ra_str Tryd.underlying9 _ _ _ _ _ _ _ _ _ h0
  obtain rfl : u0 = .string a0 := List.singleton_inj.1 e0
  obtain ⟨y1, h1⟩ := hf 1 9 1 1 [u1] rfl (by kernel_rfl) rfl
  obtain ⟨a1, e1, q1⟩ := ra_str Tryd.underlying9 _ _ _ _ _ _ _ _ _ h1
  obtain rfl : u1 = .string a1 := List.singleton_inj.1 e1
  obtain ⟨y2, h2⟩ := hf 2 3 2 1 [u2] rfl (by kernel_rfl) rfl
  obtain ⟨a2, e2, q2⟩ := ra_int Tryd.underlying3 _ _ _ _ _ _ _ _ _ h2
  obtain rfl : u2 = .int .i64 a2 := List.singleton_inj.1 e2
  exact ⟨⟨a0, a1, a2⟩, rfl, q0, q1⟩
theorem rk_reads : ReadsA Tryd.prog Rk.enc 124 (fun m => m.user.size ≤ maxLen) := by
  intro H enc w base spare held fuel cs x hx
  obtain ⟨hl, n, hf⟩ := struct_readA Tryd.underlying124 hx
  have hlen : cs.length = 2 := hl.trans (by kernel_rfl)
  obtain ⟨u0, u1, rfl⟩ := list_2 cs hlen
  obtain ⟨y0, h0⟩ := hf 0 9 0 1 [u0] rfl (by kernel_rfl) rfl
  obtain ⟨a0, e0, q0⟩ := ra_str Tryd.underlying9 _ _ _ _ _ _ _ _ _ h0
  obtain rfl : u0 = .string a0 := List.singleton_inj.1 e0
  obtain ⟨y1, h1⟩ := hf 1 3 1 1 [u1] rfl (by kernel_rfl) rfl
  obtain ⟨a1, e1, q1⟩ := ra_int Tryd.underlying3 _ _ _ _ _ _ _ _ _ h1
  obtain rfl : u1 = .int .i64 a1 := List.singleton_inj.1 e1
  exact ⟨⟨a0, a1⟩, rfl, q0⟩
theorem en_reads : ReadsA Tryd.prog En.enc 27 (fun m => m.room.size ≤ maxLen ∧ m.user.size ≤ maxLen ∧ m.nick.size ≤ maxLen ∧ m.text.size ≤ maxLen ∧ m.id.size ≤ maxLen ∧ m.ref.size ≤ maxLen) := by
  intro H enc w base spare held fuel cs x hx
  obtain ⟨hl, n, hf⟩ := struct_readA Tryd.underlying27 hx
  have hlen : cs.length = 9 := hl.trans (by kernel_rfl)
  obtain ⟨u0, u1, u2, u3, u4, u5, u6, u7, u8, rfl⟩ := list_9 cs hlen
  obtain ⟨y0, h0⟩ := hf 0 9 0 1 [u0] rfl (by kernel_rfl) rfl
  obtain ⟨a0, e0, q0⟩ := ra_str Tryd.underlying9 _ _ _ _ _ _ _ _ _ h0
  obtain rfl : u0 = .string a0 := List.singleton_inj.1 e0
  obtain ⟨y1, h1⟩ := hf 1 3 1 1 [u1] rfl (by kernel_rfl) rfl
  obtain ⟨a1, e1, q1⟩ := ra_int Tryd.underlying3 _ _ _ _ _ _ _ _ _ h1
  obtain rfl : u1 = .int .i64 a1 := List.singleton_inj.1 e1
  obtain ⟨y2, h2⟩ := hf 2 3 2 1 [u2] rfl (by kernel_rfl) rfl
  obtain ⟨a2, e2, q2⟩ := ra_int Tryd.underlying3 _ _ _ _ _ _ _ _ _ h2
  obtain rfl : u2 = .int .i64 a2 := List.singleton_inj.1 e2
  obtain ⟨y3, h3⟩ := hf 3 9 3 1 [u3] rfl (by kernel_rfl) rfl
  obtain ⟨a3, e3, q3⟩ := ra_str Tryd.underlying9 _ _ _ _ _ _ _ _ _ h3
  obtain rfl : u3 = .string a3 := List.singleton_inj.1 e3
  obtain ⟨y4, h4⟩ := hf 4 9 4 1 [u4] rfl (by kernel_rfl) rfl
  obtain ⟨a4, e4, q4⟩ := ra_str Tryd.underlying9 _ _ _ _ _ _ _ _ _ h4
  obtain rfl : u4 = .string a4 := List.singleton_inj.1 e4
  obtain ⟨y5, h5⟩ := hf 5 9 5 1 [u5] rfl (by kernel_rfl) rfl
  obtain ⟨a5, e5, q5⟩ := ra_str Tryd.underlying9 _ _ _ _ _ _ _ _ _ h5
  obtain rfl : u5 = .string a5 := List.singleton_inj.1 e5
  obtain ⟨y6, h6⟩ := hf 6 9 6 1 [u6] rfl (by kernel_rfl) rfl
  obtain ⟨a6, e6, q6⟩ := ra_str Tryd.underlying9 _ _ _ _ _ _ _ _ _ h6
  obtain rfl : u6 = .string a6 := List.singleton_inj.1 e6
  obtain ⟨y7, h7⟩ := hf 7 9 7 1 [u7] rfl (by kernel_rfl) rfl
  obtain ⟨a7, e7, q7⟩ := ra_str Tryd.underlying9 _ _ _ _ _ _ _ _ _ h7
  obtain rfl : u7 = .string a7 := List.singleton_inj.1 e7
  obtain ⟨y8, h8⟩ := hf 8 3 8 1 [u8] rfl (by kernel_rfl) rfl
  obtain ⟨a8, e8, q8⟩ := ra_int Tryd.underlying3 _ _ _ _ _ _ _ _ _ h8
  obtain rfl : u8 = .int .i64 a8 := List.singleton_inj.1 e8
  exact ⟨⟨a0, a1, a2, a3, a4, a5, a6, a7, a8⟩, rfl, q0, q3, q4, q5, q6, q7⟩
theorem room_reads {H : Type} {enc : TypeId × Value → H} {w : World} {base : Nat} {spare : Nat → Bool} {held : Bool} {fuel : Nat} {cs : List Value} {x : DataW H × List MemPlace} (hx : DataW.trod enc Tryd.prog w base spare held fuel 25 cs = some x) (hs : ∀ (i : Nat) (a : Addr) (n c : Nat), cs[i]? = some (.slice (some a) n c) → a.spot = none) :
    ∃ (R : Rm) (x : Ad), cs = R.enc x ∧ Wf R ∧ cs.all plain = true ∧ (∀ H, Sl w H x.a 3 (R.ms.map Mem.enc)) ∧ (∀ H, Sl w H x.b 2 (R.ks.map Rk.enc)) ∧ ∀ H, RmAt w H R x ∨ 1048576 < R.ms.length ∨ 1048576 < R.ks.length := by
  have hmx : maxLen = 9223372036854775807 := rfl
  obtain ⟨hl, n, hf⟩ := struct_readA Tryd.underlying25 hx
  have hlen : cs.length = 5 := hl.trans (by kernel_rfl)
  obtain ⟨u0, u1, u2, u3, u4, rfl⟩ := list_5 cs hlen
  obtain ⟨y0, h0⟩ := hf 0 9 0 1 [u0] rfl (by kernel_rfl) rfl
  obtain ⟨a0, e0, q0⟩ := ra_str Tryd.underlying9 _ _ _ _ _ _ _ _ _ h0
  obtain rfl : u0 = .string a0 := List.singleton_inj.1 e0
  obtain ⟨y1, h1⟩ := hf 1 3 1 1 [u1] rfl (by kernel_rfl) rfl
  obtain ⟨a1, e1, q1⟩ := ra_int Tryd.underlying3 _ _ _ _ _ _ _ _ _ h1
  obtain rfl : u1 = .int .i64 a1 := List.singleton_inj.1 e1
  obtain ⟨y2, h2⟩ := hf 2 22 2 1 [u2] rfl (by kernel_rfl) rfl
  obtain ⟨A, c, ms, rfl, k1, k2, k3, k4, k5⟩ := slice_readA mem_reads Tryd.underlying22 (by kernel_rfl) mlen (by decide) (fun a v hv => by simp only [Mem.enc, List.mem_cons, List.not_mem_nil, or_false] at hv; rcases hv with rfl | rfl | rfl <;> rfl) h2 (fun a n c e => hs 2 a n c (by rw [e]; rfl))
  obtain ⟨y3, h3⟩ := hf 3 23 3 1 [u3] rfl (by kernel_rfl) rfl
  obtain ⟨B, d, ks, rfl, l1, l2, l3, l4, l5⟩ := slice_readA rk_reads Tryd.underlying23 (by kernel_rfl) klen (by decide) (fun a v hv => by simp only [Rk.enc, List.mem_cons, List.not_mem_nil, or_false] at hv; rcases hv with rfl | rfl <;> rfl) h3 (fun a n c e => hs 3 a n c (by rw [e]; rfl))
  obtain ⟨y4, h4⟩ := hf 4 9 4 1 [u4] rfl (by kernel_rfl) rfl
  obtain ⟨a4, e4, q4⟩ := ra_str Tryd.underlying9 _ _ _ _ _ _ _ _ _ h4
  obtain rfl : u4 = .string a4 := List.singleton_inj.1 e4
  refine ⟨⟨a0, a1, ms, ks, a4⟩, ⟨A, c, B, d⟩, rfl, ⟨by rw [← hmx]; exact q0, by rw [← hmx]; exact q4, fun i h => by rw [← hmx]; exact (k3 _ (List.getElem_mem h)).1, fun i h => by rw [← hmx]; exact (k3 _ (List.getElem_mem h)).2, fun i h => by rw [← hmx]; exact l3 _ (List.getElem_mem h), by rw [← hmx]; exact k2, by rw [← hmx]; exact l2⟩, by simp only [List.all_cons, List.all_nil, k4, l4]; rfl, fun H => (sl_of mlen k5 H).1, fun H => (sl_of klen l5 H).1, fun H => ?_⟩
  by_cases g1 : 1048576 < ms.length
  · exact .inr (.inl g1)
  by_cases g2 : 1048576 < ks.length
  · exact .inr (.inr g2)
  exact .inl ⟨(sl_of mlen k5 H).1, (sl_of klen l5 H).1, by simp only; omega, by simp only; omega, fun L => (sl_of mlen k5 H).2 L c, fun L => (sl_of klen l5 H).2 L d⟩
theorem struct_row {P : Program} {w : World} {base : Nat} {t : TypeId} {v : Value} {fs : Array Field} (ht : P.underlying t = some (.struct fs)) (h : Value.okWide P w .any base t v) : ∃ cs : List Value, v = .agg cs.toArray ∧ ∀ (i : Nat) (a : Addr) (n c : Nat), cs[i]? = some (.slice (some a) n c) → a.spot = none := by
  simp only [Value.okWide, ht] at h
  obtain ⟨cs, h1, h2, h3⟩ := h
  exact ⟨cs.toList, by simpa using h1, fun i a n c hi => row_spot h3 (by simpa using hi)⟩
end Go.Proofs.YtmacpgoclhgafaaDoorW.FA
namespace Go.Proofs.YtmacpgoclhgafaaDoorW.XWords
open Go.Shelf Go.RowKit
theorem u8x : U8Extra Tryd.prog Tryd.lays260_ren := {
  n3 := by kernel_rfl
  n4 := by kernel_rfl
  y3 := by kernel_rfl
  y4 := by kernel_rfl
  c5 := by kernel_rfl
  c119 := by kernel_rfl
  c138 := by kernel_rfl }
theorem firstD : Go.Pinned.utf8First = Lib.firstData := by kernel_rfl
theorem acceptD : (Go.Proofs.YtmacpgoclhgafaaDoor.Rows.laid_unicode_utf8_acceptRanges : DataW Unit) = Lib.acceptData := by kernel_rfl
theorem Tabs_of_laid {W : World} (h : laidMetH Tryd.prog Go.Proofs.YtmacpgoclhgafaaDoor.Rows.fnExactRoomApplyRow.laid W) : Tabs W := by
  have h' : laidMet Tryd.prog Go.Proofs.YtmacpgoclhgafaaDoor.Rows.fnExactRoomApplyRow.laid W := by
    rw [← MakeChecks.laidMetH_plain _ _ _ (by kernel_rfl)]
    exact h
  refine utf8Tabs_of_reads Tryd.lays260 u8x ?_ ?_
  · rw [← firstD]
    exact Lib.laidMet.reads h' (List.mem_cons_of_mem _ (List.mem_cons_self ..))
  · rw [← acceptD]
    exact Lib.laidMet.reads h' (List.mem_cons_self ..)
/-- What an initialiser lays, put into a variable's block. -/
def laidIn (cs : List Value) : Obj → Obj
  | .cells _ t frozen => .cells cs.toArray t frozen
  | o => o
def firstCells : List Value := Lib.firstTab.map fun z => Value.int .u8 z
def acceptCells : List Value := (List.range 16).flatMap fun i => [Value.int .u8 (Lib.accLo i), Value.int .u8 (Lib.accHi i)]
/-- A world for the rows' witness: the tables as their initialisers lay them. -/
noncomputable def laidWorld (os : Os) : World :=
  { World.holding Tryd.prog os ⟨#[], #[], []⟩ with heap := ((World.holding Tryd.prog os ⟨#[], #[], []⟩).heap.modify (Tryd.lays260_ren.g 3) (laidIn firstCells)).modify (Tryd.lays260_ren.g 4) (laidIn acceptCells) }
end Go.Proofs.YtmacpgoclhgafaaDoorW.XWords
