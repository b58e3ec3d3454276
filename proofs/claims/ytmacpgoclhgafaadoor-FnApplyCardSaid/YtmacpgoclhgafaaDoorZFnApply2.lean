/- FnApply: own words and contracts that the law's proof uses, part 2. No condition of its own. -/
import Derived.Test.YtmacpgoclhgafaaDoorZFnApply1
set_option linter.unusedSimpArgs false
set_option linter.unusedVariables false
namespace Go.Proofs.YtmacpgoclhgafaaDoorW.FA
open Go.RowKit Go.Proofs.YtmacpgoclhgafaaDoorW.XM Go.Proofs Go.Proofs.YtmacpgoclhgafaaDoorW.XWords
set_option maxRecDepth 100000
set_option linter.unusedSimpArgs false
variable (w0 : World) (H : Hp)
theorem rank_ok (R : Rm) (x : Ad) (u : ByteArray) (hr : RmAt w0 H R x) : AFn Tryd.prog w0 69 #[.agg (R.enc x).toArray, .string u] H fun v H2 => v = .int .i64 (rankB R.ks u) ∧ H2 = H := by
  have hl := hr.lk
  refine AFn.scal rfl Tryd.func69 rfl (by kernel_rfl) ?_
  have r := Tryd.results69
  simp only [go_sem, cond, Nat.reduceAdd, Nat.reduceLeDiff, Nat.reduceEqDiff, Nat.reduceBEq, decide_true, decide_false, Int.toNat_natCast, r]
  simp only [go_sem, cond, Nat.reduceAdd, Nat.reduceLeDiff, Nat.reduceEqDiff, Nat.reduceBEq, decide_true, decide_false, Int.toNat_natCast, Rm.enc]
  refine xw_loop (fun (i : Nat) T H' => i ≤ R.ks.length ∧ rankB (R.ks.drop i) u = rankB R.ks u ∧ T 1 = .string u ∧ T 8 = .slice x.b R.ks.length x.d ∧ T 9 = .int .i64 R.ks.length ∧ T 10 = .int .i64 i ∧ ∃ l, H' = Hx H l) (fun i => R.ks.length - i) 0 (by kernel_rfl) ⟨Nat.zero_le _, rfl, rfl, rfl, rfl, rfl, _, rfl⟩ ?_
  rintro i T H' ⟨hi, he, t1, t8, t9, t10, l, rfl⟩
  by_cases hlt : i < R.ks.length
  · obtain ⟨b, o, sp, hx, _, hc⟩ := mcell (hr.sk.old l) hlt
    rw [← Hx_nil (Hx H l)]
    have c0 := hc [] rfl
    simp only [Rk.enc] at c0
    have d1 : ((i : Int) < (R.ks.length : Int)) = True := eq_true (by omega)
    have d2 : (0 ≤ (i : Int)) = True := eq_true (by omega)
    rw [rankB_drop _ _ i hlt] at he
    generalize hB : Hx H l = B at *
    simp only [go_sem, cond, Nat.reduceAdd, Nat.reduceLeDiff, Nat.reduceEqDiff, Nat.reduceBEq, decide_true, decide_false, Int.toNat_natCast, hx, t1, t8, t9, t10, d1, d2, c0]
    refine Br_intro ?_ ?_ <;> intro h <;> simp only [go_sem, cond, Nat.reduceAdd, Nat.reduceLeDiff, Nat.reduceEqDiff, Nat.reduceBEq, decide_true, decide_false, Int.toNat_natCast, t1, t8, t9, t10, h, r, d1, d2]
    · rw [if_pos h] at he
      exact ⟨by rw [he], _, by rw [← hB, Hx_Hx]⟩
    · rw [if_neg (by rw [h]; decide)] at he
      exact ⟨i + 1, ⟨hlt, he, t1, (by rw [← hx]; exact t8), t9, int_succ hlt (by omega), _, by rw [← hB, Hx_Hx]⟩, lt_meas hlt⟩
  · obtain rfl : i = R.ks.length := by omega
    have d1 : ((R.ks.length : Int) < (R.ks.length : Int)) = False := eq_false (by omega)
    rw [List.drop_length] at he
    simp only [go_sem, cond, Nat.reduceAdd, Nat.reduceLeDiff, Nat.reduceEqDiff, Nat.reduceBEq, decide_true, decide_false, Int.toNat_natCast, t1, t8, t9, t10, d1, r]
    exact ⟨by rw [← he]; rfl, _, rfl⟩
theorem owners_ok (R : Rm) (x : Ad) (hr : RmAt w0 H R x) : AFn Tryd.prog w0 70 #[.agg (R.enc x).toArray] H fun v H2 => v = .int .i64 (ownB R.ks) ∧ H2 = H := by
  have hl := hr.lk
  refine AFn.scal rfl Tryd.func70 rfl (by kernel_rfl) ?_
  have r := Tryd.results70
  simp only [go_sem, cond, Nat.reduceAdd, Nat.reduceLeDiff, Nat.reduceEqDiff, Nat.reduceBEq, decide_true, decide_false, Int.toNat_natCast, r]
  simp only [go_sem, cond, Nat.reduceAdd, Nat.reduceLeDiff, Nat.reduceEqDiff, Nat.reduceBEq, decide_true, decide_false, Int.toNat_natCast, Rm.enc]
  refine xw_loop (fun (i : Nat) T H' => i ≤ R.ks.length ∧ (∃ c : Nat, c ≤ i ∧ T 3 = .int .i64 c ∧ c + ownB (R.ks.drop i) = ownB R.ks) ∧ T 7 = .slice x.b R.ks.length x.d ∧ T 8 = .int .i64 R.ks.length ∧ T 9 = .int .i64 i ∧ ∃ l, H' = Hx H l) (fun i => R.ks.length - i) 0 (by kernel_rfl) ⟨Nat.zero_le _, ⟨0, Nat.le_refl _, rfl, Nat.zero_add _⟩, rfl, rfl, rfl, _, rfl⟩ ?_
  rintro i T H' ⟨hi, ⟨c, hci, t3, he⟩, t7, t8, t9, l, rfl⟩
  by_cases hlt : i < R.ks.length
  · obtain ⟨b, o, sp, hx, _, hc⟩ := mcell (hr.sk.old l) hlt
    rw [← Hx_nil (Hx H l)]
    have c0 := hc [] rfl
    simp only [Rk.enc] at c0
    have d1 : ((i : Int) < (R.ks.length : Int)) = True := eq_true (by omega)
    have d2 : (0 ≤ (i : Int)) = True := eq_true (by omega)
    rw [ownB_drop _ i hlt] at he
    generalize hB : Hx H l = B at *
    simp only [go_sem, cond, Nat.reduceAdd, Nat.reduceLeDiff, Nat.reduceEqDiff, Nat.reduceBEq, decide_true, decide_false, Int.toNat_natCast, hx, t3, t7, t8, t9, d1, d2, c0]
    refine Br_intro ?_ ?_ <;> intro h <;> simp only [go_sem, cond, Nat.reduceAdd, Nat.reduceLeDiff, Nat.reduceEqDiff, Nat.reduceBEq, decide_true, decide_false, Int.toNat_natCast, t3, t7, t8, t9, h, r, d1, d2]
    · rw [if_pos h] at he
      exact ⟨i + 1, ⟨hlt, ⟨c + 1, by omega, congrArg (Value.int .i64) (wrap_i64 (by omega) (by omega)), by omega⟩, (by rw [← hx]; exact t7), t8, int_succ hlt (by omega), _, by rw [← hB, Hx_Hx]⟩, lt_meas hlt⟩
    · rw [if_neg (by rw [h]; decide)] at he
      exact ⟨i + 1, ⟨hlt, ⟨c, by omega, t3, by omega⟩, (by rw [← hx]; exact t7), t8, int_succ hlt (by omega), _, by rw [← hB, Hx_Hx]⟩, lt_meas hlt⟩
  · obtain rfl : i = R.ks.length := by omega
    have d1 : ((R.ks.length : Int) < (R.ks.length : Int)) = False := eq_false (by omega)
    rw [List.drop_length] at he
    simp only [go_sem, cond, Nat.reduceAdd, Nat.reduceLeDiff, Nat.reduceEqDiff, Nat.reduceBEq, decide_true, decide_false, Int.toNat_natCast, t3, t7, t8, t9, d1, r]
    exact ⟨by rw [← he]; rfl, _, rfl⟩
theorem indexM_ok {α : Type} (enc : α → List Value) (A : Option Addr) (c : Nat) (ms : List α) (hs : Sl w0 H A 3 (ms.map enc)) (hl : ms.length ≤ 2000000) (he : ∀ m, (enc m).length = 3) (g : FuncId) (fi ca : List Value) (p : α → Bool)
    (hp : ∀ i (h : i < ms.length), AFn Tryd.prog w0 g (fi ++ [Value.agg (enc ms[i]).toArray] ++ ca).toArray H fun v H2 => v = .bool (p ms[i]) ∧ H2 = H) :
    AFn Tryd.prog w0 122 #[.slice A ms.length c, .func (.func g) fi.toArray ca.toArray] H fun v H2 => v = .int .i64 (idxP p ms 0) ∧ H2 = H := by
  refine AFn.scal rfl Tryd.func122 rfl (by kernel_rfl) ?_
  have r := Tryd.results122
  simp only [go_sem, cond, Nat.reduceAdd, Nat.reduceLeDiff, Nat.reduceEqDiff, Nat.reduceBEq, decide_true, decide_false, Int.toNat_natCast, r]
  refine xw_loop (fun (i : Nat) T H' => i ≤ ms.length ∧ idxP p (ms.drop i) i = idxP p ms 0 ∧ T 0 = .slice A ms.length c ∧ T 1 = .func (.func g) fi.toArray ca.toArray ∧ T 7 = .int .i64 ms.length ∧ T 8 = .int .i64 i ∧ H' = Hx H []) (fun i => ms.length - i) 0 (by kernel_rfl) ⟨Nat.zero_le _, rfl, rfl, rfl, rfl, rfl, rfl⟩ ?_
  rintro i T H' ⟨hi, he2, t0, t1, t7, t8, rfl⟩
  by_cases hlt : i < ms.length
  · obtain ⟨b, o, sp, hx, _, hc⟩ := mcell hs hlt
    have c0 := hc [] (he _)
    have d1 : ((i : Int) < (ms.length : Int)) = True := eq_true (by omega)
    have d2 : (0 ≤ (i : Int)) = True := eq_true (by omega)
    have c1 := hp i hlt
    rw [← Hx_nil H] at c1
    rw [idxP_drop _ _ i hlt] at he2
    simp only [go_sem, cond, Nat.reduceAdd, Nat.reduceLeDiff, Nat.reduceEqDiff, Nat.reduceBEq, decide_true, decide_false, Int.toNat_natCast, hx, t0, t1, t7, t8, d1, d2, c0]
    refine call_eq c1 ?_
    simp only [go_sem, cond, Nat.reduceAdd, Nat.reduceLeDiff, Nat.reduceEqDiff, Nat.reduceBEq, decide_true, decide_false, Int.toNat_natCast, hx, t0, t1, t7, t8, d1, d2, c0]
    refine Br_intro ?_ ?_ <;> intro h <;> simp only [go_sem, cond, Nat.reduceAdd, Nat.reduceLeDiff, Nat.reduceEqDiff, Nat.reduceBEq, decide_true, decide_false, Int.toNat_natCast, t0, t1, t7, t8, h, r]
    · rw [if_pos h] at he2
      exact ⟨by rw [he2], _, rfl⟩
    · rw [if_neg (by rw [h]; decide)] at he2
      exact ⟨i + 1, ⟨hlt, he2, (by rw [← hx]; exact t0), t1, t7, int_succ hlt (by omega), rfl⟩, lt_meas hlt⟩
  · obtain rfl : i = ms.length := by omega
    have d1 : ((ms.length : Int) < (ms.length : Int)) = False := eq_false (by omega)
    rw [List.drop_length] at he2
    simp only [go_sem, cond, Nat.reduceAdd, Nat.reduceLeDiff, Nat.reduceEqDiff, Nat.reduceBEq, decide_true, decide_false, Int.toNat_natCast, t0, t1, t7, t8, d1, r]
    exact ⟨by rw [← he2]; rfl, _, rfl⟩
theorem mem1_ok (u : ByteArray) (m : Mem) (B : Hp) (l : List (Option Ob)) (k : Nat) (hk : l[k]? = some (some (.row 9 [.string u]))) : AFn Tryd.prog w0 123 ([] ++ [Value.agg m.enc.toArray] ++ [Value.pointer (some ⟨nid B k, 0, some 1⟩)]).toArray (Hx B l) fun v H2 => v = .bool (isU u m) ∧ H2 = Hx B l := by
  have c0 : ∀ l', rd w0 (Hx (Hx B l) l') ⟨nid B k, 0, some 1⟩ 1 = some [.string u] := fun l' => rd_old (by rw [rd_own, hk]; rfl) l'
  generalize hB : Hx B l = B2 at *
  refine AFn.scal rfl Tryd.func123 rfl (by kernel_rfl) ?_
  have r := Tryd.results123
  simp only [go_sem, cond, Nat.reduceAdd, Nat.reduceLeDiff, Nat.reduceEqDiff, Nat.reduceBEq, decide_true, decide_false, Int.toNat_natCast, r]
  simp only [go_sem, cond, Nat.reduceAdd, Nat.reduceLeDiff, Nat.reduceEqDiff, Nat.reduceBEq, decide_true, decide_false, Int.toNat_natCast, Mem.enc, c0]
  simp only [go_sem, cond, Nat.reduceAdd, Nat.reduceLeDiff, Nat.reduceEqDiff, Nat.reduceBEq, decide_true, decide_false, Int.toNat_natCast, r]
  exact ⟨rfl, _, rfl⟩
theorem nick1_ok (u : ByteArray) (m : Mem) (B : Hp) (l : List (Option Ob)) (k : Nat) (hk : l[k]? = some (some (.row 9 [.string u]))) : AFn Tryd.prog w0 124 ([] ++ [Value.agg m.enc.toArray] ++ [Value.pointer (some ⟨nid B k, 0, some 1⟩)]).toArray (Hx B l) fun v H2 => v = .bool (isN u m) ∧ H2 = Hx B l := by
  have c0 : ∀ l', rd w0 (Hx (Hx B l) l') ⟨nid B k, 0, some 1⟩ 1 = some [.string u] := fun l' => rd_old (by rw [rd_own, hk]; rfl) l'
  generalize hB : Hx B l = B2 at *
  refine AFn.scal rfl Tryd.func124 rfl (by kernel_rfl) ?_
  have r := Tryd.results124
  simp only [go_sem, cond, Nat.reduceAdd, Nat.reduceLeDiff, Nat.reduceEqDiff, Nat.reduceBEq, decide_true, decide_false, Int.toNat_natCast, r]
  simp only [go_sem, cond, Nat.reduceAdd, Nat.reduceLeDiff, Nat.reduceEqDiff, Nat.reduceBEq, decide_true, decide_false, Int.toNat_natCast, Mem.enc, c0]
  simp only [go_sem, cond, Nat.reduceAdd, Nat.reduceLeDiff, Nat.reduceEqDiff, Nat.reduceBEq, decide_true, decide_false, Int.toNat_natCast, r]
  exact ⟨rfl, _, rfl⟩
theorem member_ok (R : Rm) (x : Ad) (u : ByteArray) (hr : RmAt w0 H R x) : AFn Tryd.prog w0 67 #[.agg (R.enc x).toArray, .string u] H fun v H2 => v = .int .i64 (idxP (isU u) R.ms 0) ∧ H2 = H := by
  refine AFn.scal rfl Tryd.func67 rfl (by kernel_rfl) ?_
  have r := Tryd.results67
  simp only [go_sem, cond, Nat.reduceAdd, Nat.reduceLeDiff, Nat.reduceEqDiff, Nat.reduceBEq, decide_true, decide_false, Int.toNat_natCast, r]
  simp only [go_sem, cond, Nat.reduceAdd, Nat.reduceLeDiff, Nat.reduceEqDiff, Nat.reduceBEq, decide_true, decide_false, Int.toNat_natCast, Rm.enc]
  refine call_eq (indexM_ok w0 _ Mem.enc x.a x.c R.ms (hr.sm.old _) hr.lm (fun _ => rfl) _ [] _ (isU u) (fun i h => mem1_ok w0 u R.ms[i] H [some (.row 33 (R.enc x)), some (.row 9 [.string u])] 1 rfl)) ?_
  simp only [go_sem, cond, Nat.reduceAdd, Nat.reduceLeDiff, Nat.reduceEqDiff, Nat.reduceBEq, decide_true, decide_false, Int.toNat_natCast, r]
  exact ⟨_, rfl⟩
theorem nick_ok (R : Rm) (x : Ad) (u : ByteArray) (hr : RmAt w0 H R x) : AFn Tryd.prog w0 68 #[.agg (R.enc x).toArray, .string u] H fun v H2 => v = .int .i64 (idxP (isN u) R.ms 0) ∧ H2 = H := by
  refine AFn.scal rfl Tryd.func68 rfl (by kernel_rfl) ?_
  have r := Tryd.results68
  simp only [go_sem, cond, Nat.reduceAdd, Nat.reduceLeDiff, Nat.reduceEqDiff, Nat.reduceBEq, decide_true, decide_false, Int.toNat_natCast, r]
  simp only [go_sem, cond, Nat.reduceAdd, Nat.reduceLeDiff, Nat.reduceEqDiff, Nat.reduceBEq, decide_true, decide_false, Int.toNat_natCast, Rm.enc]
  refine call_eq (indexM_ok w0 _ Mem.enc x.a x.c R.ms (hr.sm.old _) hr.lm (fun _ => rfl) _ [] _ (isN u) (fun i h => nick1_ok w0 u R.ms[i] H [some (.row 33 (R.enc x)), some (.row 9 [.string u])] 1 rfl)) ?_
  simp only [go_sem, cond, Nat.reduceAdd, Nat.reduceLeDiff, Nat.reduceEqDiff, Nat.reduceBEq, decide_true, decide_false, Int.toNat_natCast, r]
  exact ⟨_, rfl⟩
end Go.Proofs.YtmacpgoclhgafaaDoorW.FA
namespace Go.Proofs.YtmacpgoclhgafaaDoorW.FA
open Go.RowKit Go.Proofs.YtmacpgoclhgafaaDoorW.XM Go.Proofs Go.Proofs.YtmacpgoclhgafaaDoorW.XWords
set_option maxRecDepth 100000
set_option linter.unusedSimpArgs false
variable (w0 : World) (H : Hp)
theorem less_total : ∀ (x y : List UInt8), (Op.bytesLess x y || x == y) = !Op.bytesLess y x
  | [], [] => rfl
  | [], _ :: _ => by simp [Op.bytesLess]
  | _ :: _, [] => by simp [Op.bytesLess]
  | a :: x, b :: y => by
    have ih := less_total x y
    rcases Nat.lt_trichotomy a.toNat b.toNat with h | h | h
    · have h1 : a < b := h
      have h2 : ¬ b < a := by intro e; have : b.toNat < a.toNat := e; omega
      have h3 : ¬ b = a := by rintro rfl; exact Nat.lt_irrefl _ h
      simp [Op.bytesLess, h1, h2, h3]
    · obtain rfl : a = b := UInt8.toNat_inj.1 h
      have h2 : ¬ a < a := by intro e; have : a.toNat < a.toNat := e; omega
      simp only [Op.bytesLess, h2, decide_false, Bool.false_or, beq_self_eq_true, Bool.true_and, List.cons_beq_cons]
      exact ih
    · have h1 : b < a := h
      have h2 : ¬ a < b := by intro e; have : a.toNat < b.toNat := e; omega
      have h3 : ¬ a = b := by rintro rfl; exact Nat.lt_irrefl _ h
      simp [Op.bytesLess, h1, h2, h3]
/-- All of a list, with its places. -/
def allI {α : Type} (p : Nat → α → Bool) : List α → Nat → Bool
  | [], _ => true
  | x :: r, i => p i x && allI p r (i + 1)
theorem allI_drop {α : Type} (p : Nat → α → Bool) (l : List α) (i : Nat) (hi : i < l.length) : allI p (l.drop i) i = (p i l[i] && allI p (l.drop (i + 1)) (i + 1)) := by
  rw [List.drop_eq_getElem_cons hi, allI]
/-- A room's texts, no longer than texts are. -/
structure Big (R : Rm) : Prop where
  nm : R.name.size ≤ 1000000000000
  sj : R.subj.size ≤ 1000000000000
  us : ∀ (i : Nat) (h : i < R.ms.length), R.ms[i].user.size ≤ 1000000000000
  ni : ∀ (i : Nat) (h : i < R.ms.length), R.ms[i].nick.size ≤ 1000000000000
  ku : ∀ (i : Nat) (h : i < R.ks.length), R.ks[i].user.size ≤ 1000000000000
def memB (R : Rm) (i : Nat) (m : Mem) : Bool := userB m.user && (nickB m.nick && ((idxP (isU m.user) R.ms 0 == (i : Int)) && ((idxP (isN m.nick) R.ms 0 == (i : Int)) && (inB m.role 1 3 && !(rankB R.ks m.user == 0)))))
def prevB (R : Rm) (i : Nat) (u : ByteArray) : Bool := match i with
  | 0 => true
  | j + 1 => match R.ks[j]? with
    | some k => Op.bytesLess k.user.toList u.toList
    | none => true
def rkB (R : Rm) (i : Nat) (k : Rk) : Bool := userB k.user && (prevB R i k.user && (inB k.num 0 4 && !(k.num == 1)))
def emB (s : ByteArray) : Bool := s.toList == (ByteArray.mk #[]).toList
def orB (p : ByteArray → Bool) (s : ByteArray) : Bool := emB s || p s
def idleB (R : Rm) : Bool := (R.next == 0) && (((R.ms.length : Int) == 0) && (((R.ks.length : Int) == 0) && emB R.subj))
def roomB (R : Rm) : Bool := userB R.name && (inB R.next 0 9999 && (orB bodyB R.subj && ((allI (memB R) R.ms 0 && decide (R.ms.length ≤ 5)) && ((allI (rkB R) R.ks 0 && decide (R.ks.length ≤ 6)) && (decide (0 < ownB R.ks) || idleB R)))))
variable {w0 H}
/-- What a box holds, whatever is laid down behind it. -/
theorem box_rd {t : TypeId} {cs : List Value} {n : Nat} (hn : cs.length = n) (l L : List (Option Ob)) {f k : Nat} (hf : f + k ≤ n) : rd w0 (Hx (Hx H (some (.row t cs) :: l)) L) ⟨nid H 0, f, some n⟩ k = some ((cs.drop f).take k) :=
  rd_old (by rw [rd_own]; show rdO (some (some (.row t cs))) _ _ _ = _; rw [rdO_row, if_pos ⟨hn, by omega⟩]) L
/-- All rows of a slice that is not empty. -/
theorem mrows {α : Type} {enc : α → List Value} {A : Option Addr} {n : Nat} {l : List α} (h : Sl w0 H A n (l.map enc)) (hn : 0 < l.length) : ∃ b o sp, A = some ⟨b, o, sp⟩ ∧ (∀ (i : Nat) (hi : i < l.length) (f : Nat) (v : Value) (L : List (Option Ob)), f < n → (enc l[i])[f]? = some v → rd w0 (Hx H L) ⟨b, o + i * n + f, sp⟩ 1 = some [v]) ∧ ∀ (i : Nat) (hi : i < l.length) (L : List (Option Ob)), (enc l[i]).length = n → rd w0 (Hx H L) ⟨b, o + i * n, sp⟩ n = some (enc l[i]) := by
  obtain ⟨b, o, sp, e, hR⟩ := h.at (i := 0) (by simpa using hn)
  exact ⟨b, o, sp, e, fun i hi f v L hf hv => hR.cell (i := i) (by simp [hi]) f hf hv L, fun i hi L hl => hR.row (i := i) (by simp [hi]) hl L⟩
variable (w0 H)
theorem l6MembersOk_ok (R : Rm) (x : Ad) (hr : RmAt w0 H R x) (hb : Big R) : AFn Tryd.prog w0 102 #[.agg (R.enc x).toArray] H fun v H2 => v = .bool (allI (memB R) R.ms 0 && decide (R.ms.length ≤ 5)) ∧ H2 = H := by
  have hl := hr.lm
  obtain ⟨xa, xc, xb, xd⟩ := x
  refine AFn.scal rfl Tryd.func102 rfl (by kernel_rfl) ?_
  have r := Tryd.results102
  simp only [go_sem, cond, Nat.reduceAdd, Nat.reduceLeDiff, Nat.reduceEqDiff, Nat.reduceBEq, decide_true, decide_false, Int.toNat_natCast, r]
  simp only [go_sem, cond, Nat.reduceAdd, Nat.reduceLeDiff, Nat.reduceEqDiff, Nat.reduceBEq, decide_true, decide_false, Int.toNat_natCast, Rm.enc]
  refine xw_loop (fun (i : Nat) T H' => i ≤ R.ms.length ∧ allI (memB R) (R.ms.drop i) i = allI (memB R) R.ms 0 ∧ T 1 = .pointer (some ⟨nid H 0, 0, some 5⟩) ∧ T 3 = .int .i64 i ∧ ∃ l, H' = Hx H (some (.row 33 (R.enc ⟨xa, xc, xb, xd⟩)) :: l)) (fun i => R.ms.length - i) 0 (by kernel_rfl) ⟨Nat.zero_le _, rfl, rfl, rfl, _, rfl⟩ ?_
  rintro i T H' ⟨hi, he, t1, t3, l, rfl⟩
  rw [← Hx_nil (Hx H _)]
  have c2 := fun L => box_rd (w0 := w0) (H := H) (t := 33) (cs := R.enc ⟨xa, xc, xb, xd⟩) (n := 5) rfl l L (f := 2) (k := 1) (by omega)
  have c5 := fun L => box_rd (w0 := w0) (H := H) (t := 33) (cs := R.enc ⟨xa, xc, xb, xd⟩) (n := 5) rfl l L (f := 0) (k := 5) (by omega)
  have hrB : ∀ L, RmAt w0 (Hx (Hx H (some (.row 33 (R.enc ⟨xa, xc, xb, xd⟩)) :: l)) L) R ⟨xa, xc, xb, xd⟩ := fun L => (hr.old _).old L
  obtain ⟨B, hB⟩ : ∃ B, B = Hx H (some (.row 33 (R.enc ⟨xa, xc, xb, xd⟩)) :: l) := ⟨_, rfl⟩
  rw [← hB] at c2 c5 hrB ⊢
  by_cases hlt : i < R.ms.length
  · obtain ⟨b, o, sp, rfl, _, hc⟩ := mcell (hrB []).sm hlt
    have c0 := hc [] rfl
    rw [Hx_nil] at c0
    have d1 : ((i : Int) < (R.ms.length : Int)) = True := eq_true (by omega)
    have d2 : (0 ≤ (i : Int)) = True := eq_true (by omega)
    rw [allI_drop _ _ i hlt] at he
    simp only [Rm.enc, List.drop_zero, List.drop_succ_cons, List.take_succ_cons, List.take_zero] at c2 c5
    simp only [Mem.enc] at c0
    simp only [go_sem, cond, Nat.reduceAdd, Nat.reduceLeDiff, Nat.reduceEqDiff, Nat.reduceBEq, decide_true, decide_false, Int.toNat_natCast, t1, t3, d1, d2, c0, c2, c5]
    repeat' (first
      | (refine Br_intro ?_ ?_ <;> intro h <;> simp only [go_sem, cond, Nat.reduceAdd, Nat.reduceLeDiff, Nat.reduceEqDiff, Nat.reduceBEq, decide_true, decide_false, Int.toNat_natCast, t1, t3, d1, d2, c0, c2, c5, h, r])
      | (refine call_eq (l4User_ok _ _ _ (hb.us i hlt)) ?_; simp only [go_sem, cond, Nat.reduceAdd, Nat.reduceLeDiff, Nat.reduceEqDiff, Nat.reduceBEq, decide_true, decide_false, Int.toNat_natCast, t1, t3, d1, d2, c0, c2, c5, r])
      | (refine call_eq (l4Nick_ok _ _ _ (hb.ni i hlt)) ?_; simp only [go_sem, cond, Nat.reduceAdd, Nat.reduceLeDiff, Nat.reduceEqDiff, Nat.reduceBEq, decide_true, decide_false, Int.toNat_natCast, t1, t3, d1, d2, c0, c2, c5, r])
      | (refine call_eq (l1In_ok _ _ _ _ _) ?_; simp only [go_sem, cond, Nat.reduceAdd, Nat.reduceLeDiff, Nat.reduceEqDiff, Nat.reduceBEq, decide_true, decide_false, Int.toNat_natCast, t1, t3, d1, d2, c0, c2, c5, r])
      | (refine call_eq (l6Of_ok _ _ R _ _ (hrB _)) ?_; simp only [go_sem, cond, Nat.reduceAdd, Nat.reduceLeDiff, Nat.reduceEqDiff, Nat.reduceBEq, decide_true, decide_false, Int.toNat_natCast, t1, t3, d1, d2, c0, c2, c5, r])
      | (refine call_eq (l6Nick_ok _ _ R _ _ (hrB _)) ?_; simp only [go_sem, cond, Nat.reduceAdd, Nat.reduceLeDiff, Nat.reduceEqDiff, Nat.reduceBEq, decide_true, decide_false, Int.toNat_natCast, t1, t3, d1, d2, c0, c2, c5, r])
      | (refine call_eq (l6Rank_ok _ _ R _ _ (hrB _)) ?_; simp only [go_sem, cond, Nat.reduceAdd, Nat.reduceLeDiff, Nat.reduceEqDiff, Nat.reduceBEq, decide_true, decide_false, Int.toNat_natCast, t1, t3, d1, d2, c0, c2, c5, r]))
    all_goals first
      | (refine ⟨i + 1, ⟨hlt, ?_, t1, int_succ hlt (by omega), _, by rw [hB, Hx_Hx]; rfl⟩, lt_meas hlt⟩
         rw [← he, show memB R i R.ms[i] = true by simp [memB, *], Bool.true_and])
      | exact ⟨by rw [← he, show memB R i R.ms[i] = false by simp [memB, *], Bool.false_and, Bool.false_and], _, by rw [hB, Hx_Hx]⟩
  · obtain rfl : i = R.ms.length := by omega
    have d1 : ((R.ms.length : Int) < (R.ms.length : Int)) = False := eq_false (by omega)
    rw [List.drop_length] at he
    simp only [Rm.enc, List.drop_zero, List.drop_succ_cons, List.take_succ_cons, List.take_zero] at c2
    simp only [go_sem, cond, Nat.reduceAdd, Nat.reduceLeDiff, Nat.reduceEqDiff, Nat.reduceBEq, decide_true, decide_false, Int.toNat_natCast, t1, t3, d1, c2, r]
    exact ⟨by rw [← he]; simp only [allI, Bool.true_and]; congr 2; apply propext; constructor <;> intro h <;> omega, _, by rw [hB, Hx_Hx]⟩
end Go.Proofs.YtmacpgoclhgafaaDoorW.FA
namespace Go.Proofs.YtmacpgoclhgafaaDoorW.FA
open Go.RowKit Go.Proofs.YtmacpgoclhgafaaDoorW.XM Go.Proofs Go.Proofs.YtmacpgoclhgafaaDoorW.XWords
set_option maxRecDepth 100000
set_option linter.unusedSimpArgs false
variable (w0 : World) (H : Hp)
theorem l6RanksOk_ok (R : Rm) (x : Ad) (hr : RmAt w0 H R x) (hb : Big R) : AFn Tryd.prog w0 103 #[.agg (R.enc x).toArray] H fun v H2 => v = .bool (allI (rkB R) R.ks 0 && decide (R.ks.length ≤ 6)) ∧ H2 = H := by
  have hl := hr.lk
  obtain ⟨xa, xc, xb, xd⟩ := x
  refine AFn.scal rfl Tryd.func103 rfl (by kernel_rfl) ?_
  have r := Tryd.results103
  simp only [go_sem, cond, Nat.reduceAdd, Nat.reduceLeDiff, Nat.reduceEqDiff, Nat.reduceBEq, decide_true, decide_false, Int.toNat_natCast, r]
  simp only [go_sem, cond, Nat.reduceAdd, Nat.reduceLeDiff, Nat.reduceEqDiff, Nat.reduceBEq, decide_true, decide_false, Int.toNat_natCast, Rm.enc]
  refine xw_loop (fun (i : Nat) T H' => i ≤ R.ks.length ∧ allI (rkB R) (R.ks.drop i) i = allI (rkB R) R.ks 0 ∧ T 1 = .pointer (some ⟨nid H 0, 0, some 5⟩) ∧ T 3 = .int .i64 i ∧ ∃ l, H' = Hx H (some (.row 33 (R.enc ⟨xa, xc, xb, xd⟩)) :: l)) (fun i => R.ks.length - i) 0 (by kernel_rfl) ⟨Nat.zero_le _, rfl, rfl, rfl, _, rfl⟩ ?_
  rintro i T H' ⟨hi, he, t1, t3, l, rfl⟩
  rw [← Hx_nil (Hx H _)]
  have c2 := fun L => box_rd (w0 := w0) (H := H) (t := 33) (cs := R.enc ⟨xa, xc, xb, xd⟩) (n := 5) rfl l L (f := 3) (k := 1) (by omega)
  have hrB : ∀ L, RmAt w0 (Hx (Hx H (some (.row 33 (R.enc ⟨xa, xc, xb, xd⟩)) :: l)) L) R ⟨xa, xc, xb, xd⟩ := fun L => (hr.old _).old L
  obtain ⟨B, hB⟩ : ∃ B, B = Hx H (some (.row 33 (R.enc ⟨xa, xc, xb, xd⟩)) :: l) := ⟨_, rfl⟩
  rw [← hB] at c2 hrB ⊢
  by_cases hlt : i < R.ks.length
  · obtain ⟨b, o, sp, rfl, hc1, hc⟩ := mrows (hrB []).sk (by omega)
    have c0 := hc i hlt [] rfl
    rw [Hx_nil] at c0
    have d1 : ((i : Int) < (R.ks.length : Int)) = True := eq_true (by omega)
    have d2 : (0 ≤ (i : Int)) = True := eq_true (by omega)
    rw [allI_drop _ _ i hlt] at he
    simp only [Rm.enc, List.drop_zero, List.drop_succ_cons, List.take_succ_cons, List.take_zero] at c2
    simp only [Rk.enc] at c0
    simp only [go_sem, cond, Nat.reduceAdd, Nat.reduceLeDiff, Nat.reduceEqDiff, Nat.reduceBEq, decide_true, decide_false, Int.toNat_natCast, t1, t3, d1, d2, c0, c2]
    (refine xw_open (id := 5) [0, 1, 3, 7, 15, 31, 63, 127, 255, 511, 1023, 2047, 4095, 8191, 16383, 32767, 65535, 131071, 262143, 524287, 1048575, 524287, 2621439, 524287, 8912895, 31981567, 65535999, 132644863, 268435455, 536870911, 1073741823] [.q 0, .q 1, .e 2, .q 3, .q 4, .q 5, .q 6, .e 7, .q 8, .q 9, .q 10, .q 11, .q 12, .q 13, .q 14, .q 15, .q 16, .q 17, .q 18, .q 19, .q 21, .q 23, .q 24, .q 20, .q 22, .q 25, .q 26, .q 27, .q 28, .q 29, .q 30] rfl (by kernel_rfl) ?_; simp only [go_sem, cond, Nat.reduceAdd, Nat.reduceLeDiff, Nat.reduceEqDiff, Nat.reduceBEq, decide_true, decide_false, Int.toNat_natCast, t1, t3, d1, d2, c0, c2, gt_iff_lt, less_total, r])
    have hp : (i = 0 ∧ prevB R i R.ks[i].user = true) ∨ ∃ p : Nat, i = p + 1 ∧ ∃ hp : p < R.ks.length, prevB R i R.ks[i].user = Op.bytesLess R.ks[p].user.toList R.ks[i].user.toList ∧ ∀ L, rd w0 (Hx B L) ⟨b, o + p * 2 + 0, sp⟩ 1 = some [.string R.ks[p].user] := by
      cases i with
      | zero => exact .inl ⟨rfl, rfl⟩
      | succ p => exact .inr ⟨p, rfl, by omega, by simp only [prevB]; rw [List.getElem?_eq_getElem (by omega)], fun L => by have := hc1 p (by omega) 0 (.string R.ks[p].user) L (by decide) rfl; rwa [Hx_nil] at this⟩
    rcases hp with ⟨rfl, hp0⟩ | ⟨p, rfl, hpl, hp0, c4⟩
    · have d3 : ((0 : Int) < ((0 : Nat) : Int)) = False := eq_false (by omega)
      repeat' (first
        | (refine Br_intro ?_ ?_ <;> intro h <;> simp only [go_sem, cond, Nat.reduceAdd, Nat.reduceLeDiff, Nat.reduceEqDiff, Nat.reduceBEq, decide_true, decide_false, Int.toNat_natCast, t1, t3, d1, d2, c0, c2, gt_iff_lt, less_total, r, d3, h])
        | (refine call_eq (l4User_ok _ _ _ (hb.ku _ hlt)) ?_; simp only [go_sem, cond, Nat.reduceAdd, Nat.reduceLeDiff, Nat.reduceEqDiff, Nat.reduceBEq, decide_true, decide_false, Int.toNat_natCast, t1, t3, d1, d2, c0, c2, gt_iff_lt, less_total, r, d3])
        | (refine call_eq (l1In_ok _ _ _ _ _) ?_; simp only [go_sem, cond, Nat.reduceAdd, Nat.reduceLeDiff, Nat.reduceEqDiff, Nat.reduceBEq, decide_true, decide_false, Int.toNat_natCast, t1, t3, d1, d2, c0, c2, gt_iff_lt, less_total, r, d3]))
      all_goals first
        | (refine ⟨_ + 1, ⟨hlt, ?_, t1, int_succ hlt (by omega), _, by rw [hB, Hx_Hx]; rfl⟩, lt_meas hlt⟩
           rw [← he, show rkB R _ _ = true by simp [rkB, *], Bool.true_and])
        | exact ⟨by rw [← he, show rkB R _ _ = false by simp [rkB, *], Bool.false_and, Bool.false_and], _, by rw [hB, Hx_Hx]⟩
    · have d3 : ((0 : Int) < ((p + 1 : Nat) : Int)) = True := eq_true (by omega)
      have d4 : IntKind.i64.wrap (((p + 1 : Nat) : Int) - 1) = (p : Int) := by rw [wrap_i64 (by omega) (by omega)]; omega
      have d5 : ((p : Int) < (R.ks.length : Int)) = True := eq_true (by omega)
      have d6 : ((0 : Int) ≤ (p : Int)) = True := eq_true (by omega)
      repeat' (first
        | (refine Br_intro ?_ ?_ <;> intro h <;> simp only [go_sem, cond, Nat.reduceAdd, Nat.reduceLeDiff, Nat.reduceEqDiff, Nat.reduceBEq, decide_true, decide_false, Int.toNat_natCast, t1, t3, d1, d2, c0, c2, gt_iff_lt, less_total, r, d3, d4, d5, d6, c4, h])
        | (refine call_eq (l4User_ok _ _ _ (hb.ku _ hlt)) ?_; simp only [go_sem, cond, Nat.reduceAdd, Nat.reduceLeDiff, Nat.reduceEqDiff, Nat.reduceBEq, decide_true, decide_false, Int.toNat_natCast, t1, t3, d1, d2, c0, c2, gt_iff_lt, less_total, r, d3, d4, d5, d6, c4])
        | (refine call_eq (l1In_ok _ _ _ _ _) ?_; simp only [go_sem, cond, Nat.reduceAdd, Nat.reduceLeDiff, Nat.reduceEqDiff, Nat.reduceBEq, decide_true, decide_false, Int.toNat_natCast, t1, t3, d1, d2, c0, c2, gt_iff_lt, less_total, r, d3, d4, d5, d6, c4]))
      all_goals first
        | (refine ⟨_ + 1, ⟨hlt, ?_, t1, int_succ hlt (by omega), _, by rw [hB, Hx_Hx]; rfl⟩, lt_meas hlt⟩
           rw [← he, show rkB R _ _ = true by simp [rkB, *], Bool.true_and])
        | exact ⟨by rw [← he, show rkB R _ _ = false by simp [rkB, *], Bool.false_and, Bool.false_and], _, by rw [hB, Hx_Hx]⟩
  · obtain rfl : i = R.ks.length := by omega
    have d1 : ((R.ks.length : Int) < (R.ks.length : Int)) = False := eq_false (by omega)
    rw [List.drop_length] at he
    simp only [Rm.enc, List.drop_zero, List.drop_succ_cons, List.take_succ_cons, List.take_zero] at c2
    simp only [go_sem, cond, Nat.reduceAdd, Nat.reduceLeDiff, Nat.reduceEqDiff, Nat.reduceBEq, decide_true, decide_false, Int.toNat_natCast, t1, t3, d1, c2, r]
    exact ⟨by rw [← he]; simp only [allI, Bool.true_and]; congr 2; apply propext; constructor <;> intro h <;> omega, _, by rw [hB, Hx_Hx]⟩
end Go.Proofs.YtmacpgoclhgafaaDoorW.FA
namespace Go.Proofs.YtmacpgoclhgafaaDoorW.FA
open Go.RowKit Go.Proofs.YtmacpgoclhgafaaDoorW.XM Go.Proofs Go.Proofs.YtmacpgoclhgafaaDoorW.XWords
set_option maxRecDepth 100000
set_option linter.unusedSimpArgs false
variable (w0 : World) (H : Hp)
theorem pos_nat (n : Nat) : decide ((0 : Int) < (n : Int)) = decide (0 < n) := by
  rw [Bool.eq_iff_iff, decide_eq_true_eq, decide_eq_true_eq]; omega
theorem gt_nat (k n : Nat) : decide ((k : Int) < (n : Int)) = !decide (n ≤ k) := by
  rw [Bool.eq_iff_iff]; simp
theorem l6Ok_ok (R : Rm) (x : Ad) (hr : RmAt w0 H R x) (hb : Big R) : AFn Tryd.prog w0 45 #[.agg (R.enc x).toArray] H fun v H2 => v = .bool (roomB R) ∧ H2 = H := by
  obtain ⟨xa, xc, xb, xd⟩ := x
  refine AFn.scal rfl Tryd.func45 rfl (by kernel_rfl) ?_
  have r := Tryd.results45
  simp only [go_sem, cond, Nat.reduceAdd, Nat.reduceLeDiff, Nat.reduceEqDiff, Nat.reduceBEq, decide_true, decide_false, Int.toNat_natCast, r]
  simp only [go_sem, cond, Nat.reduceAdd, Nat.reduceLeDiff, Nat.reduceEqDiff, Nat.reduceBEq, decide_true, decide_false, Int.toNat_natCast, Rm.enc, r, pos_nat, gt_iff_lt]
  repeat' (first
    | (refine Br_intro ?_ ?_ <;> intro h <;> simp only [go_sem, cond, Nat.reduceAdd, Nat.reduceLeDiff, Nat.reduceEqDiff, Nat.reduceBEq, decide_true, decide_false, Int.toNat_natCast, h, r, pos_nat, gt_iff_lt])
    | (refine call_eq (l4User_ok _ _ _ hb.nm) ?_; simp only [go_sem, cond, Nat.reduceAdd, Nat.reduceLeDiff, Nat.reduceEqDiff, Nat.reduceBEq, decide_true, decide_false, Int.toNat_natCast, r, pos_nat, gt_iff_lt])
    | (refine call_eq (l1In_ok _ _ _ _ _) ?_; simp only [go_sem, cond, Nat.reduceAdd, Nat.reduceLeDiff, Nat.reduceEqDiff, Nat.reduceBEq, decide_true, decide_false, Int.toNat_natCast, r, pos_nat, gt_iff_lt])
    | (refine call_eq (l5Body_ok _ _ _ hb.sj) ?_; simp only [go_sem, cond, Nat.reduceAdd, Nat.reduceLeDiff, Nat.reduceEqDiff, Nat.reduceBEq, decide_true, decide_false, Int.toNat_natCast, r, pos_nat, gt_iff_lt])
    | (refine call_eq (l6MembersOk_ok _ _ R _ (hr.old _) hb) ?_; simp only [go_sem, cond, Nat.reduceAdd, Nat.reduceLeDiff, Nat.reduceEqDiff, Nat.reduceBEq, decide_true, decide_false, Int.toNat_natCast, r, pos_nat, gt_iff_lt])
    | (refine call_eq (l6RanksOk_ok _ _ R _ (hr.old _) hb) ?_; simp only [go_sem, cond, Nat.reduceAdd, Nat.reduceLeDiff, Nat.reduceEqDiff, Nat.reduceBEq, decide_true, decide_false, Int.toNat_natCast, r, pos_nat, gt_iff_lt])
    | (refine call_eq (l6Owners_ok _ _ R _ (hr.old _)) ?_; simp only [go_sem, cond, Nat.reduceAdd, Nat.reduceLeDiff, Nat.reduceEqDiff, Nat.reduceBEq, decide_true, decide_false, Int.toNat_natCast, r, pos_nat, gt_iff_lt]))
  all_goals refine ⟨congrArg Value.bool ?_, _, rfl⟩
  all_goals clear hr hb r
  all_goals simp only [roomB, orB, emB, idleB, *, Bool.true_and, Bool.false_and, Bool.and_true, Bool.and_false, Bool.true_or, Bool.or_true, Bool.false_or, Bool.or_false]
end Go.Proofs.YtmacpgoclhgafaaDoorW.FA
namespace Go.Proofs.YtmacpgoclhgafaaDoorW.FA
open Go.RowKit Go.Proofs.YtmacpgoclhgafaaDoorW.XM Go.Proofs Go.Proofs.YtmacpgoclhgafaaDoorW.XWords
set_option maxRecDepth 100000
set_option linter.unusedSimpArgs false
variable (w0 : World) (H : Hp)
theorem orEmpty_ok (s : ByteArray) (g : FuncId) (p : ByteArray → Bool) (hg : AFn Tryd.prog w0 g ([] ++ [Value.string s] ++ []).toArray H fun v H2 => v = .bool (p s) ∧ H2 = H) : AFn Tryd.prog w0 64 #[.string s, .func (.func g) #[] #[]] H fun v H2 => v = .bool (orB p s) ∧ H2 = H := by
  rw [← Hx_nil H] at hg
  refine AFn.scal rfl Tryd.func64 rfl (by kernel_rfl) ?_
  have r := Tryd.results64
  simp only [go_sem, cond, Nat.reduceAdd, Nat.reduceLeDiff, Nat.reduceEqDiff, Nat.reduceBEq, decide_true, decide_false, Int.toNat_natCast, r]
  refine Br_intro ?_ ?_ <;> intro h <;> simp only [go_sem, cond, Nat.reduceAdd, Nat.reduceLeDiff, Nat.reduceEqDiff, Nat.reduceBEq, decide_true, decide_false, Int.toNat_natCast, h, r]
  · exact ⟨by simp only [orB, emB, h, Bool.true_or], _, rfl⟩
  · refine call_eq hg ?_
    simp only [go_sem, cond, Nat.reduceAdd, Nat.reduceLeDiff, Nat.reduceEqDiff, Nat.reduceBEq, decide_true, decide_false, Int.toNat_natCast, r]
    exact ⟨by simp only [orB, emB, h, Bool.false_or], _, rfl⟩
theorem RoomOk_ok (R : Rm) (x : Ad) (hT : Tabs w0) (hr : RmAt w0 H R x) (hb : Big R) : AFn Tryd.prog w0 20 #[.agg (R.enc x).toArray] H fun v H2 => v = .bool (roomB R) ∧ H2 = H := by
  obtain ⟨xa, xc, xb, xd⟩ := x
  have hlm := hr.lm
  have hlk := hr.lk
  refine AFn.scal rfl Tryd.func20 rfl (by kernel_rfl) ?_
  have r := Tryd.results20
  simp only [go_sem, cond, Nat.reduceAdd, Nat.reduceLeDiff, Nat.reduceEqDiff, Nat.reduceBEq, decide_true, decide_false, Int.toNat_natCast, r]
  simp only [go_sem, cond, Nat.reduceAdd, Nat.reduceLeDiff, Nat.reduceEqDiff, Nat.reduceBEq, decide_true, decide_false, Int.toNat_natCast, Rm.enc, r]
  refine call_eq (userOk_ok _ _ _ hb.nm) ?_
  simp only [go_sem, cond, Nat.reduceAdd, Nat.reduceLeDiff, Nat.reduceEqDiff, Nat.reduceBEq, decide_true, decide_false, Int.toNat_natCast, r]
  have g5 := gt_nat 5 R.ms.length
  have g6 := gt_nat 6 R.ks.length
  have e5 : ((5 : Nat) : Int) = 5 := rfl
  have e6 : ((6 : Nat) : Int) = 6 := rfl
  rw [e5] at g5
  rw [e6] at g6
  repeat' (first
    | (refine Br_intro ?_ ?_ <;> intro h <;> simp only [go_sem, cond, Nat.reduceAdd, Nat.reduceLeDiff, Nat.reduceEqDiff, Nat.reduceBEq, decide_true, decide_false, Int.toNat_natCast, h, r, g5, g6, gt_iff_lt])
    | (refine call_eq (within_ok _ _ _ _ _) ?_; simp only [go_sem, cond, Nat.reduceAdd, Nat.reduceLeDiff, Nat.reduceEqDiff, Nat.reduceBEq, decide_true, decide_false, Int.toNat_natCast, r, g5, g6, gt_iff_lt])
    | (refine call_eq (orEmpty_ok _ _ _ _ bodyB (bodyOk_ok _ _ _ hT hb.sj)) ?_; simp only [go_sem, cond, Nat.reduceAdd, Nat.reduceLeDiff, Nat.reduceEqDiff, Nat.reduceBEq, decide_true, decide_false, Int.toNat_natCast, r, g5, g6, gt_iff_lt]))
  all_goals first
    | (refine ⟨congrArg Value.bool ?_, _, rfl⟩
       clear hr hb r
       simp only [roomB, *, Bool.true_and, Bool.false_and, Bool.and_true, Bool.and_false]
       done)
    | skip
  rename_i h1 h2 h3 h4
  refine xw_loop (fun (i : Nat) T H' => i ≤ R.ms.length ∧ allI (memB R) (R.ms.drop i) i = allI (memB R) R.ms 0 ∧ T 1 = .pointer (some ⟨nid H 0, 0, some 5⟩) ∧ T 36 = .slice xa R.ms.length xc ∧ T 37 = .int .i64 R.ms.length ∧ T 38 = .int .i64 i ∧ ∃ l, H' = Hx H (some (.row 33 (R.enc ⟨xa, xc, xb, xd⟩)) :: l)) (fun i => R.ms.length - i) 0 (by kernel_rfl) ⟨Nat.zero_le _, rfl, rfl, rfl, rfl, rfl, _, rfl⟩ ?_
  rintro i T H' ⟨hi, he, t1, t36, t37, t38, l, rfl⟩
  rw [← Hx_nil (Hx H _)]
  have c2 := fun L => box_rd (w0 := w0) (H := H) (t := 33) (cs := R.enc ⟨xa, xc, xb, xd⟩) (n := 5) rfl l L (f := 3) (k := 1) (by omega)
  have c5 := fun L => box_rd (w0 := w0) (H := H) (t := 33) (cs := R.enc ⟨xa, xc, xb, xd⟩) (n := 5) rfl l L (f := 0) (k := 5) (by omega)
  have hrB : ∀ L, RmAt w0 (Hx (Hx H (some (.row 33 (R.enc ⟨xa, xc, xb, xd⟩)) :: l)) L) R ⟨xa, xc, xb, xd⟩ := fun L => (hr.old _).old L
  obtain ⟨B, hB⟩ : ∃ B, B = Hx H (some (.row 33 (R.enc ⟨xa, xc, xb, xd⟩)) :: l) := ⟨_, rfl⟩
  rw [← hB] at c2 c5 hrB ⊢
  by_cases hlt : i < R.ms.length
  · obtain ⟨b, o, sp, rfl, _, hc⟩ := mcell (hrB []).sm hlt
    have c0 := hc [] rfl
    rw [Hx_nil] at c0
    have d1 : ((i : Int) < (R.ms.length : Int)) = True := eq_true (by omega)
    have d2 : (0 ≤ (i : Int)) = True := eq_true (by omega)
    rw [allI_drop _ _ i hlt] at he
    simp only [Rm.enc, List.drop_zero, List.drop_succ_cons, List.take_succ_cons, List.take_zero] at c5
    simp only [Mem.enc] at c0
    simp only [go_sem, cond, Nat.reduceAdd, Nat.reduceLeDiff, Nat.reduceEqDiff, Nat.reduceBEq, decide_true, decide_false, Int.toNat_natCast, t1, t36, t37, t38, d1, d2, c0, c5, r]
    repeat' (first
      | (refine Br_intro ?_ ?_ <;> intro h <;> simp only [go_sem, cond, Nat.reduceAdd, Nat.reduceLeDiff, Nat.reduceEqDiff, Nat.reduceBEq, decide_true, decide_false, Int.toNat_natCast, t1, t36, t37, t38, d1, d2, c0, c5, r, h])
      | (refine call_eq (userOk_ok _ _ _ (hb.us i hlt)) ?_; simp only [go_sem, cond, Nat.reduceAdd, Nat.reduceLeDiff, Nat.reduceEqDiff, Nat.reduceBEq, decide_true, decide_false, Int.toNat_natCast, t1, t36, t37, t38, d1, d2, c0, c5, r])
      | (refine call_eq (nickOk_ok _ _ _ hT (hb.ni i hlt)) ?_; simp only [go_sem, cond, Nat.reduceAdd, Nat.reduceLeDiff, Nat.reduceEqDiff, Nat.reduceBEq, decide_true, decide_false, Int.toNat_natCast, t1, t36, t37, t38, d1, d2, c0, c5, r])
      | (refine call_eq (within_ok _ _ _ _ _) ?_; simp only [go_sem, cond, Nat.reduceAdd, Nat.reduceLeDiff, Nat.reduceEqDiff, Nat.reduceBEq, decide_true, decide_false, Int.toNat_natCast, t1, t36, t37, t38, d1, d2, c0, c5, r])
      | (refine call_eq (member_ok _ _ R _ _ (hrB _)) ?_; simp only [go_sem, cond, Nat.reduceAdd, Nat.reduceLeDiff, Nat.reduceEqDiff, Nat.reduceBEq, decide_true, decide_false, Int.toNat_natCast, t1, t36, t37, t38, d1, d2, c0, c5, r])
      | (refine call_eq (nick_ok _ _ R _ _ (hrB _)) ?_; simp only [go_sem, cond, Nat.reduceAdd, Nat.reduceLeDiff, Nat.reduceEqDiff, Nat.reduceBEq, decide_true, decide_false, Int.toNat_natCast, t1, t36, t37, t38, d1, d2, c0, c5, r])
      | (refine call_eq (rank_ok _ _ R _ _ (hrB _)) ?_; simp only [go_sem, cond, Nat.reduceAdd, Nat.reduceLeDiff, Nat.reduceEqDiff, Nat.reduceBEq, decide_true, decide_false, Int.toNat_natCast, t1, t36, t37, t38, d1, d2, c0, c5, r]))
    all_goals first
      | (refine ⟨i + 1, ⟨hlt, ?_, t1, t36, t37, int_succ hlt (by omega), _, by rw [hB, Hx_Hx]; rfl⟩, lt_meas hlt⟩
         rw [← he, show memB R i R.ms[i] = true by simp [memB, *], Bool.true_and])
      | exact ⟨by rw [roomB, ← he, show memB R i R.ms[i] = false by simp [memB, *], Bool.false_and, Bool.false_and, Bool.false_and, Bool.and_false, Bool.and_false, Bool.and_false], _, by rw [hB, Hx_Hx]⟩
  obtain rfl : i = R.ms.length := by omega
  have d1 : ((R.ms.length : Int) < (R.ms.length : Int)) = False := eq_false (by omega)
  rw [List.drop_length] at he
  simp only [Rm.enc, List.drop_zero, List.drop_succ_cons, List.take_succ_cons, List.take_zero] at c2
  simp only [go_sem, cond, Nat.reduceAdd, Nat.reduceLeDiff, Nat.reduceEqDiff, Nat.reduceBEq, decide_true, decide_false, Int.toNat_natCast, t1, t36, t37, t38, d1, c2, r]
  rw [hB, Hx_Hx]
  clear c2 c5 hrB hB t36 t37 t38 d1
  refine xw_loop (fun (i : Nat) T H' => i ≤ R.ks.length ∧ allI (rkB R) (R.ks.drop i) i = allI (rkB R) R.ks 0 ∧ T 1 = .pointer (some ⟨nid H 0, 0, some 5⟩) ∧ T 84 = .slice xb R.ks.length xd ∧ T 85 = .int .i64 R.ks.length ∧ T 86 = .int .i64 i ∧ ∃ l, H' = Hx H (some (.row 33 (R.enc ⟨xa, xc, xb, xd⟩)) :: l)) (fun i => R.ks.length - i) 0 (by kernel_rfl) ⟨Nat.zero_le _, rfl, t1, rfl, rfl, rfl, _, rfl⟩ ?_
  clear t1
  rintro i T H' ⟨hi, he2, t1, t84, t85, t86, l, rfl⟩
  rw [← Hx_nil (Hx H _)]
  have c2 := fun L => box_rd (w0 := w0) (H := H) (t := 33) (cs := R.enc ⟨xa, xc, xb, xd⟩) (n := 5) rfl l L (f := 3) (k := 1) (by omega)
  have c5 := fun L => box_rd (w0 := w0) (H := H) (t := 33) (cs := R.enc ⟨xa, xc, xb, xd⟩) (n := 5) rfl l L (f := 0) (k := 5) (by omega)
  have hrB : ∀ L, RmAt w0 (Hx (Hx H (some (.row 33 (R.enc ⟨xa, xc, xb, xd⟩)) :: l)) L) R ⟨xa, xc, xb, xd⟩ := fun L => (hr.old _).old L
  obtain ⟨B, hB⟩ : ∃ B, B = Hx H (some (.row 33 (R.enc ⟨xa, xc, xb, xd⟩)) :: l) := ⟨_, rfl⟩
  rw [← hB] at c2 c5 hrB ⊢
  by_cases hlt2 : i < R.ks.length
  · obtain ⟨b, o, sp, rfl, hc1, hc⟩ := mrows (hrB []).sk (by omega)
    have c0 := hc i hlt2 [] rfl
    rw [Hx_nil] at c0
    have d1 : ((i : Int) < (R.ks.length : Int)) = True := eq_true (by omega)
    have d2 : (0 ≤ (i : Int)) = True := eq_true (by omega)
    rw [allI_drop _ _ i hlt2] at he2
    simp only [Rm.enc, List.drop_zero, List.drop_succ_cons, List.take_succ_cons, List.take_zero] at c2
    simp only [Rk.enc] at c0
    simp only [go_sem, cond, Nat.reduceAdd, Nat.reduceLeDiff, Nat.reduceEqDiff, Nat.reduceBEq, decide_true, decide_false, Int.toNat_natCast, t1, t84, t85, t86, d1, d2, c0, c2, gt_iff_lt, r]
    (refine xw_open (id := 12) [0, 1, 3, 7, 15, 31, 63, 127, 255, 511, 255, 1279, 4095, 8191, 16383, 255, 33023, 131071, 262143, 524287, 1048575, 2097151, 4194303, 8388607, 16777215, 33554431, 67108863, 134217727, 268435455, 536870911, 1073741823] [.q 0, .q 1, .e 2, .q 3, .q 4, .q 5, .q 6, .q 7, .q 8, .q 10, .q 11, .q 15, .q 9, .q 12, .q 13, .q 14, .q 16, .q 17, .q 18, .q 19, .q 20, .q 21, .q 22, .e 23, .q 24, .q 25, .q 26, .q 27, .q 28, .q 29, .q 30] rfl (by kernel_rfl) ?_; simp only [go_sem, cond, Nat.reduceAdd, Nat.reduceLeDiff, Nat.reduceEqDiff, Nat.reduceBEq, decide_true, decide_false, Int.toNat_natCast, t1, t84, t85, t86, d1, d2, c0, c2, gt_iff_lt, r])
    have hp : (i = 0 ∧ prevB R i R.ks[i].user = true) ∨ ∃ p : Nat, i = p + 1 ∧ ∃ hp : p < R.ks.length, prevB R i R.ks[i].user = Op.bytesLess R.ks[p].user.toList R.ks[i].user.toList ∧ ∀ L, rd w0 (Hx B L) ⟨b, o + p * 2 + 0, sp⟩ 1 = some [.string R.ks[p].user] := by
      cases i with
      | zero => exact .inl ⟨rfl, rfl⟩
      | succ p => exact .inr ⟨p, rfl, by omega, by simp only [prevB]; rw [List.getElem?_eq_getElem (by omega)], fun L => by have := hc1 p (by omega) 0 (.string R.ks[p].user) L (by decide) rfl; rwa [Hx_nil] at this⟩
    rcases hp with ⟨rfl, hp0⟩ | ⟨p, rfl, hpl, hp0, c4⟩
    · have d3 : ((0 : Int) < ((0 : Nat) : Int)) = False := eq_false (by omega)
      repeat' (first
        | (refine Br_intro ?_ ?_ <;> intro h <;> simp only [go_sem, cond, Nat.reduceAdd, Nat.reduceLeDiff, Nat.reduceEqDiff, Nat.reduceBEq, decide_true, decide_false, Int.toNat_natCast, t1, t84, t85, t86, d1, d2, c0, c2, gt_iff_lt, r, d3, h])
        | (refine call_eq (userOk_ok _ _ _ (hb.ku _ hlt2)) ?_; simp only [go_sem, cond, Nat.reduceAdd, Nat.reduceLeDiff, Nat.reduceEqDiff, Nat.reduceBEq, decide_true, decide_false, Int.toNat_natCast, t1, t84, t85, t86, d1, d2, c0, c2, gt_iff_lt, r, d3])
        | (refine call_eq (within_ok _ _ _ _ _) ?_; simp only [go_sem, cond, Nat.reduceAdd, Nat.reduceLeDiff, Nat.reduceEqDiff, Nat.reduceBEq, decide_true, decide_false, Int.toNat_natCast, t1, t84, t85, t86, d1, d2, c0, c2, gt_iff_lt, r, d3]))
      all_goals first
        | (refine ⟨_ + 1, ⟨hlt2, ?_, t1, t84, t85, int_succ hlt2 (by omega), _, by rw [hB, Hx_Hx]; rfl⟩, lt_meas hlt2⟩
           rw [← he2, show rkB R _ _ = true by simp [rkB, *], Bool.true_and])
        | exact ⟨by rw [roomB, ← he2, show rkB R _ _ = false by simp [rkB, *], Bool.false_and, Bool.false_and, Bool.false_and, Bool.and_false, Bool.and_false, Bool.and_false, Bool.and_false], _, by rw [hB, Hx_Hx]⟩
    · have d3 : ((0 : Int) < ((p + 1 : Nat) : Int)) = True := eq_true (by omega)
      have d4 : IntKind.i64.wrap (((p + 1 : Nat) : Int) - 1) = (p : Int) := by rw [wrap_i64 (by omega) (by omega)]; omega
      have d5 : ((p : Int) < (R.ks.length : Int)) = True := eq_true (by omega)
      have d6 : ((0 : Int) ≤ (p : Int)) = True := eq_true (by omega)
      repeat' (first
        | (refine Br_intro ?_ ?_ <;> intro h <;> simp only [go_sem, cond, Nat.reduceAdd, Nat.reduceLeDiff, Nat.reduceEqDiff, Nat.reduceBEq, decide_true, decide_false, Int.toNat_natCast, t1, t84, t85, t86, d1, d2, c0, c2, gt_iff_lt, r, d3, d4, d5, d6, c4, h])
        | (refine call_eq (userOk_ok _ _ _ (hb.ku _ hlt2)) ?_; simp only [go_sem, cond, Nat.reduceAdd, Nat.reduceLeDiff, Nat.reduceEqDiff, Nat.reduceBEq, decide_true, decide_false, Int.toNat_natCast, t1, t84, t85, t86, d1, d2, c0, c2, gt_iff_lt, r, d3, d4, d5, d6, c4])
        | (refine call_eq (within_ok _ _ _ _ _) ?_; simp only [go_sem, cond, Nat.reduceAdd, Nat.reduceLeDiff, Nat.reduceEqDiff, Nat.reduceBEq, decide_true, decide_false, Int.toNat_natCast, t1, t84, t85, t86, d1, d2, c0, c2, gt_iff_lt, r, d3, d4, d5, d6, c4]))
      all_goals first
        | (refine ⟨_ + 1, ⟨hlt2, ?_, t1, t84, t85, int_succ hlt2 (by omega), _, by rw [hB, Hx_Hx]; rfl⟩, lt_meas hlt2⟩
           rw [← he2, show rkB R _ _ = true by simp [rkB, *], Bool.true_and])
        | exact ⟨by rw [roomB, ← he2, show rkB R _ _ = false by simp [rkB, *], Bool.false_and, Bool.false_and, Bool.false_and, Bool.and_false, Bool.and_false, Bool.and_false, Bool.and_false], _, by rw [hB, Hx_Hx]⟩
  obtain rfl : i = R.ks.length := by omega
  have d1 : ((R.ks.length : Int) < (R.ks.length : Int)) = False := eq_false (by omega)
  rw [List.drop_length] at he2
  have f1 := fun L => (box_rd (w0 := w0) (H := H) (t := 33) (cs := R.enc ⟨xa, xc, xb, xd⟩) (n := 5) rfl l L (f := 1) (k := 1) (by omega))
  have f2 := fun L => (box_rd (w0 := w0) (H := H) (t := 33) (cs := R.enc ⟨xa, xc, xb, xd⟩) (n := 5) rfl l L (f := 2) (k := 1) (by omega))
  have f4 := fun L => (box_rd (w0 := w0) (H := H) (t := 33) (cs := R.enc ⟨xa, xc, xb, xd⟩) (n := 5) rfl l L (f := 4) (k := 1) (by omega))
  rw [← hB] at f1 f2 f4
  simp only [Rm.enc, List.drop_zero, List.drop_succ_cons, List.take_succ_cons, List.take_zero] at c2 c5 f1 f2 f4
  simp only [go_sem, cond, Nat.reduceAdd, Nat.reduceLeDiff, Nat.reduceEqDiff, Nat.reduceBEq, decide_true, decide_false, Int.toNat_natCast, t1, t84, t85, t86, d1, c5, r]
  refine call_eq (owners_ok _ _ R _ (hrB _)) ?_
  simp only [go_sem, cond, Nat.reduceAdd, Nat.reduceLeDiff, Nat.reduceEqDiff, Nat.reduceBEq, decide_true, decide_false, Int.toNat_natCast, t1, c2, c5, f1, f2, f4, gt_iff_lt, pos_nat, r]
  repeat' (refine Br_intro ?_ ?_ <;> intro h <;> simp only [go_sem, cond, Nat.reduceAdd, Nat.reduceLeDiff, Nat.reduceEqDiff, Nat.reduceBEq, decide_true, decide_false, Int.toNat_natCast, h, t1, c2, c5, f1, f2, f4, gt_iff_lt, pos_nat, r])
  all_goals refine ⟨congrArg Value.bool ?_, _, by rw [hB, Hx_Hx]⟩
  all_goals simp only [allI] at he he2
  all_goals replace he := he.symm
  all_goals replace he2 := he2.symm
  all_goals clear hr hb r t1 t84 t85 t86 c2 c5 f1 f2 f4 hrB hB
  all_goals simp only [roomB, emB, idleB, *, Bool.true_and, Bool.false_and, Bool.and_true, Bool.and_false, Bool.true_or, Bool.or_true, Bool.false_or, Bool.or_false]
end Go.Proofs.YtmacpgoclhgafaaDoorW.FA
namespace Go.Proofs.YtmacpgoclhgafaaDoorW.FA
open Go.RowKit Go.Proofs.YtmacpgoclhgafaaDoorW.XM Go.Proofs Go.Proofs.YtmacpgoclhgafaaDoorW.XWords
set_option maxRecDepth 100000
set_option linter.unusedSimpArgs false
variable (w0 : World) (H : Hp)
structure En where
  room : ByteArray
  seq : Int
  kind : Int
  user : ByteArray
  nick : ByteArray
  text : ByteArray
  id : ByteArray
  ref : ByteArray
  num : Int
def En.enc (e : En) : List Value := [.string e.room, .int .i64 e.seq, .int .i64 e.kind, .string e.user, .string e.nick, .string e.text, .string e.id, .string e.ref, .int .i64 e.num]
abbrev em : ByteArray := ByteArray.mk #[]
def bareE (e : En) : En :=
  if (e.kind == 1) = true then ⟨e.room, e.seq, e.kind, e.user, e.nick, em, em, em, e.num⟩
  else if (e.kind == 2) = true then ⟨e.room, e.seq, e.kind, e.user, e.nick, em, em, em, e.num⟩
  else if (e.kind == 5) = true then ⟨e.room, e.seq, e.kind, e.user, e.nick, em, em, em, e.num⟩
  else if (e.kind == 3) = true then ⟨e.room, e.seq, e.kind, e.user, e.nick, e.text, e.id, e.ref, 0⟩
  else if (e.kind == 4) = true then ⟨e.room, e.seq, e.kind, e.user, e.nick, e.text, e.id, em, 0⟩
  else if (e.kind == 6) = true then ⟨e.room, e.seq, e.kind, e.user, em, em, em, em, e.num⟩
  else ⟨e.room, e.seq, e.kind, e.user, e.nick, em, em, em, 0⟩
theorem bare_ok (e : En) : AFn Tryd.prog w0 71 #[.agg e.enc.toArray] H fun v H2 => v = .agg (bareE e).enc.toArray ∧ H2 = H := by
  refine AFn.scal rfl Tryd.func71 rfl (by kernel_rfl) ?_
  have r := Tryd.results71
  simp only [go_sem, cond, Nat.reduceAdd, Nat.reduceLeDiff, Nat.reduceEqDiff, Nat.reduceBEq, decide_true, decide_false, Int.toNat_natCast, r]
  simp only [go_sem, cond, Nat.reduceAdd, Nat.reduceLeDiff, Nat.reduceEqDiff, Nat.reduceBEq, decide_true, decide_false, Int.toNat_natCast, En.enc, r]
  repeat' (first
    | (refine Br_intro ?_ ?_ <;> intro h <;> simp only [go_sem, cond, Nat.reduceAdd, Nat.reduceLeDiff, Nat.reduceEqDiff, Nat.reduceBEq, decide_true, decide_false, Int.toNat_natCast, h, r])
    | ((refine xw_open (id := 8) [0, 1, 0, 4, 0, 16, 3, 67, 207, 463, 1023, 2047] [.q 0, .q 2, .q 4, .q 1, .q 6, .l 3, .l 5, .e 7, .d 3, .q 8, .e 9, .d 5, .q 10, .e 11] rfl (by kernel_rfl) ?_; simp only [go_sem, cond, Nat.reduceAdd, Nat.reduceLeDiff, Nat.reduceEqDiff, Nat.reduceBEq, decide_true, decide_false, Int.toNat_natCast, r]))
    | ((refine xw_open (id := 10) [0, 1, 0, 4, 3, 19, 63, 127] [.q 0, .q 2, .q 1, .q 4, .l 3, .e 5, .d 3, .q 6, .e 7] rfl (by kernel_rfl) ?_; simp only [go_sem, cond, Nat.reduceAdd, Nat.reduceLeDiff, Nat.reduceEqDiff, Nat.reduceBEq, decide_true, decide_false, Int.toNat_natCast, r]))
    | ((refine xw_open (id := 12) [0, 1, 0, 4, 15, 31] [.q 0, .q 2, .l 1, .e 3, .d 1, .q 4, .e 5] rfl (by kernel_rfl) ?_; simp only [go_sem, cond, Nat.reduceAdd, Nat.reduceLeDiff, Nat.reduceEqDiff, Nat.reduceBEq, decide_true, decide_false, Int.toNat_natCast, r])))
  all_goals exact ⟨by simp only [bareE, *]; rfl, _, rfl⟩
end Go.Proofs.YtmacpgoclhgafaaDoorW.FA
namespace Go.Proofs.YtmacpgoclhgafaaDoorW.FA
open Go.RowKit Go.Proofs.YtmacpgoclhgafaaDoorW.XM Go.Proofs Go.Proofs.YtmacpgoclhgafaaDoorW.XWords
set_option maxRecDepth 100000
set_option linter.unusedSimpArgs false
variable (w0 : World) (H : Hp)
/-- An entry has nothing but what its kind has. -/
def xB (e : En) : Bool :=
  if (e.kind == 1) = true then emB e.text && (emB e.id && emB e.ref)
  else if (e.kind == 2) = true then emB e.text && (emB e.id && emB e.ref)
  else if (e.kind == 5) = true then emB e.text && (emB e.id && emB e.ref)
  else if (e.kind == 3) = true then (e.num == 0)
  else if (e.kind == 4) = true then emB e.ref && (e.num == 0)
  else if (e.kind == 6) = true then emB e.nick && (emB e.text && (emB e.id && emB e.ref))
  else emB e.text && (emB e.id && (emB e.ref && (e.num == 0)))
def restB (e : En) : Bool :=
  if (e.kind == 1) = true then inB e.num 1 3
  else if (e.kind == 2) = true then inB e.num 0 3
  else if (e.kind == 5) = true then inB e.num 1 3
  else if (e.kind == 3) = true then bodyB e.text && (wordB e.id && orB wordB e.ref)
  else if (e.kind == 4) = true then bodyB e.text && wordB e.id
  else if (e.kind == 6) = true then inB e.num 0 4
  else false
def entB (e : En) : Bool := userB e.room && (userB e.user && (inB e.seq 0 9998 && (xB e && (((e.kind == 6) || nickB e.nick) && restB e))))
def eqE (e f : En) : Bool := (e.room.toList == f.room.toList) && ((e.seq == f.seq) && ((e.kind == f.kind) && ((e.user.toList == f.user.toList) && ((e.nick.toList == f.nick.toList) && ((e.text.toList == f.text.toList) && ((e.id.toList == f.id.toList) && ((e.ref.toList == f.ref.toList) && ((e.num == f.num) && true))))))))
theorem eqE_bare (e : En) : eqE e (bareE e) = xB e := by
  unfold eqE bareE xB emB
  repeat' split
  all_goals simp
structure BigE (e : En) : Prop where
  rm : e.room.size ≤ 1000000000000
  us : e.user.size ≤ 1000000000000
  ni : e.nick.size ≤ 1000000000000
  tx : e.text.size ≤ 1000000000000
  id : e.id.size ≤ 1000000000000
  rf : e.ref.size ≤ 1000000000000
theorem EntryOk_ok (e : En) (hT : Tabs w0) (hb : BigE e) : AFn Tryd.prog w0 22 #[.agg e.enc.toArray] H fun v H2 => v = .bool (entB e) ∧ H2 = H := by
  refine AFn.scal rfl Tryd.func22 rfl (by kernel_rfl) ?_
  have r := Tryd.results22
  simp only [go_sem, cond, Nat.reduceAdd, Nat.reduceLeDiff, Nat.reduceEqDiff, Nat.reduceBEq, decide_true, decide_false, Int.toNat_natCast, r]
  simp only [go_sem, cond, Nat.reduceAdd, Nat.reduceLeDiff, Nat.reduceEqDiff, Nat.reduceBEq, decide_true, decide_false, Int.toNat_natCast, En.enc, r]
  (refine xw_open (id := 1) [0, 1, 3, 7, 15, 31, 63, 127, 255, 511, 1023, 2047, 4095, 8191, 16383, 32767, 65535, 131071, 131071, 393215, 1048575, 2097151, 4194303, 8388607, 16777215, 33554431, 67108863, 134217727, 268435455, 536870911, 1073741823, 2147483647, 4294967295] [.q 0, .q 1, .e 2, .q 3, .q 4, .q 5, .q 6, .e 7, .q 8, .q 9, .q 10, .q 11, .q 12, .e 13, .q 14, .q 15, .q 16, .l 17, .q 18, .e 19, .d 17, .q 20, .q 21, .q 22, .q 23, .q 24, .q 25, .q 26, .q 27, .q 28, .e 29, .q 30, .q 31, .q 32] rfl (by kernel_rfl) ?_; simp only [go_sem, cond, Nat.reduceAdd, Nat.reduceLeDiff, Nat.reduceEqDiff, Nat.reduceBEq, decide_true, decide_false, Int.toNat_natCast, r])
  repeat' (first
    | (refine Br_intro ?_ ?_ <;> intro h <;> simp only [go_sem, cond, Nat.reduceAdd, Nat.reduceLeDiff, Nat.reduceEqDiff, Nat.reduceBEq, decide_true, decide_false, Int.toNat_natCast, h, r])
    | (refine call_eq (userOk_ok _ _ _ hb.rm) ?_; simp only [go_sem, cond, Nat.reduceAdd, Nat.reduceLeDiff, Nat.reduceEqDiff, Nat.reduceBEq, decide_true, decide_false, Int.toNat_natCast, r])
    | (refine call_eq (userOk_ok _ _ _ hb.us) ?_; simp only [go_sem, cond, Nat.reduceAdd, Nat.reduceLeDiff, Nat.reduceEqDiff, Nat.reduceBEq, decide_true, decide_false, Int.toNat_natCast, r])
    | (refine call_eq (nickOk_ok _ _ _ hT hb.ni) ?_; simp only [go_sem, cond, Nat.reduceAdd, Nat.reduceLeDiff, Nat.reduceEqDiff, Nat.reduceBEq, decide_true, decide_false, Int.toNat_natCast, r])
    | (refine call_eq (bodyOk_ok _ _ _ hT hb.tx) ?_; simp only [go_sem, cond, Nat.reduceAdd, Nat.reduceLeDiff, Nat.reduceEqDiff, Nat.reduceBEq, decide_true, decide_false, Int.toNat_natCast, r])
    | (refine call_eq (wordOk_ok _ _ _ hb.id) ?_; simp only [go_sem, cond, Nat.reduceAdd, Nat.reduceLeDiff, Nat.reduceEqDiff, Nat.reduceBEq, decide_true, decide_false, Int.toNat_natCast, r])
    | (refine call_eq (orEmpty_ok _ _ _ _ wordB (wordOk_ok _ _ _ hb.rf)) ?_; simp only [go_sem, cond, Nat.reduceAdd, Nat.reduceLeDiff, Nat.reduceEqDiff, Nat.reduceBEq, decide_true, decide_false, Int.toNat_natCast, r])
    | (refine call_eq (within_ok _ _ _ _ _) ?_; simp only [go_sem, cond, Nat.reduceAdd, Nat.reduceLeDiff, Nat.reduceEqDiff, Nat.reduceBEq, decide_true, decide_false, Int.toNat_natCast, r])
    | (refine call_eq (bare_ok _ _ e) ?_; simp only [go_sem, cond, Nat.reduceAdd, Nat.reduceLeDiff, Nat.reduceEqDiff, Nat.reduceBEq, decide_true, decide_false, Int.toNat_natCast, r, En.enc]
       rw [show (e.room.toList == (bareE e).room.toList && (e.seq == (bareE e).seq && (e.kind == (bareE e).kind && (e.user.toList == (bareE e).user.toList && (e.nick.toList == (bareE e).nick.toList && (e.text.toList == (bareE e).text.toList && (e.id.toList == (bareE e).id.toList && (e.ref.toList == (bareE e).ref.toList && (e.num == (bareE e).num && true))))))))) = xB e from eqE_bare e]))
  all_goals refine ⟨congrArg Value.bool ?_, _, rfl⟩
  all_goals clear hb r
  all_goals simp only [entB, restB, *, Bool.true_and, Bool.false_and, Bool.and_true, Bool.and_false, Bool.true_or, Bool.or_true, Bool.false_or, Bool.or_false, if_true, Bool.false_eq_true, if_false]
  all_goals simp_all
def bareB (e : En) : Bool := xB e && (((e.kind == 6) || nickB e.nick) && restB e)
set_option maxHeartbeats 4000000 in
theorem l6Bare_ok (e : En) (hb : BigE e) : AFn Tryd.prog w0 125 #[.agg e.enc.toArray] H fun v H2 => v = .bool (bareB e) ∧ H2 = H := by
  refine AFn.scal rfl Tryd.func125 rfl (by kernel_rfl) ?_
  have r := Tryd.results125
  simp only [go_sem, cond, Nat.reduceAdd, Nat.reduceLeDiff, Nat.reduceEqDiff, Nat.reduceBEq, decide_true, decide_false, Int.toNat_natCast, r]
  simp only [go_sem, cond, Nat.reduceAdd, Nat.reduceLeDiff, Nat.reduceEqDiff, Nat.reduceBEq, decide_true, decide_false, Int.toNat_natCast, En.enc, r]
  repeat' (first
    | (refine Br_intro ?_ ?_ <;> intro h <;> simp only [go_sem, cond, Nat.reduceAdd, Nat.reduceLeDiff, Nat.reduceEqDiff, Nat.reduceBEq, decide_true, decide_false, Int.toNat_natCast, h, r])
    | (refine call_eq (l4Nick_ok _ _ _ hb.ni) ?_; simp only [go_sem, cond, Nat.reduceAdd, Nat.reduceLeDiff, Nat.reduceEqDiff, Nat.reduceBEq, decide_true, decide_false, Int.toNat_natCast, r])
    | (refine call_eq (l5Body_ok _ _ _ hb.tx) ?_; simp only [go_sem, cond, Nat.reduceAdd, Nat.reduceLeDiff, Nat.reduceEqDiff, Nat.reduceBEq, decide_true, decide_false, Int.toNat_natCast, r])
    | (refine call_eq (l5Word_ok _ _ _ hb.id) ?_; simp only [go_sem, cond, Nat.reduceAdd, Nat.reduceLeDiff, Nat.reduceEqDiff, Nat.reduceBEq, decide_true, decide_false, Int.toNat_natCast, r])
    | (refine call_eq (l5Word_ok _ _ _ hb.rf) ?_; simp only [go_sem, cond, Nat.reduceAdd, Nat.reduceLeDiff, Nat.reduceEqDiff, Nat.reduceBEq, decide_true, decide_false, Int.toNat_natCast, r])
    | (refine call_eq (l1In_ok _ _ _ _ _) ?_; simp only [go_sem, cond, Nat.reduceAdd, Nat.reduceLeDiff, Nat.reduceEqDiff, Nat.reduceBEq, decide_true, decide_false, Int.toNat_natCast, r]))
  all_goals refine ⟨congrArg Value.bool ?_, _, rfl⟩
  all_goals clear hb r
  all_goals simp only [bareB, xB, restB, emB, orB, *, Bool.true_and, Bool.false_and, Bool.and_true, Bool.and_false, Bool.true_or, Bool.or_true, Bool.false_or, Bool.or_false, if_true, Bool.false_eq_true, if_false]
  all_goals simp_all
theorem l6EntryOk_ok (e : En) (hb : BigE e) : AFn Tryd.prog w0 73 #[.agg e.enc.toArray] H fun v H2 => v = .bool (entB e) ∧ H2 = H := by
  refine AFn.scal rfl Tryd.func73 rfl (by kernel_rfl) ?_
  have r := Tryd.results73
  simp only [go_sem, cond, Nat.reduceAdd, Nat.reduceLeDiff, Nat.reduceEqDiff, Nat.reduceBEq, decide_true, decide_false, Int.toNat_natCast, r]
  simp only [go_sem, cond, Nat.reduceAdd, Nat.reduceLeDiff, Nat.reduceEqDiff, Nat.reduceBEq, decide_true, decide_false, Int.toNat_natCast, En.enc, r]
  repeat' (first
    | (refine Br_intro ?_ ?_ <;> intro h <;> simp only [go_sem, cond, Nat.reduceAdd, Nat.reduceLeDiff, Nat.reduceEqDiff, Nat.reduceBEq, decide_true, decide_false, Int.toNat_natCast, h, r])
    | (refine call_eq (l4User_ok _ _ _ hb.rm) ?_; simp only [go_sem, cond, Nat.reduceAdd, Nat.reduceLeDiff, Nat.reduceEqDiff, Nat.reduceBEq, decide_true, decide_false, Int.toNat_natCast, r])
    | (refine call_eq (l4User_ok _ _ _ hb.us) ?_; simp only [go_sem, cond, Nat.reduceAdd, Nat.reduceLeDiff, Nat.reduceEqDiff, Nat.reduceBEq, decide_true, decide_false, Int.toNat_natCast, r])
    | (refine call_eq (l1In_ok _ _ _ _ _) ?_; simp only [go_sem, cond, Nat.reduceAdd, Nat.reduceLeDiff, Nat.reduceEqDiff, Nat.reduceBEq, decide_true, decide_false, Int.toNat_natCast, r])
    | (refine call_eq (l6Bare_ok _ _ e hb) ?_; simp only [go_sem, cond, Nat.reduceAdd, Nat.reduceLeDiff, Nat.reduceEqDiff, Nat.reduceBEq, decide_true, decide_false, Int.toNat_natCast, r]))
  all_goals refine ⟨congrArg Value.bool ?_, _, rfl⟩
  all_goals clear hb r
  all_goals simp only [entB, bareB, *, Bool.true_and, Bool.false_and, Bool.and_true, Bool.and_false]
end Go.Proofs.YtmacpgoclhgafaaDoorW.FA
namespace Go.Proofs.YtmacpgoclhgafaaDoorW.FA
open Go.RowKit Go.Proofs.YtmacpgoclhgafaaDoorW.XM Go.Proofs Go.Proofs.YtmacpgoclhgafaaDoorW.XWords
set_option maxRecDepth 100000
set_option linter.unusedSimpArgs false
variable (w0 : World) (H : Hp)
theorem toMember_ok (m : Mem) : AFn Tryd.prog w0 108 #[.agg m.enc.toArray] H fun v H2 => v = .agg m.enc.toArray ∧ H2 = H := by
  refine AFn.scal rfl Tryd.func108 rfl (by kernel_rfl) ?_
  have r := Tryd.results108
  simp only [go_sem, cond, Nat.reduceAdd, Nat.reduceLeDiff, Nat.reduceEqDiff, Nat.reduceBEq, decide_true, decide_false, Int.toNat_natCast, r]
  simp only [go_sem, cond, Nat.reduceAdd, Nat.reduceLeDiff, Nat.reduceEqDiff, Nat.reduceBEq, decide_true, decide_false, Int.toNat_natCast, Mem.enc, r]
  exact ⟨_, rfl⟩
theorem toRank_ok (m : Rk) : AFn Tryd.prog w0 109 #[.agg m.enc.toArray] H fun v H2 => v = .agg m.enc.toArray ∧ H2 = H := by
  refine AFn.scal rfl Tryd.func109 rfl (by kernel_rfl) ?_
  have r := Tryd.results109
  simp only [go_sem, cond, Nat.reduceAdd, Nat.reduceLeDiff, Nat.reduceEqDiff, Nat.reduceBEq, decide_true, decide_false, Int.toNat_natCast, r]
  simp only [go_sem, cond, Nat.reduceAdd, Nat.reduceLeDiff, Nat.reduceEqDiff, Nat.reduceBEq, decide_true, decide_false, Int.toNat_natCast, Rk.enc, r]
  exact ⟨_, rfl⟩
theorem toEntry_ok (m : En) : AFn Tryd.prog w0 13 #[.agg m.enc.toArray] H fun v H2 => v = .agg m.enc.toArray ∧ H2 = H := by
  refine AFn.scal rfl Tryd.func13 rfl (by kernel_rfl) ?_
  have r := Tryd.results13
  simp only [go_sem, cond, Nat.reduceAdd, Nat.reduceLeDiff, Nat.reduceEqDiff, Nat.reduceBEq, decide_true, decide_false, Int.toNat_natCast, r]
  simp only [go_sem, cond, Nat.reduceAdd, Nat.reduceLeDiff, Nat.reduceEqDiff, Nat.reduceBEq, decide_true, decide_false, Int.toNat_natCast, En.enc, r]
  exact ⟨_, rfl⟩
theorem mlen (m : Mem) : m.enc.length = 3 := rfl
theorem klen (m : Rk) : m.enc.length = 2 := rfl
theorem toMemberS_ok (A : Option Addr) (c : Nat) (ms : List Mem) (hs : Sl w0 H A 3 (ms.map Mem.enc)) (hl : ms.length ≤ 2000000) : AFn Tryd.prog w0 49 #[.slice A ms.length c] H fun v H2 => v = .slice (some ⟨nid H 0, 0, some (ms.length * 3)⟩) ms.length ms.length ∧ H2 = Hx H [some (.row 60 (flat Mem.enc ms))] := by
  refine AFn.news Tryd.func49 rfl (by kernel_rfl) ?_
  have r := Tryd.results49
  simp only [go_sem, cond, Nat.reduceAdd, Nat.reduceLeDiff, Nat.reduceEqDiff, Nat.reduceBEq, decide_true, decide_false, Int.toNat_natCast, r]
  refine mk_some XF.zer_60 rfl XF.byt_60 (by omega) (by omega) _ _ ?_
  simp only [go_sem, cond, Nat.reduceAdd, Nat.reduceLeDiff, Nat.reduceEqDiff, Nat.reduceBEq, decide_true, decide_false, Int.toNat_natCast, r]
  refine xw_loop (fun (i : Nat) T H' => i ≤ ms.length ∧ T 0 = .slice A ms.length c ∧ T 3 = .slice (some ⟨nid H 0, 0, some (ms.length * 3)⟩) ms.length ms.length ∧ T 4 = .int .i64 i ∧ H' = Hx H [some (.row 60 (flat Mem.enc (ms.take i) ++ (List.replicate (ms.length - i) [.string em, .string em, .int .i64 0]).flatten))]) (fun i => ms.length - i) 0 (by kernel_rfl) ⟨Nat.zero_le _, rfl, rfl, rfl, rfl⟩ ?_
  rintro i T H' ⟨hi, t0, t3, t4, rfl⟩
  by_cases hlt : i < ms.length
  · obtain ⟨b, o, sp, rfl, _, hc⟩ := mcell hs hlt
    have c0 := hc [some (.row 60 (flat Mem.enc (ms.take i) ++ (List.replicate (ms.length - i) [.string em, .string em, .int .i64 0]).flatten))] rfl
    have d1 : ((i : Int) < (ms.length : Int)) = True := eq_true (by omega)
    have d2 : (0 ≤ (i : Int)) = True := eq_true (by omega)
    simp only [Mem.enc] at c0
    simp only [go_sem, cond, Nat.reduceAdd, Nat.reduceLeDiff, Nat.reduceEqDiff, Nat.reduceBEq, decide_true, decide_false, Int.toNat_natCast, t0, t3, t4, d1, d2, c0, r]
    refine call_eq (toMember_ok _ _ ms[i]) ?_
    simp only [go_sem, cond, Nat.reduceAdd, Nat.reduceLeDiff, Nat.reduceEqDiff, Nat.reduceBEq, decide_true, decide_false, Int.toNat_natCast, t0, t3, t4, d1, d2, c0, r, Mem.enc]
    have hlen := put_len mlen (z := [.string em, .string em, .int .i64 0]) rfl ms hi
    have p0 := put_row mlen (z := [.string em, .string em, .int .i64 0]) rfl ms hlt
    rw [Nat.zero_add] at p0
    simp only [Mem.enc] at p0
    simp only [go_sem, cond, Nat.reduceAdd, Nat.reduceLeDiff, Nat.reduceEqDiff, Nat.reduceBEq, decide_true, decide_false, Int.toNat_natCast] at p0
    refine Req_intro ⟨hlen, by rw [hlen]; omega⟩ ?_
    simp only [go_sem, cond, Nat.reduceAdd, Nat.reduceLeDiff, Nat.reduceEqDiff, Nat.reduceBEq, decide_true, decide_false, Int.toNat_natCast, t0, t3, t4, d1, d2, p0, r]
    exact ⟨i + 1, ⟨hlt, t0, t3, int_succ hlt (by omega), rfl⟩, lt_meas hlt⟩
  · obtain rfl : i = ms.length := by omega
    have d1 : ((ms.length : Int) < (ms.length : Int)) = False := eq_false (by omega)
    simp only [go_sem, cond, Nat.reduceAdd, Nat.reduceLeDiff, Nat.reduceEqDiff, Nat.reduceBEq, decide_true, decide_false, Int.toNat_natCast, t0, t3, t4, d1, r]
    rw [List.take_length, Nat.sub_self, List.replicate_zero, List.flatten_nil, List.append_nil]
    refine ⟨_, [0], _, rfl, ?_, by decide, by simp only [ren3, ren2, ren1, rho_nid, idx_hit, Option.map_some], rfl, rfl⟩
    intro k hk
    simp only [List.mem_singleton] at hk
    subst hk
    exact flat_plain (fun _ => rfl) ms
theorem toRankS_ok (A : Option Addr) (c : Nat) (ms : List Rk) (hs : Sl w0 H A 2 (ms.map Rk.enc)) (hl : ms.length ≤ 2000000) : AFn Tryd.prog w0 50 #[.slice A ms.length c] H fun v H2 => v = .slice (some ⟨nid H 0, 0, some (ms.length * 2)⟩) ms.length ms.length ∧ H2 = Hx H [some (.row 58 (flat Rk.enc ms))] := by
  refine AFn.news Tryd.func50 rfl (by kernel_rfl) ?_
  have r := Tryd.results50
  simp only [go_sem, cond, Nat.reduceAdd, Nat.reduceLeDiff, Nat.reduceEqDiff, Nat.reduceBEq, decide_true, decide_false, Int.toNat_natCast, r]
  refine mk_some XF.zer_58 rfl XF.byt_58 (by omega) (by omega) _ _ ?_
  simp only [go_sem, cond, Nat.reduceAdd, Nat.reduceLeDiff, Nat.reduceEqDiff, Nat.reduceBEq, decide_true, decide_false, Int.toNat_natCast, r]
  refine xw_loop (fun (i : Nat) T H' => i ≤ ms.length ∧ T 0 = .slice A ms.length c ∧ T 3 = .slice (some ⟨nid H 0, 0, some (ms.length * 2)⟩) ms.length ms.length ∧ T 4 = .int .i64 i ∧ H' = Hx H [some (.row 58 (flat Rk.enc (ms.take i) ++ (List.replicate (ms.length - i) [.string em, .int .i64 0]).flatten))]) (fun i => ms.length - i) 0 (by kernel_rfl) ⟨Nat.zero_le _, rfl, rfl, rfl, rfl⟩ ?_
  rintro i T H' ⟨hi, t0, t3, t4, rfl⟩
  by_cases hlt : i < ms.length
  · obtain ⟨b, o, sp, rfl, _, hc⟩ := mcell hs hlt
    have c0 := hc [some (.row 58 (flat Rk.enc (ms.take i) ++ (List.replicate (ms.length - i) [.string em, .int .i64 0]).flatten))] rfl
    have d1 : ((i : Int) < (ms.length : Int)) = True := eq_true (by omega)
    have d2 : (0 ≤ (i : Int)) = True := eq_true (by omega)
    simp only [Rk.enc] at c0
    simp only [go_sem, cond, Nat.reduceAdd, Nat.reduceLeDiff, Nat.reduceEqDiff, Nat.reduceBEq, decide_true, decide_false, Int.toNat_natCast, t0, t3, t4, d1, d2, c0, r]
    refine call_eq (toRank_ok _ _ ms[i]) ?_
    simp only [go_sem, cond, Nat.reduceAdd, Nat.reduceLeDiff, Nat.reduceEqDiff, Nat.reduceBEq, decide_true, decide_false, Int.toNat_natCast, t0, t3, t4, d1, d2, c0, r, Rk.enc]
    have hlen := put_len klen (z := [.string em, .int .i64 0]) rfl ms hi
    have p0 := put_row klen (z := [.string em, .int .i64 0]) rfl ms hlt
    rw [Nat.zero_add] at p0
    simp only [Rk.enc] at p0
    simp only [go_sem, cond, Nat.reduceAdd, Nat.reduceLeDiff, Nat.reduceEqDiff, Nat.reduceBEq, decide_true, decide_false, Int.toNat_natCast] at p0
    refine Req_intro ⟨hlen, by rw [hlen]; omega⟩ ?_
    simp only [go_sem, cond, Nat.reduceAdd, Nat.reduceLeDiff, Nat.reduceEqDiff, Nat.reduceBEq, decide_true, decide_false, Int.toNat_natCast, t0, t3, t4, d1, d2, p0, r]
    exact ⟨i + 1, ⟨hlt, t0, t3, int_succ hlt (by omega), rfl⟩, lt_meas hlt⟩
  · obtain rfl : i = ms.length := by omega
    have d1 : ((ms.length : Int) < (ms.length : Int)) = False := eq_false (by omega)
    simp only [go_sem, cond, Nat.reduceAdd, Nat.reduceLeDiff, Nat.reduceEqDiff, Nat.reduceBEq, decide_true, decide_false, Int.toNat_natCast, t0, t3, t4, d1, r]
    rw [List.take_length, Nat.sub_self, List.replicate_zero, List.flatten_nil, List.append_nil]
    refine ⟨_, [0], _, rfl, ?_, by decide, by simp only [ren3, ren2, ren1, rho_nid, idx_hit, Option.map_some], rfl, rfl⟩
    intro k hk
    simp only [List.mem_singleton] at hk
    subst hk
    exact flat_plain (fun _ => rfl) ms
end Go.Proofs.YtmacpgoclhgafaaDoorW.FA
namespace Go.Proofs.YtmacpgoclhgafaaDoorW.FA
open Go.RowKit Go.Proofs.YtmacpgoclhgafaaDoorW.XM Go.Proofs Go.Proofs.YtmacpgoclhgafaaDoorW.XWords
set_option maxRecDepth 100000
set_option linter.unusedSimpArgs false
variable (w0 : World) (H : Hp)
/-- A room's two objects, and where they lie. -/
def obsR (R : Rm) : List (Option Ob) := [some (.row 60 (flat Mem.enc R.ms)), some (.row 58 (flat Rk.enc R.ks))]
def adR (H : Hp) (R : Rm) (j k : Nat) : Ad := ⟨some ⟨nid H j, 0, some (R.ms.length * 3)⟩, R.ms.length, some ⟨nid H k, 0, some (R.ks.length * 2)⟩, R.ks.length⟩
theorem pl2 {t u : TypeId} (ms : List Mem) (ks : List Rk) {l : List (Option Ob)} {j k : Nat} (hj : l[j]? = some (some (.row t (flat Mem.enc ms)))) (hk : l[k]? = some (some (.row u (flat Rk.enc ks)))) : ∀ i ∈ [j, k], PlainOb ((l[i]?).join) := by
  intro i hi
  simp only [List.mem_cons, List.not_mem_nil, or_false] at hi
  rcases hi with rfl | rfl
  · rw [hj]; exact flat_plain (fun _ => rfl) ms
  · rw [hk]; exact flat_plain (fun _ => rfl) ks
theorem ren_room (R : Rm) {sel : List Nat} {j k j' k' : Nat} (hj : idx j sel = some j') (hk : idx k sel = some k') : ren3 (rho H sel) (.agg (R.enc (adR H R j k)).toArray) = some (.agg (R.enc (adR H R j' k')).toArray) := by
  simp [ren3, ren2, renL, ren1, Rm.enc, adR, rho_nid, hj, hk, plain]
theorem toRoom_ok (R : Rm) (x : Ad) (hr : RmAt w0 H R x) : AFn Tryd.prog w0 12 #[.agg (R.enc x).toArray] H fun v H2 => v = .agg (R.enc (adR H R 0 1)).toArray ∧ H2 = Hx H (obsR R) := by
  refine AFn.news Tryd.func12 rfl (by kernel_rfl) ?_
  have r := Tryd.results12
  simp only [go_sem, cond, Nat.reduceAdd, Nat.reduceLeDiff, Nat.reduceEqDiff, Nat.reduceBEq, decide_true, decide_false, Int.toNat_natCast, r]
  simp only [go_sem, cond, Nat.reduceAdd, Nat.reduceLeDiff, Nat.reduceEqDiff, Nat.reduceBEq, decide_true, decide_false, Int.toNat_natCast, Rm.enc, r]
  refine call_eq (toMemberS_ok _ _ _ _ _ (hr.sm.old _) hr.lm) ?_
  simp only [go_sem, cond, Nat.reduceAdd, Nat.reduceLeDiff, Nat.reduceEqDiff, Nat.reduceBEq, decide_true, decide_false, Int.toNat_natCast, r]
  refine call_eq (toRankS_ok _ _ _ _ _ (hr.sk.old _) hr.lk) ?_
  simp only [go_sem, cond, Nat.reduceAdd, Nat.reduceLeDiff, Nat.reduceEqDiff, Nat.reduceBEq, decide_true, decide_false, Int.toNat_natCast, r]
  exact ⟨_, [3, 4], _, rfl, pl2 R.ms R.ks rfl rfl, by decide, ren_room H R rfl rfl, rfl, rfl⟩
theorem l6Copy_ok (R : Rm) (x : Ad) (hr : RmAt w0 H R x) : AFn Tryd.prog w0 47 #[.agg (R.enc x).toArray] H fun v H2 => v = .agg (R.enc (adR H R 0 1)).toArray ∧ H2 = Hx H (obsR R) := by
  refine AFn.news Tryd.func47 rfl (by kernel_rfl) ?_
  have r := Tryd.results47
  simp only [go_sem, cond, Nat.reduceAdd, Nat.reduceLeDiff, Nat.reduceEqDiff, Nat.reduceBEq, decide_true, decide_false, Int.toNat_natCast, r]
  simp only [go_sem, cond, Nat.reduceAdd, Nat.reduceLeDiff, Nat.reduceEqDiff, Nat.reduceBEq, decide_true, decide_false, Int.toNat_natCast, Rm.enc, r]
  refine Req_intro ⟨_, rfl, rfl⟩ ?_
  have om := hr.om
  have ok := hr.ok
  simp only [go_sem, cond, Nat.reduceAdd, Nat.reduceLeDiff, Nat.reduceEqDiff, Nat.reduceBEq, decide_true, decide_false, Int.toNat_natCast, r, om]
  refine appS_full _ _ _ _ _ _ _ _ 3 0 _ _ _ rfl rfl rfl XF.lay_60 (by decide) (flat_len mlen _) (by have := hr.lm; omega) (by have := hr.lm; omega) ?_
  simp only [go_sem, cond, Nat.reduceAdd, Nat.reduceLeDiff, Nat.reduceEqDiff, Nat.reduceBEq, decide_true, decide_false, Int.toNat_natCast, r, ok, Nat.zero_add, List.nil_append]
  refine Req_intro ⟨_, rfl, rfl⟩ ?_
  simp only [go_sem, cond, Nat.reduceAdd, Nat.reduceLeDiff, Nat.reduceEqDiff, Nat.reduceBEq, decide_true, decide_false, Int.toNat_natCast, r, ok, Nat.zero_add, List.nil_append]
  refine appS_full _ _ _ _ _ _ _ _ 4 0 _ _ _ rfl rfl rfl XF.lay_58 (by decide) (flat_len klen _) (by have := hr.lk; omega) (by have := hr.lk; omega) ?_
  simp only [go_sem, cond, Nat.reduceAdd, Nat.reduceLeDiff, Nat.reduceEqDiff, Nat.reduceBEq, decide_true, decide_false, Int.toNat_natCast, r, Nat.zero_add, List.nil_append]
  exact ⟨_, [3, 4], _, rfl, pl2 R.ms R.ks rfl rfl, by decide, ren_room H R rfl rfl, rfl, rfl⟩
end Go.Proofs.YtmacpgoclhgafaaDoorW.FA
namespace Go.Proofs.YtmacpgoclhgafaaDoorW.FA
open Go.RowKit Go.Proofs.YtmacpgoclhgafaaDoorW.XM Go.Proofs Go.Proofs.YtmacpgoclhgafaaDoorW.XWords
set_option maxRecDepth 100000
set_option linter.unusedSimpArgs false
variable (w0 : World) (H : Hp)
theorem clipM_ok (j o tag n c : Nat) (cs : List Value) (hj : H[j]? = some (some (.row 60 cs))) (hl : cs.length = tag) (hn : n ≤ c) : AFn Tryd.prog w0 112 #[.slice (some ⟨j, o, some tag⟩) n c] H fun v H2 => v = .slice (some ⟨j, o, some tag⟩) n n ∧ H2 = H := by
  refine AFn.scal (by simp [ren3, ren2, ren1, rho, lt_of_get hj]) Tryd.func112 rfl (by kernel_rfl) ?_
  have r := Tryd.results112
  simp only [go_sem, cond, Nat.reduceAdd, Nat.reduceLeDiff, Nat.reduceEqDiff, Nat.reduceBEq, decide_true, decide_false, Int.toNat_natCast, r]
  refine slc_clip XF.elm_30 hn _ _ _ _ ⟨_, cs, _, Hx_old hj [], hl, XF.lay_60⟩ ?_
  simp only [go_sem, cond, Nat.reduceAdd, Nat.reduceLeDiff, Nat.reduceEqDiff, Nat.reduceBEq, decide_true, decide_false, Int.toNat_natCast, r]
  exact ⟨_, rfl⟩
theorem clipK_ok (j o tag n c : Nat) (cs : List Value) (hj : H[j]? = some (some (.row 58 cs))) (hl : cs.length = tag) (hn : n ≤ c) : AFn Tryd.prog w0 114 #[.slice (some ⟨j, o, some tag⟩) n c] H fun v H2 => v = .slice (some ⟨j, o, some tag⟩) n n ∧ H2 = H := by
  refine AFn.scal (by simp [ren3, ren2, ren1, rho, lt_of_get hj]) Tryd.func114 rfl (by kernel_rfl) ?_
  have r := Tryd.results114
  simp only [go_sem, cond, Nat.reduceAdd, Nat.reduceLeDiff, Nat.reduceEqDiff, Nat.reduceBEq, decide_true, decide_false, Int.toNat_natCast, r]
  refine slc_clip XF.elm_31 hn _ _ _ _ ⟨_, cs, _, Hx_old hj [], hl, XF.lay_58⟩ ?_
  simp only [go_sem, cond, Nat.reduceAdd, Nat.reduceLeDiff, Nat.reduceEqDiff, Nat.reduceBEq, decide_true, decide_false, Int.toNat_natCast, r]
  exact ⟨_, rfl⟩
theorem cloneM_ok (a : Addr) (ms : List Mem) (c : Nat) (hs : ∀ L, src w0 (Hx H L) 3 (.slice (some a) ms.length c) = some (ms.length, flat Mem.enc ms)) (hl : ms.length ≤ 2000000) : AFn Tryd.prog w0 113 #[.slice (some a) ms.length c] H fun v H2 => v = .slice (some ⟨nid H 0, 0, some (ms.length * 3)⟩) ms.length ms.length ∧ H2 = Hx H [some (.row 60 (flat Mem.enc ms))] := by
  refine AFn.news Tryd.func113 rfl (by kernel_rfl) ?_
  have r := Tryd.results113
  simp only [go_sem, cond, Nat.reduceAdd, Nat.reduceLeDiff, Nat.reduceEqDiff, Nat.reduceBEq, decide_true, decide_false, Int.toNat_natCast, r]
  refine Req_intro ⟨_, rfl, rfl⟩ ?_
  simp only [src_sl] at hs
  simp only [go_sem, cond, Nat.reduceAdd, Nat.reduceLeDiff, Nat.reduceEqDiff, Nat.reduceBEq, decide_true, decide_false, Int.toNat_natCast, r, hs]
  refine appS_full _ _ _ _ _ _ _ _ 0 0 _ _ _ rfl rfl rfl XF.lay_60 (by decide) (flat_len mlen _) (by omega) (by omega) ?_
  simp only [go_sem, cond, Nat.reduceAdd, Nat.reduceLeDiff, Nat.reduceEqDiff, Nat.reduceBEq, decide_true, decide_false, Int.toNat_natCast, r, Nat.zero_add, List.nil_append]
  refine ⟨_, [0], _, rfl, ?_, by decide, by simp only [ren3, ren2, ren1, rho_nid, idx_hit, Option.map_some], rfl, rfl⟩
  intro k hk
  simp only [List.mem_singleton] at hk
  subst hk
  exact flat_plain (fun _ => rfl) ms
theorem cloneK_ok (a : Addr) (ms : List Rk) (c : Nat) (hs : ∀ L, src w0 (Hx H L) 2 (.slice (some a) ms.length c) = some (ms.length, flat Rk.enc ms)) (hl : ms.length ≤ 2000000) : AFn Tryd.prog w0 115 #[.slice (some a) ms.length c] H fun v H2 => v = .slice (some ⟨nid H 0, 0, some (ms.length * 2)⟩) ms.length ms.length ∧ H2 = Hx H [some (.row 58 (flat Rk.enc ms))] := by
  refine AFn.news Tryd.func115 rfl (by kernel_rfl) ?_
  have r := Tryd.results115
  simp only [go_sem, cond, Nat.reduceAdd, Nat.reduceLeDiff, Nat.reduceEqDiff, Nat.reduceBEq, decide_true, decide_false, Int.toNat_natCast, r]
  refine Req_intro ⟨_, rfl, rfl⟩ ?_
  simp only [src_sl] at hs
  simp only [go_sem, cond, Nat.reduceAdd, Nat.reduceLeDiff, Nat.reduceEqDiff, Nat.reduceBEq, decide_true, decide_false, Int.toNat_natCast, r, hs]
  refine appS_full _ _ _ _ _ _ _ _ 0 0 _ _ _ rfl rfl rfl XF.lay_58 (by decide) (flat_len klen _) (by omega) (by omega) ?_
  simp only [go_sem, cond, Nat.reduceAdd, Nat.reduceLeDiff, Nat.reduceEqDiff, Nat.reduceBEq, decide_true, decide_false, Int.toNat_natCast, r, Nat.zero_add, List.nil_append]
  refine ⟨_, [0], _, rfl, ?_, by decide, by simp only [ren3, ren2, ren1, rho_nid, idx_hit, Option.map_some], rfl, rfl⟩
  intro k hk
  simp only [List.mem_singleton] at hk
  subst hk
  exact flat_plain (fun _ => rfl) ms
end Go.Proofs.YtmacpgoclhgafaaDoorW.FA
namespace Go.Proofs.YtmacpgoclhgafaaDoorW.FA
open Go.RowKit Go.Proofs.YtmacpgoclhgafaaDoorW.XM Go.Proofs Go.Proofs.YtmacpgoclhgafaaDoorW.XWords
set_option maxRecDepth 100000
set_option linter.unusedSimpArgs false
variable (w0 : World) (H : Hp)
theorem copied_ok (R : Rm) (a b : Addr) (c d : Nat) (hr : RmAt w0 H R ⟨some a, c, some b, d⟩) : AFn Tryd.prog w0 52 #[.agg (R.enc ⟨some a, c, some b, d⟩).toArray] H fun v H2 => v = .agg (R.enc (adR H R 0 1)).toArray ∧ H2 = Hx H (obsR R) := by
  have om := hr.om
  have ok := hr.ok
  have hlm := hr.lm
  have hlk := hr.lk
  refine AFn.news Tryd.func52 rfl (by kernel_rfl) ?_
  have r := Tryd.results52
  simp only [go_sem, cond, Nat.reduceAdd, Nat.reduceLeDiff, Nat.reduceEqDiff, Nat.reduceBEq, decide_true, decide_false, Int.toNat_natCast, r]
  simp only [go_sem, cond, Nat.reduceAdd, Nat.reduceLeDiff, Nat.reduceEqDiff, Nat.reduceBEq, decide_true, decide_false, Int.toNat_natCast, Rm.enc, r]
  (refine xw_open (id := 1) [0, 1, 3, 7, 0, 16, 63, 127, 63, 511, 1023, 2047] [.q 0, .q 4, .q 1, .l 5, .e 2, .e 3, .d 5, .q 8, .e 6, .e 7, .e 9, .q 10, .e 11] rfl (by kernel_rfl) ?_; simp only [go_sem, cond, Nat.reduceAdd, Nat.reduceLeDiff, Nat.reduceEqDiff, Nat.reduceBEq, decide_true, decide_false, Int.toNat_natCast, r])
  refine call_eq (cloneM_ok _ _ a R.ms c (fun L => by rw [Hx_Hx]; exact om _) hlm) ?_
  simp only [go_sem, cond, Nat.reduceAdd, Nat.reduceLeDiff, Nat.reduceEqDiff, Nat.reduceBEq, decide_true, decide_false, Int.toNat_natCast, r]
  refine call_eq (clipM_ok _ _ (nid H 2) 0 _ _ _ (flat Mem.enc R.ms) (by rw [Hx_get]; rfl) (flat_len mlen _) (Nat.le_refl _)) ?_
  simp only [go_sem, cond, Nat.reduceAdd, Nat.reduceLeDiff, Nat.reduceEqDiff, Nat.reduceBEq, decide_true, decide_false, Int.toNat_natCast, r]
  refine call_eq (cloneK_ok _ _ b R.ks d (fun L => by rw [Hx_Hx]; exact ok _) hlk) ?_
  simp only [go_sem, cond, Nat.reduceAdd, Nat.reduceLeDiff, Nat.reduceEqDiff, Nat.reduceBEq, decide_true, decide_false, Int.toNat_natCast, r]
  refine call_eq (clipK_ok _ _ (nid H 3) 0 _ _ _ (flat Rk.enc R.ks) (by rw [Hx_get]; rfl) (flat_len klen _) (Nat.le_refl _)) ?_
  simp only [go_sem, cond, Nat.reduceAdd, Nat.reduceLeDiff, Nat.reduceEqDiff, Nat.reduceBEq, decide_true, decide_false, Int.toNat_natCast, r]
  exact ⟨_, [2, 3], _, rfl, pl2 R.ms R.ks rfl rfl, by decide, ren_room H R rfl rfl, rfl, rfl⟩
end Go.Proofs.YtmacpgoclhgafaaDoorW.FA
namespace Go.Proofs.YtmacpgoclhgafaaDoorW.FA
open Go.RowKit Go.Proofs.YtmacpgoclhgafaaDoorW.XM Go.Proofs Go.Proofs.YtmacpgoclhgafaaDoorW.XWords
set_option maxRecDepth 100000
set_option linter.unusedSimpArgs false
variable (w0 : World) (H : Hp)
def eqMB (a b : Mem) : Bool := (a.user.toList == b.user.toList) && ((a.nick.toList == b.nick.toList) && (a.role == b.role))
def eqKB (a b : Rk) : Bool := (a.user.toList == b.user.toList) && (a.num == b.num)
/-- Two lists, place by place. -/
def eqZ {α : Type} (p : α → α → Bool) : List α → List α → Bool
  | a :: r, b :: s => p a b && eqZ p r s
  | _, _ => true
def eqLs {α : Type} (p : α → α → Bool) (l m : List α) : Bool := ((l.length : Int) == (m.length : Int)) && eqZ p l m
theorem eqZ_drop {α : Type} (p : α → α → Bool) (l m : List α) (i : Nat) (h1 : i < l.length) (h2 : i < m.length) : eqZ p (l.drop i) (m.drop i) = (p l[i] m[i] && eqZ p (l.drop (i + 1)) (m.drop (i + 1))) := by
  rw [List.drop_eq_getElem_cons h1, List.drop_eq_getElem_cons h2, eqZ]
theorem eqMember_ok (a b : Mem) : AFn Tryd.prog w0 116 #[.agg a.enc.toArray, .agg b.enc.toArray] H fun v H2 => v = .bool (eqMB a b) ∧ H2 = H := by
  refine AFn.scal rfl Tryd.func116 rfl (by kernel_rfl) ?_
  have r := Tryd.results116
  simp only [go_sem, cond, Nat.reduceAdd, Nat.reduceLeDiff, Nat.reduceEqDiff, Nat.reduceBEq, decide_true, decide_false, Int.toNat_natCast, r]
  simp only [go_sem, cond, Nat.reduceAdd, Nat.reduceLeDiff, Nat.reduceEqDiff, Nat.reduceBEq, decide_true, decide_false, Int.toNat_natCast, Mem.enc, r]
  repeat' (refine Br_intro ?_ ?_ <;> intro h <;> simp only [go_sem, cond, Nat.reduceAdd, Nat.reduceLeDiff, Nat.reduceEqDiff, Nat.reduceBEq, decide_true, decide_false, Int.toNat_natCast, h, r])
  all_goals exact ⟨by simp only [eqMB, *, Bool.true_and, Bool.false_and, Bool.and_self], _, rfl⟩
theorem eqRank_ok (a b : Rk) : AFn Tryd.prog w0 117 #[.agg a.enc.toArray, .agg b.enc.toArray] H fun v H2 => v = .bool (eqKB a b) ∧ H2 = H := by
  refine AFn.scal rfl Tryd.func117 rfl (by kernel_rfl) ?_
  have r := Tryd.results117
  simp only [go_sem, cond, Nat.reduceAdd, Nat.reduceLeDiff, Nat.reduceEqDiff, Nat.reduceBEq, decide_true, decide_false, Int.toNat_natCast, r]
  simp only [go_sem, cond, Nat.reduceAdd, Nat.reduceLeDiff, Nat.reduceEqDiff, Nat.reduceBEq, decide_true, decide_false, Int.toNat_natCast, Rk.enc, r]
  repeat' (refine Br_intro ?_ ?_ <;> intro h <;> simp only [go_sem, cond, Nat.reduceAdd, Nat.reduceLeDiff, Nat.reduceEqDiff, Nat.reduceBEq, decide_true, decide_false, Int.toNat_natCast, h, r])
  all_goals exact ⟨by simp only [eqKB, *, Bool.true_and, Bool.false_and, Bool.and_self], _, rfl⟩
theorem eqMemberS_ok (A B : Option Addr) (c d : Nat) (l m : List Mem) (hA : Sl w0 H A 3 (l.map Mem.enc)) (hB : Sl w0 H B 3 (m.map Mem.enc)) (hl : l.length ≤ 2000000) : AFn Tryd.prog w0 53 #[.slice A l.length c, .slice B m.length d] H fun v H2 => v = .bool (eqLs eqMB l m) ∧ H2 = H := by
  refine AFn.scal rfl Tryd.func53 rfl (by kernel_rfl) ?_
  have r := Tryd.results53
  simp only [go_sem, cond, Nat.reduceAdd, Nat.reduceLeDiff, Nat.reduceEqDiff, Nat.reduceBEq, decide_true, decide_false, Int.toNat_natCast, r]
  refine Br_intro ?_ ?_ <;> intro h0 <;> simp only [go_sem, cond, Nat.reduceAdd, Nat.reduceLeDiff, Nat.reduceEqDiff, Nat.reduceBEq, decide_true, decide_false, Int.toNat_natCast, h0, r]
  · have hm : m.length = l.length := by have := eq_of_beq h0; omega
    refine xw_loop (fun (i : Nat) T H' => i ≤ l.length ∧ eqZ eqMB (l.drop i) (m.drop i) = eqZ eqMB l m ∧ T 0 = .slice A l.length c ∧ T 1 = .slice B m.length d ∧ T 5 = .int .i64 i ∧ H' = Hx H []) (fun i => l.length - i) 0 (by kernel_rfl) ⟨Nat.zero_le _, rfl, rfl, rfl, rfl, rfl⟩ ?_
    rintro i T H' ⟨hi, he, t0, t1, t5, rfl⟩
    by_cases hlt : i < l.length
    · obtain ⟨b, o, sp, rfl, _, hc⟩ := mcell hA hlt
      obtain ⟨b2, o2, sp2, rfl, _, hc2⟩ := mcell (i := i) hB (by omega)
      have c0 := fun L => hc L rfl
      have c1 := fun L => hc2 L rfl
      have d1 : ((i : Int) < (l.length : Int)) = True := eq_true (by omega)
      have d2 : (0 ≤ (i : Int)) = True := eq_true (by omega)
      have d3 : ((i : Int) < (m.length : Int)) = True := eq_true (by omega)
      rw [eqZ_drop _ _ _ i hlt (by omega)] at he
      simp only [Mem.enc] at c0 c1
      simp only [go_sem, cond, Nat.reduceAdd, Nat.reduceLeDiff, Nat.reduceEqDiff, Nat.reduceBEq, decide_true, decide_false, Int.toNat_natCast, t0, t1, t5, d1, d2, d3, c0, c1]
      (refine xw_open (id := 6) [0, 0, 3, 7, 0, 0, 48, 112, 255, 511] [.q 0, .q 1, .q 2, .q 4, .q 5, .q 6, .q 3, .q 7, .e 8, .q 9] rfl (by kernel_rfl) ?_; simp only [go_sem, cond, Nat.reduceAdd, Nat.reduceLeDiff, Nat.reduceEqDiff, Nat.reduceBEq, decide_true, decide_false, Int.toNat_natCast, t0, t1, t5, d1, d2, d3, c0, c1])
      refine call_eq (eqMember_ok _ _ l[i] m[i]) ?_
      simp only [go_sem, cond, Nat.reduceAdd, Nat.reduceLeDiff, Nat.reduceEqDiff, Nat.reduceBEq, decide_true, decide_false, Int.toNat_natCast, t0, t1, t5, d1, d2, d3, c0, c1]
      refine Br_intro ?_ ?_ <;> intro h <;> simp only [go_sem, cond, Nat.reduceAdd, Nat.reduceLeDiff, Nat.reduceEqDiff, Nat.reduceBEq, decide_true, decide_false, Int.toNat_natCast, t0, t1, t5, h, r]
      · rw [h, Bool.true_and] at he
        exact ⟨i + 1, ⟨hlt, he, t0, t1, int_succ hlt (by omega), rfl⟩, lt_meas hlt⟩
      · rw [h, Bool.false_and] at he
        exact ⟨by rw [eqLs, ← he, Bool.and_false], _, rfl⟩
    · obtain rfl : i = l.length := by omega
      have d1 : ((l.length : Int) < (l.length : Int)) = False := eq_false (by omega)
      rw [List.drop_length] at he
      simp only [go_sem, cond, Nat.reduceAdd, Nat.reduceLeDiff, Nat.reduceEqDiff, Nat.reduceBEq, decide_true, decide_false, Int.toNat_natCast, t0, t1, t5, d1, r]
      exact ⟨by rw [eqLs, ← he, h0]; rfl, _, rfl⟩
  · exact ⟨by rw [eqLs, h0, Bool.false_and], _, rfl⟩
theorem eqRankS_ok (A B : Option Addr) (c d : Nat) (l m : List Rk) (hA : Sl w0 H A 2 (l.map Rk.enc)) (hB : Sl w0 H B 2 (m.map Rk.enc)) (hl : l.length ≤ 2000000) : AFn Tryd.prog w0 54 #[.slice A l.length c, .slice B m.length d] H fun v H2 => v = .bool (eqLs eqKB l m) ∧ H2 = H := by
  refine AFn.scal rfl Tryd.func54 rfl (by kernel_rfl) ?_
  have r := Tryd.results54
  simp only [go_sem, cond, Nat.reduceAdd, Nat.reduceLeDiff, Nat.reduceEqDiff, Nat.reduceBEq, decide_true, decide_false, Int.toNat_natCast, r]
  refine Br_intro ?_ ?_ <;> intro h0 <;> simp only [go_sem, cond, Nat.reduceAdd, Nat.reduceLeDiff, Nat.reduceEqDiff, Nat.reduceBEq, decide_true, decide_false, Int.toNat_natCast, h0, r]
  · have hm : m.length = l.length := by have := eq_of_beq h0; omega
    refine xw_loop (fun (i : Nat) T H' => i ≤ l.length ∧ eqZ eqKB (l.drop i) (m.drop i) = eqZ eqKB l m ∧ T 0 = .slice A l.length c ∧ T 1 = .slice B m.length d ∧ T 5 = .int .i64 i ∧ H' = Hx H []) (fun i => l.length - i) 0 (by kernel_rfl) ⟨Nat.zero_le _, rfl, rfl, rfl, rfl, rfl⟩ ?_
    rintro i T H' ⟨hi, he, t0, t1, t5, rfl⟩
    by_cases hlt : i < l.length
    · obtain ⟨b, o, sp, rfl, _, hc⟩ := mcell hA hlt
      obtain ⟨b2, o2, sp2, rfl, _, hc2⟩ := mcell (i := i) hB (by omega)
      have c0 := fun L => hc L rfl
      have c1 := fun L => hc2 L rfl
      have d1 : ((i : Int) < (l.length : Int)) = True := eq_true (by omega)
      have d2 : (0 ≤ (i : Int)) = True := eq_true (by omega)
      have d3 : ((i : Int) < (m.length : Int)) = True := eq_true (by omega)
      rw [eqZ_drop _ _ _ i hlt (by omega)] at he
      simp only [Rk.enc] at c0 c1
      simp only [go_sem, cond, Nat.reduceAdd, Nat.reduceLeDiff, Nat.reduceEqDiff, Nat.reduceBEq, decide_true, decide_false, Int.toNat_natCast, t0, t1, t5, d1, d2, d3, c0, c1]
      (refine xw_open (id := 6) [0, 0, 3, 7, 0, 0, 48, 112, 255, 511] [.q 0, .q 1, .q 2, .q 4, .q 5, .q 6, .q 3, .q 7, .e 8, .q 9] rfl (by kernel_rfl) ?_; simp only [go_sem, cond, Nat.reduceAdd, Nat.reduceLeDiff, Nat.reduceEqDiff, Nat.reduceBEq, decide_true, decide_false, Int.toNat_natCast, t0, t1, t5, d1, d2, d3, c0, c1])
      refine call_eq (eqRank_ok _ _ l[i] m[i]) ?_
      simp only [go_sem, cond, Nat.reduceAdd, Nat.reduceLeDiff, Nat.reduceEqDiff, Nat.reduceBEq, decide_true, decide_false, Int.toNat_natCast, t0, t1, t5, d1, d2, d3, c0, c1]
      refine Br_intro ?_ ?_ <;> intro h <;> simp only [go_sem, cond, Nat.reduceAdd, Nat.reduceLeDiff, Nat.reduceEqDiff, Nat.reduceBEq, decide_true, decide_false, Int.toNat_natCast, t0, t1, t5, h, r]
      · rw [h, Bool.true_and] at he
        exact ⟨i + 1, ⟨hlt, he, t0, t1, int_succ hlt (by omega), rfl⟩, lt_meas hlt⟩
      · rw [h, Bool.false_and] at he
        exact ⟨by rw [eqLs, ← he, Bool.and_false], _, rfl⟩
    · obtain rfl : i = l.length := by omega
      have d1 : ((l.length : Int) < (l.length : Int)) = False := eq_false (by omega)
      rw [List.drop_length] at he
      simp only [go_sem, cond, Nat.reduceAdd, Nat.reduceLeDiff, Nat.reduceEqDiff, Nat.reduceBEq, decide_true, decide_false, Int.toNat_natCast, t0, t1, t5, d1, r]
      exact ⟨by rw [eqLs, ← he, h0]; rfl, _, rfl⟩
  · exact ⟨by rw [eqLs, h0, Bool.false_and], _, rfl⟩
def eqRB (a b : Rm) : Bool := (a.name.toList == b.name.toList) && ((a.next == b.next) && (eqLs eqMB a.ms b.ms && (eqLs eqKB a.ks b.ks && (a.subj.toList == b.subj.toList))))
theorem eqRoom_ok (R S : Rm) (x y : Ad) (hr : RmAt w0 H R x) (hs : RmAt w0 H S y) : AFn Tryd.prog w0 15 #[.agg (R.enc x).toArray, .agg (S.enc y).toArray] H fun v H2 => v = .bool (eqRB R S) ∧ H2 = H := by
  refine AFn.scal rfl Tryd.func15 rfl (by kernel_rfl) ?_
  have r := Tryd.results15
  simp only [go_sem, cond, Nat.reduceAdd, Nat.reduceLeDiff, Nat.reduceEqDiff, Nat.reduceBEq, decide_true, decide_false, Int.toNat_natCast, r]
  simp only [go_sem, cond, Nat.reduceAdd, Nat.reduceLeDiff, Nat.reduceEqDiff, Nat.reduceBEq, decide_true, decide_false, Int.toNat_natCast, Rm.enc, r]
  repeat' (first
    | (refine Br_intro ?_ ?_ <;> intro h <;> simp only [go_sem, cond, Nat.reduceAdd, Nat.reduceLeDiff, Nat.reduceEqDiff, Nat.reduceBEq, decide_true, decide_false, Int.toNat_natCast, h, r])
    | (refine call_eq (eqMemberS_ok _ _ _ _ _ _ _ _ (hr.sm.old _) (hs.sm.old _) hr.lm) ?_; simp only [go_sem, cond, Nat.reduceAdd, Nat.reduceLeDiff, Nat.reduceEqDiff, Nat.reduceBEq, decide_true, decide_false, Int.toNat_natCast, r])
    | (refine call_eq (eqRankS_ok _ _ _ _ _ _ _ _ (hr.sk.old _) (hs.sk.old _) hr.lk) ?_; simp only [go_sem, cond, Nat.reduceAdd, Nat.reduceLeDiff, Nat.reduceEqDiff, Nat.reduceBEq, decide_true, decide_false, Int.toNat_natCast, r]))
  all_goals refine ⟨congrArg Value.bool ?_, _, rfl⟩
  all_goals clear hr hs r
  all_goals simp only [eqRB, *, Bool.true_and, Bool.false_and, Bool.and_self]
theorem idxP_ge {α : Type} (p : α → Bool) : ∀ (l : List α) (i : Nat), idxP p l i = -1 ∨ ∃ k, ∃ h : k < l.length, idxP p l i = ((i + k : Nat) : Int) ∧ p l[k] = true
  | [], _ => .inl rfl
  | a :: r, i => by
    unfold idxP
    split
    · rename_i h; exact .inr ⟨0, by simp, by simp, h⟩
    · rcases idxP_ge p r (i + 1) with h | ⟨k, hk, h, h2⟩
      · exact .inl h
      · exact .inr ⟨k + 1, by simp; omega, by rw [h]; congr 1; omega, h2⟩
def isB (R : Rm) (e : En) : Bool := match R.ms.find? (isU e.user) with
  | some m => m.nick.toList == e.nick.toList
  | none => false
theorem idxP_find {α : Type} (p : α → Bool) : ∀ (l : List α) (i : Nat), (idxP p l i = -1 ∧ l.find? p = none) ∨ ∃ k, ∃ h : k < l.length, idxP p l i = ((i + k : Nat) : Int) ∧ l.find? p = some l[k]
  | [], _ => .inl ⟨rfl, rfl⟩
  | a :: r, i => by
    unfold idxP
    by_cases h : p a = true
    · rw [if_pos h]
      exact .inr ⟨0, by simp, by simp, by simp [List.find?, h]⟩
    · rw [if_neg h]
      rcases idxP_find p r (i + 1) with ⟨h1, h2⟩ | ⟨k, hk, h1, h2⟩
      · exact .inl ⟨h1, by simp [List.find?, h, h2]⟩
      · exact .inr ⟨k + 1, by simp; omega, by rw [h1]; congr 1; omega, by simp [List.find?, h, h2]⟩
theorem l6Is_ok (R : Rm) (x : Ad) (e : En) (hr : RmAt w0 H R x) : AFn Tryd.prog w0 105 #[.agg (R.enc x).toArray, .agg e.enc.toArray] H fun v H2 => v = .bool (isB R e) ∧ H2 = H := by
  obtain ⟨xa, xc, xb, xd⟩ := x
  refine AFn.scal rfl Tryd.func105 rfl (by kernel_rfl) ?_
  have r := Tryd.results105
  simp only [go_sem, cond, Nat.reduceAdd, Nat.reduceLeDiff, Nat.reduceEqDiff, Nat.reduceBEq, decide_true, decide_false, Int.toNat_natCast, r]
  simp only [go_sem, cond, Nat.reduceAdd, Nat.reduceLeDiff, Nat.reduceEqDiff, Nat.reduceBEq, decide_true, decide_false, Int.toNat_natCast, Rm.enc, En.enc, r]
  refine call_eq (l6Of_ok _ _ R _ _ (hr.old _)) ?_
  simp only [go_sem, cond, Nat.reduceAdd, Nat.reduceLeDiff, Nat.reduceEqDiff, Nat.reduceBEq, decide_true, decide_false, Int.toNat_natCast, r]
  rcases idxP_find (isU e.user) R.ms 0 with ⟨h1, h2⟩ | ⟨k, hk, h1, h2⟩
  · have d1 : ((-1 : Int) ≥ 0) = False := eq_false (by omega)
    rw [h1]
    (refine xw_open (id := 2) [0, 1, 3, 7, 15, 7, 63, 127, 255, 7, 519, 2047, 4095, 8191] [.q 0, .q 1, .q 2, .q 3, .q 5, .q 9, .q 4, .q 6, .q 7, .q 8, .q 10, .q 11, .q 12, .q 13] rfl (by kernel_rfl) ?_; simp only [go_sem, cond, Nat.reduceAdd, Nat.reduceLeDiff, Nat.reduceEqDiff, Nat.reduceBEq, decide_true, decide_false, Int.toNat_natCast, r, d1])
    exact ⟨by rw [isB, h2], _, rfl⟩
  · obtain ⟨b, o, sp, rfl, hc, _⟩ := mcell hr.sm hk
    rw [Nat.zero_add] at h1
    rw [h1]
    have d1 : (0 ≤ (k : Int)) = True := eq_true (by omega)
    have d2 : ((k : Int) < (R.ms.length : Int)) = True := eq_true (by omega)
    have c0 := fun L => hc 1 (.string R.ms[k].nick) L (by decide) rfl
    (refine xw_open (id := 2) [0, 1, 3, 7, 15, 7, 63, 127, 255, 7, 519, 2047, 4095, 8191] [.q 0, .q 1, .q 2, .q 3, .q 5, .q 9, .q 4, .q 6, .q 7, .q 8, .q 10, .q 11, .q 12, .q 13] rfl (by kernel_rfl) ?_; simp only [go_sem, cond, Nat.reduceAdd, Nat.reduceLeDiff, Nat.reduceEqDiff, Nat.reduceBEq, decide_true, decide_false, Int.toNat_natCast, r, ge_iff_le, d1, d2, c0])
    exact ⟨by rw [isB, h2], _, rfl⟩
end Go.Proofs.YtmacpgoclhgafaaDoorW.FA
namespace Go.Proofs.YtmacpgoclhgafaaDoorW.FA
open Go.RowKit Go.Proofs.YtmacpgoclhgafaaDoorW.XM Go.Proofs Go.Proofs.YtmacpgoclhgafaaDoorW.XWords
set_option maxRecDepth 100000
set_option linter.unusedSimpArgs false
variable (w0 : World) (H : Hp)
def sub1 (left : Int) (n : Nat) : Int := if left - n < 0 then -1 else left - n
theorem sub1_le {left : Int} {n : Nat} (h1 : -1 ≤ left) (h2 : left ≤ 1048576) : -1 ≤ sub1 left n ∧ sub1 left n ≤ 1048576 := by
  unfold sub1; split <;> omega
def szM (m : Mem) (left : Int) : Int := sub1 (sub1 left m.user.size) m.nick.size
def szK (m : Rk) (left : Int) : Int := sub1 left m.user.size
def szE (e : En) (left : Int) : Int := sub1 (sub1 (sub1 (sub1 (sub1 (sub1 left e.room.size) e.user.size) e.nick.size) e.text.size) e.id.size) e.ref.size
theorem dec_lt {a : Int} {b : Bool} (h : decide (a < 0) = b) : if b = true then a < 0 else ¬ a < 0 := by
  cases b
  · rw [if_neg (by decide)]; exact of_decide_eq_false h
  · rw [if_pos rfl]; exact of_decide_eq_true h
theorem szMember_ok (m : Mem) (left : Int) (h1 : -1 ≤ left) (h2 : left ≤ 1048576) (hu : m.user.size ≤ 9223372036854775807) (hn : m.nick.size ≤ 9223372036854775807) : AFn Tryd.prog w0 99 #[.agg m.enc.toArray, .int .i64 left] H fun v H2 => v = .int .i64 (szM m left) ∧ H2 = H := by
  have d1 : IntKind.i64.wrap (left - m.user.size) = left - m.user.size := wrap_i64 (by omega) (by omega)
  refine AFn.scal rfl Tryd.func99 rfl (by kernel_rfl) ?_
  have r := Tryd.results99
  simp only [go_sem, cond, Nat.reduceAdd, Nat.reduceLeDiff, Nat.reduceEqDiff, Nat.reduceBEq, decide_true, decide_false, Int.toNat_natCast, r]
  simp only [go_sem, cond, Nat.reduceAdd, Nat.reduceLeDiff, Nat.reduceEqDiff, Nat.reduceBEq, decide_true, decide_false, Int.toNat_natCast, Mem.enc, r, d1]
  refine Br_intro ?_ ?_ <;> intro h <;> simp only [go_sem, cond, Nat.reduceAdd, Nat.reduceLeDiff, Nat.reduceEqDiff, Nat.reduceBEq, decide_true, decide_false, Int.toNat_natCast, h, r, d1]
  · refine ⟨congrArg (Value.int .i64) ?_, _, rfl⟩
    simp only [decide_eq_true_eq] at h
    unfold szM sub1
    repeat' split
    all_goals omega
  simp only [decide_eq_false_iff_not] at h
  have d2 : IntKind.i64.wrap (left - m.user.size - m.nick.size) = left - m.user.size - m.nick.size := wrap_i64 (by omega) (by omega)
  simp only [go_sem, cond, Nat.reduceAdd, Nat.reduceLeDiff, Nat.reduceEqDiff, Nat.reduceBEq, decide_true, decide_false, Int.toNat_natCast, d1, d2]
  refine Br_intro ?_ ?_ <;> intro h2 <;> simp only [go_sem, cond, Nat.reduceAdd, Nat.reduceLeDiff, Nat.reduceEqDiff, Nat.reduceBEq, decide_true, decide_false, Int.toNat_natCast, h2, r, d1, d2]
  all_goals refine ⟨congrArg (Value.int .i64) ?_, _, rfl⟩
  all_goals simp only [decide_eq_true_eq, decide_eq_false_iff_not] at *
  all_goals unfold szM sub1
  all_goals repeat' split
  all_goals omega
theorem szRank_ok (m : Rk) (left : Int) (h1 : -1 ≤ left) (h2 : left ≤ 1048576) (hu : m.user.size ≤ 9223372036854775807) : AFn Tryd.prog w0 100 #[.agg m.enc.toArray, .int .i64 left] H fun v H2 => v = .int .i64 (szK m left) ∧ H2 = H := by
  have d1 : IntKind.i64.wrap (left - m.user.size) = left - m.user.size := wrap_i64 (by omega) (by omega)
  refine AFn.scal rfl Tryd.func100 rfl (by kernel_rfl) ?_
  have r := Tryd.results100
  simp only [go_sem, cond, Nat.reduceAdd, Nat.reduceLeDiff, Nat.reduceEqDiff, Nat.reduceBEq, decide_true, decide_false, Int.toNat_natCast, r]
  simp only [go_sem, cond, Nat.reduceAdd, Nat.reduceLeDiff, Nat.reduceEqDiff, Nat.reduceBEq, decide_true, decide_false, Int.toNat_natCast, Rk.enc, r, d1]
  repeat' (refine Br_intro ?_ ?_ <;> intro h <;> simp only [go_sem, cond, Nat.reduceAdd, Nat.reduceLeDiff, Nat.reduceEqDiff, Nat.reduceBEq, decide_true, decide_false, Int.toNat_natCast, h, r, d1])
  all_goals refine ⟨congrArg (Value.int .i64) ?_, _, rfl⟩
  all_goals simp only [decide_eq_true_eq, decide_eq_false_iff_not] at *
  all_goals unfold szK sub1
  all_goals repeat' split
  all_goals omega
set_option maxHeartbeats 4000000 in
theorem szEntry_ok (e : En) (left : Int) (h1 : -1 ≤ left) (h2 : left ≤ 1048576) (g0 : e.room.size ≤ 9223372036854775807) (g1 : e.user.size ≤ 9223372036854775807) (g2 : e.nick.size ≤ 9223372036854775807) (g3 : e.text.size ≤ 9223372036854775807) (g4 : e.id.size ≤ 9223372036854775807) (g5 : e.ref.size ≤ 9223372036854775807) : AFn Tryd.prog w0 10 #[.agg e.enc.toArray, .int .i64 left] H fun v H2 => v = .int .i64 (szE e left) ∧ H2 = H := by
  have d1 : IntKind.i64.wrap (left - e.room.size) = left - e.room.size := wrap_i64 (by omega) (by omega)
  refine AFn.scal rfl Tryd.func10 rfl (by kernel_rfl) ?_
  have r := Tryd.results10
  simp only [go_sem, cond, Nat.reduceAdd, Nat.reduceLeDiff, Nat.reduceEqDiff, Nat.reduceBEq, decide_true, decide_false, Int.toNat_natCast, r]
  simp only [go_sem, cond, Nat.reduceAdd, Nat.reduceLeDiff, Nat.reduceEqDiff, Nat.reduceBEq, decide_true, decide_false, Int.toNat_natCast, En.enc, r, d1]
  refine Br_intro ?_ ?_ <;> intro h <;> simp only [go_sem, cond, Nat.reduceAdd, Nat.reduceLeDiff, Nat.reduceEqDiff, Nat.reduceBEq, decide_true, decide_false, Int.toNat_natCast, h, r, d1]
  · refine ⟨congrArg (Value.int .i64) ?_, _, rfl⟩
    simp only [decide_eq_true_eq] at h
    unfold szE sub1
    repeat' split
    all_goals omega
  simp only [decide_eq_false_iff_not] at h
  have d2 : IntKind.i64.wrap (left - e.room.size - e.user.size) = left - e.room.size - e.user.size := wrap_i64 (by omega) (by omega)
  simp only [go_sem, cond, Nat.reduceAdd, Nat.reduceLeDiff, Nat.reduceEqDiff, Nat.reduceBEq, decide_true, decide_false, Int.toNat_natCast, d1, d2]
  refine Br_intro ?_ ?_ <;> intro h' <;> simp only [go_sem, cond, Nat.reduceAdd, Nat.reduceLeDiff, Nat.reduceEqDiff, Nat.reduceBEq, decide_true, decide_false, Int.toNat_natCast, h', r, d1, d2]
  · refine ⟨congrArg (Value.int .i64) ?_, _, rfl⟩
    simp only [decide_eq_true_eq] at h'
    unfold szE sub1
    repeat' split
    all_goals omega
  simp only [decide_eq_false_iff_not] at h'
  have d3 : IntKind.i64.wrap (left - e.room.size - e.user.size - e.nick.size) = left - e.room.size - e.user.size - e.nick.size := wrap_i64 (by omega) (by omega)
  simp only [go_sem, cond, Nat.reduceAdd, Nat.reduceLeDiff, Nat.reduceEqDiff, Nat.reduceBEq, decide_true, decide_false, Int.toNat_natCast, d1, d2, d3]
  refine Br_intro ?_ ?_ <;> intro h'' <;> simp only [go_sem, cond, Nat.reduceAdd, Nat.reduceLeDiff, Nat.reduceEqDiff, Nat.reduceBEq, decide_true, decide_false, Int.toNat_natCast, h'', r, d1, d2, d3]
  · refine ⟨congrArg (Value.int .i64) ?_, _, rfl⟩
    simp only [decide_eq_true_eq] at h''
    unfold szE sub1
    repeat' split
    all_goals omega
  simp only [decide_eq_false_iff_not] at h''
  have d4 : IntKind.i64.wrap (left - e.room.size - e.user.size - e.nick.size - e.text.size) = left - e.room.size - e.user.size - e.nick.size - e.text.size := wrap_i64 (by omega) (by omega)
  simp only [go_sem, cond, Nat.reduceAdd, Nat.reduceLeDiff, Nat.reduceEqDiff, Nat.reduceBEq, decide_true, decide_false, Int.toNat_natCast, d1, d2, d3, d4]
  refine Br_intro ?_ ?_ <;> intro h3 <;> simp only [go_sem, cond, Nat.reduceAdd, Nat.reduceLeDiff, Nat.reduceEqDiff, Nat.reduceBEq, decide_true, decide_false, Int.toNat_natCast, h3, r, d1, d2, d3, d4]
  · refine ⟨congrArg (Value.int .i64) ?_, _, rfl⟩
    simp only [decide_eq_true_eq] at h3
    unfold szE sub1
    repeat' split
    all_goals omega
  simp only [decide_eq_false_iff_not] at h3
  have d5 : IntKind.i64.wrap (left - e.room.size - e.user.size - e.nick.size - e.text.size - e.id.size) = left - e.room.size - e.user.size - e.nick.size - e.text.size - e.id.size := wrap_i64 (by omega) (by omega)
  simp only [go_sem, cond, Nat.reduceAdd, Nat.reduceLeDiff, Nat.reduceEqDiff, Nat.reduceBEq, decide_true, decide_false, Int.toNat_natCast, d1, d2, d3, d4, d5]
  refine Br_intro ?_ ?_ <;> intro h4 <;> simp only [go_sem, cond, Nat.reduceAdd, Nat.reduceLeDiff, Nat.reduceEqDiff, Nat.reduceBEq, decide_true, decide_false, Int.toNat_natCast, h4, r, d1, d2, d3, d4, d5]
  · refine ⟨congrArg (Value.int .i64) ?_, _, rfl⟩
    simp only [decide_eq_true_eq] at h4
    unfold szE sub1
    repeat' split
    all_goals omega
  simp only [decide_eq_false_iff_not] at h4
  have d6 : IntKind.i64.wrap (left - e.room.size - e.user.size - e.nick.size - e.text.size - e.id.size - e.ref.size) = left - e.room.size - e.user.size - e.nick.size - e.text.size - e.id.size - e.ref.size := wrap_i64 (by omega) (by omega)
  simp only [go_sem, cond, Nat.reduceAdd, Nat.reduceLeDiff, Nat.reduceEqDiff, Nat.reduceBEq, decide_true, decide_false, Int.toNat_natCast, d1, d2, d3, d4, d5, d6]
  refine Br_intro ?_ ?_ <;> intro h5 <;> simp only [go_sem, cond, Nat.reduceAdd, Nat.reduceLeDiff, Nat.reduceEqDiff, Nat.reduceBEq, decide_true, decide_false, Int.toNat_natCast, h5, r, d1, d2, d3, d4, d5, d6]
  all_goals refine ⟨congrArg (Value.int .i64) ?_, _, rfl⟩
  all_goals simp only [decide_eq_true_eq, decide_eq_false_iff_not] at h5
  all_goals unfold szE sub1
  all_goals repeat' split
  all_goals omega
def szMs (l : List Mem) (left : Int) : Int := l.foldl (fun a m => szM m a) left
def szKs (l : List Rk) (left : Int) : Int := l.foldl (fun a m => szK m a) left
theorem sub1_neg (n : Nat) : sub1 (-1) n = -1 := by unfold sub1; rw [if_pos (by omega)]
theorem szM_neg (m : Mem) : szM m (-1) = -1 := by unfold szM; rw [sub1_neg, sub1_neg]
theorem szK_neg (m : Rk) : szK m (-1) = -1 := by unfold szK; rw [sub1_neg]
theorem szMs_neg : ∀ l, szMs l (-1) = -1
  | [] => rfl
  | m :: r => by
    have := szMs_neg r
    unfold szMs at this ⊢
    rw [List.foldl_cons, szM_neg]; exact this
theorem szKs_neg : ∀ l, szKs l (-1) = -1
  | [] => rfl
  | m :: r => by
    have := szKs_neg r
    unfold szKs at this ⊢
    rw [List.foldl_cons, szK_neg]; exact this
theorem sub1_lt {left : Int} {n : Nat} (h1 : -1 ≤ left) (h2 : left ≤ 1048576) (h : sub1 left n < 0) : sub1 left n = -1 := by unfold sub1 at *; split <;> omega
theorem szM_le {m : Mem} {left : Int} (h1 : -1 ≤ left) (h2 : left ≤ 1048576) : -1 ≤ szM m left ∧ szM m left ≤ 1048576 := by
  unfold szM
  have := sub1_le (n := m.user.size) h1 h2
  exact sub1_le this.1 this.2
theorem szK_le {m : Rk} {left : Int} (h1 : -1 ≤ left) (h2 : left ≤ 1048576) : -1 ≤ szK m left ∧ szK m left ≤ 1048576 := sub1_le h1 h2
theorem szMs_drop (l : List Mem) (a : Int) (i : Nat) (hi : i < l.length) : szMs (l.drop i) a = szMs (l.drop (i + 1)) (szM l[i] a) := by
  rw [List.drop_eq_getElem_cons hi]; rfl
theorem szKs_drop (l : List Rk) (a : Int) (i : Nat) (hi : i < l.length) : szKs (l.drop i) a = szKs (l.drop (i + 1)) (szK l[i] a) := by
  rw [List.drop_eq_getElem_cons hi]; rfl
theorem szMemberS_ok (A : Option Addr) (c : Nat) (l : List Mem) (left : Int) (hA : Sl w0 H A 3 (l.map Mem.enc)) (h1 : -1 ≤ left) (h2 : left ≤ 1048576) (hl : l.length ≤ 9223372036854775807) (hu : ∀ (i : Nat) (h : i < l.length), l[i].user.size ≤ 9223372036854775807) (hn : ∀ (i : Nat) (h : i < l.length), l[i].nick.size ≤ 9223372036854775807) : AFn Tryd.prog w0 43 #[.slice A l.length c, .int .i64 left] H fun v H2 => v = .int .i64 (szMs l (sub1 left l.length)) ∧ H2 = H := by
  have d0 : IntKind.i64.wrap (left - l.length) = left - l.length := wrap_i64 (by omega) (by omega)
  refine AFn.scal rfl Tryd.func43 rfl (by kernel_rfl) ?_
  have r := Tryd.results43
  simp only [go_sem, cond, Nat.reduceAdd, Nat.reduceLeDiff, Nat.reduceEqDiff, Nat.reduceBEq, decide_true, decide_false, Int.toNat_natCast, r]
  simp only [go_sem, cond, Nat.reduceAdd, Nat.reduceLeDiff, Nat.reduceEqDiff, Nat.reduceBEq, decide_true, decide_false, Int.toNat_natCast, d0, r]
  by_cases hneg : left - l.length < 0
  · have d1 : (left - (l.length : Int) < 0) = True := eq_true hneg
    simp only [go_sem, cond, Nat.reduceAdd, Nat.reduceLeDiff, Nat.reduceEqDiff, Nat.reduceBEq, decide_true, decide_false, Int.toNat_natCast, d0, d1, r]
    exact ⟨by unfold sub1; rw [if_pos hneg, szMs_neg], _, rfl⟩
  have d1 : (left - (l.length : Int) < 0) = False := eq_false hneg
  simp only [go_sem, cond, Nat.reduceAdd, Nat.reduceLeDiff, Nat.reduceEqDiff, Nat.reduceBEq, decide_true, decide_false, Int.toNat_natCast, d0, d1, r]
  refine xw_loop (fun (i : Nat) T H' => i ≤ l.length ∧ (∃ a : Int, 0 ≤ a ∧ a ≤ 1048576 ∧ T 1 = .int .i64 a ∧ szMs (l.drop i) a = szMs l (sub1 left l.length)) ∧ T 0 = .slice A l.length c ∧ T 5 = .int .i64 i ∧ H' = Hx H []) (fun i => l.length - i) 0 (by kernel_rfl) ⟨Nat.zero_le _, ⟨left - l.length, by omega, by omega, rfl, by unfold sub1; rw [if_neg hneg]; rfl⟩, rfl, rfl, rfl⟩ ?_
  rintro i T H' ⟨hi, ⟨a, ha1, ha2, t1, he⟩, t0, t5, rfl⟩
  by_cases hlt : i < l.length
  · obtain ⟨b, o, sp, rfl, _, hc⟩ := mcell hA hlt
    have c0 := fun L => hc L rfl
    have e1 : ((i : Int) < (l.length : Int)) = True := eq_true (by omega)
    have e2 : (0 ≤ (i : Int)) = True := eq_true (by omega)
    rw [szMs_drop _ _ i hlt] at he
    simp only [Mem.enc] at c0
    simp only [go_sem, cond, Nat.reduceAdd, Nat.reduceLeDiff, Nat.reduceEqDiff, Nat.reduceBEq, decide_true, decide_false, Int.toNat_natCast, t0, t1, t5, e1, e2, c0]
    refine call_eq (szMember_ok _ _ l[i] a (by omega) ha2 (hu i hlt) (hn i hlt)) ?_
    simp only [go_sem, cond, Nat.reduceAdd, Nat.reduceLeDiff, Nat.reduceEqDiff, Nat.reduceBEq, decide_true, decide_false, Int.toNat_natCast, t0, t1, t5, e1, e2, c0]
    have hb := szM_le (m := l[i]) (by omega : -1 ≤ a) ha2
    refine Br_intro ?_ ?_ <;> intro h <;> simp only [go_sem, cond, Nat.reduceAdd, Nat.reduceLeDiff, Nat.reduceEqDiff, Nat.reduceBEq, decide_true, decide_false, Int.toNat_natCast, t0, t1, t5, h, r]
    · have h := of_decide_eq_true h
      rw [show szM l[i] a = -1 by omega, szMs_neg] at he
      exact ⟨by rw [← he], _, rfl⟩
    · have h := of_decide_eq_false h
      exact ⟨i + 1, ⟨hlt, ⟨_, by omega, hb.2, rfl, he⟩, t0, int_succ hlt (by omega), rfl⟩, lt_meas hlt⟩
  · obtain rfl : i = l.length := by omega
    have e1 : ((l.length : Int) < (l.length : Int)) = False := eq_false (by omega)
    rw [List.drop_length] at he
    simp only [go_sem, cond, Nat.reduceAdd, Nat.reduceLeDiff, Nat.reduceEqDiff, Nat.reduceBEq, decide_true, decide_false, Int.toNat_natCast, t0, t1, t5, e1, r]
    exact ⟨by rw [← he]; rfl, _, rfl⟩
end Go.Proofs.YtmacpgoclhgafaaDoorW.FA
namespace Go.Proofs.YtmacpgoclhgafaaDoorW.FA
open Go.RowKit Go.Proofs.YtmacpgoclhgafaaDoorW.XM Go.Proofs Go.Proofs.YtmacpgoclhgafaaDoorW.XWords
set_option maxRecDepth 100000
set_option linter.unusedSimpArgs false
variable (w0 : World) (H : Hp)
theorem szRankS_ok (A : Option Addr) (c : Nat) (l : List Rk) (left : Int) (hA : Sl w0 H A 2 (l.map Rk.enc)) (h1 : -1 ≤ left) (h2 : left ≤ 1048576) (hl : l.length ≤ 9223372036854775807) (hu : ∀ (i : Nat) (h : i < l.length), l[i].user.size ≤ 9223372036854775807) : AFn Tryd.prog w0 44 #[.slice A l.length c, .int .i64 left] H fun v H2 => v = .int .i64 (szKs l (sub1 left l.length)) ∧ H2 = H := by
  have d0 : IntKind.i64.wrap (left - l.length) = left - l.length := wrap_i64 (by omega) (by omega)
  refine AFn.scal rfl Tryd.func44 rfl (by kernel_rfl) ?_
  have r := Tryd.results44
  simp only [go_sem, cond, Nat.reduceAdd, Nat.reduceLeDiff, Nat.reduceEqDiff, Nat.reduceBEq, decide_true, decide_false, Int.toNat_natCast, r]
  simp only [go_sem, cond, Nat.reduceAdd, Nat.reduceLeDiff, Nat.reduceEqDiff, Nat.reduceBEq, decide_true, decide_false, Int.toNat_natCast, d0, r]
  by_cases hneg : left - l.length < 0
  · have d1 : (left - (l.length : Int) < 0) = True := eq_true hneg
    simp only [go_sem, cond, Nat.reduceAdd, Nat.reduceLeDiff, Nat.reduceEqDiff, Nat.reduceBEq, decide_true, decide_false, Int.toNat_natCast, d0, d1, r]
    exact ⟨by unfold sub1; rw [if_pos hneg, szKs_neg], _, rfl⟩
  have d1 : (left - (l.length : Int) < 0) = False := eq_false hneg
  simp only [go_sem, cond, Nat.reduceAdd, Nat.reduceLeDiff, Nat.reduceEqDiff, Nat.reduceBEq, decide_true, decide_false, Int.toNat_natCast, d0, d1, r]
  refine xw_loop (fun (i : Nat) T H' => i ≤ l.length ∧ (∃ a : Int, 0 ≤ a ∧ a ≤ 1048576 ∧ T 1 = .int .i64 a ∧ szKs (l.drop i) a = szKs l (sub1 left l.length)) ∧ T 0 = .slice A l.length c ∧ T 5 = .int .i64 i ∧ H' = Hx H []) (fun i => l.length - i) 0 (by kernel_rfl) ⟨Nat.zero_le _, ⟨left - l.length, by omega, by omega, rfl, by unfold sub1; rw [if_neg hneg]; rfl⟩, rfl, rfl, rfl⟩ ?_
  rintro i T H' ⟨hi, ⟨a, ha1, ha2, t1, he⟩, t0, t5, rfl⟩
  by_cases hlt : i < l.length
  · obtain ⟨b, o, sp, rfl, _, hc⟩ := mcell hA hlt
    have c0 := fun L => hc L rfl
    have e1 : ((i : Int) < (l.length : Int)) = True := eq_true (by omega)
    have e2 : (0 ≤ (i : Int)) = True := eq_true (by omega)
    rw [szKs_drop _ _ i hlt] at he
    simp only [Rk.enc] at c0
    simp only [go_sem, cond, Nat.reduceAdd, Nat.reduceLeDiff, Nat.reduceEqDiff, Nat.reduceBEq, decide_true, decide_false, Int.toNat_natCast, t0, t1, t5, e1, e2, c0]
    refine call_eq (szRank_ok _ _ l[i] a (by omega) ha2 (hu i hlt)) ?_
    simp only [go_sem, cond, Nat.reduceAdd, Nat.reduceLeDiff, Nat.reduceEqDiff, Nat.reduceBEq, decide_true, decide_false, Int.toNat_natCast, t0, t1, t5, e1, e2, c0]
    have hb := szK_le (m := l[i]) (by omega : -1 ≤ a) ha2
    refine Br_intro ?_ ?_ <;> intro h <;> simp only [go_sem, cond, Nat.reduceAdd, Nat.reduceLeDiff, Nat.reduceEqDiff, Nat.reduceBEq, decide_true, decide_false, Int.toNat_natCast, t0, t1, t5, h, r]
    · have h := of_decide_eq_true h
      rw [show szK l[i] a = -1 by omega, szKs_neg] at he
      exact ⟨by rw [← he], _, rfl⟩
    · have h := of_decide_eq_false h
      exact ⟨i + 1, ⟨hlt, ⟨_, by omega, hb.2, rfl, he⟩, t0, int_succ hlt (by omega), rfl⟩, lt_meas hlt⟩
  · obtain rfl : i = l.length := by omega
    have e1 : ((l.length : Int) < (l.length : Int)) = False := eq_false (by omega)
    rw [List.drop_length] at he
    simp only [go_sem, cond, Nat.reduceAdd, Nat.reduceLeDiff, Nat.reduceEqDiff, Nat.reduceBEq, decide_true, decide_false, Int.toNat_natCast, t0, t1, t5, e1, r]
    exact ⟨by rw [← he]; rfl, _, rfl⟩
theorem szMs_le : ∀ (l : List Mem) {left : Int}, -1 ≤ left → left ≤ 1048576 → -1 ≤ szMs l left ∧ szMs l left ≤ 1048576
  | [], _, h1, h2 => ⟨h1, h2⟩
  | m :: r, left, h1, h2 => by
    have := szM_le (m := m) h1 h2
    exact szMs_le r this.1 this.2
theorem szKs_le : ∀ (l : List Rk) {left : Int}, -1 ≤ left → left ≤ 1048576 → -1 ≤ szKs l left ∧ szKs l left ≤ 1048576
  | [], _, h1, h2 => ⟨h1, h2⟩
  | m :: r, left, h1, h2 => by
    have := szK_le (m := m) h1 h2
    exact szKs_le r this.1 this.2
def szR (R : Rm) (left : Int) : Int := sub1 (szKs R.ks (sub1 (szMs R.ms (sub1 (sub1 left R.name.size) R.ms.length)) R.ks.length)) R.subj.size
structure Wf (R : Rm) : Prop where
  nm : R.name.size ≤ 9223372036854775807
  sj : R.subj.size ≤ 9223372036854775807
  us : ∀ (i : Nat) (h : i < R.ms.length), R.ms[i].user.size ≤ 9223372036854775807
  ni : ∀ (i : Nat) (h : i < R.ms.length), R.ms[i].nick.size ≤ 9223372036854775807
  ku : ∀ (i : Nat) (h : i < R.ks.length), R.ks[i].user.size ≤ 9223372036854775807
  lm : R.ms.length ≤ 9223372036854775807
  lk : R.ks.length ≤ 9223372036854775807
theorem szRoom_ok (R : Rm) (x : Ad) (left : Int) (hm : Sl w0 H x.a 3 (R.ms.map Mem.enc)) (hk : Sl w0 H x.b 2 (R.ks.map Rk.enc)) (hw : Wf R) (h1 : 0 ≤ left) (h2 : left ≤ 1048576) : AFn Tryd.prog w0 9 #[.agg (R.enc x).toArray, .int .i64 left] H fun v H2 => v = .int .i64 (szR R left) ∧ H2 = H := by
  have hn := hw.nm
  have hj := hw.sj
  have d1 : IntKind.i64.wrap (left - R.name.size) = left - R.name.size := wrap_i64 (by omega) (by omega)
  have e1 : ∀ c : Bool, decide (left - (R.name.size : Int) < 0) = c → sub1 left R.name.size = if c = true then -1 else left - R.name.size := by
    rintro c rfl; unfold sub1; simp only [decide_eq_true_eq]
  refine AFn.scal rfl Tryd.func9 rfl (by kernel_rfl) ?_
  have r := Tryd.results9
  simp only [go_sem, cond, Nat.reduceAdd, Nat.reduceLeDiff, Nat.reduceEqDiff, Nat.reduceBEq, decide_true, decide_false, Int.toNat_natCast, r]
  simp only [go_sem, cond, Nat.reduceAdd, Nat.reduceLeDiff, Nat.reduceEqDiff, Nat.reduceBEq, decide_true, decide_false, Int.toNat_natCast, Rm.enc, r, d1]
  refine Br_intro ?_ ?_ <;> intro h <;> simp only [go_sem, cond, Nat.reduceAdd, Nat.reduceLeDiff, Nat.reduceEqDiff, Nat.reduceBEq, decide_true, decide_false, Int.toNat_natCast, h, r, d1]
  · exact ⟨by rw [szR, e1 _ h, if_pos rfl, sub1_neg, szMs_neg, sub1_neg, szKs_neg, sub1_neg], _, rfl⟩
  have g1 := e1 _ h
  rw [if_neg (by decide)] at g1
  have h := of_decide_eq_false h
  refine call_eq (szMemberS_ok _ _ x.a x.c R.ms _ (hm.old _) (by omega) (by omega) hw.lm hw.us hw.ni) ?_
  have b1 := sub1_le (n := R.ms.length) (show -1 ≤ left - (R.name.size : Int) by omega) (by omega)
  have b2 := szMs_le R.ms b1.1 b1.2
  obtain ⟨z, hz⟩ : ∃ z, z = szMs R.ms (sub1 (left - R.name.size) R.ms.length) := ⟨_, rfl⟩
  rw [← hz] at b2 ⊢
  simp only [go_sem, cond, Nat.reduceAdd, Nat.reduceLeDiff, Nat.reduceEqDiff, Nat.reduceBEq, decide_true, decide_false, Int.toNat_natCast, r, d1]
  refine Br_intro ?_ ?_ <;> intro h3 <;> simp only [go_sem, cond, Nat.reduceAdd, Nat.reduceLeDiff, Nat.reduceEqDiff, Nat.reduceBEq, decide_true, decide_false, Int.toNat_natCast, h3, r, d1]
  · have h3 := of_decide_eq_true h3
    exact ⟨by rw [szR, g1, ← hz, show z = -1 by omega, sub1_neg, szKs_neg, sub1_neg], _, rfl⟩
  have h3 := of_decide_eq_false h3
  refine call_eq (szRankS_ok _ _ x.b x.d R.ks _ (hk.old _) (by omega) (by omega) hw.lk hw.ku) ?_
  have b3 := sub1_le (n := R.ks.length) b2.1 b2.2
  have b4 := szKs_le R.ks b3.1 b3.2
  obtain ⟨y, hy⟩ : ∃ y, y = szKs R.ks (sub1 z R.ks.length) := ⟨_, rfl⟩
  rw [← hy] at b4 ⊢
  have d2 : IntKind.i64.wrap (y - R.subj.size) = y - R.subj.size := wrap_i64 (by omega) (by omega)
  simp only [go_sem, cond, Nat.reduceAdd, Nat.reduceLeDiff, Nat.reduceEqDiff, Nat.reduceBEq, decide_true, decide_false, Int.toNat_natCast, r, d1, d2]
  refine Br_intro ?_ ?_ <;> intro h4 <;> simp only [go_sem, cond, Nat.reduceAdd, Nat.reduceLeDiff, Nat.reduceEqDiff, Nat.reduceBEq, decide_true, decide_false, Int.toNat_natCast, h4, r, d1, d2]
  · have h4 := of_decide_eq_true h4
    exact ⟨by rw [szR, g1, ← hz, ← hy, show y = -1 by omega, sub1_neg], _, rfl⟩
  have h4 := of_decide_eq_false h4
  refine Br_intro ?_ ?_ <;> intro h5 <;> simp only [go_sem, cond, Nat.reduceAdd, Nat.reduceLeDiff, Nat.reduceEqDiff, Nat.reduceBEq, decide_true, decide_false, Int.toNat_natCast, h5, r, d1, d2]
  · have h5 := of_decide_eq_true h5
    exact ⟨by rw [szR, g1, ← hz, ← hy]; unfold sub1; rw [if_pos h5], _, rfl⟩
  have h5 := of_decide_eq_false h5
  exact ⟨by rw [szR, g1, ← hz, ← hy]; unfold sub1; rw [if_neg h5], _, rfl⟩
end Go.Proofs.YtmacpgoclhgafaaDoorW.FA
namespace Go.Proofs.YtmacpgoclhgafaaDoorW.FA
open Go.RowKit Go.Proofs.YtmacpgoclhgafaaDoorW.XM Go.Proofs Go.Proofs.YtmacpgoclhgafaaDoorW.XWords
set_option maxRecDepth 100000
set_option linter.unusedSimpArgs false
variable (w0 : World) (H : Hp)
theorem cvV_str {P : Program} {s d : TypeId} (h1 : isBy P s = true) (h2 : isStr P d = true) {a : Addr} {n c : Nat} {H : Hp} {cs : List Value} {l : List UInt8} (hr : rd w0 H a n = some cs) (hl : strV cs = some l) {K : Value → Hp → Prop} {k : Lk K} (h : K (.string ⟨l.toArray⟩) H) : cvV P w0 s d (.slice (some a) n c) H k :=
  ⟨h1, h2, cs, l, hr, hl, h⟩
def digB (n : Nat) : ByteArray := ⟨#[UInt8.ofNat (48 + n % 10)]⟩
def mtF : Nat → Nat → ByteArray → ByteArray
  | 0, _, out => out
  | f + 1, n, out => if n = 0 then out else mtF f (n / 10) (digB n ++ out)
def mt (n : Nat) : ByteArray := if n = 0 then ⟨#[109, 48]⟩ else ⟨#[109]⟩ ++ mtF 18 n em
theorem markText_ok (n : Nat) (hn : n < 100000000000000000) : AFn Tryd.prog w0 94 #[.int .i64 n] H fun v H2 => v = .string (mt n) ∧ H2 = H := by
  refine AFn.scal rfl Tryd.func94 rfl (by kernel_rfl) ?_
  have r := Tryd.results94
  simp only [go_sem, cond, Nat.reduceAdd, Nat.reduceLeDiff, Nat.reduceEqDiff, Nat.reduceBEq, decide_true, decide_false, Int.toNat_natCast, r]
  by_cases h0 : n = 0
  · subst h0
    have d1 : (((0 : Nat) : Int) ≤ 0) = True := eq_true (by omega)
    simp only [go_sem, cond, Nat.reduceAdd, Nat.reduceLeDiff, Nat.reduceEqDiff, Nat.reduceBEq, decide_true, decide_false, Int.toNat_natCast, d1, r]
    exact ⟨rfl, _, rfl⟩
  have d1 : ((n : Int) ≤ 0) = False := eq_false (by omega)
  simp only [go_sem, cond, Nat.reduceAdd, Nat.reduceLeDiff, Nat.reduceEqDiff, Nat.reduceBEq, decide_true, decide_false, Int.toNat_natCast, d1, r]
  refine xw_loop (fun (m : Nat) T H' => (∃ f out, m < 10 ^ f ∧ out.size + f ≤ 18 ∧ T 3 = .string out ∧ mtF f m out = mtF 18 n em) ∧ m < 100000000000000000 ∧ T 0 = .int .i64 m ∧ ∃ l, H' = Hx H l) (fun m => m) n (by kernel_rfl) ⟨⟨18, em, by omega, by decide, rfl, rfl⟩, hn, rfl, _, rfl⟩ ?_
  rintro m T H' ⟨⟨f, out, hf, ho, t3, he⟩, hm, t0, l, rfl⟩
  rw [← Hx_nil (Hx H l)]
  obtain ⟨B, hB⟩ : ∃ B, B = Hx H l := ⟨_, rfl⟩
  rw [← hB]
  by_cases hz : m = 0
  · subst hz
    have d2 : ((0 : Int) < ((0 : Nat) : Int)) = False := eq_false (by omega)
    have e1 : mtF f 0 out = out := by cases f <;> simp [mtF]
    have d3 : ((#[109] : Array UInt8).size + out.size ≤ 4611686018427387904) = True := eq_true (by show 1 + out.size ≤ _; omega)
    rw [e1] at he
    simp only [go_sem, cond, Nat.reduceAdd, Nat.reduceLeDiff, Nat.reduceEqDiff, Nat.reduceBEq, decide_true, decide_false, Int.toNat_natCast, t0, t3, gt_iff_lt, d2, d3, reduceIte, r]
    exact ⟨by rw [mt, if_neg h0, ← he], _, by rw [hB, Hx_Hx]⟩
  · have d2 : ((0 : Int) < (m : Int)) = True := eq_true (by omega)
    have q1 : (10 : Int) ≠ 0 := by decide
    have e1 : (m : Int).tmod 10 = ((m % 10 : Nat) : Int) := by rw [Int.tmod_eq_emod_of_nonneg (by omega)]; omega
    have e2 : IntKind.i64.wrap (48 + ((m % 10 : Nat) : Int)) = ((48 + m % 10 : Nat) : Int) := by rw [wrap_i64 (by omega) (by omega)]; omega
    have e3 : IntKind.u8.wrap ((48 + m % 10 : Nat) : Int) = ((48 + m % 10 : Nat) : Int) := wrap_u8 (by omega) (by omega)
    simp only [go_sem, cond, Nat.reduceAdd, Nat.reduceLeDiff, Nat.reduceEqDiff, Nat.reduceBEq, decide_true, decide_false, Int.toNat_natCast, t0, t3, gt_iff_lt, d2, bin_rem, q1, ne_eq, not_false_eq_true, e1, e2, e3, r]
    refine Req_intro ⟨_, rfl, rfl⟩ ?_
    simp only [go_sem, cond, Nat.reduceAdd, Nat.reduceLeDiff, Nat.reduceEqDiff, Nat.reduceBEq, decide_true, decide_false, Int.toNat_natCast, t0, t3, r]
    refine cvV_str _ XF.isBy_42 XF.isStr_9 (cs := [.int .u8 ((48 + m % 10 : Nat) : Int)]) (l := [UInt8.ofNat (48 + m % 10)]) (by rw [rd_own]; rfl) (by show some [UInt8.ofNat (((48 + m % 10 : Nat) : Int)).toNat] = _; rw [Int.toNat_natCast]) ?_
    obtain ⟨g, rfl⟩ : ∃ g, f = g + 1 := ⟨f - 1, by cases f with | zero => omega | succ g => rfl⟩
    rw [mtF, if_neg hz] at he
    have d3 : ((#[UInt8.ofNat (48 + m % 10)] : Array UInt8).size + out.size ≤ 4611686018427387904) = True := eq_true (by show 1 + out.size ≤ _; omega)
    simp only [go_sem, cond, Nat.reduceAdd, Nat.reduceLeDiff, Nat.reduceEqDiff, Nat.reduceBEq, decide_true, decide_false, Int.toNat_natCast, t0, t3, d3, reduceIte, r]
    have e4 : IntKind.i64.wrap ((m : Int).tdiv 10) = ((m / 10 : Nat) : Int) := by rw [Int.tdiv_eq_ediv_of_nonneg (by omega), wrap_i64 (by omega) (by omega)]; omega
    simp only [go_sem, cond, Nat.reduceAdd, Nat.reduceLeDiff, Nat.reduceEqDiff, Nat.reduceBEq, decide_true, decide_false, Int.toNat_natCast, t0, t3, bin_quo, q1, ne_eq, not_false_eq_true, e4, r]
    refine ⟨m / 10, ⟨⟨g, digB m ++ out, by rw [Nat.pow_succ] at hf; omega, ?_, rfl, he⟩, by omega, rfl, _, by rw [hB, Hx_Hx]⟩, (by show m / 10 < m; omega)⟩
    rw [ByteArray.size_append]
    show 1 + out.size + g ≤ 18
    omega
end Go.Proofs.YtmacpgoclhgafaaDoorW.FA
namespace Go.Proofs.YtmacpgoclhgafaaDoorW.FA
open Go.RowKit Go.Proofs.YtmacpgoclhgafaaDoorW.XM Go.Proofs Go.Proofs.YtmacpgoclhgafaaDoorW.XWords
set_option maxRecDepth 100000
set_option linter.unusedSimpArgs false
variable (w0 : World) (H : Hp)
def mkM (k : Nat) (j : Nat) : Mem := ⟨mt (k + 3 * j), mt (k + 3 * j + 1), ((k + 3 * j + 2 : Nat) : Int)⟩
def mkMs (n k : Nat) : List Mem := (List.range n).map (mkM k)
theorem flat_set {α : Type} {enc : α → List Value} {n : Nat} (he : ∀ a, (enc a).length = n) (l : List α) (i : Nat) (a : α) (hi : i < l.length) : putL (flat enc l) (i * n) (enc a) = flat enc (l.set i a) := by
  have e : l = l.take i ++ l[i] :: l.drop (i + 1) := by simp
  have h1 : (flat enc (l.take i)).length = i * n := by rw [flat_len he, List.length_take, Nat.min_eq_left (by omega)]
  have e2 : flat enc l = flat enc (l.take i) ++ (enc l[i] ++ flat enc (l.drop (i + 1))) := by
    have : flat enc l = flat enc (l.take i ++ (l[i] :: l.drop (i + 1))) := congrArg _ e
    rw [this, flat_app]
    rfl
  rw [e2, ← h1, putL_mid _ _ _ (by rw [he, List.length_append, he]; omega), he, ← he l[i], List.drop_left, List.set_eq_take_append_cons_drop, if_pos hi, flat_app, List.append_assoc]
  rfl
def mid (ms : List Mem) (k i : Nat) : List Mem := mkMs i k ++ ms.drop i
theorem mid_len (ms : List Mem) (k i : Nat) (hi : i ≤ ms.length) : (mid ms k i).length = ms.length := by simp [mid, mkMs]; omega
theorem mid_succ (ms : List Mem) (k i : Nat) (hi : i < ms.length) : (mid ms k i).set i (mkM k i) = mid ms k (i + 1) := by
  unfold mid mkMs
  rw [List.set_append_right _ _ (by simp), List.drop_eq_getElem_cons hi, List.range_succ, List.map_append]
  rw [show i - (List.map (mkM k) (List.range i)).length = 0 by simp, List.set_cons_zero]
  simp
theorem markMemberS_ok (B : Hp) (l : List (Option Ob)) (j : Nat) (ms : List Mem) (c k : Nat) (hl : l[j]? = some (some (.row 60 (flat Mem.enc ms)))) (hn : ms.length ≤ 1048576) (hk : k ≤ 1000000000) : AFn Tryd.prog w0 55 #[.slice (some ⟨nid B j, 0, some (ms.length * 3)⟩) ms.length c, .int .i64 k] (Hx B l) fun v H2 => v = .int .i64 ((k + 3 * ms.length : Nat) : Int) ∧ H2 = Hx B (l.set j (some (.row 60 (flat Mem.enc (mkMs ms.length k))))) := by
  have hj : j < l.length := lt_of_get hl
  refine AFn_of Tryd.func55 rfl (by kernel_rfl) ?_
  have r := Tryd.results55
  simp only [go_sem, cond, Nat.reduceAdd, Nat.reduceLeDiff, Nat.reduceEqDiff, Nat.reduceBEq, decide_true, decide_false, Int.toNat_natCast, r]
  refine xw_loop (fun (i : Nat) T H' => i ≤ ms.length ∧ T 0 = .slice (some ⟨nid B j, 0, some (ms.length * 3)⟩) ms.length c ∧ T 1 = .int .i64 ((k + 3 * i : Nat) : Int) ∧ T 5 = .int .i64 i ∧ H' = Hx B (l.set j (some (.row 60 (flat Mem.enc (mid ms k i)))))) (fun i => ms.length - i) 0 (by kernel_rfl) ⟨Nat.zero_le _, rfl, rfl, rfl, by
    have : mid ms k 0 = ms := by simp [mid, mkMs]
    rw [this]; congr 1; apply List.ext_getElem?; intro q; rw [List.getElem?_set]; split; (rename_i e; subst e; first | exact hl | rw [if_pos hj, hl]); rfl⟩ ?_
  rintro i T H' ⟨hi, t0, t1, t5, rfl⟩
  have gs : ∀ X : Option Ob, (l.set j X)[j]? = some X := fun X => by rw [List.getElem?_set_self hj]
  by_cases hlt : i < ms.length
  · have d1 : ((i : Int) < (ms.length : Int)) = True := eq_true (by omega)
    have d2 : (0 ≤ (i : Int)) = True := eq_true (by omega)
    have hlen := flat_len mlen (mid ms k i)
    rw [mid_len ms k i hi] at hlen
    simp only [go_sem, cond, Nat.reduceAdd, Nat.reduceLeDiff, Nat.reduceEqDiff, Nat.reduceBEq, decide_true, decide_false, Int.toNat_natCast, t0, t1, t5, d1, d2, gs, List.set_set]
    refine call_eq (markText_ok _ _ (k + 3 * i) (by omega)) ?_
    simp only [go_sem, cond, Nat.reduceAdd, Nat.reduceLeDiff, Nat.reduceEqDiff, Nat.reduceBEq, decide_true, decide_false, Int.toNat_natCast, t0, t1, t5, d1, d2, gs, List.set_set, List.length_set, hlen]
    have hle : i * 3 + 3 ≤ ms.length * 3 := by omega
    have w1 : IntKind.i64.wrap (((k + 3 * i : Nat) : Int) + 1) = ((k + 3 * i + 1 : Nat) : Int) := by rw [wrap_i64 (by omega) (by omega)]; omega
    have w2 : IntKind.i64.wrap (((k + 3 * i + 1 : Nat) : Int) + 1) = ((k + 3 * i + 2 : Nat) : Int) := by rw [wrap_i64 (by omega) (by omega)]; omega
    have w3 : IntKind.i64.wrap (((k + 3 * i + 2 : Nat) : Int) + 1) = ((k + 3 * (i + 1) : Nat) : Int) := by rw [wrap_i64 (by omega) (by omega)]; omega
    refine Req_intro (by omega) ?_
    simp only [go_sem, cond, Nat.reduceAdd, Nat.reduceLeDiff, Nat.reduceEqDiff, Nat.reduceBEq, decide_true, decide_false, Int.toNat_natCast, t0, t1, t5, d1, d2, gs, List.set_set, List.length_set, hlen, w1, w2, w3, r]
    refine call_eq (markText_ok _ _ (k + 3 * i + 1) (by omega)) ?_
    simp only [go_sem, cond, Nat.reduceAdd, Nat.reduceLeDiff, Nat.reduceEqDiff, Nat.reduceBEq, decide_true, decide_false, Int.toNat_natCast, t0, t1, t5, d1, d2, gs, List.set_set, List.length_set, hlen, w1, w2, w3, r]
    refine Req_intro (by omega) ?_
    simp only [go_sem, cond, Nat.reduceAdd, Nat.reduceLeDiff, Nat.reduceEqDiff, Nat.reduceBEq, decide_true, decide_false, Int.toNat_natCast, t0, t1, t5, d1, d2, gs, List.set_set, List.length_set, hlen, w1, w2, w3, r]
    refine Req_intro (by omega) ?_
    simp only [go_sem, cond, Nat.reduceAdd, Nat.reduceLeDiff, Nat.reduceEqDiff, Nat.reduceBEq, decide_true, decide_false, Int.toNat_natCast, t0, t1, t5, d1, d2, gs, List.set_set, List.length_set, hlen, w1, w2, w3, r]
    have p0 : (((flat Mem.enc (mid ms k i)).set (i * 3 + 0) (.string (mt (k + 3 * i)))).set (i * 3 + 1) (.string (mt (k + 3 * i + 1)))).set (i * 3 + 2) (.int .i64 ((k + 3 * i + 2 : Nat) : Int)) = flat Mem.enc (mid ms k (i + 1)) := by
      rw [← mid_succ ms k i hlt]
      exact flat_set mlen (mid ms k i) i (mkM k i) (by rw [mid_len ms k i hi]; exact hlt)
    rw [p0]
    exact ⟨i + 1, ⟨hlt, t0, rfl, int_succ hlt (by omega), rfl⟩, lt_meas hlt⟩
  · obtain rfl : i = ms.length := by omega
    have d1 : ((ms.length : Int) < (ms.length : Int)) = False := eq_false (by omega)
    simp only [go_sem, cond, Nat.reduceAdd, Nat.reduceLeDiff, Nat.reduceEqDiff, Nat.reduceBEq, decide_true, decide_false, Int.toNat_natCast, t0, t1, t5, d1, r]
    rw [mid, List.drop_length, List.append_nil]
end Go.Proofs.YtmacpgoclhgafaaDoorW.FA
namespace Go.Proofs.YtmacpgoclhgafaaDoorW.FA
open Go.RowKit Go.Proofs.YtmacpgoclhgafaaDoorW.XM Go.Proofs Go.Proofs.YtmacpgoclhgafaaDoorW.XWords
set_option maxRecDepth 100000
set_option linter.unusedSimpArgs false
variable (w0 : World) (H : Hp)
def mkK (k : Nat) (j : Nat) : Rk := ⟨mt (k + 2 * j), ((k + 2 * j + 1 : Nat) : Int)⟩
def mkKs (n k : Nat) : List Rk := (List.range n).map (mkK k)
def midK (ms : List Rk) (k i : Nat) : List Rk := mkKs i k ++ ms.drop i
theorem midK_len (ms : List Rk) (k i : Nat) (hi : i ≤ ms.length) : (midK ms k i).length = ms.length := by simp [midK, mkKs]; omega
theorem midK_succ (ms : List Rk) (k i : Nat) (hi : i < ms.length) : (midK ms k i).set i (mkK k i) = midK ms k (i + 1) := by
  unfold midK mkKs
  rw [List.set_append_right _ _ (by simp), List.drop_eq_getElem_cons hi, List.range_succ, List.map_append]
  rw [show i - (List.map (mkK k) (List.range i)).length = 0 by simp, List.set_cons_zero]
  simp
theorem markRankS_ok (B : Hp) (l : List (Option Ob)) (j : Nat) (ms : List Rk) (c k : Nat) (hl : l[j]? = some (some (.row 58 (flat Rk.enc ms)))) (hn : ms.length ≤ 1048576) (hk : k ≤ 1000000000) : AFn Tryd.prog w0 56 #[.slice (some ⟨nid B j, 0, some (ms.length * 2)⟩) ms.length c, .int .i64 k] (Hx B l) fun v H2 => v = .int .i64 ((k + 2 * ms.length : Nat) : Int) ∧ H2 = Hx B (l.set j (some (.row 58 (flat Rk.enc (mkKs ms.length k))))) := by
  have hj : j < l.length := lt_of_get hl
  refine AFn_of Tryd.func56 rfl (by kernel_rfl) ?_
  have r := Tryd.results56
  simp only [go_sem, cond, Nat.reduceAdd, Nat.reduceLeDiff, Nat.reduceEqDiff, Nat.reduceBEq, decide_true, decide_false, Int.toNat_natCast, r]
  refine xw_loop (fun (i : Nat) T H' => i ≤ ms.length ∧ T 0 = .slice (some ⟨nid B j, 0, some (ms.length * 2)⟩) ms.length c ∧ T 1 = .int .i64 ((k + 2 * i : Nat) : Int) ∧ T 5 = .int .i64 i ∧ H' = Hx B (l.set j (some (.row 58 (flat Rk.enc (midK ms k i)))))) (fun i => ms.length - i) 0 (by kernel_rfl) ⟨Nat.zero_le _, rfl, rfl, rfl, by
    have : midK ms k 0 = ms := by simp [midK, mkKs]
    rw [this]; congr 1; apply List.ext_getElem?; intro q; rw [List.getElem?_set]; split; (rename_i e; subst e; first | exact hl | rw [if_pos hj, hl]); rfl⟩ ?_
  rintro i T H' ⟨hi, t0, t1, t5, rfl⟩
  have gs : ∀ X : Option Ob, (l.set j X)[j]? = some X := fun X => by rw [List.getElem?_set_self hj]
  by_cases hlt : i < ms.length
  · have d1 : ((i : Int) < (ms.length : Int)) = True := eq_true (by omega)
    have d2 : (0 ≤ (i : Int)) = True := eq_true (by omega)
    have hlen := flat_len klen (midK ms k i)
    rw [midK_len ms k i hi] at hlen
    simp only [go_sem, cond, Nat.reduceAdd, Nat.reduceLeDiff, Nat.reduceEqDiff, Nat.reduceBEq, decide_true, decide_false, Int.toNat_natCast, t0, t1, t5, d1, d2, gs, List.set_set]
    refine call_eq (markText_ok _ _ (k + 2 * i) (by omega)) ?_
    simp only [go_sem, cond, Nat.reduceAdd, Nat.reduceLeDiff, Nat.reduceEqDiff, Nat.reduceBEq, decide_true, decide_false, Int.toNat_natCast, t0, t1, t5, d1, d2, gs, List.set_set, List.length_set, hlen]
    have hle : i * 2 + 2 ≤ ms.length * 2 := by omega
    have w1 : IntKind.i64.wrap (((k + 2 * i : Nat) : Int) + 1) = ((k + 2 * i + 1 : Nat) : Int) := by rw [wrap_i64 (by omega) (by omega)]; omega
    have w3 : IntKind.i64.wrap (((k + 2 * i + 1 : Nat) : Int) + 1) = ((k + 2 * (i + 1) : Nat) : Int) := by rw [wrap_i64 (by omega) (by omega)]; omega
    refine Req_intro (by omega) ?_
    simp only [go_sem, cond, Nat.reduceAdd, Nat.reduceLeDiff, Nat.reduceEqDiff, Nat.reduceBEq, decide_true, decide_false, Int.toNat_natCast, t0, t1, t5, d1, d2, gs, List.set_set, List.length_set, hlen, w1, w3, r]
    refine Req_intro (by omega) ?_
    simp only [go_sem, cond, Nat.reduceAdd, Nat.reduceLeDiff, Nat.reduceEqDiff, Nat.reduceBEq, decide_true, decide_false, Int.toNat_natCast, t0, t1, t5, d1, d2, gs, List.set_set, List.length_set, hlen, w1, w3, r]
    have p0 : ((flat Rk.enc (midK ms k i)).set (i * 2 + 0) (.string (mt (k + 2 * i)))).set (i * 2 + 1) (.int .i64 ((k + 2 * i + 1 : Nat) : Int)) = flat Rk.enc (midK ms k (i + 1)) := by
      rw [← midK_succ ms k i hlt]
      exact flat_set klen (midK ms k i) i (mkK k i) (by rw [midK_len ms k i hi]; exact hlt)
    rw [p0]
    exact ⟨i + 1, ⟨hlt, t0, rfl, int_succ hlt (by omega), rfl⟩, lt_meas hlt⟩
  · obtain rfl : i = ms.length := by omega
    have d1 : ((ms.length : Int) < (ms.length : Int)) = False := eq_false (by omega)
    simp only [go_sem, cond, Nat.reduceAdd, Nat.reduceLeDiff, Nat.reduceEqDiff, Nat.reduceBEq, decide_true, decide_false, Int.toNat_natCast, t0, t1, t5, d1, r]
    rw [midK, List.drop_length, List.append_nil]
end Go.Proofs.YtmacpgoclhgafaaDoorW.FA
namespace Go.Proofs.YtmacpgoclhgafaaDoorW.FA
open Go.RowKit Go.Proofs.YtmacpgoclhgafaaDoorW.XM Go.Proofs Go.Proofs.YtmacpgoclhgafaaDoorW.XWords
set_option maxRecDepth 100000
set_option linter.unusedSimpArgs false
variable (w0 : World) (H : Hp)
def heldMs : List Mem → Nat → Int
  | [], k => k
  | m :: r, k => if (m.user.toList == (mt k).toList) = true then (if (m.nick.toList == (mt (k + 1)).toList) = true then (if (m.role == ((k + 2 : Nat) : Int)) = true then heldMs r (k + 3) else -1) else -1) else -1
theorem heldMs_drop (l : List Mem) (k i : Nat) (hi : i < l.length) : heldMs (l.drop i) k = if (l[i].user.toList == (mt k).toList) = true then (if (l[i].nick.toList == (mt (k + 1)).toList) = true then (if (l[i].role == ((k + 2 : Nat) : Int)) = true then heldMs (l.drop (i + 1)) (k + 3) else -1) else -1) else -1 := by
  rw [List.drop_eq_getElem_cons hi, heldMs]
theorem heldMemberS_ok (A : Option Addr) (c k : Nat) (l : List Mem) (hA : Sl w0 H A 3 (l.map Mem.enc)) (hl : l.length ≤ 1048576) (hk : k ≤ 1000000000) : AFn Tryd.prog w0 57 #[.slice A l.length c, .int .i64 k] H fun v H2 => v = .int .i64 (heldMs l k) ∧ H2 = H := by
  refine AFn.scal rfl Tryd.func57 rfl (by kernel_rfl) ?_
  have r := Tryd.results57
  simp only [go_sem, cond, Nat.reduceAdd, Nat.reduceLeDiff, Nat.reduceEqDiff, Nat.reduceBEq, decide_true, decide_false, Int.toNat_natCast, r]
  refine xw_loop (fun (i : Nat) T H' => i ≤ l.length ∧ heldMs (l.drop i) (k + 3 * i) = heldMs l k ∧ T 0 = .slice A l.length c ∧ T 1 = .int .i64 ((k + 3 * i : Nat) : Int) ∧ T 5 = .int .i64 i ∧ H' = Hx H []) (fun i => l.length - i) 0 (by kernel_rfl) ⟨Nat.zero_le _, rfl, rfl, rfl, rfl, rfl⟩ ?_
  rintro i T H' ⟨hi, he, t0, t1, t5, rfl⟩
  by_cases hlt : i < l.length
  · obtain ⟨b, o, sp, rfl, hc, _⟩ := mcell hA hlt
    have c0 := fun L => hc 0 (.string l[i].user) L (by decide) rfl
    have c1 := fun L => hc 1 (.string l[i].nick) L (by decide) rfl
    have c2 := fun L => hc 2 (.int .i64 l[i].role) L (by decide) rfl
    have d1 : ((i : Int) < (l.length : Int)) = True := eq_true (by omega)
    have d2 : (0 ≤ (i : Int)) = True := eq_true (by omega)
    have w1 : IntKind.i64.wrap (((k + 3 * i : Nat) : Int) + 1) = ((k + 3 * i + 1 : Nat) : Int) := by rw [wrap_i64 (by omega) (by omega)]; omega
    have w2 : IntKind.i64.wrap (((k + 3 * i + 1 : Nat) : Int) + 1) = ((k + 3 * i + 2 : Nat) : Int) := by rw [wrap_i64 (by omega) (by omega)]; omega
    have w3 : IntKind.i64.wrap (((k + 3 * i + 2 : Nat) : Int) + 1) = ((k + 3 * (i + 1) : Nat) : Int) := by rw [wrap_i64 (by omega) (by omega)]; omega
    rw [heldMs_drop _ _ i hlt] at he
    simp only [go_sem, cond, Nat.reduceAdd, Nat.reduceLeDiff, Nat.reduceEqDiff, Nat.reduceBEq, decide_true, decide_false, Int.toNat_natCast, t0, t1, t5, d1, d2, c0, c1, c2, w1, w2, w3, r]
    (refine xw_open (id := 4) [0, 0, 3, 7, 15, 0, 32, 127] [.q 0, .q 1, .q 2, .q 3, .q 5, .l 4, .e 6, .q 7] rfl (by kernel_rfl) ?_; simp only [go_sem, cond, Nat.reduceAdd, Nat.reduceLeDiff, Nat.reduceEqDiff, Nat.reduceBEq, decide_true, decide_false, Int.toNat_natCast, t0, t1, t5, d1, d2, c0, c1, c2, w1, w2, w3, r])
    refine call_eq (markText_ok _ _ (k + 3 * i) (by omega)) ?_
    simp only [go_sem, cond, Nat.reduceAdd, Nat.reduceLeDiff, Nat.reduceEqDiff, Nat.reduceBEq, decide_true, decide_false, Int.toNat_natCast, t0, t1, t5, d1, d2, c0, c1, c2, w1, w2, w3, r]
    refine Br_intro ?_ ?_ <;> intro h <;> simp only [go_sem, cond, Nat.reduceAdd, Nat.reduceLeDiff, Nat.reduceEqDiff, Nat.reduceBEq, decide_true, decide_false, Int.toNat_natCast, h, t0, t1, t5, d1, d2, c0, c1, c2, w1, w2, w3, r]
    · rw [if_pos h] at he
      (refine xw_open (id := 7) [0, 0, 3, 7, 15, 0, 32, 127] [.q 0, .q 1, .q 2, .q 3, .q 5, .l 4, .e 6, .q 7] rfl (by kernel_rfl) ?_; simp only [go_sem, cond, Nat.reduceAdd, Nat.reduceLeDiff, Nat.reduceEqDiff, Nat.reduceBEq, decide_true, decide_false, Int.toNat_natCast, t0, t1, t5, d1, d2, c0, c1, c2, w1, w2, w3, r])
      refine call_eq (markText_ok _ _ (k + 3 * i + 1) (by omega)) ?_
      simp only [go_sem, cond, Nat.reduceAdd, Nat.reduceLeDiff, Nat.reduceEqDiff, Nat.reduceBEq, decide_true, decide_false, Int.toNat_natCast, t0, t1, t5, d1, d2, c0, c1, c2, w1, w2, w3, r]
      refine Br_intro ?_ ?_ <;> intro h2 <;> simp only [go_sem, cond, Nat.reduceAdd, Nat.reduceLeDiff, Nat.reduceEqDiff, Nat.reduceBEq, decide_true, decide_false, Int.toNat_natCast, h2, t0, t1, t5, d1, d2, c0, c1, c2, w1, w2, w3, r]
      · rw [if_pos h2] at he
        refine Br_intro ?_ ?_ <;> intro h3 <;> simp only [go_sem, cond, Nat.reduceAdd, Nat.reduceLeDiff, Nat.reduceEqDiff, Nat.reduceBEq, decide_true, decide_false, Int.toNat_natCast, h3, t0, t1, t5, d1, d2, c0, c1, c2, w1, w2, w3, r]
        · rw [if_pos h3] at he
          exact ⟨i + 1, ⟨hlt, he, t0, rfl, int_succ hlt (by omega), rfl⟩, lt_meas hlt⟩
        · rw [if_neg (by rw [h3]; decide)] at he
          exact ⟨by rw [← he], _, rfl⟩
      · rw [if_neg (by rw [h2]; decide)] at he
        exact ⟨by rw [← he], _, rfl⟩
    · rw [if_neg (by rw [h]; decide)] at he
      exact ⟨by rw [← he], _, rfl⟩
  · obtain rfl : i = l.length := by omega
    have d1 : ((l.length : Int) < (l.length : Int)) = False := eq_false (by omega)
    rw [List.drop_length] at he
    simp only [go_sem, cond, Nat.reduceAdd, Nat.reduceLeDiff, Nat.reduceEqDiff, Nat.reduceBEq, decide_true, decide_false, Int.toNat_natCast, t0, t1, t5, d1, r]
    exact ⟨by rw [← he]; rfl, _, rfl⟩
def heldKs : List Rk → Nat → Int
  | [], k => k
  | m :: r, k => if (m.user.toList == (mt k).toList) = true then (if (m.num == ((k + 1 : Nat) : Int)) = true then heldKs r (k + 2) else -1) else -1
theorem heldKs_drop (l : List Rk) (k i : Nat) (hi : i < l.length) : heldKs (l.drop i) k = if (l[i].user.toList == (mt k).toList) = true then (if (l[i].num == ((k + 1 : Nat) : Int)) = true then heldKs (l.drop (i + 1)) (k + 2) else -1) else -1 := by
  rw [List.drop_eq_getElem_cons hi, heldKs]
theorem heldRankS_ok (A : Option Addr) (c k : Nat) (l : List Rk) (hA : Sl w0 H A 2 (l.map Rk.enc)) (hl : l.length ≤ 1048576) (hk : k ≤ 1000000000) : AFn Tryd.prog w0 58 #[.slice A l.length c, .int .i64 k] H fun v H2 => v = .int .i64 (heldKs l k) ∧ H2 = H := by
  refine AFn.scal rfl Tryd.func58 rfl (by kernel_rfl) ?_
  have r := Tryd.results58
  simp only [go_sem, cond, Nat.reduceAdd, Nat.reduceLeDiff, Nat.reduceEqDiff, Nat.reduceBEq, decide_true, decide_false, Int.toNat_natCast, r]
  refine xw_loop (fun (i : Nat) T H' => i ≤ l.length ∧ heldKs (l.drop i) (k + 2 * i) = heldKs l k ∧ T 0 = .slice A l.length c ∧ T 1 = .int .i64 ((k + 2 * i : Nat) : Int) ∧ T 5 = .int .i64 i ∧ H' = Hx H []) (fun i => l.length - i) 0 (by kernel_rfl) ⟨Nat.zero_le _, rfl, rfl, rfl, rfl, rfl⟩ ?_
  rintro i T H' ⟨hi, he, t0, t1, t5, rfl⟩
  by_cases hlt : i < l.length
  · obtain ⟨b, o, sp, rfl, hc, _⟩ := mcell hA hlt
    have c0 := fun L => hc 0 (.string l[i].user) L (by decide) rfl
    have c2 := fun L => hc 1 (.int .i64 l[i].num) L (by decide) rfl
    have d1 : ((i : Int) < (l.length : Int)) = True := eq_true (by omega)
    have d2 : (0 ≤ (i : Int)) = True := eq_true (by omega)
    have w1 : IntKind.i64.wrap (((k + 2 * i : Nat) : Int) + 1) = ((k + 2 * i + 1 : Nat) : Int) := by rw [wrap_i64 (by omega) (by omega)]; omega
    have w3 : IntKind.i64.wrap (((k + 2 * i + 1 : Nat) : Int) + 1) = ((k + 2 * (i + 1) : Nat) : Int) := by rw [wrap_i64 (by omega) (by omega)]; omega
    rw [heldKs_drop _ _ i hlt] at he
    simp only [go_sem, cond, Nat.reduceAdd, Nat.reduceLeDiff, Nat.reduceEqDiff, Nat.reduceBEq, decide_true, decide_false, Int.toNat_natCast, t0, t1, t5, d1, d2, c0, c2, w1, w3, r]
    (refine xw_open (id := 4) [0, 0, 3, 7, 15, 0, 32, 127] [.q 0, .q 1, .q 2, .q 3, .q 5, .l 4, .e 6, .q 7] rfl (by kernel_rfl) ?_; simp only [go_sem, cond, Nat.reduceAdd, Nat.reduceLeDiff, Nat.reduceEqDiff, Nat.reduceBEq, decide_true, decide_false, Int.toNat_natCast, t0, t1, t5, d1, d2, c0, c2, w1, w3, r])
    refine call_eq (markText_ok _ _ (k + 2 * i) (by omega)) ?_
    simp only [go_sem, cond, Nat.reduceAdd, Nat.reduceLeDiff, Nat.reduceEqDiff, Nat.reduceBEq, decide_true, decide_false, Int.toNat_natCast, t0, t1, t5, d1, d2, c0, c2, w1, w3, r]
    refine Br_intro ?_ ?_ <;> intro h <;> simp only [go_sem, cond, Nat.reduceAdd, Nat.reduceLeDiff, Nat.reduceEqDiff, Nat.reduceBEq, decide_true, decide_false, Int.toNat_natCast, h, t0, t1, t5, d1, d2, c0, c2, w1, w3, r]
    · rw [if_pos h] at he
      refine Br_intro ?_ ?_ <;> intro h3 <;> simp only [go_sem, cond, Nat.reduceAdd, Nat.reduceLeDiff, Nat.reduceEqDiff, Nat.reduceBEq, decide_true, decide_false, Int.toNat_natCast, h3, t0, t1, t5, d1, d2, c0, c2, w1, w3, r]
      · rw [if_pos h3] at he
        exact ⟨i + 1, ⟨hlt, he, t0, rfl, int_succ hlt (by omega), rfl⟩, lt_meas hlt⟩
      · rw [if_neg (by rw [h3]; decide)] at he
        exact ⟨by rw [← he], _, rfl⟩
    · rw [if_neg (by rw [h]; decide)] at he
      exact ⟨by rw [← he], _, rfl⟩
  · obtain rfl : i = l.length := by omega
    have d1 : ((l.length : Int) < (l.length : Int)) = False := eq_false (by omega)
    rw [List.drop_length] at he
    simp only [go_sem, cond, Nat.reduceAdd, Nat.reduceLeDiff, Nat.reduceEqDiff, Nat.reduceBEq, decide_true, decide_false, Int.toNat_natCast, t0, t1, t5, d1, r]
    exact ⟨by rw [← he]; rfl, _, rfl⟩
end Go.Proofs.YtmacpgoclhgafaaDoorW.FA
namespace Go.Proofs.YtmacpgoclhgafaaDoorW.FA
open Go.RowKit Go.Proofs.YtmacpgoclhgafaaDoorW.XM Go.Proofs Go.Proofs.YtmacpgoclhgafaaDoorW.XWords
set_option maxRecDepth 100000
set_option linter.unusedSimpArgs false
variable (w0 : World) (H : Hp)
theorem heldMs_mk : ∀ (l : List Mem) (k : Nat), heldMs l k = -1 ∨ heldMs l k = ((k + 3 * l.length : Nat) : Int)
  | [], k => .inr rfl
  | m :: r, k => by
    unfold heldMs
    repeat' split
    · rcases heldMs_mk r (k + 3) with h | h
      · exact .inl h
      · right; rw [h, List.length_cons]; omega
    all_goals exact .inl rfl
def heldR (R : Rm) (k : Nat) : Int := if heldMs R.ms k < 0 then -1 else if heldKs R.ks (k + 3 * R.ms.length) < 0 then -1 else heldKs R.ks (k + 3 * R.ms.length)
theorem heldRoom_ok (R : Rm) (x : Ad) (k : Nat) (hm : Sl w0 H x.a 3 (R.ms.map Mem.enc)) (hk : Sl w0 H x.b 2 (R.ks.map Rk.enc)) (lm : R.ms.length ≤ 1048576) (lk : R.ks.length ≤ 1048576) (h1 : k ≤ 2000000) : AFn Tryd.prog w0 17 #[.agg (R.enc x).toArray, .int .i64 k] H fun v H2 => v = .int .i64 (heldR R k) ∧ H2 = H := by
  refine AFn.scal rfl Tryd.func17 rfl (by kernel_rfl) ?_
  have r := Tryd.results17
  simp only [go_sem, cond, Nat.reduceAdd, Nat.reduceLeDiff, Nat.reduceEqDiff, Nat.reduceBEq, decide_true, decide_false, Int.toNat_natCast, r]
  simp only [go_sem, cond, Nat.reduceAdd, Nat.reduceLeDiff, Nat.reduceEqDiff, Nat.reduceBEq, decide_true, decide_false, Int.toNat_natCast, Rm.enc, r]
  refine call_eq (heldMemberS_ok _ _ x.a x.c k R.ms (hm.old _) lm (by omega)) ?_
  simp only [go_sem, cond, Nat.reduceAdd, Nat.reduceLeDiff, Nat.reduceEqDiff, Nat.reduceBEq, decide_true, decide_false, Int.toNat_natCast, r]
  refine Br_intro ?_ ?_ <;> intro h <;> simp only [go_sem, cond, Nat.reduceAdd, Nat.reduceLeDiff, Nat.reduceEqDiff, Nat.reduceBEq, decide_true, decide_false, Int.toNat_natCast, h, r]
  · exact ⟨by rw [heldR, if_pos (of_decide_eq_true h)], _, rfl⟩
  have h := of_decide_eq_false h
  have e : heldMs R.ms k = ((k + 3 * R.ms.length : Nat) : Int) := by
    rcases heldMs_mk R.ms k with e | e
    · omega
    · exact e
  rw [e]
  refine call_eq (heldRankS_ok _ _ x.b x.d (k + 3 * R.ms.length) R.ks (hk.old _) lk (by omega)) ?_
  simp only [go_sem, cond, Nat.reduceAdd, Nat.reduceLeDiff, Nat.reduceEqDiff, Nat.reduceBEq, decide_true, decide_false, Int.toNat_natCast, r]
  refine Br_intro ?_ ?_ <;> intro h3 <;> simp only [go_sem, cond, Nat.reduceAdd, Nat.reduceLeDiff, Nat.reduceEqDiff, Nat.reduceBEq, decide_true, decide_false, Int.toNat_natCast, h3, r]
  · exact ⟨by rw [heldR, if_neg h, if_pos (of_decide_eq_true h3)], _, rfl⟩
  · exact ⟨by rw [heldR, if_neg h, if_neg (of_decide_eq_false h3)], _, rfl⟩
end Go.Proofs.YtmacpgoclhgafaaDoorW.FA
namespace Go.Proofs.YtmacpgoclhgafaaDoorW.FA
open Go.RowKit Go.Proofs.YtmacpgoclhgafaaDoorW.XM Go.Proofs Go.Proofs.YtmacpgoclhgafaaDoorW.XWords
set_option maxRecDepth 100000
set_option linter.unusedSimpArgs false
variable (w0 : World) (H : Hp)
theorem markRoom_raw (B : Hp) (l : List (Option Ob)) (i j : Nat) (R : Rm) (c d k : Nat) (hi : l[i]? = some (some (.row 60 (flat Mem.enc R.ms)))) (hj : l[j]? = some (some (.row 58 (flat Rk.enc R.ks)))) (hij : i ≠ j) (hm : R.ms.length ≤ 1048576) (hn : R.ks.length ≤ 1048576) (hk : k ≤ 2000000) :
    AFn Tryd.prog w0 16 #[.agg (R.enc ⟨some ⟨nid B i, 0, some (R.ms.length * 3)⟩, c, some ⟨nid B j, 0, some (R.ks.length * 2)⟩, d⟩).toArray, .int .i64 k] (Hx B l) fun v H2 => v = .int .i64 ((k + 3 * R.ms.length + 2 * R.ks.length : Nat) : Int) ∧ ∃ g, H2 = Hx B (((l ++ g).set i (some (.row 60 (flat Mem.enc (mkMs R.ms.length k))))).set j (some (.row 58 (flat Rk.enc (mkKs R.ks.length (k + 3 * R.ms.length)))))) := by
  refine AFn_of Tryd.func16 rfl (by kernel_rfl) ?_
  have r := Tryd.results16
  have li : i < l.length := lt_of_get hi
  have lj : j < l.length := lt_of_get hj
  rw [← Hx_nil (Hx B l)]
  obtain ⟨C, hC⟩ : ∃ C, C = Hx B l := ⟨_, rfl⟩
  rw [← hC]
  simp only [go_sem, cond, Nat.reduceAdd, Nat.reduceLeDiff, Nat.reduceEqDiff, Nat.reduceBEq, decide_true, decide_false, Int.toNat_natCast, Rm.enc, r]
  rw [hC, Hx_Hx]
  refine call_eq (markMemberS_ok _ B _ i R.ms c k (by rw [List.getElem?_append_left li]; exact hi) hm (by omega)) ?_
  rw [List.set_append_left _ _ li]
  have hb : ∀ (X Y : Option Ob), (l.set i X ++ [Y])[l.length + 0]? = some Y := fun X Y => by rw [Nat.add_zero, List.getElem?_append_right (by simp)]; simp
  clear hC
  simp only [go_sem, cond, Nat.reduceAdd, Nat.reduceLeDiff, Nat.reduceEqDiff, Nat.reduceBEq, decide_true, decide_false, Int.toNat_natCast, hb, r]
  refine call_eq (markRankS_ok _ B _ j R.ks d (k + 3 * R.ms.length) ?hl hn (by omega)) ?_
  case hl => rw [List.getElem?_append_left (by simpa using lj), List.getElem?_set_ne hij]; exact hj
  simp only [go_sem, cond, Nat.reduceAdd, Nat.reduceLeDiff, Nat.reduceEqDiff, Nat.reduceBEq, decide_true, decide_false, Int.toNat_natCast, r]
  exact ⟨[_], by rw [List.set_append_left _ _ (by simpa using lj), List.set_append_left _ _ li, List.set_append_left _ _ (by simpa using lj)]⟩
end Go.Proofs.YtmacpgoclhgafaaDoorW.FA
namespace Go.Proofs.YtmacpgoclhgafaaDoorW.FA
open Go.RowKit Go.Proofs.YtmacpgoclhgafaaDoorW.XM Go.Proofs Go.Proofs.YtmacpgoclhgafaaDoorW.XWords
set_option maxRecDepth 100000
set_option linter.unusedSimpArgs false
variable (w0 : World) (H : Hp)
theorem flat_all {α : Type} {enc : α → List Value} {p : Value → Bool} (h : ∀ a, (enc a).all p = true) (l : List α) : ∀ v ∈ flat enc l, p v = true := by
  intro v hv
  unfold flat at hv
  obtain ⟨r, hr, h2⟩ := List.mem_flatten.1 hv
  obtain ⟨a, _, rfl⟩ := List.mem_map.1 hr
  exact List.all_eq_true.1 (h a) v h2
theorem markRoom_ok (B : Hp) (l : List (Option Ob)) (i j : Nat) (R : Rm) (c d k : Nat) (hi : l[i]? = some (some (.row 60 (flat Mem.enc R.ms)))) (hj : l[j]? = some (some (.row 58 (flat Rk.enc R.ks)))) (hij : i ≠ j) (hm : R.ms.length ≤ 1048576) (hn : R.ks.length ≤ 1048576) (hk : k ≤ 2000000) :
    AFn Tryd.prog w0 16 #[.agg (R.enc ⟨some ⟨nid B i, 0, some (R.ms.length * 3)⟩, c, some ⟨nid B j, 0, some (R.ks.length * 2)⟩, d⟩).toArray, .int .i64 k] (Hx B l) fun v H2 => v = .int .i64 ((k + 3 * R.ms.length + 2 * R.ks.length : Nat) : Int) ∧ H2 = Hx B ((l.set i (some (.row 60 (flat Mem.enc (mkMs R.ms.length k))))).set j (some (.row 58 (flat Rk.enc (mkKs R.ks.length (k + 3 * R.ms.length)))))) := by
  have li : i < l.length := lt_of_get hi
  have lj : j < l.length := lt_of_get hj
  refine AFn.pack ((markRoom_raw w0 B l i j R c d k hi hj hij hm hn hk).mono ?_)
  rintro v H2 ⟨rfl, g, rfl⟩
  refine ⟨Hx B ((l.set i (some (.row 60 (flat Mem.enc (mkMs R.ms.length k))))).set j (some (.row 58 (flat Rk.enc (mkKs R.ks.length (k + 3 * R.ms.length)))))), g, [], _, ?_, by simp [Hx], ?_, by simp, List.nodup_nil, rfl, rfl, by simp [pick, Hx]⟩
  · rw [Hx_Hx, List.set_append_left _ _ li, List.set_append_left _ _ (by simpa using lj)]
  · intro q o ho
    unfold Hx at ho ⊢
    rw [List.getElem?_append] at ho ⊢
    split at ho
    · rename_i h; rw [if_pos h]; exact .inl ho
    · rename_i h
      rw [if_neg h]
      rw [List.getElem?_set, List.getElem?_set] at ho
      split at ho
      · split at ho
        · cases ho
          exact .inr ⟨_, _, rfl, flat_all (fun _ => rfl) _⟩
        · cases ho
      · split at ho
        · first
            | (cases ho; exact .inr ⟨_, _, rfl, flat_all (fun _ => rfl) _⟩)
            | (split at ho
               · cases ho; exact .inr ⟨_, _, rfl, flat_all (fun _ => rfl) _⟩
               · cases ho)
        · exact .inl ho
end Go.Proofs.YtmacpgoclhgafaaDoorW.FA
namespace Go.Proofs.YtmacpgoclhgafaaDoorW.FA
open Go.RowKit Go.Proofs.YtmacpgoclhgafaaDoorW.XM Go.Proofs Go.Proofs.YtmacpgoclhgafaaDoorW.XWords
set_option maxRecDepth 100000
set_option linter.unusedSimpArgs false
variable (w0 : World) (H : Hp)
def stpK (u : ByteArray) (num : Int) (x : Rk) (st : Bool × List Rk) : Bool × List Rk :=
  let c := !st.1 && !(Op.bytesLess x.user.toList u.toList)
  let out := if c = true then st.2 ++ [⟨u, num⟩] else st.2
  (st.1 || c, if (x.user.toList == u.toList) = true then out else out ++ [x])
def runK (u : ByteArray) (num : Int) (l : List Rk) (st : Bool × List Rk) : Bool × List Rk := l.foldl (fun s x => stpK u num x s) st
theorem runK_drop (u : ByteArray) (num : Int) (l : List Rk) (i : Nat) (hi : i < l.length) (st : Bool × List Rk) : runK u num (l.drop i) st = runK u num (l.drop (i + 1)) (stpK u num l[i] st) := by
  rw [List.drop_eq_getElem_cons hi]; rfl
def rkd (u : ByteArray) (num : Int) (l : List Rk) : List Rk := let r := runK u num l (num == 1, []); if r.1 = true then r.2 else r.2 ++ [⟨u, num⟩]
theorem l6Ranked_ok (A : Option Addr) (c : Nat) (ks : List Rk) (u : ByteArray) (num : Int) (hs : Sl w0 H A 2 (ks.map Rk.enc)) (hl : ks.length ≤ 2000000) : AFn Tryd.prog w0 107 #[.slice A ks.length c, .string u, .int .i64 num] H fun v H2 => v = .slice (some ⟨nid H 0, 0, some ((rkd u num ks).length * 2)⟩) (rkd u num ks).length (rkd u num ks).length ∧ H2 = Hx H [some (.row 58 (flat Rk.enc (rkd u num ks)))] := by
  refine AFn.news Tryd.func107 rfl (by kernel_rfl) ?_
  have r := Tryd.results107
  simp only [go_sem, cond, Nat.reduceAdd, Nat.reduceLeDiff, Nat.reduceEqDiff, Nat.reduceBEq, decide_true, decide_false, Int.toNat_natCast, r]
  refine Req_intro ⟨_, rfl, rfl⟩ ?_
  simp only [go_sem, cond, Nat.reduceAdd, Nat.reduceLeDiff, Nat.reduceEqDiff, Nat.reduceBEq, decide_true, decide_false, Int.toNat_natCast, r]
  refine xw_loop (fun (i : Nat) T H' => i ≤ ks.length ∧ (∃ (dn : Bool) (out : List Rk) (g : List (Option Ob)), out.length ≤ 2 * i ∧ T 7 = .slice (some ⟨nid H 0, 0, some (out.length * 2)⟩) out.length out.length ∧ T 8 = .bool dn ∧ runK u num (ks.drop i) (dn, out) = runK u num ks (num == 1, []) ∧ H' = Hx H (some (.row 58 (flat Rk.enc out)) :: g)) ∧ T 0 = .slice A ks.length c ∧ T 1 = .string u ∧ T 2 = .int .i64 num ∧ T 9 = .int .i64 i) (fun i => ks.length - i) 0 (by kernel_rfl) ⟨Nat.zero_le _, ⟨num == 1, [], [], Nat.le_refl _, rfl, rfl, rfl, rfl⟩, rfl, rfl, rfl, rfl⟩ ?_
  rintro i T H' ⟨hi, ⟨dn, out, g, ho, t7, t8, he, rfl⟩, t0, t1, t2, t9⟩
  by_cases hlt : i < ks.length
  · obtain ⟨b, o, sp, rfl, hc, hw⟩ := mcell hs hlt
    have c0 := fun L => hc 0 (.string ks[i].user) L (by decide) rfl
    have c1 := fun L => hw L rfl
    have d1 : ((i : Int) < (ks.length : Int)) = True := eq_true (by omega)
    have d2 : (0 ≤ (i : Int)) = True := eq_true (by omega)
    rw [runK_drop _ _ _ i hlt] at he
    simp only [Rk.enc] at c1
    simp only [go_sem, cond, Nat.reduceAdd, Nat.reduceLeDiff, Nat.reduceEqDiff, Nat.reduceBEq, decide_true, decide_false, Int.toNat_natCast, t0, t1, t2, t7, t8, t9, d1, d2, c0, c1, r]
    have hb : ∀ (X : Option Ob) (g : List (Option Ob)) (Y : Option Ob), (X :: (g ++ [Y]))[g.length + 1]? = some Y := fun X g Y => by rw [List.getElem?_cons_succ, List.getElem?_append_right (Nat.le_refl _)]; simp
    refine Br_intro ?_ ?_ <;> intro h <;> simp only [go_sem, cond, Nat.reduceAdd, Nat.reduceLeDiff, Nat.reduceEqDiff, Nat.reduceBEq, decide_true, decide_false, Int.toNat_natCast, t0, t1, t2, t7, t8, t9, d1, d2, c0, c1, hb, List.cons_append, List.length_cons, List.set_cons_zero, r, h]
    · refine Br_intro ?_ ?_ <;> intro h3 <;> simp only [go_sem, cond, Nat.reduceAdd, Nat.reduceLeDiff, Nat.reduceEqDiff, Nat.reduceBEq, decide_true, decide_false, Int.toNat_natCast, t0, t1, t2, t7, t8, t9, d1, d2, c0, c1, hb, List.cons_append, List.length_cons, List.set_cons_zero, r, h, h3]
      · simp only [stpK, h, h3, Bool.not_true, Bool.not_false, Bool.false_and, Bool.true_and, Bool.and_true, Bool.and_false, Bool.false_eq_true, if_true, if_false, Bool.or_true, Bool.true_or, Bool.or_false, Bool.false_or, Bool.or_self] at he
        exact ⟨i + 1, ⟨hlt, ⟨true, out, _, by first | omega | (simp; omega), t7, by first | rfl | exact t8.trans (by rw [h]), he, rfl⟩, t0, t1, t2, int_succ hlt (by omega)⟩, lt_meas hlt⟩
      · simp only [stpK, h, h3, Bool.not_true, Bool.not_false, Bool.false_and, Bool.true_and, Bool.and_true, Bool.and_false, Bool.false_eq_true, if_true, if_false, Bool.or_true, Bool.true_or, Bool.or_false, Bool.false_or, Bool.or_self] at he
        refine Req_intro ⟨_, rfl, rfl⟩ ?_
        simp only [go_sem, cond, Nat.reduceAdd, Nat.reduceLeDiff, Nat.reduceEqDiff, Nat.reduceBEq, decide_true, decide_false, Int.toNat_natCast, t0, t1, t2, t7, t8, t9, d1, d2, c0, c1, hb, List.cons_append, List.length_cons, List.set_cons_zero, r, h, h3]
        refine appS_full (m := 1) (sl := (out).length) _ _ _ _ _ _ _ 0 _ _ _ rfl rfl (flat_len klen _) XF.lay_58 (by decide) (by rfl) (by first | omega | (simp; omega)) (by first | omega | (simp; omega)) ?_
        simp only [go_sem, cond, Nat.reduceAdd, Nat.reduceLeDiff, Nat.reduceEqDiff, Nat.reduceBEq, decide_true, decide_false, Int.toNat_natCast, t0, t1, t2, t7, t8, t9, d1, d2, c0, c1, hb, List.cons_append, List.length_cons, List.set_cons_zero, r, h, h3]
        exact ⟨i + 1, ⟨hlt, ⟨true, out ++ [ks[i]], _, by first | omega | (simp; omega), by rw [List.length_append]; rfl, by first | rfl | exact t8.trans (by rw [h]), he, by rw [flat_app]; rfl⟩, t0, t1, t2, int_succ hlt (by omega)⟩, lt_meas hlt⟩
    · refine Br_intro ?_ ?_ <;> intro h2 <;> simp only [go_sem, cond, Nat.reduceAdd, Nat.reduceLeDiff, Nat.reduceEqDiff, Nat.reduceBEq, decide_true, decide_false, Int.toNat_natCast, t0, t1, t2, t7, t8, t9, d1, d2, c0, c1, hb, List.cons_append, List.length_cons, List.set_cons_zero, r, h, h2]
      · refine Br_intro ?_ ?_ <;> intro h3 <;> simp only [go_sem, cond, Nat.reduceAdd, Nat.reduceLeDiff, Nat.reduceEqDiff, Nat.reduceBEq, decide_true, decide_false, Int.toNat_natCast, t0, t1, t2, t7, t8, t9, d1, d2, c0, c1, hb, List.cons_append, List.length_cons, List.set_cons_zero, r, h, h2, h3]
        · simp only [stpK, h, h2, h3, Bool.not_true, Bool.not_false, Bool.false_and, Bool.true_and, Bool.and_true, Bool.and_false, Bool.false_eq_true, if_true, if_false, Bool.or_true, Bool.true_or, Bool.or_false, Bool.false_or, Bool.or_self] at he
          exact ⟨i + 1, ⟨hlt, ⟨false, out, _, by first | omega | (simp; omega), t7, by first | rfl | exact t8.trans (by rw [h]), he, rfl⟩, t0, t1, t2, int_succ hlt (by omega)⟩, lt_meas hlt⟩
        · simp only [stpK, h, h2, h3, Bool.not_true, Bool.not_false, Bool.false_and, Bool.true_and, Bool.and_true, Bool.and_false, Bool.false_eq_true, if_true, if_false, Bool.or_true, Bool.true_or, Bool.or_false, Bool.false_or, Bool.or_self] at he
          refine Req_intro ⟨_, rfl, rfl⟩ ?_
          simp only [go_sem, cond, Nat.reduceAdd, Nat.reduceLeDiff, Nat.reduceEqDiff, Nat.reduceBEq, decide_true, decide_false, Int.toNat_natCast, t0, t1, t2, t7, t8, t9, d1, d2, c0, c1, hb, List.cons_append, List.length_cons, List.set_cons_zero, r, h, h2, h3]
          refine appS_full (m := 1) (sl := (out).length) _ _ _ _ _ _ _ 0 _ _ _ rfl rfl (flat_len klen _) XF.lay_58 (by decide) (by rfl) (by first | omega | (simp; omega)) (by first | omega | (simp; omega)) ?_
          simp only [go_sem, cond, Nat.reduceAdd, Nat.reduceLeDiff, Nat.reduceEqDiff, Nat.reduceBEq, decide_true, decide_false, Int.toNat_natCast, t0, t1, t2, t7, t8, t9, d1, d2, c0, c1, hb, List.cons_append, List.length_cons, List.set_cons_zero, r, h, h2, h3]
          exact ⟨i + 1, ⟨hlt, ⟨false, out ++ [ks[i]], _, by first | omega | (simp; omega), by rw [List.length_append]; rfl, by first | rfl | exact t8.trans (by rw [h]), he, by rw [flat_app]; rfl⟩, t0, t1, t2, int_succ hlt (by omega)⟩, lt_meas hlt⟩
      · refine Req_intro ⟨_, rfl, rfl⟩ ?_
        simp only [go_sem, cond, Nat.reduceAdd, Nat.reduceLeDiff, Nat.reduceEqDiff, Nat.reduceBEq, decide_true, decide_false, Int.toNat_natCast, t0, t1, t2, t7, t8, t9, d1, d2, c0, c1, hb, List.cons_append, List.length_cons, List.set_cons_zero, r, h, h2]
        refine appS_full (m := 1) (sl := (out).length) _ _ _ _ _ _ _ 0 _ _ _ rfl rfl (flat_len klen _) XF.lay_58 (by decide) (by rfl) (by first | omega | (simp; omega)) (by first | omega | (simp; omega)) ?_
        simp only [go_sem, cond, Nat.reduceAdd, Nat.reduceLeDiff, Nat.reduceEqDiff, Nat.reduceBEq, decide_true, decide_false, Int.toNat_natCast, t0, t1, t2, t7, t8, t9, d1, d2, c0, c1, hb, List.cons_append, List.length_cons, List.set_cons_zero, r, h, h2]
        have e1 : flat Rk.enc out ++ [.string u, .int .i64 num] = flat Rk.enc (out ++ [⟨u, num⟩]) := by rw [flat_app]; rfl
        have e2 : out.length + 1 = (out ++ [(⟨u, num⟩ : Rk)]).length := by simp
        have ho2 : (out ++ [(⟨u, num⟩ : Rk)]).length ≤ 2 * i + 1 := by simp; omega
        rw [e1, e2]
        simp only [stpK, h, h2, Bool.not_true, Bool.not_false, Bool.false_and, Bool.true_and, Bool.and_true, Bool.and_false, Bool.false_eq_true, if_true, if_false, Bool.or_true, Bool.true_or, Bool.or_false, Bool.false_or, Bool.or_self] at he
        generalize out ++ [(⟨u, num⟩ : Rk)] = o1 at *
        generalize g ++ [some (Ob.row 58 [.string u, .int .i64 num])] = g1 at *
        refine Br_intro ?_ ?_ <;> intro h3 <;> simp only [go_sem, cond, Nat.reduceAdd, Nat.reduceLeDiff, Nat.reduceEqDiff, Nat.reduceBEq, decide_true, decide_false, Int.toNat_natCast, t0, t1, t2, t8, t9, d1, d2, c0, c1, hb, List.cons_append, List.length_cons, List.set_cons_zero, r, h3]
        · simp only [h3, Bool.not_true, Bool.not_false, Bool.false_and, Bool.true_and, Bool.and_true, Bool.and_false, Bool.false_eq_true, if_true, if_false, Bool.or_true, Bool.true_or, Bool.or_false, Bool.false_or, Bool.or_self] at he
          exact ⟨i + 1, ⟨hlt, ⟨true, o1, _, by omega, rfl, rfl, he, rfl⟩, t0, t1, t2, int_succ hlt (by omega)⟩, lt_meas hlt⟩
        · simp only [h3, Bool.not_true, Bool.not_false, Bool.false_and, Bool.true_and, Bool.and_true, Bool.and_false, Bool.false_eq_true, if_true, if_false, Bool.or_true, Bool.true_or, Bool.or_false, Bool.false_or, Bool.or_self] at he
          refine Req_intro ⟨_, rfl, rfl⟩ ?_
          simp only [go_sem, cond, Nat.reduceAdd, Nat.reduceLeDiff, Nat.reduceEqDiff, Nat.reduceBEq, decide_true, decide_false, Int.toNat_natCast, t0, t1, t2, t8, t9, d1, d2, c0, c1, hb, List.cons_append, List.length_cons, List.set_cons_zero, r, h3]
          refine appS_full (m := 1) (sl := o1.length) _ _ _ _ _ _ _ 0 _ _ _ rfl rfl (flat_len klen _) XF.lay_58 (by decide) (by rfl) (by omega) (by omega) ?_
          simp only [go_sem, cond, Nat.reduceAdd, Nat.reduceLeDiff, Nat.reduceEqDiff, Nat.reduceBEq, decide_true, decide_false, Int.toNat_natCast, t0, t1, t2, t8, t9, d1, d2, c0, c1, hb, List.cons_append, List.length_cons, List.set_cons_zero, r, h3]
          exact ⟨i + 1, ⟨hlt, ⟨true, o1 ++ [ks[i]], _, by first | omega | (simp; omega), by rw [List.length_append]; rfl, rfl, he, by rw [flat_app]; rfl⟩, t0, t1, t2, int_succ hlt (by omega)⟩, lt_meas hlt⟩
  · obtain rfl : i = ks.length := by omega
    have d1 : ((ks.length : Int) < (ks.length : Int)) = False := eq_false (by omega)
    have hb : ∀ (X : Option Ob) (g : List (Option Ob)) (Y : Option Ob), (X :: (g ++ [Y]))[g.length + 1]? = some Y := fun X g Y => by rw [List.getElem?_cons_succ, List.getElem?_append_right (Nat.le_refl _)]; simp
    rw [List.drop_length] at he
    have he : (dn, out) = runK u num ks (num == 1, []) := he
    simp only [go_sem, cond, Nat.reduceAdd, Nat.reduceLeDiff, Nat.reduceEqDiff, Nat.reduceBEq, decide_true, decide_false, Int.toNat_natCast, t0, t1, t2, t7, t8, t9, d1, hb, List.cons_append, List.length_cons, List.set_cons_zero, r]
    refine Br_intro ?_ ?_ <;> intro h <;> simp only [go_sem, cond, Nat.reduceAdd, Nat.reduceLeDiff, Nat.reduceEqDiff, Nat.reduceBEq, decide_true, decide_false, Int.toNat_natCast, t0, t1, t2, t7, t8, t9, d1, hb, List.cons_append, List.length_cons, List.set_cons_zero, r, h]
    · have hk : rkd u num ks = out := by simp [rkd, ← he, h]
      rw [hk]
      refine ⟨_, [0], _, rfl, ?_, by decide, by simp only [ren3, ren2, ren1, rho_nid, idx_hit, Option.map_some], rfl, rfl⟩
      intro k hk
      simp only [List.mem_singleton] at hk
      subst hk
      exact flat_plain (fun _ => rfl) out
    · have hk : rkd u num ks = out ++ [⟨u, num⟩] := by simp [rkd, ← he, h]
      refine Req_intro ⟨_, rfl, rfl⟩ ?_
      simp only [go_sem, cond, Nat.reduceAdd, Nat.reduceLeDiff, Nat.reduceEqDiff, Nat.reduceBEq, decide_true, decide_false, Int.toNat_natCast, t0, t1, t2, t7, t8, t9, d1, hb, List.cons_append, List.length_cons, List.set_cons_zero, r, h]
      refine appS_full (m := 1) (sl := out.length) _ _ _ _ _ _ _ 0 _ _ _ rfl rfl (flat_len klen _) XF.lay_58 (by decide) (by rfl) (by omega) (by omega) ?_
      simp only [go_sem, cond, Nat.reduceAdd, Nat.reduceLeDiff, Nat.reduceEqDiff, Nat.reduceBEq, decide_true, decide_false, Int.toNat_natCast, t0, t1, t2, t7, t8, t9, d1, hb, List.cons_append, List.length_cons, List.set_cons_zero, r, h]
      rw [hk]
      have e1 : flat Rk.enc out ++ [.string u, .int .i64 num] = flat Rk.enc (out ++ [⟨u, num⟩]) := by rw [flat_app]; rfl
      have e2 : out.length + 1 = (out ++ [(⟨u, num⟩ : Rk)]).length := by simp
      rw [e1, e2]
      refine ⟨_, [0], _, rfl, ?_, by decide, by simp only [ren3, ren2, ren1, rho_nid, idx_hit, Option.map_some], rfl, rfl⟩
      intro k hk
      simp only [List.mem_singleton] at hk
      subst hk
      exact flat_plain (fun _ => rfl) _
end Go.Proofs.YtmacpgoclhgafaaDoorW.FA
namespace Go.Proofs.YtmacpgoclhgafaaDoorW.XM
open Go.RowKit
section
variable {P : Program} {w0 : World}
/-- Whatever stands beside the one stands beside the other. -/
def Wk (P : Program) (v u : Value) : Prop := ∀ H μ v', VR P H μ v v' → VR P H μ u v'
theorem Wk.refl (v : Value) : Wk P v v := fun _ _ _ h => h
theorem Wk.xs (v : Value) : Wk P (xs v) v := fun H μ v' h => by have := h.unx; rwa [unx_xs] at this
theorem Wk.agg {l m : List Value} (hl : l.length = m.length) (h : ∀ (j : Nat) (v u : Value), l[j]? = some v → m[j]? = some u → Wk P v u) : Wk P (.agg l.toArray) (.agg m.toArray) := fun H μ v' hv => by
  cases hv with
  | same hp => simp [plain] at hp
  | @agg _ cs' a b =>
    have a' : l.length = cs'.size := by simpa using a
    refine .agg (by simp [← hl, a']) fun j u u' e1 e2 => ?_
    have hj : j < l.length := by rw [hl]; exact lt_of_get (by simpa using e1)
    exact h j l[j] u (List.getElem?_eq_getElem hj) (by simpa using e1) H μ u' (b j _ _ (by simp [hj]) e2)
/-- Cell by cell. -/
inductive Wks (P : Program) : List Value → List Value → Prop
  | nil : Wks P [] []
  | cons {v u : Value} {l m : List Value} : Wk P v u → Wks P l m → Wks P (v :: l) (u :: m)
theorem Wks.get {l m : List Value} (h : Wks P l m) : l.length = m.length ∧ ∀ (j : Nat) (v u : Value), l[j]? = some v → m[j]? = some u → Wk P v u := by
  induction h with
  | nil => exact ⟨rfl, fun j v u a => by simp at a⟩
  | cons h _ ih =>
    refine ⟨by simp [ih.1], fun j v u a b => ?_⟩
    cases j with
    | zero => simp at a b; subst a; subst b; exact h
    | succ j => exact ih.2 j v u (by simpa using a) (by simpa using b)
theorem Wks.agg {l m : List Value} (h : Wks P l m) : Wk P (.agg l.toArray) (.agg m.toArray) := Wk.agg h.get.1 h.get.2
theorem AFn.weak {f : FuncId} {l m : List Value} {H : Hp} {Q : Value → Hp → Prop} (hw : Wks P l m) (h : AFn P w0 f m.toArray H Q) : AFn P w0 f l.toArray H Q := by
  refine ⟨h.1, fun μ w args' h1 h2 => h.2 μ w args' h1 ⟨?_, fun j u u' e1 e2 => ?_⟩⟩
  · have := h2.1; simp at this; simp [← hw.get.1, this]
  · have hj : j < l.length := by rw [hw.get.1]; exact lt_of_get (by simpa using e1)
    exact hw.get.2 j l[j] u (List.getElem?_eq_getElem hj) (by simpa using e1) H μ u' (h2.2 j _ _ (by simp [hj]) e2)
@[go_sem] theorem cells_xs (v : Value) : (XM.xs v).cells = #[XM.xs v] := rfl
@[go_sem] theorem cellsV_xs (v : Value) : cellsV (XM.xs v) = some [XM.xs v] := rfl
@[go_sem] theorem allOne_xs (v : Value) (r : List Value) : allOne (XM.xs v :: r) = allOne r := rfl
@[go_sem] theorem oneCell_xs (v : Value) : (XM.xs v).oneCell' = true := rfl
/-! parts -/
theorem slc_xs {t : TypeId} {e m : Nat} (he : elm P t = some (e, m)) {b o : Nat} {sp : Option Nat} {len cap : Nat} {lo hi : Option Value} {l h' : Int} (h1 : bnd lo 0 = some l) (h2 : bnd hi len = some h') (H : Hp) {K : Value → Hp → Prop} (k : Lk K) (bb : Bool) (ee : Option (TypeId × Nat))
    (h3 : 0 ≤ l) (h4 : l ≤ h') (h5 : h' ≤ cap) (ho : ownB P H m b sp) (h6 : l = 0 ∨ l < cap) (hk : K (xs (.slice (some ⟨b, o + l.toNat * m, sp⟩) (h'.toNat - l.toNat) (cap - l.toNat))) H) : slcV P w0 t bb ee (xs (.slice (some ⟨b, o, sp⟩) len cap)) lo hi none H k := by
  refine ⟨e, m, he, by simp, l, h', cap, h1, h2, rfl, h3, h4, h5, Int.le_refl _, ho, ?_⟩
  have : (if (cap : Int).toNat = l.toNat then o else o + l.toNat * m) = o + l.toNat * m := by
    split
    · rename_i e
      rcases h6 with h6 | h6
      · subst h6; simp
      · omega
    · rfl
  rw [this]
  simpa using hk
/-- The end of a slice, which nothing more fits behind: it holds nothing. -/
theorem slc_end {t : TypeId} {e m : Nat} (he : elm P t = some (e, m)) {b o tg : Nat} {len cap : Nat} {lo hi : Option Value} {l h' : Int} (h1 : bnd lo 0 = some l) (h2 : bnd hi len = some h') (H : Hp) {K : Value → Hp → Prop} (k : Lk K) (bb : Bool) (ee : Option (TypeId × Nat))
    (h3 : 0 ≤ l) (h4 : l ≤ h') (h5 : h' ≤ cap) (ho : ownB P H m b (some (tg + 1))) (h6 : l = cap) (hk : K (.slice (some ⟨b, o, some tg⟩) 0 0) H) : slcV P w0 t bb ee (.slice (some ⟨b, o, some (tg + 1)⟩) len cap) lo hi none H k :=
  ⟨e, m, he, by simp, l, h', cap, h1, h2, rfl, h3, h4, h5, Int.le_refl _, ho, .inl ⟨tg, rfl, rfl, h6, hk⟩⟩
theorem slc_clipX {t : TypeId} {e m : Nat} (he : elm P t = some (e, m)) {b o : Nat} {sp : Option Nat} {len cap : Nat} (hc : len ≤ cap) {k1 k2 : IntKind} (H : Hp) {K : Value → Hp → Prop} (k : Lk K) (bb : Bool) (ee : Option (TypeId × Nat)) (ho : ownB P H m b sp)
    (hk : K (xs (.slice (some ⟨b, o, sp⟩) len len)) H) : slcV P w0 t bb ee (.slice (some ⟨b, o, sp⟩) len cap) none (some (.int k1 (len : Int))) (some (.int k2 (len : Int))) H k := by
  refine ⟨e, m, he, by simp, 0, len, len, rfl, rfl, rfl, Int.le_refl _, by omega, Int.le_refl _, by omega, ho, .inr (.inr ⟨rfl, ?_⟩)⟩
  have : (if (len : Int).toNat = (0 : Int).toNat then o else o + (0 : Int).toNat * m) = o := by split <;> simp
  rw [this]
  simpa using hk
/-- A slice cut off in front and behind. -/
theorem slc_three {t : TypeId} {e m : Nat} (he : elm P t = some (e, m)) {b o : Nat} {sp : Option Nat} {len cap : Nat} {lo : Option Value} {l h' mx : Int} {k1 k2 : IntKind} (h1 : bnd lo 0 = some l) (H : Hp) {K : Value → Hp → Prop} (k : Lk K) (bb : Bool) (ee : Option (TypeId × Nat))
    (h3 : 0 ≤ l) (h4 : l ≤ h') (h5 : h' ≤ mx) (h6 : mx ≤ cap) (ho : ownB P H m b sp) (hk : ∀ v, K v H) : slcV P w0 t bb ee (.slice (some ⟨b, o, sp⟩) len cap) lo (some (.int k1 h')) (some (.int k2 mx)) H k :=
  ⟨e, m, he, by simp, l, h', mx, h1, rfl, rfl, h3, h4, h5, h6, ho, .inr (.inr ⟨rfl, hk _⟩)⟩
theorem slc_threeX {t : TypeId} {e m : Nat} (he : elm P t = some (e, m)) {b o : Nat} {sp : Option Nat} {len cap : Nat} {lo : Option Value} {l h' mx : Int} {k1 k2 : IntKind} (h1 : bnd lo 0 = some l) (H : Hp) {K : Value → Hp → Prop} (k : Lk K) (bb : Bool) (ee : Option (TypeId × Nat))
    (h3 : 0 ≤ l) (h4 : l ≤ h') (h5 : h' ≤ mx) (h6 : mx ≤ cap) (ho : ownB P H m b sp) (hk : ∀ v, K v H) : slcV P w0 t bb ee (xs (.slice (some ⟨b, o, sp⟩) len cap)) lo (some (.int k1 h')) (some (.int k2 mx)) H k :=
  ⟨e, m, he, by simp, l, h', mx, h1, rfl, rfl, h3, h4, h5, h6, ho, hk _⟩
/-! appends to a slice of a known capacity -/
theorem app_out {ats : Array TypeId} {t0 t1 e n b m : Nat} {z cs old : List Value} {a : Addr} {sl sc : Nat} {x : Value} {B : Hp} {l : List (Option Ob)} {K : Value → Hp → Prop} (k : Lk K) (h1 : ats[0]? = some t0) (h2 : ats[1]? = some t1) (h3 : elm P t0 = some (e, n)) (h5 : zer P e = some z) (h6 : z.length = n) (h7 : byt P e = some b)
    (h8 : appd P w0 (Hx B l) n z (isInt P t1) (unx x) = some (m, cs)) (h9 : sc < sl + m) (hb : (sl + m) * b ≤ 140737488355328) (hn : sl + m ≤ 4611686018427387904) (ho : rd w0 (Hx B l) a (sl * n) = some old)
    (h : K (.slice (some ⟨nid B l.length, 0, some ((sl + m) * n)⟩) (sl + m) (sl + m)) (Hx B (l ++ [some (.row e (old ++ cs))]))) : appV P w0 ats (xs (.slice (some a) sl sc)) x (Hx B l) k := by
  refine .inr ⟨a, sl, sc, rfl, t0, t1, e, n, z, b, m, cs, old, h1, h2, h3, h5, h6, h7, h8, h9, ⟨hb, hn⟩, ho, ?_⟩
  rw [Hx_len, Hx_app]
  exact h
theorem app_in {ats : Array TypeId} {s x : Value} {H : Hp} {K : Value → Hp → Prop} (k : Lk K) (h : appW P w0 ats s (unx x) H k) : appV P w0 ats (xs s) x H k := .inl h
/-! capacities -/
@[go_sem] theorem callB_cap (ats : Array TypeId) (x : Value) (H : Hp) {K : Value → Hp → Prop} (k : Lk K) : callB P w0 .cap ats [x] H k = Opt (xCap P ats x) H k := by
  show (∃ v, xCap P ats x = some v ∧ K v H) = _
  generalize xCap P ats x = r
  cases r <;> simp [Opt]
@[go_sem] theorem cap_xs (t : TypeId) (a : Addr) (m c : Nat) : xCap P #[t] (xs (.slice (some a) m c)) = if isSl P t = true then some (.int .i64 c) else none := by simp [xCap, xs]
/-! cleared, copied -/
def clrV (P : Program) (w0 : World) (ats : Array TypeId) (x : Value) (H : Hp) {K : Value → Hp → Prop} (_ : Lk K) : Prop := xClear P ats x H K
@[go_sem] theorem callB_clear (ats : Array TypeId) (x : Value) (H : Hp) {K : Value → Hp → Prop} (k : Lk K) : callB P w0 .clear ats [x] H k = clrV P w0 ats (unx x) H k := propext Iff.rfl
theorem clr_own {ats : Array TypeId} {t0 e n ty : Nat} {z c0 : List Value} {bb : Bool} {B : Hp} {l : List (Option Ob)} {j o tag m c : Nat} {K : Value → Hp → Prop} (k : Lk K) (h1 : ats[0]? = some t0) (h2 : elm P t0 = some (e, n)) (h3 : zer P e = some z) (h4 : z.length = n) (hl : l[j]? = some (some (.row ty c0))) (ht : c0.length = tag) (hla : lay P ty = some (bb, n)) (hm : o + m * n ≤ tag)
    (h : K (.tuple #[]) (Hx B (l.set j (some (.row ty (putL c0 o (List.replicate m z).flatten)))))) : clrV P w0 ats (.slice (some ⟨nid B j, o, some tag⟩) m c) (Hx B l) k := by
  refine ⟨t0, e, n, z, ty, c0, bb, h1, h2, h3, h4, by rw [Hx_get]; exact hl, ht, hla, hm, ?_⟩
  rw [Hx_set]; exact h
theorem cop_own {ats : Array TypeId} {t0 e n ty m : Nat} {cs c0 : List Value} {bb : Bool} {B : Hp} {l : List (Option Ob)} {j o tag dl dc : Nat} {x : Value} {K : Value → Hp → Prop} (k : Lk K) (h1 : ats[0]? = some t0) (h2 : elm P t0 = some (e, n)) (h3 : src w0 (Hx B l) n x = some (m, cs)) (h4 : m ≤ dl) (hl : l[j]? = some (some (.row ty c0))) (ht : c0.length = tag) (hla : lay P ty = some (bb, n)) (hm : o + cs.length ≤ tag)
    (h : K (.int .i64 m) (Hx B (l.set j (some (.row ty (putL c0 o cs)))))) : copV P w0 ats (.slice (some ⟨nid B j, o, some tag⟩) dl dc) x (Hx B l) k := by
  refine ⟨t0, e, n, m, cs, ty, c0, bb, h1, h2, h3, h4, by rw [Hx_get]; exact hl, ht, hla, hm, ?_⟩
  rw [Hx_set]; exact h
/-! parts of rows -/
theorem rd_len : ∀ {H : Hp} {a : Addr} {n : Nat} {cs : List Value}, rd w0 H a n = some cs → cs.length = n := fun {H a n cs} h => by
  obtain ⟨b, o, sp⟩ := a
  cases sp with
  | none => exact (rdRo_spec n b o cs h).1
  | some tag =>
    simp only [rd] at h
    split at h
    · split at h
      · rename_i hc
        cases h
        simp; omega
      · cases h
    · cases h
theorem rdRo_part : ∀ (n b o f k : Nat) (cs : List Value), rdRo w0 b o n = some cs → f + k ≤ n → rdRo w0 b (o + f) k = some ((cs.drop f).take k) := by
  intro n
  induction n with
  | zero =>
    intro b o f k cs h hk
    obtain rfl : k = 0 := by omega
    simp [rdRo]
  | succ n ih =>
    intro b o f k cs h hk
    obtain ⟨h1, h2, h3⟩ := rdRo_spec (n + 1) b o cs h
    cases f with
    | zero =>
      cases k with
      | zero => simp [rdRo]
      | succ k =>
        simp only [rdRo] at h ⊢
        split at h
        · rename_i e1
          split at h
          · rename_i hv
            cases hr : rdRo w0 b (o + 1) n with
            | none => rw [hr] at h; cases h
            | some l2 =>
              rw [hr] at h
              cases h
              have := ih b (o + 1) 0 k l2 hr (by omega)
              simp only [Nat.add_zero] at this ⊢
              rw [e1]
              simp only [hv, if_true, this]
              simp
          · cases h
        · cases h
    | succ f =>
      simp only [rdRo] at h
      split at h
      · split at h
        · cases hr : rdRo w0 b (o + 1) n with
          | none => rw [hr] at h; cases h
          | some l2 =>
            rw [hr] at h
            cases h
            have := ih b (o + 1) f k l2 hr (by omega)
            rw [show o + (f + 1) = o + 1 + f by omega, this]
            simp
        · cases h
      · cases h
/-- A part of what can be read can be read. -/
theorem rd_part {H : Hp} {b o : Nat} {sp : Option Nat} {n : Nat} {cs : List Value} (h : rd w0 H ⟨b, o, sp⟩ n = some cs) (f k : Nat) (hk : f + k ≤ n) : rd w0 H ⟨b, o + f, sp⟩ k = some ((cs.drop f).take k) := by
  cases sp with
  | none => exact rdRo_part n b o f k cs h hk
  | some tag =>
    simp only [rd] at h ⊢
    split at h
    · rename_i e
      split at h
      · rename_i hc
        cases h
        rw [if_pos ⟨hc.1, by omega⟩]
        congr 1
        rw [List.drop_take, List.take_take, List.drop_drop, Nat.min_eq_left (by omega)]
      · cases h
    · cases h
end
end Go.Proofs.YtmacpgoclhgafaaDoorW.XM
namespace Go.Proofs.YtmacpgoclhgafaaDoorW.XM
open Go.RowKit
section
variable {P : Program} {w0 : World}
theorem flat_part {α : Type} {enc : α → List Value} {n : Nat} (he : ∀ a, (enc a).length = n) : ∀ (rows : List α) (l m : Nat), l + m ≤ rows.length → ((flat enc rows).drop (l * n)).take (m * n) = flat enc ((rows.drop l).take m)
  | rows, 0, m, h => by
    rw [Nat.zero_mul, List.drop_zero, List.drop_zero]
    have e : flat enc rows = flat enc (rows.take m) ++ flat enc (rows.drop m) := by rw [← flat_app, List.take_append_drop]
    rw [e]
    have : m * n = (flat enc (rows.take m)).length := by rw [flat_len he, List.length_take, Nat.min_eq_left (by omega)]
    rw [this, List.take_left]
  | [], l + 1, m, h => by simp at h
  | a :: r, l + 1, m, h => by
    have := flat_part he r l m (by simp at h; omega)
    have e : flat enc (a :: r) = enc a ++ flat enc r := rfl
    rw [e, List.drop_succ_cons, Nat.succ_mul, Nat.add_comm, ← List.drop_drop]
    have : n = (enc a).length := (he a).symm
    rw [show (enc a ++ flat enc r).drop n = flat enc r by rw [this]; exact List.drop_left]
    exact flat_part he r l m (by simp at h; omega)
/-- A slice's parts: how it is taken, and what it holds. -/
theorem slc_part {α : Type} {enc : α → List Value} {n : Nat} (he : ∀ a, (enc a).length = n) (hn : 0 < n) {H : Hp} {b o c : Nat} {sp : Option Nat} {rows : List α} (hr : ∀ L, rd w0 (Hx H L) ⟨b, o, sp⟩ (rows.length * n) = some (flat enc rows)) (hc : rows.length ≤ c) (ho : ∀ L, ownB P (Hx H L) n b sp) {l h : Nat} (hlh : l ≤ h) (hh : h ≤ rows.length) (hp : 0 < rows.length) :
    ∃ (a : Addr) (c' : Nat), h - l ≤ c' ∧ (∀ (t e : TypeId) (L : List (Option Ob)) (lo hi : Option Value) (bb : Bool) (ee : Option (TypeId × Nat)) (K : Value → Hp → Prop) (k : Lk K), elm P t = some (e, n) → bnd lo 0 = some (l : Int) → bnd hi rows.length = some (h : Int) → K (.slice (some a) (h - l) c') (Hx H L) → slcV P w0 t bb ee (.slice (some ⟨b, o, sp⟩) rows.length c) lo hi none (Hx H L) k) ∧
      ∀ L, srcO (h - l) (rd w0 (Hx H L) a ((h - l) * n)) = some (h - l, flat enc ((rows.drop l).take (h - l))) := by
  by_cases hd : l = c ∧ sp.isSome = true
  · obtain ⟨rfl, hs⟩ := hd
    cases sp with
    | none => cases hs
    | some tag =>
      have h0 : tag ≠ 0 := by
        intro e
        subst e
        have := hr []
        simp only [rd] at this
        split at this
        · split at this
          · rename_i hq
            have : rows.length * n ≥ 1 * 1 := Nat.mul_le_mul hp hn
            omega
          · cases this
        · cases this
      obtain ⟨tg, rfl⟩ : ∃ tg, tag = tg + 1 := ⟨tag - 1, by omega⟩
      have e0 : h - l = 0 := by omega
      rw [e0]
      refine ⟨⟨b, o, some tg⟩, 0, Nat.le_refl _, fun t e L lo hi bb ee K k h1 h2 h3 hk => slc_end h1 h2 h3 _ _ _ _ (by omega) (by omega) (by omega) (ho L) rfl hk, fun L => ?_⟩
      rw [List.take_zero]
      cases hq : rd w0 (Hx H L) ⟨b, o, some tg⟩ (0 * n) with
      | none => rfl
      | some l2 =>
        have := rd_len hq
        rw [Nat.zero_mul] at this
        rw [List.eq_nil_of_length_eq_zero this]
        rfl
  · by_cases hd2 : l = c
    · subst hd2
      have hs : sp = none := by
        cases sp with
        | none => rfl
        | some _ => exact absurd ⟨rfl, rfl⟩ hd
      subst hs
      have e0 : h - l = 0 := by omega
      rw [e0]
      refine ⟨⟨b, o, none⟩, 0, Nat.le_refl _, fun t e L lo hi bb ee K k h1 h2 h3 hk => ?_, fun L => by rw [Nat.zero_mul, List.take_zero]; rfl⟩
      refine ⟨e, n, h1, by simp, l, h, l, h2, h3, rfl, by omega, by omega, by omega, Int.le_refl _, trivial, .inr (.inl ⟨fun hx => (by cases hx), ?_⟩)⟩
      rw [if_pos rfl]
      have : (h : Int).toNat - (l : Int).toNat = 0 := by omega
      rw [this]
      simpa using hk
    · refine ⟨⟨b, o + l * n, sp⟩, c - l, by omega, fun t e L lo hi bb ee K k h1 h2 h3 hk => slc_sl h1 h2 h3 _ _ _ _ (by omega) (by omega) (by omega) (ho L) (by omega) (by simpa using hk), fun L => ?_⟩
      have hle : l * n + (h - l) * n ≤ rows.length * n := by rw [← Nat.add_mul]; exact Nat.mul_le_mul_right _ (by omega)
      rw [rd_part (hr L) (l * n) ((h - l) * n) hle, flat_part he rows l (h - l) (by omega)]
      rfl
end
end Go.Proofs.YtmacpgoclhgafaaDoorW.XM
namespace Go.Proofs.YtmacpgoclhgafaaDoorW.FA
open Go.RowKit Go.Proofs.YtmacpgoclhgafaaDoorW.XM Go.Proofs Go.Proofs.YtmacpgoclhgafaaDoorW.XWords
set_option maxRecDepth 100000
set_option linter.unusedSimpArgs false
variable (w0 : World) (H : Hp)
def outI {α : Type} (l : List α) (i : Int) : List α := if 0 ≤ i then l.take i.toNat ++ l.drop (i.toNat + 1) else l
def roleI (l : List Mem) (i : Int) (num : Int) : List Mem := if 0 ≤ i then (match l[i.toNat]? with | some m => l.set i.toNat ⟨m.user, m.nick, num⟩ | none => l) else l
def applyR (R : Rm) (e : En) : Rm :=
  if (e.kind == 1) = true then ⟨R.name, IntKind.i64.wrap (e.seq + 1), R.ms ++ [⟨e.user, e.nick, e.num⟩], R.ks, R.subj⟩
  else if (e.kind == 2) = true then ⟨R.name, IntKind.i64.wrap (e.seq + 1), outI R.ms (idxP (isU e.user) R.ms 0), R.ks, R.subj⟩
  else if (e.kind == 4) = true then ⟨R.name, IntKind.i64.wrap (e.seq + 1), R.ms, R.ks, e.text⟩
  else if (e.kind == 5) = true then ⟨R.name, IntKind.i64.wrap (e.seq + 1), roleI R.ms (idxP (isU e.user) R.ms 0) e.num, R.ks, R.subj⟩
  else if (e.kind == 6) = true then ⟨R.name, IntKind.i64.wrap (e.seq + 1), R.ms, rkd e.user e.num R.ks, R.subj⟩
  else ⟨R.name, IntKind.i64.wrap (e.seq + 1), R.ms, R.ks, R.subj⟩
/-- A room whose members may be taken in part. -/
structure RmOw (w0 : World) (H : Hp) (R : Rm) (x : Ad) : Prop where
  cm : R.ms.length ≤ x.c
  om : ∀ b o sp, x.a = some ⟨b, o, sp⟩ → ∀ L, Go.Proofs.YtmacpgoclhgafaaDoorW.XM.ownB Tryd.prog (Hx H L) 3 b sp
  rm : ∀ b o sp, x.a = some ⟨b, o, sp⟩ → ∀ L, rd w0 (Hx H L) ⟨b, o, sp⟩ (R.ms.length * 3) = some (flat Mem.enc R.ms)
/-- A cell of a row changed. -/
theorem flat_put {α : Type} {enc : α → List Value} {n : Nat} (he : ∀ a, (enc a).length = n) : ∀ (l : List α) (k : Nat) (y : α) (hk : k < l.length) (f : Nat) (v : Value), f < n → (enc l[k]).set f v = enc y → (flat enc l).set (k * n + f) v = flat enc (l.set k y)
  | a :: r, 0, y, _, f, v, hf, h => by
    have e : flat enc (a :: r) = enc a ++ flat enc r := rfl
    rw [e, Nat.zero_mul, Nat.zero_add, List.set_append_left _ _ (by rw [he]; exact hf)]
    rw [show (enc a).set f v = enc y from h]
    rfl
  | a :: r, k + 1, y, hk, f, v, hf, h => by
    have e : flat enc (a :: r) = enc a ++ flat enc r := rfl
    rw [e, List.set_append_right _ _ (by rw [he, Nat.succ_mul]; omega), he, show (k + 1) * n + f - n = k * n + f by rw [Nat.succ_mul]; omega, flat_put he r k y (by simpa using hk) f v hf (by simpa using h)]
    rfl
theorem l6Apply_ok (R : Rm) (x : Ad) (e : En) (hr : RmAt w0 H R x) (ho : RmOw w0 H R x) : AFn Tryd.prog w0 48 #[.agg (R.enc x).toArray, .agg e.enc.toArray] H fun v H2 => v = .agg ((applyR R e).enc (adR H (applyR R e) 0 1)).toArray ∧ H2 = Hx H (obsR (applyR R e)) := by
  obtain ⟨xa, xc, xb, xd⟩ := x
  have hlm := hr.lm
  have hlk := hr.lk
  refine AFn.news Tryd.func48 rfl (by kernel_rfl) ?_
  have r := Tryd.results48
  simp only [go_sem, cond, Nat.reduceAdd, Nat.reduceLeDiff, Nat.reduceEqDiff, Nat.reduceBEq, decide_true, decide_false, Int.toNat_natCast, r]
  simp only [go_sem, cond, Nat.reduceAdd, Nat.reduceLeDiff, Nat.reduceEqDiff, Nat.reduceBEq, decide_true, decide_false, Int.toNat_natCast, Rm.enc, En.enc, r]
  refine call_eq (l6Copy_ok _ _ R _ (hr.old _)) ?_
  simp only [go_sem, cond, Nat.reduceAdd, Nat.reduceLeDiff, Nat.reduceEqDiff, Nat.reduceBEq, decide_true, decide_false, Int.toNat_natCast, Rm.enc, En.enc, r, obsR, adR]
  refine Br_intro ?_ ?_ <;> intro h1 <;> simp only [go_sem, cond, Nat.reduceAdd, Nat.reduceLeDiff, Nat.reduceEqDiff, Nat.reduceBEq, decide_true, decide_false, Int.toNat_natCast, Rm.enc, En.enc, r, obsR, adR, h1]
  · refine Req_intro ⟨_, rfl, rfl⟩ ?_
    simp only [go_sem, cond, Nat.reduceAdd, Nat.reduceLeDiff, Nat.reduceEqDiff, Nat.reduceBEq, decide_true, decide_false, Int.toNat_natCast, Rm.enc, En.enc, r, obsR, adR, h1]
    refine appS_full _ _ _ _ _ _ _ _ 3 _ _ _ _ rfl rfl (flat_len mlen _) XF.lay_60 (by decide) (by rfl) (by omega) (by omega) ?_
    simp only [go_sem, cond, Nat.reduceAdd, Nat.reduceLeDiff, Nat.reduceEqDiff, Nat.reduceBEq, decide_true, decide_false, Int.toNat_natCast, Rm.enc, En.enc, r, obsR, adR, h1]
    have ha : applyR R e = ⟨R.name, IntKind.i64.wrap (e.seq + 1), R.ms ++ [⟨e.user, e.nick, e.num⟩], R.ks, R.subj⟩ := by simp only [applyR, h1, if_true]
    rw [ha]
    have e1 : flat Mem.enc R.ms ++ [.string e.user, .string e.nick, .int .i64 e.num] = flat Mem.enc (R.ms ++ [⟨e.user, e.nick, e.num⟩]) := by rw [flat_app]; rfl
    have e2 : R.ms.length + 1 = (R.ms ++ [(⟨e.user, e.nick, e.num⟩ : Mem)]).length := by simp
    rw [e1, e2]
    clear e1 e2 ha
    generalize R.ms ++ [(⟨e.user, e.nick, e.num⟩ : Mem)] = ms'
    exact ⟨_, [3, 4], _, rfl, pl2 ms' R.ks rfl rfl, by decide, ren_room H ⟨R.name, IntKind.i64.wrap (e.seq + 1), ms', R.ks, R.subj⟩ rfl rfl, rfl, rfl⟩
  refine Br_intro ?_ ?_ <;> intro h2 <;> simp only [go_sem, cond, Nat.reduceAdd, Nat.reduceLeDiff, Nat.reduceEqDiff, Nat.reduceBEq, decide_true, decide_false, Int.toNat_natCast, Rm.enc, En.enc, r, obsR, adR, h1, h2]
  · refine call_eq (l6Of_ok _ _ R _ _ (hr.old _)) ?_
    simp only [go_sem, cond, Nat.reduceAdd, Nat.reduceLeDiff, Nat.reduceEqDiff, Nat.reduceBEq, decide_true, decide_false, Int.toNat_natCast, r]
    have ha : applyR R e = ⟨R.name, IntKind.i64.wrap (e.seq + 1), outI R.ms (idxP (isU e.user) R.ms 0), R.ks, R.subj⟩ := by simp only [applyR, h1, h2, if_true, Bool.false_eq_true, if_false]
    rw [ha]
    clear ha
    rcases idxP_find (isU e.user) R.ms 0 with ⟨g1, _⟩ | ⟨k, hk, g1, _⟩
    · have d1 : ((0 : Int) ≤ -1) = False := eq_false (by omega)
      rw [g1]
      simp only [go_sem, cond, Nat.reduceAdd, Nat.reduceLeDiff, Nat.reduceEqDiff, Nat.reduceBEq, decide_true, decide_false, Int.toNat_natCast, r, d1]
      have ha : outI R.ms (-1) = R.ms := rfl
      rw [ha]
      exact ⟨_, [3, 4], _, rfl, pl2 R.ms R.ks rfl rfl, by decide, ren_room H ⟨R.name, IntKind.i64.wrap (e.seq + 1), R.ms, R.ks, R.subj⟩ rfl rfl, rfl, rfl⟩
    · rw [Nat.zero_add] at g1
      have d1 : ((0 : Int) ≤ (k : Int)) = True := eq_true (by omega)
      rw [g1]
      simp only [go_sem, cond, Nat.reduceAdd, Nat.reduceLeDiff, Nat.reduceEqDiff, Nat.reduceBEq, decide_true, decide_false, Int.toNat_natCast, r, d1]
      obtain ⟨b, o, sp, rfl, _, _⟩ := mcell hr.sm hk
      have w1 : IntKind.i64.wrap ((k : Int) + 1) = ((k + 1 : Nat) : Int) := by rw [wrap_i64 (by omega) (by omega)]; omega
      obtain ⟨a1, c1, _, s1, q1⟩ := slc_part mlen (by decide) (ho.rm b o sp rfl) ho.cm (ho.om b o sp rfl) (l := 0) (h := k) (by omega) (by omega) (by omega)
      obtain ⟨a2, c2, _, s2, q2⟩ := slc_part mlen (by decide) (ho.rm b o sp rfl) ho.cm (ho.om b o sp rfl) (l := k + 1) (h := R.ms.length) (by omega) (by omega) (by omega)
      simp only [Nat.sub_zero, List.drop_zero] at s1 q1
      have e3 : (R.ms.drop (k + 1)).take (R.ms.length - (k + 1)) = R.ms.drop (k + 1) := List.take_of_length_le (by simp)
      rw [e3] at q2
      (refine xw_open (id := 9) [0, 0, 2, 0, 14, 31, 0, 64, 0, 256, 960, 2047, 4095, 8191] [.q 1, .q 3, .q 6, .q 8, .q 9, .l 2, .l 4, .l 7, .l 10, .e 0, .d 4, .d 2, .e 5, .d 10, .d 7, .e 11, .q 12, .e 13] rfl (by kernel_rfl) ?_; simp only [go_sem, cond, Nat.reduceAdd, Nat.reduceLeDiff, Nat.reduceEqDiff, Nat.reduceBEq, decide_true, decide_false, Int.toNat_natCast, r, w1])
      refine s1 _ _ _ _ _ _ _ _ _ XF.elm_30 rfl rfl ?_
      simp only [go_sem, cond, Nat.reduceAdd, Nat.reduceLeDiff, Nat.reduceEqDiff, Nat.reduceBEq, decide_true, decide_false, Int.toNat_natCast, r, w1]
      refine s2 _ _ _ _ _ _ _ _ _ XF.elm_30 rfl rfl ?_
      simp only [go_sem, cond, Nat.reduceAdd, Nat.reduceLeDiff, Nat.reduceEqDiff, Nat.reduceBEq, decide_true, decide_false, Int.toNat_natCast, r, w1]
      refine Req_intro ⟨_, rfl, rfl⟩ ?_
      simp only [go_sem, cond, Nat.reduceAdd, Nat.reduceLeDiff, Nat.reduceEqDiff, Nat.reduceBEq, decide_true, decide_false, Int.toNat_natCast, r, w1]
      refine Req_intro (s2 _ _ _ _ _ _ _ _ _ XF.elm_30 rfl rfl ⟨rfl, rfl⟩) ?_
      simp only [go_sem, cond, Nat.reduceAdd, Nat.reduceLeDiff, Nat.reduceEqDiff, Nat.reduceBEq, decide_true, decide_false, Int.toNat_natCast, r, w1]
      refine Req_intro (s1 _ _ _ _ _ _ _ _ _ XF.elm_30 rfl rfl ⟨rfl, rfl⟩) ?_
      simp only [go_sem, cond, Nat.reduceAdd, Nat.reduceLeDiff, Nat.reduceEqDiff, Nat.reduceBEq, decide_true, decide_false, Int.toNat_natCast, r, w1, q1]
      refine appS_full _ _ _ _ _ _ _ _ 6 0 _ _ _ rfl rfl rfl XF.lay_60 (by decide) (flat_len mlen _ |>.trans (by rw [List.length_take, Nat.min_eq_left (by omega)])) (by omega) (by omega) ?_
      simp only [go_sem, cond, Nat.reduceAdd, Nat.reduceLeDiff, Nat.reduceEqDiff, Nat.reduceBEq, decide_true, decide_false, Int.toNat_natCast, r, w1, q1, Nat.zero_add, List.nil_append]
      refine Req_intro (s2 _ _ _ _ _ _ _ _ _ XF.elm_30 rfl rfl ⟨rfl, rfl⟩) ?_
      simp only [go_sem, cond, Nat.reduceAdd, Nat.reduceLeDiff, Nat.reduceEqDiff, Nat.reduceBEq, decide_true, decide_false, Int.toNat_natCast, r, w1, q2]
      refine appS_full _ _ _ _ _ _ _ _ 6 k _ _ _ rfl rfl (flat_len mlen _ |>.trans (by rw [List.length_take, Nat.min_eq_left (by omega)])) XF.lay_60 (by decide) (flat_len mlen _ |>.trans (by rw [List.length_drop])) (by omega) (by omega) ?_
      simp only [go_sem, cond, Nat.reduceAdd, Nat.reduceLeDiff, Nat.reduceEqDiff, Nat.reduceBEq, decide_true, decide_false, Int.toNat_natCast, r, w1]
      rw [← flat_app]
      have e4 : outI R.ms (k : Int) = R.ms.take k ++ R.ms.drop (k + 1) := by unfold outI; rw [if_pos (by omega), Int.toNat_natCast]
      have e5 : k + (R.ms.length - (k + 1)) = (R.ms.take k ++ R.ms.drop (k + 1)).length := by rw [List.length_append, List.length_take, List.length_drop]; omega
      rw [e4, e5]
      clear e4 e5 e3 s1 s2 q1 q2
      generalize R.ms.take k ++ R.ms.drop (k + 1) = ms'
      exact ⟨_, [6, 4], _, rfl, pl2 ms' R.ks rfl rfl, by decide, ren_room H ⟨R.name, IntKind.i64.wrap (e.seq + 1), ms', R.ks, R.subj⟩ rfl rfl, rfl, rfl⟩
  refine Br_intro ?_ ?_ <;> intro h3 <;> simp only [go_sem, cond, Nat.reduceAdd, Nat.reduceLeDiff, Nat.reduceEqDiff, Nat.reduceBEq, decide_true, decide_false, Int.toNat_natCast, Rm.enc, En.enc, r, obsR, adR, h1, h2, h3]
  · have ha : applyR R e = ⟨R.name, IntKind.i64.wrap (e.seq + 1), R.ms, R.ks, e.text⟩ := by simp only [applyR, h1, h2, h3, if_true, Bool.false_eq_true, if_false]
    rw [ha]
    exact ⟨_, [3, 4], _, rfl, pl2 R.ms R.ks rfl rfl, by decide, ren_room H ⟨R.name, IntKind.i64.wrap (e.seq + 1), R.ms, R.ks, e.text⟩ rfl rfl, rfl, rfl⟩
  refine Br_intro ?_ ?_ <;> intro h4 <;> simp only [go_sem, cond, Nat.reduceAdd, Nat.reduceLeDiff, Nat.reduceEqDiff, Nat.reduceBEq, decide_true, decide_false, Int.toNat_natCast, Rm.enc, En.enc, r, obsR, adR, h1, h2, h3, h4]
  · refine call_eq (l6Of_ok _ _ R _ _ (hr.old _)) ?_
    simp only [go_sem, cond, Nat.reduceAdd, Nat.reduceLeDiff, Nat.reduceEqDiff, Nat.reduceBEq, decide_true, decide_false, Int.toNat_natCast, r]
    have ha : applyR R e = ⟨R.name, IntKind.i64.wrap (e.seq + 1), roleI R.ms (idxP (isU e.user) R.ms 0) e.num, R.ks, R.subj⟩ := by simp only [applyR, h1, h2, h3, h4, if_true, Bool.false_eq_true, if_false]
    rw [ha]
    clear ha
    rcases idxP_find (isU e.user) R.ms 0 with ⟨g1, _⟩ | ⟨k, hk, g1, _⟩
    · have d1 : ((0 : Int) ≤ -1) = False := eq_false (by omega)
      rw [g1]
      simp only [go_sem, cond, Nat.reduceAdd, Nat.reduceLeDiff, Nat.reduceEqDiff, Nat.reduceBEq, decide_true, decide_false, Int.toNat_natCast, r, d1]
      have ha : roleI R.ms (-1) e.num = R.ms := rfl
      rw [ha]
      exact ⟨_, [3, 4], _, rfl, pl2 R.ms R.ks rfl rfl, by decide, ren_room H ⟨R.name, IntKind.i64.wrap (e.seq + 1), R.ms, R.ks, R.subj⟩ rfl rfl, rfl, rfl⟩
    · rw [Nat.zero_add] at g1
      have d1 : ((0 : Int) ≤ (k : Int)) = True := eq_true (by omega)
      have d2 : ((k : Int) < (R.ms.length : Int)) = True := eq_true (by omega)
      rw [g1]
      have hlen := flat_len mlen R.ms
      simp only [go_sem, cond, Nat.reduceAdd, Nat.reduceLeDiff, Nat.reduceEqDiff, Nat.reduceBEq, decide_true, decide_false, Int.toNat_natCast, r, d1, d2, hlen]
      refine Req_intro (by omega) ?_
      simp only [go_sem, cond, Nat.reduceAdd, Nat.reduceLeDiff, Nat.reduceEqDiff, Nat.reduceBEq, decide_true, decide_false, Int.toNat_natCast, r, d1, d2, hlen]
      have p0 : (flat Mem.enc R.ms).set (k * 3 + 2) (.int .i64 e.num) = flat Mem.enc (roleI R.ms (k : Int) e.num) := by
        unfold roleI
        rw [if_pos (by omega), Int.toNat_natCast]
        have := flat_put mlen R.ms k ⟨R.ms[k].user, R.ms[k].nick, e.num⟩ hk 2 (.int .i64 e.num) (by decide) rfl
        rw [this, List.getElem?_eq_getElem hk]
      have e5 : R.ms.length = (roleI R.ms (k : Int) e.num).length := by unfold roleI; rw [if_pos (by omega), Int.toNat_natCast, List.getElem?_eq_getElem hk]; simp
      rw [p0, e5]
      clear e5 p0 hlen
      generalize roleI R.ms (k : Int) e.num = ms'
      exact ⟨_, [3, 4], _, rfl, pl2 ms' R.ks rfl rfl, by decide, ren_room H ⟨R.name, IntKind.i64.wrap (e.seq + 1), ms', R.ks, R.subj⟩ rfl rfl, rfl, rfl⟩
  refine Br_intro ?_ ?_ <;> intro h5 <;> simp only [go_sem, cond, Nat.reduceAdd, Nat.reduceLeDiff, Nat.reduceEqDiff, Nat.reduceBEq, decide_true, decide_false, Int.toNat_natCast, Rm.enc, En.enc, r, obsR, adR, h1, h2, h3, h4, h5]
  · refine call_eq (l6Ranked_ok _ _ xb xd R.ks e.user e.num (hr.sk.old _) hlk) ?_
    simp only [go_sem, cond, Nat.reduceAdd, Nat.reduceLeDiff, Nat.reduceEqDiff, Nat.reduceBEq, decide_true, decide_false, Int.toNat_natCast, r]
    have ha : applyR R e = ⟨R.name, IntKind.i64.wrap (e.seq + 1), R.ms, rkd e.user e.num R.ks, R.subj⟩ := by simp only [applyR, h1, h2, h3, h4, h5, if_true, Bool.false_eq_true, if_false]
    rw [ha]
    clear ha
    generalize rkd e.user e.num R.ks = ks'
    exact ⟨_, [3, 6], _, rfl, pl2 R.ms ks' rfl rfl, by decide, ren_room H ⟨R.name, IntKind.i64.wrap (e.seq + 1), R.ms, ks', R.subj⟩ rfl rfl, rfl, rfl⟩
  · have ha : applyR R e = ⟨R.name, IntKind.i64.wrap (e.seq + 1), R.ms, R.ks, R.subj⟩ := by simp only [applyR, h1, h2, h3, h4, h5, if_true, Bool.false_eq_true, if_false]
    rw [ha]
    exact ⟨_, [3, 4], _, rfl, pl2 R.ms R.ks rfl rfl, by decide, ren_room H ⟨R.name, IntKind.i64.wrap (e.seq + 1), R.ms, R.ks, R.subj⟩ rfl rfl, rfl, rfl⟩
end Go.Proofs.YtmacpgoclhgafaaDoorW.FA
namespace Go.Proofs.YtmacpgoclhgafaaDoorW.FA
open Go.RowKit Go.Proofs.YtmacpgoclhgafaaDoorW.XM Go.Proofs Go.Proofs.YtmacpgoclhgafaaDoorW.XWords
set_option maxRecDepth 100000
set_option linter.unusedSimpArgs false
variable {w0 : World} {H : Hp}
theorem rd_flat {α : Type} {enc : α → List Value} {n : Nat} (he : ∀ a, (enc a).length = n) (t : TypeId) (ls : List α) (B : Hp) (l : List (Option Ob)) (j : Nat) (hl : l[j]? = some (some (.row t (flat enc ls)))) (L : List (Option Ob)) : rd w0 (Hx (Hx B l) L) ⟨nid B j, 0, some (ls.length * n)⟩ (ls.length * n) = some (flat enc ls) := by
  refine rd_old ?_ L
  rw [rd_own, hl, rdO_row, if_pos ⟨flat_len he ls, by rw [flat_len he]; omega⟩, List.drop_zero, List.take_of_length_le (by rw [flat_len he]; exact Nat.le_refl _)]
theorem RmAt_own {B : Hp} {l : List (Option Ob)} {j k : Nat} {R : Rm} (hj : l[j]? = some (some (.row 60 (flat Mem.enc R.ms)))) (hk : l[k]? = some (some (.row 58 (flat Rk.enc R.ks)))) (lm : R.ms.length ≤ 2000000) (lk : R.ks.length ≤ 2000000) : RmAt w0 (Hx B l) R (adR B R j k) :=
  ⟨Sl_own mlen _ R.ms B l j hj, Sl_own klen _ R.ks B l k hk, lm, lk, fun L => by rw [adR, src_sl, rd_flat mlen _ R.ms B l j hj]; rfl, fun L => by rw [adR, src_sl, rd_flat klen _ R.ks B l k hk]; rfl⟩
theorem RmOw_own {B : Hp} {l : List (Option Ob)} {j k : Nat} {R : Rm} (hj : l[j]? = some (some (.row 60 (flat Mem.enc R.ms)))) : RmOw w0 (Hx B l) R (adR B R j k) := by
  refine ⟨Nat.le_refl _, fun b o sp e L => ?_, fun b o sp e L => ?_⟩
  · cases e
    refine ⟨_, flat Mem.enc R.ms, false || true, ?_, flat_len mlen R.ms, XF.lay_60⟩
    have := lt_of_get hj
    rw [Hx_Hx, Hx_get, List.getElem?_append_left this]
    exact hj
  · cases e
    exact rd_flat mlen _ R.ms B l j hj L
theorem RmOw.old {R : Rm} {x : Ad} (h : RmOw w0 H R x) (l : List (Option Ob)) : RmOw w0 (Hx H l) R x := ⟨h.cm, fun b o sp e L => by rw [Hx_Hx]; exact h.om b o sp e _, fun b o sp e L => by rw [Hx_Hx]; exact h.rm b o sp e _⟩
theorem RmAt_obs {R : Rm} (lm : R.ms.length ≤ 2000000) (lk : R.ks.length ≤ 2000000) (L : List (Option Ob)) : RmAt w0 (Hx H (obsR R ++ L)) R (adR H R 0 1) := RmAt_own rfl rfl lm lk
theorem RmOw_obs {R : Rm} (L : List (Option Ob)) : RmOw w0 (Hx H (obsR R ++ L)) R (adR H R 0 1) := RmOw_own rfl
theorem Big.of_mem {R : Rm} (nm : R.name.size ≤ 1000000000000) (sj : R.subj.size ≤ 1000000000000) (hm : ∀ m ∈ R.ms, m.user.size ≤ 1000000000000 ∧ m.nick.size ≤ 1000000000000) (hk : ∀ k ∈ R.ks, k.user.size ≤ 1000000000000) : Big R :=
  ⟨nm, sj, fun i h => (hm _ (List.getElem_mem h)).1, fun i h => (hm _ (List.getElem_mem h)).2, fun i h => hk _ (List.getElem_mem h)⟩
theorem Big.mem {R : Rm} (hb : Big R) : (∀ m ∈ R.ms, m.user.size ≤ 1000000000000 ∧ m.nick.size ≤ 1000000000000) ∧ ∀ k ∈ R.ks, k.user.size ≤ 1000000000000 := by
  refine ⟨fun m hm => ?_, fun k hk => ?_⟩
  · obtain ⟨i, h, rfl⟩ := List.mem_iff_getElem.1 hm
    exact ⟨hb.us i h, hb.ni i h⟩
  · obtain ⟨i, h, rfl⟩ := List.mem_iff_getElem.1 hk
    exact hb.ku i h
theorem stpK_mem (u : ByteArray) (num : Int) (x : Rk) (st : Bool × List Rk) : (stpK u num x st).2.length ≤ st.2.length + 2 ∧ ∀ y ∈ (stpK u num x st).2, y ∈ st.2 ∨ y = x ∨ y = ⟨u, num⟩ := by
  unfold stpK
  simp only
  constructor
  · repeat' split
    all_goals first | omega | (simp; done) | (simp; omega)
  · intro y hy
    repeat' split at hy
    all_goals first
      | exact .inl hy
      | (rcases List.mem_append.1 hy with hy | hy
         · first
             | exact .inl hy
             | (rcases List.mem_append.1 hy with hy | hy
                · exact .inl hy
                · exact .inr (.inr (by simpa using hy)))
         · first
             | exact .inr (.inl (by simpa using hy))
             | exact .inr (.inr (by simpa using hy)))
theorem runK_mem (u : ByteArray) (num : Int) : ∀ (l : List Rk) (st : Bool × List Rk), (runK u num l st).2.length ≤ st.2.length + 2 * l.length ∧ ∀ y ∈ (runK u num l st).2, y ∈ st.2 ∨ y ∈ l ∨ y = ⟨u, num⟩
  | [], st => ⟨by simp [runK], fun y hy => .inl hy⟩
  | x :: l, st => by
    obtain ⟨a, b⟩ := stpK_mem u num x st
    obtain ⟨c, d⟩ := runK_mem u num l (stpK u num x st)
    refine ⟨by simp only [runK, List.foldl_cons, List.length_cons] at c ⊢; omega, fun y hy => ?_⟩
    rcases d y hy with h | h | h
    · rcases b y h with h | h | h
      · exact .inl h
      · exact .inr (.inl (by simp [h]))
      · exact .inr (.inr h)
    · exact .inr (.inl (List.mem_cons_of_mem _ h))
    · exact .inr (.inr h)
theorem rkd_mem (u : ByteArray) (num : Int) (l : List Rk) : (rkd u num l).length ≤ 2 * l.length + 1 ∧ ∀ y ∈ rkd u num l, y ∈ l ∨ y = ⟨u, num⟩ := by
  obtain ⟨a, b⟩ := runK_mem u num l (num == 1, [])
  unfold rkd
  simp only
  split
  · exact ⟨by simp at a; omega, fun y hy => by rcases b y hy with h | h | h; cases h; exact .inl h; exact .inr h⟩
  · refine ⟨by simp at a ⊢; omega, fun y hy => ?_⟩
    rcases List.mem_append.1 hy with hy | hy
    · rcases b y hy with h | h | h
      · cases h
      · exact .inl h
      · exact .inr h
    · exact .inr (by simpa using hy)
theorem outI_mem {α : Type} (l : List α) (i : Int) : (outI l i).length ≤ l.length ∧ ∀ x ∈ outI l i, x ∈ l := by
  unfold outI
  split
  · refine ⟨by simp; omega, fun x hx => ?_⟩
    rcases List.mem_append.1 hx with h | h
    · exact List.mem_of_mem_take h
    · exact List.mem_of_mem_drop h
  · exact ⟨Nat.le_refl _, fun x hx => hx⟩
theorem roleI_mem (l : List Mem) (i num : Int) : (roleI l i num).length = l.length ∧ ∀ x ∈ roleI l i num, ∃ y ∈ l, x.user = y.user ∧ x.nick = y.nick := by
  unfold roleI
  split
  · split
    · rename_i m hm
      refine ⟨by simp, fun x hx => ?_⟩
      rcases List.mem_or_eq_of_mem_set hx with h | h
      · exact ⟨x, h, rfl, rfl⟩
      · exact ⟨m, List.mem_of_getElem? hm, by rw [h], by rw [h]⟩
    · exact ⟨rfl, fun x hx => ⟨x, hx, rfl, rfl⟩⟩
  · exact ⟨rfl, fun x hx => ⟨x, hx, rfl, rfl⟩⟩
theorem applyR_len (R : Rm) (e : En) : (applyR R e).ms.length ≤ R.ms.length + 1 ∧ (applyR R e).ks.length ≤ 2 * R.ks.length + 1 := by
  have h1 := (rkd_mem e.user e.num R.ks).1
  have h2 := (outI_mem R.ms (idxP (isU e.user) R.ms 0)).1
  have h3 := (roleI_mem R.ms (idxP (isU e.user) R.ms 0) e.num).1
  unfold applyR
  repeat' split
  all_goals first | omega | (simp; done) | (simp; omega)
theorem applyR_big (R : Rm) (e : En) (hb : Big R) (he : BigE e) : Big (applyR R e) := by
  obtain ⟨hm, hk⟩ := hb.mem
  unfold applyR
  repeat' split
  all_goals refine Big.of_mem hb.nm (by first | exact hb.sj | exact he.tx) ?_ ?_
  all_goals first
    | exact hm
    | exact hk
    | skip
  · intro m h
    rcases List.mem_append.1 h with h | h
    · exact hm m h
    · simp only [List.mem_singleton] at h
      subst h
      exact ⟨he.us, he.ni⟩
  · exact fun m h => hm m ((outI_mem _ _).2 m h)
  · intro m h
    obtain ⟨y, h1, h2, h3⟩ := (roleI_mem _ _ _).2 m h
    rw [h2, h3]
    exact hm y h1
  · intro k h
    rcases (rkd_mem _ _ _).2 k h with h | h
    · exact hk k h
    · subst h; exact he.us
end Go.Proofs.YtmacpgoclhgafaaDoorW.FA
namespace Go.Proofs.YtmacpgoclhgafaaDoorW.FA
open Go.RowKit Go.Proofs.YtmacpgoclhgafaaDoorW.XM Go.Proofs Go.Proofs.YtmacpgoclhgafaaDoorW.XWords
set_option maxRecDepth 100000
set_option linter.unusedSimpArgs false
variable (w0 : World) (H : Hp)
def needB (R : Rm) (e : En) : Bool := (e.kind == 6) || ((e.kind == 1) || isB R e)
def canB (R : Rm) (e : En) : Bool := entB e && ((e.room.toList == R.name.toList) && ((e.seq == R.next) && (needB R e && roomB (applyR R e))))
theorem l6Can_ok (R : Rm) (x : Ad) (e : En) (hr : RmAt w0 H R x) (ho : RmOw w0 H R x) (hb : Big R) (he : BigE e) (lm : R.ms.length ≤ 1000) (lk : R.ks.length ≤ 1000) : AFn Tryd.prog w0 46 #[.agg (R.enc x).toArray, .agg e.enc.toArray] H fun v H2 => v = .bool (canB R e) ∧ H2 = H := by
  obtain ⟨xa, xc, xb, xd⟩ := x
  obtain ⟨q1, q2⟩ := applyR_len R e
  have hb2 := applyR_big R e hb he
  refine AFn.scal rfl Tryd.func46 rfl (by kernel_rfl) ?_
  have r := Tryd.results46
  simp only [go_sem, cond, Nat.reduceAdd, Nat.reduceLeDiff, Nat.reduceEqDiff, Nat.reduceBEq, decide_true, decide_false, Int.toNat_natCast, r]
  simp only [go_sem, cond, Nat.reduceAdd, Nat.reduceLeDiff, Nat.reduceEqDiff, Nat.reduceBEq, decide_true, decide_false, Int.toNat_natCast, Rm.enc, En.enc, r]
  repeat' (first
    | (refine Br_intro ?_ ?_ <;> intro h <;> simp only [go_sem, cond, Nat.reduceAdd, Nat.reduceLeDiff, Nat.reduceEqDiff, Nat.reduceBEq, decide_true, decide_false, Int.toNat_natCast, Rm.enc, En.enc, h, r])
    | (refine call_eq (l6EntryOk_ok _ _ e he) ?_; simp only [go_sem, cond, Nat.reduceAdd, Nat.reduceLeDiff, Nat.reduceEqDiff, Nat.reduceBEq, decide_true, decide_false, Int.toNat_natCast, Rm.enc, En.enc, r])
    | (refine call_eq (l6Is_ok _ _ R _ e (hr.old _)) ?_; simp only [go_sem, cond, Nat.reduceAdd, Nat.reduceLeDiff, Nat.reduceEqDiff, Nat.reduceBEq, decide_true, decide_false, Int.toNat_natCast, Rm.enc, En.enc, r])
    | (refine call_eq (l6Apply_ok _ _ R _ e (hr.old _) (ho.old _)) ?_; simp only [go_sem, cond, Nat.reduceAdd, Nat.reduceLeDiff, Nat.reduceEqDiff, Nat.reduceBEq, decide_true, decide_false, Int.toNat_natCast, r, obsR, adR]; refine call_eq (l6Ok_ok _ _ (applyR R e) (adR H (applyR R e) 2 3) (RmAt_own rfl rfl (by omega) (by omega)) hb2) ?_; simp only [go_sem, cond, Nat.reduceAdd, Nat.reduceLeDiff, Nat.reduceEqDiff, Nat.reduceBEq, decide_true, decide_false, Int.toNat_natCast, r]))
  all_goals refine ⟨congrArg Value.bool ?_, _, rfl⟩
  all_goals simp only [canB, needB, *, Bool.true_and, Bool.false_and, Bool.and_true, Bool.and_false, Bool.true_or, Bool.or_true, Bool.false_or, Bool.or_false]
end Go.Proofs.YtmacpgoclhgafaaDoorW.FA
namespace Go.Proofs.YtmacpgoclhgafaaDoorW.FA
open Go.RowKit Go.Proofs.YtmacpgoclhgafaaDoorW.XM Go.Proofs Go.Proofs.YtmacpgoclhgafaaDoorW.XWords
set_option maxRecDepth 100000
set_option linter.unusedSimpArgs false
variable (w0 : World) (H : Hp)
def outR (R : Rm) (e : En) : Rm := if canB R e = true then applyR R e else R
def zRoom : Value := .agg #[.string em, .int .i64 0, .slice none 0 0, .slice none 0 0, .string em]
theorem ren_roomT (R : Rm) (b : Bool) {sel : List Nat} {j k j' k' : Nat} (hj : idx j sel = some j') (hk : idx k sel = some k') : ren3 (rho H sel) (.tuple #[.agg (R.enc (adR H R j k)).toArray, .bool b]) = some (.tuple #[.agg (R.enc (adR H R j' k')).toArray, .bool b]) := by
  simp [ren3, ren2, renL, ren1, Rm.enc, adR, rho_nid, hj, hk, plain]
theorem RoomApplyS_no (R : Rm) (x : Ad) (e : En) (hr : RmAt w0 H R x) (hb : Big R) (hR : roomB R = false) : AFn Tryd.prog w0 11 #[.agg (R.enc x).toArray, .agg e.enc.toArray] H fun v H2 => v = .tuple #[zRoom, .bool false] ∧ H2 = H := by
  refine AFn.scal rfl Tryd.func11 rfl (by kernel_rfl) ?_
  have r := Tryd.results11
  simp only [go_sem, cond, Nat.reduceAdd, Nat.reduceLeDiff, Nat.reduceEqDiff, Nat.reduceBEq, decide_true, decide_false, Int.toNat_natCast, Rm.enc, En.enc, r]
  refine call_eq (l6Ok_ok _ _ R _ (hr.old _) hb) ?_
  simp only [go_sem, cond, Nat.reduceAdd, Nat.reduceLeDiff, Nat.reduceEqDiff, Nat.reduceBEq, decide_true, decide_false, Int.toNat_natCast, r, hR]
  exact ⟨rfl, _, rfl⟩
theorem RoomApplyS_ok (R : Rm) (x : Ad) (e : En) (hr : RmAt w0 H R x) (ho : RmOw w0 H R x) (hb : Big R) (he : BigE e) (lm : R.ms.length ≤ 1000) (lk : R.ks.length ≤ 1000) (hR : roomB R = true) : AFn Tryd.prog w0 11 #[.agg (R.enc x).toArray, .agg e.enc.toArray] H fun v H2 => v = .tuple #[.agg ((outR R e).enc (adR H (outR R e) 0 1)).toArray, .bool (canB R e)] ∧ H2 = Hx H (obsR (outR R e)) := by
  obtain ⟨xa, xc, xb, xd⟩ := x
  refine AFn.news Tryd.func11 rfl (by kernel_rfl) ?_
  have r := Tryd.results11
  simp only [go_sem, cond, Nat.reduceAdd, Nat.reduceLeDiff, Nat.reduceEqDiff, Nat.reduceBEq, decide_true, decide_false, Int.toNat_natCast, r]
  simp only [go_sem, cond, Nat.reduceAdd, Nat.reduceLeDiff, Nat.reduceEqDiff, Nat.reduceBEq, decide_true, decide_false, Int.toNat_natCast, Rm.enc, En.enc, r]
  refine call_eq (l6Ok_ok _ _ R _ (hr.old _) hb) ?_
  simp only [go_sem, cond, Nat.reduceAdd, Nat.reduceLeDiff, Nat.reduceEqDiff, Nat.reduceBEq, decide_true, decide_false, Int.toNat_natCast, r, hR]
  refine call_eq (l6Can_ok _ _ R _ e (hr.old _) (ho.old _) hb he lm lk) ?_
  simp only [go_sem, cond, Nat.reduceAdd, Nat.reduceLeDiff, Nat.reduceEqDiff, Nat.reduceBEq, decide_true, decide_false, Int.toNat_natCast, r]
  refine Br_intro ?_ ?_ <;> intro h <;> simp only [go_sem, cond, Nat.reduceAdd, Nat.reduceLeDiff, Nat.reduceEqDiff, Nat.reduceBEq, decide_true, decide_false, Int.toNat_natCast, r, h]
  · have ha : outR R e = applyR R e := by rw [outR, if_pos h]
    rw [ha]
    refine call_eq (l6Apply_ok _ _ R _ e (hr.old _) (ho.old _)) ?_
    simp only [go_sem, cond, Nat.reduceAdd, Nat.reduceLeDiff, Nat.reduceEqDiff, Nat.reduceBEq, decide_true, decide_false, Int.toNat_natCast, Rm.enc, r, obsR, adR]
    generalize applyR R e = R'
    exact ⟨_, [3, 4], _, rfl, pl2 R'.ms R'.ks rfl rfl, by decide, ren_roomT H R' true rfl rfl, rfl, rfl⟩
  · have ha : outR R e = R := by rw [outR, if_neg (by rw [h]; decide)]
    rw [ha]
    refine call_eq (l6Copy_ok _ _ R _ (hr.old _)) ?_
    simp only [go_sem, cond, Nat.reduceAdd, Nat.reduceLeDiff, Nat.reduceEqDiff, Nat.reduceBEq, decide_true, decide_false, Int.toNat_natCast, Rm.enc, r, obsR, adR]
    exact ⟨_, [3, 4], _, rfl, pl2 R.ms R.ks rfl rfl, by decide, ren_roomT H R false rfl rfl, rfl, rfl⟩
end Go.Proofs.YtmacpgoclhgafaaDoorW.FA
namespace Go.Proofs.YtmacpgoclhgafaaDoorW.FA
open Go.RowKit Go.Proofs.YtmacpgoclhgafaaDoorW.XM Go.Proofs Go.Proofs.YtmacpgoclhgafaaDoorW.XWords
set_option maxRecDepth 100000
set_option linter.unusedSimpArgs false
theorem ba_ext {x y : ByteArray} (h : x.toList = y.toList) : x = y := by
  rw [ByteArray.toList_eq, ByteArray.toList_eq] at h
  exact ByteArray.ext (Array.toList_inj.mp h)
theorem less_irrefl : ∀ x : List UInt8, Op.bytesLess x x = false
  | [] => rfl
  | a :: x => by
    simp only [Op.bytesLess, less_irrefl x, Bool.and_false, Bool.or_false, decide_eq_false_iff_not]
    exact UInt8.lt_irrefl a
theorem less_trans : ∀ x y z : List UInt8, Op.bytesLess x y = true → Op.bytesLess y z = true → Op.bytesLess x z = true
  | x, y, [], _, h => by cases y <;> simp [Op.bytesLess] at h
  | x, [], _ :: _, h, _ => by cases x <;> simp [Op.bytesLess] at h
  | [], _ :: _, _ :: _, _, _ => rfl
  | a :: x, b :: y, c :: z, h1, h2 => by
    have ih := less_trans x y z
    simp only [Op.bytesLess, Bool.or_eq_true, decide_eq_true_eq, Bool.and_eq_true, beq_iff_eq] at h1 h2 ⊢
    rcases h1 with h1 | ⟨rfl, h1⟩
    · rcases h2 with h2 | ⟨rfl, h2⟩
      · exact .inl (UInt8.lt_trans h1 h2)
      · exact .inl h1
    · rcases h2 with h2 | ⟨rfl, h2⟩
      · exact .inl h2
      · exact .inr ⟨rfl, ih h1 h2⟩
/-- In order: each stands behind the one ahead of it. -/
def Asc : List Rk → Prop
  | [] => True
  | x :: t => (∀ y ∈ t, Op.bytesLess x.user.toList y.user.toList = true) ∧ Asc t
theorem asc_pair : ∀ (l : List Rk), (∀ i (h : i + 1 < l.length), Op.bytesLess (l[i]'(Nat.lt_of_succ_lt h)).user.toList l[i + 1].user.toList = true) → Asc l
  | [], _ => trivial
  | [x], _ => ⟨fun y hy => absurd hy (by simp), trivial⟩
  | x :: y :: t, h => by
    have ih := asc_pair (y :: t) (fun i hi => h (i + 1) (by simpa using hi))
    refine ⟨fun z hz => ?_, ih⟩
    have h0 : Op.bytesLess x.user.toList y.user.toList = true := h 0 (by simp)
    rcases List.mem_cons.1 hz with rfl | hz
    · exact h0
    · exact less_trans _ _ _ h0 (ih.1 z hz)
theorem allI_get {α : Type} (p : Nat → α → Bool) : ∀ (l : List α) (i : Nat), allI p l i = true → ∀ j (h : j < l.length), p (i + j) l[j] = true
  | [], _, _, j, h => by simp at h
  | x :: t, i, ha, j, h => by
    simp only [allI, Bool.and_eq_true] at ha
    cases j with
    | zero => exact ha.1
    | succ j =>
      have := allI_get p t (i + 1) ha.2 j (by simpa using h)
      rw [show i + (j + 1) = i + 1 + j by omega]
      exact this
theorem asc_room {R : Rm} (h : allI (rkB R) R.ks 0 = true) : Asc R.ks := by
  refine asc_pair _ fun i hi => ?_
  have := allI_get _ _ _ h (i + 1) hi
  rw [Nat.zero_add] at this
  simp only [rkB, prevB, Bool.and_eq_true, List.getElem?_eq_getElem (Nat.lt_of_succ_lt hi)] at this
  exact this.2.1
/-- Without it; and set in. -/
def outK (u : ByteArray) : List Rk → List Rk
  | [] => []
  | x :: t => if x.user.toList = u.toList then outK u t else x :: outK u t
def inK (u : ByteArray) (num : Int) : List Rk → List Rk
  | [] => [⟨u, num⟩]
  | x :: t => if Op.bytesLess x.user.toList u.toList = true then (if x.user.toList = u.toList then inK u num t else x :: inK u num t) else ⟨u, num⟩ :: outK u (x :: t)
theorem out_all (u : ByteArray) : ∀ l : List Rk, (∀ x ∈ l, ¬ x.user.toList = u.toList) → outK u l = l
  | [], _ => rfl
  | x :: t, h => by
    rw [outK, if_neg (h x (List.mem_cons_self ..)), out_all u t (fun y hy => h y (List.mem_cons_of_mem _ hy))]
theorem ne_of_less {x y : List UInt8} (h : Op.bytesLess x y = true) : ¬ x = y := fun e => by rw [e, less_irrefl] at h; cases h
theorem tail_ne {x : Rk} {t : List Rk} {u : ByteArray} (ha : Asc (x :: t)) (hx : Op.bytesLess x.user.toList u.toList = false) : ∀ y ∈ t, ¬ y.user.toList = u.toList := fun y hy e => by
  have := ha.1 y hy
  rw [e, hx] at this
  cases this
/-- Where it stands, or would. -/
def atK (u : ByteArray) : List Rk → Nat
  | [] => 0
  | x :: t => if Op.bytesLess x.user.toList u.toList = true then atK u t + 1 else 0
def thereK (u : ByteArray) (l : List Rk) : Bool := match l[atK u l]? with
  | some k => k.user.toList == u.toList
  | none => false
theorem atK_le (u : ByteArray) : ∀ l : List Rk, atK u l ≤ l.length
  | [] => Nat.le_refl _
  | x :: t => by
    have := atK_le u t
    unfold atK
    split <;> simp <;> omega
theorem atK_lt (u : ByteArray) : ∀ (l : List Rk) (p : Nat) (hp : p < l.length), p < atK u l → Op.bytesLess l[p].user.toList u.toList = true
  | [], p, hp, _ => by simp at hp
  | x :: t, p, hp, h => by
    unfold atK at h
    split at h
    · rename_i hx
      cases p with
      | zero => exact hx
      | succ p => exact atK_lt u t p (by simpa using hp) (by omega)
    · omega
theorem atK_ge (u : ByteArray) : ∀ (l : List Rk), Asc l → ∀ (p : Nat) (hp : p < l.length), atK u l ≤ p → Op.bytesLess l[p].user.toList u.toList = false
  | [], _, p, hp, _ => by simp at hp
  | x :: t, ha, p, hp, h => by
    unfold atK at h
    split at h
    · cases p with
      | zero => omega
      | succ p => exact atK_ge u t ha.2 p (by simpa using hp) (by omega)
    · rename_i hx
      rw [Bool.not_eq_true] at hx
      cases p with
      | zero => exact hx
      | succ p =>
        have h1 := ha.1 (t[p]'(by simpa using hp)) (List.getElem_mem _)
        cases e : Op.bytesLess (x :: t)[p + 1].user.toList u.toList with
        | false => rfl
        | true =>
          have := less_trans _ _ _ h1 e
          rw [hx] at this
          cases this
/-- What the program's three ways come to. -/
def rankedI (u : ByteArray) (num : Int) (l : List Rk) : List Rk :=
  if thereK u l = true then (if num = 1 then l.eraseIdx (atK u l) else match l[atK u l]? with | some k => l.set (atK u l) ⟨k.user, num⟩ | none => l)
  else if num = 1 then l else l.take (atK u l) ++ ⟨u, num⟩ :: l.drop (atK u l)
theorem ranked_split (u : ByteArray) (num : Int) : ∀ (l : List Rk), Asc l → rankedI u num l = if num = 1 then outK u l else inK u num l
  | [], _ => by
    unfold rankedI thereK atK outK inK
    simp
  | x :: t, ha => by
    have ih := ranked_split u num t ha.2
    by_cases hx : Op.bytesLess x.user.toList u.toList = true
    · have hne := ne_of_less hx
      have e1 : atK u (x :: t) = atK u t + 1 := by rw [atK, if_pos hx]
      have e2 : thereK u (x :: t) = thereK u t := by unfold thereK; rw [e1]; simp
      have e3 : rankedI u num (x :: t) = x :: rankedI u num t := by
        unfold rankedI
        rw [e2, e1]
        simp only [List.getElem?_cons_succ]
        repeat' split
        all_goals simp
      rw [e3, ih, outK, inK, if_neg hne, if_pos hx, if_neg hne]
      split <;> rfl
    · rw [Bool.not_eq_true] at hx
      have ht := tail_ne ha hx
      have e1 : atK u (x :: t) = 0 := by rw [atK, if_neg (by rw [hx]; decide)]
      have e2 : thereK u (x :: t) = (x.user.toList == u.toList) := by unfold thereK; rw [e1]; rfl
      have ho : outK u (x :: t) = if x.user.toList = u.toList then t else x :: t := by rw [outK, out_all u t ht]
      have hi : inK u num (x :: t) = ⟨u, num⟩ :: outK u (x :: t) := by rw [inK, if_neg (by rw [hx]; decide)]
      rw [hi, ho]
      unfold rankedI
      rw [e2, e1]
      by_cases he : x.user.toList = u.toList
      · rw [if_pos he, if_pos (by rw [he]; simp)]
        obtain rfl : x.user = u := ba_ext he
        rfl
      · rw [if_neg he, if_neg (by rw [beq_iff_eq]; exact he)]
        rfl
theorem runK_true (u : ByteArray) (num : Int) : ∀ (l : List Rk) (acc : List Rk), runK u num l (true, acc) = (true, acc ++ outK u l)
  | [], acc => by simp [runK, outK]
  | x :: t, acc => by
    have e : runK u num (x :: t) (true, acc) = runK u num t (stpK u num x (true, acc)) := rfl
    rw [e, outK]
    by_cases h : x.user.toList = u.toList
    · have : stpK u num x (true, acc) = (true, acc) := by simp [stpK, h]
      rw [this, runK_true u num t, if_pos h]
    · have : stpK u num x (true, acc) = (true, acc ++ [x]) := by simp [stpK, h]
      rw [this, runK_true u num t, if_neg h]
      simp
theorem runK_false (u : ByteArray) (num : Int) : ∀ (l : List Rk) (acc : List Rk), (let r := runK u num l (false, acc); if r.1 = true then r.2 else r.2 ++ [⟨u, num⟩]) = acc ++ inK u num l
  | [], acc => by simp [runK, inK]
  | x :: t, acc => by
    have e : runK u num (x :: t) (false, acc) = runK u num t (stpK u num x (false, acc)) := rfl
    rw [e, inK]
    by_cases hx : Op.bytesLess x.user.toList u.toList = true
    · by_cases h : x.user.toList = u.toList
      · exact absurd h (ne_of_less hx)
      · have : stpK u num x (false, acc) = (false, acc ++ [x]) := by simp [stpK, h, hx]
        rw [this, if_pos hx, if_neg h]
        have := runK_false u num t (acc ++ [x])
        rw [this]
        simp
    · rw [if_neg hx, outK]
      rw [Bool.not_eq_true] at hx
      by_cases h : x.user.toList = u.toList
      · have : stpK u num x (false, acc) = (true, acc ++ [⟨u, num⟩]) := by simp [stpK, h, less_irrefl]
        rw [this, runK_true, if_pos h]
        simp
      · have : stpK u num x (false, acc) = (true, acc ++ [⟨u, num⟩] ++ [x]) := by simp [stpK, h, hx]
        rw [this, runK_true, if_neg h]
        simp
theorem rkd_ranked (u : ByteArray) (num : Int) (l : List Rk) (ha : Asc l) : rkd u num l = rankedI u num l := by
  rw [ranked_split u num l ha]
  by_cases hn : num = 1
  · rw [if_pos hn]
    subst hn
    unfold rkd
    rw [show ((1 : Int) == 1) = true from rfl, runK_true]
    rfl
  · rw [if_neg hn]
    unfold rkd
    rw [beq_eq_false_iff_ne.mpr hn]
    exact (runK_false u num l []).trans (List.nil_append _)
end Go.Proofs.YtmacpgoclhgafaaDoorW.FA
namespace Go.Proofs.YtmacpgoclhgafaaDoorW.FA
open Go.RowKit Go.Proofs.YtmacpgoclhgafaaDoorW.XM Go.Proofs Go.Proofs.YtmacpgoclhgafaaDoorW.XWords
set_option maxRecDepth 100000
set_option linter.unusedSimpArgs false
variable (w0 : World) (H : Hp)
def cmpS (a b : ByteArray) : Int := if Op.bytesLess a.toList b.toList = true then -1 else if (Op.bytesLess a.toList b.toList || a.toList == b.toList) = true then 0 else 1
theorem isNaN_ok (a : ByteArray) : AFn Tryd.prog w0 163 #[.string a] H fun v H2 => v = .bool false ∧ H2 = H := by
  refine AFn.scal rfl Tryd.func163 rfl (by kernel_rfl) ?_
  have r := Tryd.results163
  simp only [go_sem, cond, Nat.reduceAdd, Nat.reduceLeDiff, Nat.reduceEqDiff, Nat.reduceBEq, decide_true, decide_false, Int.toNat_natCast, r]
  exact ⟨by simp, _, rfl⟩
theorem Compare_ok (a b : ByteArray) : AFn Tryd.prog w0 148 #[.string a, .string b] H fun v H2 => v = .int .i64 (cmpS a b) ∧ H2 = H := by
  refine AFn.scal rfl Tryd.func148 rfl (by kernel_rfl) ?_
  have r := Tryd.results148
  simp only [go_sem, cond, Nat.reduceAdd, Nat.reduceLeDiff, Nat.reduceEqDiff, Nat.reduceBEq, decide_true, decide_false, Int.toNat_natCast, r]
  repeat' (first
    | (refine call_eq (isNaN_ok _ _ _) ?_; simp only [go_sem, cond, Nat.reduceAdd, Nat.reduceLeDiff, Nat.reduceEqDiff, Nat.reduceBEq, decide_true, decide_false, Int.toNat_natCast, r])
    | (refine Br_intro ?_ ?_ <;> intro h <;> simp only [go_sem, cond, Nat.reduceAdd, Nat.reduceLeDiff, Nat.reduceEqDiff, Nat.reduceBEq, decide_true, decide_false, Int.toNat_natCast, h, r]))
  all_goals (refine ⟨congrArg (Value.int .i64) ?_, _, rfl⟩; unfold cmpS; simp only [*, if_true, Bool.false_eq_true, if_false])
theorem ranked1_ok (k : Rk) (u : ByteArray) : AFn Tryd.prog w0 147 #[.agg k.enc.toArray, .string u] H fun v H2 => v = .int .i64 (cmpS k.user u) ∧ H2 = H := by
  refine AFn.scal rfl Tryd.func147 rfl (by kernel_rfl) ?_
  have r := Tryd.results147
  simp only [go_sem, cond, Nat.reduceAdd, Nat.reduceLeDiff, Nat.reduceEqDiff, Nat.reduceBEq, decide_true, decide_false, Int.toNat_natCast, r]
  simp only [go_sem, cond, Nat.reduceAdd, Nat.reduceLeDiff, Nat.reduceEqDiff, Nat.reduceBEq, decide_true, decide_false, Int.toNat_natCast, Rk.enc, r]
  refine call_eq (Compare_ok _ _ _ _) ?_
  simp only [go_sem, cond, Nat.reduceAdd, Nat.reduceLeDiff, Nat.reduceEqDiff, Nat.reduceBEq, decide_true, decide_false, Int.toNat_natCast, r]
  exact ⟨_, rfl⟩
theorem cmp_lt (a b : ByteArray) : decide (cmpS a b < 0) = Op.bytesLess a.toList b.toList := by
  unfold cmpS
  split
  · next h => simp [h]
  · next h => split <;> simp [h]
theorem cmp_eq (a b : ByteArray) : (cmpS a b == 0) = (a.toList == b.toList) := by
  unfold cmpS
  split
  · next h =>
    cases e : (a.toList == b.toList) with
    | false => rfl
    | true =>
      rw [beq_iff_eq] at e
      rw [e, less_irrefl] at h
      cases h
  · next h => split <;> simp_all
theorem bin_shr1 {P : Program} (t : TypeId) (c : Bool) (x : Int) : xBin P .shr t c (.int .u64 x) (.int .u64 1) = some (.int .u64 (x.fdiv 2)) := by
  simp [xBin, IntKind.bits]
theorem search_ok (A : Option Addr) (c : Nat) (ks : List Rk) (u : ByteArray) (ha : Asc ks) (hs : Sl w0 H A 2 (ks.map Rk.enc)) (hl : ks.length ≤ 2000000) : AFn Tryd.prog w0 146 #[.slice A ks.length c, .string u, .func (.func 147) #[] #[]] H fun v H2 => v = .tuple #[.int .i64 (atK u ks), .bool (thereK u ks)] ∧ H2 = H := by
  refine AFn.scal rfl Tryd.func146 rfl (by kernel_rfl) ?_
  have r := Tryd.results146
  simp only [go_sem, cond, Nat.reduceAdd, Nat.reduceLeDiff, Nat.reduceEqDiff, Nat.reduceBEq, decide_true, decide_false, Int.toNat_natCast, r]
  have hm := atK_le u ks
  refine xw_loop (fun (q : Nat × Nat) T H' => q.1 ≤ atK u ks ∧ atK u ks ≤ q.2 ∧ q.2 ≤ ks.length ∧ T 0 = .slice A ks.length c ∧ T 1 = .string u ∧ T 2 = .func (.func 147) #[] #[] ∧ T 8 = .int .i64 ks.length ∧ T 9 = .int .i64 q.1 ∧ T 10 = .int .i64 q.2 ∧ H' = Hx H []) (fun q => q.2 - q.1) (0, ks.length) (by kernel_rfl) ⟨Nat.zero_le _, hm, Nat.le_refl _, rfl, rfl, rfl, rfl, rfl, rfl, rfl⟩ ?_
  rintro ⟨i, j⟩ T H' ⟨h1, h2, h3, t0, t1, t2, t8, t9, t10, rfl⟩
  simp only at h1 h2 h3 t9 t10
  by_cases hlt : i < j
  · have d1 : ((i : Int) < (j : Int)) = True := eq_true (by omega)
    have w1 : IntKind.i64.wrap ((i : Int) + (j : Int)) = ((i + j : Nat) : Int) := by rw [wrap_i64 (by omega) (by omega)]; omega
    have w2 : IntKind.u64.wrap ((i + j : Nat) : Int) = ((i + j : Nat) : Int) := by simp only [IntKind.wrap, IntKind.signed, IntKind.bits]; simp; omega
    have w3 : ((i + j : Nat) : Int).fdiv 2 = (((i + j) / 2 : Nat) : Int) := by rw [Int.fdiv_eq_ediv_of_nonneg _ (by omega)]; omega
    have w4 : IntKind.i64.wrap ((((i + j) / 2 : Nat)) : Int) = (((i + j) / 2 : Nat) : Int) := wrap_i64 (by omega) (by omega)
    have hlt2 : (i + j) / 2 < ks.length := by omega
    obtain ⟨b, o, sp, rfl, _, hc⟩ := mcell hs hlt2
    have c0 := fun L => hc L rfl
    have d2 : (0 ≤ ((((i + j) / 2 : Nat)) : Int)) = True := eq_true (by omega)
    have d3 : (((((i + j) / 2 : Nat)) : Int) < (ks.length : Int)) = True := eq_true (by omega)
    simp only [Rk.enc] at c0
    simp only [go_sem, cond, Nat.reduceAdd, Nat.reduceLeDiff, Nat.reduceEqDiff, Nat.reduceBEq, decide_true, decide_false, Int.toNat_natCast, t0, t1, t2, t8, t9, t10, d1, w1, w2, bin_shr1, w3, w4, d2, d3, c0, r]
    refine call_eq (ranked1_ok _ _ ks[(i + j) / 2] u) ?_
    simp only [go_sem, cond, Nat.reduceAdd, Nat.reduceLeDiff, Nat.reduceEqDiff, Nat.reduceBEq, decide_true, decide_false, Int.toNat_natCast, t0, t1, t2, t8, t9, t10, r, cmp_lt]
    refine Br_intro ?_ ?_ <;> intro h <;> simp only [go_sem, cond, Nat.reduceAdd, Nat.reduceLeDiff, Nat.reduceEqDiff, Nat.reduceBEq, decide_true, decide_false, Int.toNat_natCast, h, t0, t1, t2, t8, t9, t10, r]
    · have h5 : (i + j) / 2 < atK u ks := by
        rcases Nat.lt_or_ge ((i + j) / 2) (atK u ks) with h5 | h5
        · exact h5
        · rw [atK_ge u ks ha _ hlt2 h5] at h; cases h
      have w5 : IntKind.i64.wrap ((((i + j) / 2 : Nat) : Int) + 1) = (((i + j) / 2 + 1 : Nat) : Int) := by rw [wrap_i64 (by omega) (by omega)]; omega
      exact ⟨((i + j) / 2 + 1, j), ⟨h5, h2, h3, t0, t1, t2, t8, congrArg (Value.int .i64) w5, t10, rfl⟩, by simp only; omega⟩
    · have h5 : atK u ks ≤ (i + j) / 2 := by
        rcases Nat.lt_or_ge ((i + j) / 2) (atK u ks) with h5 | h5
        · rw [atK_lt u ks _ hlt2 h5] at h; cases h
        · exact h5
      exact ⟨(i, (i + j) / 2), ⟨h1, h5, by simp only; omega, t0, t1, t2, t8, t9, rfl, rfl⟩, by simp only; omega⟩
  · obtain rfl : i = j := by omega
    obtain rfl : i = atK u ks := by omega
    have d1 : ((atK u ks : Int) < (atK u ks : Int)) = False := eq_false (by omega)
    by_cases hlt2 : atK u ks < ks.length
    · have d2 : ((atK u ks : Int) < (ks.length : Int)) = True := eq_true (by omega)
      have d3 : ((0 : Int) ≤ (atK u ks : Int)) = True := eq_true (by omega)
      obtain ⟨b, o, sp, rfl, _, hc⟩ := mcell hs hlt2
      have c0 := fun L => hc L rfl
      simp only [Rk.enc] at c0
      simp only [go_sem, cond, Nat.reduceAdd, Nat.reduceLeDiff, Nat.reduceEqDiff, Nat.reduceBEq, decide_true, decide_false, Int.toNat_natCast, t0, t1, t2, t8, t9, t10, d1, d2, d3, c0, r]
      refine call_eq (ranked1_ok _ _ ks[atK u ks] u) ?_
      simp only [go_sem, cond, Nat.reduceAdd, Nat.reduceLeDiff, Nat.reduceEqDiff, Nat.reduceBEq, decide_true, decide_false, Int.toNat_natCast, t0, t1, t2, t8, t9, t10, cmp_eq, r]
      have e : thereK u ks = (ks[atK u ks].user.toList == u.toList) := by unfold thereK; rw [List.getElem?_eq_getElem hlt2]
      exact ⟨by rw [e], _, rfl⟩
    · have d2 : ((atK u ks : Int) < (ks.length : Int)) = False := eq_false (by omega)
      simp only [go_sem, cond, Nat.reduceAdd, Nat.reduceLeDiff, Nat.reduceEqDiff, Nat.reduceBEq, decide_true, decide_false, Int.toNat_natCast, t0, t1, t2, t8, t9, t10, d1, d2, r]
      have e : thereK u ks = false := by unfold thereK; rw [List.getElem?_eq_none (by omega)]
      exact ⟨by rw [e], _, rfl⟩
end Go.Proofs.YtmacpgoclhgafaaDoorW.FA
namespace Go.Proofs.YtmacpgoclhgafaaDoorW.FA
open Go.RowKit Go.Proofs.YtmacpgoclhgafaaDoorW.XM Go.Proofs Go.Proofs.YtmacpgoclhgafaaDoorW.XWords
set_option maxRecDepth 100000
set_option linter.unusedSimpArgs false
variable (w0 : World) (H : Hp)
theorem del_cells {α : Type} {enc : α → List Value} {n : Nat} (he : ∀ a, (enc a).length = n) {z : List Value} (hz : z.length = n) (rows : List α) (i : Nat) (hi : i < rows.length) :
    putL (putL (flat enc rows) (0 + i * n) (flat enc (rows.drop (i + 1)))) (0 + (rows.length - 1) * n) z = flat enc (rows.eraseIdx i) ++ z := by
  have e1 : flat enc rows = flat enc (rows.take i) ++ flat enc (rows.drop i) := by rw [← flat_app, List.take_append_drop]
  have l1 : (flat enc (rows.take i)).length = 0 + i * n := by rw [flat_len he, List.length_take, Nat.min_eq_left (by omega)]; omega
  have l2 : (flat enc (rows.drop (i + 1))).length = (rows.length - (i + 1)) * n := by rw [flat_len he, List.length_drop]
  have l3 : (flat enc (rows.drop i)).length = (rows.length - i) * n := by rw [flat_len he, List.length_drop]
  have hle : (rows.length - (i + 1)) * n + n = (rows.length - i) * n := by rw [← Nat.succ_mul]; congr 1; omega
  rw [e1, ← l1, putL_mid _ _ _ (by omega)]
  have e2 : rows.eraseIdx i = rows.take i ++ rows.drop (i + 1) := List.eraseIdx_eq_take_drop_succ ..
  have e3 : flat enc (rows.take i) ++ (flat enc (rows.drop (i + 1)) ++ (flat enc (rows.drop i)).drop (flat enc (rows.drop (i + 1))).length) = flat enc (rows.eraseIdx i) ++ (flat enc (rows.drop i)).drop (flat enc (rows.drop (i + 1))).length := by rw [e2, flat_app, List.append_assoc]
  have l4 : (flat enc (rows.eraseIdx i)).length = 0 + (rows.length - 1) * n := by rw [flat_len he, List.length_eraseIdx, if_pos hi]; omega
  first
    | rw [e3]
    | rw [List.append_assoc, e3]
  rw [← l4, putL_mid _ _ _ (by rw [List.length_drop, l2, l3, hz]; omega)]
  have l5 : ((flat enc (rows.drop i)).drop (flat enc (rows.drop (i + 1))).length).length = n := by rw [List.length_drop, l2, l3]; omega
  rw [List.drop_of_length_le (by rw [l5, hz]; exact Nat.le_refl _), List.append_nil]
theorem delM_ok (B : Hp) (l : List (Option Ob)) (j : Nat) (rows : List Mem) (i : Nat) (hi : i < rows.length) (hn : rows.length ≤ 2000000) (hj : l[j]? = some (some (.row 60 (flat Mem.enc rows)))) :
    AFn Tryd.prog w0 110 #[.slice (some ⟨nid B j, 0, some (rows.length * 3)⟩) rows.length rows.length, .int .i64 i, .int .i64 ((i + 1 : Nat) : Int)] (Hx B l) fun v H2 => v = .slice (some ⟨nid B j, 0, some (rows.length * 3)⟩) (rows.length - 1) rows.length ∧ H2 = Hx B (l.set j (some (.row 60 (flat Mem.enc (rows.eraseIdx i) ++ [.string em, .string em, .int .i64 0])))) := by
  refine AFn_of Tryd.func110 rfl (by kernel_rfl) ?_
  have r := Tryd.results110
  have hlj : j < l.length := lt_of_get hj
  have how : ∀ L, Go.Proofs.YtmacpgoclhgafaaDoorW.XM.ownB Tryd.prog (Hx (Hx B l) L) 3 (nid B j) (some (rows.length * 3)) := fun L => ⟨_, flat Mem.enc rows, false || true, by rw [Hx_Hx, Hx_get, List.getElem?_append_left hlj]; exact hj, flat_len mlen rows, XF.lay_60⟩
  have how0 := how []
  rw [Hx_nil] at how0
  have w1 : ((i : Int) == ((i + 1 : Nat) : Int)) = false := by rw [beq_eq_false_iff_ne]; omega
  obtain ⟨a1, c1, hc1, s1, q1⟩ := slc_part (H := Hx B l) mlen (by decide) (rd_flat mlen _ rows B l j hj) (Nat.le_refl _) how (l := i + 1) (h := rows.length) (by omega) (by omega) (by omega)
  have s2 := fun t e lo hi bb ee K k => s1 t e [] lo hi bb ee K k
  have q2 := q1 []
  have e3 : (rows.drop (i + 1)).take (rows.length - (i + 1)) = rows.drop (i + 1) := List.take_of_length_le (by simp)
  rw [e3] at q2
  simp only [Hx_nil] at s2 q2
  clear s1 q1
  simp only [go_sem, cond, Nat.reduceAdd, Nat.reduceLeDiff, Nat.reduceEqDiff, Nat.reduceBEq, decide_true, decide_false, Int.toNat_natCast, r]
  refine slc_three XF.elm_30 rfl _ _ _ _ (by omega) (by omega) (by omega) (by omega) how0 (fun v => ?_)
  simp only [go_sem, cond, Nat.reduceAdd, Nat.reduceLeDiff, Nat.reduceEqDiff, Nat.reduceBEq, decide_true, decide_false, Int.toNat_natCast, r, w1]
  (refine xw_open (id := 5) [0, 0, 3, 0, 0, 24, 63, 127] [.q 0, .q 1, .q 3, .q 4, .q 2, .q 5, .e 6, .q 7] rfl (by kernel_rfl) ?_; simp only [go_sem, cond, Nat.reduceAdd, Nat.reduceLeDiff, Nat.reduceEqDiff, Nat.reduceBEq, decide_true, decide_false, Int.toNat_natCast, r])
  refine slc_sl XF.elm_30 rfl rfl _ _ _ _ (by omega) (by omega) (by omega) how0 (.inl rfl) ?_
  simp only [go_sem, cond, Nat.reduceAdd, Nat.reduceLeDiff, Nat.reduceEqDiff, Nat.reduceBEq, decide_true, decide_false, Int.toNat_natCast, r]
  refine s2 _ _ _ _ _ _ _ _ XF.elm_30 rfl rfl ?_
  simp only [go_sem, cond, Nat.reduceAdd, Nat.reduceLeDiff, Nat.reduceEqDiff, Nat.reduceBEq, decide_true, decide_false, Int.toNat_natCast, r, q2, Nat.sub_zero]
  have hle : i * 3 + (rows.length - (i + 1)) * 3 ≤ rows.length * 3 := by rw [← Nat.add_mul]; exact Nat.mul_le_mul_right _ (by omega)
  refine appS_room _ _ _ _ _ _ _ _ _ _ _ _ _ _ _ _ hj (flat_len mlen rows) XF.lay_60 (by omega) (by rw [flat_len mlen, List.length_drop]; omega) ?_
  have hlen2 : (putL (flat Mem.enc rows) (i * 3) (flat Mem.enc (rows.drop (i + 1)))).length = rows.length * 3 := by rw [putL_len, flat_len mlen]
  have gs : ∀ X : Option Ob, (l.set j X)[j]? = some X := fun X => by rw [List.getElem?_set_self hlj]
  have how3 : Go.Proofs.YtmacpgoclhgafaaDoorW.XM.ownB Tryd.prog (Hx B (l.set j (some (.row 60 (putL (flat Mem.enc rows) (i * 3) (flat Mem.enc (rows.drop (i + 1)))))))) 3 (nid B j) (some (rows.length * 3)) := ⟨_, _, false || true, by rw [Hx_get, gs], hlen2, XF.lay_60⟩
  have e4 : i + (rows.length - (i + 1)) = rows.length - 1 := by omega
  rw [e4]
  simp only [go_sem, cond, Nat.reduceAdd, Nat.reduceLeDiff, Nat.reduceEqDiff, Nat.reduceBEq, decide_true, decide_false, Int.toNat_natCast, r]
  refine slc_sl XF.elm_30 rfl rfl _ _ _ _ (by omega) (by omega) (by omega) how3 (.inr (by omega)) ?_
  have e5 : (((rows.length : Nat) : Int)).toNat - (((rows.length - 1 : Nat) : Int)).toNat = 1 := by omega
  rw [e5]
  simp only [go_sem, cond, Nat.reduceAdd, Nat.reduceLeDiff, Nat.reduceEqDiff, Nat.reduceBEq, decide_true, decide_false, Int.toNat_natCast, r]
  refine clr_own _ rfl XF.elm_30 XF.zer_60 rfl (by rw [gs]) hlen2 XF.lay_60 (by omega) ?_
  simp only [go_sem, cond, Nat.reduceAdd, Nat.reduceLeDiff, Nat.reduceEqDiff, Nat.reduceBEq, decide_true, decide_false, Int.toNat_natCast, r]
  rw [List.set_set]
  have := del_cells mlen (z := [.string em, .string em, .int .i64 0]) rfl rows i hi
  simp only [Nat.zero_add] at this ⊢
  rw [← this]
  simp
theorem delK_ok (B : Hp) (l : List (Option Ob)) (j : Nat) (rows : List Rk) (i : Nat) (hi : i < rows.length) (hn : rows.length ≤ 2000000) (hj : l[j]? = some (some (.row 58 (flat Rk.enc rows)))) :
    AFn Tryd.prog w0 149 #[.slice (some ⟨nid B j, 0, some (rows.length * 2)⟩) rows.length rows.length, .int .i64 i, .int .i64 ((i + 1 : Nat) : Int)] (Hx B l) fun v H2 => v = .slice (some ⟨nid B j, 0, some (rows.length * 2)⟩) (rows.length - 1) rows.length ∧ H2 = Hx B (l.set j (some (.row 58 (flat Rk.enc (rows.eraseIdx i) ++ [.string em, .int .i64 0])))) := by
  refine AFn_of Tryd.func149 rfl (by kernel_rfl) ?_
  have r := Tryd.results149
  have hlj : j < l.length := lt_of_get hj
  have how : ∀ L, Go.Proofs.YtmacpgoclhgafaaDoorW.XM.ownB Tryd.prog (Hx (Hx B l) L) 2 (nid B j) (some (rows.length * 2)) := fun L => ⟨_, flat Rk.enc rows, false || true, by rw [Hx_Hx, Hx_get, List.getElem?_append_left hlj]; exact hj, flat_len klen rows, XF.lay_58⟩
  have how0 := how []
  rw [Hx_nil] at how0
  have w1 : ((i : Int) == ((i + 1 : Nat) : Int)) = false := by rw [beq_eq_false_iff_ne]; omega
  obtain ⟨a1, c1, hc1, s1, q1⟩ := slc_part (H := Hx B l) klen (by decide) (rd_flat klen _ rows B l j hj) (Nat.le_refl _) how (l := i + 1) (h := rows.length) (by omega) (by omega) (by omega)
  have s2 := fun t e lo hi bb ee K k => s1 t e [] lo hi bb ee K k
  have q2 := q1 []
  have e3 : (rows.drop (i + 1)).take (rows.length - (i + 1)) = rows.drop (i + 1) := List.take_of_length_le (by simp)
  rw [e3] at q2
  simp only [Hx_nil] at s2 q2
  clear s1 q1
  simp only [go_sem, cond, Nat.reduceAdd, Nat.reduceLeDiff, Nat.reduceEqDiff, Nat.reduceBEq, decide_true, decide_false, Int.toNat_natCast, r]
  refine slc_three XF.elm_31 rfl _ _ _ _ (by omega) (by omega) (by omega) (by omega) how0 (fun v => ?_)
  simp only [go_sem, cond, Nat.reduceAdd, Nat.reduceLeDiff, Nat.reduceEqDiff, Nat.reduceBEq, decide_true, decide_false, Int.toNat_natCast, r, w1]
  (refine xw_open (id := 5) [0, 0, 3, 0, 0, 24, 63, 127] [.q 0, .q 1, .q 3, .q 4, .q 2, .q 5, .e 6, .q 7] rfl (by kernel_rfl) ?_; simp only [go_sem, cond, Nat.reduceAdd, Nat.reduceLeDiff, Nat.reduceEqDiff, Nat.reduceBEq, decide_true, decide_false, Int.toNat_natCast, r])
  refine slc_sl XF.elm_31 rfl rfl _ _ _ _ (by omega) (by omega) (by omega) how0 (.inl rfl) ?_
  simp only [go_sem, cond, Nat.reduceAdd, Nat.reduceLeDiff, Nat.reduceEqDiff, Nat.reduceBEq, decide_true, decide_false, Int.toNat_natCast, r]
  refine s2 _ _ _ _ _ _ _ _ XF.elm_31 rfl rfl ?_
  simp only [go_sem, cond, Nat.reduceAdd, Nat.reduceLeDiff, Nat.reduceEqDiff, Nat.reduceBEq, decide_true, decide_false, Int.toNat_natCast, r, q2, Nat.sub_zero]
  have hle : i * 2 + (rows.length - (i + 1)) * 2 ≤ rows.length * 2 := by rw [← Nat.add_mul]; exact Nat.mul_le_mul_right _ (by omega)
  refine appS_room _ _ _ _ _ _ _ _ _ _ _ _ _ _ _ _ hj (flat_len klen rows) XF.lay_58 (by omega) (by rw [flat_len klen, List.length_drop]; omega) ?_
  have hlen2 : (putL (flat Rk.enc rows) (i * 2) (flat Rk.enc (rows.drop (i + 1)))).length = rows.length * 2 := by rw [putL_len, flat_len klen]
  have gs : ∀ X : Option Ob, (l.set j X)[j]? = some X := fun X => by rw [List.getElem?_set_self hlj]
  have how3 : Go.Proofs.YtmacpgoclhgafaaDoorW.XM.ownB Tryd.prog (Hx B (l.set j (some (.row 58 (putL (flat Rk.enc rows) (i * 2) (flat Rk.enc (rows.drop (i + 1)))))))) 2 (nid B j) (some (rows.length * 2)) := ⟨_, _, false || true, by rw [Hx_get, gs], hlen2, XF.lay_58⟩
  have e4 : i + (rows.length - (i + 1)) = rows.length - 1 := by omega
  rw [e4]
  simp only [go_sem, cond, Nat.reduceAdd, Nat.reduceLeDiff, Nat.reduceEqDiff, Nat.reduceBEq, decide_true, decide_false, Int.toNat_natCast, r]
  refine slc_sl XF.elm_31 rfl rfl _ _ _ _ (by omega) (by omega) (by omega) how3 (.inr (by omega)) ?_
  have e5 : (((rows.length : Nat) : Int)).toNat - (((rows.length - 1 : Nat) : Int)).toNat = 1 := by omega
  rw [e5]
  simp only [go_sem, cond, Nat.reduceAdd, Nat.reduceLeDiff, Nat.reduceEqDiff, Nat.reduceBEq, decide_true, decide_false, Int.toNat_natCast, r]
  refine clr_own _ rfl XF.elm_31 XF.zer_58 rfl (by rw [gs]) hlen2 XF.lay_58 (by omega) ?_
  simp only [go_sem, cond, Nat.reduceAdd, Nat.reduceLeDiff, Nat.reduceEqDiff, Nat.reduceBEq, decide_true, decide_false, Int.toNat_natCast, r]
  rw [List.set_set]
  have := del_cells klen (z := [.string em, .int .i64 0]) rfl rows i hi
  simp only [Nat.zero_add] at this ⊢
  rw [← this]
  simp
end Go.Proofs.YtmacpgoclhgafaaDoorW.FA
namespace Go.Proofs.YtmacpgoclhgafaaDoorW.FA
open Go.RowKit Go.Proofs.YtmacpgoclhgafaaDoorW.XM Go.Proofs Go.Proofs.YtmacpgoclhgafaaDoorW.XWords
set_option maxRecDepth 100000
set_option linter.unusedSimpArgs false
variable (w0 : World) (H : Hp)
theorem slc_anyX {P : Program} {t : TypeId} {e m : Nat} (he : elm P t = some (e, m)) {b o : Nat} {sp : Option Nat} {len cap : Nat} {lo hi : Option Value} {l h' : Int} (h1 : bnd lo 0 = some l) (h2 : bnd hi len = some h') (H : Hp) {K : Value → Hp → Prop} (k : Lk K) (bb : Bool) (ee : Option (TypeId × Nat))
    (h3 : 0 ≤ l) (h4 : l ≤ h') (h5 : h' ≤ cap) (ho : Go.Proofs.YtmacpgoclhgafaaDoorW.XM.ownB P H m b sp) (hk : ∀ v, K v H) : slcV P w0 t bb ee (xs (.slice (some ⟨b, o, sp⟩) len cap)) lo hi none H k :=
  ⟨e, m, he, by simp, l, h', cap, h1, h2, rfl, h3, h4, h5, Int.le_refl _, ho, hk _⟩
theorem ins_cells {α : Type} {enc : α → List Value} {n : Nat} (he : ∀ a, (enc a).length = n) {z : List Value} (hz : z.length = n) (rows : List α) (y : α) (i : Nat) (hi : i ≤ rows.length) :
    putL (putL (flat enc (rows.take i) ++ (List.replicate (rows.length + 1 - i) z).flatten) (i * n) (enc y)) ((i + 1) * n) (flat enc (rows.drop i)) = flat enc (rows.take i ++ y :: rows.drop i) := by
  have l1 : (flat enc (rows.take i)).length = i * n := by rw [flat_len he, List.length_take, Nat.min_eq_left (by omega)]
  have l3 : (flat enc (rows.drop i)).length = (rows.length - i) * n := by rw [flat_len he, List.length_drop]
  have lz : ∀ m, (List.replicate m z).flatten.length = m * n := fun m => by simp [hz]
  have e1 : (List.replicate (rows.length + 1 - i) z).flatten = z ++ (List.replicate (rows.length - i) z).flatten := by rw [show rows.length + 1 - i = (rows.length - i) + 1 by omega, List.replicate_succ, List.flatten_cons]
  rw [← l1, putL_mid _ _ _ (by rw [e1, List.length_append, he, hz]; omega), e1, he, ← hz, List.drop_left]
  have l2 : (flat enc (rows.take i) ++ enc y).length = (i + 1) * z.length := by rw [List.length_append, l1, he, hz, Nat.succ_mul]
  rw [← l2]
  have := putL_mid (flat enc (rows.drop i)) (flat enc (rows.take i) ++ enc y) ((List.replicate (rows.length - i) z).flatten) (by rw [l3, lz]; exact Nat.le_refl _)
  first
    | rw [← List.append_assoc, this]
    | rw [this]
  have e5 : ((List.replicate (rows.length - i) z).flatten).drop (flat enc (rows.drop i)).length = [] := List.drop_of_length_le (by rw [l3, lz]; exact Nat.le_refl _)
  rw [e5, List.append_nil, flat_app]
  simp [flat]
theorem insK_ok (B : Hp) (l : List (Option Ob)) (j q : Nat) (rows : List Rk) (y : Rk) (i : Nat) (hi : i ≤ rows.length) (hn : rows.length ≤ 2000000) (hj : l[j]? = some (some (.row 58 (flat Rk.enc rows)))) (hq : l[q]? = some (some (.row 58 y.enc))) :
    AFn Tryd.prog w0 150 #[xs (.slice (some ⟨nid B j, 0, some (rows.length * 2)⟩) rows.length rows.length), .int .i64 i, .slice (some ⟨nid B q, 0, some 2⟩) 1 1] (Hx B l) fun v H2 => v = .slice (some ⟨nid B l.length, 0, some ((rows.length + 1) * 2)⟩) (rows.length + 1) (rows.length + 1) ∧ H2 = Hx B (l ++ [some (.row 58 (flat Rk.enc (rows.take i ++ y :: rows.drop i)))]) := by
  refine AFn_of Tryd.func150 rfl (by kernel_rfl) ?_
  have r := Tryd.results150
  have hlj : j < l.length := lt_of_get hj
  have hlq : q < l.length := lt_of_get hq
  have how : ∀ L, Go.Proofs.YtmacpgoclhgafaaDoorW.XM.ownB Tryd.prog (Hx B (l ++ L)) 2 (nid B j) (some (rows.length * 2)) := fun L => ⟨_, flat Rk.enc rows, false || true, by rw [Hx_get, List.getElem?_append_left hlj]; exact hj, flat_len klen rows, XF.lay_58⟩
  have how0 := how []
  rw [List.append_nil] at how0
  have rdj := fun L => rd_flat (w0 := w0) klen _ rows B l j hj L
  have rdq : rd w0 (Hx B l) ⟨nid B q, 0, some 2⟩ (1 * 2) = some y.enc := by rw [rd_own, hq]; rfl
  simp only [go_sem, cond, Nat.reduceAdd, Nat.reduceLeDiff, Nat.reduceEqDiff, Nat.reduceBEq, decide_true, decide_false, Int.toNat_natCast, r]
  refine slc_anyX _ XF.elm_31 rfl rfl _ _ _ _ (by omega) (by omega) (by omega) how0 (fun v => ?_)
  simp only [go_sem, cond, Nat.reduceAdd, Nat.reduceLeDiff, Nat.reduceEqDiff, Nat.reduceBEq, decide_true, decide_false, Int.toNat_natCast, r]
  have d0 : (((1 : Nat) : Int) == 0) = false := rfl
  by_cases he : i = rows.length
  · subst he
    simp only [go_sem, cond, Nat.reduceAdd, Nat.reduceLeDiff, Nat.reduceEqDiff, Nat.reduceBEq, decide_true, decide_false, Int.toNat_natCast, r, d0, beq_self_eq_true]
    refine app_out _ rfl rfl XF.elm_31 XF.zer_58 rfl XF.byt_58 (m := 1) (cs := y.enc) ?ha (by omega) (by omega) (by omega) (by have := rdj []; rw [Hx_nil] at this; exact this) ?_
    case ha =>
      show appd _ _ _ _ _ (isInt Tryd.prog 31) _ = _
      rw [XF.isInt_31]
      show src _ _ _ _ = _
      rw [unx_sl, src_sl, rdq]
      rfl
    simp only [go_sem, cond, Nat.reduceAdd, Nat.reduceLeDiff, Nat.reduceEqDiff, Nat.reduceBEq, decide_true, decide_false, Int.toNat_natCast, r]
    rw [List.take_length, List.drop_length, flat_app]
    simp [flat]
  · have w1 : ((i : Int) == (rows.length : Int)) = false := by rw [beq_eq_false_iff_ne]; omega
    have w2 : IntKind.i64.wrap ((rows.length : Int) + ((1 : Nat) : Int)) = ((rows.length + 1 : Nat) : Int) := by rw [wrap_i64 (by omega) (by omega)]; omega
    have w3 : ((rows.length : Int) < ((rows.length + 1 : Nat) : Int)) = True := eq_true (by omega)
    simp only [go_sem, cond, Nat.reduceAdd, Nat.reduceLeDiff, Nat.reduceEqDiff, Nat.reduceBEq, decide_true, decide_false, Int.toNat_natCast, r, d0, w1, w2, w3]
    refine slc_xs XF.elm_31 rfl rfl _ _ _ _ (by omega) (by omega) (by omega) how0 (.inl rfl) ?_
    have w4 : IntKind.i64.wrap (((rows.length + 1 : Nat) : Int) - (i : Int)) = ((rows.length + 1 - i : Nat) : Int) := by rw [wrap_i64 (by omega) (by omega)]; omega
    simp only [go_sem, cond, Nat.reduceAdd, Nat.reduceLeDiff, Nat.reduceEqDiff, Nat.reduceBEq, decide_true, decide_false, Int.toNat_natCast, r, d0, w1, w2, w3, w4, Nat.sub_zero]
    have e1 : i + (rows.length + 1 - i) = rows.length + 1 := by omega
    refine app_out _ rfl rfl XF.elm_31 XF.zer_58 rfl XF.byt_58 (m := rows.length + 1 - i) (cs := (List.replicate (rows.length + 1 - i) [.string em, .int .i64 0]).flatten) (old := flat Rk.enc (rows.take i)) ?ha (by omega) (by omega) (by omega) ?hb ?_
    case ha =>
      show appd _ _ _ _ _ (isInt Tryd.prog 3) _ = _
      rw [XF.isInt_3]
      simp only [appd, unx_int]
      rw [if_pos (by omega), Int.toNat_natCast]
    case hb =>
      have h1 := rd_part (rdj []) 0 (i * 2) (by omega)
      have h2 := flat_part klen rows 0 i (by omega)
      rw [Nat.zero_mul, List.drop_zero, List.drop_zero] at h2
      rw [Hx_nil, List.drop_zero, h2] at h1
      exact h1
    rw [e1]
    have gl : ∀ X : Option Ob, (l ++ [X])[l.length]? = some X := fun X => by simp
    have gs : ∀ X Y : Option Ob, (l ++ [X]).set l.length Y = l ++ [Y] := fun X Y => by simp
    have hN : ∀ cs : List Value, cs.length = (rows.length + 1) * 2 → Go.Proofs.YtmacpgoclhgafaaDoorW.XM.ownB Tryd.prog (Hx B (l ++ [some (.row 58 cs)])) 2 (nid B l.length) (some ((rows.length + 1) * 2)) := fun cs hc => ⟨_, cs, false || true, by rw [Hx_get, gl], hc, XF.lay_58⟩
    have lz : ∀ m, (List.replicate m [Value.string em, Value.int .i64 0]).flatten.length = m * 2 := fun m => by simp
    have c1 : (flat Rk.enc (rows.take i) ++ (List.replicate (rows.length + 1 - i) [Value.string em, Value.int .i64 0]).flatten).length = (rows.length + 1) * 2 := by rw [List.length_append, flat_len klen, lz, List.length_take, Nat.min_eq_left hi]; omega
    have c2 : (putL (flat Rk.enc (rows.take i) ++ (List.replicate (rows.length + 1 - i) [Value.string em, Value.int .i64 0]).flatten) (i * 2) y.enc).length = (rows.length + 1) * 2 := by rw [putL_len, c1]
    have c3 := ins_cells klen (z := [Value.string em, Value.int .i64 0]) rfl rows y i hi
    have rdq2 := rd_old rdq [some (.row 58 (flat Rk.enc (rows.take i) ++ (List.replicate (rows.length + 1 - i) [.string em, .int .i64 0]).flatten))]
    rw [Hx_Hx] at rdq2
    generalize flat Rk.enc (rows.take i) ++ (List.replicate (rows.length + 1 - i) [.string em, .int .i64 0]).flatten = cs1 at *
    simp only [go_sem, cond, Nat.reduceAdd, Nat.reduceLeDiff, Nat.reduceEqDiff, Nat.reduceBEq, decide_true, decide_false, Int.toNat_natCast, r, d0, w1, w2, w3, w4, Nat.sub_zero]
    refine slc_sl XF.elm_31 rfl rfl _ _ _ _ (by omega) (by omega) (by omega) (hN _ c1) (.inr (by omega)) ?_
    simp only [go_sem, cond, Nat.reduceAdd, Nat.reduceLeDiff, Nat.reduceEqDiff, Nat.reduceBEq, decide_true, decide_false, Int.toNat_natCast, r, d0, w1, w2, w3, w4, Nat.sub_zero]
    refine cop_own (m := 1) (cs := y.enc) _ rfl XF.elm_31 ?hs (by omega) (gl _) c1 XF.lay_58 (by rw [klen]; omega) ?_
    case hs => rw [src_sl, rdq2]; rfl
    rw [gs]
    simp only [go_sem, cond, Nat.reduceAdd, Nat.reduceLeDiff, Nat.reduceEqDiff, Nat.reduceBEq, decide_true, decide_false, Int.toNat_natCast, r, d0, w1, w2, w3, w4, Nat.sub_zero]
    have w5 : IntKind.i64.wrap ((i : Int) + ((1 : Nat) : Int)) = ((i + 1 : Nat) : Int) := by rw [wrap_i64 (by omega) (by omega)]; omega
    (refine xw_open (id := 11) [0, 0, 0, 6, 15, 0, 0, 96, 255] [.q 0, .q 1, .q 2, .q 3, .q 5, .q 6, .q 4, .q 7, .e 8] rfl (by kernel_rfl) ?_; simp only [go_sem, cond, Nat.reduceAdd, Nat.reduceLeDiff, Nat.reduceEqDiff, Nat.reduceBEq, decide_true, decide_false, Int.toNat_natCast, r, d0, w1, w2, w3, w4, w5, Nat.sub_zero])
    refine slc_sl XF.elm_31 rfl rfl _ _ _ _ (by omega) (by omega) (by omega) (hN _ c2) (.inr (by omega)) ?_
    simp only [go_sem, cond, Nat.reduceAdd, Nat.reduceLeDiff, Nat.reduceEqDiff, Nat.reduceBEq, decide_true, decide_false, Int.toNat_natCast, r, d0, w1, w2, w3, w4, w5, Nat.sub_zero]
    refine slc_xs XF.elm_31 rfl rfl _ _ _ _ (by omega) (by omega) (by omega) (how _) (.inr (by omega)) ?_
    simp only [go_sem, cond, Nat.reduceAdd, Nat.reduceLeDiff, Nat.reduceEqDiff, Nat.reduceBEq, decide_true, decide_false, Int.toNat_natCast, r, d0, w1, w2, w3, w4, w5, Nat.sub_zero]
    refine cop_own (m := rows.length - i) (cs := flat Rk.enc (rows.drop i)) _ rfl XF.elm_31 ?ht (by omega) (gl _) c2 XF.lay_58 (by rw [flat_len klen, List.length_drop]; omega) ?_
    case ht =>
      have h1 := rd_part (rdj [some (.row 58 (putL cs1 (i * 2) y.enc))]) (i * 2) ((rows.length - i) * 2) (by omega)
      have h2 := flat_part klen rows i (rows.length - i) (by omega)
      have h3 : (rows.drop i).take (rows.length - i) = rows.drop i := List.take_of_length_le (by simp)
      rw [h3] at h2
      rw [Hx_Hx, h2, Nat.zero_add] at h1
      rw [src_sl, h1]
      rfl
    rw [gs]
    simp only [go_sem, cond, Nat.reduceAdd, Nat.reduceLeDiff, Nat.reduceEqDiff, Nat.reduceBEq, decide_true, decide_false, Int.toNat_natCast, r, d0, w1, w2, w3, w4, w5, Nat.sub_zero]
    rw [c3]
end Go.Proofs.YtmacpgoclhgafaaDoorW.FA
namespace Go.Proofs.YtmacpgoclhgafaaDoorW.FA
open Go.RowKit Go.Proofs.YtmacpgoclhgafaaDoorW.XM Go.Proofs Go.Proofs.YtmacpgoclhgafaaDoorW.XWords
set_option maxRecDepth 100000
set_option linter.unusedSimpArgs false
variable (w0 : World) (H : Hp)
def Rm.encX (r : Rm) (x : Ad) : List Value := [.string r.name, .int .i64 r.next, xs (.slice x.a r.ms.length x.c), xs (.slice x.b r.ks.length x.d), .string r.subj]
theorem encX_wk {P : Program} (r : Rm) (x : Ad) : Wks P (r.encX x) (r.enc x) := .cons (.refl _) (.cons (.refl _) (.cons (.xs _) (.cons (.xs _) (.cons (.refl _) .nil))))
theorem ren1_xs (ρ : Nat → Option Nat) (i o t n c : Nat) : ren1 ρ (xs (.slice (some ⟨i, o, some t⟩) n c)) = (ρ i).map fun j => xs (.slice (some ⟨j, o, some t⟩) n c) := rfl
theorem ren_roomX (R : Rm) {sel : List Nat} {j k j' k' : Nat} (hj : idx j sel = some j') (hk : idx k sel = some k') : ren3 (rho H sel) (.agg (R.encX (adR H R j k)).toArray) = some (.agg (R.encX (adR H R j' k')).toArray) := by
  simp only [ren3, ren2, renL, Rm.encX, adR, ren1_xs, rho_nid, hj, hk, Option.map_some]
  simp [renL, ren1, ren1_xs, rho_nid, hj, hk, plain]
theorem clipMX_ok (j o tag n c : Nat) (cs : List Value) (hj : H[j]? = some (some (.row 60 cs))) (hl : cs.length = tag) (hn : n ≤ c) : AFn Tryd.prog w0 112 #[.slice (some ⟨j, o, some tag⟩) n c] H fun v H2 => v = xs (.slice (some ⟨j, o, some tag⟩) n n) ∧ H2 = H := by
  refine AFn.scal (by simp [ren3, ren2, ren1_xs, xs, ren1, rho, lt_of_get hj]) Tryd.func112 rfl (by kernel_rfl) ?_
  have r := Tryd.results112
  simp only [go_sem, cond, Nat.reduceAdd, Nat.reduceLeDiff, Nat.reduceEqDiff, Nat.reduceBEq, decide_true, decide_false, Int.toNat_natCast, r]
  refine slc_clipX XF.elm_30 hn _ _ _ _ ⟨_, cs, _, Hx_old hj [], hl, XF.lay_60⟩ ?_
  simp only [go_sem, cond, Nat.reduceAdd, Nat.reduceLeDiff, Nat.reduceEqDiff, Nat.reduceBEq, decide_true, decide_false, Int.toNat_natCast, r]
  exact ⟨_, rfl⟩
theorem clipKX_ok (j o tag n c : Nat) (cs : List Value) (hj : H[j]? = some (some (.row 58 cs))) (hl : cs.length = tag) (hn : n ≤ c) : AFn Tryd.prog w0 114 #[.slice (some ⟨j, o, some tag⟩) n c] H fun v H2 => v = xs (.slice (some ⟨j, o, some tag⟩) n n) ∧ H2 = H := by
  refine AFn.scal (by simp [ren3, ren2, ren1_xs, xs, ren1, rho, lt_of_get hj]) Tryd.func114 rfl (by kernel_rfl) ?_
  have r := Tryd.results114
  simp only [go_sem, cond, Nat.reduceAdd, Nat.reduceLeDiff, Nat.reduceEqDiff, Nat.reduceBEq, decide_true, decide_false, Int.toNat_natCast, r]
  refine slc_clipX XF.elm_31 hn _ _ _ _ ⟨_, cs, _, Hx_old hj [], hl, XF.lay_58⟩ ?_
  simp only [go_sem, cond, Nat.reduceAdd, Nat.reduceLeDiff, Nat.reduceEqDiff, Nat.reduceBEq, decide_true, decide_false, Int.toNat_natCast, r]
  exact ⟨_, rfl⟩
theorem copiedX_ok (R : Rm) (a b : Addr) (c d : Nat) (hr : RmAt w0 H R ⟨some a, c, some b, d⟩) : AFn Tryd.prog w0 52 #[.agg (R.enc ⟨some a, c, some b, d⟩).toArray] H fun v H2 => v = .agg (R.encX (adR H R 0 1)).toArray ∧ H2 = Hx H (obsR R) := by
  have om := hr.om
  have ok := hr.ok
  have hlm := hr.lm
  have hlk := hr.lk
  refine AFn.news Tryd.func52 rfl (by kernel_rfl) ?_
  have r := Tryd.results52
  simp only [go_sem, cond, Nat.reduceAdd, Nat.reduceLeDiff, Nat.reduceEqDiff, Nat.reduceBEq, decide_true, decide_false, Int.toNat_natCast, r]
  simp only [go_sem, cond, Nat.reduceAdd, Nat.reduceLeDiff, Nat.reduceEqDiff, Nat.reduceBEq, decide_true, decide_false, Int.toNat_natCast, Rm.enc, r]
  (refine xw_open (id := 1) [0, 1, 3, 7, 0, 16, 63, 127, 63, 511, 1023, 2047] [.q 0, .q 4, .q 1, .l 5, .e 2, .e 3, .d 5, .q 8, .e 6, .e 7, .e 9, .q 10, .e 11] rfl (by kernel_rfl) ?_; simp only [go_sem, cond, Nat.reduceAdd, Nat.reduceLeDiff, Nat.reduceEqDiff, Nat.reduceBEq, decide_true, decide_false, Int.toNat_natCast, r])
  refine call_eq (cloneM_ok _ _ a R.ms c (fun L => by rw [Hx_Hx]; exact om _) hlm) ?_
  simp only [go_sem, cond, Nat.reduceAdd, Nat.reduceLeDiff, Nat.reduceEqDiff, Nat.reduceBEq, decide_true, decide_false, Int.toNat_natCast, r]
  refine call_eq (clipMX_ok _ _ (nid H 2) 0 _ _ _ (flat Mem.enc R.ms) (by rw [Hx_get]; rfl) (flat_len mlen _) (Nat.le_refl _)) ?_
  simp only [go_sem, cond, Nat.reduceAdd, Nat.reduceLeDiff, Nat.reduceEqDiff, Nat.reduceBEq, decide_true, decide_false, Int.toNat_natCast, r]
  refine call_eq (cloneK_ok _ _ b R.ks d (fun L => by rw [Hx_Hx]; exact ok _) hlk) ?_
  simp only [go_sem, cond, Nat.reduceAdd, Nat.reduceLeDiff, Nat.reduceEqDiff, Nat.reduceBEq, decide_true, decide_false, Int.toNat_natCast, r]
  refine call_eq (clipKX_ok _ _ (nid H 3) 0 _ _ _ (flat Rk.enc R.ks) (by rw [Hx_get]; rfl) (flat_len klen _) (Nat.le_refl _)) ?_
  simp only [go_sem, cond, Nat.reduceAdd, Nat.reduceLeDiff, Nat.reduceEqDiff, Nat.reduceBEq, decide_true, decide_false, Int.toNat_natCast, r]
  exact ⟨_, [2, 3], _, rfl, pl2 R.ms R.ks rfl rfl, by decide, ren_roomX H R rfl rfl, rfl, rfl⟩
end Go.Proofs.YtmacpgoclhgafaaDoorW.FA
namespace Go.Proofs.YtmacpgoclhgafaaDoorW.FA
open Go.RowKit Go.Proofs.YtmacpgoclhgafaaDoorW.XM Go.Proofs Go.Proofs.YtmacpgoclhgafaaDoorW.XWords
set_option maxRecDepth 100000
set_option linter.unusedSimpArgs false
variable (w0 : World) (H : Hp)
/-- Ranks that lie in an object of the call's own, behind them perhaps more. -/
theorem own_more {α : Type} {enc : α → List Value} {n : Nat} (he : ∀ a, (enc a).length = n) (t : TypeId) (ls : List α) (z : List Value) (tag : Nat) (B : Hp) (l : List (Option Ob)) (k : Nat) (hl : l[k]? = some (some (.row t (flat enc ls ++ z)))) (ht : (flat enc ls ++ z).length = tag) :
    Sl w0 (Hx B l) (some ⟨nid B k, 0, some tag⟩) n (ls.map enc) ∧ ∀ L, rd w0 (Hx (Hx B l) L) ⟨nid B k, 0, some tag⟩ (ls.length * n) = some (flat enc ls) := by
  have h2 : ∀ L, rd w0 (Hx (Hx B l) L) ⟨nid B k, 0, some tag⟩ (ls.length * n) = some (flat enc ls) := fun L => by
    refine rd_old ?_ L
    rw [rd_own, hl, rdO_row, if_pos ⟨ht, by rw [List.length_append, flat_len he]; omega⟩, List.drop_zero]
    have := flat_len he ls
    rw [← this, List.take_left]
  refine ⟨.inr ⟨_, _, _, rfl, fun i r hr f m hf => ?_⟩, h2⟩
  have hi : i < ls.length := by have := (List.getElem?_eq_some_iff.1 hr).1; simpa using this
  have h3 := h2 []
  rw [Hx_nil] at h3
  have hle : i * n + n ≤ ls.length * n := by rw [← Nat.succ_mul]; exact Nat.mul_le_mul_right _ hi
  have := rd_part h3 (i * n + f) m (by omega)
  rw [show 0 + i * n + f = 0 + (i * n + f) by omega, this, flat_row he ls hi f m hf]
  rw [List.getElem?_map, List.getElem?_eq_getElem hi] at hr
  cases hr
  rfl
/-- What a room's box holds behind a rank that was set. -/
structure Rkd (w0 : World) (B : Hp) (l l2 : List (Option Ob)) (p k : Nat) (a b vm c : Value) (ks : List Rk) : Prop where
  ex : ∃ (rk : Value) (A : Addr) (d : Nat), l2[p]? = some (some (.row 33 [a, b, vm, rk, c])) ∧ Wk Tryd.prog rk (.slice (some A) ks.length d) ∧ rk.oneCell' = true ∧ Sl w0 (Hx B l2) (some A) 2 (ks.map Rk.enc) ∧ ∀ L, rd w0 (Hx (Hx B l2) L) A (ks.length * 2) = some (flat Rk.enc ks)
  oth : ∀ q, q < l.length → q ≠ p → q ≠ k → l2[q]? = l[q]?
theorem ranked_ok (B : Hp) (l : List (Option Ob)) (p k : Nat) (a b vm c : Value) (ks : List Rk) (u : ByteArray) (num : Int) (hpk : p ≠ k) (ha : Asc ks) (hn : ks.length ≤ 1000)
    (hp : l[p]? = some (some (.row 33 [a, b, vm, xs (.slice (some ⟨nid B k, 0, some (ks.length * 2)⟩) ks.length ks.length), c]))) (hk : l[k]? = some (some (.row 58 (flat Rk.enc ks)))) :
    AFn Tryd.prog w0 111 #[.pointer (some ⟨nid B p, 0, some 5⟩), .string u, .int .i64 num] (Hx B l) fun v H2 => v = .tuple #[] ∧ ∃ l2, H2 = Hx B l2 ∧ Rkd w0 B l l2 p k a b vm c (rankedI u num ks) := by
  refine AFn_of Tryd.func111 rfl (by kernel_rfl) ?_
  have r := Tryd.results111
  have hlp : p < l.length := lt_of_get hp
  have hlk : k < l.length := lt_of_get hk
  have hs := Sl_own (w0 := w0) klen _ ks B l k hk
  have hm := atK_le u ks
  simp only [go_sem, cond, Nat.reduceAdd, Nat.reduceLeDiff, Nat.reduceEqDiff, Nat.reduceBEq, decide_true, decide_false, Int.toNat_natCast, r, hp]
  refine call_eq (AFn.weak (.cons (.xs _) (.cons (.refl _) (.cons (.refl _) .nil))) (search_ok w0 _ _ ks.length ks u ha hs (by omega))) ?_
  simp only [go_sem, cond, Nat.reduceAdd, Nat.reduceLeDiff, Nat.reduceEqDiff, Nat.reduceBEq, decide_true, decide_false, Int.toNat_natCast, r, hp]
  refine Br_intro ?_ ?_ <;> intro h1 <;> simp only [go_sem, cond, Nat.reduceAdd, Nat.reduceLeDiff, Nat.reduceEqDiff, Nat.reduceBEq, decide_true, decide_false, Int.toNat_natCast, r, hp, h1]
  · have hat : atK u ks < ks.length := by
      unfold thereK at h1
      rcases Nat.lt_or_ge (atK u ks) ks.length with h | h
      · exact h
      · rw [List.getElem?_eq_none h] at h1; cases h1
    have hget : ks[atK u ks]? = some ks[atK u ks] := List.getElem?_eq_getElem hat
    refine Br_intro ?_ ?_ <;> intro h2 <;> simp only [go_sem, cond, Nat.reduceAdd, Nat.reduceLeDiff, Nat.reduceEqDiff, Nat.reduceBEq, decide_true, decide_false, Int.toNat_natCast, r, hp, h1, h2]
    · have hnum : num = 1 := eq_of_beq h2
      have w1 : IntKind.i64.wrap ((atK u ks : Int) + 1) = ((atK u ks + 1 : Nat) : Int) := by rw [wrap_i64 (by omega) (by omega)]; omega
      rw [w1]
      refine call_eq (AFn.weak (.cons (.xs _) (.cons (.refl _) (.cons (.refl _) .nil))) (delK_ok w0 B l k ks (atK u ks) hat (by omega) hk)) ?_
      have gp : ∀ X : Option Ob, (l.set k X)[p]? = l[p]? := fun X => by rw [List.getElem?_set_ne (fun e => hpk e.symm)]
      simp only [go_sem, cond, Nat.reduceAdd, Nat.reduceLeDiff, Nat.reduceEqDiff, Nat.reduceBEq, decide_true, decide_false, Int.toNat_natCast, r, hp, gp, h1, h2]
      have e : rankedI u num ks = ks.eraseIdx (atK u ks) := by unfold rankedI; rw [if_pos h1, if_pos hnum]
      have el : (ks.eraseIdx (atK u ks)).length = ks.length - 1 := by rw [List.length_eraseIdx, if_pos hat]
      rw [e]
      obtain ⟨g1, g2⟩ := own_more (w0 := w0) klen 58 (ks.eraseIdx (atK u ks)) [.string em, .int .i64 0] (ks.length * 2) B ((l.set k (some (.row 58 (flat Rk.enc (ks.eraseIdx (atK u ks)) ++ [.string em, .int .i64 0])))).set p (some (.row 33 [a, b, vm, .slice (some ⟨nid B k, 0, some (ks.length * 2)⟩) (ks.length - 1) ks.length, c]))) k (by rw [List.getElem?_set_ne hpk, List.getElem?_set_self hlk]) (by rw [List.length_append, flat_len klen, el]; simp; omega)
      refine ⟨rfl, _, rfl, ⟨⟨.slice (some ⟨nid B k, 0, some (ks.length * 2)⟩) (ks.length - 1) ks.length, _, ks.length, ?_, by rw [el]; exact .refl _, rfl, g1, g2⟩, fun q hq h3 h4 => ?_⟩⟩
      · rw [List.getElem?_set_self (by simpa using hlp)]
      · rw [List.getElem?_set_ne (fun e => h3 e.symm), List.getElem?_set_ne (fun e => h4 e.symm)]
    · have hnum : ¬ num = 1 := by intro e; subst e; cases h2
      have d1 : (0 : Int) ≤ (atK u ks : Int) ∧ (atK u ks : Int) < (ks.length : Int) := by omega
      have hlen := flat_len klen ks
      refine Req_intro d1 ?_
      simp only [go_sem, cond, Nat.reduceAdd, Nat.reduceLeDiff, Nat.reduceEqDiff, Nat.reduceBEq, decide_true, decide_false, Int.toNat_natCast, r, hp, hk, h1, h2, hlen]
      refine Req_intro (by omega) ?_
      simp only [go_sem, cond, Nat.reduceAdd, Nat.reduceLeDiff, Nat.reduceEqDiff, Nat.reduceBEq, decide_true, decide_false, Int.toNat_natCast, r, hp, hk, h1, h2, hlen]
      have e : rankedI u num ks = ks.set (atK u ks) ⟨ks[atK u ks].user, num⟩ := by unfold rankedI; rw [if_pos h1, if_neg hnum, hget]
      have el : (ks.set (atK u ks) ⟨ks[atK u ks].user, num⟩).length = ks.length := List.length_set ..
      have p0 : (flat Rk.enc ks).set (atK u ks * 2 + 1) (.int .i64 num) = flat Rk.enc (ks.set (atK u ks) ⟨ks[atK u ks].user, num⟩) := flat_put klen ks (atK u ks) ⟨ks[atK u ks].user, num⟩ hat 1 (.int .i64 num) (by decide) rfl
      rw [e, p0]
      obtain ⟨g1, g2⟩ := own_more (w0 := w0) klen 58 (ks.set (atK u ks) ⟨ks[atK u ks].user, num⟩) [] (ks.length * 2) B (l.set k (some (.row 58 (flat Rk.enc (ks.set (atK u ks) ⟨ks[atK u ks].user, num⟩))))) k (by rw [List.getElem?_set_self hlk, List.append_nil]) (by rw [List.append_nil, flat_len klen, el])
      refine ⟨rfl, _, rfl, ⟨⟨xs (.slice (some ⟨nid B k, 0, some (ks.length * 2)⟩) ks.length ks.length), _, ks.length, ?_, by rw [el]; exact .xs _, rfl, g1, g2⟩, fun q hq h3 h4 => ?_⟩⟩
      · rw [List.getElem?_set_ne (fun e => hpk e.symm)]; exact hp
      · rw [List.getElem?_set_ne (fun e => h4 e.symm)]
  · refine Br_intro ?_ ?_ <;> intro h2 <;> simp only [go_sem, cond, Nat.reduceAdd, Nat.reduceLeDiff, Nat.reduceEqDiff, Nat.reduceBEq, decide_true, decide_false, Int.toNat_natCast, r, hp, h1, h2]
    · have hnum : num = 1 := eq_of_beq h2
      have e : rankedI u num ks = ks := by unfold rankedI; rw [if_neg (by rw [h1]; decide), if_pos hnum]
      rw [e]
      obtain ⟨g1, g2⟩ := own_more (w0 := w0) klen 58 ks [] (ks.length * 2) B l k (by rw [List.append_nil]; exact hk) (by rw [List.append_nil, flat_len klen])
      exact ⟨rfl, _, rfl, ⟨⟨_, _, _, hp, .xs _, rfl, g1, g2⟩, fun q hq h3 h4 => rfl⟩⟩
    · have hnum : ¬ num = 1 := by intro e; subst e; cases h2
      refine Req_intro ⟨_, rfl, rfl⟩ ?_
      have gq : ∀ X : Option Ob, (l ++ [X])[p]? = l[p]? := fun X => List.getElem?_append_left hlp
      have gq2 : ∀ X Y : Option Ob, (l ++ [X, Y])[p]? = l[p]? := fun X Y => List.getElem?_append_left hlp
      simp only [go_sem, cond, Nat.reduceAdd, Nat.reduceLeDiff, Nat.reduceEqDiff, Nat.reduceBEq, decide_true, decide_false, Int.toNat_natCast, r, hp, gq, h1, h2]
      refine call_eq (insK_ok w0 B (l ++ [some (.row 58 [.string u, .int .i64 num])]) k l.length ks ⟨u, num⟩ (atK u ks) hm (by omega) (by rw [List.getElem?_append_left hlk]; exact hk) (by rw [List.getElem?_append_right (Nat.le_refl _)]; simp [Rk.enc])) ?_
      rw [List.append_assoc]
      simp only [go_sem, cond, Nat.reduceAdd, Nat.reduceLeDiff, Nat.reduceEqDiff, Nat.reduceBEq, decide_true, decide_false, Int.toNat_natCast, r, hp, gq2, h1, h2]
      have e : rankedI u num ks = ks.take (atK u ks) ++ ⟨u, num⟩ :: ks.drop (atK u ks) := by unfold rankedI; rw [if_neg (by rw [h1]; decide), if_neg hnum]
      have el : (ks.take (atK u ks) ++ (⟨u, num⟩ : Rk) :: ks.drop (atK u ks)).length = ks.length + 1 := by simp; omega
      rw [e]
      generalize ks.take (atK u ks) ++ (⟨u, num⟩ : Rk) :: ks.drop (atK u ks) = ks2 at *
      have ep : (l ++ [some (Ob.row 58 [Value.string u, .int .i64 num])]).length = l.length + 1 := by simp
      rw [ep]
      obtain ⟨g1, g2⟩ := own_more (w0 := w0) klen 58 ks2 [] ((ks.length + 1) * 2) B ((l ++ [some (Ob.row 58 [Value.string u, Value.int .i64 num]), some (Ob.row 58 (flat Rk.enc ks2))]).set p (some (Ob.row 33 [a, b, vm, .slice (some ⟨nid B (l.length + 1), 0, some ((ks.length + 1) * 2)⟩) (ks.length + 1) (ks.length + 1), c]))) (l.length + 1) (by rw [List.getElem?_set_ne (by omega), List.append_nil, List.getElem?_append_right (by omega)]; simp) (by rw [List.append_nil, flat_len klen, el])
      refine ⟨rfl, _, rfl, ⟨⟨.slice (some ⟨nid B (l.length + 1), 0, some ((ks.length + 1) * 2)⟩) (ks.length + 1) (ks.length + 1), _, ks.length + 1, ?_, by rw [el]; exact .refl _, rfl, g1, g2⟩, fun q hq h3 h4 => ?_⟩⟩
      · rw [List.getElem?_set_self (by simp; omega)]
      · rw [List.getElem?_set_ne (fun e => h3 e.symm), List.getElem?_append_left hq]
end Go.Proofs.YtmacpgoclhgafaaDoorW.FA
