/- FnRoomTwice: own words and contracts that the law's proof uses, part 4. No condition of its own. -/
import Derived.Test.YtmacpgoclhgafaaGreatDoorZFnRoomTwice3
import Derived.Test.YtmacpgoclhgafaaGreatDoorRows
import Derived.Lib.LaidU8
import Derived.LaidByTextLater
import Derived.WalkKit
import Derived.ProofKit
set_option linter.unusedSimpArgs false
set_option linter.unusedVariables false
namespace Go.Proofs.YtmacpgoclhgafaaGreatDoorW.FA
open Go.RowKit Go.Proofs.YtmacpgoclhgafaaGreatDoorW.XM Go.Proofs Go.Proofs.YtmacpgoclhgafaaGreatDoorW.XWords
set_option maxRecDepth 100000
set_option linter.unusedSimpArgs false
set_option linter.unusedVariables false
variable (w0 : World) (H : Hp)
def rdo (R : Rm) (es : List En) (u : ByteArray) (s : Sy) : List En × Int :=
  if roomB R = false then ([], 1) else if userB u = false then ([], 1) else if sayB s = false then ([], 1) else if inB s.kind 6 11 = false then ([], 1) else if (s.room.toList == R.name.toList) = false then ([], 1) else doR R es u s
theorem doR_zero (R : Rm) (es : List En) (u : ByteArray) (s : Sy) : (doR R es u s).1 = [] ∨ (doR R es u s).2 = 0 := by
  unfold doR
  split
  · exact .inl rfl
  split
  · unfold joinR
    repeat' split
    all_goals first | exact .inl rfl | exact .inr rfl
  split
  · exact .inl rfl
  unfold insR
  split
  · exact .inr rfl
  split
  · repeat' split
    all_goals first | exact .inl rfl | exact .inr rfl
  split
  · repeat' split
    all_goals first | exact .inl rfl | exact .inr rfl
  split
  · unfold roleR
    repeat' split
    all_goals first | exact .inl rfl | exact .inr rfl
  · unfold setR
    repeat' split
    all_goals first | exact .inl rfl | exact .inr rfl
theorem roomB_mem {R : Rm} (h : roomB R = true) : ∀ m ∈ R.ms, nickU R m.user = m.nick ∧ 1 ≤ m.role ∧ m.role ≤ 3 := by
  simp only [roomB, Bool.and_eq_true] at h
  have hm := h.2.2.2.1.1
  intro m hmm
  obtain ⟨i, hi, rfl⟩ := List.mem_iff_getElem.1 hmm
  have := allI_get _ _ 0 hm i hi
  rw [Nat.zero_add] at this
  simp only [memB, inB, Bool.and_eq_true, decide_eq_true_eq, beq_iff_eq] at this
  obtain ⟨_, _, h1, _, ⟨h3, h4⟩, _⟩ := this
  refine ⟨?_, h3, h4⟩
  rcases idxP_find (isU R.ms[i].user) R.ms 0 with ⟨f1, _⟩ | ⟨j, hj, f1, f2⟩
  · rw [f1] at h1; omega
  · rw [f1] at h1
    obtain rfl : j = i := by omega
    rw [nickU, f2]; rfl
theorem roomB_next {R : Rm} (h : roomB R = true) : 0 ≤ R.next ∧ R.next ≤ 9999 := by
  simp only [roomB, inB, Bool.and_eq_true, decide_eq_true_eq] at h
  exact h.2.1
theorem RoomDoS_ok (R : Rm) (x : Ad) (es : List En) (A : Option Addr) (c : Nat) (u : ByteArray) (s : Sy) (hr : RmAt w0 H R x) (hb : Big R) (hs : Sl w0 H A 9 (es.map En.enc)) (hl : es.length ≤ 2000000) (hu : u.size ≤ 1000000000000) (hS : BigS s) : AFn Tryz.prog w0 11 #[.agg (R.enc x).toArray, .slice A es.length c, .string u, .agg s.enc.toArray] H fun v H2 => v = deedV H (rdo R es u s) ∧ H2 = Hx H (esO (rdo R es u s).1) := by
  refine AFn.news Tryz.func11 rfl (by kernel_rfl) ?_
  have r := Tryz.results11
  simp only [go_sem, cond, Nat.reduceAdd, Nat.reduceLeDiff, Nat.reduceEqDiff, Nat.reduceBEq, decide_true, decide_false, Int.toNat_natCast, r]
  simp only [go_sem, cond, Nat.reduceAdd, Nat.reduceLeDiff, Nat.reduceEqDiff, Nat.reduceBEq, decide_true, decide_false, Int.toNat_natCast, Rm.enc, Sy.enc, r]
  repeat' (first
    | (refine call_eq (l6Ok_ok _ _ R x (hr.old _) hb) ?_; simp only [go_sem, cond, Nat.reduceAdd, Nat.reduceLeDiff, Nat.reduceEqDiff, Nat.reduceBEq, decide_true, decide_false, Int.toNat_natCast, Rm.enc, Sy.enc, r])
    | (refine call_eq (l4User_ok _ _ _ hu) ?_; simp only [go_sem, cond, Nat.reduceAdd, Nat.reduceLeDiff, Nat.reduceEqDiff, Nat.reduceBEq, decide_true, decide_false, Int.toNat_natCast, Rm.enc, Sy.enc, r])
    | (refine call_eq (l5Ok_ok _ _ s hS) ?_; simp only [go_sem, cond, Nat.reduceAdd, Nat.reduceLeDiff, Nat.reduceEqDiff, Nat.reduceBEq, decide_true, decide_false, Int.toNat_natCast, Rm.enc, Sy.enc, r])
    | (refine call_eq (l1In_ok _ _ _ _ _) ?_; simp only [go_sem, cond, Nat.reduceAdd, Nat.reduceLeDiff, Nat.reduceEqDiff, Nat.reduceBEq, decide_true, decide_false, Int.toNat_natCast, Rm.enc, Sy.enc, r])
    | (refine call_eq (l6Do_ok w0 _ R x es A c u s (hr.old _) (hs.old _) hl) ?_; simp only [go_sem, cond, Nat.reduceAdd, Nat.reduceLeDiff, Nat.reduceEqDiff, Nat.reduceBEq, decide_true, decide_false, Int.toNat_natCast, r, deedV])
    | (refine Br_intro ?_ ?_ <;> intro h <;> simp only [go_sem, cond, Nat.reduceAdd, Nat.reduceLeDiff, Nat.reduceEqDiff, Nat.reduceBEq, decide_true, decide_false, Int.toNat_natCast, Rm.enc, Sy.enc, r, h]))
  all_goals first
    | (refine nil_end H ?_; simp only [rdo, *, Bool.true_or, Bool.false_or, Bool.or_true, Bool.or_false, Bool.true_and, Bool.false_and, Bool.and_true, Bool.and_false, Bool.not_true, Bool.not_false, Bool.false_eq_true, Bool.true_eq_false, if_true, if_false]; done)
    | (refine pass_end' H ?_ ?_
       · rfl
       · simp only [rdo, *, Bool.true_or, Bool.false_or, Bool.or_true, Bool.or_false, Bool.true_and, Bool.false_and, Bool.and_true, Bool.and_false, Bool.not_true, Bool.not_false, Bool.false_eq_true, Bool.true_eq_false, if_true, if_false])
theorem clipE_ok (j o tag n c : Nat) (cs : List Value) (hj : H[j]? = some (some (.row 38 cs))) (hl : cs.length = tag) (hn : n ≤ c) : AFn Tryz.prog w0 29 #[.slice (some ⟨j, o, some tag⟩) n c] H fun v H2 => v = .slice (some ⟨j, o, some tag⟩) n n ∧ H2 = H := by
  refine AFn.scal (by simp [ren3, ren2, ren1, rho, lt_of_get hj]) Tryz.func29 rfl (by kernel_rfl) ?_
  have r := Tryz.results29
  simp only [go_sem, cond, Nat.reduceAdd, Nat.reduceLeDiff, Nat.reduceEqDiff, Nat.reduceBEq, decide_true, decide_false, Int.toNat_natCast, r]
  refine slc_clip XF.elm_27 hn _ _ _ _ ⟨_, cs, _, Hx_old hj [], hl, XF.lay_38⟩ ?_
  simp only [go_sem, cond, Nat.reduceAdd, Nat.reduceLeDiff, Nat.reduceEqDiff, Nat.reduceBEq, decide_true, decide_false, Int.toNat_natCast, r]
  exact ⟨_, rfl⟩
theorem clipE_nil : AFn Tryz.prog w0 29 #[.slice none 0 0] H fun v H2 => v = .slice none 0 0 ∧ H2 = H := by
  refine AFn.scal rfl Tryz.func29 rfl (by kernel_rfl) ?_
  have r := Tryz.results29
  simp only [go_sem, cond, Nat.reduceAdd, Nat.reduceLeDiff, Nat.reduceEqDiff, Nat.reduceBEq, decide_true, decide_false, Int.toNat_natCast, r]
  refine ⟨_, _, XF.elm_27, by simp, 0, 0, 0, rfl, rfl, rfl, by decide, by decide, by decide, by decide, ?_⟩
  simp only [go_sem, cond, Nat.reduceAdd, Nat.reduceLeDiff, Nat.reduceEqDiff, Nat.reduceBEq, decide_true, decide_false, Int.toNat_natCast, r]
  exact ⟨_, rfl⟩
set_option maxHeartbeats 4000000 in
theorem RoomDoI_ok (R : Rm) (x : Ad) (es : List En) (A : Option Addr) (c : Nat) (u : ByteArray) (s : Sy) (hT : Tabs w0) (hr : RmAt w0 H R x) (hb : Big R) (hs : Sl w0 H A 9 (es.map En.enc)) (hl : es.length ≤ 2000000) (hu : u.size ≤ 1000000000000) (hS : BigS s) : AFn Tryz.prog w0 10 #[.agg (R.enc x).toArray, .slice A es.length c, .string u, .agg s.enc.toArray] H fun v H2 => ∃ A' c' g, H2 = Hx H g ∧ v = .tuple #[.slice A' (rdo R es u s).1.length c', .int .i64 (rdo R es u s).2] ∧ Sl w0 (Hx H g) A' 9 ((rdo R es u s).1.map En.enc) := by
  have none1 : ∀ (g : List (Option Ob)) (k : Int), rdo R es u s = ([], k) → ∃ A' c' g', Hx H g = Hx H g' ∧ Value.tuple #[.slice none 0 0, .int .i64 k] = .tuple #[.slice A' (rdo R es u s).1.length c', .int .i64 (rdo R es u s).2] ∧ Sl w0 (Hx H g') A' 9 ((rdo R es u s).1.map En.enc) := fun g k h => by
    rw [h]
    exact ⟨none, 0, g, rfl, rfl, .inl rfl⟩
  refine AFn_nil ?_
  refine AFn_of Tryz.func10 rfl (by kernel_rfl) ?_
  have r := Tryz.results10
  simp only [go_sem, cond, Nat.reduceAdd, Nat.reduceLeDiff, Nat.reduceEqDiff, Nat.reduceBEq, decide_true, decide_false, Int.toNat_natCast, Rm.enc, Sy.enc, r]
  repeat' (first
    | (refine call_eq (RoomOk_ok w0 _ R x hT (hr.old _) hb) ?_; simp only [go_sem, cond, Nat.reduceAdd, Nat.reduceLeDiff, Nat.reduceEqDiff, Nat.reduceBEq, decide_true, decide_false, Int.toNat_natCast, Rm.enc, Sy.enc, r])
    | (refine call_eq (userOk_ok _ _ _ hu) ?_; simp only [go_sem, cond, Nat.reduceAdd, Nat.reduceLeDiff, Nat.reduceEqDiff, Nat.reduceBEq, decide_true, decide_false, Int.toNat_natCast, Rm.enc, Sy.enc, r])
    | (refine call_eq (SayOk_ok _ _ s hT hS) ?_; simp only [go_sem, cond, Nat.reduceAdd, Nat.reduceLeDiff, Nat.reduceEqDiff, Nat.reduceBEq, decide_true, decide_false, Int.toNat_natCast, Rm.enc, Sy.enc, r])
    | (refine call_eq (within_ok _ _ _ _ _) ?_; simp only [go_sem, cond, Nat.reduceAdd, Nat.reduceLeDiff, Nat.reduceEqDiff, Nat.reduceBEq, decide_true, decide_false, Int.toNat_natCast, Rm.enc, Sy.enc, r])
    | (refine Br_intro ?_ ?_ <;> intro h <;> simp only [go_sem, cond, Nat.reduceAdd, Nat.reduceLeDiff, Nat.reduceEqDiff, Nat.reduceBEq, decide_true, decide_false, Int.toNat_natCast, Rm.enc, Sy.enc, r, h])
    | (refine none1 _ 1 ?_; simp only [rdo, *, Bool.true_or, Bool.false_or, Bool.or_true, Bool.or_false, Bool.true_and, Bool.false_and, Bool.and_true, Bool.and_false, Bool.not_true, Bool.not_false, Bool.false_eq_true, Bool.true_eq_false, if_true, if_false]; done))
  rename_i g1 g2 g3 g4
  have hrd : rdo R es u s = doR R es u s := by simp only [rdo, *, Bool.true_or, Bool.false_or, Bool.or_true, Bool.or_false, Bool.true_and, Bool.false_and, Bool.and_true, Bool.and_false, Bool.not_true, Bool.not_false, Bool.false_eq_true, Bool.true_eq_false, if_true, if_false]
  rw [hrd]
  have hmm := roomB_mem g1
  have hnn := roomB_next g1
  have hkk : 6 ≤ s.kind ∧ s.kind ≤ 11 := by
    simp only [inB, Bool.and_eq_true, decide_eq_true_eq] at g4
    exact g4
  have hz := doR_zero R es u s
  refine call (ddo_ok w0 H _ 2 R x es A c u s rfl hr hs hl (fun m hm => (hmm m hm).1) (fun m hm => (hmm m hm).2.1) hnn hkk) ?_
  rintro v H2 ⟨rfl, g, o, rfl, ho⟩
  rw [hrd] at none1
  clear hrd
  generalize doR R es u s = q at *
  obtain ⟨q1, q2⟩ := q
  simp only at hz ho none1 ⊢
  rcases ho with ⟨rfl, rfl⟩ | ⟨k, gk, hne, rfl⟩
  · simp only [go_sem, cond, Nat.reduceAdd, Nat.reduceLeDiff, Nat.reduceEqDiff, Nat.reduceBEq, decide_true, decide_false, Int.toNat_natCast, Rm.enc, Sy.enc, r, dd, deedC, List.cons_append, List.nil_append, List.set_cons_succ, List.set_cons_zero]
    refine Br_intro ?_ ?_ <;> intro h <;> simp only [go_sem, cond, Nat.reduceAdd, Nat.reduceLeDiff, Nat.reduceEqDiff, Nat.reduceBEq, decide_true, decide_false, Int.toNat_natCast, Rm.enc, Sy.enc, r, h, dd, deedC, List.cons_append, List.nil_append, List.set_cons_succ, List.set_cons_zero]
    · obtain rfl : q2 = 0 := by simpa using h
      refine call_eq (clipE_nil _ _) ?_
      simp only [go_sem, cond, Nat.reduceAdd, Nat.reduceLeDiff, Nat.reduceEqDiff, Nat.reduceBEq, decide_true, decide_false, Int.toNat_natCast, r]
      exact none1 _ 0 rfl
    · exact none1 _ q2 rfl
  · obtain rfl : q2 = 0 := hz.resolve_left hne
    have z0 : ((0 : Int) == 0) = true := rfl
    have g3 : ∀ (a b c : Option Ob), (a :: b :: c :: g)[3 + k]? = some (some (.row 38 (flat En.enc q1))) := fun a b c => by
      rw [show 3 + k = k + 1 + 1 + 1 by omega]; exact gk
    simp only [go_sem, cond, Nat.reduceAdd, Nat.reduceLeDiff, Nat.reduceEqDiff, Nat.reduceBEq, decide_true, decide_false, Int.toNat_natCast, z0, Rm.enc, Sy.enc, r, dd, deedC, List.cons_append, List.nil_append, List.set_cons_succ, List.set_cons_zero]
    refine call_eq (clipE_ok w0 _ _ 0 _ _ _ (flat En.enc q1) (by rw [Hx_get]; exact g3 _ _ _) (flat_len elen _) (Nat.le_refl _)) ?_
    simp only [go_sem, cond, Nat.reduceAdd, Nat.reduceLeDiff, Nat.reduceEqDiff, Nat.reduceBEq, decide_true, decide_false, Int.toNat_natCast, r]
    exact ⟨_, _, _, rfl, rfl, Sl_own elen _ q1 H _ _ (g3 _ _ _)⟩
end Go.Proofs.YtmacpgoclhgafaaGreatDoorW.FA

namespace Go.Proofs.YtmacpgoclhgafaaGreatDoorW.FA
open Go.RowKit Go.Proofs.YtmacpgoclhgafaaGreatDoorW.XM Go.Proofs Go.Proofs.YtmacpgoclhgafaaGreatDoorW.XWords
set_option maxRecDepth 100000
set_option linter.unusedSimpArgs false
set_option linter.unusedVariables false
variable (w0 : World) (H : Hp)
theorem PlO.toS {H : Hp} {n : Nat} {g : List (Option Ob)} {R : Rm} {x : Ad} (h : PlO H n g R x) : PlS H n g R x := by
  rcases h with ⟨rfl, h1, h2⟩ | ⟨j, k, a, b, rfl⟩
  · exact ⟨.inl ⟨rfl, rfl, h1⟩, .inl ⟨rfl, rfl, h2⟩⟩
  · exact ⟨.inr ⟨j, a, rfl, rfl⟩, .inr ⟨k, b, rfl, rfl⟩⟩
theorem PlS.shift' {H : Hp} {n : Nat} {pre g : List (Option Ob)} {R : Rm} {x : Ad} (hl : pre.length = n) (h : PlS H n g R x) : PlS H 0 (pre ++ g) R x := by
  subst hl
  exact h.shift
set_option maxHeartbeats 20000000 in
theorem DrawRoomDo_nm (A : Option Addr) (c : Nat) (bs : List UInt8) (hc : CoOk w0 A c bs) : AFn Tryz.prog w0 9 #[.slice A bs.length c] H fun v H2 => ∃ R x es k u s g, H2 = Hx H g ∧ v = .tuple #[.agg (R.enc x).toArray, .slice (some ⟨nid H k, 0, some (es.length * 9)⟩) es.length es.length, .string u, .agg s.enc.toArray] ∧ PlS H 0 g R x ∧ SmR R ∧ NmR R ∧ R.ms.length ≤ 200 ∧ R.ks.length ≤ 200 ∧ (x.b = none → x.a = none ∨ 1 ≤ R.next ∨ R.ms ≠ []) ∧ g[k]? = some (some (.row 38 (flat En.enc es))) ∧ LogD es ∧ es.length ≤ 100 ∧ u.size ≤ 100 ∧ nmB u = true ∧ SyOk s := by
  have hb : ∀ (g : List (Option Ob)) (Y : Option Ob) (r : List (Option Ob)), (g ++ Y :: r)[g.length]? = some Y := fun g Y r => by rw [List.getElem?_append_right (Nat.le_refl _)]; simp
  have gi : ∀ (g r : List (Option Ob)) (k : Nat), (g ++ r)[g.length + k]? = r[k]? := fun g r k => by rw [List.getElem?_append_right (by omega)]; simp
  have si : ∀ (g r : List (Option Ob)) (k : Nat) (Z : Option Ob), (g ++ r).set (g.length + k) Z = g ++ r.set k Z := fun g r k Z => by rw [List.set_append_right _ _ (by omega)]; simp
  have si0 : ∀ (g r : List (Option Ob)) (Z : Option Ob), (g ++ r).set g.length Z = g ++ r.set 0 Z := fun g r Z => by rw [List.set_append_right _ _ (by omega)]; simp
  refine AFn_nil ?_
  refine AFn_of Tryz.func9 rfl (by kernel_rfl) ?_
  have r := Tryz.results9
  simp only [go_sem, cond, Nat.reduceAdd, Nat.reduceLeDiff, Nat.reduceEqDiff, Nat.reduceBEq, decide_true, decide_false, Int.toNat_natCast, r]
  refine call (l16Open_ok w0 _ A c bs hc) ?_
  rintro v H2 ⟨D, hD, rfl, rfl⟩
  simp only [go_sem, cond, Nat.reduceAdd, Nat.reduceLeDiff, Nat.reduceEqDiff, Nat.reduceBEq, decide_true, decide_false, Int.toNat_natCast, r, List.cons_append, List.nil_append]
  obtain ⟨l, hl⟩ : ∃ l : List (Option Ob), l = [some (.row 26 [.string em, .int .i64 0, .slice none 0 0, .slice none 0 0, .string em]), some (.row 29 [.int .i64 0, .string em, .string em, .string em, .string em, .string em, .string em, .int .i64 0, .int .i64 0, .int .i64 0]), dr D 0] := ⟨_, rfl⟩
  refine call (l16Log_ok w0 D H _ 2 _ hD rfl (by omega)) ?_
  rintro v H2 ⟨p1, es, kl, g, rfl, -, hp1, hes, hlen, rfl, hkl⟩
  simp only [go_sem, cond, Nat.reduceAdd, Nat.reduceLeDiff, Nat.reduceEqDiff, Nat.reduceBEq, decide_true, decide_false, Int.toNat_natCast, r, hb, gi, si, si0, List.set_cons_zero, List.set_cons_succ, List.set_set, List.append_assoc, List.length_append, List.length_set, List.length_cons, List.singleton_append, List.cons_append, List.nil_append]
  have hl3 : ∀ (a b c : Option Ob) (rest : List (Option Ob)), (a :: b :: c :: (g ++ rest))[3 + kl]? = some (some (.row 38 (flat En.enc es))) := fun a b c rest => by
    rw [show 3 + kl = kl + 1 + 1 + 1 by omega]
    show (g ++ rest)[kl]? = _
    rw [List.getElem?_append_left (lt_of_get hkl)]; exact hkl
  have hro := roomR_ok (ByteArray.mk #[100, 101, 110]) es (by decide) hes.sm
  have hnm := roomR_nm (ByteArray.mk #[100, 101, 110]) es hes.nm
  refine call (l8Room_ok w0 _ es _ _ _ (Sl_own elen _ es H _ _ (by have := hl3; simpa only [List.append_nil] using this _ _ _ [])) (by omega) hes.sm) ?_
  rintro v H2 ⟨x, g2, rfl, rfl, hpl0, hxa⟩
  generalize roomR (ByteArray.mk #[100, 101, 110]) es = R at *
  obtain ⟨hsm, hlm, hlk⟩ := hro
  have hplF : ∀ (a b c d : Option Ob) (rest : List (Option Ob)), PlS H 0 (a :: b :: c :: (g ++ (g2 ++ d :: rest))) R x := fun a b c d rest => by
    have h1 := PlS.down' (M' := a :: b :: c :: g) (by simp) hpl0.toS
    have h2 := h1.more (d :: rest)
    simpa only [List.append_assoc, List.cons_append] using h2
  have hsh : x.b = none → x.a = none ∨ 1 ≤ R.next ∨ R.ms ≠ [] := fun _ => hxa.imp id .inl
  have hlm2 : R.ms.length ≤ 200 := by omega
  have hlk2 : R.ks.length ≤ 200 := by omega
  clear hpl0 hxa hlm hlk hkl
  simp only [go_sem, cond, Nat.reduceAdd, Nat.reduceLeDiff, Nat.reduceEqDiff, Nat.reduceBEq, decide_true, decide_false, Int.toNat_natCast, r, hb, gi, si, si0, List.set_cons_zero, List.set_cons_succ, List.set_set, List.append_assoc, List.length_append, List.length_set, List.length_cons, List.singleton_append, List.cons_append, List.nil_append, Rm.enc]
  refine call (pick_ok w0 D hD H _ 2 _ _ rfl (by omega)) ?_
  rintro v H2 ⟨kk, rfl, -, -, rfl⟩
  simp only [go_sem, cond, Nat.reduceAdd, Nat.reduceLeDiff, Nat.reduceEqDiff, Nat.reduceBEq, decide_true, decide_false, Int.toNat_natCast, r, hb, gi, si, si0, List.set_cons_zero, List.set_cons_succ, List.set_set, List.append_assoc, List.length_append, List.length_set, List.length_cons, List.singleton_append, List.cons_append, List.nil_append]
  refine Br_intro ?_ ?_ <;> intro h0 <;> simp only [go_sem, cond, Nat.reduceAdd, Nat.reduceLeDiff, Nat.reduceEqDiff, Nat.reduceBEq, decide_true, decide_false, Int.toNat_natCast, r, hb, gi, si, si0, List.set_cons_zero, List.set_cons_succ, List.set_set, List.append_assoc, List.length_append, List.length_set, List.length_cons, List.singleton_append, List.cons_append, List.nil_append, h0]
  · refine call (l16AnyRoom_nm w0 D H _ 2 _ hD rfl (by omega)) ?_
    clear hplF hsh hlm2 hlk2 hsm hnm
    rintro v H2 ⟨p2, R, x, g3, rfl, -, hp2, rfl, hpl, hsm, hnm, hlm2, hlk2, hsh⟩
    have hplF : ∀ (a b c d : Option Ob) (rest : List (Option Ob)), PlS H 0 (a :: b :: c :: (g ++ (g2 ++ d :: (g3 ++ rest)))) R x := fun a b c d rest => by
      have h1 := PlS.shift' (pre := a :: b :: c :: (g ++ (g2 ++ [d]))) (by simp) hpl
      have h2 := h1.more rest
      simpa only [List.append_assoc, List.cons_append, List.nil_append] using h2
    clear hpl
    simp only [go_sem, cond, Nat.reduceAdd, Nat.reduceLeDiff, Nat.reduceEqDiff, Nat.reduceBEq, decide_true, decide_false, Int.toNat_natCast, r, hb, gi, si, si0, List.set_cons_zero, List.set_cons_succ, List.set_set, List.append_assoc, List.length_append, List.length_set, List.length_cons, List.singleton_append, List.cons_append, List.nil_append, Rm.enc]
    refine call (l16AnySay_ok w0 D H _ 2 _ hD rfl (by omega)) ?_
    rintro v H2 ⟨p3, rfl, -, hp3, ⟨y1, y2, y3, y4, y5, y6, y7, y8, y9, y10⟩, hy, rfl⟩
    simp only [go_sem, cond, Nat.reduceAdd, Nat.reduceLeDiff, Nat.reduceEqDiff, Nat.reduceBEq, decide_true, decide_false, Int.toNat_natCast, r, hb, gi, si, si0, List.set_cons_zero, List.set_cons_succ, List.set_set, List.append_assoc, List.length_append, List.length_set, List.length_cons, List.singleton_append, List.cons_append, List.nil_append, Rm.enc, Sy.enc]
    refine call (pick_ok w0 D hD H _ 2 _ _ rfl (by omega)) ?_
    rintro v H2 ⟨k2, rfl, -, -, rfl⟩
    simp only [go_sem, cond, Nat.reduceAdd, Nat.reduceLeDiff, Nat.reduceEqDiff, Nat.reduceBEq, decide_true, decide_false, Int.toNat_natCast, r, hb, gi, si, si0, List.set_cons_zero, List.set_cons_succ, List.set_set, List.append_assoc, List.length_append, List.length_set, List.length_cons, List.singleton_append, List.cons_append, List.nil_append]
    refine Br_intro ?_ ?_ <;> intro h9 <;> simp only [go_sem, cond, Nat.reduceAdd, Nat.reduceLeDiff, Nat.reduceEqDiff, Nat.reduceBEq, decide_true, decide_false, Int.toNat_natCast, r, hb, gi, si, si0, List.set_cons_zero, List.set_cons_succ, List.set_set, List.append_assoc, List.length_append, List.length_set, List.length_cons, List.singleton_append, List.cons_append, List.nil_append, h9]
    · refine call (l5Clean_ok' w0 _ (s := ⟨y1, ByteArray.mk #[100, 101, 110], y3, y4, y5, y6, y7, y8, y9, y10⟩) ⟨(show (ByteArray.mk #[100, 101, 110]).size ≤ 500 by decide), hy.nick, hy.name, hy.id, hy.ref, hy.text, hy.kind, hy.num, hy.frm, hy.back⟩) ?_
      rintro v H2 ⟨⟨z1, z2, z3, z4, z5, z6, z7, z8, z9, z10⟩, hz, rfl, rfl⟩
      simp only [go_sem, cond, Nat.reduceAdd, Nat.reduceLeDiff, Nat.reduceEqDiff, Nat.reduceBEq, decide_true, decide_false, Int.toNat_natCast, r, hb, gi, si, si0, List.set_cons_zero, List.set_cons_succ, List.set_set, List.append_assoc, List.length_append, List.length_set, List.length_cons, List.singleton_append, List.cons_append, List.nil_append, Sy.enc]
      (refine xw_open (id := 10) [0, 0, 0, 0, 12, 0, 29, 95, 223, 511] [.q 1, .q 2, .l 0, .l 5, .e 3, .e 4, .d 0, .e 6, .d 5, .q 7, .q 8, .e 9] rfl (by kernel_rfl) ?_; simp only [go_sem, cond, Nat.reduceAdd, Nat.reduceLeDiff, Nat.reduceEqDiff, Nat.reduceBEq, decide_true, decide_false, Int.toNat_natCast, r, hb, gi, si, si0, List.set_cons_zero, List.set_cons_succ, List.set_set, List.append_assoc, List.length_append, List.length_set, List.length_cons, List.singleton_append, List.cons_append, List.nil_append])
      refine bsV_dense ⟨_, XF.zer_9, rfl⟩ rfl rfl (by decide) rfl ?_
      simp only [go_sem, cond, Nat.reduceAdd, Nat.reduceLeDiff, Nat.reduceEqDiff, Nat.reduceBEq, decide_true, decide_false, Int.toNat_natCast, r, hb, gi, si, si0, List.set_cons_zero, List.set_cons_succ, List.set_set, List.append_assoc, List.length_append, List.length_set, List.length_cons, List.singleton_append, List.cons_append, List.nil_append]
      refine call (of_okP w0 nmS D hD H _ 2 _ _ _ _ _ rfl (by omega) (by simp only [List.getElem?_cons_succ, gi, hb]; first | rfl | simp) rfl rfl (by decide) (by decide) (by decide)) ?_
      rintro v H2 ⟨us, hus0, rfl, rfl⟩; obtain ⟨hus, hun⟩ := nmS_spec hus0
      simp only [go_sem, cond, Nat.reduceAdd, Nat.reduceLeDiff, Nat.reduceEqDiff, Nat.reduceBEq, decide_true, decide_false, Int.toNat_natCast, r, hb, gi, si, si0, List.set_cons_zero, List.set_cons_succ, List.set_set, List.append_assoc, List.length_append, List.length_set, List.length_cons, List.singleton_append, List.cons_append, List.nil_append, Sy.enc]
      exact ⟨R, x, es, 3 + kl, us, ⟨z1, z2, z3, z4, z5, z6, z7, z8, z9, z10⟩, _, rfl, rfl, hplF _ _ _ _ _, hsm, hnm, hlm2, hlk2, hsh, hl3 _ _ _ _, hes, hlen, hus, hun, hz⟩
    · (refine xw_open (id := 10) [0, 0, 0, 0, 12, 0, 29, 95, 223, 511] [.q 1, .q 2, .l 0, .l 5, .e 3, .e 4, .d 0, .e 6, .d 5, .q 7, .q 8, .e 9] rfl (by kernel_rfl) ?_; simp only [go_sem, cond, Nat.reduceAdd, Nat.reduceLeDiff, Nat.reduceEqDiff, Nat.reduceBEq, decide_true, decide_false, Int.toNat_natCast, r, hb, gi, si, si0, List.set_cons_zero, List.set_cons_succ, List.set_set, List.append_assoc, List.length_append, List.length_set, List.length_cons, List.singleton_append, List.cons_append, List.nil_append])
      refine bsV_dense ⟨_, XF.zer_9, rfl⟩ rfl rfl (by decide) rfl ?_
      simp only [go_sem, cond, Nat.reduceAdd, Nat.reduceLeDiff, Nat.reduceEqDiff, Nat.reduceBEq, decide_true, decide_false, Int.toNat_natCast, r, hb, gi, si, si0, List.set_cons_zero, List.set_cons_succ, List.set_set, List.append_assoc, List.length_append, List.length_set, List.length_cons, List.singleton_append, List.cons_append, List.nil_append]
      refine call (of_okP w0 nmS D hD H _ 2 _ _ _ _ _ rfl (by omega) (by simp only [List.getElem?_cons_succ, gi, hb]; first | rfl | simp) rfl rfl (by decide) (by decide) (by decide)) ?_
      rintro v H2 ⟨us, hus0, rfl, rfl⟩; obtain ⟨hus, hun⟩ := nmS_spec hus0
      simp only [go_sem, cond, Nat.reduceAdd, Nat.reduceLeDiff, Nat.reduceEqDiff, Nat.reduceBEq, decide_true, decide_false, Int.toNat_natCast, r, hb, gi, si, si0, List.set_cons_zero, List.set_cons_succ, List.set_set, List.append_assoc, List.length_append, List.length_set, List.length_cons, List.singleton_append, List.cons_append, List.nil_append, Sy.enc]
      exact ⟨R, x, es, 3 + kl, us, ⟨y1, y2, y3, y4, y5, y6, y7, y8, y9, y10⟩, _, rfl, rfl, hplF _ _ _ _ _, hsm, hnm, hlm2, hlk2, hsh, hl3 _ _ _ _, hes, hlen, hus, hun, hy⟩
  · refine call (l16AnySay_ok w0 D H _ 2 _ hD rfl (by omega)) ?_
    rintro v H2 ⟨p3, rfl, -, hp3, ⟨y1, y2, y3, y4, y5, y6, y7, y8, y9, y10⟩, hy, rfl⟩
    simp only [go_sem, cond, Nat.reduceAdd, Nat.reduceLeDiff, Nat.reduceEqDiff, Nat.reduceBEq, decide_true, decide_false, Int.toNat_natCast, r, hb, gi, si, si0, List.set_cons_zero, List.set_cons_succ, List.set_set, List.append_assoc, List.length_append, List.length_set, List.length_cons, List.singleton_append, List.cons_append, List.nil_append, Rm.enc, Sy.enc]
    refine call (pick_ok w0 D hD H _ 2 _ _ rfl (by omega)) ?_
    rintro v H2 ⟨k2, rfl, -, -, rfl⟩
    simp only [go_sem, cond, Nat.reduceAdd, Nat.reduceLeDiff, Nat.reduceEqDiff, Nat.reduceBEq, decide_true, decide_false, Int.toNat_natCast, r, hb, gi, si, si0, List.set_cons_zero, List.set_cons_succ, List.set_set, List.append_assoc, List.length_append, List.length_set, List.length_cons, List.singleton_append, List.cons_append, List.nil_append]
    refine Br_intro ?_ ?_ <;> intro h9 <;> simp only [go_sem, cond, Nat.reduceAdd, Nat.reduceLeDiff, Nat.reduceEqDiff, Nat.reduceBEq, decide_true, decide_false, Int.toNat_natCast, r, hb, gi, si, si0, List.set_cons_zero, List.set_cons_succ, List.set_set, List.append_assoc, List.length_append, List.length_set, List.length_cons, List.singleton_append, List.cons_append, List.nil_append, h9]
    · refine call (l5Clean_ok' w0 _ (s := ⟨y1, ByteArray.mk #[100, 101, 110], y3, y4, y5, y6, y7, y8, y9, y10⟩) ⟨(show (ByteArray.mk #[100, 101, 110]).size ≤ 500 by decide), hy.nick, hy.name, hy.id, hy.ref, hy.text, hy.kind, hy.num, hy.frm, hy.back⟩) ?_
      rintro v H2 ⟨⟨z1, z2, z3, z4, z5, z6, z7, z8, z9, z10⟩, hz, rfl, rfl⟩
      simp only [go_sem, cond, Nat.reduceAdd, Nat.reduceLeDiff, Nat.reduceEqDiff, Nat.reduceBEq, decide_true, decide_false, Int.toNat_natCast, r, hb, gi, si, si0, List.set_cons_zero, List.set_cons_succ, List.set_set, List.append_assoc, List.length_append, List.length_set, List.length_cons, List.singleton_append, List.cons_append, List.nil_append, Sy.enc]
      (refine xw_open (id := 10) [0, 0, 0, 0, 12, 0, 29, 95, 223, 511] [.q 1, .q 2, .l 0, .l 5, .e 3, .e 4, .d 0, .e 6, .d 5, .q 7, .q 8, .e 9] rfl (by kernel_rfl) ?_; simp only [go_sem, cond, Nat.reduceAdd, Nat.reduceLeDiff, Nat.reduceEqDiff, Nat.reduceBEq, decide_true, decide_false, Int.toNat_natCast, r, hb, gi, si, si0, List.set_cons_zero, List.set_cons_succ, List.set_set, List.append_assoc, List.length_append, List.length_set, List.length_cons, List.singleton_append, List.cons_append, List.nil_append])
      refine bsV_dense ⟨_, XF.zer_9, rfl⟩ rfl rfl (by decide) rfl ?_
      simp only [go_sem, cond, Nat.reduceAdd, Nat.reduceLeDiff, Nat.reduceEqDiff, Nat.reduceBEq, decide_true, decide_false, Int.toNat_natCast, r, hb, gi, si, si0, List.set_cons_zero, List.set_cons_succ, List.set_set, List.append_assoc, List.length_append, List.length_set, List.length_cons, List.singleton_append, List.cons_append, List.nil_append]
      refine call (of_okP w0 nmS D hD H _ 2 _ _ _ _ _ rfl (by omega) (by simp only [List.getElem?_cons_succ, gi, hb]; first | rfl | simp) rfl rfl (by decide) (by decide) (by decide)) ?_
      rintro v H2 ⟨us, hus0, rfl, rfl⟩; obtain ⟨hus, hun⟩ := nmS_spec hus0
      simp only [go_sem, cond, Nat.reduceAdd, Nat.reduceLeDiff, Nat.reduceEqDiff, Nat.reduceBEq, decide_true, decide_false, Int.toNat_natCast, r, hb, gi, si, si0, List.set_cons_zero, List.set_cons_succ, List.set_set, List.append_assoc, List.length_append, List.length_set, List.length_cons, List.singleton_append, List.cons_append, List.nil_append, Sy.enc]
      exact ⟨R, x, es, 3 + kl, us, ⟨z1, z2, z3, z4, z5, z6, z7, z8, z9, z10⟩, _, rfl, rfl, hplF _ _ _ _ _, hsm, hnm, hlm2, hlk2, hsh, hl3 _ _ _ _, hes, hlen, hus, hun, hz⟩
    · (refine xw_open (id := 10) [0, 0, 0, 0, 12, 0, 29, 95, 223, 511] [.q 1, .q 2, .l 0, .l 5, .e 3, .e 4, .d 0, .e 6, .d 5, .q 7, .q 8, .e 9] rfl (by kernel_rfl) ?_; simp only [go_sem, cond, Nat.reduceAdd, Nat.reduceLeDiff, Nat.reduceEqDiff, Nat.reduceBEq, decide_true, decide_false, Int.toNat_natCast, r, hb, gi, si, si0, List.set_cons_zero, List.set_cons_succ, List.set_set, List.append_assoc, List.length_append, List.length_set, List.length_cons, List.singleton_append, List.cons_append, List.nil_append])
      refine bsV_dense ⟨_, XF.zer_9, rfl⟩ rfl rfl (by decide) rfl ?_
      simp only [go_sem, cond, Nat.reduceAdd, Nat.reduceLeDiff, Nat.reduceEqDiff, Nat.reduceBEq, decide_true, decide_false, Int.toNat_natCast, r, hb, gi, si, si0, List.set_cons_zero, List.set_cons_succ, List.set_set, List.append_assoc, List.length_append, List.length_set, List.length_cons, List.singleton_append, List.cons_append, List.nil_append]
      refine call (of_okP w0 nmS D hD H _ 2 _ _ _ _ _ rfl (by omega) (by simp only [List.getElem?_cons_succ, gi, hb]; first | rfl | simp) rfl rfl (by decide) (by decide) (by decide)) ?_
      rintro v H2 ⟨us, hus0, rfl, rfl⟩; obtain ⟨hus, hun⟩ := nmS_spec hus0
      simp only [go_sem, cond, Nat.reduceAdd, Nat.reduceLeDiff, Nat.reduceEqDiff, Nat.reduceBEq, decide_true, decide_false, Int.toNat_natCast, r, hb, gi, si, si0, List.set_cons_zero, List.set_cons_succ, List.set_set, List.append_assoc, List.length_append, List.length_set, List.length_cons, List.singleton_append, List.cons_append, List.nil_append, Sy.enc]
      exact ⟨R, x, es, 3 + kl, us, ⟨y1, y2, y3, y4, y5, y6, y7, y8, y9, y10⟩, _, rfl, rfl, hplF _ _ _ _ _, hsm, hnm, hlm2, hlk2, hsh, hl3 _ _ _ _, hes, hlen, hus, hun, hy⟩
end Go.Proofs.YtmacpgoclhgafaaGreatDoorW.FA

namespace Go.Proofs.YtmacpgoclhgafaaGreatDoorW.FA
open Go.RowKit Go.Proofs.YtmacpgoclhgafaaGreatDoorW.XM Go.Proofs Go.Proofs.YtmacpgoclhgafaaGreatDoorW.XWords
set_option maxRecDepth 100000
set_option linter.unusedSimpArgs false
set_option linter.unusedVariables false
variable (w0 : World) (H : Hp)
theorem hbMember_ok (R : Rm) (x : Ad) (u : ByteArray) (hr : RmAt w0 H R x) : AFn Tryz.prog w0 16 #[.agg (R.enc x).toArray, .string u] H fun v H2 => v = .int .i64 (idxP (isU u) R.ms 0) ∧ H2 = H := by
  have hl := hr.lm
  refine AFn.scal rfl Tryz.func16 rfl (by kernel_rfl) ?_
  have r := Tryz.results16
  simp only [go_sem, cond, Nat.reduceAdd, Nat.reduceLeDiff, Nat.reduceEqDiff, Nat.reduceBEq, decide_true, decide_false, Int.toNat_natCast, r]
  simp only [go_sem, cond, Nat.reduceAdd, Nat.reduceLeDiff, Nat.reduceEqDiff, Nat.reduceBEq, decide_true, decide_false, Int.toNat_natCast, Rm.enc]
  refine xw_loop (fun (i : Nat) T H' => i ≤ R.ms.length ∧ idxP (isU u) (R.ms.drop i) i = idxP (isU u) R.ms 0 ∧ T 1 = .string u ∧ T 2 = .pointer (some ⟨nid H 0, 0, some 5⟩) ∧ T 5 = .int .i64 i ∧ H' = Hx H [some (.row 26 (R.enc x))]) (fun i => R.ms.length - i) 0 (by kernel_rfl) ⟨Nat.zero_le _, rfl, rfl, rfl, rfl, rfl⟩ ?_
  rintro i T H' ⟨hi, he, t1, t2, t5, rfl⟩
  by_cases hlt : i < R.ms.length
  · obtain ⟨b, o, sp, hx, hc, _⟩ := mcell hr.sm hlt
    have c0 := hc 0 (.string R.ms[i].user) [some (.row 26 (R.enc x))] (by decide) rfl
    have d1 : ((i : Int) < (R.ms.length : Int)) = True := eq_true (by omega)
    have d2 : (0 ≤ (i : Int)) = True := eq_true (by omega)
    rw [idxP_drop _ _ i hlt] at he
    simp only [Rm.enc, hx] at c0
    simp only [go_sem, cond, Nat.reduceAdd, Nat.reduceLeDiff, Nat.reduceEqDiff, Nat.reduceBEq, decide_true, decide_false, Int.toNat_natCast, Rm.enc, hx, t1, t2, t5, d1, d2, c0]
    refine Br_intro ?_ ?_ <;> intro h <;> simp only [go_sem, cond, Nat.reduceAdd, Nat.reduceLeDiff, Nat.reduceEqDiff, Nat.reduceBEq, decide_true, decide_false, Int.toNat_natCast, t1, t2, t5, h, r]
    · rw [if_pos (show isU u R.ms[i] = true from h)] at he
      exact ⟨by rw [he], _, rfl⟩
    · rw [if_neg (by rw [isU, h]; decide)] at he
      exact ⟨i + 1, ⟨hlt, he, t1, t2, int_succ hlt (by omega), by simp only [Rm.enc, hx]⟩, lt_meas hlt⟩
  · obtain rfl : i = R.ms.length := by omega
    have d1 : ((R.ms.length : Int) < (R.ms.length : Int)) = False := eq_false (by omega)
    rw [List.drop_length] at he
    simp only [go_sem, cond, Nat.reduceAdd, Nat.reduceLeDiff, Nat.reduceEqDiff, Nat.reduceBEq, decide_true, decide_false, Int.toNat_natCast, Rm.enc, t1, t2, t5, d1, r]
    exact ⟨by rw [← he]; rfl, _, rfl⟩
theorem hbLog_ok (es : List En) (A A' : Option Addr) (c c' : Nat) (hs : Sl w0 H A 9 (es.map En.enc)) (hs' : Sl w0 H A' 9 (es.map En.enc)) (hl : es.length ≤ 2000000) : AFn Tryz.prog w0 12 #[.slice A es.length c, .slice A' es.length c'] H fun v H2 => v = .bool true ∧ H2 = H := by
  refine AFn.scal rfl Tryz.func12 rfl (by kernel_rfl) ?_
  have r := Tryz.results12
  simp only [go_sem, cond, Nat.reduceAdd, Nat.reduceLeDiff, Nat.reduceEqDiff, Nat.reduceBEq, decide_true, decide_false, Int.toNat_natCast, r]
  simp only [go_sem, cond, Nat.reduceAdd, Nat.reduceLeDiff, Nat.reduceEqDiff, Nat.reduceBEq, decide_true, decide_false, Int.toNat_natCast, beq_self_eq_true, r]
  refine xw_loop (fun (i : Nat) T H' => i ≤ es.length ∧ T 0 = .slice A es.length c ∧ T 1 = .slice A' es.length c' ∧ T 5 = .int .i64 i ∧ H' = Hx H []) (fun i => es.length - i) 0 (by kernel_rfl) ⟨Nat.zero_le _, rfl, rfl, rfl, rfl⟩ ?_
  rintro i T H' ⟨hi, t0, t1, t3, rfl⟩
  by_cases hlt : i < es.length
  · obtain ⟨b, o, sp, rfl, -, hw⟩ := mcell hs hlt
    obtain ⟨b2, o2, sp2, rfl, -, hw2⟩ := mcell hs' hlt
    have c0 := fun L => hw L rfl
    have c1 := fun L => hw2 L rfl
    simp only [En.enc] at c0 c1
    have d1 : ((i : Int) < (es.length : Int)) = True := eq_true (by omega)
    have d2 : (0 ≤ (i : Int)) = True := eq_true (by omega)
    simp only [go_sem, cond, Nat.reduceAdd, Nat.reduceLeDiff, Nat.reduceEqDiff, Nat.reduceBEq, decide_true, decide_false, Int.toNat_natCast, t0, t1, t3, d1, d2, c0, c1, beq_self_eq_true, r]
    (refine xw_open (id := 6) [0, 0, 3, 7, 0, 0, 48, 112, 255] [.q 0, .q 1, .q 2, .q 4, .q 5, .q 6, .q 3, .q 7, .q 8] rfl (by kernel_rfl) ?_; simp only [go_sem, cond, Nat.reduceAdd, Nat.reduceLeDiff, Nat.reduceEqDiff, Nat.reduceBEq, decide_true, decide_false, Int.toNat_natCast, t0, t1, t3, d1, d2, c0, c1, beq_self_eq_true, r])
    simp only [Bool.and_true]
    simp only [go_sem, cond, Nat.reduceAdd, Nat.reduceLeDiff, Nat.reduceEqDiff, Nat.reduceBEq, decide_true, decide_false, Int.toNat_natCast, t0, t1, t3, d1, d2, r]
    exact ⟨i + 1, ⟨hlt, t0, t1, int_succ hlt (by omega), rfl⟩, lt_meas hlt⟩
  · obtain rfl : i = es.length := by omega
    have d1 : ((es.length : Int) < (es.length : Int)) = False := eq_false (by omega)
    simp only [go_sem, cond, Nat.reduceAdd, Nat.reduceLeDiff, Nat.reduceEqDiff, Nat.reduceBEq, decide_true, decide_false, Int.toNat_natCast, t0, t1, t3, d1, r]
    exact ⟨_, rfl⟩
end Go.Proofs.YtmacpgoclhgafaaGreatDoorW.FA

namespace Go.Proofs.YtmacpgoclhgafaaGreatDoorW.FA
open Go.RowKit Go.Proofs.YtmacpgoclhgafaaGreatDoorW.XM Go.Proofs Go.Proofs.YtmacpgoclhgafaaGreatDoorW.XWords
set_option maxRecDepth 100000
set_option linter.unusedSimpArgs false
set_option linter.unusedVariables false
variable (w0 : World) (H : Hp)
theorem rdo_zero {R : Rm} {es : List En} {u : ByteArray} {s : Sy} (h : (rdo R es u s).2 = 0) : roomB R = true ∧ userB u = true ∧ sayB s = true ∧ inB s.kind 6 11 = true ∧ (s.room.toList == R.name.toList) = true ∧ rdo R es u s = doR R es u s := by
  unfold rdo at h ⊢
  repeat' split at h
  all_goals first
    | (cases h; done)
    | (simp only [Bool.not_eq_false] at *
       simp only [*, Bool.true_eq_false, if_false, and_self])
theorem esV_form (H : Hp) (es : List En) : ∃ A, esV H es = .slice A es.length es.length ∧ Sl w0 (Hx H (esO es)) A 9 (es.map En.enc) := by
  cases es with
  | nil => exact ⟨none, rfl, .inl rfl⟩
  | cons e t => exact ⟨_, rfl, Sl_own elen _ (e :: t) H [_] 0 rfl⟩
theorem joinR_len (R : Rm) (u n : ByteArray) : (joinR R u n).1.length ≤ 3 := by
  unfold joinR
  repeat' split
  all_goals first | exact Nat.zero_le _ | (simp; done)
theorem roleR_len (R : Rm) (u : ByteArray) (s : Sy) : (roleR R u s).1.length ≤ 3 := by
  unfold roleR
  repeat' split
  all_goals first | exact Nat.zero_le _ | (simp; done)
theorem setL_len (R : Rm) (s : Sy) : (setL R s).length ≤ 3 := by
  unfold setL
  repeat' split
  all_goals (simp; done)
theorem setR_len (R : Rm) (u : ByteArray) (s : Sy) : (setR R u s).1.length ≤ 3 := by
  unfold setR
  repeat' split
  all_goals first | exact Nat.zero_le _ | exact setL_len _ _
theorem insR_len (R : Rm) (es : List En) (u : ByteArray) (s : Sy) : (insR R es u s).1.length ≤ 3 := by
  unfold insR
  split
  · simp
  split
  · repeat' split
    all_goals first | exact Nat.zero_le _ | (simp; done)
  split
  · repeat' split
    all_goals first | exact Nat.zero_le _ | (simp; done)
  split
  · exact roleR_len _ _ _
  · exact setR_len _ _ _
theorem doR_len (R : Rm) (es : List En) (u : ByteArray) (s : Sy) : (doR R es u s).1.length ≤ 3 := by
  unfold doR
  split
  · exact Nat.zero_le _
  split
  · exact joinR_len _ _ _
  split
  · exact Nat.zero_le _
  · exact insR_len _ _ _ _
theorem rdo_len (R : Rm) (es : List En) (u : ByteArray) (s : Sy) : (rdo R es u s).1.length ≤ 3 := by
  unfold rdo
  repeat' split
  all_goals first | exact Nat.zero_le _ | exact doR_len _ _ _ _
theorem RoomDoS_any (R : Rm) (x : Ad) (es : List En) (A : Option Addr) (c : Nat) (u : ByteArray) (s : Sy) (hr : RmAt w0 H R x) (hb : Big R) (hs : Sl w0 H A 9 (es.map En.enc)) (hl : es.length ≤ 2000000) (hu : u.size ≤ 1000000000000) (hS : BigS s) : AFn Tryz.prog w0 11 #[.agg (R.enc x).toArray, .slice A es.length c, .string u, .agg s.enc.toArray] H fun v H2 => ∃ A' c' g, H2 = Hx H g ∧ v = .tuple #[.slice A' (rdo R es u s).1.length c', .int .i64 (rdo R es u s).2] ∧ Sl w0 (Hx H g) A' 9 ((rdo R es u s).1.map En.enc) := by
  refine (RoomDoS_ok w0 H R x es A c u s hr hb hs hl hu hS).mono ?_
  rintro v H2 ⟨rfl, rfl⟩
  obtain ⟨A2, e2, h2⟩ := esV_form w0 H (rdo R es u s).1
  exact ⟨A2, _, _, rfl, by rw [deedV, e2], h2⟩
end Go.Proofs.YtmacpgoclhgafaaGreatDoorW.FA

namespace Go.Proofs.YtmacpgoclhgafaaGreatDoorW.FA
open Go.RowKit Go.Proofs.YtmacpgoclhgafaaGreatDoorW.XM Go.Proofs Go.Proofs.YtmacpgoclhgafaaGreatDoorW.XWords
set_option maxRecDepth 100000
set_option linter.unusedSimpArgs false
set_option linter.unusedVariables false
theorem idxP_at {α : Type} (p : α → Bool) : ∀ (l : List α) (i : Nat) (hi : i < l.length) (k : Nat), p l[i] = true → (∀ j (h : j < i), p (l[j]'(Nat.lt_trans h hi)) = false) → idxP p l k = ((k + i : Nat) : Int)
  | a :: r, 0, hi, k, h1, _ => by
    rw [idxP, if_pos (show p a = true from h1)]; rfl
  | a :: r, i + 1, hi, k, h1, h2 => by
    have h0 : p a = false := h2 0 (by omega)
    rw [idxP, if_neg (by rw [h0]; decide), idxP_at p r i (by simpa using hi) (k + 1) (by simpa using h1) (fun j h => by simpa using h2 (j + 1) (by omega))]
    congr 1; omega
theorem idxP_first {α : Type} (p : α → Bool) : ∀ (l : List α) (i k : Nat), idxP p l k = ((k + i : Nat) : Int) → ∀ j (h : j < i) (hl : j < l.length), p l[j] = false
  | [], i, k, h, j, hj, hl => by simp at hl
  | a :: r, i, k, h, j, hj, hl => by
    rw [idxP] at h
    split at h
    · omega
    · rename_i hp
      cases j with
      | zero => simpa using hp
      | succ j =>
        obtain ⟨i, rfl⟩ : ∃ i', i = i' + 1 := ⟨i - 1, by omega⟩
        have := idxP_first p r i (k + 1) (by rw [h]; congr 1; omega) j (by omega) (by simpa using hl)
        simpa using this
theorem allI_intro {α : Type} (p : Nat → α → Bool) : ∀ (l : List α) (i : Nat), (∀ j (h : j < l.length), p (i + j) l[j] = true) → allI p l i = true
  | [], i, _ => rfl
  | a :: r, i, h => by
    rw [allI, show p i a = true from h 0 (by simp), Bool.true_and]
    exact allI_intro p r (i + 1) fun j hj => by
      have := h (j + 1) (by simpa using hj)
      rw [show i + 1 + j = i + (j + 1) by omega]
      simpa using this
/-- Members of whom none is told twice or outcast. -/
structure MsOk (ms : List Mem) (ks : List Rk) : Prop where
  each : ∀ m ∈ ms, userB m.user = true ∧ nickB m.nick = true ∧ 1 ≤ m.role ∧ m.role ≤ 3 ∧ rankB ks m.user ≠ 0
  uniq : ms.Pairwise fun a b => a.user.toList ≠ b.user.toList ∧ a.nick.toList ≠ b.nick.toList
structure KsOk (ks : List Rk) : Prop where
  asc : Asc ks
  each : ∀ k ∈ ks, userB k.user = true ∧ 0 ≤ k.num ∧ k.num ≤ 4 ∧ k.num ≠ 1
theorem msOk_iff (R : Rm) : allI (memB R) R.ms 0 = true ↔ MsOk R.ms R.ks := by
  constructor
  · intro h
    have hg : ∀ i (hi : i < R.ms.length), userB R.ms[i].user = true ∧ nickB R.ms[i].nick = true ∧ idxP (isU R.ms[i].user) R.ms 0 = (i : Int) ∧ idxP (isN R.ms[i].nick) R.ms 0 = (i : Int) ∧ (1 ≤ R.ms[i].role ∧ R.ms[i].role ≤ 3) ∧ rankB R.ks R.ms[i].user ≠ 0 := fun i hi => by
      have := allI_get _ _ 0 h i hi
      rw [Nat.zero_add] at this
      simpa only [memB, inB, Bool.and_eq_true, decide_eq_true_eq, beq_iff_eq, Bool.not_eq_true', beq_eq_false_iff_ne] using this
    refine ⟨fun m hm => ?_, List.pairwise_iff_getElem.2 fun i j hi hj hij => ?_⟩
    · obtain ⟨i, hi, rfl⟩ := List.mem_iff_getElem.1 hm
      obtain ⟨a, b, _, _, ⟨c, d⟩, e⟩ := hg i hi
      exact ⟨a, b, c, d, e⟩
    · obtain ⟨_, _, a, b, _⟩ := hg j hj
      have h1 := idxP_first (isU R.ms[j].user) R.ms j 0 (by rw [a]; simp) i hij hi
      have h2 := idxP_first (isN R.ms[j].nick) R.ms j 0 (by rw [b]; simp) i hij hi
      exact ⟨by simpa [isU] using h1, by simpa [isN] using h2⟩
  · intro h
    refine allI_intro _ _ 0 fun i hi => ?_
    rw [Nat.zero_add]
    obtain ⟨a, b, c, d, e⟩ := h.each _ (List.getElem_mem hi)
    have hu := List.pairwise_iff_getElem.1 h.uniq
    have h1 := idxP_at (isU R.ms[i].user) R.ms i hi 0 (by simp [isU]) (fun j hj => by simpa [isU] using (hu j i (by omega) hi hj).1)
    have h2 := idxP_at (isN R.ms[i].nick) R.ms i hi 0 (by simp [isN]) (fun j hj => by simpa [isN] using (hu j i (by omega) hi hj).2)
    rw [Nat.zero_add] at h1 h2
    simp only [memB, inB, a, b, h1, h2, Bool.true_and, Bool.and_eq_true, decide_eq_true_eq, beq_iff_eq, Bool.not_eq_true', beq_eq_false_iff_ne]
    exact ⟨trivial, trivial, ⟨c, d⟩, e⟩
theorem asc_get : ∀ (l : List Rk), Asc l → ∀ i j (hi : i < l.length) (hj : j < l.length), i < j → Op.bytesLess l[i].user.toList l[j].user.toList = true
  | x :: t, ha, 0, j + 1, hi, hj, _ => ha.1 _ (by simp)
  | x :: t, ha, i + 1, j + 1, hi, hj, h => asc_get t ha.2 i j (by simpa using hi) (by simpa using hj) (by omega)
theorem ksOk_iff (R : Rm) : allI (rkB R) R.ks 0 = true ↔ KsOk R.ks := by
  constructor
  · intro h
    refine ⟨asc_room h, fun k hk => ?_⟩
    obtain ⟨i, hi, rfl⟩ := List.mem_iff_getElem.1 hk
    have := allI_get _ _ 0 h i hi
    simp only [rkB, inB, Bool.and_eq_true, decide_eq_true_eq, Bool.not_eq_true', beq_eq_false_iff_ne] at this
    exact ⟨this.1, this.2.2.1.1, this.2.2.1.2, this.2.2.2⟩
  · intro h
    refine allI_intro _ _ 0 fun i hi => ?_
    rw [Nat.zero_add]
    obtain ⟨a, b, c, d⟩ := h.each _ (List.getElem_mem hi)
    have hp : prevB R i R.ks[i].user = true := by
      cases i with
      | zero => rfl
      | succ i =>
        simp only [prevB]
        rw [List.getElem?_eq_getElem (by omega)]
        exact asc_get _ h.asc i (i + 1) (by omega) hi (by omega)
    simp only [rkB, inB, a, hp, Bool.true_and, Bool.and_eq_true, decide_eq_true_eq, Bool.not_eq_true', beq_eq_false_iff_ne]
    exact ⟨⟨b, c⟩, d⟩
theorem roomB_iff (R : Rm) : roomB R = true ↔ userB R.name = true ∧ (0 ≤ R.next ∧ R.next ≤ 9999) ∧ orB bodyB R.subj = true ∧ (MsOk R.ms R.ks ∧ R.ms.length ≤ 5) ∧ (KsOk R.ks ∧ R.ks.length ≤ 6) ∧ (0 < ownB R.ks ∨ (R.next = 0 ∧ R.ms = [] ∧ R.ks = [] ∧ emB R.subj = true)) := by
  rw [← msOk_iff, ← ksOk_iff]
  simp only [roomB, inB, idleB, Bool.and_eq_true, Bool.or_eq_true, decide_eq_true_eq, beq_iff_eq, Int.natCast_eq_zero, List.length_eq_zero_iff]
end Go.Proofs.YtmacpgoclhgafaaGreatDoorW.FA

namespace Go.Proofs.YtmacpgoclhgafaaGreatDoorW.FA
open Go.RowKit Go.Proofs.YtmacpgoclhgafaaGreatDoorW.XM Go.Proofs Go.Proofs.YtmacpgoclhgafaaGreatDoorW.XWords
set_option maxRecDepth 100000
set_option linter.unusedSimpArgs false
set_option linter.unusedVariables false
theorem less_tot (x y : List UInt8) (h : Op.bytesLess x y = false) (hne : x ≠ y) : Op.bytesLess y x = true := by
  have := less_total x y
  rw [h, beq_eq_false_iff_ne.2 hne] at this
  simpa using this.symm
theorem outK_mem (u : ByteArray) : ∀ (l : List Rk) (y : Rk), y ∈ outK u l ↔ y ∈ l ∧ y.user.toList ≠ u.toList
  | [], y => by simp [outK]
  | x :: t, y => by
    unfold outK
    split
    · rename_i h
      rw [outK_mem u t y]
      constructor
      · exact fun ⟨a, b⟩ => ⟨by simp [a], b⟩
      · rintro ⟨a, b⟩
        rcases List.mem_cons.1 a with rfl | a
        · exact absurd h b
        · exact ⟨a, b⟩
    · rename_i h
      rw [List.mem_cons, outK_mem u t y, List.mem_cons]
      constructor
      · rintro (rfl | ⟨a, b⟩)
        · exact ⟨.inl rfl, h⟩
        · exact ⟨.inr a, b⟩
      · rintro ⟨rfl | a, b⟩
        · exact .inl rfl
        · exact .inr ⟨a, b⟩
theorem outK_asc (u : ByteArray) : ∀ l : List Rk, Asc l → Asc (outK u l)
  | [], _ => trivial
  | x :: t, h => by
    unfold outK
    split
    · exact outK_asc u t h.2
    · exact ⟨fun y hy => h.1 y ((outK_mem u t y).1 hy).1, outK_asc u t h.2⟩
theorem inK_mem (u : ByteArray) (num : Int) : ∀ (l : List Rk) (y : Rk), y ∈ inK u num l ↔ y = ⟨u, num⟩ ∨ (y ∈ l ∧ y.user.toList ≠ u.toList)
  | [], y => by simp [inK]
  | x :: t, y => by
    unfold inK
    split
    · rename_i h
      rw [if_neg (ne_of_less h), List.mem_cons, inK_mem u num t y, List.mem_cons]
      constructor
      · rintro (rfl | rfl | ⟨a, b⟩)
        · exact .inr ⟨.inl rfl, ne_of_less h⟩
        · exact .inl rfl
        · exact .inr ⟨.inr a, b⟩
      · rintro (rfl | ⟨rfl | a, b⟩)
        · exact .inr (.inl rfl)
        · exact .inl rfl
        · exact .inr (.inr ⟨a, b⟩)
    · rw [List.mem_cons, outK_mem]
theorem inK_asc (u : ByteArray) (num : Int) : ∀ l : List Rk, Asc l → Asc (inK u num l)
  | [], _ => ⟨by simp, trivial⟩
  | x :: t, h => by
    unfold inK
    split
    · rename_i hl
      rw [if_neg (ne_of_less hl)]
      refine ⟨fun y hy => ?_, inK_asc u num t h.2⟩
      rcases (inK_mem u num t y).1 hy with rfl | ⟨a, _⟩
      · exact hl
      · exact h.1 y a
    · rename_i hl
      refine ⟨fun y hy => ?_, outK_asc u _ h⟩
      obtain ⟨a, b⟩ := (outK_mem u _ y).1 hy
      have hl : Op.bytesLess x.user.toList u.toList = false := by simpa using hl
      rcases List.mem_cons.1 a with rfl | a
      · exact less_tot _ _ hl b
      · by_cases e : x.user.toList = u.toList
        · show Op.bytesLess u.toList y.user.toList = true
          rw [← e]; exact h.1 y a
        · exact less_trans _ _ _ (less_tot _ _ hl e) (h.1 y a)
theorem inK_len (u : ByteArray) (num : Int) : ∀ l : List Rk, (inK u num l).length = (outK u l).length + 1
  | [] => rfl
  | x :: t => by
    unfold inK
    split
    · rename_i h
      rw [if_neg (ne_of_less h), outK, if_neg (ne_of_less h), List.length_cons, List.length_cons, inK_len u num t]
    · rfl
theorem outK_len (u : ByteArray) : ∀ l : List Rk, (outK u l).length ≤ l.length ∧ ((∃ k ∈ l, k.user.toList = u.toList) → (outK u l).length < l.length)
  | [] => ⟨Nat.le_refl _, fun ⟨k, h, _⟩ => by cases h⟩
  | x :: t => by
    obtain ⟨a, b⟩ := outK_len u t
    unfold outK
    split
    · exact ⟨by simp; omega, fun _ => by simp; omega⟩
    · rename_i h
      refine ⟨by simp; omega, fun ⟨k, hk, he⟩ => ?_⟩
      rcases List.mem_cons.1 hk with rfl | hk
      · exact absurd he h
      · have := b ⟨k, hk, he⟩
        simp; omega
theorem rankB_mem : ∀ (l : List Rk), Asc l → ∀ k ∈ l, rankB l k.user = k.num
  | x :: t, h, k, hk => by
    unfold rankB
    rcases List.mem_cons.1 hk with rfl | hk
    · simp
    · have : (x.user.toList == k.user.toList) = false := beq_eq_false_iff_ne.2 (ne_of_less (h.1 k hk))
      rw [this]
      exact rankB_mem t h.2 k hk
theorem rankB_none (u : ByteArray) : ∀ (l : List Rk), (∀ k ∈ l, k.user.toList ≠ u.toList) → rankB l u = 1
  | [], _ => rfl
  | x :: t, h => by
    unfold rankB
    have : (x.user.toList == u.toList) = false := beq_eq_false_iff_ne.2 (h x (by simp))
    rw [this]
    exact rankB_none u t fun k hk => h k (by simp [hk])
theorem rankB_find {l : List Rk} (u : ByteArray) : (∃ k ∈ l, k.user = u) ∨ ∀ k ∈ l, k.user.toList ≠ u.toList := by
  by_cases h : ∃ k ∈ l, k.user = u
  · exact .inl h
  · exact .inr fun k hk e => h ⟨k, hk, ba_ext e⟩
theorem rankB_same {l m : List Rk} (hl : Asc l) (hm : Asc m) (v : ByteArray) (h : ∀ k : Rk, k.user = v → (k ∈ m ↔ k ∈ l)) : rankB m v = rankB l v := by
  rcases rankB_find (l := l) v with ⟨k, hk, rfl⟩ | h1
  · rw [rankB_mem l hl k hk, rankB_mem m hm k ((h k rfl).2 hk)]
  · rw [rankB_none v l h1, rankB_none v m fun k hk e => h1 k ((h k (ba_ext e)).1 hk) e]
/-- Ranks with one of a user. -/
theorem rkd_spec {l : List Rk} (h : KsOk l) (u : ByteArray) (num : Int) (hu : userB u = true) (hn : 0 ≤ num ∧ num ≤ 4) :
    KsOk (rkd u num l) ∧ rankB (rkd u num l) u = num ∧ (∀ v, v.toList ≠ u.toList → rankB (rkd u num l) v = rankB l v) ∧ (rkd u num l).length ≤ l.length + (if rankB l u = 1 then 1 else 0) ∧ (∀ y, y.user.toList ≠ u.toList → (y ∈ rkd u num l ↔ y ∈ l)) := by
  have e : rkd u num l = if num = 1 then outK u l else inK u num l := by rw [rkd_ranked _ _ _ h.asc, ranked_split _ _ _ h.asc]
  have hmem : ∀ y : Rk, y.user.toList ≠ u.toList → (y ∈ rkd u num l ↔ y ∈ l) := fun y hy => by
    rw [e]
    split
    · rw [outK_mem]; exact ⟨fun a => a.1, fun a => ⟨a, hy⟩⟩
    · rw [inK_mem]
      constructor
      · rintro (rfl | a)
        · exact absurd rfl hy
        · exact a.1
      · exact fun a => .inr ⟨a, hy⟩
  have hasc : Asc (rkd u num l) := by
    rw [e]
    split
    · exact outK_asc u l h.asc
    · exact inK_asc u num l h.asc
  refine ⟨⟨hasc, fun k hk => ?_⟩, ?_, fun v hv => rankB_same h.asc hasc v fun k hk => hmem k (by rw [hk]; exact hv), ?_, hmem⟩
  · by_cases hku : k.user.toList = u.toList
    · rw [e] at hk
      split at hk
      · exact absurd hku ((outK_mem u l k).1 hk).2
      · rename_i h1
        rcases (inK_mem u num l k).1 hk with rfl | a
        · exact ⟨hu, hn.1, hn.2, h1⟩
        · exact absurd hku a.2
    · exact h.each k ((hmem k hku).1 hk)
  · rw [e]
    split
    · rename_i h1
      rw [rankB_none u _ fun k hk => ((outK_mem u l k).1 hk).2, h1]
    · exact rankB_mem _ (inK_asc u num l h.asc) ⟨u, num⟩ ((inK_mem u num l _).2 (.inl rfl))
  · obtain ⟨a, b⟩ := outK_len u l
    have c := inK_len u num l
    rcases rankB_find (l := l) u with ⟨k, hk, rfl⟩ | h1
    · have h2 := b ⟨k, hk, rfl⟩
      have h3 : rankB l k.user ≠ 1 := by rw [rankB_mem l h.asc k hk]; exact (h.each k hk).2.2.2
      rw [if_neg h3, e]
      split <;> omega
    · rw [if_pos (rankB_none u l h1), e]
      split <;> omega
theorem ownB_pos : ∀ l : List Rk, 0 < ownB l ↔ ∃ k ∈ l, k.num = 4
  | [] => by simp [FA.ownB]
  | x :: t => by
    have ih := ownB_pos t
    unfold FA.ownB
    by_cases h : (x.num == 4) = true
    · rw [if_pos h]
      exact ⟨fun _ => ⟨x, by simp, eq_of_beq h⟩, fun _ => by omega⟩
    · rw [if_neg h, Nat.zero_add, ih]
      constructor
      · exact fun ⟨k, a, b⟩ => ⟨k, by simp [a], b⟩
      · rintro ⟨k, a, b⟩
        rcases List.mem_cons.1 a with rfl | a
        · exact absurd (beq_iff_eq.2 b) h
        · exact ⟨k, a, b⟩
end Go.Proofs.YtmacpgoclhgafaaGreatDoorW.FA

namespace Go.Proofs.YtmacpgoclhgafaaGreatDoorW.FA
open Go.RowKit Go.Proofs.YtmacpgoclhgafaaGreatDoorW.XM Go.Proofs Go.Proofs.YtmacpgoclhgafaaGreatDoorW.XWords
set_option maxRecDepth 100000
set_option linter.unusedSimpArgs false
set_option linter.unusedVariables false
variable (w0 : World) (H : Hp)
def aftR (R : Rm) (es : List En) : Rm := es.foldl outR R
theorem aftR_drop (es : List En) (i : Nat) (hi : i < es.length) (R : Rm) : aftR R (es.drop i) = aftR (outR R es[i]) (es.drop (i + 1)) := by
  rw [List.drop_eq_getElem_cons hi]; rfl
theorem outR_ok {R : Rm} (e : En) (h : roomB R = true) : roomB (outR R e) = true := by
  unfold outR
  split
  · rename_i hc
    simp only [canB, Bool.and_eq_true] at hc
    exact hc.2.2.2.2
  · exact h
theorem aftR_ok : ∀ (es : List En) {R : Rm}, roomB R = true → roomB (aftR R es) = true
  | [], _, h => h
  | e :: es, _, h => aftR_ok es (outR_ok e h)
theorem aftR_big : ∀ (es : List En) {R : Rm}, Big R → (∀ e ∈ es, BigE e) → Big (aftR R es)
  | [], _, h, _ => h
  | e :: es, _, h, he => aftR_big es (outR_sm h (he e (by simp))) (fun x hx => he x (by simp [hx]))
theorem PlS.setRoom {H : Hp} {n : Nat} {g : List (Option Ob)} {R : Rm} {x : Ad} (h : PlS H n g R x) {k : Nat} {cs : List Value} (hk : g[k]? = some (some (.row 26 cs))) (X : Option Ob) : PlS H n (g.set k X) R x := by
  refine ⟨h.m.imp id fun ⟨j, a, b⟩ => ⟨j, ?_, b⟩, h.k.imp id fun ⟨j, a, b⟩ => ⟨j, ?_, b⟩⟩
  · have hne : k ≠ j := by
      intro e; rw [e, a] at hk; simp at hk
    rw [List.getElem?_set_ne hne]; exact a
  · have hne : k ≠ j := by
      intro e; rw [e, a] at hk; simp at hk
    rw [List.getElem?_set_ne hne]; exact a
set_option maxHeartbeats 4000000 in
theorem hbAfter_ok (B : Hp) (M : List (Option Ob)) (R : Rm) (x : Ad) (es : List En) (A : Option Addr) (c : Nat) (hT : Tabs w0) (hpl : PlS B 0 M R x) (hsh : x.b = none → x.a = none) (hb : Big R) (he : ∀ e ∈ es, BigE e) (hR : roomB R = true) (hs : Sl w0 (Hx B M) A 9 (es.map En.enc)) (hl : es.length ≤ 1000) :
    AFn Tryz.prog w0 15 #[.agg (R.enc x).toArray, .slice A es.length c] (Hx B M) fun v H2 => ∃ x' L, H2 = Hx B (M ++ L) ∧ v = .agg ((aftR R es).enc x').toArray ∧ PlS B 0 (M ++ L) (aftR R es) x' ∧ (x'.b = none → x'.a = none) := by
  have hb1 : ∀ (g : List (Option Ob)) (Y : Option Ob) (r : List (Option Ob)), (g ++ Y :: r)[g.length]? = some Y := fun g Y r => by rw [List.getElem?_append_right (Nat.le_refl _)]; simp
  have gi : ∀ (g r : List (Option Ob)) (k : Nat), (g ++ r)[g.length + k]? = r[k]? := fun g r k => by rw [List.getElem?_append_right (by omega)]; simp
  have si : ∀ (g r : List (Option Ob)) (k : Nat) (Z : Option Ob), (g ++ r).set (g.length + k) Z = g ++ r.set k Z := fun g r k Z => by rw [List.set_append_right _ _ (by omega)]; simp
  have si0 : ∀ (g r : List (Option Ob)) (Z : Option Ob), (g ++ r).set g.length Z = g ++ r.set 0 Z := fun g r Z => by rw [List.set_append_right _ _ (by omega)]; simp
  have hs2 : ∀ r, Sl w0 (Hx B (M ++ r)) A 9 (es.map En.enc) := fun r => by have := hs.old r; rwa [Hx_Hx] at this
  refine AFn_of Tryz.func15 rfl (by kernel_rfl) ?_
  have r := Tryz.results15
  simp only [go_sem, cond, Nat.reduceAdd, Nat.reduceLeDiff, Nat.reduceEqDiff, Nat.reduceBEq, decide_true, decide_false, Int.toNat_natCast, r, hb1, gi, si, si0, beq_self_eq_true, List.set_cons_zero, List.set_cons_succ, List.append_assoc, List.length_append, List.length_cons, List.singleton_append, List.cons_append, List.nil_append, Rm.enc]
  refine xw_loop (fun (i : Nat) T H' => i ≤ es.length ∧ T 1 = .slice A es.length c ∧ T 2 = .pointer (some ⟨nid B M.length, 0, some 5⟩) ∧ T 4 = .pointer (some ⟨nid B (M.length + 1), 0, some 5⟩) ∧ T 5 = .int .i64 i ∧ ∃ R1 x1 g, H' = Hx B (M ++ some (.row 26 (R1.enc x1)) :: some (.row 26 [.string em, .int .i64 0, .slice none 0 0, .slice none 0 0, .string em]) :: g) ∧ PlS B 0 (M ++ some (.row 26 (R1.enc x1)) :: some (.row 26 [.string em, .int .i64 0, .slice none 0 0, .slice none 0 0, .string em]) :: g) R1 x1 ∧ (x1.b = none → x1.a = none) ∧ roomB R1 = true ∧ Big R1 ∧ aftR R1 (es.drop i) = aftR R es) (fun i => es.length - i) 0 (by kernel_rfl) ⟨Nat.zero_le _, rfl, rfl, rfl, rfl, R, x, [], rfl, hpl.more _, hsh, hR, hb, rfl⟩ ?_
  rintro i T H' ⟨hi, t1, t2, t4, t5, R1, x1, g, rfl, hp1, hs1, hR1, hb1', ha⟩
  by_cases hlt : i < es.length
  · obtain ⟨b, o, sp, rfl, -, hw⟩ := mcell (hs2 (some (.row 26 (R1.enc x1)) :: some (.row 26 [.string em, .int .i64 0, .slice none 0 0, .slice none 0 0, .string em]) :: g)) hlt
    have c0 := hw [] rfl
    rw [Hx_nil] at c0
    have d1 : ((i : Int) < (es.length : Int)) = True := eq_true (by omega)
    have d2 : (0 ≤ (i : Int)) = True := eq_true (by omega)
    rw [aftR_drop _ i hlt] at ha
    simp only [Rm.enc, En.enc] at c0
    simp only [go_sem, cond, Nat.reduceAdd, Nat.reduceLeDiff, Nat.reduceEqDiff, Nat.reduceBEq, decide_true, decide_false, Int.toNat_natCast, r, hb1, gi, si, si0, beq_self_eq_true, List.set_cons_zero, List.set_cons_succ, List.append_assoc, List.length_append, List.length_cons, List.singleton_append, List.cons_append, List.nil_append, t1, t2, t4, t5, d1, d2, c0, Rm.enc]
    (refine xw_open (id := 4) [0, 0, 0, 6, 14, 31, 63, 127, 127, 255] [.q 1, .q 2, .q 3, .q 0, .q 4, .e 5, .q 6, .q 7, .q 8, .e 9] rfl (by kernel_rfl) ?_; simp only [go_sem, cond, Nat.reduceAdd, Nat.reduceLeDiff, Nat.reduceEqDiff, Nat.reduceBEq, decide_true, decide_false, Int.toNat_natCast, r, hb1, gi, si, si0, beq_self_eq_true, List.set_cons_zero, List.set_cons_succ, List.append_assoc, List.length_append, List.length_cons, List.singleton_append, List.cons_append, List.nil_append, t1, t2, t4, t5, d1, d2, c0, Rm.enc])
    refine call (RoomApplyI_any w0 B _ R1 x1 es[i] hT hp1 hs1 hb1' (he _ (List.getElem_mem hlt)) hR1) ?_
    rintro v H2 ⟨x2, L, rfl, rfl, hp2, hs3⟩
    simp only [go_sem, cond, Nat.reduceAdd, Nat.reduceLeDiff, Nat.reduceEqDiff, Nat.reduceBEq, decide_true, decide_false, Int.toNat_natCast, r, hb1, gi, si, si0, beq_self_eq_true, List.set_cons_zero, List.set_cons_succ, List.append_assoc, List.length_append, List.length_cons, List.singleton_append, List.cons_append, List.nil_append, t1, t2, t4, t5, Rm.enc]
    refine ⟨i + 1, ⟨hlt, t1, t2, t4, int_succ hlt (by omega), outR R1 es[i], x2, g ++ L, rfl, ?_, hs3, outR_ok _ hR1, outR_sm hb1' (he _ (List.getElem_mem hlt)), ha⟩, lt_meas hlt⟩
    have h3 := hp2.setRoom (k := M.length) (by rw [List.append_assoc]; exact hb1 _ _ _) (some (.row 26 ((outR R1 es[i]).enc x2)))
    rw [List.append_assoc, si0] at h3
    exact h3
  · obtain rfl : i = es.length := by omega
    have d1 : ((es.length : Int) < (es.length : Int)) = False := eq_false (by omega)
    rw [List.drop_length] at ha
    simp only [go_sem, cond, Nat.reduceAdd, Nat.reduceLeDiff, Nat.reduceEqDiff, Nat.reduceBEq, decide_true, decide_false, Int.toNat_natCast, r, hb1, gi, si, si0, beq_self_eq_true, List.set_cons_zero, List.set_cons_succ, List.append_assoc, List.length_append, List.length_cons, List.singleton_append, List.cons_append, List.nil_append, t1, t2, t4, t5, d1, Rm.enc]
    obtain rfl : R1 = aftR R es := ha
    refine ⟨x1, _, rfl, rfl, ?_, hs1⟩
    have h3 := hp1.setRoom (k := M.length + 1) (by rw [gi]; rfl) (some (.row 26 ((aftR R es).enc x1)))
    rw [si] at h3
    exact h3
end Go.Proofs.YtmacpgoclhgafaaGreatDoorW.FA

namespace Go.Proofs.YtmacpgoclhgafaaGreatDoorW.FA
open Go.RowKit Go.Proofs.YtmacpgoclhgafaaGreatDoorW.XM Go.Proofs Go.Proofs.YtmacpgoclhgafaaGreatDoorW.XWords
set_option maxRecDepth 100000
set_option linter.unusedSimpArgs false
set_option linter.unusedVariables false
variable (w0 : World) (H : Hp)
end Go.Proofs.YtmacpgoclhgafaaGreatDoorW.FA

namespace Go.Proofs.YtmacpgoclhgafaaGreatDoorW.FA
open Go.RowKit Go.Proofs.YtmacpgoclhgafaaGreatDoorW.XM Go.Proofs Go.Proofs.YtmacpgoclhgafaaGreatDoorW.XWords
set_option maxRecDepth 100000
set_option linter.unusedSimpArgs false
set_option linter.unusedVariables false
variable (w0 : World) (H : Hp)
/-- What an outcast says who would come in. -/
def outS (R : Rm) : Sy := ⟨6, R.name, ⟨#[71, 117, 101, 115, 116]⟩, em, em, em, em, 0, 0, 0⟩
theorem outS_big {R : Rm} (h : Big R) : BigS (outS R) :=
  ⟨h.nm, (by decide : (⟨#[71, 117, 101, 115, 116]⟩ : ByteArray).size ≤ 1000000000000), (by decide : em.size ≤ 1000000000000), (by decide : em.size ≤ 1000000000000), (by decide : em.size ≤ 1000000000000), (by decide : em.size ≤ 1000000000000)⟩
end Go.Proofs.YtmacpgoclhgafaaGreatDoorW.FA

namespace Go.Proofs.YtmacpgoclhgafaaGreatDoorW.FA
open Go.RowKit Go.Proofs.YtmacpgoclhgafaaGreatDoorW.XM Go.Proofs Go.Proofs.YtmacpgoclhgafaaGreatDoorW.XWords
set_option maxRecDepth 100000
set_option linter.unusedSimpArgs false
set_option linter.unusedVariables false
theorem em_em : emB em = true := beq_self_eq_true _
theorem MsOk.sub {a b : List Mem} {ks : List Rk} (h : MsOk b ks) (hs : a.Sublist b) : MsOk a ks := ⟨fun m hm => h.each m (hs.subset hm), h.uniq.sublist hs⟩
theorem outI_erase {α : Type} (l : List α) (j : Nat) : outI l (j : Int) = l.eraseIdx j := by
  rw [outI, if_pos (by omega), List.eraseIdx_eq_take_drop_succ]; rfl
theorem outI_sub {α : Type} (l : List α) (i : Int) : (outI l i).Sublist l := by
  by_cases h : 0 ≤ i
  · obtain ⟨j, rfl⟩ : ∃ j : Nat, i = j := ⟨i.toNat, by omega⟩
    rw [outI_erase]; exact List.eraseIdx_sublist l j
  · rw [outI, if_neg h]; exact List.Sublist.refl l
/-- Where a member lies. -/
theorem MsOk.at {ms : List Mem} {ks : List Rk} (h : MsOk ms ks) {m : Mem} (hm : m ∈ ms) : ∃ j, ∃ hj : j < ms.length, ms[j] = m ∧ idxP (isU m.user) ms 0 = (j : Int) ∧ ms.find? (isU m.user) = some m ∧ ∀ a (ha : a < ms.length), a ≠ j → ms[a].user.toList ≠ m.user.toList ∧ ms[a].nick.toList ≠ m.nick.toList := by
  obtain ⟨j, hj, rfl⟩ := List.mem_iff_getElem.1 hm
  have hu := List.pairwise_iff_getElem.1 h.uniq
  have hne : ∀ a (ha : a < ms.length), a ≠ j → ms[a].user.toList ≠ ms[j].user.toList ∧ ms[a].nick.toList ≠ ms[j].nick.toList := fun a ha hne => by
    rcases Nat.lt_or_gt_of_ne hne with h1 | h1
    · exact hu a j ha hj h1
    · exact ⟨fun e => (hu j a hj ha h1).1 e.symm, fun e => (hu j a hj ha h1).2 e.symm⟩
  refine ⟨j, hj, rfl, ?_, ?_, hne⟩
  · rw [idxP_at (isU ms[j].user) ms j hj 0 (by simp [isU]) (fun b hb => by simpa [isU] using (hne b (by omega) (by omega)).1), Nat.zero_add]
  · rcases idxP_find (isU ms[j].user) ms 0 with ⟨_, f2⟩ | ⟨k, hk, f1, f2⟩
    · have := List.find?_eq_none.1 f2 _ hm
      simp [isU] at this
    · have h1 := List.find?_some f2
      have h2 : ms[k].user.toList = ms[j].user.toList := eq_of_beq h1
      have : k = j := by
        rcases Classical.em (k = j) with e | e
        · exact e
        · exact absurd h2 (hne k hk e).1
      subst this
      exact f2
theorem MsOk.ranks {ms : List Mem} {ks : List Rk} (h : MsOk ms ks) (hk : KsOk ks) (u : ByteArray) (num : Int) (hu : userB u = true) (hn : 0 ≤ num ∧ num ≤ 4) (h0 : num ≠ 0 ∨ ∀ m ∈ ms, m.user.toList ≠ u.toList) : MsOk ms (rkd u num ks) := by
  obtain ⟨_, h2, h3, _, _⟩ := rkd_spec hk u num hu hn
  refine ⟨fun m hm => ?_, h.uniq⟩
  obtain ⟨a, b, c, d, e⟩ := h.each m hm
  refine ⟨a, b, c, d, ?_⟩
  by_cases hmu : m.user.toList = u.toList
  · rw [show m.user = u from ba_ext hmu, h2]
    rcases h0 with h | h
    · exact h
    · exact absurd hmu (h m hm)
  · rw [h3 _ hmu]; exact e
theorem room_own {R : Rm} (h : roomB R = true) {m : Mem} (hm : m ∈ R.ms) : 0 < ownB R.ks := by
  rcases ((roomB_iff R).1 h).2.2.2.2.2 with h1 | ⟨_, h1, _⟩
  · exact h1
  · rw [h1] at hm; cases hm
theorem next_up {R : Rm} (h : roomB R = true) (hn : R.next ≤ 9998) : IntKind.i64.wrap (R.next + 1) = R.next + 1 := by
  have := roomB_next h
  exact wrap_i64 (by omega) (by omega)
theorem in9998 {R : Rm} (h : roomB R = true) (hn : R.next ≤ 9998) : inB R.next 0 9998 = true := by
  have := roomB_next h
  simp only [inB, Bool.and_eq_true, decide_eq_true_eq]
  omega
theorem need_mem {R : Rm} (h : roomB R = true) {m : Mem} (hm : m ∈ R.ms) {e : En} (hu : e.user = m.user) (hi : e.nick = m.nick) : needB R e = true := by
  obtain ⟨j, hj, _, _, h2, _⟩ := ((roomB_iff R).1 h).2.2.2.1.1.at hm
  rw [needB, isB, hu, h2]
  show ((e.kind == 6) || ((e.kind == 1) || (m.nick.toList == e.nick.toList))) = true
  rw [hi, beq_self_eq_true, Bool.or_true, Bool.or_true]
/-- A member leaves. -/
theorem can2 {R : Rm} (h : roomB R = true) (hn : R.next ≤ 9998) {m : Mem} (hm : m ∈ R.ms) {num : Int} (hnum : inB num 0 3 = true) : outR R ⟨R.name, R.next, 2, m.user, m.nick, em, em, em, num⟩ = ⟨R.name, R.next + 1, outI R.ms (idxP (isU m.user) R.ms 0), R.ks, R.subj⟩ ∧ canB R ⟨R.name, R.next, 2, m.user, m.nick, em, em, em, num⟩ = true := by
  have hb := (roomB_iff R).1 h
  obtain ⟨h1, h2, h3, ⟨h4, h5⟩, ⟨h6, h7⟩, h8⟩ := hb
  obtain ⟨m1, m2, m3, m4, m5⟩ := h4.each m hm
  have ho := room_own h hm
  have hap : applyR R ⟨R.name, R.next, 2, m.user, m.nick, em, em, em, num⟩ = ⟨R.name, R.next + 1, outI R.ms (idxP (isU m.user) R.ms 0), R.ks, R.subj⟩ := by
    rw [applyR, if_neg (show ¬ ((2 : Int) == 1) = true by decide), if_pos (show ((2 : Int) == 2) = true from rfl)]
    rw [show ((⟨R.name, R.next, 2, m.user, m.nick, em, em, em, num⟩ : En).seq) = R.next from rfl, next_up h hn]
  have hent : entB ⟨R.name, R.next, 2, m.user, m.nick, em, em, em, num⟩ = true := by
    rw [entB]
    simp [h1, m1, in9998 h hn, xB, restB, m2, hnum, em_em]
  have hcan : canB R ⟨R.name, R.next, 2, m.user, m.nick, em, em, em, num⟩ = true := by
    rw [canB, hent, need_mem h hm rfl rfl, hap, beq_self_eq_true]
    show (true && (true && ((R.next == R.next) && (true && _)))) = true
    rw [beq_self_eq_true]
    exact (roomB_iff _).2 ⟨h1, by show 0 ≤ R.next + 1 ∧ R.next + 1 ≤ 9999; omega, h3, ⟨h4.sub (outI_sub _ _), Nat.le_trans (outI_sub R.ms _).length_le h5⟩, ⟨h6, h7⟩, (.inl ho : 0 < ownB R.ks ∨ _)⟩
  exact ⟨by rw [outR, if_pos hcan, hap], hcan⟩
/-- A user has another rank. -/
theorem can6 {R : Rm} (h : roomB R = true) (hn : R.next ≤ 9998) {u : ByteArray} (hu : userB u = true) {num : Int} (hnum : inB num 0 4 = true) (h0 : num ≠ 0 ∨ ∀ m ∈ R.ms, m.user.toList ≠ u.toList) (hl : rankB R.ks u ≠ 1 ∨ R.ks.length < 6) (ho : 0 < ownB (rkd u num R.ks)) : outR R ⟨R.name, R.next, 6, u, em, em, em, em, num⟩ = ⟨R.name, R.next + 1, R.ms, rkd u num R.ks, R.subj⟩ ∧ canB R ⟨R.name, R.next, 6, u, em, em, em, em, num⟩ = true := by
  have hb := (roomB_iff R).1 h
  obtain ⟨h1, h2, h3, ⟨h4, h5⟩, ⟨h6, h7⟩, h8⟩ := hb
  have hap : applyR R ⟨R.name, R.next, 6, u, em, em, em, em, num⟩ = ⟨R.name, R.next + 1, R.ms, rkd u num R.ks, R.subj⟩ := by
    rw [applyR, if_neg (show ¬ ((6 : Int) == 1) = true by decide), if_neg (show ¬ ((6 : Int) == 2) = true by decide), if_neg (show ¬ ((6 : Int) == 4) = true by decide), if_neg (show ¬ ((6 : Int) == 5) = true by decide), if_pos (show ((6 : Int) == 6) = true from rfl)]
    rw [show ((⟨R.name, R.next, 6, u, em, em, em, em, num⟩ : En).seq) = R.next from rfl, next_up h hn]
  have hent : entB ⟨R.name, R.next, 6, u, em, em, em, em, num⟩ = true := by
    rw [entB]
    simp [h1, hu, in9998 h hn, xB, restB, hnum, em_em]
  have hnum' : 0 ≤ num ∧ num ≤ 4 := by simpa only [inB, Bool.and_eq_true, decide_eq_true_eq] using hnum
  obtain ⟨k1, k2, k3, k4, k5⟩ := rkd_spec h6 u num hu hnum'
  have hcan : canB R ⟨R.name, R.next, 6, u, em, em, em, em, num⟩ = true := by
    rw [canB, hent, hap, beq_self_eq_true]
    show (true && (true && ((R.next == R.next) && (true && _)))) = true
    rw [beq_self_eq_true]
    refine (roomB_iff _).2 ⟨h1, by show 0 ≤ R.next + 1 ∧ R.next + 1 ≤ 9999; omega, h3, ⟨h4.ranks h6 u num hu hnum' h0, h5⟩, ⟨k1, ?_⟩, .inl ho⟩
    show (rkd u num R.ks).length ≤ 6
    rcases hl with hl | hl
    · rw [if_neg hl] at k4; omega
    · split at k4 <;> omega
  exact ⟨by rw [outR, if_pos hcan, hap], hcan⟩
end Go.Proofs.YtmacpgoclhgafaaGreatDoorW.FA

namespace Go.Proofs.YtmacpgoclhgafaaGreatDoorW.FA
open Go.RowKit Go.Proofs.YtmacpgoclhgafaaGreatDoorW.XM Go.Proofs Go.Proofs.YtmacpgoclhgafaaGreatDoorW.XWords
set_option maxRecDepth 100000
set_option linter.unusedSimpArgs false
set_option linter.unusedVariables false
theorem find_isU {l : List Mem} {u : ByteArray} {m : Mem} (h : l.find? (isU u) = some m) : m.user = u := by
  have h1 := List.find?_some h
  exact ba_ext (eq_of_beq h1)
theorem nickU_mem {R : Rm} (h : roomB R = true) {m : Mem} (hm : m ∈ R.ms) : nickU R m.user = m.nick := (roomB_mem h m hm).1
end Go.Proofs.YtmacpgoclhgafaaGreatDoorW.FA

namespace Go.Proofs.YtmacpgoclhgafaaGreatDoorW.FA
open Go.RowKit Go.Proofs.YtmacpgoclhgafaaGreatDoorW.XM Go.Proofs Go.Proofs.YtmacpgoclhgafaaGreatDoorW.XWords
set_option maxRecDepth 100000
set_option linter.unusedSimpArgs false
set_option linter.unusedVariables false
def nm5 : List (List UInt8) := [[97, 110, 110], [98, 111, 98], [99, 121, 100], [100, 97, 110], [122, 101, 100]]
theorem ba_data {s : ByteArray} {l : List UInt8} (h : s.data.toList = l) : s = ⟨⟨l⟩⟩ := by
  cases s with | mk d => cases d with | mk x => subst h; rfl
theorem nm_user {s : ByteArray} (h : nmB s = true) (hu : userB s = true) : s.data.toList ∈ nm5 := by
  have h1 : s.data.toList ∈ nmL := by simpa only [nmB, List.contains_iff_mem] using h
  rcases List.mem_cons.1 h1 with h2 | h2
  · rw [ba_data h2] at hu
    exact absurd hu (by decide)
  rcases List.mem_cons.1 h2 with h3 | h3
  · rw [ba_data h3] at hu
    exact absurd hu (by decide)
  · exact h3
theorem nodup_le {α : Type} [DecidableEq α] : ∀ (L l : List α), l.Nodup → (∀ x ∈ l, x ∈ L) → l.length ≤ L.length
  | [], l, _, h => by
    cases l with
    | nil => simp
    | cons a t => exact absurd (h a (by simp)) (by simp)
  | a :: L, l, hn, h => by
    have h1 := nodup_le L (l.erase a) (hn.erase a) fun x hx => by
      have hx1 : x ∈ l := List.mem_of_mem_erase hx
      have hne : x ≠ a := fun e => by
        subst e
        exact absurd hx (List.Nodup.not_mem_erase hn)
      rcases List.mem_cons.1 (h x hx1) with h2 | h2
      · exact absurd h2 hne
      · exact h2
    have h2 := List.length_erase (a := a) (l := l)
    rw [List.length_cons]
    split at h2 <;> omega
theorem asc_nodup : ∀ l : List Rk, Asc l → (l.map fun k => k.user.data.toList).Nodup
  | [], _ => by simp
  | x :: t, h => by
    rw [List.map_cons, List.nodup_cons]
    refine ⟨fun hm => ?_, asc_nodup t h.2⟩
    obtain ⟨y, hy, e⟩ := List.mem_map.1 hm
    have hl := h.1 y hy
    have hxy : y.user = x.user := (ba_data e).trans (ba_data rfl).symm
    rw [hxy, less_irrefl] at hl
    cases hl
theorem few_ranks {ks : List Rk} (h : KsOk ks) (hn : ∀ k ∈ ks, nmB k.user = true) : ks.length ≤ 5 := by
  have := nodup_le nm5 (ks.map fun k => k.user.data.toList) (asc_nodup ks h.asc) fun x hx => by
    obtain ⟨k, hk, rfl⟩ := List.mem_map.1 hx
    exact nm_user (hn k hk) (h.each k hk).1
  rw [List.length_map] at this
  exact this
theorem own_new {ks : List Rk} (h : KsOk ks) {u : ByteArray} (hu : userB u = true) : 0 < ownB (rkd u 4 ks) := by
  obtain ⟨h1, h2, _, _, _⟩ := rkd_spec h u 4 hu (by omega)
  rw [ownB_pos]
  rcases rankB_find (l := rkd u 4 ks) u with ⟨k2, hk2, rfl⟩ | hno
  · exact ⟨k2, hk2, by rw [← rankB_mem _ h1.asc k2 hk2, h2]⟩
  · rw [rankB_none u _ hno] at h2
    omega
/-- A user comes in. -/
theorem can1 {R : Rm} (h : roomB R = true) (hn : R.next ≤ 9998) {u n : ByteArray} (hu : userB u = true) (hni : nickB n = true) (h1u : ∀ m ∈ R.ms, m.user.toList ≠ u.toList) (h1n : ∀ m ∈ R.ms, m.nick.toList ≠ n.toList) (hl : R.ms.length < 5) (hr : rankB R.ks u ≠ 0) (ho : 0 < ownB R.ks) {num : Int} (hnum : inB num 1 3 = true) : outR R ⟨R.name, R.next, 1, u, n, em, em, em, num⟩ = ⟨R.name, R.next + 1, R.ms ++ [⟨u, n, num⟩], R.ks, R.subj⟩ ∧ canB R ⟨R.name, R.next, 1, u, n, em, em, em, num⟩ = true := by
  have hb := (roomB_iff R).1 h
  obtain ⟨h1, h2, h3, ⟨h4, h5⟩, ⟨h6, h7⟩, h8⟩ := hb
  have hap : applyR R ⟨R.name, R.next, 1, u, n, em, em, em, num⟩ = ⟨R.name, R.next + 1, R.ms ++ [⟨u, n, num⟩], R.ks, R.subj⟩ := by
    rw [applyR, if_pos (show ((1 : Int) == 1) = true from rfl)]
    rw [show ((⟨R.name, R.next, 1, u, n, em, em, em, num⟩ : En).seq) = R.next from rfl, next_up h hn]
  have hent : entB ⟨R.name, R.next, 1, u, n, em, em, em, num⟩ = true := by
    rw [entB]
    simp [h1, hu, in9998 h hn, xB, restB, hni, hnum, em_em]
  have hnum' : 1 ≤ num ∧ num ≤ 3 := by simpa only [inB, Bool.and_eq_true, decide_eq_true_eq] using hnum
  have hcan : canB R ⟨R.name, R.next, 1, u, n, em, em, em, num⟩ = true := by
    rw [canB, hent, hap, beq_self_eq_true]
    show (true && (true && ((R.next == R.next) && (true && _)))) = true
    rw [beq_self_eq_true]
    refine (roomB_iff _).2 ⟨h1, by show 0 ≤ R.next + 1 ∧ R.next + 1 ≤ 9999; omega, h3, ⟨⟨fun m hm => ?_, ?_⟩, ?_⟩, ⟨h6, h7⟩, .inl ho⟩
    · rcases List.mem_append.1 hm with hm | hm
      · exact h4.each m hm
      · simp only [List.mem_singleton] at hm
        subst hm
        exact ⟨hu, hni, hnum'.1, hnum'.2, hr⟩
    · refine List.pairwise_append.2 ⟨h4.uniq, List.pairwise_singleton _ _, fun a ha b hb => ?_⟩
      simp only [List.mem_singleton] at hb
      subst hb
      exact ⟨h1u a ha, h1n a ha⟩
    · show (R.ms ++ [(⟨u, n, num⟩ : Mem)]).length ≤ 5
      rw [List.length_append]
      simp only [List.length_cons, List.length_nil]
      omega
  exact ⟨by rw [outR, if_pos hcan, hap], hcan⟩
end Go.Proofs.YtmacpgoclhgafaaGreatDoorW.FA

namespace Go.Proofs.YtmacpgoclhgafaaGreatDoorW.FA
open Go.RowKit Go.Proofs.YtmacpgoclhgafaaGreatDoorW.XM Go.Proofs Go.Proofs.YtmacpgoclhgafaaGreatDoorW.XWords
set_option maxRecDepth 100000
set_option linter.unusedSimpArgs false
set_option linter.unusedVariables false
theorem say_join {s : Sy} (h : sayB s = true) (hk : s.kind = 6) : nickB s.nick = true := by
  simp only [sayB, restS, hk, Bool.and_eq_true] at h
  have := h.2.2.2
  simpa using this
/-- A room takes entries one behind the other. -/
def canAll : Rm → List En → Prop
  | _, [] => True
  | R, e :: t => canB R e = true ∧ canAll (outR R e) t
theorem idx_none {p : Mem → Bool} {l : List Mem} (h : ¬ 0 ≤ idxP p l 0) : ∀ m ∈ l, p m = false := fun m hm => by
  rcases idxP_find p l 0 with ⟨f1, f2⟩ | ⟨j, hj, f1, f2⟩
  · have := List.find?_eq_none.1 f2 m hm
    simpa using this
  · rw [f1] at h; omega
theorem byRank_in (k : Int) : inB (byRank k) 1 3 = true := by
  unfold byRank
  split <;> rfl
theorem join_can {R : Rm} {es : List En} {u : ByteArray} {s : Sy} {q : List En} (hR : roomB R = true) (hu : userB u = true) (hs : sayB s = true) (hk : s.kind = 6) (h5 : R.next = 0 → R.ks.length ≤ 5) (hd : (q, (0 : Int)) = doR R es u s) :
    R.next ≤ 9996 ∧ (∀ m ∈ R.ms, m.user.toList ≠ u.toList) ∧ (∀ m ∈ R.ms, m.nick.toList ≠ s.nick.toList) ∧ canAll R q ∧ ∃ nx ks' role, aftR R q = ⟨R.name, nx, R.ms ++ [⟨u, s.nick, role⟩], ks', R.subj⟩ ∧ 1 ≤ nx ∧ nx ≤ R.next + 2 ∧ (ks' = R.ks ∨ ks' = rkd u 4 R.ks) ∧ rankB ks' u ≠ 0 := by
  have hb := (roomB_iff R).1 hR
  obtain ⟨h1, h2, h3, ⟨h4, h4l⟩, ⟨h6, h7⟩, h8⟩ := hb
  have hni := say_join hs hk
  unfold doR at hd
  split at hd
  · exact absurd (Prod.mk.inj hd).2 (by decide)
  rename_i c1
  rw [wrap_i64 (by omega) (by omega)] at c1
  rw [if_pos (by rw [hk]; rfl)] at hd
  unfold joinR at hd
  split at hd
  · exact absurd (Prod.mk.inj hd).2 (by decide)
  rename_i c2
  split at hd
  · exact absurd (Prod.mk.inj hd).2 (by decide)
  rename_i c3
  split at hd
  · exact absurd (Prod.mk.inj hd).2 (by decide)
  rename_i c4
  split at hd
  · exact absurd (Prod.mk.inj hd).2 (by decide)
  rename_i c5
  have hr0 : rankB R.ks u ≠ 0 := fun e => c2 (by rw [e]; rfl)
  have hmu : ∀ m ∈ R.ms, m.user.toList ≠ u.toList := fun m hm => by
    have := idx_none c3 m hm
    simpa [isU] using this
  have hmn : ∀ m ∈ R.ms, m.nick.toList ≠ s.nick.toList := fun m hm => by
    have := idx_none c4 m hm
    simpa [isN] using this
  have hlen : R.ms.length < 5 := by omega
  refine ⟨by omega, hmu, hmn, ?_⟩
  split at hd
  · rename_i c6
    have hz : R.next = 0 := eq_of_beq c6
    obtain rfl := (Prod.mk.inj hd).1
    obtain ⟨d1, d2⟩ := can6 hR (by omega) hu (num := 4) (by decide) (.inl (by decide)) (.inr (by have := h5 hz; omega)) (own_new h6 hu)
    have hR1 : roomB (outR R ⟨R.name, R.next, 6, u, em, em, em, em, 4⟩) = true := outR_ok _ hR
    obtain ⟨k1, k2, _, _, _⟩ := rkd_spec h6 u 4 hu (by omega)
    rw [d1] at hR1
    obtain ⟨f1, f2⟩ := can1 (R := ⟨R.name, R.next + 1, R.ms, rkd u 4 R.ks, R.subj⟩) hR1 (by show R.next + 1 ≤ 9998; omega) hu hni hmu hmn hlen (by show rankB (rkd u 4 R.ks) u ≠ 0; rw [k2]; decide) (own_new h6 hu) (num := byRank 4) (byRank_in 4)
    have e1 : IntKind.i64.wrap (R.next + ((1 : Nat) : Int)) = R.next + 1 := wrap_i64 (by omega) (by omega)
    rw [e1]
    have e0 : (⟨R.name, 0, 6, u, em, em, em, em, 4⟩ : En) = ⟨R.name, R.next, 6, u, em, em, em, em, 4⟩ := by rw [hz]
    rw [e0]
    refine ⟨⟨d2, ?_⟩, R.next + 1 + 1, rkd u 4 R.ks, byRank 4, ?_, by omega, by omega, .inr rfl, by rw [k2]; decide⟩
    · rw [d1]
      exact ⟨f2, trivial⟩
    · show outR (outR R _) _ = _
      rw [d1]
      exact f1
  · rename_i c6
    have hz : R.next ≠ 0 := fun e => c6 (by rw [e]; rfl)
    obtain rfl := (Prod.mk.inj hd).1
    have ho : 0 < ownB R.ks := h8.resolve_right fun h => hz h.1
    have e0 : IntKind.i64.wrap (R.next + ((0 : Nat) : Int)) = R.next := by rw [show R.next + ((0 : Nat) : Int) = R.next from Int.add_zero _]; exact wrap_i64 (by omega) (by omega)
    rw [e0]
    obtain ⟨f1, f2⟩ := can1 hR (by omega) hu hni hmu hmn hlen hr0 ho (byRank_in (rankB R.ks u))
    exact ⟨⟨f2, trivial⟩, R.next + 1, R.ks, byRank (rankB R.ks u), f1, by omega, by omega, .inl rfl, hr0⟩
end Go.Proofs.YtmacpgoclhgafaaGreatDoorW.FA

namespace Go.Proofs.YtmacpgoclhgafaaGreatDoorW.FA
open Go.RowKit Go.Proofs.YtmacpgoclhgafaaGreatDoorW.XM Go.Proofs Go.Proofs.YtmacpgoclhgafaaGreatDoorW.XWords
set_option maxRecDepth 100000
set_option linter.unusedSimpArgs false
set_option linter.unusedVariables false
variable (w0 : World) (H : Hp)
theorem idx_neg {l : List Mem} {u : ByteArray} (h : ∀ m ∈ l, m.user.toList ≠ u.toList) : ¬ 0 ≤ idxP (isU u) l 0 := by
  rcases idxP_find (isU u) l 0 with ⟨f1, f2⟩ | ⟨j, hj, f1, f2⟩
  · rw [f1]; decide
  · exact absurd (congrArg ByteArray.toList (find_isU f2)) (h _ (List.getElem_mem hj))
end Go.Proofs.YtmacpgoclhgafaaGreatDoorW.FA

namespace Go.Proofs.YtmacpgoclhgafaaGreatDoorW.FA
open Go.RowKit Go.Proofs.YtmacpgoclhgafaaGreatDoorW.XM Go.Proofs Go.Proofs.YtmacpgoclhgafaaGreatDoorW.XWords
set_option maxRecDepth 100000
set_option linter.unusedSimpArgs false
set_option linter.unusedVariables false
variable (w0 : World) (H : Hp)
theorem outS_sm {R : Rm} : SmS (outS R) := ⟨(by decide : (⟨#[71, 117, 101, 115, 116]⟩ : ByteArray).size ≤ 100000), em_sm, em_sm, em_sm, em_sm⟩
def sayS (k : Int) (R : Rm) (n : ByteArray) : Sy := ⟨k, R.name, n, em, em, em, em, 0, 0, 0⟩
theorem sayS_big {k : Int} {R : Rm} {n : ByteArray} (h : Big R) (hn : n.size ≤ 1000) : BigS (sayS k R n) :=
  ⟨h.nm, Nat.le_trans hn (by decide), (by decide : em.size ≤ 1000000000000), (by decide : em.size ≤ 1000000000000), (by decide : em.size ≤ 1000000000000), (by decide : em.size ≤ 1000000000000)⟩
theorem say6_ok {R : Rm} {n : ByteArray} (h : userB R.name = true) (hn : nickB n = true) : sayB (sayS 6 R n) = true := by
  have h1 : eqS (sayS 6 R n) (cleanS (sayS 6 R n)) = true := by
    show eqS (sayS 6 R n) ⟨6, R.name, n, em, em, em, em, 0, 0, 0⟩ = true
    simp only [eqS, sayS, beq_self_eq_true, Bool.and_self]
  unfold sayB xS
  rw [h1]
  show (true && ((!decide ((6 : Int) ≤ 6) || userB R.name) && ((!decide ((8 : Int) ≤ 6) || wordB em) && nickB n))) = true
  rw [h, hn]
  rfl
theorem say7_ok {R : Rm} (h : userB R.name = true) : sayB (sayS 7 R em) = true := by
  have h1 : eqS (sayS 7 R em) (cleanS (sayS 7 R em)) = true := by
    show eqS (sayS 7 R em) ⟨7, R.name, em, em, em, em, em, 0, 0, 0⟩ = true
    simp only [eqS, sayS, beq_self_eq_true, Bool.and_self]
  unfold sayB xS
  rw [h1]
  show (true && ((!decide ((6 : Int) ≤ 7) || userB R.name) && ((!decide ((8 : Int) ≤ 7) || wordB em) && true))) = true
  rw [h]
  rfl
theorem tw_again {R R2 : Rm} {es : List En} {u n : ByteArray} (hna : R2.name = R.name) (hR : roomB R2 = true) (hu : userB u = true) (hn : nickB n = true) (hx : ¬ 9999 < IntKind.i64.wrap (R2.next + 3)) (hr : rankB R2.ks u ≠ 0) (hm : 0 ≤ idxP (isU u) R2.ms 0) : rdo R2 es u (sayS 6 R n) = ([], 3) := by
  have hRn : userB R.name = true := by rw [← hna]; exact ((roomB_iff R2).1 hR).1
  unfold rdo
  rw [if_neg (by rw [hR]; decide), if_neg (by rw [hu]; decide), if_neg (by rw [say6_ok hRn hn]; decide), if_neg (by show ¬ (inB 6 6 11 = false); decide), if_neg (by show ¬ ((R.name.toList == R2.name.toList) = false); rw [hna, beq_self_eq_true]; decide)]
  unfold doR
  rw [if_neg hx, if_pos (show ((sayS 6 R n).kind == 6) = true from rfl)]
  unfold joinR
  rw [if_neg (by rw [beq_iff_eq]; exact hr), if_pos hm]
theorem tw_nick {R R2 : Rm} {es : List En} {u n : ByteArray} (hna : R2.name = R.name) (hR : roomB R2 = true) (hu : userB u = true) (hn : nickB n = true) (hx : ¬ 9999 < IntKind.i64.wrap (R2.next + 3)) (hr : rankB R2.ks u ≠ 0) (hm : ¬ 0 ≤ idxP (isU u) R2.ms 0) (hk : 0 ≤ idxP (isN n) R2.ms 0) : rdo R2 es u (sayS 6 R n) = ([], 4) := by
  have hRn : userB R.name = true := by rw [← hna]; exact ((roomB_iff R2).1 hR).1
  unfold rdo
  rw [if_neg (by rw [hR]; decide), if_neg (by rw [hu]; decide), if_neg (by rw [say6_ok hRn hn]; decide), if_neg (by show ¬ (inB 6 6 11 = false); decide), if_neg (by show ¬ ((R.name.toList == R2.name.toList) = false); rw [hna, beq_self_eq_true]; decide)]
  unfold doR
  rw [if_neg hx, if_pos (show ((sayS 6 R n).kind == 6) = true from rfl)]
  unfold joinR
  rw [if_neg (by rw [beq_iff_eq]; exact hr), if_neg hm, if_pos (show 0 ≤ idxP (isN (sayS 6 R n).nick) R2.ms 0 from hk)]
theorem tw_leave {R R2 : Rm} {es : List En} {u : ByteArray} (hna : R2.name = R.name) (hR : roomB R2 = true) (hu : userB u = true) (hx : ¬ 9999 < IntKind.i64.wrap (R2.next + 3)) (hm : 0 ≤ idxP (isU u) R2.ms 0) : rdo R2 es u (sayS 7 R em) = ([leaveE R2 u], 0) := by
  have hRn : userB R.name = true := by rw [← hna]; exact ((roomB_iff R2).1 hR).1
  unfold rdo
  rw [if_neg (by rw [hR]; decide), if_neg (by rw [hu]; decide), if_neg (by rw [say7_ok hRn]; decide), if_neg (by show ¬ (inB 7 6 11 = false); decide), if_neg (by show ¬ ((R.name.toList == R2.name.toList) = false); rw [hna, beq_self_eq_true]; decide)]
  unfold doR
  rw [if_neg hx, if_neg (show ¬ ((sayS 7 R em).kind == 6) = true from by show ¬ ((7 : Int) == 6) = true; decide), if_neg (by omega)]
  unfold insR
  rw [if_pos (show ((sayS 7 R em).kind == 7) = true from rfl)]
theorem tw_gone {R2 : Rm} {u : ByteArray} (hR : roomB R2 = true) (hn : R2.next ≤ 9998) {m : Mem} (hm : m ∈ R2.ms) (hu : m.user = u) : ∀ m' ∈ (aftR R2 [leaveE R2 u]).ms, m'.user.toList ≠ u.toList := by
  subst hu
  show ∀ m' ∈ (outR R2 (leaveE R2 m.user)).ms, _
  obtain ⟨j, hj, e1, e2, _, e4⟩ := ((roomB_iff R2).1 hR).2.2.2.1.1.at hm
  rw [leaveE, nickU_mem hR hm, (can2 hR hn hm (by decide)).1]
  show ∀ m' ∈ outI R2.ms (idxP (isU m.user) R2.ms 0), _
  rw [e2, outI_erase]
  intro m' hm'
  obtain ⟨a, ha, hne, rfl⟩ := List.mem_eraseIdx_iff_getElem.1 hm'
  exact (e4 a ha hne).1
theorem idx_has {l : List Mem} {m : Mem} (h : m ∈ l) : 0 ≤ idxP (isU m.user) l 0 := by
  rcases idxP_find (isU m.user) l 0 with ⟨f1, f2⟩ | ⟨j, hj, f1, f2⟩
  · have := List.find?_eq_none.1 f2 m h
    exact absurd (beq_self_eq_true _) this
  · rw [f1]; omega
theorem idx_nick {l : List Mem} {m : Mem} (h : m ∈ l) : 0 ≤ idxP (isN m.nick) l 0 := by
  rcases idxP_find (isN m.nick) l 0 with ⟨f1, f2⟩ | ⟨j, hj, f1, f2⟩
  · have := List.find?_eq_none.1 f2 m h
    exact absurd (beq_self_eq_true _) this
  · rw [f1]; omega
theorem not_nm {u v : ByteArray} (h : nmB u = true) (hv : nmB v = false) : u.toList ≠ v.toList := fun e => by
  rw [ba_ext e, hv] at h; cases h
theorem leave_big {R2 : Rm} {u : ByteArray} (hB : Big R2) (hu : u.size ≤ 100) : BigE (leaveE R2 u) := by
  refine ⟨hB.nm, by show u.size ≤ 1000000000000; omega, ?_, (by decide : em.size ≤ 1000000000000), (by decide : em.size ≤ 1000000000000), (by decide : em.size ≤ 1000000000000)⟩
  show (nickU R2 u).size ≤ 1000000000000
  unfold nickU
  cases hm : R2.ms.find? (isU u) with
  | none => decide
  | some m =>
    obtain ⟨j, hj, rfl⟩ := List.mem_iff_getElem.1 (List.mem_of_find?_eq_some hm)
    exact hB.ni j hj
set_option maxHeartbeats 20000000 in
theorem law_RoomTwice (A : Option Addr) (c : Nat) (bs : List UInt8) (hT : Tabs w0) (hc : CoOk w0 A c bs) : AFn Tryz.prog w0 8 #[.slice A bs.length c] H fun v H2 => v = .bool true ∧ H2 = H := by
  have hb : ∀ (g : List (Option Ob)) (Y : Option Ob) (r : List (Option Ob)), (g ++ Y :: r)[g.length]? = some Y := fun g Y r => by rw [List.getElem?_append_right (Nat.le_refl _)]; simp
  have gi : ∀ (g r : List (Option Ob)) (k : Nat), (g ++ r)[g.length + k]? = r[k]? := fun g r k => by rw [List.getElem?_append_right (by omega)]; simp
  have si : ∀ (g r : List (Option Ob)) (k : Nat) (Z : Option Ob), (g ++ r).set (g.length + k) Z = g ++ r.set k Z := fun g r k Z => by rw [List.set_append_right _ _ (by omega)]; simp
  have si0 : ∀ (g r : List (Option Ob)) (Z : Option Ob), (g ++ r).set g.length Z = g ++ r.set 0 Z := fun g r Z => by rw [List.set_append_right _ _ (by omega)]; simp
  have bne' : ∀ (c a b : Bool), xBin Tryz.prog .neq 4 c (.bool a) (.bool b) = some (.bool (!(a == b))) := fun c a b => by simp [xBin, XF.isB_4]
  have beq' : ∀ (c a b : Bool), xBin Tryz.prog .eql 4 c (.bool a) (.bool b) = some (.bool (a == b)) := fun c a b => by simp [xBin, XF.isB_4]
  refine AFn.scal rfl Tryz.func8 rfl (by kernel_rfl) ?_
  have r := Tryz.results8
  simp only [go_sem, cond, Nat.reduceAdd, Nat.reduceLeDiff, Nat.reduceEqDiff, Nat.reduceBEq, decide_true, decide_false, Int.toNat_natCast, r]
  refine Br_intro ?_ ?_ <;> intro h0 <;> simp only [go_sem, cond, Nat.reduceAdd, Nat.reduceLeDiff, Nat.reduceEqDiff, Nat.reduceBEq, decide_true, decide_false, Int.toNat_natCast, r, hb, gi, si, si0, bne', beq', beq_self_eq_true, Bool.not_true, Bool.not_false, List.set_cons_zero, List.set_cons_succ, List.append_assoc, List.length_append, List.length_cons, List.singleton_append, List.cons_append, List.nil_append, h0]
  · exact ⟨_, rfl⟩
  refine call (DrawRoomDo_nm w0 _ A c bs hc) ?_
  rintro v H2 ⟨R, x, es, kl, u, s, g, rfl, rfl, hpl, hsm, hnmR, hlm, hlk, hsh, hkl, hes, hlen, hu, hun, hy⟩
  rw [Hx_nil] at hpl
  have hbg := hsm.big
  have hbs := outS_big hbg
  have hR0 := (PlS.at (w0 := w0) (pre := []) hpl rfl (by omega) (by omega))
  rw [List.nil_append] at hR0
  have hRm : ∀ rest, RmAt w0 (Hx H (g ++ rest)) R x := fun rest => by have := hR0.1.old rest; rwa [Hx_Hx] at this
  have hEs : ∀ rest, Sl w0 (Hx H (g ++ rest)) (some ⟨nid H kl, 0, some (es.length * 9)⟩) 9 (es.map En.enc) := fun rest => Sl_own elen _ es H _ _ (by rw [List.getElem?_append_left (lt_of_get hkl)]; exact hkl)
  have hn0 : ∀ k, nid (Hx H []) k = nid H k := fun k => by rw [Hx_nil]
  simp only [go_sem, cond, Nat.reduceAdd, Nat.reduceLeDiff, Nat.reduceEqDiff, Nat.reduceBEq, decide_true, decide_false, Int.toNat_natCast, r, hb, gi, si, si0, bne', beq', beq_self_eq_true, Bool.not_true, Bool.not_false, List.set_cons_zero, List.set_cons_succ, List.append_assoc, List.length_append, List.length_cons, List.singleton_append, List.cons_append, List.nil_append, hn0, Rm.enc, Sy.enc]
  refine call (RoomDoI_ok w0 _ R x es _ _ u (outS R) hT (hRm _) hbg (hEs _) (by omega) (by omega) hbs) ?_
  rintro v H2 ⟨A1, c1, g1, rfl, rfl, hs1⟩
  simp only [go_sem, cond, Nat.reduceAdd, Nat.reduceLeDiff, Nat.reduceEqDiff, Nat.reduceBEq, decide_true, decide_false, Int.toNat_natCast, r, hb, gi, si, si0, bne', beq', beq_self_eq_true, Bool.not_true, Bool.not_false, List.set_cons_zero, List.set_cons_succ, List.append_assoc, List.length_append, List.length_cons, List.singleton_append, List.cons_append, List.nil_append, Rm.enc, Sy.enc]
  have hS1 : ∀ rest, Sl w0 (Hx H (g ++ some (.row 26 [.string R.name, .int .i64 R.next, .slice x.a R.ms.length x.c, .slice x.b R.ks.length x.d, .string R.subj]) :: some (.row 29 [.int .i64 6, .string R.name, .string ⟨#[71, 117, 101, 115, 116]⟩, .string ⟨#[]⟩, .string ⟨#[]⟩, .string ⟨#[]⟩, .string ⟨#[]⟩, .int .i64 0, .int .i64 0, .int .i64 0]) :: (g1 ++ rest))) A1 9 ((rdo R es u (outS R)).1.map En.enc) := fun rest => by
    have := hs1.old rest
    simpa only [Hx_Hx, List.append_assoc, List.cons_append, List.nil_append] using this
  refine call (RoomDoS_any w0 _ R x es _ _ u (outS R) (hRm _) hbg (hEs _) (by omega) (by omega) hbs) ?_
  rintro v H2 ⟨A2, c2, g2, rfl, rfl, hs2⟩
  have hS2 : ∀ rest, Sl w0 (Hx H (g ++ some (.row 26 [.string R.name, .int .i64 R.next, .slice x.a R.ms.length x.c, .slice x.b R.ks.length x.d, .string R.subj]) :: some (.row 29 [.int .i64 6, .string R.name, .string ⟨#[71, 117, 101, 115, 116]⟩, .string ⟨#[]⟩, .string ⟨#[]⟩, .string ⟨#[]⟩, .string ⟨#[]⟩, .int .i64 0, .int .i64 0, .int .i64 0]) :: (g1 ++ (g2 ++ rest)))) A2 9 ((rdo R es u (outS R)).1.map En.enc) := fun rest => by
    have := hs2.old rest
    simpa only [Hx_Hx, List.append_assoc, List.cons_append, List.nil_append] using this
  have hlen2 := rdo_len R es u (outS R)
  have hok := fun h => rdo_zero (R := R) (es := es) (u := u) (s := outS R) h
  have hbe : (rdo R es u (outS R)).2 = 0 → ∀ e ∈ (rdo R es u (outS R)).1, BigE e := fun h => by
    obtain ⟨h1, _, _, _, _, h2⟩ := hok h
    have hn := roomB_next h1
    rw [h2]
    exact fun e he => ((doR_sm R es u (outS R) hsm (by omega) (by omega) (outS_sm)).2 e he).big
  have hsh2 : roomB R = true → x.b = none → x.a = none := fun hrm h => by
    obtain ⟨a1, a2⟩ := roomB_noks hrm (hpl.nm.2 h).2
    rcases hsh h with h3 | h3 | h3
    · exact h3
    · omega
    · exact absurd a1 h3
  clear hs1 hs2 hsh
  have hq := hok
  clear hok
  obtain ⟨q, hqq⟩ : ∃ q, q = rdo R es u (outS R) := ⟨_, rfl⟩
  rw [← hqq] at hS1 hS2 hlen2 hq hbe ⊢
  obtain ⟨q1, q2⟩ := q
  simp only at hS1 hS2 hlen2 hq hbe ⊢
  simp only [go_sem, cond, Nat.reduceAdd, Nat.reduceLeDiff, Nat.reduceEqDiff, Nat.reduceBEq, decide_true, decide_false, Int.toNat_natCast, r, hb, gi, si, si0, bne', beq', beq_self_eq_true, Bool.not_true, Bool.not_false, List.set_cons_zero, List.set_cons_succ, List.append_assoc, List.length_append, List.length_cons, List.singleton_append, List.cons_append, List.nil_append, Rm.enc, Sy.enc]
  refine call_eq (hbLog_ok w0 _ q1 A1 A2 c1 c2 (hS1 _) (by have := hS2 []; simpa only [List.append_nil] using this) (by omega)) ?_
  simp only [go_sem, cond, Nat.reduceAdd, Nat.reduceLeDiff, Nat.reduceEqDiff, Nat.reduceBEq, decide_true, decide_false, Int.toNat_natCast, r, hb, gi, si, si0, bne', beq', beq_self_eq_true, Bool.not_true, Bool.not_false, List.set_cons_zero, List.set_cons_succ, List.append_assoc, List.length_append, List.length_cons, List.singleton_append, List.cons_append, List.nil_append, Rm.enc, Sy.enc]
  refine Br_intro ?_ ?_ <;> intro h1 <;> simp only [go_sem, cond, Nat.reduceAdd, Nat.reduceLeDiff, Nat.reduceEqDiff, Nat.reduceBEq, decide_true, decide_false, Int.toNat_natCast, r, hb, gi, si, si0, bne', beq', beq_self_eq_true, Bool.not_true, Bool.not_false, List.set_cons_zero, List.set_cons_succ, List.append_assoc, List.length_append, List.length_cons, List.singleton_append, List.cons_append, List.nil_append, Rm.enc, Sy.enc, h1]
  case refine_2 =>
    refine call_eq (hbLog_ok w0 _ q1 A1 A2 c1 c2 (hS1 _) (by have := hS2 []; simpa only [List.append_nil] using this) (by omega)) ?_
    simp only [go_sem, cond, Nat.reduceAdd, Nat.reduceLeDiff, Nat.reduceEqDiff, Nat.reduceBEq, decide_true, decide_false, Int.toNat_natCast, r, hb, gi, si, si0, bne', beq', beq_self_eq_true, Bool.not_true, Bool.not_false, List.set_cons_zero, List.set_cons_succ, List.append_assoc, List.length_append, List.length_cons, List.singleton_append, List.cons_append, List.nil_append, Rm.enc, Sy.enc]
    exact ⟨_, rfl⟩
  obtain rfl : q2 = 0 := eq_of_beq h1
  obtain ⟨hroom, huu, hsay, hkd, hrn, hdo⟩ := hq rfl
  have hbe := hbe rfl
  have hplM : ∀ rest, PlS H 0 (g ++ rest) R x := fun rest => hpl.more rest
  refine call (hbAfter_ok w0 H _ R x q1 A1 c1 hT (hplM _) (hsh2 hroom) hbg hbe hroom (hS1 _) (by omega)) ?_
  rintro v H2 ⟨x2, L, rfl, rfl, hp2, hs3⟩
  obtain ⟨j1, j2, j3, j4, nx, ks', role, j5, j6, j7, j8, j9⟩ := join_can hroom huu hsay rfl (fun _ => few_ranks ((roomB_iff R).1 hroom).2.2.2.2.1.1 hnmR.ks) hdo
  have hR2 := aftR_ok q1 hroom
  have hB2 := aftR_big q1 hbg hbe
  clear hS1 hS2
  obtain ⟨R2, hRe⟩ : ∃ R2, R2 = aftR R q1 := ⟨_, rfl⟩
  rw [← hRe] at hR2 hB2 hp2 j5 ⊢
  obtain ⟨l5, l6⟩ := roomB_len hR2
  simp only [go_sem, cond, Nat.reduceAdd, Nat.reduceLeDiff, Nat.reduceEqDiff, Nat.reduceBEq, decide_true, decide_false, Int.toNat_natCast, r, hb, gi, si, si0, bne', beq', beq_self_eq_true, Bool.not_true, Bool.not_false, List.set_cons_zero, List.set_cons_succ, List.append_assoc, List.length_append, List.length_cons, List.singleton_append, List.cons_append, List.nil_append, Rm.enc, Sy.enc]
  have hp3 := hp2.more [some (.row 26 [.string R2.name, .int .i64 R2.next, .slice x2.a R2.ms.length x2.c, .slice x2.b R2.ks.length x2.d, .string R2.subj])]
  obtain ⟨M1, hM1⟩ : ∃ M1, M1 = g ++ some (.row 26 [.string R.name, .int .i64 R.next, .slice x.a R.ms.length x.c, .slice x.b R.ks.length x.d, .string R.subj]) :: some (.row 29 [.int .i64 6, .string R.name, .string ⟨#[71, 117, 101, 115, 116]⟩, .string ⟨#[]⟩, .string ⟨#[]⟩, .string ⟨#[]⟩, .string ⟨#[]⟩, .int .i64 0, .int .i64 0, .int .i64 0]) :: (g1 ++ (g2 ++ (L ++ [some (.row 26 [.string R2.name, .int .i64 R2.next, .slice x2.a R2.ms.length x2.c, .slice x2.b R2.ks.length x2.d, .string R2.subj])]))) := ⟨_, rfl⟩
  obtain ⟨NN, hNN⟩ : ∃ NN, NN = g.length + (g1.length + (g2.length + L.length) + 1 + 1) := ⟨_, rfl⟩
  have mr : RmAt w0 (Hx H M1) R2 x2 := by
    have h := (PlS.at (w0 := w0) (pre := []) hp3 rfl (by omega) (by omega)).1
    rw [hM1]
    simpa only [List.append_assoc, List.cons_append, List.nil_append] using h
  have mb : M1[NN]? = some (some (.row 26 [.string R2.name, .int .i64 R2.next, .slice x2.a R2.ms.length x2.c, .slice x2.b R2.ks.length x2.d, .string R2.subj])) := by
    rw [hM1, hNN, show g ++ some (.row 26 [.string R.name, .int .i64 R.next, .slice x.a R.ms.length x.c, .slice x.b R.ks.length x.d, .string R.subj]) :: some (.row 29 [.int .i64 6, .string R.name, .string ⟨#[71, 117, 101, 115, 116]⟩, .string ⟨#[]⟩, .string ⟨#[]⟩, .string ⟨#[]⟩, .string ⟨#[]⟩, .int .i64 0, .int .i64 0, .int .i64 0]) :: (g1 ++ (g2 ++ (L ++ [some (.row 26 [.string R2.name, .int .i64 R2.next, .slice x2.a R2.ms.length x2.c, .slice x2.b R2.ks.length x2.d, .string R2.subj])]))) = (g ++ some (.row 26 [.string R.name, .int .i64 R.next, .slice x.a R.ms.length x.c, .slice x.b R.ks.length x.d, .string R.subj]) :: some (.row 29 [.int .i64 6, .string R.name, .string ⟨#[71, 117, 101, 115, 116]⟩, .string ⟨#[]⟩, .string ⟨#[]⟩, .string ⟨#[]⟩, .string ⟨#[]⟩, .int .i64 0, .int .i64 0, .int .i64 0]) :: (g1 ++ (g2 ++ L))) ++ [some (.row 26 [.string R2.name, .int .i64 R2.next, .slice x2.a R2.ms.length x2.c, .slice x2.b R2.ks.length x2.d, .string R2.subj])] by simp, show g.length + (g1.length + (g2.length + L.length) + 1 + 1) = (g ++ some (.row 26 [.string R.name, .int .i64 R.next, .slice x.a R.ms.length x.c, .slice x.b R.ks.length x.d, .string R.subj]) :: some (.row 29 [.int .i64 6, .string R.name, .string ⟨#[71, 117, 101, 115, 116]⟩, .string ⟨#[]⟩, .string ⟨#[]⟩, .string ⟨#[]⟩, .string ⟨#[]⟩, .int .i64 0, .int .i64 0, .int .i64 0]) :: (g1 ++ (g2 ++ L))).length by simp]
    exact hb _ _ _
  have hE0 : Sl w0 (Hx H M1) (some ⟨nid H kl, 0, some (es.length * 9)⟩) 9 (es.map En.enc) := by
    rw [hM1]
    exact hEs _
  have mb0 : ∀ G, (M1 ++ G)[g.length]? = some (some (.row 26 [.string R.name, .int .i64 R.next, .slice x.a R.ms.length x.c, .slice x.b R.ks.length x.d, .string R.subj])) := fun G => by
    rw [hM1, List.append_assoc]
    exact hb _ _ _
  have mb3 : ∀ G, (M1 ++ G)[g.length + 1]? = some (some (.row 29 [.int .i64 6, .string R.name, .string ⟨#[71, 117, 101, 115, 116]⟩, .string ⟨#[]⟩, .string ⟨#[]⟩, .string ⟨#[]⟩, .string ⟨#[]⟩, .int .i64 0, .int .i64 0, .int .i64 0])) := fun G => by
    rw [hM1, List.append_assoc, gi]
    rfl
  have hpM : PlS H 0 M1 R2 x2 := by
    rw [hM1]
    simpa only [List.append_assoc, List.cons_append, List.nil_append] using hp3
  rw [← hM1, ← hNN]
  clear hp2 hp3 hplM hM1 hNN
  have mb2 : ∀ G, (M1 ++ G)[NN]? = some (some (.row 26 [.string R2.name, .int .i64 R2.next, .slice x2.a R2.ms.length x2.c, .slice x2.b R2.ks.length x2.d, .string R2.subj])) := fun G => by
    rw [List.getElem?_append_left (by rcases Nat.lt_or_ge NN M1.length with h | h; exact h; rw [List.getElem?_eq_none h] at mb; cases mb)]
    exact mb
  have hE1 : ∀ G, Sl w0 (Hx H (M1 ++ G)) (some ⟨nid H kl, 0, some (es.length * 9)⟩) 9 (es.map En.enc) := fun G => by
    have := hE0.old G
    rwa [Hx_Hx] at this
  have mr1 : ∀ G, RmAt w0 (Hx H (M1 ++ G)) R2 x2 := fun G => by
    have := mr.old G
    rwa [Hx_Hx] at this
  have hname : R2.name = R.name := by rw [j5]
  have hrk : rankB R2.ks u ≠ 0 := by rw [j5]; exact j9
  have hmem : (⟨u, ⟨#[71, 117, 101, 115, 116]⟩, role⟩ : Mem) ∈ R2.ms := by rw [j5]; exact List.mem_append_right _ (by simp [outS])
  have hnm2 : NmR R2 := by
    rw [j5]
    refine ⟨fun m hm => ?_, fun k hk => ?_⟩
    · rcases List.mem_append.1 hm with hm | hm
      · exact hnmR.ms m hm
      · simp only [List.mem_singleton] at hm
        subst hm
        exact hun
    · rcases j8 with rfl | rfl
      · exact hnmR.ks k hk
      · rcases (rkd_mem _ _ _).2 k hk with h | h
        · exact hnmR.ks k h
        · subst h; exact hun
  have hRn := ((roomB_iff R).1 hroom).1
  refine call (RoomDoI_ok w0 _ R2 x2 es _ es.length u (sayS 6 R ⟨#[79, 116, 104, 101, 114]⟩) hT mr hB2 hE0 (by omega) (by omega) (sayS_big hbg (by decide))) ?_
  rintro v H2 ⟨A3, c3, g3, rfl, rfl, -⟩
  obtain ⟨r3, e3⟩ : ∃ r3, r3 = rdo R2 es u (sayS 6 R ⟨#[79, 116, 104, 101, 114]⟩) := ⟨_, rfl⟩
  rw [← e3]
  simp only [go_sem, cond, Nat.reduceAdd, Nat.reduceLeDiff, Nat.reduceEqDiff, Nat.reduceBEq, decide_true, decide_false, Int.toNat_natCast, r, hb, gi, si, si0, bne', beq', beq_self_eq_true, Bool.not_true, Bool.not_false, List.set_cons_zero, List.set_cons_succ, List.append_assoc, List.length_append, List.length_cons, List.singleton_append, List.cons_append, List.nil_append, mb0, mb2, mb3]
  have hd2 := RoomDoI_ok w0 _ R2 x2 es _ es.length ⟨#[110, 111, 98, 111, 100, 121]⟩ (outS R) hT (mr1 g3) hB2 (hE1 g3) (by omega) (by decide) hbs
  refine call hd2 ?_
  rintro v H2 ⟨A4, c4, g4, rfl, rfl, -⟩
  obtain ⟨r4, e4⟩ : ∃ r4, r4 = rdo R2 es ⟨#[110, 111, 98, 111, 100, 121]⟩ (outS R) := ⟨_, rfl⟩
  rw [← e4]
  simp only [go_sem, cond, Nat.reduceAdd, Nat.reduceLeDiff, Nat.reduceEqDiff, Nat.reduceBEq, decide_true, decide_false, Int.toNat_natCast, r, hb, gi, si, si0, bne', beq', beq_self_eq_true, Bool.not_true, Bool.not_false, List.set_cons_zero, List.set_cons_succ, List.append_assoc, List.length_append, List.length_cons, List.singleton_append, List.cons_append, List.nil_append, mb0, mb2, mb3]
  have hd3 := RoomDoI_ok w0 _ R2 x2 es _ es.length u (sayS 7 R em) hT (mr1 (g3 ++ g4)) hB2 (hE1 (g3 ++ g4)) (by omega) (by omega) (sayS_big hbg (by decide))
  refine call hd3 ?_
  rintro v H2 ⟨A5, c5, g5, rfl, rfl, hs5⟩
  obtain ⟨r5, e5⟩ : ∃ r5, r5 = rdo R2 es u (sayS 7 R em) := ⟨_, rfl⟩
  rw [← e5] at hs5 ⊢
  simp only [go_sem, cond, Nat.reduceAdd, Nat.reduceLeDiff, Nat.reduceEqDiff, Nat.reduceBEq, decide_true, decide_false, Int.toNat_natCast, r, hb, gi, si, si0, bne', beq', beq_self_eq_true, Bool.not_true, Bool.not_false, List.set_cons_zero, List.set_cons_succ, List.append_assoc, List.length_append, List.length_cons, List.singleton_append, List.cons_append, List.nil_append, mb0, mb2, mb3]
  refine Br_intro ?_ ?_ <;> intro h9 <;> simp only [go_sem, cond, Nat.reduceAdd, Nat.reduceLeDiff, Nat.reduceEqDiff, Nat.reduceBEq, decide_true, decide_false, Int.toNat_natCast, r, hb, gi, si, si0, bne', beq', beq_self_eq_true, Bool.not_true, Bool.not_false, List.set_cons_zero, List.set_cons_succ, List.append_assoc, List.length_append, List.length_cons, List.singleton_append, List.cons_append, List.nil_append, mb0, mb2, mb3, h9]
  · exact ⟨_, rfl⟩
  have h9' := of_decide_eq_false h9
  have hnx0 := roomB_next hR2
  have hnx : R2.next ≤ 9998 := by
    rw [wrap_i64 (by omega) (by omega)] at h9'
    omega
  have hin : 0 ≤ idxP (isU u) R2.ms 0 := idx_has hmem
  have hnick : 0 ≤ idxP (isN ⟨#[71, 117, 101, 115, 116]⟩) R2.ms 0 := idx_nick hmem
  have q3 := tw_again (es := es) (n := ⟨#[79, 116, 104, 101, 114]⟩) hname hR2 huu (by kernel_rfl) h9' hrk hin
  have nbn : nmB ⟨#[110, 111, 98, 111, 100, 121]⟩ = false := by decide
  have hnb : ¬ 0 ≤ idxP (isU ⟨#[110, 111, 98, 111, 100, 121]⟩) R2.ms 0 := idx_neg fun m hm => not_nm (hnm2.ms m hm) nbn
  have hrnb : rankB R2.ks ⟨#[110, 111, 98, 111, 100, 121]⟩ ≠ 0 := by rw [rankB_none _ _ fun k hk => not_nm (hnm2.ks k hk) nbn]; decide
  have q4 : rdo R2 es ⟨#[110, 111, 98, 111, 100, 121]⟩ (outS R) = ([], 4) := tw_nick hname hR2 (by kernel_rfl) (by kernel_rfl) h9' hrnb hnb hnick
  have q5 := tw_leave (es := es) hname hR2 huu h9' hin
  have hgone := tw_gone hR2 hnx hmem rfl
  have hlb := leave_big hB2 hu
  rw [q3] at e3
  rw [q4] at e4
  rw [q5] at e5
  subst e3 e4 e5
  simp only [Hx_Hx, List.append_assoc] at hs5
  simp only [go_sem, cond, Nat.reduceAdd, Nat.reduceLeDiff, Nat.reduceEqDiff, Nat.reduceBEq, decide_true, decide_false, Int.toNat_natCast, r, hb, gi, si, si0, bne', beq', beq_self_eq_true, Bool.not_true, Bool.not_false, List.set_cons_zero, List.set_cons_succ, List.append_assoc, List.length_append, List.length_cons, List.singleton_append, List.cons_append, List.nil_append, mb0, mb2, mb3, h9]
  refine call (hbAfter_ok w0 H (M1 ++ (g3 ++ (g4 ++ g5))) R2 x2 [leaveE R2 u] A5 c5 hT (hpM.more _) hs3 hB2 (fun e he => by simp only [List.mem_singleton] at he; subst he; exact hlb) hR2 hs5 (by simp)) ?_
  rintro v H2 ⟨x3, L3, rfl, rfl, hp4, hs6⟩
  have hR3 := aftR_ok [leaveE R2 u] hR2
  obtain ⟨l7, l8⟩ := roomB_len hR3
  have mr3 := (PlS.at (w0 := w0) (pre := []) hp4 rfl (by omega) (by omega)).1
  simp only [r, hb, gi, si, si0, bne', beq', beq_self_eq_true, Bool.not_true, Bool.not_false, List.set_cons_zero, List.set_cons_succ, List.append_assoc, List.length_append, List.length_cons, List.singleton_append, List.cons_append, List.nil_append] at mr3
  simp only [go_sem, cond, Nat.reduceAdd, Nat.reduceLeDiff, Nat.reduceEqDiff, Nat.reduceBEq, decide_true, decide_false, Int.toNat_natCast, r, hb, gi, si, si0, bne', beq', beq_self_eq_true, Bool.not_true, Bool.not_false, List.set_cons_zero, List.set_cons_succ, List.append_assoc, List.length_append, List.length_cons, List.singleton_append, List.cons_append, List.nil_append, mb0, mb2, mb3, h9]
  refine call_eq (hbMember_ok w0 _ _ x3 u mr3) ?_
  have d9 : (idxP (isU u) (aftR R2 [leaveE R2 u]).ms 0 < 0) = True := eq_true (by have h : ¬ 0 ≤ idxP (isU u) (aftR R2 [leaveE R2 u]).ms 0 := idx_neg hgone; omega)
  simp only [go_sem, cond, Nat.reduceAdd, Nat.reduceLeDiff, Nat.reduceEqDiff, Nat.reduceBEq, decide_true, decide_false, Int.toNat_natCast, r, hb, gi, si, si0, bne', beq', beq_self_eq_true, Bool.not_true, Bool.not_false, List.set_cons_zero, List.set_cons_succ, List.append_assoc, List.length_append, List.length_cons, List.singleton_append, List.cons_append, List.nil_append, mb0, mb2, mb3, h9, d9]
  exact ⟨_, rfl⟩
end Go.Proofs.YtmacpgoclhgafaaGreatDoorW.FA

namespace Go.Proofs.YtmacpgoclhgafaaGreatDoorW.FA
open Go.RowKit Go.ChangeShapes Go.WideShapes Go.ChangeAt Go.Deep Go.Proofs.YtmacpgoclhgafaaGreatDoorW.XM Go.Proofs Go.Proofs.YtmacpgoclhgafaaGreatDoorW.XWords Go.Proofs.YtmacpgoclhgafaaGreatDoorW.XRA
set_option maxRecDepth 100000
set_option linter.unusedVariables false
theorem byte_reads : ReadsA Tryz.prog encB 5 (fun _ => True) := by
  intro H enc w base spare held fuel cs x hx
  obtain ⟨n, e, q⟩ := ra_int Tryz.underlying5 _ _ _ _ _ _ _ _ _ hx
  have hq : 0 ≤ n ∧ n ≤ 255 := by
    simp only [Lit.wf, Bool.and_eq_true, decide_eq_true_eq] at q
    exact q
  refine ⟨UInt8.ofNat n.toNat, ?_, trivial⟩
  have h1 : (UInt8.ofNat n.toNat).toNat = n.toNat := by
    rw [UInt8.toNat_ofNat']; omega
  have h2 : (((UInt8.ofNat n.toNat).toNat : Nat) : Int) = n := by rw [h1]; omega
  rw [e, encB, h2]
theorem slice_spot {P : Program} {w : World} {base : Nat} {T e : TypeId} {v : Value} (ht : P.underlying T = some (.slice e)) (h : Value.okWide P w .any base T v) : ∀ a n c, v = .slice (some a) n c → a.spot = none := by
  intro a n c hv
  subst hv
  simp only [Value.okWide, ht] at h
  unfold Cell.okWide at h
  split at h <;> first
    | (rename_i h6; cases h6; done)
    | skip
  all_goals first
    | (unfold Cell.ok at h
       split at h <;> first
         | (rename_i h6; cases h6; done)
         | (exact h.elim)
         | (rename_i h6; cases h6; exact h.2.2.2.1)
         | (exact h.2.2.2.1))
    | skip
theorem code_ok {w : World} {A : Option Addr} {c : Nat} {bs : List UInt8} (k1 : bs.length ≤ c) (k4 : plain (.slice A bs.length c) = true) (k5 : A = none ∧ bs = [] ∨ ∃ b o, A = some ⟨b, o, none⟩ ∧ rdRo w b o (bs.length * 1) = some (flat encB bs)) : CoOk w A c bs :=
  ⟨fun H => (sl_of (enc := encB) (sz := 1) (fun _ => rfl) k5 H).1, k4, k1⟩
theorem code_reads {H : Type} {en : TypeId × Value → H} {w : World} {base : Nat} {spare : Nat → Bool} {held : Bool} {fuel : Nat} {u : Value} {x : DataW H × List MemPlace} (h : DataW.trod en Tryz.prog w base spare held fuel 22 [u] = some x) (hs : ∀ a n c, u = .slice (some a) n c → a.spot = none) : ∃ (A : Option Addr) (c : Nat) (l : List UInt8), u = .slice A l.length c ∧ plain (.slice A l.length c) = true ∧ CoOk w A c l := by
  obtain ⟨A, c, l, h1, h2, h3, h4, h5, h6⟩ := slice_readA byte_reads Tryz.underlying22 (by kernel_rfl) (fun _ => rfl) (by decide) (fun a v hv => by
    simp only [encB, List.mem_singleton] at hv
    subst hv
    rfl) h hs
  exact ⟨A, c, l, h1, h5, code_ok h2 h5 h6⟩
end Go.Proofs.YtmacpgoclhgafaaGreatDoorW.FA

namespace Go.Proofs.YtmacpgoclhgafaaGreatDoorW.XWords
open Go.Shelf Go.RowKit
theorem u8x : U8Extra Tryz.prog Tryz.lays260_ren := {
  n3 := by kernel_rfl
  n4 := by kernel_rfl
  y3 := by kernel_rfl
  y4 := by kernel_rfl
  c5 := by kernel_rfl
  c119 := by kernel_rfl
  c138 := by kernel_rfl }
theorem firstD : Go.Pinned.utf8First = Lib.firstData := by kernel_rfl
theorem acceptD : (Go.Proofs.YtmacpgoclhgafaaGreatDoor.Rows.laid_unicode_utf8_acceptRanges : DataW Unit) = Lib.acceptData := by kernel_rfl
theorem Tabs_of_laid {W : World} (h : laidMetH Tryz.prog Go.Proofs.YtmacpgoclhgafaaGreatDoor.Rows.fnRoomDoRow.laid W) : Tabs W := by
  have h' : laidMet Tryz.prog Go.Proofs.YtmacpgoclhgafaaGreatDoor.Rows.fnRoomDoRow.laid W := by
    rw [← MakeChecks.laidMetH_plain _ _ _ (by kernel_rfl)]
    exact h
  refine utf8Tabs_of_reads Tryz.lays260 u8x ?_ ?_
  · rw [← firstD]
    exact Lib.laidMet.reads h' (List.mem_cons_of_mem _ (List.mem_cons_self ..))
  · rw [← acceptD]
    exact Lib.laidMet.reads h' (List.mem_cons_self ..)
/-- What an initialiser lays, put into a variable's block. -/
def laidIn (cs : List Value) : Obj → Obj
  | .cells _ t frozen => .cells cs.toArray t frozen
  | o => o
def firstCells : List Value := Lib.firstTab.map fun z => Value.int .u8 z
def acceptCells : List Value := (List.range 16).flatMap fun i => [Value.int .u8 (Lib.accLo i), Value.int .u8 (Lib.accHi i)]
/-- A world for the rows' witness: the tables as their initialisers lay them. -/
noncomputable def laidWorld (os : Os) : World :=
  { World.holding Tryz.prog os ⟨#[], #[], []⟩ with heap := ((World.holding Tryz.prog os ⟨#[], #[], []⟩).heap.modify (Tryz.lays260_ren.g 3) (laidIn firstCells)).modify (Tryz.lays260_ren.g 4) (laidIn acceptCells) }
end Go.Proofs.YtmacpgoclhgafaaGreatDoorW.XWords

