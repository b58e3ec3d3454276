/- FnApply: own words and contracts that the law's proof uses, part 4. No condition of its own. -/
import Derived.Test.YtmacpgoclhgafaaDoorZFnApply3
import Derived.Test.YtmacpgoclhgafaaDoorRows
import Derived.Lib.LaidU8
import Derived.LaidByTextLater
import Derived.WalkKit
import Derived.ProofKit
set_option linter.unusedSimpArgs false
set_option linter.unusedVariables false
namespace Go.Proofs.YtmacpgoclhgafaaDoorW.FA
open Go.RowKit Go.Proofs.YtmacpgoclhgafaaDoorW.XM Go.Proofs Go.Proofs.YtmacpgoclhgafaaDoorW.XWords
set_option maxRecDepth 100000
set_option linter.unusedSimpArgs false
set_option linter.unusedVariables false
variable {w0 : World} {H : Hp}
/-- Where a room lies whose members and whose ranks may each be nowhere. -/
structure PlS (H : Hp) (n : Nat) (g : List (Option Ob)) (R : Rm) (x : Ad) : Prop where
  m : (x.a = none ∧ x.c = 0 ∧ R.ms = []) ∨ ∃ j, g[j]? = some (some (.row 60 (flat Mem.enc R.ms))) ∧ x.a = some ⟨nid H (n + j), 0, some (R.ms.length * 3)⟩ ∧ x.c = R.ms.length
  k : (x.b = none ∧ x.d = 0 ∧ R.ks = []) ∨ ∃ j, g[j]? = some (some (.row 58 (flat Rk.enc R.ks))) ∧ x.b = some ⟨nid H (n + j), 0, some (R.ks.length * 2)⟩ ∧ x.d = R.ks.length
theorem PlS.more {n : Nat} {g : List (Option Ob)} {R : Rm} {x : Ad} (h : PlS H n g R x) (L : List (Option Ob)) : PlS H n (g ++ L) R x := by
  refine ⟨h.m.imp id fun ⟨j, a, b⟩ => ⟨j, ?_, b⟩, h.k.imp id fun ⟨j, a, b⟩ => ⟨j, ?_, b⟩⟩ <;> rw [List.getElem?_append_left (lt_of_get a)] <;> exact a
theorem PlS.shift {pre g : List (Option Ob)} {R : Rm} {x : Ad} (h : PlS H pre.length g R x) : PlS H 0 (pre ++ g) R x := by
  refine ⟨h.m.imp id fun ⟨j, a, b, c⟩ => ⟨pre.length + j, ?_, by rw [Nat.zero_add]; exact b, c⟩, h.k.imp id fun ⟨j, a, b, c⟩ => ⟨pre.length + j, ?_, by rw [Nat.zero_add]; exact b, c⟩⟩ <;> rw [List.getElem?_append_right (by omega), Nat.add_sub_cancel_left] <;> exact a
theorem PlS.at {n : Nat} {g pre : List (Option Ob)} {R : Rm} {x : Ad} (h : PlS H n g R x) (hn : pre.length = n) (lm : R.ms.length ≤ 2000000) (lk : R.ks.length ≤ 2000000) : RmAt w0 (Hx H (pre ++ g)) R x ∧ RmOw w0 (Hx H (pre ++ g)) R x := by
  subst hn
  obtain ⟨na, nx, ms, ks, su⟩ := R
  obtain ⟨a, c, b, d⟩ := x
  have gi : ∀ k, (pre ++ g)[pre.length + k]? = g[k]? := fun k => by rw [List.getElem?_append_right (by omega)]; simp
  have hm : (Sl w0 (Hx H (pre ++ g)) a 3 (ms.map Mem.enc) ∧ ∀ L, src w0 (Hx (Hx H (pre ++ g)) L) 3 (.slice a ms.length c) = some (ms.length, flat Mem.enc ms)) ∧ ms.length ≤ c ∧ (∀ b o sp, a = some ⟨b, o, sp⟩ → ∀ L, Go.Proofs.YtmacpgoclhgafaaDoorW.XM.ownB Tryd.prog (Hx (Hx H (pre ++ g)) L) 3 b sp) ∧ (∀ b o sp, a = some ⟨b, o, sp⟩ → ∀ L, rd w0 (Hx (Hx H (pre ++ g)) L) ⟨b, o, sp⟩ (ms.length * 3) = some (flat Mem.enc ms)) := by
    rcases h.m with ⟨h1, h2, h3⟩ | ⟨j, h1, h2, h3⟩
    · simp only at h1 h2 h3
      subst h1 h2 h3
      exact ⟨⟨.inl rfl, fun L => rfl⟩, Nat.le_refl _, (fun _ _ _ e => by cases e), (fun _ _ _ e => by cases e)⟩
    · simp only at h1 h2 h3
      subst h2 h3
      have hj := (gi j).trans h1
      refine ⟨⟨Sl_own mlen _ ms H _ _ hj, fun L => by rw [src_sl, rd_flat mlen _ ms H _ _ hj]; rfl⟩, Nat.le_refl _, fun b o sp e L => ?_, fun b o sp e L => ?_⟩
      · cases e
        refine ⟨_, flat Mem.enc ms, false || true, ?_, flat_len mlen ms, XF.lay_60⟩
        have := lt_of_get hj
        rw [Hx_Hx, Hx_get, List.getElem?_append_left this]
        exact hj
      · cases e
        exact rd_flat mlen _ ms H _ _ hj L
  have hk : Sl w0 (Hx H (pre ++ g)) b 2 (ks.map Rk.enc) ∧ ∀ L, src w0 (Hx (Hx H (pre ++ g)) L) 2 (.slice b ks.length d) = some (ks.length, flat Rk.enc ks) := by
    rcases h.k with ⟨h1, h2, h3⟩ | ⟨j, h1, h2, h3⟩
    · simp only at h1 h2 h3
      subst h1 h2 h3
      exact ⟨.inl rfl, fun L => rfl⟩
    · simp only at h1 h2 h3
      subst h2 h3
      have hj := (gi j).trans h1
      exact ⟨Sl_own klen _ ks H _ _ hj, fun L => by rw [src_sl, rd_flat klen _ ks H _ _ hj]; rfl⟩
  exact ⟨⟨hm.1.1, hk.1, lm, lk, hm.1.2, hk.2⟩, ⟨hm.2.1, hm.2.2.1, hm.2.2.2⟩⟩
variable (w0 H)
set_option maxHeartbeats 20000000 in
theorem l16AnyRoom_ok (D : Cd) (B : Hp) (l : List (Option Ob)) (q p : Nat) (hD : CdOk w0 D) (hq : l[q]? = some (dr D p)) (hp : p ≤ 200000) : AFn Tryd.prog w0 60 #[.pointer (some ⟨nid B q, 0, some 2⟩)] (Hx B l) fun v H2 => ∃ p' R x g, H2 = Hx B (l.set q (dr D p') ++ g) ∧ p ≤ p' ∧ p' ≤ p + 2100 ∧ v = .agg (R.enc x).toArray ∧ PlS B l.length g R x ∧ SmR R ∧ R.ms.length ≤ 200 ∧ R.ks.length ≤ 200 ∧ (x.b = none → x.a = none ∨ 1 ≤ R.next ∨ R.ms ≠ []) := by
  have hlq := lt_of_get hq
  have e : Hx B l = Hx B (l.set q (dr D p)) := by conv => lhs; rw [set_same hq, List.append_nil]
  rw [e]
  obtain ⟨sA, gQ, gR, gR0, sR, sR0⟩ := dset hlq
  have gs : ∀ X : Option Ob, (l.set q X)[q]? = some X := fun X => by rw [List.getElem?_set_self hlq]
  have hb : ∀ (g : List (Option Ob)) (Y : Option Ob) (r : List (Option Ob)), (g ++ Y :: r)[g.length]? = some Y := fun g Y r => by rw [List.getElem?_append_right (Nat.le_refl _)]; simp
  have gi : ∀ (g r : List (Option Ob)) (k : Nat), (g ++ r)[g.length + k]? = r[k]? := fun g r k => by rw [List.getElem?_append_right (by omega)]; simp
  have si : ∀ (g r : List (Option Ob)) (k : Nat) (Z : Option Ob), (g ++ r).set (g.length + k) Z = g ++ r.set k Z := fun g r k Z => by rw [List.set_append_right _ _ (by omega)]; simp
  have si0 : ∀ (g r : List (Option Ob)) (Z : Option Ob), (g ++ r).set g.length Z = g ++ r.set 0 Z := fun g r Z => by rw [List.set_append_right _ _ (by omega)]; simp
  refine AFn_of Tryd.func60 rfl (by kernel_rfl) ?_
  have r := Tryd.results60
  simp only [go_sem, cond, Nat.reduceAdd, Nat.reduceLeDiff, Nat.reduceEqDiff, Nat.reduceBEq, decide_true, decide_false, Int.toNat_natCast, r, sA, gQ, gR, gR0, sR, sR0, hb, gi, si, si0, List.set_cons_zero, List.set_cons_succ, List.set_set, List.append_assoc, List.length_append, List.length_set, List.singleton_append, List.cons_append, List.nil_append]
  refine call (l16Log_ok w0 D B _ q _ hD (gQ _ _) (by omega)) ?_
  rintro v H2 ⟨p1, es, kl, g, rfl, hp1, hp2, hes, hlen, rfl, hkl⟩
  simp only [go_sem, cond, Nat.reduceAdd, Nat.reduceLeDiff, Nat.reduceEqDiff, Nat.reduceBEq, decide_true, decide_false, Int.toNat_natCast, r, sA, gQ, gR, gR0, sR, sR0, hb, gi, si, si0, List.set_cons_zero, List.set_cons_succ, List.set_set, List.append_assoc, List.length_append, List.length_set, List.singleton_append, List.cons_append, List.nil_append]
  have hlk : (l.set q (dr D p1) ++ some (.row 33 [.string em, .int .i64 0, .slice none 0 0, .slice none 0 0, .string em]) :: g)[l.length + 1 + kl]? = some (some (.row 37 (flat En.enc es))) := by
    rw [Nat.add_assoc, gR, Nat.add_comm 1 kl]; exact hkl
  have hro := roomR_ok (ByteArray.mk #[100, 101, 110]) es (by decide) hes.sm
  refine call (l8Room_ok w0 _ es _ _ _ (Sl_own elen _ es B _ _ hlk) (by omega) hes.sm) ?_
  rintro v H2 ⟨x, g2, rfl, rfl, hpl, hxa⟩
  clear hlk hkl
  generalize roomR (ByteArray.mk #[100, 101, 110]) es = R at *
  obtain ⟨hsm, hlm, hlk⟩ := hro
  obtain ⟨na, nx, ms, ks, su⟩ := R
  simp only at hlm hlk hxa
  obtain ⟨g3, hg3⟩ : ∃ g3, g3 = g ++ g2 := ⟨_, rfl⟩
  have hA : ∀ r, g ++ (g2 ++ r) = g3 ++ r := fun r => by rw [hg3, List.append_assoc]
  have hA0 : g ++ g2 = g3 := hg3.symm
  have hgl : g.length + g2.length = g3.length := by rw [hg3, List.length_append]
  have hgl2 : ∀ k, g.length + (g2.length + k) = g3.length + k := fun k => by rw [← hgl]; omega
  have hbs : ∀ (j : Nat) (X Y : Option Ob) (r : List (Option Ob)), (g3.set j X ++ Y :: r)[g3.length]? = some Y := fun j X Y r => by have := hb (g3.set j X) Y r; rwa [List.length_set] at this
  have sis : ∀ (j : Nat) (X Z : Option Ob) (r : List (Option Ob)), (g3.set j X ++ r).set g3.length Z = g3.set j X ++ r.set 0 Z := fun j X Z r => by have := si0 (g3.set j X) r Z; rwa [List.length_set] at this
  rcases hpl with ⟨rfl, h1, h2⟩ | ⟨j, k, hj, hk, rfl⟩
  · simp only at h1 h2
    subst h1 h2
    simp only [go_sem, cond, Nat.reduceAdd, Nat.reduceLeDiff, Nat.reduceEqDiff, Nat.reduceBEq, decide_true, decide_false, Int.toNat_natCast, r, sA, gQ, gR, gR0, sR, sR0, hb, gi, si, si0, List.set_cons_zero, List.set_cons_succ, List.set_set, List.append_assoc, List.length_append, List.length_set, List.singleton_append, List.cons_append, List.nil_append, hbs, sis, hA, hA0, hgl, hgl2, Rm.enc]
    repeat' (first
      | (refine Br_intro ?_ ?_ <;> intro h <;> simp only [go_sem, cond, Nat.reduceAdd, Nat.reduceLeDiff, Nat.reduceEqDiff, Nat.reduceBEq, decide_true, decide_false, Int.toNat_natCast, r, sA, gQ, gR, gR0, sR, sR0, hb, gi, si, si0, List.set_cons_zero, List.set_cons_succ, List.set_set, List.append_assoc, List.length_append, List.length_set, List.singleton_append, List.cons_append, List.nil_append, hbs, sis, hA, hA0, hgl, hgl2, h])
      | (refine xw_open (id := 8) [0, 1, 0, 4, 0, 28, 0, 124, 252, 508, 1023, 2047, 4095] [.q 0, .q 2, .q 4, .q 6, .l 1, .e 3, .e 5, .e 7, .e 8, .e 9, .d 1, .e 10, .q 11, .e 12] rfl (by kernel_rfl) ?_; simp only [go_sem, cond, Nat.reduceAdd, Nat.reduceLeDiff, Nat.reduceEqDiff, Nat.reduceBEq, decide_true, decide_false, Int.toNat_natCast, r, sA, gQ, gR, gR0, sR, sR0, hb, gi, si, si0, List.set_cons_zero, List.set_cons_succ, List.set_set, List.append_assoc, List.length_append, List.length_set, List.singleton_append, List.cons_append, List.nil_append, hbs, sis, hA, hA0, hgl, hgl2])
      | (refine xw_open (id := 10) [0, 1, 0, 0, 12, 0, 60, 124, 252, 511, 1023, 2047] [.q 0, .q 2, .q 5, .l 1, .e 3, .e 4, .e 6, .e 7, .e 8, .d 1, .e 9, .q 10, .e 11] rfl (by kernel_rfl) ?_; simp only [go_sem, cond, Nat.reduceAdd, Nat.reduceLeDiff, Nat.reduceEqDiff, Nat.reduceBEq, decide_true, decide_false, Int.toNat_natCast, r, sA, gQ, gR, gR0, sR, sR0, hb, gi, si, si0, List.set_cons_zero, List.set_cons_succ, List.set_set, List.append_assoc, List.length_append, List.length_set, List.singleton_append, List.cons_append, List.nil_append, hbs, sis, hA, hA0, hgl, hgl2])
      | (refine call (pick_ok w0 D hD B _ q _ _ (gQ _ _) (by omega)) ?_; rintro v H2 ⟨c, rfl, c1, -, rfl⟩; clear c1; simp only [go_sem, cond, Nat.reduceAdd, Nat.reduceLeDiff, Nat.reduceEqDiff, Nat.reduceBEq, decide_true, decide_false, Int.toNat_natCast, r, sA, gQ, gR, gR0, sR, sR0, hb, gi, si, si0, List.set_cons_zero, List.set_cons_succ, List.set_set, List.append_assoc, List.length_append, List.length_set, List.singleton_append, List.cons_append, List.nil_append, hbs, sis, hA, hA0, hgl, hgl2])
      | (refine call (l16User_ok w0 D B _ q _ hD (gQ _ _) (by omega)) ?_; rintro v H2 ⟨p3, rfl, h3, h4, us, hus, rfl⟩; simp only [go_sem, cond, Nat.reduceAdd, Nat.reduceLeDiff, Nat.reduceEqDiff, Nat.reduceBEq, decide_true, decide_false, Int.toNat_natCast, r, sA, gQ, gR, gR0, sR, sR0, hb, gi, si, si0, List.set_cons_zero, List.set_cons_succ, List.set_set, List.append_assoc, List.length_append, List.length_set, List.singleton_append, List.cons_append, List.nil_append, hbs, sis, hA, hA0, hgl, hgl2])
      | (refine call (l16Nick_ok w0 D B _ q _ hD (gQ _ _) (by omega)) ?_; rintro v H2 ⟨p3, rfl, h3, h4, ni, hni, rfl⟩; simp only [go_sem, cond, Nat.reduceAdd, Nat.reduceLeDiff, Nat.reduceEqDiff, Nat.reduceBEq, decide_true, decide_false, Int.toNat_natCast, r, sA, gQ, gR, gR0, sR, sR0, hb, gi, si, si0, List.set_cons_zero, List.set_cons_succ, List.set_set, List.append_assoc, List.length_append, List.length_set, List.singleton_append, List.cons_append, List.nil_append, hbs, sis, hA, hA0, hgl, hgl2])
      | (refine call (l16Any_ok w0 D B _ q _ hD (gQ _ _) (by omega)) ?_; rintro v H2 ⟨p3, rfl, h3, h4, su2, hsu2, rfl⟩; simp only [go_sem, cond, Nat.reduceAdd, Nat.reduceLeDiff, Nat.reduceEqDiff, Nat.reduceBEq, decide_true, decide_false, Int.toNat_natCast, r, sA, gQ, gR, gR0, sR, sR0, hb, gi, si, si0, List.set_cons_zero, List.set_cons_succ, List.set_set, List.append_assoc, List.length_append, List.length_set, List.singleton_append, List.cons_append, List.nil_append, hbs, sis, hA, hA0, hgl, hgl2])
      | (refine call (of_ok w0 D hD B _ q _ _ _ _ _ (gQ _ _) (by omega) (by first | exact gR _ _ _ | exact gR0 _ _ | (rw [gR, List.getElem?_cons_succ, gi]; rfl)) rfl rfl (by decide) (by decide) (by decide)) ?_; rintro v H2 ⟨s1, hs1, rfl, rfl⟩; simp only [go_sem, cond, Nat.reduceAdd, Nat.reduceLeDiff, Nat.reduceEqDiff, Nat.reduceBEq, decide_true, decide_false, Int.toNat_natCast, r, sA, gQ, gR, gR0, sR, sR0, hb, gi, si, si0, List.set_cons_zero, List.set_cons_succ, List.set_set, List.append_assoc, List.length_append, List.length_set, List.singleton_append, List.cons_append, List.nil_append, hbs, sis, hA, hA0, hgl, hgl2])
      | (refine call (one_ok w0 D hD B _ q _ _ _ _ _ (gQ _ _) (by omega) (by first | exact gR _ _ _ | exact gR0 _ _ | (rw [gR, List.getElem?_cons_succ, gi]; rfl)) rfl rfl (by decide) (by decide) (by decide)) ?_; rintro v H2 ⟨s1, hs1, hs2, -, rfl, rfl⟩; simp only [go_sem, cond, Nat.reduceAdd, Nat.reduceLeDiff, Nat.reduceEqDiff, Nat.reduceBEq, decide_true, decide_false, Int.toNat_natCast, r, sA, gQ, gR, gR0, sR, sR0, hb, gi, si, si0, List.set_cons_zero, List.set_cons_succ, List.set_set, List.append_assoc, List.length_append, List.length_set, List.singleton_append, List.cons_append, List.nil_append, hbs, sis, hA, hA0, hgl, hgl2])
      | (refine bsV_dense ⟨_, XF.zer_9, rfl⟩ rfl rfl (by decide) rfl ?_; simp only [go_sem, cond, Nat.reduceAdd, Nat.reduceLeDiff, Nat.reduceEqDiff, Nat.reduceBEq, decide_true, decide_false, Int.toNat_natCast, r, sA, gQ, gR, gR0, sR, sR0, hb, gi, si, si0, List.set_cons_zero, List.set_cons_succ, List.set_set, List.append_assoc, List.length_append, List.length_set, List.singleton_append, List.cons_append, List.nil_append, hbs, sis, hA, hA0, hgl, hgl2])
      | (refine bsV_dense ⟨_, XF.zer_3, rfl⟩ rfl rfl (by decide) rfl ?_; simp only [go_sem, cond, Nat.reduceAdd, Nat.reduceLeDiff, Nat.reduceEqDiff, Nat.reduceBEq, decide_true, decide_false, Int.toNat_natCast, r, sA, gQ, gR, gR0, sR, sR0, hb, gi, si, si0, List.set_cons_zero, List.set_cons_succ, List.set_set, List.append_assoc, List.length_append, List.length_set, List.singleton_append, List.cons_append, List.nil_append, hbs, sis, hA, hA0, hgl, hgl2])
      | (refine Req_intro ⟨_, rfl, rfl⟩ ?_; simp only [go_sem, cond, Nat.reduceAdd, Nat.reduceLeDiff, Nat.reduceEqDiff, Nat.reduceBEq, decide_true, decide_false, Int.toNat_natCast, r, sA, gQ, gR, gR0, sR, sR0, hb, gi, si, si0, List.set_cons_zero, List.set_cons_succ, List.set_set, List.append_assoc, List.length_append, List.length_set, List.singleton_append, List.cons_append, List.nil_append, hbs, sis, hA, hA0, hgl, hgl2]))
    all_goals first
      | exact ⟨_, ⟨_, _, [], [], _⟩, ⟨none, 0, none, 0⟩, _, rfl, by omega, by omega, rfl, ⟨.inl ⟨rfl, rfl, rfl⟩, .inl ⟨rfl, rfl, rfl⟩⟩, ⟨by first | exact hsm.nm | (dsimp only; omega), by first | exact hsm.sj | (dsimp only; omega), by simp, by simp⟩, by simp, by simp, fun _ => .inl rfl⟩
      | (refine appS_nil _ _ _ 1 _ _ _ _ (by decide) ?_ (by decide) ?_
         · decide
         simp only [go_sem, cond, Nat.reduceAdd, Nat.reduceLeDiff, Nat.reduceEqDiff, Nat.reduceBEq, decide_true, decide_false, Int.toNat_natCast, r, sA, gQ, gR, gR0, sR, sR0, hb, gi, si, si0, List.set_cons_zero, List.set_cons_succ, List.set_set, List.append_assoc, List.length_append, List.length_set, List.singleton_append, List.cons_append, List.nil_append, hbs, sis, hA, hA0, hgl, hgl2])
    · exact ⟨_, ⟨_, _, [⟨us, ni, (c : Int)⟩], [], _⟩, ⟨some _, _, none, 0⟩, _, rfl, by omega, by omega, rfl, ⟨.inr ⟨g3.length + 2 + 1, by rw [List.getElem?_cons_succ, gi]; rfl, rfl, rfl⟩, .inl ⟨rfl, rfl, rfl⟩⟩, ⟨hsm.nm, hsm.sj, (fun m hm => by simp only [List.mem_singleton] at hm; subst hm; exact ⟨by dsimp only; omega, by dsimp only; omega⟩), by simp⟩, by simp, by simp, fun _ => .inr (.inr (by simp))⟩
    · exact ⟨_, ⟨_, _, [], [⟨s1, (c : Int)⟩], _⟩, ⟨none, 0, some _, _⟩, _, rfl, by omega, by omega, rfl, ⟨.inl ⟨rfl, rfl, rfl⟩, .inr ⟨g3.length + 3 + 1, by rw [List.getElem?_cons_succ, gi]; rfl, rfl, rfl⟩⟩, ⟨hsm.nm, hsm.sj, by simp, (fun m hm => by simp only [List.mem_singleton] at hm; subst hm; dsimp only; omega)⟩, by simp, by simp, fun _ => .inl rfl⟩
  · rw [adR_Hx]
    have hj1 : g3[g.length + j]? = some (some (.row 60 (flat Mem.enc ms))) := by rw [hg3, gi]; exact hj
    have hk1 : g3[g.length + k]? = some (some (.row 58 (flat Rk.enc ks))) := by rw [hg3, gi]; exact hk
    have hlt : g.length + j < g3.length := lt_of_get hj1
    have hlt2 : g.length + k < g3.length := lt_of_get hk1
    simp only [go_sem, cond, Nat.reduceAdd, Nat.reduceLeDiff, Nat.reduceEqDiff, Nat.reduceBEq, decide_true, decide_false, Int.toNat_natCast, r, sA, gQ, gR, gR0, sR, sR0, hb, gi, si, si0, List.set_cons_zero, List.set_cons_succ, List.set_set, List.append_assoc, List.length_append, List.length_set, List.singleton_append, List.cons_append, List.nil_append, hbs, sis, hA, hA0, hgl, hgl2, Rm.enc, adR]
    have e1 : ∀ i, l.length + (g.length + 1) + i = l.length + (g.length + i + 1) := fun i => by omega
    simp only [Nat.zero_add, e1]
    clear hj hk
    generalize g.length + j = j1 at *
    generalize g.length + k = k1 at *
    have gj : ∀ r, (g3 ++ r)[j1]? = g3[j1]? := fun r => List.getElem?_append_left hlt
    have gk : ∀ r, (g3 ++ r)[k1]? = g3[k1]? := fun r => List.getElem?_append_left hlt2
    have sj : ∀ X r, (g3 ++ r).set j1 X = g3.set j1 X ++ r := fun X r => List.set_append_left _ _ hlt
    have sk : ∀ X r, (g3 ++ r).set k1 X = g3.set k1 X ++ r := fun X r => List.set_append_left _ _ hlt2
    have hne : j1 ≠ k1 := by
      intro e
      rw [e, hk1] at hj1
      simp at hj1
    repeat' (first
      | (refine Br_intro ?_ ?_ <;> intro h <;> simp only [go_sem, cond, Nat.reduceAdd, Nat.reduceLeDiff, Nat.reduceEqDiff, Nat.reduceBEq, decide_true, decide_false, Int.toNat_natCast, r, sA, gQ, gR, gR0, sR, sR0, hb, gi, si, si0, List.set_cons_zero, List.set_cons_succ, List.set_set, List.append_assoc, List.length_append, List.length_set, List.singleton_append, List.cons_append, List.nil_append, hbs, sis, hA, hA0, hgl, hgl2, gj, gk, sj, sk, h])
      | (refine xw_open (id := 8) [0, 1, 0, 4, 0, 28, 0, 124, 252, 508, 1023, 2047, 4095] [.q 0, .q 2, .q 4, .q 6, .l 1, .e 3, .e 5, .e 7, .e 8, .e 9, .d 1, .e 10, .q 11, .e 12] rfl (by kernel_rfl) ?_; simp only [go_sem, cond, Nat.reduceAdd, Nat.reduceLeDiff, Nat.reduceEqDiff, Nat.reduceBEq, decide_true, decide_false, Int.toNat_natCast, r, sA, gQ, gR, gR0, sR, sR0, hb, gi, si, si0, List.set_cons_zero, List.set_cons_succ, List.set_set, List.append_assoc, List.length_append, List.length_set, List.singleton_append, List.cons_append, List.nil_append, hbs, sis, hA, hA0, hgl, hgl2, gj, gk, sj, sk])
      | (refine xw_open (id := 10) [0, 1, 0, 0, 12, 0, 60, 124, 252, 511, 1023, 2047] [.q 0, .q 2, .q 5, .l 1, .e 3, .e 4, .e 6, .e 7, .e 8, .d 1, .e 9, .q 10, .e 11] rfl (by kernel_rfl) ?_; simp only [go_sem, cond, Nat.reduceAdd, Nat.reduceLeDiff, Nat.reduceEqDiff, Nat.reduceBEq, decide_true, decide_false, Int.toNat_natCast, r, sA, gQ, gR, gR0, sR, sR0, hb, gi, si, si0, List.set_cons_zero, List.set_cons_succ, List.set_set, List.append_assoc, List.length_append, List.length_set, List.singleton_append, List.cons_append, List.nil_append, hbs, sis, hA, hA0, hgl, hgl2, gj, gk, sj, sk])
      | (refine call (pick_ok w0 D hD B _ q _ _ (gQ _ _) (by omega)) ?_; rintro v H2 ⟨c, rfl, c1, -, rfl⟩; clear c1; simp only [go_sem, cond, Nat.reduceAdd, Nat.reduceLeDiff, Nat.reduceEqDiff, Nat.reduceBEq, decide_true, decide_false, Int.toNat_natCast, r, sA, gQ, gR, gR0, sR, sR0, hb, gi, si, si0, List.set_cons_zero, List.set_cons_succ, List.set_set, List.append_assoc, List.length_append, List.length_set, List.singleton_append, List.cons_append, List.nil_append, hbs, sis, hA, hA0, hgl, hgl2, gj, gk, sj, sk])
      | (refine call (l16User_ok w0 D B _ q _ hD (gQ _ _) (by omega)) ?_; rintro v H2 ⟨p3, rfl, h3, h4, us, hus, rfl⟩; simp only [go_sem, cond, Nat.reduceAdd, Nat.reduceLeDiff, Nat.reduceEqDiff, Nat.reduceBEq, decide_true, decide_false, Int.toNat_natCast, r, sA, gQ, gR, gR0, sR, sR0, hb, gi, si, si0, List.set_cons_zero, List.set_cons_succ, List.set_set, List.append_assoc, List.length_append, List.length_set, List.singleton_append, List.cons_append, List.nil_append, hbs, sis, hA, hA0, hgl, hgl2, gj, gk, sj, sk])
      | (refine call (l16Nick_ok w0 D B _ q _ hD (gQ _ _) (by omega)) ?_; rintro v H2 ⟨p3, rfl, h3, h4, ni, hni, rfl⟩; simp only [go_sem, cond, Nat.reduceAdd, Nat.reduceLeDiff, Nat.reduceEqDiff, Nat.reduceBEq, decide_true, decide_false, Int.toNat_natCast, r, sA, gQ, gR, gR0, sR, sR0, hb, gi, si, si0, List.set_cons_zero, List.set_cons_succ, List.set_set, List.append_assoc, List.length_append, List.length_set, List.singleton_append, List.cons_append, List.nil_append, hbs, sis, hA, hA0, hgl, hgl2, gj, gk, sj, sk])
      | (refine call (l16Any_ok w0 D B _ q _ hD (gQ _ _) (by omega)) ?_; rintro v H2 ⟨p3, rfl, h3, h4, su2, hsu2, rfl⟩; simp only [go_sem, cond, Nat.reduceAdd, Nat.reduceLeDiff, Nat.reduceEqDiff, Nat.reduceBEq, decide_true, decide_false, Int.toNat_natCast, r, sA, gQ, gR, gR0, sR, sR0, hb, gi, si, si0, List.set_cons_zero, List.set_cons_succ, List.set_set, List.append_assoc, List.length_append, List.length_set, List.singleton_append, List.cons_append, List.nil_append, hbs, sis, hA, hA0, hgl, hgl2, gj, gk, sj, sk])
      | (refine call (of_ok w0 D hD B _ q _ _ _ _ _ (gQ _ _) (by omega) (by first | exact gR _ _ _ | exact gR0 _ _ | (rw [gR, List.getElem?_cons_succ, gi]; rfl)) rfl rfl (by decide) (by decide) (by decide)) ?_; rintro v H2 ⟨s1, hs1, rfl, rfl⟩; simp only [go_sem, cond, Nat.reduceAdd, Nat.reduceLeDiff, Nat.reduceEqDiff, Nat.reduceBEq, decide_true, decide_false, Int.toNat_natCast, r, sA, gQ, gR, gR0, sR, sR0, hb, gi, si, si0, List.set_cons_zero, List.set_cons_succ, List.set_set, List.append_assoc, List.length_append, List.length_set, List.singleton_append, List.cons_append, List.nil_append, hbs, sis, hA, hA0, hgl, hgl2, gj, gk, sj, sk])
      | (refine call (one_ok w0 D hD B _ q _ _ _ _ _ (gQ _ _) (by omega) (by first | exact gR _ _ _ | exact gR0 _ _ | (rw [gR, List.getElem?_cons_succ, gi]; rfl)) rfl rfl (by decide) (by decide) (by decide)) ?_; rintro v H2 ⟨s1, hs1, hs2, -, rfl, rfl⟩; simp only [go_sem, cond, Nat.reduceAdd, Nat.reduceLeDiff, Nat.reduceEqDiff, Nat.reduceBEq, decide_true, decide_false, Int.toNat_natCast, r, sA, gQ, gR, gR0, sR, sR0, hb, gi, si, si0, List.set_cons_zero, List.set_cons_succ, List.set_set, List.append_assoc, List.length_append, List.length_set, List.singleton_append, List.cons_append, List.nil_append, hbs, sis, hA, hA0, hgl, hgl2, gj, gk, sj, sk])
      | (refine bsV_dense ⟨_, XF.zer_9, rfl⟩ rfl rfl (by decide) rfl ?_; simp only [go_sem, cond, Nat.reduceAdd, Nat.reduceLeDiff, Nat.reduceEqDiff, Nat.reduceBEq, decide_true, decide_false, Int.toNat_natCast, r, sA, gQ, gR, gR0, sR, sR0, hb, gi, si, si0, List.set_cons_zero, List.set_cons_succ, List.set_set, List.append_assoc, List.length_append, List.length_set, List.singleton_append, List.cons_append, List.nil_append, hbs, sis, hA, hA0, hgl, hgl2, gj, gk, sj, sk])
      | (refine bsV_dense ⟨_, XF.zer_3, rfl⟩ rfl rfl (by decide) rfl ?_; simp only [go_sem, cond, Nat.reduceAdd, Nat.reduceLeDiff, Nat.reduceEqDiff, Nat.reduceBEq, decide_true, decide_false, Int.toNat_natCast, r, sA, gQ, gR, gR0, sR, sR0, hb, gi, si, si0, List.set_cons_zero, List.set_cons_succ, List.set_set, List.append_assoc, List.length_append, List.length_set, List.singleton_append, List.cons_append, List.nil_append, hbs, sis, hA, hA0, hgl, hgl2, gj, gk, sj, sk])
      | (refine Req_intro ⟨_, rfl, rfl⟩ ?_; simp only [go_sem, cond, Nat.reduceAdd, Nat.reduceLeDiff, Nat.reduceEqDiff, Nat.reduceBEq, decide_true, decide_false, Int.toNat_natCast, r, sA, gQ, gR, gR0, sR, sR0, hb, gi, si, si0, List.set_cons_zero, List.set_cons_succ, List.set_set, List.append_assoc, List.length_append, List.length_set, List.singleton_append, List.cons_append, List.nil_append, hbs, sis, hA, hA0, hgl, hgl2, gj, gk, sj, sk]))
    all_goals first
      | exact ⟨_, ⟨_, _, ms, ks, _⟩, ⟨some _, _, some _, _⟩, _, rfl, by omega, by omega, rfl, ⟨.inr ⟨j1 + 1, by rw [List.getElem?_cons_succ, gj]; exact hj1, rfl, rfl⟩, .inr ⟨k1 + 1, by rw [List.getElem?_cons_succ, gk]; exact hk1, rfl, rfl⟩⟩, ⟨by first | exact hsm.nm | (dsimp only; omega), by first | exact hsm.sj | (dsimp only; omega), hsm.ms, hsm.ks⟩, by dsimp only; omega, by dsimp only; omega, fun h => by cases h⟩
      | exact ⟨_, ⟨_, _, ms, [], _⟩, ⟨some _, _, none, 0⟩, _, rfl, by omega, by omega, rfl, ⟨.inr ⟨j1 + 1, by rw [List.getElem?_cons_succ, gj]; exact hj1, rfl, rfl⟩, .inl ⟨rfl, rfl, rfl⟩⟩, ⟨hsm.nm, hsm.sj, hsm.ms, by simp⟩, by dsimp only; omega, by simp, fun h => .inr (.inl (hxa.resolve_left (by simp [adR])))⟩
      | (refine appS_full (m := 1) (sl := ms.length) _ _ _ _ _ _ _ (l.length + (j1 + 1)) _ _ _ (by rw [gR, List.getElem?_cons_succ, gj]; exact hj1) rfl (flat_len mlen _) XF.lay_60 (by decide) (by rfl) (by omega) (by omega) ?_
         simp only [go_sem, cond, Nat.reduceAdd, Nat.reduceLeDiff, Nat.reduceEqDiff, Nat.reduceBEq, decide_true, decide_false, Int.toNat_natCast, r, sA, gQ, gR, gR0, sR, sR0, hb, gi, si, si0, List.set_cons_zero, List.set_cons_succ, List.set_set, List.append_assoc, List.length_append, List.length_set, List.singleton_append, List.cons_append, List.nil_append, hbs, sis, hA, hA0, hgl, hgl2, gj, gk, sj, sk])
      | (refine appS_full (m := 1) (sl := ks.length) _ _ _ _ _ _ _ (l.length + (k1 + 1)) _ _ _ (by rw [gR, List.getElem?_cons_succ, gk]; exact hk1) rfl (flat_len klen _) XF.lay_58 (by decide) (by rfl) (by omega) (by omega) ?_
         simp only [go_sem, cond, Nat.reduceAdd, Nat.reduceLeDiff, Nat.reduceEqDiff, Nat.reduceBEq, decide_true, decide_false, Int.toNat_natCast, r, sA, gQ, gR, gR0, sR, sR0, hb, gi, si, si0, List.set_cons_zero, List.set_cons_succ, List.set_set, List.append_assoc, List.length_append, List.length_set, List.singleton_append, List.cons_append, List.nil_append, hbs, sis, hA, hA0, hgl, hgl2, gj, gk, sj, sk])
    · have e1 : flat Mem.enc ms ++ [.string us, .string ni, .int .i64 (c : Int)] = flat Mem.enc (ms ++ [⟨us, ni, (c : Int)⟩]) := by rw [flat_app]; rfl
      have e2 : ms.length + 1 = (ms ++ [(⟨us, ni, (c : Int)⟩ : Mem)]).length := by simp
      have e3 : ∀ m ∈ ms ++ [(⟨us, ni, (c : Int)⟩ : Mem)], m.user.size ≤ 100000 ∧ m.nick.size ≤ 100000 := fun m hm => by
        rcases List.mem_append.1 hm with hm | hm
        · exact hsm.ms m hm
        · simp only [List.mem_singleton] at hm; subst hm; exact ⟨by dsimp only; omega, by dsimp only; omega⟩
      have e4 : (ms ++ [(⟨us, ni, (c : Int)⟩ : Mem)]).length ≤ 200 := by rw [← e2]; omega
      rw [e1, e2]
      clear e1 e2
      generalize ms ++ [(⟨us, ni, (c : Int)⟩ : Mem)] = ms' at *
      exact ⟨_, ⟨_, _, ms', ks, _⟩, ⟨some _, _, some _, _⟩, _, rfl, by omega, by omega, rfl, ⟨.inr ⟨j1 + 1, by rw [List.getElem?_cons_succ, List.getElem?_append_left (by rw [List.length_set]; exact hlt), List.getElem?_set_self hlt], rfl, rfl⟩, .inr ⟨k1 + 1, by rw [List.getElem?_cons_succ, List.getElem?_append_left (by rw [List.length_set]; exact hlt2), List.getElem?_set_ne hne]; exact hk1, rfl, rfl⟩⟩, ⟨hsm.nm, hsm.sj, e3, hsm.ks⟩, e4, by dsimp only; omega, fun h => by cases h⟩
    · have e1 : flat Rk.enc ks ++ [.string s1, .int .i64 (c : Int)] = flat Rk.enc (ks ++ [⟨s1, (c : Int)⟩]) := by rw [flat_app]; rfl
      have e2 : ks.length + 1 = (ks ++ [(⟨s1, (c : Int)⟩ : Rk)]).length := by simp
      have e3 : ∀ m ∈ ks ++ [(⟨s1, (c : Int)⟩ : Rk)], m.user.size ≤ 100000 := fun m hm => by
        rcases List.mem_append.1 hm with hm | hm
        · exact hsm.ks m hm
        · simp only [List.mem_singleton] at hm; subst hm; dsimp only; omega
      have e4 : (ks ++ [(⟨s1, (c : Int)⟩ : Rk)]).length ≤ 200 := by rw [← e2]; omega
      rw [e1, e2]
      clear e1 e2
      generalize ks ++ [(⟨s1, (c : Int)⟩ : Rk)] = ks' at *
      exact ⟨_, ⟨_, _, ms, ks', _⟩, ⟨some _, _, some _, _⟩, _, rfl, by omega, by omega, rfl, ⟨.inr ⟨j1 + 1, by rw [List.getElem?_cons_succ, List.getElem?_append_left (by rw [List.length_set]; exact hlt), List.getElem?_set_ne hne.symm]; exact hj1, rfl, rfl⟩, .inr ⟨k1 + 1, by rw [List.getElem?_cons_succ, List.getElem?_append_left (by rw [List.length_set]; exact hlt2), List.getElem?_set_self hlt2], rfl, rfl⟩⟩, ⟨hsm.nm, hsm.sj, hsm.ms, e3⟩, by dsimp only; omega, e4, fun h => by cases h⟩
end Go.Proofs.YtmacpgoclhgafaaDoorW.FA
namespace Go.Proofs.YtmacpgoclhgafaaDoorW.FA
open Go.RowKit Go.Proofs.YtmacpgoclhgafaaDoorW.XM Go.Proofs Go.Proofs.YtmacpgoclhgafaaDoorW.XWords
set_option maxRecDepth 100000
set_option linter.unusedSimpArgs false
set_option linter.unusedVariables false
variable (w0 : World) (H : Hp)
/-- The texts of an entry are short. -/
structure TxE (e : En) : Prop where
  rm : e.room.size ≤ 100000
  us : e.user.size ≤ 100000
  ni : e.nick.size ≤ 100000
  tx : e.text.size ≤ 100000
  id : e.id.size ≤ 100000
  rf : e.ref.size ≤ 100000
theorem TxE.big {e : En} (h : TxE e) : BigE e := ⟨by have := h.rm; omega, by have := h.us; omega, by have := h.ni; omega, by have := h.tx; omega, by have := h.id; omega, by have := h.rf; omega⟩
theorem TxE.mk2 {se k n : Int} {ro us ni te i re : ByteArray} (h1 : ro.size ≤ 100000) (h2 : us.size ≤ 100000) (h3 : ni.size ≤ 100000) (h4 : te.size ≤ 100000) (h5 : i.size ≤ 100000) (h6 : re.size ≤ 100000) : TxE ⟨ro, se, k, us, ni, te, i, re, n⟩ := ⟨h1, h2, h3, h4, h5, h6⟩
/-- How far a drawn entry is, in whatever order it was laid down. -/
def CutN (w0 : World) (D : Cd) (B : Hp) (l : List (Option Ob)) (q p c : Nat) (R : Rm) (x : Ad) (T : Ts) (H' : Hp) : Prop := ∃ (p1 : Nat) (e : En) (g : List (Option Ob)), p ≤ p1 ∧ p1 ≤ p + c ∧ TxE e ∧ T 0 = .pointer (some ⟨nid B q, 0, some 2⟩) ∧ T 3 = .pointer (some ⟨nid B l.length, 0, some 5⟩) ∧ T 4 = .pointer (some ⟨nid B (l.length + 1), 0, some 9⟩) ∧ T 5 = .pointer (some ⟨nid B (l.length + 2), 0, some 9⟩) ∧ H' = Hx B (l.set q (dr D p1) ++ some (.row 33 (R.enc x)) :: some (.row 37 [.string em, .int .i64 0, .int .i64 0, .string em, .string em, .string em, .string em, .string em, .int .i64 0]) :: some (.row 37 e.enc) :: g)
def CutM (w0 : World) (D : Cd) (B : Hp) (l : List (Option Ob)) (q p c : Nat) (R : Rm) (x : Ad) (T : Ts) (H' : Hp) : Prop := ∃ (p1 : Nat) (e : En) (m : Mem) (g : List (Option Ob)), p ≤ p1 ∧ p1 ≤ p + c ∧ TxE e ∧ m.user.size ≤ 100000 ∧ m.nick.size ≤ 100000 ∧ T 0 = .pointer (some ⟨nid B q, 0, some 2⟩) ∧ T 3 = .pointer (some ⟨nid B l.length, 0, some 5⟩) ∧ T 4 = .pointer (some ⟨nid B (l.length + 1), 0, some 9⟩) ∧ T 5 = .pointer (some ⟨nid B (l.length + 2), 0, some 9⟩) ∧ T 6 = .pointer (some ⟨nid B (l.length + (g.length + 3)), 0, some 3⟩) ∧ H' = Hx B (l.set q (dr D p1) ++ some (.row 33 (R.enc x)) :: some (.row 37 [.string em, .int .i64 0, .int .i64 0, .string em, .string em, .string em, .string em, .string em, .int .i64 0]) :: some (.row 37 e.enc) :: (g ++ [some (.row 60 m.enc)]))
set_option maxHeartbeats 20000000 in
theorem l16Next_ok (D : Cd) (B : Hp) (l : List (Option Ob)) (q p : Nat) (R : Rm) (x : Ad) (hD : CdOk w0 D) (hq : l[q]? = some (dr D p)) (hp : p ≤ 600000) (hr : ∀ X, RmAt w0 (Hx B (l.set q X)) R x) (hs : SmR R) (hl : R.ms.length ≤ 1000) : AFn Tryd.prog w0 61 #[.pointer (some ⟨nid B q, 0, some 2⟩), .agg (R.enc x).toArray] (Hx B l) fun v H2 => ∃ p', H2 = Hx B (l.set q (dr D p')) ∧ p ≤ p' ∧ p' ≤ p + 40 ∧ ∃ e : En, TxE e ∧ v = .agg e.enc.toArray := by
  obtain ⟨xa, xc, xb, xd⟩ := x
  have hlq := lt_of_get hq
  refine AFn.dr (R := fun v p' => p ≤ p' ∧ p' ≤ p + 40 ∧ ∃ e : En, TxE e ∧ v = .agg e.enc.toArray) hD hlq ?_
  have e : Hx B l = Hx B (l.set q (dr D p)) := by conv => lhs; rw [set_same hq, List.append_nil]
  rw [e]
  obtain ⟨sA, gQ, gR, gR0, sR, sR0⟩ := dset hlq
  have gs : ∀ X : Option Ob, (l.set q X)[q]? = some X := fun X => by rw [List.getElem?_set_self hlq]
  have hb : ∀ (g : List (Option Ob)) (Y : Option Ob) (r : List (Option Ob)), (g ++ Y :: r)[g.length]? = some Y := fun g Y r => by rw [List.getElem?_append_right (Nat.le_refl _)]; simp
  have gi : ∀ (g r : List (Option Ob)) (k : Nat), (g ++ r)[g.length + k]? = r[k]? := fun g r k => by rw [List.getElem?_append_right (by omega)]; simp
  have si : ∀ (g r : List (Option Ob)) (k : Nat) (Z : Option Ob), (g ++ r).set (g.length + k) Z = g ++ r.set k Z := fun g r k Z => by rw [List.set_append_right _ _ (by omega)]; simp
  have si0 : ∀ (g r : List (Option Ob)) (Z : Option Ob), (g ++ r).set g.length Z = g ++ r.set 0 Z := fun g r Z => by rw [List.set_append_right _ _ (by omega)]; simp
  have hs1 := hs.nm
  refine AFn_of Tryd.func61 rfl (by kernel_rfl) ?_
  have r := Tryd.results61
  simp only [go_sem, cond, Nat.reduceAdd, Nat.reduceLeDiff, Nat.reduceEqDiff, Nat.reduceBEq, decide_true, decide_false, Int.toNat_natCast, r, sA, gQ, gR, gR0, sR, sR0, hb, gi, si, si0, List.set_cons_zero, List.set_cons_succ, List.set_set, List.append_assoc, List.length_append, List.length_set, List.singleton_append, List.cons_append, List.nil_append, gs, Rm.enc]
  (refine xw_treeC (id := 1) [0, 1, 0, 4, 0, 16, 48, 0, 176, 0, 944, 2047, 0, 8191] (.q 0 (.q 2 (.q 4 (.q 7 (.q 9 (.l 1 (.l 3 (.b 5 (.q 6 (.b 8 (.b 10 (.b 11 (.e 12 (.d 1 (.d 3 (.e 13 .z)))) 12 (.d 1 (.d 3 (.e 11 (.e 13 .z))))) 12 (.e 10 (.d 1 (.d 3 (.e 11 (.e 13 .z)))))) 12 (.e 8 (.e 10 (.d 1 (.d 3 (.e 11 (.e 13 .z)))))))) 12 (.e 5 (.q 6 (.e 8 (.e 10 (.d 1 (.d 3 (.e 11 (.e 13 .z)))))))))))))))) rfl (by kernel_rfl) (CutN w0 D B l q p 3 R ⟨xa, xc, xb, xd⟩) ?_ ?_)
  · simp only [go_sem, cond, Nat.reduceAdd, Nat.reduceLeDiff, Nat.reduceEqDiff, Nat.reduceBEq, decide_true, decide_false, Int.toNat_natCast, r, sA, gQ, gR, gR0, sR, sR0, hb, gi, si, si0, List.set_cons_zero, List.set_cons_succ, List.set_set, List.append_assoc, List.length_append, List.length_set, List.singleton_append, List.cons_append, List.nil_append, gs, Rm.enc]
    repeat' (first
      | (refine Both_intro ?_ ?_ <;> simp only [go_sem, cond, Nat.reduceAdd, Nat.reduceLeDiff, Nat.reduceEqDiff, Nat.reduceBEq, decide_true, decide_false, Int.toNat_natCast, r, sA, gQ, gR, gR0, sR, sR0, hb, gi, si, si0, List.set_cons_zero, List.set_cons_succ, List.set_set, List.append_assoc, List.length_append, List.length_set, List.singleton_append, List.cons_append, List.nil_append, gs, Rm.enc])
      | (refine call (pick_ok w0 D hD B _ q _ _ (gQ _ _) (by omega)) ?_; rintro v H2 ⟨c, rfl, c1, -, rfl⟩; clear c1; simp only [go_sem, cond, Nat.reduceAdd, Nat.reduceLeDiff, Nat.reduceEqDiff, Nat.reduceBEq, decide_true, decide_false, Int.toNat_natCast, r, sA, gQ, gR, gR0, sR, sR0, hb, gi, si, si0, List.set_cons_zero, List.set_cons_succ, List.set_set, List.append_assoc, List.length_append, List.length_set, List.singleton_append, List.cons_append, List.nil_append])
      | (refine call (l16User_ok w0 D B _ q _ hD (gQ _ _) (by omega)) ?_; rintro v H2 ⟨p3, rfl, h3, h4, us, hus, rfl⟩; simp only [go_sem, cond, Nat.reduceAdd, Nat.reduceLeDiff, Nat.reduceEqDiff, Nat.reduceBEq, decide_true, decide_false, Int.toNat_natCast, r, sA, gQ, gR, gR0, sR, sR0, hb, gi, si, si0, List.set_cons_zero, List.set_cons_succ, List.set_set, List.append_assoc, List.length_append, List.length_set, List.singleton_append, List.cons_append, List.nil_append])
      | (refine call (l16Nick_ok w0 D B _ q _ hD (gQ _ _) (by omega)) ?_; rintro v H2 ⟨p4, rfl, h5, h6, ni, hni, rfl⟩; simp only [go_sem, cond, Nat.reduceAdd, Nat.reduceLeDiff, Nat.reduceEqDiff, Nat.reduceBEq, decide_true, decide_false, Int.toNat_natCast, r, sA, gQ, gR, gR0, sR, sR0, hb, gi, si, si0, List.set_cons_zero, List.set_cons_succ, List.set_set, List.append_assoc, List.length_append, List.length_set, List.singleton_append, List.cons_append, List.nil_append]))
    all_goals refine ⟨_, ⟨_, _, _, _, _, _, _, _, _⟩, [], ?_, ?_, ?_, rfl, rfl, rfl, rfl, rfl⟩
    all_goals first
      | omega
      | (apply TxE.mk2 <;> first | omega | (simp only [em_size0]; omega))
  rintro T H' ⟨p1, ⟨e1, e2, e3, e4, e5, e6, e7, e8, e9⟩, g, hp1, hp2, he, t0, t3, t4, t5, rfl⟩
  simp only [go_sem, cond, Nat.reduceAdd, Nat.reduceLeDiff, Nat.reduceEqDiff, Nat.reduceBEq, decide_true, decide_false, Int.toNat_natCast, r, sA, gQ, gR, gR0, sR, sR0, hb, gi, si, si0, List.set_cons_zero, List.set_cons_succ, List.set_set, List.append_assoc, List.length_append, List.length_set, List.singleton_append, List.cons_append, List.nil_append, t0, t3, t4, t5, Rm.enc, En.enc]
  obtain ⟨f1, f2, f3, f4, f5, f6⟩ := he
  dsimp only at f1 f2 f3 f4 f5 f6
  refine Br_intro ?_ ?_ <;> intro h0 <;> simp only [go_sem, cond, Nat.reduceAdd, Nat.reduceLeDiff, Nat.reduceEqDiff, Nat.reduceBEq, decide_true, decide_false, Int.toNat_natCast, r, sA, gQ, gR, gR0, sR, sR0, hb, gi, si, si0, List.set_cons_zero, List.set_cons_succ, List.set_set, List.append_assoc, List.length_append, List.length_set, List.singleton_append, List.cons_append, List.nil_append, t0, t3, t4, t5, Rm.enc, En.enc, h0]
  · have hpos : 0 < R.ms.length := by have := of_decide_eq_true h0; omega
    refine call (pick_ok w0 D hD B _ q _ _ (gQ _ _) (by omega)) ?_
    rintro v H2 ⟨c, rfl, -, -, rfl⟩
    simp only [go_sem, cond, Nat.reduceAdd, Nat.reduceLeDiff, Nat.reduceEqDiff, Nat.reduceBEq, decide_true, decide_false, Int.toNat_natCast, r, sA, gQ, gR, gR0, sR, sR0, hb, gi, si, si0, List.set_cons_zero, List.set_cons_succ, List.set_set, List.append_assoc, List.length_append, List.length_set, List.singleton_append, List.cons_append, List.nil_append, t0, t3, t4, t5, Rm.enc, En.enc]
    refine Br_intro ?_ ?_ <;> intro h7 <;> simp only [go_sem, cond, Nat.reduceAdd, Nat.reduceLeDiff, Nat.reduceEqDiff, Nat.reduceBEq, decide_true, decide_false, Int.toNat_natCast, r, sA, gQ, gR, gR0, sR, sR0, hb, gi, si, si0, List.set_cons_zero, List.set_cons_succ, List.set_set, List.append_assoc, List.length_append, List.length_set, List.singleton_append, List.cons_append, List.nil_append, t0, t3, t4, t5, Rm.enc, En.enc, h7]
    · refine Br_intro ?_ ?_ <;> intro h8 <;> simp only [go_sem, cond, Nat.reduceAdd, Nat.reduceLeDiff, Nat.reduceEqDiff, Nat.reduceBEq, decide_true, decide_false, Int.toNat_natCast, r, sA, gQ, gR, gR0, sR, sR0, hb, gi, si, si0, List.set_cons_zero, List.set_cons_succ, List.set_set, List.append_assoc, List.length_append, List.length_set, List.singleton_append, List.cons_append, List.nil_append, t0, t3, t4, t5, Rm.enc, En.enc, h8]
      · repeat' (first
          | (refine Br_intro ?_ ?_ <;> intro h <;> simp only [go_sem, cond, Nat.reduceAdd, Nat.reduceLeDiff, Nat.reduceEqDiff, Nat.reduceBEq, decide_true, decide_false, Int.toNat_natCast, r, sA, gQ, gR, gR0, sR, sR0, hb, gi, si, si0, List.set_cons_zero, List.set_cons_succ, List.set_set, List.append_assoc, List.length_append, List.length_set, List.singleton_append, List.cons_append, List.nil_append, t0, t3, t4, t5, h])
          | (refine call (pick_ok w0 D hD B _ q _ _ (gQ _ _) (by omega)) ?_; rintro v H2 ⟨c, rfl, c1, -, rfl⟩; clear c1; simp only [go_sem, cond, Nat.reduceAdd, Nat.reduceLeDiff, Nat.reduceEqDiff, Nat.reduceBEq, decide_true, decide_false, Int.toNat_natCast, r, sA, gQ, gR, gR0, sR, sR0, hb, gi, si, si0, List.set_cons_zero, List.set_cons_succ, List.set_set, List.append_assoc, List.length_append, List.length_set, List.singleton_append, List.cons_append, List.nil_append, t0, t3, t4, t5])
          | (refine call (of_ok w0 D hD B _ q _ _ _ _ _ (gQ _ _) (by omega) (by first | exact gR _ _ _ | (rw [gR, List.getElem?_cons_succ, List.getElem?_cons_succ, List.getElem?_cons_succ, gi]; rfl) | (rw [gR, List.getElem?_cons_succ, List.getElem?_cons_succ, List.getElem?_cons_succ, hb]) | (rw [gR]; rfl)) rfl rfl (by decide) (by decide) (by decide)) ?_; rintro v H2 ⟨s1, hs1, rfl, rfl⟩; simp only [go_sem, cond, Nat.reduceAdd, Nat.reduceLeDiff, Nat.reduceEqDiff, Nat.reduceBEq, decide_true, decide_false, Int.toNat_natCast, r, sA, gQ, gR, gR0, sR, sR0, hb, gi, si, si0, List.set_cons_zero, List.set_cons_succ, List.set_set, List.append_assoc, List.length_append, List.length_set, List.singleton_append, List.cons_append, List.nil_append, t0, t3, t4, t5])
          | (refine call (one_ok w0 D hD B _ q _ _ _ _ _ (gQ _ _) (by omega) (by first | exact gR _ _ _ | (rw [gR, List.getElem?_cons_succ, List.getElem?_cons_succ, List.getElem?_cons_succ, gi]; rfl) | (rw [gR, List.getElem?_cons_succ, List.getElem?_cons_succ, List.getElem?_cons_succ, hb]) | (rw [gR]; rfl)) rfl rfl (by decide) (by decide) (by decide)) ?_; rintro v H2 ⟨s1, hs1, hs2, -, rfl, rfl⟩; simp only [go_sem, cond, Nat.reduceAdd, Nat.reduceLeDiff, Nat.reduceEqDiff, Nat.reduceBEq, decide_true, decide_false, Int.toNat_natCast, r, sA, gQ, gR, gR0, sR, sR0, hb, gi, si, si0, List.set_cons_zero, List.set_cons_succ, List.set_set, List.append_assoc, List.length_append, List.length_set, List.singleton_append, List.cons_append, List.nil_append, t0, t3, t4, t5])
          | (refine bsV_dense ⟨_, XF.zer_9, rfl⟩ rfl rfl (by decide) rfl ?_; simp only [go_sem, cond, Nat.reduceAdd, Nat.reduceLeDiff, Nat.reduceEqDiff, Nat.reduceBEq, decide_true, decide_false, Int.toNat_natCast, r, sA, gQ, gR, gR0, sR, sR0, hb, gi, si, si0, List.set_cons_zero, List.set_cons_succ, List.set_set, List.append_assoc, List.length_append, List.length_set, List.singleton_append, List.cons_append, List.nil_append, t0, t3, t4, t5])
          | (refine bsV_dense ⟨_, XF.zer_3, rfl⟩ rfl rfl (by decide) rfl ?_; simp only [go_sem, cond, Nat.reduceAdd, Nat.reduceLeDiff, Nat.reduceEqDiff, Nat.reduceBEq, decide_true, decide_false, Int.toNat_natCast, r, sA, gQ, gR, gR0, sR, sR0, hb, gi, si, si0, List.set_cons_zero, List.set_cons_succ, List.set_set, List.append_assoc, List.length_append, List.length_set, List.singleton_append, List.cons_append, List.nil_append, t0, t3, t4, t5])
          | (refine xw_open (id := 21) [0, 1, 0, 4, 15, 31, 63, 127] [.q 0, .q 2, .l 1, .e 3, .d 1, .q 4, .q 5, .q 6, .e 7] rfl (by kernel_rfl) ?_; simp only [go_sem, cond, Nat.reduceAdd, Nat.reduceLeDiff, Nat.reduceEqDiff, Nat.reduceBEq, decide_true, decide_false, Int.toNat_natCast, r, sA, gQ, gR, gR0, sR, sR0, hb, gi, si, si0, List.set_cons_zero, List.set_cons_succ, List.set_set, List.append_assoc, List.length_append, List.length_set, List.singleton_append, List.cons_append, List.nil_append, t0, t3, t4, t5]))
        all_goals refine ⟨_, _, rfl, ⟨by omega, by omega, ⟨_, _, _, _, _, _, _, _, _⟩, ?_, rfl⟩, fun ρ => rfl⟩
        all_goals apply TxE.mk2 <;> first | omega | decide
      · (refine xw_treeC (id := 3) [0, 1, 0, 0, 8, 24, 60, 127, 255, 0, 1023] (.q 0 (.q 2 (.q 3 (.l 1 (.l 4 (.q 5 (.b 6 (.q 7 (.l 8 (.e 9 (.d 8 (.d 1 (.d 4 (.e 10 .z))))))) 9 (.d 4 (.e 6 (.d 1 (.q 7 (.q 8 (.e 10 .z))))))))))))) rfl (by kernel_rfl) (CutM w0 D B l q p 5 R ⟨xa, xc, xb, xd⟩) ?_ ?_)
        · simp only [go_sem, cond, Nat.reduceAdd, Nat.reduceLeDiff, Nat.reduceEqDiff, Nat.reduceBEq, decide_true, decide_false, Int.toNat_natCast, r, sA, gQ, gR, gR0, sR, sR0, hb, gi, si, si0, List.set_cons_zero, List.set_cons_succ, List.set_set, List.append_assoc, List.length_append, List.length_set, List.singleton_append, List.cons_append, List.nil_append, t0, t3, t4, t5]
          repeat' (first
            | (refine Both_intro ?_ ?_ <;> simp only [go_sem, cond, Nat.reduceAdd, Nat.reduceLeDiff, Nat.reduceEqDiff, Nat.reduceBEq, decide_true, decide_false, Int.toNat_natCast, r, sA, gQ, gR, gR0, sR, sR0, hb, gi, si, si0, List.set_cons_zero, List.set_cons_succ, List.set_set, List.append_assoc, List.length_append, List.length_set, List.singleton_append, List.cons_append, List.nil_append, t0, t3, t4, t5])
            | (refine call (pick_ok w0 D hD B _ q _ _ (gQ _ _) (by omega)) ?_
               rintro v H2 ⟨c2, rfl, c1, -, rfl⟩
               have hc : c2 < R.ms.length := by have := c1 (by omega); omega
               clear c1
               obtain ⟨b, o, sp, rfl, -, hw⟩ := mcell (hr (dr D (p1 + 1 + 1))).sm hc
               have c0 : ∀ L, rd w0 (Hx B (l.set q (dr D (p1 + 1 + 1)) ++ L)) ⟨b, o + c2 * 3, sp⟩ 3 = some [.string R.ms[c2].user, .string R.ms[c2].nick, .int .i64 R.ms[c2].role] := fun L => by rw [← Hx_Hx]; exact hw L rfl
               have d1 : ((0 : Int) ≤ (c2 : Int)) = True := eq_true (by omega)
               have d2 : ((c2 : Int) < (R.ms.length : Int)) = True := eq_true (by omega)
               have hmm := hs.ms _ (List.getElem_mem hc)
               simp only [go_sem, cond, Nat.reduceAdd, Nat.reduceLeDiff, Nat.reduceEqDiff, Nat.reduceBEq, decide_true, decide_false, Int.toNat_natCast, r, sA, gQ, gR, gR0, sR, sR0, hb, gi, si, si0, List.set_cons_zero, List.set_cons_succ, List.set_set, List.append_assoc, List.length_append, List.length_set, List.singleton_append, List.cons_append, List.nil_append, t0, t3, t4, t5, c0, d1, d2]))
          all_goals refine ⟨_, ⟨_, _, _, _, _, _, _, _, _⟩, ⟨_, _, _⟩, g, ?_, ?_, ⟨f1, f2, f3, f4, f5, f6⟩, hmm.1, hmm.2, t0, t3, t4, t5, rfl, rfl⟩
          all_goals omega
        clear f1 f2 f3 f4 f5 f6 t0 t3 t4 t5 hp1 hp2 h0 h7 h8
        clear e1 e2 e3 e4 e5 e6 e7 e8 e9
        rintro T H' ⟨p1, ⟨e1, e2, e3, e4, e5, e6, e7, e8, e9⟩, ⟨mu, mn, mr⟩, g, hp1, hp2, ⟨f1, f2, f3, f4, f5, f6⟩, m1, m2, t0, t3, t4, t5, t6, rfl⟩
        dsimp only at f1 f2 f3 f4 f5 f6 m1 m2
        simp only [go_sem, cond, Nat.reduceAdd, Nat.reduceLeDiff, Nat.reduceEqDiff, Nat.reduceBEq, decide_true, decide_false, Int.toNat_natCast, r, sA, gQ, gR, gR0, sR, sR0, hb, gi, si, si0, List.set_cons_zero, List.set_cons_succ, List.set_set, List.append_assoc, List.length_append, List.length_set, List.singleton_append, List.cons_append, List.nil_append, t0, t3, t4, t5, t6, En.enc, Mem.enc]
        repeat' (first
          | (refine Br_intro ?_ ?_ <;> intro h <;> simp only [go_sem, cond, Nat.reduceAdd, Nat.reduceLeDiff, Nat.reduceEqDiff, Nat.reduceBEq, decide_true, decide_false, Int.toNat_natCast, r, sA, gQ, gR, gR0, sR, sR0, hb, gi, si, si0, List.set_cons_zero, List.set_cons_succ, List.set_set, List.append_assoc, List.length_append, List.length_set, List.singleton_append, List.cons_append, List.nil_append, t0, t3, t4, t5, h])
          | (refine call (pick_ok w0 D hD B _ q _ _ (gQ _ _) (by omega)) ?_; rintro v H2 ⟨c, rfl, c1, -, rfl⟩; clear c1; simp only [go_sem, cond, Nat.reduceAdd, Nat.reduceLeDiff, Nat.reduceEqDiff, Nat.reduceBEq, decide_true, decide_false, Int.toNat_natCast, r, sA, gQ, gR, gR0, sR, sR0, hb, gi, si, si0, List.set_cons_zero, List.set_cons_succ, List.set_set, List.append_assoc, List.length_append, List.length_set, List.singleton_append, List.cons_append, List.nil_append, t0, t3, t4, t5])
          | (refine call (of_ok w0 D hD B _ q _ _ _ _ _ (gQ _ _) (by omega) (by first | exact gR _ _ _ | (rw [gR, List.getElem?_cons_succ, List.getElem?_cons_succ, List.getElem?_cons_succ, gi]; rfl) | (rw [gR, List.getElem?_cons_succ, List.getElem?_cons_succ, List.getElem?_cons_succ, hb]) | (rw [gR]; rfl)) rfl rfl (by decide) (by decide) (by decide)) ?_; rintro v H2 ⟨s1, hs1, rfl, rfl⟩; simp only [go_sem, cond, Nat.reduceAdd, Nat.reduceLeDiff, Nat.reduceEqDiff, Nat.reduceBEq, decide_true, decide_false, Int.toNat_natCast, r, sA, gQ, gR, gR0, sR, sR0, hb, gi, si, si0, List.set_cons_zero, List.set_cons_succ, List.set_set, List.append_assoc, List.length_append, List.length_set, List.singleton_append, List.cons_append, List.nil_append, t0, t3, t4, t5])
          | (refine call (one_ok w0 D hD B _ q _ _ _ _ _ (gQ _ _) (by omega) (by first | exact gR _ _ _ | (rw [gR, List.getElem?_cons_succ, List.getElem?_cons_succ, List.getElem?_cons_succ, gi]; rfl) | (rw [gR, List.getElem?_cons_succ, List.getElem?_cons_succ, List.getElem?_cons_succ, hb]) | (rw [gR]; rfl)) rfl rfl (by decide) (by decide) (by decide)) ?_; rintro v H2 ⟨s1, hs1, hs2, -, rfl, rfl⟩; simp only [go_sem, cond, Nat.reduceAdd, Nat.reduceLeDiff, Nat.reduceEqDiff, Nat.reduceBEq, decide_true, decide_false, Int.toNat_natCast, r, sA, gQ, gR, gR0, sR, sR0, hb, gi, si, si0, List.set_cons_zero, List.set_cons_succ, List.set_set, List.append_assoc, List.length_append, List.length_set, List.singleton_append, List.cons_append, List.nil_append, t0, t3, t4, t5])
          | (refine bsV_dense ⟨_, XF.zer_9, rfl⟩ rfl rfl (by decide) rfl ?_; simp only [go_sem, cond, Nat.reduceAdd, Nat.reduceLeDiff, Nat.reduceEqDiff, Nat.reduceBEq, decide_true, decide_false, Int.toNat_natCast, r, sA, gQ, gR, gR0, sR, sR0, hb, gi, si, si0, List.set_cons_zero, List.set_cons_succ, List.set_set, List.append_assoc, List.length_append, List.length_set, List.singleton_append, List.cons_append, List.nil_append, t0, t3, t4, t5])
          | (refine bsV_dense ⟨_, XF.zer_3, rfl⟩ rfl rfl (by decide) rfl ?_; simp only [go_sem, cond, Nat.reduceAdd, Nat.reduceLeDiff, Nat.reduceEqDiff, Nat.reduceBEq, decide_true, decide_false, Int.toNat_natCast, r, sA, gQ, gR, gR0, sR, sR0, hb, gi, si, si0, List.set_cons_zero, List.set_cons_succ, List.set_set, List.append_assoc, List.length_append, List.length_set, List.singleton_append, List.cons_append, List.nil_append, t0, t3, t4, t5])
          | (refine xw_open (id := 21) [0, 1, 0, 4, 15, 31, 63, 127] [.q 0, .q 2, .l 1, .e 3, .d 1, .q 4, .q 5, .q 6, .e 7] rfl (by kernel_rfl) ?_; simp only [go_sem, cond, Nat.reduceAdd, Nat.reduceLeDiff, Nat.reduceEqDiff, Nat.reduceBEq, decide_true, decide_false, Int.toNat_natCast, r, sA, gQ, gR, gR0, sR, sR0, hb, gi, si, si0, List.set_cons_zero, List.set_cons_succ, List.set_set, List.append_assoc, List.length_append, List.length_set, List.singleton_append, List.cons_append, List.nil_append, t0, t3, t4, t5]))
        all_goals refine ⟨_, _, rfl, ⟨by omega, by omega, ⟨_, _, _, _, _, _, _, _, _⟩, ?_, rfl⟩, fun ρ => rfl⟩
        all_goals apply TxE.mk2 <;> first | omega | decide
    · repeat' (first
        | (refine Br_intro ?_ ?_ <;> intro h <;> simp only [go_sem, cond, Nat.reduceAdd, Nat.reduceLeDiff, Nat.reduceEqDiff, Nat.reduceBEq, decide_true, decide_false, Int.toNat_natCast, r, sA, gQ, gR, gR0, sR, sR0, hb, gi, si, si0, List.set_cons_zero, List.set_cons_succ, List.set_set, List.append_assoc, List.length_append, List.length_set, List.singleton_append, List.cons_append, List.nil_append, t0, t3, t4, t5, h])
        | (refine call (pick_ok w0 D hD B _ q _ _ (gQ _ _) (by omega)) ?_; rintro v H2 ⟨c, rfl, c1, -, rfl⟩; clear c1; simp only [go_sem, cond, Nat.reduceAdd, Nat.reduceLeDiff, Nat.reduceEqDiff, Nat.reduceBEq, decide_true, decide_false, Int.toNat_natCast, r, sA, gQ, gR, gR0, sR, sR0, hb, gi, si, si0, List.set_cons_zero, List.set_cons_succ, List.set_set, List.append_assoc, List.length_append, List.length_set, List.singleton_append, List.cons_append, List.nil_append, t0, t3, t4, t5])
        | (refine call (of_ok w0 D hD B _ q _ _ _ _ _ (gQ _ _) (by omega) (by first | exact gR _ _ _ | (rw [gR, List.getElem?_cons_succ, List.getElem?_cons_succ, List.getElem?_cons_succ, gi]; rfl) | (rw [gR, List.getElem?_cons_succ, List.getElem?_cons_succ, List.getElem?_cons_succ, hb]) | (rw [gR]; rfl)) rfl rfl (by decide) (by decide) (by decide)) ?_; rintro v H2 ⟨s1, hs1, rfl, rfl⟩; simp only [go_sem, cond, Nat.reduceAdd, Nat.reduceLeDiff, Nat.reduceEqDiff, Nat.reduceBEq, decide_true, decide_false, Int.toNat_natCast, r, sA, gQ, gR, gR0, sR, sR0, hb, gi, si, si0, List.set_cons_zero, List.set_cons_succ, List.set_set, List.append_assoc, List.length_append, List.length_set, List.singleton_append, List.cons_append, List.nil_append, t0, t3, t4, t5])
        | (refine call (one_ok w0 D hD B _ q _ _ _ _ _ (gQ _ _) (by omega) (by first | exact gR _ _ _ | (rw [gR, List.getElem?_cons_succ, List.getElem?_cons_succ, List.getElem?_cons_succ, gi]; rfl) | (rw [gR, List.getElem?_cons_succ, List.getElem?_cons_succ, List.getElem?_cons_succ, hb]) | (rw [gR]; rfl)) rfl rfl (by decide) (by decide) (by decide)) ?_; rintro v H2 ⟨s1, hs1, hs2, -, rfl, rfl⟩; simp only [go_sem, cond, Nat.reduceAdd, Nat.reduceLeDiff, Nat.reduceEqDiff, Nat.reduceBEq, decide_true, decide_false, Int.toNat_natCast, r, sA, gQ, gR, gR0, sR, sR0, hb, gi, si, si0, List.set_cons_zero, List.set_cons_succ, List.set_set, List.append_assoc, List.length_append, List.length_set, List.singleton_append, List.cons_append, List.nil_append, t0, t3, t4, t5])
        | (refine bsV_dense ⟨_, XF.zer_9, rfl⟩ rfl rfl (by decide) rfl ?_; simp only [go_sem, cond, Nat.reduceAdd, Nat.reduceLeDiff, Nat.reduceEqDiff, Nat.reduceBEq, decide_true, decide_false, Int.toNat_natCast, r, sA, gQ, gR, gR0, sR, sR0, hb, gi, si, si0, List.set_cons_zero, List.set_cons_succ, List.set_set, List.append_assoc, List.length_append, List.length_set, List.singleton_append, List.cons_append, List.nil_append, t0, t3, t4, t5])
        | (refine bsV_dense ⟨_, XF.zer_3, rfl⟩ rfl rfl (by decide) rfl ?_; simp only [go_sem, cond, Nat.reduceAdd, Nat.reduceLeDiff, Nat.reduceEqDiff, Nat.reduceBEq, decide_true, decide_false, Int.toNat_natCast, r, sA, gQ, gR, gR0, sR, sR0, hb, gi, si, si0, List.set_cons_zero, List.set_cons_succ, List.set_set, List.append_assoc, List.length_append, List.length_set, List.singleton_append, List.cons_append, List.nil_append, t0, t3, t4, t5])
        | (refine xw_open (id := 21) [0, 1, 0, 4, 15, 31, 63, 127] [.q 0, .q 2, .l 1, .e 3, .d 1, .q 4, .q 5, .q 6, .e 7] rfl (by kernel_rfl) ?_; simp only [go_sem, cond, Nat.reduceAdd, Nat.reduceLeDiff, Nat.reduceEqDiff, Nat.reduceBEq, decide_true, decide_false, Int.toNat_natCast, r, sA, gQ, gR, gR0, sR, sR0, hb, gi, si, si0, List.set_cons_zero, List.set_cons_succ, List.set_set, List.append_assoc, List.length_append, List.length_set, List.singleton_append, List.cons_append, List.nil_append, t0, t3, t4, t5]))
      all_goals refine ⟨_, _, rfl, ⟨by omega, by omega, ⟨_, _, _, _, _, _, _, _, _⟩, ?_, rfl⟩, fun ρ => rfl⟩
      all_goals apply TxE.mk2 <;> first | omega | decide
  · repeat' (first
      | (refine Br_intro ?_ ?_ <;> intro h <;> simp only [go_sem, cond, Nat.reduceAdd, Nat.reduceLeDiff, Nat.reduceEqDiff, Nat.reduceBEq, decide_true, decide_false, Int.toNat_natCast, r, sA, gQ, gR, gR0, sR, sR0, hb, gi, si, si0, List.set_cons_zero, List.set_cons_succ, List.set_set, List.append_assoc, List.length_append, List.length_set, List.singleton_append, List.cons_append, List.nil_append, t0, t3, t4, t5, h])
      | (refine call (pick_ok w0 D hD B _ q _ _ (gQ _ _) (by omega)) ?_; rintro v H2 ⟨c, rfl, c1, -, rfl⟩; clear c1; simp only [go_sem, cond, Nat.reduceAdd, Nat.reduceLeDiff, Nat.reduceEqDiff, Nat.reduceBEq, decide_true, decide_false, Int.toNat_natCast, r, sA, gQ, gR, gR0, sR, sR0, hb, gi, si, si0, List.set_cons_zero, List.set_cons_succ, List.set_set, List.append_assoc, List.length_append, List.length_set, List.singleton_append, List.cons_append, List.nil_append, t0, t3, t4, t5])
      | (refine call (of_ok w0 D hD B _ q _ _ _ _ _ (gQ _ _) (by omega) (by first | exact gR _ _ _ | (rw [gR, List.getElem?_cons_succ, List.getElem?_cons_succ, List.getElem?_cons_succ, gi]; rfl) | (rw [gR, List.getElem?_cons_succ, List.getElem?_cons_succ, List.getElem?_cons_succ, hb]) | (rw [gR]; rfl)) rfl rfl (by decide) (by decide) (by decide)) ?_; rintro v H2 ⟨s1, hs1, rfl, rfl⟩; simp only [go_sem, cond, Nat.reduceAdd, Nat.reduceLeDiff, Nat.reduceEqDiff, Nat.reduceBEq, decide_true, decide_false, Int.toNat_natCast, r, sA, gQ, gR, gR0, sR, sR0, hb, gi, si, si0, List.set_cons_zero, List.set_cons_succ, List.set_set, List.append_assoc, List.length_append, List.length_set, List.singleton_append, List.cons_append, List.nil_append, t0, t3, t4, t5])
      | (refine call (one_ok w0 D hD B _ q _ _ _ _ _ (gQ _ _) (by omega) (by first | exact gR _ _ _ | (rw [gR, List.getElem?_cons_succ, List.getElem?_cons_succ, List.getElem?_cons_succ, gi]; rfl) | (rw [gR, List.getElem?_cons_succ, List.getElem?_cons_succ, List.getElem?_cons_succ, hb]) | (rw [gR]; rfl)) rfl rfl (by decide) (by decide) (by decide)) ?_; rintro v H2 ⟨s1, hs1, hs2, -, rfl, rfl⟩; simp only [go_sem, cond, Nat.reduceAdd, Nat.reduceLeDiff, Nat.reduceEqDiff, Nat.reduceBEq, decide_true, decide_false, Int.toNat_natCast, r, sA, gQ, gR, gR0, sR, sR0, hb, gi, si, si0, List.set_cons_zero, List.set_cons_succ, List.set_set, List.append_assoc, List.length_append, List.length_set, List.singleton_append, List.cons_append, List.nil_append, t0, t3, t4, t5])
      | (refine bsV_dense ⟨_, XF.zer_9, rfl⟩ rfl rfl (by decide) rfl ?_; simp only [go_sem, cond, Nat.reduceAdd, Nat.reduceLeDiff, Nat.reduceEqDiff, Nat.reduceBEq, decide_true, decide_false, Int.toNat_natCast, r, sA, gQ, gR, gR0, sR, sR0, hb, gi, si, si0, List.set_cons_zero, List.set_cons_succ, List.set_set, List.append_assoc, List.length_append, List.length_set, List.singleton_append, List.cons_append, List.nil_append, t0, t3, t4, t5])
      | (refine bsV_dense ⟨_, XF.zer_3, rfl⟩ rfl rfl (by decide) rfl ?_; simp only [go_sem, cond, Nat.reduceAdd, Nat.reduceLeDiff, Nat.reduceEqDiff, Nat.reduceBEq, decide_true, decide_false, Int.toNat_natCast, r, sA, gQ, gR, gR0, sR, sR0, hb, gi, si, si0, List.set_cons_zero, List.set_cons_succ, List.set_set, List.append_assoc, List.length_append, List.length_set, List.singleton_append, List.cons_append, List.nil_append, t0, t3, t4, t5])
      | (refine xw_open (id := 21) [0, 1, 0, 4, 15, 31, 63, 127] [.q 0, .q 2, .l 1, .e 3, .d 1, .q 4, .q 5, .q 6, .e 7] rfl (by kernel_rfl) ?_; simp only [go_sem, cond, Nat.reduceAdd, Nat.reduceLeDiff, Nat.reduceEqDiff, Nat.reduceBEq, decide_true, decide_false, Int.toNat_natCast, r, sA, gQ, gR, gR0, sR, sR0, hb, gi, si, si0, List.set_cons_zero, List.set_cons_succ, List.set_set, List.append_assoc, List.length_append, List.length_set, List.singleton_append, List.cons_append, List.nil_append, t0, t3, t4, t5]))
    all_goals refine ⟨_, _, rfl, ⟨by omega, by omega, ⟨_, _, _, _, _, _, _, _, _⟩, ?_, rfl⟩, fun ρ => rfl⟩
    all_goals apply TxE.mk2 <;> first | omega | decide
end Go.Proofs.YtmacpgoclhgafaaDoorW.FA
namespace Go.Proofs.YtmacpgoclhgafaaDoorW.FA
open Go.RowKit Go.Proofs.YtmacpgoclhgafaaDoorW.XM Go.Proofs Go.Proofs.YtmacpgoclhgafaaDoorW.XWords
set_option maxRecDepth 100000
set_option linter.unusedSimpArgs false
set_option linter.unusedVariables false
variable (w0 : World) (H : Hp)
/-- Where a law's code lies. -/
structure CoOk (w0 : World) (A : Option Addr) (c : Nat) (bs : List UInt8) : Prop where
  rd : ∀ H, Sl w0 H A 1 (bs.map encB)
  pl : plain (.slice A bs.length c) = true
  le : bs.length ≤ c
theorem Sl.take {w0 : World} {H : Hp} {A : Option Addr} {n : Nat} {rows : List (List Value)} (h : Sl w0 H A n rows) (k : Nat) : Sl w0 H A n (rows.take k) := by
  rcases h with h | ⟨b, o, sp, h, hr⟩
  · exact .inl (by rw [h, List.take_nil])
  · refine .inr ⟨b, o, sp, h, fun i r hi => hr i r ?_⟩
    rw [List.getElem?_take] at hi
    split at hi
    · exact hi
    · cases hi
theorem l16Open_ok (A : Option Addr) (c : Nat) (bs : List UInt8) (hc : CoOk w0 A c bs) : AFn Tryd.prog w0 59 #[.slice A bs.length c] H fun v H2 => ∃ D, CdOk w0 D ∧ v = .pointer (some ⟨nid H 0, 0, some 2⟩) ∧ H2 = Hx H [dr D 0] := by
  have hle := hc.le
  refine AFn_nil ?_
  refine AFn_of Tryd.func59 rfl (by kernel_rfl) ?_
  have r := Tryd.results59
  simp only [go_sem, cond, Nat.reduceAdd, Nat.reduceLeDiff, Nat.reduceEqDiff, Nat.reduceBEq, decide_true, decide_false, Int.toNat_natCast, r]
  refine Br_intro ?_ ?_ <;> intro h <;> simp only [go_sem, cond, Nat.reduceAdd, Nat.reduceLeDiff, Nat.reduceEqDiff, Nat.reduceBEq, decide_true, decide_false, Int.toNat_natCast, r, h]
  · have h := of_decide_eq_true h
    have hpl := hc.pl
    have hrd := hc.rd
    cases A with
    | none =>
      rcases hrd H with h2 | ⟨b, o, sp, h2, -⟩
      · simp only [List.map_eq_nil_iff] at h2
        subst h2
        simp at h
      · cases h2
    | some a =>
      obtain ⟨b, o, sp⟩ := a
      cases sp with
      | some t => simp [plain] at hpl
      | none =>
        refine ⟨_, _, XF.elm_42, by simp, 0, 2000, c, rfl, rfl, rfl, by omega, by omega, by omega, by omega, trivial, .inr (.inl ⟨by simp, ?_⟩)⟩
        have e1 : (if ((c : Int)).toNat = Int.toNat 0 then o else o + Int.toNat 0 * 1) = o := by split <;> simp
        rw [e1]
        simp only [go_sem, cond, Nat.reduceAdd, Nat.reduceLeDiff, Nat.reduceEqDiff, Nat.reduceBEq, decide_true, decide_false, Int.toNat_natCast, r]
        refine ⟨⟨some ⟨b, o, none⟩, 2000, c⟩, ⟨⟨bs.take 2000, by simp; omega, fun H => ?_⟩, by dsimp only; omega, rfl⟩, rfl⟩
        rw [List.map_take]
        exact Sl.take (hrd H) 2000
  · have h := of_decide_eq_false h
    refine ⟨⟨A, bs.length, c⟩, ⟨⟨bs, rfl, hc.rd⟩, by dsimp only; omega, hc.pl⟩, rfl⟩
set_option maxHeartbeats 4000000 in
theorem DrawRoomApply_ok (A : Option Addr) (c : Nat) (bs : List UInt8) (hc : CoOk w0 A c bs) : AFn Tryd.prog w0 18 #[.slice A bs.length c] H fun v H2 => ∃ R x e g, H2 = Hx H g ∧ v = .tuple #[.agg (R.enc x).toArray, .agg e.enc.toArray] ∧ PlS H 0 g R x ∧ SmR R ∧ R.ms.length ≤ 200 ∧ R.ks.length ≤ 200 ∧ (x.b = none → x.a = none ∨ 1 ≤ R.next ∨ R.ms ≠ []) ∧ TxE e := by
  refine AFn_nil ?_
  refine AFn_of Tryd.func18 rfl (by kernel_rfl) ?_
  have r := Tryd.results18
  simp only [go_sem, cond, Nat.reduceAdd, Nat.reduceLeDiff, Nat.reduceEqDiff, Nat.reduceBEq, decide_true, decide_false, Int.toNat_natCast, r]
  refine call (l16Open_ok w0 _ A c bs hc) ?_
  rintro v H2 ⟨D, hD, rfl, rfl⟩
  simp only [go_sem, cond, Nat.reduceAdd, Nat.reduceLeDiff, Nat.reduceEqDiff, Nat.reduceBEq, decide_true, decide_false, Int.toNat_natCast, r]
  refine call (l16AnyRoom_ok w0 D H _ _ _ hD rfl (by omega)) ?_
  rintro v H2 ⟨p1, R, x, g, rfl, -, hp1, rfl, hpl, hsm, hlm, hlk, hsh⟩
  have hb : ∀ (g : List (Option Ob)) (Y : Option Ob) (r : List (Option Ob)), (g ++ Y :: r)[g.length]? = some Y := fun g Y r => by rw [List.getElem?_append_right (Nat.le_refl _)]; simp
  have gi : ∀ (g r : List (Option Ob)) (k : Nat), (g ++ r)[g.length + k]? = r[k]? := fun g r k => by rw [List.getElem?_append_right (by omega)]; simp
  have si : ∀ (g r : List (Option Ob)) (k : Nat) (Z : Option Ob), (g ++ r).set (g.length + k) Z = g ++ r.set k Z := fun g r k Z => by rw [List.set_append_right _ _ (by omega)]; simp
  have si0 : ∀ (g r : List (Option Ob)) (Z : Option Ob), (g ++ r).set g.length Z = g ++ r.set 0 Z := fun g r Z => by rw [List.set_append_right _ _ (by omega)]; simp
  simp only [go_sem, cond, Nat.reduceAdd, Nat.reduceLeDiff, Nat.reduceEqDiff, Nat.reduceBEq, decide_true, decide_false, Int.toNat_natCast, r, hb, gi, si, si0, List.set_cons_zero, List.set_cons_succ, List.append_assoc, List.length_append, List.length_set, List.singleton_append, List.cons_append, List.nil_append, Rm.enc]
  (refine xw_open (id := 3) [0, 0, 0, 6, 15, 31] [.q 1, .l 0, .q 2, .e 3, .d 0, .e 4, .e 5] rfl (by kernel_rfl) ?_; simp only [go_sem, cond, Nat.reduceAdd, Nat.reduceLeDiff, Nat.reduceEqDiff, Nat.reduceBEq, decide_true, decide_false, Int.toNat_natCast, r, hb, gi, si, si0, List.set_cons_zero, List.set_cons_succ, List.append_assoc, List.length_append, List.length_set, List.singleton_append, List.cons_append, List.nil_append, Rm.enc])
  have hpl3 : PlS H 3 g R x := hpl
  refine call (l16Next_ok w0 D H _ 2 _ R x hD rfl (by omega) (fun X => ((hpl3.more [_]).at (pre := [_, _, X]) rfl (by omega) (by omega)).1) hsm (by omega)) ?_
  rintro v H2 ⟨p2, rfl, -, -, e, he, rfl⟩
  simp only [go_sem, cond, Nat.reduceAdd, Nat.reduceLeDiff, Nat.reduceEqDiff, Nat.reduceBEq, decide_true, decide_false, Int.toNat_natCast, r, hb, gi, si, si0, List.set_cons_zero, List.set_cons_succ, List.append_assoc, List.length_append, List.length_set, List.singleton_append, List.cons_append, List.nil_append, Rm.enc, En.enc]
  exact ⟨R, x, e, _, rfl, rfl, PlS.shift (pre := [_, _, _]) (hpl3.more [_]), hsm, hlm, hlk, hsh, he⟩
end Go.Proofs.YtmacpgoclhgafaaDoorW.FA
namespace Go.Proofs.YtmacpgoclhgafaaDoorW.FA
open Go.RowKit Go.Proofs.YtmacpgoclhgafaaDoorW.XM Go.Proofs Go.Proofs.YtmacpgoclhgafaaDoorW.XWords
set_option maxRecDepth 100000
set_option linter.unusedSimpArgs false
set_option linter.unusedVariables false
variable (w0 : World) (H : Hp)
theorem RoomOkS_ok (R : Rm) (x : Ad) (hr : RmAt w0 H R x) (hb : Big R) : AFn Tryd.prog w0 21 #[.agg (R.enc x).toArray] H fun v H2 => v = .bool (roomB R) ∧ H2 = H := by
  refine AFn.scal rfl Tryd.func21 rfl (by kernel_rfl) ?_
  have r := Tryd.results21
  simp only [go_sem, cond, Nat.reduceAdd, Nat.reduceLeDiff, Nat.reduceEqDiff, Nat.reduceBEq, decide_true, decide_false, Int.toNat_natCast, r]
  simp only [go_sem, cond, Nat.reduceAdd, Nat.reduceLeDiff, Nat.reduceEqDiff, Nat.reduceBEq, decide_true, decide_false, Int.toNat_natCast, Rm.enc, r]
  refine call_eq (l6Ok_ok _ _ R x (hr.old _) hb) ?_
  simp only [go_sem, cond, Nat.reduceAdd, Nat.reduceLeDiff, Nat.reduceEqDiff, Nat.reduceBEq, decide_true, decide_false, Int.toNat_natCast, r]
  exact ⟨_, rfl⟩
theorem EntryOkS_ok (e : En) (hb : BigE e) : AFn Tryd.prog w0 23 #[.agg e.enc.toArray] H fun v H2 => v = .bool (entB e) ∧ H2 = H := by
  refine AFn.scal rfl Tryd.func23 rfl (by kernel_rfl) ?_
  have r := Tryd.results23
  simp only [go_sem, cond, Nat.reduceAdd, Nat.reduceLeDiff, Nat.reduceEqDiff, Nat.reduceBEq, decide_true, decide_false, Int.toNat_natCast, r]
  simp only [go_sem, cond, Nat.reduceAdd, Nat.reduceLeDiff, Nat.reduceEqDiff, Nat.reduceBEq, decide_true, decide_false, Int.toNat_natCast, En.enc, r]
  refine call_eq (l6EntryOk_ok _ _ e hb) ?_
  simp only [go_sem, cond, Nat.reduceAdd, Nat.reduceLeDiff, Nat.reduceEqDiff, Nat.reduceBEq, decide_true, decide_false, Int.toNat_natCast, r]
  exact ⟨_, rfl⟩
set_option maxHeartbeats 4000000 in
theorem hbRoom_ok (R : Rm) (x y : Ad) (hr : RmAt w0 H R x) (hq : RmAt w0 H R y) : AFn Tryd.prog w0 19 #[.agg (R.enc x).toArray, .agg (R.enc y).toArray] H fun v H2 => v = .bool true ∧ H2 = H := by
  have hlm := hr.lm
  have hlk := hr.lk
  obtain ⟨xa, xc, xb, xd⟩ := x
  obtain ⟨ya, yc, yb, yd⟩ := y
  refine AFn.scal rfl Tryd.func19 rfl (by kernel_rfl) ?_
  have r := Tryd.results19
  simp only [go_sem, cond, Nat.reduceAdd, Nat.reduceLeDiff, Nat.reduceEqDiff, Nat.reduceBEq, decide_true, decide_false, Int.toNat_natCast, r]
  simp only [go_sem, cond, Nat.reduceAdd, Nat.reduceLeDiff, Nat.reduceEqDiff, Nat.reduceBEq, decide_true, decide_false, Int.toNat_natCast, Rm.enc, r, beq_self_eq_true]
  refine xw_loop (fun (i : Nat) T H' => i ≤ R.ms.length ∧ T 2 = .pointer (some ⟨nid H 0, 0, some 5⟩) ∧ T 3 = .pointer (some ⟨nid H 1, 0, some 5⟩) ∧ T 5 = .int .i64 i ∧ H' = Hx H [some (.row 33 (R.enc ⟨xa, xc, xb, xd⟩)), some (.row 33 (R.enc ⟨ya, yc, yb, yd⟩))]) (fun i => R.ms.length - i) 0 (by kernel_rfl) ⟨Nat.zero_le _, rfl, rfl, rfl, rfl⟩ ?_
  rintro i T H' ⟨hi, t2, t3, t5, rfl⟩
  by_cases hlt : i < R.ms.length
  · obtain ⟨b, o, sp, rfl, -, hw⟩ := mcell hr.sm hlt
    obtain ⟨b2, o2, sp2, rfl, -, hw2⟩ := mcell hq.sm hlt
    have c0 := fun L => hw L rfl
    have c1 := fun L => hw2 L rfl
    simp only [Mem.enc] at c0 c1
    have d1 : ((i : Int) < (R.ms.length : Int)) = True := eq_true (by omega)
    have d2 : (0 ≤ (i : Int)) = True := eq_true (by omega)
    simp only [go_sem, cond, Nat.reduceAdd, Nat.reduceLeDiff, Nat.reduceEqDiff, Nat.reduceBEq, decide_true, decide_false, Int.toNat_natCast, Rm.enc, t2, t3, t5, d1, d2, c0, c1, r]
    (refine xw_open (id := 6) [0, 1, 0, 7, 15, 0, 32, 0, 224, 480, 1023] [.q 0, .q 2, .q 5, .q 7, .q 1, .q 3, .q 4, .q 6, .q 8, .q 9, .q 10] rfl (by kernel_rfl) ?_; simp only [go_sem, cond, Nat.reduceAdd, Nat.reduceLeDiff, Nat.reduceEqDiff, Nat.reduceBEq, decide_true, decide_false, Int.toNat_natCast, Rm.enc, t2, t3, t5, d1, d2, c0, c1, beq_self_eq_true, r])
    simp only [Bool.and_true]
    simp only [go_sem, cond, Nat.reduceAdd, Nat.reduceLeDiff, Nat.reduceEqDiff, Nat.reduceBEq, decide_true, decide_false, Int.toNat_natCast, Rm.enc, t2, t3, t5, d1, d2, r]
    exact ⟨i + 1, ⟨hlt, t2, t3, int_succ hlt (by omega), rfl⟩, lt_meas hlt⟩
  obtain rfl : i = R.ms.length := by omega
  have d1 : ((R.ms.length : Int) < (R.ms.length : Int)) = False := eq_false (by omega)
  simp only [go_sem, cond, Nat.reduceAdd, Nat.reduceLeDiff, Nat.reduceEqDiff, Nat.reduceBEq, decide_true, decide_false, Int.toNat_natCast, Rm.enc, t2, t3, t5, d1, r]
  refine xw_loop (fun (i : Nat) T H' => i ≤ R.ks.length ∧ T 2 = .pointer (some ⟨nid H 0, 0, some 5⟩) ∧ T 3 = .pointer (some ⟨nid H 1, 0, some 5⟩) ∧ T 6 = .int .i64 i ∧ H' = Hx H [some (.row 33 (R.enc ⟨xa, xc, xb, xd⟩)), some (.row 33 (R.enc ⟨ya, yc, yb, yd⟩))]) (fun i => R.ks.length - i) 0 (by kernel_rfl) ⟨Nat.zero_le _, t2, t3, rfl, rfl⟩ ?_
  clear t2 t3 t5 d1
  clear hi
  rintro i T H' ⟨hi, t2, t3, t5, rfl⟩
  by_cases hlt : i < R.ks.length
  · obtain ⟨b, o, sp, rfl, -, hw⟩ := mcell hr.sk hlt
    obtain ⟨b2, o2, sp2, rfl, -, hw2⟩ := mcell hq.sk hlt
    have c0 := fun L => hw L rfl
    have c1 := fun L => hw2 L rfl
    simp only [Rk.enc] at c0 c1
    have d1 : ((i : Int) < (R.ks.length : Int)) = True := eq_true (by omega)
    have d2 : (0 ≤ (i : Int)) = True := eq_true (by omega)
    simp only [go_sem, cond, Nat.reduceAdd, Nat.reduceLeDiff, Nat.reduceEqDiff, Nat.reduceBEq, decide_true, decide_false, Int.toNat_natCast, Rm.enc, t2, t3, t5, d1, d2, c0, c1, r]
    (refine xw_open (id := 11) [0, 1, 0, 7, 15, 0, 32, 0, 224, 480, 1023] [.q 0, .q 2, .q 5, .q 7, .q 1, .q 3, .q 4, .q 6, .q 8, .q 9, .q 10] rfl (by kernel_rfl) ?_; simp only [go_sem, cond, Nat.reduceAdd, Nat.reduceLeDiff, Nat.reduceEqDiff, Nat.reduceBEq, decide_true, decide_false, Int.toNat_natCast, Rm.enc, t2, t3, t5, d1, d2, c0, c1, beq_self_eq_true, r])
    simp only [Bool.and_true]
    simp only [go_sem, cond, Nat.reduceAdd, Nat.reduceLeDiff, Nat.reduceEqDiff, Nat.reduceBEq, decide_true, decide_false, Int.toNat_natCast, Rm.enc, t2, t3, t5, d1, d2, r]
    exact ⟨i + 1, ⟨hlt, t2, t3, int_succ hlt (by omega), rfl⟩, lt_meas hlt⟩
  obtain rfl : i = R.ks.length := by omega
  have d1 : ((R.ks.length : Int) < (R.ks.length : Int)) = False := eq_false (by omega)
  simp only [go_sem, cond, Nat.reduceAdd, Nat.reduceLeDiff, Nat.reduceEqDiff, Nat.reduceBEq, decide_true, decide_false, Int.toNat_natCast, Rm.enc, t2, t3, t5, d1, r]
  exact ⟨_, rfl⟩
end Go.Proofs.YtmacpgoclhgafaaDoorW.FA
namespace Go.Proofs.YtmacpgoclhgafaaDoorW.FA
open Go.RowKit Go.Proofs.YtmacpgoclhgafaaDoorW.XM Go.Proofs Go.Proofs.YtmacpgoclhgafaaDoorW.XWords
set_option maxRecDepth 100000
set_option linter.unusedSimpArgs false
set_option linter.unusedVariables false
variable (w0 : World) (H : Hp)
theorem cloneM_nil : AFn Tryd.prog w0 113 #[.slice none 0 0] H fun v H2 => v = .slice none 0 0 ∧ H2 = H := by
  refine AFn.scal rfl Tryd.func113 rfl (by kernel_rfl) ?_
  have r := Tryd.results113
  simp only [go_sem, cond, Nat.reduceAdd, Nat.reduceLeDiff, Nat.reduceEqDiff, Nat.reduceBEq, decide_true, decide_false, Int.toNat_natCast, r]
  exact ⟨_, rfl⟩
theorem cloneK_nil : AFn Tryd.prog w0 115 #[.slice none 0 0] H fun v H2 => v = .slice none 0 0 ∧ H2 = H := by
  refine AFn.scal rfl Tryd.func115 rfl (by kernel_rfl) ?_
  have r := Tryd.results115
  simp only [go_sem, cond, Nat.reduceAdd, Nat.reduceLeDiff, Nat.reduceEqDiff, Nat.reduceBEq, decide_true, decide_false, Int.toNat_natCast, r]
  exact ⟨_, rfl⟩
theorem clipM_nil : AFn Tryd.prog w0 112 #[.slice none 0 0] H fun v H2 => v = .slice none 0 0 ∧ H2 = H := by
  refine AFn.scal rfl Tryd.func112 rfl (by kernel_rfl) ?_
  have r := Tryd.results112
  simp only [go_sem, cond, Nat.reduceAdd, Nat.reduceLeDiff, Nat.reduceEqDiff, Nat.reduceBEq, decide_true, decide_false, Int.toNat_natCast, r]
  refine ⟨_, _, XF.elm_30, by simp, 0, 0, 0, rfl, rfl, rfl, by decide, by decide, by decide, by decide, ?_⟩
  simp only [go_sem, cond, Nat.reduceAdd, Nat.reduceLeDiff, Nat.reduceEqDiff, Nat.reduceBEq, decide_true, decide_false, Int.toNat_natCast, r]
  exact ⟨_, rfl⟩
theorem clipK_nil : AFn Tryd.prog w0 114 #[.slice none 0 0] H fun v H2 => v = .slice none 0 0 ∧ H2 = H := by
  refine AFn.scal rfl Tryd.func114 rfl (by kernel_rfl) ?_
  have r := Tryd.results114
  simp only [go_sem, cond, Nat.reduceAdd, Nat.reduceLeDiff, Nat.reduceEqDiff, Nat.reduceBEq, decide_true, decide_false, Int.toNat_natCast, r]
  refine ⟨_, _, XF.elm_31, by simp, 0, 0, 0, rfl, rfl, rfl, by decide, by decide, by decide, by decide, ?_⟩
  simp only [go_sem, cond, Nat.reduceAdd, Nat.reduceLeDiff, Nat.reduceEqDiff, Nat.reduceBEq, decide_true, decide_false, Int.toNat_natCast, r]
  exact ⟨_, rfl⟩
/-- A room of which nothing lies anywhere. -/
theorem copiedNN_ok (na su : ByteArray) (nx : Int) : AFn Tryd.prog w0 52 #[.agg #[.string na, .int .i64 nx, .slice none 0 0, .slice none 0 0, .string su]] H fun v H2 => v = .agg #[.string na, .int .i64 nx, .slice none 0 0, .slice none 0 0, .string su] ∧ H2 = H := by
  refine AFn.scal rfl Tryd.func52 rfl (by kernel_rfl) ?_
  have r := Tryd.results52
  simp only [go_sem, cond, Nat.reduceAdd, Nat.reduceLeDiff, Nat.reduceEqDiff, Nat.reduceBEq, decide_true, decide_false, Int.toNat_natCast, r]
  (refine xw_open (id := 1) [0, 1, 3, 7, 0, 16, 63, 127, 63, 511, 1023, 2047] [.q 0, .q 4, .q 1, .l 5, .e 2, .e 3, .d 5, .q 8, .e 6, .e 7, .e 9, .q 10, .e 11] rfl (by kernel_rfl) ?_; simp only [go_sem, cond, Nat.reduceAdd, Nat.reduceLeDiff, Nat.reduceEqDiff, Nat.reduceBEq, decide_true, decide_false, Int.toNat_natCast, r])
  refine call_eq (cloneM_nil _ _) ?_
  simp only [go_sem, cond, Nat.reduceAdd, Nat.reduceLeDiff, Nat.reduceEqDiff, Nat.reduceBEq, decide_true, decide_false, Int.toNat_natCast, r]
  refine call_eq (clipM_nil _ _) ?_
  simp only [go_sem, cond, Nat.reduceAdd, Nat.reduceLeDiff, Nat.reduceEqDiff, Nat.reduceBEq, decide_true, decide_false, Int.toNat_natCast, r]
  refine call_eq (cloneK_nil _ _) ?_
  simp only [go_sem, cond, Nat.reduceAdd, Nat.reduceLeDiff, Nat.reduceEqDiff, Nat.reduceBEq, decide_true, decide_false, Int.toNat_natCast, r]
  refine call_eq (clipK_nil _ _) ?_
  simp only [go_sem, cond, Nat.reduceAdd, Nat.reduceLeDiff, Nat.reduceEqDiff, Nat.reduceBEq, decide_true, decide_false, Int.toNat_natCast, r]
  exact ⟨_, rfl⟩
/-- A room without members. -/
theorem copiedNS_ok (na su : ByteArray) (nx : Int) (ks : List Rk) (b : Addr) (d : Nat) (hk : ∀ L, src w0 (Hx H L) 2 (.slice (some b) ks.length d) = some (ks.length, flat Rk.enc ks)) (hlk : ks.length ≤ 2000000) : AFn Tryd.prog w0 52 #[.agg #[.string na, .int .i64 nx, .slice none 0 0, .slice (some b) ks.length d, .string su]] H fun v H2 => v = .agg #[.string na, .int .i64 nx, .slice none 0 0, xs (.slice (some ⟨nid H 0, 0, some (ks.length * 2)⟩) ks.length ks.length), .string su] ∧ H2 = Hx H [some (.row 58 (flat Rk.enc ks))] := by
  refine AFn.news Tryd.func52 rfl (by kernel_rfl) ?_
  have r := Tryd.results52
  simp only [go_sem, cond, Nat.reduceAdd, Nat.reduceLeDiff, Nat.reduceEqDiff, Nat.reduceBEq, decide_true, decide_false, Int.toNat_natCast, r]
  (refine xw_open (id := 1) [0, 1, 3, 7, 0, 16, 63, 127, 63, 511, 1023, 2047] [.q 0, .q 4, .q 1, .l 5, .e 2, .e 3, .d 5, .q 8, .e 6, .e 7, .e 9, .q 10, .e 11] rfl (by kernel_rfl) ?_; simp only [go_sem, cond, Nat.reduceAdd, Nat.reduceLeDiff, Nat.reduceEqDiff, Nat.reduceBEq, decide_true, decide_false, Int.toNat_natCast, r])
  refine call_eq (cloneM_nil _ _) ?_
  simp only [go_sem, cond, Nat.reduceAdd, Nat.reduceLeDiff, Nat.reduceEqDiff, Nat.reduceBEq, decide_true, decide_false, Int.toNat_natCast, r]
  refine call_eq (clipM_nil _ _) ?_
  simp only [go_sem, cond, Nat.reduceAdd, Nat.reduceLeDiff, Nat.reduceEqDiff, Nat.reduceBEq, decide_true, decide_false, Int.toNat_natCast, r]
  refine call_eq (cloneK_ok _ _ b ks d (fun L => by rw [Hx_Hx]; exact hk _) hlk) ?_
  simp only [go_sem, cond, Nat.reduceAdd, Nat.reduceLeDiff, Nat.reduceEqDiff, Nat.reduceBEq, decide_true, decide_false, Int.toNat_natCast, r]
  refine call_eq (clipKX_ok _ _ (nid H 2) 0 _ _ _ (flat Rk.enc ks) (by rw [Hx_get]; rfl) (flat_len klen _) (Nat.le_refl _)) ?_
  simp only [go_sem, cond, Nat.reduceAdd, Nat.reduceLeDiff, Nat.reduceEqDiff, Nat.reduceBEq, decide_true, decide_false, Int.toNat_natCast, r]
  refine ⟨_, [2], _, rfl, ?_, by decide, ?_, rfl, rfl⟩
  · intro k hk
    simp only [List.mem_singleton] at hk
    subst hk
    exact flat_plain (fun _ => rfl) ks
  · simp only [ren3, ren2, renL, ren1_xs, rho_nid, idx_hit, Option.map_some]
    simp only [ren1, plain, if_true, Option.map_some]
/-- The same, nothing being told of the capacity. -/
theorem copiedNSp_ok (na su : ByteArray) (nx : Int) (ks : List Rk) (b : Addr) (d : Nat) (hk : ∀ L, src w0 (Hx H L) 2 (.slice (some b) ks.length d) = some (ks.length, flat Rk.enc ks)) (hlk : ks.length ≤ 2000000) : AFn Tryd.prog w0 52 #[.agg #[.string na, .int .i64 nx, .slice none 0 0, .slice (some b) ks.length d, .string su]] H fun v H2 => v = .agg #[.string na, .int .i64 nx, .slice none 0 0, (.slice (some ⟨nid H 0, 0, some (ks.length * 2)⟩) ks.length ks.length), .string su] ∧ H2 = Hx H [some (.row 58 (flat Rk.enc ks))] := by
  refine AFn.news Tryd.func52 rfl (by kernel_rfl) ?_
  have r := Tryd.results52
  simp only [go_sem, cond, Nat.reduceAdd, Nat.reduceLeDiff, Nat.reduceEqDiff, Nat.reduceBEq, decide_true, decide_false, Int.toNat_natCast, r]
  (refine xw_open (id := 1) [0, 1, 3, 7, 0, 16, 63, 127, 63, 511, 1023, 2047] [.q 0, .q 4, .q 1, .l 5, .e 2, .e 3, .d 5, .q 8, .e 6, .e 7, .e 9, .q 10, .e 11] rfl (by kernel_rfl) ?_; simp only [go_sem, cond, Nat.reduceAdd, Nat.reduceLeDiff, Nat.reduceEqDiff, Nat.reduceBEq, decide_true, decide_false, Int.toNat_natCast, r])
  refine call_eq (cloneM_nil _ _) ?_
  simp only [go_sem, cond, Nat.reduceAdd, Nat.reduceLeDiff, Nat.reduceEqDiff, Nat.reduceBEq, decide_true, decide_false, Int.toNat_natCast, r]
  refine call_eq (clipM_nil _ _) ?_
  simp only [go_sem, cond, Nat.reduceAdd, Nat.reduceLeDiff, Nat.reduceEqDiff, Nat.reduceBEq, decide_true, decide_false, Int.toNat_natCast, r]
  refine call_eq (cloneK_ok _ _ b ks d (fun L => by rw [Hx_Hx]; exact hk _) hlk) ?_
  simp only [go_sem, cond, Nat.reduceAdd, Nat.reduceLeDiff, Nat.reduceEqDiff, Nat.reduceBEq, decide_true, decide_false, Int.toNat_natCast, r]
  refine call_eq (clipK_ok _ _ (nid H 2) 0 _ _ _ (flat Rk.enc ks) (by rw [Hx_get]; rfl) (flat_len klen _) (Nat.le_refl _)) ?_
  simp only [go_sem, cond, Nat.reduceAdd, Nat.reduceLeDiff, Nat.reduceEqDiff, Nat.reduceBEq, decide_true, decide_false, Int.toNat_natCast, r]
  refine ⟨_, [2], _, rfl, ?_, by decide, ?_, rfl, rfl⟩
  · intro k hk
    simp only [List.mem_singleton] at hk
    subst hk
    exact flat_plain (fun _ => rfl) ks
  · simp only [ren3, ren2, renL, ren1, rho_nid, idx_hit, Option.map_some, plain, if_true]
theorem insK_nil (B : Hp) (l : List (Option Ob)) (q : Nat) (y : Rk) (hq : l[q]? = some (some (.row 58 y.enc))) : AFn Tryd.prog w0 150 #[.slice none 0 0, .int .i64 0, .slice (some ⟨nid B q, 0, some 2⟩) 1 1] (Hx B l) fun v H2 => v = .slice (some ⟨nid B l.length, 0, some 2⟩) 1 1 ∧ H2 = Hx B (l ++ [some (.row 58 y.enc)]) := by
  refine AFn_of Tryd.func150 rfl (by kernel_rfl) ?_
  have r := Tryd.results150
  simp only [go_sem, cond, Nat.reduceAdd, Nat.reduceLeDiff, Nat.reduceEqDiff, Nat.reduceBEq, decide_true, decide_false, Int.toNat_natCast, r, hq]
  refine ⟨_, _, XF.elm_31, by simp, 0, 0, 0, rfl, rfl, rfl, by decide, by decide, by decide, by decide, ?_⟩
  have c0 : rdO (some (some (.row 58 y.enc))) 0 2 2 = some y.enc := rfl
  have n1 : (((1 : Nat) : Int) == (0 : Int)) = false := rfl
  have n0 : ((0 : Int) == ((0 : Nat) : Int)) = true := rfl
  simp only [go_sem, cond, Nat.reduceAdd, Nat.reduceLeDiff, Nat.reduceEqDiff, Nat.reduceBEq, decide_true, decide_false, Int.toNat_natCast, r, hq, c0, n1, n0]
  refine appS_nil _ _ _ 1 _ _ _ _ (by decide) ?_ (by decide) ?_
  · decide
  simp only [go_sem, cond, Nat.reduceAdd, Nat.reduceLeDiff, Nat.reduceEqDiff, Nat.reduceBEq, decide_true, decide_false, Int.toNat_natCast, r, hq]
theorem rankedN_ok (B : Hp) (l : List (Option Ob)) (p : Nat) (a b vm c : Value) (u : ByteArray) (num : Int)
    (hp : l[p]? = some (some (.row 33 [a, b, vm, .slice none 0 0, c]))) :
    AFn Tryd.prog w0 111 #[.pointer (some ⟨nid B p, 0, some 5⟩), .string u, .int .i64 num] (Hx B l) fun v H2 => v = .tuple #[] ∧ H2 = Hx B (if num = 1 then l else (l ++ [some (Ob.row 58 [.string u, .int .i64 num]), some (Ob.row 58 [.string u, .int .i64 num])]).set p (some (Ob.row 33 [a, b, vm, .slice (some ⟨nid B (l.length + 1), 0, some 2⟩) 1 1, c]))) := by
  refine AFn_of Tryd.func111 rfl (by kernel_rfl) ?_
  have r := Tryd.results111
  have hlp : p < l.length := lt_of_get hp
  simp only [go_sem, cond, Nat.reduceAdd, Nat.reduceLeDiff, Nat.reduceEqDiff, Nat.reduceBEq, decide_true, decide_false, Int.toNat_natCast, r, hp]
  refine call_eq (search_ok w0 _ none 0 [] u trivial (.inl rfl) (by simp)) ?_
  have tk : thereK u [] = false := rfl
  have ak : ((atK u [] : Nat) : Int) = 0 := rfl
  simp only [go_sem, cond, Nat.reduceAdd, Nat.reduceLeDiff, Nat.reduceEqDiff, Nat.reduceBEq, decide_true, decide_false, Int.toNat_natCast, r, hp, tk, ak]
  refine Br_intro ?_ ?_ <;> intro h2 <;> simp only [go_sem, cond, Nat.reduceAdd, Nat.reduceLeDiff, Nat.reduceEqDiff, Nat.reduceBEq, decide_true, decide_false, Int.toNat_natCast, r, hp, h2]
  · rw [if_pos (eq_of_beq h2)]
    exact ⟨rfl, rfl⟩
  · have hnum : ¬ num = 1 := by intro e; subst e; cases h2
    refine Req_intro ⟨_, rfl, rfl⟩ ?_
    have gq : ∀ X : Option Ob, (l ++ [X])[p]? = l[p]? := fun X => List.getElem?_append_left hlp
    have gq2 : ∀ X Y : Option Ob, (l ++ [X, Y])[p]? = l[p]? := fun X Y => List.getElem?_append_left hlp
    simp only [go_sem, cond, Nat.reduceAdd, Nat.reduceLeDiff, Nat.reduceEqDiff, Nat.reduceBEq, decide_true, decide_false, Int.toNat_natCast, r, hp, gq, h2]
    refine call_eq (insK_nil w0 B (l ++ [some (Ob.row 58 [.string u, .int .i64 num])]) l.length ⟨u, num⟩ (by rw [List.getElem?_append_right (Nat.le_refl _)]; simp [Rk.enc])) ?_
    rw [List.append_assoc]
    simp only [go_sem, cond, Nat.reduceAdd, Nat.reduceLeDiff, Nat.reduceEqDiff, Nat.reduceBEq, decide_true, decide_false, Int.toNat_natCast, r, hp, gq, gq2, h2, Rk.enc, List.length_append, List.singleton_append]
    rw [if_neg hnum]
    exact ⟨rfl, rfl⟩
end Go.Proofs.YtmacpgoclhgafaaDoorW.FA
namespace Go.Proofs.YtmacpgoclhgafaaDoorW.FA
open Go.RowKit Go.Proofs.YtmacpgoclhgafaaDoorW.XM Go.Proofs Go.Proofs.YtmacpgoclhgafaaDoorW.XWords
set_option maxRecDepth 100000
set_option linter.unusedSimpArgs false
set_option linter.unusedVariables false
variable (w0 : World) (H : Hp)
/-- A room that is ok and has no owner has nothing. -/
theorem roomB_noks {R : Rm} (h : roomB R = true) (hk : R.ks = []) : R.ms = [] ∧ R.next = 0 := by
  simp only [roomB, Bool.and_eq_true] at h
  have h := h.2.2.2.2.2
  rw [hk] at h
  simp only [FA.ownB, Nat.lt_irrefl, decide_false, Bool.false_or, idleB, Bool.and_eq_true, beq_iff_eq] at h
  refine ⟨?_, h.1⟩
  have := h.2.1
  cases hm : R.ms with
  | nil => rfl
  | cons a t => rw [hm] at this; simp at this; omega
theorem appliedNN_ok (na su : ByteArray) (nx : Int) (e : En) (hT : Tabs w0) (hb : Big ⟨na, nx, [], [], su⟩) (he : BigE e) :
    AFn Tryd.prog w0 51 #[.agg #[.string na, .int .i64 nx, .slice none 0 0, .slice none 0 0, .string su], .agg e.enc.toArray] H fun v H2 => ∃ x' L, H2 = Hx H L ∧ v = .tuple #[.agg ((outR ⟨na, nx, [], [], su⟩ e).enc x').toArray, .bool (canB ⟨na, nx, [], [], su⟩ e)] ∧ PlS H 0 L (outR ⟨na, nx, [], [], su⟩ e) x' ∧ x'.a = none := by
  refine AFn_nil ?_
  refine AFn_of Tryd.func51 rfl (by kernel_rfl) ?_
  have r := Tryd.results51
  obtain ⟨R, hR⟩ : ∃ R : Rm, R = ⟨na, nx, [], [], su⟩ := ⟨_, rfl⟩
  rw [← hR]
  have hno : canB R e = false → ∀ l, ∃ x' L, Hx H l = Hx H L ∧ Value.tuple #[.agg #[.string na, .int .i64 nx, .slice none 0 0, .slice none 0 0, .string su], .bool false] = .tuple #[.agg ((outR R e).enc x').toArray, .bool (canB R e)] ∧ PlS H 0 L (outR R e) x' ∧ x'.a = none := fun hc l => by
    refine ⟨⟨none, 0, none, 0⟩, l, rfl, ?_, ?_, rfl⟩
    · rw [hc, outR, if_neg (by rw [hc]; decide), hR]; rfl
    · rw [outR, if_neg (by rw [hc]; decide), hR]; exact ⟨.inl ⟨rfl, rfl, rfl⟩, .inl ⟨rfl, rfl, rfl⟩⟩
  simp only [go_sem, cond, Nat.reduceAdd, Nat.reduceLeDiff, Nat.reduceEqDiff, Nat.reduceBEq, decide_true, decide_false, Int.toNat_natCast, En.enc, r]
  refine call_eq (EntryOk_ok _ _ e hT he) ?_
  simp only [go_sem, cond, Nat.reduceAdd, Nat.reduceLeDiff, Nat.reduceEqDiff, Nat.reduceBEq, decide_true, decide_false, Int.toNat_natCast, En.enc, r]
  have en : R.name = na := by rw [hR]
  have ex : R.next = nx := by rw [hR]
  repeat' (refine Br_intro ?_ ?_ <;> intro h <;> simp only [go_sem, cond, Nat.reduceAdd, Nat.reduceLeDiff, Nat.reduceEqDiff, Nat.reduceBEq, decide_true, decide_false, Int.toNat_natCast, En.enc, r, h])
  all_goals first
    | exact hno (by simp only [canB, en, ex, *, Bool.true_and, Bool.false_and]) _
    | skip
  rename_i g1 g2
  have hs : e.seq = nx := eq_of_beq h
  refine call_eq (copiedNN_ok _ _ na su nx) ?_
  simp only [go_sem, cond, Nat.reduceAdd, Nat.reduceLeDiff, Nat.reduceEqDiff, Nat.reduceBEq, decide_true, decide_false, Int.toNat_natCast, En.enc, r]
  refine call_eq (member_ok _ _ ⟨na, nx, [], [], su⟩ ⟨none, 0, none, 0⟩ _ (RmAt_nil _ _ _ _ _)) ?_
  rw [show idxP (isU e.user) ([] : List Mem) 0 = -1 from rfl]
  simp only [go_sem, cond, Nat.reduceAdd, Nat.reduceLeDiff, Nat.reduceEqDiff, Nat.reduceBEq, decide_true, decide_false, Int.toNat_natCast, r]
  have hb2 := applyR_big R e (hR ▸ hb) he
  have d1 : ((-1 : Int) < 0) = True := eq_true (by omega)
  by_cases k1 : (e.kind == 1) = true
  · have hc : canB R e = roomB (applyR R e) := by simp only [canB, needB, en, ex, g1, g2, h, k1, Bool.true_and, Bool.true_or, Bool.or_true]
    have ha : applyR R e = ⟨na, IntKind.i64.wrap (nx + 1), [⟨e.user, e.nick, e.num⟩], [], su⟩ := by simp only [applyR, k1, hs, hR, if_true, List.nil_append]
    (refine xw_open (id := 6) [0, 1, 3, 7, 15, 31, 63, 127, 255, 511, 1023, 2047, 4095, 8191, 4095, 32767, 65535, 131071, 4095, 266239, 1048575, 2097151, 4194303] [.q 0, .q 1, .q 2, .q 3, .q 4, .q 5, .q 6, .q 7, .q 8, .q 9, .q 10, .q 11, .q 12, .q 14, .q 18, .q 13, .q 15, .q 16, .q 17, .q 19, .q 20, .q 21, .q 22] rfl (by kernel_rfl) ?_; simp only [go_sem, cond, Nat.reduceAdd, Nat.reduceLeDiff, Nat.reduceEqDiff, Nat.reduceBEq, decide_true, decide_false, Int.toNat_natCast, r, k1, d1])
    refine Req_intro ⟨_, rfl, rfl⟩ ?_
    simp only [go_sem, cond, Nat.reduceAdd, Nat.reduceLeDiff, Nat.reduceEqDiff, Nat.reduceBEq, decide_true, decide_false, Int.toNat_natCast, r, k1]
    refine appS_nil _ _ _ 1 _ _ _ _ (by decide) ?_ (by decide) ?_
    · decide
    rw [ha] at hb2 hc
    simp only [go_sem, cond, Nat.reduceAdd, Nat.reduceLeDiff, Nat.reduceEqDiff, Nat.reduceBEq, decide_true, decide_false, Int.toNat_natCast, r, k1]
    refine call_eq (RoomOk_ok w0 _ ⟨na, IntKind.i64.wrap (nx + 1), [⟨e.user, e.nick, e.num⟩], [], su⟩ ⟨some ⟨nid H 5, 0, some (1 * 3)⟩, 1, none, 0⟩ hT (PlS.at (n := 0) (pre := []) ⟨.inr ⟨5, rfl, rfl, rfl⟩, .inl ⟨rfl, rfl, rfl⟩⟩ rfl (by simp) (by simp)).1 hb2) ?_
    simp only [go_sem, cond, Nat.reduceAdd, Nat.reduceLeDiff, Nat.reduceEqDiff, Nat.reduceBEq, decide_true, decide_false, Int.toNat_natCast, r, k1]
    refine Br_intro ?_ ?_ <;> intro ho <;> simp only [go_sem, cond, Nat.reduceAdd, Nat.reduceLeDiff, Nat.reduceEqDiff, Nat.reduceBEq, decide_true, decide_false, Int.toNat_natCast, r, ho]
    · have := (roomB_noks ho rfl).1
      cases this
    · exact hno (hc.trans ho) _
  by_cases k6 : (e.kind == 6) = true
  · have hc : canB R e = roomB (applyR R e) := by simp only [canB, needB, en, ex, g1, g2, h, k6, Bool.true_and, Bool.true_or, Bool.or_true]
    have k2 : (e.kind == 2) = false := by rw [eq_of_beq k6]; rfl
    have k4 : (e.kind == 4) = false := by rw [eq_of_beq k6]; rfl
    have k5 : (e.kind == 5) = false := by rw [eq_of_beq k6]; rfl
    rw [Bool.not_eq_true] at k1
    have ha : applyR R e = ⟨na, IntKind.i64.wrap (nx + 1), [], rkd e.user e.num [], su⟩ := by simp only [applyR, k1, k2, k4, k5, k6, hs, hR, if_true, Bool.false_eq_true, if_false]
    have hq : 0 ≤ nx ∧ nx ≤ 9998 := by
      simp only [entB, inB, Bool.and_eq_true, decide_eq_true_eq] at g1
      rw [hs] at g1
      exact g1.2.2.1
    (refine xw_open (id := 6) [0, 1, 3, 7, 15, 31, 63, 127, 255, 511, 1023, 2047, 4095, 8191, 4095, 32767, 65535, 131071, 4095, 266239, 1048575, 2097151, 4194303] [.q 0, .q 1, .q 2, .q 3, .q 4, .q 5, .q 6, .q 7, .q 8, .q 9, .q 10, .q 11, .q 12, .q 14, .q 18, .q 13, .q 15, .q 16, .q 17, .q 19, .q 20, .q 21, .q 22] rfl (by kernel_rfl) ?_; simp only [go_sem, cond, Nat.reduceAdd, Nat.reduceLeDiff, Nat.reduceEqDiff, Nat.reduceBEq, decide_true, decide_false, Int.toNat_natCast, r, k1, k2, k4, k5, k6])
    refine call_eq (rankedN_ok w0 H _ 3 _ _ _ _ e.user e.num rfl) ?_
    rw [ha] at hb2 hc
    by_cases hn1 : e.num = 1
    · rw [if_pos hn1]
      have hk : rkd e.user e.num [] = [] := by rw [hn1]; rfl
      rw [hk] at hb2 hc ha
      simp only [go_sem, cond, Nat.reduceAdd, Nat.reduceLeDiff, Nat.reduceEqDiff, Nat.reduceBEq, decide_true, decide_false, Int.toNat_natCast, r, k1, k2, k4, k5, k6]
      refine call_eq (RoomOk_ok w0 _ ⟨na, IntKind.i64.wrap (nx + 1), [], [], su⟩ ⟨none, 0, none, 0⟩ hT (RmAt_nil _ _ _ _ _) hb2) ?_
      simp only [go_sem, cond, Nat.reduceAdd, Nat.reduceLeDiff, Nat.reduceEqDiff, Nat.reduceBEq, decide_true, decide_false, Int.toNat_natCast, r]
      refine Br_intro ?_ ?_ <;> intro ho <;> simp only [go_sem, cond, Nat.reduceAdd, Nat.reduceLeDiff, Nat.reduceEqDiff, Nat.reduceBEq, decide_true, decide_false, Int.toNat_natCast, r, ho]
      · have := (roomB_noks ho rfl).2
        simp only at this
        rw [wrap_i64 (by omega) (by omega)] at this
        omega
      · exact hno (hc.trans ho) _
    · rw [if_neg hn1]
      have hk : rkd e.user e.num [] = [⟨e.user, e.num⟩] := by
        have : (e.num == 1) = false := beq_eq_false_iff_ne.2 hn1
        simp [rkd, runK, this]
      rw [hk] at hb2 hc ha
      simp only [go_sem, cond, Nat.reduceAdd, Nat.reduceLeDiff, Nat.reduceEqDiff, Nat.reduceBEq, decide_true, decide_false, Int.toNat_natCast, r, k1, k2, k4, k5, k6, List.cons_append, List.nil_append, List.set_cons_succ, List.set_cons_zero]
      refine call_eq (RoomOk_ok w0 _ ⟨na, IntKind.i64.wrap (nx + 1), [], [⟨e.user, e.num⟩], su⟩ ⟨none, 0, some ⟨nid H 5, 0, some 2⟩, 1⟩ hT (PlS.at (n := 0) (pre := []) ⟨.inl ⟨rfl, rfl, rfl⟩, .inr ⟨5, rfl, rfl, rfl⟩⟩ rfl (by simp) (by simp)).1 hb2) ?_
      simp only [go_sem, cond, Nat.reduceAdd, Nat.reduceLeDiff, Nat.reduceEqDiff, Nat.reduceBEq, decide_true, decide_false, Int.toNat_natCast, r]
      refine Br_intro ?_ ?_ <;> intro ho <;> simp only [go_sem, cond, Nat.reduceAdd, Nat.reduceLeDiff, Nat.reduceEqDiff, Nat.reduceBEq, decide_true, decide_false, Int.toNat_natCast, r, ho]
      · refine call_eq (copiedNSp_ok w0 _ na su (IntKind.i64.wrap (nx + 1)) [⟨e.user, e.num⟩] ⟨nid H 5, 0, some 2⟩ 1 (PlS.at (R := ⟨na, IntKind.i64.wrap (nx + 1), [], [⟨e.user, e.num⟩], su⟩) (x := ⟨none, 0, some ⟨nid H 5, 0, some 2⟩, 1⟩) (n := 0) (pre := []) ⟨.inl ⟨rfl, rfl, rfl⟩, .inr ⟨5, rfl, rfl, rfl⟩⟩ rfl (by simp) (by simp)).1.ok (by simp)) ?_
        simp only [go_sem, cond, Nat.reduceAdd, Nat.reduceLeDiff, Nat.reduceEqDiff, Nat.reduceBEq, decide_true, decide_false, Int.toNat_natCast, r, List.cons_append, List.nil_append]
        have hcc := hc.trans ho
        rw [hcc, outR, if_pos hcc, ha]
        exact ⟨⟨none, 0, some _, _⟩, _, rfl, rfl, ⟨.inl ⟨rfl, rfl, rfl⟩, .inr ⟨6, rfl, rfl, rfl⟩⟩, rfl⟩
      · exact hno (hc.trans ho) _
  rw [Bool.not_eq_true] at k1 k6
  have hn : canB R e = false := by
    have hi : isB R e = false := by rw [isB, hR]; rfl
    simp only [canB, needB, hi, k1, k6, Bool.false_or, Bool.false_and, Bool.and_false]
  (refine xw_open (id := 6) [0, 1, 3, 7, 15, 31, 63, 127, 255, 511, 1023, 2047, 4095, 8191, 4095, 32767, 65535, 131071, 4095, 266239, 1048575, 2097151, 4194303] [.q 0, .q 1, .q 2, .q 3, .q 4, .q 5, .q 6, .q 7, .q 8, .q 9, .q 10, .q 11, .q 12, .q 14, .q 18, .q 13, .q 15, .q 16, .q 17, .q 19, .q 20, .q 21, .q 22] rfl (by kernel_rfl) ?_; simp only [go_sem, cond, Nat.reduceAdd, Nat.reduceLeDiff, Nat.reduceEqDiff, Nat.reduceBEq, decide_true, decide_false, Int.toNat_natCast, r, d1, k1, k6])
  exact hno hn _
theorem appliedNS_ok (na su : ByteArray) (nx : Int) (ks : List Rk) (b : Addr) (d : Nat) (e : En) (hT : Tabs w0) (hr : RmAt w0 H ⟨na, nx, [], ks, su⟩ ⟨none, 0, some b, d⟩) (hb : Big ⟨na, nx, [], ks, su⟩) (he : BigE e) (lk : ks.length ≤ 6) (h0 : roomB ⟨na, nx, [], ks, su⟩ = true) :
    AFn Tryd.prog w0 51 #[.agg #[.string na, .int .i64 nx, .slice none 0 0, .slice (some b) ks.length d, .string su], .agg e.enc.toArray] H fun v H2 => ∃ x' L, H2 = Hx H L ∧ v = .tuple #[.agg ((outR ⟨na, nx, [], ks, su⟩ e).enc x').toArray, .bool (canB ⟨na, nx, [], ks, su⟩ e)] ∧ (canB ⟨na, nx, [], ks, su⟩ e = true → PlS H 0 L (applyR ⟨na, nx, [], ks, su⟩ e) x') ∧ (canB ⟨na, nx, [], ks, su⟩ e = false → x' = ⟨none, 0, some b, d⟩) ∧ x'.b ≠ none := by
  refine AFn_nil ?_
  refine AFn_of Tryd.func51 rfl (by kernel_rfl) ?_
  have r := Tryd.results51
  obtain ⟨R, hR⟩ : ∃ R : Rm, R = ⟨na, nx, [], ks, su⟩ := ⟨_, rfl⟩
  rw [← hR]
  have hno : canB R e = false → ∀ l, ∃ x' L, Hx H l = Hx H L ∧ Value.tuple #[.agg #[.string na, .int .i64 nx, .slice none 0 0, .slice (some b) ks.length d, .string su], .bool false] = .tuple #[.agg ((outR R e).enc x').toArray, .bool (canB R e)] ∧ (canB R e = true → PlS H 0 L (applyR R e) x') ∧ (canB R e = false → x' = ⟨none, 0, some b, d⟩) ∧ x'.b ≠ none := fun hc l => by
    refine ⟨⟨none, 0, some b, d⟩, l, rfl, ?_, (fun h => by rw [hc] at h; cases h), (fun _ => rfl), by simp⟩
    rw [hc, outR, if_neg (by rw [hc]; decide), hR]; rfl
  have hasc : Asc ks := by
    simp only [roomB, Bool.and_eq_true] at h0
    exact asc_room h0.2.2.2.2.1.1
  have hok := hr.ok
  have hlk := hr.lk
  simp only at hok hlk
  simp only [go_sem, cond, Nat.reduceAdd, Nat.reduceLeDiff, Nat.reduceEqDiff, Nat.reduceBEq, decide_true, decide_false, Int.toNat_natCast, En.enc, r]
  refine call_eq (EntryOk_ok _ _ e hT he) ?_
  simp only [go_sem, cond, Nat.reduceAdd, Nat.reduceLeDiff, Nat.reduceEqDiff, Nat.reduceBEq, decide_true, decide_false, Int.toNat_natCast, En.enc, r]
  have en : R.name = na := by rw [hR]
  have ex : R.next = nx := by rw [hR]
  repeat' (refine Br_intro ?_ ?_ <;> intro h <;> simp only [go_sem, cond, Nat.reduceAdd, Nat.reduceLeDiff, Nat.reduceEqDiff, Nat.reduceBEq, decide_true, decide_false, Int.toNat_natCast, En.enc, r, h])
  all_goals first
    | exact hno (by simp only [canB, en, ex, *, Bool.true_and, Bool.false_and]) _
    | skip
  rename_i g1 g2
  have hs : e.seq = nx := eq_of_beq h
  refine call_eq (copiedNS_ok _ _ na su nx ks b d (fun L => by rw [Hx_Hx]; exact hok _) hlk) ?_
  simp only [go_sem, cond, Nat.reduceAdd, Nat.reduceLeDiff, Nat.reduceEqDiff, Nat.reduceBEq, decide_true, decide_false, Int.toNat_natCast, En.enc, r, List.cons_append, List.nil_append]
  refine call_eq (member_ok _ _ ⟨na, nx, [], ks, su⟩ ⟨none, 0, some b, d⟩ _ (hr.old _)) ?_
  rw [show idxP (isU e.user) ([] : List Mem) 0 = -1 from rfl]
  simp only [go_sem, cond, Nat.reduceAdd, Nat.reduceLeDiff, Nat.reduceEqDiff, Nat.reduceBEq, decide_true, decide_false, Int.toNat_natCast, r]
  have hb2 := applyR_big R e (hR ▸ hb) he
  have hln := applyR_len R e
  have d1 : ((-1 : Int) < 0) = True := eq_true (by omega)
  by_cases k1 : (e.kind == 1) = true
  · have hc : canB R e = roomB (applyR R e) := by simp only [canB, needB, en, ex, g1, g2, h, k1, Bool.true_and, Bool.true_or, Bool.or_true]
    have ha : applyR R e = ⟨na, IntKind.i64.wrap (nx + 1), [⟨e.user, e.nick, e.num⟩], ks, su⟩ := by simp only [applyR, k1, hs, hR, if_true, List.nil_append]
    (refine xw_open (id := 6) [0, 1, 3, 7, 15, 31, 63, 127, 255, 511, 1023, 2047, 4095, 8191, 4095, 32767, 65535, 131071, 4095, 266239, 1048575, 2097151, 4194303] [.q 0, .q 1, .q 2, .q 3, .q 4, .q 5, .q 6, .q 7, .q 8, .q 9, .q 10, .q 11, .q 12, .q 14, .q 18, .q 13, .q 15, .q 16, .q 17, .q 19, .q 20, .q 21, .q 22] rfl (by kernel_rfl) ?_; simp only [go_sem, cond, Nat.reduceAdd, Nat.reduceLeDiff, Nat.reduceEqDiff, Nat.reduceBEq, decide_true, decide_false, Int.toNat_natCast, r, k1, d1])
    refine Req_intro ⟨_, rfl, rfl⟩ ?_
    simp only [go_sem, cond, Nat.reduceAdd, Nat.reduceLeDiff, Nat.reduceEqDiff, Nat.reduceBEq, decide_true, decide_false, Int.toNat_natCast, r, k1]
    refine appS_nil _ _ _ 1 _ _ _ _ (by decide) ?_ (by decide) ?_
    · decide
    rw [ha] at hb2 hc
    simp only [go_sem, cond, Nat.reduceAdd, Nat.reduceLeDiff, Nat.reduceEqDiff, Nat.reduceBEq, decide_true, decide_false, Int.toNat_natCast, r, k1]
    refine call_eq (AFn.weak (.cons (Wks.agg (.cons (.refl _) (.cons (.refl _) (.cons (.refl _) (.cons (.xs _) (.cons (.refl _) .nil)))))) .nil) (RoomOk_ok w0 _ ⟨na, IntKind.i64.wrap (nx + 1), [⟨e.user, e.nick, e.num⟩], ks, su⟩ ⟨some ⟨nid H 6, 0, some (1 * 3)⟩, 1, some ⟨nid H 3, 0, some (ks.length * 2)⟩, ks.length⟩ hT (PlS.at (n := 0) (pre := []) ⟨.inr ⟨6, rfl, rfl, rfl⟩, .inr ⟨3, rfl, rfl, rfl⟩⟩ rfl (by simp) (by dsimp only; omega)).1 hb2)) ?_
    simp only [go_sem, cond, Nat.reduceAdd, Nat.reduceLeDiff, Nat.reduceEqDiff, Nat.reduceBEq, decide_true, decide_false, Int.toNat_natCast, r, k1]
    refine Br_intro ?_ ?_ <;> intro ho <;> simp only [go_sem, cond, Nat.reduceAdd, Nat.reduceLeDiff, Nat.reduceEqDiff, Nat.reduceBEq, decide_true, decide_false, Int.toNat_natCast, r, ho]
    · refine call_eq (AFn.weak (.cons (Wks.agg (.cons (.refl _) (.cons (.refl _) (.cons (.refl _) (.cons (.xs _) (.cons (.refl _) .nil)))))) .nil) (copied_ok w0 _ ⟨na, IntKind.i64.wrap (nx + 1), [⟨e.user, e.nick, e.num⟩], ks, su⟩ ⟨nid H 6, 0, some (1 * 3)⟩ ⟨nid H 3, 0, some (ks.length * 2)⟩ 1 ks.length (PlS.at (n := 0) (pre := []) ⟨.inr ⟨6, rfl, rfl, rfl⟩, .inr ⟨3, rfl, rfl, rfl⟩⟩ rfl (by simp) (by dsimp only; omega)).1)) ?_
      simp only [go_sem, cond, Nat.reduceAdd, Nat.reduceLeDiff, Nat.reduceEqDiff, Nat.reduceBEq, decide_true, decide_false, Int.toNat_natCast, Rm.enc, r, obsR, adR, List.cons_append, List.nil_append]
      have hcc := hc.trans ho
      rw [hcc, outR, if_pos hcc, ha]
      exact ⟨⟨some _, _, some _, _⟩, _, rfl, rfl, fun _ => ⟨.inr ⟨7, rfl, rfl, rfl⟩, .inr ⟨8, rfl, rfl, rfl⟩⟩, (fun h => by cases h), by simp⟩
    · exact hno (hc.trans ho) _
  by_cases k6 : (e.kind == 6) = true
  · have hc : canB R e = roomB (applyR R e) := by simp only [canB, needB, en, ex, g1, g2, h, k6, Bool.true_and, Bool.true_or, Bool.or_true]
    have k2 : (e.kind == 2) = false := by rw [eq_of_beq k6]; rfl
    have k4 : (e.kind == 4) = false := by rw [eq_of_beq k6]; rfl
    have k5 : (e.kind == 5) = false := by rw [eq_of_beq k6]; rfl
    rw [Bool.not_eq_true] at k1
    have ha : applyR R e = ⟨na, IntKind.i64.wrap (nx + 1), [], rankedI e.user e.num ks, su⟩ := by rw [← rkd_ranked _ _ _ hasc]; simp only [applyR, k1, k2, k4, k5, k6, hs, hR, if_true, Bool.false_eq_true, if_false]
    (refine xw_open (id := 6) [0, 1, 3, 7, 15, 31, 63, 127, 255, 511, 1023, 2047, 4095, 8191, 4095, 32767, 65535, 131071, 4095, 266239, 1048575, 2097151, 4194303] [.q 0, .q 1, .q 2, .q 3, .q 4, .q 5, .q 6, .q 7, .q 8, .q 9, .q 10, .q 11, .q 12, .q 14, .q 18, .q 13, .q 15, .q 16, .q 17, .q 19, .q 20, .q 21, .q 22] rfl (by kernel_rfl) ?_; simp only [go_sem, cond, Nat.reduceAdd, Nat.reduceLeDiff, Nat.reduceEqDiff, Nat.reduceBEq, decide_true, decide_false, Int.toNat_natCast, r, k1, k2, k4, k5, k6])
    refine call (ranked_ok w0 H _ 4 3 _ _ _ _ ks e.user e.num (by decide) hasc (by omega) rfl rfl) ?_
    rintro v H2 ⟨rfl, l2, rfl, ⟨⟨rk, A, d2, hbx, hwk, hone, hsl, hrd⟩, hoth⟩⟩
    have q0 := hoth 0 (by simp) (by decide) (by decide)
    have q2 := hoth 2 (by simp) (by decide) (by decide)
    simp only [List.getElem?_cons_zero, List.getElem?_cons_succ] at q0 q2
    clear hoth
    rw [ha] at hb2 hc
    have hlk2 : (rankedI e.user e.num ks).length ≤ 1000 := by
      have := hln.2
      rw [ha, hR] at this
      simp only at this
      omega
    generalize rankedI e.user e.num ks = ks' at *
    have lt2 : 2 < l2.length := lt_of_get q2
    have hRM : RmAt w0 (Hx H l2) ⟨na, IntKind.i64.wrap (nx + 1), [], ks', su⟩ ⟨none, 0, some A, d2⟩ := ⟨.inl rfl, hsl, by simp, by dsimp only; omega, fun L => rfl, fun L => by rw [src_sl, hrd]; rfl⟩
    simp only [go_sem, cond, Nat.reduceAdd, Nat.reduceLeDiff, Nat.reduceEqDiff, Nat.reduceBEq, decide_true, decide_false, Int.toNat_natCast, r, hbx]
    refine call_eq (AFn.weak (.cons (Wks.agg (.cons (.refl _) (.cons (.refl _) (.cons (.refl _) (.cons hwk (.cons (.refl _) .nil)))))) .nil) (RoomOk_ok w0 _ ⟨na, IntKind.i64.wrap (nx + 1), [], ks', su⟩ ⟨none, 0, some A, d2⟩ hT hRM hb2)) ?_
    have p6 : ∀ Z : Option Ob, (l2.set 2 Z)[2]? = some Z := fun Z => by rw [List.getElem?_set_self lt2]
    have p2 : ∀ X : Option Ob, (l2 ++ [X])[2]? = l2[2]? := fun X => List.getElem?_append_left lt2
    have p5 : ∀ X Z : Option Ob, ((l2 ++ [X]).set 2 Z)[2]? = some Z := fun X Z => by rw [List.getElem?_set_self (by simp; omega)]
    have pA : ∀ X Z : Option Ob, ((l2 ++ [X]).set 2 Z)[l2.length]? = some X := fun X Z => by rw [List.getElem?_set_ne (by omega), List.getElem?_append_right (Nat.le_refl _)]; simp
    simp only [go_sem, cond, Nat.reduceAdd, Nat.reduceLeDiff, Nat.reduceEqDiff, Nat.reduceBEq, decide_true, decide_false, Int.toNat_natCast, r, hbx, q0, q2]
    refine Br_intro ?_ ?_ <;> intro ho <;> simp only [go_sem, cond, Nat.reduceAdd, Nat.reduceLeDiff, Nat.reduceEqDiff, Nat.reduceBEq, decide_true, decide_false, Int.toNat_natCast, r, ho, hbx, q0, q2, p6]
    · refine call_eq (AFn.weak (.cons (Wks.agg (.cons (.refl _) (.cons (.refl _) (.cons (.refl _) (.cons hwk (.cons (.refl _) .nil)))))) .nil) (copiedNSp_ok w0 _ na su (IntKind.i64.wrap (nx + 1)) ks' A d2 hRM.ok (by omega))) ?_
      simp only [go_sem, cond, Nat.reduceAdd, Nat.reduceLeDiff, Nat.reduceEqDiff, Nat.reduceBEq, decide_true, decide_false, Int.toNat_natCast, Rm.enc, r, p2, q2, p5, Nat.add_zero]
      have hcc := hc.trans ho
      rw [hcc, outR, if_pos hcc, ha]
      exact ⟨⟨none, 0, some _, _⟩, _, rfl, rfl, fun _ => ⟨.inl ⟨rfl, rfl, rfl⟩, .inr ⟨l2.length, pA _ _, by rw [Nat.zero_add], rfl⟩⟩, (fun h => by cases h), by simp⟩
    · exact hno (hc.trans ho) _
  rw [Bool.not_eq_true] at k1 k6
  have hn : canB R e = false := by
    have hi : isB R e = false := by rw [isB, hR]; rfl
    simp only [canB, needB, hi, k1, k6, Bool.false_or, Bool.false_and, Bool.and_false]
  (refine xw_open (id := 6) [0, 1, 3, 7, 15, 31, 63, 127, 255, 511, 1023, 2047, 4095, 8191, 4095, 32767, 65535, 131071, 4095, 266239, 1048575, 2097151, 4194303] [.q 0, .q 1, .q 2, .q 3, .q 4, .q 5, .q 6, .q 7, .q 8, .q 9, .q 10, .q 11, .q 12, .q 14, .q 18, .q 13, .q 15, .q 16, .q 17, .q 19, .q 20, .q 21, .q 22] rfl (by kernel_rfl) ?_; simp only [go_sem, cond, Nat.reduceAdd, Nat.reduceLeDiff, Nat.reduceEqDiff, Nat.reduceBEq, decide_true, decide_false, Int.toNat_natCast, r, d1, k1, k6])
  exact hno hn _
end Go.Proofs.YtmacpgoclhgafaaDoorW.FA
namespace Go.Proofs.YtmacpgoclhgafaaDoorW.FA
open Go.RowKit Go.Proofs.YtmacpgoclhgafaaDoorW.XM Go.Proofs Go.Proofs.YtmacpgoclhgafaaDoorW.XWords
set_option maxRecDepth 100000
set_option linter.unusedSimpArgs false
set_option linter.unusedVariables false
variable {w0 : World} {H : Hp}
theorem nid_Hx (B : Hp) (M : List (Option Ob)) (k : Nat) : nid (Hx B M) k = nid B (M.length + k) := by
  unfold nid Hx; simp [Nat.add_assoc]
theorem PlS.down' {B : Hp} {M M' L : List (Option Ob)} {R : Rm} {x : Ad} (hl : M'.length = M.length) (h : PlS (Hx B M) 0 L R x) : PlS B 0 (M' ++ L) R x := by
  refine ⟨h.m.imp id fun ⟨j, a, b, c⟩ => ⟨M.length + j, ?_, ?_, c⟩, h.k.imp id fun ⟨j, a, b, c⟩ => ⟨M.length + j, ?_, ?_, c⟩⟩
  · rw [List.getElem?_append_right (by omega), hl, Nat.add_sub_cancel_left]; exact a
  · rw [b, nid_Hx, Nat.zero_add, Nat.zero_add]
  · rw [List.getElem?_append_right (by omega), hl, Nat.add_sub_cancel_left]; exact a
  · rw [b, nid_Hx, Nat.zero_add, Nat.zero_add]
theorem PlS.down {B : Hp} {M L : List (Option Ob)} {R : Rm} {x : Ad} (h : PlS (Hx B M) 0 L R x) : PlS B 0 (M ++ L) R x := by
  refine ⟨h.m.imp id fun ⟨j, a, b, c⟩ => ⟨M.length + j, ?_, ?_, c⟩, h.k.imp id fun ⟨j, a, b, c⟩ => ⟨M.length + j, ?_, ?_, c⟩⟩
  · rw [List.getElem?_append_right (by omega), Nat.add_sub_cancel_left]; exact a
  · rw [b, nid_Hx, Nat.zero_add, Nat.zero_add]
  · rw [List.getElem?_append_right (by omega), Nat.add_sub_cancel_left]; exact a
  · rw [b, nid_Hx, Nat.zero_add, Nat.zero_add]
theorem PlS.obs (B : Hp) (R : Rm) : PlS B 0 (obsR R) R (adR B R 0 1) := ⟨.inr ⟨0, rfl, rfl, rfl⟩, .inr ⟨1, rfl, rfl, rfl⟩⟩
variable (w0 H)
/-- A room is copied, wherever it lies. -/
theorem copiedAny_ok (R : Rm) (x : Ad) (hr : RmAt w0 H R x) (ha : x.a = none → x.c = 0 ∧ R.ms = []) (hb : x.b = none → x.d = 0 ∧ R.ks = []) (hab : x.b = none → x.a = none) : AFn Tryd.prog w0 52 #[.agg (R.enc x).toArray] H fun v H2 => ∃ x' L, H2 = Hx H L ∧ v = .agg (R.enc x').toArray ∧ PlS H 0 L R x' ∧ (x'.b = none → x'.a = none) := by
  obtain ⟨na, nx, ms, ks, su⟩ := R
  obtain ⟨a, c, b, d⟩ := x
  simp only at ha hb hab
  cases b with
  | none =>
    obtain ⟨rfl, rfl⟩ := hb rfl
    obtain rfl := hab rfl
    obtain ⟨rfl, rfl⟩ := ha rfl
    exact (copiedNN_ok w0 H na su nx).mono fun v H2 ⟨h1, h2⟩ => ⟨⟨none, 0, none, 0⟩, [], by rw [h2, Hx_nil], h1, ⟨.inl ⟨rfl, rfl, rfl⟩, .inl ⟨rfl, rfl, rfl⟩⟩, fun _ => rfl⟩
  | some b =>
    cases a with
    | none =>
      obtain ⟨rfl, rfl⟩ := ha rfl
      exact (copiedNSp_ok w0 H na su nx ks b d hr.ok hr.lk).mono fun v H2 ⟨h1, h2⟩ => ⟨⟨none, 0, some _, _⟩, _, h2, h1, ⟨.inl ⟨rfl, rfl, rfl⟩, .inr ⟨0, rfl, rfl, rfl⟩⟩, fun h => by cases h⟩
    | some a => exact (copied_ok w0 H ⟨na, nx, ms, ks, su⟩ a b c d hr).mono fun v H2 ⟨h1, h2⟩ => ⟨_, _, h2, h1, PlS.obs _ _, fun h => by cases h⟩
theorem outR_sm {R : Rm} {e : En} (hb : Big R) (he : BigE e) : Big (outR R e) := by
  unfold outR
  split
  · exact applyR_big R e hb he
  · exact hb
theorem outR_le (R : Rm) (e : En) : (outR R e).ms.length ≤ R.ms.length + 1 ∧ (outR R e).ks.length ≤ 2 * R.ks.length + 1 := by
  have := applyR_len R e
  unfold outR
  split
  · exact this
  · omega
theorem roomB_len {R : Rm} (h : roomB R = true) : R.ms.length ≤ 5 ∧ R.ks.length ≤ 6 := by
  simp only [roomB, Bool.and_eq_true, decide_eq_true_eq] at h
  exact ⟨h.2.2.2.1.2, h.2.2.2.2.1.2⟩
theorem PlS.nm {H : Hp} {n : Nat} {g : List (Option Ob)} {R : Rm} {x : Ad} (h : PlS H n g R x) : (x.a = none → x.c = 0 ∧ R.ms = []) ∧ (x.b = none → x.d = 0 ∧ R.ks = []) := by
  constructor
  · intro hx
    rcases h.m with ⟨_, h2, h3⟩ | ⟨j, _, h2, _⟩
    · exact ⟨h2, h3⟩
    · rw [h2] at hx; cases hx
  · intro hx
    rcases h.k with ⟨_, h2, h3⟩ | ⟨j, _, h2, _⟩
    · exact ⟨h2, h3⟩
    · rw [h2] at hx; cases hx
theorem appliedN_any (na su : ByteArray) (nx : Int) (ks : List Rk) (b : Option Addr) (d : Nat) (e : En) (hT : Tabs w0) (hr : RmAt w0 H ⟨na, nx, [], ks, su⟩ ⟨none, 0, b, d⟩) (hn : b = none → d = 0 ∧ ks = []) (hb : Big ⟨na, nx, [], ks, su⟩) (he : BigE e) (h0 : roomB ⟨na, nx, [], ks, su⟩ = true) :
    AFn Tryd.prog w0 51 #[.agg #[.string na, .int .i64 nx, .slice none 0 0, .slice b ks.length d, .string su], .agg e.enc.toArray] H fun v H2 => ∃ x' L, H2 = Hx H L ∧ v = .tuple #[.agg ((outR ⟨na, nx, [], ks, su⟩ e).enc x').toArray, .bool (canB ⟨na, nx, [], ks, su⟩ e)] ∧ RmAt w0 (Hx H L) (outR ⟨na, nx, [], ks, su⟩ e) x' ∧ (x'.a = none → x'.c = 0 ∧ (outR ⟨na, nx, [], ks, su⟩ e).ms = []) ∧ (x'.b = none → x'.d = 0 ∧ (outR ⟨na, nx, [], ks, su⟩ e).ks = []) ∧ (x'.b = none → x'.a = none) := by
  obtain ⟨lm, lk⟩ := roomB_len h0
  have hol := outR_le ⟨na, nx, [], ks, su⟩ e
  simp only [List.length_nil] at lk hol
  cases b with
  | none =>
    obtain ⟨rfl, rfl⟩ := hn rfl
    refine (appliedNN_ok w0 H na su nx e hT hb he).mono ?_
    rintro v H2 ⟨x', L, rfl, h1, h2, h3⟩
    obtain ⟨n1, n2⟩ := h2.nm
    have := (PlS.at (w0 := w0) (pre := []) h2 rfl (by omega) (by simp only [List.length_nil] at hol; omega)).1
    exact ⟨x', L, rfl, h1, this, n1, n2, fun _ => h3⟩
  | some b =>
    refine (appliedNS_ok w0 H na su nx ks b d e hT hr hb he lk h0).mono ?_
    rintro v H2 ⟨x', L, rfl, h1, h2, h3, h4⟩
    by_cases hc : canB ⟨na, nx, [], ks, su⟩ e = true
    · have ho : outR ⟨na, nx, [], ks, su⟩ e = applyR ⟨na, nx, [], ks, su⟩ e := by rw [outR, if_pos hc]
      have h2 := h2 hc
      rw [← ho] at h2
      obtain ⟨n1, n2⟩ := h2.nm
      have := (PlS.at (w0 := w0) (pre := []) h2 rfl (by omega) (by omega)).1
      exact ⟨x', L, rfl, h1, this, n1, n2, fun h => absurd h h4⟩
    · have ho : outR ⟨na, nx, [], ks, su⟩ e = ⟨na, nx, [], ks, su⟩ := by rw [outR, if_neg hc]
      obtain rfl := h3 (by simpa using hc)
      refine ⟨_, L, rfl, h1, ?_, ?_, ?_, ?_⟩
      · rw [ho]; exact hr.old L
      · rw [ho]; exact fun _ => ⟨rfl, rfl⟩
      · intro h; cases h
      · intro h; cases h
set_option maxHeartbeats 4000000 in
theorem RoomApplyN_ok (na su : ByteArray) (nx : Int) (ks : List Rk) (b : Option Addr) (d : Nat) (e : En) (hT : Tabs w0) (hr : RmAt w0 H ⟨na, nx, [], ks, su⟩ ⟨none, 0, b, d⟩) (hn : b = none → d = 0 ∧ ks = []) (hb : Big ⟨na, nx, [], ks, su⟩) (he : BigE e) (h0 : roomB ⟨na, nx, [], ks, su⟩ = true) :
    AFn Tryd.prog w0 14 #[.agg #[.string na, .int .i64 nx, .slice none 0 0, .slice b ks.length d, .string su], .agg e.enc.toArray] H fun v H2 => ∃ x' L, H2 = Hx H L ∧ v = .tuple #[.agg ((outR ⟨na, nx, [], ks, su⟩ e).enc x').toArray, .bool (canB ⟨na, nx, [], ks, su⟩ e)] ∧ PlS H 0 L (outR ⟨na, nx, [], ks, su⟩ e) x' ∧ (x'.b = none → x'.a = none) := by
  refine AFn_nil ?_
  refine AFn_of Tryd.func14 rfl (by kernel_rfl) ?_
  have r := Tryd.results14
  simp only [go_sem, cond, Nat.reduceAdd, Nat.reduceLeDiff, Nat.reduceEqDiff, Nat.reduceBEq, decide_true, decide_false, Int.toNat_natCast, En.enc, r]
  refine call_eq (RoomOk_ok w0 _ ⟨na, nx, [], ks, su⟩ ⟨none, 0, b, d⟩ hT (hr.old _) hb) ?_
  simp only [go_sem, cond, Nat.reduceAdd, Nat.reduceLeDiff, Nat.reduceEqDiff, Nat.reduceBEq, decide_true, decide_false, Int.toNat_natCast, r, h0]
  refine call (appliedN_any w0 _ na su nx ks b d e hT (hr.old _) hn hb he h0) ?_
  rintro v H2 ⟨x', L, rfl, rfl, h1, h2, h3, h4⟩
  generalize outR ⟨na, nx, [], ks, su⟩ e = R' at *
  generalize canB ⟨na, nx, [], ks, su⟩ e = cb at *
  rw [Hx_Hx] at h1
  have hb : ∀ (g : List (Option Ob)) (Y : Option Ob) (r : List (Option Ob)), (g ++ Y :: r)[g.length]? = some Y := fun g Y r => by rw [List.getElem?_append_right (Nat.le_refl _)]; simp
  have si0 : ∀ (g r : List (Option Ob)) (Z : Option Ob), (g ++ r).set g.length Z = g ++ r.set 0 Z := fun g r Z => by rw [List.set_append_right _ _ (by omega)]; simp
  simp only [go_sem, cond, Nat.reduceAdd, Nat.reduceLeDiff, Nat.reduceEqDiff, Nat.reduceBEq, decide_true, decide_false, Int.toNat_natCast, r, Rm.enc, List.cons_append, List.nil_append, hb, si0, List.set_cons_zero, List.set_cons_succ]
  refine call (copiedAny_ok w0 _ R' x' ?_ h2 h3 h4) ?_
  · have := h1.old [some (.row 33 [.string R'.name, .int .i64 R'.next, .slice x'.a R'.ms.length x'.c, .slice x'.b R'.ks.length x'.d, .string R'.subj])]
    rw [Hx_Hx] at this
    exact this
  rintro v H2 ⟨x2, L2, rfl, rfl, g1, g2⟩
  simp only [go_sem, cond, Nat.reduceAdd, Nat.reduceLeDiff, Nat.reduceEqDiff, Nat.reduceBEq, decide_true, decide_false, Int.toNat_natCast, r, Rm.enc, List.cons_append, List.nil_append, List.append_assoc, hb, si0, List.set_cons_zero, List.set_cons_succ]
  refine ⟨x2, _, rfl, rfl, ?_, g2⟩
  have e1 : ∀ (a b c X : Option Ob), a :: b :: c :: (L ++ X :: L2) = (a :: b :: c :: (L ++ [X])) ++ L2 := fun a b c X => by simp
  rw [e1]
  exact g1.down' (by simp)
set_option maxHeartbeats 4000000 in
theorem RoomApplyI_any (B : Hp) (M : List (Option Ob)) (R : Rm) (x : Ad) (e : En) (hT : Tabs w0) (hpl : PlS B 0 M R x) (hsh : x.b = none → x.a = none) (hb : Big R) (he : BigE e) (hR : roomB R = true) :
    AFn Tryd.prog w0 14 #[.agg (R.enc x).toArray, .agg e.enc.toArray] (Hx B M) fun v H2 => ∃ x' L, H2 = Hx B (M ++ L) ∧ v = .tuple #[.agg ((outR R e).enc x').toArray, .bool (canB R e)] ∧ PlS B 0 (M ++ L) (outR R e) x' ∧ (x'.b = none → x'.a = none) := by
  obtain ⟨lm, lk⟩ := roomB_len hR
  have hr := (PlS.at (w0 := w0) (pre := []) hpl rfl (by omega) (by omega)).1
  rw [List.nil_append] at hr
  obtain ⟨n1, n2⟩ := hpl.nm
  have hm := hpl.m
  have hk := hpl.k
  obtain ⟨na, nx, ms, ks, su⟩ := R
  obtain ⟨a, c, b, d⟩ := x
  simp only at n1 n2 lm lk hsh hm hk
  cases a with
  | none =>
    obtain ⟨rfl, rfl⟩ := n1 rfl
    refine (RoomApplyN_ok w0 (Hx B M) na su nx ks b d e hT hr n2 hb he hR).mono ?_
    rintro v H2 ⟨x', L, rfl, h1, h2, h3⟩
    exact ⟨x', L, by rw [Hx_Hx], h1, h2.down, h3⟩
  | some a =>
    cases b with
    | none => cases hsh rfl
    | some b =>
      rcases hm with ⟨h, _⟩ | ⟨j, h1, h2, h3⟩
      · cases h
      rcases hk with ⟨h, _⟩ | ⟨k, h4, h5, h6⟩
      · cases h
      simp only [Nat.zero_add, Option.some.injEq] at h2 h5
      subst h2 h3 h5 h6
      refine (RoomApplyI_ok w0 (Hx B M) ⟨na, nx, ms, ks, su⟩ _ _ _ _ e hT hr hb he lm lk hR (fun L => Old_own _ (lt_of_get h1) (lt_of_get h4) L)).mono ?_
      rintro v H2 ⟨g1, rfl⟩
      exact ⟨_, _, by rw [Hx_Hx], g1, (PlS.obs _ _).down, fun h => by cases h⟩
end Go.Proofs.YtmacpgoclhgafaaDoorW.FA
namespace Go.Proofs.YtmacpgoclhgafaaDoorW.FA
open Go.RowKit Go.Proofs.YtmacpgoclhgafaaDoorW.XM Go.Proofs Go.Proofs.YtmacpgoclhgafaaDoorW.XWords
set_option maxRecDepth 100000
set_option linter.unusedSimpArgs false
set_option linter.unusedVariables false
variable (w0 : World) (H : Hp)
theorem canB_spec {R : Rm} {e : En} (h : canB R e = true) : entB e = true ∧ e.seq = R.next ∧ roomB (applyR R e) = true ∧ 0 ≤ e.seq ∧ e.seq ≤ 9998 := by
  simp only [canB, Bool.and_eq_true] at h
  have h1 := h.1
  simp only [entB, inB, Bool.and_eq_true, decide_eq_true_eq] at h1
  exact ⟨h.1, eq_of_beq h.2.2.1, h.2.2.2.2, h1.2.2.1.1, h1.2.2.1.2⟩
theorem canB_twice {R : Rm} {e : En} (h : canB R e = true) : canB (applyR R e) e = false := by
  obtain ⟨_, h2, _, h4, h5⟩ := canB_spec h
  have : (e.seq == (applyR R e).next) = false := by
    rw [applyR_next, wrap_i64 (by omega) (by omega), beq_eq_false_iff_ne]; omega
  simp only [canB, this, Bool.false_and, Bool.and_false]
set_option maxHeartbeats 20000000 in
theorem law_Apply (A : Option Addr) (c : Nat) (bs : List UInt8) (hT : Tabs w0) (hc : CoOk w0 A c bs) : AFn Tryd.prog w0 4 #[.slice A bs.length c] H fun v H2 => v = .bool true ∧ H2 = H := by
  have hb : ∀ (g : List (Option Ob)) (Y : Option Ob) (r : List (Option Ob)), (g ++ Y :: r)[g.length]? = some Y := fun g Y r => by rw [List.getElem?_append_right (Nat.le_refl _)]; simp
  have gi : ∀ (g r : List (Option Ob)) (k : Nat), (g ++ r)[g.length + k]? = r[k]? := fun g r k => by rw [List.getElem?_append_right (by omega)]; simp
  have si : ∀ (g r : List (Option Ob)) (k : Nat) (Z : Option Ob), (g ++ r).set (g.length + k) Z = g ++ r.set k Z := fun g r k Z => by rw [List.set_append_right _ _ (by omega)]; simp
  have si0 : ∀ (g r : List (Option Ob)) (Z : Option Ob), (g ++ r).set g.length Z = g ++ r.set 0 Z := fun g r Z => by rw [List.set_append_right _ _ (by omega)]; simp
  have bne' : ∀ (c a b : Bool), xBin Tryd.prog .neq 4 c (.bool a) (.bool b) = some (.bool (!(a == b))) := fun c a b => by simp [xBin, XF.isB_4]
  have beq' : ∀ (c a b : Bool), xBin Tryd.prog .eql 4 c (.bool a) (.bool b) = some (.bool (a == b)) := fun c a b => by simp [xBin, XF.isB_4]
  refine AFn.scal rfl Tryd.func4 rfl (by kernel_rfl) ?_
  have r := Tryd.results4
  simp only [go_sem, cond, Nat.reduceAdd, Nat.reduceLeDiff, Nat.reduceEqDiff, Nat.reduceBEq, decide_true, decide_false, Int.toNat_natCast, r]
  refine Br_intro ?_ ?_ <;> intro h0 <;> simp only [go_sem, cond, Nat.reduceAdd, Nat.reduceLeDiff, Nat.reduceEqDiff, Nat.reduceBEq, decide_true, decide_false, Int.toNat_natCast, r, bne', beq', beq_self_eq_true, Bool.not_true, Bool.not_false, hb, gi, si, si0, List.set_cons_zero, List.set_cons_succ, List.append_assoc, List.length_append, List.length_cons, List.singleton_append, List.cons_append, List.nil_append, h0]
  · exact ⟨_, rfl⟩
  refine call (DrawRoomApply_ok w0 _ A c bs hc) ?_
  rintro v H2 ⟨R, x, e, g, rfl, rfl, hpl, hsm, hlm, hlk, hsh, he⟩
  rw [Hx_nil] at hpl
  have hbg := hsm.big
  have heb := he.big
  have hR0 := (PlS.at (w0 := w0) (pre := []) hpl rfl (by omega) (by omega))
  rw [List.nil_append] at hR0
  have hRm : ∀ rest, RmAt w0 (Hx H (g ++ rest)) R x := fun rest => by have := hR0.1.old rest; rwa [Hx_Hx] at this
  have hRo : ∀ rest, RmOw w0 (Hx H (g ++ rest)) R x := fun rest => by have := hR0.2.old rest; rwa [Hx_Hx] at this
  simp only [go_sem, cond, Nat.reduceAdd, Nat.reduceLeDiff, Nat.reduceEqDiff, Nat.reduceBEq, decide_true, decide_false, Int.toNat_natCast, r, bne', beq', beq_self_eq_true, Bool.not_true, Bool.not_false, hb, gi, si, si0, List.set_cons_zero, List.set_cons_succ, List.append_assoc, List.length_append, List.length_cons, List.singleton_append, List.cons_append, List.nil_append, Rm.enc, En.enc]
  cases hrm : roomB R with
  | false =>
    refine call_eq (RoomApplyI_no w0 _ R x e hT (hRm _) hbg hrm) ?_
    simp only [go_sem, cond, Nat.reduceAdd, Nat.reduceLeDiff, Nat.reduceEqDiff, Nat.reduceBEq, decide_true, decide_false, Int.toNat_natCast, r, bne', beq', beq_self_eq_true, Bool.not_true, Bool.not_false, hb, gi, si, si0, List.set_cons_zero, List.set_cons_succ, List.append_assoc, List.length_append, List.length_cons, List.singleton_append, List.cons_append, List.nil_append, Rm.enc, En.enc, zRoom]
    refine call_eq (RoomApplyS_no w0 _ R x e (hRm _) hbg hrm) ?_
    simp only [go_sem, cond, Nat.reduceAdd, Nat.reduceLeDiff, Nat.reduceEqDiff, Nat.reduceBEq, decide_true, decide_false, Int.toNat_natCast, r, bne', beq', beq_self_eq_true, Bool.not_true, Bool.not_false, hb, gi, si, si0, List.set_cons_zero, List.set_cons_succ, List.append_assoc, List.length_append, List.length_cons, List.singleton_append, List.cons_append, List.nil_append, Rm.enc, En.enc, zRoom]
    (refine xw_open (id := 6) [0, 0, 3, 7, 15, 15, 63, 127, 255, 511, 1023, 2047, 1023, 8191, 16383, 32767, 65535, 131071, 262143, 131071, 1048575, 2097151, 4194303, 8388607, 16777215, 33554431, 67108863, 134217727] [.q 0, .q 1, .q 2, .q 3, .q 4, .q 5, .e 6, .q 7, .q 8, .q 9, .q 10, .l 12, .e 11, .d 12, .e 13, .q 14, .q 15, .q 16, .q 17, .l 19, .e 18, .d 19, .e 20, .q 21, .q 22, .q 23, .q 24, .e 25, .q 26, .q 27] rfl (by kernel_rfl) ?_; simp only [go_sem, cond, Nat.reduceAdd, Nat.reduceLeDiff, Nat.reduceEqDiff, Nat.reduceBEq, decide_true, decide_false, Int.toNat_natCast, r, bne', beq', beq_self_eq_true, Bool.not_true, Bool.not_false, hb, gi, si, si0, List.set_cons_zero, List.set_cons_succ, List.append_assoc, List.length_append, List.length_cons, List.singleton_append, List.cons_append, List.nil_append, Rm.enc, En.enc])
    repeat' (first
      | (refine Br_intro ?_ ?_ <;> intro h <;> simp only [go_sem, cond, Nat.reduceAdd, Nat.reduceLeDiff, Nat.reduceEqDiff, Nat.reduceBEq, decide_true, decide_false, Int.toNat_natCast, r, bne', beq', beq_self_eq_true, Bool.not_true, Bool.not_false, hb, gi, si, si0, List.set_cons_zero, List.set_cons_succ, List.append_assoc, List.length_append, List.length_cons, List.singleton_append, List.cons_append, List.nil_append, h])
      | (refine call_eq (hbRoom_ok w0 _ ⟨em, 0, [], [], em⟩ ⟨none, 0, none, 0⟩ ⟨none, 0, none, 0⟩ (RmAt_nil _ _ _ _ _) (RmAt_nil _ _ _ _ _)) ?_; simp only [go_sem, cond, Nat.reduceAdd, Nat.reduceLeDiff, Nat.reduceEqDiff, Nat.reduceBEq, decide_true, decide_false, Int.toNat_natCast, r, bne', beq', beq_self_eq_true, Bool.not_true, Bool.not_false, hb, gi, si, si0, List.set_cons_zero, List.set_cons_succ, List.append_assoc, List.length_append, List.length_cons, List.singleton_append, List.cons_append, List.nil_append])
      | (refine call_eq (RoomOk_ok w0 _ R x hT (hRm _) hbg) ?_; simp only [go_sem, cond, Nat.reduceAdd, Nat.reduceLeDiff, Nat.reduceEqDiff, Nat.reduceBEq, decide_true, decide_false, Int.toNat_natCast, r, bne', beq', beq_self_eq_true, Bool.not_true, Bool.not_false, hb, gi, si, si0, List.set_cons_zero, List.set_cons_succ, List.append_assoc, List.length_append, List.length_cons, List.singleton_append, List.cons_append, List.nil_append, hrm])
      | (refine call_eq (RoomOkS_ok w0 _ R x (hRm _) hbg) ?_; simp only [go_sem, cond, Nat.reduceAdd, Nat.reduceLeDiff, Nat.reduceEqDiff, Nat.reduceBEq, decide_true, decide_false, Int.toNat_natCast, r, bne', beq', beq_self_eq_true, Bool.not_true, Bool.not_false, hb, gi, si, si0, List.set_cons_zero, List.set_cons_succ, List.append_assoc, List.length_append, List.length_cons, List.singleton_append, List.cons_append, List.nil_append, hrm])
      | (refine call_eq (EntryOk_ok w0 _ e hT heb) ?_; simp only [go_sem, cond, Nat.reduceAdd, Nat.reduceLeDiff, Nat.reduceEqDiff, Nat.reduceBEq, decide_true, decide_false, Int.toNat_natCast, r, bne', beq', beq_self_eq_true, Bool.not_true, Bool.not_false, hb, gi, si, si0, List.set_cons_zero, List.set_cons_succ, List.append_assoc, List.length_append, List.length_cons, List.singleton_append, List.cons_append, List.nil_append])
      | (refine call_eq (EntryOkS_ok w0 _ e heb) ?_; simp only [go_sem, cond, Nat.reduceAdd, Nat.reduceLeDiff, Nat.reduceEqDiff, Nat.reduceBEq, decide_true, decide_false, Int.toNat_natCast, r, bne', beq', beq_self_eq_true, Bool.not_true, Bool.not_false, hb, gi, si, si0, List.set_cons_zero, List.set_cons_succ, List.append_assoc, List.length_append, List.length_cons, List.singleton_append, List.cons_append, List.nil_append])
      | (refine xw_open (id := 7) [0, 0, 3, 7, 15, 15, 63, 127, 255, 511, 1023, 511, 4095, 8191, 16383, 32767] [.q 0, .q 1, .q 2, .q 3, .q 4, .q 5, .e 6, .q 7, .q 8, .q 9, .l 11, .e 10, .d 11, .e 12, .q 13, .q 14, .q 15] rfl (by kernel_rfl) ?_; simp only [go_sem, cond, Nat.reduceAdd, Nat.reduceLeDiff, Nat.reduceEqDiff, Nat.reduceBEq, decide_true, decide_false, Int.toNat_natCast, r, bne', beq', beq_self_eq_true, Bool.not_true, Bool.not_false, hb, gi, si, si0, List.set_cons_zero, List.set_cons_succ, List.append_assoc, List.length_append, List.length_cons, List.singleton_append, List.cons_append, List.nil_append]))
    all_goals exact ⟨_, rfl⟩
  | true =>
    obtain ⟨lm, lk⟩ := roomB_len hrm
    have hsh2 : x.b = none → x.a = none := fun h => by
      obtain ⟨a1, a2⟩ := roomB_noks hrm (hpl.nm.2 h).2
      rcases hsh h with h3 | h3 | h3
      · exact h3
      · omega
      · exact absurd a1 h3
    have hpl2 := hpl.more [some (.row 33 [.string R.name, .int .i64 R.next, .slice x.a R.ms.length x.c, .slice x.b R.ks.length x.d, .string R.subj]), some (.row 37 [.string e.room, .int .i64 e.seq, .int .i64 e.kind, .string e.user, .string e.nick, .string e.text, .string e.id, .string e.ref, .int .i64 e.num])]
    refine call (RoomApplyI_any w0 H _ R x e hT hpl2 hsh2 hbg heb hrm) ?_
    rintro v H2 ⟨x1, L1, rfl, rfl, hpl1, hs1⟩
    clear hpl2
    have hbo := outR_sm hbg heb
    have hlo := outR_le R e
    have hR1a := (PlS.at (w0 := w0) (pre := []) hpl1 rfl (by omega) (by omega)).1
    rw [List.nil_append] at hR1a
    have hR1 : ∀ rest, RmAt w0 (Hx H (g ++ some (.row 33 [.string R.name, .int .i64 R.next, .slice x.a R.ms.length x.c, .slice x.b R.ks.length x.d, .string R.subj]) :: some (.row 37 [.string e.room, .int .i64 e.seq, .int .i64 e.kind, .string e.user, .string e.nick, .string e.text, .string e.id, .string e.ref, .int .i64 e.num]) :: (L1 ++ rest))) (outR R e) x1 := fun rest => by have := hR1a.old rest; rw [Hx_Hx] at this; simpa only [List.append_assoc, List.cons_append, List.nil_append] using this
    simp only [go_sem, cond, Nat.reduceAdd, Nat.reduceLeDiff, Nat.reduceEqDiff, Nat.reduceBEq, decide_true, decide_false, Int.toNat_natCast, r, bne', beq', beq_self_eq_true, Bool.not_true, Bool.not_false, hb, gi, si, si0, List.set_cons_zero, List.set_cons_succ, List.append_assoc, List.length_append, List.length_cons, List.singleton_append, List.cons_append, List.nil_append, Rm.enc, En.enc]
    refine call_eq (RoomApplyS_ok w0 _ R x e (hRm _) (hRo _) hbg heb (by omega) (by omega) hrm) ?_
    simp only [go_sem, cond, Nat.reduceAdd, Nat.reduceLeDiff, Nat.reduceEqDiff, Nat.reduceBEq, decide_true, decide_false, Int.toNat_natCast, r, bne', beq', beq_self_eq_true, Bool.not_true, Bool.not_false, hb, gi, si, si0, List.set_cons_zero, List.set_cons_succ, List.append_assoc, List.length_append, List.length_cons, List.singleton_append, List.cons_append, List.nil_append, Rm.enc, En.enc, obsR, adR]
    have hR2 : ∀ (a b c : Option Ob) (rest : List (Option Ob)), RmAt w0 (Hx H (g ++ a :: b :: (L1 ++ c :: some (.row 60 (flat Mem.enc (outR R e).ms)) :: some (.row 58 (flat Rk.enc (outR R e).ks)) :: rest))) (outR R e) (adR H (outR R e) (g.length + (L1.length + 1 + 1 + 1) + 0) (g.length + (L1.length + 1 + 1 + 1) + 1)) := fun a b c rest => by
      refine RmAt_own ?_ ?_ (by omega) (by omega)
      · rw [Nat.add_zero, gi]
        show (L1 ++ _)[L1.length + 1]? = _
        rw [gi]; rfl
      · rw [Nat.add_assoc, gi]
        show (L1 ++ _)[L1.length + 2]? = _
        rw [gi]; rfl
    (refine xw_open (id := 6) [0, 0, 3, 7, 15, 15, 63, 127, 255, 511, 1023, 2047, 1023, 8191, 16383, 32767, 65535, 131071, 262143, 131071, 1048575, 2097151, 4194303, 8388607, 16777215, 33554431, 67108863, 134217727] [.q 0, .q 1, .q 2, .q 3, .q 4, .q 5, .e 6, .q 7, .q 8, .q 9, .q 10, .l 12, .e 11, .d 12, .e 13, .q 14, .q 15, .q 16, .q 17, .l 19, .e 18, .d 19, .e 20, .q 21, .q 22, .q 23, .q 24, .e 25, .q 26, .q 27] rfl (by kernel_rfl) ?_; simp only [go_sem, cond, Nat.reduceAdd, Nat.reduceLeDiff, Nat.reduceEqDiff, Nat.reduceBEq, decide_true, decide_false, Int.toNat_natCast, r, bne', beq', beq_self_eq_true, Bool.not_true, Bool.not_false, hb, gi, si, si0, List.set_cons_zero, List.set_cons_succ, List.append_assoc, List.length_append, List.length_cons, List.singleton_append, List.cons_append, List.nil_append, Rm.enc, En.enc])
    refine call_eq (hbRoom_ok w0 _ (outR R e) x1 (adR H (outR R e) (g.length + (L1.length + 1 + 1 + 1) + 0) (g.length + (L1.length + 1 + 1 + 1) + 1)) (hR1 _) (hR2 _ _ _ _)) ?_
    simp only [go_sem, cond, Nat.reduceAdd, Nat.reduceLeDiff, Nat.reduceEqDiff, Nat.reduceBEq, decide_true, decide_false, Int.toNat_natCast, r, bne', beq', beq_self_eq_true, Bool.not_true, Bool.not_false, hb, gi, si, si0, List.set_cons_zero, List.set_cons_succ, List.append_assoc, List.length_append, List.length_cons, List.singleton_append, List.cons_append, List.nil_append]
    repeat' (first
      | (refine Br_intro ?_ ?_ <;> intro h <;> simp only [go_sem, cond, Nat.reduceAdd, Nat.reduceLeDiff, Nat.reduceEqDiff, Nat.reduceBEq, decide_true, decide_false, Int.toNat_natCast, r, bne', beq', beq_self_eq_true, Bool.not_true, Bool.not_false, hb, gi, si, si0, List.set_cons_zero, List.set_cons_succ, List.append_assoc, List.length_append, List.length_cons, List.singleton_append, List.cons_append, List.nil_append, h])
      | (refine call_eq (RoomOk_ok w0 _ R x hT (hRm _) hbg) ?_; simp only [go_sem, cond, Nat.reduceAdd, Nat.reduceLeDiff, Nat.reduceEqDiff, Nat.reduceBEq, decide_true, decide_false, Int.toNat_natCast, r, bne', beq', beq_self_eq_true, Bool.not_true, Bool.not_false, hb, gi, si, si0, List.set_cons_zero, List.set_cons_succ, List.append_assoc, List.length_append, List.length_cons, List.singleton_append, List.cons_append, List.nil_append, hrm])
      | (refine call_eq (RoomOkS_ok w0 _ R x (hRm _) hbg) ?_; simp only [go_sem, cond, Nat.reduceAdd, Nat.reduceLeDiff, Nat.reduceEqDiff, Nat.reduceBEq, decide_true, decide_false, Int.toNat_natCast, r, bne', beq', beq_self_eq_true, Bool.not_true, Bool.not_false, hb, gi, si, si0, List.set_cons_zero, List.set_cons_succ, List.append_assoc, List.length_append, List.length_cons, List.singleton_append, List.cons_append, List.nil_append, hrm])
      | (refine call_eq (EntryOk_ok w0 _ e hT heb) ?_; simp only [go_sem, cond, Nat.reduceAdd, Nat.reduceLeDiff, Nat.reduceEqDiff, Nat.reduceBEq, decide_true, decide_false, Int.toNat_natCast, r, bne', beq', beq_self_eq_true, Bool.not_true, Bool.not_false, hb, gi, si, si0, List.set_cons_zero, List.set_cons_succ, List.append_assoc, List.length_append, List.length_cons, List.singleton_append, List.cons_append, List.nil_append])
      | (refine call_eq (EntryOkS_ok w0 _ e heb) ?_; simp only [go_sem, cond, Nat.reduceAdd, Nat.reduceLeDiff, Nat.reduceEqDiff, Nat.reduceBEq, decide_true, decide_false, Int.toNat_natCast, r, bne', beq', beq_self_eq_true, Bool.not_true, Bool.not_false, hb, gi, si, si0, List.set_cons_zero, List.set_cons_succ, List.append_assoc, List.length_append, List.length_cons, List.singleton_append, List.cons_append, List.nil_append]))
    case refine_2 =>
      have ho : outR R e = R := by rw [outR, if_neg (by rw [h]; decide)]
      rw [ho] at hR1 hR2 ⊢
      refine call_eq (hbRoom_ok w0 _ R x1 x (hR1 _) (hRm _)) ?_
      simp only [go_sem, cond, Nat.reduceAdd, Nat.reduceLeDiff, Nat.reduceEqDiff, Nat.reduceBEq, decide_true, decide_false, Int.toNat_natCast, r, bne', beq', beq_self_eq_true, Bool.not_true, Bool.not_false, hb, gi, si, si0, List.set_cons_zero, List.set_cons_succ, List.append_assoc, List.length_append, List.length_cons, List.singleton_append, List.cons_append, List.nil_append]
      exact ⟨_, rfl⟩
    obtain ⟨s1, s2, s3, s4, s5⟩ := canB_spec h
    have ho : outR R e = applyR R e := by rw [outR, if_pos h]
    have hrm2 : roomB (outR R e) = true := by rw [ho]; exact s3
    have htw : canB (outR R e) e = false := by rw [ho]; exact canB_twice h
    have hnx : (outR R e).next = IntKind.i64.wrap (R.next + 1) := by rw [ho, applyR_next, s2]
    clear ho
    have hplM : ∀ rest, PlS H 0 (g ++ some (.row 33 [.string R.name, .int .i64 R.next, .slice x.a R.ms.length x.c, .slice x.b R.ks.length x.d, .string R.subj]) :: some (.row 37 [.string e.room, .int .i64 e.seq, .int .i64 e.kind, .string e.user, .string e.nick, .string e.text, .string e.id, .string e.ref, .int .i64 e.num]) :: (L1 ++ rest)) (outR R e) x1 := fun rest => by have := hpl1.more rest; simpa only [List.append_assoc, List.cons_append, List.nil_append] using this
    refine call (RoomApplyI_any w0 H _ (outR R e) x1 e hT (hplM _) hs1 hbo heb hrm2) ?_
    rintro v H2 ⟨x3, L3, rfl, rfl, -, -⟩
    rw [htw]
    clear hpl1 hplM hR1a
    simp only [go_sem, cond, Nat.reduceAdd, Nat.reduceLeDiff, Nat.reduceEqDiff, Nat.reduceBEq, decide_true, decide_false, Int.toNat_natCast, r, bne', beq', beq_self_eq_true, Bool.not_true, Bool.not_false, hb, gi, si, si0, List.set_cons_zero, List.set_cons_succ, List.append_assoc, List.length_append, List.length_cons, List.singleton_append, List.cons_append, List.nil_append, Rm.enc, En.enc]
    refine call_eq (RoomOk_ok w0 _ (outR R e) x1 hT (hR1 _) hbo) ?_
    simp only [go_sem, cond, Nat.reduceAdd, Nat.reduceLeDiff, Nat.reduceEqDiff, Nat.reduceBEq, decide_true, decide_false, Int.toNat_natCast, r, bne', beq', beq_self_eq_true, Bool.not_true, Bool.not_false, hb, gi, si, si0, List.set_cons_zero, List.set_cons_succ, List.append_assoc, List.length_append, List.length_cons, List.singleton_append, List.cons_append, List.nil_append, hrm2]
    refine call_eq (EntryOk_ok w0 _ e hT heb) ?_
    simp only [go_sem, cond, Nat.reduceAdd, Nat.reduceLeDiff, Nat.reduceEqDiff, Nat.reduceBEq, decide_true, decide_false, Int.toNat_natCast, r, bne', beq', beq_self_eq_true, Bool.not_true, Bool.not_false, hb, gi, si, si0, List.set_cons_zero, List.set_cons_succ, List.append_assoc, List.length_append, List.length_cons, List.singleton_append, List.cons_append, List.nil_append, s1, hnx]
    exact ⟨_, rfl⟩
end Go.Proofs.YtmacpgoclhgafaaDoorW.FA
namespace Go.Proofs.YtmacpgoclhgafaaDoorW.FA
open Go.RowKit Go.ChangeShapes Go.WideShapes Go.ChangeAt Go.Deep Go.Proofs.YtmacpgoclhgafaaDoorW.XM Go.Proofs Go.Proofs.YtmacpgoclhgafaaDoorW.XWords Go.Proofs.YtmacpgoclhgafaaDoorW.XRA
set_option maxRecDepth 100000
set_option linter.unusedVariables false
theorem byte_reads : ReadsA Tryd.prog encB 5 (fun _ => True) := by
  intro H enc w base spare held fuel cs x hx
  obtain ⟨n, e, q⟩ := ra_int Tryd.underlying5 _ _ _ _ _ _ _ _ _ hx
  have hq : 0 ≤ n ∧ n ≤ 255 := by
    simp only [Lit.wf, Bool.and_eq_true, decide_eq_true_eq] at q
    exact q
  refine ⟨UInt8.ofNat n.toNat, ?_, trivial⟩
  have h1 : (UInt8.ofNat n.toNat).toNat = n.toNat := by
    rw [UInt8.toNat_ofNat']; omega
  have h2 : (((UInt8.ofNat n.toNat).toNat : Nat) : Int) = n := by rw [h1]; omega
  rw [e, encB, h2]
theorem slice_spot {P : Program} {w : World} {base : Nat} {T e : TypeId} {v : Value} (ht : P.underlying T = some (.slice e)) (h : Value.okWide P w .any base T v) : ∀ a n c, v = .slice (some a) n c → a.spot = none := by
  intro a n c hv
  subst hv
  simp only [Value.okWide, ht] at h
  unfold Cell.okWide at h
  split at h <;> first
    | (rename_i h6; cases h6; done)
    | skip
  all_goals first
    | (unfold Cell.ok at h
       split at h <;> first
         | (rename_i h6; cases h6; done)
         | (exact h.elim)
         | (rename_i h6; cases h6; exact h.2.2.2.1)
         | (exact h.2.2.2.1))
    | skip
theorem code_ok {w : World} {A : Option Addr} {c : Nat} {bs : List UInt8} (k1 : bs.length ≤ c) (k4 : plain (.slice A bs.length c) = true) (k5 : A = none ∧ bs = [] ∨ ∃ b o, A = some ⟨b, o, none⟩ ∧ rdRo w b o (bs.length * 1) = some (flat encB bs)) : CoOk w A c bs :=
  ⟨fun H => (sl_of (enc := encB) (sz := 1) (fun _ => rfl) k5 H).1, k4, k1⟩
theorem code_reads {H : Type} {en : TypeId × Value → H} {w : World} {base : Nat} {spare : Nat → Bool} {held : Bool} {fuel : Nat} {u : Value} {x : DataW H × List MemPlace} (h : DataW.trod en Tryd.prog w base spare held fuel 42 [u] = some x) (hs : ∀ a n c, u = .slice (some a) n c → a.spot = none) : ∃ (A : Option Addr) (c : Nat) (l : List UInt8), u = .slice A l.length c ∧ plain (.slice A l.length c) = true ∧ CoOk w A c l := by
  obtain ⟨A, c, l, h1, h2, h3, h4, h5, h6⟩ := slice_readA byte_reads Tryd.underlying42 (by kernel_rfl) (fun _ => rfl) (by decide) (fun a v hv => by
    simp only [encB, List.mem_singleton] at hv
    subst hv
    rfl) h hs
  exact ⟨A, c, l, h1, h5, code_ok h2 h5 h6⟩
end Go.Proofs.YtmacpgoclhgafaaDoorW.FA
namespace Go.Proofs.YtmacpgoclhgafaaDoorW.XWords
open Go.Shelf Go.RowKit
theorem u8x : U8Extra Tryd.prog Tryd.lays260_ren := {
  n3 := by kernel_rfl
  n4 := by kernel_rfl
  y3 := by kernel_rfl
  y4 := by kernel_rfl
  c5 := by kernel_rfl
  c119 := by kernel_rfl
  c138 := by kernel_rfl }
theorem firstD : Go.Pinned.utf8First = Lib.firstData := by kernel_rfl
theorem acceptD : (Go.Proofs.YtmacpgoclhgafaaDoor.Rows.laid_unicode_utf8_acceptRanges : DataW Unit) = Lib.acceptData := by kernel_rfl
theorem Tabs_of_laid {W : World} (h : laidMetH Tryd.prog Go.Proofs.YtmacpgoclhgafaaDoor.Rows.fnExactRoomApplyRow.laid W) : Tabs W := by
  have h' : laidMet Tryd.prog Go.Proofs.YtmacpgoclhgafaaDoor.Rows.fnExactRoomApplyRow.laid W := by
    rw [← MakeChecks.laidMetH_plain _ _ _ (by kernel_rfl)]
    exact h
  refine utf8Tabs_of_reads Tryd.lays260 u8x ?_ ?_
  · rw [← firstD]
    exact Lib.laidMet.reads h' (List.mem_cons_of_mem _ (List.mem_cons_self ..))
  · rw [← acceptD]
    exact Lib.laidMet.reads h' (List.mem_cons_self ..)
/-- What an initialiser lays, put into a variable's block. -/
def laidIn (cs : List Value) : Obj → Obj
  | .cells _ t frozen => .cells cs.toArray t frozen
  | o => o
def firstCells : List Value := Lib.firstTab.map fun z => Value.int .u8 z
def acceptCells : List Value := (List.range 16).flatMap fun i => [Value.int .u8 (Lib.accLo i), Value.int .u8 (Lib.accHi i)]
/-- A world for the rows' witness: the tables as their initialisers lay them. -/
noncomputable def laidWorld (os : Os) : World :=
  { World.holding Tryd.prog os ⟨#[], #[], []⟩ with heap := ((World.holding Tryd.prog os ⟨#[], #[], []⟩).heap.modify (Tryd.lays260_ren.g 3) (laidIn firstCells)).modify (Tryd.lays260_ren.g 4) (laidIn acceptCells) }
end Go.Proofs.YtmacpgoclhgafaaDoorW.XWords
