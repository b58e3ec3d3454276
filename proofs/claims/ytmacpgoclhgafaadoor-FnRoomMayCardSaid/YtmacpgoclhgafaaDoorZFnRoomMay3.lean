/- FnRoomMay: own words and contracts that the law's proof uses, part 3. No condition of its own. -/
import Derived.Test.YtmacpgoclhgafaaDoorZFnRoomMay2
import Derived.Test.YtmacpgoclhgafaaDoorRows
import Derived.Lib.LaidU8
import Derived.LaidByTextLater
import Derived.WalkKit
import Derived.ProofKit
set_option linter.unusedSimpArgs false
set_option linter.unusedVariables false
namespace Go.Proofs.YtmacpgoclhgafaaDoorW.FA
open Go.RowKit Go.Proofs.YtmacpgoclhgafaaDoorW.XM Go.Proofs Go.Proofs.YtmacpgoclhgafaaDoorW.XWords
set_option maxRecDepth 100000
set_option linter.unusedSimpArgs false
set_option linter.unusedVariables false
variable (w0 : World) (H : Hp)
/-- A log that deeds have made, one behind the other. -/
inductive LogD : List En → Prop
  | nil : LogD []
  | add {es : List En} (na u : ByteArray) (s : Sy) : LogD es → na.size ≤ 100000 → u.size ≤ 100000 → SmS s → LogD (es ++ (doR (roomR na es) es u s).1)
theorem LogD.sm {es : List En} (h : LogD es) : ∀ e ∈ es, SmE e := by
  induction h with
  | nil => simp
  | add na u s h h1 h2 h3 ih =>
    intro e he
    rcases List.mem_append.1 he with he | he
    · exact ih e he
    · exact (doR_sm _ _ _ _ (roomR_ok _ _ h1 ih).1 (runR_rg _ _ _ ih (by simp)) h2 h3).2 e he
theorem LogD.le {es : List En} (h : LogD es) (na u : ByteArray) (s : Sy) (h1 : na.size ≤ 100000) (h2 : u.size ≤ 100000) (h3 : SmS s) : (doR (roomR na es) es u s).1.length ≤ 3 := (doR_sm _ _ _ _ (roomR_ok _ _ h1 h.sm).1 (runR_rg _ _ _ h.sm (by simp)) h2 h3).1
theorem elen (m : En) : m.enc.length = 9 := rfl
theorem SyOk.sm {s : Sy} (h : SyOk s) : SmS s := ⟨by have := h.nick; omega, by have := h.name; omega, by have := h.text; omega, by have := h.id; omega, by have := h.ref; omega⟩
theorem PlO.rm' {B : Hp} {L g : List (Option Ob)} {R : Rm} {x : Ad} (h : PlO (Hx B L) 0 g R x) {M : List (Option Ob)} (hM : M = L ++ g) (lm : R.ms.length ≤ 2000000) (lk : R.ks.length ≤ 2000000) : RmAt w0 (Hx B M) R x := by
  subst hM
  rw [← Hx_Hx]
  exact h.rm lm lk
theorem PlO.rm2 {B : Hp} {L g r : List (Option Ob)} {R : Rm} {x : Ad} (h : PlO (Hx B L) 0 g R x) {M : List (Option Ob)} (hM : M = L ++ (g ++ r)) (lm : R.ms.length ≤ 2000000) (lk : R.ks.length ≤ 2000000) : RmAt w0 (Hx B M) R x := by
  subst hM
  rw [← Hx_Hx]
  exact (h.more r).rm lm lk
theorem esV_ne {H : Hp} {fs : List En} (h : fs ≠ []) : esV H fs = .slice (some ⟨nid H 0, 0, some (fs.length * 9)⟩) fs.length fs.length := by
  cases fs with
  | nil => exact absurd rfl h
  | cons e t => rfl
theorem esO_ne {fs : List En} (h : fs ≠ []) : esO fs = [some (.row 37 (flat En.enc fs))] := by
  cases fs with
  | nil => exact absurd rfl h
  | cons e t => rfl
theorem esV_nil (H : Hp) : esV H [] = .slice none 0 0 := rfl
theorem esO_nil : esO [] = [] := rfl
theorem rd_fs (fs : List En) : rdO (some (some (.row 37 (flat En.enc fs)))) 0 (fs.length * 9) (fs.length * 9) = some (flat En.enc fs) := by
  rw [rdO_row, if_pos ⟨flat_len elen fs, by rw [flat_len elen]; omega⟩, List.drop_zero, List.take_of_length_le (by rw [flat_len elen]; exact Nat.le_refl _)]
set_option maxHeartbeats 20000000 in
theorem l16Log_ok (D : Cd) (B : Hp) (l : List (Option Ob)) (q p : Nat) (hD : CdOk w0 D) (hq : l[q]? = some (dr D p)) (hp : p ≤ 300000) : AFn Tryd.prog w0 74 #[.pointer (some ⟨nid B q, 0, some 2⟩)] (Hx B l) fun v H2 => ∃ p' es k g, H2 = Hx B (l.set q (dr D p') ++ g) ∧ p ≤ p' ∧ p' ≤ p + 2000 ∧ LogD es ∧ es.length ≤ 100 ∧ v = .slice (some ⟨nid B (l.length + k), 0, some (es.length * 9)⟩) es.length es.length ∧ g[k]? = some (some (.row 37 (flat En.enc es))) := by
  have hlq := lt_of_get hq
  have e : Hx B l = Hx B (l.set q (dr D p)) := by conv => lhs; rw [set_same hq, List.append_nil]
  rw [e]
  obtain ⟨sA, gQ, gR, gR0, sR, sR0⟩ := dset hlq
  have gs : ∀ X : Option Ob, (l.set q X)[q]? = some X := fun X => by rw [List.getElem?_set_self hlq]
  have hb : ∀ (g : List (Option Ob)) (Y : Option Ob) (r : List (Option Ob)), (g ++ Y :: r)[g.length]? = some Y := fun g Y r => by rw [List.getElem?_append_right (Nat.le_refl _)]; simp
  have gi : ∀ (g r : List (Option Ob)) (k : Nat), (g ++ r)[g.length + k]? = r[k]? := fun g r k => by rw [List.getElem?_append_right (by omega)]; simp
  have si : ∀ (g r : List (Option Ob)) (k : Nat) (Z : Option Ob), (g ++ r).set (g.length + k) Z = g ++ r.set k Z := fun g r k Z => by rw [List.set_append_right _ _ (by omega)]; simp
  have si0 : ∀ (g r : List (Option Ob)) (Z : Option Ob), (g ++ r).set g.length Z = g ++ r.set 0 Z := fun g r Z => by rw [List.set_append_right _ _ (by omega)]; simp
  refine AFn_of Tryd.func74 rfl (by kernel_rfl) ?_
  have r := Tryd.results74
  simp only [go_sem, cond, Nat.reduceAdd, Nat.reduceLeDiff, Nat.reduceEqDiff, Nat.reduceBEq, decide_true, decide_false, Int.toNat_natCast, r, sA, gQ, gR, gR0, sR, sR0, List.set_set, List.append_assoc, List.length_append, List.length_set, List.singleton_append, List.cons_append, List.nil_append]
  refine Req_intro ⟨_, rfl, rfl⟩ ?_
  simp only [go_sem, cond, Nat.reduceAdd, Nat.reduceLeDiff, Nat.reduceEqDiff, Nat.reduceBEq, decide_true, decide_false, Int.toNat_natCast, r, sA, gQ, gR, gR0, sR, sR0, List.set_set, List.append_assoc, List.length_append, List.length_set, List.singleton_append, List.cons_append, List.nil_append]
  refine bsV_dense ⟨_, XF.zer_3, rfl⟩ rfl rfl (by decide) rfl ?_
  simp only [go_sem, cond, Nat.reduceAdd, Nat.reduceLeDiff, Nat.reduceEqDiff, Nat.reduceBEq, decide_true, decide_false, Int.toNat_natCast, r, sA, gQ, gR, gR0, sR, sR0, List.set_set, List.append_assoc, List.length_append, List.length_set, List.singleton_append, List.cons_append, List.nil_append]
  refine call (one_ok w0 D hD B _ q _ _ _ _ _ (gQ _ _) (by omega) (gR _ _ 1) rfl rfl (by decide) (by decide) (by decide)) ?_
  rintro v H2 ⟨many, -, -, hmem, rfl, rfl⟩
  have hm : 0 ≤ many ∧ many ≤ 22 := by
    simp only [List.mem_cons, List.not_mem_nil, or_false, Value.int.injEq, true_and] at hmem
    omega
  clear hmem
  obtain ⟨m, rfl⟩ : ∃ m : Nat, many = (m : Int) := ⟨many.toNat, by omega⟩
  simp only [go_sem, cond, Nat.reduceAdd, Nat.reduceLeDiff, Nat.reduceEqDiff, Nat.reduceBEq, decide_true, decide_false, Int.toNat_natCast, r, sA, gQ, gR, gR0, sR, sR0, List.set_set, List.append_assoc, List.length_append, List.length_set, List.singleton_append, List.cons_append, List.nil_append]
  refine xw_loop (fun (i : Nat) T H' => i ≤ 3 ∧ T 0 = .pointer (some ⟨nid B q, 0, some 2⟩) ∧ T 4 = .int .i64 (m : Int) ∧ T 5 = .int .i64 i ∧ ∃ es g, LogD es ∧ es.length ≤ 3 * i ∧ T 3 = .slice (some ⟨nid B l.length, 0, some (es.length * 9)⟩) es.length es.length ∧ H' = Hx B (l.set q (dr D (p + 1)) ++ some (.row 37 (flat En.enc es)) :: g)) (fun i => 3 - i) 0 (by kernel_rfl) ⟨Nat.zero_le _, rfl, rfl, rfl, [], _, .nil, Nat.le_refl _, rfl, rfl⟩ ?_
  rintro i T H' ⟨hi, t0, t4, t5, es, g, hes, hlen, t3, rfl⟩
  by_cases hmi : i < m
  · have d1 : ((i : Int) < (m : Int)) = True := eq_true (by omega)
    by_cases hi3 : i < 3
    · have d2 : ((i : Int) < 3) = True := eq_true (by omega)
      have d3 : ((0 : Int) ≤ (i : Int)) = True := eq_true (by omega)
      have hi' : i = 0 ∨ i = 1 ∨ i = 2 := by omega
      obtain ⟨us, hus, c0⟩ : ∃ us : ByteArray, us.size ≤ 100000 ∧ rdO (some (some (.row 9 [.string (ByteArray.mk #[97, 110, 110]), .string (ByteArray.mk #[98, 111, 98]), .string (ByteArray.mk #[99, 121, 100])]))) (i * 1) (3 * 1) 1 = some [.string us] := by
        rcases hi' with rfl | rfl | rfl
        · exact ⟨ByteArray.mk #[97, 110, 110], by decide, rfl⟩
        · exact ⟨ByteArray.mk #[98, 111, 98], by decide, rfl⟩
        · exact ⟨ByteArray.mk #[99, 121, 100], by decide, rfl⟩
      obtain ⟨ni, hni, c1⟩ : ∃ us : ByteArray, us.size ≤ 100000 ∧ rdO (some (some (.row 9 [.string (ByteArray.mk #[65, 110, 110]), .string (ByteArray.mk #[66, 111, 98]), .string (ByteArray.mk #[67, 121, 100])]))) (i * 1) (3 * 1) 1 = some [.string us] := by
        rcases hi' with rfl | rfl | rfl
        · exact ⟨ByteArray.mk #[65, 110, 110], by decide, rfl⟩
        · exact ⟨ByteArray.mk #[66, 111, 98], by decide, rfl⟩
        · exact ⟨ByteArray.mk #[67, 121, 100], by decide, rfl⟩
      simp only [go_sem, cond, Nat.reduceAdd, Nat.reduceLeDiff, Nat.reduceEqDiff, Nat.reduceBEq, decide_true, decide_false, Int.toNat_natCast, r, sA, gQ, gR, gR0, sR, sR0, List.set_set, List.append_assoc, List.length_append, List.length_set, List.singleton_append, List.cons_append, List.nil_append, t0, t3, t4, t5, d1, d2, d3]
      refine bsV_dense ⟨_, XF.zer_9, rfl⟩ rfl rfl (by decide) rfl ?_
      simp only [go_sem, cond, Nat.reduceAdd, Nat.reduceLeDiff, Nat.reduceEqDiff, Nat.reduceBEq, decide_true, decide_false, Int.toNat_natCast, r, sA, gQ, gR, gR0, sR, sR0, List.set_set, List.append_assoc, List.length_append, List.length_set, List.singleton_append, List.cons_append, List.nil_append, t0, t3, t4, t5, d1, d2, d3]
      refine Req_intro (by omega) ?_
      simp only [go_sem, cond, Nat.reduceAdd, Nat.reduceLeDiff, Nat.reduceEqDiff, Nat.reduceBEq, decide_true, decide_false, Int.toNat_natCast, r, sA, gQ, gR, gR0, sR, sR0, List.set_set, List.append_assoc, List.length_append, List.length_set, List.singleton_append, List.cons_append, List.nil_append, t0, t3, t4, t5, d1, d2, d3, hb, gi, si, si0, List.set_cons_zero, List.set_cons_succ, c0]
      (refine xw_tree (id := 7) [0, 1, 0, 0, 0, 0, 48, 112, 240, 511, 1023, 2047, 2047, 4095, 16383] (.q 0 (.q 2 (.q 3 (.q 5 (.b 1 (.e 4 (.q 6 (.q 7 (.e 8 (.e 9 (.q 10 (.q 11 (.q 12 (.q 13 (.q 14 .z)))))))))) 4 (.q 6 (.l 7 (.b 1 (.d 7 (.e 8 (.e 9 (.q 10 (.q 11 (.q 12 (.q 13 (.q 14 .z)))))))) 8 (.e 1 (.d 7 (.e 9 (.q 10 (.q 11 (.q 12 (.q 13 (.q 14 .z)))))))))))))))) rfl (by kernel_rfl) ?_; simp only [go_sem, cond, Nat.reduceAdd, Nat.reduceLeDiff, Nat.reduceEqDiff, Nat.reduceBEq, decide_true, decide_false, Int.toNat_natCast, r, sA, gQ, gR, gR0, sR, sR0, List.set_set, List.append_assoc, List.length_append, List.length_set, List.singleton_append, List.cons_append, List.nil_append, t0, t3, t4, t5, d1, d2, d3, hb, gi, si, si0, List.set_cons_zero, List.set_cons_succ])
      have hro := roomR_ok (ByteArray.mk #[100, 101, 110]) es (by decide) hes.sm
      repeat' (first
        | (refine Both_intro ?_ ?_ <;> simp only [go_sem, cond, Nat.reduceAdd, Nat.reduceLeDiff, Nat.reduceEqDiff, Nat.reduceBEq, decide_true, decide_false, Int.toNat_natCast, r, sA, gQ, gR, gR0, sR, sR0, List.set_set, List.append_assoc, List.length_append, List.length_set, List.singleton_append, List.cons_append, List.nil_append, t0, t3, t4, t5, d1, d2, d3, hb, gi, si, si0, List.set_cons_zero, List.set_cons_succ, c1])
        | (refine call (l8Room_ok w0 _ es _ _ _ (Sl_own elen _ es B _ _ (gR0 _ _)) (by omega) hes.sm) ?_; rintro v H2 ⟨x, g2, rfl, rfl, hpl, -⟩; simp only [go_sem, cond, Nat.reduceAdd, Nat.reduceLeDiff, Nat.reduceEqDiff, Nat.reduceBEq, decide_true, decide_false, Int.toNat_natCast, r, sA, gQ, gR, gR0, sR, sR0, List.set_set, List.append_assoc, List.length_append, List.length_set, List.singleton_append, List.cons_append, List.nil_append, t0, t3, t4, t5, d1, d2, d3, hb, gi, si, si0, List.set_cons_zero, List.set_cons_succ, c1])
        | (refine bsV_dense ⟨_, XF.zer_9, rfl⟩ rfl rfl (by decide) rfl ?_; simp only [go_sem, cond, Nat.reduceAdd, Nat.reduceLeDiff, Nat.reduceEqDiff, Nat.reduceBEq, decide_true, decide_false, Int.toNat_natCast, r, sA, gQ, gR, gR0, sR, sR0, List.set_set, List.append_assoc, List.length_append, List.length_set, List.singleton_append, List.cons_append, List.nil_append, t0, t3, t4, t5, d1, d2, d3, hb, gi, si, si0, List.set_cons_zero, List.set_cons_succ, c1])
        | (refine Req_intro (by omega) ?_; simp only [go_sem, cond, Nat.reduceAdd, Nat.reduceLeDiff, Nat.reduceEqDiff, Nat.reduceBEq, decide_true, decide_false, Int.toNat_natCast, r, sA, gQ, gR, gR0, sR, sR0, List.set_set, List.append_assoc, List.length_append, List.length_set, List.singleton_append, List.cons_append, List.nil_append, t0, t3, t4, t5, d1, d2, d3, hb, gi, si, si0, List.set_cons_zero, List.set_cons_succ, c1]))
      all_goals
        have hadd := LogD.add (ByteArray.mk #[100, 101, 110]) us ⟨6, ByteArray.mk #[100, 101, 110], ni, em, em, em, em, 0, 0, 0⟩ hes (by decide) hus ⟨hni, em_sm, em_sm, em_sm, em_sm⟩
        have hle := hes.le (ByteArray.mk #[100, 101, 110]) us ⟨6, ByteArray.mk #[100, 101, 110], ni, em, em, em, em, 0, 0, 0⟩ (by decide) hus ⟨hni, em_sm, em_sm, em_sm, em_sm⟩
        first
          | (refine call_eq (l6Do_ok w0 _ (roomR (ByteArray.mk #[100, 101, 110]) es) x es _ _ us ⟨6, ByteArray.mk #[100, 101, 110], ni, em, em, em, em, 0, 0, 0⟩ (PlO.rm' w0 hpl ?_ (by omega) (by omega)) (Sl_own elen _ es B _ _ (gR0 _ _)) (by omega)) ?_
             · simp only [List.append_assoc, List.cons_append, List.nil_append]
               done)
          | (refine call_eq (l6Do_ok w0 _ (roomR (ByteArray.mk #[100, 101, 110]) es) x es _ _ us ⟨6, ByteArray.mk #[100, 101, 110], ni, em, em, em, em, 0, 0, 0⟩ (PlO.rm2 w0 (r := [some (.row 9 [.string (ByteArray.mk #[65, 110, 110]), .string (ByteArray.mk #[66, 111, 98]), .string (ByteArray.mk #[67, 121, 100])])]) hpl ?_ (by omega) (by omega)) (Sl_own elen _ es B _ _ (gR0 _ _)) (by omega)) ?_
             · simp only [List.append_assoc, List.cons_append, List.nil_append]
               done)
        generalize doR _ _ _ _ = rs at *
        obtain ⟨fs, code⟩ := rs
        simp only at hadd hle
        by_cases hf : fs = []
        · subst hf
          simp only [go_sem, cond, Nat.reduceAdd, Nat.reduceLeDiff, Nat.reduceEqDiff, Nat.reduceBEq, decide_true, decide_false, Int.toNat_natCast, r, sA, gQ, gR, gR0, sR, sR0, List.set_set, List.append_assoc, List.length_append, List.length_set, List.singleton_append, List.cons_append, List.nil_append, t0, t3, t4, t5, hb, gi, si, si0, List.set_cons_zero, List.set_cons_succ, deedV, esV_nil, esO_nil]
          refine appS_full (m := 0) (sl := es.length) _ _ _ _ _ _ _ l.length _ _ _ (gR0 _ _) rfl (flat_len elen _) XF.lay_37 (by decide) (by rfl) (by omega) (by omega) ?_
          simp only [go_sem, cond, Nat.reduceAdd, Nat.reduceLeDiff, Nat.reduceEqDiff, Nat.reduceBEq, decide_true, decide_false, Int.toNat_natCast, r, sA, gQ, gR, gR0, sR, sR0, List.set_set, List.append_assoc, List.length_append, List.length_set, List.singleton_append, List.cons_append, List.nil_append, t0, t3, t4, t5, hb, gi, si, si0, List.set_cons_zero, List.set_cons_succ, List.append_nil]
          rw [List.append_nil] at hadd
          exact ⟨i + 1, ⟨by omega, t0, t4, int_succ hi3 (by omega), es, _, hes, by omega, rfl, rfl⟩, lt_meas hi3⟩
        · have v1 := fun H => esV_ne (H := H) hf
          have v2 := esO_ne hf
          have v3 := rd_fs fs
          simp only [go_sem, cond, Nat.reduceAdd, Nat.reduceLeDiff, Nat.reduceEqDiff, Nat.reduceBEq, decide_true, decide_false, Int.toNat_natCast, r, sA, gQ, gR, gR0, sR, sR0, List.set_set, List.append_assoc, List.length_append, List.length_set, List.singleton_append, List.cons_append, List.nil_append, t0, t3, t4, t5, hb, gi, si, si0, List.set_cons_zero, List.set_cons_succ, deedV, v1, v2, v3, Nat.add_zero]
          refine appS_full (m := fs.length) (sl := es.length) _ _ _ _ _ _ _ l.length _ _ _ (gR0 _ _) rfl (flat_len elen _) XF.lay_37 (by decide) (flat_len elen _) (by omega) (by omega) ?_
          simp only [go_sem, cond, Nat.reduceAdd, Nat.reduceLeDiff, Nat.reduceEqDiff, Nat.reduceBEq, decide_true, decide_false, Int.toNat_natCast, r, sA, gQ, gR, gR0, sR, sR0, List.set_set, List.append_assoc, List.length_append, List.length_set, List.singleton_append, List.cons_append, List.nil_append, t0, t3, t4, t5, hb, gi, si, si0, List.set_cons_zero, List.set_cons_succ]
          refine ⟨i + 1, ⟨by omega, t0, t4, int_succ hi3 (by omega), es ++ fs, _, hadd, by rw [List.length_append]; omega, by rw [List.length_append]; rfl, by rw [flat_app]⟩, lt_meas hi3⟩
    · have d2 : ((i : Int) < 3) = False := eq_false (by omega)
      simp only [go_sem, cond, Nat.reduceAdd, Nat.reduceLeDiff, Nat.reduceEqDiff, Nat.reduceBEq, decide_true, decide_false, Int.toNat_natCast, r, sA, gQ, gR, gR0, sR, sR0, List.set_set, List.append_assoc, List.length_append, List.length_set, List.singleton_append, List.cons_append, List.nil_append, t0, t3, t4, t5, d1, d2]
      have t0' := t0
      have t3' := t3
      clear d1 t0 t3 t4 t5 hmi
      refine xw_loop (fun (i : Nat) T H' => i ≤ 22 ∧ T 0 = .pointer (some ⟨nid B q, 0, some 2⟩) ∧ T 9 = .int .i64 i ∧ ∃ p' es g, p ≤ p' ∧ p' + i * 80 ≤ p + 2000 ∧ LogD es ∧ es.length ≤ 60 ∧ T 3 = .slice (some ⟨nid B l.length, 0, some (es.length * 9)⟩) es.length es.length ∧ H' = Hx B (l.set q (dr D p') ++ some (.row 37 (flat En.enc es)) :: g)) (fun i => i) m (by kernel_rfl) ⟨by omega, t0', rfl, p + 1, es, g, by omega, by omega, hes, by omega, t3', rfl⟩ ?_
      clear hlen hes t0' t3'
      clear es g
      rintro i T H' ⟨hi, t0, t9, p', es, g, hp1, hp2, hes, hlen, t3, rfl⟩
      by_cases hpos : 0 < i
      · obtain ⟨i, rfl⟩ : ∃ j, i = j + 1 := ⟨i - 1, by omega⟩
        have d1 : ((0 : Int) < ((i + 1 : Nat) : Int)) = True := eq_true (by omega)
        have wr : IntKind.i64.wrap (((i + 1 : Nat) : Int) - 1) = (i : Int) := by rw [wrap_i64 (by omega) (by omega)]; omega
        simp only [go_sem, cond, Nat.reduceAdd, Nat.reduceLeDiff, Nat.reduceEqDiff, Nat.reduceBEq, decide_true, decide_false, Int.toNat_natCast, r, sA, gQ, gR, gR0, sR, sR0, List.set_set, List.append_assoc, List.length_append, List.length_set, List.singleton_append, List.cons_append, List.nil_append, t0, t3, t9, d1]
        refine call (l16Say_ok w0 D B _ q _ hD (gQ _ _) (by omega)) ?_
        rintro v H2 ⟨p1, rfl, h1, h2, ⟨y1, y2, y3, y4, y5, y6, y7, y8, y9, y10⟩, hy, rfl⟩
        have hy' := hy.sm
        have hyr : y2.size ≤ 500 := hy.room
        clear hy
        simp only [go_sem, cond, Nat.reduceAdd, Nat.reduceLeDiff, Nat.reduceEqDiff, Nat.reduceBEq, decide_true, decide_false, Int.toNat_natCast, r, sA, gQ, gR, gR0, sR, sR0, List.set_set, List.append_assoc, List.length_append, List.length_set, List.singleton_append, List.cons_append, List.nil_append, t0, t3, t9, d1, hb, gi, si, si0, List.set_cons_zero, List.set_cons_succ, wr, Sy.enc]
        refine call (l16User_ok w0 D B _ q _ hD (gQ _ _) (by omega)) ?_
        rintro v H2 ⟨p2, rfl, h3, h4, us, hus, rfl⟩
        simp only [go_sem, cond, Nat.reduceAdd, Nat.reduceLeDiff, Nat.reduceEqDiff, Nat.reduceBEq, decide_true, decide_false, Int.toNat_natCast, r, sA, gQ, gR, gR0, sR, sR0, List.set_set, List.append_assoc, List.length_append, List.length_set, List.singleton_append, List.cons_append, List.nil_append, t0, t3, t9, d1, hb, gi, si, si0, List.set_cons_zero, List.set_cons_succ, wr]
        refine call (pick_ok w0 D hD B _ q _ _ (gQ _ _) (by omega)) ?_
        rintro v H2 ⟨k, rfl, -, -, rfl⟩
        simp only [go_sem, cond, Nat.reduceAdd, Nat.reduceLeDiff, Nat.reduceEqDiff, Nat.reduceBEq, decide_true, decide_false, Int.toNat_natCast, r, sA, gQ, gR, gR0, sR, sR0, List.set_set, List.append_assoc, List.length_append, List.length_set, List.singleton_append, List.cons_append, List.nil_append, t0, t3, t9, d1, hb, gi, si, si0, List.set_cons_zero, List.set_cons_succ, wr]
        refine Br_intro ?_ ?_ <;> intro h0 <;> simp only [go_sem, cond, Nat.reduceAdd, Nat.reduceLeDiff, Nat.reduceEqDiff, Nat.reduceBEq, decide_true, decide_false, Int.toNat_natCast, r, sA, gQ, gR, gR0, sR, sR0, List.set_set, List.append_assoc, List.length_append, List.length_set, List.singleton_append, List.cons_append, List.nil_append, t0, t3, t9, d1, hb, gi, si, si0, List.set_cons_zero, List.set_cons_succ, wr, h0]
        · refine call (l16Room_ok w0 D B _ q _ hD (gQ _ _) (by omega)) ?_
          rintro v H2 ⟨p3, rfl, h5, h6, ro, hro0, rfl⟩
          simp only [go_sem, cond, Nat.reduceAdd, Nat.reduceLeDiff, Nat.reduceEqDiff, Nat.reduceBEq, decide_true, decide_false, Int.toNat_natCast, r, sA, gQ, gR, gR0, sR, sR0, List.set_set, List.append_assoc, List.length_append, List.length_set, List.singleton_append, List.cons_append, List.nil_append, t0, t3, t9, d1, hb, gi, si, si0, List.set_cons_zero, List.set_cons_succ, wr]
          refine call (l16Nick_ok w0 D B _ q _ hD (gQ _ _) (by omega)) ?_
          rintro v H2 ⟨p4, rfl, h7, h8, ni, hni, rfl⟩
          simp only [go_sem, cond, Nat.reduceAdd, Nat.reduceLeDiff, Nat.reduceEqDiff, Nat.reduceBEq, decide_true, decide_false, Int.toNat_natCast, r, sA, gQ, gR, gR0, sR, sR0, List.set_set, List.append_assoc, List.length_append, List.length_set, List.singleton_append, List.cons_append, List.nil_append, t0, t3, t9, d1, hb, gi, si, si0, List.set_cons_zero, List.set_cons_succ, wr]
          (refine xw_open (id := 17) [0, 0, 2, 7, 0, 0, 0, 127, 255, 511, 511, 1023, 4095] [.q 0, .q 1, .q 4, .q 5, .q 2, .l 6, .e 3, .d 6, .e 7, .q 8, .q 9, .q 10, .q 11, .q 12] rfl (by kernel_rfl) ?_; simp only [go_sem, cond, Nat.reduceAdd, Nat.reduceLeDiff, Nat.reduceEqDiff, Nat.reduceBEq, decide_true, decide_false, Int.toNat_natCast, r, sA, gQ, gR, gR0, sR, sR0, List.set_set, List.append_assoc, List.length_append, List.length_set, List.singleton_append, List.cons_append, List.nil_append, t0, t3, t9, d1, hb, gi, si, si0, List.set_cons_zero, List.set_cons_succ, wr])
          have hS : SmS ⟨6, ro, ni, em, em, em, em, 0, 0, 0⟩ := ⟨by show ni.size ≤ 100000; omega, em_sm, em_sm, em_sm, em_sm⟩
          have hro := roomR_ok ro es (by omega) hes.sm
          refine call (l8Room_ok w0 _ es _ _ _ (Sl_own elen _ es B _ _ (gR0 _ _)) (by omega) hes.sm) ?_
          rintro v H2 ⟨x, g2, rfl, rfl, hpl, -⟩
          simp only [go_sem, cond, Nat.reduceAdd, Nat.reduceLeDiff, Nat.reduceEqDiff, Nat.reduceBEq, decide_true, decide_false, Int.toNat_natCast, r, sA, gQ, gR, gR0, sR, sR0, List.set_set, List.append_assoc, List.length_append, List.length_set, List.singleton_append, List.cons_append, List.nil_append, t0, t3, t9, d1, hb, gi, si, si0, List.set_cons_zero, List.set_cons_succ, wr]
          have hadd := LogD.add ro us ⟨6, ro, ni, em, em, em, em, 0, 0, 0⟩ hes (by omega) (by omega) hS
          have hle := hes.le ro us ⟨6, ro, ni, em, em, em, em, 0, 0, 0⟩ (by omega) (by omega) hS
          refine call_eq (l6Do_ok w0 _ (roomR ro es) x es _ _ us ⟨6, ro, ni, em, em, em, em, 0, 0, 0⟩ (PlO.rm' w0 hpl ?_ (by omega) (by omega)) (Sl_own elen _ es B _ _ (gR0 _ _)) (by omega)) ?_
          · simp only [List.append_assoc, List.cons_append, List.nil_append]
          generalize doR _ _ _ _ = rs at *
          obtain ⟨fs, code⟩ := rs
          simp only at hadd hle
          have wl : IntKind.i64.wrap ((es.length : Int) + (fs.length : Int)) = ((es.length + fs.length : Nat) : Int) := by rw [wrap_i64 (by omega) (by omega)]; omega
          by_cases hf : fs = []
          · subst hf
            have wl0 : IntKind.i64.wrap ((es.length : Int) + ((0 : Nat) : Int)) = (es.length : Int) := wl
            simp only [go_sem, cond, Nat.reduceAdd, Nat.reduceLeDiff, Nat.reduceEqDiff, Nat.reduceBEq, decide_true, decide_false, Int.toNat_natCast, r, sA, gQ, gR, gR0, sR, sR0, List.set_set, List.append_assoc, List.length_append, List.length_set, List.singleton_append, List.cons_append, List.nil_append, t0, t3, t9, d1, hb, gi, si, si0, List.set_cons_zero, List.set_cons_succ, wr, deedV, esV_nil, esO_nil, wl0]
            refine Br_intro ?_ ?_ <;> intro h10 <;> simp only [go_sem, cond, Nat.reduceAdd, Nat.reduceLeDiff, Nat.reduceEqDiff, Nat.reduceBEq, decide_true, decide_false, Int.toNat_natCast, r, sA, gQ, gR, gR0, sR, sR0, List.set_set, List.append_assoc, List.length_append, List.length_set, List.singleton_append, List.cons_append, List.nil_append, t0, t3, t9, d1, hb, gi, si, si0, List.set_cons_zero, List.set_cons_succ, wr, wl0, h10]
            · refine Br_intro ?_ ?_ <;> intro h11 <;> simp only [go_sem, cond, Nat.reduceAdd, Nat.reduceLeDiff, Nat.reduceEqDiff, Nat.reduceBEq, decide_true, decide_false, Int.toNat_natCast, r, sA, gQ, gR, gR0, sR, sR0, List.set_set, List.append_assoc, List.length_append, List.length_set, List.singleton_append, List.cons_append, List.nil_append, t0, t3, t9, d1, hb, gi, si, si0, List.set_cons_zero, List.set_cons_succ, wr, wl0, h11]
              · refine appS_full (m := 0) (sl := es.length) _ _ _ _ _ _ _ l.length _ _ _ (gR0 _ _) rfl (flat_len elen _) XF.lay_37 (by decide) (by rfl) (by omega) (by omega) ?_
                simp only [go_sem, cond, Nat.reduceAdd, Nat.reduceLeDiff, Nat.reduceEqDiff, Nat.reduceBEq, decide_true, decide_false, Int.toNat_natCast, r, sA, gQ, gR, gR0, sR, sR0, List.set_set, List.append_assoc, List.length_append, List.length_set, List.singleton_append, List.cons_append, List.nil_append, t0, t3, t9, d1, hb, gi, si, si0, List.set_cons_zero, List.set_cons_succ, wr, List.append_nil]
                exact ⟨i, ⟨by omega, t0, rfl, _, es, _, by omega, by omega, hes, hlen, rfl, rfl⟩, Nat.lt_succ_self i⟩
              · exact ⟨i, ⟨by omega, t0, rfl, _, es, _, by omega, by omega, hes, hlen, t3, rfl⟩, Nat.lt_succ_self i⟩
            · exact ⟨i, ⟨by omega, t0, rfl, _, es, _, by omega, by omega, hes, hlen, t3, rfl⟩, Nat.lt_succ_self i⟩
          · have v1 := fun H => esV_ne (H := H) hf
            have v2 := esO_ne hf
            have v3 := rd_fs fs
            simp only [go_sem, cond, Nat.reduceAdd, Nat.reduceLeDiff, Nat.reduceEqDiff, Nat.reduceBEq, decide_true, decide_false, Int.toNat_natCast, r, sA, gQ, gR, gR0, sR, sR0, List.set_set, List.append_assoc, List.length_append, List.length_set, List.singleton_append, List.cons_append, List.nil_append, t0, t3, t9, d1, hb, gi, si, si0, List.set_cons_zero, List.set_cons_succ, wr, deedV, v1, v2, v3, Nat.add_zero, wl]
            refine Br_intro ?_ ?_ <;> intro h10 <;> simp only [go_sem, cond, Nat.reduceAdd, Nat.reduceLeDiff, Nat.reduceEqDiff, Nat.reduceBEq, decide_true, decide_false, Int.toNat_natCast, r, sA, gQ, gR, gR0, sR, sR0, List.set_set, List.append_assoc, List.length_append, List.length_set, List.singleton_append, List.cons_append, List.nil_append, t0, t3, t9, d1, hb, gi, si, si0, List.set_cons_zero, List.set_cons_succ, wr, wl, h10]
            · refine Br_intro ?_ ?_ <;> intro h11 <;> simp only [go_sem, cond, Nat.reduceAdd, Nat.reduceLeDiff, Nat.reduceEqDiff, Nat.reduceBEq, decide_true, decide_false, Int.toNat_natCast, r, sA, gQ, gR, gR0, sR, sR0, List.set_set, List.append_assoc, List.length_append, List.length_set, List.singleton_append, List.cons_append, List.nil_append, t0, t3, t9, d1, hb, gi, si, si0, List.set_cons_zero, List.set_cons_succ, wr, wl, h11, v3, Nat.add_zero]
              · have h12 : es.length + fs.length ≤ 60 := by have := of_decide_eq_true h11; omega
                refine appS_full (m := fs.length) (sl := es.length) _ _ _ _ _ _ _ l.length _ _ _ (gR0 _ _) rfl (flat_len elen _) XF.lay_37 (by decide) (flat_len elen _) (by omega) (by omega) ?_
                simp only [go_sem, cond, Nat.reduceAdd, Nat.reduceLeDiff, Nat.reduceEqDiff, Nat.reduceBEq, decide_true, decide_false, Int.toNat_natCast, r, sA, gQ, gR, gR0, sR, sR0, List.set_set, List.append_assoc, List.length_append, List.length_set, List.singleton_append, List.cons_append, List.nil_append, t0, t3, t9, d1, hb, gi, si, si0, List.set_cons_zero, List.set_cons_succ, wr]
                exact ⟨i, ⟨by omega, t0, rfl, p4, es ++ fs, _, by omega, by omega, hadd, by rw [List.length_append]; exact h12, by rw [List.length_append]; rfl, by rw [flat_app]⟩, Nat.lt_succ_self i⟩
              · exact ⟨i, ⟨by omega, t0, rfl, _, es, _, by omega, by omega, hes, hlen, t3, rfl⟩, Nat.lt_succ_self i⟩
            · exact ⟨i, ⟨by omega, t0, rfl, _, es, _, by omega, by omega, hes, hlen, t3, rfl⟩, Nat.lt_succ_self i⟩
        · refine Br_intro ?_ ?_ <;> intro h9 <;> simp only [go_sem, cond, Nat.reduceAdd, Nat.reduceLeDiff, Nat.reduceEqDiff, Nat.reduceBEq, decide_true, decide_false, Int.toNat_natCast, r, sA, gQ, gR, gR0, sR, sR0, List.set_set, List.append_assoc, List.length_append, List.length_set, List.singleton_append, List.cons_append, List.nil_append, t0, t3, t9, d1, hb, gi, si, si0, List.set_cons_zero, List.set_cons_succ, wr, h9]
          · exact ⟨i, ⟨by omega, t0, rfl, _, es, _, by omega, by omega, hes, hlen, t3, rfl⟩, Nat.lt_succ_self i⟩
          (refine xw_open (id := 17) [0, 0, 2, 7, 0, 0, 0, 127, 255, 511, 511, 1023, 4095] [.q 0, .q 1, .q 4, .q 5, .q 2, .l 6, .e 3, .d 6, .e 7, .q 8, .q 9, .q 10, .q 11, .q 12] rfl (by kernel_rfl) ?_; simp only [go_sem, cond, Nat.reduceAdd, Nat.reduceLeDiff, Nat.reduceEqDiff, Nat.reduceBEq, decide_true, decide_false, Int.toNat_natCast, r, sA, gQ, gR, gR0, sR, sR0, List.set_set, List.append_assoc, List.length_append, List.length_set, List.singleton_append, List.cons_append, List.nil_append, t0, t3, t9, d1, hb, gi, si, si0, List.set_cons_zero, List.set_cons_succ, wr])
          have hS : SmS ⟨y1, y2, y3, y4, y5, y6, y7, y8, y9, y10⟩ := hy'
          have hro := roomR_ok y2 es (by omega) hes.sm
          refine call (l8Room_ok w0 _ es _ _ _ (Sl_own elen _ es B _ _ (gR0 _ _)) (by omega) hes.sm) ?_
          rintro v H2 ⟨x, g2, rfl, rfl, hpl, -⟩
          simp only [go_sem, cond, Nat.reduceAdd, Nat.reduceLeDiff, Nat.reduceEqDiff, Nat.reduceBEq, decide_true, decide_false, Int.toNat_natCast, r, sA, gQ, gR, gR0, sR, sR0, List.set_set, List.append_assoc, List.length_append, List.length_set, List.singleton_append, List.cons_append, List.nil_append, t0, t3, t9, d1, hb, gi, si, si0, List.set_cons_zero, List.set_cons_succ, wr]
          have hadd := LogD.add y2 us ⟨y1, y2, y3, y4, y5, y6, y7, y8, y9, y10⟩ hes (by omega) (by omega) hS
          have hle := hes.le y2 us ⟨y1, y2, y3, y4, y5, y6, y7, y8, y9, y10⟩ (by omega) (by omega) hS
          refine call_eq (l6Do_ok w0 _ (roomR y2 es) x es _ _ us ⟨y1, y2, y3, y4, y5, y6, y7, y8, y9, y10⟩ (PlO.rm' w0 hpl ?_ (by omega) (by omega)) (Sl_own elen _ es B _ _ (gR0 _ _)) (by omega)) ?_
          · simp only [List.append_assoc, List.cons_append, List.nil_append]
          generalize doR _ _ _ _ = rs at *
          obtain ⟨fs, code⟩ := rs
          simp only at hadd hle
          have wl : IntKind.i64.wrap ((es.length : Int) + (fs.length : Int)) = ((es.length + fs.length : Nat) : Int) := by rw [wrap_i64 (by omega) (by omega)]; omega
          by_cases hf : fs = []
          · subst hf
            have wl0 : IntKind.i64.wrap ((es.length : Int) + ((0 : Nat) : Int)) = (es.length : Int) := wl
            simp only [go_sem, cond, Nat.reduceAdd, Nat.reduceLeDiff, Nat.reduceEqDiff, Nat.reduceBEq, decide_true, decide_false, Int.toNat_natCast, r, sA, gQ, gR, gR0, sR, sR0, List.set_set, List.append_assoc, List.length_append, List.length_set, List.singleton_append, List.cons_append, List.nil_append, t0, t3, t9, d1, hb, gi, si, si0, List.set_cons_zero, List.set_cons_succ, wr, deedV, esV_nil, esO_nil, wl0]
            refine Br_intro ?_ ?_ <;> intro h10 <;> simp only [go_sem, cond, Nat.reduceAdd, Nat.reduceLeDiff, Nat.reduceEqDiff, Nat.reduceBEq, decide_true, decide_false, Int.toNat_natCast, r, sA, gQ, gR, gR0, sR, sR0, List.set_set, List.append_assoc, List.length_append, List.length_set, List.singleton_append, List.cons_append, List.nil_append, t0, t3, t9, d1, hb, gi, si, si0, List.set_cons_zero, List.set_cons_succ, wr, wl0, h10]
            · refine Br_intro ?_ ?_ <;> intro h11 <;> simp only [go_sem, cond, Nat.reduceAdd, Nat.reduceLeDiff, Nat.reduceEqDiff, Nat.reduceBEq, decide_true, decide_false, Int.toNat_natCast, r, sA, gQ, gR, gR0, sR, sR0, List.set_set, List.append_assoc, List.length_append, List.length_set, List.singleton_append, List.cons_append, List.nil_append, t0, t3, t9, d1, hb, gi, si, si0, List.set_cons_zero, List.set_cons_succ, wr, wl0, h11]
              · refine appS_full (m := 0) (sl := es.length) _ _ _ _ _ _ _ l.length _ _ _ (gR0 _ _) rfl (flat_len elen _) XF.lay_37 (by decide) (by rfl) (by omega) (by omega) ?_
                simp only [go_sem, cond, Nat.reduceAdd, Nat.reduceLeDiff, Nat.reduceEqDiff, Nat.reduceBEq, decide_true, decide_false, Int.toNat_natCast, r, sA, gQ, gR, gR0, sR, sR0, List.set_set, List.append_assoc, List.length_append, List.length_set, List.singleton_append, List.cons_append, List.nil_append, t0, t3, t9, d1, hb, gi, si, si0, List.set_cons_zero, List.set_cons_succ, wr, List.append_nil]
                exact ⟨i, ⟨by omega, t0, rfl, _, es, _, by omega, by omega, hes, hlen, rfl, rfl⟩, Nat.lt_succ_self i⟩
              · exact ⟨i, ⟨by omega, t0, rfl, _, es, _, by omega, by omega, hes, hlen, t3, rfl⟩, Nat.lt_succ_self i⟩
            · exact ⟨i, ⟨by omega, t0, rfl, _, es, _, by omega, by omega, hes, hlen, t3, rfl⟩, Nat.lt_succ_self i⟩
          · have v1 := fun H => esV_ne (H := H) hf
            have v2 := esO_ne hf
            have v3 := rd_fs fs
            simp only [go_sem, cond, Nat.reduceAdd, Nat.reduceLeDiff, Nat.reduceEqDiff, Nat.reduceBEq, decide_true, decide_false, Int.toNat_natCast, r, sA, gQ, gR, gR0, sR, sR0, List.set_set, List.append_assoc, List.length_append, List.length_set, List.singleton_append, List.cons_append, List.nil_append, t0, t3, t9, d1, hb, gi, si, si0, List.set_cons_zero, List.set_cons_succ, wr, deedV, v1, v2, v3, Nat.add_zero, wl]
            refine Br_intro ?_ ?_ <;> intro h10 <;> simp only [go_sem, cond, Nat.reduceAdd, Nat.reduceLeDiff, Nat.reduceEqDiff, Nat.reduceBEq, decide_true, decide_false, Int.toNat_natCast, r, sA, gQ, gR, gR0, sR, sR0, List.set_set, List.append_assoc, List.length_append, List.length_set, List.singleton_append, List.cons_append, List.nil_append, t0, t3, t9, d1, hb, gi, si, si0, List.set_cons_zero, List.set_cons_succ, wr, wl, h10]
            · refine Br_intro ?_ ?_ <;> intro h11 <;> simp only [go_sem, cond, Nat.reduceAdd, Nat.reduceLeDiff, Nat.reduceEqDiff, Nat.reduceBEq, decide_true, decide_false, Int.toNat_natCast, r, sA, gQ, gR, gR0, sR, sR0, List.set_set, List.append_assoc, List.length_append, List.length_set, List.singleton_append, List.cons_append, List.nil_append, t0, t3, t9, d1, hb, gi, si, si0, List.set_cons_zero, List.set_cons_succ, wr, wl, h11, v3, Nat.add_zero]
              · have h12 : es.length + fs.length ≤ 60 := by have := of_decide_eq_true h11; omega
                refine appS_full (m := fs.length) (sl := es.length) _ _ _ _ _ _ _ l.length _ _ _ (gR0 _ _) rfl (flat_len elen _) XF.lay_37 (by decide) (flat_len elen _) (by omega) (by omega) ?_
                simp only [go_sem, cond, Nat.reduceAdd, Nat.reduceLeDiff, Nat.reduceEqDiff, Nat.reduceBEq, decide_true, decide_false, Int.toNat_natCast, r, sA, gQ, gR, gR0, sR, sR0, List.set_set, List.append_assoc, List.length_append, List.length_set, List.singleton_append, List.cons_append, List.nil_append, t0, t3, t9, d1, hb, gi, si, si0, List.set_cons_zero, List.set_cons_succ, wr]
                exact ⟨i, ⟨by omega, t0, rfl, p2 + 1, es ++ fs, _, by omega, by omega, hadd, by rw [List.length_append]; exact h12, by rw [List.length_append]; rfl, by rw [flat_app]⟩, Nat.lt_succ_self i⟩
              · exact ⟨i, ⟨by omega, t0, rfl, _, es, _, by omega, by omega, hes, hlen, t3, rfl⟩, Nat.lt_succ_self i⟩
            · exact ⟨i, ⟨by omega, t0, rfl, _, es, _, by omega, by omega, hes, hlen, t3, rfl⟩, Nat.lt_succ_self i⟩
      · have d1 : ((0 : Int) < (i : Int)) = False := eq_false (by omega)
        simp only [go_sem, cond, Nat.reduceAdd, Nat.reduceLeDiff, Nat.reduceEqDiff, Nat.reduceBEq, decide_true, decide_false, Int.toNat_natCast, r, sA, gQ, gR, gR0, sR, sR0, List.set_set, List.append_assoc, List.length_append, List.length_set, List.singleton_append, List.cons_append, List.nil_append, t0, t3, t9, d1]
        exact ⟨p', es, 0, _, rfl, by omega, by omega, hes, by omega, rfl, rfl⟩
  · have d1 : ((i : Int) < (m : Int)) = False := eq_false (by omega)
    simp only [go_sem, cond, Nat.reduceAdd, Nat.reduceLeDiff, Nat.reduceEqDiff, Nat.reduceBEq, decide_true, decide_false, Int.toNat_natCast, r, sA, gQ, gR, gR0, sR, sR0, List.set_set, List.append_assoc, List.length_append, List.length_set, List.singleton_append, List.cons_append, List.nil_append, t0, t3, t4, t5, d1]
    have t0' := t0
    have t3' := t3
    clear d1 t0 t3 t4 t5 hmi
    refine xw_loop (fun (i : Nat) T H' => i ≤ 22 ∧ T 0 = .pointer (some ⟨nid B q, 0, some 2⟩) ∧ T 9 = .int .i64 i ∧ ∃ p' es g, p ≤ p' ∧ p' + i * 80 ≤ p + 2000 ∧ LogD es ∧ es.length ≤ 60 ∧ T 3 = .slice (some ⟨nid B l.length, 0, some (es.length * 9)⟩) es.length es.length ∧ H' = Hx B (l.set q (dr D p') ++ some (.row 37 (flat En.enc es)) :: g)) (fun i => i) m (by kernel_rfl) ⟨by omega, t0', rfl, p + 1, es, g, by omega, by omega, hes, by omega, t3', rfl⟩ ?_
    clear hlen hes t0' t3'
    clear es g
    rintro i T H' ⟨hi, t0, t9, p', es, g, hp1, hp2, hes, hlen, t3, rfl⟩
    by_cases hpos : 0 < i
    · obtain ⟨i, rfl⟩ : ∃ j, i = j + 1 := ⟨i - 1, by omega⟩
      have d1 : ((0 : Int) < ((i + 1 : Nat) : Int)) = True := eq_true (by omega)
      have wr : IntKind.i64.wrap (((i + 1 : Nat) : Int) - 1) = (i : Int) := by rw [wrap_i64 (by omega) (by omega)]; omega
      simp only [go_sem, cond, Nat.reduceAdd, Nat.reduceLeDiff, Nat.reduceEqDiff, Nat.reduceBEq, decide_true, decide_false, Int.toNat_natCast, r, sA, gQ, gR, gR0, sR, sR0, List.set_set, List.append_assoc, List.length_append, List.length_set, List.singleton_append, List.cons_append, List.nil_append, t0, t3, t9, d1]
      refine call (l16Say_ok w0 D B _ q _ hD (gQ _ _) (by omega)) ?_
      rintro v H2 ⟨p1, rfl, h1, h2, ⟨y1, y2, y3, y4, y5, y6, y7, y8, y9, y10⟩, hy, rfl⟩
      have hy' := hy.sm
      have hyr : y2.size ≤ 500 := hy.room
      clear hy
      simp only [go_sem, cond, Nat.reduceAdd, Nat.reduceLeDiff, Nat.reduceEqDiff, Nat.reduceBEq, decide_true, decide_false, Int.toNat_natCast, r, sA, gQ, gR, gR0, sR, sR0, List.set_set, List.append_assoc, List.length_append, List.length_set, List.singleton_append, List.cons_append, List.nil_append, t0, t3, t9, d1, hb, gi, si, si0, List.set_cons_zero, List.set_cons_succ, wr, Sy.enc]
      refine call (l16User_ok w0 D B _ q _ hD (gQ _ _) (by omega)) ?_
      rintro v H2 ⟨p2, rfl, h3, h4, us, hus, rfl⟩
      simp only [go_sem, cond, Nat.reduceAdd, Nat.reduceLeDiff, Nat.reduceEqDiff, Nat.reduceBEq, decide_true, decide_false, Int.toNat_natCast, r, sA, gQ, gR, gR0, sR, sR0, List.set_set, List.append_assoc, List.length_append, List.length_set, List.singleton_append, List.cons_append, List.nil_append, t0, t3, t9, d1, hb, gi, si, si0, List.set_cons_zero, List.set_cons_succ, wr]
      refine call (pick_ok w0 D hD B _ q _ _ (gQ _ _) (by omega)) ?_
      rintro v H2 ⟨k, rfl, -, -, rfl⟩
      simp only [go_sem, cond, Nat.reduceAdd, Nat.reduceLeDiff, Nat.reduceEqDiff, Nat.reduceBEq, decide_true, decide_false, Int.toNat_natCast, r, sA, gQ, gR, gR0, sR, sR0, List.set_set, List.append_assoc, List.length_append, List.length_set, List.singleton_append, List.cons_append, List.nil_append, t0, t3, t9, d1, hb, gi, si, si0, List.set_cons_zero, List.set_cons_succ, wr]
      refine Br_intro ?_ ?_ <;> intro h0 <;> simp only [go_sem, cond, Nat.reduceAdd, Nat.reduceLeDiff, Nat.reduceEqDiff, Nat.reduceBEq, decide_true, decide_false, Int.toNat_natCast, r, sA, gQ, gR, gR0, sR, sR0, List.set_set, List.append_assoc, List.length_append, List.length_set, List.singleton_append, List.cons_append, List.nil_append, t0, t3, t9, d1, hb, gi, si, si0, List.set_cons_zero, List.set_cons_succ, wr, h0]
      · refine call (l16Room_ok w0 D B _ q _ hD (gQ _ _) (by omega)) ?_
        rintro v H2 ⟨p3, rfl, h5, h6, ro, hro0, rfl⟩
        simp only [go_sem, cond, Nat.reduceAdd, Nat.reduceLeDiff, Nat.reduceEqDiff, Nat.reduceBEq, decide_true, decide_false, Int.toNat_natCast, r, sA, gQ, gR, gR0, sR, sR0, List.set_set, List.append_assoc, List.length_append, List.length_set, List.singleton_append, List.cons_append, List.nil_append, t0, t3, t9, d1, hb, gi, si, si0, List.set_cons_zero, List.set_cons_succ, wr]
        refine call (l16Nick_ok w0 D B _ q _ hD (gQ _ _) (by omega)) ?_
        rintro v H2 ⟨p4, rfl, h7, h8, ni, hni, rfl⟩
        simp only [go_sem, cond, Nat.reduceAdd, Nat.reduceLeDiff, Nat.reduceEqDiff, Nat.reduceBEq, decide_true, decide_false, Int.toNat_natCast, r, sA, gQ, gR, gR0, sR, sR0, List.set_set, List.append_assoc, List.length_append, List.length_set, List.singleton_append, List.cons_append, List.nil_append, t0, t3, t9, d1, hb, gi, si, si0, List.set_cons_zero, List.set_cons_succ, wr]
        (refine xw_open (id := 17) [0, 0, 2, 7, 0, 0, 0, 127, 255, 511, 511, 1023, 4095] [.q 0, .q 1, .q 4, .q 5, .q 2, .l 6, .e 3, .d 6, .e 7, .q 8, .q 9, .q 10, .q 11, .q 12] rfl (by kernel_rfl) ?_; simp only [go_sem, cond, Nat.reduceAdd, Nat.reduceLeDiff, Nat.reduceEqDiff, Nat.reduceBEq, decide_true, decide_false, Int.toNat_natCast, r, sA, gQ, gR, gR0, sR, sR0, List.set_set, List.append_assoc, List.length_append, List.length_set, List.singleton_append, List.cons_append, List.nil_append, t0, t3, t9, d1, hb, gi, si, si0, List.set_cons_zero, List.set_cons_succ, wr])
        have hS : SmS ⟨6, ro, ni, em, em, em, em, 0, 0, 0⟩ := ⟨by show ni.size ≤ 100000; omega, em_sm, em_sm, em_sm, em_sm⟩
        have hro := roomR_ok ro es (by omega) hes.sm
        refine call (l8Room_ok w0 _ es _ _ _ (Sl_own elen _ es B _ _ (gR0 _ _)) (by omega) hes.sm) ?_
        rintro v H2 ⟨x, g2, rfl, rfl, hpl, -⟩
        simp only [go_sem, cond, Nat.reduceAdd, Nat.reduceLeDiff, Nat.reduceEqDiff, Nat.reduceBEq, decide_true, decide_false, Int.toNat_natCast, r, sA, gQ, gR, gR0, sR, sR0, List.set_set, List.append_assoc, List.length_append, List.length_set, List.singleton_append, List.cons_append, List.nil_append, t0, t3, t9, d1, hb, gi, si, si0, List.set_cons_zero, List.set_cons_succ, wr]
        have hadd := LogD.add ro us ⟨6, ro, ni, em, em, em, em, 0, 0, 0⟩ hes (by omega) (by omega) hS
        have hle := hes.le ro us ⟨6, ro, ni, em, em, em, em, 0, 0, 0⟩ (by omega) (by omega) hS
        refine call_eq (l6Do_ok w0 _ (roomR ro es) x es _ _ us ⟨6, ro, ni, em, em, em, em, 0, 0, 0⟩ (PlO.rm' w0 hpl ?_ (by omega) (by omega)) (Sl_own elen _ es B _ _ (gR0 _ _)) (by omega)) ?_
        · simp only [List.append_assoc, List.cons_append, List.nil_append]
        generalize doR _ _ _ _ = rs at *
        obtain ⟨fs, code⟩ := rs
        simp only at hadd hle
        have wl : IntKind.i64.wrap ((es.length : Int) + (fs.length : Int)) = ((es.length + fs.length : Nat) : Int) := by rw [wrap_i64 (by omega) (by omega)]; omega
        by_cases hf : fs = []
        · subst hf
          have wl0 : IntKind.i64.wrap ((es.length : Int) + ((0 : Nat) : Int)) = (es.length : Int) := wl
          simp only [go_sem, cond, Nat.reduceAdd, Nat.reduceLeDiff, Nat.reduceEqDiff, Nat.reduceBEq, decide_true, decide_false, Int.toNat_natCast, r, sA, gQ, gR, gR0, sR, sR0, List.set_set, List.append_assoc, List.length_append, List.length_set, List.singleton_append, List.cons_append, List.nil_append, t0, t3, t9, d1, hb, gi, si, si0, List.set_cons_zero, List.set_cons_succ, wr, deedV, esV_nil, esO_nil, wl0]
          refine Br_intro ?_ ?_ <;> intro h10 <;> simp only [go_sem, cond, Nat.reduceAdd, Nat.reduceLeDiff, Nat.reduceEqDiff, Nat.reduceBEq, decide_true, decide_false, Int.toNat_natCast, r, sA, gQ, gR, gR0, sR, sR0, List.set_set, List.append_assoc, List.length_append, List.length_set, List.singleton_append, List.cons_append, List.nil_append, t0, t3, t9, d1, hb, gi, si, si0, List.set_cons_zero, List.set_cons_succ, wr, wl0, h10]
          · refine Br_intro ?_ ?_ <;> intro h11 <;> simp only [go_sem, cond, Nat.reduceAdd, Nat.reduceLeDiff, Nat.reduceEqDiff, Nat.reduceBEq, decide_true, decide_false, Int.toNat_natCast, r, sA, gQ, gR, gR0, sR, sR0, List.set_set, List.append_assoc, List.length_append, List.length_set, List.singleton_append, List.cons_append, List.nil_append, t0, t3, t9, d1, hb, gi, si, si0, List.set_cons_zero, List.set_cons_succ, wr, wl0, h11]
            · refine appS_full (m := 0) (sl := es.length) _ _ _ _ _ _ _ l.length _ _ _ (gR0 _ _) rfl (flat_len elen _) XF.lay_37 (by decide) (by rfl) (by omega) (by omega) ?_
              simp only [go_sem, cond, Nat.reduceAdd, Nat.reduceLeDiff, Nat.reduceEqDiff, Nat.reduceBEq, decide_true, decide_false, Int.toNat_natCast, r, sA, gQ, gR, gR0, sR, sR0, List.set_set, List.append_assoc, List.length_append, List.length_set, List.singleton_append, List.cons_append, List.nil_append, t0, t3, t9, d1, hb, gi, si, si0, List.set_cons_zero, List.set_cons_succ, wr, List.append_nil]
              exact ⟨i, ⟨by omega, t0, rfl, _, es, _, by omega, by omega, hes, hlen, rfl, rfl⟩, Nat.lt_succ_self i⟩
            · exact ⟨i, ⟨by omega, t0, rfl, _, es, _, by omega, by omega, hes, hlen, t3, rfl⟩, Nat.lt_succ_self i⟩
          · exact ⟨i, ⟨by omega, t0, rfl, _, es, _, by omega, by omega, hes, hlen, t3, rfl⟩, Nat.lt_succ_self i⟩
        · have v1 := fun H => esV_ne (H := H) hf
          have v2 := esO_ne hf
          have v3 := rd_fs fs
          simp only [go_sem, cond, Nat.reduceAdd, Nat.reduceLeDiff, Nat.reduceEqDiff, Nat.reduceBEq, decide_true, decide_false, Int.toNat_natCast, r, sA, gQ, gR, gR0, sR, sR0, List.set_set, List.append_assoc, List.length_append, List.length_set, List.singleton_append, List.cons_append, List.nil_append, t0, t3, t9, d1, hb, gi, si, si0, List.set_cons_zero, List.set_cons_succ, wr, deedV, v1, v2, v3, Nat.add_zero, wl]
          refine Br_intro ?_ ?_ <;> intro h10 <;> simp only [go_sem, cond, Nat.reduceAdd, Nat.reduceLeDiff, Nat.reduceEqDiff, Nat.reduceBEq, decide_true, decide_false, Int.toNat_natCast, r, sA, gQ, gR, gR0, sR, sR0, List.set_set, List.append_assoc, List.length_append, List.length_set, List.singleton_append, List.cons_append, List.nil_append, t0, t3, t9, d1, hb, gi, si, si0, List.set_cons_zero, List.set_cons_succ, wr, wl, h10]
          · refine Br_intro ?_ ?_ <;> intro h11 <;> simp only [go_sem, cond, Nat.reduceAdd, Nat.reduceLeDiff, Nat.reduceEqDiff, Nat.reduceBEq, decide_true, decide_false, Int.toNat_natCast, r, sA, gQ, gR, gR0, sR, sR0, List.set_set, List.append_assoc, List.length_append, List.length_set, List.singleton_append, List.cons_append, List.nil_append, t0, t3, t9, d1, hb, gi, si, si0, List.set_cons_zero, List.set_cons_succ, wr, wl, h11, v3, Nat.add_zero]
            · have h12 : es.length + fs.length ≤ 60 := by have := of_decide_eq_true h11; omega
              refine appS_full (m := fs.length) (sl := es.length) _ _ _ _ _ _ _ l.length _ _ _ (gR0 _ _) rfl (flat_len elen _) XF.lay_37 (by decide) (flat_len elen _) (by omega) (by omega) ?_
              simp only [go_sem, cond, Nat.reduceAdd, Nat.reduceLeDiff, Nat.reduceEqDiff, Nat.reduceBEq, decide_true, decide_false, Int.toNat_natCast, r, sA, gQ, gR, gR0, sR, sR0, List.set_set, List.append_assoc, List.length_append, List.length_set, List.singleton_append, List.cons_append, List.nil_append, t0, t3, t9, d1, hb, gi, si, si0, List.set_cons_zero, List.set_cons_succ, wr]
              exact ⟨i, ⟨by omega, t0, rfl, p4, es ++ fs, _, by omega, by omega, hadd, by rw [List.length_append]; exact h12, by rw [List.length_append]; rfl, by rw [flat_app]⟩, Nat.lt_succ_self i⟩
            · exact ⟨i, ⟨by omega, t0, rfl, _, es, _, by omega, by omega, hes, hlen, t3, rfl⟩, Nat.lt_succ_self i⟩
          · exact ⟨i, ⟨by omega, t0, rfl, _, es, _, by omega, by omega, hes, hlen, t3, rfl⟩, Nat.lt_succ_self i⟩
      · refine Br_intro ?_ ?_ <;> intro h9 <;> simp only [go_sem, cond, Nat.reduceAdd, Nat.reduceLeDiff, Nat.reduceEqDiff, Nat.reduceBEq, decide_true, decide_false, Int.toNat_natCast, r, sA, gQ, gR, gR0, sR, sR0, List.set_set, List.append_assoc, List.length_append, List.length_set, List.singleton_append, List.cons_append, List.nil_append, t0, t3, t9, d1, hb, gi, si, si0, List.set_cons_zero, List.set_cons_succ, wr, h9]
        · exact ⟨i, ⟨by omega, t0, rfl, _, es, _, by omega, by omega, hes, hlen, t3, rfl⟩, Nat.lt_succ_self i⟩
        (refine xw_open (id := 17) [0, 0, 2, 7, 0, 0, 0, 127, 255, 511, 511, 1023, 4095] [.q 0, .q 1, .q 4, .q 5, .q 2, .l 6, .e 3, .d 6, .e 7, .q 8, .q 9, .q 10, .q 11, .q 12] rfl (by kernel_rfl) ?_; simp only [go_sem, cond, Nat.reduceAdd, Nat.reduceLeDiff, Nat.reduceEqDiff, Nat.reduceBEq, decide_true, decide_false, Int.toNat_natCast, r, sA, gQ, gR, gR0, sR, sR0, List.set_set, List.append_assoc, List.length_append, List.length_set, List.singleton_append, List.cons_append, List.nil_append, t0, t3, t9, d1, hb, gi, si, si0, List.set_cons_zero, List.set_cons_succ, wr])
        have hS : SmS ⟨y1, y2, y3, y4, y5, y6, y7, y8, y9, y10⟩ := hy'
        have hro := roomR_ok y2 es (by omega) hes.sm
        refine call (l8Room_ok w0 _ es _ _ _ (Sl_own elen _ es B _ _ (gR0 _ _)) (by omega) hes.sm) ?_
        rintro v H2 ⟨x, g2, rfl, rfl, hpl, -⟩
        simp only [go_sem, cond, Nat.reduceAdd, Nat.reduceLeDiff, Nat.reduceEqDiff, Nat.reduceBEq, decide_true, decide_false, Int.toNat_natCast, r, sA, gQ, gR, gR0, sR, sR0, List.set_set, List.append_assoc, List.length_append, List.length_set, List.singleton_append, List.cons_append, List.nil_append, t0, t3, t9, d1, hb, gi, si, si0, List.set_cons_zero, List.set_cons_succ, wr]
        have hadd := LogD.add y2 us ⟨y1, y2, y3, y4, y5, y6, y7, y8, y9, y10⟩ hes (by omega) (by omega) hS
        have hle := hes.le y2 us ⟨y1, y2, y3, y4, y5, y6, y7, y8, y9, y10⟩ (by omega) (by omega) hS
        refine call_eq (l6Do_ok w0 _ (roomR y2 es) x es _ _ us ⟨y1, y2, y3, y4, y5, y6, y7, y8, y9, y10⟩ (PlO.rm' w0 hpl ?_ (by omega) (by omega)) (Sl_own elen _ es B _ _ (gR0 _ _)) (by omega)) ?_
        · simp only [List.append_assoc, List.cons_append, List.nil_append]
        generalize doR _ _ _ _ = rs at *
        obtain ⟨fs, code⟩ := rs
        simp only at hadd hle
        have wl : IntKind.i64.wrap ((es.length : Int) + (fs.length : Int)) = ((es.length + fs.length : Nat) : Int) := by rw [wrap_i64 (by omega) (by omega)]; omega
        by_cases hf : fs = []
        · subst hf
          have wl0 : IntKind.i64.wrap ((es.length : Int) + ((0 : Nat) : Int)) = (es.length : Int) := wl
          simp only [go_sem, cond, Nat.reduceAdd, Nat.reduceLeDiff, Nat.reduceEqDiff, Nat.reduceBEq, decide_true, decide_false, Int.toNat_natCast, r, sA, gQ, gR, gR0, sR, sR0, List.set_set, List.append_assoc, List.length_append, List.length_set, List.singleton_append, List.cons_append, List.nil_append, t0, t3, t9, d1, hb, gi, si, si0, List.set_cons_zero, List.set_cons_succ, wr, deedV, esV_nil, esO_nil, wl0]
          refine Br_intro ?_ ?_ <;> intro h10 <;> simp only [go_sem, cond, Nat.reduceAdd, Nat.reduceLeDiff, Nat.reduceEqDiff, Nat.reduceBEq, decide_true, decide_false, Int.toNat_natCast, r, sA, gQ, gR, gR0, sR, sR0, List.set_set, List.append_assoc, List.length_append, List.length_set, List.singleton_append, List.cons_append, List.nil_append, t0, t3, t9, d1, hb, gi, si, si0, List.set_cons_zero, List.set_cons_succ, wr, wl0, h10]
          · refine Br_intro ?_ ?_ <;> intro h11 <;> simp only [go_sem, cond, Nat.reduceAdd, Nat.reduceLeDiff, Nat.reduceEqDiff, Nat.reduceBEq, decide_true, decide_false, Int.toNat_natCast, r, sA, gQ, gR, gR0, sR, sR0, List.set_set, List.append_assoc, List.length_append, List.length_set, List.singleton_append, List.cons_append, List.nil_append, t0, t3, t9, d1, hb, gi, si, si0, List.set_cons_zero, List.set_cons_succ, wr, wl0, h11]
            · refine appS_full (m := 0) (sl := es.length) _ _ _ _ _ _ _ l.length _ _ _ (gR0 _ _) rfl (flat_len elen _) XF.lay_37 (by decide) (by rfl) (by omega) (by omega) ?_
              simp only [go_sem, cond, Nat.reduceAdd, Nat.reduceLeDiff, Nat.reduceEqDiff, Nat.reduceBEq, decide_true, decide_false, Int.toNat_natCast, r, sA, gQ, gR, gR0, sR, sR0, List.set_set, List.append_assoc, List.length_append, List.length_set, List.singleton_append, List.cons_append, List.nil_append, t0, t3, t9, d1, hb, gi, si, si0, List.set_cons_zero, List.set_cons_succ, wr, List.append_nil]
              exact ⟨i, ⟨by omega, t0, rfl, _, es, _, by omega, by omega, hes, hlen, rfl, rfl⟩, Nat.lt_succ_self i⟩
            · exact ⟨i, ⟨by omega, t0, rfl, _, es, _, by omega, by omega, hes, hlen, t3, rfl⟩, Nat.lt_succ_self i⟩
          · exact ⟨i, ⟨by omega, t0, rfl, _, es, _, by omega, by omega, hes, hlen, t3, rfl⟩, Nat.lt_succ_self i⟩
        · have v1 := fun H => esV_ne (H := H) hf
          have v2 := esO_ne hf
          have v3 := rd_fs fs
          simp only [go_sem, cond, Nat.reduceAdd, Nat.reduceLeDiff, Nat.reduceEqDiff, Nat.reduceBEq, decide_true, decide_false, Int.toNat_natCast, r, sA, gQ, gR, gR0, sR, sR0, List.set_set, List.append_assoc, List.length_append, List.length_set, List.singleton_append, List.cons_append, List.nil_append, t0, t3, t9, d1, hb, gi, si, si0, List.set_cons_zero, List.set_cons_succ, wr, deedV, v1, v2, v3, Nat.add_zero, wl]
          refine Br_intro ?_ ?_ <;> intro h10 <;> simp only [go_sem, cond, Nat.reduceAdd, Nat.reduceLeDiff, Nat.reduceEqDiff, Nat.reduceBEq, decide_true, decide_false, Int.toNat_natCast, r, sA, gQ, gR, gR0, sR, sR0, List.set_set, List.append_assoc, List.length_append, List.length_set, List.singleton_append, List.cons_append, List.nil_append, t0, t3, t9, d1, hb, gi, si, si0, List.set_cons_zero, List.set_cons_succ, wr, wl, h10]
          · refine Br_intro ?_ ?_ <;> intro h11 <;> simp only [go_sem, cond, Nat.reduceAdd, Nat.reduceLeDiff, Nat.reduceEqDiff, Nat.reduceBEq, decide_true, decide_false, Int.toNat_natCast, r, sA, gQ, gR, gR0, sR, sR0, List.set_set, List.append_assoc, List.length_append, List.length_set, List.singleton_append, List.cons_append, List.nil_append, t0, t3, t9, d1, hb, gi, si, si0, List.set_cons_zero, List.set_cons_succ, wr, wl, h11, v3, Nat.add_zero]
            · have h12 : es.length + fs.length ≤ 60 := by have := of_decide_eq_true h11; omega
              refine appS_full (m := fs.length) (sl := es.length) _ _ _ _ _ _ _ l.length _ _ _ (gR0 _ _) rfl (flat_len elen _) XF.lay_37 (by decide) (flat_len elen _) (by omega) (by omega) ?_
              simp only [go_sem, cond, Nat.reduceAdd, Nat.reduceLeDiff, Nat.reduceEqDiff, Nat.reduceBEq, decide_true, decide_false, Int.toNat_natCast, r, sA, gQ, gR, gR0, sR, sR0, List.set_set, List.append_assoc, List.length_append, List.length_set, List.singleton_append, List.cons_append, List.nil_append, t0, t3, t9, d1, hb, gi, si, si0, List.set_cons_zero, List.set_cons_succ, wr]
              exact ⟨i, ⟨by omega, t0, rfl, p2 + 1, es ++ fs, _, by omega, by omega, hadd, by rw [List.length_append]; exact h12, by rw [List.length_append]; rfl, by rw [flat_app]⟩, Nat.lt_succ_self i⟩
            · exact ⟨i, ⟨by omega, t0, rfl, _, es, _, by omega, by omega, hes, hlen, t3, rfl⟩, Nat.lt_succ_self i⟩
          · exact ⟨i, ⟨by omega, t0, rfl, _, es, _, by omega, by omega, hes, hlen, t3, rfl⟩, Nat.lt_succ_self i⟩
    · have d1 : ((0 : Int) < (i : Int)) = False := eq_false (by omega)
      simp only [go_sem, cond, Nat.reduceAdd, Nat.reduceLeDiff, Nat.reduceEqDiff, Nat.reduceBEq, decide_true, decide_false, Int.toNat_natCast, r, sA, gQ, gR, gR0, sR, sR0, List.set_set, List.append_assoc, List.length_append, List.length_set, List.singleton_append, List.cons_append, List.nil_append, t0, t3, t9, d1]
      exact ⟨p', es, 0, _, rfl, by omega, by omega, hes, by omega, rfl, rfl⟩
end Go.Proofs.YtmacpgoclhgafaaDoorW.FA

namespace Go.Proofs.YtmacpgoclhgafaaDoorW.FA
open Go.RowKit Go.Proofs.YtmacpgoclhgafaaDoorW.XM Go.Proofs Go.Proofs.YtmacpgoclhgafaaDoorW.XWords
set_option maxRecDepth 100000
set_option linter.unusedSimpArgs false
set_option linter.unusedVariables false
variable {w0 : World} {H : Hp}
/-- Where a room lies whose members and whose ranks may each be nowhere. -/
structure PlS (H : Hp) (n : Nat) (g : List (Option Ob)) (R : Rm) (x : Ad) : Prop where
  m : (x.a = none ∧ x.c = 0 ∧ R.ms = []) ∨ ∃ j, g[j]? = some (some (.row 60 (flat Mem.enc R.ms))) ∧ x.a = some ⟨nid H (n + j), 0, some (R.ms.length * 3)⟩ ∧ x.c = R.ms.length
  k : (x.b = none ∧ x.d = 0 ∧ R.ks = []) ∨ ∃ j, g[j]? = some (some (.row 58 (flat Rk.enc R.ks))) ∧ x.b = some ⟨nid H (n + j), 0, some (R.ks.length * 2)⟩ ∧ x.d = R.ks.length
theorem PlS.more {n : Nat} {g : List (Option Ob)} {R : Rm} {x : Ad} (h : PlS H n g R x) (L : List (Option Ob)) : PlS H n (g ++ L) R x := by
  refine ⟨h.m.imp id fun ⟨j, a, b⟩ => ⟨j, ?_, b⟩, h.k.imp id fun ⟨j, a, b⟩ => ⟨j, ?_, b⟩⟩ <;> rw [List.getElem?_append_left (lt_of_get a)] <;> exact a
theorem PlS.shift {pre g : List (Option Ob)} {R : Rm} {x : Ad} (h : PlS H pre.length g R x) : PlS H 0 (pre ++ g) R x := by
  refine ⟨h.m.imp id fun ⟨j, a, b, c⟩ => ⟨pre.length + j, ?_, by rw [Nat.zero_add]; exact b, c⟩, h.k.imp id fun ⟨j, a, b, c⟩ => ⟨pre.length + j, ?_, by rw [Nat.zero_add]; exact b, c⟩⟩ <;> rw [List.getElem?_append_right (by omega), Nat.add_sub_cancel_left] <;> exact a
theorem PlS.at {n : Nat} {g pre : List (Option Ob)} {R : Rm} {x : Ad} (h : PlS H n g R x) (hn : pre.length = n) (lm : R.ms.length ≤ 2000000) (lk : R.ks.length ≤ 2000000) : RmAt w0 (Hx H (pre ++ g)) R x ∧ RmOw w0 (Hx H (pre ++ g)) R x := by
  subst hn
  obtain ⟨na, nx, ms, ks, su⟩ := R
  obtain ⟨a, c, b, d⟩ := x
  have gi : ∀ k, (pre ++ g)[pre.length + k]? = g[k]? := fun k => by rw [List.getElem?_append_right (by omega)]; simp
  have hm : (Sl w0 (Hx H (pre ++ g)) a 3 (ms.map Mem.enc) ∧ ∀ L, src w0 (Hx (Hx H (pre ++ g)) L) 3 (.slice a ms.length c) = some (ms.length, flat Mem.enc ms)) ∧ ms.length ≤ c ∧ (∀ b o sp, a = some ⟨b, o, sp⟩ → ∀ L, Go.Proofs.YtmacpgoclhgafaaDoorW.XM.ownB Tryd.prog (Hx (Hx H (pre ++ g)) L) 3 b sp) ∧ (∀ b o sp, a = some ⟨b, o, sp⟩ → ∀ L, rd w0 (Hx (Hx H (pre ++ g)) L) ⟨b, o, sp⟩ (ms.length * 3) = some (flat Mem.enc ms)) := by
    rcases h.m with ⟨h1, h2, h3⟩ | ⟨j, h1, h2, h3⟩
    · simp only at h1 h2 h3
      subst h1 h2 h3
      exact ⟨⟨.inl rfl, fun L => rfl⟩, Nat.le_refl _, (fun _ _ _ e => by cases e), (fun _ _ _ e => by cases e)⟩
    · simp only at h1 h2 h3
      subst h2 h3
      have hj := (gi j).trans h1
      refine ⟨⟨Sl_own mlen _ ms H _ _ hj, fun L => by rw [src_sl, rd_flat mlen _ ms H _ _ hj]; rfl⟩, Nat.le_refl _, fun b o sp e L => ?_, fun b o sp e L => ?_⟩
      · cases e
        refine ⟨_, flat Mem.enc ms, false || true, ?_, flat_len mlen ms, XF.lay_60⟩
        have := lt_of_get hj
        rw [Hx_Hx, Hx_get, List.getElem?_append_left this]
        exact hj
      · cases e
        exact rd_flat mlen _ ms H _ _ hj L
  have hk : Sl w0 (Hx H (pre ++ g)) b 2 (ks.map Rk.enc) ∧ ∀ L, src w0 (Hx (Hx H (pre ++ g)) L) 2 (.slice b ks.length d) = some (ks.length, flat Rk.enc ks) := by
    rcases h.k with ⟨h1, h2, h3⟩ | ⟨j, h1, h2, h3⟩
    · simp only at h1 h2 h3
      subst h1 h2 h3
      exact ⟨.inl rfl, fun L => rfl⟩
    · simp only at h1 h2 h3
      subst h2 h3
      have hj := (gi j).trans h1
      exact ⟨Sl_own klen _ ks H _ _ hj, fun L => by rw [src_sl, rd_flat klen _ ks H _ _ hj]; rfl⟩
  exact ⟨⟨hm.1.1, hk.1, lm, lk, hm.1.2, hk.2⟩, ⟨hm.2.1, hm.2.2.1, hm.2.2.2⟩⟩
variable (w0 H)
set_option maxHeartbeats 20000000 in
theorem l16AnyRoom_ok (D : Cd) (B : Hp) (l : List (Option Ob)) (q p : Nat) (hD : CdOk w0 D) (hq : l[q]? = some (dr D p)) (hp : p ≤ 200000) : AFn Tryd.prog w0 60 #[.pointer (some ⟨nid B q, 0, some 2⟩)] (Hx B l) fun v H2 => ∃ p' R x g, H2 = Hx B (l.set q (dr D p') ++ g) ∧ p ≤ p' ∧ p' ≤ p + 2100 ∧ v = .agg (R.enc x).toArray ∧ PlS B l.length g R x ∧ SmR R ∧ R.ms.length ≤ 200 ∧ R.ks.length ≤ 200 ∧ (x.b = none → x.a = none ∨ 1 ≤ R.next ∨ R.ms ≠ []) := by
  have hlq := lt_of_get hq
  have e : Hx B l = Hx B (l.set q (dr D p)) := by conv => lhs; rw [set_same hq, List.append_nil]
  rw [e]
  obtain ⟨sA, gQ, gR, gR0, sR, sR0⟩ := dset hlq
  have gs : ∀ X : Option Ob, (l.set q X)[q]? = some X := fun X => by rw [List.getElem?_set_self hlq]
  have hb : ∀ (g : List (Option Ob)) (Y : Option Ob) (r : List (Option Ob)), (g ++ Y :: r)[g.length]? = some Y := fun g Y r => by rw [List.getElem?_append_right (Nat.le_refl _)]; simp
  have gi : ∀ (g r : List (Option Ob)) (k : Nat), (g ++ r)[g.length + k]? = r[k]? := fun g r k => by rw [List.getElem?_append_right (by omega)]; simp
  have si : ∀ (g r : List (Option Ob)) (k : Nat) (Z : Option Ob), (g ++ r).set (g.length + k) Z = g ++ r.set k Z := fun g r k Z => by rw [List.set_append_right _ _ (by omega)]; simp
  have si0 : ∀ (g r : List (Option Ob)) (Z : Option Ob), (g ++ r).set g.length Z = g ++ r.set 0 Z := fun g r Z => by rw [List.set_append_right _ _ (by omega)]; simp
  refine AFn_of Tryd.func60 rfl (by kernel_rfl) ?_
  have r := Tryd.results60
  simp only [go_sem, cond, Nat.reduceAdd, Nat.reduceLeDiff, Nat.reduceEqDiff, Nat.reduceBEq, decide_true, decide_false, Int.toNat_natCast, r, sA, gQ, gR, gR0, sR, sR0, hb, gi, si, si0, List.set_cons_zero, List.set_cons_succ, List.set_set, List.append_assoc, List.length_append, List.length_set, List.singleton_append, List.cons_append, List.nil_append]
  refine call (l16Log_ok w0 D B _ q _ hD (gQ _ _) (by omega)) ?_
  rintro v H2 ⟨p1, es, kl, g, rfl, hp1, hp2, hes, hlen, rfl, hkl⟩
  simp only [go_sem, cond, Nat.reduceAdd, Nat.reduceLeDiff, Nat.reduceEqDiff, Nat.reduceBEq, decide_true, decide_false, Int.toNat_natCast, r, sA, gQ, gR, gR0, sR, sR0, hb, gi, si, si0, List.set_cons_zero, List.set_cons_succ, List.set_set, List.append_assoc, List.length_append, List.length_set, List.singleton_append, List.cons_append, List.nil_append]
  have hlk : (l.set q (dr D p1) ++ some (.row 33 [.string em, .int .i64 0, .slice none 0 0, .slice none 0 0, .string em]) :: g)[l.length + 1 + kl]? = some (some (.row 37 (flat En.enc es))) := by
    rw [Nat.add_assoc, gR, Nat.add_comm 1 kl]; exact hkl
  have hro := roomR_ok (ByteArray.mk #[100, 101, 110]) es (by decide) hes.sm
  refine call (l8Room_ok w0 _ es _ _ _ (Sl_own elen _ es B _ _ hlk) (by omega) hes.sm) ?_
  rintro v H2 ⟨x, g2, rfl, rfl, hpl, hxa⟩
  clear hlk hkl
  generalize roomR (ByteArray.mk #[100, 101, 110]) es = R at *
  obtain ⟨hsm, hlm, hlk⟩ := hro
  obtain ⟨na, nx, ms, ks, su⟩ := R
  simp only at hlm hlk hxa
  obtain ⟨g3, hg3⟩ : ∃ g3, g3 = g ++ g2 := ⟨_, rfl⟩
  have hA : ∀ r, g ++ (g2 ++ r) = g3 ++ r := fun r => by rw [hg3, List.append_assoc]
  have hA0 : g ++ g2 = g3 := hg3.symm
  have hgl : g.length + g2.length = g3.length := by rw [hg3, List.length_append]
  have hgl2 : ∀ k, g.length + (g2.length + k) = g3.length + k := fun k => by rw [← hgl]; omega
  have hbs : ∀ (j : Nat) (X Y : Option Ob) (r : List (Option Ob)), (g3.set j X ++ Y :: r)[g3.length]? = some Y := fun j X Y r => by have := hb (g3.set j X) Y r; rwa [List.length_set] at this
  have sis : ∀ (j : Nat) (X Z : Option Ob) (r : List (Option Ob)), (g3.set j X ++ r).set g3.length Z = g3.set j X ++ r.set 0 Z := fun j X Z r => by have := si0 (g3.set j X) r Z; rwa [List.length_set] at this
  rcases hpl with ⟨rfl, h1, h2⟩ | ⟨j, k, hj, hk, rfl⟩
  · simp only at h1 h2
    subst h1 h2
    simp only [go_sem, cond, Nat.reduceAdd, Nat.reduceLeDiff, Nat.reduceEqDiff, Nat.reduceBEq, decide_true, decide_false, Int.toNat_natCast, r, sA, gQ, gR, gR0, sR, sR0, hb, gi, si, si0, List.set_cons_zero, List.set_cons_succ, List.set_set, List.append_assoc, List.length_append, List.length_set, List.singleton_append, List.cons_append, List.nil_append, hbs, sis, hA, hA0, hgl, hgl2, Rm.enc]
    repeat' (first
      | (refine Br_intro ?_ ?_ <;> intro h <;> simp only [go_sem, cond, Nat.reduceAdd, Nat.reduceLeDiff, Nat.reduceEqDiff, Nat.reduceBEq, decide_true, decide_false, Int.toNat_natCast, r, sA, gQ, gR, gR0, sR, sR0, hb, gi, si, si0, List.set_cons_zero, List.set_cons_succ, List.set_set, List.append_assoc, List.length_append, List.length_set, List.singleton_append, List.cons_append, List.nil_append, hbs, sis, hA, hA0, hgl, hgl2, h])
      | (refine xw_open (id := 8) [0, 1, 0, 4, 0, 28, 0, 124, 252, 508, 1023, 2047, 4095] [.q 0, .q 2, .q 4, .q 6, .l 1, .e 3, .e 5, .e 7, .e 8, .e 9, .d 1, .e 10, .q 11, .e 12] rfl (by kernel_rfl) ?_; simp only [go_sem, cond, Nat.reduceAdd, Nat.reduceLeDiff, Nat.reduceEqDiff, Nat.reduceBEq, decide_true, decide_false, Int.toNat_natCast, r, sA, gQ, gR, gR0, sR, sR0, hb, gi, si, si0, List.set_cons_zero, List.set_cons_succ, List.set_set, List.append_assoc, List.length_append, List.length_set, List.singleton_append, List.cons_append, List.nil_append, hbs, sis, hA, hA0, hgl, hgl2])
      | (refine xw_open (id := 10) [0, 1, 0, 0, 12, 0, 60, 124, 252, 511, 1023, 2047] [.q 0, .q 2, .q 5, .l 1, .e 3, .e 4, .e 6, .e 7, .e 8, .d 1, .e 9, .q 10, .e 11] rfl (by kernel_rfl) ?_; simp only [go_sem, cond, Nat.reduceAdd, Nat.reduceLeDiff, Nat.reduceEqDiff, Nat.reduceBEq, decide_true, decide_false, Int.toNat_natCast, r, sA, gQ, gR, gR0, sR, sR0, hb, gi, si, si0, List.set_cons_zero, List.set_cons_succ, List.set_set, List.append_assoc, List.length_append, List.length_set, List.singleton_append, List.cons_append, List.nil_append, hbs, sis, hA, hA0, hgl, hgl2])
      | (refine call (pick_ok w0 D hD B _ q _ _ (gQ _ _) (by omega)) ?_; rintro v H2 ⟨c, rfl, c1, -, rfl⟩; clear c1; simp only [go_sem, cond, Nat.reduceAdd, Nat.reduceLeDiff, Nat.reduceEqDiff, Nat.reduceBEq, decide_true, decide_false, Int.toNat_natCast, r, sA, gQ, gR, gR0, sR, sR0, hb, gi, si, si0, List.set_cons_zero, List.set_cons_succ, List.set_set, List.append_assoc, List.length_append, List.length_set, List.singleton_append, List.cons_append, List.nil_append, hbs, sis, hA, hA0, hgl, hgl2])
      | (refine call (l16User_ok w0 D B _ q _ hD (gQ _ _) (by omega)) ?_; rintro v H2 ⟨p3, rfl, h3, h4, us, hus, rfl⟩; simp only [go_sem, cond, Nat.reduceAdd, Nat.reduceLeDiff, Nat.reduceEqDiff, Nat.reduceBEq, decide_true, decide_false, Int.toNat_natCast, r, sA, gQ, gR, gR0, sR, sR0, hb, gi, si, si0, List.set_cons_zero, List.set_cons_succ, List.set_set, List.append_assoc, List.length_append, List.length_set, List.singleton_append, List.cons_append, List.nil_append, hbs, sis, hA, hA0, hgl, hgl2])
      | (refine call (l16Nick_ok w0 D B _ q _ hD (gQ _ _) (by omega)) ?_; rintro v H2 ⟨p3, rfl, h3, h4, ni, hni, rfl⟩; simp only [go_sem, cond, Nat.reduceAdd, Nat.reduceLeDiff, Nat.reduceEqDiff, Nat.reduceBEq, decide_true, decide_false, Int.toNat_natCast, r, sA, gQ, gR, gR0, sR, sR0, hb, gi, si, si0, List.set_cons_zero, List.set_cons_succ, List.set_set, List.append_assoc, List.length_append, List.length_set, List.singleton_append, List.cons_append, List.nil_append, hbs, sis, hA, hA0, hgl, hgl2])
      | (refine call (l16Any_ok w0 D B _ q _ hD (gQ _ _) (by omega)) ?_; rintro v H2 ⟨p3, rfl, h3, h4, su2, hsu2, rfl⟩; simp only [go_sem, cond, Nat.reduceAdd, Nat.reduceLeDiff, Nat.reduceEqDiff, Nat.reduceBEq, decide_true, decide_false, Int.toNat_natCast, r, sA, gQ, gR, gR0, sR, sR0, hb, gi, si, si0, List.set_cons_zero, List.set_cons_succ, List.set_set, List.append_assoc, List.length_append, List.length_set, List.singleton_append, List.cons_append, List.nil_append, hbs, sis, hA, hA0, hgl, hgl2])
      | (refine call (of_ok w0 D hD B _ q _ _ _ _ _ (gQ _ _) (by omega) (by first | exact gR _ _ _ | exact gR0 _ _ | (rw [gR, List.getElem?_cons_succ, gi]; rfl)) rfl rfl (by decide) (by decide) (by decide)) ?_; rintro v H2 ⟨s1, hs1, rfl, rfl⟩; simp only [go_sem, cond, Nat.reduceAdd, Nat.reduceLeDiff, Nat.reduceEqDiff, Nat.reduceBEq, decide_true, decide_false, Int.toNat_natCast, r, sA, gQ, gR, gR0, sR, sR0, hb, gi, si, si0, List.set_cons_zero, List.set_cons_succ, List.set_set, List.append_assoc, List.length_append, List.length_set, List.singleton_append, List.cons_append, List.nil_append, hbs, sis, hA, hA0, hgl, hgl2])
      | (refine call (one_ok w0 D hD B _ q _ _ _ _ _ (gQ _ _) (by omega) (by first | exact gR _ _ _ | exact gR0 _ _ | (rw [gR, List.getElem?_cons_succ, gi]; rfl)) rfl rfl (by decide) (by decide) (by decide)) ?_; rintro v H2 ⟨s1, hs1, hs2, -, rfl, rfl⟩; simp only [go_sem, cond, Nat.reduceAdd, Nat.reduceLeDiff, Nat.reduceEqDiff, Nat.reduceBEq, decide_true, decide_false, Int.toNat_natCast, r, sA, gQ, gR, gR0, sR, sR0, hb, gi, si, si0, List.set_cons_zero, List.set_cons_succ, List.set_set, List.append_assoc, List.length_append, List.length_set, List.singleton_append, List.cons_append, List.nil_append, hbs, sis, hA, hA0, hgl, hgl2])
      | (refine bsV_dense ⟨_, XF.zer_9, rfl⟩ rfl rfl (by decide) rfl ?_; simp only [go_sem, cond, Nat.reduceAdd, Nat.reduceLeDiff, Nat.reduceEqDiff, Nat.reduceBEq, decide_true, decide_false, Int.toNat_natCast, r, sA, gQ, gR, gR0, sR, sR0, hb, gi, si, si0, List.set_cons_zero, List.set_cons_succ, List.set_set, List.append_assoc, List.length_append, List.length_set, List.singleton_append, List.cons_append, List.nil_append, hbs, sis, hA, hA0, hgl, hgl2])
      | (refine bsV_dense ⟨_, XF.zer_3, rfl⟩ rfl rfl (by decide) rfl ?_; simp only [go_sem, cond, Nat.reduceAdd, Nat.reduceLeDiff, Nat.reduceEqDiff, Nat.reduceBEq, decide_true, decide_false, Int.toNat_natCast, r, sA, gQ, gR, gR0, sR, sR0, hb, gi, si, si0, List.set_cons_zero, List.set_cons_succ, List.set_set, List.append_assoc, List.length_append, List.length_set, List.singleton_append, List.cons_append, List.nil_append, hbs, sis, hA, hA0, hgl, hgl2])
      | (refine Req_intro ⟨_, rfl, rfl⟩ ?_; simp only [go_sem, cond, Nat.reduceAdd, Nat.reduceLeDiff, Nat.reduceEqDiff, Nat.reduceBEq, decide_true, decide_false, Int.toNat_natCast, r, sA, gQ, gR, gR0, sR, sR0, hb, gi, si, si0, List.set_cons_zero, List.set_cons_succ, List.set_set, List.append_assoc, List.length_append, List.length_set, List.singleton_append, List.cons_append, List.nil_append, hbs, sis, hA, hA0, hgl, hgl2]))
    all_goals first
      | exact ⟨_, ⟨_, _, [], [], _⟩, ⟨none, 0, none, 0⟩, _, rfl, by omega, by omega, rfl, ⟨.inl ⟨rfl, rfl, rfl⟩, .inl ⟨rfl, rfl, rfl⟩⟩, ⟨by first | exact hsm.nm | (dsimp only; omega), by first | exact hsm.sj | (dsimp only; omega), by simp, by simp⟩, by simp, by simp, fun _ => .inl rfl⟩
      | (refine appS_nil _ _ _ 1 _ _ _ _ (by decide) ?_ (by decide) ?_
         · decide
         simp only [go_sem, cond, Nat.reduceAdd, Nat.reduceLeDiff, Nat.reduceEqDiff, Nat.reduceBEq, decide_true, decide_false, Int.toNat_natCast, r, sA, gQ, gR, gR0, sR, sR0, hb, gi, si, si0, List.set_cons_zero, List.set_cons_succ, List.set_set, List.append_assoc, List.length_append, List.length_set, List.singleton_append, List.cons_append, List.nil_append, hbs, sis, hA, hA0, hgl, hgl2])
    · exact ⟨_, ⟨_, _, [⟨us, ni, (c : Int)⟩], [], _⟩, ⟨some _, _, none, 0⟩, _, rfl, by omega, by omega, rfl, ⟨.inr ⟨g3.length + 2 + 1, by rw [List.getElem?_cons_succ, gi]; rfl, rfl, rfl⟩, .inl ⟨rfl, rfl, rfl⟩⟩, ⟨hsm.nm, hsm.sj, (fun m hm => by simp only [List.mem_singleton] at hm; subst hm; exact ⟨by dsimp only; omega, by dsimp only; omega⟩), by simp⟩, by simp, by simp, fun _ => .inr (.inr (by simp))⟩
    · exact ⟨_, ⟨_, _, [], [⟨s1, (c : Int)⟩], _⟩, ⟨none, 0, some _, _⟩, _, rfl, by omega, by omega, rfl, ⟨.inl ⟨rfl, rfl, rfl⟩, .inr ⟨g3.length + 3 + 1, by rw [List.getElem?_cons_succ, gi]; rfl, rfl, rfl⟩⟩, ⟨hsm.nm, hsm.sj, by simp, (fun m hm => by simp only [List.mem_singleton] at hm; subst hm; dsimp only; omega)⟩, by simp, by simp, fun _ => .inl rfl⟩
  · rw [adR_Hx]
    have hj1 : g3[g.length + j]? = some (some (.row 60 (flat Mem.enc ms))) := by rw [hg3, gi]; exact hj
    have hk1 : g3[g.length + k]? = some (some (.row 58 (flat Rk.enc ks))) := by rw [hg3, gi]; exact hk
    have hlt : g.length + j < g3.length := lt_of_get hj1
    have hlt2 : g.length + k < g3.length := lt_of_get hk1
    simp only [go_sem, cond, Nat.reduceAdd, Nat.reduceLeDiff, Nat.reduceEqDiff, Nat.reduceBEq, decide_true, decide_false, Int.toNat_natCast, r, sA, gQ, gR, gR0, sR, sR0, hb, gi, si, si0, List.set_cons_zero, List.set_cons_succ, List.set_set, List.append_assoc, List.length_append, List.length_set, List.singleton_append, List.cons_append, List.nil_append, hbs, sis, hA, hA0, hgl, hgl2, Rm.enc, adR]
    have e1 : ∀ i, l.length + (g.length + 1) + i = l.length + (g.length + i + 1) := fun i => by omega
    simp only [Nat.zero_add, e1]
    clear hj hk
    generalize g.length + j = j1 at *
    generalize g.length + k = k1 at *
    have gj : ∀ r, (g3 ++ r)[j1]? = g3[j1]? := fun r => List.getElem?_append_left hlt
    have gk : ∀ r, (g3 ++ r)[k1]? = g3[k1]? := fun r => List.getElem?_append_left hlt2
    have sj : ∀ X r, (g3 ++ r).set j1 X = g3.set j1 X ++ r := fun X r => List.set_append_left _ _ hlt
    have sk : ∀ X r, (g3 ++ r).set k1 X = g3.set k1 X ++ r := fun X r => List.set_append_left _ _ hlt2
    have hne : j1 ≠ k1 := by
      intro e
      rw [e, hk1] at hj1
      simp at hj1
    repeat' (first
      | (refine Br_intro ?_ ?_ <;> intro h <;> simp only [go_sem, cond, Nat.reduceAdd, Nat.reduceLeDiff, Nat.reduceEqDiff, Nat.reduceBEq, decide_true, decide_false, Int.toNat_natCast, r, sA, gQ, gR, gR0, sR, sR0, hb, gi, si, si0, List.set_cons_zero, List.set_cons_succ, List.set_set, List.append_assoc, List.length_append, List.length_set, List.singleton_append, List.cons_append, List.nil_append, hbs, sis, hA, hA0, hgl, hgl2, gj, gk, sj, sk, h])
      | (refine xw_open (id := 8) [0, 1, 0, 4, 0, 28, 0, 124, 252, 508, 1023, 2047, 4095] [.q 0, .q 2, .q 4, .q 6, .l 1, .e 3, .e 5, .e 7, .e 8, .e 9, .d 1, .e 10, .q 11, .e 12] rfl (by kernel_rfl) ?_; simp only [go_sem, cond, Nat.reduceAdd, Nat.reduceLeDiff, Nat.reduceEqDiff, Nat.reduceBEq, decide_true, decide_false, Int.toNat_natCast, r, sA, gQ, gR, gR0, sR, sR0, hb, gi, si, si0, List.set_cons_zero, List.set_cons_succ, List.set_set, List.append_assoc, List.length_append, List.length_set, List.singleton_append, List.cons_append, List.nil_append, hbs, sis, hA, hA0, hgl, hgl2, gj, gk, sj, sk])
      | (refine xw_open (id := 10) [0, 1, 0, 0, 12, 0, 60, 124, 252, 511, 1023, 2047] [.q 0, .q 2, .q 5, .l 1, .e 3, .e 4, .e 6, .e 7, .e 8, .d 1, .e 9, .q 10, .e 11] rfl (by kernel_rfl) ?_; simp only [go_sem, cond, Nat.reduceAdd, Nat.reduceLeDiff, Nat.reduceEqDiff, Nat.reduceBEq, decide_true, decide_false, Int.toNat_natCast, r, sA, gQ, gR, gR0, sR, sR0, hb, gi, si, si0, List.set_cons_zero, List.set_cons_succ, List.set_set, List.append_assoc, List.length_append, List.length_set, List.singleton_append, List.cons_append, List.nil_append, hbs, sis, hA, hA0, hgl, hgl2, gj, gk, sj, sk])
      | (refine call (pick_ok w0 D hD B _ q _ _ (gQ _ _) (by omega)) ?_; rintro v H2 ⟨c, rfl, c1, -, rfl⟩; clear c1; simp only [go_sem, cond, Nat.reduceAdd, Nat.reduceLeDiff, Nat.reduceEqDiff, Nat.reduceBEq, decide_true, decide_false, Int.toNat_natCast, r, sA, gQ, gR, gR0, sR, sR0, hb, gi, si, si0, List.set_cons_zero, List.set_cons_succ, List.set_set, List.append_assoc, List.length_append, List.length_set, List.singleton_append, List.cons_append, List.nil_append, hbs, sis, hA, hA0, hgl, hgl2, gj, gk, sj, sk])
      | (refine call (l16User_ok w0 D B _ q _ hD (gQ _ _) (by omega)) ?_; rintro v H2 ⟨p3, rfl, h3, h4, us, hus, rfl⟩; simp only [go_sem, cond, Nat.reduceAdd, Nat.reduceLeDiff, Nat.reduceEqDiff, Nat.reduceBEq, decide_true, decide_false, Int.toNat_natCast, r, sA, gQ, gR, gR0, sR, sR0, hb, gi, si, si0, List.set_cons_zero, List.set_cons_succ, List.set_set, List.append_assoc, List.length_append, List.length_set, List.singleton_append, List.cons_append, List.nil_append, hbs, sis, hA, hA0, hgl, hgl2, gj, gk, sj, sk])
      | (refine call (l16Nick_ok w0 D B _ q _ hD (gQ _ _) (by omega)) ?_; rintro v H2 ⟨p3, rfl, h3, h4, ni, hni, rfl⟩; simp only [go_sem, cond, Nat.reduceAdd, Nat.reduceLeDiff, Nat.reduceEqDiff, Nat.reduceBEq, decide_true, decide_false, Int.toNat_natCast, r, sA, gQ, gR, gR0, sR, sR0, hb, gi, si, si0, List.set_cons_zero, List.set_cons_succ, List.set_set, List.append_assoc, List.length_append, List.length_set, List.singleton_append, List.cons_append, List.nil_append, hbs, sis, hA, hA0, hgl, hgl2, gj, gk, sj, sk])
      | (refine call (l16Any_ok w0 D B _ q _ hD (gQ _ _) (by omega)) ?_; rintro v H2 ⟨p3, rfl, h3, h4, su2, hsu2, rfl⟩; simp only [go_sem, cond, Nat.reduceAdd, Nat.reduceLeDiff, Nat.reduceEqDiff, Nat.reduceBEq, decide_true, decide_false, Int.toNat_natCast, r, sA, gQ, gR, gR0, sR, sR0, hb, gi, si, si0, List.set_cons_zero, List.set_cons_succ, List.set_set, List.append_assoc, List.length_append, List.length_set, List.singleton_append, List.cons_append, List.nil_append, hbs, sis, hA, hA0, hgl, hgl2, gj, gk, sj, sk])
      | (refine call (of_ok w0 D hD B _ q _ _ _ _ _ (gQ _ _) (by omega) (by first | exact gR _ _ _ | exact gR0 _ _ | (rw [gR, List.getElem?_cons_succ, gi]; rfl)) rfl rfl (by decide) (by decide) (by decide)) ?_; rintro v H2 ⟨s1, hs1, rfl, rfl⟩; simp only [go_sem, cond, Nat.reduceAdd, Nat.reduceLeDiff, Nat.reduceEqDiff, Nat.reduceBEq, decide_true, decide_false, Int.toNat_natCast, r, sA, gQ, gR, gR0, sR, sR0, hb, gi, si, si0, List.set_cons_zero, List.set_cons_succ, List.set_set, List.append_assoc, List.length_append, List.length_set, List.singleton_append, List.cons_append, List.nil_append, hbs, sis, hA, hA0, hgl, hgl2, gj, gk, sj, sk])
      | (refine call (one_ok w0 D hD B _ q _ _ _ _ _ (gQ _ _) (by omega) (by first | exact gR _ _ _ | exact gR0 _ _ | (rw [gR, List.getElem?_cons_succ, gi]; rfl)) rfl rfl (by decide) (by decide) (by decide)) ?_; rintro v H2 ⟨s1, hs1, hs2, -, rfl, rfl⟩; simp only [go_sem, cond, Nat.reduceAdd, Nat.reduceLeDiff, Nat.reduceEqDiff, Nat.reduceBEq, decide_true, decide_false, Int.toNat_natCast, r, sA, gQ, gR, gR0, sR, sR0, hb, gi, si, si0, List.set_cons_zero, List.set_cons_succ, List.set_set, List.append_assoc, List.length_append, List.length_set, List.singleton_append, List.cons_append, List.nil_append, hbs, sis, hA, hA0, hgl, hgl2, gj, gk, sj, sk])
      | (refine bsV_dense ⟨_, XF.zer_9, rfl⟩ rfl rfl (by decide) rfl ?_; simp only [go_sem, cond, Nat.reduceAdd, Nat.reduceLeDiff, Nat.reduceEqDiff, Nat.reduceBEq, decide_true, decide_false, Int.toNat_natCast, r, sA, gQ, gR, gR0, sR, sR0, hb, gi, si, si0, List.set_cons_zero, List.set_cons_succ, List.set_set, List.append_assoc, List.length_append, List.length_set, List.singleton_append, List.cons_append, List.nil_append, hbs, sis, hA, hA0, hgl, hgl2, gj, gk, sj, sk])
      | (refine bsV_dense ⟨_, XF.zer_3, rfl⟩ rfl rfl (by decide) rfl ?_; simp only [go_sem, cond, Nat.reduceAdd, Nat.reduceLeDiff, Nat.reduceEqDiff, Nat.reduceBEq, decide_true, decide_false, Int.toNat_natCast, r, sA, gQ, gR, gR0, sR, sR0, hb, gi, si, si0, List.set_cons_zero, List.set_cons_succ, List.set_set, List.append_assoc, List.length_append, List.length_set, List.singleton_append, List.cons_append, List.nil_append, hbs, sis, hA, hA0, hgl, hgl2, gj, gk, sj, sk])
      | (refine Req_intro ⟨_, rfl, rfl⟩ ?_; simp only [go_sem, cond, Nat.reduceAdd, Nat.reduceLeDiff, Nat.reduceEqDiff, Nat.reduceBEq, decide_true, decide_false, Int.toNat_natCast, r, sA, gQ, gR, gR0, sR, sR0, hb, gi, si, si0, List.set_cons_zero, List.set_cons_succ, List.set_set, List.append_assoc, List.length_append, List.length_set, List.singleton_append, List.cons_append, List.nil_append, hbs, sis, hA, hA0, hgl, hgl2, gj, gk, sj, sk]))
    all_goals first
      | exact ⟨_, ⟨_, _, ms, ks, _⟩, ⟨some _, _, some _, _⟩, _, rfl, by omega, by omega, rfl, ⟨.inr ⟨j1 + 1, by rw [List.getElem?_cons_succ, gj]; exact hj1, rfl, rfl⟩, .inr ⟨k1 + 1, by rw [List.getElem?_cons_succ, gk]; exact hk1, rfl, rfl⟩⟩, ⟨by first | exact hsm.nm | (dsimp only; omega), by first | exact hsm.sj | (dsimp only; omega), hsm.ms, hsm.ks⟩, by dsimp only; omega, by dsimp only; omega, fun h => by cases h⟩
      | exact ⟨_, ⟨_, _, ms, [], _⟩, ⟨some _, _, none, 0⟩, _, rfl, by omega, by omega, rfl, ⟨.inr ⟨j1 + 1, by rw [List.getElem?_cons_succ, gj]; exact hj1, rfl, rfl⟩, .inl ⟨rfl, rfl, rfl⟩⟩, ⟨hsm.nm, hsm.sj, hsm.ms, by simp⟩, by dsimp only; omega, by simp, fun h => .inr (.inl (hxa.resolve_left (by simp [adR])))⟩
      | (refine appS_full (m := 1) (sl := ms.length) _ _ _ _ _ _ _ (l.length + (j1 + 1)) _ _ _ (by rw [gR, List.getElem?_cons_succ, gj]; exact hj1) rfl (flat_len mlen _) XF.lay_60 (by decide) (by rfl) (by omega) (by omega) ?_
         simp only [go_sem, cond, Nat.reduceAdd, Nat.reduceLeDiff, Nat.reduceEqDiff, Nat.reduceBEq, decide_true, decide_false, Int.toNat_natCast, r, sA, gQ, gR, gR0, sR, sR0, hb, gi, si, si0, List.set_cons_zero, List.set_cons_succ, List.set_set, List.append_assoc, List.length_append, List.length_set, List.singleton_append, List.cons_append, List.nil_append, hbs, sis, hA, hA0, hgl, hgl2, gj, gk, sj, sk])
      | (refine appS_full (m := 1) (sl := ks.length) _ _ _ _ _ _ _ (l.length + (k1 + 1)) _ _ _ (by rw [gR, List.getElem?_cons_succ, gk]; exact hk1) rfl (flat_len klen _) XF.lay_58 (by decide) (by rfl) (by omega) (by omega) ?_
         simp only [go_sem, cond, Nat.reduceAdd, Nat.reduceLeDiff, Nat.reduceEqDiff, Nat.reduceBEq, decide_true, decide_false, Int.toNat_natCast, r, sA, gQ, gR, gR0, sR, sR0, hb, gi, si, si0, List.set_cons_zero, List.set_cons_succ, List.set_set, List.append_assoc, List.length_append, List.length_set, List.singleton_append, List.cons_append, List.nil_append, hbs, sis, hA, hA0, hgl, hgl2, gj, gk, sj, sk])
    · have e1 : flat Mem.enc ms ++ [.string us, .string ni, .int .i64 (c : Int)] = flat Mem.enc (ms ++ [⟨us, ni, (c : Int)⟩]) := by rw [flat_app]; rfl
      have e2 : ms.length + 1 = (ms ++ [(⟨us, ni, (c : Int)⟩ : Mem)]).length := by simp
      have e3 : ∀ m ∈ ms ++ [(⟨us, ni, (c : Int)⟩ : Mem)], m.user.size ≤ 100000 ∧ m.nick.size ≤ 100000 := fun m hm => by
        rcases List.mem_append.1 hm with hm | hm
        · exact hsm.ms m hm
        · simp only [List.mem_singleton] at hm; subst hm; exact ⟨by dsimp only; omega, by dsimp only; omega⟩
      have e4 : (ms ++ [(⟨us, ni, (c : Int)⟩ : Mem)]).length ≤ 200 := by rw [← e2]; omega
      rw [e1, e2]
      clear e1 e2
      generalize ms ++ [(⟨us, ni, (c : Int)⟩ : Mem)] = ms' at *
      exact ⟨_, ⟨_, _, ms', ks, _⟩, ⟨some _, _, some _, _⟩, _, rfl, by omega, by omega, rfl, ⟨.inr ⟨j1 + 1, by rw [List.getElem?_cons_succ, List.getElem?_append_left (by rw [List.length_set]; exact hlt), List.getElem?_set_self hlt], rfl, rfl⟩, .inr ⟨k1 + 1, by rw [List.getElem?_cons_succ, List.getElem?_append_left (by rw [List.length_set]; exact hlt2), List.getElem?_set_ne hne]; exact hk1, rfl, rfl⟩⟩, ⟨hsm.nm, hsm.sj, e3, hsm.ks⟩, e4, by dsimp only; omega, fun h => by cases h⟩
    · have e1 : flat Rk.enc ks ++ [.string s1, .int .i64 (c : Int)] = flat Rk.enc (ks ++ [⟨s1, (c : Int)⟩]) := by rw [flat_app]; rfl
      have e2 : ks.length + 1 = (ks ++ [(⟨s1, (c : Int)⟩ : Rk)]).length := by simp
      have e3 : ∀ m ∈ ks ++ [(⟨s1, (c : Int)⟩ : Rk)], m.user.size ≤ 100000 := fun m hm => by
        rcases List.mem_append.1 hm with hm | hm
        · exact hsm.ks m hm
        · simp only [List.mem_singleton] at hm; subst hm; dsimp only; omega
      have e4 : (ks ++ [(⟨s1, (c : Int)⟩ : Rk)]).length ≤ 200 := by rw [← e2]; omega
      rw [e1, e2]
      clear e1 e2
      generalize ks ++ [(⟨s1, (c : Int)⟩ : Rk)] = ks' at *
      exact ⟨_, ⟨_, _, ms, ks', _⟩, ⟨some _, _, some _, _⟩, _, rfl, by omega, by omega, rfl, ⟨.inr ⟨j1 + 1, by rw [List.getElem?_cons_succ, List.getElem?_append_left (by rw [List.length_set]; exact hlt), List.getElem?_set_ne hne.symm]; exact hj1, rfl, rfl⟩, .inr ⟨k1 + 1, by rw [List.getElem?_cons_succ, List.getElem?_append_left (by rw [List.length_set]; exact hlt2), List.getElem?_set_self hlt2], rfl, rfl⟩⟩, ⟨hsm.nm, hsm.sj, hsm.ms, e3⟩, by dsimp only; omega, e4, fun h => by cases h⟩
end Go.Proofs.YtmacpgoclhgafaaDoorW.FA

namespace Go.Proofs.YtmacpgoclhgafaaDoorW.FA
open Go.RowKit Go.Proofs.YtmacpgoclhgafaaDoorW.XM Go.Proofs Go.Proofs.YtmacpgoclhgafaaDoorW.XWords
set_option maxRecDepth 100000
set_option linter.unusedSimpArgs false
set_option linter.unusedVariables false
variable (w0 : World) (H : Hp)
/-- The texts of an entry are short. -/
structure TxE (e : En) : Prop where
  rm : e.room.size ≤ 100000
  us : e.user.size ≤ 100000
  ni : e.nick.size ≤ 100000
  tx : e.text.size ≤ 100000
  id : e.id.size ≤ 100000
  rf : e.ref.size ≤ 100000
theorem TxE.big {e : En} (h : TxE e) : BigE e := ⟨by have := h.rm; omega, by have := h.us; omega, by have := h.ni; omega, by have := h.tx; omega, by have := h.id; omega, by have := h.rf; omega⟩
theorem TxE.mk2 {se k n : Int} {ro us ni te i re : ByteArray} (h1 : ro.size ≤ 100000) (h2 : us.size ≤ 100000) (h3 : ni.size ≤ 100000) (h4 : te.size ≤ 100000) (h5 : i.size ≤ 100000) (h6 : re.size ≤ 100000) : TxE ⟨ro, se, k, us, ni, te, i, re, n⟩ := ⟨h1, h2, h3, h4, h5, h6⟩
end Go.Proofs.YtmacpgoclhgafaaDoorW.FA

namespace Go.Proofs.YtmacpgoclhgafaaDoorW.FA
open Go.RowKit Go.Proofs.YtmacpgoclhgafaaDoorW.XM Go.Proofs Go.Proofs.YtmacpgoclhgafaaDoorW.XWords
set_option maxRecDepth 100000
set_option linter.unusedSimpArgs false
set_option linter.unusedVariables false
variable (w0 : World) (H : Hp)
/-- Where a law's code lies. -/
structure CoOk (w0 : World) (A : Option Addr) (c : Nat) (bs : List UInt8) : Prop where
  rd : ∀ H, Sl w0 H A 1 (bs.map encB)
  pl : plain (.slice A bs.length c) = true
  le : bs.length ≤ c
theorem Sl.take {w0 : World} {H : Hp} {A : Option Addr} {n : Nat} {rows : List (List Value)} (h : Sl w0 H A n rows) (k : Nat) : Sl w0 H A n (rows.take k) := by
  rcases h with h | ⟨b, o, sp, h, hr⟩
  · exact .inl (by rw [h, List.take_nil])
  · refine .inr ⟨b, o, sp, h, fun i r hi => hr i r ?_⟩
    rw [List.getElem?_take] at hi
    split at hi
    · exact hi
    · cases hi
theorem l16Open_ok (A : Option Addr) (c : Nat) (bs : List UInt8) (hc : CoOk w0 A c bs) : AFn Tryd.prog w0 59 #[.slice A bs.length c] H fun v H2 => ∃ D, CdOk w0 D ∧ v = .pointer (some ⟨nid H 0, 0, some 2⟩) ∧ H2 = Hx H [dr D 0] := by
  have hle := hc.le
  refine AFn_nil ?_
  refine AFn_of Tryd.func59 rfl (by kernel_rfl) ?_
  have r := Tryd.results59
  simp only [go_sem, cond, Nat.reduceAdd, Nat.reduceLeDiff, Nat.reduceEqDiff, Nat.reduceBEq, decide_true, decide_false, Int.toNat_natCast, r]
  refine Br_intro ?_ ?_ <;> intro h <;> simp only [go_sem, cond, Nat.reduceAdd, Nat.reduceLeDiff, Nat.reduceEqDiff, Nat.reduceBEq, decide_true, decide_false, Int.toNat_natCast, r, h]
  · have h := of_decide_eq_true h
    have hpl := hc.pl
    have hrd := hc.rd
    cases A with
    | none =>
      rcases hrd H with h2 | ⟨b, o, sp, h2, -⟩
      · simp only [List.map_eq_nil_iff] at h2
        subst h2
        simp at h
      · cases h2
    | some a =>
      obtain ⟨b, o, sp⟩ := a
      cases sp with
      | some t => simp [plain] at hpl
      | none =>
        refine ⟨_, _, XF.elm_42, by simp, 0, 2000, c, rfl, rfl, rfl, by omega, by omega, by omega, by omega, trivial, .inr (.inl ⟨by simp, ?_⟩)⟩
        have e1 : (if ((c : Int)).toNat = Int.toNat 0 then o else o + Int.toNat 0 * 1) = o := by split <;> simp
        rw [e1]
        simp only [go_sem, cond, Nat.reduceAdd, Nat.reduceLeDiff, Nat.reduceEqDiff, Nat.reduceBEq, decide_true, decide_false, Int.toNat_natCast, r]
        refine ⟨⟨some ⟨b, o, none⟩, 2000, c⟩, ⟨⟨bs.take 2000, by simp; omega, fun H => ?_⟩, by dsimp only; omega, rfl⟩, rfl⟩
        rw [List.map_take]
        exact Sl.take (hrd H) 2000
  · have h := of_decide_eq_false h
    refine ⟨⟨A, bs.length, c⟩, ⟨⟨bs, rfl, hc.rd⟩, by dsimp only; omega, hc.pl⟩, rfl⟩
end Go.Proofs.YtmacpgoclhgafaaDoorW.FA

namespace Go.Proofs.YtmacpgoclhgafaaDoorW.FA
open Go.RowKit Go.Proofs.YtmacpgoclhgafaaDoorW.XM Go.Proofs Go.Proofs.YtmacpgoclhgafaaDoorW.XWords
set_option maxRecDepth 100000
set_option linter.unusedSimpArgs false
set_option linter.unusedVariables false
variable (w0 : World) (H : Hp)
end Go.Proofs.YtmacpgoclhgafaaDoorW.FA

namespace Go.Proofs.YtmacpgoclhgafaaDoorW.FA
open Go.RowKit Go.Proofs.YtmacpgoclhgafaaDoorW.XM Go.Proofs Go.Proofs.YtmacpgoclhgafaaDoorW.XWords
set_option maxRecDepth 100000
set_option linter.unusedSimpArgs false
set_option linter.unusedVariables false
variable (w0 : World) (H : Hp)
end Go.Proofs.YtmacpgoclhgafaaDoorW.FA

namespace Go.Proofs.YtmacpgoclhgafaaDoorW.FA
open Go.RowKit Go.Proofs.YtmacpgoclhgafaaDoorW.XM Go.Proofs Go.Proofs.YtmacpgoclhgafaaDoorW.XWords
set_option maxRecDepth 100000
set_option linter.unusedSimpArgs false
set_option linter.unusedVariables false
variable (w0 : World) (H : Hp)
end Go.Proofs.YtmacpgoclhgafaaDoorW.FA

namespace Go.Proofs.YtmacpgoclhgafaaDoorW.FA
open Go.RowKit Go.Proofs.YtmacpgoclhgafaaDoorW.XM Go.Proofs Go.Proofs.YtmacpgoclhgafaaDoorW.XWords
set_option maxRecDepth 100000
set_option linter.unusedSimpArgs false
set_option linter.unusedVariables false
variable {w0 : World} {H : Hp}
theorem nid_Hx (B : Hp) (M : List (Option Ob)) (k : Nat) : nid (Hx B M) k = nid B (M.length + k) := by
  unfold nid Hx; simp [Nat.add_assoc]
theorem PlS.down' {B : Hp} {M M' L : List (Option Ob)} {R : Rm} {x : Ad} (hl : M'.length = M.length) (h : PlS (Hx B M) 0 L R x) : PlS B 0 (M' ++ L) R x := by
  refine ⟨h.m.imp id fun ⟨j, a, b, c⟩ => ⟨M.length + j, ?_, ?_, c⟩, h.k.imp id fun ⟨j, a, b, c⟩ => ⟨M.length + j, ?_, ?_, c⟩⟩
  · rw [List.getElem?_append_right (by omega), hl, Nat.add_sub_cancel_left]; exact a
  · rw [b, nid_Hx, Nat.zero_add, Nat.zero_add]
  · rw [List.getElem?_append_right (by omega), hl, Nat.add_sub_cancel_left]; exact a
  · rw [b, nid_Hx, Nat.zero_add, Nat.zero_add]
theorem PlS.down {B : Hp} {M L : List (Option Ob)} {R : Rm} {x : Ad} (h : PlS (Hx B M) 0 L R x) : PlS B 0 (M ++ L) R x := by
  refine ⟨h.m.imp id fun ⟨j, a, b, c⟩ => ⟨M.length + j, ?_, ?_, c⟩, h.k.imp id fun ⟨j, a, b, c⟩ => ⟨M.length + j, ?_, ?_, c⟩⟩
  · rw [List.getElem?_append_right (by omega), Nat.add_sub_cancel_left]; exact a
  · rw [b, nid_Hx, Nat.zero_add, Nat.zero_add]
  · rw [List.getElem?_append_right (by omega), Nat.add_sub_cancel_left]; exact a
  · rw [b, nid_Hx, Nat.zero_add, Nat.zero_add]
variable (w0 H)
theorem PlS.nm {H : Hp} {n : Nat} {g : List (Option Ob)} {R : Rm} {x : Ad} (h : PlS H n g R x) : (x.a = none → x.c = 0 ∧ R.ms = []) ∧ (x.b = none → x.d = 0 ∧ R.ks = []) := by
  constructor
  · intro hx
    rcases h.m with ⟨_, h2, h3⟩ | ⟨j, _, h2, _⟩
    · exact ⟨h2, h3⟩
    · rw [h2] at hx; cases hx
  · intro hx
    rcases h.k with ⟨_, h2, h3⟩ | ⟨j, _, h2, _⟩
    · exact ⟨h2, h3⟩
    · rw [h2] at hx; cases hx
end Go.Proofs.YtmacpgoclhgafaaDoorW.FA

namespace Go.Proofs.YtmacpgoclhgafaaDoorW.FA
open Go.RowKit Go.Proofs.YtmacpgoclhgafaaDoorW.XM Go.Proofs Go.Proofs.YtmacpgoclhgafaaDoorW.XWords
set_option maxRecDepth 100000
set_option linter.unusedSimpArgs false
set_option linter.unusedVariables false
variable (w0 : World) (H : Hp)
/-- A deed: a room, a log, a user, what is said, what has happened. -/
def deedC (R : Rm) (x : Ad) (A : Option Addr) (n c : Nat) (u : ByteArray) (s : Sy) (o : Value) : List Value := [.string R.name, .int .i64 R.next, .slice x.a R.ms.length x.c, .slice x.b R.ks.length x.d, .string R.subj, .slice A n c, .string u, .int .i64 s.kind, .string s.room, .string s.nick, .string s.name, .string s.id, .string s.ref, .string s.text, .int .i64 s.num, .int .i64 s.frm, .int .i64 s.back, o]
def hapE (R : Rm) (n : Nat) (e : En) : En := ⟨R.name, IntKind.i64.wrap (R.next + (n : Int)), e.kind, e.user, e.nick, e.text, e.id, e.ref, e.num⟩
def dd (R : Rm) (x : Ad) (A : Option Addr) (n c : Nat) (u : ByteArray) (s : Sy) (o : Value) : Option Ob := some (.row 112 (deedC R x A n c u s o))
set_option maxHeartbeats 4000000 in
theorem happens0_ok (l : List (Option Ob)) (p : Nat) (R : Rm) (x : Ad) (A : Option Addr) (n c : Nat) (u : ByteArray) (s : Sy) (e : En) (hp : l[p]? = some (dd R x A n c u s (.slice none 0 0))) :
    AFn Tryd.prog w0 132 #[.pointer (some ⟨nid H p, 0, some 18⟩), .agg e.enc.toArray] (Hx H l) fun v H2 => v = .tuple #[] ∧ H2 = Hx H (l.set p (dd R x A n c u s (.slice (some ⟨nid H (l.length + 2), 0, some 9⟩) 1 1)) ++ [some (.row 37 (hapE R 0 e).enc), some (.row 37 (hapE R 0 e).enc), some (.row 37 (hapE R 0 e).enc)]) := by
  have hlp := lt_of_get hp
  refine AFn_of Tryd.func132 rfl (by kernel_rfl) ?_
  have r := Tryd.results132
  unfold dd at hp ⊢
  unfold deedC at hp ⊢
  have gp : ∀ r : List (Option Ob), (l ++ r)[p]? = l[p]? := fun r => List.getElem?_append_left hlp
  have sp : ∀ (X : Option Ob) (r : List (Option Ob)), (l ++ r).set p X = l.set p X ++ r := fun X r => List.set_append_left _ _ hlp
  have hb : ∀ (g : List (Option Ob)) (Y : Option Ob) (r : List (Option Ob)), (g ++ Y :: r)[g.length]? = some Y := fun g Y r => by rw [List.getElem?_append_right (Nat.le_refl _)]; simp
  have gi : ∀ (g r : List (Option Ob)) (k : Nat), (g ++ r)[g.length + k]? = r[k]? := fun g r k => by rw [List.getElem?_append_right (by omega)]; simp
  have si0 : ∀ (g r : List (Option Ob)) (Z : Option Ob), (g ++ r).set g.length Z = g ++ r.set 0 Z := fun g r Z => by rw [List.set_append_right _ _ (by omega)]; simp
  simp only [go_sem, cond, Nat.reduceAdd, Nat.reduceLeDiff, Nat.reduceEqDiff, Nat.reduceBEq, decide_true, decide_false, Int.toNat_natCast, En.enc, r, hp, gp, sp, hb, gi, si0]
  (refine xw_open (id := 1) [0, 1, 3, 7, 15, 0, 32, 96, 224, 480, 0, 1024, 3072, 7168, 15360, 32736, 31, 65567, 262143, 524287] [.q 0, .q 1, .q 2, .q 3, .q 5, .q 6, .q 7, .q 8, .q 10, .q 11, .q 12, .q 4, .q 16, .l 9, .l 13, .q 14, .q 15, .e 17, .d 13, .d 9, .q 18, .e 19] rfl (by kernel_rfl) ?_; simp only [go_sem, cond, Nat.reduceAdd, Nat.reduceLeDiff, Nat.reduceEqDiff, Nat.reduceBEq, decide_true, decide_false, Int.toNat_natCast, En.enc, r, hp, gp, sp, hb, gi, si0, List.set_cons_zero])
  have gp2 : ∀ (X : Option Ob) (r : List (Option Ob)), (l.set p X ++ r)[p]? = some X := fun X r => by rw [List.getElem?_append_left (by simpa using hlp), List.getElem?_set_self hlp]
  (refine xw_open (id := 2) [0, 0, 2, 6, 14, 0, 32, 126, 255, 511, 1023] [.q 0, .q 1, .q 2, .q 3, .l 4, .q 5, .e 6, .d 4, .e 7, .q 8, .q 9, .e 10] rfl (by kernel_rfl) ?_; simp only [go_sem, cond, Nat.reduceAdd, Nat.reduceLeDiff, Nat.reduceEqDiff, Nat.reduceBEq, decide_true, decide_false, Int.toNat_natCast, En.enc, r, hp, gp, gp2, sp, hb, gi, si0, List.set_cons_zero, List.append_assoc, List.singleton_append, List.length_append, Nat.zero_add])
  refine Req_intro ⟨_, rfl, rfl⟩ ?_
  simp only [go_sem, cond, Nat.reduceAdd, Nat.reduceLeDiff, Nat.reduceEqDiff, Nat.reduceBEq, decide_true, decide_false, Int.toNat_natCast, En.enc, r, hp, gp, gp2, sp, hb, gi, si0, List.set_cons_zero, List.append_assoc, List.singleton_append, List.length_append, Nat.zero_add]
  refine appS_nil _ _ _ 1 _ _ _ _ (by decide) ?_ (by decide) ?_
  · decide
  simp only [go_sem, cond, Nat.reduceAdd, Nat.reduceLeDiff, Nat.reduceEqDiff, Nat.reduceBEq, decide_true, decide_false, Int.toNat_natCast, En.enc, r, hp, gp, gp2, sp, hb, gi, si0, List.set_cons_zero, List.append_assoc, List.singleton_append, List.length_append, Nat.zero_add]
  exact ⟨rfl, rfl⟩
set_option maxHeartbeats 4000000 in
theorem happens1_ok (l : List (Option Ob)) (p k : Nat) (R : Rm) (x : Ad) (A : Option Addr) (n c : Nat) (u : ByteArray) (s : Sy) (e : En) (os : List En) (hos : os.length ≤ 100) (hk : l[k]? = some (some (.row 37 (flat En.enc os)))) (hp : l[p]? = some (dd R x A n c u s (.slice (some ⟨nid H k, 0, some (os.length * 9)⟩) os.length os.length))) :
    AFn Tryd.prog w0 132 #[.pointer (some ⟨nid H p, 0, some 18⟩), .agg e.enc.toArray] (Hx H l) fun v H2 => v = .tuple #[] ∧ H2 = Hx H ((l.set k (some (.row 37 (flat En.enc (os ++ [hapE R os.length e]))))).set p (dd R x A n c u s (.slice (some ⟨nid H k, 0, some ((os ++ [hapE R os.length e]).length * 9)⟩) (os ++ [hapE R os.length e]).length (os ++ [hapE R os.length e]).length)) ++ [some (.row 37 (hapE R os.length e).enc), some (.row 37 (hapE R os.length e).enc)]) := by
  have hlp := lt_of_get hp
  have hlk := lt_of_get hk
  have hne : p ≠ k := by
    intro e
    rw [e, hk] at hp
    simp [dd] at hp
  refine AFn_of Tryd.func132 rfl (by kernel_rfl) ?_
  have r := Tryd.results132
  unfold dd at hp ⊢
  unfold deedC at hp ⊢
  have gp : ∀ r : List (Option Ob), (l ++ r)[p]? = l[p]? := fun r => List.getElem?_append_left hlp
  have gk : ∀ r : List (Option Ob), (l ++ r)[k]? = l[k]? := fun r => List.getElem?_append_left hlk
  have sp : ∀ (X : Option Ob) (r : List (Option Ob)), (l ++ r).set p X = l.set p X ++ r := fun X r => List.set_append_left _ _ hlp
  have sk : ∀ (X : Option Ob) (r : List (Option Ob)), (l ++ r).set k X = l.set k X ++ r := fun X r => List.set_append_left _ _ hlk
  have skp : ∀ (X Y : Option Ob) (r : List (Option Ob)), (l.set k X ++ r).set p Y = (l.set k X).set p Y ++ r := fun X Y r => List.set_append_left _ _ (by simpa using hlp)
  have gkp : ∀ (X : Option Ob) (r : List (Option Ob)), (l.set k X ++ r)[p]? = l[p]? := fun X r => by rw [List.getElem?_append_left (by simpa using hlp), List.getElem?_set_ne (fun e => hne e.symm)]
  have hb : ∀ (g : List (Option Ob)) (Y : Option Ob) (r : List (Option Ob)), (g ++ Y :: r)[g.length]? = some Y := fun g Y r => by rw [List.getElem?_append_right (Nat.le_refl _)]; simp
  have gi : ∀ (g r : List (Option Ob)) (k : Nat), (g ++ r)[g.length + k]? = r[k]? := fun g r k => by rw [List.getElem?_append_right (by omega)]; simp
  have si0 : ∀ (g r : List (Option Ob)) (Z : Option Ob), (g ++ r).set g.length Z = g ++ r.set 0 Z := fun g r Z => by rw [List.set_append_right _ _ (by omega)]; simp
  simp only [go_sem, cond, Nat.reduceAdd, Nat.reduceLeDiff, Nat.reduceEqDiff, Nat.reduceBEq, decide_true, decide_false, Int.toNat_natCast, En.enc, r, hp, hk, gp, gk, sp, sk, skp, gkp, hb, gi, si0, List.set_cons_zero, List.append_assoc, List.singleton_append, List.length_append]
  (refine xw_open (id := 1) [0, 1, 3, 7, 15, 0, 32, 96, 224, 480, 0, 1024, 3072, 7168, 15360, 32736, 31, 65567, 262143, 524287] [.q 0, .q 1, .q 2, .q 3, .q 5, .q 6, .q 7, .q 8, .q 10, .q 11, .q 12, .q 4, .q 16, .l 9, .l 13, .q 14, .q 15, .e 17, .d 13, .d 9, .q 18, .e 19] rfl (by kernel_rfl) ?_; simp only [go_sem, cond, Nat.reduceAdd, Nat.reduceLeDiff, Nat.reduceEqDiff, Nat.reduceBEq, decide_true, decide_false, Int.toNat_natCast, En.enc, r, hp, hk, gp, gk, sp, sk, skp, gkp, hb, gi, si0, List.set_cons_zero, List.append_assoc, List.singleton_append, List.length_append])
  (refine xw_open (id := 2) [0, 0, 2, 6, 14, 0, 32, 126, 255, 511, 1023] [.q 0, .q 1, .q 2, .q 3, .l 4, .q 5, .e 6, .d 4, .e 7, .q 8, .q 9, .e 10] rfl (by kernel_rfl) ?_; simp only [go_sem, cond, Nat.reduceAdd, Nat.reduceLeDiff, Nat.reduceEqDiff, Nat.reduceBEq, decide_true, decide_false, Int.toNat_natCast, En.enc, r, hp, hk, gp, gk, sp, sk, skp, gkp, hb, gi, si0, List.set_cons_zero, List.append_assoc, List.singleton_append, List.length_append])
  refine Req_intro ⟨_, rfl, rfl⟩ ?_
  simp only [go_sem, cond, Nat.reduceAdd, Nat.reduceLeDiff, Nat.reduceEqDiff, Nat.reduceBEq, decide_true, decide_false, Int.toNat_natCast, En.enc, r, hp, hk, gp, gk, sp, sk, skp, gkp, hb, gi, si0, List.set_cons_zero, List.append_assoc, List.singleton_append, List.length_append]
  refine appS_full (m := 1) (sl := os.length) _ _ _ _ _ _ _ k _ _ _ (by rw [gk]; exact hk) rfl (flat_len elen _) XF.lay_37 (by decide) (by rfl) (by omega) (by omega) ?_
  simp only [go_sem, cond, Nat.reduceAdd, Nat.reduceLeDiff, Nat.reduceEqDiff, Nat.reduceBEq, decide_true, decide_false, Int.toNat_natCast, En.enc, r, hp, hk, gp, gk, sp, sk, skp, gkp, hb, gi, si0, List.set_cons_zero, List.append_assoc, List.singleton_append, List.length_append]
  have e1 : flat En.enc os ++ [.string R.name, .int .i64 (IntKind.i64.wrap (R.next + (os.length : Int))), .int .i64 e.kind, .string e.user, .string e.nick, .string e.text, .string e.id, .string e.ref, .int .i64 e.num] = flat En.enc (os ++ [hapE R os.length e]) := by rw [flat_app]; rfl
  have e2 : os.length + 1 = (os ++ [hapE R os.length e]).length := by simp
  rw [e1, e2]
  exact ⟨rfl, rfl⟩
end Go.Proofs.YtmacpgoclhgafaaDoorW.FA

namespace Go.Proofs.YtmacpgoclhgafaaDoorW.FA
open Go.RowKit Go.Proofs.YtmacpgoclhgafaaDoorW.XM Go.Proofs Go.Proofs.YtmacpgoclhgafaaDoorW.XWords
set_option maxRecDepth 100000
set_option linter.unusedSimpArgs false
set_option linter.unusedVariables false
variable (w0 : World) (H : Hp)
theorem indexE_ok {α : Type} (enc : α → List Value) (A : Option Addr) (c : Nat) (ms : List α) (hs : Sl w0 H A 9 (ms.map enc)) (hl : ms.length ≤ 2000000) (he : ∀ m, (enc m).length = 9) (g : FuncId) (fi ca : List Value) (p : α → Bool)
    (hp : ∀ i (h : i < ms.length), AFn Tryd.prog w0 g (fi ++ [Value.agg (enc ms[i]).toArray] ++ ca).toArray H fun v H2 => v = .bool (p ms[i]) ∧ H2 = H) :
    AFn Tryd.prog w0 91 #[.slice A ms.length c, .func (.func g) fi.toArray ca.toArray] H fun v H2 => v = .int .i64 (idxP p ms 0) ∧ H2 = H := by
  refine AFn.scal rfl Tryd.func91 rfl (by kernel_rfl) ?_
  have r := Tryd.results91
  simp only [go_sem, cond, Nat.reduceAdd, Nat.reduceLeDiff, Nat.reduceEqDiff, Nat.reduceBEq, decide_true, decide_false, Int.toNat_natCast, r]
  refine xw_loop (fun (i : Nat) T H' => i ≤ ms.length ∧ idxP p (ms.drop i) i = idxP p ms 0 ∧ T 0 = .slice A ms.length c ∧ T 1 = .func (.func g) fi.toArray ca.toArray ∧ T 7 = .int .i64 ms.length ∧ T 8 = .int .i64 i ∧ H' = Hx H []) (fun i => ms.length - i) 0 (by kernel_rfl) ⟨Nat.zero_le _, rfl, rfl, rfl, rfl, rfl, rfl⟩ ?_
  rintro i T H' ⟨hi, he2, t0, t1, t7, t8, rfl⟩
  by_cases hlt : i < ms.length
  · obtain ⟨b, o, sp, hx, _, hc⟩ := mcell hs hlt
    have c0 := hc [] (he _)
    have d1 : ((i : Int) < (ms.length : Int)) = True := eq_true (by omega)
    have d2 : (0 ≤ (i : Int)) = True := eq_true (by omega)
    have c1 := hp i hlt
    rw [← Hx_nil H] at c1
    rw [idxP_drop _ _ i hlt] at he2
    simp only [go_sem, cond, Nat.reduceAdd, Nat.reduceLeDiff, Nat.reduceEqDiff, Nat.reduceBEq, decide_true, decide_false, Int.toNat_natCast, hx, t0, t1, t7, t8, d1, d2, c0]
    refine call_eq c1 ?_
    simp only [go_sem, cond, Nat.reduceAdd, Nat.reduceLeDiff, Nat.reduceEqDiff, Nat.reduceBEq, decide_true, decide_false, Int.toNat_natCast, hx, t0, t1, t7, t8, d1, d2, c0]
    refine Br_intro ?_ ?_ <;> intro h <;> simp only [go_sem, cond, Nat.reduceAdd, Nat.reduceLeDiff, Nat.reduceEqDiff, Nat.reduceBEq, decide_true, decide_false, Int.toNat_natCast, t0, t1, t7, t8, h, r]
    · rw [if_pos h] at he2
      exact ⟨by rw [he2], _, rfl⟩
    · rw [if_neg (by rw [h]; decide)] at he2
      exact ⟨i + 1, ⟨hlt, he2, (by rw [← hx]; exact t0), t1, t7, int_succ hlt (by omega), rfl⟩, lt_meas hlt⟩
  · obtain rfl : i = ms.length := by omega
    have d1 : ((ms.length : Int) < (ms.length : Int)) = False := eq_false (by omega)
    rw [List.drop_length] at he2
    simp only [go_sem, cond, Nat.reduceAdd, Nat.reduceLeDiff, Nat.reduceEqDiff, Nat.reduceBEq, decide_true, decide_false, Int.toNat_natCast, t0, t1, t7, t8, d1, r]
    exact ⟨by rw [← he2]; rfl, _, rfl⟩
theorem idxP_any {α : Type} (p : α → Bool) : ∀ (l : List α) (i : Nat), decide (0 ≤ idxP p l i) = l.any p
  | [], i => rfl
  | a :: l, i => by
    rw [idxP, List.any_cons]
    by_cases h : p a = true
    · rw [if_pos h, h]; simp
    · rw [if_neg h, idxP_any p l (i + 1)]; simp [h]
theorem containsE_ok {α : Type} (enc : α → List Value) (A : Option Addr) (c : Nat) (ms : List α) (hs : Sl w0 H A 9 (ms.map enc)) (hl : ms.length ≤ 2000000) (he : ∀ m, (enc m).length = 9) (g : FuncId) (fi ca : List Value) (p : α → Bool)
    (hp : ∀ i (h : i < ms.length), AFn Tryd.prog w0 g (fi ++ [Value.agg (enc ms[i]).toArray] ++ ca).toArray H fun v H2 => v = .bool (p ms[i]) ∧ H2 = H) :
    AFn Tryd.prog w0 154 #[.slice A ms.length c, .func (.func g) fi.toArray ca.toArray] H fun v H2 => v = .bool (ms.any p) ∧ H2 = H := by
  refine AFn.scal rfl Tryd.func154 rfl (by kernel_rfl) ?_
  have r := Tryd.results154
  simp only [go_sem, cond, Nat.reduceAdd, Nat.reduceLeDiff, Nat.reduceEqDiff, Nat.reduceBEq, decide_true, decide_false, Int.toNat_natCast, r]
  have c1 := indexE_ok w0 H enc A c ms hs hl he g fi ca p hp
  rw [← Hx_nil H] at c1
  refine call_eq c1 ?_
  simp only [go_sem, cond, Nat.reduceAdd, Nat.reduceLeDiff, Nat.reduceEqDiff, Nat.reduceBEq, decide_true, decide_false, Int.toNat_natCast, r, ge_iff_le]
  rw [idxP_any]
  exact ⟨rfl, _, rfl⟩
end Go.Proofs.YtmacpgoclhgafaaDoorW.FA

namespace Go.Proofs.YtmacpgoclhgafaaDoorW.FA
open Go.RowKit Go.Proofs.YtmacpgoclhgafaaDoorW.XM Go.Proofs Go.Proofs.YtmacpgoclhgafaaDoorW.XWords
set_option maxRecDepth 100000
set_option linter.unusedSimpArgs false
set_option linter.unusedVariables false
variable (w0 : World) (H : Hp)
theorem said1_ok (B : Hp) (l : List (Option Ob)) (p k1 k2 : Nat) (R : Rm) (x : Ad) (A : Option Addr) (n c : Nat) (u : ByteArray) (s : Sy) (o : Value) (id : ByteArray) (e : En) (hp : l[p]? = some (dd R x A n c u s o)) (h1 : l[k1]? = some (some (.row 110 [.pointer (some ⟨nid B p, 0, some 18⟩)]))) (h2 : l[k2]? = some (some (.row 9 [.string id]))) :
    AFn Tryd.prog w0 155 ([] ++ [Value.agg e.enc.toArray] ++ [Value.pointer (some ⟨nid B k1, 0, some 1⟩), Value.pointer (some ⟨nid B k2, 0, some 1⟩)]).toArray (Hx B l) fun v H2 => v = .bool (saidP R.name u id e) ∧ H2 = Hx B l := by
  unfold dd deedC at hp
  have c0 : ∀ l', rd w0 (Hx (Hx B l) l') ⟨nid B p, 0, some 18⟩ 1 = some [.string R.name] := fun l' => rd_old (by rw [rd_own, hp]; rfl) l'
  have c6 : ∀ l', rd w0 (Hx (Hx B l) l') ⟨nid B p, 6, some 18⟩ 1 = some [.string u] := fun l' => rd_old (by rw [rd_own, hp]; rfl) l'
  have c1 : ∀ l', rd w0 (Hx (Hx B l) l') ⟨nid B k1, 0, some 1⟩ 1 = some [.pointer (some ⟨nid B p, 0, some 18⟩)] := fun l' => rd_old (by rw [rd_own, h1]; rfl) l'
  have c2 : ∀ l', rd w0 (Hx (Hx B l) l') ⟨nid B k2, 0, some 1⟩ 1 = some [.string id] := fun l' => rd_old (by rw [rd_own, h2]; rfl) l'
  generalize hB : Hx B l = B2 at *
  refine AFn.scal rfl Tryd.func155 rfl (by kernel_rfl) ?_
  have r := Tryd.results155
  simp only [go_sem, cond, Nat.reduceAdd, Nat.reduceLeDiff, Nat.reduceEqDiff, Nat.reduceBEq, decide_true, decide_false, Int.toNat_natCast, r]
  simp only [go_sem, cond, Nat.reduceAdd, Nat.reduceLeDiff, Nat.reduceEqDiff, Nat.reduceBEq, decide_true, decide_false, Int.toNat_natCast, En.enc, c0, c1, c2, c6]
  (refine xw_open (id := 1) [0, 1, 3, 7, 15, 31, 15, 79, 207, 463, 975, 2047, 4095, 8191, 16383, 32767, 16383, 81919, 212991, 475135, 1048575, 2097151, 4194303, 8388607, 16777215, 8388607, 67108863, 134217727, 268435455, 536870911, 1073741823, 2147483647, 4294967295, 8589934591] [.q 0, .q 1, .q 2, .q 3, .q 4, .q 5, .q 6, .q 7, .q 8, .q 9, .q 10, .q 11, .q 12, .q 13, .q 14, .q 15, .q 16, .q 17, .q 18, .q 19, .q 20, .q 21, .q 22, .q 23, .q 24, .q 25, .q 26, .q 27, .q 28, .q 29, .q 30, .q 31, .q 32, .q 33] rfl (by kernel_rfl) ?_; simp only [go_sem, cond, Nat.reduceAdd, Nat.reduceLeDiff, Nat.reduceEqDiff, Nat.reduceBEq, decide_true, decide_false, Int.toNat_natCast, En.enc, c0, c1, c2, c6, r])
  repeat' (refine Br_intro ?_ ?_ <;> intro h <;> simp only [go_sem, cond, Nat.reduceAdd, Nat.reduceLeDiff, Nat.reduceEqDiff, Nat.reduceBEq, decide_true, decide_false, Int.toNat_natCast, h, c0, c1, c2, c6, r])
  all_goals exact ⟨by simp only [saidP, *, Bool.true_and, Bool.and_true, Bool.false_and, Bool.and_false], _, rfl⟩
theorem said_ok (l : List (Option Ob)) (p : Nat) (R : Rm) (x : Ad) (es : List En) (A : Option Addr) (c : Nat) (u : ByteArray) (s : Sy) (o : Value) (id : ByteArray) (hp : l[p]? = some (dd R x A es.length c u s o)) (hs : Sl w0 H A 9 (es.map En.enc)) (hl : es.length ≤ 2000000) :
    AFn Tryd.prog w0 133 #[.pointer (some ⟨nid H p, 0, some 18⟩), .string id] (Hx H l) fun v H2 => v = .bool (es.any (saidP R.name u id)) ∧ H2 = Hx H l := by
  have hp0 := hp
  unfold dd deedC at hp
  have hlp := lt_of_get hp
  have gp : ∀ r : List (Option Ob), (l ++ r)[p]? = l[p]? := fun r => List.getElem?_append_left hlp
  have hb : ∀ (g : List (Option Ob)) (Y : Option Ob) (r : List (Option Ob)), (g ++ Y :: r)[g.length]? = some Y := fun g Y r => by rw [List.getElem?_append_right (Nat.le_refl _)]; simp
  refine AFn.scal rfl Tryd.func133 rfl (by kernel_rfl) ?_
  have r := Tryd.results133
  simp only [go_sem, cond, Nat.reduceAdd, Nat.reduceLeDiff, Nat.reduceEqDiff, Nat.reduceBEq, decide_true, decide_false, Int.toNat_natCast, r]
  simp only [go_sem, cond, Nat.reduceAdd, Nat.reduceLeDiff, Nat.reduceEqDiff, Nat.reduceBEq, decide_true, decide_false, Int.toNat_natCast, gp, hp, hb, List.append_assoc, List.singleton_append, List.length_append, List.length_singleton, r]
  refine call_eq (containsE_ok w0 _ En.enc A c es (hs.old _) hl (fun _ => rfl) _ [] [.pointer (some ⟨nid H l.length, 0, some 1⟩), .pointer (some ⟨nid H (l.length + 1), 0, some 1⟩)] (saidP R.name u id) (fun i h => said1_ok w0 H (l ++ [some (.row 110 [.pointer (some ⟨nid H p, 0, some 18⟩)]), some (.row 9 [.string id])]) p l.length (l.length + 1) R x A es.length c u s o id es[i] (by rw [gp]; exact hp0) (hb _ _ _) (by rw [List.getElem?_append_right (by omega)]; simp))) ?_
  simp only [go_sem, cond, Nat.reduceAdd, Nat.reduceLeDiff, Nat.reduceEqDiff, Nat.reduceBEq, decide_true, decide_false, Int.toNat_natCast, r]
  exact ⟨_, rfl⟩
end Go.Proofs.YtmacpgoclhgafaaDoorW.FA

namespace Go.Proofs.YtmacpgoclhgafaaDoorW.FA
open Go.RowKit Go.Proofs.YtmacpgoclhgafaaDoorW.XM Go.Proofs Go.Proofs.YtmacpgoclhgafaaDoorW.XWords
set_option maxRecDepth 100000
set_option linter.unusedSimpArgs false
set_option linter.unusedVariables false
variable (w0 : World) (H : Hp)
/-- What has happened lies nowhere, or in an object of one's own. -/
def OutAt (H : Hp) (n : Nat) (g : List (Option Ob)) (o : Value) (es : List En) : Prop := (es = [] ∧ o = .slice none 0 0) ∨ ∃ k, g[k]? = some (some (.row 37 (flat En.enc es))) ∧ es ≠ [] ∧ o = .slice (some ⟨nid H (n + k), 0, some (es.length * 9)⟩) es.length es.length
set_option maxHeartbeats 20000000 in
theorem djoin_ok (l : List (Option Ob)) (p : Nat) (R : Rm) (x : Ad) (es : List En) (A : Option Addr) (c : Nat) (u : ByteArray) (s : Sy) (hp : l[p]? = some (dd R x A es.length c u s (.slice none 0 0))) (hr : RmAt w0 H R x) : AFn Tryd.prog w0 131 #[.pointer (some ⟨nid H p, 0, some 18⟩)] (Hx H l) fun v H2 => v = .int .i64 (joinR R u s.nick).2 ∧ ∃ g o, H2 = Hx H (l.set p (dd R x A es.length c u s o) ++ g) ∧ OutAt H l.length g o (joinR R u s.nick).1 := by
  have hlp := lt_of_get hp
  have e : Hx H l = Hx H (l.set p (dd R x A es.length c u s (.slice none 0 0))) := by conv => lhs; rw [set_same hp, List.append_nil]
  rw [e]
  obtain ⟨sA, gQ, gR, gR0, sR, sR0⟩ := dset hlp
  have gs : ∀ X : Option Ob, (l.set p X)[p]? = some X := fun X => by rw [List.getElem?_set_self hlp]
  have hb : ∀ (g : List (Option Ob)) (Y : Option Ob) (r : List (Option Ob)), (g ++ Y :: r)[g.length]? = some Y := fun g Y r => by rw [List.getElem?_append_right (Nat.le_refl _)]; simp
  have gi : ∀ (g r : List (Option Ob)) (k : Nat), (g ++ r)[g.length + k]? = r[k]? := fun g r k => by rw [List.getElem?_append_right (by omega)]; simp
  have si0 : ∀ (g r : List (Option Ob)) (Z : Option Ob), (g ++ r).set g.length Z = g ++ r.set 0 Z := fun g r Z => by rw [List.set_append_right _ _ (by omega)]; simp
  refine AFn_of Tryd.func131 rfl (by kernel_rfl) ?_
  have r := Tryd.results131
  simp only [go_sem, cond, Nat.reduceAdd, Nat.reduceLeDiff, Nat.reduceEqDiff, Nat.reduceBEq, decide_true, decide_false, Int.toNat_natCast, r, sA, gQ, gR, gR0, sR, sR0, hb, gi, si0, Rm.enc, dd, deedC, Nat.add_zero, List.set_cons_zero, List.set_cons_succ, List.set_set, List.append_assoc, List.length_append, List.length_set, List.singleton_append, List.cons_append, List.nil_append, gs]
  (refine xw_open (id := 2) [0, 0, 2, 6, 14, 31, 63] [.q 1, .q 2, .q 3, .q 0, .q 4, .e 5, .q 6] rfl (by kernel_rfl) ?_; simp only [go_sem, cond, Nat.reduceAdd, Nat.reduceLeDiff, Nat.reduceEqDiff, Nat.reduceBEq, decide_true, decide_false, Int.toNat_natCast, r, sA, gQ, gR, gR0, sR, sR0, hb, gi, si0, Rm.enc, dd, deedC, Nat.add_zero, List.set_cons_zero, List.set_cons_succ, List.set_set, List.append_assoc, List.length_append, List.length_set, List.singleton_append, List.cons_append, List.nil_append, gs])
  refine call_eq (rank_ok _ _ R _ u (hr.old _)) ?_
  simp only [go_sem, cond, Nat.reduceAdd, Nat.reduceLeDiff, Nat.reduceEqDiff, Nat.reduceBEq, decide_true, decide_false, Int.toNat_natCast, r, sA, gQ, gR, gR0, sR, sR0, hb, gi, si0, Rm.enc, dd, deedC, Nat.add_zero, List.set_cons_zero, List.set_cons_succ, List.set_set, List.append_assoc, List.length_append, List.length_set, List.singleton_append, List.cons_append, List.nil_append]
  have e0 : joinR R u s.nick = if (rankB R.ks u == 0) = true then ([], 6) else if decide (0 ≤ idxP (isU u) R.ms 0) = true then ([], 3) else if decide (0 ≤ idxP (isN s.nick) R.ms 0) = true then ([], 4) else if decide (5 ≤ (R.ms.length : Int)) = true then ([], 5) else if (R.next == 0) = true then ([⟨R.name, 0, 6, u, em, em, em, em, 4⟩, ⟨R.name, IntKind.i64.wrap (R.next + ((1 : Nat) : Int)), 1, u, s.nick, em, em, em, byRank 4⟩], 0) else ([⟨R.name, IntKind.i64.wrap (R.next + ((0 : Nat) : Int)), 1, u, s.nick, em, em, em, byRank (rankB R.ks u)⟩], 0) := by
    simp only [joinR, decide_eq_true_eq]
  repeat' (first
    | (refine Br_intro ?_ ?_ <;> intro h2 <;> simp only [go_sem, cond, Nat.reduceAdd, Nat.reduceLeDiff, Nat.reduceEqDiff, Nat.reduceBEq, decide_true, decide_false, Int.toNat_natCast, r, sA, gQ, gR, gR0, sR, sR0, hb, gi, si0, Rm.enc, dd, deedC, Nat.add_zero, List.set_cons_zero, List.set_cons_succ, List.set_set, List.append_assoc, List.length_append, List.length_set, List.singleton_append, List.cons_append, List.nil_append, ge_iff_le, h2])
    | (refine xw_open (id := 5) [0, 0, 2, 6, 14, 31, 63, 127] [.q 1, .q 2, .q 3, .q 0, .q 4, .e 5, .q 6, .q 7] rfl (by kernel_rfl) ?_; simp only [go_sem, cond, Nat.reduceAdd, Nat.reduceLeDiff, Nat.reduceEqDiff, Nat.reduceBEq, decide_true, decide_false, Int.toNat_natCast, r, sA, gQ, gR, gR0, sR, sR0, hb, gi, si0, Rm.enc, dd, deedC, Nat.add_zero, List.set_cons_zero, List.set_cons_succ, List.set_set, List.append_assoc, List.length_append, List.length_set, List.singleton_append, List.cons_append, List.nil_append, ge_iff_le])
    | (refine xw_open (id := 7) [0, 0, 2, 6, 14, 30, 63, 127, 255] [.q 1, .q 2, .q 3, .q 4, .q 0, .q 5, .e 6, .q 7, .q 8] rfl (by kernel_rfl) ?_; simp only [go_sem, cond, Nat.reduceAdd, Nat.reduceLeDiff, Nat.reduceEqDiff, Nat.reduceBEq, decide_true, decide_false, Int.toNat_natCast, r, sA, gQ, gR, gR0, sR, sR0, hb, gi, si0, Rm.enc, dd, deedC, Nat.add_zero, List.set_cons_zero, List.set_cons_succ, List.set_set, List.append_assoc, List.length_append, List.length_set, List.singleton_append, List.cons_append, List.nil_append, ge_iff_le])
    | (refine xw_open (id := 17) [0, 0, 2, 6, 14, 0, 32, 96, 224, 480, 0, 2046, 4095] [.q 0, .q 1, .q 2, .q 3, .q 5, .q 6, .q 7, .q 8, .q 10, .q 4, .q 9, .e 11, .e 12] rfl (by kernel_rfl) ?_; simp only [go_sem, cond, Nat.reduceAdd, Nat.reduceLeDiff, Nat.reduceEqDiff, Nat.reduceBEq, decide_true, decide_false, Int.toNat_natCast, r, sA, gQ, gR, gR0, sR, sR0, hb, gi, si0, Rm.enc, dd, deedC, Nat.add_zero, List.set_cons_zero, List.set_cons_succ, List.set_set, List.append_assoc, List.length_append, List.length_set, List.singleton_append, List.cons_append, List.nil_append, ge_iff_le])
    | (refine call_eq (member_ok _ _ R _ _ (hr.old _)) ?_; simp only [go_sem, cond, Nat.reduceAdd, Nat.reduceLeDiff, Nat.reduceEqDiff, Nat.reduceBEq, decide_true, decide_false, Int.toNat_natCast, r, sA, gQ, gR, gR0, sR, sR0, hb, gi, si0, Rm.enc, dd, deedC, Nat.add_zero, List.set_cons_zero, List.set_cons_succ, List.set_set, List.append_assoc, List.length_append, List.length_set, List.singleton_append, List.cons_append, List.nil_append, ge_iff_le])
    | (refine call_eq (nick_ok _ _ R _ _ (hr.old _)) ?_; simp only [go_sem, cond, Nat.reduceAdd, Nat.reduceLeDiff, Nat.reduceEqDiff, Nat.reduceBEq, decide_true, decide_false, Int.toNat_natCast, r, sA, gQ, gR, gR0, sR, sR0, hb, gi, si0, Rm.enc, dd, deedC, Nat.add_zero, List.set_cons_zero, List.set_cons_succ, List.set_set, List.append_assoc, List.length_append, List.length_set, List.singleton_append, List.cons_append, List.nil_append, ge_iff_le]))
  all_goals first
    | (have ej : joinR R u s.nick = ([], 6) := e0.trans (by simp only [*, Bool.true_or, Bool.false_or, Bool.or_true, Bool.or_false, Bool.true_and, Bool.false_and, Bool.and_true, Bool.and_false, Bool.not_true, Bool.not_false, Bool.false_eq_true, Bool.true_eq_false, if_true, if_false]; done)
       rw [ej]; exact ⟨rfl, _, _, rfl, .inl ⟨rfl, rfl⟩⟩)
    | (have ej : joinR R u s.nick = ([], 3) := e0.trans (by simp only [*, Bool.true_or, Bool.false_or, Bool.or_true, Bool.or_false, Bool.true_and, Bool.false_and, Bool.and_true, Bool.and_false, Bool.not_true, Bool.not_false, Bool.false_eq_true, Bool.true_eq_false, if_true, if_false]; done)
       rw [ej]; exact ⟨rfl, _, _, rfl, .inl ⟨rfl, rfl⟩⟩)
    | (have ej : joinR R u s.nick = ([], 4) := e0.trans (by simp only [*, Bool.true_or, Bool.false_or, Bool.or_true, Bool.or_false, Bool.true_and, Bool.false_and, Bool.and_true, Bool.and_false, Bool.not_true, Bool.not_false, Bool.false_eq_true, Bool.true_eq_false, if_true, if_false]; done)
       rw [ej]; exact ⟨rfl, _, _, rfl, .inl ⟨rfl, rfl⟩⟩)
    | (have ej : joinR R u s.nick = ([], 5) := e0.trans (by simp only [*, Bool.true_or, Bool.false_or, Bool.or_true, Bool.or_false, Bool.true_and, Bool.false_and, Bool.and_true, Bool.and_false, Bool.not_true, Bool.not_false, Bool.false_eq_true, Bool.true_eq_false, if_true, if_false]; done)
       rw [ej]; exact ⟨rfl, _, _, rfl, .inl ⟨rfl, rfl⟩⟩)
    | skip
  · have d34 : decide ((3 : Int) ≤ 4) = true := rfl
    have ej : joinR R u s.nick = ([⟨R.name, 0, 6, u, em, em, em, em, 4⟩, ⟨R.name, IntKind.i64.wrap (R.next + ((1 : Nat) : Int)), 1, u, s.nick, em, em, em, byRank 4⟩], 0) := e0.trans (by simp only [*, Bool.true_or, Bool.false_or, Bool.or_true, Bool.or_false, Bool.true_and, Bool.false_and, Bool.and_true, Bool.and_false, Bool.not_true, Bool.not_false, Bool.false_eq_true, Bool.true_eq_false, if_true, if_false])
    have hz0 : R.next = 0 := eq_of_beq h2
    refine call_eq (happens0_ok w0 H _ p R x A es.length c u s ⟨em, 0, 6, u, em, em, em, em, 4⟩ (gQ _ _)) ?_
    simp only [go_sem, cond, Nat.reduceAdd, Nat.reduceLeDiff, Nat.reduceEqDiff, Nat.reduceBEq, decide_true, decide_false, Int.toNat_natCast, r, sA, gQ, gR, gR0, sR, sR0, hb, gi, si0, Rm.enc, dd, deedC, Nat.add_zero, List.set_cons_zero, List.set_cons_succ, List.set_set, List.append_assoc, List.length_append, List.length_set, List.singleton_append, List.cons_append, List.nil_append, hapE, En.enc, d34, ge_iff_le]
    (refine xw_open (id := 17) [0, 0, 2, 6, 14, 0, 32, 96, 224, 480, 0, 2046, 4095] [.q 0, .q 1, .q 2, .q 3, .q 5, .q 6, .q 7, .q 8, .q 10, .q 4, .q 9, .e 11, .e 12] rfl (by kernel_rfl) ?_; simp only [go_sem, cond, Nat.reduceAdd, Nat.reduceLeDiff, Nat.reduceEqDiff, Nat.reduceBEq, decide_true, decide_false, Int.toNat_natCast, r, sA, gQ, gR, gR0, sR, sR0, hb, gi, si0, Rm.enc, dd, deedC, Nat.add_zero, List.set_cons_zero, List.set_cons_succ, List.set_set, List.append_assoc, List.length_append, List.length_set, List.singleton_append, List.cons_append, List.nil_append, hapE, En.enc])
    refine call_eq (happens1_ok w0 H _ p (l.length + 3) R x A es.length c u s ⟨em, 0, 1, u, s.nick, em, em, em, 3⟩ [hapE R 0 ⟨em, 0, 6, u, em, em, em, em, 4⟩] (by simp) (by rw [gR]; rfl) (gQ _ _)) ?_
    simp only [go_sem, cond, Nat.reduceAdd, Nat.reduceLeDiff, Nat.reduceEqDiff, Nat.reduceBEq, decide_true, decide_false, Int.toNat_natCast, r, sA, gQ, gR, gR0, sR, sR0, hb, gi, si0, Rm.enc, dd, deedC, Nat.add_zero, List.set_cons_zero, List.set_cons_succ, List.set_set, List.append_assoc, List.length_append, List.length_set, List.singleton_append, List.cons_append, List.nil_append, sR, hapE, En.enc]
    have e1 : IntKind.i64.wrap (R.next + ((0 : Nat) : Int)) = 0 := by rw [hz0]; rfl
    rw [ej]
    rw [e1]
    exact ⟨rfl, _, _, rfl, .inr ⟨3, rfl, by simp, rfl⟩⟩
  · have hbr : byRank (rankB R.ks u) = 3 := if_pos (of_decide_eq_true h2)
    have ej : joinR R u s.nick = ([⟨R.name, IntKind.i64.wrap (R.next + ((0 : Nat) : Int)), 1, u, s.nick, em, em, em, byRank (rankB R.ks u)⟩], 0) := e0.trans (by simp only [*, Bool.true_or, Bool.false_or, Bool.or_true, Bool.or_false, Bool.true_and, Bool.false_and, Bool.and_true, Bool.and_false, Bool.not_true, Bool.not_false, Bool.false_eq_true, Bool.true_eq_false, if_true, if_false])
    refine call_eq (happens0_ok w0 H _ p R x A es.length c u s ⟨em, 0, 1, u, s.nick, em, em, em, _⟩ (gQ _ _)) ?_
    simp only [go_sem, cond, Nat.reduceAdd, Nat.reduceLeDiff, Nat.reduceEqDiff, Nat.reduceBEq, decide_true, decide_false, Int.toNat_natCast, r, sA, gQ, gR, gR0, sR, sR0, hb, gi, si0, Rm.enc, dd, deedC, Nat.add_zero, List.set_cons_zero, List.set_cons_succ, List.set_set, List.append_assoc, List.length_append, List.length_set, List.singleton_append, List.cons_append, List.nil_append, hapE, En.enc]
    rw [ej, hbr]
    exact ⟨rfl, _, _, rfl, .inr ⟨3, rfl, by simp, rfl⟩⟩
  · have hbr : byRank (rankB R.ks u) = 2 := if_neg (of_decide_eq_false h2)
    have ej : joinR R u s.nick = ([⟨R.name, IntKind.i64.wrap (R.next + ((0 : Nat) : Int)), 1, u, s.nick, em, em, em, byRank (rankB R.ks u)⟩], 0) := e0.trans (by simp only [*, Bool.true_or, Bool.false_or, Bool.or_true, Bool.or_false, Bool.true_and, Bool.false_and, Bool.and_true, Bool.and_false, Bool.not_true, Bool.not_false, Bool.false_eq_true, Bool.true_eq_false, if_true, if_false])
    refine call_eq (happens0_ok w0 H _ p R x A es.length c u s ⟨em, 0, 1, u, s.nick, em, em, em, _⟩ (gQ _ _)) ?_
    simp only [go_sem, cond, Nat.reduceAdd, Nat.reduceLeDiff, Nat.reduceEqDiff, Nat.reduceBEq, decide_true, decide_false, Int.toNat_natCast, r, sA, gQ, gR, gR0, sR, sR0, hb, gi, si0, Rm.enc, dd, deedC, Nat.add_zero, List.set_cons_zero, List.set_cons_succ, List.set_set, List.append_assoc, List.length_append, List.length_set, List.singleton_append, List.cons_append, List.nil_append, hapE, En.enc]
    rw [ej, hbr]
    exact ⟨rfl, _, _, rfl, .inr ⟨3, rfl, by simp, rfl⟩⟩
end Go.Proofs.YtmacpgoclhgafaaDoorW.FA

namespace Go.Proofs.YtmacpgoclhgafaaDoorW.FA
open Go.RowKit Go.Proofs.YtmacpgoclhgafaaDoorW.XM Go.Proofs Go.Proofs.YtmacpgoclhgafaaDoorW.XWords
set_option maxRecDepth 100000
set_option linter.unusedSimpArgs false
set_option linter.unusedVariables false
variable (w0 : World) (H : Hp)
set_option maxHeartbeats 20000000 in
theorem drole_ok (l : List (Option Ob)) (p : Nat) (R : Rm) (x : Ad) (es : List En) (A : Option Addr) (c : Nat) (u : ByteArray) (s : Sy) (hp : l[p]? = some (dd R x A es.length c u s (.slice none 0 0))) (hr : RmAt w0 H R x) (m0 : Mem) (h0 : R.ms.find? (isU u) = some m0) (h3 : (m0.role == 3) = true) (hq : ∀ m ∈ R.ms, nickU R m.user = m.nick) (hn : 0 ≤ R.next ∧ R.next ≤ 9999) : AFn Tryd.prog w0 135 #[.pointer (some ⟨nid H p, 0, some 18⟩)] (Hx H l) fun v H2 => v = .int .i64 (roleR R u s).2 ∧ ∃ g o, H2 = Hx H (l.set p (dd R x A es.length c u s o) ++ g) ∧ OutAt H l.length g o (roleR R u s).1 := by
  have hl := hr.lm
  have hlp := lt_of_get hp
  have e : Hx H l = Hx H (l.set p (dd R x A es.length c u s (.slice none 0 0))) := by conv => lhs; rw [set_same hp, List.append_nil]
  rw [e]
  obtain ⟨sA, gQ, gR, gR0, sR, sR0⟩ := dset hlp
  have gs : ∀ X : Option Ob, (l.set p X)[p]? = some X := fun X => by rw [List.getElem?_set_self hlp]
  have hb : ∀ (g : List (Option Ob)) (Y : Option Ob) (r : List (Option Ob)), (g ++ Y :: r)[g.length]? = some Y := fun g Y r => by rw [List.getElem?_append_right (Nat.le_refl _)]; simp
  have gi : ∀ (g r : List (Option Ob)) (k : Nat), (g ++ r)[g.length + k]? = r[k]? := fun g r k => by rw [List.getElem?_append_right (by omega)]; simp
  have si0 : ∀ (g r : List (Option Ob)) (Z : Option Ob), (g ++ r).set g.length Z = g ++ r.set 0 Z := fun g r Z => by rw [List.set_append_right _ _ (by omega)]; simp
  have e2 : IntKind.i64.wrap (R.next + ((0 : Nat) : Int)) = R.next := by rw [wrap_i64 (by omega) (by omega)]; omega
  obtain ⟨xa, xc, xb, xd⟩ := x
  refine AFn_of Tryd.func135 rfl (by kernel_rfl) ?_
  have r := Tryd.results135
  rcases idxP_find (isN s.nick) R.ms 0 with ⟨g1, g2⟩ | ⟨a, ha, g1, g2⟩
  · have d3 : ((-1 : Int) < 0) = True := eq_true (by omega)
    have ej : roleR R u s = ([], 8) := by simp only [roleR, h0, h3, g2, Bool.true_eq_false, if_false]
    simp only [go_sem, cond, Nat.reduceAdd, Nat.reduceLeDiff, Nat.reduceEqDiff, Nat.reduceBEq, decide_true, decide_false, Int.toNat_natCast, r, sA, gQ, gR, gR0, sR, sR0, hb, gi, si0, Rm.enc, dd, deedC, Nat.add_zero, List.set_cons_zero, List.set_cons_succ, List.set_set, List.append_assoc, List.length_append, List.length_set, List.singleton_append, List.cons_append, List.nil_append, gs]
    repeat' (first
      | (refine Both_intro ?_ ?_ <;> simp only [go_sem, cond, Nat.reduceAdd, Nat.reduceLeDiff, Nat.reduceEqDiff, Nat.reduceBEq, decide_true, decide_false, Int.toNat_natCast, r, sA, gQ, gR, gR0, sR, sR0, hb, gi, si0, Rm.enc, dd, deedC, Nat.add_zero, List.set_cons_zero, List.set_cons_succ, List.set_set, List.append_assoc, List.length_append, List.length_set, List.singleton_append, List.cons_append, List.nil_append, gs, d3])
      | (refine xw_tree (id := 1) [0, 1, 3, 7, 0, 16, 48, 112, 0, 0, 783, 2047] (.q 0 (.q 1 (.q 2 (.q 4 (.q 5 (.q 6 (.l 3 (.l 7 (.b 8 (.e 9 (.d 3 (.e 10 (.d 7 (.e 11 .z))))) 9 (.e 8 (.d 3 (.e 10 (.d 7 (.e 11 .z)))))))))))))) rfl (by kernel_rfl) ?_; simp only [go_sem, cond, Nat.reduceAdd, Nat.reduceLeDiff, Nat.reduceEqDiff, Nat.reduceBEq, decide_true, decide_false, Int.toNat_natCast, r, sA, gQ, gR, gR0, sR, sR0, hb, gi, si0, Rm.enc, dd, deedC, Nat.add_zero, List.set_cons_zero, List.set_cons_succ, List.set_set, List.append_assoc, List.length_append, List.length_set, List.singleton_append, List.cons_append, List.nil_append, gs])
      | (refine call_eq (nick_ok _ _ R _ _ (hr.old _)) ?_; rw [g1]; simp only [go_sem, cond, Nat.reduceAdd, Nat.reduceLeDiff, Nat.reduceEqDiff, Nat.reduceBEq, decide_true, decide_false, Int.toNat_natCast, r, sA, gQ, gR, gR0, sR, sR0, hb, gi, si0, Rm.enc, dd, deedC, Nat.add_zero, List.set_cons_zero, List.set_cons_succ, List.set_set, List.append_assoc, List.length_append, List.length_set, List.singleton_append, List.cons_append, List.nil_append, gs, d3]))
    all_goals
      rw [ej]
      exact ⟨rfl, _, _, rfl, .inl ⟨rfl, rfl⟩⟩
  · rw [Nat.zero_add] at g1
    have d3 : ((a : Int) < 0) = False := eq_false (by omega)
    have d4 : ((0 : Int) ≤ (a : Int)) = True := eq_true (by omega)
    have d5 : ((a : Int) < (R.ms.length : Int)) = True := eq_true (by omega)
    obtain ⟨b2, o2, sp2, hA, hc2, hw2⟩ := mcell hr.sm ha
    cases hA
    have c1 := fun L => hw2 L rfl
    simp only [Mem.enc] at c1
    have hmq := hq _ (List.getElem_mem ha)
    have e0 : roleR R u s = if (decide (rankB R.ks u < rankB R.ks R.ms[a].user) || (decide (3 ≤ rankB R.ks R.ms[a].user) && !(s.num == 3))) = true then ([], 7) else if (s.num == R.ms[a].role) = true then ([], 0) else ([roleE R R.ms[a] s], 0) := by
      simp only [roleR, h0, h3, g2, Bool.true_eq_false, if_false]
      rw [show (R.ms[a].role == s.num) = (s.num == R.ms[a].role) from BEq.comm]
    simp only [go_sem, cond, Nat.reduceAdd, Nat.reduceLeDiff, Nat.reduceEqDiff, Nat.reduceBEq, decide_true, decide_false, Int.toNat_natCast, r, sA, gQ, gR, gR0, sR, sR0, hb, gi, si0, Rm.enc, dd, deedC, Nat.add_zero, List.set_cons_zero, List.set_cons_succ, List.set_set, List.append_assoc, List.length_append, List.length_set, List.singleton_append, List.cons_append, List.nil_append, gs]
    repeat' (first
      | (refine Both_intro ?_ ?_ <;> simp only [go_sem, cond, Nat.reduceAdd, Nat.reduceLeDiff, Nat.reduceEqDiff, Nat.reduceBEq, decide_true, decide_false, Int.toNat_natCast, r, sA, gQ, gR, gR0, sR, sR0, hb, gi, si0, Rm.enc, dd, deedC, Nat.add_zero, List.set_cons_zero, List.set_cons_succ, List.set_set, List.append_assoc, List.length_append, List.length_set, List.singleton_append, List.cons_append, List.nil_append, gs, d3, d4, d5, c1])
      | (refine xw_tree (id := 1) [0, 1, 3, 7, 0, 16, 48, 112, 0, 0, 783, 2047] (.q 0 (.q 1 (.q 2 (.q 4 (.q 5 (.q 6 (.l 3 (.l 7 (.b 8 (.e 9 (.d 3 (.e 10 (.d 7 (.e 11 .z))))) 9 (.e 8 (.d 3 (.e 10 (.d 7 (.e 11 .z)))))))))))))) rfl (by kernel_rfl) ?_; simp only [go_sem, cond, Nat.reduceAdd, Nat.reduceLeDiff, Nat.reduceEqDiff, Nat.reduceBEq, decide_true, decide_false, Int.toNat_natCast, r, sA, gQ, gR, gR0, sR, sR0, hb, gi, si0, Rm.enc, dd, deedC, Nat.add_zero, List.set_cons_zero, List.set_cons_succ, List.set_set, List.append_assoc, List.length_append, List.length_set, List.singleton_append, List.cons_append, List.nil_append, gs])
      | (refine xw_open (id := 8) [0, 0, 0, 4, 12, 28, 62, 127, 255, 511, 1023, 2047, 4095, 8191, 16383, 32767, 65535, 131071] [.q 0, .q 2, .q 3, .q 4, .q 1, .q 5, .e 6, .q 7, .q 8, .q 9, .q 10, .q 11, .q 12, .q 13, .q 14, .q 15, .q 16, .q 17] rfl (by kernel_rfl) ?_; simp only [go_sem, cond, Nat.reduceAdd, Nat.reduceLeDiff, Nat.reduceEqDiff, Nat.reduceBEq, decide_true, decide_false, Int.toNat_natCast, r, sA, gQ, gR, gR0, sR, sR0, hb, gi, si0, Rm.enc, dd, deedC, Nat.add_zero, List.set_cons_zero, List.set_cons_succ, List.set_set, List.append_assoc, List.length_append, List.length_set, List.singleton_append, List.cons_append, List.nil_append, gs, d3, d4, d5, c1])
      | (refine call_eq (nick_ok _ _ R _ _ (hr.old _)) ?_; rw [g1]; simp only [go_sem, cond, Nat.reduceAdd, Nat.reduceLeDiff, Nat.reduceEqDiff, Nat.reduceBEq, decide_true, decide_false, Int.toNat_natCast, r, sA, gQ, gR, gR0, sR, sR0, hb, gi, si0, Rm.enc, dd, deedC, Nat.add_zero, List.set_cons_zero, List.set_cons_succ, List.set_set, List.append_assoc, List.length_append, List.length_set, List.singleton_append, List.cons_append, List.nil_append, gs, d3, d4, d5, c1])
      | (refine call_eq (rank_ok _ _ R _ _ (hr.old _)) ?_; simp only [go_sem, cond, Nat.reduceAdd, Nat.reduceLeDiff, Nat.reduceEqDiff, Nat.reduceBEq, decide_true, decide_false, Int.toNat_natCast, r, sA, gQ, gR, gR0, sR, sR0, hb, gi, si0, Rm.enc, dd, deedC, Nat.add_zero, List.set_cons_zero, List.set_cons_succ, List.set_set, List.append_assoc, List.length_append, List.length_set, List.singleton_append, List.cons_append, List.nil_append, gs, d3, d4, d5, c1, gt_iff_lt, ge_iff_le])
      | (refine Br_intro ?_ ?_ <;> intro h2 <;> simp only [go_sem, cond, Nat.reduceAdd, Nat.reduceLeDiff, Nat.reduceEqDiff, Nat.reduceBEq, decide_true, decide_false, Int.toNat_natCast, r, sA, gQ, gR, gR0, sR, sR0, hb, gi, si0, Rm.enc, dd, deedC, Nat.add_zero, List.set_cons_zero, List.set_cons_succ, List.set_set, List.append_assoc, List.length_append, List.length_set, List.singleton_append, List.cons_append, List.nil_append, gs, d3, d4, d5, c1, h2])
      | (refine call_eq (happens0_ok w0 H _ p R ⟨some ⟨b2, o2, sp2⟩, xc, xb, xd⟩ A es.length c u s ⟨em, 0, _, _, _, em, em, em, _⟩ (gQ _ _)) ?_; simp only [go_sem, cond, Nat.reduceAdd, Nat.reduceLeDiff, Nat.reduceEqDiff, Nat.reduceBEq, decide_true, decide_false, Int.toNat_natCast, r, sA, gQ, gR, gR0, sR, sR0, hb, gi, si0, Rm.enc, dd, deedC, Nat.add_zero, List.set_cons_zero, List.set_cons_succ, List.set_set, List.append_assoc, List.length_append, List.length_set, List.singleton_append, List.cons_append, List.nil_append, hapE, En.enc]))
    all_goals clear c1 hw2 hc2
    all_goals first
      | (have ej : roleR R u s = ([], 7) := e0.trans (by simp only [*, Bool.true_or, Bool.false_or, Bool.or_true, Bool.or_false, Bool.true_and, Bool.false_and, Bool.and_true, Bool.and_false, Bool.not_true, Bool.not_false, Bool.false_eq_true, Bool.true_eq_false, if_true, if_false]; done)
         rw [ej]; exact ⟨rfl, _, _, rfl, .inl ⟨rfl, rfl⟩⟩)
      | (have ej : roleR R u s = ([], 0) := e0.trans (by simp only [*, Bool.true_or, Bool.false_or, Bool.or_true, Bool.or_false, Bool.true_and, Bool.false_and, Bool.and_true, Bool.and_false, Bool.not_true, Bool.not_false, Bool.false_eq_true, Bool.true_eq_false, if_true, if_false]; done)
         rw [ej]; exact ⟨rfl, _, _, rfl, .inl ⟨rfl, rfl⟩⟩)
      | (have ej : roleR R u s = ([roleE R R.ms[a] s], 0) := e0.trans (by simp only [*, Bool.true_or, Bool.false_or, Bool.or_true, Bool.or_false, Bool.true_and, Bool.false_and, Bool.and_true, Bool.and_false, Bool.not_true, Bool.not_false, Bool.false_eq_true, Bool.true_eq_false, if_true, if_false]; done)
         rw [ej, e2]
         exact ⟨rfl, _, _, rfl, .inr ⟨5, by simp only [roleE, hmq, h2, Bool.false_eq_true, if_true, if_false]; rfl, by simp, rfl⟩⟩)
      | (have ej : roleR R u s = ([roleE R R.ms[a] s], 0) := e0.trans (by simp only [*, Bool.true_or, Bool.false_or, Bool.or_true, Bool.or_false, Bool.true_and, Bool.false_and, Bool.and_true, Bool.and_false, Bool.not_true, Bool.not_false, Bool.false_eq_true, Bool.true_eq_false, if_true, if_false]; done)
         rw [ej, e2]
         exact ⟨rfl, _, _, rfl, .inr ⟨6, by simp only [roleE, hmq, h2, Bool.false_eq_true, if_true, if_false]; rfl, by simp, rfl⟩⟩)
      | trace_state
end Go.Proofs.YtmacpgoclhgafaaDoorW.FA

namespace Go.Proofs.YtmacpgoclhgafaaDoorW.FA
open Go.RowKit Go.Proofs.YtmacpgoclhgafaaDoorW.XM Go.Proofs Go.Proofs.YtmacpgoclhgafaaDoorW.XWords
set_option maxRecDepth 100000
set_option linter.unusedSimpArgs false
set_option linter.unusedVariables false
variable (w0 : World) (H : Hp)
set_option maxHeartbeats 20000000 in
theorem drank_ok (l : List (Option Ob)) (p : Nat) (R : Rm) (x : Ad) (es : List En) (A : Option Addr) (c : Nat) (u : ByteArray) (s : Sy) (hp : l[p]? = some (dd R x A es.length c u s (.slice none 0 0))) (hr : RmAt w0 H R x) (hn : 0 ≤ R.next ∧ R.next ≤ 9999) : AFn Tryd.prog w0 134 #[.pointer (some ⟨nid H p, 0, some 18⟩)] (Hx H l) fun v H2 => v = .int .i64 (setR R u s).2 ∧ ∃ g o, H2 = Hx H (l.set p (dd R x A es.length c u s o) ++ g) ∧ OutAt H l.length g o (setR R u s).1 := by
  have hl := hr.lm
  have hlp := lt_of_get hp
  have e : Hx H l = Hx H (l.set p (dd R x A es.length c u s (.slice none 0 0))) := by conv => lhs; rw [set_same hp, List.append_nil]
  rw [e]
  obtain ⟨sA, gQ, gR, gR0, sR, sR0⟩ := dset hlp
  have gs : ∀ X : Option Ob, (l.set p X)[p]? = some X := fun X => by rw [List.getElem?_set_self hlp]
  have hb : ∀ (g : List (Option Ob)) (Y : Option Ob) (r : List (Option Ob)), (g ++ Y :: r)[g.length]? = some Y := fun g Y r => by rw [List.getElem?_append_right (Nat.le_refl _)]; simp
  have gi : ∀ (g r : List (Option Ob)) (k : Nat), (g ++ r)[g.length + k]? = r[k]? := fun g r k => by rw [List.getElem?_append_right (by omega)]; simp
  have si0 : ∀ (g r : List (Option Ob)) (Z : Option Ob), (g ++ r).set g.length Z = g ++ r.set 0 Z := fun g r Z => by rw [List.set_append_right _ _ (by omega)]; simp
  have e2 : IntKind.i64.wrap (R.next + ((0 : Nat) : Int)) = R.next := by rw [wrap_i64 (by omega) (by omega)]; omega
  obtain ⟨xa, xc, xb, xd⟩ := x
  refine AFn_of Tryd.func134 rfl (by kernel_rfl) ?_
  have r := Tryd.results134
  have e0 : setR R u s = if (decide (rankB R.ks u < 3) || ((rankB R.ks u == 3) && (decide (3 ≤ rankB R.ks s.name) || decide (3 ≤ s.num)))) = true then ([], 7) else if (rankB R.ks s.name == s.num) = true then ([], 0) else if ((rankB R.ks s.name == 4) && (((ownB R.ks : Nat) : Int) == 1)) = true then ([], 9) else if ((rankB R.ks s.name == 1) && decide (6 ≤ (R.ks.length : Int))) = true then ([], 5) else (setL R s, 0) := rfl
  simp only [go_sem, cond, Nat.reduceAdd, Nat.reduceLeDiff, Nat.reduceEqDiff, Nat.reduceBEq, decide_true, decide_false, Int.toNat_natCast, r, sA, gQ, gR, gR0, sR, sR0, hb, gi, si0, Rm.enc, dd, deedC, Nat.add_zero, List.set_cons_zero, List.set_cons_succ, List.set_set, List.append_assoc, List.length_append, List.length_set, List.singleton_append, List.cons_append, List.nil_append, gs]
  repeat' (first
    | (refine Both_intro ?_ ?_ <;> simp only [go_sem, cond, Nat.reduceAdd, Nat.reduceLeDiff, Nat.reduceEqDiff, Nat.reduceBEq, decide_true, decide_false, Int.toNat_natCast, r, sA, gQ, gR, gR0, sR, sR0, hb, gi, si0, Rm.enc, dd, deedC, Nat.add_zero, List.set_cons_zero, List.set_cons_succ, List.set_set, List.append_assoc, List.length_append, List.length_set, List.singleton_append, List.cons_append, List.nil_append, gs])
    | (refine xw_tree (id := 1) [0, 1, 3, 7, 0, 16, 48, 112, 0, 0, 783, 2047] (.q 0 (.q 1 (.q 2 (.q 4 (.q 5 (.q 6 (.l 3 (.l 7 (.b 8 (.e 9 (.d 3 (.e 10 (.d 7 (.e 11 .z))))) 9 (.e 8 (.d 3 (.e 10 (.d 7 (.e 11 .z)))))))))))))) rfl (by kernel_rfl) ?_; simp only [go_sem, cond, Nat.reduceAdd, Nat.reduceLeDiff, Nat.reduceEqDiff, Nat.reduceBEq, decide_true, decide_false, Int.toNat_natCast, r, sA, gQ, gR, gR0, sR, sR0, hb, gi, si0, Rm.enc, dd, deedC, Nat.add_zero, List.set_cons_zero, List.set_cons_succ, List.set_set, List.append_assoc, List.length_append, List.length_set, List.singleton_append, List.cons_append, List.nil_append, gs])
    | (refine xw_open (id := 2) [0, 0, 2, 6, 14, 31, 0, 0, 128, 511, 1023, 2047] [.q 1, .q 2, .q 3, .q 7, .q 0, .q 4, .l 6, .l 8, .e 5, .d 8, .d 6, .e 9, .q 10, .q 11] rfl (by kernel_rfl) ?_; simp only [go_sem, cond, Nat.reduceAdd, Nat.reduceLeDiff, Nat.reduceEqDiff, Nat.reduceBEq, decide_true, decide_false, Int.toNat_natCast, r, sA, gQ, gR, gR0, sR, sR0, hb, gi, si0, Rm.enc, dd, deedC, Nat.add_zero, List.set_cons_zero, List.set_cons_succ, List.set_set, List.append_assoc, List.length_append, List.length_set, List.singleton_append, List.cons_append, List.nil_append, gs])
    | (refine call_eq (rank_ok _ _ R _ _ (hr.old _)) ?_; simp only [go_sem, cond, Nat.reduceAdd, Nat.reduceLeDiff, Nat.reduceEqDiff, Nat.reduceBEq, decide_true, decide_false, Int.toNat_natCast, r, sA, gQ, gR, gR0, sR, sR0, hb, gi, si0, Rm.enc, dd, deedC, Nat.add_zero, List.set_cons_zero, List.set_cons_succ, List.set_set, List.append_assoc, List.length_append, List.length_set, List.singleton_append, List.cons_append, List.nil_append, gs, gt_iff_lt, ge_iff_le])
    | (refine call_eq (owners_ok _ _ R _ (hr.old _)) ?_; simp only [go_sem, cond, Nat.reduceAdd, Nat.reduceLeDiff, Nat.reduceEqDiff, Nat.reduceBEq, decide_true, decide_false, Int.toNat_natCast, r, sA, gQ, gR, gR0, sR, sR0, hb, gi, si0, Rm.enc, dd, deedC, Nat.add_zero, List.set_cons_zero, List.set_cons_succ, List.set_set, List.append_assoc, List.length_append, List.length_set, List.singleton_append, List.cons_append, List.nil_append, gs, gt_iff_lt, ge_iff_le])
    | (refine Br_intro ?_ ?_ <;> intro h2 <;> simp only [go_sem, cond, Nat.reduceAdd, Nat.reduceLeDiff, Nat.reduceEqDiff, Nat.reduceBEq, decide_true, decide_false, Int.toNat_natCast, r, sA, gQ, gR, gR0, sR, sR0, hb, gi, si0, Rm.enc, dd, deedC, Nat.add_zero, List.set_cons_zero, List.set_cons_succ, List.set_set, List.append_assoc, List.length_append, List.length_set, List.singleton_append, List.cons_append, List.nil_append, gs, gt_iff_lt, ge_iff_le, h2])
    | (suffices ej : setR R u s = ([], 7) by rw [ej]; exact ⟨rfl, _, _, rfl, .inl ⟨rfl, rfl⟩⟩
       refine e0.trans ?_; simp only [*, Bool.true_or, Bool.false_or, Bool.or_true, Bool.or_false, Bool.true_and, Bool.false_and, Bool.and_true, Bool.and_false, Bool.not_true, Bool.not_false, Bool.false_eq_true, Bool.true_eq_false, if_true, if_false]; done)
    | (suffices ej : setR R u s = ([], 0) by rw [ej]; exact ⟨rfl, _, _, rfl, .inl ⟨rfl, rfl⟩⟩
       refine e0.trans ?_; simp only [*, Bool.true_or, Bool.false_or, Bool.or_true, Bool.or_false, Bool.true_and, Bool.false_and, Bool.and_true, Bool.and_false, Bool.not_true, Bool.not_false, Bool.false_eq_true, Bool.true_eq_false, if_true, if_false]; done)
    | (suffices ej : setR R u s = ([], 9) by rw [ej]; exact ⟨rfl, _, _, rfl, .inl ⟨rfl, rfl⟩⟩
       refine e0.trans ?_; simp only [*, Bool.true_or, Bool.false_or, Bool.or_true, Bool.or_false, Bool.true_and, Bool.false_and, Bool.and_true, Bool.and_false, Bool.not_true, Bool.not_false, Bool.false_eq_true, Bool.true_eq_false, if_true, if_false]; done)
    | (suffices ej : setR R u s = ([], 5) by rw [ej]; exact ⟨rfl, _, _, rfl, .inl ⟨rfl, rfl⟩⟩
       refine e0.trans ?_; simp only [*, Bool.true_or, Bool.false_or, Bool.or_true, Bool.or_false, Bool.true_and, Bool.false_and, Bool.and_true, Bool.and_false, Bool.not_true, Bool.not_false, Bool.false_eq_true, Bool.true_eq_false, if_true, if_false]; done))
  all_goals
    have e1 : setR R u s = (setL R s, 0) := by
      refine e0.trans ?_
      simp only [*, Bool.true_or, Bool.false_or, Bool.or_true, Bool.or_false, Bool.true_and, Bool.false_and, Bool.and_true, Bool.and_false, Bool.not_true, Bool.not_false, Bool.false_eq_true, Bool.true_eq_false, if_true, if_false]
    rw [e1]
    clear e0 e1
    refine call_eq (member_ok _ _ R _ _ (hr.old _)) ?_
    rcases idxP_find (isU s.name) R.ms 0 with ⟨g1, g2⟩ | ⟨a, ha, g1, g2⟩
    · rw [g1]
      have d3 : ((0 : Int) ≤ (-1 : Int)) = False := eq_false (by omega)
      have es1 : setL R s = [ent6 R s 0] := by simp only [setL, g2]
      simp only [go_sem, cond, Nat.reduceAdd, Nat.reduceLeDiff, Nat.reduceEqDiff, Nat.reduceBEq, decide_true, decide_false, Int.toNat_natCast, r, sA, gQ, gR, gR0, sR, sR0, hb, gi, si0, Rm.enc, dd, deedC, Nat.add_zero, List.set_cons_zero, List.set_cons_succ, List.set_set, List.append_assoc, List.length_append, List.length_set, List.singleton_append, List.cons_append, List.nil_append, gs, ge_iff_le, d3]
      refine call_eq (happens0_ok w0 H _ p R ⟨xa, xc, xb, xd⟩ A es.length c u s ⟨em, 0, 6, s.name, em, em, em, em, s.num⟩ (gQ _ _)) ?_
      simp only [go_sem, cond, Nat.reduceAdd, Nat.reduceLeDiff, Nat.reduceEqDiff, Nat.reduceBEq, decide_true, decide_false, Int.toNat_natCast, r, sA, gQ, gR, gR0, sR, sR0, hb, gi, si0, Rm.enc, dd, deedC, Nat.add_zero, List.set_cons_zero, List.set_cons_succ, List.set_set, List.append_assoc, List.length_append, List.length_set, List.singleton_append, List.cons_append, List.nil_append, hapE, En.enc, ge_iff_le, d3]
      rw [es1]
      exact ⟨_, _, rfl, .inr ⟨4, rfl, by simp, rfl⟩⟩
    · rw [g1, Nat.zero_add]
      obtain ⟨b2, o2, sp2, hA, hc2, hw2⟩ := mcell hr.sm ha
      cases hA
      have d3 : ((0 : Int) ≤ (a : Int)) = True := eq_true (by omega)
      have d5 : ((a : Int) < (R.ms.length : Int)) = True := eq_true (by omega)
      have c1 := fun L => hc2 1 (.string R.ms[a].nick) L (by decide) rfl
      have c2 := fun L => hc2 2 (.int .i64 R.ms[a].role) L (by decide) rfl
      have hnk : nickU R s.name = R.ms[a].nick := by rw [nickU, g2]; rfl
      have es0 : setL R s = if (s.num == 0) = true then [⟨R.name, R.next, 2, s.name, nickU R s.name, em, em, em, 2⟩, ent6 R s 1] else if (decide (3 ≤ s.num) && !(R.ms[a].role == 3)) = true then [ent6 R s 0, ⟨R.name, IntKind.i64.wrap (R.next + ((1 : Nat) : Int)), 5, s.name, nickU R s.name, em, em, em, 3⟩] else [ent6 R s 0] := by
        simp only [setL, g2]
      simp only [go_sem, cond, Nat.reduceAdd, Nat.reduceLeDiff, Nat.reduceEqDiff, Nat.reduceBEq, decide_true, decide_false, Int.toNat_natCast, r, sA, gQ, gR, gR0, sR, sR0, hb, gi, si0, Rm.enc, dd, deedC, Nat.add_zero, List.set_cons_zero, List.set_cons_succ, List.set_set, List.append_assoc, List.length_append, List.length_set, List.singleton_append, List.cons_append, List.nil_append, gs, ge_iff_le, d3, d5, c1, c2]
      clear g1 g2 hw2 hc2
      repeat' (first
        | (refine Br_intro ?_ ?_ <;> intro k2 <;> simp only [go_sem, cond, Nat.reduceAdd, Nat.reduceLeDiff, Nat.reduceEqDiff, Nat.reduceBEq, decide_true, decide_false, Int.toNat_natCast, r, sA, gQ, gR, gR0, sR, sR0, hb, gi, si0, Rm.enc, dd, deedC, Nat.add_zero, List.set_cons_zero, List.set_cons_succ, List.set_set, List.append_assoc, List.length_append, List.length_set, List.singleton_append, List.cons_append, List.nil_append, gs, gt_iff_lt, ge_iff_le, d3, d5, c1, c2, k2])
        | (refine xw_open (id := 13) [0, 0, 2, 0, 8, 0, 56, 120, 248, 510, 1023] [.q 0, .q 1, .q 3, .q 5, .q 2, .q 4, .q 6, .q 7, .q 8, .e 9, .e 10] rfl (by kernel_rfl) ?_; simp only [go_sem, cond, Nat.reduceAdd, Nat.reduceLeDiff, Nat.reduceEqDiff, Nat.reduceBEq, decide_true, decide_false, Int.toNat_natCast, r, sA, gQ, gR, gR0, sR, sR0, hb, gi, si0, Rm.enc, dd, deedC, Nat.add_zero, List.set_cons_zero, List.set_cons_succ, List.set_set, List.append_assoc, List.length_append, List.length_set, List.singleton_append, List.cons_append, List.nil_append, gs, ge_iff_le, d3, d5, c1, c2])
        | (refine xw_open (id := 16) [0, 0, 2, 0, 8, 0, 56, 120, 248, 510, 1023] [.q 0, .q 1, .q 3, .q 5, .q 2, .q 4, .q 6, .q 7, .q 8, .e 9, .e 10] rfl (by kernel_rfl) ?_; simp only [go_sem, cond, Nat.reduceAdd, Nat.reduceLeDiff, Nat.reduceEqDiff, Nat.reduceBEq, decide_true, decide_false, Int.toNat_natCast, r, sA, gQ, gR, gR0, sR, sR0, hb, gi, si0, Rm.enc, dd, deedC, Nat.add_zero, List.set_cons_zero, List.set_cons_succ, List.set_set, List.append_assoc, List.length_append, List.length_set, List.singleton_append, List.cons_append, List.nil_append, gs, ge_iff_le, d3, d5, c1, c2])
        | (refine call_eq (happens0_ok w0 H _ p R ⟨some ⟨b2, o2, sp2⟩, xc, xb, xd⟩ A es.length c u s ⟨em, 0, 2, s.name, R.ms[a].nick, em, em, em, 2⟩ (gQ _ _)) ?_; simp only [go_sem, cond, Nat.reduceAdd, Nat.reduceLeDiff, Nat.reduceEqDiff, Nat.reduceBEq, decide_true, decide_false, Int.toNat_natCast, r, sA, gQ, gR, gR0, sR, sR0, hb, gi, si0, Rm.enc, dd, deedC, Nat.add_zero, List.set_cons_zero, List.set_cons_succ, List.set_set, List.append_assoc, List.length_append, List.length_set, List.singleton_append, List.cons_append, List.nil_append, hapE, En.enc, ge_iff_le, d3, d5, c1, c2])
        | (refine call_eq (happens0_ok w0 H _ p R ⟨some ⟨b2, o2, sp2⟩, xc, xb, xd⟩ A es.length c u s ⟨em, 0, 6, s.name, em, em, em, em, s.num⟩ (gQ _ _)) ?_; simp only [go_sem, cond, Nat.reduceAdd, Nat.reduceLeDiff, Nat.reduceEqDiff, Nat.reduceBEq, decide_true, decide_false, Int.toNat_natCast, r, sA, gQ, gR, gR0, sR, sR0, hb, gi, si0, Rm.enc, dd, deedC, Nat.add_zero, List.set_cons_zero, List.set_cons_succ, List.set_set, List.append_assoc, List.length_append, List.length_set, List.singleton_append, List.cons_append, List.nil_append, hapE, En.enc, ge_iff_le, d3, d5, c1, c2])
        | (refine call_eq (happens1_ok w0 H _ p (l.length + 4) R ⟨some ⟨b2, o2, sp2⟩, xc, xb, xd⟩ A es.length c u s ⟨em, 0, 6, s.name, em, em, em, em, s.num⟩ [hapE R 0 ⟨em, 0, 2, s.name, R.ms[a].nick, em, em, em, 2⟩] (by simp) (by rw [gR]; rfl) (gQ _ _)) ?_; simp only [go_sem, cond, Nat.reduceAdd, Nat.reduceLeDiff, Nat.reduceEqDiff, Nat.reduceBEq, decide_true, decide_false, Int.toNat_natCast, r, sA, gQ, gR, gR0, sR, sR0, hb, gi, si0, Rm.enc, dd, deedC, Nat.add_zero, List.set_cons_zero, List.set_cons_succ, List.set_set, List.append_assoc, List.length_append, List.length_set, List.singleton_append, List.cons_append, List.nil_append, sR, hapE, En.enc, ge_iff_le, d3, d5, c1, c2])
        | (refine call_eq (happens1_ok w0 H _ p (l.length + 4) R ⟨some ⟨b2, o2, sp2⟩, xc, xb, xd⟩ A es.length c u s ⟨em, 0, 5, s.name, R.ms[a].nick, em, em, em, 3⟩ [hapE R 0 ⟨em, 0, 6, s.name, em, em, em, em, s.num⟩] (by simp) (by rw [gR]; rfl) (gQ _ _)) ?_; simp only [go_sem, cond, Nat.reduceAdd, Nat.reduceLeDiff, Nat.reduceEqDiff, Nat.reduceBEq, decide_true, decide_false, Int.toNat_natCast, r, sA, gQ, gR, gR0, sR, sR0, hb, gi, si0, Rm.enc, dd, deedC, Nat.add_zero, List.set_cons_zero, List.set_cons_succ, List.set_set, List.append_assoc, List.length_append, List.length_set, List.singleton_append, List.cons_append, List.nil_append, sR, hapE, En.enc, ge_iff_le, d3, d5, c1, c2]))
      all_goals clear c1 c2
      all_goals first
        | (suffices ej : setL R s = [ent6 R s 0] by rw [ej]; exact ⟨_, _, rfl, .inr ⟨4, rfl, by simp, rfl⟩⟩
           refine es0.trans ?_; simp only [*, Bool.true_or, Bool.false_or, Bool.or_true, Bool.or_false, Bool.true_and, Bool.false_and, Bool.and_true, Bool.and_false, Bool.not_true, Bool.not_false, Bool.false_eq_true, Bool.true_eq_false, if_true, if_false]; done)
        | (suffices ej : setL R s = [⟨R.name, R.next, 2, s.name, nickU R s.name, em, em, em, 2⟩, ent6 R s 1] by
             rw [ej, hnk]
             exact ⟨_, _, rfl, .inr ⟨4, by rw [e2]; rfl, by simp, rfl⟩⟩
           refine es0.trans ?_; simp only [*, Bool.true_or, Bool.false_or, Bool.or_true, Bool.or_false, Bool.true_and, Bool.false_and, Bool.and_true, Bool.and_false, Bool.not_true, Bool.not_false, Bool.false_eq_true, Bool.true_eq_false, if_true, if_false]; done)
        | (suffices ej : setL R s = [ent6 R s 0, ⟨R.name, IntKind.i64.wrap (R.next + ((1 : Nat) : Int)), 5, s.name, nickU R s.name, em, em, em, 3⟩] by
             rw [ej, hnk]
             exact ⟨_, _, rfl, .inr ⟨4, rfl, by simp, rfl⟩⟩
           refine es0.trans ?_; simp only [*, Bool.true_or, Bool.false_or, Bool.or_true, Bool.or_false, Bool.true_and, Bool.false_and, Bool.and_true, Bool.and_false, Bool.not_true, Bool.not_false, Bool.false_eq_true, Bool.true_eq_false, if_true, if_false]; done)
        | (exfalso
           simp only [beq_iff_eq, beq_eq_false_iff_ne, decide_eq_true_eq, decide_eq_false_iff_not] at *
           omega)
        | trace_state
end Go.Proofs.YtmacpgoclhgafaaDoorW.FA

namespace Go.Proofs.YtmacpgoclhgafaaDoorW.FA
open Go.RowKit Go.Proofs.YtmacpgoclhgafaaDoorW.XM Go.Proofs Go.Proofs.YtmacpgoclhgafaaDoorW.XWords
set_option maxRecDepth 100000
set_option linter.unusedSimpArgs false
set_option linter.unusedVariables false
variable (w0 : World) (H : Hp)
theorem OutAt.shift {H : Hp} {n : Nat} {G g : List (Option Ob)} {o : Value} {es : List En} (h : OutAt H (n + G.length) g o es) : OutAt H n (G ++ g) o es := by
  rcases h with h | ⟨k, a, b, c⟩
  · exact .inl h
  · exact .inr ⟨G.length + k, by rw [List.getElem?_append_right (by omega), Nat.add_sub_cancel_left]; exact a, b, by rw [c, Nat.add_assoc]⟩
/-- How far a deed is, in whatever order its boxes were laid down. -/
def CutD (w0 : World) (H : Hp) (l : List (Option Ob)) (p : Nat) (R : Rm) (x : Ad) (es : List En) (A : Option Addr) (c : Nat) (u : ByteArray) (s : Sy) (T : Ts) (H' : Hp) : Prop := ∃ (G : List (Option Ob)) (i j : Nat), G.length = 2 ∧ G[i]? = some (some (.row 33 (R.enc x))) ∧ G[j]? = some (some (.row 50 s.enc)) ∧ T 0 = .pointer (some ⟨nid H p, 0, some 18⟩) ∧ T 3 = .pointer (some ⟨nid H (l.length + i), 0, some 5⟩) ∧ T 4 = .pointer (some ⟨nid H (l.length + j), 0, some 10⟩) ∧ H' = Hx H (l.set p (dd R x A es.length c u s (.slice none 0 0)) ++ G)
set_option maxHeartbeats 20000000 in
theorem ddo_ok (l : List (Option Ob)) (p : Nat) (R : Rm) (x : Ad) (es : List En) (A : Option Addr) (c : Nat) (u : ByteArray) (s : Sy) (hp : l[p]? = some (dd R x A es.length c u s (.slice none 0 0))) (hr : RmAt w0 H R x) (hs : Sl w0 H A 9 (es.map En.enc)) (hle : es.length ≤ 2000000) (hq : ∀ m ∈ R.ms, nickU R m.user = m.nick) (hro : ∀ m ∈ R.ms, 1 ≤ m.role) (hn : 0 ≤ R.next ∧ R.next ≤ 9999) (hk : 6 ≤ s.kind ∧ s.kind ≤ 11) : AFn Tryd.prog w0 81 #[.pointer (some ⟨nid H p, 0, some 18⟩)] (Hx H l) fun v H2 => v = .int .i64 (doR R es u s).2 ∧ ∃ g o, H2 = Hx H (l.set p (dd R x A es.length c u s o) ++ g) ∧ OutAt H l.length g o (doR R es u s).1 := by
  have hl := hr.lm
  have hp0 := hp
  have hlp := lt_of_get hp
  have e : Hx H l = Hx H (l.set p (dd R x A es.length c u s (.slice none 0 0))) := by conv => lhs; rw [set_same hp, List.append_nil]
  rw [e]
  obtain ⟨sA, gQ, gR, gR0, sR, sR0⟩ := dset hlp
  have gs : ∀ X : Option Ob, (l.set p X)[p]? = some X := fun X => by rw [List.getElem?_set_self hlp]
  have hb : ∀ (g : List (Option Ob)) (Y : Option Ob) (r : List (Option Ob)), (g ++ Y :: r)[g.length]? = some Y := fun g Y r => by rw [List.getElem?_append_right (Nat.le_refl _)]; simp
  have gi : ∀ (g r : List (Option Ob)) (k : Nat), (g ++ r)[g.length + k]? = r[k]? := fun g r k => by rw [List.getElem?_append_right (by omega)]; simp
  have si0 : ∀ (g r : List (Option Ob)) (Z : Option Ob), (g ++ r).set g.length Z = g ++ r.set 0 Z := fun g r Z => by rw [List.set_append_right _ _ (by omega)]; simp
  have e2 : IntKind.i64.wrap (R.next + ((0 : Nat) : Int)) = R.next := by rw [wrap_i64 (by omega) (by omega)]; omega
  obtain ⟨xa, xc, xb, xd⟩ := x
  refine AFn_of Tryd.func81 rfl (by kernel_rfl) ?_
  have r := Tryd.results81
  have e0 : doR R es u s = if 9999 < IntKind.i64.wrap (R.next + 3) then ([], 5) else if (s.kind == 6) = true then joinR R u s.nick else if idxP (isU u) R.ms 0 < 0 then ([], 2) else insR R es u s := rfl
  simp only [go_sem, cond, Nat.reduceAdd, Nat.reduceLeDiff, Nat.reduceEqDiff, Nat.reduceBEq, decide_true, decide_false, Int.toNat_natCast, r, sA, gQ, gR, gR0, sR, sR0, hb, gi, si0, Rm.enc, dd, deedC, Nat.add_zero, List.set_cons_zero, List.set_cons_succ, List.set_set, List.append_assoc, List.length_append, List.length_set, List.singleton_append, List.cons_append, List.nil_append, gs]
  (refine xw_treeC (id := 1) [0, 1, 3, 7, 0, 16, 48, 112, 0, 0, 783, 2047] (.q 0 (.q 1 (.q 2 (.q 4 (.q 5 (.q 6 (.l 3 (.l 7 (.b 8 (.e 9 (.d 3 (.e 10 (.d 7 (.e 11 .z))))) 9 (.e 8 (.d 3 (.e 10 (.d 7 (.e 11 .z)))))))))))))) rfl (by kernel_rfl) (CutD w0 H l p R ⟨xa, xc, xb, xd⟩ es A c u s) ?_ ?_)
  · simp only [go_sem, cond, Nat.reduceAdd, Nat.reduceLeDiff, Nat.reduceEqDiff, Nat.reduceBEq, decide_true, decide_false, Int.toNat_natCast, r, sA, gQ, gR, gR0, sR, sR0, hb, gi, si0, Rm.enc, dd, deedC, Nat.add_zero, List.set_cons_zero, List.set_cons_succ, List.set_set, List.append_assoc, List.length_append, List.length_set, List.singleton_append, List.cons_append, List.nil_append, gs]
    repeat' (refine Both_intro ?_ ?_ <;> simp only [go_sem, cond, Nat.reduceAdd, Nat.reduceLeDiff, Nat.reduceEqDiff, Nat.reduceBEq, decide_true, decide_false, Int.toNat_natCast, r, sA, gQ, gR, gR0, sR, sR0, hb, gi, si0, Rm.enc, dd, deedC, Nat.add_zero, List.set_cons_zero, List.set_cons_succ, List.set_set, List.append_assoc, List.length_append, List.length_set, List.singleton_append, List.cons_append, List.nil_append, gs])
    all_goals first
      | exact ⟨_, 0, 1, rfl, rfl, rfl, rfl, rfl, rfl, rfl⟩
      | exact ⟨_, 1, 0, rfl, rfl, rfl, rfl, rfl, rfl, rfl⟩
  rintro T H' ⟨G, gx, gy, hG, gx1, gy1, t0, t3, t4, rfl⟩
  simp only [Rm.enc] at gx1
  simp only [Sy.enc] at gy1
  have gx2 : ∀ Y, (G ++ Y)[gx]? = G[gx]? := fun Y => List.getElem?_append_left (lt_of_get gx1)
  have gy2 : ∀ Y, (G ++ Y)[gy]? = G[gy]? := fun Y => List.getElem?_append_left (lt_of_get gy1)
  have g22 : ∀ (Y : Option Ob) (r : List (Option Ob)), (G ++ Y :: r)[2]? = some Y := fun Y r => by rw [← hG]; exact hb _ _ _
  have s22 : ∀ (Y Z : Option Ob) (r : List (Option Ob)), (G ++ Y :: r).set 2 Z = G ++ Z :: r := fun Y Z r => by rw [← hG, si0]; rfl
  simp only [go_sem, cond, Nat.reduceAdd, Nat.reduceLeDiff, Nat.reduceEqDiff, Nat.reduceBEq, decide_true, decide_false, Int.toNat_natCast, r, sA, gQ, gR, gR0, sR, sR0, hb, gi, si0, Rm.enc, dd, deedC, Nat.add_zero, List.set_cons_zero, List.set_cons_succ, List.set_set, List.append_assoc, List.length_append, List.length_set, List.singleton_append, List.cons_append, List.nil_append, gs, t0, t3, t4, gx1, gy1, gx2, gy2, g22, s22, hG, gt_iff_lt]
  refine Br_intro ?_ ?_ <;> intro h1 <;> simp only [go_sem, cond, Nat.reduceAdd, Nat.reduceLeDiff, Nat.reduceEqDiff, Nat.reduceBEq, decide_true, decide_false, Int.toNat_natCast, r, sA, gQ, gR, gR0, sR, sR0, hb, gi, si0, Rm.enc, dd, deedC, Nat.add_zero, List.set_cons_zero, List.set_cons_succ, List.set_set, List.append_assoc, List.length_append, List.length_set, List.singleton_append, List.cons_append, List.nil_append, gs, t0, t3, t4, gx1, gy1, gx2, gy2, g22, s22, hG, gt_iff_lt, h1]
  · rw [e0, if_pos (of_decide_eq_true h1)]
    exact ⟨rfl, _, _, rfl, .inl ⟨rfl, rfl⟩⟩
  rw [if_neg (of_decide_eq_false h1)] at e0
  refine Br_intro ?_ ?_ <;> intro h5 <;> simp only [go_sem, cond, Nat.reduceAdd, Nat.reduceLeDiff, Nat.reduceEqDiff, Nat.reduceBEq, decide_true, decide_false, Int.toNat_natCast, r, sA, gQ, gR, gR0, sR, sR0, hb, gi, si0, Rm.enc, dd, deedC, Nat.add_zero, List.set_cons_zero, List.set_cons_succ, List.set_set, List.append_assoc, List.length_append, List.length_set, List.singleton_append, List.cons_append, List.nil_append, gs, t0, t3, t4, gx1, gy1, gx2, gy2, g22, s22, hG, gt_iff_lt, h5]
  · rw [if_pos h5] at e0
    refine call (djoin_ok w0 H _ p R ⟨xa, xc, xb, xd⟩ es A c u s (gQ _ _) hr) ?_
    rintro v H2 ⟨rfl, g, o, rfl, ho⟩
    simp only [go_sem, cond, Nat.reduceAdd, Nat.reduceLeDiff, Nat.reduceEqDiff, Nat.reduceBEq, decide_true, decide_false, Int.toNat_natCast, r, sA, gQ, gR, gR0, sR, sR0, hb, gi, si0, Rm.enc, dd, deedC, Nat.add_zero, List.set_cons_zero, List.set_cons_succ, List.set_set, List.append_assoc, List.length_append, List.length_set, List.singleton_append, List.cons_append, List.nil_append, gs, t0, t3, t4, gx1, gy1, gx2, gy2, g22, s22, hG, gt_iff_lt]
    rw [e0]
    first
      | exact ⟨rfl, _, _, rfl, OutAt.shift (by simpa [hG] using ho)⟩
      | exact ⟨_, _, rfl, OutAt.shift (by simpa [hG] using ho)⟩
  rw [if_neg (by rw [h5]; decide)] at e0
  (refine xw_open (id := 6) [0, 0, 2, 6, 14, 31, 63] [.q 1, .q 2, .q 3, .q 0, .q 4, .e 5, .q 6] rfl (by kernel_rfl) ?_; simp only [go_sem, cond, Nat.reduceAdd, Nat.reduceLeDiff, Nat.reduceEqDiff, Nat.reduceBEq, decide_true, decide_false, Int.toNat_natCast, r, sA, gQ, gR, gR0, sR, sR0, hb, gi, si0, Rm.enc, dd, deedC, Nat.add_zero, List.set_cons_zero, List.set_cons_succ, List.set_set, List.append_assoc, List.length_append, List.length_set, List.singleton_append, List.cons_append, List.nil_append, gs, t0, t3, t4, gx1, gy1, gx2, gy2, g22, s22, hG, gt_iff_lt])
  refine call_eq (member_ok _ _ R _ _ (hr.old _)) ?_
  rcases idxP_find (isU u) R.ms 0 with ⟨f1, f2⟩ | ⟨a, ha, f1, f2⟩
  · rw [f1]
    have d3 : ((-1 : Int) < 0) = True := eq_true (by omega)
    simp only [go_sem, cond, Nat.reduceAdd, Nat.reduceLeDiff, Nat.reduceEqDiff, Nat.reduceBEq, decide_true, decide_false, Int.toNat_natCast, r, sA, gQ, gR, gR0, sR, sR0, hb, gi, si0, Rm.enc, dd, deedC, Nat.add_zero, List.set_cons_zero, List.set_cons_succ, List.set_set, List.append_assoc, List.length_append, List.length_set, List.singleton_append, List.cons_append, List.nil_append, gs, t0, t3, t4, gx1, gy1, gx2, gy2, g22, s22, hG, gt_iff_lt, d3]
    rw [f1, if_pos (by omega)] at e0
    rw [e0]
    exact ⟨rfl, _, _, rfl, .inl ⟨rfl, rfl⟩⟩
  rw [Nat.zero_add] at f1
  rw [f1] at e0 ⊢
  rw [if_neg (by omega)] at e0
  obtain ⟨b2, o2, sp2, hA, hc2, hw2⟩ := mcell hr.sm ha
  cases hA
  have d3 : ((a : Int) < 0) = False := eq_false (by omega)
  have d4 : ((0 : Int) ≤ (a : Int)) = True := eq_true (by omega)
  have d5 : ((a : Int) < (R.ms.length : Int)) = True := eq_true (by omega)
  have c1 := fun L => hw2 L rfl
  simp only [Mem.enc] at c1
  have hmu0 := List.find?_some f2
  have hmu : R.ms[a].user = u := ba_ext (eq_of_beq (show (R.ms[a].user.toList == u.toList) = true from hmu0))
  have hnk : nickU R u = R.ms[a].nick := by rw [nickU, f2]; rfl
  have hr1 : decide (R.ms[a].role < 2) = (R.ms[a].role == 1) := by
    have := hro _ (List.getElem_mem ha)
    rw [Bool.eq_iff_iff, decide_eq_true_eq, beq_iff_eq]; omega
  have e3 : doR R es u s = if (s.kind == 7) = true then ([leaveE R u], 0) else if (s.kind == 8) = true then (if (R.ms[a].role == 1) = true then ([], 7) else if (!(s.ref.toList == (ByteArray.mk #[]).toList) && !(es.any (saidP R.name u s.ref))) = true then ([], 10) else ([talkE R u s], 0)) else if (s.kind == 9) = true then (if (R.ms[a].role == 3) = false then ([], 7) else ([subjE R u s], 0)) else if (s.kind == 10) = true then roleR R u s else setR R u s := by
    rw [e0]
    simp only [insR, f2, ← hr1, decide_eq_true_eq]
  have hmr : (R.ms[a].role == 3) = false → roleR R u s = ([], 7) := fun h => by simp only [roleR, f2, h, if_true]
  clear e0
  have g25 : ∀ (a b c d : Option Ob) (r : List (Option Ob)), (G ++ a :: b :: c :: d :: r)[5]? = some d := fun a b c d r => by rw [List.getElem?_append_right (by omega), hG]; rfl
  simp only [go_sem, cond, Nat.reduceAdd, Nat.reduceLeDiff, Nat.reduceEqDiff, Nat.reduceBEq, decide_true, decide_false, Int.toNat_natCast, r, sA, gQ, gR, gR0, sR, sR0, hb, gi, si0, Rm.enc, dd, deedC, Nat.add_zero, List.set_cons_zero, List.set_cons_succ, List.set_set, List.append_assoc, List.length_append, List.length_set, List.singleton_append, List.cons_append, List.nil_append, gs, t0, t3, t4, gx1, gy1, gx2, gy2, g22, s22, hG, gt_iff_lt, d3, d4, d5, c1, hmu]
  repeat' (first
    | (refine Br_intro ?_ ?_ <;> intro h2 <;> simp only [go_sem, cond, Nat.reduceAdd, Nat.reduceLeDiff, Nat.reduceEqDiff, Nat.reduceBEq, decide_true, decide_false, Int.toNat_natCast, r, sA, gQ, gR, gR0, sR, sR0, hb, gi, si0, Rm.enc, dd, deedC, Nat.add_zero, List.set_cons_zero, List.set_cons_succ, List.set_set, List.append_assoc, List.length_append, List.length_set, List.singleton_append, List.cons_append, List.nil_append, gs, t0, t3, t4, gx1, gy1, gx2, gy2, g22, s22, hG, gt_iff_lt, d3, d4, d5, c1, h2])
    | (refine call_eq (said_ok w0 H _ p R ⟨some ⟨b2, o2, sp2⟩, xc, xb, xd⟩ es A c u s (.slice none 0 0) s.ref (gQ _ _) hs hle) ?_; simp only [go_sem, cond, Nat.reduceAdd, Nat.reduceLeDiff, Nat.reduceEqDiff, Nat.reduceBEq, decide_true, decide_false, Int.toNat_natCast, r, sA, gQ, gR, gR0, sR, sR0, hb, gi, si0, Rm.enc, dd, deedC, Nat.add_zero, List.set_cons_zero, List.set_cons_succ, List.set_set, List.append_assoc, List.length_append, List.length_set, List.singleton_append, List.cons_append, List.nil_append, gs, t0, t3, t4, gx1, gy1, gx2, gy2, g22, s22, hG, gt_iff_lt, d3, d4, d5, c1])
    | (refine call_eq (happens0_ok w0 H _ p R ⟨some ⟨b2, o2, sp2⟩, xc, xb, xd⟩ A es.length c u s ⟨em, 0, _, _, _, _, _, _, _⟩ (gQ _ _)) ?_; simp only [go_sem, cond, Nat.reduceAdd, Nat.reduceLeDiff, Nat.reduceEqDiff, Nat.reduceBEq, decide_true, decide_false, Int.toNat_natCast, r, sA, gQ, gR, gR0, sR, sR0, hb, gi, si0, Rm.enc, dd, deedC, Nat.add_zero, List.set_cons_zero, List.set_cons_succ, List.set_set, List.append_assoc, List.length_append, List.length_set, List.singleton_append, List.cons_append, List.nil_append, gs, t0, t3, t4, gx1, gy1, gx2, gy2, g22, s22, hG, gt_iff_lt, hapE, En.enc])
    | (refine call (drole_ok w0 H _ p R ⟨some ⟨b2, o2, sp2⟩, xc, xb, xd⟩ es A c u s (gQ _ _) hr R.ms[a] f2 (by assumption) hq hn) ?_; rintro v H2 ⟨rfl, g, o, rfl, ho⟩; simp only [go_sem, cond, Nat.reduceAdd, Nat.reduceLeDiff, Nat.reduceEqDiff, Nat.reduceBEq, decide_true, decide_false, Int.toNat_natCast, r, sA, gQ, gR, gR0, sR, sR0, hb, gi, si0, Rm.enc, dd, deedC, Nat.add_zero, List.set_cons_zero, List.set_cons_succ, List.set_set, List.append_assoc, List.length_append, List.length_set, List.singleton_append, List.cons_append, List.nil_append, gs, t0, t3, t4, gx1, gy1, gx2, gy2, g22, s22, hG, gt_iff_lt])
    | (refine call (drank_ok w0 H _ p R ⟨some ⟨b2, o2, sp2⟩, xc, xb, xd⟩ es A c u s (gQ _ _) hr hn) ?_; rintro v H2 ⟨rfl, g, o, rfl, ho⟩; simp only [go_sem, cond, Nat.reduceAdd, Nat.reduceLeDiff, Nat.reduceEqDiff, Nat.reduceBEq, decide_true, decide_false, Int.toNat_natCast, r, sA, gQ, gR, gR0, sR, sR0, hb, gi, si0, Rm.enc, dd, deedC, Nat.add_zero, List.set_cons_zero, List.set_cons_succ, List.set_set, List.append_assoc, List.length_append, List.length_set, List.singleton_append, List.cons_append, List.nil_append, gs, t0, t3, t4, gx1, gy1, gx2, gy2, g22, s22, hG, gt_iff_lt]))
  all_goals clear c1 hw2 hc2 t0 t3 t4 gx1 gy1 gx2 gy2 g22 s22 hp e d3 d4 d5 hs
  all_goals first
    | (exfalso
       simp only [beq_iff_eq, beq_eq_false_iff_ne] at *
       omega)
    | (suffices ej : doR R es u s = ([], 7) by rw [ej]; exact ⟨rfl, _, _, rfl, .inl ⟨rfl, rfl⟩⟩
       have hmr2 := hmr (by assumption)
       have h9 : s.kind = 9 ∨ s.kind = 10 := by simp only [beq_iff_eq, beq_eq_false_iff_ne] at *; omega
       refine e3.trans ?_
       rcases h9 with h9 | h9 <;> (simp only [h9, hmr2, Int.reduceBEq, Bool.true_or, Bool.false_or, Bool.or_true, Bool.or_false, Bool.true_and, Bool.false_and, Bool.and_true, Bool.and_false, Bool.not_true, Bool.not_false, Bool.false_eq_true, Bool.true_eq_false, if_true, if_false]; first | done | (rw [if_pos (by assumption)]; done))
       done)
    | (suffices ej : doR R es u s = ([], 7) by rw [ej]; exact ⟨rfl, _, _, rfl, .inl ⟨rfl, rfl⟩⟩
       refine e3.trans ?_; simp only [*, Bool.true_or, Bool.false_or, Bool.or_true, Bool.or_false, Bool.true_and, Bool.false_and, Bool.and_true, Bool.and_false, Bool.not_true, Bool.not_false, Bool.false_eq_true, Bool.true_eq_false, if_true, if_false]; done)
    | (suffices ej : doR R es u s = ([], 10) by rw [ej]; exact ⟨rfl, _, _, rfl, .inl ⟨rfl, rfl⟩⟩
       refine e3.trans ?_; simp only [*, Bool.true_or, Bool.false_or, Bool.or_true, Bool.or_false, Bool.true_and, Bool.false_and, Bool.and_true, Bool.and_false, Bool.not_true, Bool.not_false, Bool.false_eq_true, Bool.true_eq_false, if_true, if_false]; done)
    | (suffices ej : doR R es u s = ([leaveE R u], 0) by
         rw [ej]; exact ⟨rfl, _, _, rfl, .inr ⟨5, by rw [g25, e2]; unfold leaveE; rw [hnk]; rfl, by simp, rfl⟩⟩
       refine e3.trans ?_; simp only [*, Bool.true_or, Bool.false_or, Bool.or_true, Bool.or_false, Bool.true_and, Bool.false_and, Bool.and_true, Bool.and_false, Bool.not_true, Bool.not_false, Bool.false_eq_true, Bool.true_eq_false, if_true, if_false]; done)
    | (suffices ej : doR R es u s = ([talkE R u s], 0) by
         rw [ej]; exact ⟨rfl, _, _, rfl, .inr ⟨5, by rw [g25, e2]; unfold talkE; rw [hnk]; rfl, by simp, rfl⟩⟩
       refine e3.trans ?_; simp only [*, Bool.true_or, Bool.false_or, Bool.or_true, Bool.or_false, Bool.true_and, Bool.false_and, Bool.and_true, Bool.and_false, Bool.not_true, Bool.not_false, Bool.false_eq_true, Bool.true_eq_false, if_true, if_false]; done)
    | (suffices ej : doR R es u s = ([subjE R u s], 0) by
         rw [ej]; exact ⟨rfl, _, _, rfl, .inr ⟨5, by rw [g25, e2]; unfold subjE; rw [hnk]; rfl, by simp, rfl⟩⟩
       refine e3.trans ?_; simp only [*, Bool.true_or, Bool.false_or, Bool.or_true, Bool.or_false, Bool.true_and, Bool.false_and, Bool.and_true, Bool.and_false, Bool.not_true, Bool.not_false, Bool.false_eq_true, Bool.true_eq_false, if_true, if_false]; done)
    | (suffices ej : doR R es u s = setR R u s by
         rw [ej]; exact ⟨rfl, _, _, rfl, by rw [List.append_cons]; exact OutAt.shift (by simpa [hG] using ho)⟩
       have h10 : s.kind = 11 := by simp only [beq_iff_eq, beq_eq_false_iff_ne] at *; omega
       refine e3.trans ?_; simp only [h10, Int.reduceBEq, Bool.true_or, Bool.false_or, Bool.or_true, Bool.or_false, Bool.true_and, Bool.false_and, Bool.and_true, Bool.and_false, Bool.not_true, Bool.not_false, Bool.false_eq_true, Bool.true_eq_false, if_true, if_false]; done)
    | (suffices ej : doR R es u s = roleR R u s by
         rw [ej]; exact ⟨rfl, _, _, rfl, by rw [List.append_cons]; exact OutAt.shift (by simpa [hG] using ho)⟩
       have h10 : s.kind = 10 := by simp only [beq_iff_eq, beq_eq_false_iff_ne] at *; omega
       refine e3.trans ?_; simp only [h10, Int.reduceBEq, Bool.true_or, Bool.false_or, Bool.or_true, Bool.or_false, Bool.true_and, Bool.false_and, Bool.and_true, Bool.and_false, Bool.not_true, Bool.not_false, Bool.false_eq_true, Bool.true_eq_false, if_true, if_false]; done)
    | trace_state
end Go.Proofs.YtmacpgoclhgafaaDoorW.FA

namespace Go.Proofs.YtmacpgoclhgafaaDoorW.FA
open Go.RowKit Go.Proofs.YtmacpgoclhgafaaDoorW.XM Go.Proofs Go.Proofs.YtmacpgoclhgafaaDoorW.XWords
set_option maxRecDepth 100000
set_option linter.unusedSimpArgs false
set_option linter.unusedVariables false
variable (w0 : World) (H : Hp)
def eqS (s t : Sy) : Bool := (s.kind == t.kind) && ((s.room.toList == t.room.toList) && ((s.nick.toList == t.nick.toList) && ((s.name.toList == t.name.toList) && ((s.id.toList == t.id.toList) && ((s.ref.toList == t.ref.toList) && ((s.text.toList == t.text.toList) && ((s.num == t.num) && ((s.frm == t.frm) && ((s.back == t.back) && true)))))))))
theorem eqS_comm (s t : Sy) : eqS s t = eqS t s := by
  unfold eqS
  simp only [Bool.beq_comm, BEq.comm]
/-- What is said has nothing but what its kind has. -/
def xS (s : Sy) : Bool := eqS s (cleanS s)
def restS (s : Sy) : Bool :=
  if (s.kind == 1) = true then userB s.name && wordB s.text
  else if (s.kind == 2) = true then true
  else if (s.kind == 4) = true then true
  else if (s.kind == 7) = true then true
  else if (s.kind == 3) = true then inB s.num 0 255
  else if (s.kind == 5) = true then wordB s.ref && inB s.num 0 255
  else if (s.kind == 6) = true then nickB s.nick
  else if (s.kind == 8) = true then bodyB s.text && orB wordB s.ref
  else if (s.kind == 9) = true then bodyB s.text
  else if (s.kind == 10) = true then nickB s.nick && inB s.num 0 3
  else if (s.kind == 11) = true then userB s.name && inB s.num 0 4
  else if (s.kind == 12) = true then orB userB s.name && (inB s.num 1 4 && (inB s.frm (-1) 9999 && (inB s.back (-1) 9999 && (decide (s.frm < 0) || decide (s.back < 0)))))
  else false
def sayB (s : Sy) : Bool := xS s && ((!decide (6 ≤ s.kind) || userB s.room) && ((!decide (8 ≤ s.kind) || wordB s.id) && restS s))
structure BigS (s : Sy) : Prop where
  rm : s.room.size ≤ 1000000000000
  ni : s.nick.size ≤ 1000000000000
  na : s.name.size ≤ 1000000000000
  id : s.id.size ≤ 1000000000000
  rf : s.ref.size ≤ 1000000000000
  tx : s.text.size ≤ 1000000000000
theorem bareS_ok (s : Sy) : AFn Tryd.prog w0 129 #[.agg s.enc.toArray] H fun v H2 => v = .agg (cleanS s).enc.toArray ∧ H2 = H := by
  refine AFn.scal rfl Tryd.func129 rfl (by kernel_rfl) ?_
  have r := Tryd.results129
  simp only [go_sem, cond, Nat.reduceAdd, Nat.reduceLeDiff, Nat.reduceEqDiff, Nat.reduceBEq, decide_true, decide_false, Int.toNat_natCast, r]
  simp only [go_sem, cond, Nat.reduceAdd, Nat.reduceLeDiff, Nat.reduceEqDiff, Nat.reduceBEq, decide_true, decide_false, Int.toNat_natCast, Sy.enc, r]
  repeat' (first
    | (refine Br_intro ?_ ?_ <;> intro h <;> simp only [go_sem, cond, Nat.reduceAdd, Nat.reduceLeDiff, Nat.reduceEqDiff, Nat.reduceBEq, decide_true, decide_false, Int.toNat_natCast, h, r])
    | ((refine xw_open (id := 4) [0, 1, 0, 4, 3, 19, 63, 127] [.q 0, .q 2, .q 1, .q 4, .l 3, .e 5, .d 3, .q 6, .e 7] rfl (by kernel_rfl) ?_; simp only [go_sem, cond, Nat.reduceAdd, Nat.reduceLeDiff, Nat.reduceEqDiff, Nat.reduceBEq, decide_true, decide_false, Int.toNat_natCast, r]))
    | ((refine xw_open (id := 8) [0, 1, 0, 4, 3, 19, 63, 127] [.q 0, .q 2, .q 1, .q 4, .l 3, .e 5, .d 3, .q 6, .e 7] rfl (by kernel_rfl) ?_; simp only [go_sem, cond, Nat.reduceAdd, Nat.reduceLeDiff, Nat.reduceEqDiff, Nat.reduceBEq, decide_true, decide_false, Int.toNat_natCast, r]))
    | ((refine xw_open (id := 10) [0, 1, 0, 4, 3, 19, 63, 127] [.q 0, .q 2, .q 1, .q 4, .l 3, .e 5, .d 3, .q 6, .e 7] rfl (by kernel_rfl) ?_; simp only [go_sem, cond, Nat.reduceAdd, Nat.reduceLeDiff, Nat.reduceEqDiff, Nat.reduceBEq, decide_true, decide_false, Int.toNat_natCast, r]))
    | ((refine xw_open (id := 14) [0, 1, 0, 4, 0, 16, 0, 64, 3, 259, 783, 1807, 3903, 7999, 16383, 32767] [.q 0, .q 2, .q 4, .q 6, .q 1, .q 8, .l 3, .l 5, .l 7, .e 9, .d 3, .q 10, .e 11, .d 5, .q 12, .e 13, .d 7, .q 14, .e 15] rfl (by kernel_rfl) ?_; simp only [go_sem, cond, Nat.reduceAdd, Nat.reduceLeDiff, Nat.reduceEqDiff, Nat.reduceBEq, decide_true, decide_false, Int.toNat_natCast, r]))
    | ((refine xw_open (id := 16) [0, 1, 0, 4, 0, 16, 3, 67, 207, 463, 1023, 2047] [.q 0, .q 2, .q 4, .q 1, .q 6, .l 3, .l 5, .e 7, .d 3, .q 8, .e 9, .d 5, .q 10, .e 11] rfl (by kernel_rfl) ?_; simp only [go_sem, cond, Nat.reduceAdd, Nat.reduceLeDiff, Nat.reduceEqDiff, Nat.reduceBEq, decide_true, decide_false, Int.toNat_natCast, r]))
    | ((refine xw_open (id := 18) [0, 1, 0, 4, 0, 16, 0, 64, 3, 259, 783, 1807, 3903, 7999, 16383, 32767] [.q 0, .q 2, .q 4, .q 6, .q 1, .q 8, .l 3, .l 5, .l 7, .e 9, .d 3, .q 10, .e 11, .d 5, .q 12, .e 13, .d 7, .q 14, .e 15] rfl (by kernel_rfl) ?_; simp only [go_sem, cond, Nat.reduceAdd, Nat.reduceLeDiff, Nat.reduceEqDiff, Nat.reduceBEq, decide_true, decide_false, Int.toNat_natCast, r]))
    | ((refine xw_open (id := 20) [0, 1, 0, 4, 0, 16, 0, 64, 3, 259, 783, 1807, 3903, 7999, 16383, 32767] [.q 0, .q 2, .q 4, .q 6, .q 1, .q 8, .l 3, .l 5, .l 7, .e 9, .d 3, .q 10, .e 11, .d 5, .q 12, .e 13, .d 7, .q 14, .e 15] rfl (by kernel_rfl) ?_; simp only [go_sem, cond, Nat.reduceAdd, Nat.reduceLeDiff, Nat.reduceEqDiff, Nat.reduceBEq, decide_true, decide_false, Int.toNat_natCast, r]))
    | ((refine xw_open (id := 22) [0, 1, 0, 4, 0, 16, 0, 64, 0, 256, 0, 1024, 3, 4099, 12303, 28687, 61503, 127039, 258303, 520447, 1045503, 2094079, 4194303, 8388607] [.q 0, .q 2, .q 4, .q 6, .q 8, .q 10, .q 1, .q 12, .l 3, .l 5, .l 7, .l 9, .l 11, .e 13, .d 3, .q 14, .e 15, .d 5, .q 16, .e 17, .d 7, .q 18, .e 19, .d 9, .q 20, .e 21, .d 11, .q 22, .e 23] rfl (by kernel_rfl) ?_; simp only [go_sem, cond, Nat.reduceAdd, Nat.reduceLeDiff, Nat.reduceEqDiff, Nat.reduceBEq, decide_true, decide_false, Int.toNat_natCast, r])))
  all_goals first
    | exact ⟨by simp only [cleanS, *]; rfl, _, rfl⟩
    | (exfalso
       simp only [beq_iff_eq, beq_eq_false_iff_ne] at *
       omega)
    | trace_state
theorem count_ok (n : Int) : AFn Tryd.prog w0 130 #[.int .i64 n] H fun v H2 => v = .bool (inB n 0 255) ∧ H2 = H := by
  refine AFn.scal rfl Tryd.func130 rfl (by kernel_rfl) ?_
  have r := Tryd.results130
  simp only [go_sem, cond, Nat.reduceAdd, Nat.reduceLeDiff, Nat.reduceEqDiff, Nat.reduceBEq, decide_true, decide_false, Int.toNat_natCast, r]
  refine call_eq (within_ok _ _ _ _ _) ?_
  simp only [go_sem, cond, Nat.reduceAdd, Nat.reduceLeDiff, Nat.reduceEqDiff, Nat.reduceBEq, decide_true, decide_false, Int.toNat_natCast, r]
  exact ⟨_, rfl⟩
end Go.Proofs.YtmacpgoclhgafaaDoorW.FA

namespace Go.Proofs.YtmacpgoclhgafaaDoorW.FA
open Go.RowKit Go.Proofs.YtmacpgoclhgafaaDoorW.XM Go.Proofs Go.Proofs.YtmacpgoclhgafaaDoorW.XWords
set_option maxRecDepth 100000
set_option linter.unusedSimpArgs false
set_option linter.unusedVariables false
variable (w0 : World) (H : Hp)
theorem minB {a b : Int} (ha : inB a (-1) 9999 = true) (hb : inB b (-1) 9999 = true) : ((if b < a then b else a) == -1) = (decide (a < 0) || decide (b < 0)) := by
  simp only [inB, Bool.and_eq_true, decide_eq_true_eq] at ha hb
  rw [Bool.eq_iff_iff]
  simp only [beq_iff_eq, Bool.or_eq_true, decide_eq_true_eq]
  split <;> omega
set_option maxHeartbeats 20000000 in
theorem SayOk_ok (s : Sy) (hT : Tabs w0) (hb : BigS s) : AFn Tryd.prog w0 80 #[.agg s.enc.toArray] H fun v H2 => v = .bool (sayB s) ∧ H2 = H := by
  refine AFn.scal rfl Tryd.func80 rfl (by kernel_rfl) ?_
  have r := Tryd.results80
  simp only [go_sem, cond, Nat.reduceAdd, Nat.reduceLeDiff, Nat.reduceEqDiff, Nat.reduceBEq, decide_true, decide_false, Int.toNat_natCast, r]
  simp only [go_sem, cond, Nat.reduceAdd, Nat.reduceLeDiff, Nat.reduceEqDiff, Nat.reduceBEq, decide_true, decide_false, Int.toNat_natCast, Sy.enc, r]
  (refine xw_open (id := 1) [0, 0, 2, 7, 15, 31, 63, 127, 255, 511, 1023, 2047, 4095, 8191, 16383, 32767, 65535, 131071, 262143, 524287, 1048575, 2097151, 4194303, 8388607, 16777215, 33554431] [.l 0, .q 1, .e 2, .d 0, .q 3, .q 4, .q 5, .q 6, .q 7, .q 8, .q 9, .q 10, .e 11, .q 12, .q 13, .q 14, .q 15, .q 16, .q 17, .q 18, .q 19, .q 20, .q 21, .e 22, .q 23, .q 24, .q 25] rfl (by kernel_rfl) ?_; simp only [go_sem, cond, Nat.reduceAdd, Nat.reduceLeDiff, Nat.reduceEqDiff, Nat.reduceBEq, decide_true, decide_false, Int.toNat_natCast, r])
  refine call_eq (bareS_ok _ _ s) ?_
  simp only [go_sem, cond, Nat.reduceAdd, Nat.reduceLeDiff, Nat.reduceEqDiff, Nat.reduceBEq, decide_true, decide_false, Int.toNat_natCast, r, Sy.enc]
  rw [show (s.kind == (cleanS s).kind && (s.room.toList == (cleanS s).room.toList && (s.nick.toList == (cleanS s).nick.toList && (s.name.toList == (cleanS s).name.toList && (s.id.toList == (cleanS s).id.toList && (s.ref.toList == (cleanS s).ref.toList && (s.text.toList == (cleanS s).text.toList && (s.num == (cleanS s).num && (s.frm == (cleanS s).frm && (s.back == (cleanS s).back && true)))))))))) = xS s from rfl]
  repeat' (first
    | (refine Br_intro ?_ ?_ <;> intro h <;> simp only [go_sem, cond, Nat.reduceAdd, Nat.reduceLeDiff, Nat.reduceEqDiff, Nat.reduceBEq, decide_true, decide_false, Int.toNat_natCast, h, r])
    | (refine call_eq (userOk_ok _ _ _ hb.rm) ?_; simp only [go_sem, cond, Nat.reduceAdd, Nat.reduceLeDiff, Nat.reduceEqDiff, Nat.reduceBEq, decide_true, decide_false, Int.toNat_natCast, r])
    | (refine call_eq (userOk_ok _ _ _ hb.na) ?_; simp only [go_sem, cond, Nat.reduceAdd, Nat.reduceLeDiff, Nat.reduceEqDiff, Nat.reduceBEq, decide_true, decide_false, Int.toNat_natCast, r])
    | (refine call_eq (nickOk_ok _ _ _ hT hb.ni) ?_; simp only [go_sem, cond, Nat.reduceAdd, Nat.reduceLeDiff, Nat.reduceEqDiff, Nat.reduceBEq, decide_true, decide_false, Int.toNat_natCast, r])
    | (refine call_eq (bodyOk_ok _ _ _ hT hb.tx) ?_; simp only [go_sem, cond, Nat.reduceAdd, Nat.reduceLeDiff, Nat.reduceEqDiff, Nat.reduceBEq, decide_true, decide_false, Int.toNat_natCast, r])
    | (refine call_eq (wordOk_ok _ _ _ hb.id) ?_; simp only [go_sem, cond, Nat.reduceAdd, Nat.reduceLeDiff, Nat.reduceEqDiff, Nat.reduceBEq, decide_true, decide_false, Int.toNat_natCast, r])
    | (refine call_eq (wordOk_ok _ _ _ hb.tx) ?_; simp only [go_sem, cond, Nat.reduceAdd, Nat.reduceLeDiff, Nat.reduceEqDiff, Nat.reduceBEq, decide_true, decide_false, Int.toNat_natCast, r])
    | (refine call_eq (wordOk_ok _ _ _ hb.rf) ?_; simp only [go_sem, cond, Nat.reduceAdd, Nat.reduceLeDiff, Nat.reduceEqDiff, Nat.reduceBEq, decide_true, decide_false, Int.toNat_natCast, r])
    | (refine call_eq (orEmpty_ok _ _ _ _ wordB (wordOk_ok _ _ _ hb.rf)) ?_; simp only [go_sem, cond, Nat.reduceAdd, Nat.reduceLeDiff, Nat.reduceEqDiff, Nat.reduceBEq, decide_true, decide_false, Int.toNat_natCast, r])
    | (refine call_eq (orEmpty_ok _ _ _ _ userB (userOk_ok _ _ _ hb.na)) ?_; simp only [go_sem, cond, Nat.reduceAdd, Nat.reduceLeDiff, Nat.reduceEqDiff, Nat.reduceBEq, decide_true, decide_false, Int.toNat_natCast, r])
    | (refine call_eq (count_ok _ _ _) ?_; simp only [go_sem, cond, Nat.reduceAdd, Nat.reduceLeDiff, Nat.reduceEqDiff, Nat.reduceBEq, decide_true, decide_false, Int.toNat_natCast, r])
    | (refine call_eq (within_ok _ _ _ _ _) ?_; simp only [go_sem, cond, Nat.reduceAdd, Nat.reduceLeDiff, Nat.reduceEqDiff, Nat.reduceBEq, decide_true, decide_false, Int.toNat_natCast, r]))
  all_goals first
    | (exfalso
       clear hb r
       simp only [beq_iff_eq, beq_eq_false_iff_ne, decide_eq_true_eq, decide_eq_false_iff_not] at *
       omega)
    | skip
  all_goals refine ⟨congrArg Value.bool ?_, _, rfl⟩
  all_goals clear hb r
  all_goals first
    | (simp only [sayB, restS, *, Bool.true_and, Bool.false_and, Bool.and_true, Bool.and_false, Bool.not_true, Bool.not_false, Bool.true_or, Bool.or_true, Bool.false_or, Bool.or_false, if_true, Bool.false_eq_true, if_false]; done)
    | (rw [minB (a := s.frm) (b := s.back) (by assumption) (by assumption)]; simp only [sayB, restS, *, Bool.true_and, Bool.false_and, Bool.and_true, Bool.and_false, Bool.not_true, Bool.not_false, Bool.true_or, Bool.or_true, Bool.false_or, Bool.or_false, if_true, Bool.false_eq_true, if_false]; done)
    | trace_state
end Go.Proofs.YtmacpgoclhgafaaDoorW.FA

namespace Go.Proofs.YtmacpgoclhgafaaDoorW.FA
open Go.RowKit Go.Proofs.YtmacpgoclhgafaaDoorW.XM Go.Proofs Go.Proofs.YtmacpgoclhgafaaDoorW.XWords
set_option maxRecDepth 100000
set_option linter.unusedSimpArgs false
set_option linter.unusedVariables false
variable (w0 : World) (H : Hp)
def rngB (s : Sy) : Bool := (!decide (6 ≤ s.kind) || userB s.room) && ((!decide (8 ≤ s.kind) || wordB s.id) && restS s)
set_option maxHeartbeats 20000000 in
theorem l5Ranged_ok (s : Sy) (hb : BigS s) : AFn Tryd.prog w0 137 #[.agg s.enc.toArray] H fun v H2 => v = .bool (rngB s) ∧ H2 = H := by
  refine AFn.scal rfl Tryd.func137 rfl (by kernel_rfl) ?_
  have r := Tryd.results137
  simp only [go_sem, cond, Nat.reduceAdd, Nat.reduceLeDiff, Nat.reduceEqDiff, Nat.reduceBEq, decide_true, decide_false, Int.toNat_natCast, r]
  simp only [go_sem, cond, Nat.reduceAdd, Nat.reduceLeDiff, Nat.reduceEqDiff, Nat.reduceBEq, decide_true, decide_false, Int.toNat_natCast, Sy.enc, r]
  repeat' (first
    | (refine Br_intro ?_ ?_ <;> intro h <;> simp only [go_sem, cond, Nat.reduceAdd, Nat.reduceLeDiff, Nat.reduceEqDiff, Nat.reduceBEq, decide_true, decide_false, Int.toNat_natCast, h, r])
    | (refine call_eq (l4User_ok _ _ _ hb.rm) ?_; simp only [go_sem, cond, Nat.reduceAdd, Nat.reduceLeDiff, Nat.reduceEqDiff, Nat.reduceBEq, decide_true, decide_false, Int.toNat_natCast, r])
    | (refine call_eq (l4User_ok _ _ _ hb.na) ?_; simp only [go_sem, cond, Nat.reduceAdd, Nat.reduceLeDiff, Nat.reduceEqDiff, Nat.reduceBEq, decide_true, decide_false, Int.toNat_natCast, r])
    | (refine call_eq (l4Nick_ok _ _ _ hb.ni) ?_; simp only [go_sem, cond, Nat.reduceAdd, Nat.reduceLeDiff, Nat.reduceEqDiff, Nat.reduceBEq, decide_true, decide_false, Int.toNat_natCast, r])
    | (refine call_eq (l5Body_ok _ _ _ hb.tx) ?_; simp only [go_sem, cond, Nat.reduceAdd, Nat.reduceLeDiff, Nat.reduceEqDiff, Nat.reduceBEq, decide_true, decide_false, Int.toNat_natCast, r])
    | (refine call_eq (l5Word_ok _ _ _ hb.id) ?_; simp only [go_sem, cond, Nat.reduceAdd, Nat.reduceLeDiff, Nat.reduceEqDiff, Nat.reduceBEq, decide_true, decide_false, Int.toNat_natCast, r])
    | (refine call_eq (l5Word_ok _ _ _ hb.tx) ?_; simp only [go_sem, cond, Nat.reduceAdd, Nat.reduceLeDiff, Nat.reduceEqDiff, Nat.reduceBEq, decide_true, decide_false, Int.toNat_natCast, r])
    | (refine call_eq (l5Word_ok _ _ _ hb.rf) ?_; simp only [go_sem, cond, Nat.reduceAdd, Nat.reduceLeDiff, Nat.reduceEqDiff, Nat.reduceBEq, decide_true, decide_false, Int.toNat_natCast, r])
    | (refine call_eq (l1In_ok _ _ _ _ _) ?_; simp only [go_sem, cond, Nat.reduceAdd, Nat.reduceLeDiff, Nat.reduceEqDiff, Nat.reduceBEq, decide_true, decide_false, Int.toNat_natCast, r]))
  all_goals refine ⟨congrArg Value.bool ?_, _, rfl⟩
  all_goals clear hb r
  all_goals first
    | (rename (s.kind == _) = true => hk
       obtain hk := eq_of_beq hk
       simp only [rngB, restS, orB, emB, hk, *]
       simp_all [emB]
       done)
    | (simp only [rngB, restS, *, Bool.false_eq_true, if_false, Bool.and_false]; done)
    | trace_state
theorem l5Ok_ok (s : Sy) (hb : BigS s) : AFn Tryd.prog w0 84 #[.agg s.enc.toArray] H fun v H2 => v = .bool (sayB s) ∧ H2 = H := by
  refine AFn.scal rfl Tryd.func84 rfl (by kernel_rfl) ?_
  have r := Tryd.results84
  simp only [go_sem, cond, Nat.reduceAdd, Nat.reduceLeDiff, Nat.reduceEqDiff, Nat.reduceBEq, decide_true, decide_false, Int.toNat_natCast, r]
  simp only [go_sem, cond, Nat.reduceAdd, Nat.reduceLeDiff, Nat.reduceEqDiff, Nat.reduceBEq, decide_true, decide_false, Int.toNat_natCast, Sy.enc, r]
  (refine xw_open (id := 1) [0, 1, 0, 7, 15, 31, 63, 127, 255] [.q 0, .l 2, .e 1, .d 2, .q 3, .q 4, .q 5, .e 6, .q 7, .q 8] rfl (by kernel_rfl) ?_; simp only [go_sem, cond, Nat.reduceAdd, Nat.reduceLeDiff, Nat.reduceEqDiff, Nat.reduceBEq, decide_true, decide_false, Int.toNat_natCast, r])
  refine call_eq (l5Clean_ok _ _ s) ?_
  simp only [go_sem, cond, Nat.reduceAdd, Nat.reduceLeDiff, Nat.reduceEqDiff, Nat.reduceBEq, decide_true, decide_false, Int.toNat_natCast, r, Sy.enc]
  rw [show ((cleanS s).kind == s.kind && ((cleanS s).room.toList == s.room.toList && ((cleanS s).nick.toList == s.nick.toList && ((cleanS s).name.toList == s.name.toList && ((cleanS s).id.toList == s.id.toList && ((cleanS s).ref.toList == s.ref.toList && ((cleanS s).text.toList == s.text.toList && ((cleanS s).num == s.num && ((cleanS s).frm == s.frm && ((cleanS s).back == s.back && true)))))))))) = xS s from eqS_comm _ _]
  refine Br_intro ?_ ?_ <;> intro h <;> simp only [go_sem, cond, Nat.reduceAdd, Nat.reduceLeDiff, Nat.reduceEqDiff, Nat.reduceBEq, decide_true, decide_false, Int.toNat_natCast, h, r]
  · refine call_eq (l5Ranged_ok _ _ s hb) ?_
    simp only [go_sem, cond, Nat.reduceAdd, Nat.reduceLeDiff, Nat.reduceEqDiff, Nat.reduceBEq, decide_true, decide_false, Int.toNat_natCast, r]
    exact ⟨by rw [sayB, h, Bool.true_and]; rfl, _, rfl⟩
  · exact ⟨by rw [sayB, h, Bool.false_and], _, rfl⟩
end Go.Proofs.YtmacpgoclhgafaaDoorW.FA

namespace Go.Proofs.YtmacpgoclhgafaaDoorW.FA
open Go.RowKit Go.Proofs.YtmacpgoclhgafaaDoorW.XM Go.Proofs Go.Proofs.YtmacpgoclhgafaaDoorW.XWords
set_option maxRecDepth 100000
set_option linter.unusedSimpArgs false
set_option linter.unusedVariables false
variable (w0 : World) (H : Hp)
def rdo (R : Rm) (es : List En) (u : ByteArray) (s : Sy) : List En × Int :=
  if roomB R = false then ([], 1) else if userB u = false then ([], 1) else if sayB s = false then ([], 1) else if inB s.kind 6 11 = false then ([], 1) else if (s.room.toList == R.name.toList) = false then ([], 1) else doR R es u s
theorem doR_zero (R : Rm) (es : List En) (u : ByteArray) (s : Sy) : (doR R es u s).1 = [] ∨ (doR R es u s).2 = 0 := by
  unfold doR
  split
  · exact .inl rfl
  split
  · unfold joinR
    repeat' split
    all_goals first | exact .inl rfl | exact .inr rfl
  split
  · exact .inl rfl
  unfold insR
  split
  · exact .inr rfl
  split
  · repeat' split
    all_goals first | exact .inl rfl | exact .inr rfl
  split
  · repeat' split
    all_goals first | exact .inl rfl | exact .inr rfl
  split
  · unfold roleR
    repeat' split
    all_goals first | exact .inl rfl | exact .inr rfl
  · unfold setR
    repeat' split
    all_goals first | exact .inl rfl | exact .inr rfl
theorem roomB_mem {R : Rm} (h : roomB R = true) : ∀ m ∈ R.ms, nickU R m.user = m.nick ∧ 1 ≤ m.role ∧ m.role ≤ 3 := by
  simp only [roomB, Bool.and_eq_true] at h
  have hm := h.2.2.2.1.1
  intro m hmm
  obtain ⟨i, hi, rfl⟩ := List.mem_iff_getElem.1 hmm
  have := allI_get _ _ 0 hm i hi
  rw [Nat.zero_add] at this
  simp only [memB, inB, Bool.and_eq_true, decide_eq_true_eq, beq_iff_eq] at this
  obtain ⟨_, _, h1, _, ⟨h3, h4⟩, _⟩ := this
  refine ⟨?_, h3, h4⟩
  rcases idxP_find (isU R.ms[i].user) R.ms 0 with ⟨f1, _⟩ | ⟨j, hj, f1, f2⟩
  · rw [f1] at h1; omega
  · rw [f1] at h1
    obtain rfl : j = i := by omega
    rw [nickU, f2]; rfl
theorem roomB_next {R : Rm} (h : roomB R = true) : 0 ≤ R.next ∧ R.next ≤ 9999 := by
  simp only [roomB, inB, Bool.and_eq_true, decide_eq_true_eq] at h
  exact h.2.1
theorem RoomDoS_ok (R : Rm) (x : Ad) (es : List En) (A : Option Addr) (c : Nat) (u : ByteArray) (s : Sy) (hr : RmAt w0 H R x) (hb : Big R) (hs : Sl w0 H A 9 (es.map En.enc)) (hl : es.length ≤ 2000000) (hu : u.size ≤ 1000000000000) (hS : BigS s) : AFn Tryd.prog w0 26 #[.agg (R.enc x).toArray, .slice A es.length c, .string u, .agg s.enc.toArray] H fun v H2 => v = deedV H (rdo R es u s) ∧ H2 = Hx H (esO (rdo R es u s).1) := by
  refine AFn.news Tryd.func26 rfl (by kernel_rfl) ?_
  have r := Tryd.results26
  simp only [go_sem, cond, Nat.reduceAdd, Nat.reduceLeDiff, Nat.reduceEqDiff, Nat.reduceBEq, decide_true, decide_false, Int.toNat_natCast, r]
  simp only [go_sem, cond, Nat.reduceAdd, Nat.reduceLeDiff, Nat.reduceEqDiff, Nat.reduceBEq, decide_true, decide_false, Int.toNat_natCast, Rm.enc, Sy.enc, r]
  repeat' (first
    | (refine call_eq (l6Ok_ok _ _ R x (hr.old _) hb) ?_; simp only [go_sem, cond, Nat.reduceAdd, Nat.reduceLeDiff, Nat.reduceEqDiff, Nat.reduceBEq, decide_true, decide_false, Int.toNat_natCast, Rm.enc, Sy.enc, r])
    | (refine call_eq (l4User_ok _ _ _ hu) ?_; simp only [go_sem, cond, Nat.reduceAdd, Nat.reduceLeDiff, Nat.reduceEqDiff, Nat.reduceBEq, decide_true, decide_false, Int.toNat_natCast, Rm.enc, Sy.enc, r])
    | (refine call_eq (l5Ok_ok _ _ s hS) ?_; simp only [go_sem, cond, Nat.reduceAdd, Nat.reduceLeDiff, Nat.reduceEqDiff, Nat.reduceBEq, decide_true, decide_false, Int.toNat_natCast, Rm.enc, Sy.enc, r])
    | (refine call_eq (l1In_ok _ _ _ _ _) ?_; simp only [go_sem, cond, Nat.reduceAdd, Nat.reduceLeDiff, Nat.reduceEqDiff, Nat.reduceBEq, decide_true, decide_false, Int.toNat_natCast, Rm.enc, Sy.enc, r])
    | (refine call_eq (l6Do_ok w0 _ R x es A c u s (hr.old _) (hs.old _) hl) ?_; simp only [go_sem, cond, Nat.reduceAdd, Nat.reduceLeDiff, Nat.reduceEqDiff, Nat.reduceBEq, decide_true, decide_false, Int.toNat_natCast, r, deedV])
    | (refine Br_intro ?_ ?_ <;> intro h <;> simp only [go_sem, cond, Nat.reduceAdd, Nat.reduceLeDiff, Nat.reduceEqDiff, Nat.reduceBEq, decide_true, decide_false, Int.toNat_natCast, Rm.enc, Sy.enc, r, h]))
  all_goals first
    | (refine nil_end H ?_; simp only [rdo, *, Bool.true_or, Bool.false_or, Bool.or_true, Bool.or_false, Bool.true_and, Bool.false_and, Bool.and_true, Bool.and_false, Bool.not_true, Bool.not_false, Bool.false_eq_true, Bool.true_eq_false, if_true, if_false]; done)
    | (refine pass_end' H ?_ ?_
       · rfl
       · simp only [rdo, *, Bool.true_or, Bool.false_or, Bool.or_true, Bool.or_false, Bool.true_and, Bool.false_and, Bool.and_true, Bool.and_false, Bool.not_true, Bool.not_false, Bool.false_eq_true, Bool.true_eq_false, if_true, if_false])
theorem clipE_ok (j o tag n c : Nat) (cs : List Value) (hj : H[j]? = some (some (.row 37 cs))) (hl : cs.length = tag) (hn : n ≤ c) : AFn Tryd.prog w0 82 #[.slice (some ⟨j, o, some tag⟩) n c] H fun v H2 => v = .slice (some ⟨j, o, some tag⟩) n n ∧ H2 = H := by
  refine AFn.scal (by simp [ren3, ren2, ren1, rho, lt_of_get hj]) Tryd.func82 rfl (by kernel_rfl) ?_
  have r := Tryd.results82
  simp only [go_sem, cond, Nat.reduceAdd, Nat.reduceLeDiff, Nat.reduceEqDiff, Nat.reduceBEq, decide_true, decide_false, Int.toNat_natCast, r]
  refine slc_clip XF.elm_48 hn _ _ _ _ ⟨_, cs, _, Hx_old hj [], hl, XF.lay_37⟩ ?_
  simp only [go_sem, cond, Nat.reduceAdd, Nat.reduceLeDiff, Nat.reduceEqDiff, Nat.reduceBEq, decide_true, decide_false, Int.toNat_natCast, r]
  exact ⟨_, rfl⟩
theorem clipE_nil : AFn Tryd.prog w0 82 #[.slice none 0 0] H fun v H2 => v = .slice none 0 0 ∧ H2 = H := by
  refine AFn.scal rfl Tryd.func82 rfl (by kernel_rfl) ?_
  have r := Tryd.results82
  simp only [go_sem, cond, Nat.reduceAdd, Nat.reduceLeDiff, Nat.reduceEqDiff, Nat.reduceBEq, decide_true, decide_false, Int.toNat_natCast, r]
  refine ⟨_, _, XF.elm_48, by simp, 0, 0, 0, rfl, rfl, rfl, by decide, by decide, by decide, by decide, ?_⟩
  simp only [go_sem, cond, Nat.reduceAdd, Nat.reduceLeDiff, Nat.reduceEqDiff, Nat.reduceBEq, decide_true, decide_false, Int.toNat_natCast, r]
  exact ⟨_, rfl⟩
set_option maxHeartbeats 4000000 in
theorem RoomDoI_ok (R : Rm) (x : Ad) (es : List En) (A : Option Addr) (c : Nat) (u : ByteArray) (s : Sy) (hT : Tabs w0) (hr : RmAt w0 H R x) (hb : Big R) (hs : Sl w0 H A 9 (es.map En.enc)) (hl : es.length ≤ 2000000) (hu : u.size ≤ 1000000000000) (hS : BigS s) : AFn Tryd.prog w0 25 #[.agg (R.enc x).toArray, .slice A es.length c, .string u, .agg s.enc.toArray] H fun v H2 => ∃ A' c' g, H2 = Hx H g ∧ v = .tuple #[.slice A' (rdo R es u s).1.length c', .int .i64 (rdo R es u s).2] ∧ Sl w0 (Hx H g) A' 9 ((rdo R es u s).1.map En.enc) := by
  have none1 : ∀ (g : List (Option Ob)) (k : Int), rdo R es u s = ([], k) → ∃ A' c' g', Hx H g = Hx H g' ∧ Value.tuple #[.slice none 0 0, .int .i64 k] = .tuple #[.slice A' (rdo R es u s).1.length c', .int .i64 (rdo R es u s).2] ∧ Sl w0 (Hx H g') A' 9 ((rdo R es u s).1.map En.enc) := fun g k h => by
    rw [h]
    exact ⟨none, 0, g, rfl, rfl, .inl rfl⟩
  refine AFn_nil ?_
  refine AFn_of Tryd.func25 rfl (by kernel_rfl) ?_
  have r := Tryd.results25
  simp only [go_sem, cond, Nat.reduceAdd, Nat.reduceLeDiff, Nat.reduceEqDiff, Nat.reduceBEq, decide_true, decide_false, Int.toNat_natCast, Rm.enc, Sy.enc, r]
  repeat' (first
    | (refine call_eq (RoomOk_ok w0 _ R x hT (hr.old _) hb) ?_; simp only [go_sem, cond, Nat.reduceAdd, Nat.reduceLeDiff, Nat.reduceEqDiff, Nat.reduceBEq, decide_true, decide_false, Int.toNat_natCast, Rm.enc, Sy.enc, r])
    | (refine call_eq (userOk_ok _ _ _ hu) ?_; simp only [go_sem, cond, Nat.reduceAdd, Nat.reduceLeDiff, Nat.reduceEqDiff, Nat.reduceBEq, decide_true, decide_false, Int.toNat_natCast, Rm.enc, Sy.enc, r])
    | (refine call_eq (SayOk_ok _ _ s hT hS) ?_; simp only [go_sem, cond, Nat.reduceAdd, Nat.reduceLeDiff, Nat.reduceEqDiff, Nat.reduceBEq, decide_true, decide_false, Int.toNat_natCast, Rm.enc, Sy.enc, r])
    | (refine call_eq (within_ok _ _ _ _ _) ?_; simp only [go_sem, cond, Nat.reduceAdd, Nat.reduceLeDiff, Nat.reduceEqDiff, Nat.reduceBEq, decide_true, decide_false, Int.toNat_natCast, Rm.enc, Sy.enc, r])
    | (refine Br_intro ?_ ?_ <;> intro h <;> simp only [go_sem, cond, Nat.reduceAdd, Nat.reduceLeDiff, Nat.reduceEqDiff, Nat.reduceBEq, decide_true, decide_false, Int.toNat_natCast, Rm.enc, Sy.enc, r, h])
    | (refine none1 _ 1 ?_; simp only [rdo, *, Bool.true_or, Bool.false_or, Bool.or_true, Bool.or_false, Bool.true_and, Bool.false_and, Bool.and_true, Bool.and_false, Bool.not_true, Bool.not_false, Bool.false_eq_true, Bool.true_eq_false, if_true, if_false]; done))
  rename_i g1 g2 g3 g4
  have hrd : rdo R es u s = doR R es u s := by simp only [rdo, *, Bool.true_or, Bool.false_or, Bool.or_true, Bool.or_false, Bool.true_and, Bool.false_and, Bool.and_true, Bool.and_false, Bool.not_true, Bool.not_false, Bool.false_eq_true, Bool.true_eq_false, if_true, if_false]
  rw [hrd]
  have hmm := roomB_mem g1
  have hnn := roomB_next g1
  have hkk : 6 ≤ s.kind ∧ s.kind ≤ 11 := by
    simp only [inB, Bool.and_eq_true, decide_eq_true_eq] at g4
    exact g4
  have hz := doR_zero R es u s
  refine call (ddo_ok w0 H _ 2 R x es A c u s rfl hr hs hl (fun m hm => (hmm m hm).1) (fun m hm => (hmm m hm).2.1) hnn hkk) ?_
  rintro v H2 ⟨rfl, g, o, rfl, ho⟩
  rw [hrd] at none1
  clear hrd
  generalize doR R es u s = q at *
  obtain ⟨q1, q2⟩ := q
  simp only at hz ho none1 ⊢
  rcases ho with ⟨rfl, rfl⟩ | ⟨k, gk, hne, rfl⟩
  · simp only [go_sem, cond, Nat.reduceAdd, Nat.reduceLeDiff, Nat.reduceEqDiff, Nat.reduceBEq, decide_true, decide_false, Int.toNat_natCast, Rm.enc, Sy.enc, r, dd, deedC, List.cons_append, List.nil_append, List.set_cons_succ, List.set_cons_zero]
    refine Br_intro ?_ ?_ <;> intro h <;> simp only [go_sem, cond, Nat.reduceAdd, Nat.reduceLeDiff, Nat.reduceEqDiff, Nat.reduceBEq, decide_true, decide_false, Int.toNat_natCast, Rm.enc, Sy.enc, r, h, dd, deedC, List.cons_append, List.nil_append, List.set_cons_succ, List.set_cons_zero]
    · obtain rfl : q2 = 0 := by simpa using h
      refine call_eq (clipE_nil _ _) ?_
      simp only [go_sem, cond, Nat.reduceAdd, Nat.reduceLeDiff, Nat.reduceEqDiff, Nat.reduceBEq, decide_true, decide_false, Int.toNat_natCast, r]
      exact none1 _ 0 rfl
    · exact none1 _ q2 rfl
  · obtain rfl : q2 = 0 := hz.resolve_left hne
    have z0 : ((0 : Int) == 0) = true := rfl
    have g3 : ∀ (a b c : Option Ob), (a :: b :: c :: g)[3 + k]? = some (some (.row 37 (flat En.enc q1))) := fun a b c => by
      rw [show 3 + k = k + 1 + 1 + 1 by omega]; exact gk
    simp only [go_sem, cond, Nat.reduceAdd, Nat.reduceLeDiff, Nat.reduceEqDiff, Nat.reduceBEq, decide_true, decide_false, Int.toNat_natCast, z0, Rm.enc, Sy.enc, r, dd, deedC, List.cons_append, List.nil_append, List.set_cons_succ, List.set_cons_zero]
    refine call_eq (clipE_ok w0 _ _ 0 _ _ _ (flat En.enc q1) (by rw [Hx_get]; exact g3 _ _ _) (flat_len elen _) (Nat.le_refl _)) ?_
    simp only [go_sem, cond, Nat.reduceAdd, Nat.reduceLeDiff, Nat.reduceEqDiff, Nat.reduceBEq, decide_true, decide_false, Int.toNat_natCast, r]
    exact ⟨_, _, _, rfl, rfl, Sl_own elen _ q1 H _ _ (g3 _ _ _)⟩
end Go.Proofs.YtmacpgoclhgafaaDoorW.FA

namespace Go.Proofs.YtmacpgoclhgafaaDoorW.FA
open Go.RowKit Go.Proofs.YtmacpgoclhgafaaDoorW.XM Go.Proofs Go.Proofs.YtmacpgoclhgafaaDoorW.XWords
set_option maxRecDepth 100000
set_option linter.unusedSimpArgs false
set_option linter.unusedVariables false
variable (w0 : World) (H : Hp)
theorem PlO.toS {H : Hp} {n : Nat} {g : List (Option Ob)} {R : Rm} {x : Ad} (h : PlO H n g R x) : PlS H n g R x := by
  rcases h with ⟨rfl, h1, h2⟩ | ⟨j, k, a, b, rfl⟩
  · exact ⟨.inl ⟨rfl, rfl, h1⟩, .inl ⟨rfl, rfl, h2⟩⟩
  · exact ⟨.inr ⟨j, a, rfl, rfl⟩, .inr ⟨k, b, rfl, rfl⟩⟩
theorem PlS.shift' {H : Hp} {n : Nat} {pre g : List (Option Ob)} {R : Rm} {x : Ad} (hl : pre.length = n) (h : PlS H n g R x) : PlS H 0 (pre ++ g) R x := by
  subst hl
  exact h.shift
theorem SyOk.bigS {s : Sy} (h : SyOk s) : BigS s := ⟨by have := h.room; omega, by have := h.nick; omega, by have := h.name; omega, by have := h.id; omega, by have := h.ref; omega, by have := h.text; omega⟩
set_option maxHeartbeats 20000000 in
theorem DrawRoomDo_ok (A : Option Addr) (c : Nat) (bs : List UInt8) (hc : CoOk w0 A c bs) : AFn Tryd.prog w0 24 #[.slice A bs.length c] H fun v H2 => ∃ R x es k u s g, H2 = Hx H g ∧ v = .tuple #[.agg (R.enc x).toArray, .slice (some ⟨nid H k, 0, some (es.length * 9)⟩) es.length es.length, .string u, .agg s.enc.toArray] ∧ PlS H 0 g R x ∧ SmR R ∧ R.ms.length ≤ 200 ∧ R.ks.length ≤ 200 ∧ (x.b = none → x.a = none ∨ 1 ≤ R.next ∨ R.ms ≠ []) ∧ g[k]? = some (some (.row 37 (flat En.enc es))) ∧ LogD es ∧ es.length ≤ 100 ∧ u.size ≤ 100 ∧ SyOk s := by
  have hb : ∀ (g : List (Option Ob)) (Y : Option Ob) (r : List (Option Ob)), (g ++ Y :: r)[g.length]? = some Y := fun g Y r => by rw [List.getElem?_append_right (Nat.le_refl _)]; simp
  have gi : ∀ (g r : List (Option Ob)) (k : Nat), (g ++ r)[g.length + k]? = r[k]? := fun g r k => by rw [List.getElem?_append_right (by omega)]; simp
  have si : ∀ (g r : List (Option Ob)) (k : Nat) (Z : Option Ob), (g ++ r).set (g.length + k) Z = g ++ r.set k Z := fun g r k Z => by rw [List.set_append_right _ _ (by omega)]; simp
  have si0 : ∀ (g r : List (Option Ob)) (Z : Option Ob), (g ++ r).set g.length Z = g ++ r.set 0 Z := fun g r Z => by rw [List.set_append_right _ _ (by omega)]; simp
  refine AFn_nil ?_
  refine AFn_of Tryd.func24 rfl (by kernel_rfl) ?_
  have r := Tryd.results24
  simp only [go_sem, cond, Nat.reduceAdd, Nat.reduceLeDiff, Nat.reduceEqDiff, Nat.reduceBEq, decide_true, decide_false, Int.toNat_natCast, r]
  refine call (l16Open_ok w0 _ A c bs hc) ?_
  rintro v H2 ⟨D, hD, rfl, rfl⟩
  simp only [go_sem, cond, Nat.reduceAdd, Nat.reduceLeDiff, Nat.reduceEqDiff, Nat.reduceBEq, decide_true, decide_false, Int.toNat_natCast, r, List.cons_append, List.nil_append]
  obtain ⟨l, hl⟩ : ∃ l : List (Option Ob), l = [some (.row 33 [.string em, .int .i64 0, .slice none 0 0, .slice none 0 0, .string em]), some (.row 50 [.int .i64 0, .string em, .string em, .string em, .string em, .string em, .string em, .int .i64 0, .int .i64 0, .int .i64 0]), dr D 0] := ⟨_, rfl⟩
  refine call (l16Log_ok w0 D H _ 2 _ hD rfl (by omega)) ?_
  rintro v H2 ⟨p1, es, kl, g, rfl, -, hp1, hes, hlen, rfl, hkl⟩
  simp only [go_sem, cond, Nat.reduceAdd, Nat.reduceLeDiff, Nat.reduceEqDiff, Nat.reduceBEq, decide_true, decide_false, Int.toNat_natCast, r, hb, gi, si, si0, List.set_cons_zero, List.set_cons_succ, List.set_set, List.append_assoc, List.length_append, List.length_set, List.length_cons, List.singleton_append, List.cons_append, List.nil_append]
  have hl3 : ∀ (a b c : Option Ob) (rest : List (Option Ob)), (a :: b :: c :: (g ++ rest))[3 + kl]? = some (some (.row 37 (flat En.enc es))) := fun a b c rest => by
    rw [show 3 + kl = kl + 1 + 1 + 1 by omega]
    show (g ++ rest)[kl]? = _
    rw [List.getElem?_append_left (lt_of_get hkl)]; exact hkl
  have hro := roomR_ok (ByteArray.mk #[100, 101, 110]) es (by decide) hes.sm
  refine call (l8Room_ok w0 _ es _ _ _ (Sl_own elen _ es H _ _ (by have := hl3; simpa only [List.append_nil] using this _ _ _ [])) (by omega) hes.sm) ?_
  rintro v H2 ⟨x, g2, rfl, rfl, hpl0, hxa⟩
  generalize roomR (ByteArray.mk #[100, 101, 110]) es = R at *
  obtain ⟨hsm, hlm, hlk⟩ := hro
  have hplF : ∀ (a b c d : Option Ob) (rest : List (Option Ob)), PlS H 0 (a :: b :: c :: (g ++ (g2 ++ d :: rest))) R x := fun a b c d rest => by
    have h1 := PlS.down' (M' := a :: b :: c :: g) (by simp) hpl0.toS
    have h2 := h1.more (d :: rest)
    simpa only [List.append_assoc, List.cons_append] using h2
  have hsh : x.b = none → x.a = none ∨ 1 ≤ R.next ∨ R.ms ≠ [] := fun _ => hxa.imp id .inl
  have hlm2 : R.ms.length ≤ 200 := by omega
  have hlk2 : R.ks.length ≤ 200 := by omega
  clear hpl0 hxa hlm hlk hkl
  simp only [go_sem, cond, Nat.reduceAdd, Nat.reduceLeDiff, Nat.reduceEqDiff, Nat.reduceBEq, decide_true, decide_false, Int.toNat_natCast, r, hb, gi, si, si0, List.set_cons_zero, List.set_cons_succ, List.set_set, List.append_assoc, List.length_append, List.length_set, List.length_cons, List.singleton_append, List.cons_append, List.nil_append, Rm.enc]
  refine call (pick_ok w0 D hD H _ 2 _ _ rfl (by omega)) ?_
  rintro v H2 ⟨kk, rfl, -, -, rfl⟩
  simp only [go_sem, cond, Nat.reduceAdd, Nat.reduceLeDiff, Nat.reduceEqDiff, Nat.reduceBEq, decide_true, decide_false, Int.toNat_natCast, r, hb, gi, si, si0, List.set_cons_zero, List.set_cons_succ, List.set_set, List.append_assoc, List.length_append, List.length_set, List.length_cons, List.singleton_append, List.cons_append, List.nil_append]
  refine Br_intro ?_ ?_ <;> intro h0 <;> simp only [go_sem, cond, Nat.reduceAdd, Nat.reduceLeDiff, Nat.reduceEqDiff, Nat.reduceBEq, decide_true, decide_false, Int.toNat_natCast, r, hb, gi, si, si0, List.set_cons_zero, List.set_cons_succ, List.set_set, List.append_assoc, List.length_append, List.length_set, List.length_cons, List.singleton_append, List.cons_append, List.nil_append, h0]
  · refine call (l16AnyRoom_ok w0 D H _ 2 _ hD rfl (by omega)) ?_
    clear hplF hsh hlm2 hlk2 hsm
    rintro v H2 ⟨p2, R, x, g3, rfl, -, hp2, rfl, hpl, hsm, hlm2, hlk2, hsh⟩
    have hplF : ∀ (a b c d : Option Ob) (rest : List (Option Ob)), PlS H 0 (a :: b :: c :: (g ++ (g2 ++ d :: (g3 ++ rest)))) R x := fun a b c d rest => by
      have h1 := PlS.shift' (pre := a :: b :: c :: (g ++ (g2 ++ [d]))) (by simp) hpl
      have h2 := h1.more rest
      simpa only [List.append_assoc, List.cons_append, List.nil_append] using h2
    clear hpl
    simp only [go_sem, cond, Nat.reduceAdd, Nat.reduceLeDiff, Nat.reduceEqDiff, Nat.reduceBEq, decide_true, decide_false, Int.toNat_natCast, r, hb, gi, si, si0, List.set_cons_zero, List.set_cons_succ, List.set_set, List.append_assoc, List.length_append, List.length_set, List.length_cons, List.singleton_append, List.cons_append, List.nil_append, Rm.enc]
    refine call (l16AnySay_ok w0 D H _ 2 _ hD rfl (by omega)) ?_
    rintro v H2 ⟨p3, rfl, -, hp3, ⟨y1, y2, y3, y4, y5, y6, y7, y8, y9, y10⟩, hy, rfl⟩
    simp only [go_sem, cond, Nat.reduceAdd, Nat.reduceLeDiff, Nat.reduceEqDiff, Nat.reduceBEq, decide_true, decide_false, Int.toNat_natCast, r, hb, gi, si, si0, List.set_cons_zero, List.set_cons_succ, List.set_set, List.append_assoc, List.length_append, List.length_set, List.length_cons, List.singleton_append, List.cons_append, List.nil_append, Rm.enc, Sy.enc]
    refine call (pick_ok w0 D hD H _ 2 _ _ rfl (by omega)) ?_
    rintro v H2 ⟨k2, rfl, -, -, rfl⟩
    simp only [go_sem, cond, Nat.reduceAdd, Nat.reduceLeDiff, Nat.reduceEqDiff, Nat.reduceBEq, decide_true, decide_false, Int.toNat_natCast, r, hb, gi, si, si0, List.set_cons_zero, List.set_cons_succ, List.set_set, List.append_assoc, List.length_append, List.length_set, List.length_cons, List.singleton_append, List.cons_append, List.nil_append]
    refine Br_intro ?_ ?_ <;> intro h9 <;> simp only [go_sem, cond, Nat.reduceAdd, Nat.reduceLeDiff, Nat.reduceEqDiff, Nat.reduceBEq, decide_true, decide_false, Int.toNat_natCast, r, hb, gi, si, si0, List.set_cons_zero, List.set_cons_succ, List.set_set, List.append_assoc, List.length_append, List.length_set, List.length_cons, List.singleton_append, List.cons_append, List.nil_append, h9]
    · refine call (l5Clean_ok' w0 _ (s := ⟨y1, ByteArray.mk #[100, 101, 110], y3, y4, y5, y6, y7, y8, y9, y10⟩) ⟨(show (ByteArray.mk #[100, 101, 110]).size ≤ 500 by decide), hy.nick, hy.name, hy.id, hy.ref, hy.text, hy.kind, hy.num, hy.frm, hy.back⟩) ?_
      rintro v H2 ⟨⟨z1, z2, z3, z4, z5, z6, z7, z8, z9, z10⟩, hz, rfl, rfl⟩
      simp only [go_sem, cond, Nat.reduceAdd, Nat.reduceLeDiff, Nat.reduceEqDiff, Nat.reduceBEq, decide_true, decide_false, Int.toNat_natCast, r, hb, gi, si, si0, List.set_cons_zero, List.set_cons_succ, List.set_set, List.append_assoc, List.length_append, List.length_set, List.length_cons, List.singleton_append, List.cons_append, List.nil_append, Sy.enc]
      (refine xw_open (id := 10) [0, 0, 0, 0, 12, 0, 29, 95, 223, 511] [.q 1, .q 2, .l 0, .l 5, .e 3, .e 4, .d 0, .e 6, .d 5, .q 7, .q 8, .e 9] rfl (by kernel_rfl) ?_; simp only [go_sem, cond, Nat.reduceAdd, Nat.reduceLeDiff, Nat.reduceEqDiff, Nat.reduceBEq, decide_true, decide_false, Int.toNat_natCast, r, hb, gi, si, si0, List.set_cons_zero, List.set_cons_succ, List.set_set, List.append_assoc, List.length_append, List.length_set, List.length_cons, List.singleton_append, List.cons_append, List.nil_append])
      refine bsV_dense ⟨_, XF.zer_9, rfl⟩ rfl rfl (by decide) rfl ?_
      simp only [go_sem, cond, Nat.reduceAdd, Nat.reduceLeDiff, Nat.reduceEqDiff, Nat.reduceBEq, decide_true, decide_false, Int.toNat_natCast, r, hb, gi, si, si0, List.set_cons_zero, List.set_cons_succ, List.set_set, List.append_assoc, List.length_append, List.length_set, List.length_cons, List.singleton_append, List.cons_append, List.nil_append]
      refine call (of_ok w0 D hD H _ 2 _ _ _ _ _ rfl (by omega) (by simp only [List.getElem?_cons_succ, gi, hb]; first | rfl | simp) rfl rfl (by decide) (by decide) (by decide)) ?_
      rintro v H2 ⟨us, hus, rfl, rfl⟩
      simp only [go_sem, cond, Nat.reduceAdd, Nat.reduceLeDiff, Nat.reduceEqDiff, Nat.reduceBEq, decide_true, decide_false, Int.toNat_natCast, r, hb, gi, si, si0, List.set_cons_zero, List.set_cons_succ, List.set_set, List.append_assoc, List.length_append, List.length_set, List.length_cons, List.singleton_append, List.cons_append, List.nil_append, Sy.enc]
      exact ⟨R, x, es, 3 + kl, us, ⟨z1, z2, z3, z4, z5, z6, z7, z8, z9, z10⟩, _, rfl, rfl, hplF _ _ _ _ _, hsm, hlm2, hlk2, hsh, hl3 _ _ _ _, hes, hlen, hus, hz⟩
    · (refine xw_open (id := 10) [0, 0, 0, 0, 12, 0, 29, 95, 223, 511] [.q 1, .q 2, .l 0, .l 5, .e 3, .e 4, .d 0, .e 6, .d 5, .q 7, .q 8, .e 9] rfl (by kernel_rfl) ?_; simp only [go_sem, cond, Nat.reduceAdd, Nat.reduceLeDiff, Nat.reduceEqDiff, Nat.reduceBEq, decide_true, decide_false, Int.toNat_natCast, r, hb, gi, si, si0, List.set_cons_zero, List.set_cons_succ, List.set_set, List.append_assoc, List.length_append, List.length_set, List.length_cons, List.singleton_append, List.cons_append, List.nil_append])
      refine bsV_dense ⟨_, XF.zer_9, rfl⟩ rfl rfl (by decide) rfl ?_
      simp only [go_sem, cond, Nat.reduceAdd, Nat.reduceLeDiff, Nat.reduceEqDiff, Nat.reduceBEq, decide_true, decide_false, Int.toNat_natCast, r, hb, gi, si, si0, List.set_cons_zero, List.set_cons_succ, List.set_set, List.append_assoc, List.length_append, List.length_set, List.length_cons, List.singleton_append, List.cons_append, List.nil_append]
      refine call (of_ok w0 D hD H _ 2 _ _ _ _ _ rfl (by omega) (by simp only [List.getElem?_cons_succ, gi, hb]; first | rfl | simp) rfl rfl (by decide) (by decide) (by decide)) ?_
      rintro v H2 ⟨us, hus, rfl, rfl⟩
      simp only [go_sem, cond, Nat.reduceAdd, Nat.reduceLeDiff, Nat.reduceEqDiff, Nat.reduceBEq, decide_true, decide_false, Int.toNat_natCast, r, hb, gi, si, si0, List.set_cons_zero, List.set_cons_succ, List.set_set, List.append_assoc, List.length_append, List.length_set, List.length_cons, List.singleton_append, List.cons_append, List.nil_append, Sy.enc]
      exact ⟨R, x, es, 3 + kl, us, ⟨y1, y2, y3, y4, y5, y6, y7, y8, y9, y10⟩, _, rfl, rfl, hplF _ _ _ _ _, hsm, hlm2, hlk2, hsh, hl3 _ _ _ _, hes, hlen, hus, hy⟩
  · refine call (l16AnySay_ok w0 D H _ 2 _ hD rfl (by omega)) ?_
    rintro v H2 ⟨p3, rfl, -, hp3, ⟨y1, y2, y3, y4, y5, y6, y7, y8, y9, y10⟩, hy, rfl⟩
    simp only [go_sem, cond, Nat.reduceAdd, Nat.reduceLeDiff, Nat.reduceEqDiff, Nat.reduceBEq, decide_true, decide_false, Int.toNat_natCast, r, hb, gi, si, si0, List.set_cons_zero, List.set_cons_succ, List.set_set, List.append_assoc, List.length_append, List.length_set, List.length_cons, List.singleton_append, List.cons_append, List.nil_append, Rm.enc, Sy.enc]
    refine call (pick_ok w0 D hD H _ 2 _ _ rfl (by omega)) ?_
    rintro v H2 ⟨k2, rfl, -, -, rfl⟩
    simp only [go_sem, cond, Nat.reduceAdd, Nat.reduceLeDiff, Nat.reduceEqDiff, Nat.reduceBEq, decide_true, decide_false, Int.toNat_natCast, r, hb, gi, si, si0, List.set_cons_zero, List.set_cons_succ, List.set_set, List.append_assoc, List.length_append, List.length_set, List.length_cons, List.singleton_append, List.cons_append, List.nil_append]
    refine Br_intro ?_ ?_ <;> intro h9 <;> simp only [go_sem, cond, Nat.reduceAdd, Nat.reduceLeDiff, Nat.reduceEqDiff, Nat.reduceBEq, decide_true, decide_false, Int.toNat_natCast, r, hb, gi, si, si0, List.set_cons_zero, List.set_cons_succ, List.set_set, List.append_assoc, List.length_append, List.length_set, List.length_cons, List.singleton_append, List.cons_append, List.nil_append, h9]
    · refine call (l5Clean_ok' w0 _ (s := ⟨y1, ByteArray.mk #[100, 101, 110], y3, y4, y5, y6, y7, y8, y9, y10⟩) ⟨(show (ByteArray.mk #[100, 101, 110]).size ≤ 500 by decide), hy.nick, hy.name, hy.id, hy.ref, hy.text, hy.kind, hy.num, hy.frm, hy.back⟩) ?_
      rintro v H2 ⟨⟨z1, z2, z3, z4, z5, z6, z7, z8, z9, z10⟩, hz, rfl, rfl⟩
      simp only [go_sem, cond, Nat.reduceAdd, Nat.reduceLeDiff, Nat.reduceEqDiff, Nat.reduceBEq, decide_true, decide_false, Int.toNat_natCast, r, hb, gi, si, si0, List.set_cons_zero, List.set_cons_succ, List.set_set, List.append_assoc, List.length_append, List.length_set, List.length_cons, List.singleton_append, List.cons_append, List.nil_append, Sy.enc]
      (refine xw_open (id := 10) [0, 0, 0, 0, 12, 0, 29, 95, 223, 511] [.q 1, .q 2, .l 0, .l 5, .e 3, .e 4, .d 0, .e 6, .d 5, .q 7, .q 8, .e 9] rfl (by kernel_rfl) ?_; simp only [go_sem, cond, Nat.reduceAdd, Nat.reduceLeDiff, Nat.reduceEqDiff, Nat.reduceBEq, decide_true, decide_false, Int.toNat_natCast, r, hb, gi, si, si0, List.set_cons_zero, List.set_cons_succ, List.set_set, List.append_assoc, List.length_append, List.length_set, List.length_cons, List.singleton_append, List.cons_append, List.nil_append])
      refine bsV_dense ⟨_, XF.zer_9, rfl⟩ rfl rfl (by decide) rfl ?_
      simp only [go_sem, cond, Nat.reduceAdd, Nat.reduceLeDiff, Nat.reduceEqDiff, Nat.reduceBEq, decide_true, decide_false, Int.toNat_natCast, r, hb, gi, si, si0, List.set_cons_zero, List.set_cons_succ, List.set_set, List.append_assoc, List.length_append, List.length_set, List.length_cons, List.singleton_append, List.cons_append, List.nil_append]
      refine call (of_ok w0 D hD H _ 2 _ _ _ _ _ rfl (by omega) (by simp only [List.getElem?_cons_succ, gi, hb]; first | rfl | simp) rfl rfl (by decide) (by decide) (by decide)) ?_
      rintro v H2 ⟨us, hus, rfl, rfl⟩
      simp only [go_sem, cond, Nat.reduceAdd, Nat.reduceLeDiff, Nat.reduceEqDiff, Nat.reduceBEq, decide_true, decide_false, Int.toNat_natCast, r, hb, gi, si, si0, List.set_cons_zero, List.set_cons_succ, List.set_set, List.append_assoc, List.length_append, List.length_set, List.length_cons, List.singleton_append, List.cons_append, List.nil_append, Sy.enc]
      exact ⟨R, x, es, 3 + kl, us, ⟨z1, z2, z3, z4, z5, z6, z7, z8, z9, z10⟩, _, rfl, rfl, hplF _ _ _ _ _, hsm, hlm2, hlk2, hsh, hl3 _ _ _ _, hes, hlen, hus, hz⟩
    · (refine xw_open (id := 10) [0, 0, 0, 0, 12, 0, 29, 95, 223, 511] [.q 1, .q 2, .l 0, .l 5, .e 3, .e 4, .d 0, .e 6, .d 5, .q 7, .q 8, .e 9] rfl (by kernel_rfl) ?_; simp only [go_sem, cond, Nat.reduceAdd, Nat.reduceLeDiff, Nat.reduceEqDiff, Nat.reduceBEq, decide_true, decide_false, Int.toNat_natCast, r, hb, gi, si, si0, List.set_cons_zero, List.set_cons_succ, List.set_set, List.append_assoc, List.length_append, List.length_set, List.length_cons, List.singleton_append, List.cons_append, List.nil_append])
      refine bsV_dense ⟨_, XF.zer_9, rfl⟩ rfl rfl (by decide) rfl ?_
      simp only [go_sem, cond, Nat.reduceAdd, Nat.reduceLeDiff, Nat.reduceEqDiff, Nat.reduceBEq, decide_true, decide_false, Int.toNat_natCast, r, hb, gi, si, si0, List.set_cons_zero, List.set_cons_succ, List.set_set, List.append_assoc, List.length_append, List.length_set, List.length_cons, List.singleton_append, List.cons_append, List.nil_append]
      refine call (of_ok w0 D hD H _ 2 _ _ _ _ _ rfl (by omega) (by simp only [List.getElem?_cons_succ, gi, hb]; first | rfl | simp) rfl rfl (by decide) (by decide) (by decide)) ?_
      rintro v H2 ⟨us, hus, rfl, rfl⟩
      simp only [go_sem, cond, Nat.reduceAdd, Nat.reduceLeDiff, Nat.reduceEqDiff, Nat.reduceBEq, decide_true, decide_false, Int.toNat_natCast, r, hb, gi, si, si0, List.set_cons_zero, List.set_cons_succ, List.set_set, List.append_assoc, List.length_append, List.length_set, List.length_cons, List.singleton_append, List.cons_append, List.nil_append, Sy.enc]
      exact ⟨R, x, es, 3 + kl, us, ⟨y1, y2, y3, y4, y5, y6, y7, y8, y9, y10⟩, _, rfl, rfl, hplF _ _ _ _ _, hsm, hlm2, hlk2, hsh, hl3 _ _ _ _, hes, hlen, hus, hy⟩
end Go.Proofs.YtmacpgoclhgafaaDoorW.FA

namespace Go.Proofs.YtmacpgoclhgafaaDoorW.FA
open Go.RowKit Go.Proofs.YtmacpgoclhgafaaDoorW.XM Go.Proofs Go.Proofs.YtmacpgoclhgafaaDoorW.XWords
set_option maxRecDepth 100000
set_option linter.unusedSimpArgs false
set_option linter.unusedVariables false
variable (w0 : World) (H : Hp)
theorem hbMember_ok (R : Rm) (x : Ad) (u : ByteArray) (hr : RmAt w0 H R x) : AFn Tryd.prog w0 27 #[.agg (R.enc x).toArray, .string u] H fun v H2 => v = .int .i64 (idxP (isU u) R.ms 0) ∧ H2 = H := by
  have hl := hr.lm
  refine AFn.scal rfl Tryd.func27 rfl (by kernel_rfl) ?_
  have r := Tryd.results27
  simp only [go_sem, cond, Nat.reduceAdd, Nat.reduceLeDiff, Nat.reduceEqDiff, Nat.reduceBEq, decide_true, decide_false, Int.toNat_natCast, r]
  simp only [go_sem, cond, Nat.reduceAdd, Nat.reduceLeDiff, Nat.reduceEqDiff, Nat.reduceBEq, decide_true, decide_false, Int.toNat_natCast, Rm.enc]
  refine xw_loop (fun (i : Nat) T H' => i ≤ R.ms.length ∧ idxP (isU u) (R.ms.drop i) i = idxP (isU u) R.ms 0 ∧ T 1 = .string u ∧ T 2 = .pointer (some ⟨nid H 0, 0, some 5⟩) ∧ T 5 = .int .i64 i ∧ H' = Hx H [some (.row 33 (R.enc x))]) (fun i => R.ms.length - i) 0 (by kernel_rfl) ⟨Nat.zero_le _, rfl, rfl, rfl, rfl, rfl⟩ ?_
  rintro i T H' ⟨hi, he, t1, t2, t5, rfl⟩
  by_cases hlt : i < R.ms.length
  · obtain ⟨b, o, sp, hx, hc, _⟩ := mcell hr.sm hlt
    have c0 := hc 0 (.string R.ms[i].user) [some (.row 33 (R.enc x))] (by decide) rfl
    have d1 : ((i : Int) < (R.ms.length : Int)) = True := eq_true (by omega)
    have d2 : (0 ≤ (i : Int)) = True := eq_true (by omega)
    rw [idxP_drop _ _ i hlt] at he
    simp only [Rm.enc, hx] at c0
    simp only [go_sem, cond, Nat.reduceAdd, Nat.reduceLeDiff, Nat.reduceEqDiff, Nat.reduceBEq, decide_true, decide_false, Int.toNat_natCast, Rm.enc, hx, t1, t2, t5, d1, d2, c0]
    refine Br_intro ?_ ?_ <;> intro h <;> simp only [go_sem, cond, Nat.reduceAdd, Nat.reduceLeDiff, Nat.reduceEqDiff, Nat.reduceBEq, decide_true, decide_false, Int.toNat_natCast, t1, t2, t5, h, r]
    · rw [if_pos (show isU u R.ms[i] = true from h)] at he
      exact ⟨by rw [he], _, rfl⟩
    · rw [if_neg (by rw [isU, h]; decide)] at he
      exact ⟨i + 1, ⟨hlt, he, t1, t2, int_succ hlt (by omega), by simp only [Rm.enc, hx]⟩, lt_meas hlt⟩
  · obtain rfl : i = R.ms.length := by omega
    have d1 : ((R.ms.length : Int) < (R.ms.length : Int)) = False := eq_false (by omega)
    rw [List.drop_length] at he
    simp only [go_sem, cond, Nat.reduceAdd, Nat.reduceLeDiff, Nat.reduceEqDiff, Nat.reduceBEq, decide_true, decide_false, Int.toNat_natCast, Rm.enc, t1, t2, t5, d1, r]
    exact ⟨by rw [← he]; rfl, _, rfl⟩
theorem hbLog_ok (es : List En) (A A' : Option Addr) (c c' : Nat) (hs : Sl w0 H A 9 (es.map En.enc)) (hs' : Sl w0 H A' 9 (es.map En.enc)) (hl : es.length ≤ 2000000) : AFn Tryd.prog w0 28 #[.slice A es.length c, .slice A' es.length c'] H fun v H2 => v = .bool true ∧ H2 = H := by
  refine AFn.scal rfl Tryd.func28 rfl (by kernel_rfl) ?_
  have r := Tryd.results28
  simp only [go_sem, cond, Nat.reduceAdd, Nat.reduceLeDiff, Nat.reduceEqDiff, Nat.reduceBEq, decide_true, decide_false, Int.toNat_natCast, r]
  simp only [go_sem, cond, Nat.reduceAdd, Nat.reduceLeDiff, Nat.reduceEqDiff, Nat.reduceBEq, decide_true, decide_false, Int.toNat_natCast, beq_self_eq_true, r]
  refine xw_loop (fun (i : Nat) T H' => i ≤ es.length ∧ T 0 = .slice A es.length c ∧ T 1 = .slice A' es.length c' ∧ T 5 = .int .i64 i ∧ H' = Hx H []) (fun i => es.length - i) 0 (by kernel_rfl) ⟨Nat.zero_le _, rfl, rfl, rfl, rfl⟩ ?_
  rintro i T H' ⟨hi, t0, t1, t3, rfl⟩
  by_cases hlt : i < es.length
  · obtain ⟨b, o, sp, rfl, -, hw⟩ := mcell hs hlt
    obtain ⟨b2, o2, sp2, rfl, -, hw2⟩ := mcell hs' hlt
    have c0 := fun L => hw L rfl
    have c1 := fun L => hw2 L rfl
    simp only [En.enc] at c0 c1
    have d1 : ((i : Int) < (es.length : Int)) = True := eq_true (by omega)
    have d2 : (0 ≤ (i : Int)) = True := eq_true (by omega)
    simp only [go_sem, cond, Nat.reduceAdd, Nat.reduceLeDiff, Nat.reduceEqDiff, Nat.reduceBEq, decide_true, decide_false, Int.toNat_natCast, t0, t1, t3, d1, d2, c0, c1, beq_self_eq_true, r]
    (refine xw_open (id := 6) [0, 0, 3, 7, 0, 0, 48, 112, 255] [.q 0, .q 1, .q 2, .q 4, .q 5, .q 6, .q 3, .q 7, .q 8] rfl (by kernel_rfl) ?_; simp only [go_sem, cond, Nat.reduceAdd, Nat.reduceLeDiff, Nat.reduceEqDiff, Nat.reduceBEq, decide_true, decide_false, Int.toNat_natCast, t0, t1, t3, d1, d2, c0, c1, beq_self_eq_true, r])
    simp only [Bool.and_true]
    simp only [go_sem, cond, Nat.reduceAdd, Nat.reduceLeDiff, Nat.reduceEqDiff, Nat.reduceBEq, decide_true, decide_false, Int.toNat_natCast, t0, t1, t3, d1, d2, r]
    exact ⟨i + 1, ⟨hlt, t0, t1, int_succ hlt (by omega), rfl⟩, lt_meas hlt⟩
  · obtain rfl : i = es.length := by omega
    have d1 : ((es.length : Int) < (es.length : Int)) = False := eq_false (by omega)
    simp only [go_sem, cond, Nat.reduceAdd, Nat.reduceLeDiff, Nat.reduceEqDiff, Nat.reduceBEq, decide_true, decide_false, Int.toNat_natCast, t0, t1, t3, d1, r]
    exact ⟨_, rfl⟩
end Go.Proofs.YtmacpgoclhgafaaDoorW.FA

namespace Go.Proofs.YtmacpgoclhgafaaDoorW.FA
open Go.RowKit Go.Proofs.YtmacpgoclhgafaaDoorW.XM Go.Proofs Go.Proofs.YtmacpgoclhgafaaDoorW.XWords
set_option maxRecDepth 100000
set_option linter.unusedSimpArgs false
set_option linter.unusedVariables false
variable (w0 : World) (H : Hp)
/-- The last rank of a user. -/
def lastR (u : ByteArray) (l : List Rk) (d : Int) : Int := l.foldl (fun d x => if (x.user.toList == u.toList) = true then x.num else d) d
theorem lastR_drop (u : ByteArray) (l : List Rk) (i : Nat) (hi : i < l.length) (d : Int) : lastR u (l.drop i) d = lastR u (l.drop (i + 1)) (if (l[i].user.toList == u.toList) = true then l[i].num else d) := by
  rw [List.drop_eq_getElem_cons hi]; rfl
theorem lastR_no (u : ByteArray) : ∀ (l : List Rk) (d : Int), (∀ x ∈ l, ¬ x.user.toList = u.toList) → lastR u l d = d
  | [], d, _ => rfl
  | x :: t, d, h => by
    have e : (x.user.toList == u.toList) = false := beq_eq_false_iff_ne.2 (h x (by simp))
    show lastR u t (if (x.user.toList == u.toList) = true then x.num else d) = d
    rw [e]
    exact lastR_no u t d fun y hy => h y (by simp [hy])
theorem lastR_rank (u : ByteArray) : ∀ (l : List Rk), Asc l → ∀ d, lastR u l d = if (l.any fun x => x.user.toList == u.toList) = true then rankB l u else d
  | [], _, d => rfl
  | x :: t, ha, d => by
    show lastR u t (if (x.user.toList == u.toList) = true then x.num else d) = _
    by_cases h : (x.user.toList == u.toList) = true
    · have hx := eq_of_beq h
      rw [if_pos h, lastR_no u t x.num (fun y hy e => by
        have := ha.1 y hy
        rw [hx, ← e, less_irrefl] at this
        cases this)]
      simp [rankB, h]
    · have h2 : (x.user.toList == u.toList) = false := by simpa using h
      rw [if_neg h, lastR_rank u t ha.2 d]
      simp [rankB, h2]
theorem rankB_any (u : ByteArray) : ∀ (l : List Rk), (if (l.any fun x => x.user.toList == u.toList) = true then rankB l u else 1) = rankB l u
  | [] => rfl
  | x :: t => by
    by_cases h : (x.user.toList == u.toList) = true
    · simp [rankB, h]
    · have h2 : (x.user.toList == u.toList) = false := by simpa using h
      have := rankB_any u t
      simp only [rankB, List.any_cons, h2, Bool.false_or, Bool.false_eq_true, if_false]
      exact this
theorem rankB_le {R : Rm} (h : roomB R = true) (u : ByteArray) : rankB R.ks u ≤ 4 := by
  simp only [roomB, Bool.and_eq_true] at h
  have hk := h.2.2.2.2.1.1
  have hall : ∀ k ∈ R.ks, k.num ≤ 4 := fun k hk2 => by
    obtain ⟨i, hi, rfl⟩ := List.mem_iff_getElem.1 hk2
    have := allI_get _ _ 0 hk i hi
    simp only [rkB, inB, Bool.and_eq_true, decide_eq_true_eq] at this
    exact this.2.2.1.2
  generalize R.ks = l at hall
  induction l with
  | nil => show (1 : Int) ≤ 4; decide
  | cons x t ih =>
    rw [rankB]
    split
    · exact hall x (by simp)
    · exact ih fun k hk => hall k (by simp [hk])
theorem rdo_zero {R : Rm} {es : List En} {u : ByteArray} {s : Sy} (h : (rdo R es u s).2 = 0) : roomB R = true ∧ userB u = true ∧ sayB s = true ∧ inB s.kind 6 11 = true ∧ (s.room.toList == R.name.toList) = true ∧ rdo R es u s = doR R es u s := by
  unfold rdo at h ⊢
  repeat' split at h
  all_goals first
    | (cases h; done)
    | (simp only [Bool.not_eq_false] at *
       simp only [*, Bool.true_eq_false, if_false, and_self])
theorem may_ok {R : Rm} {es : List En} {u : ByteArray} {s : Sy} {m : Mem} (hf : R.ms.find? (isU u) = some m) (h0 : (rdo R es u s).2 = 0) :
    ((s.kind == 9) = true → (m.role == 3) = true) ∧ ((s.kind == 10) = true → (m.role == 3) = true) ∧ ((s.kind == 11) = true → 3 ≤ rankB R.ks u ∧ (s.num < 3 ∨ rankB R.ks u = 4)) ∧ ((s.kind == 8) = true → 2 ≤ m.role) := by
  obtain ⟨h1, _, _, _, _, h2⟩ := rdo_zero h0
  have hle := rankB_le h1 u
  rw [h2] at h0
  have hd : ¬ (s.kind == 6) = true → (insR R es u s).2 = 0 := fun hk => by
    unfold doR at h0
    rw [if_neg hk] at h0
    split at h0
    · cases h0
    split at h0
    · cases h0
    · exact h0
  refine ⟨fun hk => ?_, fun hk => ?_, fun hk => ?_, fun hk => ?_⟩
  all_goals
    have hk := eq_of_beq hk
    have hi := hd (by rw [hk]; decide)
    simp only [insR, hk, hf, Int.reduceBEq, Bool.false_eq_true, if_false, if_true] at hi
  · cases hm : (m.role == 3) with
    | true => rfl
    | false => rw [hm, if_pos rfl] at hi; cases hi
  · simp only [roleR, hf] at hi
    cases hm : (m.role == 3) with
    | true => rfl
    | false => rw [hm, if_pos rfl] at hi; cases hi
  · unfold setR at hi
    split at hi
    · cases hi
    · rename_i hno
      simp only [Bool.or_eq_true, Bool.and_eq_true, decide_eq_true_eq, beq_iff_eq, not_or, not_and] at hno
      omega
  · split at hi
    · cases hi
    · omega
theorem esV_form (H : Hp) (es : List En) : ∃ A, esV H es = .slice A es.length es.length ∧ Sl w0 (Hx H (esO es)) A 9 (es.map En.enc) := by
  cases es with
  | nil => exact ⟨none, rfl, .inl rfl⟩
  | cons e t => exact ⟨_, rfl, Sl_own elen _ (e :: t) H [_] 0 rfl⟩
theorem joinR_len (R : Rm) (u n : ByteArray) : (joinR R u n).1.length ≤ 3 := by
  unfold joinR
  repeat' split
  all_goals first | exact Nat.zero_le _ | (simp; done)
theorem roleR_len (R : Rm) (u : ByteArray) (s : Sy) : (roleR R u s).1.length ≤ 3 := by
  unfold roleR
  repeat' split
  all_goals first | exact Nat.zero_le _ | (simp; done)
theorem setL_len (R : Rm) (s : Sy) : (setL R s).length ≤ 3 := by
  unfold setL
  repeat' split
  all_goals (simp; done)
theorem setR_len (R : Rm) (u : ByteArray) (s : Sy) : (setR R u s).1.length ≤ 3 := by
  unfold setR
  repeat' split
  all_goals first | exact Nat.zero_le _ | exact setL_len _ _
theorem insR_len (R : Rm) (es : List En) (u : ByteArray) (s : Sy) : (insR R es u s).1.length ≤ 3 := by
  unfold insR
  split
  · simp
  split
  · repeat' split
    all_goals first | exact Nat.zero_le _ | (simp; done)
  split
  · repeat' split
    all_goals first | exact Nat.zero_le _ | (simp; done)
  split
  · exact roleR_len _ _ _
  · exact setR_len _ _ _
theorem doR_len (R : Rm) (es : List En) (u : ByteArray) (s : Sy) : (doR R es u s).1.length ≤ 3 := by
  unfold doR
  split
  · exact Nat.zero_le _
  split
  · exact joinR_len _ _ _
  split
  · exact Nat.zero_le _
  · exact insR_len _ _ _ _
theorem rdo_len (R : Rm) (es : List En) (u : ByteArray) (s : Sy) : (rdo R es u s).1.length ≤ 3 := by
  unfold rdo
  repeat' split
  all_goals first | exact Nat.zero_le _ | exact doR_len _ _ _ _
theorem RoomDoS_any (R : Rm) (x : Ad) (es : List En) (A : Option Addr) (c : Nat) (u : ByteArray) (s : Sy) (hr : RmAt w0 H R x) (hb : Big R) (hs : Sl w0 H A 9 (es.map En.enc)) (hl : es.length ≤ 2000000) (hu : u.size ≤ 1000000000000) (hS : BigS s) : AFn Tryd.prog w0 26 #[.agg (R.enc x).toArray, .slice A es.length c, .string u, .agg s.enc.toArray] H fun v H2 => ∃ A' c' g, H2 = Hx H g ∧ v = .tuple #[.slice A' (rdo R es u s).1.length c', .int .i64 (rdo R es u s).2] ∧ Sl w0 (Hx H g) A' 9 ((rdo R es u s).1.map En.enc) := by
  refine (RoomDoS_ok w0 H R x es A c u s hr hb hs hl hu hS).mono ?_
  rintro v H2 ⟨rfl, rfl⟩
  obtain ⟨A2, e2, h2⟩ := esV_form w0 H (rdo R es u s).1
  exact ⟨A2, _, _, rfl, by rw [deedV, e2], h2⟩
set_option maxHeartbeats 20000000 in
theorem law_RoomMay (A : Option Addr) (c : Nat) (bs : List UInt8) (hT : Tabs w0) (hc : CoOk w0 A c bs) : AFn Tryd.prog w0 5 #[.slice A bs.length c] H fun v H2 => v = .bool true ∧ H2 = H := by
  have hb : ∀ (g : List (Option Ob)) (Y : Option Ob) (r : List (Option Ob)), (g ++ Y :: r)[g.length]? = some Y := fun g Y r => by rw [List.getElem?_append_right (Nat.le_refl _)]; simp
  have gi : ∀ (g r : List (Option Ob)) (k : Nat), (g ++ r)[g.length + k]? = r[k]? := fun g r k => by rw [List.getElem?_append_right (by omega)]; simp
  have si : ∀ (g r : List (Option Ob)) (k : Nat) (Z : Option Ob), (g ++ r).set (g.length + k) Z = g ++ r.set k Z := fun g r k Z => by rw [List.set_append_right _ _ (by omega)]; simp
  have si0 : ∀ (g r : List (Option Ob)) (Z : Option Ob), (g ++ r).set g.length Z = g ++ r.set 0 Z := fun g r Z => by rw [List.set_append_right _ _ (by omega)]; simp
  refine AFn.scal rfl Tryd.func5 rfl (by kernel_rfl) ?_
  have r := Tryd.results5
  simp only [go_sem, cond, Nat.reduceAdd, Nat.reduceLeDiff, Nat.reduceEqDiff, Nat.reduceBEq, decide_true, decide_false, Int.toNat_natCast, r]
  refine Br_intro ?_ ?_ <;> intro h0 <;> simp only [go_sem, cond, Nat.reduceAdd, Nat.reduceLeDiff, Nat.reduceEqDiff, Nat.reduceBEq, decide_true, decide_false, Int.toNat_natCast, r, hb, gi, si, si0, beq_self_eq_true, Bool.not_true, Bool.not_false, List.set_cons_zero, List.set_cons_succ, List.append_assoc, List.length_append, List.length_cons, List.singleton_append, List.cons_append, List.nil_append, h0]
  · exact ⟨_, rfl⟩
  refine call (DrawRoomDo_ok w0 _ A c bs hc) ?_
  rintro v H2 ⟨R, x, es, kl, u, s, g, rfl, rfl, hpl, hsm, hlm, hlk, -, hkl, hes, hlen, hu, hy⟩
  rw [Hx_nil] at hpl
  have hbg := hsm.big
  have hbs := hy.bigS
  have hR0 := (PlS.at (w0 := w0) (pre := []) hpl rfl (by omega) (by omega))
  rw [List.nil_append] at hR0
  have hRm : ∀ rest, RmAt w0 (Hx H (g ++ rest)) R x := fun rest => by have := hR0.1.old rest; rwa [Hx_Hx] at this
  have hEs : ∀ rest, Sl w0 (Hx H (g ++ rest)) (some ⟨nid H kl, 0, some (es.length * 9)⟩) 9 (es.map En.enc) := fun rest => Sl_own elen _ es H _ _ (by rw [List.getElem?_append_left (lt_of_get hkl)]; exact hkl)
  have hn0 : ∀ k, nid (Hx H []) k = nid H k := fun k => by rw [Hx_nil]
  simp only [go_sem, cond, Nat.reduceAdd, Nat.reduceLeDiff, Nat.reduceEqDiff, Nat.reduceBEq, decide_true, decide_false, Int.toNat_natCast, r, hb, gi, si, si0, beq_self_eq_true, Bool.not_true, Bool.not_false, List.set_cons_zero, List.set_cons_succ, List.append_assoc, List.length_append, List.length_cons, List.singleton_append, List.cons_append, List.nil_append, hn0, Rm.enc, Sy.enc]
  refine call (RoomDoI_ok w0 _ R x es _ _ u s hT (hRm _) hbg (hEs _) (by omega) (by omega) hbs) ?_
  rintro v H2 ⟨A1, c1, g1, rfl, rfl, hs1⟩
  simp only [go_sem, cond, Nat.reduceAdd, Nat.reduceLeDiff, Nat.reduceEqDiff, Nat.reduceBEq, decide_true, decide_false, Int.toNat_natCast, r, hb, gi, si, si0, beq_self_eq_true, Bool.not_true, Bool.not_false, List.set_cons_zero, List.set_cons_succ, List.append_assoc, List.length_append, List.length_cons, List.singleton_append, List.cons_append, List.nil_append, Rm.enc, Sy.enc]
  have hS1 : ∀ rest, Sl w0 (Hx H (g ++ some (.row 33 [.string R.name, .int .i64 R.next, .slice x.a R.ms.length x.c, .slice x.b R.ks.length x.d, .string R.subj]) :: some (.row 50 [.int .i64 s.kind, .string s.room, .string s.nick, .string s.name, .string s.id, .string s.ref, .string s.text, .int .i64 s.num, .int .i64 s.frm, .int .i64 s.back]) :: (g1 ++ rest))) A1 9 ((rdo R es u s).1.map En.enc) := fun rest => by
    have := hs1.old rest
    simpa only [Hx_Hx, List.append_assoc, List.cons_append, List.nil_append] using this
  refine call (RoomDoS_any w0 _ R x es _ _ u s (hRm _) hbg (hEs _) (by omega) (by omega) hbs) ?_
  rintro v H2 ⟨A2, c2, g2, rfl, rfl, hs2⟩
  have hS2 : ∀ rest, Sl w0 (Hx H (g ++ some (.row 33 [.string R.name, .int .i64 R.next, .slice x.a R.ms.length x.c, .slice x.b R.ks.length x.d, .string R.subj]) :: some (.row 50 [.int .i64 s.kind, .string s.room, .string s.nick, .string s.name, .string s.id, .string s.ref, .string s.text, .int .i64 s.num, .int .i64 s.frm, .int .i64 s.back]) :: (g1 ++ (g2 ++ rest)))) A2 9 ((rdo R es u s).1.map En.enc) := fun rest => by
    have := hs2.old rest
    simpa only [Hx_Hx, List.append_assoc, List.cons_append, List.nil_append] using this
  have hlen2 := rdo_len R es u s
  have hmay := fun m hf => may_ok (R := R) (es := es) (u := u) (s := s) (m := m) hf
  have hok := fun h => (rdo_zero (R := R) (es := es) (u := u) (s := s) h).1
  clear hs1 hs2
  generalize rdo R es u s = q at *
  obtain ⟨q1, q2⟩ := q
  simp only at hS1 hS2 hlen2 hmay hok ⊢
  simp only [go_sem, cond, Nat.reduceAdd, Nat.reduceLeDiff, Nat.reduceEqDiff, Nat.reduceBEq, decide_true, decide_false, Int.toNat_natCast, r, hb, gi, si, si0, beq_self_eq_true, Bool.not_true, Bool.not_false, List.set_cons_zero, List.set_cons_succ, List.append_assoc, List.length_append, List.length_cons, List.singleton_append, List.cons_append, List.nil_append, Rm.enc, Sy.enc]
  refine call_eq (hbMember_ok w0 _ R x u (hRm _)) ?_
  simp only [go_sem, cond, Nat.reduceAdd, Nat.reduceLeDiff, Nat.reduceEqDiff, Nat.reduceBEq, decide_true, decide_false, Int.toNat_natCast, r, hb, gi, si, si0, beq_self_eq_true, Bool.not_true, Bool.not_false, List.set_cons_zero, List.set_cons_succ, List.append_assoc, List.length_append, List.length_cons, List.singleton_append, List.cons_append, List.nil_append, Rm.enc, Sy.enc]
  refine call_eq (hbLog_ok w0 _ q1 A1 A2 c1 c2 (hS1 _) (by have := hS2 []; simpa only [List.append_nil] using this) (by omega)) ?_
  simp only [go_sem, cond, Nat.reduceAdd, Nat.reduceLeDiff, Nat.reduceEqDiff, Nat.reduceBEq, decide_true, decide_false, Int.toNat_natCast, r, hb, gi, si, si0, beq_self_eq_true, Bool.not_true, Bool.not_false, List.set_cons_zero, List.set_cons_succ, List.append_assoc, List.length_append, List.length_cons, List.singleton_append, List.cons_append, List.nil_append, Rm.enc, Sy.enc]
  refine Br_intro ?_ ?_ <;> intro h1 <;> simp only [go_sem, cond, Nat.reduceAdd, Nat.reduceLeDiff, Nat.reduceEqDiff, Nat.reduceBEq, decide_true, decide_false, Int.toNat_natCast, r, hb, gi, si, si0, beq_self_eq_true, Bool.not_true, Bool.not_false, List.set_cons_zero, List.set_cons_succ, List.append_assoc, List.length_append, List.length_cons, List.singleton_append, List.cons_append, List.nil_append, Rm.enc, Sy.enc, h1]
  case refine_2 => 
    refine call_eq (hbLog_ok w0 _ q1 A1 A2 c1 c2 (hS1 _) (by have := hS2 []; simpa only [List.append_nil] using this) (by omega)) ?_
    simp only [go_sem, cond, Nat.reduceAdd, Nat.reduceLeDiff, Nat.reduceEqDiff, Nat.reduceBEq, decide_true, decide_false, Int.toNat_natCast, r, hb, gi, si, si0, beq_self_eq_true, Bool.not_true, Bool.not_false, List.set_cons_zero, List.set_cons_succ, List.append_assoc, List.length_append, List.length_cons, List.singleton_append, List.cons_append, List.nil_append, Rm.enc, Sy.enc]
    exact ⟨_, rfl⟩
  obtain rfl : q2 = 0 := eq_of_beq h1
  have hroom := hok rfl
  rcases idxP_find (isU u) R.ms 0 with ⟨f1, f2⟩ | ⟨a, ha, f1, f2⟩
  · have d3 : decide ((-1 : Int) < 0) = true := rfl
    rw [f1]
    simp only [go_sem, cond, Nat.reduceAdd, Nat.reduceLeDiff, Nat.reduceEqDiff, Nat.reduceBEq, decide_true, decide_false, Int.toNat_natCast, r, hb, gi, si, si0, beq_self_eq_true, Bool.not_true, Bool.not_false, List.set_cons_zero, List.set_cons_succ, List.append_assoc, List.length_append, List.length_cons, List.singleton_append, List.cons_append, List.nil_append, Rm.enc, Sy.enc, d3]
    refine call_eq (hbLog_ok w0 _ q1 A1 A2 c1 c2 (hS1 _) (by have := hS2 []; simpa only [List.append_nil] using this) (by omega)) ?_
    simp only [go_sem, cond, Nat.reduceAdd, Nat.reduceLeDiff, Nat.reduceEqDiff, Nat.reduceBEq, decide_true, decide_false, Int.toNat_natCast, r, hb, gi, si, si0, beq_self_eq_true, Bool.not_true, Bool.not_false, List.set_cons_zero, List.set_cons_succ, List.append_assoc, List.length_append, List.length_cons, List.singleton_append, List.cons_append, List.nil_append, Rm.enc, Sy.enc]
    exact ⟨_, rfl⟩
  rw [f1, Nat.zero_add]
  have d3 : decide ((a : Int) < 0) = false := decide_eq_false (by omega)
  have d4 : ((0 : Int) ≤ (a : Int)) = True := eq_true (by omega)
  have d5 : ((a : Int) < (R.ms.length : Int)) = True := eq_true (by omega)
  obtain ⟨m9, m10, m11, m8⟩ := hmay _ f2 rfl
  have hle4 := rankB_le hroom u
  have hasc : Asc R.ks := by
    have h := hroom
    simp only [roomB, Bool.and_eq_true] at h
    exact asc_room h.2.2.2.2.1.1
  have hlast : lastR u R.ks 1 = rankB R.ks u := by rw [lastR_rank u _ hasc, rankB_any]
  clear hmay hok hS1 hS2
  simp only [go_sem, cond, Nat.reduceAdd, Nat.reduceLeDiff, Nat.reduceEqDiff, Nat.reduceBEq, decide_true, decide_false, Int.toNat_natCast, r, hb, gi, si, si0, beq_self_eq_true, Bool.not_true, Bool.not_false, List.set_cons_zero, List.set_cons_succ, List.append_assoc, List.length_append, List.length_cons, List.singleton_append, List.cons_append, List.nil_append, Rm.enc, Sy.enc, d3]
  generalize g1 ++ g2 = W at *
  obtain ⟨xa, xc, xb, xd⟩ := x
  have hR := hRm (some (.row 33 [.string R.name, .int .i64 R.next, .slice xa R.ms.length xc, .slice xb R.ks.length xd, .string R.subj]) :: some (.row 50 [.int .i64 s.kind, .string s.room, .string s.nick, .string s.name, .string s.id, .string s.ref, .string s.text, .int .i64 s.num, .int .i64 s.frm, .int .i64 s.back]) :: W)
  refine xw_loop (fun (i : Nat) T H' => i ≤ R.ks.length ∧ T 3 = .pointer (some ⟨nid H g.length, 0, some 5⟩) ∧ T 5 = .string u ∧ T 6 = .pointer (some ⟨nid H (g.length + 1), 0, some 10⟩) ∧ T 11 = .int .i64 (a : Int) ∧ T 13 = .int .i64 i ∧ (∃ d : Int, T 12 = .int .i64 d ∧ lastR u (R.ks.drop i) d = lastR u R.ks 1) ∧ H' = Hx H (g ++ some (.row 33 [.string R.name, .int .i64 R.next, .slice xa R.ms.length xc, .slice xb R.ks.length xd, .string R.subj]) :: some (.row 50 [.int .i64 s.kind, .string s.room, .string s.nick, .string s.name, .string s.id, .string s.ref, .string s.text, .int .i64 s.num, .int .i64 s.frm, .int .i64 s.back]) :: W)) (fun i => R.ks.length - i) 0 (by kernel_rfl) ⟨Nat.zero_le _, rfl, rfl, rfl, rfl, rfl, ⟨1, rfl, rfl⟩, rfl⟩ ?_
  rintro i T H' ⟨hi, t3, t5, t6, t11, t13, ⟨d, t12, hd⟩, rfl⟩
  by_cases hlt : i < R.ks.length
  · obtain ⟨b, o, sp, rfl, hc, -⟩ := mcell hR.sk hlt
    have c0 := hc 0 (.string R.ks[i].user) [] (by decide) rfl
    have c1 := hc 1 (.int .i64 R.ks[i].num) [] (by decide) rfl
    rw [Hx_nil] at c0 c1
    have e1 : ((i : Int) < (R.ks.length : Int)) = True := eq_true (by omega)
    have e2 : (0 ≤ (i : Int)) = True := eq_true (by omega)
    rw [lastR_drop _ _ i hlt] at hd
    simp only [go_sem, cond, Nat.reduceAdd, Nat.reduceLeDiff, Nat.reduceEqDiff, Nat.reduceBEq, decide_true, decide_false, Int.toNat_natCast, r, hb, gi, si, si0, beq_self_eq_true, Bool.not_true, Bool.not_false, List.set_cons_zero, List.set_cons_succ, List.append_assoc, List.length_append, List.length_cons, List.singleton_append, List.cons_append, List.nil_append, t3, t5, t6, t11, t12, t13, e1, e2, c0]
    refine Br_intro ?_ ?_ <;> intro h <;> simp only [go_sem, cond, Nat.reduceAdd, Nat.reduceLeDiff, Nat.reduceEqDiff, Nat.reduceBEq, decide_true, decide_false, Int.toNat_natCast, r, hb, gi, si, si0, beq_self_eq_true, Bool.not_true, Bool.not_false, List.set_cons_zero, List.set_cons_succ, List.append_assoc, List.length_append, List.length_cons, List.singleton_append, List.cons_append, List.nil_append, t3, t5, t6, t11, t12, t13, e1, e2, c1, h]
    · rw [if_pos h] at hd
      exact ⟨i + 1, ⟨hlt, t3, t5, t6, t11, int_succ hlt (by omega), ⟨_, rfl, hd⟩, rfl⟩, lt_meas hlt⟩
    · rw [if_neg (by rw [h]; decide)] at hd
      exact ⟨i + 1, ⟨hlt, t3, t5, t6, t11, int_succ hlt (by omega), ⟨_, t12, hd⟩, rfl⟩, lt_meas hlt⟩
  obtain rfl : i = R.ks.length := by omega
  have e1 : ((R.ks.length : Int) < (R.ks.length : Int)) = False := eq_false (by omega)
  rw [List.drop_length] at hd
  have hd : d = rankB R.ks u := hd.trans hlast
  subst hd
  obtain ⟨b, o, sp, rfl, hc, -⟩ := mcell hR.sm ha
  have c2 := hc 2 (.int .i64 R.ms[a].role) [] (by decide) rfl
  rw [Hx_nil] at c2
  simp only [go_sem, cond, Nat.reduceAdd, Nat.reduceLeDiff, Nat.reduceEqDiff, Nat.reduceBEq, decide_true, decide_false, Int.toNat_natCast, r, hb, gi, si, si0, beq_self_eq_true, Bool.not_true, Bool.not_false, List.set_cons_zero, List.set_cons_succ, List.append_assoc, List.length_append, List.length_cons, List.singleton_append, List.cons_append, List.nil_append, t3, t5, t6, t11, t12, t13, e1, c2, d4, d5]
  repeat' (refine Br_intro ?_ ?_ <;> intro h <;> simp only [go_sem, cond, Nat.reduceAdd, Nat.reduceLeDiff, Nat.reduceEqDiff, Nat.reduceBEq, decide_true, decide_false, Int.toNat_natCast, r, hb, gi, si, si0, beq_self_eq_true, Bool.not_true, Bool.not_false, List.set_cons_zero, List.set_cons_succ, List.append_assoc, List.length_append, List.length_cons, List.singleton_append, List.cons_append, List.nil_append, t3, t5, t6, t11, t12, t13, c2, d4, d5, ge_iff_le, h])
  all_goals first
    | exact ⟨_, rfl⟩
    | exact ⟨congrArg Value.bool (m9 (by assumption)), _, rfl⟩
    | exact ⟨congrArg Value.bool (m10 (by assumption)), _, rfl⟩
    | exact ⟨congrArg Value.bool (decide_eq_true (m8 (by assumption))), _, rfl⟩
    | (have m := m11 (by assumption)
       have h := of_decide_eq_false h
       first
         | exact absurd m.1 h
         | exact ⟨congrArg Value.bool (beq_iff_eq.2 (m.2.resolve_left h)), _, rfl⟩)
end Go.Proofs.YtmacpgoclhgafaaDoorW.FA

namespace Go.Proofs.YtmacpgoclhgafaaDoorW.FA
open Go.RowKit Go.ChangeShapes Go.WideShapes Go.ChangeAt Go.Deep Go.Proofs.YtmacpgoclhgafaaDoorW.XM Go.Proofs Go.Proofs.YtmacpgoclhgafaaDoorW.XWords Go.Proofs.YtmacpgoclhgafaaDoorW.XRA
set_option maxRecDepth 100000
set_option linter.unusedVariables false
theorem byte_reads : ReadsA Tryd.prog encB 5 (fun _ => True) := by
  intro H enc w base spare held fuel cs x hx
  obtain ⟨n, e, q⟩ := ra_int Tryd.underlying5 _ _ _ _ _ _ _ _ _ hx
  have hq : 0 ≤ n ∧ n ≤ 255 := by
    simp only [Lit.wf, Bool.and_eq_true, decide_eq_true_eq] at q
    exact q
  refine ⟨UInt8.ofNat n.toNat, ?_, trivial⟩
  have h1 : (UInt8.ofNat n.toNat).toNat = n.toNat := by
    rw [UInt8.toNat_ofNat']; omega
  have h2 : (((UInt8.ofNat n.toNat).toNat : Nat) : Int) = n := by rw [h1]; omega
  rw [e, encB, h2]
theorem slice_spot {P : Program} {w : World} {base : Nat} {T e : TypeId} {v : Value} (ht : P.underlying T = some (.slice e)) (h : Value.okWide P w .any base T v) : ∀ a n c, v = .slice (some a) n c → a.spot = none := by
  intro a n c hv
  subst hv
  simp only [Value.okWide, ht] at h
  unfold Cell.okWide at h
  split at h <;> first
    | (rename_i h6; cases h6; done)
    | skip
  all_goals first
    | (unfold Cell.ok at h
       split at h <;> first
         | (rename_i h6; cases h6; done)
         | (exact h.elim)
         | (rename_i h6; cases h6; exact h.2.2.2.1)
         | (exact h.2.2.2.1))
    | skip
theorem code_ok {w : World} {A : Option Addr} {c : Nat} {bs : List UInt8} (k1 : bs.length ≤ c) (k4 : plain (.slice A bs.length c) = true) (k5 : A = none ∧ bs = [] ∨ ∃ b o, A = some ⟨b, o, none⟩ ∧ rdRo w b o (bs.length * 1) = some (flat encB bs)) : CoOk w A c bs :=
  ⟨fun H => (sl_of (enc := encB) (sz := 1) (fun _ => rfl) k5 H).1, k4, k1⟩
theorem code_reads {H : Type} {en : TypeId × Value → H} {w : World} {base : Nat} {spare : Nat → Bool} {held : Bool} {fuel : Nat} {u : Value} {x : DataW H × List MemPlace} (h : DataW.trod en Tryd.prog w base spare held fuel 42 [u] = some x) (hs : ∀ a n c, u = .slice (some a) n c → a.spot = none) : ∃ (A : Option Addr) (c : Nat) (l : List UInt8), u = .slice A l.length c ∧ plain (.slice A l.length c) = true ∧ CoOk w A c l := by
  obtain ⟨A, c, l, h1, h2, h3, h4, h5, h6⟩ := slice_readA byte_reads Tryd.underlying42 (by kernel_rfl) (fun _ => rfl) (by decide) (fun a v hv => by
    simp only [encB, List.mem_singleton] at hv
    subst hv
    rfl) h hs
  exact ⟨A, c, l, h1, h5, code_ok h2 h5 h6⟩
end Go.Proofs.YtmacpgoclhgafaaDoorW.FA

namespace Go.Proofs.YtmacpgoclhgafaaDoorW.XWords
open Go.Shelf Go.RowKit
theorem u8x : U8Extra Tryd.prog Tryd.lays260_ren := {
  n3 := by kernel_rfl
  n4 := by kernel_rfl
  y3 := by kernel_rfl
  y4 := by kernel_rfl
  c5 := by kernel_rfl
  c119 := by kernel_rfl
  c138 := by kernel_rfl }
theorem firstD : Go.Pinned.utf8First = Lib.firstData := by kernel_rfl
theorem acceptD : (Go.Proofs.YtmacpgoclhgafaaDoor.Rows.laid_unicode_utf8_acceptRanges : DataW Unit) = Lib.acceptData := by kernel_rfl
theorem Tabs_of_laid {W : World} (h : laidMetH Tryd.prog Go.Proofs.YtmacpgoclhgafaaDoor.Rows.fnExactRoomApplyRow.laid W) : Tabs W := by
  have h' : laidMet Tryd.prog Go.Proofs.YtmacpgoclhgafaaDoor.Rows.fnExactRoomApplyRow.laid W := by
    rw [← MakeChecks.laidMetH_plain _ _ _ (by kernel_rfl)]
    exact h
  refine utf8Tabs_of_reads Tryd.lays260 u8x ?_ ?_
  · rw [← firstD]
    exact Lib.laidMet.reads h' (List.mem_cons_of_mem _ (List.mem_cons_self ..))
  · rw [← acceptD]
    exact Lib.laidMet.reads h' (List.mem_cons_self ..)
/-- What an initialiser lays, put into a variable's block. -/
def laidIn (cs : List Value) : Obj → Obj
  | .cells _ t frozen => .cells cs.toArray t frozen
  | o => o
def firstCells : List Value := Lib.firstTab.map fun z => Value.int .u8 z
def acceptCells : List Value := (List.range 16).flatMap fun i => [Value.int .u8 (Lib.accLo i), Value.int .u8 (Lib.accHi i)]
/-- A world for the rows' witness: the tables as their initialisers lay them. -/
noncomputable def laidWorld (os : Os) : World :=
  { World.holding Tryd.prog os ⟨#[], #[], []⟩ with heap := ((World.holding Tryd.prog os ⟨#[], #[], []⟩).heap.modify (Tryd.lays260_ren.g 3) (laidIn firstCells)).modify (Tryd.lays260_ren.g 4) (laidIn acceptCells) }
end Go.Proofs.YtmacpgoclhgafaaDoorW.XWords

