/- FnRoomOut: own words and contracts that the law's proof uses, part 4. No condition of its own. -/
import Derived.Test.YtmacpgoclhgafaaGreatDoorZFnRoomOut3
import Derived.Test.YtmacpgoclhgafaaGreatDoorRows
import Derived.Lib.LaidU8
import Derived.LaidByTextLater
import Derived.WalkKit
import Derived.ProofKit
set_option linter.unusedSimpArgs false
set_option linter.unusedVariables false
namespace Go.Proofs.YtmacpgoclhgafaaGreatDoorW.FA
open Go.RowKit Go.Proofs.YtmacpgoclhgafaaGreatDoorW.XM Go.Proofs Go.Proofs.YtmacpgoclhgafaaGreatDoorW.XWords
set_option maxRecDepth 100000
set_option linter.unusedSimpArgs false
set_option linter.unusedVariables false
variable (w0 : World) (H : Hp)
theorem PlO.toS {H : Hp} {n : Nat} {g : List (Option Ob)} {R : Rm} {x : Ad} (h : PlO H n g R x) : PlS H n g R x := by
  rcases h with ⟨rfl, h1, h2⟩ | ⟨j, k, a, b, rfl⟩
  · exact ⟨.inl ⟨rfl, rfl, h1⟩, .inl ⟨rfl, rfl, h2⟩⟩
  · exact ⟨.inr ⟨j, a, rfl, rfl⟩, .inr ⟨k, b, rfl, rfl⟩⟩
theorem PlS.shift' {H : Hp} {n : Nat} {pre g : List (Option Ob)} {R : Rm} {x : Ad} (hl : pre.length = n) (h : PlS H n g R x) : PlS H 0 (pre ++ g) R x := by
  subst hl
  exact h.shift
theorem SyOk.bigS {s : Sy} (h : SyOk s) : BigS s := ⟨by have := h.room; omega, by have := h.nick; omega, by have := h.name; omega, by have := h.id; omega, by have := h.ref; omega, by have := h.text; omega⟩
set_option maxHeartbeats 20000000 in
theorem DrawRoomDo_ok (A : Option Addr) (c : Nat) (bs : List UInt8) (hc : CoOk w0 A c bs) : AFn Tryz.prog w0 9 #[.slice A bs.length c] H fun v H2 => ∃ R x es k u s g, H2 = Hx H g ∧ v = .tuple #[.agg (R.enc x).toArray, .slice (some ⟨nid H k, 0, some (es.length * 9)⟩) es.length es.length, .string u, .agg s.enc.toArray] ∧ PlS H 0 g R x ∧ SmR R ∧ R.ms.length ≤ 200 ∧ R.ks.length ≤ 200 ∧ (x.b = none → x.a = none ∨ 1 ≤ R.next ∨ R.ms ≠ []) ∧ g[k]? = some (some (.row 38 (flat En.enc es))) ∧ LogD es ∧ es.length ≤ 100 ∧ u.size ≤ 100 ∧ SyOk s := by
  have hb : ∀ (g : List (Option Ob)) (Y : Option Ob) (r : List (Option Ob)), (g ++ Y :: r)[g.length]? = some Y := fun g Y r => by rw [List.getElem?_append_right (Nat.le_refl _)]; simp
  have gi : ∀ (g r : List (Option Ob)) (k : Nat), (g ++ r)[g.length + k]? = r[k]? := fun g r k => by rw [List.getElem?_append_right (by omega)]; simp
  have si : ∀ (g r : List (Option Ob)) (k : Nat) (Z : Option Ob), (g ++ r).set (g.length + k) Z = g ++ r.set k Z := fun g r k Z => by rw [List.set_append_right _ _ (by omega)]; simp
  have si0 : ∀ (g r : List (Option Ob)) (Z : Option Ob), (g ++ r).set g.length Z = g ++ r.set 0 Z := fun g r Z => by rw [List.set_append_right _ _ (by omega)]; simp
  refine AFn_nil ?_
  refine AFn_of Tryz.func9 rfl (by kernel_rfl) ?_
  have r := Tryz.results9
  simp only [go_sem, cond, Nat.reduceAdd, Nat.reduceLeDiff, Nat.reduceEqDiff, Nat.reduceBEq, decide_true, decide_false, Int.toNat_natCast, r]
  refine call (l16Open_ok w0 _ A c bs hc) ?_
  rintro v H2 ⟨D, hD, rfl, rfl⟩
  simp only [go_sem, cond, Nat.reduceAdd, Nat.reduceLeDiff, Nat.reduceEqDiff, Nat.reduceBEq, decide_true, decide_false, Int.toNat_natCast, r, List.cons_append, List.nil_append]
  obtain ⟨l, hl⟩ : ∃ l : List (Option Ob), l = [some (.row 26 [.string em, .int .i64 0, .slice none 0 0, .slice none 0 0, .string em]), some (.row 29 [.int .i64 0, .string em, .string em, .string em, .string em, .string em, .string em, .int .i64 0, .int .i64 0, .int .i64 0]), dr D 0] := ⟨_, rfl⟩
  refine call (l16Log_ok w0 D H _ 2 _ hD rfl (by omega)) ?_
  rintro v H2 ⟨p1, es, kl, g, rfl, -, hp1, hes, hlen, rfl, hkl⟩
  simp only [go_sem, cond, Nat.reduceAdd, Nat.reduceLeDiff, Nat.reduceEqDiff, Nat.reduceBEq, decide_true, decide_false, Int.toNat_natCast, r, hb, gi, si, si0, List.set_cons_zero, List.set_cons_succ, List.set_set, List.append_assoc, List.length_append, List.length_set, List.length_cons, List.singleton_append, List.cons_append, List.nil_append]
  have hl3 : ∀ (a b c : Option Ob) (rest : List (Option Ob)), (a :: b :: c :: (g ++ rest))[3 + kl]? = some (some (.row 38 (flat En.enc es))) := fun a b c rest => by
    rw [show 3 + kl = kl + 1 + 1 + 1 by omega]
    show (g ++ rest)[kl]? = _
    rw [List.getElem?_append_left (lt_of_get hkl)]; exact hkl
  have hro := roomR_ok (ByteArray.mk #[100, 101, 110]) es (by decide) hes.sm
  refine call (l8Room_ok w0 _ es _ _ _ (Sl_own elen _ es H _ _ (by have := hl3; simpa only [List.append_nil] using this _ _ _ [])) (by omega) hes.sm) ?_
  rintro v H2 ⟨x, g2, rfl, rfl, hpl0, hxa⟩
  generalize roomR (ByteArray.mk #[100, 101, 110]) es = R at *
  obtain ⟨hsm, hlm, hlk⟩ := hro
  have hplF : ∀ (a b c d : Option Ob) (rest : List (Option Ob)), PlS H 0 (a :: b :: c :: (g ++ (g2 ++ d :: rest))) R x := fun a b c d rest => by
    have h1 := PlS.down' (M' := a :: b :: c :: g) (by simp) hpl0.toS
    have h2 := h1.more (d :: rest)
    simpa only [List.append_assoc, List.cons_append] using h2
  have hsh : x.b = none → x.a = none ∨ 1 ≤ R.next ∨ R.ms ≠ [] := fun _ => hxa.imp id .inl
  have hlm2 : R.ms.length ≤ 200 := by omega
  have hlk2 : R.ks.length ≤ 200 := by omega
  clear hpl0 hxa hlm hlk hkl
  simp only [go_sem, cond, Nat.reduceAdd, Nat.reduceLeDiff, Nat.reduceEqDiff, Nat.reduceBEq, decide_true, decide_false, Int.toNat_natCast, r, hb, gi, si, si0, List.set_cons_zero, List.set_cons_succ, List.set_set, List.append_assoc, List.length_append, List.length_set, List.length_cons, List.singleton_append, List.cons_append, List.nil_append, Rm.enc]
  refine call (pick_ok w0 D hD H _ 2 _ _ rfl (by omega)) ?_
  rintro v H2 ⟨kk, rfl, -, -, rfl⟩
  simp only [go_sem, cond, Nat.reduceAdd, Nat.reduceLeDiff, Nat.reduceEqDiff, Nat.reduceBEq, decide_true, decide_false, Int.toNat_natCast, r, hb, gi, si, si0, List.set_cons_zero, List.set_cons_succ, List.set_set, List.append_assoc, List.length_append, List.length_set, List.length_cons, List.singleton_append, List.cons_append, List.nil_append]
  refine Br_intro ?_ ?_ <;> intro h0 <;> simp only [go_sem, cond, Nat.reduceAdd, Nat.reduceLeDiff, Nat.reduceEqDiff, Nat.reduceBEq, decide_true, decide_false, Int.toNat_natCast, r, hb, gi, si, si0, List.set_cons_zero, List.set_cons_succ, List.set_set, List.append_assoc, List.length_append, List.length_set, List.length_cons, List.singleton_append, List.cons_append, List.nil_append, h0]
  · refine call (l16AnyRoom_ok w0 D H _ 2 _ hD rfl (by omega)) ?_
    clear hplF hsh hlm2 hlk2 hsm
    rintro v H2 ⟨p2, R, x, g3, rfl, -, hp2, rfl, hpl, hsm, hlm2, hlk2, hsh⟩
    have hplF : ∀ (a b c d : Option Ob) (rest : List (Option Ob)), PlS H 0 (a :: b :: c :: (g ++ (g2 ++ d :: (g3 ++ rest)))) R x := fun a b c d rest => by
      have h1 := PlS.shift' (pre := a :: b :: c :: (g ++ (g2 ++ [d]))) (by simp) hpl
      have h2 := h1.more rest
      simpa only [List.append_assoc, List.cons_append, List.nil_append] using h2
    clear hpl
    simp only [go_sem, cond, Nat.reduceAdd, Nat.reduceLeDiff, Nat.reduceEqDiff, Nat.reduceBEq, decide_true, decide_false, Int.toNat_natCast, r, hb, gi, si, si0, List.set_cons_zero, List.set_cons_succ, List.set_set, List.append_assoc, List.length_append, List.length_set, List.length_cons, List.singleton_append, List.cons_append, List.nil_append, Rm.enc]
    refine call (l16AnySay_ok w0 D H _ 2 _ hD rfl (by omega)) ?_
    rintro v H2 ⟨p3, rfl, -, hp3, ⟨y1, y2, y3, y4, y5, y6, y7, y8, y9, y10⟩, hy, rfl⟩
    simp only [go_sem, cond, Nat.reduceAdd, Nat.reduceLeDiff, Nat.reduceEqDiff, Nat.reduceBEq, decide_true, decide_false, Int.toNat_natCast, r, hb, gi, si, si0, List.set_cons_zero, List.set_cons_succ, List.set_set, List.append_assoc, List.length_append, List.length_set, List.length_cons, List.singleton_append, List.cons_append, List.nil_append, Rm.enc, Sy.enc]
    refine call (pick_ok w0 D hD H _ 2 _ _ rfl (by omega)) ?_
    rintro v H2 ⟨k2, rfl, -, -, rfl⟩
    simp only [go_sem, cond, Nat.reduceAdd, Nat.reduceLeDiff, Nat.reduceEqDiff, Nat.reduceBEq, decide_true, decide_false, Int.toNat_natCast, r, hb, gi, si, si0, List.set_cons_zero, List.set_cons_succ, List.set_set, List.append_assoc, List.length_append, List.length_set, List.length_cons, List.singleton_append, List.cons_append, List.nil_append]
    refine Br_intro ?_ ?_ <;> intro h9 <;> simp only [go_sem, cond, Nat.reduceAdd, Nat.reduceLeDiff, Nat.reduceEqDiff, Nat.reduceBEq, decide_true, decide_false, Int.toNat_natCast, r, hb, gi, si, si0, List.set_cons_zero, List.set_cons_succ, List.set_set, List.append_assoc, List.length_append, List.length_set, List.length_cons, List.singleton_append, List.cons_append, List.nil_append, h9]
    · refine call (l5Clean_ok' w0 _ (s := ⟨y1, ByteArray.mk #[100, 101, 110], y3, y4, y5, y6, y7, y8, y9, y10⟩) ⟨(show (ByteArray.mk #[100, 101, 110]).size ≤ 500 by decide), hy.nick, hy.name, hy.id, hy.ref, hy.text, hy.kind, hy.num, hy.frm, hy.back⟩) ?_
      rintro v H2 ⟨⟨z1, z2, z3, z4, z5, z6, z7, z8, z9, z10⟩, hz, rfl, rfl⟩
      simp only [go_sem, cond, Nat.reduceAdd, Nat.reduceLeDiff, Nat.reduceEqDiff, Nat.reduceBEq, decide_true, decide_false, Int.toNat_natCast, r, hb, gi, si, si0, List.set_cons_zero, List.set_cons_succ, List.set_set, List.append_assoc, List.length_append, List.length_set, List.length_cons, List.singleton_append, List.cons_append, List.nil_append, Sy.enc]
      (refine xw_open (id := 10) [0, 0, 0, 0, 12, 0, 29, 95, 223, 511] [.q 1, .q 2, .l 0, .l 5, .e 3, .e 4, .d 0, .e 6, .d 5, .q 7, .q 8, .e 9] rfl (by kernel_rfl) ?_; simp only [go_sem, cond, Nat.reduceAdd, Nat.reduceLeDiff, Nat.reduceEqDiff, Nat.reduceBEq, decide_true, decide_false, Int.toNat_natCast, r, hb, gi, si, si0, List.set_cons_zero, List.set_cons_succ, List.set_set, List.append_assoc, List.length_append, List.length_set, List.length_cons, List.singleton_append, List.cons_append, List.nil_append])
      refine bsV_dense ⟨_, XF.zer_9, rfl⟩ rfl rfl (by decide) rfl ?_
      simp only [go_sem, cond, Nat.reduceAdd, Nat.reduceLeDiff, Nat.reduceEqDiff, Nat.reduceBEq, decide_true, decide_false, Int.toNat_natCast, r, hb, gi, si, si0, List.set_cons_zero, List.set_cons_succ, List.set_set, List.append_assoc, List.length_append, List.length_set, List.length_cons, List.singleton_append, List.cons_append, List.nil_append]
      refine call (of_ok w0 D hD H _ 2 _ _ _ _ _ rfl (by omega) (by simp only [List.getElem?_cons_succ, gi, hb]; first | rfl | simp) rfl rfl (by decide) (by decide) (by decide)) ?_
      rintro v H2 ⟨us, hus, rfl, rfl⟩
      simp only [go_sem, cond, Nat.reduceAdd, Nat.reduceLeDiff, Nat.reduceEqDiff, Nat.reduceBEq, decide_true, decide_false, Int.toNat_natCast, r, hb, gi, si, si0, List.set_cons_zero, List.set_cons_succ, List.set_set, List.append_assoc, List.length_append, List.length_set, List.length_cons, List.singleton_append, List.cons_append, List.nil_append, Sy.enc]
      exact ⟨R, x, es, 3 + kl, us, ⟨z1, z2, z3, z4, z5, z6, z7, z8, z9, z10⟩, _, rfl, rfl, hplF _ _ _ _ _, hsm, hlm2, hlk2, hsh, hl3 _ _ _ _, hes, hlen, hus, hz⟩
    · (refine xw_open (id := 10) [0, 0, 0, 0, 12, 0, 29, 95, 223, 511] [.q 1, .q 2, .l 0, .l 5, .e 3, .e 4, .d 0, .e 6, .d 5, .q 7, .q 8, .e 9] rfl (by kernel_rfl) ?_; simp only [go_sem, cond, Nat.reduceAdd, Nat.reduceLeDiff, Nat.reduceEqDiff, Nat.reduceBEq, decide_true, decide_false, Int.toNat_natCast, r, hb, gi, si, si0, List.set_cons_zero, List.set_cons_succ, List.set_set, List.append_assoc, List.length_append, List.length_set, List.length_cons, List.singleton_append, List.cons_append, List.nil_append])
      refine bsV_dense ⟨_, XF.zer_9, rfl⟩ rfl rfl (by decide) rfl ?_
      simp only [go_sem, cond, Nat.reduceAdd, Nat.reduceLeDiff, Nat.reduceEqDiff, Nat.reduceBEq, decide_true, decide_false, Int.toNat_natCast, r, hb, gi, si, si0, List.set_cons_zero, List.set_cons_succ, List.set_set, List.append_assoc, List.length_append, List.length_set, List.length_cons, List.singleton_append, List.cons_append, List.nil_append]
      refine call (of_ok w0 D hD H _ 2 _ _ _ _ _ rfl (by omega) (by simp only [List.getElem?_cons_succ, gi, hb]; first | rfl | simp) rfl rfl (by decide) (by decide) (by decide)) ?_
      rintro v H2 ⟨us, hus, rfl, rfl⟩
      simp only [go_sem, cond, Nat.reduceAdd, Nat.reduceLeDiff, Nat.reduceEqDiff, Nat.reduceBEq, decide_true, decide_false, Int.toNat_natCast, r, hb, gi, si, si0, List.set_cons_zero, List.set_cons_succ, List.set_set, List.append_assoc, List.length_append, List.length_set, List.length_cons, List.singleton_append, List.cons_append, List.nil_append, Sy.enc]
      exact ⟨R, x, es, 3 + kl, us, ⟨y1, y2, y3, y4, y5, y6, y7, y8, y9, y10⟩, _, rfl, rfl, hplF _ _ _ _ _, hsm, hlm2, hlk2, hsh, hl3 _ _ _ _, hes, hlen, hus, hy⟩
  · refine call (l16AnySay_ok w0 D H _ 2 _ hD rfl (by omega)) ?_
    rintro v H2 ⟨p3, rfl, -, hp3, ⟨y1, y2, y3, y4, y5, y6, y7, y8, y9, y10⟩, hy, rfl⟩
    simp only [go_sem, cond, Nat.reduceAdd, Nat.reduceLeDiff, Nat.reduceEqDiff, Nat.reduceBEq, decide_true, decide_false, Int.toNat_natCast, r, hb, gi, si, si0, List.set_cons_zero, List.set_cons_succ, List.set_set, List.append_assoc, List.length_append, List.length_set, List.length_cons, List.singleton_append, List.cons_append, List.nil_append, Rm.enc, Sy.enc]
    refine call (pick_ok w0 D hD H _ 2 _ _ rfl (by omega)) ?_
    rintro v H2 ⟨k2, rfl, -, -, rfl⟩
    simp only [go_sem, cond, Nat.reduceAdd, Nat.reduceLeDiff, Nat.reduceEqDiff, Nat.reduceBEq, decide_true, decide_false, Int.toNat_natCast, r, hb, gi, si, si0, List.set_cons_zero, List.set_cons_succ, List.set_set, List.append_assoc, List.length_append, List.length_set, List.length_cons, List.singleton_append, List.cons_append, List.nil_append]
    refine Br_intro ?_ ?_ <;> intro h9 <;> simp only [go_sem, cond, Nat.reduceAdd, Nat.reduceLeDiff, Nat.reduceEqDiff, Nat.reduceBEq, decide_true, decide_false, Int.toNat_natCast, r, hb, gi, si, si0, List.set_cons_zero, List.set_cons_succ, List.set_set, List.append_assoc, List.length_append, List.length_set, List.length_cons, List.singleton_append, List.cons_append, List.nil_append, h9]
    · refine call (l5Clean_ok' w0 _ (s := ⟨y1, ByteArray.mk #[100, 101, 110], y3, y4, y5, y6, y7, y8, y9, y10⟩) ⟨(show (ByteArray.mk #[100, 101, 110]).size ≤ 500 by decide), hy.nick, hy.name, hy.id, hy.ref, hy.text, hy.kind, hy.num, hy.frm, hy.back⟩) ?_
      rintro v H2 ⟨⟨z1, z2, z3, z4, z5, z6, z7, z8, z9, z10⟩, hz, rfl, rfl⟩
      simp only [go_sem, cond, Nat.reduceAdd, Nat.reduceLeDiff, Nat.reduceEqDiff, Nat.reduceBEq, decide_true, decide_false, Int.toNat_natCast, r, hb, gi, si, si0, List.set_cons_zero, List.set_cons_succ, List.set_set, List.append_assoc, List.length_append, List.length_set, List.length_cons, List.singleton_append, List.cons_append, List.nil_append, Sy.enc]
      (refine xw_open (id := 10) [0, 0, 0, 0, 12, 0, 29, 95, 223, 511] [.q 1, .q 2, .l 0, .l 5, .e 3, .e 4, .d 0, .e 6, .d 5, .q 7, .q 8, .e 9] rfl (by kernel_rfl) ?_; simp only [go_sem, cond, Nat.reduceAdd, Nat.reduceLeDiff, Nat.reduceEqDiff, Nat.reduceBEq, decide_true, decide_false, Int.toNat_natCast, r, hb, gi, si, si0, List.set_cons_zero, List.set_cons_succ, List.set_set, List.append_assoc, List.length_append, List.length_set, List.length_cons, List.singleton_append, List.cons_append, List.nil_append])
      refine bsV_dense ⟨_, XF.zer_9, rfl⟩ rfl rfl (by decide) rfl ?_
      simp only [go_sem, cond, Nat.reduceAdd, Nat.reduceLeDiff, Nat.reduceEqDiff, Nat.reduceBEq, decide_true, decide_false, Int.toNat_natCast, r, hb, gi, si, si0, List.set_cons_zero, List.set_cons_succ, List.set_set, List.append_assoc, List.length_append, List.length_set, List.length_cons, List.singleton_append, List.cons_append, List.nil_append]
      refine call (of_ok w0 D hD H _ 2 _ _ _ _ _ rfl (by omega) (by simp only [List.getElem?_cons_succ, gi, hb]; first | rfl | simp) rfl rfl (by decide) (by decide) (by decide)) ?_
      rintro v H2 ⟨us, hus, rfl, rfl⟩
      simp only [go_sem, cond, Nat.reduceAdd, Nat.reduceLeDiff, Nat.reduceEqDiff, Nat.reduceBEq, decide_true, decide_false, Int.toNat_natCast, r, hb, gi, si, si0, List.set_cons_zero, List.set_cons_succ, List.set_set, List.append_assoc, List.length_append, List.length_set, List.length_cons, List.singleton_append, List.cons_append, List.nil_append, Sy.enc]
      exact ⟨R, x, es, 3 + kl, us, ⟨z1, z2, z3, z4, z5, z6, z7, z8, z9, z10⟩, _, rfl, rfl, hplF _ _ _ _ _, hsm, hlm2, hlk2, hsh, hl3 _ _ _ _, hes, hlen, hus, hz⟩
    · (refine xw_open (id := 10) [0, 0, 0, 0, 12, 0, 29, 95, 223, 511] [.q 1, .q 2, .l 0, .l 5, .e 3, .e 4, .d 0, .e 6, .d 5, .q 7, .q 8, .e 9] rfl (by kernel_rfl) ?_; simp only [go_sem, cond, Nat.reduceAdd, Nat.reduceLeDiff, Nat.reduceEqDiff, Nat.reduceBEq, decide_true, decide_false, Int.toNat_natCast, r, hb, gi, si, si0, List.set_cons_zero, List.set_cons_succ, List.set_set, List.append_assoc, List.length_append, List.length_set, List.length_cons, List.singleton_append, List.cons_append, List.nil_append])
      refine bsV_dense ⟨_, XF.zer_9, rfl⟩ rfl rfl (by decide) rfl ?_
      simp only [go_sem, cond, Nat.reduceAdd, Nat.reduceLeDiff, Nat.reduceEqDiff, Nat.reduceBEq, decide_true, decide_false, Int.toNat_natCast, r, hb, gi, si, si0, List.set_cons_zero, List.set_cons_succ, List.set_set, List.append_assoc, List.length_append, List.length_set, List.length_cons, List.singleton_append, List.cons_append, List.nil_append]
      refine call (of_ok w0 D hD H _ 2 _ _ _ _ _ rfl (by omega) (by simp only [List.getElem?_cons_succ, gi, hb]; first | rfl | simp) rfl rfl (by decide) (by decide) (by decide)) ?_
      rintro v H2 ⟨us, hus, rfl, rfl⟩
      simp only [go_sem, cond, Nat.reduceAdd, Nat.reduceLeDiff, Nat.reduceEqDiff, Nat.reduceBEq, decide_true, decide_false, Int.toNat_natCast, r, hb, gi, si, si0, List.set_cons_zero, List.set_cons_succ, List.set_set, List.append_assoc, List.length_append, List.length_set, List.length_cons, List.singleton_append, List.cons_append, List.nil_append, Sy.enc]
      exact ⟨R, x, es, 3 + kl, us, ⟨y1, y2, y3, y4, y5, y6, y7, y8, y9, y10⟩, _, rfl, rfl, hplF _ _ _ _ _, hsm, hlm2, hlk2, hsh, hl3 _ _ _ _, hes, hlen, hus, hy⟩
end Go.Proofs.YtmacpgoclhgafaaGreatDoorW.FA

namespace Go.Proofs.YtmacpgoclhgafaaGreatDoorW.FA
open Go.RowKit Go.Proofs.YtmacpgoclhgafaaGreatDoorW.XM Go.Proofs Go.Proofs.YtmacpgoclhgafaaGreatDoorW.XWords
set_option maxRecDepth 100000
set_option linter.unusedSimpArgs false
set_option linter.unusedVariables false
variable (w0 : World) (H : Hp)
theorem hbMember_ok (R : Rm) (x : Ad) (u : ByteArray) (hr : RmAt w0 H R x) : AFn Tryz.prog w0 16 #[.agg (R.enc x).toArray, .string u] H fun v H2 => v = .int .i64 (idxP (isU u) R.ms 0) ∧ H2 = H := by
  have hl := hr.lm
  refine AFn.scal rfl Tryz.func16 rfl (by kernel_rfl) ?_
  have r := Tryz.results16
  simp only [go_sem, cond, Nat.reduceAdd, Nat.reduceLeDiff, Nat.reduceEqDiff, Nat.reduceBEq, decide_true, decide_false, Int.toNat_natCast, r]
  simp only [go_sem, cond, Nat.reduceAdd, Nat.reduceLeDiff, Nat.reduceEqDiff, Nat.reduceBEq, decide_true, decide_false, Int.toNat_natCast, Rm.enc]
  refine xw_loop (fun (i : Nat) T H' => i ≤ R.ms.length ∧ idxP (isU u) (R.ms.drop i) i = idxP (isU u) R.ms 0 ∧ T 1 = .string u ∧ T 2 = .pointer (some ⟨nid H 0, 0, some 5⟩) ∧ T 5 = .int .i64 i ∧ H' = Hx H [some (.row 26 (R.enc x))]) (fun i => R.ms.length - i) 0 (by kernel_rfl) ⟨Nat.zero_le _, rfl, rfl, rfl, rfl, rfl⟩ ?_
  rintro i T H' ⟨hi, he, t1, t2, t5, rfl⟩
  by_cases hlt : i < R.ms.length
  · obtain ⟨b, o, sp, hx, hc, _⟩ := mcell hr.sm hlt
    have c0 := hc 0 (.string R.ms[i].user) [some (.row 26 (R.enc x))] (by decide) rfl
    have d1 : ((i : Int) < (R.ms.length : Int)) = True := eq_true (by omega)
    have d2 : (0 ≤ (i : Int)) = True := eq_true (by omega)
    rw [idxP_drop _ _ i hlt] at he
    simp only [Rm.enc, hx] at c0
    simp only [go_sem, cond, Nat.reduceAdd, Nat.reduceLeDiff, Nat.reduceEqDiff, Nat.reduceBEq, decide_true, decide_false, Int.toNat_natCast, Rm.enc, hx, t1, t2, t5, d1, d2, c0]
    refine Br_intro ?_ ?_ <;> intro h <;> simp only [go_sem, cond, Nat.reduceAdd, Nat.reduceLeDiff, Nat.reduceEqDiff, Nat.reduceBEq, decide_true, decide_false, Int.toNat_natCast, t1, t2, t5, h, r]
    · rw [if_pos (show isU u R.ms[i] = true from h)] at he
      exact ⟨by rw [he], _, rfl⟩
    · rw [if_neg (by rw [isU, h]; decide)] at he
      exact ⟨i + 1, ⟨hlt, he, t1, t2, int_succ hlt (by omega), by simp only [Rm.enc, hx]⟩, lt_meas hlt⟩
  · obtain rfl : i = R.ms.length := by omega
    have d1 : ((R.ms.length : Int) < (R.ms.length : Int)) = False := eq_false (by omega)
    rw [List.drop_length] at he
    simp only [go_sem, cond, Nat.reduceAdd, Nat.reduceLeDiff, Nat.reduceEqDiff, Nat.reduceBEq, decide_true, decide_false, Int.toNat_natCast, Rm.enc, t1, t2, t5, d1, r]
    exact ⟨by rw [← he]; rfl, _, rfl⟩
theorem hbLog_ok (es : List En) (A A' : Option Addr) (c c' : Nat) (hs : Sl w0 H A 9 (es.map En.enc)) (hs' : Sl w0 H A' 9 (es.map En.enc)) (hl : es.length ≤ 2000000) : AFn Tryz.prog w0 12 #[.slice A es.length c, .slice A' es.length c'] H fun v H2 => v = .bool true ∧ H2 = H := by
  refine AFn.scal rfl Tryz.func12 rfl (by kernel_rfl) ?_
  have r := Tryz.results12
  simp only [go_sem, cond, Nat.reduceAdd, Nat.reduceLeDiff, Nat.reduceEqDiff, Nat.reduceBEq, decide_true, decide_false, Int.toNat_natCast, r]
  simp only [go_sem, cond, Nat.reduceAdd, Nat.reduceLeDiff, Nat.reduceEqDiff, Nat.reduceBEq, decide_true, decide_false, Int.toNat_natCast, beq_self_eq_true, r]
  refine xw_loop (fun (i : Nat) T H' => i ≤ es.length ∧ T 0 = .slice A es.length c ∧ T 1 = .slice A' es.length c' ∧ T 5 = .int .i64 i ∧ H' = Hx H []) (fun i => es.length - i) 0 (by kernel_rfl) ⟨Nat.zero_le _, rfl, rfl, rfl, rfl⟩ ?_
  rintro i T H' ⟨hi, t0, t1, t3, rfl⟩
  by_cases hlt : i < es.length
  · obtain ⟨b, o, sp, rfl, -, hw⟩ := mcell hs hlt
    obtain ⟨b2, o2, sp2, rfl, -, hw2⟩ := mcell hs' hlt
    have c0 := fun L => hw L rfl
    have c1 := fun L => hw2 L rfl
    simp only [En.enc] at c0 c1
    have d1 : ((i : Int) < (es.length : Int)) = True := eq_true (by omega)
    have d2 : (0 ≤ (i : Int)) = True := eq_true (by omega)
    simp only [go_sem, cond, Nat.reduceAdd, Nat.reduceLeDiff, Nat.reduceEqDiff, Nat.reduceBEq, decide_true, decide_false, Int.toNat_natCast, t0, t1, t3, d1, d2, c0, c1, beq_self_eq_true, r]
    (refine xw_open (id := 6) [0, 0, 3, 7, 0, 0, 48, 112, 255] [.q 0, .q 1, .q 2, .q 4, .q 5, .q 6, .q 3, .q 7, .q 8] rfl (by kernel_rfl) ?_; simp only [go_sem, cond, Nat.reduceAdd, Nat.reduceLeDiff, Nat.reduceEqDiff, Nat.reduceBEq, decide_true, decide_false, Int.toNat_natCast, t0, t1, t3, d1, d2, c0, c1, beq_self_eq_true, r])
    simp only [Bool.and_true]
    simp only [go_sem, cond, Nat.reduceAdd, Nat.reduceLeDiff, Nat.reduceEqDiff, Nat.reduceBEq, decide_true, decide_false, Int.toNat_natCast, t0, t1, t3, d1, d2, r]
    exact ⟨i + 1, ⟨hlt, t0, t1, int_succ hlt (by omega), rfl⟩, lt_meas hlt⟩
  · obtain rfl : i = es.length := by omega
    have d1 : ((es.length : Int) < (es.length : Int)) = False := eq_false (by omega)
    simp only [go_sem, cond, Nat.reduceAdd, Nat.reduceLeDiff, Nat.reduceEqDiff, Nat.reduceBEq, decide_true, decide_false, Int.toNat_natCast, t0, t1, t3, d1, r]
    exact ⟨_, rfl⟩
end Go.Proofs.YtmacpgoclhgafaaGreatDoorW.FA

namespace Go.Proofs.YtmacpgoclhgafaaGreatDoorW.FA
open Go.RowKit Go.Proofs.YtmacpgoclhgafaaGreatDoorW.XM Go.Proofs Go.Proofs.YtmacpgoclhgafaaGreatDoorW.XWords
set_option maxRecDepth 100000
set_option linter.unusedSimpArgs false
set_option linter.unusedVariables false
variable (w0 : World) (H : Hp)
theorem rdo_zero {R : Rm} {es : List En} {u : ByteArray} {s : Sy} (h : (rdo R es u s).2 = 0) : roomB R = true ∧ userB u = true ∧ sayB s = true ∧ inB s.kind 6 11 = true ∧ (s.room.toList == R.name.toList) = true ∧ rdo R es u s = doR R es u s := by
  unfold rdo at h ⊢
  repeat' split at h
  all_goals first
    | (cases h; done)
    | (simp only [Bool.not_eq_false] at *
       simp only [*, Bool.true_eq_false, if_false, and_self])
theorem esV_form (H : Hp) (es : List En) : ∃ A, esV H es = .slice A es.length es.length ∧ Sl w0 (Hx H (esO es)) A 9 (es.map En.enc) := by
  cases es with
  | nil => exact ⟨none, rfl, .inl rfl⟩
  | cons e t => exact ⟨_, rfl, Sl_own elen _ (e :: t) H [_] 0 rfl⟩
theorem joinR_len (R : Rm) (u n : ByteArray) : (joinR R u n).1.length ≤ 3 := by
  unfold joinR
  repeat' split
  all_goals first | exact Nat.zero_le _ | (simp; done)
theorem roleR_len (R : Rm) (u : ByteArray) (s : Sy) : (roleR R u s).1.length ≤ 3 := by
  unfold roleR
  repeat' split
  all_goals first | exact Nat.zero_le _ | (simp; done)
theorem setL_len (R : Rm) (s : Sy) : (setL R s).length ≤ 3 := by
  unfold setL
  repeat' split
  all_goals (simp; done)
theorem setR_len (R : Rm) (u : ByteArray) (s : Sy) : (setR R u s).1.length ≤ 3 := by
  unfold setR
  repeat' split
  all_goals first | exact Nat.zero_le _ | exact setL_len _ _
theorem insR_len (R : Rm) (es : List En) (u : ByteArray) (s : Sy) : (insR R es u s).1.length ≤ 3 := by
  unfold insR
  split
  · simp
  split
  · repeat' split
    all_goals first | exact Nat.zero_le _ | (simp; done)
  split
  · repeat' split
    all_goals first | exact Nat.zero_le _ | (simp; done)
  split
  · exact roleR_len _ _ _
  · exact setR_len _ _ _
theorem doR_len (R : Rm) (es : List En) (u : ByteArray) (s : Sy) : (doR R es u s).1.length ≤ 3 := by
  unfold doR
  split
  · exact Nat.zero_le _
  split
  · exact joinR_len _ _ _
  split
  · exact Nat.zero_le _
  · exact insR_len _ _ _ _
theorem rdo_len (R : Rm) (es : List En) (u : ByteArray) (s : Sy) : (rdo R es u s).1.length ≤ 3 := by
  unfold rdo
  repeat' split
  all_goals first | exact Nat.zero_le _ | exact doR_len _ _ _ _
theorem RoomDoS_any (R : Rm) (x : Ad) (es : List En) (A : Option Addr) (c : Nat) (u : ByteArray) (s : Sy) (hr : RmAt w0 H R x) (hb : Big R) (hs : Sl w0 H A 9 (es.map En.enc)) (hl : es.length ≤ 2000000) (hu : u.size ≤ 1000000000000) (hS : BigS s) : AFn Tryz.prog w0 11 #[.agg (R.enc x).toArray, .slice A es.length c, .string u, .agg s.enc.toArray] H fun v H2 => ∃ A' c' g, H2 = Hx H g ∧ v = .tuple #[.slice A' (rdo R es u s).1.length c', .int .i64 (rdo R es u s).2] ∧ Sl w0 (Hx H g) A' 9 ((rdo R es u s).1.map En.enc) := by
  refine (RoomDoS_ok w0 H R x es A c u s hr hb hs hl hu hS).mono ?_
  rintro v H2 ⟨rfl, rfl⟩
  obtain ⟨A2, e2, h2⟩ := esV_form w0 H (rdo R es u s).1
  exact ⟨A2, _, _, rfl, by rw [deedV, e2], h2⟩
end Go.Proofs.YtmacpgoclhgafaaGreatDoorW.FA

namespace Go.Proofs.YtmacpgoclhgafaaGreatDoorW.FA
open Go.RowKit Go.Proofs.YtmacpgoclhgafaaGreatDoorW.XM Go.Proofs Go.Proofs.YtmacpgoclhgafaaGreatDoorW.XWords
set_option maxRecDepth 100000
set_option linter.unusedSimpArgs false
set_option linter.unusedVariables false
theorem idxP_at {α : Type} (p : α → Bool) : ∀ (l : List α) (i : Nat) (hi : i < l.length) (k : Nat), p l[i] = true → (∀ j (h : j < i), p (l[j]'(Nat.lt_trans h hi)) = false) → idxP p l k = ((k + i : Nat) : Int)
  | a :: r, 0, hi, k, h1, _ => by
    rw [idxP, if_pos (show p a = true from h1)]; rfl
  | a :: r, i + 1, hi, k, h1, h2 => by
    have h0 : p a = false := h2 0 (by omega)
    rw [idxP, if_neg (by rw [h0]; decide), idxP_at p r i (by simpa using hi) (k + 1) (by simpa using h1) (fun j h => by simpa using h2 (j + 1) (by omega))]
    congr 1; omega
theorem idxP_first {α : Type} (p : α → Bool) : ∀ (l : List α) (i k : Nat), idxP p l k = ((k + i : Nat) : Int) → ∀ j (h : j < i) (hl : j < l.length), p l[j] = false
  | [], i, k, h, j, hj, hl => by simp at hl
  | a :: r, i, k, h, j, hj, hl => by
    rw [idxP] at h
    split at h
    · omega
    · rename_i hp
      cases j with
      | zero => simpa using hp
      | succ j =>
        obtain ⟨i, rfl⟩ : ∃ i', i = i' + 1 := ⟨i - 1, by omega⟩
        have := idxP_first p r i (k + 1) (by rw [h]; congr 1; omega) j (by omega) (by simpa using hl)
        simpa using this
theorem allI_intro {α : Type} (p : Nat → α → Bool) : ∀ (l : List α) (i : Nat), (∀ j (h : j < l.length), p (i + j) l[j] = true) → allI p l i = true
  | [], i, _ => rfl
  | a :: r, i, h => by
    rw [allI, show p i a = true from h 0 (by simp), Bool.true_and]
    exact allI_intro p r (i + 1) fun j hj => by
      have := h (j + 1) (by simpa using hj)
      rw [show i + 1 + j = i + (j + 1) by omega]
      simpa using this
/-- Members of whom none is told twice or outcast. -/
structure MsOk (ms : List Mem) (ks : List Rk) : Prop where
  each : ∀ m ∈ ms, userB m.user = true ∧ nickB m.nick = true ∧ 1 ≤ m.role ∧ m.role ≤ 3 ∧ rankB ks m.user ≠ 0
  uniq : ms.Pairwise fun a b => a.user.toList ≠ b.user.toList ∧ a.nick.toList ≠ b.nick.toList
structure KsOk (ks : List Rk) : Prop where
  asc : Asc ks
  each : ∀ k ∈ ks, userB k.user = true ∧ 0 ≤ k.num ∧ k.num ≤ 4 ∧ k.num ≠ 1
theorem msOk_iff (R : Rm) : allI (memB R) R.ms 0 = true ↔ MsOk R.ms R.ks := by
  constructor
  · intro h
    have hg : ∀ i (hi : i < R.ms.length), userB R.ms[i].user = true ∧ nickB R.ms[i].nick = true ∧ idxP (isU R.ms[i].user) R.ms 0 = (i : Int) ∧ idxP (isN R.ms[i].nick) R.ms 0 = (i : Int) ∧ (1 ≤ R.ms[i].role ∧ R.ms[i].role ≤ 3) ∧ rankB R.ks R.ms[i].user ≠ 0 := fun i hi => by
      have := allI_get _ _ 0 h i hi
      rw [Nat.zero_add] at this
      simpa only [memB, inB, Bool.and_eq_true, decide_eq_true_eq, beq_iff_eq, Bool.not_eq_true', beq_eq_false_iff_ne] using this
    refine ⟨fun m hm => ?_, List.pairwise_iff_getElem.2 fun i j hi hj hij => ?_⟩
    · obtain ⟨i, hi, rfl⟩ := List.mem_iff_getElem.1 hm
      obtain ⟨a, b, _, _, ⟨c, d⟩, e⟩ := hg i hi
      exact ⟨a, b, c, d, e⟩
    · obtain ⟨_, _, a, b, _⟩ := hg j hj
      have h1 := idxP_first (isU R.ms[j].user) R.ms j 0 (by rw [a]; simp) i hij hi
      have h2 := idxP_first (isN R.ms[j].nick) R.ms j 0 (by rw [b]; simp) i hij hi
      exact ⟨by simpa [isU] using h1, by simpa [isN] using h2⟩
  · intro h
    refine allI_intro _ _ 0 fun i hi => ?_
    rw [Nat.zero_add]
    obtain ⟨a, b, c, d, e⟩ := h.each _ (List.getElem_mem hi)
    have hu := List.pairwise_iff_getElem.1 h.uniq
    have h1 := idxP_at (isU R.ms[i].user) R.ms i hi 0 (by simp [isU]) (fun j hj => by simpa [isU] using (hu j i (by omega) hi hj).1)
    have h2 := idxP_at (isN R.ms[i].nick) R.ms i hi 0 (by simp [isN]) (fun j hj => by simpa [isN] using (hu j i (by omega) hi hj).2)
    rw [Nat.zero_add] at h1 h2
    simp only [memB, inB, a, b, h1, h2, Bool.true_and, Bool.and_eq_true, decide_eq_true_eq, beq_iff_eq, Bool.not_eq_true', beq_eq_false_iff_ne]
    exact ⟨trivial, trivial, ⟨c, d⟩, e⟩
theorem asc_get : ∀ (l : List Rk), Asc l → ∀ i j (hi : i < l.length) (hj : j < l.length), i < j → Op.bytesLess l[i].user.toList l[j].user.toList = true
  | x :: t, ha, 0, j + 1, hi, hj, _ => ha.1 _ (by simp)
  | x :: t, ha, i + 1, j + 1, hi, hj, h => asc_get t ha.2 i j (by simpa using hi) (by simpa using hj) (by omega)
theorem ksOk_iff (R : Rm) : allI (rkB R) R.ks 0 = true ↔ KsOk R.ks := by
  constructor
  · intro h
    refine ⟨asc_room h, fun k hk => ?_⟩
    obtain ⟨i, hi, rfl⟩ := List.mem_iff_getElem.1 hk
    have := allI_get _ _ 0 h i hi
    simp only [rkB, inB, Bool.and_eq_true, decide_eq_true_eq, Bool.not_eq_true', beq_eq_false_iff_ne] at this
    exact ⟨this.1, this.2.2.1.1, this.2.2.1.2, this.2.2.2⟩
  · intro h
    refine allI_intro _ _ 0 fun i hi => ?_
    rw [Nat.zero_add]
    obtain ⟨a, b, c, d⟩ := h.each _ (List.getElem_mem hi)
    have hp : prevB R i R.ks[i].user = true := by
      cases i with
      | zero => rfl
      | succ i =>
        simp only [prevB]
        rw [List.getElem?_eq_getElem (by omega)]
        exact asc_get _ h.asc i (i + 1) (by omega) hi (by omega)
    simp only [rkB, inB, a, hp, Bool.true_and, Bool.and_eq_true, decide_eq_true_eq, Bool.not_eq_true', beq_eq_false_iff_ne]
    exact ⟨⟨b, c⟩, d⟩
theorem roomB_iff (R : Rm) : roomB R = true ↔ userB R.name = true ∧ (0 ≤ R.next ∧ R.next ≤ 9999) ∧ orB bodyB R.subj = true ∧ (MsOk R.ms R.ks ∧ R.ms.length ≤ 5) ∧ (KsOk R.ks ∧ R.ks.length ≤ 6) ∧ (0 < ownB R.ks ∨ (R.next = 0 ∧ R.ms = [] ∧ R.ks = [] ∧ emB R.subj = true)) := by
  rw [← msOk_iff, ← ksOk_iff]
  simp only [roomB, inB, idleB, Bool.and_eq_true, Bool.or_eq_true, decide_eq_true_eq, beq_iff_eq, Int.natCast_eq_zero, List.length_eq_zero_iff]
end Go.Proofs.YtmacpgoclhgafaaGreatDoorW.FA

namespace Go.Proofs.YtmacpgoclhgafaaGreatDoorW.FA
open Go.RowKit Go.Proofs.YtmacpgoclhgafaaGreatDoorW.XM Go.Proofs Go.Proofs.YtmacpgoclhgafaaGreatDoorW.XWords
set_option maxRecDepth 100000
set_option linter.unusedSimpArgs false
set_option linter.unusedVariables false
theorem rankB_mem : ∀ (l : List Rk), Asc l → ∀ k ∈ l, rankB l k.user = k.num
  | x :: t, h, k, hk => by
    unfold rankB
    rcases List.mem_cons.1 hk with rfl | hk
    · simp
    · have : (x.user.toList == k.user.toList) = false := beq_eq_false_iff_ne.2 (ne_of_less (h.1 k hk))
      rw [this]
      exact rankB_mem t h.2 k hk
end Go.Proofs.YtmacpgoclhgafaaGreatDoorW.FA

namespace Go.Proofs.YtmacpgoclhgafaaGreatDoorW.FA
open Go.RowKit Go.Proofs.YtmacpgoclhgafaaGreatDoorW.XM Go.Proofs Go.Proofs.YtmacpgoclhgafaaGreatDoorW.XWords
set_option maxRecDepth 100000
set_option linter.unusedSimpArgs false
set_option linter.unusedVariables false
variable (w0 : World) (H : Hp)
def aftR (R : Rm) (es : List En) : Rm := es.foldl outR R
theorem aftR_drop (es : List En) (i : Nat) (hi : i < es.length) (R : Rm) : aftR R (es.drop i) = aftR (outR R es[i]) (es.drop (i + 1)) := by
  rw [List.drop_eq_getElem_cons hi]; rfl
theorem outR_ok {R : Rm} (e : En) (h : roomB R = true) : roomB (outR R e) = true := by
  unfold outR
  split
  · rename_i hc
    simp only [canB, Bool.and_eq_true] at hc
    exact hc.2.2.2.2
  · exact h
theorem aftR_ok : ∀ (es : List En) {R : Rm}, roomB R = true → roomB (aftR R es) = true
  | [], _, h => h
  | e :: es, _, h => aftR_ok es (outR_ok e h)
theorem aftR_big : ∀ (es : List En) {R : Rm}, Big R → (∀ e ∈ es, BigE e) → Big (aftR R es)
  | [], _, h, _ => h
  | e :: es, _, h, he => aftR_big es (outR_sm h (he e (by simp))) (fun x hx => he x (by simp [hx]))
theorem PlS.setRoom {H : Hp} {n : Nat} {g : List (Option Ob)} {R : Rm} {x : Ad} (h : PlS H n g R x) {k : Nat} {cs : List Value} (hk : g[k]? = some (some (.row 26 cs))) (X : Option Ob) : PlS H n (g.set k X) R x := by
  refine ⟨h.m.imp id fun ⟨j, a, b⟩ => ⟨j, ?_, b⟩, h.k.imp id fun ⟨j, a, b⟩ => ⟨j, ?_, b⟩⟩
  · have hne : k ≠ j := by
      intro e; rw [e, a] at hk; simp at hk
    rw [List.getElem?_set_ne hne]; exact a
  · have hne : k ≠ j := by
      intro e; rw [e, a] at hk; simp at hk
    rw [List.getElem?_set_ne hne]; exact a
set_option maxHeartbeats 4000000 in
theorem hbAfter_ok (B : Hp) (M : List (Option Ob)) (R : Rm) (x : Ad) (es : List En) (A : Option Addr) (c : Nat) (hT : Tabs w0) (hpl : PlS B 0 M R x) (hsh : x.b = none → x.a = none) (hb : Big R) (he : ∀ e ∈ es, BigE e) (hR : roomB R = true) (hs : Sl w0 (Hx B M) A 9 (es.map En.enc)) (hl : es.length ≤ 1000) :
    AFn Tryz.prog w0 15 #[.agg (R.enc x).toArray, .slice A es.length c] (Hx B M) fun v H2 => ∃ x' L, H2 = Hx B (M ++ L) ∧ v = .agg ((aftR R es).enc x').toArray ∧ PlS B 0 (M ++ L) (aftR R es) x' ∧ (x'.b = none → x'.a = none) := by
  have hb1 : ∀ (g : List (Option Ob)) (Y : Option Ob) (r : List (Option Ob)), (g ++ Y :: r)[g.length]? = some Y := fun g Y r => by rw [List.getElem?_append_right (Nat.le_refl _)]; simp
  have gi : ∀ (g r : List (Option Ob)) (k : Nat), (g ++ r)[g.length + k]? = r[k]? := fun g r k => by rw [List.getElem?_append_right (by omega)]; simp
  have si : ∀ (g r : List (Option Ob)) (k : Nat) (Z : Option Ob), (g ++ r).set (g.length + k) Z = g ++ r.set k Z := fun g r k Z => by rw [List.set_append_right _ _ (by omega)]; simp
  have si0 : ∀ (g r : List (Option Ob)) (Z : Option Ob), (g ++ r).set g.length Z = g ++ r.set 0 Z := fun g r Z => by rw [List.set_append_right _ _ (by omega)]; simp
  have hs2 : ∀ r, Sl w0 (Hx B (M ++ r)) A 9 (es.map En.enc) := fun r => by have := hs.old r; rwa [Hx_Hx] at this
  refine AFn_of Tryz.func15 rfl (by kernel_rfl) ?_
  have r := Tryz.results15
  simp only [go_sem, cond, Nat.reduceAdd, Nat.reduceLeDiff, Nat.reduceEqDiff, Nat.reduceBEq, decide_true, decide_false, Int.toNat_natCast, r, hb1, gi, si, si0, beq_self_eq_true, List.set_cons_zero, List.set_cons_succ, List.append_assoc, List.length_append, List.length_cons, List.singleton_append, List.cons_append, List.nil_append, Rm.enc]
  refine xw_loop (fun (i : Nat) T H' => i ≤ es.length ∧ T 1 = .slice A es.length c ∧ T 2 = .pointer (some ⟨nid B M.length, 0, some 5⟩) ∧ T 4 = .pointer (some ⟨nid B (M.length + 1), 0, some 5⟩) ∧ T 5 = .int .i64 i ∧ ∃ R1 x1 g, H' = Hx B (M ++ some (.row 26 (R1.enc x1)) :: some (.row 26 [.string em, .int .i64 0, .slice none 0 0, .slice none 0 0, .string em]) :: g) ∧ PlS B 0 (M ++ some (.row 26 (R1.enc x1)) :: some (.row 26 [.string em, .int .i64 0, .slice none 0 0, .slice none 0 0, .string em]) :: g) R1 x1 ∧ (x1.b = none → x1.a = none) ∧ roomB R1 = true ∧ Big R1 ∧ aftR R1 (es.drop i) = aftR R es) (fun i => es.length - i) 0 (by kernel_rfl) ⟨Nat.zero_le _, rfl, rfl, rfl, rfl, R, x, [], rfl, hpl.more _, hsh, hR, hb, rfl⟩ ?_
  rintro i T H' ⟨hi, t1, t2, t4, t5, R1, x1, g, rfl, hp1, hs1, hR1, hb1', ha⟩
  by_cases hlt : i < es.length
  · obtain ⟨b, o, sp, rfl, -, hw⟩ := mcell (hs2 (some (.row 26 (R1.enc x1)) :: some (.row 26 [.string em, .int .i64 0, .slice none 0 0, .slice none 0 0, .string em]) :: g)) hlt
    have c0 := hw [] rfl
    rw [Hx_nil] at c0
    have d1 : ((i : Int) < (es.length : Int)) = True := eq_true (by omega)
    have d2 : (0 ≤ (i : Int)) = True := eq_true (by omega)
    rw [aftR_drop _ i hlt] at ha
    simp only [Rm.enc, En.enc] at c0
    simp only [go_sem, cond, Nat.reduceAdd, Nat.reduceLeDiff, Nat.reduceEqDiff, Nat.reduceBEq, decide_true, decide_false, Int.toNat_natCast, r, hb1, gi, si, si0, beq_self_eq_true, List.set_cons_zero, List.set_cons_succ, List.append_assoc, List.length_append, List.length_cons, List.singleton_append, List.cons_append, List.nil_append, t1, t2, t4, t5, d1, d2, c0, Rm.enc]
    (refine xw_open (id := 4) [0, 0, 0, 6, 14, 31, 63, 127, 127, 255] [.q 1, .q 2, .q 3, .q 0, .q 4, .e 5, .q 6, .q 7, .q 8, .e 9] rfl (by kernel_rfl) ?_; simp only [go_sem, cond, Nat.reduceAdd, Nat.reduceLeDiff, Nat.reduceEqDiff, Nat.reduceBEq, decide_true, decide_false, Int.toNat_natCast, r, hb1, gi, si, si0, beq_self_eq_true, List.set_cons_zero, List.set_cons_succ, List.append_assoc, List.length_append, List.length_cons, List.singleton_append, List.cons_append, List.nil_append, t1, t2, t4, t5, d1, d2, c0, Rm.enc])
    refine call (RoomApplyI_any w0 B _ R1 x1 es[i] hT hp1 hs1 hb1' (he _ (List.getElem_mem hlt)) hR1) ?_
    rintro v H2 ⟨x2, L, rfl, rfl, hp2, hs3⟩
    simp only [go_sem, cond, Nat.reduceAdd, Nat.reduceLeDiff, Nat.reduceEqDiff, Nat.reduceBEq, decide_true, decide_false, Int.toNat_natCast, r, hb1, gi, si, si0, beq_self_eq_true, List.set_cons_zero, List.set_cons_succ, List.append_assoc, List.length_append, List.length_cons, List.singleton_append, List.cons_append, List.nil_append, t1, t2, t4, t5, Rm.enc]
    refine ⟨i + 1, ⟨hlt, t1, t2, t4, int_succ hlt (by omega), outR R1 es[i], x2, g ++ L, rfl, ?_, hs3, outR_ok _ hR1, outR_sm hb1' (he _ (List.getElem_mem hlt)), ha⟩, lt_meas hlt⟩
    have h3 := hp2.setRoom (k := M.length) (by rw [List.append_assoc]; exact hb1 _ _ _) (some (.row 26 ((outR R1 es[i]).enc x2)))
    rw [List.append_assoc, si0] at h3
    exact h3
  · obtain rfl : i = es.length := by omega
    have d1 : ((es.length : Int) < (es.length : Int)) = False := eq_false (by omega)
    rw [List.drop_length] at ha
    simp only [go_sem, cond, Nat.reduceAdd, Nat.reduceLeDiff, Nat.reduceEqDiff, Nat.reduceBEq, decide_true, decide_false, Int.toNat_natCast, r, hb1, gi, si, si0, beq_self_eq_true, List.set_cons_zero, List.set_cons_succ, List.append_assoc, List.length_append, List.length_cons, List.singleton_append, List.cons_append, List.nil_append, t1, t2, t4, t5, d1, Rm.enc]
    obtain rfl : R1 = aftR R es := ha
    refine ⟨x1, _, rfl, rfl, ?_, hs1⟩
    have h3 := hp1.setRoom (k := M.length + 1) (by rw [gi]; rfl) (some (.row 26 ((aftR R es).enc x1)))
    rw [si] at h3
    exact h3
end Go.Proofs.YtmacpgoclhgafaaGreatDoorW.FA

namespace Go.Proofs.YtmacpgoclhgafaaGreatDoorW.FA
open Go.RowKit Go.Proofs.YtmacpgoclhgafaaGreatDoorW.XM Go.Proofs Go.Proofs.YtmacpgoclhgafaaGreatDoorW.XWords
set_option maxRecDepth 100000
set_option linter.unusedSimpArgs false
set_option linter.unusedVariables false
variable (w0 : World) (H : Hp)
end Go.Proofs.YtmacpgoclhgafaaGreatDoorW.FA

namespace Go.Proofs.YtmacpgoclhgafaaGreatDoorW.FA
open Go.RowKit Go.Proofs.YtmacpgoclhgafaaGreatDoorW.XM Go.Proofs Go.Proofs.YtmacpgoclhgafaaGreatDoorW.XWords
set_option maxRecDepth 100000
set_option linter.unusedSimpArgs false
set_option linter.unusedVariables false
variable (w0 : World) (H : Hp)
/-- What an outcast says who would come in. -/
def outS (R : Rm) : Sy := ⟨6, R.name, ⟨#[71, 117, 101, 115, 116]⟩, em, em, em, em, 0, 0, 0⟩
theorem outS_ok {R : Rm} (h : userB R.name = true) : sayB (outS R) = true := by
  have h1 : eqS (outS R) (cleanS (outS R)) = true := by
    show eqS (outS R) ⟨6, R.name, ⟨#[71, 117, 101, 115, 116]⟩, em, em, em, em, 0, 0, 0⟩ = true
    simp only [eqS, outS, beq_self_eq_true, Bool.and_self]
  have h2 : nickB ⟨#[71, 117, 101, 115, 116]⟩ = true := by kernel_rfl
  unfold sayB xS
  rw [h1]
  show (true && ((!decide ((6 : Int) ≤ 6) || userB R.name) && ((!decide ((8 : Int) ≤ 6) || wordB em) && nickB ⟨#[71, 117, 101, 115, 116]⟩))) = true
  rw [h, h2]
  rfl
theorem outS_big {R : Rm} (h : Big R) : BigS (outS R) :=
  ⟨h.nm, (by decide : (⟨#[71, 117, 101, 115, 116]⟩ : ByteArray).size ≤ 1000000000000), (by decide : em.size ≤ 1000000000000), (by decide : em.size ≤ 1000000000000), (by decide : em.size ≤ 1000000000000), (by decide : em.size ≤ 1000000000000)⟩
theorem out_no {R : Rm} {es : List En} {u : ByteArray} (hn : userB R.name = true) (hR : roomB R = true) (hu : userB u = true) (h0 : rankB R.ks u = 0) (hx : ¬ 9999 < IntKind.i64.wrap (R.next + 3)) : rdo R es u (outS R) = ([], 6) := by
  unfold rdo
  rw [if_neg (by rw [hR]; decide), if_neg (by rw [hu]; decide), if_neg (by rw [outS_ok hn]; decide), if_neg (by show ¬ (inB 6 6 11 = false); decide), if_neg (by show ¬ ((R.name.toList == R.name.toList) = false); rw [beq_self_eq_true]; decide)]
  unfold doR
  rw [if_neg hx, if_pos (show ((outS R).kind == 6) = true from rfl)]
  unfold joinR
  rw [if_pos (by rw [h0]; rfl)]
theorem out_away {R : Rm} (hm : MsOk R.ms R.ks) {u : ByteArray} (h0 : rankB R.ks u = 0) : idxP (isU u) R.ms 0 < 0 := by
  rcases idxP_find (isU u) R.ms 0 with ⟨f1, _⟩ | ⟨j, hj, f1, f2⟩
  · rw [f1]; decide
  · exfalso
    have h1 := List.find?_some f2
    have h2 : R.ms[j].user.toList = u.toList := eq_of_beq h1
    have h3 : R.ms[j].user = u := ba_ext h2
    have h4 := (hm.each _ (List.getElem_mem hj)).2.2.2.2
    rw [h3] at h4
    exact h4 h0
set_option maxHeartbeats 20000000 in
theorem law_RoomOut (A : Option Addr) (c : Nat) (bs : List UInt8) (hT : Tabs w0) (hc : CoOk w0 A c bs) : AFn Tryz.prog w0 7 #[.slice A bs.length c] H fun v H2 => v = .bool true ∧ H2 = H := by
  have hb : ∀ (g : List (Option Ob)) (Y : Option Ob) (r : List (Option Ob)), (g ++ Y :: r)[g.length]? = some Y := fun g Y r => by rw [List.getElem?_append_right (Nat.le_refl _)]; simp
  have gi : ∀ (g r : List (Option Ob)) (k : Nat), (g ++ r)[g.length + k]? = r[k]? := fun g r k => by rw [List.getElem?_append_right (by omega)]; simp
  have si : ∀ (g r : List (Option Ob)) (k : Nat) (Z : Option Ob), (g ++ r).set (g.length + k) Z = g ++ r.set k Z := fun g r k Z => by rw [List.set_append_right _ _ (by omega)]; simp
  have si0 : ∀ (g r : List (Option Ob)) (Z : Option Ob), (g ++ r).set g.length Z = g ++ r.set 0 Z := fun g r Z => by rw [List.set_append_right _ _ (by omega)]; simp
  have bne' : ∀ (c a b : Bool), xBin Tryz.prog .neq 4 c (.bool a) (.bool b) = some (.bool (!(a == b))) := fun c a b => by simp [xBin, XF.isB_4]
  have beq' : ∀ (c a b : Bool), xBin Tryz.prog .eql 4 c (.bool a) (.bool b) = some (.bool (a == b)) := fun c a b => by simp [xBin, XF.isB_4]
  refine AFn.scal rfl Tryz.func7 rfl (by kernel_rfl) ?_
  have r := Tryz.results7
  simp only [go_sem, cond, Nat.reduceAdd, Nat.reduceLeDiff, Nat.reduceEqDiff, Nat.reduceBEq, decide_true, decide_false, Int.toNat_natCast, r]
  refine Br_intro ?_ ?_ <;> intro h0 <;> simp only [go_sem, cond, Nat.reduceAdd, Nat.reduceLeDiff, Nat.reduceEqDiff, Nat.reduceBEq, decide_true, decide_false, Int.toNat_natCast, r, hb, gi, si, si0, bne', beq', beq_self_eq_true, Bool.not_true, Bool.not_false, List.set_cons_zero, List.set_cons_succ, List.append_assoc, List.length_append, List.length_cons, List.singleton_append, List.cons_append, List.nil_append, h0]
  · exact ⟨_, rfl⟩
  refine call (DrawRoomDo_ok w0 _ A c bs hc) ?_
  rintro v H2 ⟨R, x, es, kl, u, s, g, rfl, rfl, hpl, hsm, hlm, hlk, hsh, hkl, hes, hlen, hu, hy⟩
  rw [Hx_nil] at hpl
  have hbg := hsm.big
  have hbs := hy.bigS
  have hR0 := (PlS.at (w0 := w0) (pre := []) hpl rfl (by omega) (by omega))
  rw [List.nil_append] at hR0
  have hRm : ∀ rest, RmAt w0 (Hx H (g ++ rest)) R x := fun rest => by have := hR0.1.old rest; rwa [Hx_Hx] at this
  have hEs : ∀ rest, Sl w0 (Hx H (g ++ rest)) (some ⟨nid H kl, 0, some (es.length * 9)⟩) 9 (es.map En.enc) := fun rest => Sl_own elen _ es H _ _ (by rw [List.getElem?_append_left (lt_of_get hkl)]; exact hkl)
  have hn0 : ∀ k, nid (Hx H []) k = nid H k := fun k => by rw [Hx_nil]
  simp only [go_sem, cond, Nat.reduceAdd, Nat.reduceLeDiff, Nat.reduceEqDiff, Nat.reduceBEq, decide_true, decide_false, Int.toNat_natCast, r, hb, gi, si, si0, bne', beq', beq_self_eq_true, Bool.not_true, Bool.not_false, List.set_cons_zero, List.set_cons_succ, List.append_assoc, List.length_append, List.length_cons, List.singleton_append, List.cons_append, List.nil_append, hn0, Rm.enc, Sy.enc]
  refine call (RoomDoI_ok w0 _ R x es _ _ u s hT (hRm _) hbg (hEs _) (by omega) (by omega) hbs) ?_
  rintro v H2 ⟨A1, c1, g1, rfl, rfl, hs1⟩
  simp only [go_sem, cond, Nat.reduceAdd, Nat.reduceLeDiff, Nat.reduceEqDiff, Nat.reduceBEq, decide_true, decide_false, Int.toNat_natCast, r, hb, gi, si, si0, bne', beq', beq_self_eq_true, Bool.not_true, Bool.not_false, List.set_cons_zero, List.set_cons_succ, List.append_assoc, List.length_append, List.length_cons, List.singleton_append, List.cons_append, List.nil_append, Rm.enc, Sy.enc]
  have hS1 : ∀ rest, Sl w0 (Hx H (g ++ some (.row 26 [.string R.name, .int .i64 R.next, .slice x.a R.ms.length x.c, .slice x.b R.ks.length x.d, .string R.subj]) :: some (.row 29 [.int .i64 s.kind, .string s.room, .string s.nick, .string s.name, .string s.id, .string s.ref, .string s.text, .int .i64 s.num, .int .i64 s.frm, .int .i64 s.back]) :: (g1 ++ rest))) A1 9 ((rdo R es u s).1.map En.enc) := fun rest => by
    have := hs1.old rest
    simpa only [Hx_Hx, List.append_assoc, List.cons_append, List.nil_append] using this
  refine call (RoomDoS_any w0 _ R x es _ _ u s (hRm _) hbg (hEs _) (by omega) (by omega) hbs) ?_
  rintro v H2 ⟨A2, c2, g2, rfl, rfl, hs2⟩
  have hS2 : ∀ rest, Sl w0 (Hx H (g ++ some (.row 26 [.string R.name, .int .i64 R.next, .slice x.a R.ms.length x.c, .slice x.b R.ks.length x.d, .string R.subj]) :: some (.row 29 [.int .i64 s.kind, .string s.room, .string s.nick, .string s.name, .string s.id, .string s.ref, .string s.text, .int .i64 s.num, .int .i64 s.frm, .int .i64 s.back]) :: (g1 ++ (g2 ++ rest)))) A2 9 ((rdo R es u s).1.map En.enc) := fun rest => by
    have := hs2.old rest
    simpa only [Hx_Hx, List.append_assoc, List.cons_append, List.nil_append] using this
  have hlen2 := rdo_len R es u s
  have hok := fun h => rdo_zero (R := R) (es := es) (u := u) (s := s) h
  have hbe : (rdo R es u s).2 = 0 → ∀ e ∈ (rdo R es u s).1, BigE e := fun h => by
    obtain ⟨h1, _, _, _, _, h2⟩ := hok h
    have hn := roomB_next h1
    rw [h2]
    exact fun e he => ((doR_sm R es u s hsm (by omega) (by omega) hy.sm).2 e he).big
  have hsh2 : roomB R = true → x.b = none → x.a = none := fun hrm h => by
    obtain ⟨a1, a2⟩ := roomB_noks hrm (hpl.nm.2 h).2
    rcases hsh h with h3 | h3 | h3
    · exact h3
    · omega
    · exact absurd a1 h3
  clear hs1 hs2 hsh
  have hq := hok
  clear hok
  obtain ⟨q, hqq⟩ : ∃ q, q = rdo R es u s := ⟨_, rfl⟩
  rw [← hqq] at hS1 hS2 hlen2 hq hbe ⊢
  obtain ⟨q1, q2⟩ := q
  simp only at hS1 hS2 hlen2 hq hbe ⊢
  simp only [go_sem, cond, Nat.reduceAdd, Nat.reduceLeDiff, Nat.reduceEqDiff, Nat.reduceBEq, decide_true, decide_false, Int.toNat_natCast, r, hb, gi, si, si0, bne', beq', beq_self_eq_true, Bool.not_true, Bool.not_false, List.set_cons_zero, List.set_cons_succ, List.append_assoc, List.length_append, List.length_cons, List.singleton_append, List.cons_append, List.nil_append, Rm.enc, Sy.enc]
  refine call_eq (hbLog_ok w0 _ q1 A1 A2 c1 c2 (hS1 _) (by have := hS2 []; simpa only [List.append_nil] using this) (by omega)) ?_
  simp only [go_sem, cond, Nat.reduceAdd, Nat.reduceLeDiff, Nat.reduceEqDiff, Nat.reduceBEq, decide_true, decide_false, Int.toNat_natCast, r, hb, gi, si, si0, bne', beq', beq_self_eq_true, Bool.not_true, Bool.not_false, List.set_cons_zero, List.set_cons_succ, List.append_assoc, List.length_append, List.length_cons, List.singleton_append, List.cons_append, List.nil_append, Rm.enc, Sy.enc]
  refine Br_intro ?_ ?_ <;> intro h1 <;> simp only [go_sem, cond, Nat.reduceAdd, Nat.reduceLeDiff, Nat.reduceEqDiff, Nat.reduceBEq, decide_true, decide_false, Int.toNat_natCast, r, hb, gi, si, si0, bne', beq', beq_self_eq_true, Bool.not_true, Bool.not_false, List.set_cons_zero, List.set_cons_succ, List.append_assoc, List.length_append, List.length_cons, List.singleton_append, List.cons_append, List.nil_append, Rm.enc, Sy.enc, h1]
  case refine_2 =>
    refine call_eq (hbLog_ok w0 _ q1 A1 A2 c1 c2 (hS1 _) (by have := hS2 []; simpa only [List.append_nil] using this) (by omega)) ?_
    simp only [go_sem, cond, Nat.reduceAdd, Nat.reduceLeDiff, Nat.reduceEqDiff, Nat.reduceBEq, decide_true, decide_false, Int.toNat_natCast, r, hb, gi, si, si0, bne', beq', beq_self_eq_true, Bool.not_true, Bool.not_false, List.set_cons_zero, List.set_cons_succ, List.append_assoc, List.length_append, List.length_cons, List.singleton_append, List.cons_append, List.nil_append, Rm.enc, Sy.enc]
    exact ⟨_, rfl⟩
  obtain rfl : q2 = 0 := eq_of_beq h1
  obtain ⟨hroom, huu, hsay, hkd, hrn, hdo⟩ := hq rfl
  have hbe := hbe rfl
  have hplM : ∀ rest, PlS H 0 (g ++ rest) R x := fun rest => hpl.more rest
  refine call (hbAfter_ok w0 H _ R x q1 A1 c1 hT (hplM _) (hsh2 hroom) hbg hbe hroom (hS1 _) (by omega)) ?_
  rintro v H2 ⟨x2, L, rfl, rfl, hp2, hs3⟩
  have hR2 := aftR_ok q1 hroom
  have hB2 := aftR_big q1 hbg hbe
  clear hS1 hS2
  generalize aftR R q1 = R2 at *
  obtain ⟨l5, l6⟩ := roomB_len hR2
  simp only [go_sem, cond, Nat.reduceAdd, Nat.reduceLeDiff, Nat.reduceEqDiff, Nat.reduceBEq, decide_true, decide_false, Int.toNat_natCast, r, hb, gi, si, si0, bne', beq', beq_self_eq_true, Bool.not_true, Bool.not_false, List.set_cons_zero, List.set_cons_succ, List.append_assoc, List.length_append, List.length_cons, List.singleton_append, List.cons_append, List.nil_append, Rm.enc, Sy.enc]
  have hp3 := hp2.more [some (.row 26 [.string R2.name, .int .i64 R2.next, .slice x2.a R2.ms.length x2.c, .slice x2.b R2.ks.length x2.d, .string R2.subj])]
  obtain ⟨M1, hM1⟩ : ∃ M1, M1 = g ++ some (.row 26 [.string R.name, .int .i64 R.next, .slice x.a R.ms.length x.c, .slice x.b R.ks.length x.d, .string R.subj]) :: some (.row 29 [.int .i64 s.kind, .string s.room, .string s.nick, .string s.name, .string s.id, .string s.ref, .string s.text, .int .i64 s.num, .int .i64 s.frm, .int .i64 s.back]) :: (g1 ++ (g2 ++ (L ++ [some (.row 26 [.string R2.name, .int .i64 R2.next, .slice x2.a R2.ms.length x2.c, .slice x2.b R2.ks.length x2.d, .string R2.subj])]))) := ⟨_, rfl⟩
  obtain ⟨NN, hNN⟩ : ∃ NN, NN = g.length + (g1.length + (g2.length + L.length) + 1 + 1) := ⟨_, rfl⟩
  have mr : RmAt w0 (Hx H M1) R2 x2 := by
    have h := (PlS.at (w0 := w0) (pre := []) hp3 rfl (by omega) (by omega)).1
    rw [hM1]
    simpa only [List.append_assoc, List.cons_append, List.nil_append] using h
  have mb : M1[NN]? = some (some (.row 26 [.string R2.name, .int .i64 R2.next, .slice x2.a R2.ms.length x2.c, .slice x2.b R2.ks.length x2.d, .string R2.subj])) := by
    rw [hM1, hNN, show g ++ some (.row 26 [.string R.name, .int .i64 R.next, .slice x.a R.ms.length x.c, .slice x.b R.ks.length x.d, .string R.subj]) :: some (.row 29 [.int .i64 s.kind, .string s.room, .string s.nick, .string s.name, .string s.id, .string s.ref, .string s.text, .int .i64 s.num, .int .i64 s.frm, .int .i64 s.back]) :: (g1 ++ (g2 ++ (L ++ [some (.row 26 [.string R2.name, .int .i64 R2.next, .slice x2.a R2.ms.length x2.c, .slice x2.b R2.ks.length x2.d, .string R2.subj])]))) = (g ++ some (.row 26 [.string R.name, .int .i64 R.next, .slice x.a R.ms.length x.c, .slice x.b R.ks.length x.d, .string R.subj]) :: some (.row 29 [.int .i64 s.kind, .string s.room, .string s.nick, .string s.name, .string s.id, .string s.ref, .string s.text, .int .i64 s.num, .int .i64 s.frm, .int .i64 s.back]) :: (g1 ++ (g2 ++ L))) ++ [some (.row 26 [.string R2.name, .int .i64 R2.next, .slice x2.a R2.ms.length x2.c, .slice x2.b R2.ks.length x2.d, .string R2.subj])] by simp, show g.length + (g1.length + (g2.length + L.length) + 1 + 1) = (g ++ some (.row 26 [.string R.name, .int .i64 R.next, .slice x.a R.ms.length x.c, .slice x.b R.ks.length x.d, .string R.subj]) :: some (.row 29 [.int .i64 s.kind, .string s.room, .string s.nick, .string s.name, .string s.id, .string s.ref, .string s.text, .int .i64 s.num, .int .i64 s.frm, .int .i64 s.back]) :: (g1 ++ (g2 ++ L))).length by simp]
    exact hb _ _ _
  have hE0 : Sl w0 (Hx H M1) (some ⟨nid H kl, 0, some (es.length * 9)⟩) 9 (es.map En.enc) := by
    rw [hM1]
    exact hEs _
  rw [← hM1, ← hNN]
  clear hp2 hp3 hplM hM1 hNN
  have mb2 : ∀ G, (M1 ++ G)[NN]? = some (some (.row 26 [.string R2.name, .int .i64 R2.next, .slice x2.a R2.ms.length x2.c, .slice x2.b R2.ks.length x2.d, .string R2.subj])) := fun G => by
    rw [List.getElem?_append_left (by rcases Nat.lt_or_ge NN M1.length with h | h; exact h; rw [List.getElem?_eq_none h] at mb; cases mb)]
    exact mb
  have hE1 : ∀ G, Sl w0 (Hx H (M1 ++ G)) (some ⟨nid H kl, 0, some (es.length * 9)⟩) 9 (es.map En.enc) := fun G => by
    have := hE0.old G
    rwa [Hx_Hx] at this
  have mr1 : ∀ G, RmAt w0 (Hx H (M1 ++ G)) R2 x2 := fun G => by
    have := mr.old G
    rwa [Hx_Hx] at this
  have hk2 := ((roomB_iff R2).1 hR2).2.2.2.2.1.1
  have hm2 := ((roomB_iff R2).1 hR2).2.2.2.1.1
  have hnm2 := ((roomB_iff R2).1 hR2).1
  have hnx2 := ((roomB_iff R2).1 hR2).2.1
  refine xw_loop (fun (i : Nat) T H' => i ≤ R2.ks.length ∧ T 4 = .slice (some ⟨nid H kl, 0, some (es.length * 9)⟩) es.length es.length ∧ T 11 = .pointer (some ⟨nid H NN, 0, some 5⟩) ∧ T 12 = .int .i64 i ∧ ∃ G, H' = Hx H (M1 ++ G)) (fun i => R2.ks.length - i) 0 (by kernel_rfl) ⟨Nat.zero_le _, rfl, rfl, rfl, [], by rw [List.append_nil]⟩ ?_
  rintro i T H' ⟨hi, t4, t1, t5, G, rfl⟩
  by_cases hlt : i < R2.ks.length
  · obtain ⟨b, o, sp, hx, hcc, _⟩ := mcell mr.sk hlt
    have c1 := fun G => hcc 1 (.int .i64 R2.ks[i].num) G (by decide) rfl
    have c0 := fun G => hcc 0 (.string R2.ks[i].user) G (by decide) rfl
    simp only [Hx_Hx] at c1 c0
    have d1 : ((i : Int) < (R2.ks.length : Int)) = True := eq_true (by omega)
    have d2 : (0 ≤ (i : Int)) = True := eq_true (by omega)
    simp only [go_sem, cond, Nat.reduceAdd, Nat.reduceLeDiff, Nat.reduceEqDiff, Nat.reduceBEq, decide_true, decide_false, Int.toNat_natCast, r, hb, gi, si, si0, bne', beq', beq_self_eq_true, Bool.not_true, Bool.not_false, List.set_cons_zero, List.set_cons_succ, List.append_assoc, List.length_append, List.length_cons, List.singleton_append, List.cons_append, List.nil_append, mb2, hx, t1, t4, t5, d1, d2, c1, c0]
    refine Br_intro ?_ ?_ <;> intro h <;> simp only [go_sem, cond, Nat.reduceAdd, Nat.reduceLeDiff, Nat.reduceEqDiff, Nat.reduceBEq, decide_true, decide_false, Int.toNat_natCast, r, hb, gi, si, si0, bne', beq', beq_self_eq_true, Bool.not_true, Bool.not_false, List.set_cons_zero, List.set_cons_succ, List.append_assoc, List.length_append, List.length_cons, List.singleton_append, List.cons_append, List.nil_append, mb2, hx, t1, t4, t5, d1, d2, c1, c0, h]
    case refine_2 => exact ⟨i + 1, ⟨hlt, t4, t1, int_succ hlt (by omega), G, rfl⟩, lt_meas hlt⟩
    refine Br_intro ?_ ?_ <;> intro h9 <;> simp only [go_sem, cond, Nat.reduceAdd, Nat.reduceLeDiff, Nat.reduceEqDiff, Nat.reduceBEq, decide_true, decide_false, Int.toNat_natCast, r, hb, gi, si, si0, bne', beq', beq_self_eq_true, Bool.not_true, Bool.not_false, List.set_cons_zero, List.set_cons_succ, List.append_assoc, List.length_append, List.length_cons, List.singleton_append, List.cons_append, List.nil_append, mb2, hx, t1, t4, t5, d1, d2, c1, c0, h, h9]
    · exact ⟨i + 1, ⟨hlt, t4, t1, int_succ hlt (by omega), G, rfl⟩, lt_meas hlt⟩
    (refine xw_open (id := 13) [0, 0, 0, 4, 0, 28, 60, 124, 0, 256, 768, 2047, 4095, 8191, 8191, 16383, 65535] [.q 1, .q 2, .q 4, .q 8, .l 0, .l 3, .q 5, .q 6, .l 7, .q 9, .e 10, .d 7, .d 3, .d 0, .e 11, .q 12, .q 13, .q 14, .q 15, .q 16] rfl (by kernel_rfl) ?_; simp only [go_sem, cond, Nat.reduceAdd, Nat.reduceLeDiff, Nat.reduceEqDiff, Nat.reduceBEq, decide_true, decide_false, Int.toNat_natCast, r, hb, gi, si, si0, bne', beq', beq_self_eq_true, Bool.not_true, Bool.not_false, List.set_cons_zero, List.set_cons_succ, List.append_assoc, List.length_append, List.length_cons, List.singleton_append, List.cons_append, List.nil_append, mb2, hx, t1, t4, t5, d1, d2, c1, c0, h, h9])
    have hk0 : R2.ks[i].num = 0 := eq_of_beq h
    have hkm : R2.ks[i] ∈ R2.ks := List.getElem_mem hlt
    have hku := (hk2.each _ hkm).1
    have hr0 : rankB R2.ks R2.ks[i].user = 0 := (rankB_mem _ hk2.asc _ hkm).trans hk0
    have hd := RoomDoI_ok w0 _ R2 x2 es _ es.length R2.ks[i].user (outS R2) hT (mr1 G) hB2 (hE1 G) (by omega) (hB2.ku i hlt) (outS_big hB2)
    rw [out_no hnm2 hR2 hku hr0 (of_decide_eq_false h9)] at hd
    simp only [Rm.enc, hx] at hd
    refine call hd ?_
    rintro v H2 ⟨A3, c3, g3, rfl, rfl, hs4⟩
    simp only [go_sem, cond, Nat.reduceAdd, Nat.reduceLeDiff, Nat.reduceEqDiff, Nat.reduceBEq, decide_true, decide_false, Int.toNat_natCast, r, hb, gi, si, si0, bne', beq', beq_self_eq_true, Bool.not_true, Bool.not_false, List.set_cons_zero, List.set_cons_succ, List.append_assoc, List.length_append, List.length_cons, List.singleton_append, List.cons_append, List.nil_append, mb2, hx, t1, t4, t5, d1, d2, c1, c0, h, h9]
    (refine xw_open (id := 14) [0, 0, 2, 0, 14, 30, 62, 127, 255, 511, 1023, 2047, 4095] [.q 1, .q 3, .q 0, .q 2, .q 4, .q 5, .q 6, .e 7, .q 8, .q 9, .q 10, .q 11, .q 12] rfl (by kernel_rfl) ?_; simp only [go_sem, cond, Nat.reduceAdd, Nat.reduceLeDiff, Nat.reduceEqDiff, Nat.reduceBEq, decide_true, decide_false, Int.toNat_natCast, r, hb, gi, si, si0, bne', beq', beq_self_eq_true, Bool.not_true, Bool.not_false, List.set_cons_zero, List.set_cons_succ, List.append_assoc, List.length_append, List.length_cons, List.singleton_append, List.cons_append, List.nil_append, mb2, hx, t1, t4, t5, d1, d2, c1, c0, h, h9])
    have hd2 := hbMember_ok w0 (Hx H (M1 ++ (G ++ g3))) R2 x2 R2.ks[i].user (mr1 _)
    simp only [Rm.enc, hx] at hd2
    refine call_eq hd2 ?_
    have d3 : (0 ≤ idxP (isU R2.ks[i].user) R2.ms 0) = False := eq_false (by have := out_away hm2 hr0; omega)
    simp only [go_sem, cond, Nat.reduceAdd, Nat.reduceLeDiff, Nat.reduceEqDiff, Nat.reduceBEq, decide_true, decide_false, Int.toNat_natCast, r, hb, gi, si, si0, bne', beq', beq_self_eq_true, Bool.not_true, Bool.not_false, List.set_cons_zero, List.set_cons_succ, List.append_assoc, List.length_append, List.length_cons, List.singleton_append, List.cons_append, List.nil_append, mb2, hx, t1, t4, t5, d1, d2, d3, c1, c0, h, h9]
    exact ⟨i + 1, ⟨hlt, t4, t1, int_succ hlt (by omega), G ++ g3, rfl⟩, lt_meas hlt⟩
  · obtain rfl : i = R2.ks.length := by omega
    have d1 : ((R2.ks.length : Int) < (R2.ks.length : Int)) = False := eq_false (by omega)
    simp only [go_sem, cond, Nat.reduceAdd, Nat.reduceLeDiff, Nat.reduceEqDiff, Nat.reduceBEq, decide_true, decide_false, Int.toNat_natCast, r, hb, gi, si, si0, bne', beq', beq_self_eq_true, Bool.not_true, Bool.not_false, List.set_cons_zero, List.set_cons_succ, List.append_assoc, List.length_append, List.length_cons, List.singleton_append, List.cons_append, List.nil_append, mb2, t1, t4, t5, d1]
    exact ⟨_, rfl⟩
end Go.Proofs.YtmacpgoclhgafaaGreatDoorW.FA

namespace Go.Proofs.YtmacpgoclhgafaaGreatDoorW.FA
open Go.RowKit Go.ChangeShapes Go.WideShapes Go.ChangeAt Go.Deep Go.Proofs.YtmacpgoclhgafaaGreatDoorW.XM Go.Proofs Go.Proofs.YtmacpgoclhgafaaGreatDoorW.XWords Go.Proofs.YtmacpgoclhgafaaGreatDoorW.XRA
set_option maxRecDepth 100000
set_option linter.unusedVariables false
theorem byte_reads : ReadsA Tryz.prog encB 5 (fun _ => True) := by
  intro H enc w base spare held fuel cs x hx
  obtain ⟨n, e, q⟩ := ra_int Tryz.underlying5 _ _ _ _ _ _ _ _ _ hx
  have hq : 0 ≤ n ∧ n ≤ 255 := by
    simp only [Lit.wf, Bool.and_eq_true, decide_eq_true_eq] at q
    exact q
  refine ⟨UInt8.ofNat n.toNat, ?_, trivial⟩
  have h1 : (UInt8.ofNat n.toNat).toNat = n.toNat := by
    rw [UInt8.toNat_ofNat']; omega
  have h2 : (((UInt8.ofNat n.toNat).toNat : Nat) : Int) = n := by rw [h1]; omega
  rw [e, encB, h2]
theorem slice_spot {P : Program} {w : World} {base : Nat} {T e : TypeId} {v : Value} (ht : P.underlying T = some (.slice e)) (h : Value.okWide P w .any base T v) : ∀ a n c, v = .slice (some a) n c → a.spot = none := by
  intro a n c hv
  subst hv
  simp only [Value.okWide, ht] at h
  unfold Cell.okWide at h
  split at h <;> first
    | (rename_i h6; cases h6; done)
    | skip
  all_goals first
    | (unfold Cell.ok at h
       split at h <;> first
         | (rename_i h6; cases h6; done)
         | (exact h.elim)
         | (rename_i h6; cases h6; exact h.2.2.2.1)
         | (exact h.2.2.2.1))
    | skip
theorem code_ok {w : World} {A : Option Addr} {c : Nat} {bs : List UInt8} (k1 : bs.length ≤ c) (k4 : plain (.slice A bs.length c) = true) (k5 : A = none ∧ bs = [] ∨ ∃ b o, A = some ⟨b, o, none⟩ ∧ rdRo w b o (bs.length * 1) = some (flat encB bs)) : CoOk w A c bs :=
  ⟨fun H => (sl_of (enc := encB) (sz := 1) (fun _ => rfl) k5 H).1, k4, k1⟩
theorem code_reads {H : Type} {en : TypeId × Value → H} {w : World} {base : Nat} {spare : Nat → Bool} {held : Bool} {fuel : Nat} {u : Value} {x : DataW H × List MemPlace} (h : DataW.trod en Tryz.prog w base spare held fuel 22 [u] = some x) (hs : ∀ a n c, u = .slice (some a) n c → a.spot = none) : ∃ (A : Option Addr) (c : Nat) (l : List UInt8), u = .slice A l.length c ∧ plain (.slice A l.length c) = true ∧ CoOk w A c l := by
  obtain ⟨A, c, l, h1, h2, h3, h4, h5, h6⟩ := slice_readA byte_reads Tryz.underlying22 (by kernel_rfl) (fun _ => rfl) (by decide) (fun a v hv => by
    simp only [encB, List.mem_singleton] at hv
    subst hv
    rfl) h hs
  exact ⟨A, c, l, h1, h5, code_ok h2 h5 h6⟩
end Go.Proofs.YtmacpgoclhgafaaGreatDoorW.FA

namespace Go.Proofs.YtmacpgoclhgafaaGreatDoorW.XWords
open Go.Shelf Go.RowKit
theorem u8x : U8Extra Tryz.prog Tryz.lays260_ren := {
  n3 := by kernel_rfl
  n4 := by kernel_rfl
  y3 := by kernel_rfl
  y4 := by kernel_rfl
  c5 := by kernel_rfl
  c119 := by kernel_rfl
  c138 := by kernel_rfl }
theorem firstD : Go.Pinned.utf8First = Lib.firstData := by kernel_rfl
theorem acceptD : (Go.Proofs.YtmacpgoclhgafaaGreatDoor.Rows.laid_unicode_utf8_acceptRanges : DataW Unit) = Lib.acceptData := by kernel_rfl
theorem Tabs_of_laid {W : World} (h : laidMetH Tryz.prog Go.Proofs.YtmacpgoclhgafaaGreatDoor.Rows.fnRoomDoRow.laid W) : Tabs W := by
  have h' : laidMet Tryz.prog Go.Proofs.YtmacpgoclhgafaaGreatDoor.Rows.fnRoomDoRow.laid W := by
    rw [← MakeChecks.laidMetH_plain _ _ _ (by kernel_rfl)]
    exact h
  refine utf8Tabs_of_reads Tryz.lays260 u8x ?_ ?_
  · rw [← firstD]
    exact Lib.laidMet.reads h' (List.mem_cons_of_mem _ (List.mem_cons_self ..))
  · rw [← acceptD]
    exact Lib.laidMet.reads h' (List.mem_cons_self ..)
/-- What an initialiser lays, put into a variable's block. -/
def laidIn (cs : List Value) : Obj → Obj
  | .cells _ t frozen => .cells cs.toArray t frozen
  | o => o
def firstCells : List Value := Lib.firstTab.map fun z => Value.int .u8 z
def acceptCells : List Value := (List.range 16).flatMap fun i => [Value.int .u8 (Lib.accLo i), Value.int .u8 (Lib.accHi i)]
/-- A world for the rows' witness: the tables as their initialisers lay them. -/
noncomputable def laidWorld (os : Os) : World :=
  { World.holding Tryz.prog os ⟨#[], #[], []⟩ with heap := ((World.holding Tryz.prog os ⟨#[], #[], []⟩).heap.modify (Tryz.lays260_ren.g 3) (laidIn firstCells)).modify (Tryz.lays260_ren.g 4) (laidIn acceptCells) }
end Go.Proofs.YtmacpgoclhgafaaGreatDoorW.XWords

