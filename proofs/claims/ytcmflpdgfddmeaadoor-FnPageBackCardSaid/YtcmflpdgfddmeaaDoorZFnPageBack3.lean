/- FnPageBack: own words and contracts that the law's proof uses, part 3. No condition of its own. -/
import Derived.Test.YtcmflpdgfddmeaaDoorZFnPageBack2
import Derived.Test.YtcmflpdgfddmeaaDoorRows
import Derived.Lib.LaidU8
import Derived.LaidByTextLater
import Derived.WalkKit
import Derived.ProofKit
set_option linter.unusedSimpArgs false
set_option linter.unusedVariables false
namespace Go.Proofs.YtcmflpdgfddmeaaDoorW.FA
open Go.RowKit Go.Proofs.YtcmflpdgfddmeaaDoorW.XM Go.Proofs Go.Proofs.YtcmflpdgfddmeaaDoorW.XWords
set_option maxRecDepth 100000
set_option linter.unusedSimpArgs false
set_option linter.unusedVariables false
variable (w0 : World) (H : Hp)
theorem idxP_all {α : Type} (p : α → Bool) : ∀ (l : List α) (i : Nat), (idxP p l i = -1 ∧ ∀ a ∈ l, p a = false) ∨ ∃ k, ∃ h : k < l.length, idxP p l i = ((i + k : Nat) : Int) ∧ p l[k] = true ∧ ∀ a ∈ l.take k, p a = false
  | [], _ => .inl ⟨rfl, by simp⟩
  | a :: r, i => by
    unfold idxP
    by_cases h : p a = true
    · rw [if_pos h]
      exact .inr ⟨0, by simp, by simp, by simpa using h, by simp⟩
    · rw [if_neg h]
      have h' : p a = false := by simpa using h
      rcases idxP_all p r (i + 1) with ⟨h1, h2⟩ | ⟨k, hk, h1, h2, h3⟩
      · refine .inl ⟨h1, fun x hx => ?_⟩
        rcases List.mem_cons.1 hx with rfl | hx
        · exact h'
        · exact h2 x hx
      · refine .inr ⟨k + 1, by simp; omega, by rw [h1]; congr 1; omega, by simpa using h2, fun x hx => ?_⟩
        rw [List.take_succ_cons] at hx
        rcases List.mem_cons.1 hx with rfl | hx
        · exact h'
        · exact h3 x hx
def kpt {α : Type} (p : α → Bool) (l : List α) : List α := l.filter fun a => !p a
theorem kpt_all {α : Type} {p : α → Bool} {l : List α} (h : ∀ a ∈ l, p a = false) : kpt p l = l := List.filter_eq_self.2 fun a ha => by simp [h a ha]
theorem kpt_take {α : Type} (p : α → Bool) (l : List α) (i : Nat) (hi : i < l.length) : kpt p (l.take (i + 1)) = if p l[i] = true then kpt p (l.take i) else kpt p (l.take i) ++ [l[i]] := by
  rw [List.take_add_one, List.getElem?_eq_getElem hi, kpt, List.filter_append]
  cases h : p l[i] <;> simp [kpt, h]
theorem set_idn {α : Type} {l : List α} {j : Nat} {x : α} (h : l[j]? = some x) : l.set j x = l := by
  apply List.ext_getElem?
  intro q
  rw [List.getElem?_set]
  by_cases e : j = q
  · subst e
    rw [if_pos rfl]
    have := lt_of_get h
    simp only [this, if_true, h]
  · rw [if_neg e]
theorem deleteE_ok (B : Hp) (l : List (Option Ob)) (j : Nat) (rows : List En) (g : FuncId) (fi ca : List Value) (p : En → Bool) (hj : l[j]? = some (some (.row 35 (flat En.enc rows)))) (hn : rows.length ≤ 2000000)
    (hp : ∀ (e : En) (M : List En) (G : List (Option Ob)), AFn Tryd.prog w0 g (fi ++ [Value.agg e.enc.toArray] ++ ca).toArray (Hx B (l.set j (some (.row 35 (flat En.enc M))) ++ G)) fun v H2 => v = .bool (p e) ∧ H2 = Hx B (l.set j (some (.row 35 (flat En.enc M))) ++ G)) :
    AFn Tryd.prog w0 18 #[.slice (some ⟨nid B j, 0, some (rows.length * 9)⟩) rows.length rows.length, .func (.func g) fi.toArray ca.toArray] (Hx B l) fun v H2 => ∃ G Z, H2 = Hx B (l.set j (some (.row 35 (flat En.enc (kpt p rows) ++ Z))) ++ G) ∧ (flat En.enc (kpt p rows) ++ Z).length = rows.length * 9 ∧ v = .slice (some ⟨nid B j, 0, some (rows.length * 9)⟩) (kpt p rows).length rows.length := by
  have hlj : j < l.length := lt_of_get hj
  have hset := set_idn hj
  refine AFn_of Tryd.func18 rfl (by kernel_rfl) ?_
  have r := Tryd.results18
  simp only [go_sem, cond, Nat.reduceAdd, Nat.reduceLeDiff, Nat.reduceEqDiff, Nat.reduceBEq, decide_true, decide_false, Int.toNat_natCast, r]
  refine call_eq (indexE_ok w0 (Hx B l) En.enc _ rows.length rows (Sl_own elen _ rows B l j hj) hn elen g fi ca p (fun i hi => ?_)) ?_
  · have := hp rows[i] rows []
    rw [hset, List.append_nil] at this
    exact this
  simp only [go_sem, cond, Nat.reduceAdd, Nat.reduceLeDiff, Nat.reduceEqDiff, Nat.reduceBEq, decide_true, decide_false, Int.toNat_natCast, r]
  rcases idxP_all p rows 0 with ⟨h1, h2⟩ | ⟨k, hk, h1, h2, h3⟩
  · rw [h1]
    have d1 : ((-1 : Int) == -1) = true := rfl
    simp only [go_sem, cond, Nat.reduceAdd, Nat.reduceLeDiff, Nat.reduceEqDiff, Nat.reduceBEq, decide_true, decide_false, Int.toNat_natCast, r, d1]
    refine ⟨[], [], ?_, ?_, ?_⟩
    · rw [List.append_nil, List.append_nil, kpt_all h2, hset]
    · rw [List.append_nil, kpt_all h2, flat_len elen]
    · rw [kpt_all h2]
  · rw [h1, Nat.zero_add]
    have d1 : ((k : Int) == -1) = false := by rw [beq_eq_false_iff_ne]; omega
    simp only [go_sem, cond, Nat.reduceAdd, Nat.reduceLeDiff, Nat.reduceEqDiff, Nat.reduceBEq, decide_true, decide_false, Int.toNat_natCast, r, d1]
    have gs : ∀ (X : Option Ob) (G : List (Option Ob)), (l.set j X ++ G)[j]? = some X := fun X G => by rw [List.getElem?_append_left (by simpa using hlj), List.getElem?_set_self hlj]
    have ss : ∀ (X Y : Option Ob) (G : List (Option Ob)), (l.set j X ++ G).set j Y = l.set j Y ++ G := fun X Y G => by rw [List.set_append_left _ _ (by simpa using hlj), List.set_set]
    have ls : ∀ X : Option Ob, (l.set j X).length = l.length := fun X => List.length_set ..
    refine xw_loop (fun (i : Nat) T H' => k < i ∧ i ≤ rows.length ∧ T 0 = .slice (some ⟨nid B j, 0, some (rows.length * 9)⟩) rows.length rows.length ∧ T 1 = .func (.func g) fi.toArray ca.toArray ∧ T 6 = .int .i64 i ∧ ∃ q G M, q < i ∧ T 5 = .int .i64 (q : Int) ∧ H' = Hx B (l.set j (some (.row 35 (flat En.enc M))) ++ G) ∧ M.length = rows.length ∧ q = (kpt p (rows.take i)).length ∧ M.take q = kpt p (rows.take i) ∧ M.drop i = rows.drop i) (fun i => rows.length - i) (k + 1) (by kernel_rfl) ?_ ?_
    · refine ⟨Nat.lt_succ_self _, hk, rfl, rfl, ?_, k, [], rows, Nat.lt_succ_self _, rfl, by rw [hset, List.append_nil], rfl, ?_, ?_, rfl⟩
      · exact int_succ (m := rows.length) hk (by omega)
      · rw [kpt_take p rows k hk, if_pos h2, kpt_all h3, List.length_take, Nat.min_eq_left (by omega)]
      · rw [kpt_take p rows k hk, if_pos h2, kpt_all h3]
    rintro i T H' ⟨hki, hi, t0, t1, t6, q, G, M, hq, t5, rfl, hM, eq, e1, e2⟩
    by_cases hlt : i < rows.length
    · have hMi : M[i] = rows[i] := by
        have a1 := congrArg (fun x : List En => x[0]?) e2
        simp only [List.getElem?_drop, Nat.add_zero] at a1
        rw [List.getElem?_eq_getElem (by omega), List.getElem?_eq_getElem hlt] at a1
        exact Option.some.inj a1
      obtain ⟨b, o, sp, hx, _, hc⟩ := mcell (Sl_own (w0 := w0) elen 35 M B (l.set j (some (.row 35 (flat En.enc M))) ++ G) j (gs _ _)) (i := i) (by omega)
      cases hx
      have c0 := hc [] (elen _)
      have d1 : ((i : Int) < (rows.length : Int)) = True := eq_true (by omega)
      have d2 : (0 ≤ (i : Int)) = True := eq_true (by omega)
      have d3 : (0 ≤ (q : Int)) = True := eq_true (by omega)
      have d4 : ((q : Int) < (rows.length : Int)) = True := eq_true (by omega)
      rw [hMi, hM, Hx_nil] at c0
      have hp1 := hp rows[i] M (G ++ [some (.row 35 rows[i].enc)])
      rw [← List.append_assoc] at hp1
      simp only [En.enc, Nat.zero_add] at c0 hp1
      have hb : ∀ (X : List (Option Ob)) (Y : Option Ob), (X ++ [Y])[X.length]? = some Y := fun X Y => by simp
      have sb : ∀ (X : List (Option Ob)) (Y Z : Option Ob), (X ++ [Y]).set X.length Z = X ++ [Z] := fun X Y Z => by rw [List.set_append_right _ _ (Nat.le_refl _)]; simp
      have sj : ∀ (X Y : Option Ob) (G G2 : List (Option Ob)), (l.set j X ++ G ++ G2).set j Y = l.set j Y ++ (G ++ G2) := fun X Y G G2 => by rw [List.append_assoc, ss]
      have gj : ∀ (X : Option Ob) (G G2 : List (Option Ob)), (l.set j X ++ G ++ G2)[j]? = some X := fun X G G2 => by rw [List.append_assoc, gs]
      simp only [go_sem, cond, Nat.reduceAdd, Nat.reduceLeDiff, Nat.reduceEqDiff, Nat.reduceBEq, decide_true, decide_false, Int.toNat_natCast, t0, t1, t5, t6, d1, d2, c0, hb, sb, r]
      refine call_eq hp1 ?_
      simp only [go_sem, cond, Nat.reduceAdd, Nat.reduceLeDiff, Nat.reduceEqDiff, Nat.reduceBEq, decide_true, decide_false, Int.toNat_natCast, t0, t1, t5, t6, d1, d2, c0, hb, sb, r]
      refine Br_intro ?_ ?_ <;> intro hx <;> simp only [go_sem, cond, Nat.reduceAdd, Nat.reduceLeDiff, Nat.reduceEqDiff, Nat.reduceBEq, decide_true, decide_false, Int.toNat_natCast, t0, t1, t5, t6, d1, d2, d3, d4, c0, hb, sb, sj, gj, hx, r]
      · refine ⟨i + 1, ⟨by omega, hlt, t0, t1, int_succ hlt (by omega), q, _, M, by omega, t5, by rw [List.append_assoc], hM, ?_, ?_, ?_⟩, lt_meas hlt⟩
        · rw [kpt_take p rows i hlt, if_pos hx]; exact eq
        · rw [kpt_take p rows i hlt, if_pos hx]; exact e1
        · rw [← List.drop_drop, ← List.drop_drop, e2]
      · have hlen := flat_len elen M
        rw [hM] at hlen
        refine Req_intro ⟨hlen, by rw [hlen]; omega⟩ ?_
        simp only [go_sem, cond, Nat.reduceAdd, Nat.reduceLeDiff, Nat.reduceEqDiff, Nat.reduceBEq, decide_true, decide_false, Int.toNat_natCast, t0, t1, t5, t6, d1, d2, d3, d4, c0, hb, sb, sj, gj, hx, r]
        have p0 := flat_set elen M q rows[i] (by omega)
        simp only [En.enc] at p0
        simp only [go_sem, cond, Nat.reduceAdd, Nat.reduceLeDiff, Nat.reduceEqDiff, Nat.reduceBEq, decide_true, decide_false, Int.toNat_natCast] at p0
        rw [p0]
        refine ⟨i + 1, ⟨by omega, hlt, t0, t1, int_succ hlt (by omega), q + 1, _, M.set q rows[i], by omega, int_succ (m := rows.length) (by omega) (by omega), rfl, by rw [List.length_set, hM], ?_, ?_, ?_⟩, lt_meas hlt⟩
        · rw [kpt_take p rows i hlt, if_neg (by rw [hx]; decide), List.length_append, ← eq]; rfl
        · rw [kpt_take p rows i hlt, if_neg (by rw [hx]; decide), ← e1, List.take_add_one, List.take_set_of_le (Nat.le_refl _), List.getElem?_set_self (by omega)]; rfl
        · rw [List.drop_set_of_lt (by omega), ← List.drop_drop, ← List.drop_drop, e2]
    · obtain rfl : i = rows.length := by omega
      have d1 : ((rows.length : Int) < (rows.length : Int)) = False := eq_false (by omega)
      simp only [go_sem, cond, Nat.reduceAdd, Nat.reduceLeDiff, Nat.reduceEqDiff, Nat.reduceBEq, decide_true, decide_false, Int.toNat_natCast, t0, t1, t5, t6, d1, r]
      rw [List.take_length] at eq e1
      have hlen := flat_len elen M
      rw [hM] at hlen
      have how : ∀ cs : List Value, cs.length = rows.length * 9 → Go.Proofs.YtcmflpdgfddmeaaDoorW.XM.ownB Tryd.prog (Hx B (l.set j (some (.row 35 cs)) ++ G)) 9 (nid B j) (some (rows.length * 9)) := fun cs hcs => ⟨_, cs, false || true, by rw [Hx_get]; exact gs _ _, hcs, XF.lay_35⟩
      refine slc_sl XF.elm_23 rfl rfl _ _ _ _ (by omega) (by omega) (by omega) (how _ hlen) (.inr (by omega)) ?_
      have e5 : ((rows.length : Nat) : Int).toNat - ((q : Nat) : Int).toNat = rows.length - q := by omega
      rw [e5]
      simp only [go_sem, cond, Nat.reduceAdd, Nat.reduceLeDiff, Nat.reduceEqDiff, Nat.reduceBEq, decide_true, decide_false, Int.toNat_natCast, t0, t1, t5, t6, d1, r]
      have hle : q * 9 + (rows.length - q) * 9 ≤ rows.length * 9 := by omega
      refine clr_own _ rfl XF.elm_23 XF.zer_35 rfl (gs _ _) hlen XF.lay_35 hle ?_
      rw [ss]
      simp only [go_sem, cond, Nat.reduceAdd, Nat.reduceLeDiff, Nat.reduceEqDiff, Nat.reduceBEq, decide_true, decide_false, Int.toNat_natCast, t0, t1, t5, t6, d1, r]
      have hM2 : flat En.enc M = flat En.enc (kpt p rows) ++ flat En.enc (M.drop q) := by rw [← e1, ← flat_app, List.take_append_drop]
      have hq9 : (flat En.enc (kpt p rows)).length = q * 9 := by rw [flat_len elen, ← eq]
      generalize hz : (List.replicate (rows.length - q) [Value.string em, .int .i64 0, .int .i64 0, .string em, .string em, .string em, .string em, .string em, .int .i64 0]).flatten = Z
      have hZ : Z.length = (rows.length - q) * 9 := by rw [← hz]; simp
      have hp2 : putL (flat En.enc M) (q * 9) Z = flat En.enc (kpt p rows) ++ Z := by
        rw [hM2, ← hq9, putL_mid _ _ _ (by rw [flat_len elen, List.length_drop, hZ, hM]; exact Nat.le_refl _), List.drop_of_length_le (by rw [flat_len elen, List.length_drop, hZ, hM]; exact Nat.le_refl _), List.append_nil]
      have hlen2 : (flat En.enc (kpt p rows) ++ Z).length = rows.length * 9 := by rw [List.length_append, hq9, hZ]; omega
      simp only [em] at hz hp2
      try rw [hz]
      rw [hp2]
      refine slc_sl XF.elm_23 rfl rfl _ _ _ _ (by omega) (by omega) (by omega) (how _ hlen2) (.inl rfl) ?_
      simp only [go_sem, cond, Nat.reduceAdd, Nat.reduceLeDiff, Nat.reduceEqDiff, Nat.reduceBEq, decide_true, decide_false, Int.toNat_natCast, t0, t1, t5, t6, d1, r]
      refine ⟨G, Z, rfl, hlen2, ?_⟩
      rw [← eq]
      simp
end Go.Proofs.YtcmflpdgfddmeaaDoorW.FA

namespace Go.Proofs.YtcmflpdgfddmeaaDoorW.FA
open Go.RowKit Go.Proofs.YtcmflpdgfddmeaaDoorW.XM Go.Proofs Go.Proofs.YtcmflpdgfddmeaaDoorW.XWords
set_option maxRecDepth 100000
set_option linter.unusedSimpArgs false
set_option linter.unusedVariables false
variable (w0 : World) (H : Hp)
/-- A page, and a code. -/
structure Pg where
  full : Bool
  num : Nat
  rows : List En
  code : Int
def pgN (k : Int) : Pg := ⟨false, 0, [], k⟩
def pgR (es : List En) (s : Sy) : Pg :=
  let L := tk s.room s.name es
  if 0 ≤ s.frm then
    let z := idxP (isAt s.frm) L 0
    if z < 0 then pgN 11
    else let f := z.toNat + 1; let e := min (f + s.num.toNat) L.length; ⟨e == L.length, L.length, (L.drop f).take (e - f), 0⟩
  else if 0 ≤ s.back then
    let z := idxP (isAt s.back) L 0
    if z < 0 then pgN 11
    else let e := z.toNat; let f := e - s.num.toNat; ⟨f == 0, L.length, (L.drop f).take (e - f), 0⟩
  else let e := min s.num.toNat L.length; ⟨e == L.length, L.length, (L.drop 0).take (e - 0), 0⟩
/-- Where a page's entries lie. -/
def PgA (H : Hp) (g : List (Option Ob)) (A : Option Addr) (c : Nat) (rows : List En) : Prop := (A = none ∧ rows = [] ∧ c = 0) ∨ ∃ k, A = some ⟨nid H k, 0, some (rows.length * 9)⟩ ∧ g[k]? = some (some (.row 35 (flat En.enc rows)))
def pgV (p : Pg) (A : Option Addr) (c : Nat) : Value := .tuple #[.agg #[.bool p.full, .int .i64 p.num, .slice A p.rows.length c], .int .i64 p.code]
theorem idxP_rng {α : Type} (p : α → Bool) (l : List α) : idxP p l 0 = -1 ∨ ∃ j : Nat, j < l.length ∧ idxP p l 0 = (j : Int) := by
  rcases idxP_find p l 0 with ⟨f1, _⟩ | ⟨j, hj, f1, _⟩
  · exact .inl f1
  · exact .inr ⟨j, hj, by rw [f1, Nat.zero_add]⟩
theorem beq_cast (a b : Nat) : ((a : Int) == (b : Int)) = (a == b) := by
  rw [Bool.eq_iff_iff]; simp only [beq_iff_eq]; omega
theorem beq_cast0 (a : Nat) : ((a : Int) == 0) = (a == 0) := beq_cast a 0
/-- A part of a list of entries that is an own object. -/
theorem part_own (B : Hp) (l : List (Option Ob)) (j : Nat) (L : List En) (hj : l[j]? = some (some (.row 35 (flat En.enc L)))) {f e : Nat} (hfe : f ≤ e) (he : e ≤ L.length) :
    ∃ (a : Addr) (c' : Nat), (∀ (bb : Bool) (ee : Option (TypeId × Nat)) (K : Value → Hp → Prop) (k : Lk K), K (.slice (some a) (e - f) c') (Hx B l) → slcV Tryd.prog w0 23 bb ee (.slice (some ⟨nid B j, 0, some (L.length * 9)⟩) L.length L.length) (some (.int .i64 (f : Int))) (some (.int .i64 (e : Int))) none (Hx B l) k) ∧
      ∀ G, srcO (e - f) (rd w0 (Hx (Hx B l) G) a ((e - f) * 9)) = some (e - f, flat En.enc ((L.drop f).take (e - f))) := by
  have hlj : j < l.length := lt_of_get hj
  have how : ∀ G, Go.Proofs.YtcmflpdgfddmeaaDoorW.XM.ownB Tryd.prog (Hx (Hx B l) G) 9 (nid B j) (some (L.length * 9)) := fun G => ⟨_, flat En.enc L, false || true, by rw [Hx_Hx, Hx_get, List.getElem?_append_left hlj]; exact hj, flat_len elen L, XF.lay_35⟩
  rcases Nat.eq_zero_or_pos L.length with h0 | hp
  · obtain rfl : f = 0 := by omega
    obtain rfl : e = 0 := by omega
    have hL : L = [] := List.eq_nil_of_length_eq_zero h0
    subst hL
    refine ⟨⟨nid B j, 0, some 0⟩, 0, fun bb ee K k hk => ?_, fun G => ?_⟩
    · have how0 := how []
      rw [Hx_nil] at how0
      refine slc_sl XF.elm_23 rfl rfl _ _ _ _ (by decide) (by decide) (by decide) how0 (.inl rfl) ?_
      exact hk
    · have h1 := rd_flat (w0 := w0) elen 35 ([] : List En) B l j hj G
      simp only [List.length_nil, Nat.zero_mul] at h1
      show srcO 0 (rd w0 (Hx (Hx B l) G) ⟨nid B j, 0, some 0⟩ 0) = _
      rw [h1]; rfl
  · obtain ⟨a1, c1, hc1, s1, q1⟩ := slc_part (H := Hx B l) elen (by decide) (rd_flat elen _ L B l j hj) (Nat.le_refl _) how (l := f) (h := e) hfe he hp
    refine ⟨a1, c1, fun bb ee K k hk => ?_, q1⟩
    have := s1 23 35 [] (some (.int .i64 (f : Int))) (some (.int .i64 (e : Int))) bb ee K k XF.elm_23 rfl rfl
    rw [Hx_nil] at this
    exact this hk
set_option maxHeartbeats 4000000 in
theorem l7Page_ok (A : Option Addr) (c : Nat) (es : List En) (s : Sy) (hs : Sl w0 H A 9 (es.map En.enc)) (hl : es.length ≤ 2000000) (hn : 1 ≤ s.num ∧ s.num ≤ 4) (hf : -1 ≤ s.frm ∧ s.frm ≤ 9999) (hbk : -1 ≤ s.back ∧ s.back ≤ 9999) (hx : s.frm < 0 ∨ s.back < 0) : AFn Tryd.prog w0 25 #[.slice A es.length c, .agg s.enc.toArray] H fun v H2 => ∃ A' c' g, H2 = Hx H g ∧ v = pgV (pgR es s) A' c' ∧ PgA H g A' c' (pgR es s).rows := by
  have hb : ∀ (g : List (Option Ob)) (Y : Option Ob) (r : List (Option Ob)), (g ++ Y :: r)[g.length]? = some Y := fun g Y r => by rw [List.getElem?_append_right (Nat.le_refl _)]; simp
  have gi : ∀ (g r : List (Option Ob)) (k : Nat), (g ++ r)[g.length + k]? = r[k]? := fun g r k => by rw [List.getElem?_append_right (by omega)]; simp
  have si : ∀ (g r : List (Option Ob)) (k : Nat) (Z : Option Ob), (g ++ r).set (g.length + k) Z = g ++ r.set k Z := fun g r k Z => by rw [List.set_append_right _ _ (by omega)]; simp
  have si0 : ∀ (g r : List (Option Ob)) (Z : Option Ob), (g ++ r).set g.length Z = g ++ r.set 0 Z := fun g r Z => by rw [List.set_append_right _ _ (by omega)]; simp
  refine AFn_nil ?_
  refine AFn_of Tryd.func25 rfl (by kernel_rfl) ?_
  have r := Tryd.results25
  have hle := tk_le s.room s.name es
  simp only [go_sem, cond, Nat.reduceAdd, Nat.reduceLeDiff, Nat.reduceEqDiff, Nat.reduceBEq, decide_true, decide_false, Int.toNat_natCast, r, hb, gi, si, si0, beq_self_eq_true, Bool.not_true, Bool.not_false, List.set_cons_zero, List.set_cons_succ, List.append_assoc, List.length_append, List.length_cons, List.singleton_append, List.cons_append, List.nil_append, Sy.enc]
  refine call (l7Of_ok w0 _ A c es s.room s.name (hs.old _) (by omega)) ?_
  rintro v H2 ⟨g, rfl, rfl⟩
  obtain ⟨P, e0⟩ : ∃ P, P = pgR es s := ⟨_, rfl⟩
  rw [← e0]
  unfold pgR at e0
  generalize tk s.room s.name es = L at *
  have hSL : ∀ (X Y : Option Ob) (G : List (Option Ob)), Sl w0 (Hx H (X :: Y :: some (.row 35 (flat En.enc L)) :: G)) (some ⟨nid H 2, 0, some (L.length * 9)⟩) 9 (L.map En.enc) := fun X Y G => Sl_own elen _ L H _ _ rfl
  simp only [go_sem, cond, Nat.reduceAdd, Nat.reduceLeDiff, Nat.reduceEqDiff, Nat.reduceBEq, decide_true, decide_false, Int.toNat_natCast, r, hb, gi, si, si0, beq_self_eq_true, Bool.not_true, Bool.not_false, List.set_cons_zero, List.set_cons_succ, List.append_assoc, List.length_append, List.length_cons, List.singleton_append, List.cons_append, List.nil_append, Sy.enc]
  obtain ⟨n, hnn⟩ : ∃ n : Nat, s.num = (n : Int) := ⟨s.num.toNat, by omega⟩
  have hnt : s.num.toNat = n := by rw [hnn]; rfl
  simp only [hnt] at e0
  rw [hnn] at hn
  refine Br_intro ?_ ?_ <;> intro h1 <;> simp only [go_sem, cond, Nat.reduceAdd, Nat.reduceLeDiff, Nat.reduceEqDiff, Nat.reduceBEq, decide_true, decide_false, Int.toNat_natCast, r, hb, gi, si, si0, beq_self_eq_true, Bool.not_true, Bool.not_false, List.set_cons_zero, List.set_cons_succ, List.append_assoc, List.length_append, List.length_cons, List.singleton_append, List.cons_append, List.nil_append, Sy.enc, h1, hnn]
  · have h1' := of_decide_eq_true h1
    have d2 : (0 ≤ s.back) = False := eq_false (by omega)
    refine call_eq (l7At_ok w0 _ _ _ L s.frm (hSL _ _ _) (by omega)) ?_
    rw [if_pos h1'] at e0
    rcases idxP_rng (isAt s.frm) L with hz | ⟨j, hj, hz⟩
    · rw [hz] at e0 ⊢
      have w1 : (IntKind.i64.wrap ((-1 : Int) + 1) == 0) = true := by decide
      simp only [go_sem, cond, Nat.reduceAdd, Nat.reduceLeDiff, Nat.reduceEqDiff, Nat.reduceBEq, decide_true, decide_false, Int.toNat_natCast, r, hb, gi, si, si0, beq_self_eq_true, Bool.not_true, Bool.not_false, List.set_cons_zero, List.set_cons_succ, List.append_assoc, List.length_append, List.length_cons, List.singleton_append, List.cons_append, List.nil_append, Sy.enc, h1, hnn, w1]
      rw [if_pos (by decide)] at e0
      subst e0
      exact ⟨none, 0, _, rfl, rfl, .inl ⟨rfl, rfl, rfl⟩⟩
    · rw [hz] at e0 ⊢
      rw [if_neg (by omega)] at e0
      have w1 : IntKind.i64.wrap ((j : Int) + 1) = ((j + 1 : Nat) : Int) := wrap_i64 (by omega) (by omega)
      have w2 : (((j + 1 : Nat) : Int) == 0) = false := by rw [beq_eq_false_iff_ne]; omega
      have w3 : IntKind.i64.wrap ((L.length : Int) - ((j + 1 : Nat) : Int)) = ((L.length - (j + 1) : Nat) : Int) := by rw [wrap_i64 (by omega) (by omega)]; omega
      have w4 : IntKind.i64.wrap (((j + 1 : Nat) : Int) + (n : Int)) = ((j + 1 + n : Nat) : Int) := by rw [wrap_i64 (by omega) (by omega)]; omega
      simp only [go_sem, cond, Nat.reduceAdd, Nat.reduceLeDiff, Nat.reduceEqDiff, Nat.reduceBEq, decide_true, decide_false, Int.toNat_natCast, r, hb, gi, si, si0, beq_self_eq_true, Bool.not_true, Bool.not_false, List.set_cons_zero, List.set_cons_succ, List.append_assoc, List.length_append, List.length_cons, List.singleton_append, List.cons_append, List.nil_append, Sy.enc, h1, hnn, w1, w2, w3, d2]
      refine Br_intro ?_ ?_ <;> intro h3 <;> simp only [go_sem, cond, Nat.reduceAdd, Nat.reduceLeDiff, Nat.reduceEqDiff, Nat.reduceBEq, decide_true, decide_false, Int.toNat_natCast, r, hb, gi, si, si0, beq_self_eq_true, Bool.not_true, Bool.not_false, List.set_cons_zero, List.set_cons_succ, List.append_assoc, List.length_append, List.length_cons, List.singleton_append, List.cons_append, List.nil_append, Sy.enc, h1, hnn, w1, w2, w3, w4, d2, h3]
      · have h3' := of_decide_eq_true h3
        obtain ⟨a1, k1, p1, p2⟩ := part_own w0 H (some (.row 25 [.int .i64 s.kind, .string s.room, .string s.nick, .string s.name, .string s.id, .string s.ref, .string s.text, .int .i64 (n : Int), .int .i64 s.frm, .int .i64 s.back]) :: some (.row 30 [.bool false, .int .i64 0, .slice none 0 0]) :: some (.row 35 (flat En.enc L)) :: g) 2 L rfl (f := j + 1) (e := (j + 1 + n)) (by omega) (by omega)
        refine p1 _ _ _ _ ?_
        simp only [go_sem, cond, Nat.reduceAdd, Nat.reduceLeDiff, Nat.reduceEqDiff, Nat.reduceBEq, decide_true, decide_false, Int.toNat_natCast, r, hb, gi, si, si0, beq_self_eq_true, Bool.not_true, Bool.not_false, List.set_cons_zero, List.set_cons_succ, List.append_assoc, List.length_append, List.length_cons, List.singleton_append, List.cons_append, List.nil_append, Sy.enc, h1, hnn, w1, w2, w3, w4, d2, h3]
        have hrl : ((L.drop (j + 1)).take ((j + 1 + n) - (j + 1))).length = (j + 1 + n) - (j + 1) := by rw [List.length_take, List.length_drop]; omega
        have hcp := l7Copy_ok w0 (Hx H (some (.row 25 [.int .i64 s.kind, .string s.room, .string s.nick, .string s.name, .string s.id, .string s.ref, .string s.text, .int .i64 (n : Int), .int .i64 s.frm, .int .i64 s.back]) :: some (.row 30 [.bool false, .int .i64 0, .slice none 0 0]) :: some (.row 35 (flat En.enc L)) :: g)) a1 ((L.drop (j + 1)).take ((j + 1 + n) - (j + 1))) k1 (by rw [hrl]; exact p2) (by omega)
        rw [hrl] at hcp
        refine call hcp ?_
        rintro v H2 ⟨rfl, rfl⟩
        simp only [go_sem, cond, Nat.reduceAdd, Nat.reduceLeDiff, Nat.reduceEqDiff, Nat.reduceBEq, decide_true, decide_false, Int.toNat_natCast, r, hb, gi, si, si0, beq_self_eq_true, Bool.not_true, Bool.not_false, List.set_cons_zero, List.set_cons_succ, List.append_assoc, List.length_append, List.length_cons, List.singleton_append, List.cons_append, List.nil_append, Sy.enc, h1, hnn, w1, w2, w3, w4, d2, h3]
        have e1 : P = ⟨j + 1 + n == L.length, L.length, (L.drop (j + 1)).take ((j + 1 + n) - (j + 1)), 0⟩ := by
          rw [e0]
          simp only [Int.toNat_natCast]; rw [show min (j + 1 + n) L.length = j + 1 + n by omega]
        refine ⟨some ⟨nid H (g.length + 1 + 1 + 1 + 0), 0, some (((j + 1 + n) - (j + 1)) * 9)⟩, (j + 1 + n) - (j + 1), _, rfl, ?_, .inr ⟨g.length + 1 + 1 + 1 + 0, ?_, ?_⟩⟩
        · rw [e1]
          simp only [pgV, hrl, beq_cast, beq_cast0, beq_self_eq_true, w1, w2, w3, w4, d2, h3]
        · rw [e1, hrl]
        · rw [e1]
          simp only [List.getElem?_cons_succ, Nat.add_zero, hb, List.drop_zero]
      · have h3' := of_decide_eq_false h3
        obtain ⟨a1, k1, p1, p2⟩ := part_own w0 H (some (.row 25 [.int .i64 s.kind, .string s.room, .string s.nick, .string s.name, .string s.id, .string s.ref, .string s.text, .int .i64 (n : Int), .int .i64 s.frm, .int .i64 s.back]) :: some (.row 30 [.bool false, .int .i64 0, .slice none 0 0]) :: some (.row 35 (flat En.enc L)) :: g) 2 L rfl (f := j + 1) (e := L.length) (by omega) (by omega)
        refine p1 _ _ _ _ ?_
        simp only [go_sem, cond, Nat.reduceAdd, Nat.reduceLeDiff, Nat.reduceEqDiff, Nat.reduceBEq, decide_true, decide_false, Int.toNat_natCast, r, hb, gi, si, si0, beq_self_eq_true, Bool.not_true, Bool.not_false, List.set_cons_zero, List.set_cons_succ, List.append_assoc, List.length_append, List.length_cons, List.singleton_append, List.cons_append, List.nil_append, Sy.enc, h1, hnn, w1, w2, w3, w4, d2, h3]
        have hrl : ((L.drop (j + 1)).take (L.length - (j + 1))).length = L.length - (j + 1) := by rw [List.length_take, List.length_drop]; omega
        have hcp := l7Copy_ok w0 (Hx H (some (.row 25 [.int .i64 s.kind, .string s.room, .string s.nick, .string s.name, .string s.id, .string s.ref, .string s.text, .int .i64 (n : Int), .int .i64 s.frm, .int .i64 s.back]) :: some (.row 30 [.bool false, .int .i64 0, .slice none 0 0]) :: some (.row 35 (flat En.enc L)) :: g)) a1 ((L.drop (j + 1)).take (L.length - (j + 1))) k1 (by rw [hrl]; exact p2) (by omega)
        rw [hrl] at hcp
        refine call hcp ?_
        rintro v H2 ⟨rfl, rfl⟩
        simp only [go_sem, cond, Nat.reduceAdd, Nat.reduceLeDiff, Nat.reduceEqDiff, Nat.reduceBEq, decide_true, decide_false, Int.toNat_natCast, r, hb, gi, si, si0, beq_self_eq_true, Bool.not_true, Bool.not_false, List.set_cons_zero, List.set_cons_succ, List.append_assoc, List.length_append, List.length_cons, List.singleton_append, List.cons_append, List.nil_append, Sy.enc, h1, hnn, w1, w2, w3, w4, d2, h3]
        have e1 : P = ⟨L.length == L.length, L.length, (L.drop (j + 1)).take (L.length - (j + 1)), 0⟩ := by
          rw [e0]
          simp only [Int.toNat_natCast]; rw [show min (j + 1 + n) L.length = L.length by omega]
        refine ⟨some ⟨nid H (g.length + 1 + 1 + 1 + 0), 0, some ((L.length - (j + 1)) * 9)⟩, L.length - (j + 1), _, rfl, ?_, .inr ⟨g.length + 1 + 1 + 1 + 0, ?_, ?_⟩⟩
        · rw [e1]
          simp only [pgV, hrl, beq_cast, beq_cast0, beq_self_eq_true, w1, w2, w3, w4, d2, h3]
        · rw [e1, hrl]
        · rw [e1]
          simp only [List.getElem?_cons_succ, Nat.add_zero, hb, List.drop_zero]
  rw [if_neg (of_decide_eq_false h1)] at e0
  refine Br_intro ?_ ?_ <;> intro h2 <;> simp only [go_sem, cond, Nat.reduceAdd, Nat.reduceLeDiff, Nat.reduceEqDiff, Nat.reduceBEq, decide_true, decide_false, Int.toNat_natCast, r, hb, gi, si, si0, beq_self_eq_true, Bool.not_true, Bool.not_false, List.set_cons_zero, List.set_cons_succ, List.append_assoc, List.length_append, List.length_cons, List.singleton_append, List.cons_append, List.nil_append, Sy.enc, h1, h2, hnn]
  · rw [if_pos (of_decide_eq_true h2)] at e0
    refine call_eq (l7At_ok w0 _ _ _ L s.back (hSL _ _ _) (by omega)) ?_
    rcases idxP_rng (isAt s.back) L with hz | ⟨j, hj, hz⟩
    · rw [hz] at e0 ⊢
      have w1 : ((-1 : Int) < 0) = True := eq_true (by decide)
      simp only [go_sem, cond, Nat.reduceAdd, Nat.reduceLeDiff, Nat.reduceEqDiff, Nat.reduceBEq, decide_true, decide_false, Int.toNat_natCast, r, hb, gi, si, si0, beq_self_eq_true, Bool.not_true, Bool.not_false, List.set_cons_zero, List.set_cons_succ, List.append_assoc, List.length_append, List.length_cons, List.singleton_append, List.cons_append, List.nil_append, Sy.enc, h1, h2, hnn, w1]
      rw [if_pos (by decide)] at e0
      subst e0
      exact ⟨none, 0, _, rfl, rfl, .inl ⟨rfl, rfl, rfl⟩⟩
    · rw [hz] at e0 ⊢
      rw [if_neg (by omega)] at e0
      have w1 : ((j : Int) < 0) = False := eq_false (by omega)
      simp only [go_sem, cond, Nat.reduceAdd, Nat.reduceLeDiff, Nat.reduceEqDiff, Nat.reduceBEq, decide_true, decide_false, Int.toNat_natCast, r, hb, gi, si, si0, beq_self_eq_true, Bool.not_true, Bool.not_false, List.set_cons_zero, List.set_cons_succ, List.append_assoc, List.length_append, List.length_cons, List.singleton_append, List.cons_append, List.nil_append, Sy.enc, h1, h2, hnn, w1]
      refine Br_intro ?_ ?_ <;> intro h3 <;> simp only [go_sem, cond, Nat.reduceAdd, Nat.reduceLeDiff, Nat.reduceEqDiff, Nat.reduceBEq, decide_true, decide_false, Int.toNat_natCast, r, hb, gi, si, si0, beq_self_eq_true, Bool.not_true, Bool.not_false, List.set_cons_zero, List.set_cons_succ, List.append_assoc, List.length_append, List.length_cons, List.singleton_append, List.cons_append, List.nil_append, Sy.enc, h1, h2, hnn, w1, h3]
      · have h3' := of_decide_eq_true h3
        have w2 : IntKind.i64.wrap ((j : Int) - (n : Int)) = ((j - n : Nat) : Int) := by rw [wrap_i64 (by omega) (by omega)]; omega
        have w3 : IntKind.i64.wrap ((j : Int) - ((j - n : Nat) : Int)) = (n : Int) := by rw [wrap_i64 (by omega) (by omega)]; omega
        have w4 : ((n : Int) < (n : Int)) = False := eq_false (by omega)
        simp only [go_sem, cond, Nat.reduceAdd, Nat.reduceLeDiff, Nat.reduceEqDiff, Nat.reduceBEq, decide_true, decide_false, Int.toNat_natCast, r, hb, gi, si, si0, beq_self_eq_true, Bool.not_true, Bool.not_false, List.set_cons_zero, List.set_cons_succ, List.append_assoc, List.length_append, List.length_cons, List.singleton_append, List.cons_append, List.nil_append, Sy.enc, h1, h2, hnn, w1, w2, w3, w4, h3]
        obtain ⟨a1, k1, p1, p2⟩ := part_own w0 H (some (.row 25 [.int .i64 s.kind, .string s.room, .string s.nick, .string s.name, .string s.id, .string s.ref, .string s.text, .int .i64 (n : Int), .int .i64 s.frm, .int .i64 s.back]) :: some (.row 30 [.bool false, .int .i64 0, .slice none 0 0]) :: some (.row 35 (flat En.enc L)) :: g) 2 L rfl (f := j - n) (e := j) (by omega) (by omega)
        refine p1 _ _ _ _ ?_
        simp only [go_sem, cond, Nat.reduceAdd, Nat.reduceLeDiff, Nat.reduceEqDiff, Nat.reduceBEq, decide_true, decide_false, Int.toNat_natCast, r, hb, gi, si, si0, beq_self_eq_true, Bool.not_true, Bool.not_false, List.set_cons_zero, List.set_cons_succ, List.append_assoc, List.length_append, List.length_cons, List.singleton_append, List.cons_append, List.nil_append, Sy.enc, h1, hnn, h2, w1, w2, w3, w4, h3]
        have hrl : ((L.drop (j - n)).take (j - (j - n))).length = j - (j - n) := by rw [List.length_take, List.length_drop]; omega
        have hcp := l7Copy_ok w0 (Hx H (some (.row 25 [.int .i64 s.kind, .string s.room, .string s.nick, .string s.name, .string s.id, .string s.ref, .string s.text, .int .i64 (n : Int), .int .i64 s.frm, .int .i64 s.back]) :: some (.row 30 [.bool false, .int .i64 0, .slice none 0 0]) :: some (.row 35 (flat En.enc L)) :: g)) a1 ((L.drop (j - n)).take (j - (j - n))) k1 (by rw [hrl]; exact p2) (by omega)
        rw [hrl] at hcp
        refine call hcp ?_
        rintro v H2 ⟨rfl, rfl⟩
        simp only [go_sem, cond, Nat.reduceAdd, Nat.reduceLeDiff, Nat.reduceEqDiff, Nat.reduceBEq, decide_true, decide_false, Int.toNat_natCast, r, hb, gi, si, si0, beq_self_eq_true, Bool.not_true, Bool.not_false, List.set_cons_zero, List.set_cons_succ, List.append_assoc, List.length_append, List.length_cons, List.singleton_append, List.cons_append, List.nil_append, Sy.enc, h1, hnn, h2, w1, w2, w3, w4, h3]
        have e1 : P = ⟨j - n == 0, L.length, (L.drop (j - n)).take (j - (j - n)), 0⟩ := by
          rw [e0]
          simp only [Int.toNat_natCast]
        refine ⟨some ⟨nid H (g.length + 1 + 1 + 1 + 0), 0, some ((j - (j - n)) * 9)⟩, j - (j - n), _, rfl, ?_, .inr ⟨g.length + 1 + 1 + 1 + 0, ?_, ?_⟩⟩
        · rw [e1]
          simp only [pgV, hrl, beq_cast, beq_cast0, beq_self_eq_true, h2, w1, w2, w3, w4, h3]
        · rw [e1, hrl]
        · rw [e1]
          simp only [List.getElem?_cons_succ, Nat.add_zero, hb, List.drop_zero]
      · have h3' := of_decide_eq_false h3
        have w2 : IntKind.i64.wrap ((j : Int) - 0) = (j : Int) := by rw [wrap_i64 (by omega) (by omega)]; omega
        have z0 : (0 : Int) = ((0 : Nat) : Int) := rfl
        simp only [go_sem, cond, Nat.reduceAdd, Nat.reduceLeDiff, Nat.reduceEqDiff, Nat.reduceBEq, decide_true, decide_false, Int.toNat_natCast, r, hb, gi, si, si0, beq_self_eq_true, Bool.not_true, Bool.not_false, List.set_cons_zero, List.set_cons_succ, List.append_assoc, List.length_append, List.length_cons, List.singleton_append, List.cons_append, List.nil_append, Sy.enc, h1, h2, hnn, w1, w2, h3]
        obtain ⟨a1, k1, p1, p2⟩ := part_own w0 H (some (.row 25 [.int .i64 s.kind, .string s.room, .string s.nick, .string s.name, .string s.id, .string s.ref, .string s.text, .int .i64 (n : Int), .int .i64 s.frm, .int .i64 s.back]) :: some (.row 30 [.bool false, .int .i64 0, .slice none 0 0]) :: some (.row 35 (flat En.enc L)) :: g) 2 L rfl (f := 0) (e := j) (by omega) (by omega)
        refine p1 _ _ _ _ ?_
        simp only [go_sem, cond, Nat.reduceAdd, Nat.reduceLeDiff, Nat.reduceEqDiff, Nat.reduceBEq, decide_true, decide_false, Int.toNat_natCast, r, hb, gi, si, si0, beq_self_eq_true, Bool.not_true, Bool.not_false, List.set_cons_zero, List.set_cons_succ, List.append_assoc, List.length_append, List.length_cons, List.singleton_append, List.cons_append, List.nil_append, Sy.enc, h1, hnn, h2, w1, w2, h3]
        have hrl : ((L.drop (0)).take (j - (0))).length = j - (0) := by rw [List.length_take, List.length_drop]; omega
        have hcp := l7Copy_ok w0 (Hx H (some (.row 25 [.int .i64 s.kind, .string s.room, .string s.nick, .string s.name, .string s.id, .string s.ref, .string s.text, .int .i64 (n : Int), .int .i64 s.frm, .int .i64 s.back]) :: some (.row 30 [.bool false, .int .i64 0, .slice none 0 0]) :: some (.row 35 (flat En.enc L)) :: g)) a1 ((L.drop (0)).take (j - (0))) k1 (by rw [hrl]; exact p2) (by omega)
        rw [hrl] at hcp
        refine call hcp ?_
        rintro v H2 ⟨rfl, rfl⟩
        simp only [go_sem, cond, Nat.reduceAdd, Nat.reduceLeDiff, Nat.reduceEqDiff, Nat.reduceBEq, decide_true, decide_false, Int.toNat_natCast, r, hb, gi, si, si0, beq_self_eq_true, Bool.not_true, Bool.not_false, List.set_cons_zero, List.set_cons_succ, List.append_assoc, List.length_append, List.length_cons, List.singleton_append, List.cons_append, List.nil_append, Sy.enc, h1, hnn, h2, w1, w2, h3]
        have e1 : P = ⟨true, L.length, (L.drop (0)).take (j - (0)), 0⟩ := by
          rw [e0]
          simp only [Int.toNat_natCast]; rw [show j - n = 0 by omega]; rfl
        refine ⟨some ⟨nid H (g.length + 1 + 1 + 1 + 0), 0, some ((j - (0)) * 9)⟩, j - (0), _, rfl, ?_, .inr ⟨g.length + 1 + 1 + 1 + 0, ?_, ?_⟩⟩
        · rw [e1]
          simp only [pgV, hrl, beq_cast, beq_cast0, beq_self_eq_true, h2, w1, w2, h3]
        · rw [e1, hrl]
        · rw [e1]
          simp only [List.getElem?_cons_succ, Nat.add_zero, hb, List.drop_zero]
  · rw [if_neg (of_decide_eq_false h2)] at e0
    have w2 : IntKind.i64.wrap ((L.length : Int) - 0) = (L.length : Int) := by rw [wrap_i64 (by omega) (by omega)]; omega
    have w3 : IntKind.i64.wrap (0 + (n : Int)) = ((n : Nat) : Int) := by rw [wrap_i64 (by omega) (by omega)]; omega
    simp only [go_sem, cond, Nat.reduceAdd, Nat.reduceLeDiff, Nat.reduceEqDiff, Nat.reduceBEq, decide_true, decide_false, Int.toNat_natCast, r, hb, gi, si, si0, beq_self_eq_true, Bool.not_true, Bool.not_false, List.set_cons_zero, List.set_cons_succ, List.append_assoc, List.length_append, List.length_cons, List.singleton_append, List.cons_append, List.nil_append, Sy.enc, h1, h2, hnn, w2, w3]
    refine Br_intro ?_ ?_ <;> intro h3 <;> simp only [go_sem, cond, Nat.reduceAdd, Nat.reduceLeDiff, Nat.reduceEqDiff, Nat.reduceBEq, decide_true, decide_false, Int.toNat_natCast, r, hb, gi, si, si0, beq_self_eq_true, Bool.not_true, Bool.not_false, List.set_cons_zero, List.set_cons_succ, List.append_assoc, List.length_append, List.length_cons, List.singleton_append, List.cons_append, List.nil_append, Sy.enc, h1, h2, hnn, w2, w3, h3]
    · have h3' := of_decide_eq_true h3
      obtain ⟨a1, k1, p1, p2⟩ := part_own w0 H (some (.row 25 [.int .i64 s.kind, .string s.room, .string s.nick, .string s.name, .string s.id, .string s.ref, .string s.text, .int .i64 (n : Int), .int .i64 s.frm, .int .i64 s.back]) :: some (.row 30 [.bool false, .int .i64 0, .slice none 0 0]) :: some (.row 35 (flat En.enc L)) :: g) 2 L rfl (f := 0) (e := n) (by omega) (by omega)
      refine p1 _ _ _ _ ?_
      simp only [go_sem, cond, Nat.reduceAdd, Nat.reduceLeDiff, Nat.reduceEqDiff, Nat.reduceBEq, decide_true, decide_false, Int.toNat_natCast, r, hb, gi, si, si0, beq_self_eq_true, Bool.not_true, Bool.not_false, List.set_cons_zero, List.set_cons_succ, List.append_assoc, List.length_append, List.length_cons, List.singleton_append, List.cons_append, List.nil_append, Sy.enc, h1, hnn, h2, w2, w3, h3]
      have hrl : ((L.drop (0)).take (n - (0))).length = n - (0) := by rw [List.length_take, List.length_drop]; omega
      have hcp := l7Copy_ok w0 (Hx H (some (.row 25 [.int .i64 s.kind, .string s.room, .string s.nick, .string s.name, .string s.id, .string s.ref, .string s.text, .int .i64 (n : Int), .int .i64 s.frm, .int .i64 s.back]) :: some (.row 30 [.bool false, .int .i64 0, .slice none 0 0]) :: some (.row 35 (flat En.enc L)) :: g)) a1 ((L.drop (0)).take (n - (0))) k1 (by rw [hrl]; exact p2) (by omega)
      rw [hrl] at hcp
      refine call hcp ?_
      rintro v H2 ⟨rfl, rfl⟩
      simp only [go_sem, cond, Nat.reduceAdd, Nat.reduceLeDiff, Nat.reduceEqDiff, Nat.reduceBEq, decide_true, decide_false, Int.toNat_natCast, r, hb, gi, si, si0, beq_self_eq_true, Bool.not_true, Bool.not_false, List.set_cons_zero, List.set_cons_succ, List.append_assoc, List.length_append, List.length_cons, List.singleton_append, List.cons_append, List.nil_append, Sy.enc, h1, hnn, h2, w2, w3, h3]
      have e1 : P = ⟨n == L.length, L.length, (L.drop (0)).take (n - (0)), 0⟩ := by
        rw [e0]
        rw [show min n L.length = n by omega]
      refine ⟨some ⟨nid H (g.length + 1 + 1 + 1 + 0), 0, some ((n - (0)) * 9)⟩, n - (0), _, rfl, ?_, .inr ⟨g.length + 1 + 1 + 1 + 0, ?_, ?_⟩⟩
      · rw [e1]
        simp only [pgV, hrl, beq_cast, beq_cast0, beq_self_eq_true, h2, w2, w3, h3]
      · rw [e1, hrl]
      · rw [e1]
        simp only [List.getElem?_cons_succ, Nat.add_zero, hb, List.drop_zero]
    · have h3' := of_decide_eq_false h3
      obtain ⟨a1, k1, p1, p2⟩ := part_own w0 H (some (.row 25 [.int .i64 s.kind, .string s.room, .string s.nick, .string s.name, .string s.id, .string s.ref, .string s.text, .int .i64 (n : Int), .int .i64 s.frm, .int .i64 s.back]) :: some (.row 30 [.bool false, .int .i64 0, .slice none 0 0]) :: some (.row 35 (flat En.enc L)) :: g) 2 L rfl (f := 0) (e := L.length) (by omega) (by omega)
      refine p1 _ _ _ _ ?_
      simp only [go_sem, cond, Nat.reduceAdd, Nat.reduceLeDiff, Nat.reduceEqDiff, Nat.reduceBEq, decide_true, decide_false, Int.toNat_natCast, r, hb, gi, si, si0, beq_self_eq_true, Bool.not_true, Bool.not_false, List.set_cons_zero, List.set_cons_succ, List.append_assoc, List.length_append, List.length_cons, List.singleton_append, List.cons_append, List.nil_append, Sy.enc, h1, hnn, h2, w2, w3, h3]
      have hrl : ((L.drop (0)).take (L.length - (0))).length = L.length - (0) := by rw [List.length_take, List.length_drop]; omega
      have hcp := l7Copy_ok w0 (Hx H (some (.row 25 [.int .i64 s.kind, .string s.room, .string s.nick, .string s.name, .string s.id, .string s.ref, .string s.text, .int .i64 (n : Int), .int .i64 s.frm, .int .i64 s.back]) :: some (.row 30 [.bool false, .int .i64 0, .slice none 0 0]) :: some (.row 35 (flat En.enc L)) :: g)) a1 ((L.drop (0)).take (L.length - (0))) k1 (by rw [hrl]; exact p2) (by omega)
      rw [hrl] at hcp
      refine call hcp ?_
      rintro v H2 ⟨rfl, rfl⟩
      simp only [go_sem, cond, Nat.reduceAdd, Nat.reduceLeDiff, Nat.reduceEqDiff, Nat.reduceBEq, decide_true, decide_false, Int.toNat_natCast, r, hb, gi, si, si0, beq_self_eq_true, Bool.not_true, Bool.not_false, List.set_cons_zero, List.set_cons_succ, List.append_assoc, List.length_append, List.length_cons, List.singleton_append, List.cons_append, List.nil_append, Sy.enc, h1, hnn, h2, w2, w3, h3]
      have e1 : P = ⟨L.length == L.length, L.length, (L.drop (0)).take (L.length - (0)), 0⟩ := by
        rw [e0]
        rw [show min n L.length = L.length by omega]
      refine ⟨some ⟨nid H (g.length + 1 + 1 + 1 + 0), 0, some ((L.length - (0)) * 9)⟩, L.length - (0), _, rfl, ?_, .inr ⟨g.length + 1 + 1 + 1 + 0, ?_, ?_⟩⟩
      · rw [e1]
        simp only [pgV, hrl, beq_cast, beq_cast0, beq_self_eq_true, h2, w2, w3, h3]
      · rw [e1, hrl]
      · rw [e1]
        simp only [List.getElem?_cons_succ, Nat.add_zero, hb, List.drop_zero]
end Go.Proofs.YtcmflpdgfddmeaaDoorW.FA

namespace Go.Proofs.YtcmflpdgfddmeaaDoorW.FA
open Go.RowKit Go.Proofs.YtcmflpdgfddmeaaDoorW.XM Go.Proofs Go.Proofs.YtcmflpdgfddmeaaDoorW.XWords
set_option maxRecDepth 100000
set_option linter.unusedSimpArgs false
set_option linter.unusedVariables false
variable (w0 : World) (H : Hp)
theorem pageF1_ok (b : Nat) (s : Sy) (e : En) (hb : ∀ (L : List (Option Ob)) (f : Nat) (v : Value), f < 10 → s.enc[f]? = some v → rd w0 (Hx H L) ⟨b, f, some 10⟩ 1 = some [v]) :
    AFn Tryd.prog w0 20 #[.agg e.enc.toArray, .pointer (some ⟨b, 0, some 10⟩)] H fun v H2 => v = .bool (!tkB s.room s.name e) ∧ H2 = H := by
  have c1 := fun L => hb L 1 (.string s.room) (by decide) rfl
  have c3 := fun L => hb L 3 (.string s.name) (by decide) rfl
  refine AFn.scal rfl Tryd.func20 rfl (by kernel_rfl) ?_
  have r := Tryd.results20
  simp only [go_sem, cond, Nat.reduceAdd, Nat.reduceLeDiff, Nat.reduceEqDiff, Nat.reduceBEq, decide_true, decide_false, Int.toNat_natCast, r]
  simp only [go_sem, cond, Nat.reduceAdd, Nat.reduceLeDiff, Nat.reduceEqDiff, Nat.reduceBEq, decide_true, decide_false, Int.toNat_natCast, En.enc, c1, c3, r]
  repeat' (refine Br_intro ?_ ?_ <;> intro h <;> simp only [go_sem, cond, Nat.reduceAdd, Nat.reduceLeDiff, Nat.reduceEqDiff, Nat.reduceBEq, decide_true, decide_false, Int.toNat_natCast, En.enc, c1, c3, r, h])
  all_goals exact ⟨by first | (simp_all [tkB, emB]; done) | (simp only [tkB, emB, *]; simp), _, rfl⟩
theorem pageF2_ok (b : Nat) (q : Int) (e : En) (hb : ∀ (L : List (Option Ob)), rd w0 (Hx H L) ⟨b, 0, some 1⟩ 1 = some [.int .i64 q]) :
    AFn Tryd.prog w0 22 #[.agg e.enc.toArray, .pointer (some ⟨b, 0, some 1⟩)] H fun v H2 => v = .bool (isAt q e) ∧ H2 = H := by
  refine AFn.scal rfl Tryd.func22 rfl (by kernel_rfl) ?_
  have r := Tryd.results22
  simp only [go_sem, cond, Nat.reduceAdd, Nat.reduceLeDiff, Nat.reduceEqDiff, Nat.reduceBEq, decide_true, decide_false, Int.toNat_natCast, r]
  simp only [go_sem, cond, Nat.reduceAdd, Nat.reduceLeDiff, Nat.reduceEqDiff, Nat.reduceBEq, decide_true, decide_false, Int.toNat_natCast, En.enc, hb, r]
  exact ⟨rfl, _, rfl⟩
theorem kpt_tk (ro us : ByteArray) (es : List En) : kpt (fun e => !tkB ro us e) es = tk ro us es := by
  unfold kpt tk
  congr 1; funext e; simp
def pageR (es : List En) (s : Sy) : Pg := if (sayB s && (s.kind == 12)) = true then pgR es s else pgN 1
theorem page_rng {s : Sy} (h : sayB s = true) (hk : (s.kind == 12) = true) : (1 ≤ s.num ∧ s.num ≤ 4) ∧ (-1 ≤ s.frm ∧ s.frm ≤ 9999) ∧ (-1 ≤ s.back ∧ s.back ≤ 9999) ∧ (s.frm < 0 ∨ s.back < 0) := by
  have hk' : s.kind = 12 := by simpa using hk
  unfold sayB restS at h
  simp only [hk', Bool.and_eq_true, Bool.or_eq_true] at h
  simp (config := { decide := true }) only [inB, if_true, if_false, Bool.and_eq_true, Bool.or_eq_true, decide_eq_true_eq] at h
  omega
theorem rd_pre {α : Type} {enc : α → List Value} {n : Nat} (he : ∀ a, (enc a).length = n) (t : TypeId) (ls : List α) (Z : List Value) (tag : Nat) (B : Hp) (l : List (Option Ob)) (j : Nat) (hl : l[j]? = some (some (.row t (flat enc ls ++ Z)))) (ht : (flat enc ls ++ Z).length = tag) (L : List (Option Ob)) : rd w0 (Hx (Hx B l) L) ⟨nid B j, 0, some tag⟩ (ls.length * n) = some (flat enc ls) := by
  refine rd_old ?_ L
  have h1 : (flat enc ls).length = ls.length * n := flat_len he ls
  rw [rd_own, hl, rdO_row, if_pos ⟨ht, by rw [List.length_append]; omega⟩, List.drop_zero, ← h1, List.take_left]
theorem Sl_pre {α : Type} {enc : α → List Value} {n : Nat} (he : ∀ a, (enc a).length = n) (t : TypeId) (ls : List α) (Z : List Value) (tag : Nat) (B : Hp) (l : List (Option Ob)) (j : Nat) (hl : l[j]? = some (some (.row t (flat enc ls ++ Z)))) (ht : (flat enc ls ++ Z).length = tag) : Sl w0 (Hx B l) (some ⟨nid B j, 0, some tag⟩) n (ls.map enc) := by
  refine .inr ⟨_, _, _, rfl, ?_⟩
  intro i r hr f k hf
  have hi : i < ls.length := by have := (List.getElem?_eq_some_iff.1 hr).1; simpa using this
  have hle : i * n + n ≤ ls.length * n := by rw [← Nat.succ_mul]; exact Nat.mul_le_mul_right _ hi
  have h0 := rd_pre (w0 := w0) he t ls Z tag B l j hl ht []
  rw [Hx_nil] at h0
  have := rd_part h0 (i * n + f) k (by omega)
  rw [show 0 + i * n + f = 0 + (i * n + f) by omega, this, flat_row he ls hi f k hf]
  rw [List.getElem?_map, List.getElem?_eq_getElem hi] at hr
  cases hr
  rfl
theorem part_pre (B : Hp) (l : List (Option Ob)) (j : Nat) (L : List En) (Z : List Value) (tag cap : Nat) (hj : l[j]? = some (some (.row 35 (flat En.enc L ++ Z)))) (ht : (flat En.enc L ++ Z).length = tag) (hcap : L.length ≤ cap) {f e : Nat} (hfe : f ≤ e) (he : e ≤ L.length) :
    ∃ (a : Addr) (c' : Nat), (∀ (bb : Bool) (ee : Option (TypeId × Nat)) (K : Value → Hp → Prop) (k : Lk K), K (.slice (some a) (e - f) c') (Hx B l) → slcV Tryd.prog w0 23 bb ee (.slice (some ⟨nid B j, 0, some tag⟩) L.length cap) (some (.int .i64 (f : Int))) (some (.int .i64 (e : Int))) none (Hx B l) k) ∧
      ∀ G, srcO (e - f) (rd w0 (Hx (Hx B l) G) a ((e - f) * 9)) = some (e - f, flat En.enc ((L.drop f).take (e - f))) := by
  have hlj : j < l.length := lt_of_get hj
  have how : ∀ G, Go.Proofs.YtcmflpdgfddmeaaDoorW.XM.ownB Tryd.prog (Hx (Hx B l) G) 9 (nid B j) (some tag) := fun G => ⟨_, flat En.enc L ++ Z, false || true, by rw [Hx_Hx, Hx_get, List.getElem?_append_left hlj]; exact hj, ht, XF.lay_35⟩
  rcases Nat.eq_zero_or_pos L.length with h0 | hp
  · obtain rfl : f = 0 := by omega
    obtain rfl : e = 0 := by omega
    have hL : L = [] := List.eq_nil_of_length_eq_zero h0
    subst hL
    refine ⟨⟨nid B j, 0, some tag⟩, cap, fun bb ee K k hk => ?_, fun G => ?_⟩
    · have how0 := how []
      rw [Hx_nil] at how0
      refine slc_sl XF.elm_23 rfl rfl _ _ _ _ (by omega) (by omega) (by omega) how0 (.inl rfl) ?_
      exact hk
    · have h1 := rd_pre (w0 := w0) elen 35 ([] : List En) Z tag B l j hj ht G
      simp only [List.length_nil, Nat.zero_mul] at h1
      show srcO 0 (rd w0 (Hx (Hx B l) G) ⟨nid B j, 0, some tag⟩ 0) = _
      rw [h1]; rfl
  · obtain ⟨a1, c1, hc1, s1, q1⟩ := slc_part (H := Hx B l) elen (by decide) (rd_pre w0 elen _ L Z tag B l j hj ht) hcap how (l := f) (h := e) hfe he hp
    refine ⟨a1, c1, fun bb ee K k hk => ?_, q1⟩
    have := s1 23 35 [] (some (.int .i64 (f : Int))) (some (.int .i64 (e : Int))) bb ee K k XF.elm_23 rfl rfl
    rw [Hx_nil] at this
    exact this hk
theorem box_at {t : TypeId} {cs : List Value} {n : Nat} (hn : cs.length = n) (B : Hp) (l L : List (Option Ob)) (j f : Nat) (v : Value) (hl : l[j]? = some (some (.row t cs))) (hf : f < n) (hv : cs[f]? = some v) : rd w0 (Hx (Hx B l) L) ⟨nid B j, f, some n⟩ 1 = some [v] := by
  refine rd_old ?_ L
  rw [rd_own, hl, rdO_row, if_pos ⟨hn, by omega⟩]
  rw [show (cs.drop f).take 1 = [v] by
    obtain ⟨hlt, hv'⟩ := List.getElem?_eq_some_iff.1 hv
    rw [List.drop_eq_getElem_cons hlt, hv']; rfl]
set_option maxHeartbeats 4000000 in
theorem PageOfI_ok (a : Addr) (c : Nat) (es : List En) (s : Sy) (hT : Tabs w0) (hB : BigS s) (hs : ∀ L, srcO es.length (rd w0 (Hx H L) a (es.length * 9)) = some (es.length, flat En.enc es)) (hl : es.length ≤ 2000000) : AFn Tryd.prog w0 6 #[.slice (some a) es.length c, .agg s.enc.toArray] H fun v H2 => ∃ A' c' g, H2 = Hx H g ∧ v = pgV (pageR es s) A' c' ∧ PgA H g A' c' (pageR es s).rows := by
  have hb : ∀ (g : List (Option Ob)) (Y : Option Ob) (r : List (Option Ob)), (g ++ Y :: r)[g.length]? = some Y := fun g Y r => by rw [List.getElem?_append_right (Nat.le_refl _)]; simp
  have gi : ∀ (g r : List (Option Ob)) (k : Nat), (g ++ r)[g.length + k]? = r[k]? := fun g r k => by rw [List.getElem?_append_right (by omega)]; simp
  have si : ∀ (g r : List (Option Ob)) (k : Nat) (Z : Option Ob), (g ++ r).set (g.length + k) Z = g ++ r.set k Z := fun g r k Z => by rw [List.set_append_right _ _ (by omega)]; simp
  have si0 : ∀ (g r : List (Option Ob)) (Z : Option Ob), (g ++ r).set g.length Z = g ++ r.set 0 Z := fun g r Z => by rw [List.set_append_right _ _ (by omega)]; simp
  refine AFn_nil ?_
  refine AFn_of Tryd.func6 rfl (by kernel_rfl) ?_
  have r := Tryd.results6
  obtain ⟨P, e0⟩ : ∃ P, P = pageR es s := ⟨_, rfl⟩
  rw [← e0]
  unfold pageR at e0
  simp only [go_sem, cond, Nat.reduceAdd, Nat.reduceLeDiff, Nat.reduceEqDiff, Nat.reduceBEq, decide_true, decide_false, Int.toNat_natCast, r, hb, gi, si, si0, beq_self_eq_true, Bool.not_true, Bool.not_false, List.set_cons_zero, List.set_cons_succ, List.append_assoc, List.length_append, List.length_cons, List.singleton_append, List.cons_append, List.nil_append, Sy.enc]
  refine call_eq (SayOk_ok w0 _ s hT hB) ?_
  simp only [go_sem, cond, Nat.reduceAdd, Nat.reduceLeDiff, Nat.reduceEqDiff, Nat.reduceBEq, decide_true, decide_false, Int.toNat_natCast, r, hb, gi, si, si0, beq_self_eq_true, Bool.not_true, Bool.not_false, List.set_cons_zero, List.set_cons_succ, List.append_assoc, List.length_append, List.length_cons, List.singleton_append, List.cons_append, List.nil_append, Sy.enc]
  refine Br_intro ?_ ?_ <;> intro h0 <;> simp only [go_sem, cond, Nat.reduceAdd, Nat.reduceLeDiff, Nat.reduceEqDiff, Nat.reduceBEq, decide_true, decide_false, Int.toNat_natCast, r, hb, gi, si, si0, beq_self_eq_true, Bool.not_true, Bool.not_false, List.set_cons_zero, List.set_cons_succ, List.append_assoc, List.length_append, List.length_cons, List.singleton_append, List.cons_append, List.nil_append, Sy.enc, h0]
  case refine_2 =>
    rw [h0, Bool.false_and, if_neg (by decide)] at e0
    subst e0
    exact ⟨none, 0, _, rfl, rfl, .inl ⟨rfl, rfl, rfl⟩⟩
  refine Br_intro ?_ ?_ <;> intro h1 <;> simp only [go_sem, cond, Nat.reduceAdd, Nat.reduceLeDiff, Nat.reduceEqDiff, Nat.reduceBEq, decide_true, decide_false, Int.toNat_natCast, r, hb, gi, si, si0, beq_self_eq_true, Bool.not_true, Bool.not_false, List.set_cons_zero, List.set_cons_succ, List.append_assoc, List.length_append, List.length_cons, List.singleton_append, List.cons_append, List.nil_append, Sy.enc, h0, h1]
  case refine_2 =>
    rw [h0, h1, Bool.true_and, if_neg (by decide)] at e0
    subst e0
    exact ⟨none, 0, _, rfl, rfl, .inl ⟨rfl, rfl, rfl⟩⟩
  rw [h0, h1, Bool.true_and, if_pos rfl] at e0
  obtain ⟨hn, hf, hbk, hx⟩ := page_rng h0 h1
  refine call_eq (cloneE_ok w0 _ a es c (fun L => by rw [Hx_Hx]; exact hs _) (by omega)) ?_
  simp only [go_sem, cond, Nat.reduceAdd, Nat.reduceLeDiff, Nat.reduceEqDiff, Nat.reduceBEq, decide_true, decide_false, Int.toNat_natCast, r, hb, gi, si, si0, beq_self_eq_true, Bool.not_true, Bool.not_false, List.set_cons_zero, List.set_cons_succ, List.append_assoc, List.length_append, List.length_cons, List.singleton_append, List.cons_append, List.nil_append, Sy.enc]
  refine call (deleteE_ok w0 H _ 2 es 20 [] [.pointer (some ⟨nid H 0, 0, some 10⟩)] (fun e => !tkB s.room s.name e) rfl (by omega) (fun e M G => ?_)) ?_
  · exact pageF1_ok w0 _ _ s e (fun L f v hf hv => box_at w0 (t := 25) (cs := s.enc) (n := 10) rfl H _ L 0 f v rfl hf hv)
  rintro v H2 ⟨G, Z, rfl, hZ, rfl⟩
  rw [kpt_tk] at hZ ⊢
  have hLe := tk_le s.room s.name es
  unfold pgR at e0
  generalize tk s.room s.name es = L at *
  obtain ⟨n, hnn⟩ : ∃ n : Nat, s.num = (n : Int) := ⟨s.num.toNat, by omega⟩
  have hnt : s.num.toNat = n := by rw [hnn]; rfl
  simp only [hnt] at e0
  rw [hnn] at hn
  simp only [go_sem, cond, Nat.reduceAdd, Nat.reduceLeDiff, Nat.reduceEqDiff, Nat.reduceBEq, decide_true, decide_false, Int.toNat_natCast, r, hb, gi, si, si0, beq_self_eq_true, Bool.not_true, Bool.not_false, List.set_cons_zero, List.set_cons_succ, List.append_assoc, List.length_append, List.length_cons, List.singleton_append, List.cons_append, List.nil_append, Sy.enc, hnn]
  by_cases h3 : 0 ≤ s.frm
  · have hmx : (if s.back > s.frm then s.back else s.frm) = s.frm := if_neg (by omega)
    have d3 : (0 ≤ s.frm) = True := eq_true h3
    have d4 : (0 ≤ s.back) = False := eq_false (by omega)
    rw [if_pos h3] at e0
    simp only [go_sem, cond, Nat.reduceAdd, Nat.reduceLeDiff, Nat.reduceEqDiff, Nat.reduceBEq, decide_true, decide_false, Int.toNat_natCast, r, hb, gi, si, si0, beq_self_eq_true, Bool.not_true, Bool.not_false, List.set_cons_zero, List.set_cons_succ, List.append_assoc, List.length_append, List.length_cons, List.singleton_append, List.cons_append, List.nil_append, Sy.enc, hnn, hmx, d3, d4]
    refine call_eq (indexE_ok w0 _ En.enc _ es.length L (Sl_pre w0 elen 35 L Z _ H _ 2 rfl hZ) (by omega) elen 22 [] [.pointer (some ⟨nid H (G.length + 1 + 1 + 1), 0, some 1⟩)] (isAt s.frm) (fun i hi => pageF2_ok w0 _ _ s.frm L[i] (fun M => box_at w0 (t := 3) (cs := [.int .i64 s.frm]) (n := 1) rfl H _ M (G.length + 1 + 1 + 1) 0 _ (by simp only [go_sem, cond, Nat.reduceAdd, Nat.reduceLeDiff, Nat.reduceEqDiff, Nat.reduceBEq, decide_true, decide_false, Int.toNat_natCast, hb, gi, List.getElem?_cons_succ]) (by decide) rfl))) ?_
    rcases idxP_rng (isAt s.frm) L with hz | ⟨j, hj, hz⟩
    · rw [hz] at e0 ⊢
      have w1 : ((-1 : Int) < 0) = True := eq_true (by decide)
      simp only [go_sem, cond, Nat.reduceAdd, Nat.reduceLeDiff, Nat.reduceEqDiff, Nat.reduceBEq, decide_true, decide_false, Int.toNat_natCast, r, hb, gi, si, si0, beq_self_eq_true, Bool.not_true, Bool.not_false, List.set_cons_zero, List.set_cons_succ, List.append_assoc, List.length_append, List.length_cons, List.singleton_append, List.cons_append, List.nil_append, Sy.enc, hnn, hmx, d3, d4, w1]
      rw [if_pos (by decide)] at e0
      subst e0
      exact ⟨none, 0, _, rfl, rfl, .inl ⟨rfl, rfl, rfl⟩⟩
    · rw [hz] at e0 ⊢
      have w1 : ((j : Int) < 0) = False := eq_false (by omega)
      rw [if_neg (by omega)] at e0
      have w2 : IntKind.i64.wrap ((j : Int) + 1) = ((j + 1 : Nat) : Int) := wrap_i64 (by omega) (by omega)
      have w4 : IntKind.i64.wrap (((j + 1 : Nat) : Int) + (n : Int)) = ((j + 1 + n : Nat) : Int) := by rw [wrap_i64 (by omega) (by omega)]; omega
      have w5 : (if (L.length : Int) < ((j + 1 + n : Nat) : Int) then (L.length : Int) else ((j + 1 + n : Nat) : Int)) = ((min (j + 1 + n) L.length : Nat) : Int) := by split <;> omega
      simp only [go_sem, cond, Nat.reduceAdd, Nat.reduceLeDiff, Nat.reduceEqDiff, Nat.reduceBEq, decide_true, decide_false, Int.toNat_natCast, r, hb, gi, si, si0, beq_self_eq_true, Bool.not_true, Bool.not_false, List.set_cons_zero, List.set_cons_succ, List.append_assoc, List.length_append, List.length_cons, List.singleton_append, List.cons_append, List.nil_append, Sy.enc, hnn, hmx, d3, d4, w1, w2, w4, w5]
      generalize hE : min (j + 1 + n) L.length = E at *
      obtain ⟨a1, k1, p1, p2⟩ := part_pre w0 H (some (.row 25 [.int .i64 s.kind, .string s.room, .string s.nick, .string s.name, .string s.id, .string s.ref, .string s.text, .int .i64 (n : Int), .int .i64 s.frm, .int .i64 s.back]) :: some (.row 30 [.bool false, .int .i64 0, .slice none 0 0]) :: some (.row 35 (flat En.enc L ++ Z)) :: (G ++ [some (.row 3 [.int .i64 s.frm]), some (.row 30 [.bool ((E : Int) == (L.length : Int)), .int .i64 (L.length : Int), .slice none 0 0])])) 2 L Z (es.length * 9) es.length rfl hZ hLe (f := j + 1) (e := E) (by omega) (by omega)
      refine p1 _ _ _ _ ?_
      simp only [go_sem, cond, Nat.reduceAdd, Nat.reduceLeDiff, Nat.reduceEqDiff, Nat.reduceBEq, decide_true, decide_false, Int.toNat_natCast, r, hb, gi, si, si0, beq_self_eq_true, Bool.not_true, Bool.not_false, List.set_cons_zero, List.set_cons_succ, List.append_assoc, List.length_append, List.length_cons, List.singleton_append, List.cons_append, List.nil_append, Sy.enc, hnn, hmx, d3, d4, w1, w2, w4, w5]
      have hrl : ((L.drop (j + 1)).take (E - (j + 1))).length = E - (j + 1) := by rw [List.length_take, List.length_drop]; omega
      have hcp := cloneE_ok w0 (Hx H (some (.row 25 [.int .i64 s.kind, .string s.room, .string s.nick, .string s.name, .string s.id, .string s.ref, .string s.text, .int .i64 (n : Int), .int .i64 s.frm, .int .i64 s.back]) :: some (.row 30 [.bool false, .int .i64 0, .slice none 0 0]) :: some (.row 35 (flat En.enc L ++ Z)) :: (G ++ [some (.row 3 [.int .i64 s.frm]), some (.row 30 [.bool ((E : Int) == (L.length : Int)), .int .i64 (L.length : Int), .slice none 0 0])]))) a1 ((L.drop (j + 1)).take (E - (j + 1))) k1 (by rw [hrl]; exact p2) (by omega)
      rw [hrl] at hcp
      refine call hcp ?_
      rintro v H2 ⟨rfl, rfl⟩
      simp only [go_sem, cond, Nat.reduceAdd, Nat.reduceLeDiff, Nat.reduceEqDiff, Nat.reduceBEq, decide_true, decide_false, Int.toNat_natCast, r, hb, gi, si, si0, beq_self_eq_true, Bool.not_true, Bool.not_false, List.set_cons_zero, List.set_cons_succ, List.append_assoc, List.length_append, List.length_cons, List.singleton_append, List.cons_append, List.nil_append, Sy.enc, hnn, hmx, d3, d4, w1, w2, w4, w5]
      refine call_eq (clipE_ok w0 _ _ 0 _ _ _ (flat En.enc ((L.drop (j + 1)).take (E - (j + 1)))) (by rw [Hx_get]; simp only [go_sem, cond, Nat.reduceAdd, Nat.reduceLeDiff, Nat.reduceEqDiff, Nat.reduceBEq, decide_true, decide_false, Int.toNat_natCast, hb, gi, List.getElem?_cons_succ, Nat.add_zero]) (by rw [flat_len elen, hrl]) (Nat.le_refl _)) ?_
      simp only [go_sem, cond, Nat.reduceAdd, Nat.reduceLeDiff, Nat.reduceEqDiff, Nat.reduceBEq, decide_true, decide_false, Int.toNat_natCast, r, hb, gi, si, si0, beq_self_eq_true, Bool.not_true, Bool.not_false, List.set_cons_zero, List.set_cons_succ, List.append_assoc, List.length_append, List.length_cons, List.singleton_append, List.cons_append, List.nil_append, Sy.enc, hnn, hmx, d3, d4, w1, w2, w4, w5]
      have e1 : P = ⟨E == L.length, L.length, (L.drop (j + 1)).take (E - (j + 1)), 0⟩ := by
        rw [e0]
        simp only [Int.toNat_natCast]; rw [hE]
      refine ⟨some ⟨nid H (G.length + 2 + 1 + 1 + 1 + 0), 0, some ((E - (j + 1)) * 9)⟩, E - (j + 1), _, rfl, ?_, .inr ⟨G.length + 2 + 1 + 1 + 1 + 0, ?_, ?_⟩⟩
      · rw [e1]
        simp only [pgV, hrl, beq_cast, beq_cast0, beq_self_eq_true, Sy.enc, hnn, hmx, d3, d4, w1, w2, w4, w5]
      · rw [e1, hrl]
      · rw [e1]
        simp only [List.getElem?_cons_succ, Nat.add_zero, gi, List.getElem?_cons_zero, List.drop_zero]
  · have d3 : (0 ≤ s.frm) = False := eq_false h3
    rw [if_neg h3] at e0
    by_cases h4 : 0 ≤ s.back
    · have hmx : (if s.back > s.frm then s.back else s.frm) = s.back := if_pos (by omega)
      have d4 : (0 ≤ s.back) = True := eq_true h4
      rw [if_pos h4] at e0
      simp only [go_sem, cond, Nat.reduceAdd, Nat.reduceLeDiff, Nat.reduceEqDiff, Nat.reduceBEq, decide_true, decide_false, Int.toNat_natCast, r, hb, gi, si, si0, beq_self_eq_true, Bool.not_true, Bool.not_false, List.set_cons_zero, List.set_cons_succ, List.append_assoc, List.length_append, List.length_cons, List.singleton_append, List.cons_append, List.nil_append, Sy.enc, hnn, hmx, d3, d4]
      refine call_eq (indexE_ok w0 _ En.enc _ es.length L (Sl_pre w0 elen 35 L Z _ H _ 2 rfl hZ) (by omega) elen 22 [] [.pointer (some ⟨nid H (G.length + 1 + 1 + 1), 0, some 1⟩)] (isAt s.back) (fun i hi => pageF2_ok w0 _ _ s.back L[i] (fun M => box_at w0 (t := 3) (cs := [.int .i64 s.back]) (n := 1) rfl H _ M (G.length + 1 + 1 + 1) 0 _ (by simp only [go_sem, cond, Nat.reduceAdd, Nat.reduceLeDiff, Nat.reduceEqDiff, Nat.reduceBEq, decide_true, decide_false, Int.toNat_natCast, hb, gi, List.getElem?_cons_succ]) (by decide) rfl))) ?_
      rcases idxP_rng (isAt s.back) L with hz | ⟨j, hj, hz⟩
      · rw [hz] at e0 ⊢
        have w1 : ((-1 : Int) < 0) = True := eq_true (by decide)
        simp only [go_sem, cond, Nat.reduceAdd, Nat.reduceLeDiff, Nat.reduceEqDiff, Nat.reduceBEq, decide_true, decide_false, Int.toNat_natCast, r, hb, gi, si, si0, beq_self_eq_true, Bool.not_true, Bool.not_false, List.set_cons_zero, List.set_cons_succ, List.append_assoc, List.length_append, List.length_cons, List.singleton_append, List.cons_append, List.nil_append, Sy.enc, hnn, hmx, d3, d4, w1]
        rw [if_pos (by decide)] at e0
        subst e0
        exact ⟨none, 0, _, rfl, rfl, .inl ⟨rfl, rfl, rfl⟩⟩
      · rw [hz] at e0 ⊢
        have w1 : ((j : Int) < 0) = False := eq_false (by omega)
        rw [if_neg (by omega)] at e0
        have w2 : IntKind.i64.wrap ((j : Int) - (n : Int)) = (j : Int) - (n : Int) := wrap_i64 (by omega) (by omega)
        have w4 : (if (0 : Int) > (j : Int) - (n : Int) then (0 : Int) else (j : Int) - (n : Int)) = ((j - n : Nat) : Int) := by split <;> omega
        simp only [go_sem, cond, Nat.reduceAdd, Nat.reduceLeDiff, Nat.reduceEqDiff, Nat.reduceBEq, decide_true, decide_false, Int.toNat_natCast, r, hb, gi, si, si0, beq_self_eq_true, Bool.not_true, Bool.not_false, List.set_cons_zero, List.set_cons_succ, List.append_assoc, List.length_append, List.length_cons, List.singleton_append, List.cons_append, List.nil_append, Sy.enc, hnn, hmx, d3, d4, w1, w2, w4]
        obtain ⟨a1, k1, p1, p2⟩ := part_pre w0 H (some (.row 25 [.int .i64 s.kind, .string s.room, .string s.nick, .string s.name, .string s.id, .string s.ref, .string s.text, .int .i64 (n : Int), .int .i64 s.frm, .int .i64 s.back]) :: some (.row 30 [.bool false, .int .i64 0, .slice none 0 0]) :: some (.row 35 (flat En.enc L ++ Z)) :: (G ++ [some (.row 3 [.int .i64 s.back]), some (.row 30 [.bool (((j - n : Nat) : Int) == 0), .int .i64 (L.length : Int), .slice none 0 0])])) 2 L Z (es.length * 9) es.length rfl hZ hLe (f := j - n) (e := j) (by omega) (by omega)
        refine p1 _ _ _ _ ?_
        simp only [go_sem, cond, Nat.reduceAdd, Nat.reduceLeDiff, Nat.reduceEqDiff, Nat.reduceBEq, decide_true, decide_false, Int.toNat_natCast, r, hb, gi, si, si0, beq_self_eq_true, Bool.not_true, Bool.not_false, List.set_cons_zero, List.set_cons_succ, List.append_assoc, List.length_append, List.length_cons, List.singleton_append, List.cons_append, List.nil_append, Sy.enc, hnn, hmx, d3, d4, w1, w2, w4]
        have hrl : ((L.drop (j - n)).take (j - (j - n))).length = j - (j - n) := by rw [List.length_take, List.length_drop]; omega
        have hcp := cloneE_ok w0 (Hx H (some (.row 25 [.int .i64 s.kind, .string s.room, .string s.nick, .string s.name, .string s.id, .string s.ref, .string s.text, .int .i64 (n : Int), .int .i64 s.frm, .int .i64 s.back]) :: some (.row 30 [.bool false, .int .i64 0, .slice none 0 0]) :: some (.row 35 (flat En.enc L ++ Z)) :: (G ++ [some (.row 3 [.int .i64 s.back]), some (.row 30 [.bool (((j - n : Nat) : Int) == 0), .int .i64 (L.length : Int), .slice none 0 0])]))) a1 ((L.drop (j - n)).take (j - (j - n))) k1 (by rw [hrl]; exact p2) (by omega)
        rw [hrl] at hcp
        refine call hcp ?_
        rintro v H2 ⟨rfl, rfl⟩
        simp only [go_sem, cond, Nat.reduceAdd, Nat.reduceLeDiff, Nat.reduceEqDiff, Nat.reduceBEq, decide_true, decide_false, Int.toNat_natCast, r, hb, gi, si, si0, beq_self_eq_true, Bool.not_true, Bool.not_false, List.set_cons_zero, List.set_cons_succ, List.append_assoc, List.length_append, List.length_cons, List.singleton_append, List.cons_append, List.nil_append, Sy.enc, hnn, hmx, d3, d4, w1, w2, w4]
        refine call_eq (clipE_ok w0 _ _ 0 _ _ _ (flat En.enc ((L.drop (j - n)).take (j - (j - n)))) (by rw [Hx_get]; simp only [go_sem, cond, Nat.reduceAdd, Nat.reduceLeDiff, Nat.reduceEqDiff, Nat.reduceBEq, decide_true, decide_false, Int.toNat_natCast, hb, gi, List.getElem?_cons_succ, Nat.add_zero]) (by rw [flat_len elen, hrl]) (Nat.le_refl _)) ?_
        simp only [go_sem, cond, Nat.reduceAdd, Nat.reduceLeDiff, Nat.reduceEqDiff, Nat.reduceBEq, decide_true, decide_false, Int.toNat_natCast, r, hb, gi, si, si0, beq_self_eq_true, Bool.not_true, Bool.not_false, List.set_cons_zero, List.set_cons_succ, List.append_assoc, List.length_append, List.length_cons, List.singleton_append, List.cons_append, List.nil_append, Sy.enc, hnn, hmx, d3, d4, w1, w2, w4]
        have e1 : P = ⟨j - n == 0, L.length, (L.drop (j - n)).take (j - (j - n)), 0⟩ := by
          rw [e0]
          simp only [Int.toNat_natCast]
        refine ⟨some ⟨nid H (G.length + 2 + 1 + 1 + 1 + 0), 0, some ((j - (j - n)) * 9)⟩, j - (j - n), _, rfl, ?_, .inr ⟨G.length + 2 + 1 + 1 + 1 + 0, ?_, ?_⟩⟩
        · rw [e1]
          simp only [pgV, hrl, beq_cast, beq_cast0, beq_self_eq_true, Sy.enc, hnn, hmx, d3, d4, w1, w2, w4]
        · rw [e1, hrl]
        · rw [e1]
          simp only [List.getElem?_cons_succ, Nat.add_zero, gi, List.getElem?_cons_zero, List.drop_zero]
    · have hmx : (0 ≤ (if s.back > s.frm then s.back else s.frm)) = False := eq_false (by split <;> omega)
      have d4 : (0 ≤ s.back) = False := eq_false h4
      rw [if_neg h4] at e0
      have w2 : IntKind.i64.wrap (0 + (n : Int)) = (n : Int) := by rw [wrap_i64 (by omega) (by omega)]; omega
      have w4 : (if (L.length : Int) < (n : Int) then (L.length : Int) else (n : Int)) = ((min n L.length : Nat) : Int) := by split <;> omega
      simp only [go_sem, cond, Nat.reduceAdd, Nat.reduceLeDiff, Nat.reduceEqDiff, Nat.reduceBEq, decide_true, decide_false, Int.toNat_natCast, r, hb, gi, si, si0, beq_self_eq_true, Bool.not_true, Bool.not_false, List.set_cons_zero, List.set_cons_succ, List.append_assoc, List.length_append, List.length_cons, List.singleton_append, List.cons_append, List.nil_append, Sy.enc, hnn, hmx, d3, d4, w2, w4]
      generalize hE : min n L.length = E at *
      obtain ⟨a1, k1, p1, p2⟩ := part_pre w0 H (some (.row 25 [.int .i64 s.kind, .string s.room, .string s.nick, .string s.name, .string s.id, .string s.ref, .string s.text, .int .i64 (n : Int), .int .i64 s.frm, .int .i64 s.back]) :: some (.row 30 [.bool false, .int .i64 0, .slice none 0 0]) :: some (.row 35 (flat En.enc L ++ Z)) :: (G ++ [some (.row 3 [.int .i64 (if s.back > s.frm then s.back else s.frm)]), some (.row 30 [.bool ((E : Int) == (L.length : Int)), .int .i64 (L.length : Int), .slice none 0 0])])) 2 L Z (es.length * 9) es.length rfl hZ hLe (f := 0) (e := E) (by omega) (by omega)
      refine p1 _ _ _ _ ?_
      simp only [go_sem, cond, Nat.reduceAdd, Nat.reduceLeDiff, Nat.reduceEqDiff, Nat.reduceBEq, decide_true, decide_false, Int.toNat_natCast, r, hb, gi, si, si0, beq_self_eq_true, Bool.not_true, Bool.not_false, List.set_cons_zero, List.set_cons_succ, List.append_assoc, List.length_append, List.length_cons, List.singleton_append, List.cons_append, List.nil_append, Sy.enc, hnn, hmx, d3, d4, w2, w4]
      have hrl : ((L.drop (0)).take (E - (0))).length = E - (0) := by rw [List.length_take, List.length_drop]; omega
      have hcp := cloneE_ok w0 (Hx H (some (.row 25 [.int .i64 s.kind, .string s.room, .string s.nick, .string s.name, .string s.id, .string s.ref, .string s.text, .int .i64 (n : Int), .int .i64 s.frm, .int .i64 s.back]) :: some (.row 30 [.bool false, .int .i64 0, .slice none 0 0]) :: some (.row 35 (flat En.enc L ++ Z)) :: (G ++ [some (.row 3 [.int .i64 (if s.back > s.frm then s.back else s.frm)]), some (.row 30 [.bool ((E : Int) == (L.length : Int)), .int .i64 (L.length : Int), .slice none 0 0])]))) a1 ((L.drop (0)).take (E - (0))) k1 (by rw [hrl]; exact p2) (by omega)
      rw [hrl] at hcp
      refine call hcp ?_
      rintro v H2 ⟨rfl, rfl⟩
      simp only [go_sem, cond, Nat.reduceAdd, Nat.reduceLeDiff, Nat.reduceEqDiff, Nat.reduceBEq, decide_true, decide_false, Int.toNat_natCast, r, hb, gi, si, si0, beq_self_eq_true, Bool.not_true, Bool.not_false, List.set_cons_zero, List.set_cons_succ, List.append_assoc, List.length_append, List.length_cons, List.singleton_append, List.cons_append, List.nil_append, Sy.enc, hnn, hmx, d3, d4, w2, w4]
      refine call_eq (clipE_ok w0 _ _ 0 _ _ _ (flat En.enc ((L.drop (0)).take (E - (0)))) (by rw [Hx_get]; simp only [go_sem, cond, Nat.reduceAdd, Nat.reduceLeDiff, Nat.reduceEqDiff, Nat.reduceBEq, decide_true, decide_false, Int.toNat_natCast, hb, gi, List.getElem?_cons_succ, Nat.add_zero]) (by rw [flat_len elen, hrl]) (Nat.le_refl _)) ?_
      simp only [go_sem, cond, Nat.reduceAdd, Nat.reduceLeDiff, Nat.reduceEqDiff, Nat.reduceBEq, decide_true, decide_false, Int.toNat_natCast, r, hb, gi, si, si0, beq_self_eq_true, Bool.not_true, Bool.not_false, List.set_cons_zero, List.set_cons_succ, List.append_assoc, List.length_append, List.length_cons, List.singleton_append, List.cons_append, List.nil_append, Sy.enc, hnn, hmx, d3, d4, w2, w4]
      have e1 : P = ⟨E == L.length, L.length, (L.drop (0)).take (E - (0)), 0⟩ := by
        rw [e0]
        skip
      refine ⟨some ⟨nid H (G.length + 2 + 1 + 1 + 1 + 0), 0, some ((E - (0)) * 9)⟩, E - (0), _, rfl, ?_, .inr ⟨G.length + 2 + 1 + 1 + 1 + 0, ?_, ?_⟩⟩
      · rw [e1]
        simp only [pgV, hrl, beq_cast, beq_cast0, beq_self_eq_true, Sy.enc, hnn, hmx, d3, d4, w2, w4]
      · rw [e1, hrl]
      · rw [e1]
        simp only [List.getElem?_cons_succ, Nat.add_zero, gi, List.getElem?_cons_zero, List.drop_zero]
end Go.Proofs.YtcmflpdgfddmeaaDoorW.FA

namespace Go.Proofs.YtcmflpdgfddmeaaDoorW.FA
open Go.RowKit Go.Proofs.YtcmflpdgfddmeaaDoorW.XM Go.Proofs Go.Proofs.YtcmflpdgfddmeaaDoorW.XWords
set_option maxRecDepth 100000
set_option linter.unusedSimpArgs false
set_option linter.unusedVariables false
variable (w0 : World) (H : Hp)
theorem SyOk.bigS {s : Sy} (h : SyOk s) : BigS s := ⟨by have := h.room; omega, by have := h.nick; omega, by have := h.name; omega, by have := h.id; omega, by have := h.ref; omega, by have := h.text; omega⟩
end Go.Proofs.YtcmflpdgfddmeaaDoorW.FA

namespace Go.Proofs.YtcmflpdgfddmeaaDoorW.FA
open Go.RowKit Go.Proofs.YtcmflpdgfddmeaaDoorW.XM Go.Proofs Go.Proofs.YtcmflpdgfddmeaaDoorW.XWords
set_option maxRecDepth 100000
set_option linter.unusedSimpArgs false
set_option linter.unusedVariables false
variable (w0 : World) (H : Hp)
theorem hbLog_ok (es : List En) (A A' : Option Addr) (c c' : Nat) (hs : Sl w0 H A 9 (es.map En.enc)) (hs' : Sl w0 H A' 9 (es.map En.enc)) (hl : es.length ≤ 2000000) : AFn Tryd.prog w0 9 #[.slice A es.length c, .slice A' es.length c'] H fun v H2 => v = .bool true ∧ H2 = H := by
  refine AFn.scal rfl Tryd.func9 rfl (by kernel_rfl) ?_
  have r := Tryd.results9
  simp only [go_sem, cond, Nat.reduceAdd, Nat.reduceLeDiff, Nat.reduceEqDiff, Nat.reduceBEq, decide_true, decide_false, Int.toNat_natCast, r]
  simp only [go_sem, cond, Nat.reduceAdd, Nat.reduceLeDiff, Nat.reduceEqDiff, Nat.reduceBEq, decide_true, decide_false, Int.toNat_natCast, beq_self_eq_true, r]
  refine xw_loop (fun (i : Nat) T H' => i ≤ es.length ∧ T 0 = .slice A es.length c ∧ T 1 = .slice A' es.length c' ∧ T 5 = .int .i64 i ∧ H' = Hx H []) (fun i => es.length - i) 0 (by kernel_rfl) ⟨Nat.zero_le _, rfl, rfl, rfl, rfl⟩ ?_
  rintro i T H' ⟨hi, t0, t1, t3, rfl⟩
  by_cases hlt : i < es.length
  · obtain ⟨b, o, sp, rfl, -, hw⟩ := mcell hs hlt
    obtain ⟨b2, o2, sp2, rfl, -, hw2⟩ := mcell hs' hlt
    have c0 := fun L => hw L rfl
    have c1 := fun L => hw2 L rfl
    simp only [En.enc] at c0 c1
    have d1 : ((i : Int) < (es.length : Int)) = True := eq_true (by omega)
    have d2 : (0 ≤ (i : Int)) = True := eq_true (by omega)
    simp only [go_sem, cond, Nat.reduceAdd, Nat.reduceLeDiff, Nat.reduceEqDiff, Nat.reduceBEq, decide_true, decide_false, Int.toNat_natCast, t0, t1, t3, d1, d2, c0, c1, beq_self_eq_true, r]
    (refine xw_open (id := 6) [0, 0, 3, 7, 0, 0, 48, 112, 255] [.q 0, .q 1, .q 2, .q 4, .q 5, .q 6, .q 3, .q 7, .q 8] rfl (by kernel_rfl) ?_; simp only [go_sem, cond, Nat.reduceAdd, Nat.reduceLeDiff, Nat.reduceEqDiff, Nat.reduceBEq, decide_true, decide_false, Int.toNat_natCast, t0, t1, t3, d1, d2, c0, c1, beq_self_eq_true, r])
    simp only [Bool.and_true]
    simp only [go_sem, cond, Nat.reduceAdd, Nat.reduceLeDiff, Nat.reduceEqDiff, Nat.reduceBEq, decide_true, decide_false, Int.toNat_natCast, t0, t1, t3, d1, d2, r]
    exact ⟨i + 1, ⟨hlt, t0, t1, int_succ hlt (by omega), rfl⟩, lt_meas hlt⟩
  · obtain rfl : i = es.length := by omega
    have d1 : ((es.length : Int) < (es.length : Int)) = False := eq_false (by omega)
    simp only [go_sem, cond, Nat.reduceAdd, Nat.reduceLeDiff, Nat.reduceEqDiff, Nat.reduceBEq, decide_true, decide_false, Int.toNat_natCast, t0, t1, t3, d1, r]
    exact ⟨_, rfl⟩
end Go.Proofs.YtcmflpdgfddmeaaDoorW.FA

namespace Go.Proofs.YtcmflpdgfddmeaaDoorW.FA
open Go.RowKit Go.Proofs.YtcmflpdgfddmeaaDoorW.XM Go.Proofs Go.Proofs.YtcmflpdgfddmeaaDoorW.XWords
set_option maxRecDepth 100000
set_option linter.unusedSimpArgs false
set_option linter.unusedVariables false
variable (w0 : World) (H : Hp)
set_option maxHeartbeats 4000000 in
theorem PageOfS_ok (A : Option Addr) (c : Nat) (es : List En) (s : Sy) (hB : BigS s) (hs : Sl w0 H A 9 (es.map En.enc)) (hl : es.length ≤ 2000000) : AFn Tryd.prog w0 7 #[.slice A es.length c, .agg s.enc.toArray] H fun v H2 => ∃ A' c' g, H2 = Hx H g ∧ v = pgV (pageR es s) A' c' ∧ PgA H g A' c' (pageR es s).rows := by
  refine AFn_nil ?_
  refine AFn_of Tryd.func7 rfl (by kernel_rfl) ?_
  have r := Tryd.results7
  obtain ⟨P, e0⟩ : ∃ P, P = pageR es s := ⟨_, rfl⟩
  rw [← e0]
  unfold pageR at e0
  simp only [go_sem, cond, Nat.reduceAdd, Nat.reduceLeDiff, Nat.reduceEqDiff, Nat.reduceBEq, decide_true, decide_false, Int.toNat_natCast, Sy.enc, r]
  refine call_eq (l5Ok_ok w0 _ s hB) ?_
  simp only [go_sem, cond, Nat.reduceAdd, Nat.reduceLeDiff, Nat.reduceEqDiff, Nat.reduceBEq, decide_true, decide_false, Int.toNat_natCast, Sy.enc, r]
  refine Br_intro ?_ ?_ <;> intro h0 <;> simp only [go_sem, cond, Nat.reduceAdd, Nat.reduceLeDiff, Nat.reduceEqDiff, Nat.reduceBEq, decide_true, decide_false, Int.toNat_natCast, Sy.enc, r, h0]
  case refine_2 =>
    rw [h0, Bool.false_and, if_neg (by decide)] at e0
    subst e0
    exact ⟨none, 0, _, rfl, rfl, .inl ⟨rfl, rfl, rfl⟩⟩
  refine Br_intro ?_ ?_ <;> intro h1 <;> simp only [go_sem, cond, Nat.reduceAdd, Nat.reduceLeDiff, Nat.reduceEqDiff, Nat.reduceBEq, decide_true, decide_false, Int.toNat_natCast, Sy.enc, r, h0, h1]
  case refine_2 =>
    rw [h0, h1, Bool.true_and, if_neg (by decide)] at e0
    subst e0
    exact ⟨none, 0, _, rfl, rfl, .inl ⟨rfl, rfl, rfl⟩⟩
  rw [h0, h1, Bool.true_and, if_pos rfl] at e0
  obtain ⟨hn, hf, hbk, hx⟩ := page_rng h0 h1
  refine call (l7Page_ok w0 _ A c es s (hs.old _) hl hn hf hbk hx) ?_
  rintro v H2 ⟨A', c', g, rfl, rfl, hA⟩
  rw [← e0] at hA
  rw [← e0]
  simp only [go_sem, cond, Nat.reduceAdd, Nat.reduceLeDiff, Nat.reduceEqDiff, Nat.reduceBEq, decide_true, decide_false, Int.toNat_natCast, pgV, Sy.enc, r, List.length_append, List.length_cons, List.set_cons_zero, List.set_cons_succ, List.cons_append, List.nil_append]
  refine ⟨A', c', _, rfl, rfl, ?_⟩
  rcases hA with ⟨a1, a2, a3⟩ | ⟨k, a1, a2⟩
  · exact .inl ⟨a1, a2, a3⟩
  · exact .inr ⟨k + 1 + 1, by rw [a1, nid_Hx]; simp only [List.length_cons, List.length_nil]; rw [show 0 + 1 + 1 + k = k + 1 + 1 by omega], by simpa using a2⟩
/-- A page's entries can be read. -/
theorem PgA.sl {H : Hp} {g : List (Option Ob)} {A : Option Addr} {c : Nat} {rows : List En} (h : PgA H g A c rows) : Sl w0 (Hx H g) A 9 (rows.map En.enc) := by
  rcases h with ⟨_, rfl, _⟩ | ⟨k, rfl, hk⟩
  · exact .inl rfl
  · exact Sl_own elen _ rows H g k hk
theorem pgL (es : List En) (s : Sy) : (pageR es s).rows.length ≤ es.length := by
  have h := tk_le s.room s.name es
  unfold pageR
  split
  · unfold pgR
    dsimp only
    repeat' split
    all_goals first
      | (simp only [pgN, List.length_nil]; omega)
      | (simp only [List.length_take, List.length_drop]; omega)
  · simp only [pgN, List.length_nil]; omega
theorem bool_eq (t : TypeId) (c b d : Bool) (h : Go.Proofs.YtcmflpdgfddmeaaDoorW.XM.isB Tryd.prog t = true) : xBin Tryd.prog .eql t c (.bool b) (.bool d) = some (.bool (b == d)) := by simp [xBin, h]
theorem bool_ne (t : TypeId) (c b d : Bool) (h : Go.Proofs.YtcmflpdgfddmeaaDoorW.XM.isB Tryd.prog t = true) : xBin Tryd.prog .neq t c (.bool b) (.bool d) = some (.bool (!(b == d))) := by
  simp only [xBin, h, if_true]
theorem hbPage_ok (p : Pg) (A A' : Option Addr) (c c' : Nat) (hs : Sl w0 H A 9 (p.rows.map En.enc)) (hs' : Sl w0 H A' 9 (p.rows.map En.enc)) (hl : p.rows.length ≤ 2000000) : AFn Tryd.prog w0 8 #[.agg #[.bool p.full, .int .i64 p.num, .slice A p.rows.length c], .agg #[.bool p.full, .int .i64 p.num, .slice A' p.rows.length c']] H fun v H2 => v = .bool true ∧ H2 = H := by
  have b1 := fun c b d => bool_eq 4 c b d XF.isB_4
  refine AFn.scal rfl Tryd.func8 rfl (by kernel_rfl) ?_
  have r := Tryd.results8
  simp only [go_sem, cond, Nat.reduceAdd, Nat.reduceLeDiff, Nat.reduceEqDiff, Nat.reduceBEq, decide_true, decide_false, Int.toNat_natCast, r]
  simp only [go_sem, cond, Nat.reduceAdd, Nat.reduceLeDiff, Nat.reduceEqDiff, Nat.reduceBEq, decide_true, decide_false, Int.toNat_natCast, r, beq_self_eq_true, b1]
  refine call_eq (hbLog_ok w0 _ p.rows A A' c c' (hs.old _) (hs'.old _) hl) ?_
  simp only [go_sem, cond, Nat.reduceAdd, Nat.reduceLeDiff, Nat.reduceEqDiff, Nat.reduceBEq, decide_true, decide_false, Int.toNat_natCast, r, beq_self_eq_true, b1]
  exact ⟨_, rfl⟩
end Go.Proofs.YtcmflpdgfddmeaaDoorW.FA

namespace Go.Proofs.YtcmflpdgfddmeaaDoorW.FA
open Go.RowKit Go.Proofs.YtcmflpdgfddmeaaDoorW.XM Go.Proofs Go.Proofs.YtcmflpdgfddmeaaDoorW.XWords
set_option maxRecDepth 100000
set_option linter.unusedSimpArgs false
set_option linter.unusedVariables false
variable (w0 : World) (H : Hp)
end Go.Proofs.YtcmflpdgfddmeaaDoorW.FA

namespace Go.Proofs.YtcmflpdgfddmeaaDoorW.FA
open Go.RowKit Go.Proofs.YtcmflpdgfddmeaaDoorW.XM Go.Proofs Go.Proofs.YtcmflpdgfddmeaaDoorW.XWords
set_option maxRecDepth 100000
set_option linter.unusedSimpArgs false
set_option linter.unusedVariables false
variable (w0 : World) (H : Hp)
theorem PgA.at {H : Hp} {l0 g : List (Option Ob)} {A : Option Addr} {c : Nat} {rows : List En} (h : PgA (Hx H l0) g A c rows) (l0' r : List (Option Ob)) (hl : l0'.length = l0.length) : Sl w0 (Hx H (l0' ++ (g ++ r))) A 9 (rows.map En.enc) := by
  rcases h with ⟨_, rfl, _⟩ | ⟨k, rfl, hk⟩
  · exact .inl rfl
  · rw [nid_Hx]
    refine Sl_own elen 35 rows H _ _ ?_
    rw [← hl, List.getElem?_append_right (by omega), Nat.add_sub_cancel_left, List.getElem?_append_left (lt_of_get hk)]
    exact hk
end Go.Proofs.YtcmflpdgfddmeaaDoorW.FA

namespace Go.Proofs.YtcmflpdgfddmeaaDoorW.FA
open Go.RowKit Go.ChangeShapes Go.WideShapes Go.ChangeAt Go.Deep Go.Proofs.YtcmflpdgfddmeaaDoorW.XM Go.Proofs Go.Proofs.YtcmflpdgfddmeaaDoorW.XWords Go.Proofs.YtcmflpdgfddmeaaDoorW.XRA
set_option maxRecDepth 100000
set_option linter.unusedVariables false
theorem byte_reads : ReadsA Tryd.prog encB 5 (fun _ => True) := by
  intro H enc w base spare held fuel cs x hx
  obtain ⟨n, e, q⟩ := ra_int Tryd.underlying5 _ _ _ _ _ _ _ _ _ hx
  have hq : 0 ≤ n ∧ n ≤ 255 := by
    simp only [Lit.wf, Bool.and_eq_true, decide_eq_true_eq] at q
    exact q
  refine ⟨UInt8.ofNat n.toNat, ?_, trivial⟩
  have h1 : (UInt8.ofNat n.toNat).toNat = n.toNat := by
    rw [UInt8.toNat_ofNat']; omega
  have h2 : (((UInt8.ofNat n.toNat).toNat : Nat) : Int) = n := by rw [h1]; omega
  rw [e, encB, h2]
theorem slice_spot {P : Program} {w : World} {base : Nat} {T e : TypeId} {v : Value} (ht : P.underlying T = some (.slice e)) (h : Value.okWide P w .any base T v) : ∀ a n c, v = .slice (some a) n c → a.spot = none := by
  intro a n c hv
  subst hv
  simp only [Value.okWide, ht] at h
  unfold Cell.okWide at h
  split at h <;> first
    | (rename_i h6; cases h6; done)
    | skip
  all_goals first
    | (unfold Cell.ok at h
       split at h <;> first
         | (rename_i h6; cases h6; done)
         | (exact h.elim)
         | (rename_i h6; cases h6; exact h.2.2.2.1)
         | (exact h.2.2.2.1))
    | skip
theorem code_ok {w : World} {A : Option Addr} {c : Nat} {bs : List UInt8} (k1 : bs.length ≤ c) (k4 : plain (.slice A bs.length c) = true) (k5 : A = none ∧ bs = [] ∨ ∃ b o, A = some ⟨b, o, none⟩ ∧ rdRo w b o (bs.length * 1) = some (flat encB bs)) : CoOk w A c bs :=
  ⟨fun H => (sl_of (enc := encB) (sz := 1) (fun _ => rfl) k5 H).1, k4, k1⟩
theorem code_reads {H : Type} {en : TypeId × Value → H} {w : World} {base : Nat} {spare : Nat → Bool} {held : Bool} {fuel : Nat} {u : Value} {x : DataW H × List MemPlace} (h : DataW.trod en Tryd.prog w base spare held fuel 22 [u] = some x) (hs : ∀ a n c, u = .slice (some a) n c → a.spot = none) : ∃ (A : Option Addr) (c : Nat) (l : List UInt8), u = .slice A l.length c ∧ plain (.slice A l.length c) = true ∧ CoOk w A c l := by
  obtain ⟨A, c, l, h1, h2, h3, h4, h5, h6⟩ := slice_readA byte_reads Tryd.underlying22 (by kernel_rfl) (fun _ => rfl) (by decide) (fun a v hv => by
    simp only [encB, List.mem_singleton] at hv
    subst hv
    rfl) h hs
  exact ⟨A, c, l, h1, h5, code_ok h2 h5 h6⟩
end Go.Proofs.YtcmflpdgfddmeaaDoorW.FA

namespace Go.Proofs.YtcmflpdgfddmeaaDoorW.FA
open Go.RowKit Go.ChangeShapes Go.WideShapes Go.ChangeAt Go.Deep Go.Proofs.YtcmflpdgfddmeaaDoorW.XM Go.Proofs Go.Proofs.YtcmflpdgfddmeaaDoorW.XWords Go.Proofs.YtcmflpdgfddmeaaDoorW.XRA
set_option maxRecDepth 100000
set_option linter.unusedVariables false
instance : Inhabited En := ⟨⟨em, 0, 0, em, em, em, em, em, 0⟩⟩
end Go.Proofs.YtcmflpdgfddmeaaDoorW.FA

namespace Go.Proofs.YtcmflpdgfddmeaaDoorW.FA
open Go.RowKit Go.Proofs.YtcmflpdgfddmeaaDoorW.XM Go.Proofs Go.Proofs.YtcmflpdgfddmeaaDoorW.XWords
set_option maxRecDepth 100000
set_option linter.unusedSimpArgs false
set_option linter.unusedVariables false
variable (w0 : World) (H : Hp)
theorem s_den : (ByteArray.mk #[100, 101, 110]).size ≤ 1000000000000 := by decide
theorem s_em : em.size ≤ 1000000000000 := by decide
theorem s_q : (ByteArray.mk #[113]).size ≤ 1000000000000 := by decide
set_option maxHeartbeats 40000000 in
theorem DrawPageOf_ok (A : Option Addr) (c : Nat) (bs : List UInt8) (hc : CoOk w0 A c bs) : AFn Tryd.prog w0 4 #[.slice A bs.length c] H fun v H2 => ∃ es k s g, H2 = Hx H g ∧ v = .tuple #[.slice (some ⟨nid H k, 0, some (es.length * 9)⟩) es.length es.length, .agg s.enc.toArray] ∧ LogD es ∧ es.length ≤ 60 ∧ g[k]? = some (some (.row 35 (flat En.enc es))) ∧ BigS s := by
  have hb : ∀ (g : List (Option Ob)) (Y : Option Ob) (r : List (Option Ob)), (g ++ Y :: r)[g.length]? = some Y := fun g Y r => by rw [List.getElem?_append_right (Nat.le_refl _)]; simp
  have gi : ∀ (g r : List (Option Ob)) (k : Nat), (g ++ r)[g.length + k]? = r[k]? := fun g r k => by rw [List.getElem?_append_right (by omega)]; simp
  have si : ∀ (g r : List (Option Ob)) (k : Nat) (Z : Option Ob), (g ++ r).set (g.length + k) Z = g ++ r.set k Z := fun g r k Z => by rw [List.set_append_right _ _ (by omega)]; simp
  have si0 : ∀ (g r : List (Option Ob)) (Z : Option Ob), (g ++ r).set g.length Z = g ++ r.set 0 Z := fun g r Z => by rw [List.set_append_right _ _ (by omega)]; simp
  refine AFn_nil ?_
  refine AFn_of Tryd.func4 rfl (by kernel_rfl) ?_
  have r := Tryd.results4
  simp only [go_sem, cond, Nat.reduceAdd, Nat.reduceLeDiff, Nat.reduceEqDiff, Nat.reduceBEq, decide_true, decide_false, Int.toNat_natCast, r, hb, gi, si, si0, List.set_cons_zero, List.set_cons_succ, List.set_set, List.append_assoc, List.length_append, List.length_set, List.length_cons, List.singleton_append, List.cons_append, List.nil_append]
  refine call (l16Open_ok w0 _ A c bs hc) ?_
  rintro v H2 ⟨D, hD, rfl, rfl⟩
  simp only [go_sem, cond, Nat.reduceAdd, Nat.reduceLeDiff, Nat.reduceEqDiff, Nat.reduceBEq, decide_true, decide_false, Int.toNat_natCast, r, hb, gi, si, si0, List.set_cons_zero, List.set_cons_succ, List.set_set, List.append_assoc, List.length_append, List.length_set, List.length_cons, List.singleton_append, List.cons_append, List.nil_append]
  refine call (l16Log_60 w0 D H _ 1 _ hD rfl (by omega)) ?_
  rintro v H2 ⟨p1, es, kl, g, rfl, -, hp1, hes, hlen, rfl, hkl⟩
  simp only [go_sem, cond, Nat.reduceAdd, Nat.reduceLeDiff, Nat.reduceEqDiff, Nat.reduceBEq, decide_true, decide_false, Int.toNat_natCast, r, hb, gi, si, si0, List.set_cons_zero, List.set_cons_succ, List.set_set, List.append_assoc, List.length_append, List.length_set, List.length_cons, List.singleton_append, List.cons_append, List.nil_append]
  have hl3 : ∀ (a b : Option Ob) (rest : List (Option Ob)), (a :: b :: (g ++ rest))[2 + kl]? = some (some (.row 35 (flat En.enc es))) := fun a b rest => by
    rw [show 2 + kl = kl + 1 + 1 by omega]
    show (g ++ rest)[kl]? = _
    rw [List.getElem?_append_left (lt_of_get hkl)]; exact hkl
  refine call (pick_ok w0 D hD H _ 1 _ _ rfl (by omega)) ?_
  rintro v H2 ⟨k1, rfl, -, -, rfl⟩
  simp only [go_sem, cond, Nat.reduceAdd, Nat.reduceLeDiff, Nat.reduceEqDiff, Nat.reduceBEq, decide_true, decide_false, Int.toNat_natCast, r, hb, gi, si, si0, List.set_cons_zero, List.set_cons_succ, List.set_set, List.append_assoc, List.length_append, List.length_set, List.length_cons, List.singleton_append, List.cons_append, List.nil_append]
  refine call (l7Of_ok w0 _ _ _ es (ByteArray.mk #[100, 101, 110]) (ByteArray.mk #[]) (Sl_own elen 35 es H _ _ (hl3 _ _ _)) (by omega)) ?_
  rintro v H2 ⟨g2, rfl, rfl⟩
  have hLe := tk_le (ByteArray.mk #[100, 101, 110]) (ByteArray.mk #[]) es
  generalize tk (ByteArray.mk #[100, 101, 110]) (ByteArray.mk #[]) es = L at *
  simp only [go_sem, cond, Nat.reduceAdd, Nat.reduceLeDiff, Nat.reduceEqDiff, Nat.reduceBEq, decide_true, decide_false, Int.toNat_natCast, r, hb, gi, si, si0, List.set_cons_zero, List.set_cons_succ, List.set_set, List.append_assoc, List.length_append, List.length_set, List.length_cons, List.singleton_append, List.cons_append, List.nil_append]
  have hro : ∀ (k : Nat), k < L.length → ∃ q : Int, rdO (some (some (.row 35 (flat En.enc L)))) (k * 9 + 1) (L.length * 9) 1 = some [.int .i64 q] := fun k hk => by
    have hle : k * 9 + 9 ≤ L.length * 9 := by omega
    refine ⟨L[k].seq, ?_⟩
    rw [rdO_row, if_pos ⟨flat_len elen L, by rw [flat_len elen]; omega⟩, flat_row elen L hk 1 1 (by decide)]
    rfl
  repeat' (first
    | (refine Br_intro ?_ ?_ <;> intro h <;> simp only [go_sem, cond, Nat.reduceAdd, Nat.reduceLeDiff, Nat.reduceEqDiff, Nat.reduceBEq, decide_true, decide_false, Int.toNat_natCast, r, hb, gi, si, si0, List.set_cons_zero, List.set_cons_succ, List.set_set, List.append_assoc, List.length_append, List.length_set, List.length_cons, List.singleton_append, List.cons_append, List.nil_append, h])
    | (refine call (pick_ok w0 D hD H _ 1 _ _ rfl (by omega)) ?_; rintro v H2 ⟨k2, rfl, k3, -, rfl⟩; simp only [go_sem, cond, Nat.reduceAdd, Nat.reduceLeDiff, Nat.reduceEqDiff, Nat.reduceBEq, decide_true, decide_false, Int.toNat_natCast, r, hb, gi, si, si0, List.set_cons_zero, List.set_cons_succ, List.set_set, List.append_assoc, List.length_append, List.length_set, List.length_cons, List.singleton_append, List.cons_append, List.nil_append])
    | (refine call (l16AnySay_ok w0 D H _ 1 _ hD rfl (by omega)) ?_; rintro v H2 ⟨p3, rfl, -, hp3, ⟨y1, y2, y3, y4, y5, y6, y7, y8, y9, y10⟩, hy, rfl⟩; simp only [go_sem, cond, Nat.reduceAdd, Nat.reduceLeDiff, Nat.reduceEqDiff, Nat.reduceBEq, decide_true, decide_false, Int.toNat_natCast, r, hb, gi, si, si0, List.set_cons_zero, List.set_cons_succ, List.set_set, List.append_assoc, List.length_append, List.length_set, List.length_cons, List.singleton_append, List.cons_append, List.nil_append, Sy.enc])
    | (refine call (l16User_ok w0 D H _ 1 _ hD rfl (by omega)) ?_; rintro v H2 ⟨p3, rfl, -, -, us, hus, rfl⟩; simp only [go_sem, cond, Nat.reduceAdd, Nat.reduceLeDiff, Nat.reduceEqDiff, Nat.reduceBEq, decide_true, decide_false, Int.toNat_natCast, r, hb, gi, si, si0, List.set_cons_zero, List.set_cons_succ, List.set_set, List.append_assoc, List.length_append, List.length_set, List.length_cons, List.singleton_append, List.cons_append, List.nil_append])
    | (refine bsV_dense ⟨_, XF.zer_3, rfl⟩ rfl rfl (by decide) rfl ?_; simp only [go_sem, cond, Nat.reduceAdd, Nat.reduceLeDiff, Nat.reduceEqDiff, Nat.reduceBEq, decide_true, decide_false, Int.toNat_natCast, r, hb, gi, si, si0, List.set_cons_zero, List.set_cons_succ, List.set_set, List.append_assoc, List.length_append, List.length_set, List.length_cons, List.singleton_append, List.cons_append, List.nil_append])
    | (refine call (one_ok w0 D hD H _ 1 _ _ _ _ _ rfl (by omega) (by simp only [List.getElem?_cons_succ, gi, hb]; first | rfl | simp) rfl rfl (by decide) (by decide) (by decide)) ?_; rintro v H2 ⟨s1, -, -, -, rfl, rfl⟩; simp only [go_sem, cond, Nat.reduceAdd, Nat.reduceLeDiff, Nat.reduceEqDiff, Nat.reduceBEq, decide_true, decide_false, Int.toNat_natCast, r, hb, gi, si, si0, List.set_cons_zero, List.set_cons_succ, List.set_set, List.append_assoc, List.length_append, List.length_set, List.length_cons, List.singleton_append, List.cons_append, List.nil_append])
    | (have k4 := k3 (by have := of_decide_eq_true (by assumption : decide (0 < (L.length : Int)) = true); omega)
       refine Req_intro ⟨by omega, k4⟩ ?_
       obtain ⟨sq, hsq⟩ := hro k2 (by omega)
       clear k3 k4
       simp only [go_sem, cond, Nat.reduceAdd, Nat.reduceLeDiff, Nat.reduceEqDiff, Nat.reduceBEq, decide_true, decide_false, Int.toNat_natCast, r, hb, gi, si, si0, List.set_cons_zero, List.set_cons_succ, List.set_set, List.append_assoc, List.length_append, List.length_set, List.length_cons, List.singleton_append, List.cons_append, List.nil_append, hsq])
    | ((refine xw_open (id := 19) [0, 0, 1, 7] [.q 0, .q 2, .q 1, .e 3] rfl (by kernel_rfl) ?_; simp only [go_sem, cond, Nat.reduceAdd, Nat.reduceLeDiff, Nat.reduceEqDiff, Nat.reduceBEq, decide_true, decide_false, Int.toNat_natCast, r, hb, gi, si, si0, List.set_cons_zero, List.set_cons_succ, List.set_set, List.append_assoc, List.length_append, List.length_set, List.length_cons, List.singleton_append, List.cons_append, List.nil_append])))
  all_goals first
    | exact ⟨es, 2 + kl, ⟨12, ByteArray.mk #[100, 101, 110], em, em, ByteArray.mk #[113], em, em, _, _, _⟩, _, rfl, rfl, hes, hlen, hl3 _ _ _, ⟨s_den, s_em, s_em, s_q, s_em, s_em⟩⟩
    | (have hus' : us.size ≤ 1000000000000 := by omega
       exact ⟨es, 2 + kl, ⟨12, ByteArray.mk #[100, 101, 110], em, us, ByteArray.mk #[113], em, em, _, _, _⟩, _, rfl, rfl, hes, hlen, hl3 _ _ _, ⟨s_den, s_em, hus', s_q, s_em, s_em⟩⟩)
    | (have := hy
       exact ⟨es, 2 + kl, ⟨y1, y2, y3, y4, y5, y6, y7, y8, y9, y10⟩, _, rfl, rfl, hes, hlen, hl3 _ _ _, SyOk.bigS hy⟩)
end Go.Proofs.YtcmflpdgfddmeaaDoorW.FA

namespace Go.Proofs.YtcmflpdgfddmeaaDoorW.FA
open Go.RowKit Go.Proofs.YtcmflpdgfddmeaaDoorW.XM Go.Proofs Go.Proofs.YtcmflpdgfddmeaaDoorW.XWords
set_option maxRecDepth 100000
set_option linter.unusedSimpArgs false
set_option linter.unusedVariables false
variable (w0 : World) (H : Hp)
end Go.Proofs.YtcmflpdgfddmeaaDoorW.FA

namespace Go.Proofs.YtcmflpdgfddmeaaDoorW.FA
open Go.RowKit Go.Proofs.YtcmflpdgfddmeaaDoorW.XM Go.Proofs Go.Proofs.YtcmflpdgfddmeaaDoorW.XWords
set_option maxRecDepth 100000
set_option linter.unusedSimpArgs false
set_option linter.unusedVariables false
variable (w0 : World) (H : Hp)
theorem tk_rise {es : List En} (h : LogD es) (ro us : ByteArray) : (tk ro us es).Pairwise (fun a b => a.seq < b.seq) ∧ ∀ e ∈ tk ro us es, 0 ≤ e.seq ∧ e.seq ≤ 9999 := by
  have hr := h.rise ro
  have hf : tk ro us es = (es.filter (inRo ro)).filter (fun e => (e.kind == 3) && (emB us || (e.user.toList == us.toList))) := by
    rw [List.filter_filter]
    unfold tk
    congr 1
    funext e
    unfold tkB inRo
    rw [Bool.and_comm]
  refine ⟨by rw [hf]; exact hr.pair.filter _, fun e he => ?_⟩
  rw [hf] at he
  have := hr.each e (List.mem_filter.1 he).1
  have := hr.rg
  omega
theorem idx_rise {L : List En} (h : L.Pairwise (fun a b => a.seq < b.seq)) (m : Nat) (hm : m < L.length) : idxP (isAt L[m].seq) L 0 = m := by
  rw [List.pairwise_iff_getElem] at h
  rcases idxP_all (isAt L[m].seq) L 0 with ⟨h1, h2⟩ | ⟨k, hk, h1, h2, h3⟩
  · have := h2 L[m] (List.getElem_mem hm)
    simp [isAt] at this
  · rw [h1, Nat.zero_add]
    have e : L[k].seq = L[m].seq := by simpa [isAt] using h2
    rcases Nat.lt_trichotomy k m with g | g | g
    · have := h k m hk hm g; omega
    · rw [g]
    · have := h m k hm hk g; omega
def den : ByteArray := ByteArray.mk #[100, 101, 110]
/-- The question for a page. -/
def qS (n frm back : Int) : Sy := ⟨12, ByteArray.mk #[100, 101, 110], em, em, ByteArray.mk #[113], em, em, n, frm, back⟩
theorem den_ok : userB (ByteArray.mk #[100, 101, 110]) = true := by decide
theorem q_ok : wordB (ByteArray.mk #[113]) = true := by decide
theorem em_or : orB userB em = true := by
  have : emB em = true := beq_self_eq_true _
  unfold orB
  rw [this]; rfl
theorem qS_ok {n frm back : Int} (h1 : 1 ≤ n ∧ n ≤ 4) (h2 : -1 ≤ frm ∧ frm ≤ 9999) (h3 : -1 ≤ back ∧ back ≤ 9999) (h4 : frm < 0 ∨ back < 0) : sayB (qS n frm back) = true := by
  have hc : cleanS (qS n frm back) = qS n frm back := rfl
  have hx : xS (qS n frm back) = true := by
    unfold xS
    rw [hc]
    unfold eqS
    simp
  have b1 : inB n 1 4 = true := by simp [inB]; omega
  have b2 : inB frm (-1) 9999 = true := by simp [inB]; omega
  have b3 : inB back (-1) 9999 = true := by simp [inB]; omega
  have b4 : (decide (frm < 0) || decide (back < 0)) = true := by simp; omega
  have hr : restS (qS n frm back) = true := by
    show (orB userB em && (inB n 1 4 && (inB frm (-1) 9999 && (inB back (-1) 9999 && (decide (frm < 0) || decide (back < 0)))))) = true
    rw [em_or, b1, b2, b3, b4]; rfl
  unfold sayB
  rw [hx, hr]
  show (true && ((!decide ((6 : Int) ≤ 12) || userB (ByteArray.mk #[100, 101, 110])) && ((!decide ((8 : Int) ≤ 12) || wordB (ByteArray.mk #[113])) && true))) = true
  rw [den_ok, q_ok]; rfl
theorem qS_big (n frm back : Int) : BigS (qS n frm back) := ⟨s_den, s_em, s_em, s_q, s_em, s_em⟩
theorem PgA.src {B : Hp} {l0 g : List (Option Ob)} {A : Option Addr} {c : Nat} {rows : List En} (h : PgA (Hx B l0) g A c rows) (l0' : List (Option Ob)) (hl : l0'.length = l0.length) : Go.Proofs.YtcmflpdgfddmeaaDoorW.XM.src w0 (Hx B (l0' ++ g)) 9 (.slice A rows.length c) = some (rows.length, flat En.enc rows) := by
  rcases h with ⟨rfl, rfl, rfl⟩ | ⟨k, rfl, hk⟩
  · rfl
  · rw [nid_Hx, src_sl]
    have := rd_flat (w0 := w0) elen 35 rows B (l0' ++ g) (l0.length + k) (by rw [← hl, List.getElem?_append_right (by omega), Nat.add_sub_cancel_left]; exact hk) []
    rw [Hx_nil] at this
    rw [this]; rfl
end Go.Proofs.YtcmflpdgfddmeaaDoorW.FA

namespace Go.Proofs.YtcmflpdgfddmeaaDoorW.FA
open Go.RowKit Go.Proofs.YtcmflpdgfddmeaaDoorW.XM Go.Proofs Go.Proofs.YtcmflpdgfddmeaaDoorW.XWords
set_option maxRecDepth 100000
set_option linter.unusedSimpArgs false
set_option linter.unusedVariables false
/-- The page ahead of the entry at m. -/
theorem page_back {es : List En} (hes : LogD es) {n m : Nat} (hn : 1 ≤ n ∧ n ≤ 4) (hm : m < (tk den em es).length) : pageR es (qS n (-1) ((tk den em es)[m]).seq) = ⟨m - n == 0, (tk den em es).length, ((tk den em es).drop (m - n)).take (m - (m - n)), 0⟩ := by
  obtain ⟨h1, h2⟩ := tk_rise hes den em
  have hb := h2 _ (List.getElem_mem hm)
  obtain ⟨q, hq⟩ : ∃ q, q = ((tk den em es)[m]).seq := ⟨_, rfl⟩
  have hi : idxP (isAt q) (tk den em es) 0 = (m : Int) := by rw [hq]; exact idx_rise h1 m hm
  rw [← hq] at hb ⊢
  have hok : (sayB (qS n (-1) q) && ((qS n (-1) q).kind == 12)) = true := by
    rw [qS_ok (by omega) (by omega) (by omega) (.inl (by omega))]; rfl
  unfold pageR
  rw [if_pos hok]
  have e1 : tk (qS n (-1) q).room (qS n (-1) q).name es = tk den em es := rfl
  unfold pgR
  dsimp only
  rw [e1]
  show (if (0 : Int) ≤ -1 then _ else if 0 ≤ q then _ else _) = _
  rw [if_neg (by omega), if_pos hb.1]
  have e2 : idxP (isAt (qS n (-1) q).back) (tk den em es) 0 = (m : Int) := hi
  rw [e2, if_neg (by omega)]
  have en : (qS n (-1) q).num.toNat = n := rfl
  rw [en]
  simp only [Int.toNat_natCast]
end Go.Proofs.YtcmflpdgfddmeaaDoorW.FA

namespace Go.Proofs.YtcmflpdgfddmeaaDoorW.FA
open Go.RowKit Go.Proofs.YtcmflpdgfddmeaaDoorW.XM Go.Proofs Go.Proofs.YtcmflpdgfddmeaaDoorW.XWords
set_option maxRecDepth 100000
set_option linter.unusedSimpArgs false
set_option linter.unusedVariables false
variable (w0 : World) (H : Hp)
def sayO2 (q : Sy) : Option Ob := some (.row 25 q.enc)
def bkW (L : List En) (m : Nat) : Int := if h : m < L.length then L[m].seq else 0
theorem PgA.srcT {B : Hp} {l0 g : List (Option Ob)} {A : Option Addr} {c : Nat} {rows : List En} (h : PgA (Hx B l0) g A c rows) (l0' r : List (Option Ob)) (hl : l0'.length = l0.length) : Go.Proofs.YtcmflpdgfddmeaaDoorW.XM.src w0 (Hx B (l0' ++ (g ++ r))) 9 (.slice A rows.length c) = some (rows.length, flat En.enc rows) := by
  rcases h with ⟨rfl, rfl, rfl⟩ | ⟨k, rfl, hk⟩
  · rfl
  · rw [nid_Hx, src_sl]
    have := rd_flat (w0 := w0) elen 35 rows B (l0' ++ (g ++ r)) (l0.length + k) (by rw [← hl, List.getElem?_append_right (by omega), Nat.add_sub_cancel_left, List.getElem?_append_left (lt_of_get hk)]; exact hk) []
    rw [Hx_nil] at this
    rw [this]; rfl
theorem own_cell (ls : List En) (B : Hp) (l : List (Option Ob)) (j i : Nat) {b o : Nat} {sp : Option Nat} (h : l[j]? = some (some (.row 35 (flat En.enc ls)))) (hi : i < ls.length) (he : (⟨nid B j, 0, some (ls.length * 9)⟩ : Addr) = ⟨b, o, sp⟩) : rd w0 (Hx B l) ⟨b, o + i * 9 + 1, sp⟩ 1 = some [.int .i64 ls[i].seq] ∧ rd w0 (Hx B l) ⟨b, o + i * 9, sp⟩ 9 = some ls[i].enc := by
  obtain ⟨b', o', sp', e, hc, hw⟩ := mcell (Sl_own (w0 := w0) elen 35 ls B l j h) (i := i) hi
  rw [he] at e
  cases e
  have h1 := hc 1 (.int .i64 ls[i].seq) [] (by decide) rfl
  have h2 := hw [] (elen _)
  rw [Hx_nil] at h1 h2
  exact ⟨h1, h2⟩
set_option maxHeartbeats 40000000 in
theorem law_PageBack (A : Option Addr) (c : Nat) (bs : List UInt8) (A' : Option Addr) (c' : Nat) (bs' : List UInt8) (hT : Tabs w0) (hc : CoOk w0 A c bs) : AFn Tryd.prog w0 3 #[.slice A bs.length c, .slice A' bs'.length c'] H fun v H2 => v = .bool true ∧ H2 = H := by
  have hb : ∀ (g : List (Option Ob)) (Y : Option Ob) (r : List (Option Ob)), (g ++ Y :: r)[g.length]? = some Y := fun g Y r => by rw [List.getElem?_append_right (Nat.le_refl _)]; simp
  have gi : ∀ (g r : List (Option Ob)) (k : Nat), (g ++ r)[g.length + k]? = r[k]? := fun g r k => by rw [List.getElem?_append_right (by omega)]; simp
  have si : ∀ (g r : List (Option Ob)) (k : Nat) (Z : Option Ob), (g ++ r).set (g.length + k) Z = g ++ r.set k Z := fun g r k Z => by rw [List.set_append_right _ _ (by omega)]; simp
  have si0 : ∀ (g r : List (Option Ob)) (Z : Option Ob), (g ++ r).set g.length Z = g ++ r.set 0 Z := fun g r Z => by rw [List.set_append_right _ _ (by omega)]; simp
  have bnn : ∀ c b d, xBin Tryd.prog .neq 4 c (.bool b) (.bool d) = some (.bool (!(b == d))) := fun c b d => bool_ne 4 c b d XF.isB_4
  refine AFn.scal rfl Tryd.func3 rfl (by kernel_rfl) ?_
  have r := Tryd.results3
  simp only [go_sem, cond, Nat.reduceAdd, Nat.reduceLeDiff, Nat.reduceEqDiff, Nat.reduceBEq, decide_true, decide_false, Int.toNat_natCast, r]
  refine Br_intro ?_ ?_ <;> intro h0 <;> simp only [go_sem, cond, Nat.reduceAdd, Nat.reduceLeDiff, Nat.reduceEqDiff, Nat.reduceBEq, decide_true, decide_false, Int.toNat_natCast, r, hb, gi, si, si0, List.set_cons_zero, List.set_cons_succ, List.set_set, List.length_set, List.append_assoc, List.length_append, List.length_cons, List.singleton_append, List.cons_append, List.nil_append, h0]
  · exact ⟨_, rfl⟩
  refine Br_intro ?_ ?_ <;> intro h1 <;> simp only [go_sem, cond, Nat.reduceAdd, Nat.reduceLeDiff, Nat.reduceEqDiff, Nat.reduceBEq, decide_true, decide_false, Int.toNat_natCast, r, hb, gi, si, si0, List.set_cons_zero, List.set_cons_succ, List.set_set, List.length_set, List.append_assoc, List.length_append, List.length_cons, List.singleton_append, List.cons_append, List.nil_append, h0, h1]
  · exact ⟨_, rfl⟩
  have hbs' := of_decide_eq_false h1
  obtain ⟨H0, hH0⟩ : ∃ H0, H0 = Hx H [] := ⟨_, rfl⟩
  rw [← hH0]
  refine call (DrawPageOf_ok w0 H0 A c bs hc) ?_
  rintro v H2 ⟨es, ke, s, g, rfl, rfl, hes, hlen, hke, hB⟩
  have hPl := pgL es s
  obtain ⟨X, hX⟩ : ∃ X, X = Hx H0 g := ⟨_, rfl⟩
  have hsl : ∀ L, Sl w0 (Hx X L) (some ⟨nid H0 ke, 0, some (es.length * 9)⟩) 9 (es.map En.enc) := fun L => by rw [hX]; exact (Sl_own elen 35 es H0 g ke hke).old L
  have hso : ∀ L M, srcO es.length (rd w0 (Hx (Hx X L) M) ⟨nid H0 ke, 0, some (es.length * 9)⟩ (es.length * 9)) = some (es.length, flat En.enc es) := fun L M => by
    rw [hX, Hx_Hx, Hx_Hx, ← Hx_Hx, rd_flat elen 35 es H0 g ke hke]; rfl
  rw [← hX, ← Hx_nil X]
  obtain ⟨n, hn⟩ : ∃ n : Nat, n = 1 + bs'.length % 4 := ⟨_, rfl⟩
  have w4 : ∀ cb : Bool, xBin Tryd.prog .rem 3 cb (.int .i64 (bs'.length : Int)) (.int .i64 4) = some (.int .i64 ((bs'.length % 4 : Nat) : Int)) := fun cb => by
    rw [bin_rem _ _ _ _ _ (by decide)]
    congr 2
  have w5 : IntKind.i64.wrap (1 + ((bs'.length % 4 : Nat) : Int)) = (n : Int) := by rw [wrap_i64 (by omega) (by omega)]; omega
  have hLe := tk_le den em es
  simp only [go_sem, cond, Nat.reduceAdd, Nat.reduceLeDiff, Nat.reduceEqDiff, Nat.reduceBEq, decide_true, decide_false, Int.toNat_natCast, r, hb, gi, si, si0, List.set_cons_zero, List.set_cons_succ, List.set_set, List.length_set, List.append_assoc, List.length_append, List.length_cons, List.singleton_append, List.cons_append, List.nil_append, Sy.enc]
  refine call (hbTalk_ok w0 _ _ _ es (ByteArray.mk #[100, 101, 110]) em (hsl _) (by omega)) ?_
  rintro v H2 ⟨ga, rfl, rfl⟩
  have hpb0 := fun m hm => page_back hes (n := n) (m := m) (by omega) hm
  rw [show tk (ByteArray.mk #[100, 101, 110]) em es = tk den em es from rfl]
  obtain ⟨L, hL⟩ : ∃ L, L = tk den em es := ⟨_, rfl⟩
  rw [← hL] at hLe hpb0
  rw [← hL]
  have hpb : ∀ m, m < L.length → pageR es (qS n (-1) (bkW L m)) = ⟨m - n == 0, L.length, (L.drop (m - n)).take (m - (m - n)), 0⟩ := fun m hm => by
    rw [← hpb0 m hm, bkW, dif_pos hm]
  clear hpb0
  obtain ⟨OA, hOA⟩ : ∃ OA : Option Ob, OA = some (.row 35 (flat En.enc L)) := ⟨_, rfl⟩
  rw [← hOA]
  simp only [go_sem, cond, Nat.reduceAdd, Nat.reduceLeDiff, Nat.reduceEqDiff, Nat.reduceBEq, decide_true, decide_false, Int.toNat_natCast, r, hb, gi, si, si0, List.set_cons_zero, List.set_cons_succ, List.set_set, List.length_set, List.append_assoc, List.length_append, List.length_cons, List.singleton_append, List.cons_append, List.nil_append, Sy.enc]
  have cS := fun (H : Hp) (A : Option Addr) (c : Nat) (hs : Sl w0 H A 9 (es.map En.enc)) => PageOfS_ok w0 H A c es s hB hs (by omega)
  have cI := fun (H : Hp) (a : Addr) (c : Nat) (hs : ∀ L, srcO es.length (rd w0 (Hx H L) a (es.length * 9)) = some (es.length, flat En.enc es)) => PageOfI_ok w0 H a c es s hT hB hs (by omega)
  generalize pageR es s = P at cS cI hPl
  refine call (cI _ _ _ (hso _)) ?_
  rintro v H2 ⟨A1, c1, g1, rfl, rfl, hA1⟩
  simp only [go_sem, cond, Nat.reduceAdd, Nat.reduceLeDiff, Nat.reduceEqDiff, Nat.reduceBEq, decide_true, decide_false, Int.toNat_natCast, r, hb, gi, si, si0, List.set_cons_zero, List.set_cons_succ, List.set_set, List.length_set, List.append_assoc, List.length_append, List.length_cons, List.singleton_append, List.cons_append, List.nil_append, Sy.enc, pgV]
  refine call (cS _ _ _ (hsl _)) ?_
  rintro v H2 ⟨A2, c2, g2, rfl, rfl, hA2⟩
  simp only [go_sem, cond, Nat.reduceAdd, Nat.reduceLeDiff, Nat.reduceEqDiff, Nat.reduceBEq, decide_true, decide_false, Int.toNat_natCast, r, hb, gi, si, si0, List.set_cons_zero, List.set_cons_succ, List.set_set, List.length_set, List.append_assoc, List.length_append, List.length_cons, List.singleton_append, List.cons_append, List.nil_append, Sy.enc, pgV]
  have hA1' : ∀ (a b : Option Ob) (r : List (Option Ob)), Sl w0 (Hx X (a :: b :: (ga ++ (g1 ++ r)))) A1 9 (P.rows.map En.enc) := fun a b r => by
    have := hA1.at w0 (a :: b :: ga) r (by simp)
    simpa only [List.append_assoc, List.cons_append, List.nil_append] using this
  have hA2' : ∀ (a b d : Option Ob) (r : List (Option Ob)), Sl w0 (Hx X (a :: b :: (ga ++ (g1 ++ d :: (g2 ++ r))))) A2 9 (P.rows.map En.enc) := fun a b d r => by
    have := hA2.at w0 (a :: b :: (ga ++ (g1 ++ [d]))) r (by simp)
    simpa only [List.append_assoc, List.cons_append, List.nil_append] using this
  simp only [go_sem, cond, Nat.reduceAdd, Nat.reduceLeDiff, Nat.reduceEqDiff, Nat.reduceBEq, decide_true, decide_false, Int.toNat_natCast, r, hb, gi, si, si0, List.set_cons_zero, List.set_cons_succ, List.set_set, List.length_set, List.append_assoc, List.length_append, List.length_cons, List.singleton_append, List.cons_append, List.nil_append, bnn, beq_self_eq_true, Sy.enc]
  refine call_eq (hbPage_ok w0 _ P A1 A2 c1 c2 (hA1' _ _ _) (hA2' _ _ _ _) (by omega)) ?_
  simp only [go_sem, cond, Nat.reduceAdd, Nat.reduceLeDiff, Nat.reduceEqDiff, Nat.reduceBEq, decide_true, decide_false, Int.toNat_natCast, r, hb, gi, si, si0, List.set_cons_zero, List.set_cons_succ, List.set_set, List.length_set, List.append_assoc, List.length_append, List.length_cons, List.singleton_append, List.cons_append, List.nil_append, bnn, beq_self_eq_true, Sy.enc]
  refine Br_intro ?_ ?_ <;> intro hz <;> simp only [go_sem, cond, Nat.reduceAdd, Nat.reduceLeDiff, Nat.reduceEqDiff, Nat.reduceBEq, decide_true, decide_false, Int.toNat_natCast, r, hb, gi, si, si0, List.set_cons_zero, List.set_cons_succ, List.set_set, List.length_set, List.append_assoc, List.length_append, List.length_cons, List.singleton_append, List.cons_append, List.nil_append, hz, bnn, beq_self_eq_true, Sy.enc]
  · refine call_eq (hbPage_ok w0 _ P A1 A2 c1 c2 (hA1' _ _ _) (hA2' _ _ _ _) (by omega)) ?_
    simp only [go_sem, cond, Nat.reduceAdd, Nat.reduceLeDiff, Nat.reduceEqDiff, Nat.reduceBEq, decide_true, decide_false, Int.toNat_natCast, r, hb, gi, si, si0, List.set_cons_zero, List.set_cons_succ, List.set_set, List.length_set, List.append_assoc, List.length_append, List.length_cons, List.singleton_append, List.cons_append, List.nil_append, r, bnn, beq_self_eq_true, Sy.enc]
    exact ⟨_, by rw [hX, hH0, Hx_Hx, Hx_Hx]⟩
  have hL0 : 0 < L.length := by
    have : ((L.length : Nat) : Int) ≠ 0 := by simpa using hz
    omega
  have w6 : IntKind.i64.wrap (((L.length : Nat) : Int) - 1) = ((L.length - 1 : Nat) : Int) := by rw [wrap_i64 (by omega) (by omega)]; omega
  have d4 : (0 ≤ ((L.length - 1 : Nat) : Int)) = True := eq_true (by omega)
  have d5 : (((L.length - 1 : Nat) : Int) < ((L.length : Nat) : Int)) = True := eq_true (by omega)
  obtain ⟨bA, oA, sA, hA⟩ : ∃ b o sp, (⟨nid X 1, 0, some (L.length * 9)⟩ : Addr) = ⟨b, o, sp⟩ := ⟨_, _, _, rfl⟩
  rw [hA]
  have cc0 := fun a r => (own_cell w0 L X (a :: OA :: r) 1 (L.length - 1) (by rw [hOA]; rfl) (by omega) hA).1
  have cc1 := fun a r => (own_cell w0 L X (a :: OA :: r) 1 (L.length - 1) (by rw [hOA]; rfl) (by omega) hA).2
  have hE1 : L[L.length - 1]'(by omega) = L[L.length - 1]'(by omega) := rfl
  have hfl : flat En.enc (L.drop (L.length - 1)) = (L[L.length - 1]'(by omega)).enc := by
    rw [List.drop_eq_getElem_cons (by omega), show L.length - 1 + 1 = L.length by omega, List.drop_length]; simp [flat]
  have hbk : bkW L (L.length - 1) = (L[L.length - 1]'(by omega)).seq := by rw [bkW, dif_pos (by omega)]
  generalize L[L.length - 1]'(by omega) = Z at cc0 cc1 hfl hbk hE1
  simp only [En.enc] at cc1
  simp only [go_sem, cond, Nat.reduceAdd, Nat.reduceLeDiff, Nat.reduceEqDiff, Nat.reduceBEq, decide_true, decide_false, Int.toNat_natCast, r, hb, gi, si, si0, List.set_cons_zero, List.set_cons_succ, List.set_set, List.length_set, List.append_assoc, List.length_append, List.length_cons, List.singleton_append, List.cons_append, List.nil_append, w4, w5, w6, d4, d5, cc0, cc1, Sy.enc]
  refine Req_intro ⟨_, rfl, rfl⟩ ?_
  simp only [go_sem, cond, Nat.reduceAdd, Nat.reduceLeDiff, Nat.reduceEqDiff, Nat.reduceBEq, decide_true, decide_false, Int.toNat_natCast, r, hb, gi, si, si0, List.set_cons_zero, List.set_cons_succ, List.set_set, List.length_set, List.append_assoc, List.length_append, List.length_cons, List.singleton_append, List.cons_append, List.nil_append, beq_self_eq_true]
  have hZ : fillS.cellsL (.agg #[.string Z.room, .int .i64 Z.seq, .int .i64 Z.kind, .string Z.user, .string Z.nick, .string Z.text, .string Z.id, .string Z.ref, .int .i64 Z.num]) = Z.enc := rfl
  have hsAll : ∀ M : List (Option Ob), M[1]? = some OA → Sl w0 (Hx X M) (some ⟨bA, oA, sA⟩) 9 (L.map En.enc) := fun M hM => by
    rw [← hA]; exact Sl_own elen 35 L X M 1 (by rw [hM, hOA])
  refine xw_loop (fun (k : Nat) T H' => ∃ (m o : Nat) (M : List (Option Ob)) (j8 j12 j13 : Nat) (x8 : List Value), k + m + 1 ≤ L.length ∧ o + m = L.length ∧ m < L.length ∧ T 5 = .slice (some ⟨nid H0 ke, 0, some (es.length * 9)⟩) es.length es.length ∧ T 7 = .slice (some ⟨bA, oA, sA⟩) L.length L.length ∧ T 8 = .pointer (some ⟨nid X j8, 0, some 3⟩) ∧ T 12 = .pointer (some ⟨nid X j12, 0, some 10⟩) ∧ T 13 = .slice (some ⟨nid X j13, 0, some (o * 9)⟩) o o ∧ T 14 = .int .i64 k ∧ H' = Hx X M ∧
    M[1]? = some OA ∧ M[j8]? = some (some (.row 30 x8)) ∧ x8.length = 3 ∧ M[j12]? = some (sayO2 (qS n (-1) (bkW L m))) ∧ M[j13]? = some (some (.row 35 (flat En.enc (L.drop m)))) ∧ j8 ≠ 1 ∧ j12 ≠ 1 ∧ j8 ≠ j12 ∧ j8 ≠ j13 ∧ j12 ≠ j13) (fun k => 80 - k) 0 (by kernel_rfl) ?_ ?_
  · refine ⟨L.length - 1, 1, _, _, _, _, [.bool P.full, .int .i64 P.num, .slice A1 P.rows.length c1], by omega, by omega, by omega, rfl, rfl, rfl, rfl, rfl, rfl, rfl, rfl, by simp only [go_sem, cond, Nat.reduceAdd, Nat.reduceLeDiff, Nat.reduceEqDiff, Nat.reduceBEq, decide_true, decide_false, Int.toNat_natCast, r, hb, gi, si, si0, List.set_cons_zero, List.set_cons_succ, List.set_set, List.length_set, List.append_assoc, List.length_append, List.length_cons, List.singleton_append, List.cons_append, List.nil_append], rfl, ?_, ?_, by omega, by omega, by omega, by omega, by omega⟩
    · rw [hbk]; simp only [go_sem, cond, Nat.reduceAdd, Nat.reduceLeDiff, Nat.reduceEqDiff, Nat.reduceBEq, decide_true, decide_false, Int.toNat_natCast, r, hb, gi, si, si0, List.set_cons_zero, List.set_cons_succ, List.set_set, List.length_set, List.append_assoc, List.length_append, List.length_cons, List.singleton_append, List.cons_append, List.nil_append]; rfl
    · rw [hfl]; simp only [go_sem, cond, Nat.reduceAdd, Nat.reduceLeDiff, Nat.reduceEqDiff, Nat.reduceBEq, decide_true, decide_false, Int.toNat_natCast, r, hb, gi, si, si0, List.set_cons_zero, List.set_cons_succ, List.set_set, List.length_set, List.append_assoc, List.length_append, List.length_cons, List.singleton_append, List.cons_append, List.nil_append]; rfl
  · rintro k T H' ⟨m, o, M, j8, j12, j13, x8, hkm, ho, hm, t5, t7, t8, t12, t13, t14, rfl, m1, m8, l8, m12, m13, n81, n121, n812, n813, n1213⟩
    obtain ⟨xa, xb, xc, rfl⟩ := list_3 x8 l8
    have hpw := hpb m hm
    obtain ⟨E, hE⟩ : ∃ E, E = m - n := ⟨_, rfl⟩
    rw [← hE] at hpw
    have cQ := PageOfI_ok w0 (Hx X M) ⟨nid H0 ke, 0, some (es.length * 9)⟩ es.length es (qS n (-1) (bkW L m)) hT (qS_big _ _ _) (hso M) (by omega)
    rw [hpw] at cQ
    have lj8 := lt_of_get m8
    have lj12 := lt_of_get m12
    have lj13 := lt_of_get m13
    have lj1 := lt_of_get m1
    have d1 : ((k : Int) < 80) = True := eq_true (by omega)
    simp only [sayO2, qS, Sy.enc] at m12
    simp only [go_sem, cond, Nat.reduceAdd, Nat.reduceLeDiff, Nat.reduceEqDiff, Nat.reduceBEq, decide_true, decide_false, Int.toNat_natCast, r, hb, gi, si, si0, List.set_cons_zero, List.set_cons_succ, List.set_set, List.length_set, List.append_assoc, List.length_append, List.length_cons, List.singleton_append, List.cons_append, List.nil_append, t5, t7, t8, t12, t13, t14, d1, m12]
    refine call cQ ?_
    rintro v H2 ⟨A3, c3, g3, rfl, rfl, hA3⟩
    have hrl : ((L.drop E).take (m - E)).length = m - E := by rw [List.length_take, List.length_drop]; omega
    dsimp only at hA3
    simp only [pgV, hrl]
    have s1 : ∀ Y : Option Ob, (M ++ g3).set j8 Y = M.set j8 Y ++ g3 := fun Y => List.set_append_left _ _ lj8
    have g0 : (M ++ g3)[j8]? = some (some (.row 30 [xa, xb, xc])) := by rw [List.getElem?_append_left lj8]; exact m8
    simp only [go_sem, cond, Nat.reduceAdd, Nat.reduceLeDiff, Nat.reduceEqDiff, Nat.reduceBEq, decide_true, decide_false, Int.toNat_natCast, r, hb, gi, si, si0, List.set_cons_zero, List.set_cons_succ, List.set_set, List.length_set, List.append_assoc, List.length_append, List.length_cons, List.singleton_append, List.cons_append, List.nil_append, t5, t7, t8, t12, t13, t14, d1, s1, g0]
    have sc3 : ∀ Y : Option Ob, (M.set j8 Y).length = M.length := fun Y => List.length_set ..
    have g1 : ∀ (Y : Option Ob) (G : List (Option Ob)), (M.set j8 Y ++ G)[j8]? = some Y := fun Y G => by rw [List.getElem?_append_left (by simpa using lj8), List.getElem?_set_self lj8]
    have g2 : ∀ (Y : Option Ob) (G : List (Option Ob)), (M.set j8 Y ++ G)[j13]? = some (some (.row 35 (flat En.enc (L.drop m)))) := fun Y G => by rw [List.getElem?_append_left (by simpa using lj13), List.getElem?_set_ne n813]; exact m13
    have g4 : ∀ (Y : Option Ob) (G : List (Option Ob)), (M.set j8 Y ++ G)[1]? = some OA := fun Y G => by rw [List.getElem?_append_left (by simpa using lj1), List.getElem?_set_ne n81]; exact m1
    have g5 : ∀ (Y : Option Ob) (G : List (Option Ob)), (M.set j8 Y ++ G)[j12]? = some (some (.row 25 [.int .i64 12, .string (ByteArray.mk #[100, 101, 110]), .string em, .string em, .string (ByteArray.mk #[113]), .string em, .string em, .int .i64 (n : Int), .int .i64 (-1), .int .i64 (bkW L m)])) := fun Y G => by rw [List.getElem?_append_left (by simpa using lj12), List.getElem?_set_ne n812]; exact m12
    simp only [go_sem, cond, Nat.reduceAdd, Nat.reduceLeDiff, Nat.reduceEqDiff, Nat.reduceBEq, decide_true, decide_false, Int.toNat_natCast, r, hb, gi, si, si0, List.set_cons_zero, List.set_cons_succ, List.set_set, List.length_set, List.append_assoc, List.length_append, List.length_cons, List.singleton_append, List.cons_append, List.nil_append, t5, t7, t8, t12, t13, t14, d1, s1, g1, g2, g4, g5, beq_self_eq_true]
    refine Req_intro ⟨_, rfl, rfl⟩ ?_
    simp only [go_sem, cond, Nat.reduceAdd, Nat.reduceLeDiff, Nat.reduceEqDiff, Nat.reduceBEq, decide_true, decide_false, Int.toNat_natCast, r, hb, gi, si, si0, List.set_cons_zero, List.set_cons_succ, List.set_set, List.length_set, List.append_assoc, List.length_append, List.length_cons, List.singleton_append, List.cons_append, List.nil_append, t5, t7, t8, t12, t13, t14, d1, s1, g1, g2, g4, g5, beq_self_eq_true]
    have hsr := fun Y r => hA3.srcT w0 (M.set j8 Y) r (by simp)
    simp only [hrl] at hsr
    have ed : (L.drop m).length = o := by rw [List.length_drop]; omega
    have gn : ∀ (Y Z : Option Ob) (G : List (Option Ob)), (M.set j8 Y ++ (g3 ++ Z :: G))[M.length + g3.length]? = some Z := fun Y Z G => by
      rw [List.getElem?_append_right (by simp), List.length_set, Nat.add_sub_cancel_left]; exact hb g3 Z G
    have sn : ∀ (Y Z Z' : Option Ob) (G : List (Option Ob)), (M.set j8 Y ++ (g3 ++ Z :: G)).set (M.length + g3.length) Z' = M.set j8 Y ++ (g3 ++ Z' :: G) := fun Y Z Z' G => by
      rw [List.set_append_right _ _ (by simp), List.length_set, Nat.add_sub_cancel_left, si0]; rfl
    simp only [go_sem, cond, Nat.reduceAdd, Nat.reduceLeDiff, Nat.reduceEqDiff, Nat.reduceBEq, decide_true, decide_false, Int.toNat_natCast, r, hb, gi, si, si0, List.set_cons_zero, List.set_cons_succ, List.set_set, List.length_set, List.append_assoc, List.length_append, List.length_cons, List.singleton_append, List.cons_append, List.nil_append, t5, t7, t8, t12, t13, t14, d1, s1, g1, g2, g4, g5, hsr, beq_self_eq_true]
    refine appS_full (m := m - E) (sl := 0) _ _ _ _ _ _ _ _ _ _ _ (gn _ _ _) rfl rfl XF.lay_35 (by decide) (by rw [flat_len elen, hrl]) (by omega) (by omega) ?_
    simp only [go_sem, cond, Nat.reduceAdd, Nat.reduceLeDiff, Nat.reduceEqDiff, Nat.reduceBEq, decide_true, decide_false, Int.toNat_natCast, r, hb, gi, si, si0, List.set_cons_zero, List.set_cons_succ, List.set_set, List.length_set, List.append_assoc, List.length_append, List.length_cons, List.singleton_append, List.cons_append, List.nil_append, t5, t7, t8, t12, t13, t14, d1, s1, g1, g2, g4, g5, gn, sn, Nat.zero_add, beq_self_eq_true]
    have hsq : srcO o (rdO (some (some (.row 35 (flat En.enc (L.drop m))))) 0 (o * 9) (o * 9)) = some (o, flat En.enc (L.drop m)) := by
      rw [rdO_row, if_pos ⟨by rw [flat_len elen, ed], by rw [flat_len elen, ed]; omega⟩, List.drop_zero, List.take_of_length_le (by rw [flat_len elen, ed]; exact Nat.le_refl _)]; rfl
    simp only [go_sem, cond, Nat.reduceAdd, Nat.reduceLeDiff, Nat.reduceEqDiff, Nat.reduceBEq, decide_true, decide_false, Int.toNat_natCast, r, hb, gi, si, si0, List.set_cons_zero, List.set_cons_succ, List.set_set, List.length_set, List.append_assoc, List.length_append, List.length_cons, List.singleton_append, List.cons_append, List.nil_append, t5, t7, t8, t12, t13, t14, d1, s1, g1, g2, g4, g5, gn, sn, hsq, Nat.zero_add, beq_self_eq_true]
    have hml : ((L.drop E).take (m - E)).length = m - E := hrl
    refine appS_full (m := o) (sl := m - E) _ _ _ _ _ _ _ _ _ _ _ (gn _ _ _) rfl (by rw [flat_len elen, hrl]) XF.lay_35 (by decide) (by rw [flat_len elen, ed]) (by omega) (by omega) ?_
    have hap : flat En.enc ((L.drop E).take (m - E)) ++ flat En.enc (L.drop m) = flat En.enc (L.drop E) := by
      rw [← flat_app]
      congr 1
      have h2 : (L.drop E).drop (m - E) = L.drop m := by rw [List.drop_drop]; congr 1; omega
      rw [← h2, List.take_append_drop]
    obtain ⟨o2, ho2⟩ : ∃ o2, o2 = m - E + o := ⟨_, rfl⟩
    rw [hap, ← ho2]
    simp only [go_sem, cond, Nat.reduceAdd, Nat.reduceLeDiff, Nat.reduceEqDiff, Nat.reduceBEq, decide_true, decide_false, Int.toNat_natCast, r, hb, gi, si, si0, List.set_cons_zero, List.set_cons_succ, List.set_set, List.length_set, List.append_assoc, List.length_append, List.length_cons, List.singleton_append, List.cons_append, List.nil_append, t5, t7, t8, t12, t13, t14, d1, s1, g1, g2, g4, g5, gn, sn, Nat.zero_add, beq_self_eq_true]
    refine Br_intro ?_ ?_ <;> intro hEq <;> simp only [go_sem, cond, Nat.reduceAdd, Nat.reduceLeDiff, Nat.reduceEqDiff, Nat.reduceBEq, decide_true, decide_false, Int.toNat_natCast, r, hb, gi, si, si0, List.set_cons_zero, List.set_cons_succ, List.set_set, List.length_set, List.append_assoc, List.length_append, List.length_cons, List.singleton_append, List.cons_append, List.nil_append, t5, t7, t8, t12, t13, t14, d1, s1, g1, g2, g4, g5, gn, sn, beq_self_eq_true, hEq]
    · have hE0 : E = 0 := by simpa using hEq
      have hoL : o2 = L.length := by omega
      rw [hE0, List.drop_zero, hoL]
      refine call_eq (hbLog_ok w0 _ L _ _ L.length L.length (Sl_own elen 35 L X _ _ (gn _ _ _)) (hsAll _ (g4 _ _)) (by omega)) ?_
      simp only [go_sem, cond, Nat.reduceAdd, Nat.reduceLeDiff, Nat.reduceEqDiff, Nat.reduceBEq, decide_true, decide_false, Int.toNat_natCast, r]
      exact ⟨_, by rw [hX, hH0, Hx_Hx, Hx_Hx]⟩
    · have hE1 : 0 < E := by
        have : E ≠ 0 := by simpa using hEq
        omega
      have hlt0 : 0 < ((L.drop E).take (m - E)).length := by omega
      obtain ⟨b, o', sp, hA3e, hc3, _⟩ := mcell (hA3.at w0 (M.set j8 (some (Ob.row 30 [Value.bool false, Value.int IntKind.i64 (L.length : Int), Value.slice A3 (m - E) c3]))) [some (Ob.row 35 (flat En.enc (L.drop E)))] (by simp)) (i := 0) hlt0
      subst hA3e
      have c0 := hc3 1 (.int .i64 (((L.drop E).take (m - E))[0]'hlt0).seq) [] (by decide) rfl
      rw [Hx_nil] at c0
      have d4 : (0 < ((m - E : Nat) : Int)) = True := eq_true (by omega)
      have hfw : (((L.drop E).take (m - E))[0]'hlt0).seq = bkW L E := by
        unfold bkW
        rw [dif_pos (by omega), List.getElem_take, List.getElem_drop]
        rfl
      rw [hfw] at c0
      simp only [Nat.zero_mul, Nat.add_zero] at c0
      simp only [go_sem, cond, Nat.reduceAdd, Nat.reduceLeDiff, Nat.reduceEqDiff, Nat.reduceBEq, decide_true, decide_false, Int.toNat_natCast, r, hb, gi, si, si0, List.set_cons_zero, List.set_cons_succ, List.set_set, List.length_set, List.append_assoc, List.length_append, List.length_cons, List.singleton_append, List.cons_append, List.nil_append, t5, t7, t8, t12, t13, t14, d1, s1, g1, g2, g4, g5, gn, sn, d4, c0, beq_self_eq_true, hEq, Nat.zero_mul, Nat.add_zero]
      refine Req_intro (Int.le_refl _) ?_
      simp only [go_sem, cond, Nat.reduceAdd, Nat.reduceLeDiff, Nat.reduceEqDiff, Nat.reduceBEq, decide_true, decide_false, Int.toNat_natCast, r, hb, gi, si, si0, List.set_cons_zero, List.set_cons_succ, List.set_set, List.length_set, List.append_assoc, List.length_append, List.length_cons, List.singleton_append, List.cons_append, List.nil_append, t5, t7, t8, t12, t13, t14, d1, s1, g1, g2, g4, g5, gn, sn, d4, c0, beq_self_eq_true, hEq, Nat.zero_mul, Nat.add_zero]
      have o1 : k + 1 + E + 1 ≤ L.length := by omega
      have o3 : o2 + E = L.length := by omega
      have o4 : E < L.length := by omega
      refine ⟨k + 1, ?_, by show 80 - (k + 1) < 80 - k; omega⟩
      refine ⟨E, o2, (M.set j8 (some (Ob.row 30 [Value.bool false, Value.int IntKind.i64 (L.length : Int), Value.slice (some ⟨b, o', sp⟩) (m - E) c3])) ++ (g3 ++ [some (Ob.row 35 (flat En.enc (L.drop E)))])).set j12 (sayO2 (qS n (-1) (bkW L E))), j8, j12, M.length + g3.length, [Value.bool false, Value.int IntKind.i64 (L.length : Int), Value.slice (some ⟨b, o', sp⟩) (m - E) c3], o1, o3, o4, t5, t7, t8, t12, rfl, int_succ (m := 80) (by omega) (by omega), rfl, ?_, ?_, rfl, ?_, ?_, n81, n121, n812, by omega, by omega⟩
      · rw [List.getElem?_set_ne n121]; exact g4 _ _
      · rw [List.getElem?_set_ne (Ne.symm n812)]; exact g1 _ _
      · rw [List.getElem?_set_self (by simp; omega)]
      · rw [List.getElem?_set_ne (by omega)]; exact gn _ _ _
end Go.Proofs.YtcmflpdgfddmeaaDoorW.FA

namespace Go.Proofs.YtcmflpdgfddmeaaDoorW.XWords
open Go.Shelf Go.RowKit
theorem u8x : U8Extra Tryd.prog Tryd.lays260_ren := {
  n3 := by kernel_rfl
  n4 := by kernel_rfl
  y3 := by kernel_rfl
  y4 := by kernel_rfl
  c5 := by kernel_rfl
  c119 := by kernel_rfl
  c138 := by kernel_rfl }
theorem firstD : Go.Pinned.utf8First = Lib.firstData := by kernel_rfl
theorem acceptD : (Go.Proofs.YtcmflpdgfddmeaaDoor.Rows.laid_unicode_utf8_acceptRanges : DataW Unit) = Lib.acceptData := by kernel_rfl
theorem Tabs_of_laid {W : World} (h : laidMetH Tryd.prog Go.Proofs.YtcmflpdgfddmeaaDoor.Rows.fnPageBackRow.laid W) : Tabs W := by
  have h' : laidMet Tryd.prog Go.Proofs.YtcmflpdgfddmeaaDoor.Rows.fnPageBackRow.laid W := by
    rw [← MakeChecks.laidMetH_plain _ _ _ (by kernel_rfl)]
    exact h
  refine utf8Tabs_of_reads Tryd.lays260 u8x ?_ ?_
  · rw [← firstD]
    exact Lib.laidMet.reads h' (List.mem_cons_of_mem _ (List.mem_cons_self ..))
  · rw [← acceptD]
    exact Lib.laidMet.reads h' (List.mem_cons_self ..)
/-- What an initialiser lays, put into a variable's block. -/
def laidIn (cs : List Value) : Obj → Obj
  | .cells _ t frozen => .cells cs.toArray t frozen
  | o => o
def firstCells : List Value := Lib.firstTab.map fun z => Value.int .u8 z
def acceptCells : List Value := (List.range 16).flatMap fun i => [Value.int .u8 (Lib.accLo i), Value.int .u8 (Lib.accHi i)]
/-- A world for the rows' witness: the tables as their initialisers lay them. -/
noncomputable def laidWorld (os : Os) : World :=
  { World.holding Tryd.prog os ⟨#[], #[], []⟩ with heap := ((World.holding Tryd.prog os ⟨#[], #[], []⟩).heap.modify (Tryd.lays260_ren.g 3) (laidIn firstCells)).modify (Tryd.lays260_ren.g 4) (laidIn acceptCells) }
end Go.Proofs.YtcmflpdgfddmeaaDoorW.XWords

