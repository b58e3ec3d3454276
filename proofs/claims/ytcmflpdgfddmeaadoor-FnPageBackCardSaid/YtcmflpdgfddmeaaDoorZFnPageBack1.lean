/- FnPageBack: own words and contracts that the law's proof uses, part 1. No condition of its own. -/
import Derived.Test.YtcmflpdgfddmeaaDoorZFnPageBack0
import Derived.IntWalk
import Derived.Test.YtcmflpdgfddmeaaDoorProg
import Derived.Shelf.Unicode.DecodeSlow
import Derived.Shelf.Unicode.DecodeAny
import Derived.Below
set_option linter.unusedSimpArgs false
set_option linter.unusedVariables false
namespace Go.Proofs.YtcmflpdgfddmeaaDoorW.XM
open Go.RowKit
section
variable {P : Program} {w0 : World}
/-- From an address on stand rows of n cells. -/
def Rd (w0 : World) (H : Hp) (b o : Nat) (sp : Option Nat) (n : Nat) (rows : List (List Value)) : Prop := ∀ (i : Nat) (r : List Value), rows[i]? = some r → ∀ f k, f + k ≤ n → rd w0 H ⟨b, o + i * n + f, sp⟩ k = some ((r.drop f).take k)
theorem Rd.old {B : Hp} {b o : Nat} {sp : Option Nat} {n : Nat} {rows : List (List Value)} (h : Rd w0 B b o sp n rows) (l : List (Option Ob)) : Rd w0 (Hx B l) b o sp n rows := fun i r hr f k hk => rd_old (h i r hr f k hk) l
/-- A slice that reads as rows. -/
def Sl (w0 : World) (H : Hp) (A : Option Addr) (n : Nat) (rows : List (List Value)) : Prop := rows = [] ∨ ∃ b o sp, A = some ⟨b, o, sp⟩ ∧ Rd w0 H b o sp n rows
theorem Sl.old {B : Hp} {A : Option Addr} {n : Nat} {rows : List (List Value)} (h : Sl w0 B A n rows) (l : List (Option Ob)) : Sl w0 (Hx B l) A n rows := h.imp id fun ⟨b, o, sp, e, h⟩ => ⟨b, o, sp, e, h.old l⟩
theorem Sl.at {H : Hp} {A : Option Addr} {n : Nat} {rows : List (List Value)} (h : Sl w0 H A n rows) {i : Nat} (hi : i < rows.length) : ∃ b o sp, A = some ⟨b, o, sp⟩ ∧ Rd w0 H b o sp n rows := by
  rcases h with h | h
  · rw [h] at hi; simp at hi
  · exact h
/-- The cells of one row. -/
theorem Rd.cell {B : Hp} {b o : Nat} {sp : Option Nat} {n : Nat} {rows : List (List Value)} (h : Rd w0 B b o sp n rows) {i : Nat} {r : List Value} (hr : rows[i]? = some r) (f : Nat) {v : Value} (hf : f < n) (hv : r[f]? = some v) (l : List (Option Ob)) : rd w0 (Hx B l) ⟨b, o + i * n + f, sp⟩ 1 = some [v] := by
  rw [rd_old (h i r hr f 1 (by omega)) l]
  congr 1
  have hlt := lt_of_get hv
  rw [List.drop_eq_getElem_cons hlt]
  simp only [List.take_succ_cons, List.take_zero]
  rw [List.getElem?_eq_getElem hlt] at hv
  cases hv
  rfl
theorem Rd.row {B : Hp} {b o : Nat} {sp : Option Nat} {n : Nat} {rows : List (List Value)} (h : Rd w0 B b o sp n rows) {i : Nat} {r : List Value} (hr : rows[i]? = some r) (hn : r.length = n) (l : List (Option Ob)) : rd w0 (Hx B l) ⟨b, o + i * n, sp⟩ n = some r := by
  have := rd_old (h i r hr 0 n (by omega)) l
  rw [List.drop_zero, List.take_of_length_le (by omega)] at this
  exact this
theorem wrap_i64 {x : Int} (h1 : -9223372036854775808 ≤ x) (h2 : x ≤ 9223372036854775807) : IntKind.i64.wrap x = x := IntWalk.i64_in _ (by omega)
end
end Go.Proofs.YtcmflpdgfddmeaaDoorW.XM

namespace Go.Proofs.YtcmflpdgfddmeaaDoorW.XM
open Go.RowKit
section
variable {P : Program} {w0 : World} {n : Nat}
/-! bytes of a text -/
def idxS (b : Bool) (x ix : Value) (H : Hp) {K : Value → Hp → Prop} (_ : Lk K) : Prop := match x, ix with
  | .string s, .int _ i => b = true ∧ 0 ≤ i ∧ i < s.size ∧ K (.int .u8 (bt s i.toNat)) H
  | _, _ => False
@[go_sem] theorem do_indexS (t : TypeId) (x i : Operand) (T : Ts) (H : Hp) {K : Value → Hp → Prop} (k : Lk K) : Do P w0 (.index t x i) T H k = idxS (isStr P t) (ev T x) (ev T i) H k := by
  rw [do_index]
  generalize ev T x = v
  generalize ev T i = u
  cases v <;> first
    | rfl
    | (cases u <;> first
        | rfl
        | (simp only [xIndex, idxS]
           split
           · rename_i h; simp only [Opt, h, true_and]; rfl
           · rename_i h
             apply propext
             constructor
             · intro hh; exact hh.elim
             · rintro ⟨a, b, c, _⟩; exact absurd ⟨a, b, c⟩ h))
@[go_sem] theorem idxS_int (s : ByteArray) (kk : IntKind) (i : Int) (H : Hp) {K : Value → Hp → Prop} (k : Lk K) : idxS true (.string s) (.int kk i) H k = Req (0 ≤ i ∧ i < s.size) (Lz.mk (X := K (.int .u8 (bt s i.toNat)) H)) := by
  simp only [idxS, Req, true_and, and_assoc]
/-! parts -/
def slcV (P : Program) (w0 : World) (t : TypeId) (b : Bool) (e : Option (TypeId × Nat)) (x : Value) (lo hi mx : Option Value) (H : Hp) {K : Value → Hp → Prop} (_ : Lk K) : Prop := xSliceA P t x lo hi mx H K
@[go_sem] theorem do_slice (t : TypeId) (x : Operand) (lo hi mx : Option Operand) (T : Ts) (H : Hp) {K : Value → Hp → Prop} (k : Lk K) : Do P w0 (.slice t x lo hi mx) T H k = slcV P w0 t (isStr P t) (elm P t) (ev T x) (lo.map (ev T)) (hi.map (ev T)) (mx.map (ev T)) H k := propext Iff.rfl
/-- A part of a slice: its own memory, or what was there. -/
theorem slc_sl {t : TypeId} {e m : Nat} (he : elm P t = some (e, m)) {b o : Nat} {sp : Option Nat} {len cap : Nat} {lo hi : Option Value} {l h' : Int} (h1 : bnd lo 0 = some l) (h2 : bnd hi len = some h') (H : Hp) {K : Value → Hp → Prop} (k : Lk K) (bb : Bool) (ee : Option (TypeId × Nat))
    (h3 : 0 ≤ l) (h4 : l ≤ h') (h5 : h' ≤ cap) (ho : ownB P H m b sp) (h6 : l = 0 ∨ l < cap) (hk : K (.slice (some ⟨b, o + l.toNat * m, sp⟩) (h'.toNat - l.toNat) (cap - l.toNat)) H) : slcV P w0 t bb ee (.slice (some ⟨b, o, sp⟩) len cap) lo hi none H k := by
  refine ⟨e, m, he, by simp, l, h', cap, h1, h2, rfl, h3, h4, h5, Int.le_refl _, ho, .inr (.inl ⟨fun _ _ => h6, ?_⟩)⟩
  have : (if (cap : Int).toNat = l.toNat then o else o + l.toNat * m) = o + l.toNat * m := by
    split
    · rename_i e
      rcases h6 with h6 | h6
      · subst h6; simp
      · omega
    · rfl
  rw [this]
  simpa using hk
/-! appends -/
def appE (P : Program) (w0 : World) (e : Option (TypeId × Nat)) (i : Option Bool) (s x : Value) (H : Hp) {K : Value → Hp → Prop} (_ : Lk K) : Prop := match e, i with
  | some (e, n), some false => ∃ z b m cs, zer P e = some z ∧ z.length = n ∧ byt P e = some b ∧ src w0 H n x = some (m, cs) ∧ xAppS P w0 e n b m cs s H K
  | _, _ => False
@[go_sem] theorem appW_two (t0 t1 : TypeId) (s x : Value) (H : Hp) {K : Value → Hp → Prop} (k : Lk K) : appW P w0 #[t0, t1] s x H k = appE P w0 (elm P t0) (isInt P t1) s x H k := by
  simp only [appW, xAppend, appE]
  apply propext
  constructor
  · rintro ⟨t0', t1', e, n, z, b, m, cs, a1, a2, a3, a4, a5, a6, a7, a8, a9⟩
    simp at a1 a2
    subst a1; subst a2
    rw [a3, a4]
    exact ⟨z, b, m, cs, a5, a6, a7, a8, a9⟩
  · intro h
    split at h
    · rename_i e n h1 h2
      obtain ⟨z, b, m, cs, a5, a6, a7, a8, a9⟩ := h
      exact ⟨t0, t1, e, n, z, b, m, cs, by simp, by simp, h1, h2, a5, a6, a7, a8, a9⟩
    · exact h.elim
def appF (P : Program) (w0 : World) (e n : Nat) (z : Option (List Value)) (b : Option Nat) (r : Option (Nat × List Value)) (s : Value) (H : Hp) {K : Value → Hp → Prop} (_ : Lk K) : Prop := match z, b, r with
  | some z, some b, some (m, cs) => z.length = n ∧ xAppS P w0 e n b m cs s H K
  | _, _, _ => False
@[go_sem] theorem appE_some (e n : Nat) (s x : Value) (H : Hp) {K : Value → Hp → Prop} (k : Lk K) : appE P w0 (some (e, n)) (some false) s x H k = appF P w0 e n (zer P e) (byt P e) (src w0 H n x) s H k := by
  simp only [appE, appF]
  apply propext
  constructor
  · rintro ⟨z, b, m, cs, a1, a2, a3, a4, a5⟩
    rw [a1, a3, a4]
    exact ⟨a2, a5⟩
  · intro h
    split at h
    · rename_i z b m cs h1 h2 h3
      exact ⟨z, b, m, cs, h1, h.1, h2, h3, h.2⟩
    · exact h.elim
def appS (P : Program) (w0 : World) (e n b m : Nat) (cs : List Value) (s : Value) (H : Hp) {K : Value → Hp → Prop} (_ : Lk K) : Prop := xAppS P w0 e n b m cs s H K
@[go_sem] theorem appF_some (e n : Nat) (z : List Value) (b m : Nat) (cs : List Value) (s : Value) (H : Hp) {K : Value → Hp → Prop} (k : Lk K) : appF P w0 e n (some z) (some b) (some (m, cs)) s H k = Req (z.length = n) (Lz.mk (X := appS P w0 e n b m cs s H k)) := propext Iff.rfl
/-- An object of the call's own: it grows. -/
theorem appS_own (e n b m : Nat) (cs c0 : List Value) (B : Hp) (l : List (Option Ob)) (j tag sl sc : Nat) {K : Value → Hp → Prop} (k : Lk K) (bb : Bool) (hl : l[j]? = some (some (.row e c0))) (ht : c0.length = tag) (hla : lay P e = some (bb, n)) (hn : 0 < n) (hsc : sl = sc) (hst : sl * n = tag) (hm : 0 < m) (hb : (sl + m) * b ≤ 140737488355328) (h2 : sl + m ≤ 4611686018427387904)
    (h : K (.slice (some ⟨nid B j, 0, some ((sl + m) * n)⟩) (sl + m) (sl + m)) (Hx B (l.set j (some (.row e (c0 ++ cs)))))) : appS P w0 e n b m cs (.slice (some ⟨nid B j, 0, some tag⟩) sl sc) (Hx B l) k := by
  refine ⟨e, c0, bb, by rw [Hx_get]; exact hl, ht, hla, ?_⟩
  rw [if_neg (by omega), Hx_set]
  exact ⟨⟨hb, h2⟩, rfl, hst, by omega, hn, rfl, h⟩
/-- There is room in it. -/
theorem appS_room (e n b m : Nat) (cs c0 : List Value) (B : Hp) (l : List (Option Ob)) (j o tag sl sc ty : Nat) {K : Value → Hp → Prop} (k : Lk K) (bb : Bool) (hl : l[j]? = some (some (.row ty c0))) (ht : c0.length = tag) (hla : lay P ty = some (bb, n)) (hsc : sl + m ≤ sc) (hst : o + sl * n + cs.length ≤ tag)
    (h : K (.slice (some ⟨nid B j, o, some tag⟩) (sl + m) sc) (Hx B (l.set j (some (.row ty (putL c0 (o + sl * n) cs)))))) : appS P w0 e n b m cs (.slice (some ⟨nid B j, o, some tag⟩) sl sc) (Hx B l) k := by
  refine ⟨ty, c0, bb, by rw [Hx_get]; exact hl, ht, hla, ?_⟩
  rw [if_pos hsc, Hx_set]
  exact ⟨hst, h⟩
/-- What is appended. -/
@[go_sem] theorem src_nil (H : Hp) (n c : Nat) : src w0 H n (.slice none 0 c) = some (0, []) := rfl
def srcO (m : Nat) (o : Option (List Value)) : Option (Nat × List Value) := match o with
  | some l => some (m, l)
  | none => if m = 0 then some (0, []) else none
@[go_sem] theorem srcO_some (m : Nat) (l : List Value) : srcO m (some l) = some (m, l) := rfl
@[go_sem] theorem src_sl (H : Hp) (n : Nat) (a : Addr) (m c : Nat) : src w0 H n (.slice (some a) m c) = srcO m (rd w0 H a (m * n)) := by
  simp only [src, src0, srcO]
  cases rd w0 H a (m * n) <;> rfl
@[go_sem] theorem src_str (H : Hp) (s : ByteArray) : src w0 H 1 (.string s) = some (s.size, bytesV s) := rfl
/-! what is built -/
def mkV (r : Option (List Value)) : Option Value := r.map fun c => .agg c.toArray
@[go_sem] theorem mkV_some (l : List Value) : mkV (some l) = some (.agg l.toArray) := rfl
def fillO (z : Option (List Value)) (pl : Option (List (Nat × Nat))) (ps : List (Nat × Value)) : Option (List Value) := match z, pl with
  | some z, some pl => fillL (fun i => pl[i]?) z ps
  | _, _ => none
@[go_sem] theorem do_build (t : TypeId) (l : List (Nat × Operand)) (T : Ts) (H : Hp) {K : Value → Hp → Prop} (k : Lk K) : Do P w0 (.build t l.toArray) T H k = Opt (mkV (fillO (zer P t) (plc P t) (l.map fun p => (p.1, ev T p.2)))) H k := by
  show xBuild P t (l.map fun p => (p.1, ev T p.2)) H K = _
  unfold xBuild Opt mkV fillO
  generalize zer P t = z
  generalize plc P t = pl
  cases z with
  | none => simp
  | some z =>
    cases pl with
    | none => simp
    | some pl =>
      simp only [Option.some.injEq, exists_and_left, exists_eq_left']
      generalize fillL (fun i => pl[i]?) z (l.map fun p => (p.1, ev T p.2)) = r
      cases r <;> simp
def fillS (pl : List (Nat × Nat)) (z : List Value) : List (Nat × Value) → Option (List Value)
  | [] => some z
  | (i, v) :: r => match pl[i]?, cellsL v with
    | some (off, size), cs => if cs.length = size ∧ off + size ≤ z.length then fillS pl (putL z off cs) r else none
    | none, _ => none
where cellsL (v : Value) : List Value := v.cells.toList
def fillC (p : Option (Nat × Nat)) (cs : List Value) (pl : List (Nat × Nat)) (z : List Value) (r : List (Nat × Value)) : Option (List Value) := match p with
  | some (off, size) => if cs.length = size ∧ off + size ≤ z.length then fillL (fun i => pl[i]?) (putL z off cs) r else none
  | none => none
@[go_sem] theorem fillO_nil (z : List Value) (pl : List (Nat × Nat)) : fillO (some z) (some pl) [] = some z := rfl
@[go_sem] theorem fillO_cons (z : List Value) (pl : List (Nat × Nat)) (i : Nat) (v : Value) (r : List (Nat × Value)) : fillO (some z) (some pl) ((i, v) :: r) = fillC pl[i]? (fillS.cellsL v) pl z r := by
  simp only [fillO, fillL, fillC, fillS.cellsL]
  cases pl[i]? with
  | none => rfl
  | some p => rfl
@[go_sem] theorem fillC_some (off size : Nat) (cs : List Value) (pl : List (Nat × Nat)) (z : List Value) (r : List (Nat × Value)) : fillC (some (off, size)) cs pl z r = if cs.length = size ∧ off + size ≤ z.length then fillO (some (putL z off cs)) (some pl) r else none := rfl
@[go_sem] theorem cellsL_agg (l : List Value) : fillS.cellsL (.agg l.toArray) = l := rfl
@[go_sem] theorem cellsL_int (k : IntKind) (x : Int) : fillS.cellsL (.int k x) = [.int k x] := rfl
@[go_sem] theorem cellsL_str (s : ByteArray) : fillS.cellsL (.string s) = [.string s] := rfl
@[go_sem] theorem cellsL_bool (b : Bool) : fillS.cellsL (.bool b) = [.bool b] := rfl
@[go_sem] theorem cellsL_sl (a : Option Addr) (m c : Nat) : fillS.cellsL (.slice a m c) = [.slice a m c] := rfl
@[go_sem] theorem cellsL_ptr (a : Option Addr) : fillS.cellsL (.pointer a) = [.pointer a] := rfl
def bsV (e : Option (TypeId × Nat)) (z : TypeId → Option (List Value)) (len : Nat) (ps : List (Nat × Value)) (H : Hp) {K : Value → Hp → Prop} (_ : Lk K) : Prop := match e with
  | some (e, n) => ∃ zz c, z e = some zz ∧ zz.length = n ∧ len * n ≤ 16777216 ∧ fillL (fun i => some (i * n, n)) (List.replicate len zz).flatten ps = some c ∧ c.all (·.oneCell') = true ∧ K (.slice (some ⟨H.length, 0, some (len * n)⟩) len len) (H ++ [some (.row e c)])
  | none => False
@[go_sem] theorem do_buildSlice (t : TypeId) (len : Nat) (l : List (Nat × Operand)) (T : Ts) (H : Hp) {K : Value → Hp → Prop} (k : Lk K) : Do P w0 (.buildSlice t len l.toArray) T H k = bsV (elm P t) (zer P) len (l.map fun p => (p.1, ev T p.2)) H k := by
  show xBuildSlice P t len (l.map fun p => (p.1, ev T p.2)) H K = _
  unfold xBuildSlice bsV
  generalize elm P t = e
  cases e with
  | none => simp
  | some e =>
    obtain ⟨e, n⟩ := e
    apply propext
    constructor
    · rintro ⟨e', n', z, c, a0, a1, a2, a3, a4, a5, a6⟩
      simp only [Option.some.injEq, Prod.mk.injEq] at a0
      obtain ⟨rfl, rfl⟩ := a0
      exact ⟨z, c, a1, a2, a3, a4, a5, a6⟩
    · rintro ⟨z, c, a1, a2, a3, a4, a5, a6⟩
      exact ⟨e, n, z, c, rfl, a1, a2, a3, a4, a5, a6⟩
@[go_sem] theorem bsV_none (e n : Nat) (z : TypeId → Option (List Value)) (B : Hp) (l : List (Option Ob)) {K : Value → Hp → Prop} (k : Lk K) : bsV (some (e, n)) z 0 [] (Hx B l) k = Req (∃ zz, z e = some zz ∧ zz.length = n) (Lz.mk (X := K (.slice (some ⟨nid B l.length, 0, some 0⟩) 0 0) (Hx B (l ++ [some (.row e [])])))) := by
  simp only [bsV, Req, Hx_len, Hx_app, Nat.zero_mul]
  apply propext
  constructor
  · rintro ⟨zz, c, a1, a2, a3, a4, a5, a6⟩
    cases a4
    exact ⟨⟨zz, a1, a2⟩, a6⟩
  · rintro ⟨⟨zz, a1, a2⟩, a6⟩
    exact ⟨zz, [], a1, a2, by omega, rfl, rfl, a6⟩
/-- One element. -/
@[go_sem] theorem bsV_one (e n : Nat) (z : TypeId → Option (List Value)) (v : Value) (B : Hp) (l : List (Option Ob)) {K : Value → Hp → Prop} (k : Lk K) : bsV (some (e, n)) z 1 [(0, v)] (Hx B l) k = Req ((∃ zz, z e = some zz ∧ zz.length = n) ∧ n ≤ 16777216 ∧ (fillS.cellsL v).length = n ∧ allOne (fillS.cellsL v) = true) (Lz.mk (X := K (.slice (some ⟨nid B l.length, 0, some n⟩) 1 1) (Hx B (l ++ [some (.row e (fillS.cellsL v))])))) := by
  have put0 : ∀ (vs zz : List Value), zz.length = vs.length → putL zz 0 vs = vs := fun vs zz h => by
    apply List.ext_getElem?
    intro j
    rw [putL_get]
    by_cases hj : j < vs.length
    · rw [if_pos ⟨Nat.zero_le _, by omega, by omega⟩]; rfl
    · rw [if_neg (by omega), List.getElem?_eq_none (by omega), List.getElem?_eq_none (by omega)]
  simp only [bsV, Req, Hx_len, Hx_app, Nat.one_mul, fillS.cellsL]
  apply propext
  constructor
  · rintro ⟨zz, c, a1, a2, a3, a4, a5, a6⟩
    simp only [List.replicate_one, List.flatten_cons, List.flatten_nil, List.append_nil, fillL, Nat.zero_mul, Nat.zero_add] at a4
    split at a4
    · rename_i h
      cases a4
      rw [put0 _ _ (by omega)] at a5 a6
      exact ⟨⟨⟨zz, a1, a2⟩, a3, h.1, by rw [← allOne_eq]; exact a5⟩, a6⟩
    · cases a4
  · rintro ⟨⟨⟨zz, a1, a2⟩, a3, a4, a5⟩, a6⟩
    refine ⟨zz, v.cells.toList, a1, a2, a3, ?_, by rw [allOne_eq]; exact a5, a6⟩
    simp only [List.replicate_one, List.flatten_cons, List.flatten_nil, List.append_nil, fillL, Nat.zero_mul, Nat.zero_add]
    rw [if_pos ⟨a4, by omega⟩, put0 _ _ (by omega)]
/-! texts compared -/
@[go_sem] theorem bin_aeql (t : TypeId) (c : Bool) (x y : List Value) : xBin P .eql t c (.agg x.toArray) (.agg y.toArray) = (eqA P t x y).map .bool := by simp [xBin]
@[go_sem] theorem bin_aneq (t : TypeId) (c : Bool) (x y : List Value) : xBin P .neq t c (.agg x.toArray) (.agg y.toArray) = (eqA P t x y).map fun b => .bool (!b) := by simp [xBin]
/-! a function of plain answer -/
theorem AFn.scal {f : FuncId} {fn : Func} {c : Code} {args : Array Value} {H : Hp} {u : Value} (hu : ren3 (rho H []) u = some u) (hf : P.funcs[f]? = some fn) (hb : fn.body = some c) (hg : goodF fn args.size = true)
    (h : xw P w0 fn.ntmps c (FPost P w0 fn fun v H2 => v = u ∧ ∃ l, H2 = Hx H l) (argT args.toList) (Hx H [])) : AFn P w0 f args H fun v H2 => v = u ∧ H2 = H := by
  refine AFn.trim (R := fun v => v = u) ?_ (by rintro v rfl; exact hu)
  refine AFn.mono (Q := fun v H2 => v = u ∧ ∃ l, H2 = Hx H l) ?_ (fun v H2 ⟨a, l, b⟩ => ⟨l, b, a⟩)
  refine AFn_of hf hb hg ?_
  rw [Hx_nil] at h
  exact h
/-- A function that answers with new objects. -/
theorem AFn.news {f : FuncId} {fn : Func} {c : Code} {args : Array Value} {H : Hp} {Q : Value → Hp → Prop} (hf : P.funcs[f]? = some fn) (hb : fn.body = some c) (hg : goodF fn args.size = true)
    (h : xw P w0 fn.ntmps c (FPost P w0 fn fun v H2 => ∃ l sel v3, H2 = Hx H l ∧ (∀ k ∈ sel, PlainOb ((l[k]?).join)) ∧ sel.Nodup ∧ ren3 (rho H sel) v = some v3 ∧ Q v3 (Hx H (pick l sel))) (argT args.toList) (Hx H [])) : AFn P w0 f args H Q := by
  refine AFn.pack (AFn.mono (Q := fun v H2 => ∃ l sel v3, H2 = Hx H l ∧ (∀ k ∈ sel, PlainOb ((l[k]?).join)) ∧ sel.Nodup ∧ ren3 (rho H sel) v = some v3 ∧ Q v3 (Hx H (pick l sel))) ?_ ?_)
  · refine AFn_of hf hb hg ?_
    rw [Hx_nil] at h
    exact h
  · rintro v H2 ⟨l, sel, v3, a, b, c, d, e⟩
    exact ⟨H, l, sel, v3, a, rfl, fun i o ho => .inl ho, b, c, d, e⟩
end
end Go.Proofs.YtcmflpdgfddmeaaDoorW.XM

namespace Go.Proofs.YtcmflpdgfddmeaaDoorW.XF
open Go.RowKit Go.Proofs.YtcmflpdgfddmeaaDoorW.XM Go.Proofs
@[go_sem] theorem lay_0 : lay Tryd.prog 0 = some (false, 1) := by kernel_rfl
@[go_sem] theorem byt_0 : byt Tryd.prog 0 = some 0 := by kernel_rfl
@[go_sem] theorem isInt_0 : isInt Tryd.prog 0 = some false := by kernel_rfl
@[go_sem] theorem isIface_0 : isIface Tryd.prog 0 = some false := by kernel_rfl
@[go_sem] theorem lay_1 : lay Tryd.prog 1 = some (false, 1) := by kernel_rfl
@[go_sem] theorem zer_1 : zer Tryd.prog 1 = some [Value.nilFunc] := by kernel_rfl
@[go_sem] theorem byt_1 : byt Tryd.prog 1 = some 8 := by kernel_rfl
@[go_sem] theorem isInt_1 : isInt Tryd.prog 1 = some false := by kernel_rfl
@[go_sem] theorem isIface_1 : isIface Tryd.prog 1 = some false := by kernel_rfl
@[go_sem] theorem lay_2 : lay Tryd.prog 2 = some (false, 1) := by kernel_rfl
@[go_sem] theorem zer_2 : zer Tryd.prog 2 = some [Value.int IntKind.i64 (0)] := by kernel_rfl
@[go_sem] theorem byt_2 : byt Tryd.prog 2 = some 8 := by kernel_rfl
@[go_sem] theorem isInt_2 : isInt Tryd.prog 2 = some true := by kernel_rfl
@[go_sem] theorem isIface_2 : isIface Tryd.prog 2 = some false := by kernel_rfl
@[go_sem] theorem intK_2 : intK Tryd.prog 2 = some IntKind.i64 := by kernel_rfl
@[go_sem] theorem lay_3 : lay Tryd.prog 3 = some (false, 1) := by kernel_rfl
@[go_sem] theorem zer_3 : zer Tryd.prog 3 = some [Value.int IntKind.i64 (0)] := by kernel_rfl
@[go_sem] theorem byt_3 : byt Tryd.prog 3 = some 8 := by kernel_rfl
@[go_sem] theorem isInt_3 : isInt Tryd.prog 3 = some true := by kernel_rfl
@[go_sem] theorem isIface_3 : isIface Tryd.prog 3 = some false := by kernel_rfl
@[go_sem] theorem intK_3 : intK Tryd.prog 3 = some IntKind.i64 := by kernel_rfl
@[go_sem] theorem lay_4 : lay Tryd.prog 4 = some (false, 1) := by kernel_rfl
@[go_sem] theorem zer_4 : zer Tryd.prog 4 = some [Value.bool false] := by kernel_rfl
@[go_sem] theorem byt_4 : byt Tryd.prog 4 = some 1 := by kernel_rfl
@[go_sem] theorem isInt_4 : isInt Tryd.prog 4 = some false := by kernel_rfl
@[go_sem] theorem isIface_4 : isIface Tryd.prog 4 = some false := by kernel_rfl
@[go_sem] theorem isB_4 : isB Tryd.prog 4 = true := by kernel_rfl
@[go_sem] theorem lay_5 : lay Tryd.prog 5 = some (false, 1) := by kernel_rfl
@[go_sem] theorem zer_5 : zer Tryd.prog 5 = some [Value.int IntKind.u8 (0)] := by kernel_rfl
@[go_sem] theorem byt_5 : byt Tryd.prog 5 = some 1 := by kernel_rfl
@[go_sem] theorem isInt_5 : isInt Tryd.prog 5 = some true := by kernel_rfl
@[go_sem] theorem isIface_5 : isIface Tryd.prog 5 = some false := by kernel_rfl
@[go_sem] theorem intK_5 : intK Tryd.prog 5 = some IntKind.u8 := by kernel_rfl
@[go_sem] theorem lay_6 : lay Tryd.prog 6 = some (false, 1) := by kernel_rfl
@[go_sem] theorem zer_6 : zer Tryd.prog 6 = some [Value.int IntKind.u8 (0)] := by kernel_rfl
@[go_sem] theorem byt_6 : byt Tryd.prog 6 = some 1 := by kernel_rfl
@[go_sem] theorem isInt_6 : isInt Tryd.prog 6 = some true := by kernel_rfl
@[go_sem] theorem isIface_6 : isIface Tryd.prog 6 = some false := by kernel_rfl
@[go_sem] theorem intK_6 : intK Tryd.prog 6 = some IntKind.u8 := by kernel_rfl
@[go_sem] theorem lay_7 : lay Tryd.prog 7 = some (true, 4) := by kernel_rfl
@[go_sem] theorem zer_7 : zer Tryd.prog 7 = some [Value.int IntKind.i64 (0), Value.int IntKind.i64 (0), Value.bool false, Value.int IntKind.u8 (0)] := by kernel_rfl
@[go_sem] theorem byt_7 : byt Tryd.prog 7 = some 24 := by kernel_rfl
@[go_sem] theorem plc_7 : plc Tryd.prog 7 = some [(0, 1), (1, 1), (2, 1), (3, 1)] := by kernel_rfl
@[go_sem] theorem isInt_7 : isInt Tryd.prog 7 = some false := by kernel_rfl
@[go_sem] theorem isIface_7 : isIface Tryd.prog 7 = some false := by kernel_rfl
@[go_sem] theorem eqf_7 : eqf Tryd.prog 7 = some [(0, 0), (1, 0), (2, 2), (3, 0)] := by kernel_rfl
@[go_sem] theorem fld_7_0 : fld Tryd.prog 7 0 = some (0, false, 1) := by kernel_rfl
@[go_sem] theorem fld_7_1 : fld Tryd.prog 7 1 = some (1, false, 1) := by kernel_rfl
@[go_sem] theorem fld_7_2 : fld Tryd.prog 7 2 = some (2, false, 1) := by kernel_rfl
@[go_sem] theorem fld_7_3 : fld Tryd.prog 7 3 = some (3, false, 1) := by kernel_rfl
@[go_sem] theorem lay_8 : lay Tryd.prog 8 = some (true, 4) := by kernel_rfl
@[go_sem] theorem zer_8 : zer Tryd.prog 8 = some [Value.int IntKind.i64 (0), Value.int IntKind.i64 (0), Value.bool false, Value.int IntKind.u8 (0)] := by kernel_rfl
@[go_sem] theorem byt_8 : byt Tryd.prog 8 = some 24 := by kernel_rfl
@[go_sem] theorem plc_8 : plc Tryd.prog 8 = some [(0, 1), (1, 1), (2, 1), (3, 1)] := by kernel_rfl
@[go_sem] theorem isInt_8 : isInt Tryd.prog 8 = some false := by kernel_rfl
@[go_sem] theorem isIface_8 : isIface Tryd.prog 8 = some false := by kernel_rfl
@[go_sem] theorem eqf_8 : eqf Tryd.prog 8 = some [(0, 0), (1, 0), (2, 2), (3, 0)] := by kernel_rfl
@[go_sem] theorem fld_8_0 : fld Tryd.prog 8 0 = some (0, false, 1) := by kernel_rfl
@[go_sem] theorem fld_8_1 : fld Tryd.prog 8 1 = some (1, false, 1) := by kernel_rfl
@[go_sem] theorem fld_8_2 : fld Tryd.prog 8 2 = some (2, false, 1) := by kernel_rfl
@[go_sem] theorem fld_8_3 : fld Tryd.prog 8 3 = some (3, false, 1) := by kernel_rfl
@[go_sem] theorem lay_9 : lay Tryd.prog 9 = some (false, 1) := by kernel_rfl
@[go_sem] theorem zer_9 : zer Tryd.prog 9 = some [Value.string (⟨#[]⟩ : ByteArray)] := by kernel_rfl
@[go_sem] theorem byt_9 : byt Tryd.prog 9 = some 16 := by kernel_rfl
@[go_sem] theorem isInt_9 : isInt Tryd.prog 9 = some false := by kernel_rfl
@[go_sem] theorem isIface_9 : isIface Tryd.prog 9 = some false := by kernel_rfl
@[go_sem] theorem isStr_9 : isStr Tryd.prog 9 = true := by kernel_rfl
@[go_sem] theorem lay_10 : lay Tryd.prog 10 = some (false, 1) := by kernel_rfl
@[go_sem] theorem zer_10 : zer Tryd.prog 10 = some [Value.string (⟨#[]⟩ : ByteArray)] := by kernel_rfl
@[go_sem] theorem byt_10 : byt Tryd.prog 10 = some 16 := by kernel_rfl
@[go_sem] theorem isInt_10 : isInt Tryd.prog 10 = some false := by kernel_rfl
@[go_sem] theorem isIface_10 : isIface Tryd.prog 10 = some false := by kernel_rfl
@[go_sem] theorem isStr_10 : isStr Tryd.prog 10 = true := by kernel_rfl
@[go_sem] theorem lay_11 : lay Tryd.prog 11 = some (false, 1) := by kernel_rfl
@[go_sem] theorem zer_11 : zer Tryd.prog 11 = some [Value.string (⟨#[]⟩ : ByteArray)] := by kernel_rfl
@[go_sem] theorem byt_11 : byt Tryd.prog 11 = some 16 := by kernel_rfl
@[go_sem] theorem isInt_11 : isInt Tryd.prog 11 = some false := by kernel_rfl
@[go_sem] theorem isIface_11 : isIface Tryd.prog 11 = some false := by kernel_rfl
@[go_sem] theorem isStr_11 : isStr Tryd.prog 11 = true := by kernel_rfl
@[go_sem] theorem lay_12 : lay Tryd.prog 12 = some (false, 1) := by kernel_rfl
@[go_sem] theorem zer_12 : zer Tryd.prog 12 = some [Value.int IntKind.u64 (0)] := by kernel_rfl
@[go_sem] theorem byt_12 : byt Tryd.prog 12 = some 8 := by kernel_rfl
@[go_sem] theorem isInt_12 : isInt Tryd.prog 12 = some true := by kernel_rfl
@[go_sem] theorem isIface_12 : isIface Tryd.prog 12 = some false := by kernel_rfl
@[go_sem] theorem intK_12 : intK Tryd.prog 12 = some IntKind.u64 := by kernel_rfl
@[go_sem] theorem lay_13 : lay Tryd.prog 13 = some (true, 2) := by kernel_rfl
@[go_sem] theorem zer_13 : zer Tryd.prog 13 = some [Value.string (⟨#[]⟩ : ByteArray), Value.int IntKind.u64 (0)] := by kernel_rfl
@[go_sem] theorem byt_13 : byt Tryd.prog 13 = some 24 := by kernel_rfl
@[go_sem] theorem plc_13 : plc Tryd.prog 13 = some [(0, 1), (1, 1)] := by kernel_rfl
@[go_sem] theorem isInt_13 : isInt Tryd.prog 13 = some false := by kernel_rfl
@[go_sem] theorem isIface_13 : isIface Tryd.prog 13 = some false := by kernel_rfl
@[go_sem] theorem fld_13_0 : fld Tryd.prog 13 0 = some (0, false, 1) := by kernel_rfl
@[go_sem] theorem fld_13_1 : fld Tryd.prog 13 1 = some (1, false, 1) := by kernel_rfl
@[go_sem] theorem lay_14 : lay Tryd.prog 14 = some (true, 2) := by kernel_rfl
@[go_sem] theorem zer_14 : zer Tryd.prog 14 = some [Value.string (⟨#[]⟩ : ByteArray), Value.int IntKind.u64 (0)] := by kernel_rfl
@[go_sem] theorem byt_14 : byt Tryd.prog 14 = some 24 := by kernel_rfl
@[go_sem] theorem plc_14 : plc Tryd.prog 14 = some [(0, 1), (1, 1)] := by kernel_rfl
@[go_sem] theorem isInt_14 : isInt Tryd.prog 14 = some false := by kernel_rfl
@[go_sem] theorem isIface_14 : isIface Tryd.prog 14 = some false := by kernel_rfl
@[go_sem] theorem fld_14_0 : fld Tryd.prog 14 0 = some (0, false, 1) := by kernel_rfl
@[go_sem] theorem fld_14_1 : fld Tryd.prog 14 1 = some (1, false, 1) := by kernel_rfl
@[go_sem] theorem lay_15 : lay Tryd.prog 15 = some (false, 1) := by kernel_rfl
@[go_sem] theorem zer_15 : zer Tryd.prog 15 = some [Value.pointer none] := by kernel_rfl
@[go_sem] theorem byt_15 : byt Tryd.prog 15 = some 8 := by kernel_rfl
@[go_sem] theorem isInt_15 : isInt Tryd.prog 15 = some false := by kernel_rfl
@[go_sem] theorem isIface_15 : isIface Tryd.prog 15 = some false := by kernel_rfl
@[go_sem] theorem lay_16 : lay Tryd.prog 16 = some (false, 1) := by kernel_rfl
@[go_sem] theorem zer_16 : zer Tryd.prog 16 = some [Value.pointer none] := by kernel_rfl
@[go_sem] theorem byt_16 : byt Tryd.prog 16 = some 8 := by kernel_rfl
@[go_sem] theorem isInt_16 : isInt Tryd.prog 16 = some false := by kernel_rfl
@[go_sem] theorem isIface_16 : isIface Tryd.prog 16 = some false := by kernel_rfl
@[go_sem] theorem lay_17 : lay Tryd.prog 17 = some (false, 1) := by kernel_rfl
@[go_sem] theorem zer_17 : zer Tryd.prog 17 = some [Value.pointer none] := by kernel_rfl
@[go_sem] theorem byt_17 : byt Tryd.prog 17 = some 8 := by kernel_rfl
@[go_sem] theorem isInt_17 : isInt Tryd.prog 17 = some false := by kernel_rfl
@[go_sem] theorem isIface_17 : isIface Tryd.prog 17 = some false := by kernel_rfl
@[go_sem] theorem lay_18 : lay Tryd.prog 18 = some (true, 1) := by kernel_rfl
@[go_sem] theorem zer_18 : zer Tryd.prog 18 = some [Value.pointer none] := by kernel_rfl
@[go_sem] theorem byt_18 : byt Tryd.prog 18 = some 8 := by kernel_rfl
@[go_sem] theorem plc_18 : plc Tryd.prog 18 = some [(0, 1)] := by kernel_rfl
@[go_sem] theorem isInt_18 : isInt Tryd.prog 18 = some false := by kernel_rfl
@[go_sem] theorem isIface_18 : isIface Tryd.prog 18 = some false := by kernel_rfl
@[go_sem] theorem fld_18_0 : fld Tryd.prog 18 0 = some (0, false, 1) := by kernel_rfl
@[go_sem] theorem lay_19 : lay Tryd.prog 19 = some (true, 1) := by kernel_rfl
@[go_sem] theorem zer_19 : zer Tryd.prog 19 = some [Value.pointer none] := by kernel_rfl
@[go_sem] theorem byt_19 : byt Tryd.prog 19 = some 8 := by kernel_rfl
@[go_sem] theorem plc_19 : plc Tryd.prog 19 = some [(0, 1)] := by kernel_rfl
@[go_sem] theorem isInt_19 : isInt Tryd.prog 19 = some false := by kernel_rfl
@[go_sem] theorem isIface_19 : isIface Tryd.prog 19 = some false := by kernel_rfl
@[go_sem] theorem fld_19_0 : fld Tryd.prog 19 0 = some (0, false, 1) := by kernel_rfl
@[go_sem] theorem lay_20 : lay Tryd.prog 20 = some (false, 1) := by kernel_rfl
@[go_sem] theorem zer_20 : zer Tryd.prog 20 = some [Value.nilIface] := by kernel_rfl
@[go_sem] theorem byt_20 : byt Tryd.prog 20 = some 16 := by kernel_rfl
@[go_sem] theorem isInt_20 : isInt Tryd.prog 20 = some false := by kernel_rfl
@[go_sem] theorem isIface_20 : isIface Tryd.prog 20 = some true := by kernel_rfl
@[go_sem] theorem isIf_20 : isIf Tryd.prog 20 = true := by kernel_rfl
@[go_sem] theorem lay_21 : lay Tryd.prog 21 = some (false, 1) := by kernel_rfl
@[go_sem] theorem zer_21 : zer Tryd.prog 21 = some [Value.int IntKind.i32 (0)] := by kernel_rfl
@[go_sem] theorem byt_21 : byt Tryd.prog 21 = some 4 := by kernel_rfl
@[go_sem] theorem isInt_21 : isInt Tryd.prog 21 = some true := by kernel_rfl
@[go_sem] theorem isIface_21 : isIface Tryd.prog 21 = some false := by kernel_rfl
@[go_sem] theorem intK_21 : intK Tryd.prog 21 = some IntKind.i32 := by kernel_rfl
@[go_sem] theorem lay_22 : lay Tryd.prog 22 = some (false, 1) := by kernel_rfl
@[go_sem] theorem elm_22 : elm Tryd.prog 22 = some (5, 1) := by kernel_rfl
@[go_sem] theorem zer_22 : zer Tryd.prog 22 = some [Value.slice none 0 0] := by kernel_rfl
@[go_sem] theorem byt_22 : byt Tryd.prog 22 = some 24 := by kernel_rfl
@[go_sem] theorem isInt_22 : isInt Tryd.prog 22 = some false := by kernel_rfl
@[go_sem] theorem isIface_22 : isIface Tryd.prog 22 = some false := by kernel_rfl
@[go_sem] theorem isSl_22 : isSl Tryd.prog 22 = true := by kernel_rfl
@[go_sem] theorem isBy_22 : isBy Tryd.prog 22 = true := by kernel_rfl
@[go_sem] theorem lay_23 : lay Tryd.prog 23 = some (false, 1) := by kernel_rfl
@[go_sem] theorem elm_23 : elm Tryd.prog 23 = some (35, 9) := by kernel_rfl
@[go_sem] theorem zer_23 : zer Tryd.prog 23 = some [Value.slice none 0 0] := by kernel_rfl
@[go_sem] theorem byt_23 : byt Tryd.prog 23 = some 24 := by kernel_rfl
@[go_sem] theorem isInt_23 : isInt Tryd.prog 23 = some false := by kernel_rfl
@[go_sem] theorem isIface_23 : isIface Tryd.prog 23 = some false := by kernel_rfl
@[go_sem] theorem isSl_23 : isSl Tryd.prog 23 = true := by kernel_rfl
@[go_sem] theorem lay_24 : lay Tryd.prog 24 = some (true, 10) := by kernel_rfl
@[go_sem] theorem zer_24 : zer Tryd.prog 24 = some [Value.int IntKind.i64 (0), Value.string (⟨#[]⟩ : ByteArray), Value.string (⟨#[]⟩ : ByteArray), Value.string (⟨#[]⟩ : ByteArray), Value.string (⟨#[]⟩ : ByteArray), Value.string (⟨#[]⟩ : ByteArray), Value.string (⟨#[]⟩ : ByteArray), Value.int IntKind.i64 (0), Value.int IntKind.i64 (0), Value.int IntKind.i64 (0)] := by kernel_rfl
@[go_sem] theorem byt_24 : byt Tryd.prog 24 = some 128 := by kernel_rfl
@[go_sem] theorem plc_24 : plc Tryd.prog 24 = some [(0, 1), (1, 1), (2, 1), (3, 1), (4, 1), (5, 1), (6, 1), (7, 1), (8, 1), (9, 1)] := by kernel_rfl
@[go_sem] theorem isInt_24 : isInt Tryd.prog 24 = some false := by kernel_rfl
@[go_sem] theorem isIface_24 : isIface Tryd.prog 24 = some false := by kernel_rfl
@[go_sem] theorem eqf_24 : eqf Tryd.prog 24 = some [(0, 0), (1, 1), (2, 1), (3, 1), (4, 1), (5, 1), (6, 1), (7, 0), (8, 0), (9, 0)] := by kernel_rfl
@[go_sem] theorem fld_24_0 : fld Tryd.prog 24 0 = some (0, false, 1) := by kernel_rfl
@[go_sem] theorem fld_24_1 : fld Tryd.prog 24 1 = some (1, false, 1) := by kernel_rfl
@[go_sem] theorem fld_24_2 : fld Tryd.prog 24 2 = some (2, false, 1) := by kernel_rfl
@[go_sem] theorem fld_24_3 : fld Tryd.prog 24 3 = some (3, false, 1) := by kernel_rfl
@[go_sem] theorem fld_24_4 : fld Tryd.prog 24 4 = some (4, false, 1) := by kernel_rfl
@[go_sem] theorem fld_24_5 : fld Tryd.prog 24 5 = some (5, false, 1) := by kernel_rfl
@[go_sem] theorem fld_24_6 : fld Tryd.prog 24 6 = some (6, false, 1) := by kernel_rfl
@[go_sem] theorem fld_24_7 : fld Tryd.prog 24 7 = some (7, false, 1) := by kernel_rfl
@[go_sem] theorem fld_24_8 : fld Tryd.prog 24 8 = some (8, false, 1) := by kernel_rfl
@[go_sem] theorem fld_24_9 : fld Tryd.prog 24 9 = some (9, false, 1) := by kernel_rfl
@[go_sem] theorem lay_25 : lay Tryd.prog 25 = some (true, 10) := by kernel_rfl
@[go_sem] theorem zer_25 : zer Tryd.prog 25 = some [Value.int IntKind.i64 (0), Value.string (⟨#[]⟩ : ByteArray), Value.string (⟨#[]⟩ : ByteArray), Value.string (⟨#[]⟩ : ByteArray), Value.string (⟨#[]⟩ : ByteArray), Value.string (⟨#[]⟩ : ByteArray), Value.string (⟨#[]⟩ : ByteArray), Value.int IntKind.i64 (0), Value.int IntKind.i64 (0), Value.int IntKind.i64 (0)] := by kernel_rfl
@[go_sem] theorem byt_25 : byt Tryd.prog 25 = some 128 := by kernel_rfl
@[go_sem] theorem plc_25 : plc Tryd.prog 25 = some [(0, 1), (1, 1), (2, 1), (3, 1), (4, 1), (5, 1), (6, 1), (7, 1), (8, 1), (9, 1)] := by kernel_rfl
@[go_sem] theorem isInt_25 : isInt Tryd.prog 25 = some false := by kernel_rfl
@[go_sem] theorem isIface_25 : isIface Tryd.prog 25 = some false := by kernel_rfl
@[go_sem] theorem eqf_25 : eqf Tryd.prog 25 = some [(0, 0), (1, 1), (2, 1), (3, 1), (4, 1), (5, 1), (6, 1), (7, 0), (8, 0), (9, 0)] := by kernel_rfl
@[go_sem] theorem fld_25_0 : fld Tryd.prog 25 0 = some (0, false, 1) := by kernel_rfl
@[go_sem] theorem fld_25_1 : fld Tryd.prog 25 1 = some (1, false, 1) := by kernel_rfl
@[go_sem] theorem fld_25_2 : fld Tryd.prog 25 2 = some (2, false, 1) := by kernel_rfl
@[go_sem] theorem fld_25_3 : fld Tryd.prog 25 3 = some (3, false, 1) := by kernel_rfl
@[go_sem] theorem fld_25_4 : fld Tryd.prog 25 4 = some (4, false, 1) := by kernel_rfl
@[go_sem] theorem fld_25_5 : fld Tryd.prog 25 5 = some (5, false, 1) := by kernel_rfl
@[go_sem] theorem fld_25_6 : fld Tryd.prog 25 6 = some (6, false, 1) := by kernel_rfl
@[go_sem] theorem fld_25_7 : fld Tryd.prog 25 7 = some (7, false, 1) := by kernel_rfl
@[go_sem] theorem fld_25_8 : fld Tryd.prog 25 8 = some (8, false, 1) := by kernel_rfl
@[go_sem] theorem fld_25_9 : fld Tryd.prog 25 9 = some (9, false, 1) := by kernel_rfl
@[go_sem] theorem lay_26 : lay Tryd.prog 26 = some (false, 1) := by kernel_rfl
@[go_sem] theorem byt_26 : byt Tryd.prog 26 = some 0 := by kernel_rfl
@[go_sem] theorem isInt_26 : isInt Tryd.prog 26 = some false := by kernel_rfl
@[go_sem] theorem isIface_26 : isIface Tryd.prog 26 = some false := by kernel_rfl
@[go_sem] theorem lay_27 : lay Tryd.prog 27 = some (false, 1) := by kernel_rfl
@[go_sem] theorem zer_27 : zer Tryd.prog 27 = some [Value.nilFunc] := by kernel_rfl
@[go_sem] theorem byt_27 : byt Tryd.prog 27 = some 8 := by kernel_rfl
@[go_sem] theorem isInt_27 : isInt Tryd.prog 27 = some false := by kernel_rfl
@[go_sem] theorem isIface_27 : isIface Tryd.prog 27 = some false := by kernel_rfl
@[go_sem] theorem lay_28 : lay Tryd.prog 28 = some (false, 1) := by kernel_rfl
@[go_sem] theorem zer_28 : zer Tryd.prog 28 = some [Value.nilFunc] := by kernel_rfl
@[go_sem] theorem byt_28 : byt Tryd.prog 28 = some 8 := by kernel_rfl
@[go_sem] theorem isInt_28 : isInt Tryd.prog 28 = some false := by kernel_rfl
@[go_sem] theorem isIface_28 : isIface Tryd.prog 28 = some false := by kernel_rfl
@[go_sem] theorem lay_29 : lay Tryd.prog 29 = some (true, 3) := by kernel_rfl
@[go_sem] theorem zer_29 : zer Tryd.prog 29 = some [Value.bool false, Value.int IntKind.i64 (0), Value.slice none 0 0] := by kernel_rfl
@[go_sem] theorem byt_29 : byt Tryd.prog 29 = some 40 := by kernel_rfl
@[go_sem] theorem plc_29 : plc Tryd.prog 29 = some [(0, 1), (1, 1), (2, 1)] := by kernel_rfl
@[go_sem] theorem isInt_29 : isInt Tryd.prog 29 = some false := by kernel_rfl
@[go_sem] theorem isIface_29 : isIface Tryd.prog 29 = some false := by kernel_rfl
@[go_sem] theorem fld_29_0 : fld Tryd.prog 29 0 = some (0, false, 1) := by kernel_rfl
@[go_sem] theorem fld_29_1 : fld Tryd.prog 29 1 = some (1, false, 1) := by kernel_rfl
@[go_sem] theorem fld_29_2 : fld Tryd.prog 29 2 = some (2, false, 1) := by kernel_rfl
@[go_sem] theorem lay_30 : lay Tryd.prog 30 = some (true, 3) := by kernel_rfl
@[go_sem] theorem zer_30 : zer Tryd.prog 30 = some [Value.bool false, Value.int IntKind.i64 (0), Value.slice none 0 0] := by kernel_rfl
@[go_sem] theorem byt_30 : byt Tryd.prog 30 = some 40 := by kernel_rfl
@[go_sem] theorem plc_30 : plc Tryd.prog 30 = some [(0, 1), (1, 1), (2, 1)] := by kernel_rfl
@[go_sem] theorem isInt_30 : isInt Tryd.prog 30 = some false := by kernel_rfl
@[go_sem] theorem isIface_30 : isIface Tryd.prog 30 = some false := by kernel_rfl
@[go_sem] theorem fld_30_0 : fld Tryd.prog 30 0 = some (0, false, 1) := by kernel_rfl
@[go_sem] theorem fld_30_1 : fld Tryd.prog 30 1 = some (1, false, 1) := by kernel_rfl
@[go_sem] theorem fld_30_2 : fld Tryd.prog 30 2 = some (2, false, 1) := by kernel_rfl
@[go_sem] theorem lay_31 : lay Tryd.prog 31 = some (false, 1) := by kernel_rfl
@[go_sem] theorem byt_31 : byt Tryd.prog 31 = some 0 := by kernel_rfl
@[go_sem] theorem isInt_31 : isInt Tryd.prog 31 = some false := by kernel_rfl
@[go_sem] theorem isIface_31 : isIface Tryd.prog 31 = some false := by kernel_rfl
@[go_sem] theorem lay_32 : lay Tryd.prog 32 = some (false, 1) := by kernel_rfl
@[go_sem] theorem zer_32 : zer Tryd.prog 32 = some [Value.nilFunc] := by kernel_rfl
@[go_sem] theorem byt_32 : byt Tryd.prog 32 = some 8 := by kernel_rfl
@[go_sem] theorem isInt_32 : isInt Tryd.prog 32 = some false := by kernel_rfl
@[go_sem] theorem isIface_32 : isIface Tryd.prog 32 = some false := by kernel_rfl
@[go_sem] theorem lay_33 : lay Tryd.prog 33 = some (false, 1) := by kernel_rfl
@[go_sem] theorem zer_33 : zer Tryd.prog 33 = some [Value.nilFunc] := by kernel_rfl
@[go_sem] theorem byt_33 : byt Tryd.prog 33 = some 8 := by kernel_rfl
@[go_sem] theorem isInt_33 : isInt Tryd.prog 33 = some false := by kernel_rfl
@[go_sem] theorem isIface_33 : isIface Tryd.prog 33 = some false := by kernel_rfl
@[go_sem] theorem lay_34 : lay Tryd.prog 34 = some (true, 9) := by kernel_rfl
@[go_sem] theorem zer_34 : zer Tryd.prog 34 = some [Value.string (⟨#[]⟩ : ByteArray), Value.int IntKind.i64 (0), Value.int IntKind.i64 (0), Value.string (⟨#[]⟩ : ByteArray), Value.string (⟨#[]⟩ : ByteArray), Value.string (⟨#[]⟩ : ByteArray), Value.string (⟨#[]⟩ : ByteArray), Value.string (⟨#[]⟩ : ByteArray), Value.int IntKind.i64 (0)] := by kernel_rfl
@[go_sem] theorem byt_34 : byt Tryd.prog 34 = some 120 := by kernel_rfl
@[go_sem] theorem plc_34 : plc Tryd.prog 34 = some [(0, 1), (1, 1), (2, 1), (3, 1), (4, 1), (5, 1), (6, 1), (7, 1), (8, 1)] := by kernel_rfl
@[go_sem] theorem isInt_34 : isInt Tryd.prog 34 = some false := by kernel_rfl
@[go_sem] theorem isIface_34 : isIface Tryd.prog 34 = some false := by kernel_rfl
@[go_sem] theorem eqf_34 : eqf Tryd.prog 34 = some [(0, 1), (1, 0), (2, 0), (3, 1), (4, 1), (5, 1), (6, 1), (7, 1), (8, 0)] := by kernel_rfl
@[go_sem] theorem fld_34_0 : fld Tryd.prog 34 0 = some (0, false, 1) := by kernel_rfl
@[go_sem] theorem fld_34_1 : fld Tryd.prog 34 1 = some (1, false, 1) := by kernel_rfl
@[go_sem] theorem fld_34_2 : fld Tryd.prog 34 2 = some (2, false, 1) := by kernel_rfl
@[go_sem] theorem fld_34_3 : fld Tryd.prog 34 3 = some (3, false, 1) := by kernel_rfl
@[go_sem] theorem fld_34_4 : fld Tryd.prog 34 4 = some (4, false, 1) := by kernel_rfl
@[go_sem] theorem fld_34_5 : fld Tryd.prog 34 5 = some (5, false, 1) := by kernel_rfl
@[go_sem] theorem fld_34_6 : fld Tryd.prog 34 6 = some (6, false, 1) := by kernel_rfl
@[go_sem] theorem fld_34_7 : fld Tryd.prog 34 7 = some (7, false, 1) := by kernel_rfl
@[go_sem] theorem fld_34_8 : fld Tryd.prog 34 8 = some (8, false, 1) := by kernel_rfl
@[go_sem] theorem lay_35 : lay Tryd.prog 35 = some (true, 9) := by kernel_rfl
@[go_sem] theorem zer_35 : zer Tryd.prog 35 = some [Value.string (⟨#[]⟩ : ByteArray), Value.int IntKind.i64 (0), Value.int IntKind.i64 (0), Value.string (⟨#[]⟩ : ByteArray), Value.string (⟨#[]⟩ : ByteArray), Value.string (⟨#[]⟩ : ByteArray), Value.string (⟨#[]⟩ : ByteArray), Value.string (⟨#[]⟩ : ByteArray), Value.int IntKind.i64 (0)] := by kernel_rfl
@[go_sem] theorem byt_35 : byt Tryd.prog 35 = some 120 := by kernel_rfl
@[go_sem] theorem plc_35 : plc Tryd.prog 35 = some [(0, 1), (1, 1), (2, 1), (3, 1), (4, 1), (5, 1), (6, 1), (7, 1), (8, 1)] := by kernel_rfl
@[go_sem] theorem isInt_35 : isInt Tryd.prog 35 = some false := by kernel_rfl
@[go_sem] theorem isIface_35 : isIface Tryd.prog 35 = some false := by kernel_rfl
@[go_sem] theorem eqf_35 : eqf Tryd.prog 35 = some [(0, 1), (1, 0), (2, 0), (3, 1), (4, 1), (5, 1), (6, 1), (7, 1), (8, 0)] := by kernel_rfl
@[go_sem] theorem fld_35_0 : fld Tryd.prog 35 0 = some (0, false, 1) := by kernel_rfl
@[go_sem] theorem fld_35_1 : fld Tryd.prog 35 1 = some (1, false, 1) := by kernel_rfl
@[go_sem] theorem fld_35_2 : fld Tryd.prog 35 2 = some (2, false, 1) := by kernel_rfl
@[go_sem] theorem fld_35_3 : fld Tryd.prog 35 3 = some (3, false, 1) := by kernel_rfl
@[go_sem] theorem fld_35_4 : fld Tryd.prog 35 4 = some (4, false, 1) := by kernel_rfl
@[go_sem] theorem fld_35_5 : fld Tryd.prog 35 5 = some (5, false, 1) := by kernel_rfl
@[go_sem] theorem fld_35_6 : fld Tryd.prog 35 6 = some (6, false, 1) := by kernel_rfl
@[go_sem] theorem fld_35_7 : fld Tryd.prog 35 7 = some (7, false, 1) := by kernel_rfl
@[go_sem] theorem fld_35_8 : fld Tryd.prog 35 8 = some (8, false, 1) := by kernel_rfl
@[go_sem] theorem lay_36 : lay Tryd.prog 36 = some (false, 1) := by kernel_rfl
@[go_sem] theorem zer_36 : zer Tryd.prog 36 = some [Value.nilFunc] := by kernel_rfl
@[go_sem] theorem byt_36 : byt Tryd.prog 36 = some 8 := by kernel_rfl
@[go_sem] theorem isInt_36 : isInt Tryd.prog 36 = some false := by kernel_rfl
@[go_sem] theorem isIface_36 : isIface Tryd.prog 36 = some false := by kernel_rfl
@[go_sem] theorem lay_37 : lay Tryd.prog 37 = some (false, 1) := by kernel_rfl
@[go_sem] theorem zer_37 : zer Tryd.prog 37 = some [Value.nilFunc] := by kernel_rfl
@[go_sem] theorem byt_37 : byt Tryd.prog 37 = some 8 := by kernel_rfl
@[go_sem] theorem isInt_37 : isInt Tryd.prog 37 = some false := by kernel_rfl
@[go_sem] theorem isIface_37 : isIface Tryd.prog 37 = some false := by kernel_rfl
@[go_sem] theorem lay_38 : lay Tryd.prog 38 = some (false, 1) := by kernel_rfl
@[go_sem] theorem zer_38 : zer Tryd.prog 38 = some [Value.pointer none] := by kernel_rfl
@[go_sem] theorem byt_38 : byt Tryd.prog 38 = some 8 := by kernel_rfl
@[go_sem] theorem isInt_38 : isInt Tryd.prog 38 = some false := by kernel_rfl
@[go_sem] theorem isIface_38 : isIface Tryd.prog 38 = some false := by kernel_rfl
@[go_sem] theorem lay_39 : lay Tryd.prog 39 = some (false, 1) := by kernel_rfl
@[go_sem] theorem zer_39 : zer Tryd.prog 39 = some [Value.nilFunc] := by kernel_rfl
@[go_sem] theorem byt_39 : byt Tryd.prog 39 = some 8 := by kernel_rfl
@[go_sem] theorem isInt_39 : isInt Tryd.prog 39 = some false := by kernel_rfl
@[go_sem] theorem isIface_39 : isIface Tryd.prog 39 = some false := by kernel_rfl
@[go_sem] theorem lay_40 : lay Tryd.prog 40 = some (false, 1) := by kernel_rfl
@[go_sem] theorem zer_40 : zer Tryd.prog 40 = some [Value.nilFunc] := by kernel_rfl
@[go_sem] theorem byt_40 : byt Tryd.prog 40 = some 8 := by kernel_rfl
@[go_sem] theorem isInt_40 : isInt Tryd.prog 40 = some false := by kernel_rfl
@[go_sem] theorem isIface_40 : isIface Tryd.prog 40 = some false := by kernel_rfl
@[go_sem] theorem lay_41 : lay Tryd.prog 41 = some (false, 1) := by kernel_rfl
@[go_sem] theorem zer_41 : zer Tryd.prog 41 = some [Value.nilFunc] := by kernel_rfl
@[go_sem] theorem byt_41 : byt Tryd.prog 41 = some 8 := by kernel_rfl
@[go_sem] theorem isInt_41 : isInt Tryd.prog 41 = some false := by kernel_rfl
@[go_sem] theorem isIface_41 : isIface Tryd.prog 41 = some false := by kernel_rfl
@[go_sem] theorem lay_42 : lay Tryd.prog 42 = some (false, 1) := by kernel_rfl
@[go_sem] theorem zer_42 : zer Tryd.prog 42 = some [Value.nilFunc] := by kernel_rfl
@[go_sem] theorem byt_42 : byt Tryd.prog 42 = some 8 := by kernel_rfl
@[go_sem] theorem isInt_42 : isInt Tryd.prog 42 = some false := by kernel_rfl
@[go_sem] theorem isIface_42 : isIface Tryd.prog 42 = some false := by kernel_rfl
@[go_sem] theorem lay_43 : lay Tryd.prog 43 = some (false, 1) := by kernel_rfl
@[go_sem] theorem elm_43 : elm Tryd.prog 43 = some (3, 1) := by kernel_rfl
@[go_sem] theorem zer_43 : zer Tryd.prog 43 = some [Value.slice none 0 0] := by kernel_rfl
@[go_sem] theorem byt_43 : byt Tryd.prog 43 = some 24 := by kernel_rfl
@[go_sem] theorem isInt_43 : isInt Tryd.prog 43 = some false := by kernel_rfl
@[go_sem] theorem isIface_43 : isIface Tryd.prog 43 = some false := by kernel_rfl
@[go_sem] theorem isSl_43 : isSl Tryd.prog 43 = true := by kernel_rfl
@[go_sem] theorem lay_44 : lay Tryd.prog 44 = some (false, 1) := by kernel_rfl
@[go_sem] theorem zer_44 : zer Tryd.prog 44 = some [Value.nilFunc] := by kernel_rfl
@[go_sem] theorem byt_44 : byt Tryd.prog 44 = some 8 := by kernel_rfl
@[go_sem] theorem isInt_44 : isInt Tryd.prog 44 = some false := by kernel_rfl
@[go_sem] theorem isIface_44 : isIface Tryd.prog 44 = some false := by kernel_rfl
@[go_sem] theorem lay_45 : lay Tryd.prog 45 = some (false, 1) := by kernel_rfl
@[go_sem] theorem zer_45 : zer Tryd.prog 45 = some [Value.nilFunc] := by kernel_rfl
@[go_sem] theorem byt_45 : byt Tryd.prog 45 = some 8 := by kernel_rfl
@[go_sem] theorem isInt_45 : isInt Tryd.prog 45 = some false := by kernel_rfl
@[go_sem] theorem isIface_45 : isIface Tryd.prog 45 = some false := by kernel_rfl
@[go_sem] theorem lay_46 : lay Tryd.prog 46 = some (false, 1) := by kernel_rfl
@[go_sem] theorem zer_46 : zer Tryd.prog 46 = some [Value.nilFunc] := by kernel_rfl
@[go_sem] theorem byt_46 : byt Tryd.prog 46 = some 8 := by kernel_rfl
@[go_sem] theorem isInt_46 : isInt Tryd.prog 46 = some false := by kernel_rfl
@[go_sem] theorem isIface_46 : isIface Tryd.prog 46 = some false := by kernel_rfl
@[go_sem] theorem lay_47 : lay Tryd.prog 47 = some (false, 1) := by kernel_rfl
@[go_sem] theorem zer_47 : zer Tryd.prog 47 = some [Value.nilFunc] := by kernel_rfl
@[go_sem] theorem byt_47 : byt Tryd.prog 47 = some 8 := by kernel_rfl
@[go_sem] theorem isInt_47 : isInt Tryd.prog 47 = some false := by kernel_rfl
@[go_sem] theorem isIface_47 : isIface Tryd.prog 47 = some false := by kernel_rfl
@[go_sem] theorem lay_48 : lay Tryd.prog 48 = some (false, 1) := by kernel_rfl
@[go_sem] theorem zer_48 : zer Tryd.prog 48 = some [Value.nilFunc] := by kernel_rfl
@[go_sem] theorem byt_48 : byt Tryd.prog 48 = some 8 := by kernel_rfl
@[go_sem] theorem isInt_48 : isInt Tryd.prog 48 = some false := by kernel_rfl
@[go_sem] theorem isIface_48 : isIface Tryd.prog 48 = some false := by kernel_rfl
@[go_sem] theorem lay_49 : lay Tryd.prog 49 = some (false, 1) := by kernel_rfl
@[go_sem] theorem zer_49 : zer Tryd.prog 49 = some [Value.nilFunc] := by kernel_rfl
@[go_sem] theorem byt_49 : byt Tryd.prog 49 = some 8 := by kernel_rfl
@[go_sem] theorem isInt_49 : isInt Tryd.prog 49 = some false := by kernel_rfl
@[go_sem] theorem isIface_49 : isIface Tryd.prog 49 = some false := by kernel_rfl
@[go_sem] theorem lay_50 : lay Tryd.prog 50 = some (false, 1) := by kernel_rfl
@[go_sem] theorem zer_50 : zer Tryd.prog 50 = some [Value.nilFunc] := by kernel_rfl
@[go_sem] theorem byt_50 : byt Tryd.prog 50 = some 8 := by kernel_rfl
@[go_sem] theorem isInt_50 : isInt Tryd.prog 50 = some false := by kernel_rfl
@[go_sem] theorem isIface_50 : isIface Tryd.prog 50 = some false := by kernel_rfl
@[go_sem] theorem lay_51 : lay Tryd.prog 51 = some (true, 2) := by kernel_rfl
@[go_sem] theorem zer_51 : zer Tryd.prog 51 = some [Value.slice none 0 0, Value.int IntKind.i64 (0)] := by kernel_rfl
@[go_sem] theorem byt_51 : byt Tryd.prog 51 = some 32 := by kernel_rfl
@[go_sem] theorem plc_51 : plc Tryd.prog 51 = some [(0, 1), (1, 1)] := by kernel_rfl
@[go_sem] theorem isInt_51 : isInt Tryd.prog 51 = some false := by kernel_rfl
@[go_sem] theorem isIface_51 : isIface Tryd.prog 51 = some false := by kernel_rfl
@[go_sem] theorem fld_51_0 : fld Tryd.prog 51 0 = some (0, false, 1) := by kernel_rfl
@[go_sem] theorem fld_51_1 : fld Tryd.prog 51 1 = some (1, false, 1) := by kernel_rfl
@[go_sem] theorem lay_52 : lay Tryd.prog 52 = some (true, 2) := by kernel_rfl
@[go_sem] theorem zer_52 : zer Tryd.prog 52 = some [Value.slice none 0 0, Value.int IntKind.i64 (0)] := by kernel_rfl
@[go_sem] theorem byt_52 : byt Tryd.prog 52 = some 32 := by kernel_rfl
@[go_sem] theorem plc_52 : plc Tryd.prog 52 = some [(0, 1), (1, 1)] := by kernel_rfl
@[go_sem] theorem isInt_52 : isInt Tryd.prog 52 = some false := by kernel_rfl
@[go_sem] theorem isIface_52 : isIface Tryd.prog 52 = some false := by kernel_rfl
@[go_sem] theorem fld_52_0 : fld Tryd.prog 52 0 = some (0, false, 1) := by kernel_rfl
@[go_sem] theorem fld_52_1 : fld Tryd.prog 52 1 = some (1, false, 1) := by kernel_rfl
@[go_sem] theorem lay_53 : lay Tryd.prog 53 = some (false, 1) := by kernel_rfl
@[go_sem] theorem elm_53 : elm Tryd.prog 53 = some (9, 1) := by kernel_rfl
@[go_sem] theorem zer_53 : zer Tryd.prog 53 = some [Value.slice none 0 0] := by kernel_rfl
@[go_sem] theorem byt_53 : byt Tryd.prog 53 = some 24 := by kernel_rfl
@[go_sem] theorem isInt_53 : isInt Tryd.prog 53 = some false := by kernel_rfl
@[go_sem] theorem isIface_53 : isIface Tryd.prog 53 = some false := by kernel_rfl
@[go_sem] theorem isSl_53 : isSl Tryd.prog 53 = true := by kernel_rfl
@[go_sem] theorem lay_54 : lay Tryd.prog 54 = some (false, 1) := by kernel_rfl
@[go_sem] theorem byt_54 : byt Tryd.prog 54 = some 0 := by kernel_rfl
@[go_sem] theorem isInt_54 : isInt Tryd.prog 54 = some false := by kernel_rfl
@[go_sem] theorem isIface_54 : isIface Tryd.prog 54 = some false := by kernel_rfl
@[go_sem] theorem lay_55 : lay Tryd.prog 55 = some (false, 1) := by kernel_rfl
@[go_sem] theorem zer_55 : zer Tryd.prog 55 = some [Value.nilFunc] := by kernel_rfl
@[go_sem] theorem byt_55 : byt Tryd.prog 55 = some 8 := by kernel_rfl
@[go_sem] theorem isInt_55 : isInt Tryd.prog 55 = some false := by kernel_rfl
@[go_sem] theorem isIface_55 : isIface Tryd.prog 55 = some false := by kernel_rfl
@[go_sem] theorem lay_56 : lay Tryd.prog 56 = some (false, 1) := by kernel_rfl
@[go_sem] theorem elm_56 : elm Tryd.prog 56 = some (74, 3) := by kernel_rfl
@[go_sem] theorem zer_56 : zer Tryd.prog 56 = some [Value.slice none 0 0] := by kernel_rfl
@[go_sem] theorem byt_56 : byt Tryd.prog 56 = some 24 := by kernel_rfl
@[go_sem] theorem isInt_56 : isInt Tryd.prog 56 = some false := by kernel_rfl
@[go_sem] theorem isIface_56 : isIface Tryd.prog 56 = some false := by kernel_rfl
@[go_sem] theorem isSl_56 : isSl Tryd.prog 56 = true := by kernel_rfl
@[go_sem] theorem lay_57 : lay Tryd.prog 57 = some (false, 1) := by kernel_rfl
@[go_sem] theorem elm_57 : elm Tryd.prog 57 = some (83, 2) := by kernel_rfl
@[go_sem] theorem zer_57 : zer Tryd.prog 57 = some [Value.slice none 0 0] := by kernel_rfl
@[go_sem] theorem byt_57 : byt Tryd.prog 57 = some 24 := by kernel_rfl
@[go_sem] theorem isInt_57 : isInt Tryd.prog 57 = some false := by kernel_rfl
@[go_sem] theorem isIface_57 : isIface Tryd.prog 57 = some false := by kernel_rfl
@[go_sem] theorem isSl_57 : isSl Tryd.prog 57 = true := by kernel_rfl
@[go_sem] theorem lay_58 : lay Tryd.prog 58 = some (true, 5) := by kernel_rfl
@[go_sem] theorem zer_58 : zer Tryd.prog 58 = some [Value.string (⟨#[]⟩ : ByteArray), Value.int IntKind.i64 (0), Value.slice none 0 0, Value.slice none 0 0, Value.string (⟨#[]⟩ : ByteArray)] := by kernel_rfl
@[go_sem] theorem byt_58 : byt Tryd.prog 58 = some 88 := by kernel_rfl
@[go_sem] theorem plc_58 : plc Tryd.prog 58 = some [(0, 1), (1, 1), (2, 1), (3, 1), (4, 1)] := by kernel_rfl
@[go_sem] theorem isInt_58 : isInt Tryd.prog 58 = some false := by kernel_rfl
@[go_sem] theorem isIface_58 : isIface Tryd.prog 58 = some false := by kernel_rfl
@[go_sem] theorem fld_58_0 : fld Tryd.prog 58 0 = some (0, false, 1) := by kernel_rfl
@[go_sem] theorem fld_58_1 : fld Tryd.prog 58 1 = some (1, false, 1) := by kernel_rfl
@[go_sem] theorem fld_58_2 : fld Tryd.prog 58 2 = some (2, false, 1) := by kernel_rfl
@[go_sem] theorem fld_58_3 : fld Tryd.prog 58 3 = some (3, false, 1) := by kernel_rfl
@[go_sem] theorem fld_58_4 : fld Tryd.prog 58 4 = some (4, false, 1) := by kernel_rfl
@[go_sem] theorem lay_59 : lay Tryd.prog 59 = some (true, 5) := by kernel_rfl
@[go_sem] theorem zer_59 : zer Tryd.prog 59 = some [Value.string (⟨#[]⟩ : ByteArray), Value.int IntKind.i64 (0), Value.slice none 0 0, Value.slice none 0 0, Value.string (⟨#[]⟩ : ByteArray)] := by kernel_rfl
@[go_sem] theorem byt_59 : byt Tryd.prog 59 = some 88 := by kernel_rfl
@[go_sem] theorem plc_59 : plc Tryd.prog 59 = some [(0, 1), (1, 1), (2, 1), (3, 1), (4, 1)] := by kernel_rfl
@[go_sem] theorem isInt_59 : isInt Tryd.prog 59 = some false := by kernel_rfl
@[go_sem] theorem isIface_59 : isIface Tryd.prog 59 = some false := by kernel_rfl
@[go_sem] theorem fld_59_0 : fld Tryd.prog 59 0 = some (0, false, 1) := by kernel_rfl
@[go_sem] theorem fld_59_1 : fld Tryd.prog 59 1 = some (1, false, 1) := by kernel_rfl
@[go_sem] theorem fld_59_2 : fld Tryd.prog 59 2 = some (2, false, 1) := by kernel_rfl
@[go_sem] theorem fld_59_3 : fld Tryd.prog 59 3 = some (3, false, 1) := by kernel_rfl
@[go_sem] theorem fld_59_4 : fld Tryd.prog 59 4 = some (4, false, 1) := by kernel_rfl
@[go_sem] theorem lay_60 : lay Tryd.prog 60 = some (false, 1) := by kernel_rfl
@[go_sem] theorem zer_60 : zer Tryd.prog 60 = some [Value.nilFunc] := by kernel_rfl
@[go_sem] theorem byt_60 : byt Tryd.prog 60 = some 8 := by kernel_rfl
@[go_sem] theorem isInt_60 : isInt Tryd.prog 60 = some false := by kernel_rfl
@[go_sem] theorem isIface_60 : isIface Tryd.prog 60 = some false := by kernel_rfl
@[go_sem] theorem lay_61 : lay Tryd.prog 61 = some (false, 1) := by kernel_rfl
@[go_sem] theorem zer_61 : zer Tryd.prog 61 = some [Value.nilFunc] := by kernel_rfl
@[go_sem] theorem byt_61 : byt Tryd.prog 61 = some 8 := by kernel_rfl
@[go_sem] theorem isInt_61 : isInt Tryd.prog 61 = some false := by kernel_rfl
@[go_sem] theorem isIface_61 : isIface Tryd.prog 61 = some false := by kernel_rfl
@[go_sem] theorem lay_62 : lay Tryd.prog 62 = some (false, 1) := by kernel_rfl
@[go_sem] theorem zer_62 : zer Tryd.prog 62 = some [Value.nilFunc] := by kernel_rfl
@[go_sem] theorem byt_62 : byt Tryd.prog 62 = some 8 := by kernel_rfl
@[go_sem] theorem isInt_62 : isInt Tryd.prog 62 = some false := by kernel_rfl
@[go_sem] theorem isIface_62 : isIface Tryd.prog 62 = some false := by kernel_rfl
@[go_sem] theorem lay_63 : lay Tryd.prog 63 = some (false, 1) := by kernel_rfl
@[go_sem] theorem zer_63 : zer Tryd.prog 63 = some [Value.nilFunc] := by kernel_rfl
@[go_sem] theorem byt_63 : byt Tryd.prog 63 = some 8 := by kernel_rfl
@[go_sem] theorem isInt_63 : isInt Tryd.prog 63 = some false := by kernel_rfl
@[go_sem] theorem isIface_63 : isIface Tryd.prog 63 = some false := by kernel_rfl
@[go_sem] theorem lay_64 : lay Tryd.prog 64 = some (false, 1) := by kernel_rfl
@[go_sem] theorem zer_64 : zer Tryd.prog 64 = some [Value.nilFunc] := by kernel_rfl
@[go_sem] theorem byt_64 : byt Tryd.prog 64 = some 8 := by kernel_rfl
@[go_sem] theorem isInt_64 : isInt Tryd.prog 64 = some false := by kernel_rfl
@[go_sem] theorem isIface_64 : isIface Tryd.prog 64 = some false := by kernel_rfl
@[go_sem] theorem lay_65 : lay Tryd.prog 65 = some (false, 1) := by kernel_rfl
@[go_sem] theorem zer_65 : zer Tryd.prog 65 = some [Value.nilFunc] := by kernel_rfl
@[go_sem] theorem byt_65 : byt Tryd.prog 65 = some 8 := by kernel_rfl
@[go_sem] theorem isInt_65 : isInt Tryd.prog 65 = some false := by kernel_rfl
@[go_sem] theorem isIface_65 : isIface Tryd.prog 65 = some false := by kernel_rfl
@[go_sem] theorem lay_66 : lay Tryd.prog 66 = some (false, 1) := by kernel_rfl
@[go_sem] theorem zer_66 : zer Tryd.prog 66 = some [Value.nilFunc] := by kernel_rfl
@[go_sem] theorem byt_66 : byt Tryd.prog 66 = some 8 := by kernel_rfl
@[go_sem] theorem isInt_66 : isInt Tryd.prog 66 = some false := by kernel_rfl
@[go_sem] theorem isIface_66 : isIface Tryd.prog 66 = some false := by kernel_rfl
@[go_sem] theorem lay_67 : lay Tryd.prog 67 = some (false, 1) := by kernel_rfl
@[go_sem] theorem zer_67 : zer Tryd.prog 67 = some [Value.nilFunc] := by kernel_rfl
@[go_sem] theorem byt_67 : byt Tryd.prog 67 = some 8 := by kernel_rfl
@[go_sem] theorem isInt_67 : isInt Tryd.prog 67 = some false := by kernel_rfl
@[go_sem] theorem isIface_67 : isIface Tryd.prog 67 = some false := by kernel_rfl
@[go_sem] theorem lay_68 : lay Tryd.prog 68 = some (false, 1) := by kernel_rfl
@[go_sem] theorem zer_68 : zer Tryd.prog 68 = some [Value.nilFunc] := by kernel_rfl
@[go_sem] theorem byt_68 : byt Tryd.prog 68 = some 8 := by kernel_rfl
@[go_sem] theorem isInt_68 : isInt Tryd.prog 68 = some false := by kernel_rfl
@[go_sem] theorem isIface_68 : isIface Tryd.prog 68 = some false := by kernel_rfl
@[go_sem] theorem lay_69 : lay Tryd.prog 69 = some (false, 1) := by kernel_rfl
@[go_sem] theorem zer_69 : zer Tryd.prog 69 = some [Value.nilFunc] := by kernel_rfl
@[go_sem] theorem byt_69 : byt Tryd.prog 69 = some 8 := by kernel_rfl
@[go_sem] theorem isInt_69 : isInt Tryd.prog 69 = some false := by kernel_rfl
@[go_sem] theorem isIface_69 : isIface Tryd.prog 69 = some false := by kernel_rfl
@[go_sem] theorem lay_70 : lay Tryd.prog 70 = some (false, 1) := by kernel_rfl
@[go_sem] theorem zer_70 : zer Tryd.prog 70 = some [Value.nilFunc] := by kernel_rfl
@[go_sem] theorem byt_70 : byt Tryd.prog 70 = some 8 := by kernel_rfl
@[go_sem] theorem isInt_70 : isInt Tryd.prog 70 = some false := by kernel_rfl
@[go_sem] theorem isIface_70 : isIface Tryd.prog 70 = some false := by kernel_rfl
@[go_sem] theorem lay_71 : lay Tryd.prog 71 = some (false, 1) := by kernel_rfl
@[go_sem] theorem zer_71 : zer Tryd.prog 71 = some [Value.nilFunc] := by kernel_rfl
@[go_sem] theorem byt_71 : byt Tryd.prog 71 = some 8 := by kernel_rfl
@[go_sem] theorem isInt_71 : isInt Tryd.prog 71 = some false := by kernel_rfl
@[go_sem] theorem isIface_71 : isIface Tryd.prog 71 = some false := by kernel_rfl
@[go_sem] theorem lay_72 : lay Tryd.prog 72 = some (false, 1) := by kernel_rfl
@[go_sem] theorem zer_72 : zer Tryd.prog 72 = some [Value.nilFunc] := by kernel_rfl
@[go_sem] theorem byt_72 : byt Tryd.prog 72 = some 8 := by kernel_rfl
@[go_sem] theorem isInt_72 : isInt Tryd.prog 72 = some false := by kernel_rfl
@[go_sem] theorem isIface_72 : isIface Tryd.prog 72 = some false := by kernel_rfl
@[go_sem] theorem lay_73 : lay Tryd.prog 73 = some (true, 3) := by kernel_rfl
@[go_sem] theorem zer_73 : zer Tryd.prog 73 = some [Value.string (⟨#[]⟩ : ByteArray), Value.string (⟨#[]⟩ : ByteArray), Value.int IntKind.i64 (0)] := by kernel_rfl
@[go_sem] theorem byt_73 : byt Tryd.prog 73 = some 40 := by kernel_rfl
@[go_sem] theorem plc_73 : plc Tryd.prog 73 = some [(0, 1), (1, 1), (2, 1)] := by kernel_rfl
@[go_sem] theorem isInt_73 : isInt Tryd.prog 73 = some false := by kernel_rfl
@[go_sem] theorem isIface_73 : isIface Tryd.prog 73 = some false := by kernel_rfl
@[go_sem] theorem eqf_73 : eqf Tryd.prog 73 = some [(0, 1), (1, 1), (2, 0)] := by kernel_rfl
@[go_sem] theorem fld_73_0 : fld Tryd.prog 73 0 = some (0, false, 1) := by kernel_rfl
@[go_sem] theorem fld_73_1 : fld Tryd.prog 73 1 = some (1, false, 1) := by kernel_rfl
@[go_sem] theorem fld_73_2 : fld Tryd.prog 73 2 = some (2, false, 1) := by kernel_rfl
@[go_sem] theorem lay_74 : lay Tryd.prog 74 = some (true, 3) := by kernel_rfl
@[go_sem] theorem zer_74 : zer Tryd.prog 74 = some [Value.string (⟨#[]⟩ : ByteArray), Value.string (⟨#[]⟩ : ByteArray), Value.int IntKind.i64 (0)] := by kernel_rfl
@[go_sem] theorem byt_74 : byt Tryd.prog 74 = some 40 := by kernel_rfl
@[go_sem] theorem plc_74 : plc Tryd.prog 74 = some [(0, 1), (1, 1), (2, 1)] := by kernel_rfl
@[go_sem] theorem isInt_74 : isInt Tryd.prog 74 = some false := by kernel_rfl
@[go_sem] theorem isIface_74 : isIface Tryd.prog 74 = some false := by kernel_rfl
@[go_sem] theorem eqf_74 : eqf Tryd.prog 74 = some [(0, 1), (1, 1), (2, 0)] := by kernel_rfl
@[go_sem] theorem fld_74_0 : fld Tryd.prog 74 0 = some (0, false, 1) := by kernel_rfl
@[go_sem] theorem fld_74_1 : fld Tryd.prog 74 1 = some (1, false, 1) := by kernel_rfl
@[go_sem] theorem fld_74_2 : fld Tryd.prog 74 2 = some (2, false, 1) := by kernel_rfl
@[go_sem] theorem lay_75 : lay Tryd.prog 75 = some (false, 1) := by kernel_rfl
@[go_sem] theorem zer_75 : zer Tryd.prog 75 = some [Value.nilFunc] := by kernel_rfl
@[go_sem] theorem byt_75 : byt Tryd.prog 75 = some 8 := by kernel_rfl
@[go_sem] theorem isInt_75 : isInt Tryd.prog 75 = some false := by kernel_rfl
@[go_sem] theorem isIface_75 : isIface Tryd.prog 75 = some false := by kernel_rfl
@[go_sem] theorem lay_76 : lay Tryd.prog 76 = some (false, 1) := by kernel_rfl
@[go_sem] theorem zer_76 : zer Tryd.prog 76 = some [Value.nilFunc] := by kernel_rfl
@[go_sem] theorem byt_76 : byt Tryd.prog 76 = some 8 := by kernel_rfl
@[go_sem] theorem isInt_76 : isInt Tryd.prog 76 = some false := by kernel_rfl
@[go_sem] theorem isIface_76 : isIface Tryd.prog 76 = some false := by kernel_rfl
@[go_sem] theorem lay_77 : lay Tryd.prog 77 = some (false, 1) := by kernel_rfl
@[go_sem] theorem zer_77 : zer Tryd.prog 77 = some [Value.nilFunc] := by kernel_rfl
@[go_sem] theorem byt_77 : byt Tryd.prog 77 = some 8 := by kernel_rfl
@[go_sem] theorem isInt_77 : isInt Tryd.prog 77 = some false := by kernel_rfl
@[go_sem] theorem isIface_77 : isIface Tryd.prog 77 = some false := by kernel_rfl
@[go_sem] theorem lay_78 : lay Tryd.prog 78 = some (false, 1) := by kernel_rfl
@[go_sem] theorem zer_78 : zer Tryd.prog 78 = some [Value.nilFunc] := by kernel_rfl
@[go_sem] theorem byt_78 : byt Tryd.prog 78 = some 8 := by kernel_rfl
@[go_sem] theorem isInt_78 : isInt Tryd.prog 78 = some false := by kernel_rfl
@[go_sem] theorem isIface_78 : isIface Tryd.prog 78 = some false := by kernel_rfl
@[go_sem] theorem lay_79 : lay Tryd.prog 79 = some (false, 1) := by kernel_rfl
@[go_sem] theorem zer_79 : zer Tryd.prog 79 = some [Value.nilFunc] := by kernel_rfl
@[go_sem] theorem byt_79 : byt Tryd.prog 79 = some 8 := by kernel_rfl
@[go_sem] theorem isInt_79 : isInt Tryd.prog 79 = some false := by kernel_rfl
@[go_sem] theorem isIface_79 : isIface Tryd.prog 79 = some false := by kernel_rfl
@[go_sem] theorem lay_80 : lay Tryd.prog 80 = some (false, 1) := by kernel_rfl
@[go_sem] theorem byt_80 : byt Tryd.prog 80 = some 0 := by kernel_rfl
@[go_sem] theorem isInt_80 : isInt Tryd.prog 80 = some false := by kernel_rfl
@[go_sem] theorem isIface_80 : isIface Tryd.prog 80 = some false := by kernel_rfl
@[go_sem] theorem lay_81 : lay Tryd.prog 81 = some (false, 1) := by kernel_rfl
@[go_sem] theorem zer_81 : zer Tryd.prog 81 = some [Value.nilFunc] := by kernel_rfl
@[go_sem] theorem byt_81 : byt Tryd.prog 81 = some 8 := by kernel_rfl
@[go_sem] theorem isInt_81 : isInt Tryd.prog 81 = some false := by kernel_rfl
@[go_sem] theorem isIface_81 : isIface Tryd.prog 81 = some false := by kernel_rfl
@[go_sem] theorem lay_82 : lay Tryd.prog 82 = some (true, 2) := by kernel_rfl
@[go_sem] theorem zer_82 : zer Tryd.prog 82 = some [Value.string (⟨#[]⟩ : ByteArray), Value.int IntKind.i64 (0)] := by kernel_rfl
@[go_sem] theorem byt_82 : byt Tryd.prog 82 = some 24 := by kernel_rfl
@[go_sem] theorem plc_82 : plc Tryd.prog 82 = some [(0, 1), (1, 1)] := by kernel_rfl
@[go_sem] theorem isInt_82 : isInt Tryd.prog 82 = some false := by kernel_rfl
@[go_sem] theorem isIface_82 : isIface Tryd.prog 82 = some false := by kernel_rfl
@[go_sem] theorem eqf_82 : eqf Tryd.prog 82 = some [(0, 1), (1, 0)] := by kernel_rfl
@[go_sem] theorem fld_82_0 : fld Tryd.prog 82 0 = some (0, false, 1) := by kernel_rfl
@[go_sem] theorem fld_82_1 : fld Tryd.prog 82 1 = some (1, false, 1) := by kernel_rfl
@[go_sem] theorem lay_83 : lay Tryd.prog 83 = some (true, 2) := by kernel_rfl
@[go_sem] theorem zer_83 : zer Tryd.prog 83 = some [Value.string (⟨#[]⟩ : ByteArray), Value.int IntKind.i64 (0)] := by kernel_rfl
@[go_sem] theorem byt_83 : byt Tryd.prog 83 = some 24 := by kernel_rfl
@[go_sem] theorem plc_83 : plc Tryd.prog 83 = some [(0, 1), (1, 1)] := by kernel_rfl
@[go_sem] theorem isInt_83 : isInt Tryd.prog 83 = some false := by kernel_rfl
@[go_sem] theorem isIface_83 : isIface Tryd.prog 83 = some false := by kernel_rfl
@[go_sem] theorem eqf_83 : eqf Tryd.prog 83 = some [(0, 1), (1, 0)] := by kernel_rfl
@[go_sem] theorem fld_83_0 : fld Tryd.prog 83 0 = some (0, false, 1) := by kernel_rfl
@[go_sem] theorem fld_83_1 : fld Tryd.prog 83 1 = some (1, false, 1) := by kernel_rfl
@[go_sem] theorem lay_84 : lay Tryd.prog 84 = some (false, 1) := by kernel_rfl
@[go_sem] theorem zer_84 : zer Tryd.prog 84 = some [Value.nilFunc] := by kernel_rfl
@[go_sem] theorem byt_84 : byt Tryd.prog 84 = some 8 := by kernel_rfl
@[go_sem] theorem isInt_84 : isInt Tryd.prog 84 = some false := by kernel_rfl
@[go_sem] theorem isIface_84 : isIface Tryd.prog 84 = some false := by kernel_rfl
@[go_sem] theorem lay_85 : lay Tryd.prog 85 = some (false, 1) := by kernel_rfl
@[go_sem] theorem byt_85 : byt Tryd.prog 85 = some 0 := by kernel_rfl
@[go_sem] theorem isInt_85 : isInt Tryd.prog 85 = some false := by kernel_rfl
@[go_sem] theorem isIface_85 : isIface Tryd.prog 85 = some false := by kernel_rfl
@[go_sem] theorem lay_86 : lay Tryd.prog 86 = some (false, 1) := by kernel_rfl
@[go_sem] theorem zer_86 : zer Tryd.prog 86 = some [Value.nilFunc] := by kernel_rfl
@[go_sem] theorem byt_86 : byt Tryd.prog 86 = some 8 := by kernel_rfl
@[go_sem] theorem isInt_86 : isInt Tryd.prog 86 = some false := by kernel_rfl
@[go_sem] theorem isIface_86 : isIface Tryd.prog 86 = some false := by kernel_rfl
@[go_sem] theorem lay_87 : lay Tryd.prog 87 = some (false, 1) := by kernel_rfl
@[go_sem] theorem byt_87 : byt Tryd.prog 87 = some 0 := by kernel_rfl
@[go_sem] theorem isInt_87 : isInt Tryd.prog 87 = some false := by kernel_rfl
@[go_sem] theorem isIface_87 : isIface Tryd.prog 87 = some false := by kernel_rfl
@[go_sem] theorem lay_88 : lay Tryd.prog 88 = some (false, 1) := by kernel_rfl
@[go_sem] theorem zer_88 : zer Tryd.prog 88 = some [Value.nilFunc] := by kernel_rfl
@[go_sem] theorem byt_88 : byt Tryd.prog 88 = some 8 := by kernel_rfl
@[go_sem] theorem isInt_88 : isInt Tryd.prog 88 = some false := by kernel_rfl
@[go_sem] theorem isIface_88 : isIface Tryd.prog 88 = some false := by kernel_rfl
@[go_sem] theorem lay_89 : lay Tryd.prog 89 = some (false, 1) := by kernel_rfl
@[go_sem] theorem zer_89 : zer Tryd.prog 89 = some [Value.nilFunc] := by kernel_rfl
@[go_sem] theorem byt_89 : byt Tryd.prog 89 = some 8 := by kernel_rfl
@[go_sem] theorem isInt_89 : isInt Tryd.prog 89 = some false := by kernel_rfl
@[go_sem] theorem isIface_89 : isIface Tryd.prog 89 = some false := by kernel_rfl
@[go_sem] theorem lay_90 : lay Tryd.prog 90 = some (false, 1) := by kernel_rfl
@[go_sem] theorem zer_90 : zer Tryd.prog 90 = some [Value.nilFunc] := by kernel_rfl
@[go_sem] theorem byt_90 : byt Tryd.prog 90 = some 8 := by kernel_rfl
@[go_sem] theorem isInt_90 : isInt Tryd.prog 90 = some false := by kernel_rfl
@[go_sem] theorem isIface_90 : isIface Tryd.prog 90 = some false := by kernel_rfl
@[go_sem] theorem lay_91 : lay Tryd.prog 91 = some (true, 256) := by kernel_rfl
@[go_sem] theorem zer_91 : zer Tryd.prog 91 = some [Value.int IntKind.u8 (0), Value.int IntKind.u8 (0), Value.int IntKind.u8 (0), Value.int IntKind.u8 (0), Value.int IntKind.u8 (0), Value.int IntKind.u8 (0), Value.int IntKind.u8 (0), Value.int IntKind.u8 (0), Value.int IntKind.u8 (0), Value.int IntKind.u8 (0), Value.int IntKind.u8 (0), Value.int IntKind.u8 (0), Value.int IntKind.u8 (0), Value.int IntKind.u8 (0), Value.int IntKind.u8 (0), Value.int IntKind.u8 (0), Value.int IntKind.u8 (0), Value.int IntKind.u8 (0), Value.int IntKind.u8 (0), Value.int IntKind.u8 (0), Value.int IntKind.u8 (0), Value.int IntKind.u8 (0), Value.int IntKind.u8 (0), Value.int IntKind.u8 (0), Value.int IntKind.u8 (0), Value.int IntKind.u8 (0), Value.int IntKind.u8 (0), Value.int IntKind.u8 (0), Value.int IntKind.u8 (0), Value.int IntKind.u8 (0), Value.int IntKind.u8 (0), Value.int IntKind.u8 (0), Value.int IntKind.u8 (0), Value.int IntKind.u8 (0), Value.int IntKind.u8 (0), Value.int IntKind.u8 (0), Value.int IntKind.u8 (0), Value.int IntKind.u8 (0), Value.int IntKind.u8 (0), Value.int IntKind.u8 (0), Value.int IntKind.u8 (0), Value.int IntKind.u8 (0), Value.int IntKind.u8 (0), Value.int IntKind.u8 (0), Value.int IntKind.u8 (0), Value.int IntKind.u8 (0), Value.int IntKind.u8 (0), Value.int IntKind.u8 (0), Value.int IntKind.u8 (0), Value.int IntKind.u8 (0), Value.int IntKind.u8 (0), Value.int IntKind.u8 (0), Value.int IntKind.u8 (0), Value.int IntKind.u8 (0), Value.int IntKind.u8 (0), Value.int IntKind.u8 (0), Value.int IntKind.u8 (0), Value.int IntKind.u8 (0), Value.int IntKind.u8 (0), Value.int IntKind.u8 (0), Value.int IntKind.u8 (0), Value.int IntKind.u8 (0), Value.int IntKind.u8 (0), Value.int IntKind.u8 (0), Value.int IntKind.u8 (0), Value.int IntKind.u8 (0), Value.int IntKind.u8 (0), Value.int IntKind.u8 (0), Value.int IntKind.u8 (0), Value.int IntKind.u8 (0), Value.int IntKind.u8 (0), Value.int IntKind.u8 (0), Value.int IntKind.u8 (0), Value.int IntKind.u8 (0), Value.int IntKind.u8 (0), Value.int IntKind.u8 (0), Value.int IntKind.u8 (0), Value.int IntKind.u8 (0), Value.int IntKind.u8 (0), Value.int IntKind.u8 (0), Value.int IntKind.u8 (0), Value.int IntKind.u8 (0), Value.int IntKind.u8 (0), Value.int IntKind.u8 (0), Value.int IntKind.u8 (0), Value.int IntKind.u8 (0), Value.int IntKind.u8 (0), Value.int IntKind.u8 (0), Value.int IntKind.u8 (0), Value.int IntKind.u8 (0), Value.int IntKind.u8 (0), Value.int IntKind.u8 (0), Value.int IntKind.u8 (0), Value.int IntKind.u8 (0), Value.int IntKind.u8 (0), Value.int IntKind.u8 (0), Value.int IntKind.u8 (0), Value.int IntKind.u8 (0), Value.int IntKind.u8 (0), Value.int IntKind.u8 (0), Value.int IntKind.u8 (0), Value.int IntKind.u8 (0), Value.int IntKind.u8 (0), Value.int IntKind.u8 (0), Value.int IntKind.u8 (0), Value.int IntKind.u8 (0), Value.int IntKind.u8 (0), Value.int IntKind.u8 (0), Value.int IntKind.u8 (0), Value.int IntKind.u8 (0), Value.int IntKind.u8 (0), Value.int IntKind.u8 (0), Value.int IntKind.u8 (0), Value.int IntKind.u8 (0), Value.int IntKind.u8 (0), Value.int IntKind.u8 (0), Value.int IntKind.u8 (0), Value.int IntKind.u8 (0), Value.int IntKind.u8 (0), Value.int IntKind.u8 (0), Value.int IntKind.u8 (0), Value.int IntKind.u8 (0), Value.int IntKind.u8 (0), Value.int IntKind.u8 (0), Value.int IntKind.u8 (0), Value.int IntKind.u8 (0), Value.int IntKind.u8 (0), Value.int IntKind.u8 (0), Value.int IntKind.u8 (0), Value.int IntKind.u8 (0), Value.int IntKind.u8 (0), Value.int IntKind.u8 (0), Value.int IntKind.u8 (0), Value.int IntKind.u8 (0), Value.int IntKind.u8 (0), Value.int IntKind.u8 (0), Value.int IntKind.u8 (0), Value.int IntKind.u8 (0), Value.int IntKind.u8 (0), Value.int IntKind.u8 (0), Value.int IntKind.u8 (0), Value.int IntKind.u8 (0), Value.int IntKind.u8 (0), Value.int IntKind.u8 (0), Value.int IntKind.u8 (0), Value.int IntKind.u8 (0), Value.int IntKind.u8 (0), Value.int IntKind.u8 (0), Value.int IntKind.u8 (0), Value.int IntKind.u8 (0), Value.int IntKind.u8 (0), Value.int IntKind.u8 (0), Value.int IntKind.u8 (0), Value.int IntKind.u8 (0), Value.int IntKind.u8 (0), Value.int IntKind.u8 (0), Value.int IntKind.u8 (0), Value.int IntKind.u8 (0), Value.int IntKind.u8 (0), Value.int IntKind.u8 (0), Value.int IntKind.u8 (0), Value.int IntKind.u8 (0), Value.int IntKind.u8 (0), Value.int IntKind.u8 (0), Value.int IntKind.u8 (0), Value.int IntKind.u8 (0), Value.int IntKind.u8 (0), Value.int IntKind.u8 (0), Value.int IntKind.u8 (0), Value.int IntKind.u8 (0), Value.int IntKind.u8 (0), Value.int IntKind.u8 (0), Value.int IntKind.u8 (0), Value.int IntKind.u8 (0), Value.int IntKind.u8 (0), Value.int IntKind.u8 (0), Value.int IntKind.u8 (0), Value.int IntKind.u8 (0), Value.int IntKind.u8 (0), Value.int IntKind.u8 (0), Value.int IntKind.u8 (0), Value.int IntKind.u8 (0), Value.int IntKind.u8 (0), Value.int IntKind.u8 (0), Value.int IntKind.u8 (0), Value.int IntKind.u8 (0), Value.int IntKind.u8 (0), Value.int IntKind.u8 (0), Value.int IntKind.u8 (0), Value.int IntKind.u8 (0), Value.int IntKind.u8 (0), Value.int IntKind.u8 (0), Value.int IntKind.u8 (0), Value.int IntKind.u8 (0), Value.int IntKind.u8 (0), Value.int IntKind.u8 (0), Value.int IntKind.u8 (0), Value.int IntKind.u8 (0), Value.int IntKind.u8 (0), Value.int IntKind.u8 (0), Value.int IntKind.u8 (0), Value.int IntKind.u8 (0), Value.int IntKind.u8 (0), Value.int IntKind.u8 (0), Value.int IntKind.u8 (0), Value.int IntKind.u8 (0), Value.int IntKind.u8 (0), Value.int IntKind.u8 (0), Value.int IntKind.u8 (0), Value.int IntKind.u8 (0), Value.int IntKind.u8 (0), Value.int IntKind.u8 (0), Value.int IntKind.u8 (0), Value.int IntKind.u8 (0), Value.int IntKind.u8 (0), Value.int IntKind.u8 (0), Value.int IntKind.u8 (0), Value.int IntKind.u8 (0), Value.int IntKind.u8 (0), Value.int IntKind.u8 (0), Value.int IntKind.u8 (0), Value.int IntKind.u8 (0), Value.int IntKind.u8 (0), Value.int IntKind.u8 (0), Value.int IntKind.u8 (0), Value.int IntKind.u8 (0), Value.int IntKind.u8 (0), Value.int IntKind.u8 (0), Value.int IntKind.u8 (0), Value.int IntKind.u8 (0), Value.int IntKind.u8 (0), Value.int IntKind.u8 (0), Value.int IntKind.u8 (0), Value.int IntKind.u8 (0), Value.int IntKind.u8 (0), Value.int IntKind.u8 (0), Value.int IntKind.u8 (0), Value.int IntKind.u8 (0), Value.int IntKind.u8 (0), Value.int IntKind.u8 (0), Value.int IntKind.u8 (0), Value.int IntKind.u8 (0), Value.int IntKind.u8 (0), Value.int IntKind.u8 (0), Value.int IntKind.u8 (0), Value.int IntKind.u8 (0), Value.int IntKind.u8 (0), Value.int IntKind.u8 (0), Value.int IntKind.u8 (0), Value.int IntKind.u8 (0), Value.int IntKind.u8 (0), Value.int IntKind.u8 (0), Value.int IntKind.u8 (0), Value.int IntKind.u8 (0), Value.int IntKind.u8 (0), Value.int IntKind.u8 (0)] := by kernel_rfl
@[go_sem] theorem byt_91 : byt Tryd.prog 91 = some 256 := by kernel_rfl
@[go_sem] theorem isInt_91 : isInt Tryd.prog 91 = some false := by kernel_rfl
@[go_sem] theorem isIface_91 : isIface Tryd.prog 91 = some false := by kernel_rfl
@[go_sem] theorem lay_92 : lay Tryd.prog 92 = some (false, 1) := by kernel_rfl
@[go_sem] theorem zer_92 : zer Tryd.prog 92 = some [Value.int IntKind.u64 (0)] := by kernel_rfl
@[go_sem] theorem byt_92 : byt Tryd.prog 92 = some 8 := by kernel_rfl
@[go_sem] theorem isInt_92 : isInt Tryd.prog 92 = some true := by kernel_rfl
@[go_sem] theorem isIface_92 : isIface Tryd.prog 92 = some false := by kernel_rfl
@[go_sem] theorem intK_92 : intK Tryd.prog 92 = some IntKind.u64 := by kernel_rfl
@[go_sem] theorem lay_93 : lay Tryd.prog 93 = some (true, 2) := by kernel_rfl
@[go_sem] theorem zer_93 : zer Tryd.prog 93 = some [Value.int IntKind.u8 (0), Value.int IntKind.u8 (0)] := by kernel_rfl
@[go_sem] theorem byt_93 : byt Tryd.prog 93 = some 2 := by kernel_rfl
@[go_sem] theorem plc_93 : plc Tryd.prog 93 = some [(0, 1), (1, 1)] := by kernel_rfl
@[go_sem] theorem isInt_93 : isInt Tryd.prog 93 = some false := by kernel_rfl
@[go_sem] theorem isIface_93 : isIface Tryd.prog 93 = some false := by kernel_rfl
@[go_sem] theorem eqf_93 : eqf Tryd.prog 93 = some [(0, 0), (1, 0)] := by kernel_rfl
@[go_sem] theorem fld_93_0 : fld Tryd.prog 93 0 = some (0, false, 1) := by kernel_rfl
@[go_sem] theorem fld_93_1 : fld Tryd.prog 93 1 = some (1, false, 1) := by kernel_rfl
@[go_sem] theorem lay_94 : lay Tryd.prog 94 = some (true, 2) := by kernel_rfl
@[go_sem] theorem zer_94 : zer Tryd.prog 94 = some [Value.int IntKind.u8 (0), Value.int IntKind.u8 (0)] := by kernel_rfl
@[go_sem] theorem byt_94 : byt Tryd.prog 94 = some 2 := by kernel_rfl
@[go_sem] theorem plc_94 : plc Tryd.prog 94 = some [(0, 1), (1, 1)] := by kernel_rfl
@[go_sem] theorem isInt_94 : isInt Tryd.prog 94 = some false := by kernel_rfl
@[go_sem] theorem isIface_94 : isIface Tryd.prog 94 = some false := by kernel_rfl
@[go_sem] theorem eqf_94 : eqf Tryd.prog 94 = some [(0, 0), (1, 0)] := by kernel_rfl
@[go_sem] theorem fld_94_0 : fld Tryd.prog 94 0 = some (0, false, 1) := by kernel_rfl
@[go_sem] theorem fld_94_1 : fld Tryd.prog 94 1 = some (1, false, 1) := by kernel_rfl
@[go_sem] theorem lay_95 : lay Tryd.prog 95 = some (true, 32) := by kernel_rfl
@[go_sem] theorem zer_95 : zer Tryd.prog 95 = some [Value.int IntKind.u8 (0), Value.int IntKind.u8 (0), Value.int IntKind.u8 (0), Value.int IntKind.u8 (0), Value.int IntKind.u8 (0), Value.int IntKind.u8 (0), Value.int IntKind.u8 (0), Value.int IntKind.u8 (0), Value.int IntKind.u8 (0), Value.int IntKind.u8 (0), Value.int IntKind.u8 (0), Value.int IntKind.u8 (0), Value.int IntKind.u8 (0), Value.int IntKind.u8 (0), Value.int IntKind.u8 (0), Value.int IntKind.u8 (0), Value.int IntKind.u8 (0), Value.int IntKind.u8 (0), Value.int IntKind.u8 (0), Value.int IntKind.u8 (0), Value.int IntKind.u8 (0), Value.int IntKind.u8 (0), Value.int IntKind.u8 (0), Value.int IntKind.u8 (0), Value.int IntKind.u8 (0), Value.int IntKind.u8 (0), Value.int IntKind.u8 (0), Value.int IntKind.u8 (0), Value.int IntKind.u8 (0), Value.int IntKind.u8 (0), Value.int IntKind.u8 (0), Value.int IntKind.u8 (0)] := by kernel_rfl
@[go_sem] theorem byt_95 : byt Tryd.prog 95 = some 32 := by kernel_rfl
@[go_sem] theorem isInt_95 : isInt Tryd.prog 95 = some false := by kernel_rfl
@[go_sem] theorem isIface_95 : isIface Tryd.prog 95 = some false := by kernel_rfl
@[go_sem] theorem lay_96 : lay Tryd.prog 96 = some (false, 1) := by kernel_rfl
@[go_sem] theorem zer_96 : zer Tryd.prog 96 = some [Value.nilFunc] := by kernel_rfl
@[go_sem] theorem byt_96 : byt Tryd.prog 96 = some 8 := by kernel_rfl
@[go_sem] theorem isInt_96 : isInt Tryd.prog 96 = some false := by kernel_rfl
@[go_sem] theorem isIface_96 : isIface Tryd.prog 96 = some false := by kernel_rfl
@[go_sem] theorem lay_97 : lay Tryd.prog 97 = some (true, 4) := by kernel_rfl
@[go_sem] theorem zer_97 : zer Tryd.prog 97 = some [Value.pointer none, Value.pointer none, Value.pointer none, Value.string (⟨#[]⟩ : ByteArray)] := by kernel_rfl
@[go_sem] theorem byt_97 : byt Tryd.prog 97 = some 40 := by kernel_rfl
@[go_sem] theorem plc_97 : plc Tryd.prog 97 = some [(0, 1), (1, 1), (2, 1), (3, 1)] := by kernel_rfl
@[go_sem] theorem isInt_97 : isInt Tryd.prog 97 = some false := by kernel_rfl
@[go_sem] theorem isIface_97 : isIface Tryd.prog 97 = some false := by kernel_rfl
@[go_sem] theorem fld_97_0 : fld Tryd.prog 97 0 = some (0, false, 1) := by kernel_rfl
@[go_sem] theorem fld_97_1 : fld Tryd.prog 97 1 = some (1, false, 1) := by kernel_rfl
@[go_sem] theorem fld_97_2 : fld Tryd.prog 97 2 = some (2, false, 1) := by kernel_rfl
@[go_sem] theorem fld_97_3 : fld Tryd.prog 97 3 = some (3, false, 1) := by kernel_rfl
@[go_sem] theorem lay_98 : lay Tryd.prog 98 = some (true, 4) := by kernel_rfl
@[go_sem] theorem zer_98 : zer Tryd.prog 98 = some [Value.pointer none, Value.pointer none, Value.pointer none, Value.string (⟨#[]⟩ : ByteArray)] := by kernel_rfl
@[go_sem] theorem byt_98 : byt Tryd.prog 98 = some 40 := by kernel_rfl
@[go_sem] theorem plc_98 : plc Tryd.prog 98 = some [(0, 1), (1, 1), (2, 1), (3, 1)] := by kernel_rfl
@[go_sem] theorem isInt_98 : isInt Tryd.prog 98 = some false := by kernel_rfl
@[go_sem] theorem isIface_98 : isIface Tryd.prog 98 = some false := by kernel_rfl
@[go_sem] theorem fld_98_0 : fld Tryd.prog 98 0 = some (0, false, 1) := by kernel_rfl
@[go_sem] theorem fld_98_1 : fld Tryd.prog 98 1 = some (1, false, 1) := by kernel_rfl
@[go_sem] theorem fld_98_2 : fld Tryd.prog 98 2 = some (2, false, 1) := by kernel_rfl
@[go_sem] theorem fld_98_3 : fld Tryd.prog 98 3 = some (3, false, 1) := by kernel_rfl
@[go_sem] theorem lay_99 : lay Tryd.prog 99 = some (true, 0) := by kernel_rfl
@[go_sem] theorem zer_99 : zer Tryd.prog 99 = some [] := by kernel_rfl
@[go_sem] theorem byt_99 : byt Tryd.prog 99 = some 0 := by kernel_rfl
@[go_sem] theorem isInt_99 : isInt Tryd.prog 99 = some false := by kernel_rfl
@[go_sem] theorem isIface_99 : isIface Tryd.prog 99 = some false := by kernel_rfl
@[go_sem] theorem lay_100 : lay Tryd.prog 100 = some (true, 0) := by kernel_rfl
@[go_sem] theorem zer_100 : zer Tryd.prog 100 = some [] := by kernel_rfl
@[go_sem] theorem byt_100 : byt Tryd.prog 100 = some 0 := by kernel_rfl
@[go_sem] theorem plc_100 : plc Tryd.prog 100 = some [(0, 0)] := by kernel_rfl
@[go_sem] theorem isInt_100 : isInt Tryd.prog 100 = some false := by kernel_rfl
@[go_sem] theorem isIface_100 : isIface Tryd.prog 100 = some false := by kernel_rfl
@[go_sem] theorem fld_100_0 : fld Tryd.prog 100 0 = some (0, true, 0) := by kernel_rfl
@[go_sem] theorem lay_101 : lay Tryd.prog 101 = some (true, 0) := by kernel_rfl
@[go_sem] theorem zer_101 : zer Tryd.prog 101 = some [] := by kernel_rfl
@[go_sem] theorem byt_101 : byt Tryd.prog 101 = some 0 := by kernel_rfl
@[go_sem] theorem plc_101 : plc Tryd.prog 101 = some [(0, 0)] := by kernel_rfl
@[go_sem] theorem isInt_101 : isInt Tryd.prog 101 = some false := by kernel_rfl
@[go_sem] theorem isIface_101 : isIface Tryd.prog 101 = some false := by kernel_rfl
@[go_sem] theorem fld_101_0 : fld Tryd.prog 101 0 = some (0, true, 0) := by kernel_rfl
@[go_sem] theorem lay_102 : lay Tryd.prog 102 = some (false, 1) := by kernel_rfl
@[go_sem] theorem zer_102 : zer Tryd.prog 102 = some [Value.nilFunc] := by kernel_rfl
@[go_sem] theorem byt_102 : byt Tryd.prog 102 = some 8 := by kernel_rfl
@[go_sem] theorem isInt_102 : isInt Tryd.prog 102 = some false := by kernel_rfl
@[go_sem] theorem isIface_102 : isIface Tryd.prog 102 = some false := by kernel_rfl
@[go_sem] theorem lay_103 : lay Tryd.prog 103 = some (false, 1) := by kernel_rfl
@[go_sem] theorem zer_103 : zer Tryd.prog 103 = some [Value.int IntKind.u32 (0)] := by kernel_rfl
@[go_sem] theorem byt_103 : byt Tryd.prog 103 = some 4 := by kernel_rfl
@[go_sem] theorem isInt_103 : isInt Tryd.prog 103 = some true := by kernel_rfl
@[go_sem] theorem isIface_103 : isIface Tryd.prog 103 = some false := by kernel_rfl
@[go_sem] theorem intK_103 : intK Tryd.prog 103 = some IntKind.u32 := by kernel_rfl
@[go_sem] theorem lay_104 : lay Tryd.prog 104 = some (false, 1) := by kernel_rfl
@[go_sem] theorem zer_104 : zer Tryd.prog 104 = some [Value.int IntKind.u8 (0)] := by kernel_rfl
@[go_sem] theorem byt_104 : byt Tryd.prog 104 = some 1 := by kernel_rfl
@[go_sem] theorem isInt_104 : isInt Tryd.prog 104 = some true := by kernel_rfl
@[go_sem] theorem isIface_104 : isIface Tryd.prog 104 = some false := by kernel_rfl
@[go_sem] theorem intK_104 : intK Tryd.prog 104 = some IntKind.u8 := by kernel_rfl
@[go_sem] theorem lay_105 : lay Tryd.prog 105 = some (false, 1) := by kernel_rfl
@[go_sem] theorem zer_105 : zer Tryd.prog 105 = some [Value.int IntKind.u8 (0)] := by kernel_rfl
@[go_sem] theorem byt_105 : byt Tryd.prog 105 = some 1 := by kernel_rfl
@[go_sem] theorem isInt_105 : isInt Tryd.prog 105 = some true := by kernel_rfl
@[go_sem] theorem isIface_105 : isIface Tryd.prog 105 = some false := by kernel_rfl
@[go_sem] theorem intK_105 : intK Tryd.prog 105 = some IntKind.u8 := by kernel_rfl
@[go_sem] theorem lay_106 : lay Tryd.prog 106 = some (false, 1) := by kernel_rfl
@[go_sem] theorem zer_106 : zer Tryd.prog 106 = some [Value.nilFunc] := by kernel_rfl
@[go_sem] theorem byt_106 : byt Tryd.prog 106 = some 8 := by kernel_rfl
@[go_sem] theorem isInt_106 : isInt Tryd.prog 106 = some false := by kernel_rfl
@[go_sem] theorem isIface_106 : isIface Tryd.prog 106 = some false := by kernel_rfl
@[go_sem] theorem lay_107 : lay Tryd.prog 107 = some (false, 1) := by kernel_rfl
@[go_sem] theorem zer_107 : zer Tryd.prog 107 = some [Value.pointer none] := by kernel_rfl
@[go_sem] theorem byt_107 : byt Tryd.prog 107 = some 8 := by kernel_rfl
@[go_sem] theorem isInt_107 : isInt Tryd.prog 107 = some false := by kernel_rfl
@[go_sem] theorem isIface_107 : isIface Tryd.prog 107 = some false := by kernel_rfl
@[go_sem] theorem lay_108 : lay Tryd.prog 108 = some (false, 1) := by kernel_rfl
@[go_sem] theorem zer_108 : zer Tryd.prog 108 = some [Value.int IntKind.i32 (0)] := by kernel_rfl
@[go_sem] theorem byt_108 : byt Tryd.prog 108 = some 4 := by kernel_rfl
@[go_sem] theorem isInt_108 : isInt Tryd.prog 108 = some true := by kernel_rfl
@[go_sem] theorem isIface_108 : isIface Tryd.prog 108 = some false := by kernel_rfl
@[go_sem] theorem intK_108 : intK Tryd.prog 108 = some IntKind.i32 := by kernel_rfl
@[go_sem] theorem lay_109 : lay Tryd.prog 109 = some (false, 1) := by kernel_rfl
@[go_sem] theorem zer_109 : zer Tryd.prog 109 = some [Value.int IntKind.i32 (0)] := by kernel_rfl
@[go_sem] theorem byt_109 : byt Tryd.prog 109 = some 4 := by kernel_rfl
@[go_sem] theorem isInt_109 : isInt Tryd.prog 109 = some true := by kernel_rfl
@[go_sem] theorem isIface_109 : isIface Tryd.prog 109 = some false := by kernel_rfl
@[go_sem] theorem intK_109 : intK Tryd.prog 109 = some IntKind.i32 := by kernel_rfl
@[go_sem] theorem lay_110 : lay Tryd.prog 110 = some (true, 11) := by kernel_rfl
@[go_sem] theorem zer_110 : zer Tryd.prog 110 = some [Value.int IntKind.u64 (0), Value.int IntKind.u64 (0), Value.int IntKind.u32 (0), Value.int IntKind.u8 (0), Value.int IntKind.u8 (0), Value.int IntKind.u8 (0), Value.int IntKind.u8 (0), Value.nilFunc, Value.pointer none, Value.int IntKind.i32 (0), Value.int IntKind.i32 (0)] := by kernel_rfl
@[go_sem] theorem byt_110 : byt Tryd.prog 110 = some 48 := by kernel_rfl
@[go_sem] theorem plc_110 : plc Tryd.prog 110 = some [(0, 1), (1, 1), (2, 1), (3, 1), (4, 1), (5, 1), (6, 1), (7, 1), (8, 1), (9, 1), (10, 1)] := by kernel_rfl
@[go_sem] theorem isInt_110 : isInt Tryd.prog 110 = some false := by kernel_rfl
@[go_sem] theorem isIface_110 : isIface Tryd.prog 110 = some false := by kernel_rfl
@[go_sem] theorem fld_110_0 : fld Tryd.prog 110 0 = some (0, false, 1) := by kernel_rfl
@[go_sem] theorem fld_110_1 : fld Tryd.prog 110 1 = some (1, false, 1) := by kernel_rfl
@[go_sem] theorem fld_110_2 : fld Tryd.prog 110 2 = some (2, false, 1) := by kernel_rfl
@[go_sem] theorem fld_110_3 : fld Tryd.prog 110 3 = some (3, false, 1) := by kernel_rfl
@[go_sem] theorem fld_110_4 : fld Tryd.prog 110 4 = some (4, false, 1) := by kernel_rfl
@[go_sem] theorem fld_110_5 : fld Tryd.prog 110 5 = some (5, false, 1) := by kernel_rfl
@[go_sem] theorem fld_110_6 : fld Tryd.prog 110 6 = some (6, false, 1) := by kernel_rfl
@[go_sem] theorem fld_110_7 : fld Tryd.prog 110 7 = some (7, false, 1) := by kernel_rfl
@[go_sem] theorem fld_110_8 : fld Tryd.prog 110 8 = some (8, false, 1) := by kernel_rfl
@[go_sem] theorem fld_110_9 : fld Tryd.prog 110 9 = some (9, false, 1) := by kernel_rfl
@[go_sem] theorem fld_110_10 : fld Tryd.prog 110 10 = some (10, false, 1) := by kernel_rfl
@[go_sem] theorem lay_111 : lay Tryd.prog 111 = some (true, 11) := by kernel_rfl
@[go_sem] theorem zer_111 : zer Tryd.prog 111 = some [Value.int IntKind.u64 (0), Value.int IntKind.u64 (0), Value.int IntKind.u32 (0), Value.int IntKind.u8 (0), Value.int IntKind.u8 (0), Value.int IntKind.u8 (0), Value.int IntKind.u8 (0), Value.nilFunc, Value.pointer none, Value.int IntKind.i32 (0), Value.int IntKind.i32 (0)] := by kernel_rfl
@[go_sem] theorem byt_111 : byt Tryd.prog 111 = some 48 := by kernel_rfl
@[go_sem] theorem plc_111 : plc Tryd.prog 111 = some [(0, 1), (1, 1), (2, 1), (3, 1), (4, 1), (5, 1), (6, 1), (7, 1), (8, 1), (9, 1), (10, 1)] := by kernel_rfl
@[go_sem] theorem isInt_111 : isInt Tryd.prog 111 = some false := by kernel_rfl
@[go_sem] theorem isIface_111 : isIface Tryd.prog 111 = some false := by kernel_rfl
@[go_sem] theorem fld_111_0 : fld Tryd.prog 111 0 = some (0, false, 1) := by kernel_rfl
@[go_sem] theorem fld_111_1 : fld Tryd.prog 111 1 = some (1, false, 1) := by kernel_rfl
@[go_sem] theorem fld_111_2 : fld Tryd.prog 111 2 = some (2, false, 1) := by kernel_rfl
@[go_sem] theorem fld_111_3 : fld Tryd.prog 111 3 = some (3, false, 1) := by kernel_rfl
@[go_sem] theorem fld_111_4 : fld Tryd.prog 111 4 = some (4, false, 1) := by kernel_rfl
@[go_sem] theorem fld_111_5 : fld Tryd.prog 111 5 = some (5, false, 1) := by kernel_rfl
@[go_sem] theorem fld_111_6 : fld Tryd.prog 111 6 = some (6, false, 1) := by kernel_rfl
@[go_sem] theorem fld_111_7 : fld Tryd.prog 111 7 = some (7, false, 1) := by kernel_rfl
@[go_sem] theorem fld_111_8 : fld Tryd.prog 111 8 = some (8, false, 1) := by kernel_rfl
@[go_sem] theorem fld_111_9 : fld Tryd.prog 111 9 = some (9, false, 1) := by kernel_rfl
@[go_sem] theorem fld_111_10 : fld Tryd.prog 111 10 = some (10, false, 1) := by kernel_rfl
@[go_sem] theorem lay_112 : lay Tryd.prog 112 = some (false, 1) := by kernel_rfl
@[go_sem] theorem zer_112 : zer Tryd.prog 112 = some [Value.nilFunc] := by kernel_rfl
@[go_sem] theorem byt_112 : byt Tryd.prog 112 = some 8 := by kernel_rfl
@[go_sem] theorem isInt_112 : isInt Tryd.prog 112 = some false := by kernel_rfl
@[go_sem] theorem isIface_112 : isIface Tryd.prog 112 = some false := by kernel_rfl
@[go_sem] theorem lay_113 : lay Tryd.prog 113 = some (false, 1) := by kernel_rfl
@[go_sem] theorem zer_113 : zer Tryd.prog 113 = some [Value.pointer none] := by kernel_rfl
@[go_sem] theorem byt_113 : byt Tryd.prog 113 = some 8 := by kernel_rfl
@[go_sem] theorem isInt_113 : isInt Tryd.prog 113 = some false := by kernel_rfl
@[go_sem] theorem isIface_113 : isIface Tryd.prog 113 = some false := by kernel_rfl
@[go_sem] theorem isInt_114 : isInt Tryd.prog 114 = none := by kernel_rfl
@[go_sem] theorem isIface_114 : isIface Tryd.prog 114 = none := by kernel_rfl
@[go_sem] theorem isInt_115 : isInt Tryd.prog 115 = none := by kernel_rfl
@[go_sem] theorem isIface_115 : isIface Tryd.prog 115 = none := by kernel_rfl
@[go_sem] theorem isInt_116 : isInt Tryd.prog 116 = none := by kernel_rfl
@[go_sem] theorem isIface_116 : isIface Tryd.prog 116 = none := by kernel_rfl
@[go_sem] theorem isInt_117 : isInt Tryd.prog 117 = none := by kernel_rfl
@[go_sem] theorem isIface_117 : isIface Tryd.prog 117 = none := by kernel_rfl
@[go_sem] theorem isInt_118 : isInt Tryd.prog 118 = none := by kernel_rfl
@[go_sem] theorem isIface_118 : isIface Tryd.prog 118 = none := by kernel_rfl
@[go_sem] theorem isInt_119 : isInt Tryd.prog 119 = none := by kernel_rfl
@[go_sem] theorem isIface_119 : isIface Tryd.prog 119 = none := by kernel_rfl
@[go_sem] theorem isInt_120 : isInt Tryd.prog 120 = none := by kernel_rfl
@[go_sem] theorem isIface_120 : isIface Tryd.prog 120 = none := by kernel_rfl
@[go_sem] theorem isInt_121 : isInt Tryd.prog 121 = none := by kernel_rfl
@[go_sem] theorem isIface_121 : isIface Tryd.prog 121 = none := by kernel_rfl
@[go_sem] theorem isInt_122 : isInt Tryd.prog 122 = none := by kernel_rfl
@[go_sem] theorem isIface_122 : isIface Tryd.prog 122 = none := by kernel_rfl
@[go_sem] theorem isInt_123 : isInt Tryd.prog 123 = none := by kernel_rfl
@[go_sem] theorem isIface_123 : isIface Tryd.prog 123 = none := by kernel_rfl
@[go_sem] theorem isInt_124 : isInt Tryd.prog 124 = none := by kernel_rfl
@[go_sem] theorem isIface_124 : isIface Tryd.prog 124 = none := by kernel_rfl
@[go_sem] theorem isInt_125 : isInt Tryd.prog 125 = none := by kernel_rfl
@[go_sem] theorem isIface_125 : isIface Tryd.prog 125 = none := by kernel_rfl
@[go_sem] theorem isInt_126 : isInt Tryd.prog 126 = none := by kernel_rfl
@[go_sem] theorem isIface_126 : isIface Tryd.prog 126 = none := by kernel_rfl
@[go_sem] theorem isInt_127 : isInt Tryd.prog 127 = none := by kernel_rfl
@[go_sem] theorem isIface_127 : isIface Tryd.prog 127 = none := by kernel_rfl
@[go_sem] theorem isInt_128 : isInt Tryd.prog 128 = none := by kernel_rfl
@[go_sem] theorem isIface_128 : isIface Tryd.prog 128 = none := by kernel_rfl
@[go_sem] theorem isInt_129 : isInt Tryd.prog 129 = none := by kernel_rfl
@[go_sem] theorem isIface_129 : isIface Tryd.prog 129 = none := by kernel_rfl
@[go_sem] theorem isInt_130 : isInt Tryd.prog 130 = none := by kernel_rfl
@[go_sem] theorem isIface_130 : isIface Tryd.prog 130 = none := by kernel_rfl
@[go_sem] theorem isInt_131 : isInt Tryd.prog 131 = none := by kernel_rfl
@[go_sem] theorem isIface_131 : isIface Tryd.prog 131 = none := by kernel_rfl
@[go_sem] theorem isInt_132 : isInt Tryd.prog 132 = none := by kernel_rfl
@[go_sem] theorem isIface_132 : isIface Tryd.prog 132 = none := by kernel_rfl
@[go_sem] theorem isInt_133 : isInt Tryd.prog 133 = none := by kernel_rfl
@[go_sem] theorem isIface_133 : isIface Tryd.prog 133 = none := by kernel_rfl
@[go_sem] theorem isInt_134 : isInt Tryd.prog 134 = none := by kernel_rfl
@[go_sem] theorem isIface_134 : isIface Tryd.prog 134 = none := by kernel_rfl
@[go_sem] theorem isInt_135 : isInt Tryd.prog 135 = none := by kernel_rfl
@[go_sem] theorem isIface_135 : isIface Tryd.prog 135 = none := by kernel_rfl
@[go_sem] theorem isInt_136 : isInt Tryd.prog 136 = none := by kernel_rfl
@[go_sem] theorem isIface_136 : isIface Tryd.prog 136 = none := by kernel_rfl
@[go_sem] theorem isInt_137 : isInt Tryd.prog 137 = none := by kernel_rfl
@[go_sem] theorem isIface_137 : isIface Tryd.prog 137 = none := by kernel_rfl
@[go_sem] theorem isInt_138 : isInt Tryd.prog 138 = none := by kernel_rfl
@[go_sem] theorem isIface_138 : isIface Tryd.prog 138 = none := by kernel_rfl
@[go_sem] theorem isInt_139 : isInt Tryd.prog 139 = none := by kernel_rfl
@[go_sem] theorem isIface_139 : isIface Tryd.prog 139 = none := by kernel_rfl
@[go_sem] theorem isInt_140 : isInt Tryd.prog 140 = none := by kernel_rfl
@[go_sem] theorem isIface_140 : isIface Tryd.prog 140 = none := by kernel_rfl
@[go_sem] theorem isInt_141 : isInt Tryd.prog 141 = none := by kernel_rfl
@[go_sem] theorem isIface_141 : isIface Tryd.prog 141 = none := by kernel_rfl
@[go_sem] theorem isInt_142 : isInt Tryd.prog 142 = none := by kernel_rfl
@[go_sem] theorem isIface_142 : isIface Tryd.prog 142 = none := by kernel_rfl
@[go_sem] theorem isInt_143 : isInt Tryd.prog 143 = none := by kernel_rfl
@[go_sem] theorem isIface_143 : isIface Tryd.prog 143 = none := by kernel_rfl
@[go_sem] theorem isInt_144 : isInt Tryd.prog 144 = none := by kernel_rfl
@[go_sem] theorem isIface_144 : isIface Tryd.prog 144 = none := by kernel_rfl
@[go_sem] theorem isInt_145 : isInt Tryd.prog 145 = none := by kernel_rfl
@[go_sem] theorem isIface_145 : isIface Tryd.prog 145 = none := by kernel_rfl
@[go_sem] theorem isInt_146 : isInt Tryd.prog 146 = none := by kernel_rfl
@[go_sem] theorem isIface_146 : isIface Tryd.prog 146 = none := by kernel_rfl
@[go_sem] theorem isInt_147 : isInt Tryd.prog 147 = none := by kernel_rfl
@[go_sem] theorem isIface_147 : isIface Tryd.prog 147 = none := by kernel_rfl
@[go_sem] theorem isInt_148 : isInt Tryd.prog 148 = none := by kernel_rfl
@[go_sem] theorem isIface_148 : isIface Tryd.prog 148 = none := by kernel_rfl
@[go_sem] theorem isInt_149 : isInt Tryd.prog 149 = none := by kernel_rfl
@[go_sem] theorem isIface_149 : isIface Tryd.prog 149 = none := by kernel_rfl
@[go_sem] theorem isInt_150 : isInt Tryd.prog 150 = none := by kernel_rfl
@[go_sem] theorem isIface_150 : isIface Tryd.prog 150 = none := by kernel_rfl
@[go_sem] theorem isInt_151 : isInt Tryd.prog 151 = none := by kernel_rfl
@[go_sem] theorem isIface_151 : isIface Tryd.prog 151 = none := by kernel_rfl
@[go_sem] theorem isInt_152 : isInt Tryd.prog 152 = none := by kernel_rfl
@[go_sem] theorem isIface_152 : isIface Tryd.prog 152 = none := by kernel_rfl
@[go_sem] theorem isInt_153 : isInt Tryd.prog 153 = none := by kernel_rfl
@[go_sem] theorem isIface_153 : isIface Tryd.prog 153 = none := by kernel_rfl
@[go_sem] theorem isInt_154 : isInt Tryd.prog 154 = none := by kernel_rfl
@[go_sem] theorem isIface_154 : isIface Tryd.prog 154 = none := by kernel_rfl
@[go_sem] theorem isInt_155 : isInt Tryd.prog 155 = none := by kernel_rfl
@[go_sem] theorem isIface_155 : isIface Tryd.prog 155 = none := by kernel_rfl
@[go_sem] theorem isInt_156 : isInt Tryd.prog 156 = none := by kernel_rfl
@[go_sem] theorem isIface_156 : isIface Tryd.prog 156 = none := by kernel_rfl
@[go_sem] theorem isInt_157 : isInt Tryd.prog 157 = none := by kernel_rfl
@[go_sem] theorem isIface_157 : isIface Tryd.prog 157 = none := by kernel_rfl
@[go_sem] theorem isInt_158 : isInt Tryd.prog 158 = none := by kernel_rfl
@[go_sem] theorem isIface_158 : isIface Tryd.prog 158 = none := by kernel_rfl
@[go_sem] theorem isInt_159 : isInt Tryd.prog 159 = none := by kernel_rfl
@[go_sem] theorem isIface_159 : isIface Tryd.prog 159 = none := by kernel_rfl
@[go_sem] theorem isInt_160 : isInt Tryd.prog 160 = none := by kernel_rfl
@[go_sem] theorem isIface_160 : isIface Tryd.prog 160 = none := by kernel_rfl
@[go_sem] theorem isInt_161 : isInt Tryd.prog 161 = none := by kernel_rfl
@[go_sem] theorem isIface_161 : isIface Tryd.prog 161 = none := by kernel_rfl
@[go_sem] theorem isInt_162 : isInt Tryd.prog 162 = none := by kernel_rfl
@[go_sem] theorem isIface_162 : isIface Tryd.prog 162 = none := by kernel_rfl
@[go_sem] theorem isInt_163 : isInt Tryd.prog 163 = none := by kernel_rfl
@[go_sem] theorem isIface_163 : isIface Tryd.prog 163 = none := by kernel_rfl
@[go_sem] theorem isInt_164 : isInt Tryd.prog 164 = none := by kernel_rfl
@[go_sem] theorem isIface_164 : isIface Tryd.prog 164 = none := by kernel_rfl
@[go_sem] theorem isInt_165 : isInt Tryd.prog 165 = none := by kernel_rfl
@[go_sem] theorem isIface_165 : isIface Tryd.prog 165 = none := by kernel_rfl
@[go_sem] theorem isInt_166 : isInt Tryd.prog 166 = none := by kernel_rfl
@[go_sem] theorem isIface_166 : isIface Tryd.prog 166 = none := by kernel_rfl
@[go_sem] theorem isInt_167 : isInt Tryd.prog 167 = none := by kernel_rfl
@[go_sem] theorem isIface_167 : isIface Tryd.prog 167 = none := by kernel_rfl
@[go_sem] theorem isInt_168 : isInt Tryd.prog 168 = none := by kernel_rfl
@[go_sem] theorem isIface_168 : isIface Tryd.prog 168 = none := by kernel_rfl
@[go_sem] theorem isInt_169 : isInt Tryd.prog 169 = none := by kernel_rfl
@[go_sem] theorem isIface_169 : isIface Tryd.prog 169 = none := by kernel_rfl
@[go_sem] theorem isInt_170 : isInt Tryd.prog 170 = none := by kernel_rfl
@[go_sem] theorem isIface_170 : isIface Tryd.prog 170 = none := by kernel_rfl
@[go_sem] theorem isInt_171 : isInt Tryd.prog 171 = none := by kernel_rfl
@[go_sem] theorem isIface_171 : isIface Tryd.prog 171 = none := by kernel_rfl
@[go_sem] theorem isInt_172 : isInt Tryd.prog 172 = none := by kernel_rfl
@[go_sem] theorem isIface_172 : isIface Tryd.prog 172 = none := by kernel_rfl
@[go_sem] theorem isInt_173 : isInt Tryd.prog 173 = none := by kernel_rfl
@[go_sem] theorem isIface_173 : isIface Tryd.prog 173 = none := by kernel_rfl
@[go_sem] theorem isInt_174 : isInt Tryd.prog 174 = none := by kernel_rfl
@[go_sem] theorem isIface_174 : isIface Tryd.prog 174 = none := by kernel_rfl
@[go_sem] theorem isInt_175 : isInt Tryd.prog 175 = none := by kernel_rfl
@[go_sem] theorem isIface_175 : isIface Tryd.prog 175 = none := by kernel_rfl
@[go_sem] theorem isInt_176 : isInt Tryd.prog 176 = none := by kernel_rfl
@[go_sem] theorem isIface_176 : isIface Tryd.prog 176 = none := by kernel_rfl
@[go_sem] theorem isInt_177 : isInt Tryd.prog 177 = none := by kernel_rfl
@[go_sem] theorem isIface_177 : isIface Tryd.prog 177 = none := by kernel_rfl
@[go_sem] theorem isInt_178 : isInt Tryd.prog 178 = none := by kernel_rfl
@[go_sem] theorem isIface_178 : isIface Tryd.prog 178 = none := by kernel_rfl
@[go_sem] theorem isInt_179 : isInt Tryd.prog 179 = none := by kernel_rfl
@[go_sem] theorem isIface_179 : isIface Tryd.prog 179 = none := by kernel_rfl
@[go_sem] theorem isInt_180 : isInt Tryd.prog 180 = none := by kernel_rfl
@[go_sem] theorem isIface_180 : isIface Tryd.prog 180 = none := by kernel_rfl
@[go_sem] theorem isInt_181 : isInt Tryd.prog 181 = none := by kernel_rfl
@[go_sem] theorem isIface_181 : isIface Tryd.prog 181 = none := by kernel_rfl
@[go_sem] theorem isInt_182 : isInt Tryd.prog 182 = none := by kernel_rfl
@[go_sem] theorem isIface_182 : isIface Tryd.prog 182 = none := by kernel_rfl
@[go_sem] theorem isInt_183 : isInt Tryd.prog 183 = none := by kernel_rfl
@[go_sem] theorem isIface_183 : isIface Tryd.prog 183 = none := by kernel_rfl
@[go_sem] theorem isInt_184 : isInt Tryd.prog 184 = none := by kernel_rfl
@[go_sem] theorem isIface_184 : isIface Tryd.prog 184 = none := by kernel_rfl
@[go_sem] theorem isInt_185 : isInt Tryd.prog 185 = none := by kernel_rfl
@[go_sem] theorem isIface_185 : isIface Tryd.prog 185 = none := by kernel_rfl
@[go_sem] theorem isInt_186 : isInt Tryd.prog 186 = none := by kernel_rfl
@[go_sem] theorem isIface_186 : isIface Tryd.prog 186 = none := by kernel_rfl
@[go_sem] theorem isInt_187 : isInt Tryd.prog 187 = none := by kernel_rfl
@[go_sem] theorem isIface_187 : isIface Tryd.prog 187 = none := by kernel_rfl
@[go_sem] theorem isInt_188 : isInt Tryd.prog 188 = none := by kernel_rfl
@[go_sem] theorem isIface_188 : isIface Tryd.prog 188 = none := by kernel_rfl
@[go_sem] theorem isInt_189 : isInt Tryd.prog 189 = none := by kernel_rfl
@[go_sem] theorem isIface_189 : isIface Tryd.prog 189 = none := by kernel_rfl
@[go_sem] theorem cv_21_3 {w0 : World} (k0 : IntKind) (x : Int) (H : Hp) {K : Value → Hp → Prop} (k : Lk K) : cvV Tryd.prog w0 21 3 (.int k0 x) H k = K (.int IntKind.i64 (IntKind.i64.wrap x)) H := cvV_int intK_21 intK_3 k0 x H k
@[go_sem] theorem cv_5_21 {w0 : World} (k0 : IntKind) (x : Int) (H : Hp) {K : Value → Hp → Prop} (k : Lk K) : cvV Tryd.prog w0 5 21 (.int k0 x) H k = K (.int IntKind.i32 (IntKind.i32.wrap x)) H := cvV_int intK_5 intK_21 k0 x H k
@[go_sem] theorem cv_5_3 {w0 : World} (k0 : IntKind) (x : Int) (H : Hp) {K : Value → Hp → Prop} (k : Lk K) : cvV Tryd.prog w0 5 3 (.int k0 x) H k = K (.int IntKind.i64 (IntKind.i64.wrap x)) H := cvV_int intK_5 intK_3 k0 x H k
@[go_sem] theorem cv_9_22 {w0 : World} (x : ByteArray) (B : Hp) (l : List (Option Ob)) {K : Value → Hp → Prop} (k : Lk K) : cvV Tryd.prog w0 9 22 (.string x) (Hx B l) k = K (.slice (some ⟨nid B l.length, 0, some x.size⟩) x.size x.size) (Hx B (l ++ [some (.row 5 (bytesV x))])) := cvV_bytes isStr_9 isBy_22 elm_22 x B l k
end Go.Proofs.YtcmflpdgfddmeaaDoorW.XF

namespace Go.Proofs.YtcmflpdgfddmeaaDoorW.XM
open Go.RowKit
theorem bt_lt (s : ByteArray) (i : Nat) : 0 ≤ bt s i ∧ bt s i ≤ 255 := by
  unfold bt
  have := (s.data.getD i 0).toNat_lt
  omega
@[go_sem] theorem wrap_bt (s : ByteArray) (i : Nat) : IntKind.i64.wrap (bt s i) = bt s i := wrap_i64 (by have := bt_lt s i; omega) (by have := bt_lt s i; omega)
@[go_sem] theorem wrap32_bt (s : ByteArray) (i : Nat) : IntKind.i32.wrap (bt s i) = bt s i := IntWalk.i32_in _ (by have := bt_lt s i; omega)
def allD (p : Int → Bool) (s : ByteArray) (i : Nat) : Bool := (s.data.toList.drop i).all fun b => p (b.toNat : Int)
def allB (p : Int → Bool) (s : ByteArray) : Bool := allD p s 0
theorem allD_step (p : Int → Bool) (s : ByteArray) {i : Nat} (h : i < s.size) : allD p s i = (p (bt s i) && allD p s (i + 1)) := by
  have hl : i < s.data.toList.length := by simpa using h
  have e : s.data.getD i 0 = s.data.toList[i] := by
    have : i < s.data.size := h
    unfold Array.getD
    rw [dif_pos this]
    simp
  unfold allD bt
  rw [List.drop_eq_getElem_cons hl, List.all_cons, e]
theorem allD_end (p : Int → Bool) (s : ByteArray) : allD p s s.size = true := by
  unfold allD
  rw [List.drop_of_length_le (by simp)]
  rfl
theorem bytesV_get (s : ByteArray) {i : Nat} (h : i < s.size) : (bytesV s)[i]? = some (.int .u8 (bt s i)) := by
  have hl : i < s.data.toList.length := by simpa using h
  have e : s.data.getD i 0 = s.data.toList[i] := by
    have : i < s.data.size := h
    unfold Array.getD
    rw [dif_pos this]
    simp
  unfold bytesV bt
  rw [List.getElem?_map, List.getElem?_eq_getElem hl, e]
  rfl
/-- A byte out of an object that holds a text's bytes. -/
theorem rd_byte (w0 : World) (B : Hp) (l : List (Option Ob)) (k t : Nat) (s : ByteArray) {i : Nat} (h : i < s.size) (hl : l[k]? = some (some (.row t (bytesV s)))) : rd w0 (Hx B l) ⟨nid B k, 0 + i * 1, some s.size⟩ 1 = some [.int .u8 (bt s i)] := by
  rw [rd_own, hl, rdO_row, if_pos ⟨bytesV_len s, by rw [bytesV_len]; omega⟩]
  congr 1
  have hlt : 0 + i * 1 < (bytesV s).length := by rw [bytesV_len]; omega
  rw [List.drop_eq_getElem_cons hlt]
  simp only [List.take_succ_cons, List.take_zero]
  have := bytesV_get s h
  have e : (bytesV s)[0 + i * 1]? = some (.int .u8 (bt s i)) := by rw [show 0 + i * 1 = i by omega]; exact this
  rw [List.getElem?_eq_getElem hlt] at e
  rw [Option.some.inj e]
theorem rdO_byte (t : TypeId) (s : ByteArray) {i : Nat} (h : i < s.size) : rdO (some (some (.row t (bytesV s)))) (i * 1) s.size 1 = some [.int .u8 (bt s i)] := by
  have := rd_byte default [] [some (.row t (bytesV s))] 0 t s h rfl
  rw [rd_own, Nat.zero_add] at this
  exact this
theorem lt_meas {m i : Nat} (h : i < m) : m - (i + 1) < m - i := Nat.sub_lt_sub_left h (Nat.lt_succ_self i)
theorem int_succ {i m : Nat} (h : i < m) (hm : m ≤ 1000000000000) : Value.int .i64 (IntKind.i64.wrap ((i : Int) + 1)) = .int .i64 ((i + 1 : Nat) : Int) := congrArg (Value.int .i64) (wrap_i64 (by omega) (by omega))
end Go.Proofs.YtcmflpdgfddmeaaDoorW.XM

namespace Go.Proofs.YtcmflpdgfddmeaaDoorW.FA
open Go.RowKit Go.Proofs.YtcmflpdgfddmeaaDoorW.XM Go.Proofs
set_option maxRecDepth 100000
set_option linter.unusedSimpArgs false
variable (w0 : World) (H : Hp)
def inB (a b c : Int) : Bool := decide (b ≤ a) && decide (a ≤ c)
theorem within_ok (a b c : Int) : AFn Tryd.prog w0 41 #[.int .i64 a, .int .i64 b, .int .i64 c] H fun v H2 => v = .bool (inB a b c) ∧ H2 = H := by
  refine AFn.scal rfl Tryd.func41 rfl (by kernel_rfl) ?_
  have r := Tryd.results41
  simp only [go_sem, cond, Nat.reduceAdd, Nat.reduceLeDiff, Nat.reduceEqDiff, Nat.reduceBEq, decide_true, decide_false, Int.toNat_natCast, r]
  refine Br_intro ?_ ?_ <;> intro h <;> simp only [go_sem, cond, Nat.reduceAdd, Nat.reduceLeDiff, Nat.reduceEqDiff, Nat.reduceBEq, decide_true, decide_false, Int.toNat_natCast, h, r] <;> exact ⟨by rw [inB, h]; rfl, _, rfl⟩
theorem l1In_ok (a b c : Int) : AFn Tryd.prog w0 55 #[.int .i64 a, .int .i64 b, .int .i64 c] H fun v H2 => v = .bool (inB a b c) ∧ H2 = H := by
  refine AFn.scal rfl Tryd.func55 rfl (by kernel_rfl) ?_
  have r := Tryd.results55
  simp only [go_sem, cond, Nat.reduceAdd, Nat.reduceLeDiff, Nat.reduceEqDiff, Nat.reduceBEq, decide_true, decide_false, Int.toNat_natCast, r]
  refine Br_intro ?_ ?_ <;> intro h <;> simp only [go_sem, cond, Nat.reduceAdd, Nat.reduceLeDiff, Nat.reduceEqDiff, Nat.reduceBEq, decide_true, decide_false, Int.toNat_natCast, h, r] <;> exact ⟨by rw [inB, h]; rfl, _, rfl⟩
def smB (b : Int) : Bool := (decide (97 ≤ b) && decide (b ≤ 122)) || (decide (48 ≤ b) && decide (b ≤ 57))
theorem small_ok (b : Int) : AFn Tryd.prog w0 51 #[.int .u8 b] H fun v H2 => v = .bool (smB b) ∧ H2 = H := by
  refine AFn.scal rfl Tryd.func51 rfl (by kernel_rfl) ?_
  have r := Tryd.results51
  simp only [go_sem, cond, Nat.reduceAdd, Nat.reduceLeDiff, Nat.reduceEqDiff, Nat.reduceBEq, decide_true, decide_false, Int.toNat_natCast, r]
  repeat' (refine Br_intro ?_ ?_ <;> intro h <;> simp only [go_sem, cond, Nat.reduceAdd, Nat.reduceLeDiff, Nat.reduceEqDiff, Nat.reduceBEq, decide_true, decide_false, Int.toNat_natCast, h, r])
  all_goals exact ⟨by first | (simp_all [smB]; done) | (simp_all [smB]; omega), _, rfl⟩
theorem l1Figure_ok (b : Int) : AFn Tryd.prog w0 73 #[.int .u8 b] H fun v H2 => v = .bool (inB b 48 57) ∧ H2 = H := by
  refine AFn.scal rfl Tryd.func73 rfl (by kernel_rfl) ?_
  have r := Tryd.results73
  simp only [go_sem, cond, Nat.reduceAdd, Nat.reduceLeDiff, Nat.reduceEqDiff, Nat.reduceBEq, decide_true, decide_false, Int.toNat_natCast, r]
  refine Br_intro ?_ ?_ <;> intro h <;> simp only [go_sem, cond, Nat.reduceAdd, Nat.reduceLeDiff, Nat.reduceEqDiff, Nat.reduceBEq, decide_true, decide_false, Int.toNat_natCast, h, r] <;> exact ⟨by rw [inB, h]; rfl, _, rfl⟩
theorem l4Small_ok (b : Int) : AFn Tryd.prog w0 68 #[.int .u8 b] H fun v H2 => v = .bool (smB b) ∧ H2 = H := by
  refine AFn.scal rfl Tryd.func68 rfl (by kernel_rfl) ?_
  have r := Tryd.results68
  simp only [go_sem, cond, Nat.reduceAdd, Nat.reduceLeDiff, Nat.reduceEqDiff, Nat.reduceBEq, decide_true, decide_false, Int.toNat_natCast, r]
  repeat' (first | (refine Br_intro ?_ ?_ <;> intro h <;> simp only [go_sem, cond, Nat.reduceAdd, Nat.reduceLeDiff, Nat.reduceEqDiff, Nat.reduceBEq, decide_true, decide_false, Int.toNat_natCast, h, r]) | (refine call_eq (l1Figure_ok _ _ _) ?_; simp only [go_sem, cond, Nat.reduceAdd, Nat.reduceLeDiff, Nat.reduceEqDiff, Nat.reduceBEq, decide_true, decide_false, Int.toNat_natCast, r]))
  all_goals exact ⟨by first | (simp_all [smB, inB]; done) | (simp_all [smB, inB]; omega), _, rfl⟩
def usB (b : Int) : Bool := smB b || (b == 45 || (b == 46 || b == 95))
def userB (s : ByteArray) : Bool := allB usB s && inB s.size 1 8
theorem l4User_ok (s : ByteArray) (hs : s.size ≤ 1000000000000) : AFn Tryd.prog w0 53 #[.string s] H fun v H2 => v = .bool (userB s) ∧ H2 = H := by
  refine AFn.scal rfl Tryd.func53 rfl (by kernel_rfl) ?_
  have r := Tryd.results53
  simp only [go_sem, cond, Nat.reduceAdd, Nat.reduceLeDiff, Nat.reduceEqDiff, Nat.reduceBEq, decide_true, decide_false, Int.toNat_natCast, r]
  refine xw_loop (fun (i : Nat) T H' => i ≤ s.size ∧ allD usB s i = allB usB s ∧ T 0 = .string s ∧ T 3 = .int .i64 i ∧ H' = Hx H []) (fun i => s.size - i) 0 (by kernel_rfl) ⟨Nat.zero_le _, rfl, rfl, rfl, rfl⟩ ?_
  rintro i T H' ⟨hi, he, t0, t3, rfl⟩
  by_cases hlt : i < s.size
  · have d1 : ((i : Int) < (s.size : Int)) = True := eq_true (by omega)
    have d2 : (0 ≤ (i : Int)) = True := eq_true (by omega)
    rw [allD_step usB s hlt] at he
    simp only [go_sem, cond, Nat.reduceAdd, Nat.reduceLeDiff, Nat.reduceEqDiff, Nat.reduceBEq, decide_true, decide_false, Int.toNat_natCast, t0, t3, d1, d2]
    refine call_eq (l4Small_ok _ _ _) ?_
    simp only [go_sem, cond, Nat.reduceAdd, Nat.reduceLeDiff, Nat.reduceEqDiff, Nat.reduceBEq, decide_true, decide_false, Int.toNat_natCast, t0, t3, d1, d2]
    repeat' (refine Br_intro ?_ ?_ <;> intro h <;> simp only [go_sem, cond, Nat.reduceAdd, Nat.reduceLeDiff, Nat.reduceEqDiff, Nat.reduceBEq, decide_true, decide_false, Int.toNat_natCast, h, t0, t3, d1, d2, r])
    all_goals first
      | (refine ⟨i + 1, ⟨hlt, ?_, t0, int_succ hlt hs, rfl⟩, lt_meas hlt⟩
         rw [← he, show usB (bt s i) = true by simp_all [usB], Bool.true_and])
      | exact ⟨by rw [userB, ← he, show usB (bt s i) = false by simp_all [usB], Bool.false_and, Bool.false_and], _, rfl⟩
  · obtain rfl : i = s.size := by omega
    have d1 : ((s.size : Int) < (s.size : Int)) = False := eq_false (by omega)
    rw [allD_end] at he
    simp only [go_sem, cond, Nat.reduceAdd, Nat.reduceLeDiff, Nat.reduceEqDiff, Nat.reduceBEq, decide_true, decide_false, Int.toNat_natCast, t0, t3, d1]
    refine call_eq (l1In_ok _ _ _ _ _) ?_
    simp only [go_sem, cond, Nat.reduceAdd, Nat.reduceLeDiff, Nat.reduceEqDiff, Nat.reduceBEq, decide_true, decide_false, Int.toNat_natCast, r]
    exact ⟨by rw [userB, ← he]; rfl, _, rfl⟩
end Go.Proofs.YtcmflpdgfddmeaaDoorW.FA

namespace Go.Proofs.YtcmflpdgfddmeaaDoorW.FA
open Go.RowKit Go.Proofs.YtcmflpdgfddmeaaDoorW.XM Go.Proofs
set_option maxRecDepth 100000
set_option linter.unusedSimpArgs false
variable (w0 : World) (H : Hp)
theorem userOk_ok (s : ByteArray) (hs : s.size ≤ 1000000000000) : AFn Tryd.prog w0 35 #[.string s] H fun v H2 => v = .bool (userB s) ∧ H2 = H := by
  refine AFn.scal rfl Tryd.func35 rfl (by kernel_rfl) ?_
  have r := Tryd.results35
  simp only [go_sem, cond, Nat.reduceAdd, Nat.reduceLeDiff, Nat.reduceEqDiff, Nat.reduceBEq, decide_true, decide_false, Int.toNat_natCast, r]
  refine xw_loop (fun (i : Nat) T H' => i ≤ s.size ∧ allD usB s i = allB usB s ∧ T 0 = .string s ∧ T 6 = .slice (some ⟨nid H 0, 0, some s.size⟩) s.size s.size ∧ T 7 = .int .i64 s.size ∧ T 8 = .int .i64 i ∧ H' = Hx H [some (.row 5 (bytesV s))]) (fun i => s.size - i) 0 (by kernel_rfl) ⟨Nat.zero_le _, rfl, rfl, rfl, rfl, rfl, rfl⟩ ?_
  rintro i T H' ⟨hi, he, t0, t6, t7, t8, rfl⟩
  by_cases hlt : i < s.size
  · have d1 : ((i : Int) < (s.size : Int)) = True := eq_true (by omega)
    have d2 : (0 ≤ (i : Int)) = True := eq_true (by omega)
    have c0 := rdO_byte 5 s hlt
    rw [allD_step usB s hlt] at he
    simp only [go_sem, cond, Nat.reduceAdd, Nat.reduceLeDiff, Nat.reduceEqDiff, Nat.reduceBEq, decide_true, decide_false, Int.toNat_natCast, t0, t6, t7, t8, d1, d2, c0]
    refine call_eq (small_ok _ _ _) ?_
    simp only [go_sem, cond, Nat.reduceAdd, Nat.reduceLeDiff, Nat.reduceEqDiff, Nat.reduceBEq, decide_true, decide_false, Int.toNat_natCast, t0, t6, t7, t8, d1, d2]
    repeat' (refine Br_intro ?_ ?_ <;> intro h <;> simp only [go_sem, cond, Nat.reduceAdd, Nat.reduceLeDiff, Nat.reduceEqDiff, Nat.reduceBEq, decide_true, decide_false, Int.toNat_natCast, h, t0, t6, t7, t8, d1, d2, r])
    all_goals first
      | (refine ⟨i + 1, ⟨hlt, ?_, t0, t6, t7, int_succ hlt hs, rfl⟩, lt_meas hlt⟩
         rw [← he, show usB (bt s i) = true by simp_all [usB], Bool.true_and])
      | exact ⟨by rw [userB, ← he, show usB (bt s i) = false by simp_all [usB], Bool.false_and, Bool.false_and], _, rfl⟩
  · obtain rfl : i = s.size := by omega
    have d1 : ((s.size : Int) < (s.size : Int)) = False := eq_false (by omega)
    rw [allD_end] at he
    simp only [go_sem, cond, Nat.reduceAdd, Nat.reduceLeDiff, Nat.reduceEqDiff, Nat.reduceBEq, decide_true, decide_false, Int.toNat_natCast, t0, t7, t8, d1]
    refine call_eq (within_ok _ _ _ _ _) ?_
    simp only [go_sem, cond, Nat.reduceAdd, Nat.reduceLeDiff, Nat.reduceEqDiff, Nat.reduceBEq, decide_true, decide_false, Int.toNat_natCast, r]
    exact ⟨by rw [userB, ← he]; rfl, _, rfl⟩
def woB (b : Int) : Bool := inB b 33 126
def wordB (s : ByteArray) : Bool := allB woB s && inB s.size 1 12
theorem wordOk_ok (s : ByteArray) (hs : s.size ≤ 1000000000000) : AFn Tryd.prog w0 36 #[.string s] H fun v H2 => v = .bool (wordB s) ∧ H2 = H := by
  refine AFn.scal rfl Tryd.func36 rfl (by kernel_rfl) ?_
  have r := Tryd.results36
  simp only [go_sem, cond, Nat.reduceAdd, Nat.reduceLeDiff, Nat.reduceEqDiff, Nat.reduceBEq, decide_true, decide_false, Int.toNat_natCast, r]
  refine xw_loop (fun (i : Nat) T H' => i ≤ s.size ∧ allD woB s i = allB woB s ∧ T 0 = .string s ∧ T 6 = .slice (some ⟨nid H 0, 0, some s.size⟩) s.size s.size ∧ T 7 = .int .i64 s.size ∧ T 8 = .int .i64 i ∧ H' = Hx H [some (.row 5 (bytesV s))]) (fun i => s.size - i) 0 (by kernel_rfl) ⟨Nat.zero_le _, rfl, rfl, rfl, rfl, rfl, rfl⟩ ?_
  rintro i T H' ⟨hi, he, t0, t6, t7, t8, rfl⟩
  by_cases hlt : i < s.size
  · have d1 : ((i : Int) < (s.size : Int)) = True := eq_true (by omega)
    have d2 : (0 ≤ (i : Int)) = True := eq_true (by omega)
    have c0 := rdO_byte 5 s hlt
    rw [allD_step woB s hlt] at he
    simp only [go_sem, cond, Nat.reduceAdd, Nat.reduceLeDiff, Nat.reduceEqDiff, Nat.reduceBEq, decide_true, decide_false, Int.toNat_natCast, t0, t6, t7, t8, d1, d2, c0]
    refine call_eq (within_ok _ _ _ _ _) ?_
    simp only [go_sem, cond, Nat.reduceAdd, Nat.reduceLeDiff, Nat.reduceEqDiff, Nat.reduceBEq, decide_true, decide_false, Int.toNat_natCast, t0, t6, t7, t8, d1, d2]
    refine Br_intro ?_ ?_ <;> intro h <;> simp only [go_sem, cond, Nat.reduceAdd, Nat.reduceLeDiff, Nat.reduceEqDiff, Nat.reduceBEq, decide_true, decide_false, Int.toNat_natCast, h, t0, t6, t7, t8, d1, d2, r]
    · refine ⟨i + 1, ⟨hlt, ?_, t0, t6, t7, int_succ hlt hs, rfl⟩, lt_meas hlt⟩
      rw [← he, show woB (bt s i) = true from h, Bool.true_and]
    · exact ⟨by rw [wordB, ← he, show woB (bt s i) = false from h, Bool.false_and, Bool.false_and], _, rfl⟩
  · obtain rfl : i = s.size := by omega
    have d1 : ((s.size : Int) < (s.size : Int)) = False := eq_false (by omega)
    rw [allD_end] at he
    simp only [go_sem, cond, Nat.reduceAdd, Nat.reduceLeDiff, Nat.reduceEqDiff, Nat.reduceBEq, decide_true, decide_false, Int.toNat_natCast, t0, t7, t8, d1]
    refine call_eq (within_ok _ _ _ _ _) ?_
    simp only [go_sem, cond, Nat.reduceAdd, Nat.reduceLeDiff, Nat.reduceEqDiff, Nat.reduceBEq, decide_true, decide_false, Int.toNat_natCast, r]
    exact ⟨by rw [wordB, ← he]; rfl, _, rfl⟩
theorem l5Word_ok (s : ByteArray) (hs : s.size ≤ 1000000000000) : AFn Tryd.prog w0 54 #[.string s] H fun v H2 => v = .bool (wordB s) ∧ H2 = H := by
  refine AFn.scal rfl Tryd.func54 rfl (by kernel_rfl) ?_
  have r := Tryd.results54
  simp only [go_sem, cond, Nat.reduceAdd, Nat.reduceLeDiff, Nat.reduceEqDiff, Nat.reduceBEq, decide_true, decide_false, Int.toNat_natCast, r]
  refine xw_loop (fun (i : Nat) T H' => i ≤ s.size ∧ allD woB s i = allB woB s ∧ T 0 = .string s ∧ T 3 = .int .i64 i ∧ H' = Hx H []) (fun i => s.size - i) 0 (by kernel_rfl) ⟨Nat.zero_le _, rfl, rfl, rfl, rfl⟩ ?_
  rintro i T H' ⟨hi, he, t0, t3, rfl⟩
  by_cases hlt : i < s.size
  · have d1 : ((i : Int) < (s.size : Int)) = True := eq_true (by omega)
    have d2 : (0 ≤ (i : Int)) = True := eq_true (by omega)
    rw [allD_step woB s hlt] at he
    simp only [go_sem, cond, Nat.reduceAdd, Nat.reduceLeDiff, Nat.reduceEqDiff, Nat.reduceBEq, decide_true, decide_false, Int.toNat_natCast, t0, t3, d1, d2]
    repeat' (refine Br_intro ?_ ?_ <;> intro h <;> simp only [go_sem, cond, Nat.reduceAdd, Nat.reduceLeDiff, Nat.reduceEqDiff, Nat.reduceBEq, decide_true, decide_false, Int.toNat_natCast, h, t0, t3, d1, d2, r])
    all_goals first
      | (refine ⟨i + 1, ⟨hlt, ?_, t0, int_succ hlt hs, rfl⟩, lt_meas hlt⟩
         rw [← he, show woB (bt s i) = true by simp_all [woB, inB]; omega, Bool.true_and])
      | exact ⟨by rw [wordB, ← he, show woB (bt s i) = false by simp_all [woB, inB]; omega, Bool.false_and, Bool.false_and], _, rfl⟩
  · obtain rfl : i = s.size := by omega
    have d1 : ((s.size : Int) < (s.size : Int)) = False := eq_false (by omega)
    rw [allD_end] at he
    simp only [go_sem, cond, Nat.reduceAdd, Nat.reduceLeDiff, Nat.reduceEqDiff, Nat.reduceBEq, decide_true, decide_false, Int.toNat_natCast, t0, t3, d1]
    refine call_eq (l1In_ok _ _ _ _ _) ?_
    simp only [go_sem, cond, Nat.reduceAdd, Nat.reduceLeDiff, Nat.reduceEqDiff, Nat.reduceBEq, decide_true, decide_false, Int.toNat_natCast, r]
    exact ⟨by rw [wordB, ← he]; rfl, _, rfl⟩
end Go.Proofs.YtcmflpdgfddmeaaDoorW.FA

namespace Go.Proofs.YtcmflpdgfddmeaaDoorW.XM
open Go.RowKit
variable {P : Program} {w0 : World}
theorem AFn_ofCallsV {f : FuncId} {args : Array Value} {H : Hp} {v : Value} {R : Value → Hp → Prop} (hf : ∃ fn, P.funcs[f]? = some fn ∧ (fn.name == "runtime.NumGoroutine") = false ∧ fn.body.isNone = false) (hp : ∀ x ∈ args, plain x = true) (hv : ∀ H μ, VR P H μ v v)
    (hc : ∀ w, Below w0.heap.size w0 w → Calls P f args w fun e w' => e = .returned v ∧ Below w.heap.size w w') (hr : R v H) : AFn P w0 f args H R := by
  refine ⟨hf, fun μ w args' h1 h2 => ?_⟩
  have : args' = args := by
    refine Array.ext h2.1.symm fun j hj hj' => ?_
    have := h2.2 j _ _ (Array.getElem?_eq_getElem hj') (Array.getElem?_eq_getElem hj)
    exact this.eq (hp _ (Array.getElem_mem hj'))
  subst this
  refine (hc w h1.below).mono ?_
  rintro e w2 ⟨rfl, hb⟩
  refine ⟨v, v, H, μ, rfl, hr, ⟨h1.below.trans (hb.mono h1.below.size), fun i t cs hi => ?_, fun i s p hi => ?_, h1.inj⟩, hv H μ, Ext.refl _ _⟩
  · obtain ⟨a1, a2, a3, c, fz, a4, a5⟩ := h1.row i t cs hi
    exact ⟨a1, a2, a3, c, fz, (hb.block _ (h1.lt hi)).trans a4, a5⟩
  · obtain ⟨a1, a2⟩ := h1.iter i s p hi
    exact ⟨a1, (hb.block _ (h1.lt hi)).trans a2⟩
theorem plainTup {H : Hp} {μ : Mp} {vs : Array Value} (h : ∀ x ∈ vs, plain x = true) : VR P H μ (.tuple vs) (.tuple vs) :=
  .tuple rfl fun j v v' a b => by
    rw [a] at b; cases b
    exact .same (h v (Array.mem_of_getElem? a))
end Go.Proofs.YtcmflpdgfddmeaaDoorW.XM

namespace Go.Proofs.YtcmflpdgfddmeaaDoorW.XM
open Go.RowKit
section
variable {P : Program} {w0 : World}
/-- It changes nothing, and looks at no object. -/
def quiet (P : Program) : Op → Bool
  | .move _ | .assign _ | .pick .. | .nilCheck _ | .binOp .. | .unOp .. | .extract .. | .index .. | .field .. | .fieldAddr .. | .indexAddr .. | .makeFunc .. | .makeInterface .. => true
  | .convert s d _ => !isBy P s && !isBy P d
  | .slice t .. => isStr P t
  | .call { callee := .builtin .len, .. } => true
  | _ => false
def isLoad : Op → Bool
  | .load .. => true
  | .slice .. => true
  | _ => false
theorem elm_str {t : TypeId} (h : isStr P t = true) : elm P t = none := by
  unfold elm
  rw [isStr_spec h]
theorem xo_load {t : TypeId} {x : Operand} {ρ : Operand → Value} {H : Hp} {K : Value → Hp → Prop} (h : xo P w0 (.load t x) ρ H K) : ∃ v, xo P w0 (.load t x) ρ H (fun v' H' => v' = v ∧ H' = H) ∧ K v H := by
  simp only [xo] at h ⊢
  unfold xLoad at h ⊢
  split at h
  · obtain ⟨v, a, b⟩ := h; exact ⟨v, ⟨v, a, rfl, rfl⟩, b⟩
  · exact h.elim
theorem xo_slice {t : TypeId} {x : Operand} {lo hi mx : Option Operand} {ρ : Operand → Value} {H : Hp} {K : Value → Hp → Prop} (h : xo P w0 (.slice t x lo hi mx) ρ H K) : ∃ v, xo P w0 (.slice t x lo hi mx) ρ H (fun v' H' => v' = v ∧ H' = H) ∧ K v H := by
  simp only [xo] at h ⊢
  unfold xSliceA at h ⊢
  split at h
  · unfold xSliceL at h ⊢
    split at h
    · obtain ⟨e, n, a1, a2, l, h', m, b1, b2, b0, b3, b4, b5, b6, c, k⟩ := h
      exact ⟨_, ⟨e, n, a1, a2, l, h', m, b1, b2, b0, b3, b4, b5, b6, c, rfl, rfl⟩, k⟩
    · exact h.elim
  unfold xSlice at h ⊢
  split at h
  · obtain ⟨a1, a2, l, h', b1, b2, b3, b4, b5, k⟩ := h
    exact ⟨_, ⟨a1, a2, l, h', b1, b2, b3, b4, b5, rfl, rfl⟩, k⟩
  · obtain ⟨e, n, a1, a2, l, h', m, b1, b2, b0, b3, b4, b5, b6, k⟩ := h
    exact ⟨_, ⟨e, n, a1, a2, l, h', m, b1, b2, b0, b3, b4, b5, b6, rfl, rfl⟩, k⟩
  · obtain ⟨e, n, a1, a2, l, h', m, b1, b2, b0, b3, b4, b5, b6, c, k⟩ := h
    rcases k with ⟨tg, k1, k2, k3, k4⟩ | ⟨k1, k2⟩ | ⟨k1, k2⟩
    · exact ⟨_, ⟨e, n, a1, a2, l, h', m, b1, b2, b0, b3, b4, b5, b6, c, .inl ⟨tg, k1, k2, k3, rfl, rfl⟩⟩, k4⟩
    · exact ⟨_, ⟨e, n, a1, a2, l, h', m, b1, b2, b0, b3, b4, b5, b6, c, .inr (.inl ⟨k1, rfl, rfl⟩)⟩, k2⟩
    · exact ⟨_, ⟨e, n, a1, a2, l, h', m, b1, b2, b0, b3, b4, b5, b6, c, .inr (.inr ⟨k1, rfl, rfl⟩)⟩, k2⟩
  · exact h.elim
theorem xo_quiet {o : Op} {ρ : Operand → Value} {H : Hp} {K : Value → Hp → Prop} (hq : quiet P o = true) (h : xo P w0 o ρ H K) : ∃ v, (∀ H2, xo P w0 o ρ H2 (fun v' H' => v' = v ∧ H' = H2)) ∧ K v H := by
  cases o <;> simp only [quiet, Bool.false_eq_true] at hq <;> simp only [xo] at h ⊢
  case move x => exact ⟨_, fun _ => by simp, h⟩
  case assign x => exact ⟨_, fun _ => by simp, h⟩
  case pick c x y =>
    unfold xPick at h ⊢
    split at h
    · exact ⟨_, fun _ => by simp, h⟩
    · exact h.elim
  case nilCheck x =>
    unfold xNil at h ⊢
    split at h
    · exact ⟨_, fun _ => by simp, h⟩
    · exact ⟨_, fun _ => by simp, h⟩
    · exact h.elim
  case binOp op t x y t2 => obtain ⟨v, a, b⟩ := h; exact ⟨v, fun _ => ⟨v, a, by simp⟩, b⟩
  case unOp op t x => obtain ⟨v, a, b⟩ := h; exact ⟨v, fun _ => ⟨v, a, by simp⟩, b⟩
  case convert s d x =>
    simp only [Bool.and_eq_true, Bool.not_eq_true'] at hq
    unfold xCv at h ⊢
    split at h
    · rw [if_neg (by rw [hq.2]; decide)] at h
      obtain ⟨v, a, b⟩ := h
      exact ⟨v, fun _ => by rw [if_neg (by rw [hq.2]; decide)]; exact ⟨v, a, rfl, rfl⟩, b⟩
    · rw [hq.1] at h; exact absurd h.1 (by decide)
    · rw [hq.1] at h; exact absurd h.1 (by decide)
    · obtain ⟨v, a, b⟩ := h; exact ⟨v, fun _ => ⟨v, a, rfl, rfl⟩, b⟩
  case makeInterface t x => exact ⟨_, fun _ => by simp [h.1], h.2⟩
  case makeFunc fn fi ca =>
    cases fn with
    | func f => exact ⟨_, fun _ => by simp, h⟩
    | _ => exact h.elim
  case slice t x lo hi mx =>
    unfold xSliceA at h ⊢
    split at h
    · unfold xSliceL at h
      split at h
      · obtain ⟨e, n, a1, _⟩ := h; rw [elm_str hq] at a1; cases a1
      · exact h.elim
    unfold xSlice at h ⊢
    split at h
    · obtain ⟨a1, a2, l, h', b1, b2, b3, b4, b5, k⟩ := h; exact ⟨_, fun _ => ⟨a1, a2, l, h', b1, b2, b3, b4, b5, rfl, rfl⟩, k⟩
    · obtain ⟨e, n, a1, _⟩ := h; rw [elm_str hq] at a1; cases a1
    · obtain ⟨e, n, a1, _⟩ := h; rw [elm_str hq] at a1; cases a1
    · exact h.elim
  case fieldAddr s x f =>
    unfold xField at h ⊢
    split at h
    · obtain ⟨d, ag, n, a, b⟩ := h; exact ⟨_, fun _ => ⟨d, ag, n, a, rfl, rfl⟩, b⟩
    · exact h.elim
  case field s x f =>
    unfold xPart at h ⊢
    split at h
    · obtain ⟨d, ag, n, a, b⟩ := h
      split at b
      · rename_i e; exact ⟨_, fun _ => ⟨d, ag, n, a, by rw [if_pos e]; simp⟩, b⟩
      · rename_i e; obtain ⟨v, p, q⟩ := b; exact ⟨v, fun _ => ⟨d, ag, n, a, by rw [if_neg e]; exact ⟨v, p, rfl, rfl⟩⟩, q⟩
    · exact h.elim
  case indexAddr t x i =>
    unfold xIndexAddr at h ⊢
    split at h
    · obtain ⟨e, n, a, b, c, d⟩ := h; exact ⟨_, fun _ => ⟨e, n, a, b, c, rfl, rfl⟩, d⟩
    · exact h.elim
  case index t x i => obtain ⟨v, a, b⟩ := h; exact ⟨v, fun _ => ⟨v, a, by simp⟩, b⟩
  case extract x n =>
    unfold xExtract at h ⊢
    split at h
    · obtain ⟨v, a, b⟩ := h; exact ⟨v, fun _ => ⟨v, a, rfl, rfl⟩, b⟩
    · exact h.elim
  case call c =>
    obtain ⟨callee, args, ats⟩ := c
    cases callee with
    | builtin b =>
      cases b with
      | len =>
        simp only at h ⊢
        generalize List.map ρ args.toList = l at h ⊢
        rcases l with _ | ⟨x, _ | ⟨y, r⟩⟩
        · exact h.elim
        · obtain ⟨v, a, b⟩ := h
          exact ⟨v, fun _ => ⟨v, a, rfl, rfl⟩, b⟩
        · exact h.elim
      | _ => cases hq
    | _ => cases hq
def nth : List Oper → Nat → Option Oper
  | [], _ => none
  | o :: _, 0 => some o
  | _ :: r, k + 1 => nth r k
theorem nth_eq : ∀ (l : List Oper) (k : Nat), nth l k = l[k]?
  | [], _ => rfl
  | _ :: _, 0 => rfl
  | _ :: r, k + 1 => nth_eq r k
@[go_sem] theorem nth_zero (o : Oper) (r : List Oper) : nth (o :: r) 0 = some o := rfl
@[go_sem] theorem nth_succ (o : Oper) (r : List Oper) (k : Nat) : nth (o :: r) (k + 1) = nth r k := rfl
/-- A step of a plan: a quiet operation, a load that stays what it is, another one. -/
inductive PX where
  | q (i : Nat)
  | l (i : Nat)
  | e (i : Nat)
  | d (i : Nat)
def PX.ps : List PX → List PS
  | [] => []
  | .q i :: r => .q i :: PX.ps r
  | .l i :: r => .q i :: PX.ps r
  | .e i :: r => .e i :: PX.ps r
  | .d _ :: r => PX.ps r
/-- A load is waited for no more. -/
def drp (i : Nat) : List Pd → List Pd
  | [] => []
  | p :: r => bif Nat.beq p.i i then drp i r else p :: drp i r
theorem drp_mem {i : Nat} {p : Pd} : ∀ {l : List Pd}, p ∈ l → p.i = i ∨ p ∈ drp i l
  | q :: r, h => by
    unfold drp
    rcases List.mem_cons.1 h with rfl | h
    · by_cases e : Nat.beq p.i i = true
      · exact .inl (Nat.eq_of_beq_eq_true e)
      · rw [Bool.not_eq_true] at e
        rw [e]; exact .inr List.mem_cons_self
    · rcases drp_mem (i := i) h with a | a
      · exact .inl a
      · right
        cases Nat.beq q.i i
        · exact List.mem_cons_of_mem _ a
        · exact a
@[go_sem] theorem drp_nil (i : Nat) : drp i [] = [] := rfl
@[go_sem] theorem drp_cons (i j : Nat) (o : Op) (T : Ts) (v : Value) (r : List Pd) : drp i (⟨j, o, T, v⟩ :: r) = bif Nat.beq j i then drp i r else ⟨j, o, T, v⟩ :: drp i r := rfl
def KP (v : Value) (H : Hp) : Value → Hp → Prop := fun v' H' => v' = v ∧ H' = H
@[go_sem] theorem KP_self (v : Value) (H : Hp) : KP v H v H = True := by simp [KP]
/-- Every load that waits loads the same still. -/
def pdOk (P : Program) (w0 : World) (H : Hp) (X : Prop) : List Pd → Prop
  | [] => X
  | p :: r => Req (Do P w0 p.o p.T H (Lk.mk (K := KP p.v H))) (Lz.mk (X := pdOk P w0 H X r))
def pdZ (P : Program) (w0 : World) (H : Hp) (l : List Pd) {X : Prop} (_ : Lz X) : Prop := pdOk P w0 H X l
@[go_sem] theorem pdZ_nil (H : Hp) {X : Prop} (x : Lz X) : pdZ P w0 H [] x = X := rfl
@[go_sem] theorem pdZ_cons (H : Hp) {X : Prop} (x : Lz X) (i : Nat) (o : Op) (T : Ts) (v : Value) (r : List Pd) : pdZ P w0 H (⟨i, o, T, v⟩ :: r) x = Req (Do P w0 o T H (Lk.mk (K := KP v H))) (Lz.mk (X := pdZ P w0 H r x)) := propext Iff.rfl
theorem pdOk_spec {H : Hp} {X : Prop} : ∀ (l : List Pd), pdOk P w0 H X l → X ∧ ∀ p ∈ l, Yl P w0 p.o p.T H p.v
  | [], h => ⟨h, fun _ hp => by cases hp⟩
  | p :: r, h => by
    obtain ⟨h1, h2⟩ := h
    obtain ⟨h3, h4⟩ := pdOk_spec r h2
    exact ⟨h3, fun q hq => by rcases List.mem_cons.1 hq with rfl | hq; exact h1; exact h4 q hq⟩
def xe (P : Program) (w0 : World) (l : List Oper) (Q : Ts → Hp → Prop) : List PX → List Pd → Ts → Hp → Prop
  | [], _, T, H => Q T H
  | .q i :: r, pd, T, H => match nth l i with
    | none => False
    | some o => if wan o l.toArray T = true then xo P w0 o.op (ev T) H (fun v H' => xe P w0 l Q r pd (upd T o.dst v) H') else xe P w0 l Q r pd (upd T o.dst undef) H
  | .l i :: r, pd, T, H => match nth l i with
    | none => False
    | some o => if wan o l.toArray T = true then xo P w0 o.op (ev T) H (fun v H' => xe P w0 l Q r (⟨i, o.op, T, v⟩ :: pd) (upd T o.dst v) H') else xe P w0 l Q r pd (upd T o.dst undef) H
  | .e i :: r, pd, T, H => match nth l i with
    | none => False
    | some o => if wan o l.toArray T = true then xo P w0 o.op (ev T) H (fun v H' => pdOk P w0 H' (xe P w0 l Q r pd (upd T o.dst v) H') pd) else xe P w0 l Q r pd (upd T o.dst undef) H
  | .d i :: r, pd, T, H => xe P w0 l Q r (drp i pd) T H
def okP (P : Program) (ops : Array Oper) : List PX → Bool
  | [] => true
  | .q i :: r => (match ops[i]? with
    | some o => quiet P o.op || (isLoad o.op && r.all fun | .e j => anc ops ops.size i j | _ => true)
    | none => false) && okP P ops r
  | .l i :: r => (match ops[i]? with
    | some o => isLoad o.op
    | none => false) && okP P ops r
  | .e _ :: r => okP P ops r
  | .d i :: r => (r.all fun | .e j => anc ops ops.size i j | _ => true) && okP P ops r
theorem pend_ok {ops : Array Oper} {j : Nat} {H2 : Hp} : ∀ (pd : List Pd), (∀ p ∈ pd, Yl P w0 p.o p.T H2 p.v ∨ anc ops ops.size p.i j = true) → pendOk P w0 ops j H2 pd
  | [], _ => trivial
  | p :: r, h => by
    refine ⟨?_, pend_ok r fun q hq => h q (List.mem_cons_of_mem _ hq)⟩
    rcases h p List.mem_cons_self with a | a
    · split
      · trivial
      · exact a
    · rw [if_pos a]; trivial
theorem xo_loadO {o : Oper} (hl : isLoad o.op = true) {T : Ts} {H : Hp} {K : Value → Hp → Prop} (h : xo P w0 o.op (ev T) H K) : ∃ v, Yl P w0 o.op T H v ∧ K v H := by
  obtain ⟨d, op, ty, af, g⟩ := o
  simp only at hl h
  cases op <;> simp only [isLoad, Bool.false_eq_true] at hl
  · exact xo_load h
  · exact xo_slice h
theorem xd_xe {l : List Oper} {Q : Ts → Hp → Prop} : ∀ (pl : List PX) (pm pd : List Pd) (T : Ts) (H : Hp), okP P l.toArray pl = true → (∀ p ∈ pd, (∀ H2, Yl P w0 p.o p.T H2 p.v) ∨ (∀ j, PX.e j ∈ pl → anc l.toArray l.toArray.size p.i j = true) ∨ p ∈ pm) → xe P w0 l Q pl pm T H → xd P w0 l.toArray Q (PX.ps pl) pd T H
  | [], _, _, _, _, _, _, h => h
  | .q i :: r, pm, pd, T, H, hk, hp, h => by
    simp only [xe, nth_eq] at h
    simp only [PX.ps, xd, List.getElem?_toArray]
    simp only [okP, Bool.and_eq_true, List.getElem?_toArray] at hk
    have hp' : ∀ p ∈ pd, (∀ H2, Yl P w0 p.o p.T H2 p.v) ∨ (∀ j, PX.e j ∈ r → anc l.toArray l.toArray.size p.i j = true) ∨ p ∈ pm := fun p hm => (hp p hm).imp id (Or.imp (fun a j hj => a j (List.mem_cons_of_mem _ hj)) id)
    cases ho : l[i]? with
    | none => rw [ho] at h; exact h.elim
    | some o =>
      rw [ho] at h hk
      simp only at h hk ⊢
      split at h
      · rename_i hw
        rw [if_pos hw]
        obtain ⟨hk1, hk2⟩ := hk
        rw [Bool.or_eq_true] at hk1
        rcases hk1 with hq | hl
        · obtain ⟨v, h1, h2⟩ := xo_quiet hq h
          refine ⟨v, h1 H, xd_xe r pm _ _ _ hk2 ?_ h2⟩
          intro p hm
          rcases List.mem_cons.1 hm with rfl | hm
          · exact .inl h1
          · exact hp' p hm
        · rw [Bool.and_eq_true] at hl
          obtain ⟨v, h1, h2⟩ := xo_loadO hl.1 h
          refine ⟨v, h1, xd_xe r pm _ _ _ hk2 ?_ h2⟩
          intro p hm
          rcases List.mem_cons.1 hm with rfl | hm
          · exact .inr (.inl fun j hj => List.all_eq_true.1 hl.2 _ hj)
          · exact hp' p hm
      · rename_i hw
        rw [if_neg hw]
        exact xd_xe r pm _ _ _ hk.2 hp' h
  | .l i :: r, pm, pd, T, H, hk, hp, h => by
    simp only [xe, nth_eq] at h
    simp only [PX.ps, xd, List.getElem?_toArray]
    simp only [okP, Bool.and_eq_true, List.getElem?_toArray] at hk
    have hp' : ∀ p ∈ pd, (∀ H2, Yl P w0 p.o p.T H2 p.v) ∨ (∀ j, PX.e j ∈ r → anc l.toArray l.toArray.size p.i j = true) ∨ p ∈ pm := fun p hm => (hp p hm).imp id (Or.imp (fun a j hj => a j (List.mem_cons_of_mem _ hj)) id)
    cases ho : l[i]? with
    | none => rw [ho] at h; exact h.elim
    | some o =>
      rw [ho] at h hk
      simp only at h hk ⊢
      split at h
      · rename_i hw
        rw [if_pos hw]
        obtain ⟨v, h1, h2⟩ := xo_loadO hk.1 h
        refine ⟨v, h1, xd_xe r _ _ _ _ hk.2 ?_ h2⟩
        intro p hm
        rcases List.mem_cons.1 hm with rfl | hm
        · exact .inr (.inr List.mem_cons_self)
        · exact (hp' p hm).imp id (Or.imp id (List.mem_cons_of_mem _))
      · rename_i hw
        rw [if_neg hw]
        exact xd_xe r pm _ _ _ hk.2 hp' h
  | .e i :: r, pm, pd, T, H, hk, hp, h => by
    simp only [xe, nth_eq] at h
    simp only [PX.ps, xd, List.getElem?_toArray]
    simp only [okP] at hk
    have hp' : ∀ p ∈ pd, (∀ H2, Yl P w0 p.o p.T H2 p.v) ∨ (∀ j, PX.e j ∈ r → anc l.toArray l.toArray.size p.i j = true) ∨ p ∈ pm := fun p hm => (hp p hm).imp id (Or.imp (fun a j hj => a j (List.mem_cons_of_mem _ hj)) id)
    cases ho : l[i]? with
    | none => rw [ho] at h; exact h.elim
    | some o =>
      rw [ho] at h
      simp only at h ⊢
      split at h
      · rename_i hw
        rw [if_pos hw]
        refine xo_mono (fun v H2 hh => ?_) h
        obtain ⟨h1, h2⟩ := pdOk_spec pm hh
        refine ⟨pend_ok pd fun p hm => ?_, xd_xe r pm _ _ _ hk hp' h1⟩
        rcases hp p hm with a | a | a
        · exact .inl (a H2)
        · exact .inr (a i List.mem_cons_self)
        · exact .inl (h2 p a)
      · rename_i hw
        rw [if_neg hw]
        exact xd_xe r pm _ _ _ hk hp' h
  | .d i :: r, pm, pd, T, H, hk, hp, h => by
    simp only [okP, Bool.and_eq_true] at hk
    refine xd_xe r _ pd T H hk.2 (fun p hm => ?_) h
    rcases hp p hm with a | a | a
    · exact .inl a
    · exact .inr (.inl fun j hj => a j (List.mem_cons_of_mem _ hj))
    · rcases drp_mem (i := i) a with e | e
      · exact .inr (.inl fun j hj => by have := List.all_eq_true.1 hk.1 _ hj; rw [e]; exact this)
      · exact .inr (.inr e)
/-! who comes behind whom, told beforehand and checked -/
theorem anc_up (ops : Array Oper) : ∀ (f i j : Nat), anc ops f i j = true → anc ops (f + 1) i j = true
  | 0, _, _, h => by cases h
  | f + 1, i, j, h => by
    unfold anc at h ⊢
    cases ho : ops[j]? with
    | none => rw [ho] at h; cases h
    | some o =>
      rw [ho] at h
      simp only at h ⊢
      obtain ⟨e, he, h2⟩ := Array.any_eq_true'.1 h
      refine Array.any_eq_true'.2 ⟨e, he, ?_⟩
      simp only [Bool.and_eq_true, Bool.or_eq_true] at h2 ⊢
      exact ⟨h2.1, h2.2.imp id (anc_up ops f i e.on)⟩
theorem anc_le (ops : Array Oper) {f g i j : Nat} (hfg : f ≤ g) (h : anc ops f i j = true) : anc ops g i j = true := by
  induction hfg with
  | refl => exact h
  | step _ ih => exact anc_up ops _ i j ih
def maskE (M : List Nat) (j : Nat) : List Edge → Nat
  | [] => 0
  | e :: r => if (Region.binds .any e && Nat.blt e.on j) = true then (M.getD e.on 0 ||| 1 <<< e.on) ||| maskE M j r else maskE M j r
def chkM (M : List Nat) (ops : Array Oper) : Bool := (List.range ops.size).all fun j => match ops[j]? with
  | some o => Nat.beq (M.getD j 0) (maskE M j o.after.toList)
  | none => true
theorem maskE_spec {M : List Nat} {i j : Nat} : ∀ (l : List Edge), Nat.testBit (maskE M j l) i = true → ∃ e ∈ l, Region.binds .any e = true ∧ e.on < j ∧ (Nat.testBit (M.getD e.on 0) i = true ∨ e.on = i)
  | [], h => by simp [maskE] at h
  | e :: r, h => by
    unfold maskE at h
    split at h
    · rename_i hc
      simp only [Bool.and_eq_true, Nat.blt_eq] at hc
      rw [Nat.testBit_or, Nat.testBit_or, Nat.one_shiftLeft, Nat.testBit_two_pow, Bool.or_eq_true, Bool.or_eq_true] at h
      rcases h with (h | h) | h
      · exact ⟨e, List.mem_cons_self, hc.1, hc.2, .inl h⟩
      · exact ⟨e, List.mem_cons_self, hc.1, hc.2, .inr (by simpa using h)⟩
      · obtain ⟨e', a, b⟩ := maskE_spec r h
        exact ⟨e', List.mem_cons_of_mem _ a, b⟩
    · obtain ⟨e', a, b⟩ := maskE_spec r h
      exact ⟨e', List.mem_cons_of_mem _ a, b⟩
theorem mask_anc {M : List Nat} {ops : Array Oper} (hM : chkM M ops = true) (i : Nat) : ∀ (j : Nat), j < ops.size → Nat.testBit (M.getD j 0) i = true → anc ops (j + 1) i j = true := by
  intro j
  induction j using Nat.strongRecOn with
  | ind j ih =>
    intro hj h
    have h1 := List.all_eq_true.1 hM j (List.mem_range.2 hj)
    have ho := Array.getElem?_eq_getElem hj
    rw [ho] at h1
    simp only at h1
    rw [Nat.eq_of_beq_eq_true h1] at h
    obtain ⟨e, a, b, c, d⟩ := maskE_spec _ h
    unfold anc
    rw [ho]
    simp only
    refine Array.any_eq_true'.2 ⟨e, by simpa using a, ?_⟩
    rw [b, Bool.true_and, Bool.or_eq_true]
    rcases d with d | d
    · exact .inr (anc_le ops (by omega) (ih e.on c (by omega) d))
    · exact .inl (by simpa using d)
theorem mask_anc' {M : List Nat} {ops : Array Oper} (hM : chkM M ops = true) {i j : Nat} (hj : j < ops.size) (h : Nat.testBit (M.getD j 0) i = true) : anc ops ops.size i j = true := anc_le ops (by omega) (mask_anc hM i j hj h)
def freeM (M : List Nat) (ops : Array Oper) (listed : Array Bool) (i : Nat) : Bool := match ops[i]? with
  | none => false
  | some oi => (List.range ops.size).all fun j => match ops[j]? with
    | none => true
    | some oj => Nat.beq j i || (listed.getD j true || (Nat.testBit (M.getD j 0) i || oi.apart ops oj))
def planM (M : List Nat) (ops : Array Oper) : List PS → Array Bool → Bool
  | [], listed => (Region.ready .any ops listed).isEmpty
  | .q i :: r, listed => (Region.ready .any ops listed).contains i && (freeM M ops listed i && planM M ops r (listed.setIfInBounds i true))
  | .e i :: r, listed => (Region.ready .any ops listed) == [i] && planM M ops r (listed.setIfInBounds i true)
def okM (P : Program) (M : List Nat) (ops : Array Oper) : List PX → Bool
  | [] => true
  | .q i :: r => (match ops[i]? with
    | some o => quiet P o.op || (isLoad o.op && r.all fun | .e j => Nat.blt j ops.size && Nat.testBit (M.getD j 0) i | _ => true)
    | none => false) && okM P M ops r
  | .l i :: r => (match ops[i]? with
    | some o => isLoad o.op
    | none => false) && okM P M ops r
  | .e _ :: r => okM P M ops r
  | .d i :: r => (r.all fun | .e j => Nat.blt j ops.size && Nat.testBit (M.getD j 0) i | _ => true) && okM P M ops r
theorem freeM_ok {M : List Nat} {ops : Array Oper} (hM : chkM M ops = true) {listed : Array Bool} {i : Nat} (h : freeM M ops listed i = true) : freeB ops listed i = true := by
  unfold freeM at h
  unfold freeB
  cases hi : ops[i]? with
  | none => rw [hi] at h; cases h
  | some oi =>
    rw [hi] at h
    simp only at h ⊢
    refine List.all_eq_true.2 fun j hj => ?_
    have h1 := List.all_eq_true.1 h j hj
    cases ho : ops[j]? with
    | none => rfl
    | some oj =>
      rw [ho] at h1
      simp only [Bool.or_eq_true] at h1 ⊢
      rcases h1 with h1 | h1 | h1 | h1
      · exact .inl (.inl (.inl (by simpa using h1)))
      · exact .inl (.inl (.inr h1))
      · exact .inl (.inr (mask_anc' hM (List.mem_range.1 hj) h1))
      · exact .inr h1
theorem planM_ok {M : List Nat} {ops : Array Oper} (hM : chkM M ops = true) : ∀ (l : List PS) (listed : Array Bool), planM M ops l listed = true → planB ops l listed = true
  | [], _, h => h
  | .q i :: r, listed, h => by
    simp only [planM, Bool.and_eq_true] at h
    simp only [planB, Bool.and_eq_true]
    exact ⟨⟨h.1, freeM_ok hM h.2.1⟩, planM_ok hM r _ h.2.2⟩
  | .e i :: r, listed, h => by
    simp only [planM, Bool.and_eq_true] at h
    simp only [planB, Bool.and_eq_true]
    exact ⟨h.1, planM_ok hM r _ h.2⟩
theorem okM_ok {M : List Nat} {ops : Array Oper} (hM : chkM M ops = true) : ∀ (l : List PX), okM P M ops l = true → okP P ops l = true
  | [], _ => rfl
  | .q i :: r, h => by
    simp only [okM, Bool.and_eq_true] at h
    simp only [okP, Bool.and_eq_true]
    refine ⟨?_, okM_ok hM r h.2⟩
    have h1 := h.1
    cases ho : ops[i]? with
    | none => rw [ho] at h1; cases h1
    | some o =>
      rw [ho] at h1
      simp only [Bool.or_eq_true, Bool.and_eq_true] at h1 ⊢
      refine h1.imp id fun a => ⟨a.1, List.all_eq_true.2 fun p hp => ?_⟩
      have := List.all_eq_true.1 a.2 p hp
      cases p with
      | q _ => rfl
      | l _ => rfl
      | d _ => rfl
      | e j =>
        simp only [Bool.and_eq_true, Nat.blt_eq] at this
        exact mask_anc' hM this.1 this.2
  | .l i :: r, h => by
    simp only [okM, Bool.and_eq_true] at h
    simp only [okP, Bool.and_eq_true]
    exact ⟨h.1, okM_ok hM r h.2⟩
  | .e i :: r, h => okM_ok hM r h
  | .d i :: r, h => by
    simp only [okM, Bool.and_eq_true] at h
    simp only [okP, Bool.and_eq_true]
    refine ⟨List.all_eq_true.2 fun p hp => ?_, okM_ok hM r h.2⟩
    have := List.all_eq_true.1 h.1 p hp
    cases p with
    | q _ => rfl
    | l _ => rfl
    | d _ => rfl
    | e j =>
      simp only [Bool.and_eq_true, Nat.blt_eq] at this
      exact mask_anc' hM this.1 this.2
theorem xw_open {n id : Nat} {l : List Oper} {Q : QT} {T : Ts} {H : Hp} (M : List Nat) (plan : List PX) (hm : P.follows .mixedOrders = true) (hg : (l.toArray.all (goodO n) && (Nat.beq (PX.ps plan).length l.toArray.size && (chkM M l.toArray && (planM M l.toArray (PX.ps plan) (Array.replicate l.toArray.size false) && okM P M l.toArray plan)))) = true) (h : xe P w0 l (Q .normal) plan [] T H) : xw P w0 n (.region id l.toArray true) Q T H := by
  simp only [Bool.and_eq_true] at hg
  obtain ⟨g1, g2, g3, g4, g5⟩ := hg
  refine xw_draw (PX.ps plan) hm g1 ?_ (xd_xe plan [] [] T H (okM_ok g3 plan g5) (by simp) h)
  simp only [Bool.and_eq_true, beq_iff_eq]
  exact ⟨Nat.eq_of_beq_eq_true g2, planM_ok g3 _ _ g4⟩
def KE (P : Program) (w0 : World) (l : List Oper) (Q : Ts → Hp → Prop) (r : List PX) (pd : List Pd) (T : Ts) (d : Option Nat) : Value → Hp → Prop := fun v H => xe P w0 l Q r pd (upd T d v) H
@[go_sem] theorem KE_app (l : List Oper) (Q : Ts → Hp → Prop) (r : List PX) (pd : List Pd) (T : Ts) (d : Option Nat) (v : Value) (H : Hp) : KE P w0 l Q r pd T d v H = xe P w0 l Q r pd (upd T d v) H := propext Iff.rfl
def KL (P : Program) (w0 : World) (l : List Oper) (Q : Ts → Hp → Prop) (r : List PX) (pd : List Pd) (T : Ts) (d : Option Nat) (i : Nat) (o : Op) : Value → Hp → Prop := fun v H => xe P w0 l Q r (⟨i, o, T, v⟩ :: pd) (upd T d v) H
@[go_sem] theorem KL_app (l : List Oper) (Q : Ts → Hp → Prop) (r : List PX) (pd : List Pd) (T : Ts) (d : Option Nat) (i : Nat) (o : Op) (v : Value) (H : Hp) : KL P w0 l Q r pd T d i o v H = xe P w0 l Q r (⟨i, o, T, v⟩ :: pd) (upd T d v) H := propext Iff.rfl
def KD (P : Program) (w0 : World) (l : List Oper) (Q : Ts → Hp → Prop) (r : List PX) (pd : List Pd) (T : Ts) (d : Option Nat) : Value → Hp → Prop := fun v H => pdOk P w0 H (xe P w0 l Q r pd (upd T d v) H) pd
@[go_sem] theorem KD_app (l : List Oper) (Q : Ts → Hp → Prop) (r : List PX) (pd : List Pd) (T : Ts) (d : Option Nat) (v : Value) (H : Hp) : KD P w0 l Q r pd T d v H = pdZ P w0 H pd (Lz.mk (X := xe P w0 l Q r pd (upd T d v) H)) := propext Iff.rfl
/-- The operation that a step of the plan does. -/
def XO (P : Program) (w0 : World) (l : List Oper) (Q : Ts → Hp → Prop) (p : PX) (r : List PX) (pd : List Pd) (T : Ts) (H : Hp) : Option Oper → Prop
  | none => False
  | some o => if wan o l.toArray T = true then xo P w0 o.op (ev T) H (match p with
    | .q _ => KE P w0 l Q r pd T o.dst
    | .l i => KL P w0 l Q r pd T o.dst i o.op
    | .e _ => KD P w0 l Q r pd T o.dst
    | .d _ => fun _ _ => False) else xe P w0 l Q r pd (upd T o.dst undef) H
@[go_sem] theorem xe_nil (l : List Oper) (Q : Ts → Hp → Prop) (pd : List Pd) (T : Ts) (H : Hp) : xe P w0 l Q [] pd T H = Q T H := propext Iff.rfl
@[go_sem] theorem xe_q (l : List Oper) (Q : Ts → Hp → Prop) (i : Nat) (r : List PX) (pd : List Pd) (T : Ts) (H : Hp) : xe P w0 l Q (.q i :: r) pd T H = XO P w0 l Q (.q i) r pd T H (nth l i) := by
  simp only [xe, XO]
  cases nth l i <;> rfl
@[go_sem] theorem xe_l (l : List Oper) (Q : Ts → Hp → Prop) (i : Nat) (r : List PX) (pd : List Pd) (T : Ts) (H : Hp) : xe P w0 l Q (.l i :: r) pd T H = XO P w0 l Q (.l i) r pd T H (nth l i) := by
  simp only [xe, XO]
  cases nth l i <;> rfl
@[go_sem] theorem xe_e (l : List Oper) (Q : Ts → Hp → Prop) (i : Nat) (r : List PX) (pd : List Pd) (T : Ts) (H : Hp) : xe P w0 l Q (.e i :: r) pd T H = XO P w0 l Q (.e i) r pd T H (nth l i) := by
  simp only [xe, XO]
  cases nth l i <;> rfl
@[go_sem] theorem XO_q (l : List Oper) (Q : Ts → Hp → Prop) (i : Nat) (r : List PX) (pd : List Pd) (T : Ts) (H : Hp) (d : Option Tmp) (op : Op) (ty : TypeId) (ps : String) (af : Array Edge) :
    XO P w0 l Q (.q i) r pd T H (some { dst := d, op := op, type := ty, pos := ps, after := af, guard := none }) = Do P w0 op T H (Lk.mk (K := KE P w0 l Q r pd T d)) := propext Iff.rfl
@[go_sem] theorem XO_qg (l : List Oper) (Q : Ts → Hp → Prop) (i : Nat) (r : List PX) (pd : List Pd) (T : Ts) (H : Hp) (d : Option Tmp) (op : Op) (ty : TypeId) (ps : String) (af : Array Edge) (j : Nat) (b : Bool) :
    XO P w0 l Q (.q i) r pd T H (some { dst := d, op := op, type := ty, pos := ps, after := af, guard := some (j, b) }) = Br (atB T b (dstAt l j)) (Lz.mk (X := Do P w0 op T H (Lk.mk (K := KE P w0 l Q r pd T d)))) (Lz.mk (X := xe P w0 l Q r pd (upd T d undef) H)) := by
  show (if wan _ _ T = true then _ else _) = _
  rw [wan_guard]
  rfl
@[go_sem] theorem XO_l (l : List Oper) (Q : Ts → Hp → Prop) (i : Nat) (r : List PX) (pd : List Pd) (T : Ts) (H : Hp) (d : Option Tmp) (op : Op) (ty : TypeId) (ps : String) (af : Array Edge) :
    XO P w0 l Q (.l i) r pd T H (some { dst := d, op := op, type := ty, pos := ps, after := af, guard := none }) = Do P w0 op T H (Lk.mk (K := KL P w0 l Q r pd T d i op)) := propext Iff.rfl
@[go_sem] theorem XO_lg (l : List Oper) (Q : Ts → Hp → Prop) (i : Nat) (r : List PX) (pd : List Pd) (T : Ts) (H : Hp) (d : Option Tmp) (op : Op) (ty : TypeId) (ps : String) (af : Array Edge) (j : Nat) (b : Bool) :
    XO P w0 l Q (.l i) r pd T H (some { dst := d, op := op, type := ty, pos := ps, after := af, guard := some (j, b) }) = Br (atB T b (dstAt l j)) (Lz.mk (X := Do P w0 op T H (Lk.mk (K := KL P w0 l Q r pd T d i op)))) (Lz.mk (X := xe P w0 l Q r pd (upd T d undef) H)) := by
  show (if wan _ _ T = true then _ else _) = _
  rw [wan_guard]
  rfl
@[go_sem] theorem XO_e (l : List Oper) (Q : Ts → Hp → Prop) (i : Nat) (r : List PX) (pd : List Pd) (T : Ts) (H : Hp) (d : Option Tmp) (op : Op) (ty : TypeId) (ps : String) (af : Array Edge) :
    XO P w0 l Q (.e i) r pd T H (some { dst := d, op := op, type := ty, pos := ps, after := af, guard := none }) = Do P w0 op T H (Lk.mk (K := KD P w0 l Q r pd T d)) := propext Iff.rfl
@[go_sem] theorem XO_eg (l : List Oper) (Q : Ts → Hp → Prop) (i : Nat) (r : List PX) (pd : List Pd) (T : Ts) (H : Hp) (d : Option Tmp) (op : Op) (ty : TypeId) (ps : String) (af : Array Edge) (j : Nat) (b : Bool) :
    XO P w0 l Q (.e i) r pd T H (some { dst := d, op := op, type := ty, pos := ps, after := af, guard := some (j, b) }) = Br (atB T b (dstAt l j)) (Lz.mk (X := Do P w0 op T H (Lk.mk (K := KD P w0 l Q r pd T d)))) (Lz.mk (X := xe P w0 l Q r pd (upd T d undef) H)) := by
  show (if wan _ _ T = true then _ else _) = _
  rw [wan_guard]
  rfl
@[go_sem] theorem xe_d (l : List Oper) (Q : Ts → Hp → Prop) (i : Nat) (r : List PX) (pd : List Pd) (T : Ts) (H : Hp) : xe P w0 l Q (.d i :: r) pd T H = xe P w0 l Q r (drp i pd) T H := propext Iff.rfl
end
end Go.Proofs.YtcmflpdgfddmeaaDoorW.XM

namespace Go.Proofs.YtcmflpdgfddmeaaDoorW.XM
open Go.RowKit
section
variable {P : Program} {w0 : World}
attribute [go_sem] Option.map_none Option.map_some Int.toNat_zero
@[go_sem] theorem bnd_none (d : Nat) : bnd none d = some (d : Int) := rfl
@[go_sem] theorem bnd_some (k : IntKind) (i : Int) (d : Nat) : bnd (some (.int k i)) d = some i := rfl
def lowB : Option Value → Option Int
  | none => some 0
  | some (.int _ i) => some i
  | _ => none
@[go_sem] theorem lowB_none : lowB none = some 0 := rfl
@[go_sem] theorem lowB_some (k : IntKind) (i : Int) : lowB (some (.int k i)) = some i := rfl
theorem lowB_eq (x : Option Value) : bnd x 0 = lowB x := by
  cases x with
  | none => rfl
  | some v => cases v <;> rfl
def slcS (b : Bool) (s : ByteArray) (lo hi : Option Int) (H : Hp) {K : Value → Hp → Prop} (_ : Lk K) : Prop := b = true ∧ ∃ l h : Int, lo = some l ∧ hi = some h ∧ 0 ≤ l ∧ l ≤ h ∧ h ≤ s.size ∧ K (.string (s.extract l.toNat h.toNat)) H
@[go_sem] theorem slc_strE (t : TypeId) (b : Bool) (e : Option (TypeId × Nat)) (s : ByteArray) (lo hi : Option Value) (H : Hp) {K : Value → Hp → Prop} (k : Lk K) : slcV P w0 t b e (.string s) lo hi none H k = slcS (isStr P t) s (lowB lo) (bnd hi s.size) H k := by
  rw [← lowB_eq]
  simp only [slcV, xSliceA, xSlice, slcS, Option.isSome_none, true_and]
@[go_sem] theorem slcS_some (s : ByteArray) (l h : Int) (H : Hp) {K : Value → Hp → Prop} (k : Lk K) : slcS true s (some l) (some h) H k = Req (0 ≤ l ∧ l ≤ h ∧ h ≤ s.size) (Lz.mk (X := K (.string (s.extract l.toNat h.toNat)) H)) := by
  simp only [slcS, Req, true_and, Option.some.injEq]
  apply propext
  constructor
  · rintro ⟨l2, h2, rfl, rfl, c⟩
    exact ⟨⟨c.1, c.2.1, c.2.2.1⟩, c.2.2.2⟩
  · rintro ⟨⟨a, b, c⟩, d⟩
    exact ⟨l, h, rfl, rfl, a, b, c, d⟩
/-! a slice that is written out -/
def dn (n : Nat) : Nat → List (Nat × Value) → Option (List Value)
  | _, [] => some []
  | k, (i, v) :: r => if i = k ∧ (fillS.cellsL v).length = n then (dn n (k + 1) r).map (fillS.cellsL v ++ ·) else none
theorem putL_mid : ∀ (vs pre rest : List Value), vs.length ≤ rest.length → putL (pre ++ rest) pre.length vs = pre ++ vs ++ rest.drop vs.length
  | [], pre, rest, _ => by simp [putL]
  | v :: vs, pre, [], h => by simp at h
  | v :: vs, pre, x :: rest, h => by
    rw [putL, List.set_append_right _ _ (Nat.le_refl _), Nat.sub_self, List.set_cons_zero]
    have := putL_mid vs (pre ++ [v]) rest (by simpa using h)
    rw [List.length_append, List.length_singleton] at this
    rw [show pre ++ v :: rest = (pre ++ [v]) ++ rest by simp, this]
    simp
theorem fill_dn (n : Nat) : ∀ (ps : List (Nat × Value)) (k : Nat) (pre rest c : List Value), pre.length = k * n → rest.length = ps.length * n → dn n k ps = some c → fillL (fun i => some (i * n, n)) (pre ++ rest) ps = some (pre ++ c)
  | [], k, pre, rest, c, h1, h2, h3 => by
    cases h3
    have : rest = [] := List.eq_nil_of_length_eq_zero (by simpa using h2)
    rw [this]; rfl
  | (i, v) :: r, k, pre, rest, c, h1, h2, h3 => by
    simp only [dn] at h3
    split at h3
    · rename_i h
      obtain ⟨rfl, hv⟩ := h
      have hl : rest.length = r.length * n + n := by rw [h2, List.length_cons, Nat.succ_mul]
      cases hd : dn n (i + 1) r with
      | none => rw [hd] at h3; cases h3
      | some c' =>
        rw [hd] at h3
        cases h3
        have hv' : v.cells.toList.length = n := hv
        rw [fillL]
        simp only
        rw [if_pos ⟨hv', by rw [List.length_append]; omega⟩, ← h1, putL_mid _ _ _ (by omega), fill_dn n r (i + 1) _ _ c' (by rw [List.length_append, h1, hv', Nat.succ_mul]) (by rw [List.length_drop]; omega) hd, List.append_assoc]
        rfl
    · cases h3
theorem bsV_dense {e n m : Nat} {z : TypeId → Option (List Value)} {ps : List (Nat × Value)} {c : List Value} {B : Hp} {l : List (Option Ob)} {K : Value → Hp → Prop} {k : Lk K} (h1 : ∃ zz, z e = some zz ∧ zz.length = n) (h2 : dn n 0 ps = some c) (h3 : ps.length = m) (h4 : m * n ≤ 16777216) (h5 : allOne c = true)
    (hk : K (.slice (some ⟨nid B l.length, 0, some (m * n)⟩) m m) (Hx B (l ++ [some (.row e c)]))) : bsV (some (e, n)) z m ps (Hx B l) k := by
  obtain ⟨zz, a1, a2⟩ := h1
  have hf := fill_dn n ps 0 [] (List.replicate m zz).flatten c (by simp) (by simp [a2, h3]) h2
  refine ⟨zz, c, a1, a2, h4, hf, by rw [allOne_eq]; exact h5, ?_⟩
  rw [Hx_len, Hx_app]
  exact hk
/-! the other operations on whole numbers -/
@[go_sem] theorem bin_xor (t : TypeId) (c : Bool) (kk : IntKind) (x y : Int) : xBin P .xor t c (.int kk x) (.int kk y) = some (.int kk (kk.wrap (BitVec.ofInt kk.bits x ^^^ BitVec.ofInt kk.bits y).toNat)) := by simp [xBin, xInt]
@[go_sem] theorem bin_andNot (t : TypeId) (c : Bool) (kk : IntKind) (x y : Int) : xBin P .andNot t c (.int kk x) (.int kk y) = some (.int kk (kk.wrap (BitVec.ofInt kk.bits x &&& ~~~ BitVec.ofInt kk.bits y).toNat)) := by simp [xBin, xInt]
end
end Go.Proofs.YtcmflpdgfddmeaaDoorW.XM

namespace Go.Proofs.YtcmflpdgfddmeaaDoorW.XM
open Go.RowKit
section
variable {P : Program} {w0 : World}
def eqO (l : Option (List (Nat × Nat))) (xs ys : List Value) : Option Bool := match l with
  | some l => eqL xs ys l
  | none => none
@[go_sem] theorem eqA_eq (t : TypeId) (xs ys : List Value) : eqA P t xs ys = eqO (eqf P t) xs ys := rfl
@[go_sem] theorem eqO_some (l : List (Nat × Nat)) (xs ys : List Value) : eqO (some l) xs ys = eqL xs ys l := rfl
@[go_sem] theorem eqL_nil (xs ys : List Value) : eqL xs ys [] = some true := rfl
@[go_sem] theorem eqL_cons (xs ys : List Value) (o k : Nat) (r : List (Nat × Nat)) : eqL xs ys ((o, k) :: r) = andO (sameO k xs[o]? ys[o]?) (eqL xs ys r) := rfl
@[go_sem] theorem sameO_str (a b : ByteArray) : sameO 1 (some (.string a)) (some (.string b)) = some (a.toList == b.toList) := rfl
@[go_sem] theorem sameO_int (k : IntKind) (a b : Int) : sameO 0 (some (.int k a)) (some (.int k b)) = some (a == b) := by simp [sameO, sameV]
@[go_sem] theorem sameO_bool (a b : Bool) : sameO 2 (some (.bool a)) (some (.bool b)) = some (a == b) := rfl
@[go_sem] theorem andO_some (a b : Bool) : andO (some a) (some b) = some (a && b) := rfl
attribute [go_sem] List.getElem?_cons_zero List.getElem?_cons_succ
end
end Go.Proofs.YtcmflpdgfddmeaaDoorW.XM

namespace Go.Proofs.YtcmflpdgfddmeaaDoorW.XM
open Go.RowKit
section
variable {P : Program} {w0 : World}
def mksV (P : Program) (e : Option (TypeId × Nat)) (l c : Value) (H : Hp) {K : Value → Hp → Prop} (_ : Lk K) : Prop := match l, c with
  | .int _ l, .int _ c => ∃ t n z b, e = some (t, n) ∧ zer P t = some z ∧ z.length = n ∧ byt P t = some b ∧ 0 ≤ l ∧ l ≤ c ∧ c ≤ 4611686018427387904 ∧ c.toNat * b ≤ 140737488355328 ∧ K (.slice (some ⟨H.length, 0, some (c.toNat * n)⟩) l.toNat c.toNat) (H ++ [some (.row t (List.replicate c.toNat z).flatten)])
  | _, _ => False
@[go_sem] theorem do_makeSlice (t : TypeId) (l c : Operand) (T : Ts) (H : Hp) {K : Value → Hp → Prop} (k : Lk K) : Do P w0 (.makeSlice t l c) T H k = mksV P (elm P t) (ev T l) (ev T c) H k := propext Iff.rfl
/-- Rows, one behind the other. -/
def flat {α : Type} (enc : α → List Value) (l : List α) : List Value := (l.map enc).flatten
theorem flat_len {α : Type} {enc : α → List Value} {n : Nat} (he : ∀ a, (enc a).length = n) : ∀ (l : List α), (flat enc l).length = l.length * n
  | [] => by simp [flat]
  | a :: r => by
    have := flat_len he r
    simp only [flat] at this
    simp only [flat, List.map_cons, List.flatten_cons, List.length_append, he, this, List.length_cons, Nat.succ_mul]
    omega
theorem flat_app {α : Type} (enc : α → List Value) (a b : List α) : flat enc (a ++ b) = flat enc a ++ flat enc b := by simp [flat]
/-- A row of an own object is read. -/
theorem flat_row {α : Type} {enc : α → List Value} {n : Nat} (he : ∀ a, (enc a).length = n) (l : List α) {i : Nat} (hi : i < l.length) (f k : Nat) (hf : f + k ≤ n) : ((flat enc l).drop (i * n + f)).take k = ((enc l[i]).drop f).take k := by
  have e : l = l.take i ++ l[i] :: l.drop (i + 1) := by simp
  have h1 : (flat enc (l.take i)).length = i * n := by rw [flat_len he, List.length_take, Nat.min_eq_left (by omega)]
  have e2 : flat enc l = flat enc (l.take i) ++ (enc l[i] ++ flat enc (l.drop (i + 1))) := by
    have : flat enc l = flat enc (l.take i ++ (l[i] :: l.drop (i + 1))) := congrArg _ e
    rw [this, flat_app]
    rfl
  rw [e2, List.drop_append, h1, List.drop_of_length_le (by omega), List.nil_append, show i * n + f - i * n = f by omega, List.drop_append, List.take_append]
  have := he l[i]
  rw [show k - ((enc l[i]).drop f).length = 0 by rw [List.length_drop]; omega, List.take_zero, List.append_nil]
theorem Rd_own {α : Type} {enc : α → List Value} {n : Nat} (he : ∀ a, (enc a).length = n) (t : TypeId) (ls : List α) (B : Hp) (l : List (Option Ob)) (k : Nat) (hl : l[k]? = some (some (.row t (flat enc ls)))) : Rd w0 (Hx B l) (nid B k) 0 (some (ls.length * n)) n (ls.map enc) := by
  intro i r hr f m hf
  rw [rd_own, hl, rdO_row]
  have hi : i < ls.length := by have := (List.getElem?_eq_some_iff.1 hr).1; simpa using this
  have hle : i * n + n ≤ ls.length * n := by rw [← Nat.succ_mul]; exact Nat.mul_le_mul_right _ hi
  rw [if_pos ⟨flat_len he ls, by rw [flat_len he]; omega⟩, show 0 + i * n + f = i * n + f by omega, flat_row he ls hi f m hf]
  rw [List.getElem?_map, List.getElem?_eq_getElem hi] at hr
  cases hr
  rfl
theorem Sl_own {α : Type} {enc : α → List Value} {n : Nat} (he : ∀ a, (enc a).length = n) (t : TypeId) (ls : List α) (B : Hp) (l : List (Option Ob)) (k : Nat) (hl : l[k]? = some (some (.row t (flat enc ls)))) : Sl w0 (Hx B l) (some ⟨nid B k, 0, some (ls.length * n)⟩) n (ls.map enc) := .inr ⟨_, _, _, rfl, Rd_own he t ls B l k hl⟩
/-! new names -/
theorem rho_nid (B : Hp) (sel : List Nat) (k : Nat) : rho B sel (nid B k) = (idx k sel).map (nid B) := by
  unfold rho nid
  rw [if_neg (by omega), Nat.add_sub_cancel_left]
theorem idx_hit (k : Nat) (r : List Nat) : idx k (k :: r) = some 0 := by simp [idx]
theorem flat_plain {α : Type} {enc : α → List Value} (h : ∀ a, (enc a).all plain = true) (l : List α) : ∀ v ∈ flat enc l, plain v = true := by
  intro v hv
  unfold flat at hv
  obtain ⟨r, hr, h2⟩ := List.mem_flatten.1 hv
  obtain ⟨a, _, rfl⟩ := List.mem_map.1 hr
  exact List.all_eq_true.1 (h a) v h2
/-- An object of the call's own that is full: it grows, if there is something to append. -/
theorem appS_full (e n b m : Nat) (cs c0 : List Value) (B : Hp) (l : List (Option Ob)) (j sl tag : Nat) {K : Value → Hp → Prop} (k : Lk K) (bb : Bool) (hl : l[j]? = some (some (.row e c0))) (hg : tag = sl * n) (ht : c0.length = tag) (hla : lay P e = some (bb, n)) (hn : 0 < n) (hm : cs.length = m * n) (hb : (sl + m) * b ≤ 140737488355328) (h2 : sl + m ≤ 4611686018427387904)
    (h : K (.slice (some ⟨nid B j, 0, some ((sl + m) * n)⟩) (sl + m) (sl + m)) (Hx B (l.set j (some (.row e (c0 ++ cs)))))) : appS P w0 e n b m cs (.slice (some ⟨nid B j, 0, some tag⟩) sl sl) (Hx B l) k := by
  subst hg
  rcases Nat.eq_zero_or_pos m with rfl | hp
  · have hc : cs = [] := List.eq_nil_of_length_eq_zero (by rw [hm, Nat.zero_mul])
    subst hc
    refine appS_room e n b 0 [] c0 B l j 0 _ sl sl e k bb hl ht hla (by omega) (by rw [Nat.zero_add]; exact Nat.le_refl _) ?_
    rw [List.append_nil] at h
    exact h
  · exact appS_own e n b m cs c0 B l j _ sl sl k bb hl ht hla hn rfl rfl hp hb h2 h
/-! a slice against nil -/
def nilO (b : Bool) (a : Option Addr) (neg : Bool) : Option Value := if b = true then some (.bool (neg != a.isNone)) else none
@[go_sem] theorem bin_nileq (t : TypeId) (c : Bool) (a : Option Addr) (n k n2 k2 : Nat) : xBin P .eql t c (.slice a n k) (.slice none n2 k2) = nilO (isSl P t) a false := by simp [xBin, nilO]
@[go_sem] theorem bin_nilne (t : TypeId) (c : Bool) (a : Option Addr) (n k n2 k2 : Nat) : xBin P .neq t c (.slice a n k) (.slice none n2 k2) = nilO (isSl P t) a true := by simp [xBin, nilO]
@[go_sem] theorem nilO_some (a : Addr) (neg : Bool) : nilO true (some a) neg = some (.bool neg) := by cases neg <;> rfl
@[go_sem] theorem nilO_none (neg : Bool) : nilO true none neg = some (.bool !neg) := by cases neg <;> rfl
/-- A slice clipped. -/
theorem slc_clip {t : TypeId} {e m : Nat} (he : elm P t = some (e, m)) {b o : Nat} {sp : Option Nat} {len cap : Nat} (hc : len ≤ cap) {k1 k2 : IntKind} (H : Hp) {K : Value → Hp → Prop} (k : Lk K) (bb : Bool) (ee : Option (TypeId × Nat)) (ho : ownB P H m b sp)
    (hk : K (.slice (some ⟨b, o, sp⟩) len len) H) : slcV P w0 t bb ee (.slice (some ⟨b, o, sp⟩) len cap) none (some (.int k1 (len : Int))) (some (.int k2 (len : Int))) H k := by
  refine ⟨e, m, he, by simp, 0, len, len, rfl, rfl, rfl, Int.le_refl _, by omega, Int.le_refl _, by omega, ho, .inr (.inl ⟨by simp, ?_⟩)⟩
  have : (if (len : Int).toNat = (0 : Int).toNat then o else o + (0 : Int).toNat * m) = o := by split <;> simp
  rw [this]
  simpa using hk
end
end Go.Proofs.YtcmflpdgfddmeaaDoorW.XM

namespace Go.Proofs
open Go.Shelf
def Tryd.lays260_ren : Go.Shelf.Ren := ⟨fun | 260 => 75 | n => n, fun | 9 => 9 | 21 => 21 | 3 => 3 | 4 => 4 | 5 => 5 | 119 => 91 | 0 => 0 | 46 => 92 | 139 => 95 | 138 => 94 | n => n, fun | 3 => 0 | 4 => 1 | n => n⟩
theorem Tryd.lays260 : Go.Proofs.Lays.n260 Tryd.prog Tryd.lays260_ren := {
  mixed := by kernel_rfl
  f260 := Tryd.func75.trans (congrArg some (by kernel_rfl))
  t0 := Tryd.underlying0
  a0 := Tryd.isAgg0
  z0 := Tryd.sizeOf0
  v0 := Tryd.zeroValue0
  t3 := Tryd.underlying3
  a3 := Tryd.isAgg3
  z3 := Tryd.sizeOf3
  v3 := Tryd.zeroValue3
  t4 := Tryd.underlying4
  a4 := Tryd.isAgg4
  z4 := Tryd.sizeOf4
  v4 := Tryd.zeroValue4
  t5 := Tryd.underlying5
  a5 := Tryd.isAgg5
  z5 := Tryd.sizeOf5
  v5 := Tryd.zeroValue5
  t9 := Tryd.underlying9
  a9 := Tryd.isAgg9
  z9 := Tryd.sizeOf9
  v9 := Tryd.zeroValue9
  t21 := Tryd.underlying21
  a21 := Tryd.isAgg21
  z21 := Tryd.sizeOf21
  v21 := Tryd.zeroValue21
  t46 := Tryd.underlying92
  a46 := Tryd.isAgg92
  z46 := Tryd.sizeOf92
  v46 := Tryd.zeroValue92
  t119 := Tryd.underlying91
  a119 := Tryd.isAgg91
  z119 := Tryd.sizeOf91
  t138 := Tryd.underlying94
  a138 := Tryd.isAgg94
  z138 := Tryd.sizeOf94
  v138 := Tryd.zeroValue94
  t139 := Tryd.underlying95
  a139 := Tryd.isAgg95
  z139 := Tryd.sizeOf95
  v139 := Tryd.zeroValue95
  g3 := by kernel_rfl
  g4 := by kernel_rfl }
def Tryd.lays197_ren : Go.Shelf.Ren := ⟨fun | 197 => 71 | 260 => 75 | n => n, fun | 9 => 9 | 21 => 21 | 3 => 3 | 4 => 4 | 5 => 5 | 105 => 85 | 119 => 91 | 0 => 0 | 46 => 92 | 139 => 95 | 138 => 94 | n => n, fun | 3 => 0 | 4 => 1 | n => n⟩
theorem Tryd.lays197 : Go.Proofs.Lays.n197 Tryd.prog Tryd.lays197_ren := {
  mixed := by kernel_rfl
  f197 := Tryd.func71.trans (congrArg some (by kernel_rfl))
  f260 := Tryd.func75.trans (congrArg some (by kernel_rfl))
  t0 := Tryd.underlying0
  a0 := Tryd.isAgg0
  z0 := Tryd.sizeOf0
  v0 := Tryd.zeroValue0
  t3 := Tryd.underlying3
  a3 := Tryd.isAgg3
  z3 := Tryd.sizeOf3
  v3 := Tryd.zeroValue3
  t4 := Tryd.underlying4
  a4 := Tryd.isAgg4
  z4 := Tryd.sizeOf4
  v4 := Tryd.zeroValue4
  t5 := Tryd.underlying5
  a5 := Tryd.isAgg5
  z5 := Tryd.sizeOf5
  v5 := Tryd.zeroValue5
  t9 := Tryd.underlying9
  a9 := Tryd.isAgg9
  z9 := Tryd.sizeOf9
  v9 := Tryd.zeroValue9
  t21 := Tryd.underlying21
  a21 := Tryd.isAgg21
  z21 := Tryd.sizeOf21
  v21 := Tryd.zeroValue21
  t46 := Tryd.underlying92
  a46 := Tryd.isAgg92
  z46 := Tryd.sizeOf92
  v46 := Tryd.zeroValue92
  t105 := Tryd.underlying85
  a105 := Tryd.isAgg85
  z105 := Tryd.sizeOf85
  v105 := Tryd.zeroValue85
  t119 := Tryd.underlying91
  a119 := Tryd.isAgg91
  z119 := Tryd.sizeOf91
  t138 := Tryd.underlying94
  a138 := Tryd.isAgg94
  z138 := Tryd.sizeOf94
  v138 := Tryd.zeroValue94
  t139 := Tryd.underlying95
  a139 := Tryd.isAgg95
  z139 := Tryd.sizeOf95
  v139 := Tryd.zeroValue95
  g3 := by kernel_rfl
  g4 := by kernel_rfl }
open Go.RowKit Go.Lib in
/-- **unicode/utf8.DecodeRuneInString AT EVERY STRING.** (LAID: no walk: one application.) -/
theorem Tryd.utf8_DecodeRuneInString (s : ByteArray) (w : World) (hT : Lib.Utf8Tabs 0 1 w) :
    Calls Tryd.prog 71 #[.string s] w fun e w' => e = .returned (.tuple #[.int .i32 (Lib.decodeGo s).1, .int .i64 (Lib.decodeGo s).2]) ∧ Below w.heap.size w w' := Any.utf8_DecodeRuneInString Tryd.lays197 s w hT
end Go.Proofs

namespace Go.Proofs.YtcmflpdgfddmeaaDoorW.XWords
open Go.Shelf Go.RowKit
/-- The two tables of unicode/utf8 stand in memory as their initialisers lay them. -/
def Tabs (w : World) : Prop := Lib.Utf8Tabs (Tryd.lays260_ren.g 3) (Tryd.lays260_ren.g 4) w
theorem Tabs_below {w w' : World} (h : Tabs w) (hb : Below w.heap.size w w') : Tabs w' := Utf8Tabs_below h hb
theorem decode_calls (s : ByteArray) (w : World) (hT : Tabs w) : Calls Tryd.prog (Tryd.lays197_ren.f 197) #[.string s] w fun e w' => e = .returned (.tuple #[.int .i32 (Lib.decodeGo s).1, .int .i64 (Lib.decodeGo s).2]) ∧ Below w.heap.size w w' :=
  Any.utf8_DecodeRuneInString Tryd.lays197 s w hT
end Go.Proofs.YtcmflpdgfddmeaaDoorW.XWords

namespace Go.Proofs.YtcmflpdgfddmeaaDoorW.FA
open Go.RowKit Go.Proofs.YtcmflpdgfddmeaaDoorW.XM Go.Proofs Go.Lib
set_option linter.unusedVariables false
set_option linter.unusedSimpArgs false
abbrev cont (b : Nat) : Prop := 128 ≤ b ∧ b ≤ 191
abbrev sgN (n : Nat) : Prop := n = 9 ∨ n = 10 ∨ (32 ≤ n ∧ n ≤ 55295) ∨ (57344 ≤ n ∧ n ≤ 65533) ∨ (65536 ≤ n ∧ n ≤ 1114111)
/-- How many bytes a sign has that begins with these four; 0, if none does. -/
def widN (a b c d : Nat) : Nat :=
  if a < 128 then (if a = 9 ∨ a = 10 ∨ 32 ≤ a then 1 else 0)
  else if 194 ≤ a ∧ a ≤ 223 then (if cont b then 2 else 0)
  else if 224 ≤ a ∧ a ≤ 239 then (if cont b ∧ cont c ∧ (a = 224 → 160 ≤ b) ∧ (a = 237 → b < 160) ∧ ¬ (a = 239 ∧ b = 191 ∧ 190 ≤ c) then 3 else 0)
  else if 240 ≤ a ∧ a ≤ 244 then (if cont b ∧ cont c ∧ cont d ∧ (a = 240 → 144 ≤ b) ∧ (a = 244 → b < 144) then 4 else 0)
  else 0
/-- Its number. -/
def valN (a b c d : Nat) : Nat := if a < 128 then a else if a < 224 then a % 32 * 64 + b % 64 else if a < 240 then a % 16 * 4096 + b % 64 * 64 + c % 64 else a % 8 * 262144 + b % 64 * 4096 + c % 64 * 64 + d % 64
set_option maxHeartbeats 4000000 in
theorem dec_wid (n a b c d : Nat) (hb : 1 < n ∨ b = 0) (hc : 2 < n ∨ c = 0) (hd : 3 < n ∨ d = 0) :
    (sgN (decodeN n a b c d).1 ∧ ((decodeN n a b c d).1 ≠ 65533 ∨ (decodeN n a b c d).2 = 3) → widN a b c d = (decodeN n a b c d).2 ∧ valN a b c d = (decodeN n a b c d).1) ∧
    (¬ (sgN (decodeN n a b c d).1 ∧ ((decodeN n a b c d).1 ≠ 65533 ∨ (decodeN n a b c d).2 = 3)) → widN a b c d = 0) := by
  unfold decodeN widN valN sgN
  by_cases h1 : a < 128
  · simp only [h1, if_true]
    constructor
    · intro h
      have h9 : a = 9 ∨ a = 10 ∨ 32 ≤ a := by have := h.1; omega
      exact ⟨if_pos h9, trivial⟩
    · intro h
      by_cases h9 : a = 9 ∨ a = 10 ∨ 32 ≤ a
      · exact absurd ⟨by omega, .inl (by omega)⟩ h
      · exact if_neg h9
  simp only [h1, if_false]
  by_cases h2 : a / 32 = 6 ∧ (1 < n ∧ b / 64 = 2)
  · rw [if_pos h2]
    constructor
    · intro h
      by_cases h3 : a % 32 * 64 + b % 64 ≥ 128
      · rw [if_pos h3] at h ⊢; dsimp only at h ⊢; repeat' split
        all_goals omega
      · rw [if_neg h3] at h; dsimp only at h; omega
    · intro h
      by_cases h3 : a % 32 * 64 + b % 64 ≥ 128
      · rw [if_pos h3] at h; dsimp only at h; repeat' split
        all_goals omega
      · repeat' split
        all_goals omega
  rw [if_neg h2]
  by_cases h4 : a / 16 = 14 ∧ (1 < n ∧ b / 64 = 2) ∧ (2 < n ∧ c / 64 = 2)
  · rw [if_pos h4]
    constructor
    · intro h
      split at h
      · rename_i h3; rw [if_pos h3]; dsimp only at h ⊢; repeat' split
        all_goals omega
      · dsimp only at h; omega
    · intro h
      split at h
      · dsimp only at h; repeat' split
        all_goals omega
      · repeat' split
        all_goals omega
  rw [if_neg h4]
  by_cases h5 : a / 8 = 30 ∧ (1 < n ∧ b / 64 = 2) ∧ (2 < n ∧ c / 64 = 2) ∧ (3 < n ∧ d / 64 = 2)
  · rw [if_pos h5]
    constructor
    · intro h
      split at h
      · rename_i h3; rw [if_pos h3]; dsimp only at h ⊢; repeat' split
        all_goals omega
      · dsimp only at h; omega
    · intro h
      split at h
      · dsimp only at h; repeat' split
        all_goals omega
      · repeat' split
        all_goals omega
  rw [if_neg h5]
  constructor
  · intro h; dsimp only at h; omega
  · intro h; repeat' split
    all_goals omega
theorem dec_bound (n a b c d : Nat) (hn : 0 < n) : 1 ≤ (decodeN n a b c d).2 ∧ (decodeN n a b c d).2 ≤ n ∧ (decodeN n a b c d).1 ≤ 2097152 := by
  unfold decodeN
  repeat' split
  all_goals (dsimp only; omega)
/-! ### the bytes of a text -/
def b4 (s : ByteArray) (i : Nat) : Nat := (s.data.getD i 0).toNat
theorem bt_b4 (s : ByteArray) (i : Nat) : bt s i = (b4 s i : Int) := rfl
theorem b4_lt (s : ByteArray) (i : Nat) : b4 s i < 256 := (s.data.getD i 0).toNat_lt
theorem b4_out (s : ByteArray) (i : Nat) (h : s.size ≤ i) : b4 s i = 0 := by
  unfold b4 Array.getD
  rw [dif_neg (by have : s.data.size = s.size := rfl; omega)]
  rfl
theorem b4_in (s : ByteArray) (i : Nat) (h : i < s.size) : b4 s i = (s[i]'h).toNat := by
  have h' : i < s.data.size := h
  unfold b4 Array.getD
  rw [dif_pos h']
  rfl
theorem get_b4 (s : ByteArray) (i : Nat) : (s.get! i).toNat = b4 s i := by
  by_cases h : i < s.size
  · rw [b4_in s i h]
    have e : s.get! i = s[i]'h := by
      obtain ⟨d⟩ := s
      exact getElem!_pos d i h
    rw [e]
  · rw [b4_out s i (by omega)]
    have e : s.get! i = default := by
      obtain ⟨d⟩ := s
      exact getElem!_neg d i h
    rw [e]
    rfl
theorem b4_extract (s : ByteArray) (i n j : Nat) (hn : n ≤ s.size) : b4 (s.extract i n) j = if i + j < n then b4 s (i + j) else 0 := by
  by_cases h : i + j < n
  · rw [if_pos h, b4_in _ j (by rw [ByteArray.size_extract]; omega), b4_in s (i + j) (by omega), ByteArray.getElem_extract]
  · rw [if_neg h, b4_out _ j (by rw [ByteArray.size_extract]; omega)]
/-- How many bytes the sign has with which a text goes on at a place; 0, if none does. -/
def wid (s : ByteArray) (i : Nat) : Nat := widN (b4 s i) (b4 s (i + 1)) (b4 s (i + 2)) (b4 s (i + 3))
def val (s : ByteArray) (i : Nat) : Nat := valN (b4 s i) (b4 s (i + 1)) (b4 s (i + 2)) (b4 s (i + 3))
theorem wid_le (s : ByteArray) (i : Nat) (h : i < s.size) : i + wid s i ≤ s.size := by
  have h1 : 1 < s.size - i ∨ b4 s (i + 1) = 0 := by
    rcases Nat.lt_or_ge 1 (s.size - i) with q | q
    · exact .inl q
    · exact .inr (b4_out s _ (by omega))
  have h2 : 2 < s.size - i ∨ b4 s (i + 2) = 0 := by
    rcases Nat.lt_or_ge 2 (s.size - i) with q | q
    · exact .inl q
    · exact .inr (b4_out s _ (by omega))
  have h3 : 3 < s.size - i ∨ b4 s (i + 3) = 0 := by
    rcases Nat.lt_or_ge 3 (s.size - i) with q | q
    · exact .inl q
    · exact .inr (b4_out s _ (by omega))
  unfold wid widN
  repeat' split
  all_goals omega
/-- All of a text, from a place on, is signs. -/
def okAt : Nat → ByteArray → Nat → Bool
  | 0, _, _ => true
  | f + 1, s, i => if s.size ≤ i then true else if wid s i = 0 then false else okAt f s (i + wid s i)
theorem okAt_more (s : ByteArray) : ∀ (f g i : Nat), s.size - i ≤ f → s.size - i ≤ g → okAt f s i = okAt g s i := by
  intro f
  induction f with
  | zero =>
    intro g i hf _
    cases g with
    | zero => rfl
    | succ g => simp only [okAt]; rw [if_pos (by omega)]
  | succ f ih =>
    intro g i hf hg
    cases g with
    | zero => simp only [okAt]; rw [if_pos (by omega)]
    | succ g =>
      simp only [okAt]
      by_cases h : s.size ≤ i
      · rw [if_pos h, if_pos h]
      · rw [if_neg h, if_neg h]
        by_cases hz : wid s i = 0
        · rw [if_pos hz, if_pos hz]
        · rw [if_neg hz, if_neg hz]
          exact ih g _ (by omega) (by omega)
def ok (s : ByteArray) : Bool := okAt s.size s 0
theorem ok_step (s : ByteArray) (i : Nat) : okAt (s.size - i) s i = if s.size ≤ i then true else if wid s i = 0 then false else okAt (s.size - (i + wid s i)) s (i + wid s i) := by
  by_cases h : s.size ≤ i
  · rw [if_pos h, show s.size - i = 0 by omega]
    rfl
  · rw [if_neg h]
    obtain ⟨m, hm⟩ : ∃ m, s.size - i = m + 1 := ⟨s.size - i - 1, by omega⟩
    rw [hm]
    simp only [okAt]
    rw [if_neg h]
    by_cases hz : wid s i = 0
    · rw [if_pos hz, if_pos hz]
    · rw [if_neg hz, if_neg hz]
      exact okAt_more s _ _ _ (by omega) (by omega)
theorem data_length (s : ByteArray) : s.data.toList.length = s.size := by simp
theorem toList_empty (s : ByteArray) : s.toList = ([] : List UInt8) ↔ s.size = 0 := by
  rw [Lib.toList_data]
  constructor
  · intro h
    have := congrArg List.length h
    rw [data_length] at this
    exact this
  · intro h
    exact List.eq_nil_of_length_eq_zero (by rw [data_length]; exact h)
theorem eq_empty (s : ByteArray) : (s.toList == (ByteArray.mk #[]).toList) = decide (s.size = 0) := by
  have e : (ByteArray.mk #[]).toList = [] := by rw [Lib.toList_data]
  rw [e, Bool.eq_iff_iff, beq_iff_eq, decide_eq_true_eq]
  exact toList_empty s
theorem wid_extract (s : ByteArray) (i : Nat) (j : Nat) (hi : i ≤ s.size) : wid (s.extract i s.size) j = wid s (i + j) := by
  have e : ∀ q, b4 (s.extract i s.size) q = b4 s (i + q) := fun q => by
    rw [b4_extract s i s.size q (Nat.le_refl _)]
    by_cases h : i + q < s.size
    · rw [if_pos h]
    · rw [if_neg h, b4_out s _ (by omega)]
  unfold wid
  rw [e, e, e, e]
  rfl
theorem extract_extract (s : ByteArray) (i m : Nat) (h : i + m ≤ s.size) : (s.extract i s.size).extract m (s.extract i s.size).size = s.extract (i + m) s.size := by
  rw [ByteArray.extract_extract, ByteArray.size_extract]
  congr 1
  omega
abbrev sec (a b : Nat) : Prop := (a = 224 → 160 ≤ b) ∧ (a = 237 → b < 160) ∧ (a = 240 → 144 ≤ b) ∧ (a = 244 → b < 144)
/-- What the decoder answers at the head of a text that is not empty. -/
theorem dec_head (s : ByteArray) (h : 0 < s.size) : ∃ R K : Nat, Lib.decodeGo s = (R, K) ∧ 1 ≤ K ∧ K ≤ s.size ∧ R ≤ 2097152 ∧ (sgN R ∧ (R ≠ 65533 ∨ K = 3) → wid s 0 = K ∧ val s 0 = R) ∧ (¬ (sgN R ∧ (R ≠ 65533 ∨ K = 3)) → wid s 0 = 0) := by
  have hd : Lib.decodeGo s = decodeN (s.size - 0) (b4 s 0) (b4 s 1) (b4 s 2) (b4 s 3) := by
    unfold Lib.decodeGo
    rw [if_neg (by omega), decode_at, get_b4, get_b4, get_b4, get_b4]
  obtain ⟨q1, q2, q3⟩ := dec_bound (s.size - 0) (b4 s 0) (b4 s 1) (b4 s 2) (b4 s 3) (by omega)
  have hw := dec_wid (s.size - 0) (b4 s 0) (b4 s 1) (b4 s 2) (b4 s 3)
    (by rcases Nat.lt_or_ge 1 (s.size - 0) with q | q; exact .inl q; exact .inr (b4_out s _ (by omega)))
    (by rcases Nat.lt_or_ge 2 (s.size - 0) with q | q; exact .inl q; exact .inr (b4_out s _ (by omega)))
    (by rcases Nat.lt_or_ge 3 (s.size - 0) with q | q; exact .inl q; exact .inr (b4_out s _ (by omega)))
  exact ⟨_, _, hd, q1, Nat.le_trans q2 (Nat.sub_le _ _), q3, hw.1, hw.2⟩
end Go.Proofs.YtcmflpdgfddmeaaDoorW.FA

namespace Go.Proofs.YtcmflpdgfddmeaaDoorW.FA
open Go.RowKit Go.Proofs.YtcmflpdgfddmeaaDoorW.XM Go.Proofs
set_option maxRecDepth 100000
set_option linter.unusedSimpArgs false
variable (w0 : World) (H : Hp)
theorem signOk_ok (n : Nat) : AFn Tryd.prog w0 72 #[.int .i64 n] H fun v H2 => v = .bool (decide (sgN n)) ∧ H2 = H := by
  refine AFn.scal rfl Tryd.func72 rfl (by kernel_rfl) ?_
  have r := Tryd.results72
  simp only [go_sem, cond, Nat.reduceAdd, Nat.reduceLeDiff, Nat.reduceEqDiff, Nat.reduceBEq, decide_true, decide_false, Int.toNat_natCast, r]
  repeat' (first | (refine Br_intro ?_ ?_ <;> intro h <;> simp only [go_sem, cond, Nat.reduceAdd, Nat.reduceLeDiff, Nat.reduceEqDiff, Nat.reduceBEq, decide_true, decide_false, Int.toNat_natCast, h, r]) | (refine call_eq (within_ok _ _ _ _ _) ?_; simp only [go_sem, cond, Nat.reduceAdd, Nat.reduceLeDiff, Nat.reduceEqDiff, Nat.reduceBEq, decide_true, decide_false, Int.toNat_natCast, r]))
  all_goals exact ⟨by congr 1; rw [Bool.eq_iff_iff]; simp_all [inB]; omega, _, rfl⟩
theorem l1Sign_ok (n : Nat) : AFn Tryd.prog w0 78 #[.int .i64 n] H fun v H2 => v = .bool (decide (sgN n)) ∧ H2 = H := by
  refine AFn.scal rfl Tryd.func78 rfl (by kernel_rfl) ?_
  have r := Tryd.results78
  simp only [go_sem, cond, Nat.reduceAdd, Nat.reduceLeDiff, Nat.reduceEqDiff, Nat.reduceBEq, decide_true, decide_false, Int.toNat_natCast, r]
  repeat' (first | (refine Br_intro ?_ ?_ <;> intro h <;> simp only [go_sem, cond, Nat.reduceAdd, Nat.reduceLeDiff, Nat.reduceEqDiff, Nat.reduceBEq, decide_true, decide_false, Int.toNat_natCast, h, r]) | (refine call_eq (l1In_ok _ _ _ _ _) ?_; simp only [go_sem, cond, Nat.reduceAdd, Nat.reduceLeDiff, Nat.reduceEqDiff, Nat.reduceBEq, decide_true, decide_false, Int.toNat_natCast, r]))
  all_goals exact ⟨by congr 1; rw [Bool.eq_iff_iff]; simp_all [inB]; omega, _, rfl⟩
end Go.Proofs.YtcmflpdgfddmeaaDoorW.FA

namespace Go.Proofs.YtcmflpdgfddmeaaDoorW.FA
open Go.RowKit Go.Proofs.YtcmflpdgfddmeaaDoorW.XM Go.Proofs Go.Proofs.YtcmflpdgfddmeaaDoorW.XWords
set_option maxRecDepth 100000
set_option linter.unusedSimpArgs false
variable (w0 : World) (H : Hp)
theorem decode_ok (s : ByteArray) (hT : Tabs w0) : AFn Tryd.prog w0 71 #[.string s] H fun v H2 => v = .tuple #[.int .i32 (Lib.decodeGo s).1, .int .i64 (Lib.decodeGo s).2] ∧ H2 = H :=
  AFn_ofCallsV ⟨_, Tryd.func71, rfl, rfl⟩ (by intro x hx; simp at hx; subst hx; rfl) (fun _ _ => plainTup (by intro x hx; simp at hx; rcases hx with rfl | rfl <;> rfl))
    (fun w hw => decode_calls s w (Tabs_below hT hw)) ⟨rfl, rfl⟩
theorem sign_ok (s : ByteArray) (hT : Tabs w0) (h0 : 0 < s.size) (hs : s.size ≤ 1000000000000) : AFn Tryd.prog w0 67 #[.string s] H fun v H2 => v = .tuple #[.string (s.extract 0 (Lib.decodeGo s).2), .bool (decide (0 < wid s 0))] ∧ H2 = H := by
  obtain ⟨R, K, hd, k1, k2, k3, k4, k5⟩ := dec_head s h0
  have d1 : IntKind.i64.wrap (R : Int) = (R : Int) := wrap_i64 (by omega) (by omega)
  have d2 : ((0 : Int) ≤ 0 ∧ (0 : Int) ≤ (K : Int) ∧ (K : Int) ≤ (s.size : Int)) = True := eq_true (by omega)
  refine AFn.scal rfl Tryd.func67 rfl (by kernel_rfl) ?_
  have r := Tryd.results67
  simp only [go_sem, cond, Nat.reduceAdd, Nat.reduceLeDiff, Nat.reduceEqDiff, Nat.reduceBEq, decide_true, decide_false, Int.toNat_natCast, r]
  refine call_eq (decode_ok w0 _ s hT) ?_
  rw [hd]
  simp only [go_sem, cond, Nat.reduceAdd, Nat.reduceLeDiff, Nat.reduceEqDiff, Nat.reduceBEq, decide_true, decide_false, Int.toNat_natCast, r, d1, d2]
  (refine xw_open (id := 2) [0, 0, 3, 0, 8, 24, 56, 120, 248, 504, 1016, 2040, 4088, 8184, 1023, 32767] [.q 0, .q 1, .q 2, .q 3, .q 4, .e 5, .q 6, .q 7, .q 8, .q 9, .q 10, .q 11, .q 12, .q 13, .q 14, .q 15] rfl (by kernel_rfl) ?_; simp only [go_sem, cond, Nat.reduceAdd, Nat.reduceLeDiff, Nat.reduceEqDiff, Nat.reduceBEq, decide_true, decide_false, Int.toNat_natCast, r, d1, d2])
  repeat' (first | (refine Br_intro ?_ ?_ <;> intro h <;> simp only [go_sem, cond, Nat.reduceAdd, Nat.reduceLeDiff, Nat.reduceEqDiff, Nat.reduceBEq, decide_true, decide_false, Int.toNat_natCast, h, r, d1, d2]) | (refine call_eq (signOk_ok _ _ _) ?_; simp only [go_sem, cond, Nat.reduceAdd, Nat.reduceLeDiff, Nat.reduceEqDiff, Nat.reduceBEq, decide_true, decide_false, Int.toNat_natCast, r, d1, d2]))
  all_goals refine ⟨?_, _, rfl⟩
  · have hR : R = 65533 := by simp at h; omega
    have hg := of_decide_eq_true ‹decide (sgN R) = true›
    by_cases hk : K = 3
    · have := (k4 ⟨hg, .inr hk⟩).1
      rw [show decide (0 < wid s 0) = true from decide_eq_true (by omega), show ((K : Int) == 3) = true by subst hk; rfl]
    · have := k5 (fun z => z.2.elim (fun z => z hR) hk)
      rw [show decide (0 < wid s 0) = false from decide_eq_false (by omega), show ((K : Int) == 3) = false from by rw [beq_eq_false_iff_ne]; omega]
  · have hR : R ≠ 65533 := by intro e; subst e; simp at h
    have := (k4 ⟨of_decide_eq_true ‹decide (sgN R) = true›, .inl hR⟩).1
    rw [show decide (0 < wid s 0) = true from decide_eq_true (by omega)]
  · have := k5 (fun z => of_decide_eq_false h z.1)
    rw [show decide (0 < wid s 0) = false from decide_eq_false (by omega)]
theorem dec_wid0 (s : ByteArray) (h0 : 0 < s.size) (hp : 0 < wid s 0) : (Lib.decodeGo s).2 = wid s 0 := by
  obtain ⟨R, K, hd, k1, k2, k3, k4, k5⟩ := dec_head s h0
  rw [hd]
  by_cases hs : sgN R ∧ (R ≠ 65533 ∨ K = 3)
  · exact (k4 hs).1.symm
  · have := k5 hs; omega
theorem TextOk_ok (s : ByteArray) (hT : Tabs w0) (hs : s.size ≤ 1000000000000) : AFn Tryd.prog w0 52 #[.string s] H fun v H2 => v = .bool (ok s) ∧ H2 = H := by
  refine AFn.scal rfl Tryd.func52 rfl (by kernel_rfl) ?_
  have r := Tryd.results52
  simp only [go_sem, cond, Nat.reduceAdd, Nat.reduceLeDiff, Nat.reduceEqDiff, Nat.reduceBEq, decide_true, decide_false, Int.toNat_natCast, r]
  refine xw_loop (fun (i : Nat) T H' => i ≤ s.size ∧ okAt (s.size - i) s i = ok s ∧ T 0 = .string (s.extract i s.size) ∧ H' = Hx H []) (fun i => s.size - i) 0 (by kernel_rfl) ⟨Nat.zero_le _, rfl, by rw [ByteArray.extract_zero_size]; rfl, rfl⟩ ?_
  rintro i T H' ⟨hi, he, t0, rfl⟩
  have hz : (s.extract i s.size).size = s.size - i := by rw [ByteArray.size_extract]; omega
  rw [ok_step] at he
  by_cases hlt : i < s.size
  · have d1 : ((s.extract i s.size).toList == (ByteArray.mk #[]).toList) = false := by rw [eq_empty]; exact decide_eq_false (by omega)
    have wx := wid_extract s i 0 hi
    rw [Nat.add_zero] at wx
    rw [if_neg (by omega)] at he
    simp only [go_sem, cond, Nat.reduceAdd, Nat.reduceLeDiff, Nat.reduceEqDiff, Nat.reduceBEq, decide_true, decide_false, Int.toNat_natCast, t0, d1, Bool.not_false]
    refine call_eq (sign_ok _ _ _ hT (by omega) (by omega)) ?_
    simp only [go_sem, cond, Nat.reduceAdd, Nat.reduceLeDiff, Nat.reduceEqDiff, Nat.reduceBEq, decide_true, decide_false, Int.toNat_natCast, t0, r]
    refine Br_intro ?_ ?_ <;> intro h
    · have hp : 0 < wid (s.extract i s.size) 0 := of_decide_eq_true h
      rw [dec_wid0 _ (by omega) hp]
      have hle := wid_le s i hlt
      have hl : ((s.extract i s.size).extract 0 (wid (s.extract i s.size) 0)).size = wid s i := by rw [ByteArray.size_extract, wx]; omega
      have d2 : ((0 : Int) ≤ (wid s i : Int) ∧ (wid s i : Int) ≤ ((s.extract i s.size).size : Int) ∧ ((s.extract i s.size).size : Int) ≤ ((s.extract i s.size).size : Int)) = True := eq_true (by omega)
      rw [if_neg (by omega)] at he
      simp only [go_sem, cond, Nat.reduceAdd, Nat.reduceLeDiff, Nat.reduceEqDiff, Nat.reduceBEq, decide_true, decide_false, Int.toNat_natCast, t0, r, hl, d2]
      refine ⟨i + wid s i, ⟨hle, he, ?_, rfl⟩, show s.size - (i + wid s i) < s.size - i by omega⟩
      show Value.string ((s.extract i s.size).extract (wid s i) (s.extract i s.size).size) = _
      rw [extract_extract s i _ hle]
    · have : wid s i = 0 := by have := of_decide_eq_false h; omega
      rw [if_pos this] at he
      simp only [go_sem, cond, Nat.reduceAdd, Nat.reduceLeDiff, Nat.reduceEqDiff, Nat.reduceBEq, decide_true, decide_false, Int.toNat_natCast, t0, r]
      exact ⟨by rw [← he], _, rfl⟩
  · obtain rfl : i = s.size := by omega
    have d1 : ((s.extract s.size s.size).toList == (ByteArray.mk #[]).toList) = true := by rw [eq_empty]; exact decide_eq_true (by omega)
    rw [if_pos (Nat.le_refl _)] at he
    simp only [go_sem, cond, Nat.reduceAdd, Nat.reduceLeDiff, Nat.reduceEqDiff, Nat.reduceBEq, decide_true, decide_false, Int.toNat_natCast, t0, d1, Bool.not_true, r]
    exact ⟨by rw [← he], _, rfl⟩
end Go.Proofs.YtcmflpdgfddmeaaDoorW.FA

namespace Go.Proofs.YtcmflpdgfddmeaaDoorW.FA
open Go.RowKit Go.Proofs.YtcmflpdgfddmeaaDoorW.XM Go.Proofs
set_option maxRecDepth 100000
set_option linter.unusedSimpArgs false
variable (w0 : World) (H : Hp)
def lead (a : Nat) : Nat := if a < 128 then 1 else if 194 ≤ a ∧ a ≤ 223 then 2 else if 224 ≤ a ∧ a ≤ 239 then 3 else if 240 ≤ a ∧ a ≤ 244 then 4 else 0
theorem l1Lead_ok (a : Nat) (ha : a < 256) : AFn Tryd.prog w0 76 #[.int .u8 a] H fun v H2 => v = .int .i64 (lead a) ∧ H2 = H := by
  have d1 : IntKind.i64.wrap (a : Int) = (a : Int) := wrap_i64 (by omega) (by omega)
  refine AFn.scal rfl Tryd.func76 rfl (by kernel_rfl) ?_
  have r := Tryd.results76
  simp only [go_sem, cond, Nat.reduceAdd, Nat.reduceLeDiff, Nat.reduceEqDiff, Nat.reduceBEq, decide_true, decide_false, Int.toNat_natCast, r]
  repeat' (first | (refine Br_intro ?_ ?_ <;> intro h <;> simp only [go_sem, cond, Nat.reduceAdd, Nat.reduceLeDiff, Nat.reduceEqDiff, Nat.reduceBEq, decide_true, decide_false, Int.toNat_natCast, h, r, d1]) | (refine call_eq (l1In_ok _ _ _ _ _) ?_; simp only [go_sem, cond, Nat.reduceAdd, Nat.reduceLeDiff, Nat.reduceEqDiff, Nat.reduceBEq, decide_true, decide_false, Int.toNat_natCast, r, d1]))
  all_goals refine ⟨congrArg (Value.int .i64) ?_, _, rfl⟩
  all_goals simp only [inB, decide_eq_true_eq, decide_eq_false_iff_not, Bool.and_eq_true, Bool.and_eq_false_imp] at *
  all_goals unfold lead
  all_goals repeat' split
  all_goals first | rfl | (exfalso; omega)
theorem l1Second_ok (a b : Nat) : AFn Tryd.prog w0 77 #[.int .i64 a, .int .i64 b] H fun v H2 => v = .bool (decide (sec a b)) ∧ H2 = H := by
  refine AFn.scal rfl Tryd.func77 rfl (by kernel_rfl) ?_
  have r := Tryd.results77
  simp only [go_sem, cond, Nat.reduceAdd, Nat.reduceLeDiff, Nat.reduceEqDiff, Nat.reduceBEq, decide_true, decide_false, Int.toNat_natCast, r]
  repeat' (refine Br_intro ?_ ?_ <;> intro h <;> simp only [go_sem, cond, Nat.reduceAdd, Nat.reduceLeDiff, Nat.reduceEqDiff, Nat.reduceBEq, decide_true, decide_false, Int.toNat_natCast, h, r])
  all_goals refine ⟨congrArg Value.bool ?_, _, rfl⟩
  all_goals simp only [beq_iff_eq, beq_eq_false_iff_ne, ne_eq] at *
  all_goals rw [Bool.eq_iff_iff]
  all_goals simp
  all_goals omega
end Go.Proofs.YtcmflpdgfddmeaaDoorW.FA

namespace Go.Proofs.YtcmflpdgfddmeaaDoorW.FA
open Go.RowKit Go.Proofs.YtcmflpdgfddmeaaDoorW.XM Go.Proofs
set_option maxRecDepth 100000
set_option linter.unusedSimpArgs false
variable (w0 : World) (H : Hp)
/-- What the bytes behind the first make of it. -/
def nx (s : ByteArray) (i m : Nat) : Nat → Nat → Nat → Int × Int
  | 0, _, n => if m = 0 then (0, 0) else if sgN n then ((n : Int), (m : Int)) else (0, 0)
  | f + 1, j, n => if s.size ≤ i + j then (0, -1) else if cont (b4 s (i + j)) ∧ (j = 1 → sec (b4 s i) (b4 s (i + 1))) then nx s i m f (j + 1) (n * 64 + b4 s (i + j) - 128) else (0, 0)
def n0 (s : ByteArray) (i m : Nat) : Nat := if m ≤ 1 then b4 s i else b4 s i % (if m = 2 then 32 else if m = 3 then 16 else 8)
def capN (j : Nat) : Nat := if j ≤ 1 then 255 else if j ≤ 2 then 20000 else if j ≤ 3 then 2000000 else 200000000
theorem nx_end (s : ByteArray) (i m j n : Nat) (h : ¬ j < m) : nx s i m (m - j) j n = if m = 0 then (0, 0) else if sgN n then ((n : Int), (m : Int)) else (0, 0) := by
  rw [show m - j = 0 by omega, nx]
theorem nx_step (s : ByteArray) (i m j n : Nat) (h : j < m) : nx s i m (m - j) j n = if s.size ≤ i + j then (0, -1) else if cont (b4 s (i + j)) ∧ (j = 1 → sec (b4 s i) (b4 s (i + 1))) then nx s i m (m - (j + 1)) (j + 1) (n * 64 + b4 s (i + j) - 128) else (0, 0) := by
  rw [show m - j = (m - (j + 1)) + 1 by omega, nx]
theorem l1Next_ok (s : ByteArray) (i : Nat) (hi : i < s.size) (hs : s.size ≤ 1000000000000) : AFn Tryd.prog w0 74 #[.string s, .int .i64 i] H fun v H2 => v = .tuple #[.int .i64 (nx s i (lead (b4 s i)) (lead (b4 s i) - 1) 1 (n0 s i (lead (b4 s i)))).1, .int .i64 (nx s i (lead (b4 s i)) (lead (b4 s i) - 1) 1 (n0 s i (lead (b4 s i)))).2] ∧ H2 = H := by
  have d1 : ((0 : Int) ≤ (i : Int) ∧ (i : Int) < (s.size : Int)) = True := eq_true (by omega)
  have hb := b4_lt s i
  have hm4 : lead (b4 s i) ≤ 4 := by unfold lead; repeat' split
                                     all_goals omega
  generalize hm : lead (b4 s i) = m at hm4
  refine AFn.scal rfl Tryd.func74 rfl (by kernel_rfl) ?_
  have r := Tryd.results74
  simp only [go_sem, cond, Nat.reduceAdd, Nat.reduceLeDiff, Nat.reduceEqDiff, Nat.reduceBEq, decide_true, decide_false, Int.toNat_natCast, r]
  simp only [go_sem, cond, Nat.reduceAdd, Nat.reduceLeDiff, Nat.reduceEqDiff, Nat.reduceBEq, decide_true, decide_false, Int.toNat_natCast, d1]
  refine call_eq (l1Lead_ok _ _ (b4 s i) hb) ?_
  rw [hm]
  simp only [go_sem, cond, Nat.reduceAdd, Nat.reduceLeDiff, Nat.reduceEqDiff, Nat.reduceBEq, decide_true, decide_false, Int.toNat_natCast, d1]
  have cap0 : n0 s i m ≤ capN 1 := by
    unfold capN; rw [if_pos (Nat.le_refl _)]; unfold n0; repeat' split
    all_goals omega
  generalize hN : nx s i m (m - 1) 1 (n0 s i m) = N
  refine Br_intro ?_ ?_ <;> intro h <;> simp only [go_sem, cond, Nat.reduceAdd, Nat.reduceLeDiff, Nat.reduceEqDiff, Nat.reduceBEq, decide_true, decide_false, Int.toNat_natCast, h, d1]
  case' refine_1 =>
    have hgt : 1 < m := by have := of_decide_eq_true h; omega
    refine bsV_dense ⟨_, XF.zer_3, rfl⟩ rfl rfl (by decide) rfl ?_
    have c0 : ∃ q : Nat, 0 < q ∧ b4 s i % q = n0 s i m ∧ rdO (some (some (.row 3 [.int .i64 0, .int .i64 0, .int .i64 32, .int .i64 16, .int .i64 8]))) (m * 1) 5 1 = some [.int .i64 q] := by
      have : m = 2 ∨ m = 3 ∨ m = 4 := by omega
      rcases this with rfl | rfl | rfl <;> exact ⟨_, by decide, rfl, rfl⟩
    obtain ⟨q, hq, hn, c0⟩ := c0
    have d2 : ((0 : Int) ≤ (m : Int) ∧ (m : Int) < ((5 : Nat) : Int)) = True := eq_true (by omega)
    have hq' : (q : Int) ≠ 0 := by omega
    have e3 : (b4 s i : Int).tmod (q : Int) = (n0 s i m : Int) := by rw [Int.tmod_eq_emod_of_nonneg (by omega), ← Int.natCast_emod, hn]
    have e3 : (bt s i).tmod (q : Int) = (n0 s i m : Int) := e3
    simp only [go_sem, cond, Nat.reduceAdd, Nat.reduceLeDiff, Nat.reduceEqDiff, Nat.reduceBEq, decide_true, decide_false, Int.toNat_natCast, d1, d2, c0, bin_rem, hq', ne_eq, not_false_eq_true, e3]
  case' refine_2 =>
    have hgt : m ≤ 1 := by have := of_decide_eq_false h; omega
    have e3 : bt s i = (n0 s i m : Int) := by unfold n0; rw [if_pos hgt]; rfl
    rw [e3]
  all_goals refine xw_loop (fun (j : Nat) T H' => 1 ≤ j ∧ (j = 1 ∨ j ≤ m) ∧ (∃ n : Nat, n ≤ capN j ∧ T 7 = .int .i64 n ∧ nx s i m (m - j) j n = N) ∧ T 0 = .string s ∧ T 1 = .int .i64 i ∧ T 6 = .int .i64 m ∧ T 8 = .int .i64 j ∧ ∃ l, H' = Hx H l) (fun j => m - j) 1 (by kernel_rfl) ⟨Nat.le_refl _, .inl rfl, ⟨n0 s i m, cap0, rfl, hN⟩, rfl, rfl, rfl, rfl, _, rfl⟩ ?_
  all_goals rintro j T H' ⟨hj1, hjm, ⟨n, hn, t7, hx⟩, t0, t1, t6, t8, l, rfl⟩
  all_goals
    by_cases hlt : j < m
    · rw [nx_step s i m j n hlt] at hx
      have hj3 : j = 1 ∨ j = 2 ∨ j = 3 := by omega
      have d3 : IntKind.i64.wrap ((i : Int) + (j : Int)) = ((i + j : Nat) : Int) := by rw [← Int.natCast_add]; exact wrap_i64 (by omega) (by omega)
      have d4 : ((j : Int) < (m : Int)) = True := eq_true (by omega)
      by_cases ho : s.size ≤ i + j
      · have d5 : (((i + j : Nat) : Int) ≥ (s.size : Int)) = True := eq_true (by omega)
        rw [if_pos ho] at hx
        simp only [go_sem, cond, Nat.reduceAdd, Nat.reduceLeDiff, Nat.reduceEqDiff, Nat.reduceBEq, decide_true, decide_false, Int.toNat_natCast, t0, t1, t6, t7, t8, d1, d3, d4, d5, ge_iff_le, r]
        exact ⟨by rw [← hx], _, rfl⟩
      · have d5 : ((s.size : Int) ≤ ((i + j : Nat) : Int)) = False := eq_false (by omega)
        have d6 : ((0 : Int) ≤ ((i + j : Nat) : Int) ∧ ((i + j : Nat) : Int) < (s.size : Int)) = True := eq_true (by omega)
        rw [if_neg ho] at hx
        simp only [go_sem, cond, Nat.reduceAdd, Nat.reduceLeDiff, Nat.reduceEqDiff, Nat.reduceBEq, decide_true, decide_false, Int.toNat_natCast, t0, t1, t6, t7, t8, d1, d3, d4, d5, d6, ge_iff_le, r]
        refine call_eq (l1In_ok _ _ _ _ _) ?_
        simp only [go_sem, cond, Nat.reduceAdd, Nat.reduceLeDiff, Nat.reduceEqDiff, Nat.reduceBEq, decide_true, decide_false, Int.toNat_natCast, t0, t1, t6, t7, t8, d1, d3, d4, d5, d6, ge_iff_le, r]
        have hbl := b4_lt s (i + j)
        have hcap : n ≤ 2000000 := by unfold capN at hn; rcases hj3 with rfl | rfl | rfl <;> simp at hn <;> omega
        refine Br_intro ?_ ?_ <;> intro h1 <;> simp only [go_sem, cond, Nat.reduceAdd, Nat.reduceLeDiff, Nat.reduceEqDiff, Nat.reduceBEq, decide_true, decide_false, Int.toNat_natCast, h1, t0, t1, t6, t7, t8, d1, d3, d4, d5, d6, ge_iff_le, r]
        · have hc : cont (b4 s (i + j)) := by
            simp only [inB, Bool.and_eq_true, decide_eq_true_eq] at h1
            have := bt_b4 s (i + j)
            exact ⟨by omega, by omega⟩
          have hv : IntKind.i64.wrap (IntKind.i64.wrap (IntKind.i64.wrap ((n : Int) * 64) + bt s (i + j)) - 128) = ((n * 64 + b4 s (i + j) - 128 : Nat) : Int) := by
            have := hc.1
            rw [bt_b4, wrap_i64 (x := (n : Int) * 64) (by omega) (by omega), wrap_i64 (x := (n : Int) * 64 + (b4 s (i + j) : Int)) (by omega) (by omega), wrap_i64 (by omega) (by omega)]
            omega
          refine Br_intro ?_ ?_ <;> intro h2 <;> simp only [go_sem, cond, Nat.reduceAdd, Nat.reduceLeDiff, Nat.reduceEqDiff, Nat.reduceBEq, decide_true, decide_false, Int.toNat_natCast, h2, t0, t1, t6, t7, t8, d1, d3, d4, d5, d6, ge_iff_le, r]
          · have hj : j = 1 := by have := eq_of_beq h2; omega
            refine call_eq (l1Second_ok _ _ (b4 s i) (b4 s (i + j))) ?_
            simp only [go_sem, cond, Nat.reduceAdd, Nat.reduceLeDiff, Nat.reduceEqDiff, Nat.reduceBEq, decide_true, decide_false, Int.toNat_natCast, t0, t1, t6, t7, t8, d1, d3, d4, d5, d6, ge_iff_le, r]
            refine Br_intro ?_ ?_ <;> intro h3 <;> simp only [go_sem, cond, Nat.reduceAdd, Nat.reduceLeDiff, Nat.reduceEqDiff, Nat.reduceBEq, decide_true, decide_false, Int.toNat_natCast, h3, t0, t1, t6, t7, t8, d1, d3, d4, d5, d6, ge_iff_le, r]
            · have hC : cont (b4 s (i + j)) ∧ (j = 1 → sec (b4 s i) (b4 s (i + 1))) := ⟨hc, fun e => by subst e; exact of_decide_eq_true h3⟩
              rw [if_pos hC] at hx
              exact ⟨j + 1, ⟨by omega, by omega, ⟨n * 64 + b4 s (i + j) - 128, by unfold capN at hn ⊢; rcases hj3 with rfl | rfl | rfl <;> simp at hn ⊢ <;> omega, congrArg (Value.int .i64) hv, hx⟩, t0, t1, t6, congrArg (Value.int .i64) (wrap_i64 (by omega) (by omega)), l, rfl⟩, (by show m - (j + 1) < m - j; omega)⟩
            · rw [if_neg (fun z => of_decide_eq_false h3 (by have := z.2 hj; rw [hj]; exact this))] at hx
              exact ⟨by rw [← hx], _, rfl⟩
          · have hC : cont (b4 s (i + j)) ∧ (j = 1 → sec (b4 s i) (b4 s (i + 1))) := ⟨hc, fun e => by subst e; simp at h2⟩
            rw [if_pos hC] at hx
            exact ⟨j + 1, ⟨by omega, by omega, ⟨n * 64 + b4 s (i + j) - 128, by unfold capN at hn ⊢; rcases hj3 with rfl | rfl | rfl <;> simp at hn ⊢ <;> omega, congrArg (Value.int .i64) hv, hx⟩, t0, t1, t6, congrArg (Value.int .i64) (wrap_i64 (by omega) (by omega)), l, rfl⟩, (by show m - (j + 1) < m - j; omega)⟩
        · rw [if_neg (fun z => by have := bt_b4 s (i + j); obtain ⟨⟨z1, z2⟩, _⟩ := z; simp only [inB, Bool.and_eq_false_iff, decide_eq_false_iff_not] at h1; omega)] at hx
          exact ⟨by rw [← hx], _, rfl⟩
    · rw [nx_end s i m j n hlt] at hx
      have d4 : ((j : Int) < (m : Int)) = False := eq_false (by omega)
      simp only [go_sem, cond, Nat.reduceAdd, Nat.reduceLeDiff, Nat.reduceEqDiff, Nat.reduceBEq, decide_true, decide_false, Int.toNat_natCast, t0, t1, t6, t7, t8, d4, r]
      refine Br_intro ?_ ?_ <;> intro h1 <;> simp only [go_sem, cond, Nat.reduceAdd, Nat.reduceLeDiff, Nat.reduceEqDiff, Nat.reduceBEq, decide_true, decide_false, Int.toNat_natCast, h1, t0, t1, t6, t7, t8, r]
      · rw [if_pos (by have := eq_of_beq h1; omega)] at hx
        exact ⟨by rw [← hx], _, rfl⟩
      · refine call_eq (l1Sign_ok _ _ n) ?_
        simp only [go_sem, cond, Nat.reduceAdd, Nat.reduceLeDiff, Nat.reduceEqDiff, Nat.reduceBEq, decide_true, decide_false, Int.toNat_natCast, t0, t1, t6, t7, t8, r]
        rw [if_neg (by intro e; subst e; simp at h1)] at hx
        refine Br_intro ?_ ?_ <;> intro h2 <;> simp only [go_sem, cond, Nat.reduceAdd, Nat.reduceLeDiff, Nat.reduceEqDiff, Nat.reduceBEq, decide_true, decide_false, Int.toNat_natCast, h2, t0, t1, t6, t7, t8, r]
        · rw [if_pos (of_decide_eq_true h2)] at hx
          exact ⟨by rw [← hx], _, rfl⟩
        · rw [if_neg (of_decide_eq_false h2)] at hx
          exact ⟨by rw [← hx], _, rfl⟩
end Go.Proofs.YtcmflpdgfddmeaaDoorW.FA

namespace Go.Proofs.YtcmflpdgfddmeaaDoorW.FA
open Go.RowKit Go.Proofs.YtcmflpdgfddmeaaDoorW.XM Go.Proofs
set_option maxRecDepth 100000
set_option linter.unusedSimpArgs false
def nxt (s : ByteArray) (i : Nat) : Int × Int := nx s i (lead (b4 s i)) (lead (b4 s i) - 1) 1 (n0 s i (lead (b4 s i)))
theorem nx0 (s : ByteArray) (i m j n : Nat) : nx s i m 0 j n = if m = 0 then (0, 0) else if sgN n then ((n : Int), (m : Int)) else (0, 0) := rfl
theorem nxS (s : ByteArray) (i m f j n : Nat) : nx s i m (f + 1) j n = if s.size ≤ i + j then (0, -1) else if cont (b4 s (i + j)) ∧ (j = 1 → sec (b4 s i) (b4 s (i + 1))) then nx s i m f (j + 1) (n * 64 + b4 s (i + j) - 128) else (0, 0) := rfl
set_option maxHeartbeats 4000000 in
theorem nx_wid (s : ByteArray) (i : Nat) (hi : i < s.size) : (wid s i ≠ 0 → nxt s i = ((val s i : Int), (wid s i : Int))) ∧ (wid s i = 0 → (nxt s i).2 < 1) := by
  have ha := b4_lt s i
  have o1 := b4_out s (i + 1)
  have o2 := b4_out s (i + 2)
  have o3 := b4_out s (i + 3)
  have w0 : wid s i = widN (b4 s i) (b4 s (i + 1)) (b4 s (i + 2)) (b4 s (i + 3)) := rfl
  have v0 : val s i = valN (b4 s i) (b4 s (i + 1)) (b4 s (i + 2)) (b4 s (i + 3)) := rfl
  have hq : nxt s i = nx s i (lead (b4 s i)) (lead (b4 s i) - 1) 1 (n0 s i (lead (b4 s i))) := rfl
  rw [w0, v0, hq]
  clear w0 v0 hq
  by_cases h1 : b4 s i < 128
  · have hl : lead (b4 s i) = 1 := by unfold lead; rw [if_pos h1]
    rw [hl]
    unfold widN valN
    rw [if_pos h1, if_pos h1, show n0 s i 1 = b4 s i from rfl, show 1 - 1 = 0 from rfl, nx0]
    rw [if_neg (show ¬ 1 = 0 by decide)]
    by_cases hg : sgN (b4 s i)
    · rw [if_pos hg, if_pos (by omega)]
      exact ⟨fun _ => rfl, fun h => by omega⟩
    · rw [if_neg hg, if_neg (by omega)]
      exact ⟨fun h => by omega, fun _ => by decide⟩
  by_cases h2 : 194 ≤ b4 s i ∧ b4 s i ≤ 223
  · have hl : lead (b4 s i) = 2 := by unfold lead; rw [if_neg h1, if_pos h2]
    rw [hl]
    unfold widN valN
    rw [if_neg h1, if_pos h2, if_neg h1, show n0 s i 2 = b4 s i % 32 from rfl, show 2 - 1 = 1 from rfl, nxS]
    rw [if_pos (show b4 s i < 224 by omega)]
    by_cases ho : s.size ≤ i + 1
    · rw [if_pos ho]
      have := o1 ho
      rw [if_neg (by omega)]
      exact ⟨fun h => by omega, fun _ => by decide⟩
    rw [if_neg ho]
    by_cases hc : cont (b4 s (i + 1))
    · rw [if_pos (show cont (b4 s (i + 1)) ∧ (1 = 1 → sec (b4 s i) (b4 s (i + 1))) from ⟨hc, fun _ => by omega⟩), if_pos hc, nx0, if_neg (show ¬ 2 = 0 by decide), if_pos (by omega)]
      exact ⟨fun _ => by rw [Prod.mk.injEq]; exact ⟨by omega, rfl⟩, fun h => by omega⟩
    · rw [if_neg (show ¬ (cont (b4 s (i + 1)) ∧ (1 = 1 → sec (b4 s i) (b4 s (i + 1)))) from fun z => hc z.1), if_neg hc]
      exact ⟨fun h => by omega, fun _ => by decide⟩
  by_cases h3 : 224 ≤ b4 s i ∧ b4 s i ≤ 239
  · have hl : lead (b4 s i) = 3 := by unfold lead; rw [if_neg h1, if_neg h2, if_pos h3]
    rw [hl]
    unfold widN valN
    rw [if_neg h1, if_neg h2, if_pos h3, if_neg h1, show n0 s i 3 = b4 s i % 16 from rfl, show 3 - 1 = 2 from rfl, nxS]
    rw [if_neg (show ¬ b4 s i < 224 by omega), if_pos (show b4 s i < 240 by omega)]
    by_cases ho : s.size ≤ i + 1
    · rw [if_pos ho]
      have := o1 ho
      rw [if_neg (by omega)]
      exact ⟨fun h => by omega, fun _ => by decide⟩
    rw [if_neg ho]
    by_cases hc : cont (b4 s (i + 1)) ∧ sec (b4 s i) (b4 s (i + 1))
    · rw [if_pos (show cont (b4 s (i + 1)) ∧ (1 = 1 → sec (b4 s i) (b4 s (i + 1))) from ⟨hc.1, fun _ => hc.2⟩), nxS, show 1 + 1 = 2 from rfl]
      by_cases ho2 : s.size ≤ i + 2
      · rw [if_pos ho2]
        have := o2 ho2
        rw [if_neg (by omega)]
        exact ⟨fun h => by omega, fun _ => by decide⟩
      rw [if_neg ho2]
      by_cases hc2 : cont (b4 s (i + 2))
      · rw [if_pos (show cont (b4 s (i + 2)) ∧ (2 = 1 → sec (b4 s i) (b4 s (i + 1))) from ⟨hc2, fun e => by omega⟩), nx0, if_neg (show ¬ 3 = 0 by decide)]
        by_cases hg : sgN ((b4 s i % 16 * 64 + b4 s (i + 1) - 128) * 64 + b4 s (i + 2) - 128)
        · rw [if_pos hg, if_pos (by omega)]
          exact ⟨fun _ => by rw [Prod.mk.injEq]; exact ⟨by omega, rfl⟩, fun h => by omega⟩
        · rw [if_neg hg, if_neg (by omega)]
          exact ⟨fun h => by omega, fun _ => by decide⟩
      · rw [if_neg (show ¬ (cont (b4 s (i + 2)) ∧ (2 = 1 → sec (b4 s i) (b4 s (i + 1)))) from fun z => hc2 z.1), if_neg (by omega)]
        exact ⟨fun h => by omega, fun _ => by decide⟩
    · rw [if_neg (show ¬ (cont (b4 s (i + 1)) ∧ (1 = 1 → sec (b4 s i) (b4 s (i + 1)))) from fun z => hc ⟨z.1, z.2 rfl⟩), if_neg (by omega)]
      exact ⟨fun h => by omega, fun _ => by decide⟩
  by_cases h4 : 240 ≤ b4 s i ∧ b4 s i ≤ 244
  · have hl : lead (b4 s i) = 4 := by unfold lead; rw [if_neg h1, if_neg h2, if_neg h3, if_pos h4]
    rw [hl]
    unfold widN valN
    rw [if_neg h1, if_neg h2, if_neg h3, if_pos h4, if_neg h1, show n0 s i 4 = b4 s i % 8 from rfl, show 4 - 1 = 3 from rfl, nxS]
    rw [if_neg (show ¬ b4 s i < 224 by omega), if_neg (show ¬ b4 s i < 240 by omega)]
    by_cases ho : s.size ≤ i + 1
    · rw [if_pos ho]
      have := o1 ho
      rw [if_neg (by omega)]
      exact ⟨fun h => by omega, fun _ => by decide⟩
    rw [if_neg ho]
    by_cases hc : cont (b4 s (i + 1)) ∧ sec (b4 s i) (b4 s (i + 1))
    · rw [if_pos (show cont (b4 s (i + 1)) ∧ (1 = 1 → sec (b4 s i) (b4 s (i + 1))) from ⟨hc.1, fun _ => hc.2⟩), nxS, show 1 + 1 = 2 from rfl]
      by_cases ho2 : s.size ≤ i + 2
      · rw [if_pos ho2]
        have := o2 ho2
        rw [if_neg (by omega)]
        exact ⟨fun h => by omega, fun _ => by decide⟩
      rw [if_neg ho2]
      by_cases hc2 : cont (b4 s (i + 2))
      · rw [if_pos (show cont (b4 s (i + 2)) ∧ (2 = 1 → sec (b4 s i) (b4 s (i + 1))) from ⟨hc2, fun e => by omega⟩), nxS, show 2 + 1 = 3 from rfl]
        by_cases ho3 : s.size ≤ i + 3
        · rw [if_pos ho3]
          have := o3 ho3
          rw [if_neg (by omega)]
          exact ⟨fun h => by omega, fun _ => by decide⟩
        rw [if_neg ho3]
        by_cases hc3 : cont (b4 s (i + 3))
        · rw [if_pos (show cont (b4 s (i + 3)) ∧ (3 = 1 → sec (b4 s i) (b4 s (i + 1))) from ⟨hc3, fun e => by omega⟩), nx0, if_neg (show ¬ 4 = 0 by decide), if_pos (by omega), if_pos (by omega)]
          exact ⟨fun _ => by rw [Prod.mk.injEq]; exact ⟨by omega, rfl⟩, fun h => by omega⟩
        · rw [if_neg (show ¬ (cont (b4 s (i + 3)) ∧ (3 = 1 → sec (b4 s i) (b4 s (i + 1)))) from fun z => hc3 z.1), if_neg (by omega)]
          exact ⟨fun h => by omega, fun _ => by decide⟩
      · rw [if_neg (show ¬ (cont (b4 s (i + 2)) ∧ (2 = 1 → sec (b4 s i) (b4 s (i + 1)))) from fun z => hc2 z.1), if_neg (by omega)]
        exact ⟨fun h => by omega, fun _ => by decide⟩
    · rw [if_neg (show ¬ (cont (b4 s (i + 1)) ∧ (1 = 1 → sec (b4 s i) (b4 s (i + 1)))) from fun z => hc ⟨z.1, z.2 rfl⟩), if_neg (by omega)]
      exact ⟨fun h => by omega, fun _ => by decide⟩
  have hl : lead (b4 s i) = 0 := by unfold lead; rw [if_neg h1, if_neg h2, if_neg h3, if_neg h4]
  rw [hl]
  unfold widN valN
  rw [if_neg h1, if_neg h2, if_neg h3, if_neg h4, show 0 - 1 = 0 from rfl, nx0]
  exact ⟨fun h => absurd rfl h, fun _ => by rw [if_pos rfl]; decide⟩
end Go.Proofs.YtcmflpdgfddmeaaDoorW.FA

namespace Go.Proofs.YtcmflpdgfddmeaaDoorW.FA
open Go.RowKit Go.Proofs.YtcmflpdgfddmeaaDoorW.XM Go.Proofs Go.Proofs.YtcmflpdgfddmeaaDoorW.XWords
set_option maxRecDepth 100000
set_option linter.unusedSimpArgs false
variable (w0 : World) (H : Hp)
theorem l1Utf_ok (s : ByteArray) (hs : s.size ≤ 1000000000000) : AFn Tryd.prog w0 69 #[.string s] H fun v H2 => v = .bool (ok s) ∧ H2 = H := by
  refine AFn.scal rfl Tryd.func69 rfl (by kernel_rfl) ?_
  have r := Tryd.results69
  simp only [go_sem, cond, Nat.reduceAdd, Nat.reduceLeDiff, Nat.reduceEqDiff, Nat.reduceBEq, decide_true, decide_false, Int.toNat_natCast, r]
  refine xw_loop (fun (i : Nat) T H' => i ≤ s.size ∧ okAt (s.size - i) s i = ok s ∧ T 0 = .string s ∧ T 3 = .int .i64 i ∧ H' = Hx H []) (fun i => s.size - i) 0 (by kernel_rfl) ⟨Nat.zero_le _, rfl, rfl, rfl, rfl⟩ ?_
  rintro i T H' ⟨hi, he, t0, t3, rfl⟩
  rw [ok_step] at he
  by_cases hlt : i < s.size
  · have d1 : ((i : Int) < (s.size : Int)) = True := eq_true (by omega)
    rw [if_neg (by omega)] at he
    simp only [go_sem, cond, Nat.reduceAdd, Nat.reduceLeDiff, Nat.reduceEqDiff, Nat.reduceBEq, decide_true, decide_false, Int.toNat_natCast, t0, t3, d1]
    refine call_eq (l1Next_ok _ _ s i hlt hs) ?_
    rw [show nx s i (lead (b4 s i)) (lead (b4 s i) - 1) 1 (n0 s i (lead (b4 s i))) = nxt s i from rfl]
    simp only [go_sem, cond, Nat.reduceAdd, Nat.reduceLeDiff, Nat.reduceEqDiff, Nat.reduceBEq, decide_true, decide_false, Int.toNat_natCast, t0, t3, d1]
    obtain ⟨n1, n2⟩ := nx_wid s i hlt
    by_cases hz : wid s i = 0
    · have d2 : ((nxt s i).2 < 1) = True := eq_true (n2 hz)
      rw [if_pos hz] at he
      simp only [go_sem, cond, Nat.reduceAdd, Nat.reduceLeDiff, Nat.reduceEqDiff, Nat.reduceBEq, decide_true, decide_false, Int.toNat_natCast, t0, t3, d1, d2, r]
      exact ⟨by rw [← he], _, rfl⟩
    · have d2 : ((wid s i : Int) < 1) = False := eq_false (by omega)
      have hle := wid_le s i hlt
      rw [if_neg hz] at he
      rw [n1 hz]
      simp only [go_sem, cond, Nat.reduceAdd, Nat.reduceLeDiff, Nat.reduceEqDiff, Nat.reduceBEq, decide_true, decide_false, Int.toNat_natCast, t0, t3, d1, d2, r]
      exact ⟨i + wid s i, ⟨hle, he, t0, congrArg (Value.int .i64) (by rw [← Int.natCast_add]; exact wrap_i64 (by omega) (by omega)), rfl⟩, (by show s.size - (i + wid s i) < s.size - i; omega)⟩
  · obtain rfl : i = s.size := by omega
    have d1 : ((s.size : Int) < (s.size : Int)) = False := eq_false (by omega)
    rw [if_pos (Nat.le_refl _)] at he
    simp only [go_sem, cond, Nat.reduceAdd, Nat.reduceLeDiff, Nat.reduceEqDiff, Nat.reduceBEq, decide_true, decide_false, Int.toNat_natCast, t0, t3, d1, r]
    exact ⟨by rw [← he], _, rfl⟩
def bodyB (s : ByteArray) : Bool := inB s.size 1 60 && ok s
theorem bodyOk_ok (s : ByteArray) (hT : Tabs w0) (hs : s.size ≤ 1000000000000) : AFn Tryd.prog w0 39 #[.string s] H fun v H2 => v = .bool (bodyB s) ∧ H2 = H := by
  refine AFn.scal rfl Tryd.func39 rfl (by kernel_rfl) ?_
  have r := Tryd.results39
  simp only [go_sem, cond, Nat.reduceAdd, Nat.reduceLeDiff, Nat.reduceEqDiff, Nat.reduceBEq, decide_true, decide_false, Int.toNat_natCast, r]
  refine call_eq (within_ok _ _ _ _ _) ?_
  simp only [go_sem, cond, Nat.reduceAdd, Nat.reduceLeDiff, Nat.reduceEqDiff, Nat.reduceBEq, decide_true, decide_false, Int.toNat_natCast, r]
  refine Br_intro ?_ ?_ <;> intro h <;> simp only [go_sem, cond, Nat.reduceAdd, Nat.reduceLeDiff, Nat.reduceEqDiff, Nat.reduceBEq, decide_true, decide_false, Int.toNat_natCast, h, r]
  · refine call_eq (TextOk_ok _ _ s hT hs) ?_
    simp only [go_sem, cond, Nat.reduceAdd, Nat.reduceLeDiff, Nat.reduceEqDiff, Nat.reduceBEq, decide_true, decide_false, Int.toNat_natCast, r]
    exact ⟨by rw [bodyB, h, Bool.true_and], _, rfl⟩
  · exact ⟨by rw [bodyB, h, Bool.false_and], _, rfl⟩
theorem l5Body_ok (s : ByteArray) (hs : s.size ≤ 1000000000000) : AFn Tryd.prog w0 57 #[.string s] H fun v H2 => v = .bool (bodyB s) ∧ H2 = H := by
  refine AFn.scal rfl Tryd.func57 rfl (by kernel_rfl) ?_
  have r := Tryd.results57
  simp only [go_sem, cond, Nat.reduceAdd, Nat.reduceLeDiff, Nat.reduceEqDiff, Nat.reduceBEq, decide_true, decide_false, Int.toNat_natCast, r]
  refine call_eq (l1Utf_ok _ _ s hs) ?_
  simp only [go_sem, cond, Nat.reduceAdd, Nat.reduceLeDiff, Nat.reduceEqDiff, Nat.reduceBEq, decide_true, decide_false, Int.toNat_natCast, r]
  refine Br_intro ?_ ?_ <;> intro h <;> simp only [go_sem, cond, Nat.reduceAdd, Nat.reduceLeDiff, Nat.reduceEqDiff, Nat.reduceBEq, decide_true, decide_false, Int.toNat_natCast, h, r]
  · refine call_eq (l1In_ok _ _ _ _ _) ?_
    simp only [go_sem, cond, Nat.reduceAdd, Nat.reduceLeDiff, Nat.reduceEqDiff, Nat.reduceBEq, decide_true, decide_false, Int.toNat_natCast, r]
    exact ⟨by rw [bodyB, h, Bool.and_true], _, rfl⟩
  · exact ⟨by rw [bodyB, h, Bool.and_false], _, rfl⟩
def niB (b : Int) : Bool := !(decide (b < 32)) && !(b == 127)
def nickB (s : ByteArray) : Bool := allB niB s && (inB s.size 1 10 && (ok s && (!(bt s 0 == 32) && !(bt s (s.size - 1) == 32))))
theorem nickOk_ok (s : ByteArray) (hT : Tabs w0) (hs : s.size ≤ 1000000000000) : AFn Tryd.prog w0 38 #[.string s] H fun v H2 => v = .bool (nickB s) ∧ H2 = H := by
  refine AFn.scal rfl Tryd.func38 rfl (by kernel_rfl) ?_
  have r := Tryd.results38
  simp only [go_sem, cond, Nat.reduceAdd, Nat.reduceLeDiff, Nat.reduceEqDiff, Nat.reduceBEq, decide_true, decide_false, Int.toNat_natCast, r]
  refine xw_loop (fun (i : Nat) T H' => i ≤ s.size ∧ allD niB s i = allB niB s ∧ T 0 = .string s ∧ T 6 = .slice (some ⟨nid H 0, 0, some s.size⟩) s.size s.size ∧ T 7 = .int .i64 s.size ∧ T 8 = .int .i64 i ∧ H' = Hx H [some (.row 5 (bytesV s))]) (fun i => s.size - i) 0 (by kernel_rfl) ⟨Nat.zero_le _, rfl, rfl, rfl, rfl, rfl, rfl⟩ ?_
  rintro i T H' ⟨hi, he, t0, t6, t7, t8, rfl⟩
  by_cases hlt : i < s.size
  · have d1 : ((i : Int) < (s.size : Int)) = True := eq_true (by omega)
    have d2 : (0 ≤ (i : Int)) = True := eq_true (by omega)
    have c0 := rdO_byte 5 s hlt
    rw [allD_step niB s hlt] at he
    simp only [go_sem, cond, Nat.reduceAdd, Nat.reduceLeDiff, Nat.reduceEqDiff, Nat.reduceBEq, decide_true, decide_false, Int.toNat_natCast, t0, t6, t7, t8, d1, d2, c0]
    repeat' (refine Br_intro ?_ ?_ <;> intro h <;> simp only [go_sem, cond, Nat.reduceAdd, Nat.reduceLeDiff, Nat.reduceEqDiff, Nat.reduceBEq, decide_true, decide_false, Int.toNat_natCast, h, t0, t6, t7, t8, d1, d2, r])
    all_goals first
      | (refine ⟨i + 1, ⟨hlt, ?_, t0, t6, t7, int_succ hlt hs, rfl⟩, lt_meas hlt⟩
         rw [← he, show niB (bt s i) = true by simp_all [niB], Bool.true_and])
      | exact ⟨by rw [nickB, ← he, show niB (bt s i) = false by simp_all [niB], Bool.false_and, Bool.false_and], _, rfl⟩
  · obtain rfl : i = s.size := by omega
    have d1 : ((s.size : Int) < (s.size : Int)) = False := eq_false (by omega)
    rw [allD_end] at he
    simp only [go_sem, cond, Nat.reduceAdd, Nat.reduceLeDiff, Nat.reduceEqDiff, Nat.reduceBEq, decide_true, decide_false, Int.toNat_natCast, t0, t7, t8, d1]
    refine call_eq (within_ok _ _ _ _ _) ?_
    simp only [go_sem, cond, Nat.reduceAdd, Nat.reduceLeDiff, Nat.reduceEqDiff, Nat.reduceBEq, decide_true, decide_false, Int.toNat_natCast, t0, r]
    refine Br_intro ?_ ?_ <;> intro h <;> simp only [go_sem, cond, Nat.reduceAdd, Nat.reduceLeDiff, Nat.reduceEqDiff, Nat.reduceBEq, decide_true, decide_false, Int.toNat_natCast, h, t0, r]
    · refine call_eq (TextOk_ok _ _ s hT hs) ?_
      have hp : 1 ≤ s.size ∧ s.size ≤ 10 := by simp only [inB, Bool.and_eq_true, decide_eq_true_eq] at h; omega
      have d2 : ((0 : Int) ≤ 0 ∧ (0 : Int) < (s.size : Int)) = True := eq_true (by omega)
      have d3 : IntKind.i64.wrap ((s.size : Int) - 1) = ((s.size - 1 : Nat) : Int) := by rw [wrap_i64 (by omega) (by omega)]; omega
      have d4 : ((0 : Int) ≤ ((s.size - 1 : Nat) : Int) ∧ ((s.size - 1 : Nat) : Int) < (s.size : Int)) = True := eq_true (by omega)
      simp only [go_sem, cond, Nat.reduceAdd, Nat.reduceLeDiff, Nat.reduceEqDiff, Nat.reduceBEq, decide_true, decide_false, Int.toNat_natCast, t0, r]
      repeat' (refine Br_intro ?_ ?_ <;> intro h2 <;> simp only [go_sem, cond, Nat.reduceAdd, Nat.reduceLeDiff, Nat.reduceEqDiff, Nat.reduceBEq, decide_true, decide_false, Int.toNat_natCast, h2, t0, d2, d3, d4, r])
      all_goals exact ⟨by rw [nickB, ← he]; simp_all, _, rfl⟩
    · exact ⟨by rw [nickB, h, Bool.false_and, Bool.and_false], _, rfl⟩
theorem l4Nick_ok (s : ByteArray) (hs : s.size ≤ 1000000000000) : AFn Tryd.prog w0 56 #[.string s] H fun v H2 => v = .bool (nickB s) ∧ H2 = H := by
  refine AFn.scal rfl Tryd.func56 rfl (by kernel_rfl) ?_
  have r := Tryd.results56
  simp only [go_sem, cond, Nat.reduceAdd, Nat.reduceLeDiff, Nat.reduceEqDiff, Nat.reduceBEq, decide_true, decide_false, Int.toNat_natCast, r]
  refine xw_loop (fun (i : Nat) T H' => i ≤ s.size ∧ allD niB s i = allB niB s ∧ T 0 = .string s ∧ T 3 = .int .i64 i ∧ H' = Hx H []) (fun i => s.size - i) 0 (by kernel_rfl) ⟨Nat.zero_le _, rfl, rfl, rfl, rfl⟩ ?_
  rintro i T H' ⟨hi, he, t0, t3, rfl⟩
  by_cases hlt : i < s.size
  · have d1 : ((i : Int) < (s.size : Int)) = True := eq_true (by omega)
    have d2 : (0 ≤ (i : Int)) = True := eq_true (by omega)
    rw [allD_step niB s hlt] at he
    simp only [go_sem, cond, Nat.reduceAdd, Nat.reduceLeDiff, Nat.reduceEqDiff, Nat.reduceBEq, decide_true, decide_false, Int.toNat_natCast, t0, t3, d1, d2]
    repeat' (refine Br_intro ?_ ?_ <;> intro h <;> simp only [go_sem, cond, Nat.reduceAdd, Nat.reduceLeDiff, Nat.reduceEqDiff, Nat.reduceBEq, decide_true, decide_false, Int.toNat_natCast, h, t0, t3, d1, d2, r])
    all_goals first
      | (refine ⟨i + 1, ⟨hlt, ?_, t0, int_succ hlt hs, rfl⟩, lt_meas hlt⟩
         rw [← he, show niB (bt s i) = true by simp_all [niB], Bool.true_and])
      | exact ⟨by rw [nickB, ← he, show niB (bt s i) = false by simp_all [niB], Bool.false_and, Bool.false_and], _, rfl⟩
  · obtain rfl : i = s.size := by omega
    have d1 : ((s.size : Int) < (s.size : Int)) = False := eq_false (by omega)
    rw [allD_end] at he
    simp only [go_sem, cond, Nat.reduceAdd, Nat.reduceLeDiff, Nat.reduceEqDiff, Nat.reduceBEq, decide_true, decide_false, Int.toNat_natCast, t0, t3, d1]
    refine call_eq (l1Utf_ok _ _ s hs) ?_
    simp only [go_sem, cond, Nat.reduceAdd, Nat.reduceLeDiff, Nat.reduceEqDiff, Nat.reduceBEq, decide_true, decide_false, Int.toNat_natCast, t0, r]
    refine Br_intro ?_ ?_ <;> intro h <;> simp only [go_sem, cond, Nat.reduceAdd, Nat.reduceLeDiff, Nat.reduceEqDiff, Nat.reduceBEq, decide_true, decide_false, Int.toNat_natCast, h, t0, r]
    · refine call_eq (l1In_ok _ _ _ _ _) ?_
      simp only [go_sem, cond, Nat.reduceAdd, Nat.reduceLeDiff, Nat.reduceEqDiff, Nat.reduceBEq, decide_true, decide_false, Int.toNat_natCast, t0, r]
      refine Br_intro ?_ ?_ <;> intro h3 <;> simp only [go_sem, cond, Nat.reduceAdd, Nat.reduceLeDiff, Nat.reduceEqDiff, Nat.reduceBEq, decide_true, decide_false, Int.toNat_natCast, h3, t0, r]
      · have hp : 1 ≤ s.size ∧ s.size ≤ 10 := by simp only [inB, Bool.and_eq_true, decide_eq_true_eq] at h3; omega
        have d2 : ((0 : Int) ≤ 0 ∧ (0 : Int) < (s.size : Int)) = True := eq_true (by omega)
        have d3 : IntKind.i64.wrap ((s.size : Int) - 1) = ((s.size - 1 : Nat) : Int) := by rw [wrap_i64 (by omega) (by omega)]; omega
        have d4 : ((0 : Int) ≤ ((s.size - 1 : Nat) : Int) ∧ ((s.size - 1 : Nat) : Int) < (s.size : Int)) = True := eq_true (by omega)
        simp only [go_sem, cond, Nat.reduceAdd, Nat.reduceLeDiff, Nat.reduceEqDiff, Nat.reduceBEq, decide_true, decide_false, Int.toNat_natCast, t0, r, d2, d3, d4]
        repeat' (refine Br_intro ?_ ?_ <;> intro h2 <;> simp only [go_sem, cond, Nat.reduceAdd, Nat.reduceLeDiff, Nat.reduceEqDiff, Nat.reduceBEq, decide_true, decide_false, Int.toNat_natCast, h2, t0, d2, d3, d4, r])
        all_goals exact ⟨by rw [nickB, ← he]; simp_all, _, rfl⟩
      · exact ⟨by rw [nickB, h3, Bool.false_and, Bool.and_false], _, rfl⟩
    · exact ⟨by rw [nickB, h, Bool.false_and, Bool.and_false, Bool.and_false], _, rfl⟩
end Go.Proofs.YtcmflpdgfddmeaaDoorW.FA

namespace Go.Proofs.YtcmflpdgfddmeaaDoorW.FA
open Go.RowKit Go.Proofs.YtcmflpdgfddmeaaDoorW.XM Go.Proofs Go.Proofs.YtcmflpdgfddmeaaDoorW.XWords
set_option maxRecDepth 100000
set_option linter.unusedSimpArgs false
variable (w0 : World) (H : Hp)
structure Mem where
  user : ByteArray
  nick : ByteArray
  role : Int
structure Rk where
  user : ByteArray
  num : Int
def Mem.enc (m : Mem) : List Value := [.string m.user, .string m.nick, .int .i64 m.role]
def Rk.enc (m : Rk) : List Value := [.string m.user, .int .i64 m.num]
/-- The first place where p is. -/
def idxP {α : Type} (p : α → Bool) : List α → Nat → Int
  | [], _ => -1
  | m :: r, i => if p m = true then i else idxP p r (i + 1)
theorem idxP_drop {α : Type} (p : α → Bool) (l : List α) (i : Nat) (hi : i < l.length) : idxP p (l.drop i) i = if p l[i] = true then (i : Int) else idxP p (l.drop (i + 1)) (i + 1) := by
  rw [List.drop_eq_getElem_cons hi, idxP]
def isU (u : ByteArray) (m : Mem) : Bool := m.user.toList == u.toList
def isN (u : ByteArray) (m : Mem) : Bool := m.nick.toList == u.toList
def rankB : List Rk → ByteArray → Int
  | [], _ => 1
  | x :: t, u => if (x.user.toList == u.toList) = true then x.num else rankB t u
theorem rankB_drop (l : List Rk) (u : ByteArray) (i : Nat) (hi : i < l.length) : rankB (l.drop i) u = if (l[i].user.toList == u.toList) = true then l[i].num else rankB (l.drop (i + 1)) u := by
  rw [List.drop_eq_getElem_cons hi, rankB]
def ownB : List Rk → Nat
  | [] => 0
  | x :: t => (if (x.num == 4) = true then 1 else 0) + ownB t
theorem ownB_drop (l : List Rk) (i : Nat) (hi : i < l.length) : ownB (l.drop i) = (if (l[i].num == 4) = true then 1 else 0) + ownB (l.drop (i + 1)) := by
  rw [List.drop_eq_getElem_cons hi, ownB]
/-- A room. -/
structure Rm where
  name : ByteArray
  next : Int
  ms : List Mem
  ks : List Rk
  subj : ByteArray
/-- Where a room's parts lie. -/
structure Ad where
  a : Option Addr
  c : Nat
  b : Option Addr
  d : Nat
def Rm.enc (r : Rm) (x : Ad) : List Value := [.string r.name, .int .i64 r.next, .slice x.a r.ms.length x.c, .slice x.b r.ks.length x.d, .string r.subj]
structure RmAt (w0 : World) (H : Hp) (r : Rm) (x : Ad) : Prop where
  sm : Sl w0 H x.a 3 (r.ms.map Mem.enc)
  sk : Sl w0 H x.b 2 (r.ks.map Rk.enc)
  lm : r.ms.length ≤ 2000000
  lk : r.ks.length ≤ 2000000
  om : ∀ L, src w0 (Hx H L) 3 (.slice x.a r.ms.length x.c) = some (r.ms.length, flat Mem.enc r.ms)
  ok : ∀ L, src w0 (Hx H L) 2 (.slice x.b r.ks.length x.d) = some (r.ks.length, flat Rk.enc r.ks)
variable {w0 H}
theorem RmAt.old {r : Rm} {x : Ad} (h : RmAt w0 H r x) (l : List (Option Ob)) : RmAt w0 (Hx H l) r x := ⟨h.sm.old l, h.sk.old l, h.lm, h.lk, fun L => by rw [Hx_Hx]; exact h.om _, fun L => by rw [Hx_Hx]; exact h.ok _⟩
/-- A slice's rows, one after the other. -/
theorem mcell {α : Type} {enc : α → List Value} {A : Option Addr} {n : Nat} {l : List α} (h : Sl w0 H A n (l.map enc)) {i : Nat} (hi : i < l.length) : ∃ b o sp, A = some ⟨b, o, sp⟩ ∧ (∀ (f : Nat) (v : Value) (L : List (Option Ob)), f < n → (enc l[i])[f]? = some v → rd w0 (Hx H L) ⟨b, o + i * n + f, sp⟩ 1 = some [v]) ∧ ∀ (L : List (Option Ob)), (enc l[i]).length = n → rd w0 (Hx H L) ⟨b, o + i * n, sp⟩ n = some (enc l[i]) := by
  obtain ⟨b, o, sp, e, hR⟩ := h.at (i := i) (by simpa using hi)
  exact ⟨b, o, sp, e, fun f v L hf hv => hR.cell (i := i) (by simp [hi]) f hf hv L, fun L hn => hR.row (i := i) (by simp [hi]) hn L⟩
variable (w0 H)
theorem l6Of_ok (R : Rm) (x : Ad) (u : ByteArray) (hr : RmAt w0 H R x) : AFn Tryd.prog w0 47 #[.agg (R.enc x).toArray, .string u] H fun v H2 => v = .int .i64 (idxP (isU u) R.ms 0) ∧ H2 = H := by
  have hl := hr.lm
  refine AFn.scal rfl Tryd.func47 rfl (by kernel_rfl) ?_
  have r := Tryd.results47
  simp only [go_sem, cond, Nat.reduceAdd, Nat.reduceLeDiff, Nat.reduceEqDiff, Nat.reduceBEq, decide_true, decide_false, Int.toNat_natCast, r]
  simp only [go_sem, cond, Nat.reduceAdd, Nat.reduceLeDiff, Nat.reduceEqDiff, Nat.reduceBEq, decide_true, decide_false, Int.toNat_natCast, Rm.enc]
  refine xw_loop (fun (i : Nat) T H' => i ≤ R.ms.length ∧ idxP (isU u) (R.ms.drop i) i = idxP (isU u) R.ms 0 ∧ T 1 = .string u ∧ T 2 = .pointer (some ⟨nid H 0, 0, some 5⟩) ∧ T 5 = .int .i64 i ∧ H' = Hx H [some (.row 59 (R.enc x))]) (fun i => R.ms.length - i) 0 (by kernel_rfl) ⟨Nat.zero_le _, rfl, rfl, rfl, rfl, rfl⟩ ?_
  rintro i T H' ⟨hi, he, t1, t2, t5, rfl⟩
  by_cases hlt : i < R.ms.length
  · obtain ⟨b, o, sp, hx, hc, _⟩ := mcell hr.sm hlt
    have c0 := hc 0 (.string R.ms[i].user) [some (.row 59 (R.enc x))] (by decide) rfl
    have d1 : ((i : Int) < (R.ms.length : Int)) = True := eq_true (by omega)
    have d2 : (0 ≤ (i : Int)) = True := eq_true (by omega)
    rw [idxP_drop _ _ i hlt] at he
    simp only [Rm.enc, hx] at c0
    simp only [go_sem, cond, Nat.reduceAdd, Nat.reduceLeDiff, Nat.reduceEqDiff, Nat.reduceBEq, decide_true, decide_false, Int.toNat_natCast, Rm.enc, hx, t1, t2, t5, d1, d2, c0]
    refine Br_intro ?_ ?_ <;> intro h <;> simp only [go_sem, cond, Nat.reduceAdd, Nat.reduceLeDiff, Nat.reduceEqDiff, Nat.reduceBEq, decide_true, decide_false, Int.toNat_natCast, t1, t2, t5, h, r]
    · rw [if_pos (show isU u R.ms[i] = true from h)] at he
      exact ⟨by rw [he], _, rfl⟩
    · rw [if_neg (by rw [isU, h]; decide)] at he
      exact ⟨i + 1, ⟨hlt, he, t1, t2, int_succ hlt (by omega), by simp only [Rm.enc, hx]⟩, lt_meas hlt⟩
  · obtain rfl : i = R.ms.length := by omega
    have d1 : ((R.ms.length : Int) < (R.ms.length : Int)) = False := eq_false (by omega)
    rw [List.drop_length] at he
    simp only [go_sem, cond, Nat.reduceAdd, Nat.reduceLeDiff, Nat.reduceEqDiff, Nat.reduceBEq, decide_true, decide_false, Int.toNat_natCast, Rm.enc, t1, t2, t5, d1, r]
    exact ⟨by rw [← he]; rfl, _, rfl⟩
theorem l6Nick_ok (R : Rm) (x : Ad) (u : ByteArray) (hr : RmAt w0 H R x) : AFn Tryd.prog w0 59 #[.agg (R.enc x).toArray, .string u] H fun v H2 => v = .int .i64 (idxP (isN u) R.ms 0) ∧ H2 = H := by
  have hl := hr.lm
  refine AFn.scal rfl Tryd.func59 rfl (by kernel_rfl) ?_
  have r := Tryd.results59
  simp only [go_sem, cond, Nat.reduceAdd, Nat.reduceLeDiff, Nat.reduceEqDiff, Nat.reduceBEq, decide_true, decide_false, Int.toNat_natCast, r]
  simp only [go_sem, cond, Nat.reduceAdd, Nat.reduceLeDiff, Nat.reduceEqDiff, Nat.reduceBEq, decide_true, decide_false, Int.toNat_natCast, Rm.enc]
  refine xw_loop (fun (i : Nat) T H' => i ≤ R.ms.length ∧ idxP (isN u) (R.ms.drop i) i = idxP (isN u) R.ms 0 ∧ T 1 = .string u ∧ T 2 = .pointer (some ⟨nid H 0, 0, some 5⟩) ∧ T 5 = .int .i64 i ∧ H' = Hx H [some (.row 59 (R.enc x))]) (fun i => R.ms.length - i) 0 (by kernel_rfl) ⟨Nat.zero_le _, rfl, rfl, rfl, rfl, rfl⟩ ?_
  rintro i T H' ⟨hi, he, t1, t2, t5, rfl⟩
  by_cases hlt : i < R.ms.length
  · obtain ⟨b, o, sp, hx, hc, _⟩ := mcell hr.sm hlt
    have c0 := hc 1 (.string R.ms[i].nick) [some (.row 59 (R.enc x))] (by decide) rfl
    have d1 : ((i : Int) < (R.ms.length : Int)) = True := eq_true (by omega)
    have d2 : (0 ≤ (i : Int)) = True := eq_true (by omega)
    rw [idxP_drop _ _ i hlt] at he
    simp only [Rm.enc, hx] at c0
    simp only [go_sem, cond, Nat.reduceAdd, Nat.reduceLeDiff, Nat.reduceEqDiff, Nat.reduceBEq, decide_true, decide_false, Int.toNat_natCast, Rm.enc, hx, t1, t2, t5, d1, d2, c0]
    refine Br_intro ?_ ?_ <;> intro h <;> simp only [go_sem, cond, Nat.reduceAdd, Nat.reduceLeDiff, Nat.reduceEqDiff, Nat.reduceBEq, decide_true, decide_false, Int.toNat_natCast, t1, t2, t5, h, r]
    · rw [if_pos (show isN u R.ms[i] = true from h)] at he
      exact ⟨by rw [he], _, rfl⟩
    · rw [if_neg (by rw [isN, h]; decide)] at he
      exact ⟨i + 1, ⟨hlt, he, t1, t2, int_succ hlt (by omega), by simp only [Rm.enc, hx]⟩, lt_meas hlt⟩
  · obtain rfl : i = R.ms.length := by omega
    have d1 : ((R.ms.length : Int) < (R.ms.length : Int)) = False := eq_false (by omega)
    rw [List.drop_length] at he
    simp only [go_sem, cond, Nat.reduceAdd, Nat.reduceLeDiff, Nat.reduceEqDiff, Nat.reduceBEq, decide_true, decide_false, Int.toNat_natCast, Rm.enc, t1, t2, t5, d1, r]
    exact ⟨by rw [← he]; rfl, _, rfl⟩
theorem l6Rank_ok (R : Rm) (x : Ad) (u : ByteArray) (hr : RmAt w0 H R x) : AFn Tryd.prog w0 58 #[.agg (R.enc x).toArray, .string u] H fun v H2 => v = .int .i64 (rankB R.ks u) ∧ H2 = H := by
  have hl := hr.lk
  refine AFn.scal rfl Tryd.func58 rfl (by kernel_rfl) ?_
  have r := Tryd.results58
  simp only [go_sem, cond, Nat.reduceAdd, Nat.reduceLeDiff, Nat.reduceEqDiff, Nat.reduceBEq, decide_true, decide_false, Int.toNat_natCast, r]
  simp only [go_sem, cond, Nat.reduceAdd, Nat.reduceLeDiff, Nat.reduceEqDiff, Nat.reduceBEq, decide_true, decide_false, Int.toNat_natCast, Rm.enc]
  refine xw_loop (fun (i : Nat) T H' => i ≤ R.ks.length ∧ rankB (R.ks.drop i) u = rankB R.ks u ∧ T 1 = .string u ∧ T 2 = .pointer (some ⟨nid H 0, 0, some 5⟩) ∧ T 5 = .int .i64 i ∧ H' = Hx H [some (.row 59 (R.enc x))]) (fun i => R.ks.length - i) 0 (by kernel_rfl) ⟨Nat.zero_le _, rfl, rfl, rfl, rfl, rfl⟩ ?_
  rintro i T H' ⟨hi, he, t1, t2, t5, rfl⟩
  by_cases hlt : i < R.ks.length
  · obtain ⟨b, o, sp, hx, hc, _⟩ := mcell hr.sk hlt
    have c0 := hc 0 (.string R.ks[i].user) [some (.row 59 (R.enc x))] (by decide) rfl
    have c1 := hc 1 (.int .i64 R.ks[i].num) [some (.row 59 (R.enc x))] (by decide) rfl
    have d1 : ((i : Int) < (R.ks.length : Int)) = True := eq_true (by omega)
    have d2 : (0 ≤ (i : Int)) = True := eq_true (by omega)
    rw [rankB_drop _ _ i hlt] at he
    simp only [Rm.enc, hx] at c0 c1
    simp only [go_sem, cond, Nat.reduceAdd, Nat.reduceLeDiff, Nat.reduceEqDiff, Nat.reduceBEq, decide_true, decide_false, Int.toNat_natCast, Rm.enc, hx, t1, t2, t5, d1, d2, c0]
    refine Br_intro ?_ ?_ <;> intro h <;> simp only [go_sem, cond, Nat.reduceAdd, Nat.reduceLeDiff, Nat.reduceEqDiff, Nat.reduceBEq, decide_true, decide_false, Int.toNat_natCast, t1, t2, t5, h, r, d1, d2, c1]
    · rw [if_pos h] at he
      exact ⟨by rw [he], _, rfl⟩
    · rw [if_neg (by rw [h]; decide)] at he
      exact ⟨i + 1, ⟨hlt, he, t1, t2, int_succ hlt (by omega), by simp only [Rm.enc, hx]⟩, lt_meas hlt⟩
  · obtain rfl : i = R.ks.length := by omega
    have d1 : ((R.ks.length : Int) < (R.ks.length : Int)) = False := eq_false (by omega)
    rw [List.drop_length] at he
    simp only [go_sem, cond, Nat.reduceAdd, Nat.reduceLeDiff, Nat.reduceEqDiff, Nat.reduceBEq, decide_true, decide_false, Int.toNat_natCast, Rm.enc, t1, t2, t5, d1, r]
    exact ⟨by rw [← he]; rfl, _, rfl⟩
theorem l6Owners_ok (R : Rm) (x : Ad) (hr : RmAt w0 H R x) : AFn Tryd.prog w0 70 #[.agg (R.enc x).toArray] H fun v H2 => v = .int .i64 (ownB R.ks) ∧ H2 = H := by
  have hl := hr.lk
  refine AFn.scal rfl Tryd.func70 rfl (by kernel_rfl) ?_
  have r := Tryd.results70
  simp only [go_sem, cond, Nat.reduceAdd, Nat.reduceLeDiff, Nat.reduceEqDiff, Nat.reduceBEq, decide_true, decide_false, Int.toNat_natCast, r]
  simp only [go_sem, cond, Nat.reduceAdd, Nat.reduceLeDiff, Nat.reduceEqDiff, Nat.reduceBEq, decide_true, decide_false, Int.toNat_natCast, Rm.enc]
  refine xw_loop (fun (i : Nat) T H' => i ≤ R.ks.length ∧ (∃ c : Nat, c ≤ i ∧ T 3 = .int .i64 c ∧ c + ownB (R.ks.drop i) = ownB R.ks) ∧ T 1 = .pointer (some ⟨nid H 0, 0, some 5⟩) ∧ T 4 = .int .i64 i ∧ H' = Hx H [some (.row 59 (R.enc x))]) (fun i => R.ks.length - i) 0 (by kernel_rfl) ⟨Nat.zero_le _, ⟨0, Nat.le_refl _, rfl, Nat.zero_add _⟩, rfl, rfl, rfl⟩ ?_
  rintro i T H' ⟨hi, ⟨c, hci, t3, he⟩, t1, t5, rfl⟩
  by_cases hlt : i < R.ks.length
  · obtain ⟨b, o, sp, hx, hc, _⟩ := mcell hr.sk hlt
    have c1 := hc 1 (.int .i64 R.ks[i].num) [some (.row 59 (R.enc x))] (by decide) rfl
    have d1 : ((i : Int) < (R.ks.length : Int)) = True := eq_true (by omega)
    have d2 : (0 ≤ (i : Int)) = True := eq_true (by omega)
    rw [ownB_drop _ i hlt] at he
    simp only [Rm.enc, hx] at c1
    simp only [go_sem, cond, Nat.reduceAdd, Nat.reduceLeDiff, Nat.reduceEqDiff, Nat.reduceBEq, decide_true, decide_false, Int.toNat_natCast, Rm.enc, hx, t1, t3, t5, d1, d2, c1]
    refine Br_intro ?_ ?_ <;> intro h <;> simp only [go_sem, cond, Nat.reduceAdd, Nat.reduceLeDiff, Nat.reduceEqDiff, Nat.reduceBEq, decide_true, decide_false, Int.toNat_natCast, t1, t3, t5, h, r, d1, d2]
    · rw [if_pos h] at he
      exact ⟨i + 1, ⟨hlt, ⟨c + 1, by omega, congrArg (Value.int .i64) (wrap_i64 (by omega) (by omega)), by omega⟩, t1, int_succ hlt (by omega), by simp only [Rm.enc, hx]⟩, lt_meas hlt⟩
    · rw [if_neg (by rw [h]; decide)] at he
      exact ⟨i + 1, ⟨hlt, ⟨c, by omega, t3, by omega⟩, t1, int_succ hlt (by omega), by simp only [Rm.enc, hx]⟩, lt_meas hlt⟩
  · obtain rfl : i = R.ks.length := by omega
    have d1 : ((R.ks.length : Int) < (R.ks.length : Int)) = False := eq_false (by omega)
    rw [List.drop_length] at he
    simp only [go_sem, cond, Nat.reduceAdd, Nat.reduceLeDiff, Nat.reduceEqDiff, Nat.reduceBEq, decide_true, decide_false, Int.toNat_natCast, Rm.enc, t1, t3, t5, d1, r]
    exact ⟨by rw [← he]; rfl, _, rfl⟩
end Go.Proofs.YtcmflpdgfddmeaaDoorW.FA

namespace Go.Proofs.YtcmflpdgfddmeaaDoorW.FA
open Go.RowKit Go.Proofs.YtcmflpdgfddmeaaDoorW.XM Go.Proofs Go.Proofs.YtcmflpdgfddmeaaDoorW.XWords
set_option maxRecDepth 100000
set_option linter.unusedSimpArgs false
variable (w0 : World) (H : Hp)
end Go.Proofs.YtcmflpdgfddmeaaDoorW.FA

namespace Go.Proofs.YtcmflpdgfddmeaaDoorW.FA
open Go.RowKit Go.Proofs.YtcmflpdgfddmeaaDoorW.XM Go.Proofs Go.Proofs.YtcmflpdgfddmeaaDoorW.XWords
set_option maxRecDepth 100000
set_option linter.unusedSimpArgs false
variable (w0 : World) (H : Hp)
def emB (s : ByteArray) : Bool := s.toList == (ByteArray.mk #[]).toList
def orB (p : ByteArray → Bool) (s : ByteArray) : Bool := emB s || p s
variable {w0 H}
variable (w0 H)
end Go.Proofs.YtcmflpdgfddmeaaDoorW.FA

namespace Go.Proofs.YtcmflpdgfddmeaaDoorW.FA
open Go.RowKit Go.Proofs.YtcmflpdgfddmeaaDoorW.XM Go.Proofs Go.Proofs.YtcmflpdgfddmeaaDoorW.XWords
set_option maxRecDepth 100000
set_option linter.unusedSimpArgs false
variable (w0 : World) (H : Hp)
end Go.Proofs.YtcmflpdgfddmeaaDoorW.FA

namespace Go.Proofs.YtcmflpdgfddmeaaDoorW.FA
open Go.RowKit Go.Proofs.YtcmflpdgfddmeaaDoorW.XM Go.Proofs Go.Proofs.YtcmflpdgfddmeaaDoorW.XWords
set_option maxRecDepth 100000
set_option linter.unusedSimpArgs false
variable (w0 : World) (H : Hp)
end Go.Proofs.YtcmflpdgfddmeaaDoorW.FA

namespace Go.Proofs.YtcmflpdgfddmeaaDoorW.FA
open Go.RowKit Go.Proofs.YtcmflpdgfddmeaaDoorW.XM Go.Proofs Go.Proofs.YtcmflpdgfddmeaaDoorW.XWords
set_option maxRecDepth 100000
set_option linter.unusedSimpArgs false
variable (w0 : World) (H : Hp)
theorem orEmpty_ok (s : ByteArray) (g : FuncId) (p : ByteArray → Bool) (hg : AFn Tryd.prog w0 g ([] ++ [Value.string s] ++ []).toArray H fun v H2 => v = .bool (p s) ∧ H2 = H) : AFn Tryd.prog w0 40 #[.string s, .func (.func g) #[] #[]] H fun v H2 => v = .bool (orB p s) ∧ H2 = H := by
  rw [← Hx_nil H] at hg
  refine AFn.scal rfl Tryd.func40 rfl (by kernel_rfl) ?_
  have r := Tryd.results40
  simp only [go_sem, cond, Nat.reduceAdd, Nat.reduceLeDiff, Nat.reduceEqDiff, Nat.reduceBEq, decide_true, decide_false, Int.toNat_natCast, r]
  refine Br_intro ?_ ?_ <;> intro h <;> simp only [go_sem, cond, Nat.reduceAdd, Nat.reduceLeDiff, Nat.reduceEqDiff, Nat.reduceBEq, decide_true, decide_false, Int.toNat_natCast, h, r]
  · exact ⟨by simp only [orB, emB, h, Bool.true_or], _, rfl⟩
  · refine call_eq hg ?_
    simp only [go_sem, cond, Nat.reduceAdd, Nat.reduceLeDiff, Nat.reduceEqDiff, Nat.reduceBEq, decide_true, decide_false, Int.toNat_natCast, r]
    exact ⟨by simp only [orB, emB, h, Bool.false_or], _, rfl⟩
end Go.Proofs.YtcmflpdgfddmeaaDoorW.FA

namespace Go.Proofs.YtcmflpdgfddmeaaDoorW.FA
open Go.RowKit Go.Proofs.YtcmflpdgfddmeaaDoorW.XM Go.Proofs Go.Proofs.YtcmflpdgfddmeaaDoorW.XWords
set_option maxRecDepth 100000
set_option linter.unusedSimpArgs false
variable (w0 : World) (H : Hp)
structure En where
  room : ByteArray
  seq : Int
  kind : Int
  user : ByteArray
  nick : ByteArray
  text : ByteArray
  id : ByteArray
  ref : ByteArray
  num : Int
def En.enc (e : En) : List Value := [.string e.room, .int .i64 e.seq, .int .i64 e.kind, .string e.user, .string e.nick, .string e.text, .string e.id, .string e.ref, .int .i64 e.num]
abbrev em : ByteArray := ByteArray.mk #[]
end Go.Proofs.YtcmflpdgfddmeaaDoorW.FA

namespace Go.Proofs.YtcmflpdgfddmeaaDoorW.FA
open Go.RowKit Go.Proofs.YtcmflpdgfddmeaaDoorW.XM Go.Proofs Go.Proofs.YtcmflpdgfddmeaaDoorW.XWords
set_option maxRecDepth 100000
set_option linter.unusedSimpArgs false
variable (w0 : World) (H : Hp)
end Go.Proofs.YtcmflpdgfddmeaaDoorW.FA

namespace Go.Proofs.YtcmflpdgfddmeaaDoorW.FA
open Go.RowKit Go.Proofs.YtcmflpdgfddmeaaDoorW.XM Go.Proofs Go.Proofs.YtcmflpdgfddmeaaDoorW.XWords
set_option maxRecDepth 100000
set_option linter.unusedSimpArgs false
variable (w0 : World) (H : Hp)
theorem mlen (m : Mem) : m.enc.length = 3 := rfl
theorem klen (m : Rk) : m.enc.length = 2 := rfl
end Go.Proofs.YtcmflpdgfddmeaaDoorW.FA

namespace Go.Proofs.YtcmflpdgfddmeaaDoorW.FA
open Go.RowKit Go.Proofs.YtcmflpdgfddmeaaDoorW.XM Go.Proofs Go.Proofs.YtcmflpdgfddmeaaDoorW.XWords
set_option maxRecDepth 100000
set_option linter.unusedSimpArgs false
variable (w0 : World) (H : Hp)
/-- A room's two objects, and where they lie. -/
def obsR (R : Rm) : List (Option Ob) := [some (.row 74 (flat Mem.enc R.ms)), some (.row 83 (flat Rk.enc R.ks))]
def adR (H : Hp) (R : Rm) (j k : Nat) : Ad := ⟨some ⟨nid H j, 0, some (R.ms.length * 3)⟩, R.ms.length, some ⟨nid H k, 0, some (R.ks.length * 2)⟩, R.ks.length⟩
theorem pl2 {t u : TypeId} (ms : List Mem) (ks : List Rk) {l : List (Option Ob)} {j k : Nat} (hj : l[j]? = some (some (.row t (flat Mem.enc ms)))) (hk : l[k]? = some (some (.row u (flat Rk.enc ks)))) : ∀ i ∈ [j, k], PlainOb ((l[i]?).join) := by
  intro i hi
  simp only [List.mem_cons, List.not_mem_nil, or_false] at hi
  rcases hi with rfl | rfl
  · rw [hj]; exact flat_plain (fun _ => rfl) ms
  · rw [hk]; exact flat_plain (fun _ => rfl) ks
theorem ren_room (R : Rm) {sel : List Nat} {j k j' k' : Nat} (hj : idx j sel = some j') (hk : idx k sel = some k') : ren3 (rho H sel) (.agg (R.enc (adR H R j k)).toArray) = some (.agg (R.enc (adR H R j' k')).toArray) := by
  simp [ren3, ren2, renL, ren1, Rm.enc, adR, rho_nid, hj, hk, plain]
theorem l6Copy_ok (R : Rm) (x : Ad) (hr : RmAt w0 H R x) : AFn Tryd.prog w0 65 #[.agg (R.enc x).toArray] H fun v H2 => v = .agg (R.enc (adR H R 0 1)).toArray ∧ H2 = Hx H (obsR R) := by
  refine AFn.news Tryd.func65 rfl (by kernel_rfl) ?_
  have r := Tryd.results65
  simp only [go_sem, cond, Nat.reduceAdd, Nat.reduceLeDiff, Nat.reduceEqDiff, Nat.reduceBEq, decide_true, decide_false, Int.toNat_natCast, r]
  simp only [go_sem, cond, Nat.reduceAdd, Nat.reduceLeDiff, Nat.reduceEqDiff, Nat.reduceBEq, decide_true, decide_false, Int.toNat_natCast, Rm.enc, r]
  refine Req_intro ⟨_, rfl, rfl⟩ ?_
  have om := hr.om
  have ok := hr.ok
  simp only [go_sem, cond, Nat.reduceAdd, Nat.reduceLeDiff, Nat.reduceEqDiff, Nat.reduceBEq, decide_true, decide_false, Int.toNat_natCast, r, om]
  refine appS_full _ _ _ _ _ _ _ _ 3 0 _ _ _ rfl rfl rfl XF.lay_74 (by decide) (flat_len mlen _) (by have := hr.lm; omega) (by have := hr.lm; omega) ?_
  simp only [go_sem, cond, Nat.reduceAdd, Nat.reduceLeDiff, Nat.reduceEqDiff, Nat.reduceBEq, decide_true, decide_false, Int.toNat_natCast, r, ok, Nat.zero_add, List.nil_append]
  refine Req_intro ⟨_, rfl, rfl⟩ ?_
  simp only [go_sem, cond, Nat.reduceAdd, Nat.reduceLeDiff, Nat.reduceEqDiff, Nat.reduceBEq, decide_true, decide_false, Int.toNat_natCast, r, ok, Nat.zero_add, List.nil_append]
  refine appS_full _ _ _ _ _ _ _ _ 4 0 _ _ _ rfl rfl rfl XF.lay_83 (by decide) (flat_len klen _) (by have := hr.lk; omega) (by have := hr.lk; omega) ?_
  simp only [go_sem, cond, Nat.reduceAdd, Nat.reduceLeDiff, Nat.reduceEqDiff, Nat.reduceBEq, decide_true, decide_false, Int.toNat_natCast, r, Nat.zero_add, List.nil_append]
  exact ⟨_, [3, 4], _, rfl, pl2 R.ms R.ks rfl rfl, by decide, ren_room H R rfl rfl, rfl, rfl⟩
end Go.Proofs.YtcmflpdgfddmeaaDoorW.FA

namespace Go.Proofs.YtcmflpdgfddmeaaDoorW.FA
open Go.RowKit Go.Proofs.YtcmflpdgfddmeaaDoorW.XM Go.Proofs Go.Proofs.YtcmflpdgfddmeaaDoorW.XWords
set_option maxRecDepth 100000
set_option linter.unusedSimpArgs false
variable (w0 : World) (H : Hp)
end Go.Proofs.YtcmflpdgfddmeaaDoorW.FA

namespace Go.Proofs.YtcmflpdgfddmeaaDoorW.FA
open Go.RowKit Go.Proofs.YtcmflpdgfddmeaaDoorW.XM Go.Proofs Go.Proofs.YtcmflpdgfddmeaaDoorW.XWords
set_option maxRecDepth 100000
set_option linter.unusedSimpArgs false
variable (w0 : World) (H : Hp)
end Go.Proofs.YtcmflpdgfddmeaaDoorW.FA

namespace Go.Proofs.YtcmflpdgfddmeaaDoorW.FA
open Go.RowKit Go.Proofs.YtcmflpdgfddmeaaDoorW.XM Go.Proofs Go.Proofs.YtcmflpdgfddmeaaDoorW.XWords
set_option maxRecDepth 100000
set_option linter.unusedSimpArgs false
variable (w0 : World) (H : Hp)
def isB (R : Rm) (e : En) : Bool := match R.ms.find? (isU e.user) with
  | some m => m.nick.toList == e.nick.toList
  | none => false
theorem idxP_find {α : Type} (p : α → Bool) : ∀ (l : List α) (i : Nat), (idxP p l i = -1 ∧ l.find? p = none) ∨ ∃ k, ∃ h : k < l.length, idxP p l i = ((i + k : Nat) : Int) ∧ l.find? p = some l[k]
  | [], _ => .inl ⟨rfl, rfl⟩
  | a :: r, i => by
    unfold idxP
    by_cases h : p a = true
    · rw [if_pos h]
      exact .inr ⟨0, by simp, by simp, by simp [List.find?, h]⟩
    · rw [if_neg h]
      rcases idxP_find p r (i + 1) with ⟨h1, h2⟩ | ⟨k, hk, h1, h2⟩
      · exact .inl ⟨h1, by simp [List.find?, h, h2]⟩
      · exact .inr ⟨k + 1, by simp; omega, by rw [h1]; congr 1; omega, by simp [List.find?, h, h2]⟩
end Go.Proofs.YtcmflpdgfddmeaaDoorW.FA

namespace Go.Proofs.YtcmflpdgfddmeaaDoorW.FA
open Go.RowKit Go.Proofs.YtcmflpdgfddmeaaDoorW.XM Go.Proofs Go.Proofs.YtcmflpdgfddmeaaDoorW.XWords
set_option maxRecDepth 100000
set_option linter.unusedSimpArgs false
variable (w0 : World) (H : Hp)
end Go.Proofs.YtcmflpdgfddmeaaDoorW.FA

namespace Go.Proofs.YtcmflpdgfddmeaaDoorW.FA
open Go.RowKit Go.Proofs.YtcmflpdgfddmeaaDoorW.XM Go.Proofs Go.Proofs.YtcmflpdgfddmeaaDoorW.XWords
set_option maxRecDepth 100000
set_option linter.unusedSimpArgs false
variable (w0 : World) (H : Hp)
end Go.Proofs.YtcmflpdgfddmeaaDoorW.FA

namespace Go.Proofs.YtcmflpdgfddmeaaDoorW.FA
open Go.RowKit Go.Proofs.YtcmflpdgfddmeaaDoorW.XM Go.Proofs Go.Proofs.YtcmflpdgfddmeaaDoorW.XWords
set_option maxRecDepth 100000
set_option linter.unusedSimpArgs false
variable (w0 : World) (H : Hp)
end Go.Proofs.YtcmflpdgfddmeaaDoorW.FA

namespace Go.Proofs.YtcmflpdgfddmeaaDoorW.FA
open Go.RowKit Go.Proofs.YtcmflpdgfddmeaaDoorW.XM Go.Proofs Go.Proofs.YtcmflpdgfddmeaaDoorW.XWords
set_option maxRecDepth 100000
set_option linter.unusedSimpArgs false
variable (w0 : World) (H : Hp)
theorem flat_set {α : Type} {enc : α → List Value} {n : Nat} (he : ∀ a, (enc a).length = n) (l : List α) (i : Nat) (a : α) (hi : i < l.length) : putL (flat enc l) (i * n) (enc a) = flat enc (l.set i a) := by
  have e : l = l.take i ++ l[i] :: l.drop (i + 1) := by simp
  have h1 : (flat enc (l.take i)).length = i * n := by rw [flat_len he, List.length_take, Nat.min_eq_left (by omega)]
  have e2 : flat enc l = flat enc (l.take i) ++ (enc l[i] ++ flat enc (l.drop (i + 1))) := by
    have : flat enc l = flat enc (l.take i ++ (l[i] :: l.drop (i + 1))) := congrArg _ e
    rw [this, flat_app]
    rfl
  rw [e2, ← h1, putL_mid _ _ _ (by rw [he, List.length_append, he]; omega), he, ← he l[i], List.drop_left, List.set_eq_take_append_cons_drop, if_pos hi, flat_app, List.append_assoc]
  rfl
end Go.Proofs.YtcmflpdgfddmeaaDoorW.FA

namespace Go.Proofs.YtcmflpdgfddmeaaDoorW.FA
open Go.RowKit Go.Proofs.YtcmflpdgfddmeaaDoorW.XM Go.Proofs Go.Proofs.YtcmflpdgfddmeaaDoorW.XWords
set_option maxRecDepth 100000
set_option linter.unusedSimpArgs false
variable (w0 : World) (H : Hp)
end Go.Proofs.YtcmflpdgfddmeaaDoorW.FA

namespace Go.Proofs.YtcmflpdgfddmeaaDoorW.FA
open Go.RowKit Go.Proofs.YtcmflpdgfddmeaaDoorW.XM Go.Proofs Go.Proofs.YtcmflpdgfddmeaaDoorW.XWords
set_option maxRecDepth 100000
set_option linter.unusedSimpArgs false
variable (w0 : World) (H : Hp)
end Go.Proofs.YtcmflpdgfddmeaaDoorW.FA

namespace Go.Proofs.YtcmflpdgfddmeaaDoorW.FA
open Go.RowKit Go.Proofs.YtcmflpdgfddmeaaDoorW.XM Go.Proofs Go.Proofs.YtcmflpdgfddmeaaDoorW.XWords
set_option maxRecDepth 100000
set_option linter.unusedSimpArgs false
variable (w0 : World) (H : Hp)
end Go.Proofs.YtcmflpdgfddmeaaDoorW.FA

namespace Go.Proofs.YtcmflpdgfddmeaaDoorW.FA
open Go.RowKit Go.Proofs.YtcmflpdgfddmeaaDoorW.XM Go.Proofs Go.Proofs.YtcmflpdgfddmeaaDoorW.XWords
set_option maxRecDepth 100000
set_option linter.unusedSimpArgs false
variable (w0 : World) (H : Hp)
end Go.Proofs.YtcmflpdgfddmeaaDoorW.FA

namespace Go.Proofs.YtcmflpdgfddmeaaDoorW.FA
open Go.RowKit Go.Proofs.YtcmflpdgfddmeaaDoorW.XM Go.Proofs Go.Proofs.YtcmflpdgfddmeaaDoorW.XWords
set_option maxRecDepth 100000
set_option linter.unusedSimpArgs false
variable (w0 : World) (H : Hp)
end Go.Proofs.YtcmflpdgfddmeaaDoorW.FA

namespace Go.Proofs.YtcmflpdgfddmeaaDoorW.FA
open Go.RowKit Go.Proofs.YtcmflpdgfddmeaaDoorW.XM Go.Proofs Go.Proofs.YtcmflpdgfddmeaaDoorW.XWords
set_option maxRecDepth 100000
set_option linter.unusedSimpArgs false
variable (w0 : World) (H : Hp)
def stpK (u : ByteArray) (num : Int) (x : Rk) (st : Bool × List Rk) : Bool × List Rk :=
  let c := !st.1 && !(Op.bytesLess x.user.toList u.toList)
  let out := if c = true then st.2 ++ [⟨u, num⟩] else st.2
  (st.1 || c, if (x.user.toList == u.toList) = true then out else out ++ [x])
def runK (u : ByteArray) (num : Int) (l : List Rk) (st : Bool × List Rk) : Bool × List Rk := l.foldl (fun s x => stpK u num x s) st
theorem runK_drop (u : ByteArray) (num : Int) (l : List Rk) (i : Nat) (hi : i < l.length) (st : Bool × List Rk) : runK u num (l.drop i) st = runK u num (l.drop (i + 1)) (stpK u num l[i] st) := by
  rw [List.drop_eq_getElem_cons hi]; rfl
def rkd (u : ByteArray) (num : Int) (l : List Rk) : List Rk := let r := runK u num l (num == 1, []); if r.1 = true then r.2 else r.2 ++ [⟨u, num⟩]
theorem l6Ranked_ok (A : Option Addr) (c : Nat) (ks : List Rk) (u : ByteArray) (num : Int) (hs : Sl w0 H A 2 (ks.map Rk.enc)) (hl : ks.length ≤ 2000000) : AFn Tryd.prog w0 66 #[.slice A ks.length c, .string u, .int .i64 num] H fun v H2 => v = .slice (some ⟨nid H 0, 0, some ((rkd u num ks).length * 2)⟩) (rkd u num ks).length (rkd u num ks).length ∧ H2 = Hx H [some (.row 83 (flat Rk.enc (rkd u num ks)))] := by
  refine AFn.news Tryd.func66 rfl (by kernel_rfl) ?_
  have r := Tryd.results66
  simp only [go_sem, cond, Nat.reduceAdd, Nat.reduceLeDiff, Nat.reduceEqDiff, Nat.reduceBEq, decide_true, decide_false, Int.toNat_natCast, r]
  refine Req_intro ⟨_, rfl, rfl⟩ ?_
  simp only [go_sem, cond, Nat.reduceAdd, Nat.reduceLeDiff, Nat.reduceEqDiff, Nat.reduceBEq, decide_true, decide_false, Int.toNat_natCast, r]
  refine xw_loop (fun (i : Nat) T H' => i ≤ ks.length ∧ (∃ (dn : Bool) (out : List Rk) (g : List (Option Ob)), out.length ≤ 2 * i ∧ T 7 = .slice (some ⟨nid H 0, 0, some (out.length * 2)⟩) out.length out.length ∧ T 8 = .bool dn ∧ runK u num (ks.drop i) (dn, out) = runK u num ks (num == 1, []) ∧ H' = Hx H (some (.row 83 (flat Rk.enc out)) :: g)) ∧ T 0 = .slice A ks.length c ∧ T 1 = .string u ∧ T 2 = .int .i64 num ∧ T 9 = .int .i64 i) (fun i => ks.length - i) 0 (by kernel_rfl) ⟨Nat.zero_le _, ⟨num == 1, [], [], Nat.le_refl _, rfl, rfl, rfl, rfl⟩, rfl, rfl, rfl, rfl⟩ ?_
  rintro i T H' ⟨hi, ⟨dn, out, g, ho, t7, t8, he, rfl⟩, t0, t1, t2, t9⟩
  by_cases hlt : i < ks.length
  · obtain ⟨b, o, sp, rfl, hc, hw⟩ := mcell hs hlt
    have c0 := fun L => hc 0 (.string ks[i].user) L (by decide) rfl
    have c1 := fun L => hw L rfl
    have d1 : ((i : Int) < (ks.length : Int)) = True := eq_true (by omega)
    have d2 : (0 ≤ (i : Int)) = True := eq_true (by omega)
    rw [runK_drop _ _ _ i hlt] at he
    simp only [Rk.enc] at c1
    simp only [go_sem, cond, Nat.reduceAdd, Nat.reduceLeDiff, Nat.reduceEqDiff, Nat.reduceBEq, decide_true, decide_false, Int.toNat_natCast, t0, t1, t2, t7, t8, t9, d1, d2, c0, c1, r]
    have hb : ∀ (X : Option Ob) (g : List (Option Ob)) (Y : Option Ob), (X :: (g ++ [Y]))[g.length + 1]? = some Y := fun X g Y => by rw [List.getElem?_cons_succ, List.getElem?_append_right (Nat.le_refl _)]; simp
    refine Br_intro ?_ ?_ <;> intro h <;> simp only [go_sem, cond, Nat.reduceAdd, Nat.reduceLeDiff, Nat.reduceEqDiff, Nat.reduceBEq, decide_true, decide_false, Int.toNat_natCast, t0, t1, t2, t7, t8, t9, d1, d2, c0, c1, hb, List.cons_append, List.length_cons, List.set_cons_zero, r, h]
    · refine Br_intro ?_ ?_ <;> intro h3 <;> simp only [go_sem, cond, Nat.reduceAdd, Nat.reduceLeDiff, Nat.reduceEqDiff, Nat.reduceBEq, decide_true, decide_false, Int.toNat_natCast, t0, t1, t2, t7, t8, t9, d1, d2, c0, c1, hb, List.cons_append, List.length_cons, List.set_cons_zero, r, h, h3]
      · simp only [stpK, h, h3, Bool.not_true, Bool.not_false, Bool.false_and, Bool.true_and, Bool.and_true, Bool.and_false, Bool.false_eq_true, if_true, if_false, Bool.or_true, Bool.true_or, Bool.or_false, Bool.false_or, Bool.or_self] at he
        exact ⟨i + 1, ⟨hlt, ⟨true, out, _, by first | omega | (simp; omega), t7, by first | rfl | exact t8.trans (by rw [h]), he, rfl⟩, t0, t1, t2, int_succ hlt (by omega)⟩, lt_meas hlt⟩
      · simp only [stpK, h, h3, Bool.not_true, Bool.not_false, Bool.false_and, Bool.true_and, Bool.and_true, Bool.and_false, Bool.false_eq_true, if_true, if_false, Bool.or_true, Bool.true_or, Bool.or_false, Bool.false_or, Bool.or_self] at he
        refine Req_intro ⟨_, rfl, rfl⟩ ?_
        simp only [go_sem, cond, Nat.reduceAdd, Nat.reduceLeDiff, Nat.reduceEqDiff, Nat.reduceBEq, decide_true, decide_false, Int.toNat_natCast, t0, t1, t2, t7, t8, t9, d1, d2, c0, c1, hb, List.cons_append, List.length_cons, List.set_cons_zero, r, h, h3]
        refine appS_full (m := 1) (sl := (out).length) _ _ _ _ _ _ _ 0 _ _ _ rfl rfl (flat_len klen _) XF.lay_83 (by decide) (by rfl) (by first | omega | (simp; omega)) (by first | omega | (simp; omega)) ?_
        simp only [go_sem, cond, Nat.reduceAdd, Nat.reduceLeDiff, Nat.reduceEqDiff, Nat.reduceBEq, decide_true, decide_false, Int.toNat_natCast, t0, t1, t2, t7, t8, t9, d1, d2, c0, c1, hb, List.cons_append, List.length_cons, List.set_cons_zero, r, h, h3]
        exact ⟨i + 1, ⟨hlt, ⟨true, out ++ [ks[i]], _, by first | omega | (simp; omega), by rw [List.length_append]; rfl, by first | rfl | exact t8.trans (by rw [h]), he, by rw [flat_app]; rfl⟩, t0, t1, t2, int_succ hlt (by omega)⟩, lt_meas hlt⟩
    · refine Br_intro ?_ ?_ <;> intro h2 <;> simp only [go_sem, cond, Nat.reduceAdd, Nat.reduceLeDiff, Nat.reduceEqDiff, Nat.reduceBEq, decide_true, decide_false, Int.toNat_natCast, t0, t1, t2, t7, t8, t9, d1, d2, c0, c1, hb, List.cons_append, List.length_cons, List.set_cons_zero, r, h, h2]
      · refine Br_intro ?_ ?_ <;> intro h3 <;> simp only [go_sem, cond, Nat.reduceAdd, Nat.reduceLeDiff, Nat.reduceEqDiff, Nat.reduceBEq, decide_true, decide_false, Int.toNat_natCast, t0, t1, t2, t7, t8, t9, d1, d2, c0, c1, hb, List.cons_append, List.length_cons, List.set_cons_zero, r, h, h2, h3]
        · simp only [stpK, h, h2, h3, Bool.not_true, Bool.not_false, Bool.false_and, Bool.true_and, Bool.and_true, Bool.and_false, Bool.false_eq_true, if_true, if_false, Bool.or_true, Bool.true_or, Bool.or_false, Bool.false_or, Bool.or_self] at he
          exact ⟨i + 1, ⟨hlt, ⟨false, out, _, by first | omega | (simp; omega), t7, by first | rfl | exact t8.trans (by rw [h]), he, rfl⟩, t0, t1, t2, int_succ hlt (by omega)⟩, lt_meas hlt⟩
        · simp only [stpK, h, h2, h3, Bool.not_true, Bool.not_false, Bool.false_and, Bool.true_and, Bool.and_true, Bool.and_false, Bool.false_eq_true, if_true, if_false, Bool.or_true, Bool.true_or, Bool.or_false, Bool.false_or, Bool.or_self] at he
          refine Req_intro ⟨_, rfl, rfl⟩ ?_
          simp only [go_sem, cond, Nat.reduceAdd, Nat.reduceLeDiff, Nat.reduceEqDiff, Nat.reduceBEq, decide_true, decide_false, Int.toNat_natCast, t0, t1, t2, t7, t8, t9, d1, d2, c0, c1, hb, List.cons_append, List.length_cons, List.set_cons_zero, r, h, h2, h3]
          refine appS_full (m := 1) (sl := (out).length) _ _ _ _ _ _ _ 0 _ _ _ rfl rfl (flat_len klen _) XF.lay_83 (by decide) (by rfl) (by first | omega | (simp; omega)) (by first | omega | (simp; omega)) ?_
          simp only [go_sem, cond, Nat.reduceAdd, Nat.reduceLeDiff, Nat.reduceEqDiff, Nat.reduceBEq, decide_true, decide_false, Int.toNat_natCast, t0, t1, t2, t7, t8, t9, d1, d2, c0, c1, hb, List.cons_append, List.length_cons, List.set_cons_zero, r, h, h2, h3]
          exact ⟨i + 1, ⟨hlt, ⟨false, out ++ [ks[i]], _, by first | omega | (simp; omega), by rw [List.length_append]; rfl, by first | rfl | exact t8.trans (by rw [h]), he, by rw [flat_app]; rfl⟩, t0, t1, t2, int_succ hlt (by omega)⟩, lt_meas hlt⟩
      · refine Req_intro ⟨_, rfl, rfl⟩ ?_
        simp only [go_sem, cond, Nat.reduceAdd, Nat.reduceLeDiff, Nat.reduceEqDiff, Nat.reduceBEq, decide_true, decide_false, Int.toNat_natCast, t0, t1, t2, t7, t8, t9, d1, d2, c0, c1, hb, List.cons_append, List.length_cons, List.set_cons_zero, r, h, h2]
        refine appS_full (m := 1) (sl := (out).length) _ _ _ _ _ _ _ 0 _ _ _ rfl rfl (flat_len klen _) XF.lay_83 (by decide) (by rfl) (by first | omega | (simp; omega)) (by first | omega | (simp; omega)) ?_
        simp only [go_sem, cond, Nat.reduceAdd, Nat.reduceLeDiff, Nat.reduceEqDiff, Nat.reduceBEq, decide_true, decide_false, Int.toNat_natCast, t0, t1, t2, t7, t8, t9, d1, d2, c0, c1, hb, List.cons_append, List.length_cons, List.set_cons_zero, r, h, h2]
        have e1 : flat Rk.enc out ++ [.string u, .int .i64 num] = flat Rk.enc (out ++ [⟨u, num⟩]) := by rw [flat_app]; rfl
        have e2 : out.length + 1 = (out ++ [(⟨u, num⟩ : Rk)]).length := by simp
        have ho2 : (out ++ [(⟨u, num⟩ : Rk)]).length ≤ 2 * i + 1 := by simp; omega
        rw [e1, e2]
        simp only [stpK, h, h2, Bool.not_true, Bool.not_false, Bool.false_and, Bool.true_and, Bool.and_true, Bool.and_false, Bool.false_eq_true, if_true, if_false, Bool.or_true, Bool.true_or, Bool.or_false, Bool.false_or, Bool.or_self] at he
        generalize out ++ [(⟨u, num⟩ : Rk)] = o1 at *
        generalize g ++ [some (Ob.row 83 [.string u, .int .i64 num])] = g1 at *
        refine Br_intro ?_ ?_ <;> intro h3 <;> simp only [go_sem, cond, Nat.reduceAdd, Nat.reduceLeDiff, Nat.reduceEqDiff, Nat.reduceBEq, decide_true, decide_false, Int.toNat_natCast, t0, t1, t2, t8, t9, d1, d2, c0, c1, hb, List.cons_append, List.length_cons, List.set_cons_zero, r, h3]
        · simp only [h3, Bool.not_true, Bool.not_false, Bool.false_and, Bool.true_and, Bool.and_true, Bool.and_false, Bool.false_eq_true, if_true, if_false, Bool.or_true, Bool.true_or, Bool.or_false, Bool.false_or, Bool.or_self] at he
          exact ⟨i + 1, ⟨hlt, ⟨true, o1, _, by omega, rfl, rfl, he, rfl⟩, t0, t1, t2, int_succ hlt (by omega)⟩, lt_meas hlt⟩
        · simp only [h3, Bool.not_true, Bool.not_false, Bool.false_and, Bool.true_and, Bool.and_true, Bool.and_false, Bool.false_eq_true, if_true, if_false, Bool.or_true, Bool.true_or, Bool.or_false, Bool.false_or, Bool.or_self] at he
          refine Req_intro ⟨_, rfl, rfl⟩ ?_
          simp only [go_sem, cond, Nat.reduceAdd, Nat.reduceLeDiff, Nat.reduceEqDiff, Nat.reduceBEq, decide_true, decide_false, Int.toNat_natCast, t0, t1, t2, t8, t9, d1, d2, c0, c1, hb, List.cons_append, List.length_cons, List.set_cons_zero, r, h3]
          refine appS_full (m := 1) (sl := o1.length) _ _ _ _ _ _ _ 0 _ _ _ rfl rfl (flat_len klen _) XF.lay_83 (by decide) (by rfl) (by omega) (by omega) ?_
          simp only [go_sem, cond, Nat.reduceAdd, Nat.reduceLeDiff, Nat.reduceEqDiff, Nat.reduceBEq, decide_true, decide_false, Int.toNat_natCast, t0, t1, t2, t8, t9, d1, d2, c0, c1, hb, List.cons_append, List.length_cons, List.set_cons_zero, r, h3]
          exact ⟨i + 1, ⟨hlt, ⟨true, o1 ++ [ks[i]], _, by first | omega | (simp; omega), by rw [List.length_append]; rfl, rfl, he, by rw [flat_app]; rfl⟩, t0, t1, t2, int_succ hlt (by omega)⟩, lt_meas hlt⟩
  · obtain rfl : i = ks.length := by omega
    have d1 : ((ks.length : Int) < (ks.length : Int)) = False := eq_false (by omega)
    have hb : ∀ (X : Option Ob) (g : List (Option Ob)) (Y : Option Ob), (X :: (g ++ [Y]))[g.length + 1]? = some Y := fun X g Y => by rw [List.getElem?_cons_succ, List.getElem?_append_right (Nat.le_refl _)]; simp
    rw [List.drop_length] at he
    have he : (dn, out) = runK u num ks (num == 1, []) := he
    simp only [go_sem, cond, Nat.reduceAdd, Nat.reduceLeDiff, Nat.reduceEqDiff, Nat.reduceBEq, decide_true, decide_false, Int.toNat_natCast, t0, t1, t2, t7, t8, t9, d1, hb, List.cons_append, List.length_cons, List.set_cons_zero, r]
    refine Br_intro ?_ ?_ <;> intro h <;> simp only [go_sem, cond, Nat.reduceAdd, Nat.reduceLeDiff, Nat.reduceEqDiff, Nat.reduceBEq, decide_true, decide_false, Int.toNat_natCast, t0, t1, t2, t7, t8, t9, d1, hb, List.cons_append, List.length_cons, List.set_cons_zero, r, h]
    · have hk : rkd u num ks = out := by simp [rkd, ← he, h]
      rw [hk]
      refine ⟨_, [0], _, rfl, ?_, by decide, by simp only [ren3, ren2, ren1, rho_nid, idx_hit, Option.map_some], rfl, rfl⟩
      intro k hk
      simp only [List.mem_singleton] at hk
      subst hk
      exact flat_plain (fun _ => rfl) out
    · have hk : rkd u num ks = out ++ [⟨u, num⟩] := by simp [rkd, ← he, h]
      refine Req_intro ⟨_, rfl, rfl⟩ ?_
      simp only [go_sem, cond, Nat.reduceAdd, Nat.reduceLeDiff, Nat.reduceEqDiff, Nat.reduceBEq, decide_true, decide_false, Int.toNat_natCast, t0, t1, t2, t7, t8, t9, d1, hb, List.cons_append, List.length_cons, List.set_cons_zero, r, h]
      refine appS_full (m := 1) (sl := out.length) _ _ _ _ _ _ _ 0 _ _ _ rfl rfl (flat_len klen _) XF.lay_83 (by decide) (by rfl) (by omega) (by omega) ?_
      simp only [go_sem, cond, Nat.reduceAdd, Nat.reduceLeDiff, Nat.reduceEqDiff, Nat.reduceBEq, decide_true, decide_false, Int.toNat_natCast, t0, t1, t2, t7, t8, t9, d1, hb, List.cons_append, List.length_cons, List.set_cons_zero, r, h]
      rw [hk]
      have e1 : flat Rk.enc out ++ [.string u, .int .i64 num] = flat Rk.enc (out ++ [⟨u, num⟩]) := by rw [flat_app]; rfl
      have e2 : out.length + 1 = (out ++ [(⟨u, num⟩ : Rk)]).length := by simp
      rw [e1, e2]
      refine ⟨_, [0], _, rfl, ?_, by decide, by simp only [ren3, ren2, ren1, rho_nid, idx_hit, Option.map_some], rfl, rfl⟩
      intro k hk
      simp only [List.mem_singleton] at hk
      subst hk
      exact flat_plain (fun _ => rfl) _
end Go.Proofs.YtcmflpdgfddmeaaDoorW.FA

namespace Go.Proofs.YtcmflpdgfddmeaaDoorW.XM
open Go.RowKit
section
variable {P : Program} {w0 : World}
/-- Whatever stands beside the one stands beside the other. -/
def Wk (P : Program) (v u : Value) : Prop := ∀ H μ v', VR P H μ v v' → VR P H μ u v'
theorem Wk.refl (v : Value) : Wk P v v := fun _ _ _ h => h
theorem Wk.xs (v : Value) : Wk P (xs v) v := fun H μ v' h => by have := h.unx; rwa [unx_xs] at this
theorem Wk.agg {l m : List Value} (hl : l.length = m.length) (h : ∀ (j : Nat) (v u : Value), l[j]? = some v → m[j]? = some u → Wk P v u) : Wk P (.agg l.toArray) (.agg m.toArray) := fun H μ v' hv => by
  cases hv with
  | same hp => simp [plain] at hp
  | @agg _ cs' a b =>
    have a' : l.length = cs'.size := by simpa using a
    refine .agg (by simp [← hl, a']) fun j u u' e1 e2 => ?_
    have hj : j < l.length := by rw [hl]; exact lt_of_get (by simpa using e1)
    exact h j l[j] u (List.getElem?_eq_getElem hj) (by simpa using e1) H μ u' (b j _ _ (by simp [hj]) e2)
/-- Cell by cell. -/
inductive Wks (P : Program) : List Value → List Value → Prop
  | nil : Wks P [] []
  | cons {v u : Value} {l m : List Value} : Wk P v u → Wks P l m → Wks P (v :: l) (u :: m)
theorem Wks.get {l m : List Value} (h : Wks P l m) : l.length = m.length ∧ ∀ (j : Nat) (v u : Value), l[j]? = some v → m[j]? = some u → Wk P v u := by
  induction h with
  | nil => exact ⟨rfl, fun j v u a => by simp at a⟩
  | cons h _ ih =>
    refine ⟨by simp [ih.1], fun j v u a b => ?_⟩
    cases j with
    | zero => simp at a b; subst a; subst b; exact h
    | succ j => exact ih.2 j v u (by simpa using a) (by simpa using b)
theorem Wks.agg {l m : List Value} (h : Wks P l m) : Wk P (.agg l.toArray) (.agg m.toArray) := Wk.agg h.get.1 h.get.2
@[go_sem] theorem cells_xs (v : Value) : (XM.xs v).cells = #[XM.xs v] := rfl
@[go_sem] theorem cellsV_xs (v : Value) : cellsV (XM.xs v) = some [XM.xs v] := rfl
@[go_sem] theorem allOne_xs (v : Value) (r : List Value) : allOne (XM.xs v :: r) = allOne r := rfl
@[go_sem] theorem oneCell_xs (v : Value) : (XM.xs v).oneCell' = true := rfl
/-- The end of a slice, which nothing more fits behind: it holds nothing. -/
theorem slc_end {t : TypeId} {e m : Nat} (he : elm P t = some (e, m)) {b o tg : Nat} {len cap : Nat} {lo hi : Option Value} {l h' : Int} (h1 : bnd lo 0 = some l) (h2 : bnd hi len = some h') (H : Hp) {K : Value → Hp → Prop} (k : Lk K) (bb : Bool) (ee : Option (TypeId × Nat))
    (h3 : 0 ≤ l) (h4 : l ≤ h') (h5 : h' ≤ cap) (ho : ownB P H m b (some (tg + 1))) (h6 : l = cap) (hk : K (.slice (some ⟨b, o, some tg⟩) 0 0) H) : slcV P w0 t bb ee (.slice (some ⟨b, o, some (tg + 1)⟩) len cap) lo hi none H k :=
  ⟨e, m, he, by simp, l, h', cap, h1, h2, rfl, h3, h4, h5, Int.le_refl _, ho, .inl ⟨tg, rfl, rfl, h6, hk⟩⟩
/-! capacities -/
@[go_sem] theorem callB_cap (ats : Array TypeId) (x : Value) (H : Hp) {K : Value → Hp → Prop} (k : Lk K) : callB P w0 .cap ats [x] H k = Opt (xCap P ats x) H k := by
  show (∃ v, xCap P ats x = some v ∧ K v H) = _
  generalize xCap P ats x = r
  cases r <;> simp [Opt]
@[go_sem] theorem cap_xs (t : TypeId) (a : Addr) (m c : Nat) : xCap P #[t] (xs (.slice (some a) m c)) = if isSl P t = true then some (.int .i64 c) else none := by simp [xCap, xs]
/-! cleared, copied -/
def clrV (P : Program) (w0 : World) (ats : Array TypeId) (x : Value) (H : Hp) {K : Value → Hp → Prop} (_ : Lk K) : Prop := xClear P ats x H K
@[go_sem] theorem callB_clear (ats : Array TypeId) (x : Value) (H : Hp) {K : Value → Hp → Prop} (k : Lk K) : callB P w0 .clear ats [x] H k = clrV P w0 ats (unx x) H k := propext Iff.rfl
theorem clr_own {ats : Array TypeId} {t0 e n ty : Nat} {z c0 : List Value} {bb : Bool} {B : Hp} {l : List (Option Ob)} {j o tag m c : Nat} {K : Value → Hp → Prop} (k : Lk K) (h1 : ats[0]? = some t0) (h2 : elm P t0 = some (e, n)) (h3 : zer P e = some z) (h4 : z.length = n) (hl : l[j]? = some (some (.row ty c0))) (ht : c0.length = tag) (hla : lay P ty = some (bb, n)) (hm : o + m * n ≤ tag)
    (h : K (.tuple #[]) (Hx B (l.set j (some (.row ty (putL c0 o (List.replicate m z).flatten)))))) : clrV P w0 ats (.slice (some ⟨nid B j, o, some tag⟩) m c) (Hx B l) k := by
  refine ⟨t0, e, n, z, ty, c0, bb, h1, h2, h3, h4, by rw [Hx_get]; exact hl, ht, hla, hm, ?_⟩
  rw [Hx_set]; exact h
/-! parts of rows -/
theorem rd_len : ∀ {H : Hp} {a : Addr} {n : Nat} {cs : List Value}, rd w0 H a n = some cs → cs.length = n := fun {H a n cs} h => by
  obtain ⟨b, o, sp⟩ := a
  cases sp with
  | none => exact (rdRo_spec n b o cs h).1
  | some tag =>
    simp only [rd] at h
    split at h
    · split at h
      · rename_i hc
        cases h
        simp; omega
      · cases h
    · cases h
theorem rdRo_part : ∀ (n b o f k : Nat) (cs : List Value), rdRo w0 b o n = some cs → f + k ≤ n → rdRo w0 b (o + f) k = some ((cs.drop f).take k) := by
  intro n
  induction n with
  | zero =>
    intro b o f k cs h hk
    obtain rfl : k = 0 := by omega
    simp [rdRo]
  | succ n ih =>
    intro b o f k cs h hk
    obtain ⟨h1, h2, h3⟩ := rdRo_spec (n + 1) b o cs h
    cases f with
    | zero =>
      cases k with
      | zero => simp [rdRo]
      | succ k =>
        simp only [rdRo] at h ⊢
        split at h
        · rename_i e1
          split at h
          · rename_i hv
            cases hr : rdRo w0 b (o + 1) n with
            | none => rw [hr] at h; cases h
            | some l2 =>
              rw [hr] at h
              cases h
              have := ih b (o + 1) 0 k l2 hr (by omega)
              simp only [Nat.add_zero] at this ⊢
              rw [e1]
              simp only [hv, if_true, this]
              simp
          · cases h
        · cases h
    | succ f =>
      simp only [rdRo] at h
      split at h
      · split at h
        · cases hr : rdRo w0 b (o + 1) n with
          | none => rw [hr] at h; cases h
          | some l2 =>
            rw [hr] at h
            cases h
            have := ih b (o + 1) f k l2 hr (by omega)
            rw [show o + (f + 1) = o + 1 + f by omega, this]
            simp
        · cases h
      · cases h
/-- A part of what can be read can be read. -/
theorem rd_part {H : Hp} {b o : Nat} {sp : Option Nat} {n : Nat} {cs : List Value} (h : rd w0 H ⟨b, o, sp⟩ n = some cs) (f k : Nat) (hk : f + k ≤ n) : rd w0 H ⟨b, o + f, sp⟩ k = some ((cs.drop f).take k) := by
  cases sp with
  | none => exact rdRo_part n b o f k cs h hk
  | some tag =>
    simp only [rd] at h ⊢
    split at h
    · rename_i e
      split at h
      · rename_i hc
        cases h
        rw [if_pos ⟨hc.1, by omega⟩]
        congr 1
        rw [List.drop_take, List.take_take, List.drop_drop, Nat.min_eq_left (by omega)]
      · cases h
    · cases h
end
end Go.Proofs.YtcmflpdgfddmeaaDoorW.XM

namespace Go.Proofs.YtcmflpdgfddmeaaDoorW.XM
open Go.RowKit
section
variable {P : Program} {w0 : World}
theorem flat_part {α : Type} {enc : α → List Value} {n : Nat} (he : ∀ a, (enc a).length = n) : ∀ (rows : List α) (l m : Nat), l + m ≤ rows.length → ((flat enc rows).drop (l * n)).take (m * n) = flat enc ((rows.drop l).take m)
  | rows, 0, m, h => by
    rw [Nat.zero_mul, List.drop_zero, List.drop_zero]
    have e : flat enc rows = flat enc (rows.take m) ++ flat enc (rows.drop m) := by rw [← flat_app, List.take_append_drop]
    rw [e]
    have : m * n = (flat enc (rows.take m)).length := by rw [flat_len he, List.length_take, Nat.min_eq_left (by omega)]
    rw [this, List.take_left]
  | [], l + 1, m, h => by simp at h
  | a :: r, l + 1, m, h => by
    have := flat_part he r l m (by simp at h; omega)
    have e : flat enc (a :: r) = enc a ++ flat enc r := rfl
    rw [e, List.drop_succ_cons, Nat.succ_mul, Nat.add_comm, ← List.drop_drop]
    have : n = (enc a).length := (he a).symm
    rw [show (enc a ++ flat enc r).drop n = flat enc r by rw [this]; exact List.drop_left]
    exact flat_part he r l m (by simp at h; omega)
/-- A slice's parts: how it is taken, and what it holds. -/
theorem slc_part {α : Type} {enc : α → List Value} {n : Nat} (he : ∀ a, (enc a).length = n) (hn : 0 < n) {H : Hp} {b o c : Nat} {sp : Option Nat} {rows : List α} (hr : ∀ L, rd w0 (Hx H L) ⟨b, o, sp⟩ (rows.length * n) = some (flat enc rows)) (hc : rows.length ≤ c) (ho : ∀ L, ownB P (Hx H L) n b sp) {l h : Nat} (hlh : l ≤ h) (hh : h ≤ rows.length) (hp : 0 < rows.length) :
    ∃ (a : Addr) (c' : Nat), h - l ≤ c' ∧ (∀ (t e : TypeId) (L : List (Option Ob)) (lo hi : Option Value) (bb : Bool) (ee : Option (TypeId × Nat)) (K : Value → Hp → Prop) (k : Lk K), elm P t = some (e, n) → bnd lo 0 = some (l : Int) → bnd hi rows.length = some (h : Int) → K (.slice (some a) (h - l) c') (Hx H L) → slcV P w0 t bb ee (.slice (some ⟨b, o, sp⟩) rows.length c) lo hi none (Hx H L) k) ∧
      ∀ L, srcO (h - l) (rd w0 (Hx H L) a ((h - l) * n)) = some (h - l, flat enc ((rows.drop l).take (h - l))) := by
  by_cases hd : l = c ∧ sp.isSome = true
  · obtain ⟨rfl, hs⟩ := hd
    cases sp with
    | none => cases hs
    | some tag =>
      have h0 : tag ≠ 0 := by
        intro e
        subst e
        have := hr []
        simp only [rd] at this
        split at this
        · split at this
          · rename_i hq
            have : rows.length * n ≥ 1 * 1 := Nat.mul_le_mul hp hn
            omega
          · cases this
        · cases this
      obtain ⟨tg, rfl⟩ : ∃ tg, tag = tg + 1 := ⟨tag - 1, by omega⟩
      have e0 : h - l = 0 := by omega
      rw [e0]
      refine ⟨⟨b, o, some tg⟩, 0, Nat.le_refl _, fun t e L lo hi bb ee K k h1 h2 h3 hk => slc_end h1 h2 h3 _ _ _ _ (by omega) (by omega) (by omega) (ho L) rfl hk, fun L => ?_⟩
      rw [List.take_zero]
      cases hq : rd w0 (Hx H L) ⟨b, o, some tg⟩ (0 * n) with
      | none => rfl
      | some l2 =>
        have := rd_len hq
        rw [Nat.zero_mul] at this
        rw [List.eq_nil_of_length_eq_zero this]
        rfl
  · by_cases hd2 : l = c
    · subst hd2
      have hs : sp = none := by
        cases sp with
        | none => rfl
        | some _ => exact absurd ⟨rfl, rfl⟩ hd
      subst hs
      have e0 : h - l = 0 := by omega
      rw [e0]
      refine ⟨⟨b, o, none⟩, 0, Nat.le_refl _, fun t e L lo hi bb ee K k h1 h2 h3 hk => ?_, fun L => by rw [Nat.zero_mul, List.take_zero]; rfl⟩
      refine ⟨e, n, h1, by simp, l, h, l, h2, h3, rfl, by omega, by omega, by omega, Int.le_refl _, trivial, .inr (.inl ⟨fun hx => (by cases hx), ?_⟩)⟩
      rw [if_pos rfl]
      have : (h : Int).toNat - (l : Int).toNat = 0 := by omega
      rw [this]
      simpa using hk
    · refine ⟨⟨b, o + l * n, sp⟩, c - l, by omega, fun t e L lo hi bb ee K k h1 h2 h3 hk => slc_sl h1 h2 h3 _ _ _ _ (by omega) (by omega) (by omega) (ho L) (by omega) (by simpa using hk), fun L => ?_⟩
      have hle : l * n + (h - l) * n ≤ rows.length * n := by rw [← Nat.add_mul]; exact Nat.mul_le_mul_right _ (by omega)
      rw [rd_part (hr L) (l * n) ((h - l) * n) hle, flat_part he rows l (h - l) (by omega)]
      rfl
end
end Go.Proofs.YtcmflpdgfddmeaaDoorW.XM

namespace Go.Proofs.YtcmflpdgfddmeaaDoorW.FA
open Go.RowKit Go.Proofs.YtcmflpdgfddmeaaDoorW.XM Go.Proofs Go.Proofs.YtcmflpdgfddmeaaDoorW.XWords
set_option maxRecDepth 100000
set_option linter.unusedSimpArgs false
variable (w0 : World) (H : Hp)
def outI {α : Type} (l : List α) (i : Int) : List α := if 0 ≤ i then l.take i.toNat ++ l.drop (i.toNat + 1) else l
def roleI (l : List Mem) (i : Int) (num : Int) : List Mem := if 0 ≤ i then (match l[i.toNat]? with | some m => l.set i.toNat ⟨m.user, m.nick, num⟩ | none => l) else l
def applyR (R : Rm) (e : En) : Rm :=
  if (e.kind == 1) = true then ⟨R.name, IntKind.i64.wrap (e.seq + 1), R.ms ++ [⟨e.user, e.nick, e.num⟩], R.ks, R.subj⟩
  else if (e.kind == 2) = true then ⟨R.name, IntKind.i64.wrap (e.seq + 1), outI R.ms (idxP (isU e.user) R.ms 0), R.ks, R.subj⟩
  else if (e.kind == 4) = true then ⟨R.name, IntKind.i64.wrap (e.seq + 1), R.ms, R.ks, e.text⟩
  else if (e.kind == 5) = true then ⟨R.name, IntKind.i64.wrap (e.seq + 1), roleI R.ms (idxP (isU e.user) R.ms 0) e.num, R.ks, R.subj⟩
  else if (e.kind == 6) = true then ⟨R.name, IntKind.i64.wrap (e.seq + 1), R.ms, rkd e.user e.num R.ks, R.subj⟩
  else ⟨R.name, IntKind.i64.wrap (e.seq + 1), R.ms, R.ks, R.subj⟩
/-- A room whose members may be taken in part. -/
structure RmOw (w0 : World) (H : Hp) (R : Rm) (x : Ad) : Prop where
  cm : R.ms.length ≤ x.c
  om : ∀ b o sp, x.a = some ⟨b, o, sp⟩ → ∀ L, Go.Proofs.YtcmflpdgfddmeaaDoorW.XM.ownB Tryd.prog (Hx H L) 3 b sp
  rm : ∀ b o sp, x.a = some ⟨b, o, sp⟩ → ∀ L, rd w0 (Hx H L) ⟨b, o, sp⟩ (R.ms.length * 3) = some (flat Mem.enc R.ms)
/-- A cell of a row changed. -/
theorem flat_put {α : Type} {enc : α → List Value} {n : Nat} (he : ∀ a, (enc a).length = n) : ∀ (l : List α) (k : Nat) (y : α) (hk : k < l.length) (f : Nat) (v : Value), f < n → (enc l[k]).set f v = enc y → (flat enc l).set (k * n + f) v = flat enc (l.set k y)
  | a :: r, 0, y, _, f, v, hf, h => by
    have e : flat enc (a :: r) = enc a ++ flat enc r := rfl
    rw [e, Nat.zero_mul, Nat.zero_add, List.set_append_left _ _ (by rw [he]; exact hf)]
    rw [show (enc a).set f v = enc y from h]
    rfl
  | a :: r, k + 1, y, hk, f, v, hf, h => by
    have e : flat enc (a :: r) = enc a ++ flat enc r := rfl
    rw [e, List.set_append_right _ _ (by rw [he, Nat.succ_mul]; omega), he, show (k + 1) * n + f - n = k * n + f by rw [Nat.succ_mul]; omega, flat_put he r k y (by simpa using hk) f v hf (by simpa using h)]
    rfl
theorem l6Apply_ok (R : Rm) (x : Ad) (e : En) (hr : RmAt w0 H R x) (ho : RmOw w0 H R x) : AFn Tryd.prog w0 49 #[.agg (R.enc x).toArray, .agg e.enc.toArray] H fun v H2 => v = .agg ((applyR R e).enc (adR H (applyR R e) 0 1)).toArray ∧ H2 = Hx H (obsR (applyR R e)) := by
  obtain ⟨xa, xc, xb, xd⟩ := x
  have hlm := hr.lm
  have hlk := hr.lk
  refine AFn.news Tryd.func49 rfl (by kernel_rfl) ?_
  have r := Tryd.results49
  simp only [go_sem, cond, Nat.reduceAdd, Nat.reduceLeDiff, Nat.reduceEqDiff, Nat.reduceBEq, decide_true, decide_false, Int.toNat_natCast, r]
  simp only [go_sem, cond, Nat.reduceAdd, Nat.reduceLeDiff, Nat.reduceEqDiff, Nat.reduceBEq, decide_true, decide_false, Int.toNat_natCast, Rm.enc, En.enc, r]
  refine call_eq (l6Copy_ok _ _ R _ (hr.old _)) ?_
  simp only [go_sem, cond, Nat.reduceAdd, Nat.reduceLeDiff, Nat.reduceEqDiff, Nat.reduceBEq, decide_true, decide_false, Int.toNat_natCast, Rm.enc, En.enc, r, obsR, adR]
  refine Br_intro ?_ ?_ <;> intro h1 <;> simp only [go_sem, cond, Nat.reduceAdd, Nat.reduceLeDiff, Nat.reduceEqDiff, Nat.reduceBEq, decide_true, decide_false, Int.toNat_natCast, Rm.enc, En.enc, r, obsR, adR, h1]
  · refine Req_intro ⟨_, rfl, rfl⟩ ?_
    simp only [go_sem, cond, Nat.reduceAdd, Nat.reduceLeDiff, Nat.reduceEqDiff, Nat.reduceBEq, decide_true, decide_false, Int.toNat_natCast, Rm.enc, En.enc, r, obsR, adR, h1]
    refine appS_full _ _ _ _ _ _ _ _ 3 _ _ _ _ rfl rfl (flat_len mlen _) XF.lay_74 (by decide) (by rfl) (by omega) (by omega) ?_
    simp only [go_sem, cond, Nat.reduceAdd, Nat.reduceLeDiff, Nat.reduceEqDiff, Nat.reduceBEq, decide_true, decide_false, Int.toNat_natCast, Rm.enc, En.enc, r, obsR, adR, h1]
    have ha : applyR R e = ⟨R.name, IntKind.i64.wrap (e.seq + 1), R.ms ++ [⟨e.user, e.nick, e.num⟩], R.ks, R.subj⟩ := by simp only [applyR, h1, if_true]
    rw [ha]
    have e1 : flat Mem.enc R.ms ++ [.string e.user, .string e.nick, .int .i64 e.num] = flat Mem.enc (R.ms ++ [⟨e.user, e.nick, e.num⟩]) := by rw [flat_app]; rfl
    have e2 : R.ms.length + 1 = (R.ms ++ [(⟨e.user, e.nick, e.num⟩ : Mem)]).length := by simp
    rw [e1, e2]
    clear e1 e2 ha
    generalize R.ms ++ [(⟨e.user, e.nick, e.num⟩ : Mem)] = ms'
    exact ⟨_, [3, 4], _, rfl, pl2 ms' R.ks rfl rfl, by decide, ren_room H ⟨R.name, IntKind.i64.wrap (e.seq + 1), ms', R.ks, R.subj⟩ rfl rfl, rfl, rfl⟩
  refine Br_intro ?_ ?_ <;> intro h2 <;> simp only [go_sem, cond, Nat.reduceAdd, Nat.reduceLeDiff, Nat.reduceEqDiff, Nat.reduceBEq, decide_true, decide_false, Int.toNat_natCast, Rm.enc, En.enc, r, obsR, adR, h1, h2]
  · refine call_eq (l6Of_ok _ _ R _ _ (hr.old _)) ?_
    simp only [go_sem, cond, Nat.reduceAdd, Nat.reduceLeDiff, Nat.reduceEqDiff, Nat.reduceBEq, decide_true, decide_false, Int.toNat_natCast, r]
    have ha : applyR R e = ⟨R.name, IntKind.i64.wrap (e.seq + 1), outI R.ms (idxP (isU e.user) R.ms 0), R.ks, R.subj⟩ := by simp only [applyR, h1, h2, if_true, Bool.false_eq_true, if_false]
    rw [ha]
    clear ha
    rcases idxP_find (isU e.user) R.ms 0 with ⟨g1, _⟩ | ⟨k, hk, g1, _⟩
    · have d1 : ((0 : Int) ≤ -1) = False := eq_false (by omega)
      rw [g1]
      simp only [go_sem, cond, Nat.reduceAdd, Nat.reduceLeDiff, Nat.reduceEqDiff, Nat.reduceBEq, decide_true, decide_false, Int.toNat_natCast, r, d1]
      have ha : outI R.ms (-1) = R.ms := rfl
      rw [ha]
      exact ⟨_, [3, 4], _, rfl, pl2 R.ms R.ks rfl rfl, by decide, ren_room H ⟨R.name, IntKind.i64.wrap (e.seq + 1), R.ms, R.ks, R.subj⟩ rfl rfl, rfl, rfl⟩
    · rw [Nat.zero_add] at g1
      have d1 : ((0 : Int) ≤ (k : Int)) = True := eq_true (by omega)
      rw [g1]
      simp only [go_sem, cond, Nat.reduceAdd, Nat.reduceLeDiff, Nat.reduceEqDiff, Nat.reduceBEq, decide_true, decide_false, Int.toNat_natCast, r, d1]
      obtain ⟨b, o, sp, rfl, _, _⟩ := mcell hr.sm hk
      have w1 : IntKind.i64.wrap ((k : Int) + 1) = ((k + 1 : Nat) : Int) := by rw [wrap_i64 (by omega) (by omega)]; omega
      obtain ⟨a1, c1, _, s1, q1⟩ := slc_part mlen (by decide) (ho.rm b o sp rfl) ho.cm (ho.om b o sp rfl) (l := 0) (h := k) (by omega) (by omega) (by omega)
      obtain ⟨a2, c2, _, s2, q2⟩ := slc_part mlen (by decide) (ho.rm b o sp rfl) ho.cm (ho.om b o sp rfl) (l := k + 1) (h := R.ms.length) (by omega) (by omega) (by omega)
      simp only [Nat.sub_zero, List.drop_zero] at s1 q1
      have e3 : (R.ms.drop (k + 1)).take (R.ms.length - (k + 1)) = R.ms.drop (k + 1) := List.take_of_length_le (by simp)
      rw [e3] at q2
      (refine xw_open (id := 9) [0, 0, 2, 0, 14, 31, 0, 64, 0, 256, 960, 2047, 4095, 8191] [.q 1, .q 3, .q 6, .q 8, .q 9, .l 2, .l 4, .l 7, .l 10, .e 0, .d 4, .d 2, .e 5, .d 10, .d 7, .e 11, .q 12, .e 13] rfl (by kernel_rfl) ?_; simp only [go_sem, cond, Nat.reduceAdd, Nat.reduceLeDiff, Nat.reduceEqDiff, Nat.reduceBEq, decide_true, decide_false, Int.toNat_natCast, r, w1])
      refine s1 _ _ _ _ _ _ _ _ _ XF.elm_56 rfl rfl ?_
      simp only [go_sem, cond, Nat.reduceAdd, Nat.reduceLeDiff, Nat.reduceEqDiff, Nat.reduceBEq, decide_true, decide_false, Int.toNat_natCast, r, w1]
      refine s2 _ _ _ _ _ _ _ _ _ XF.elm_56 rfl rfl ?_
      simp only [go_sem, cond, Nat.reduceAdd, Nat.reduceLeDiff, Nat.reduceEqDiff, Nat.reduceBEq, decide_true, decide_false, Int.toNat_natCast, r, w1]
      refine Req_intro ⟨_, rfl, rfl⟩ ?_
      simp only [go_sem, cond, Nat.reduceAdd, Nat.reduceLeDiff, Nat.reduceEqDiff, Nat.reduceBEq, decide_true, decide_false, Int.toNat_natCast, r, w1]
      refine Req_intro (s2 _ _ _ _ _ _ _ _ _ XF.elm_56 rfl rfl ⟨rfl, rfl⟩) ?_
      simp only [go_sem, cond, Nat.reduceAdd, Nat.reduceLeDiff, Nat.reduceEqDiff, Nat.reduceBEq, decide_true, decide_false, Int.toNat_natCast, r, w1]
      refine Req_intro (s1 _ _ _ _ _ _ _ _ _ XF.elm_56 rfl rfl ⟨rfl, rfl⟩) ?_
      simp only [go_sem, cond, Nat.reduceAdd, Nat.reduceLeDiff, Nat.reduceEqDiff, Nat.reduceBEq, decide_true, decide_false, Int.toNat_natCast, r, w1, q1]
      refine appS_full _ _ _ _ _ _ _ _ 6 0 _ _ _ rfl rfl rfl XF.lay_74 (by decide) (flat_len mlen _ |>.trans (by rw [List.length_take, Nat.min_eq_left (by omega)])) (by omega) (by omega) ?_
      simp only [go_sem, cond, Nat.reduceAdd, Nat.reduceLeDiff, Nat.reduceEqDiff, Nat.reduceBEq, decide_true, decide_false, Int.toNat_natCast, r, w1, q1, Nat.zero_add, List.nil_append]
      refine Req_intro (s2 _ _ _ _ _ _ _ _ _ XF.elm_56 rfl rfl ⟨rfl, rfl⟩) ?_
      simp only [go_sem, cond, Nat.reduceAdd, Nat.reduceLeDiff, Nat.reduceEqDiff, Nat.reduceBEq, decide_true, decide_false, Int.toNat_natCast, r, w1, q2]
      refine appS_full _ _ _ _ _ _ _ _ 6 k _ _ _ rfl rfl (flat_len mlen _ |>.trans (by rw [List.length_take, Nat.min_eq_left (by omega)])) XF.lay_74 (by decide) (flat_len mlen _ |>.trans (by rw [List.length_drop])) (by omega) (by omega) ?_
      simp only [go_sem, cond, Nat.reduceAdd, Nat.reduceLeDiff, Nat.reduceEqDiff, Nat.reduceBEq, decide_true, decide_false, Int.toNat_natCast, r, w1]
      rw [← flat_app]
      have e4 : outI R.ms (k : Int) = R.ms.take k ++ R.ms.drop (k + 1) := by unfold outI; rw [if_pos (by omega), Int.toNat_natCast]
      have e5 : k + (R.ms.length - (k + 1)) = (R.ms.take k ++ R.ms.drop (k + 1)).length := by rw [List.length_append, List.length_take, List.length_drop]; omega
      rw [e4, e5]
      clear e4 e5 e3 s1 s2 q1 q2
      generalize R.ms.take k ++ R.ms.drop (k + 1) = ms'
      exact ⟨_, [6, 4], _, rfl, pl2 ms' R.ks rfl rfl, by decide, ren_room H ⟨R.name, IntKind.i64.wrap (e.seq + 1), ms', R.ks, R.subj⟩ rfl rfl, rfl, rfl⟩
  refine Br_intro ?_ ?_ <;> intro h3 <;> simp only [go_sem, cond, Nat.reduceAdd, Nat.reduceLeDiff, Nat.reduceEqDiff, Nat.reduceBEq, decide_true, decide_false, Int.toNat_natCast, Rm.enc, En.enc, r, obsR, adR, h1, h2, h3]
  · have ha : applyR R e = ⟨R.name, IntKind.i64.wrap (e.seq + 1), R.ms, R.ks, e.text⟩ := by simp only [applyR, h1, h2, h3, if_true, Bool.false_eq_true, if_false]
    rw [ha]
    exact ⟨_, [3, 4], _, rfl, pl2 R.ms R.ks rfl rfl, by decide, ren_room H ⟨R.name, IntKind.i64.wrap (e.seq + 1), R.ms, R.ks, e.text⟩ rfl rfl, rfl, rfl⟩
  refine Br_intro ?_ ?_ <;> intro h4 <;> simp only [go_sem, cond, Nat.reduceAdd, Nat.reduceLeDiff, Nat.reduceEqDiff, Nat.reduceBEq, decide_true, decide_false, Int.toNat_natCast, Rm.enc, En.enc, r, obsR, adR, h1, h2, h3, h4]
  · refine call_eq (l6Of_ok _ _ R _ _ (hr.old _)) ?_
    simp only [go_sem, cond, Nat.reduceAdd, Nat.reduceLeDiff, Nat.reduceEqDiff, Nat.reduceBEq, decide_true, decide_false, Int.toNat_natCast, r]
    have ha : applyR R e = ⟨R.name, IntKind.i64.wrap (e.seq + 1), roleI R.ms (idxP (isU e.user) R.ms 0) e.num, R.ks, R.subj⟩ := by simp only [applyR, h1, h2, h3, h4, if_true, Bool.false_eq_true, if_false]
    rw [ha]
    clear ha
    rcases idxP_find (isU e.user) R.ms 0 with ⟨g1, _⟩ | ⟨k, hk, g1, _⟩
    · have d1 : ((0 : Int) ≤ -1) = False := eq_false (by omega)
      rw [g1]
      simp only [go_sem, cond, Nat.reduceAdd, Nat.reduceLeDiff, Nat.reduceEqDiff, Nat.reduceBEq, decide_true, decide_false, Int.toNat_natCast, r, d1]
      have ha : roleI R.ms (-1) e.num = R.ms := rfl
      rw [ha]
      exact ⟨_, [3, 4], _, rfl, pl2 R.ms R.ks rfl rfl, by decide, ren_room H ⟨R.name, IntKind.i64.wrap (e.seq + 1), R.ms, R.ks, R.subj⟩ rfl rfl, rfl, rfl⟩
    · rw [Nat.zero_add] at g1
      have d1 : ((0 : Int) ≤ (k : Int)) = True := eq_true (by omega)
      have d2 : ((k : Int) < (R.ms.length : Int)) = True := eq_true (by omega)
      rw [g1]
      have hlen := flat_len mlen R.ms
      simp only [go_sem, cond, Nat.reduceAdd, Nat.reduceLeDiff, Nat.reduceEqDiff, Nat.reduceBEq, decide_true, decide_false, Int.toNat_natCast, r, d1, d2, hlen]
      refine Req_intro (by omega) ?_
      simp only [go_sem, cond, Nat.reduceAdd, Nat.reduceLeDiff, Nat.reduceEqDiff, Nat.reduceBEq, decide_true, decide_false, Int.toNat_natCast, r, d1, d2, hlen]
      have p0 : (flat Mem.enc R.ms).set (k * 3 + 2) (.int .i64 e.num) = flat Mem.enc (roleI R.ms (k : Int) e.num) := by
        unfold roleI
        rw [if_pos (by omega), Int.toNat_natCast]
        have := flat_put mlen R.ms k ⟨R.ms[k].user, R.ms[k].nick, e.num⟩ hk 2 (.int .i64 e.num) (by decide) rfl
        rw [this, List.getElem?_eq_getElem hk]
      have e5 : R.ms.length = (roleI R.ms (k : Int) e.num).length := by unfold roleI; rw [if_pos (by omega), Int.toNat_natCast, List.getElem?_eq_getElem hk]; simp
      rw [p0, e5]
      clear e5 p0 hlen
      generalize roleI R.ms (k : Int) e.num = ms'
      exact ⟨_, [3, 4], _, rfl, pl2 ms' R.ks rfl rfl, by decide, ren_room H ⟨R.name, IntKind.i64.wrap (e.seq + 1), ms', R.ks, R.subj⟩ rfl rfl, rfl, rfl⟩
  refine Br_intro ?_ ?_ <;> intro h5 <;> simp only [go_sem, cond, Nat.reduceAdd, Nat.reduceLeDiff, Nat.reduceEqDiff, Nat.reduceBEq, decide_true, decide_false, Int.toNat_natCast, Rm.enc, En.enc, r, obsR, adR, h1, h2, h3, h4, h5]
  · refine call_eq (l6Ranked_ok _ _ xb xd R.ks e.user e.num (hr.sk.old _) hlk) ?_
    simp only [go_sem, cond, Nat.reduceAdd, Nat.reduceLeDiff, Nat.reduceEqDiff, Nat.reduceBEq, decide_true, decide_false, Int.toNat_natCast, r]
    have ha : applyR R e = ⟨R.name, IntKind.i64.wrap (e.seq + 1), R.ms, rkd e.user e.num R.ks, R.subj⟩ := by simp only [applyR, h1, h2, h3, h4, h5, if_true, Bool.false_eq_true, if_false]
    rw [ha]
    clear ha
    generalize rkd e.user e.num R.ks = ks'
    exact ⟨_, [3, 6], _, rfl, pl2 R.ms ks' rfl rfl, by decide, ren_room H ⟨R.name, IntKind.i64.wrap (e.seq + 1), R.ms, ks', R.subj⟩ rfl rfl, rfl, rfl⟩
  · have ha : applyR R e = ⟨R.name, IntKind.i64.wrap (e.seq + 1), R.ms, R.ks, R.subj⟩ := by simp only [applyR, h1, h2, h3, h4, h5, if_true, Bool.false_eq_true, if_false]
    rw [ha]
    exact ⟨_, [3, 4], _, rfl, pl2 R.ms R.ks rfl rfl, by decide, ren_room H ⟨R.name, IntKind.i64.wrap (e.seq + 1), R.ms, R.ks, R.subj⟩ rfl rfl, rfl, rfl⟩
end Go.Proofs.YtcmflpdgfddmeaaDoorW.FA

