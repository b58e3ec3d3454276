-- laid by xprint.py and pack.py, programs of this session's; Lean checks it
import Derived.Test.YtgjecacalpaacaaDoorZFnExactRoomOkK0
import Derived.Test.YtgjecacalpaacaaDoorZFnExactRoomOkK2
import Derived.Test.YtgjecacalpaacaaDoorZFnExactRoomOkK3
namespace Go.Proofs.YtgjecacalpaacaaDoor.PAll
open Go.RowKit Go.Proofs.YtgjecacalpaacaaDoorW.XWords Go.Proofs.YtgjecacalpaacaaDoorW.PrintWords Go.Proofs.YtgjecacalpaacaaDoorW.PrintLast Go.Proofs.YtgjecacalpaacaaDoorW.PrintMore
theorem z4_13 {p : Prop} (h : p := by (try simp only [List.map_toArray, List.map_cons, List.map_nil]); first | done | rfl) : p := h
theorem z4_12 {p : Prop} (h : p := by (with_reducible repeat (first | refine blk_drewN ?_ _ | refine blk_drew ?_ | refine blk_alloc ?_ _)); exact BK6.out) : p := h
theorem z4_11 {p : Prop} (h : p := by (with_reducible repeat (first | refine blk_drewN ?_ _ | refine blk_drew ?_ | refine blk_alloc ?_ _)); exact BK4.out) : p := h
theorem z4_10 {p : Prop} (h : p := by (with_reducible repeat (first | refine blk_drewN ?_ _ | refine blk_drew ?_ | refine blk_alloc ?_ _)); exact BK1.out) : p := h
theorem z4_9 {p : Prop} (h : p := by repeat (first | (with_reducible first | exact HB.out | apply below_alloc | apply pw_below_drewN | apply below_drew1) | exact HB.out)) : p := h
theorem z4_8 {p : Prop} (h : p := by repeat (first | (with_reducible first | exact HB.out | apply below_alloc | apply pw_below_drewN | apply below_drew1 | refine below_set ?_ GE1.out) | exact HB.out)) : p := h
theorem z4_7 {p : Prop} (h : p := by repeat (first | (with_reducible first | exact HB.out | apply below_alloc | apply pw_below_drewN | apply below_drew1 | refine below_set ?_ GE1.out | refine below_set ?_ GE6.out) | exact HB.out)) : p := h
theorem z4_6 {p : Prop} (h : p := by repeat (first | (with_reducible first | exact HB.out | apply below_alloc | apply pw_below_drewN | apply below_drew1 | refine below_set ?_ GE1.out | refine below_set ?_ GE4.out) | exact HB.out)) : p := h
theorem z4_5 {p : Prop} (h : p := by repeat (first | exact (Kd.C_below HR3.out HB.out) | (with_reducible refine Kd.C_alloc ?_ _) | (with_reducible refine Kd.C_drewN ?_ _) | (with_reducible refine Kd.C_drew ?_) | refine Kd.C_below ?_ (Below.setCell (Below.refl _ _) (Nat.le_refl _) _))) : p := h
theorem z4_4 {p : Prop} (h : p := by repeat (first | exact (Kd.C_below HR2.out HB.out) | (with_reducible refine Kd.C_alloc ?_ _) | (with_reducible refine Kd.C_drewN ?_ _) | (with_reducible refine Kd.C_drew ?_) | refine Kd.C_below ?_ (Below.setCell (Below.refl _ _) (Nat.le_refl _) _))) : p := h
theorem z4_3 {p : Prop} (h : p := by (with_reducible repeat (first | refine blk_drewN ?_ _ | refine blk_drew ?_ | refine blk_alloc ?_ _)); refine blk_far ?_ NB1_6.out _; (with_reducible repeat (first | refine blk_drewN ?_ _ | refine blk_drew ?_ | refine blk_alloc ?_ _)); refine blk_far ?_ NB1_6.out _; (with_reducible repeat (first | refine blk_drewN ?_ _ | refine blk_drew ?_ | refine blk_alloc ?_ _)); exact BK1.out) : p := h
theorem z4_2 {p : Prop} (h : p := by (with_reducible repeat (first | refine blk_drewN ?_ _ | refine blk_drew ?_ | refine blk_alloc ?_ _)); refine blk_put (cs := #[.string x.f0, .int .i64 0]) ?_ 1 _ rfl; (with_reducible repeat (first | refine blk_drewN ?_ _ | refine blk_drew ?_ | refine blk_alloc ?_ _)); refine blk_put (cs := #[.string (⟨#[]⟩ : ByteArray), .int .i64 0]) ?_ 0 _ rfl; (with_reducible repeat (first | refine blk_drewN ?_ _ | refine blk_drew ?_ | refine blk_alloc ?_ _)); exact BK6.out) : p := h
theorem z4_1 {p : Prop} (h : p := by (with_reducible repeat (first | refine blk_drewN ?_ _ | refine blk_drew ?_ | refine blk_alloc ?_ _)); refine blk_far ?_ NB1_4.out _; (with_reducible repeat (first | refine blk_drewN ?_ _ | refine blk_drew ?_ | refine blk_alloc ?_ _)); refine blk_far ?_ NB1_4.out _; (with_reducible repeat (first | refine blk_drewN ?_ _ | refine blk_drew ?_ | refine blk_alloc ?_ _)); refine blk_far ?_ NB1_4.out _; (with_reducible repeat (first | refine blk_drewN ?_ _ | refine blk_drew ?_ | refine blk_alloc ?_ _)); exact BK1.out) : p := h
theorem z4_0 {p : Prop} (h : p := by (with_reducible repeat (first | refine blk_drewN ?_ _ | refine blk_drew ?_ | refine blk_alloc ?_ _)); refine blk_put (cs := #[.string x.f0, .string x.f1, .int .i64 0]) ?_ 2 _ rfl; (with_reducible repeat (first | refine blk_drewN ?_ _ | refine blk_drew ?_ | refine blk_alloc ?_ _)); refine blk_put (cs := #[.string x.f0, .string (⟨#[]⟩ : ByteArray), .int .i64 0]) ?_ 1 _ rfl; (with_reducible repeat (first | refine blk_drewN ?_ _ | refine blk_drew ?_ | refine blk_alloc ?_ _)); refine blk_put (cs := #[.string (⟨#[]⟩ : ByteArray), .string (⟨#[]⟩ : ByteArray), .int .i64 0]) ?_ 0 _ rfl; (with_reducible repeat (first | refine blk_drewN ?_ _ | refine blk_drew ?_ | refine blk_alloc ?_ _)); exact BK4.out) : p := h
end Go.Proofs.YtgjecacalpaacaaDoor.PAll
namespace Go.Proofs.YtgjecacalpaacaaDoor.PAll
open Go.RowKit Go.Proofs.YtgjecacalpaacaaDoorW.XWords Go.Proofs.YtgjecacalpaacaaDoorW.PrintWords Go.Proofs.YtgjecacalpaacaaDoorW.PrintLast Go.Proofs.YtgjecacalpaacaaDoorW.PrintMore
attribute [local go_sem] isSome_setCell max2_int min2_int max_two min_two max_three min_three max_four min_four   -- for this text's walks alone
set_option linter.unusedVariables false
set_option linter.unusedSimpArgs false


def impl_RoomOk.mem (k : Nat) (a0_0 : ByteArray) (a0_1 : Int) (l0_2 : List S89) (l0_3 : List S92) (a0_4 : ByteArray) : List S89 → Int → Option Bool
  | [], _ => some true
  | x :: t, i => (impl_userOk.f x.f0).bind fun u => (impl_nickOk.f k x.f1).bind fun n => (impl_Room_member.f a0_0 a0_1 l0_2 l0_3 a0_4 x.f0).bind fun iv => (impl_Room_nick.f a0_0 a0_1 l0_2 l0_3 a0_4 x.f1).bind fun jv => (impl_within.f x.f2 1 3).bind fun wi => (impl_Room_rank.f k a0_0 a0_1 l0_2 l0_3 a0_4 x.f0).bind fun rk => (impl_RoomOk.mem k a0_0 a0_1 l0_2 l0_3 a0_4 t (i + 1)).bind fun b => some (u && (n && ((iv == i) && ((jv == i) && (wi && ((!(rk == 0)) && b))))))
def impl_RoomOk.less : Option ByteArray → ByteArray → Bool
  | none, _ => true
  | some y, x => Op.bytesLess y.toList x.toList
def impl_RoomOk.rks : List S92 → Option ByteArray → Option Bool
  | [], _ => some true
  | x :: t, p => (impl_userOk.f x.f0).bind fun u => (impl_within.f x.f1 0 4).bind fun wi => (impl_RoomOk.rks t (some x.f0)).bind fun b => some (u && (impl_RoomOk.less p x.f0 && (wi && ((!(x.f1 == 1)) && b))))
def impl_RoomOk.tail (ow : Int) (a0_0 : ByteArray) (a0_1 : Int) (l0_2 : List S89) (l0_3 : List S92) (a0_4 : ByteArray) : Bool := decide (0 < ow) || ((a0_1 == 0) && (decide (l0_2.length = 0) && (decide (l0_3.length = 0) && (a0_4.toList == ([] : List UInt8)))))
def impl_RoomOk.f (k : Nat) (a0_0 : ByteArray) (a0_1 : Int) (l0_2 : List S89) (l0_3 : List S92) (a0_4 : ByteArray) : Option Bool := (impl_userOk.f a0_0).bind fun u => (impl_within.f a0_1 0 9999).bind fun wi => (impl_orEmpty_impl_bodyOk.f k a0_4).bind fun o => (impl_RoomOk.mem k a0_0 a0_1 l0_2 l0_3 a0_4 l0_2 0).bind fun m => (impl_RoomOk.rks l0_3 none).bind fun q => (impl_Room_owners.f k a0_0 a0_1 l0_2 l0_3 a0_4).bind fun ow => some (u && (wi && (o && (decide (l0_2.length ≤ 5) && (decide (l0_3.length ≤ 6) && (m && (q && impl_RoomOk.tail ow a0_0 a0_1 l0_2 l0_3 a0_4)))))))
theorem impl_RoomOk.mem_mono (k : Nat) (a0_0 : ByteArray) (a0_1 : Int) (l0_2 : List S89) (l0_3 : List S92) (a0_4 : ByteArray) : ∀ (l : List S89) (i : Int), LeO (impl_RoomOk.mem k a0_0 a0_1 l0_2 l0_3 a0_4 l i) (impl_RoomOk.mem (k + 1) a0_0 a0_1 l0_2 l0_3 a0_4 l i)
  | [], _ => LeO.refl _
  | x :: t, i => LeO.bind (LeO.refl _) (fun _ => LeO.bind (impl_nickOk.mono _ k) (fun _ => LeO.bind (LeO.refl _) (fun _ => LeO.bind (LeO.refl _) (fun _ => LeO.bind (LeO.refl _) (fun _ => LeO.bind (impl_Room_rank.mono _ _ _ _ _ _ k) (fun _ => LeO.bind (impl_RoomOk.mem_mono k a0_0 a0_1 l0_2 l0_3 a0_4 t (i + 1)) (fun _ => LeO.refl _)))))))
theorem impl_RoomOk.mono : ∀ a0 a1 a2 a3 a4 k, LeO (impl_RoomOk.f k a0 a1 a2 a3 a4) (impl_RoomOk.f (k + 1) a0 a1 a2 a3 a4) := fun a0 a1 a2 a3 a4 k =>
  LeO.bind (LeO.refl _) (fun _ => LeO.bind (LeO.refl _) (fun _ => LeO.bind (impl_orEmpty_impl_bodyOk.mono _ k) (fun _ => LeO.bind (impl_RoomOk.mem_mono k a0 a1 a2 a3 a4 a2 0) (fun _ => LeO.bind (LeO.refl _) (fun _ => LeO.bind (impl_Room_owners.mono _ _ _ _ _ k) (fun _ => LeO.refl _))))))
theorem impl_RoomOk.mem_step (k : Nat) (a0_0 : ByteArray) (a0_1 : Int) (l0_2 : List S89) (l0_3 : List S92) (a0_4 : ByteArray) (j : Nat) (hj : j < l0_2.length) (m : Bool) (h : impl_RoomOk.mem k a0_0 a0_1 l0_2 l0_3 a0_4 (l0_2.drop j) (j : Int) = some m) : ∃ u n wi b : Bool, ∃ iv jv rk : Int, impl_userOk.f (rd_T89 l0_2 (j : Int)).f0 = some u ∧ impl_nickOk.f k (rd_T89 l0_2 (j : Int)).f1 = some n ∧ impl_Room_member.f a0_0 a0_1 l0_2 l0_3 a0_4 (rd_T89 l0_2 (j : Int)).f0 = some iv ∧ impl_Room_nick.f a0_0 a0_1 l0_2 l0_3 a0_4 (rd_T89 l0_2 (j : Int)).f1 = some jv ∧ impl_within.f (rd_T89 l0_2 (j : Int)).f2 1 3 = some wi ∧ impl_Room_rank.f k a0_0 a0_1 l0_2 l0_3 a0_4 (rd_T89 l0_2 (j : Int)).f0 = some rk ∧ impl_RoomOk.mem k a0_0 a0_1 l0_2 l0_3 a0_4 (l0_2.drop (j + 1)) ((j + 1 : Nat) : Int) = some b ∧ m = (u && (n && ((iv == (j : Int)) && ((jv == (j : Int)) && (wi && ((!(rk == 0)) && b)))))) := by
  have hx : rd_T89 l0_2 (j : Int) = l0_2[j] := by simp [rd_T89, List.getD_eq_getElem?_getD, List.getElem?_eq_getElem hj]
  rw [List.drop_eq_getElem_cons hj] at h
  rw [hx]
  simp only [impl_RoomOk.mem] at h
  obtain ⟨u, h1, h⟩ := Option.bind_eq_some_iff.mp h
  obtain ⟨n, h2, h⟩ := Option.bind_eq_some_iff.mp h
  obtain ⟨iv, h3, h⟩ := Option.bind_eq_some_iff.mp h
  obtain ⟨jv, h4, h⟩ := Option.bind_eq_some_iff.mp h
  obtain ⟨wi, h5, h⟩ := Option.bind_eq_some_iff.mp h
  obtain ⟨rk, h6, h⟩ := Option.bind_eq_some_iff.mp h
  obtain ⟨b, h7, h⟩ := Option.bind_eq_some_iff.mp h
  exact ⟨u, n, wi, b, iv, jv, rk, h1, h2, h3, h4, h5, h6, h7, (Option.some.inj h).symm⟩
def impl_RoomOk.prev (l : List S92) (j : Nat) : Option ByteArray := if j = 0 then none else some (rd_T92 l ((j : Int) - 1)).f0
theorem impl_RoomOk.rks_step (l : List S92) (j : Nat) (hj : j < l.length) (m : Bool) (h : impl_RoomOk.rks (l.drop j) (impl_RoomOk.prev l j) = some m) : ∃ u wi b : Bool, impl_userOk.f (rd_T92 l (j : Int)).f0 = some u ∧ impl_within.f (rd_T92 l (j : Int)).f1 0 4 = some wi ∧ impl_RoomOk.rks (l.drop (j + 1)) (impl_RoomOk.prev l (j + 1)) = some b ∧ m = (u && (impl_RoomOk.less (impl_RoomOk.prev l j) (rd_T92 l (j : Int)).f0 && (wi && ((!((rd_T92 l (j : Int)).f1 == 1)) && b)))) := by
  have hx : rd_T92 l (j : Int) = l[j] := by simp [rd_T92, List.getD_eq_getElem?_getD, List.getElem?_eq_getElem hj]
  have hp : impl_RoomOk.prev l (j + 1) = some (l[j]).f0 := by
    unfold impl_RoomOk.prev
    rw [if_neg (by omega), show (((j + 1 : Nat) : Int) - 1) = (j : Int) by omega, hx]
  rw [List.drop_eq_getElem_cons hj] at h
  rw [hp, hx]
  simp only [impl_RoomOk.rks] at h
  obtain ⟨u, h1, h⟩ := Option.bind_eq_some_iff.mp h
  obtain ⟨wi, h2, h⟩ := Option.bind_eq_some_iff.mp h
  obtain ⟨b, h3, h⟩ := Option.bind_eq_some_iff.mp h
  exact ⟨u, wi, b, h1, h2, h3, (Option.some.inj h).symm⟩
def impl_RoomOk.T12 : Bool × List (List Nat × List Nat) := (true, [([], []), ([0], [0]), ([1], [1]), ([2], [2]), ([3, 2], [3]), ([4], [4]), ([5, 4], [4, 5]), ([6, 4, 4], [4, 6]), ([7], [7]), ([8, 7], [7, 8]), ([7], [7]), ([10, 7], [7, 10]), ([9, 11, 7], [7, 9, 11]), ([12, 7], [7, 12]), ([13, 7], [7, 13]), ([7], [7]), ([15, 7], [7, 15]), ([14, 16, 7], [7, 14, 16]), ([7, 17, 4], [4, 7, 17]), ([4, 18], [4, 18]), ([19, 7], [19]), ([20], [20]), ([21, 20], [20, 21]), ([22, 20, 20], [20, 22]), ([23, 20], [20, 23]), ([20, 24], [20, 24]), ([25, 23], [25]), ([26], [26]), ([27, 26], [26, 27]), ([28, 26], [26, 28]), ([26, 29], [26, 29])])
def impl_RoomOk.B12 : List Nat := [0, 1, 3, 7, 15, 31, 63, 127, 255, 511, 255, 1279, 4095, 8191, 16383, 255, 33023, 131071, 262143, 524287, 1048575, 2097151, 4194303, 8388607, 16777215, 33554431, 67108863, 134217727, 268435455, 536870911, 1073741823]
theorem impl_RoomOk.tab12 : rtab .any (opsOf Tryd.f40 12) = impl_RoomOk.T12 := by kernel_rfl
theorem impl_RoomOk.bits12 : waitsOk impl_RoomOk.T12.2 impl_RoomOk.B12 = true := by kernel_rfl
section
variable {P : Program} {md : Region.Mode} {ops : Array Oper} {Q : Exit → Act → World → Prop} {S : World → Prop} {ds : List Nat} {T : Bool × List (List Nat × List Nat)} {B : List Nat}
theorem impl_RoomOk.pS (i : Nat) (N : Option Tmp) (l' : Array Bool) {oi : Oper} {v : Value} {fuel : Nat} {l : Array Bool} {a a' : Act} {w : World} (hT : rtab md ops = T) (h : wpAnyLast P md ops Q S ds fuel l' a' w)
    (hi : ops[i]? = some oi := by rfl) (hN : oi.dst = N := by rfl) (hc : anyT T l.toList l'.toList i = true := by kernel_rfl) (hQ : ∀ c a w, Q (.panic c) (a.put oi.dst v) w → Q (.panic c) a w := by exact (fun _ _ _ h => h))
    (hy : Yields P ops oi v a := by exact (Or.inl ⟨by rfl, by intro w'; go_simp; with_reducible rfl⟩)) (ha : a.put N v = a' := by (simp only [Act.put, List.setIfInBounds_toArray, List.set_cons_zero, List.set_cons_succ, i64_w, i32_w]; rfl)) : wpAnyLast P md ops Q S ds (fuel + 1) l a w := pure_ l' hi hN (any_of hT hc) hQ hy ha h
theorem impl_RoomOk.uS (i : Nat) (N : Option Tmp) (l' : Array Bool) {oi : Oper} {fuel : Nat} {l : Array Bool} {a a' : Act} {w : World} (hT : rtab md ops = T) (h : wpAnyLast P md ops Q S ds fuel l' a' w)
    (hi : ops[i]? = some oi := by rfl) (hN : oi.dst = N := by rfl) (hc : anyT T l.toList l'.toList i = true := by kernel_rfl) (hQ : ∀ c a w, Q (.panic c) (a.put oi.dst undef) w → Q (.panic c) a w := by exact (fun _ _ _ h => h))
    (hy : Yields P ops oi undef a := by exact (Or.inr ⟨by rfl, rfl⟩)) (ha : a.put N undef = a' := by (simp only [Act.put, List.setIfInBounds_toArray, List.set_cons_zero, List.set_cons_succ, i64_w, i32_w]; rfl)) : wpAnyLast P md ops Q S ds (fuel + 1) l a w := pure_ l' hi hN (any_of hT hc) hQ hy ha h
theorem impl_RoomOk.tS (i : Nat) (N : Option Tmp) (l' : Array Bool) {oi : Oper} {v : Value} {fuel : Nat} {l : Array Bool} {a a' : Act} {w : World} (hT : rtab md ops = T) (hB : waitsOk T.2 B = true) (hS : S w) (h : wpAnyLast P md ops Q S ds fuel l' a' w)
    (hi : ops[i]? = some oi := by rfl) (hN : oi.dst = N := by rfl) (hc : takeW T B ds l.toList l'.toList i = true := by kernel_rfl) (hQ : ∀ c a w, Q (.panic c) (a.put oi.dst v) w → Q (.panic c) a w := by exact (fun _ _ _ h => h))
    (hy : YieldsIf P ops S oi v a := by first | exact (Or.inl ⟨by rfl, by rintro w' ⟨s0, s1, s2, s3⟩; go_simp; with_reducible rfl⟩) | exact (Or.inl ⟨by rfl, by rintro w' ⟨s0, s1⟩; go_simp; with_reducible rfl⟩)) (ha : a.put N v = a' := by (simp only [Act.put, List.setIfInBounds_toArray, List.set_cons_zero, List.set_cons_succ, i64_w, i32_w]; rfl)) : wpAnyLast P md ops Q S ds (fuel + 1) l a w := take_ l' hi hN (take_ofW hT hB hc) hQ hy hS ha h
end
abbrev impl_RoomOk.q0 : Array Bool := #[false, false, false, false, false, false, false, false, false, false, false, false, false, false, false, false, false, false, false, false, false, false, false, false, false, false, false, false, false, false, false]
abbrev impl_RoomOk.q1 : Array Bool := #[true, false, false, false, false, false, false, false, false, false, false, false, false, false, false, false, false, false, false, false, false, false, false, false, false, false, false, false, false, false, false]
abbrev impl_RoomOk.q2 : Array Bool := #[true, true, false, false, false, false, false, false, false, false, false, false, false, false, false, false, false, false, false, false, false, false, false, false, false, false, false, false, false, false, false]
abbrev impl_RoomOk.q3 : Array Bool := #[true, true, true, false, false, false, false, false, false, false, false, false, false, false, false, false, false, false, false, false, false, false, false, false, false, false, false, false, false, false, false]
abbrev impl_RoomOk.q4 : Array Bool := #[true, true, true, true, false, false, false, false, false, false, false, false, false, false, false, false, false, false, false, false, false, false, false, false, false, false, false, false, false, false, false]
abbrev impl_RoomOk.q5 : Array Bool := #[true, true, true, true, true, false, false, false, false, false, false, false, false, false, false, false, false, false, false, false, false, false, false, false, false, false, false, false, false, false, false]
abbrev impl_RoomOk.q6 : Array Bool := #[true, true, true, true, true, true, false, false, false, false, false, false, false, false, false, false, false, false, false, false, false, false, false, false, false, false, false, false, false, false, false]
abbrev impl_RoomOk.q7 : Array Bool := #[true, true, true, true, true, true, true, false, false, false, false, false, false, false, false, false, false, false, false, false, false, false, false, false, false, false, false, false, false, false, false]
abbrev impl_RoomOk.q8 : Array Bool := #[true, true, true, true, true, true, true, true, false, false, false, false, false, false, false, false, false, false, false, false, false, false, false, false, false, false, false, false, false, false, false]
abbrev impl_RoomOk.q9 : Array Bool := #[true, true, true, true, true, true, true, true, true, false, false, false, false, false, false, false, false, false, false, false, false, false, false, false, false, false, false, false, false, false, false]
abbrev impl_RoomOk.q10 : Array Bool := #[true, true, true, true, true, true, true, true, true, true, false, false, false, false, false, false, false, false, false, false, false, false, false, false, false, false, false, false, false, false, false]
abbrev impl_RoomOk.q11 : Array Bool := #[true, true, true, true, true, true, true, true, true, true, true, false, false, false, false, false, false, false, false, false, false, false, false, false, false, false, false, false, false, false, false]
abbrev impl_RoomOk.q12 : Array Bool := #[true, true, true, true, true, true, true, true, true, true, true, true, false, false, false, false, false, false, false, false, false, false, false, false, false, false, false, false, false, false, false]
abbrev impl_RoomOk.q13 : Array Bool := #[true, true, true, true, true, true, true, true, true, true, true, true, true, false, false, false, false, false, false, false, false, false, false, false, false, false, false, false, false, false, false]
abbrev impl_RoomOk.q14 : Array Bool := #[true, true, true, true, true, true, true, true, true, true, true, true, true, true, false, false, false, false, false, false, false, false, false, false, false, false, false, false, false, false, false]
abbrev impl_RoomOk.q15 : Array Bool := #[true, true, true, true, true, true, true, true, true, true, true, true, true, true, true, false, false, false, false, false, false, false, false, false, false, false, false, false, false, false, false]
abbrev impl_RoomOk.q16 : Array Bool := #[true, true, true, true, true, true, true, true, true, true, true, true, true, true, true, true, false, false, false, false, false, false, false, false, false, false, false, false, false, false, false]
abbrev impl_RoomOk.q17 : Array Bool := #[true, true, true, true, true, true, true, true, true, true, true, true, true, true, true, true, true, false, false, false, false, false, false, false, false, false, false, false, false, false, false]
abbrev impl_RoomOk.q18 : Array Bool := #[true, true, true, true, true, true, true, true, true, true, true, true, true, true, true, true, true, true, false, false, false, false, false, false, false, false, false, false, false, false, false]
abbrev impl_RoomOk.q19 : Array Bool := #[true, true, true, true, true, true, true, true, true, true, true, true, true, true, true, true, true, true, true, false, false, false, false, false, false, false, false, false, false, false, false]
abbrev impl_RoomOk.q20 : Array Bool := #[true, true, true, true, true, true, true, true, true, true, true, true, true, true, true, true, true, true, true, true, false, false, false, false, false, false, false, false, false, false, false]
abbrev impl_RoomOk.q21 : Array Bool := #[true, true, true, true, true, true, true, true, true, true, true, true, true, true, true, true, true, true, true, true, true, false, false, false, false, false, false, false, false, false, false]
abbrev impl_RoomOk.q22 : Array Bool := #[true, true, true, true, true, true, true, true, true, true, true, true, true, true, true, true, true, true, true, true, true, true, false, false, false, false, false, false, false, false, false]
abbrev impl_RoomOk.q23 : Array Bool := #[true, true, true, true, true, true, true, true, true, true, true, true, true, true, true, true, true, true, true, true, true, true, true, false, false, false, false, false, false, false, false]
abbrev impl_RoomOk.q24 : Array Bool := #[true, true, true, true, true, true, true, true, true, true, true, true, true, true, true, true, true, true, true, true, true, true, true, true, false, false, false, false, false, false, false]
abbrev impl_RoomOk.q25 : Array Bool := #[true, true, true, true, true, true, true, true, true, true, true, true, true, true, true, true, true, true, true, true, true, true, true, true, true, false, false, false, false, false, false]
abbrev impl_RoomOk.q26 : Array Bool := #[true, true, true, true, true, true, true, true, true, true, true, true, true, true, true, true, true, true, true, true, true, true, true, true, true, true, false, false, false, false, false]
abbrev impl_RoomOk.q27 : Array Bool := #[true, true, true, true, true, true, true, true, true, true, true, true, true, true, true, true, true, true, true, true, true, true, true, true, true, true, true, false, false, false, false]
abbrev impl_RoomOk.q28 : Array Bool := #[true, true, true, true, true, true, true, true, true, true, true, true, true, true, true, true, true, true, true, true, true, true, true, true, true, true, true, true, false, false, false]
abbrev impl_RoomOk.q29 : Array Bool := #[true, true, true, true, true, true, true, true, true, true, true, true, true, true, true, true, true, true, true, true, true, true, true, true, true, true, true, true, true, false, false]
abbrev impl_RoomOk.q30 : Array Bool := #[true, true, true, true, true, true, true, true, true, true, true, true, true, true, true, true, true, true, true, true, true, true, true, true, true, true, true, true, true, true, false]
abbrev impl_RoomOk.q31 : Array Bool := #[true, true, true, true, true, true, true, true, true, true, true, true, true, true, true, true, true, true, true, true, true, true, true, true, true, true, true, true, true, true, true]
abbrev impl_RoomOk.q32 : Array Bool := #[true, true, true, true, true, true, true, true, true, false, true, false, false, false, false, false, false, false, false, false, false, false, false, false, false, false, false, false, false, false, false]
abbrev impl_RoomOk.q33 : Array Bool := #[true, true, true, true, true, true, true, true, true, false, true, true, false, false, false, false, false, false, false, false, false, false, false, false, false, false, false, false, false, false, false]
abbrev impl_RoomOk.q34 : Array Bool := #[true, true, true, true, true, true, true, true, true, false, true, true, false, false, false, true, false, false, false, false, false, false, false, false, false, false, false, false, false, false, false]
abbrev impl_RoomOk.q35 : Array Bool := #[true, true, true, true, true, true, true, true, true, true, true, true, false, false, false, true, false, false, false, false, false, false, false, false, false, false, false, false, false, false, false]
abbrev impl_RoomOk.q36 : Array Bool := #[true, true, true, true, true, true, true, true, true, true, true, true, true, false, false, true, false, false, false, false, false, false, false, false, false, false, false, false, false, false, false]
abbrev impl_RoomOk.q37 : Array Bool := #[true, true, true, true, true, true, true, true, true, true, true, true, true, true, false, true, false, false, false, false, false, false, false, false, false, false, false, false, false, false, false]
set_option maxHeartbeats 16000000 in
set_option maxRecDepth 100000 in
theorem impl_RoomOk.calls (k : Nat) (a0_0 : ByteArray) (a0_1 : Int) (A0_2 : Option Addr) (c0_2 : Nat) (l0_2 : List (S89)) (A0_3 : Option Addr) (c0_3 : Nat) (l0_3 : List (S92)) (a0_4 : ByteArray) (r : Bool) (w : World) (hr0_2 : Kd.C k89 w A0_2 l0_2.length l0_2) (hc0_2 : l0_2.length ≤ c0_2) (hr0_3 : Kd.C k92 w A0_3 l0_3.length l0_3) (hc0_3 : l0_3.length ≤ c0_3) (h : impl_RoomOk.f k a0_0 a0_1 l0_2 l0_3 a0_4 = some r) (hT : Tabs w) :
    Calls Tryd.prog 40 #[.agg #[.string a0_0, .int .i64 a0_1, .slice A0_2 l0_2.length c0_2, .slice A0_3 l0_3.length c0_3, .string a0_4]] w fun e w' => e = .returned (.bool r) ∧ Below w.heap.size w w' := by
  have HT := Aside0.mk hT
  have huR := Tryd.underlying62
  have huT := Tryd.underlying89
  have huK := Tryd.underlying92
  have hm2 : l0_2.length ≤ 9223372036854775807 := Kd.C_max hr0_2
  have hm3 : l0_3.length ≤ 9223372036854775807 := Kd.C_max hr0_3
  have HR2 := Aside0.mk hr0_2
  have HC2 := Aside0.mk hc0_2
  have HR3 := Aside0.mk hr0_3
  have HC3 := Aside0.mk hc0_3
  have HB := Aside0.mk (Below.refl w.heap.size w)
  unfold impl_RoomOk.f at h
  obtain ⟨u, h1, h⟩ := Option.bind_eq_some_iff.mp h
  obtain ⟨wi, h2, h⟩ := Option.bind_eq_some_iff.mp h
  obtain ⟨o, h3, h⟩ := Option.bind_eq_some_iff.mp h
  obtain ⟨m, h4, h⟩ := Option.bind_eq_some_iff.mp h
  obtain ⟨q, h5, h⟩ := Option.bind_eq_some_iff.mp h
  obtain ⟨ow, h6, h⟩ := Option.bind_eq_some_iff.mp h
  have HU := Aside0.mk h1
  have HW := Aside0.mk h2
  have HO := Aside0.mk h3
  have HM := Aside0.mk h4
  have HQ := Aside0.mk h5
  have HOW := Aside0.mk h6
  have H := Aside0.mk (Option.some.inj h)
  clear h h1 h2 h3 h4 h5 h6 hT hr0_2 hc0_2 hr0_3 hc0_3
  cases u with
  | false =>
    go_enter Tryd.func40, Tryd.ntmps40
    go_wp2_with (first | ((with_reducible refine gate_dst (N := 1) rfl ?_); refine box_event ?hg (N := 1) ?hd (cs := #[.string a0_0, .int .i64 a0_1, .slice A0_2 l0_2.length c0_2, .slice A0_3 l0_3.length c0_3, .string a0_4]) (t := 62) ?hr ?_; (case hd => rfl); (case hg => rfl); (case hr => first | (go_simp; done) | (go_simp; rfl)); intro g1 hg w1 hbox hb; have n0_ := Aside0.mk (below_step z4_9 hb); have n1_ := Aside0.mk (hbox); have n2_ := Aside0.mk ((by rw [hg]; exact (below_size z4_9) : w.heap.size ≤ g1)); (try clear HB); (try clear BK1); (try clear GE1); have HB := n0_; have BK1 := n1_; have GE1 := n2_; clear n0_ n1_ n2_; clear hb hbox hg; have hz1_0 : w1.cell? ⟨g1, 0, none⟩ = some (.string a0_0) := (blk_cell BK1.out 0).trans rfl; have hy1_0 := blk_frozen BK1.out 0; have hz1_1 : w1.cell? ⟨g1, 1, none⟩ = some (.int .i64 a0_1) := (blk_cell BK1.out 1).trans rfl; have hy1_1 := blk_frozen BK1.out 1; have hz1_2 : w1.cell? ⟨g1, 2, none⟩ = some (.slice A0_2 l0_2.length c0_2) := (blk_cell BK1.out 2).trans rfl; have hy1_2 := blk_frozen BK1.out 2; have hz1_3 : w1.cell? ⟨g1, 3, none⟩ = some (.slice A0_3 l0_3.length c0_3) := (blk_cell BK1.out 3).trans rfl; have hy1_3 := blk_frozen BK1.out 3; have hz1_4 : w1.cell? ⟨g1, 4, none⟩ = some (.string a0_4) := (blk_cell BK1.out 4).trans rfl; have hy1_4 := blk_frozen BK1.out 4) | (go_at_call 47; (with_reducible refine (impl_userOk.calls a0_0 false _ HU.out).mono ?_); rintro e w2 ⟨rfl, hb⟩; have n0_ := Aside0.mk (below_step z4_8 hb); have n1_ := Aside0.mk (blk_below (g := g1) (o := .cells #[.string a0_0, .int .i64 a0_1, .slice A0_2 l0_2.length c0_2, .slice A0_3 l0_3.length c0_3, .string a0_4] 62 (0, 0)) z4_10 hb); (try clear HB); (try clear BK1); have HB := n0_; have BK1 := n1_; clear n0_ n1_; (try clear hb); (try clear hz1_0); (try clear hy1_0); (try clear hz1_1); (try clear hy1_1); (try clear hz1_2); (try clear hy1_2); (try clear hz1_3); (try clear hy1_3); (try clear hz1_4); (try clear hy1_4); have hz1_0 : w2.cell? ⟨g1, 0, none⟩ = some (.string a0_0) := (blk_cell BK1.out 0).trans rfl; have hy1_0 := blk_frozen BK1.out 0; have hz1_1 : w2.cell? ⟨g1, 1, none⟩ = some (.int .i64 a0_1) := (blk_cell BK1.out 1).trans rfl; have hy1_1 := blk_frozen BK1.out 1; have hz1_2 : w2.cell? ⟨g1, 2, none⟩ = some (.slice A0_2 l0_2.length c0_2) := (blk_cell BK1.out 2).trans rfl; have hy1_2 := blk_frozen BK1.out 2; have hz1_3 : w2.cell? ⟨g1, 3, none⟩ = some (.slice A0_3 l0_3.length c0_3) := (blk_cell BK1.out 3).trans rfl; have hy1_3 := blk_frozen BK1.out 3; have hz1_4 : w2.cell? ⟨g1, 4, none⟩ = some (.string a0_4) := (blk_cell BK1.out 4).trans rfl; have hy1_4 := blk_frozen BK1.out 4))
    go_ret
    exact ⟨by rw [← H.out]; rfl, z4_8⟩
  | true =>
  cases wi with
  | false =>
    go_enter Tryd.func40, Tryd.ntmps40
    go_wp2_with (first | ((with_reducible refine gate_dst (N := 1) rfl ?_); refine box_event ?hg (N := 1) ?hd (cs := #[.string a0_0, .int .i64 a0_1, .slice A0_2 l0_2.length c0_2, .slice A0_3 l0_3.length c0_3, .string a0_4]) (t := 62) ?hr ?_; (case hd => rfl); (case hg => rfl); (case hr => first | (go_simp; done) | (go_simp; rfl)); intro g1 hg w1 hbox hb; have n0_ := Aside0.mk (below_step z4_9 hb); have n1_ := Aside0.mk (hbox); have n2_ := Aside0.mk ((by rw [hg]; exact (below_size z4_9) : w.heap.size ≤ g1)); (try clear HB); (try clear BK1); (try clear GE1); have HB := n0_; have BK1 := n1_; have GE1 := n2_; clear n0_ n1_ n2_; clear hb hbox hg; have hz1_0 : w1.cell? ⟨g1, 0, none⟩ = some (.string a0_0) := (blk_cell BK1.out 0).trans rfl; have hy1_0 := blk_frozen BK1.out 0; have hz1_1 : w1.cell? ⟨g1, 1, none⟩ = some (.int .i64 a0_1) := (blk_cell BK1.out 1).trans rfl; have hy1_1 := blk_frozen BK1.out 1; have hz1_2 : w1.cell? ⟨g1, 2, none⟩ = some (.slice A0_2 l0_2.length c0_2) := (blk_cell BK1.out 2).trans rfl; have hy1_2 := blk_frozen BK1.out 2; have hz1_3 : w1.cell? ⟨g1, 3, none⟩ = some (.slice A0_3 l0_3.length c0_3) := (blk_cell BK1.out 3).trans rfl; have hy1_3 := blk_frozen BK1.out 3; have hz1_4 : w1.cell? ⟨g1, 4, none⟩ = some (.string a0_4) := (blk_cell BK1.out 4).trans rfl; have hy1_4 := blk_frozen BK1.out 4) | (go_at_call 47; (with_reducible refine (impl_userOk.calls a0_0 true _ HU.out).mono ?_); rintro e w2 ⟨rfl, hb⟩; have n0_ := Aside0.mk (below_step z4_8 hb); have n1_ := Aside0.mk (blk_below (g := g1) (o := .cells #[.string a0_0, .int .i64 a0_1, .slice A0_2 l0_2.length c0_2, .slice A0_3 l0_3.length c0_3, .string a0_4] 62 (0, 0)) z4_10 hb); (try clear HB); (try clear BK1); have HB := n0_; have BK1 := n1_; clear n0_ n1_; (try clear hb); (try clear hz1_0); (try clear hy1_0); (try clear hz1_1); (try clear hy1_1); (try clear hz1_2); (try clear hy1_2); (try clear hz1_3); (try clear hy1_3); (try clear hz1_4); (try clear hy1_4); have hz1_0 : w2.cell? ⟨g1, 0, none⟩ = some (.string a0_0) := (blk_cell BK1.out 0).trans rfl; have hy1_0 := blk_frozen BK1.out 0; have hz1_1 : w2.cell? ⟨g1, 1, none⟩ = some (.int .i64 a0_1) := (blk_cell BK1.out 1).trans rfl; have hy1_1 := blk_frozen BK1.out 1; have hz1_2 : w2.cell? ⟨g1, 2, none⟩ = some (.slice A0_2 l0_2.length c0_2) := (blk_cell BK1.out 2).trans rfl; have hy1_2 := blk_frozen BK1.out 2; have hz1_3 : w2.cell? ⟨g1, 3, none⟩ = some (.slice A0_3 l0_3.length c0_3) := (blk_cell BK1.out 3).trans rfl; have hy1_3 := blk_frozen BK1.out 3; have hz1_4 : w2.cell? ⟨g1, 4, none⟩ = some (.string a0_4) := (blk_cell BK1.out 4).trans rfl; have hy1_4 := blk_frozen BK1.out 4) | (go_at_call 65; (with_reducible refine (impl_within.calls a0_1 0 9999 false _ HW.out).mono ?_); rintro e w3 ⟨rfl, hd_⟩; have n0_ := Aside0.mk (below_step z4_8 hd_.below); have n1_ := Aside0.mk (blk_below (g := g1) (o := .cells #[.string a0_0, .int .i64 a0_1, .slice A0_2 l0_2.length c0_2, .slice A0_3 l0_3.length c0_3, .string a0_4] 62 (0, 0)) z4_10 hd_.below); (try clear HB); (try clear BK1); have HB := n0_; have BK1 := n1_; clear n0_ n1_; (try clear hd_); (try clear hz1_0); (try clear hy1_0); (try clear hz1_1); (try clear hy1_1); (try clear hz1_2); (try clear hy1_2); (try clear hz1_3); (try clear hy1_3); (try clear hz1_4); (try clear hy1_4); have hz1_0 : w3.cell? ⟨g1, 0, none⟩ = some (.string a0_0) := (blk_cell BK1.out 0).trans rfl; have hy1_0 := blk_frozen BK1.out 0; have hz1_1 : w3.cell? ⟨g1, 1, none⟩ = some (.int .i64 a0_1) := (blk_cell BK1.out 1).trans rfl; have hy1_1 := blk_frozen BK1.out 1; have hz1_2 : w3.cell? ⟨g1, 2, none⟩ = some (.slice A0_2 l0_2.length c0_2) := (blk_cell BK1.out 2).trans rfl; have hy1_2 := blk_frozen BK1.out 2; have hz1_3 : w3.cell? ⟨g1, 3, none⟩ = some (.slice A0_3 l0_3.length c0_3) := (blk_cell BK1.out 3).trans rfl; have hy1_3 := blk_frozen BK1.out 3; have hz1_4 : w3.cell? ⟨g1, 4, none⟩ = some (.string a0_4) := (blk_cell BK1.out 4).trans rfl; have hy1_4 := blk_frozen BK1.out 4))
    go_ret
    exact ⟨by rw [← H.out]; rfl, z4_8⟩
  | true =>
  cases o with
  | false =>
    go_enter Tryd.func40, Tryd.ntmps40
    go_wp2_with (first | ((with_reducible refine gate_dst (N := 1) rfl ?_); refine box_event ?hg (N := 1) ?hd (cs := #[.string a0_0, .int .i64 a0_1, .slice A0_2 l0_2.length c0_2, .slice A0_3 l0_3.length c0_3, .string a0_4]) (t := 62) ?hr ?_; (case hd => rfl); (case hg => rfl); (case hr => first | (go_simp; done) | (go_simp; rfl)); intro g1 hg w1 hbox hb; have n0_ := Aside0.mk (below_step z4_9 hb); have n1_ := Aside0.mk (hbox); have n2_ := Aside0.mk ((by rw [hg]; exact (below_size z4_9) : w.heap.size ≤ g1)); (try clear HB); (try clear BK1); (try clear GE1); have HB := n0_; have BK1 := n1_; have GE1 := n2_; clear n0_ n1_ n2_; clear hb hbox hg; have hz1_0 : w1.cell? ⟨g1, 0, none⟩ = some (.string a0_0) := (blk_cell BK1.out 0).trans rfl; have hy1_0 := blk_frozen BK1.out 0; have hz1_1 : w1.cell? ⟨g1, 1, none⟩ = some (.int .i64 a0_1) := (blk_cell BK1.out 1).trans rfl; have hy1_1 := blk_frozen BK1.out 1; have hz1_2 : w1.cell? ⟨g1, 2, none⟩ = some (.slice A0_2 l0_2.length c0_2) := (blk_cell BK1.out 2).trans rfl; have hy1_2 := blk_frozen BK1.out 2; have hz1_3 : w1.cell? ⟨g1, 3, none⟩ = some (.slice A0_3 l0_3.length c0_3) := (blk_cell BK1.out 3).trans rfl; have hy1_3 := blk_frozen BK1.out 3; have hz1_4 : w1.cell? ⟨g1, 4, none⟩ = some (.string a0_4) := (blk_cell BK1.out 4).trans rfl; have hy1_4 := blk_frozen BK1.out 4) | (go_at_call 47; (with_reducible refine (impl_userOk.calls a0_0 true _ HU.out).mono ?_); rintro e w2 ⟨rfl, hb⟩; have n0_ := Aside0.mk (below_step z4_8 hb); have n1_ := Aside0.mk (blk_below (g := g1) (o := .cells #[.string a0_0, .int .i64 a0_1, .slice A0_2 l0_2.length c0_2, .slice A0_3 l0_3.length c0_3, .string a0_4] 62 (0, 0)) z4_10 hb); (try clear HB); (try clear BK1); have HB := n0_; have BK1 := n1_; clear n0_ n1_; (try clear hb); (try clear hz1_0); (try clear hy1_0); (try clear hz1_1); (try clear hy1_1); (try clear hz1_2); (try clear hy1_2); (try clear hz1_3); (try clear hy1_3); (try clear hz1_4); (try clear hy1_4); have hz1_0 : w2.cell? ⟨g1, 0, none⟩ = some (.string a0_0) := (blk_cell BK1.out 0).trans rfl; have hy1_0 := blk_frozen BK1.out 0; have hz1_1 : w2.cell? ⟨g1, 1, none⟩ = some (.int .i64 a0_1) := (blk_cell BK1.out 1).trans rfl; have hy1_1 := blk_frozen BK1.out 1; have hz1_2 : w2.cell? ⟨g1, 2, none⟩ = some (.slice A0_2 l0_2.length c0_2) := (blk_cell BK1.out 2).trans rfl; have hy1_2 := blk_frozen BK1.out 2; have hz1_3 : w2.cell? ⟨g1, 3, none⟩ = some (.slice A0_3 l0_3.length c0_3) := (blk_cell BK1.out 3).trans rfl; have hy1_3 := blk_frozen BK1.out 3; have hz1_4 : w2.cell? ⟨g1, 4, none⟩ = some (.string a0_4) := (blk_cell BK1.out 4).trans rfl; have hy1_4 := blk_frozen BK1.out 4) | (go_at_call 65; (with_reducible refine (impl_within.calls a0_1 0 9999 true _ HW.out).mono ?_); rintro e w3 ⟨rfl, hd_⟩; have n0_ := Aside0.mk (below_step z4_8 hd_.below); have n1_ := Aside0.mk (blk_below (g := g1) (o := .cells #[.string a0_0, .int .i64 a0_1, .slice A0_2 l0_2.length c0_2, .slice A0_3 l0_3.length c0_3, .string a0_4] 62 (0, 0)) z4_10 hd_.below); (try clear HB); (try clear BK1); have HB := n0_; have BK1 := n1_; clear n0_ n1_; (try clear hd_); (try clear hz1_0); (try clear hy1_0); (try clear hz1_1); (try clear hy1_1); (try clear hz1_2); (try clear hy1_2); (try clear hz1_3); (try clear hy1_3); (try clear hz1_4); (try clear hy1_4); have hz1_0 : w3.cell? ⟨g1, 0, none⟩ = some (.string a0_0) := (blk_cell BK1.out 0).trans rfl; have hy1_0 := blk_frozen BK1.out 0; have hz1_1 : w3.cell? ⟨g1, 1, none⟩ = some (.int .i64 a0_1) := (blk_cell BK1.out 1).trans rfl; have hy1_1 := blk_frozen BK1.out 1; have hz1_2 : w3.cell? ⟨g1, 2, none⟩ = some (.slice A0_2 l0_2.length c0_2) := (blk_cell BK1.out 2).trans rfl; have hy1_2 := blk_frozen BK1.out 2; have hz1_3 : w3.cell? ⟨g1, 3, none⟩ = some (.slice A0_3 l0_3.length c0_3) := (blk_cell BK1.out 3).trans rfl; have hy1_3 := blk_frozen BK1.out 3; have hz1_4 : w3.cell? ⟨g1, 4, none⟩ = some (.string a0_4) := (blk_cell BK1.out 4).trans rfl; have hy1_4 := blk_frozen BK1.out 4) | (go_at_call 64; (with_reducible refine (impl_orEmpty_impl_bodyOk.calls k a0_4 false _ HO.out (Tabs_below HT.out z4_8)).mono ?_); rintro e w4 ⟨rfl, hb⟩; have n0_ := Aside0.mk (below_step z4_8 hb); have n1_ := Aside0.mk (blk_below (g := g1) (o := .cells #[.string a0_0, .int .i64 a0_1, .slice A0_2 l0_2.length c0_2, .slice A0_3 l0_3.length c0_3, .string a0_4] 62 (0, 0)) z4_10 hb); (try clear HB); (try clear BK1); have HB := n0_; have BK1 := n1_; clear n0_ n1_; (try clear hb); (try clear hz1_0); (try clear hy1_0); (try clear hz1_1); (try clear hy1_1); (try clear hz1_2); (try clear hy1_2); (try clear hz1_3); (try clear hy1_3); (try clear hz1_4); (try clear hy1_4); have hz1_0 : w4.cell? ⟨g1, 0, none⟩ = some (.string a0_0) := (blk_cell BK1.out 0).trans rfl; have hy1_0 := blk_frozen BK1.out 0; have hz1_1 : w4.cell? ⟨g1, 1, none⟩ = some (.int .i64 a0_1) := (blk_cell BK1.out 1).trans rfl; have hy1_1 := blk_frozen BK1.out 1; have hz1_2 : w4.cell? ⟨g1, 2, none⟩ = some (.slice A0_2 l0_2.length c0_2) := (blk_cell BK1.out 2).trans rfl; have hy1_2 := blk_frozen BK1.out 2; have hz1_3 : w4.cell? ⟨g1, 3, none⟩ = some (.slice A0_3 l0_3.length c0_3) := (blk_cell BK1.out 3).trans rfl; have hy1_3 := blk_frozen BK1.out 3; have hz1_4 : w4.cell? ⟨g1, 4, none⟩ = some (.string a0_4) := (blk_cell BK1.out 4).trans rfl; have hy1_4 := blk_frozen BK1.out 4))
    go_ret
    exact ⟨by rw [← H.out]; rfl, z4_8⟩
  | true =>
  by_cases d2 : l0_2.length ≤ 5
  case neg =>
    have H' := Aside0.mk (H.out)
    rw [decide_eq_false d2] at H'
    have d2i : decide ((5 : Int) < (l0_2.length : Int)) = true := decide_eq_true (by omega)
    clear H
    have H := H'
    clear H' d2
    go_enter Tryd.func40, Tryd.ntmps40
    go_wp2_with (first | ((with_reducible refine gate_dst (N := 1) rfl ?_); refine box_event ?hg (N := 1) ?hd (cs := #[.string a0_0, .int .i64 a0_1, .slice A0_2 l0_2.length c0_2, .slice A0_3 l0_3.length c0_3, .string a0_4]) (t := 62) ?hr ?_; (case hd => rfl); (case hg => rfl); (case hr => first | (go_simp; done) | (go_simp; rfl)); intro g1 hg w1 hbox hb; have n0_ := Aside0.mk (below_step z4_9 hb); have n1_ := Aside0.mk (hbox); have n2_ := Aside0.mk ((by rw [hg]; exact (below_size z4_9) : w.heap.size ≤ g1)); (try clear HB); (try clear BK1); (try clear GE1); have HB := n0_; have BK1 := n1_; have GE1 := n2_; clear n0_ n1_ n2_; clear hb hbox hg; have hz1_0 : w1.cell? ⟨g1, 0, none⟩ = some (.string a0_0) := (blk_cell BK1.out 0).trans rfl; have hy1_0 := blk_frozen BK1.out 0; have hz1_1 : w1.cell? ⟨g1, 1, none⟩ = some (.int .i64 a0_1) := (blk_cell BK1.out 1).trans rfl; have hy1_1 := blk_frozen BK1.out 1; have hz1_2 : w1.cell? ⟨g1, 2, none⟩ = some (.slice A0_2 l0_2.length c0_2) := (blk_cell BK1.out 2).trans rfl; have hy1_2 := blk_frozen BK1.out 2; have hz1_3 : w1.cell? ⟨g1, 3, none⟩ = some (.slice A0_3 l0_3.length c0_3) := (blk_cell BK1.out 3).trans rfl; have hy1_3 := blk_frozen BK1.out 3; have hz1_4 : w1.cell? ⟨g1, 4, none⟩ = some (.string a0_4) := (blk_cell BK1.out 4).trans rfl; have hy1_4 := blk_frozen BK1.out 4) | (go_at_call 47; (with_reducible refine (impl_userOk.calls a0_0 true _ HU.out).mono ?_); rintro e w2 ⟨rfl, hb⟩; have n0_ := Aside0.mk (below_step z4_8 hb); have n1_ := Aside0.mk (blk_below (g := g1) (o := .cells #[.string a0_0, .int .i64 a0_1, .slice A0_2 l0_2.length c0_2, .slice A0_3 l0_3.length c0_3, .string a0_4] 62 (0, 0)) z4_10 hb); (try clear HB); (try clear BK1); have HB := n0_; have BK1 := n1_; clear n0_ n1_; (try clear hb); (try clear hz1_0); (try clear hy1_0); (try clear hz1_1); (try clear hy1_1); (try clear hz1_2); (try clear hy1_2); (try clear hz1_3); (try clear hy1_3); (try clear hz1_4); (try clear hy1_4); have hz1_0 : w2.cell? ⟨g1, 0, none⟩ = some (.string a0_0) := (blk_cell BK1.out 0).trans rfl; have hy1_0 := blk_frozen BK1.out 0; have hz1_1 : w2.cell? ⟨g1, 1, none⟩ = some (.int .i64 a0_1) := (blk_cell BK1.out 1).trans rfl; have hy1_1 := blk_frozen BK1.out 1; have hz1_2 : w2.cell? ⟨g1, 2, none⟩ = some (.slice A0_2 l0_2.length c0_2) := (blk_cell BK1.out 2).trans rfl; have hy1_2 := blk_frozen BK1.out 2; have hz1_3 : w2.cell? ⟨g1, 3, none⟩ = some (.slice A0_3 l0_3.length c0_3) := (blk_cell BK1.out 3).trans rfl; have hy1_3 := blk_frozen BK1.out 3; have hz1_4 : w2.cell? ⟨g1, 4, none⟩ = some (.string a0_4) := (blk_cell BK1.out 4).trans rfl; have hy1_4 := blk_frozen BK1.out 4) | (go_at_call 65; (with_reducible refine (impl_within.calls a0_1 0 9999 true _ HW.out).mono ?_); rintro e w3 ⟨rfl, hd_⟩; have n0_ := Aside0.mk (below_step z4_8 hd_.below); have n1_ := Aside0.mk (blk_below (g := g1) (o := .cells #[.string a0_0, .int .i64 a0_1, .slice A0_2 l0_2.length c0_2, .slice A0_3 l0_3.length c0_3, .string a0_4] 62 (0, 0)) z4_10 hd_.below); (try clear HB); (try clear BK1); have HB := n0_; have BK1 := n1_; clear n0_ n1_; (try clear hd_); (try clear hz1_0); (try clear hy1_0); (try clear hz1_1); (try clear hy1_1); (try clear hz1_2); (try clear hy1_2); (try clear hz1_3); (try clear hy1_3); (try clear hz1_4); (try clear hy1_4); have hz1_0 : w3.cell? ⟨g1, 0, none⟩ = some (.string a0_0) := (blk_cell BK1.out 0).trans rfl; have hy1_0 := blk_frozen BK1.out 0; have hz1_1 : w3.cell? ⟨g1, 1, none⟩ = some (.int .i64 a0_1) := (blk_cell BK1.out 1).trans rfl; have hy1_1 := blk_frozen BK1.out 1; have hz1_2 : w3.cell? ⟨g1, 2, none⟩ = some (.slice A0_2 l0_2.length c0_2) := (blk_cell BK1.out 2).trans rfl; have hy1_2 := blk_frozen BK1.out 2; have hz1_3 : w3.cell? ⟨g1, 3, none⟩ = some (.slice A0_3 l0_3.length c0_3) := (blk_cell BK1.out 3).trans rfl; have hy1_3 := blk_frozen BK1.out 3; have hz1_4 : w3.cell? ⟨g1, 4, none⟩ = some (.string a0_4) := (blk_cell BK1.out 4).trans rfl; have hy1_4 := blk_frozen BK1.out 4) | (go_at_call 64; (with_reducible refine (impl_orEmpty_impl_bodyOk.calls k a0_4 true _ HO.out (Tabs_below HT.out z4_8)).mono ?_); rintro e w4 ⟨rfl, hb⟩; have n0_ := Aside0.mk (below_step z4_8 hb); have n1_ := Aside0.mk (blk_below (g := g1) (o := .cells #[.string a0_0, .int .i64 a0_1, .slice A0_2 l0_2.length c0_2, .slice A0_3 l0_3.length c0_3, .string a0_4] 62 (0, 0)) z4_10 hb); (try clear HB); (try clear BK1); have HB := n0_; have BK1 := n1_; clear n0_ n1_; (try clear hb); (try clear hz1_0); (try clear hy1_0); (try clear hz1_1); (try clear hy1_1); (try clear hz1_2); (try clear hy1_2); (try clear hz1_3); (try clear hy1_3); (try clear hz1_4); (try clear hy1_4); have hz1_0 : w4.cell? ⟨g1, 0, none⟩ = some (.string a0_0) := (blk_cell BK1.out 0).trans rfl; have hy1_0 := blk_frozen BK1.out 0; have hz1_1 : w4.cell? ⟨g1, 1, none⟩ = some (.int .i64 a0_1) := (blk_cell BK1.out 1).trans rfl; have hy1_1 := blk_frozen BK1.out 1; have hz1_2 : w4.cell? ⟨g1, 2, none⟩ = some (.slice A0_2 l0_2.length c0_2) := (blk_cell BK1.out 2).trans rfl; have hy1_2 := blk_frozen BK1.out 2; have hz1_3 : w4.cell? ⟨g1, 3, none⟩ = some (.slice A0_3 l0_3.length c0_3) := (blk_cell BK1.out 3).trans rfl; have hy1_3 := blk_frozen BK1.out 3; have hz1_4 : w4.cell? ⟨g1, 4, none⟩ = some (.string a0_4) := (blk_cell BK1.out 4).trans rfl; have hy1_4 := blk_frozen BK1.out 4))
    go_ret
    exact ⟨by rw [← H.out]; rfl, z4_8⟩
  have H' := Aside0.mk (H.out)
  rw [decide_eq_true d2] at H'
  have d2i : decide ((5 : Int) < (l0_2.length : Int)) = false := decide_eq_false (by omega)
  clear H
  have H := H'
  clear H'
  by_cases d3 : l0_3.length ≤ 6
  case neg =>
    have H' := Aside0.mk (H.out)
    rw [decide_eq_false d3] at H'
    have d3i : decide ((6 : Int) < (l0_3.length : Int)) = true := decide_eq_true (by omega)
    clear H
    have H := H'
    clear H' d3
    go_enter Tryd.func40, Tryd.ntmps40
    go_wp2_with (first | ((with_reducible refine gate_dst (N := 1) rfl ?_); refine box_event ?hg (N := 1) ?hd (cs := #[.string a0_0, .int .i64 a0_1, .slice A0_2 l0_2.length c0_2, .slice A0_3 l0_3.length c0_3, .string a0_4]) (t := 62) ?hr ?_; (case hd => rfl); (case hg => rfl); (case hr => first | (go_simp; done) | (go_simp; rfl)); intro g1 hg w1 hbox hb; have n0_ := Aside0.mk (below_step z4_9 hb); have n1_ := Aside0.mk (hbox); have n2_ := Aside0.mk ((by rw [hg]; exact (below_size z4_9) : w.heap.size ≤ g1)); (try clear HB); (try clear BK1); (try clear GE1); have HB := n0_; have BK1 := n1_; have GE1 := n2_; clear n0_ n1_ n2_; clear hb hbox hg; have hz1_0 : w1.cell? ⟨g1, 0, none⟩ = some (.string a0_0) := (blk_cell BK1.out 0).trans rfl; have hy1_0 := blk_frozen BK1.out 0; have hz1_1 : w1.cell? ⟨g1, 1, none⟩ = some (.int .i64 a0_1) := (blk_cell BK1.out 1).trans rfl; have hy1_1 := blk_frozen BK1.out 1; have hz1_2 : w1.cell? ⟨g1, 2, none⟩ = some (.slice A0_2 l0_2.length c0_2) := (blk_cell BK1.out 2).trans rfl; have hy1_2 := blk_frozen BK1.out 2; have hz1_3 : w1.cell? ⟨g1, 3, none⟩ = some (.slice A0_3 l0_3.length c0_3) := (blk_cell BK1.out 3).trans rfl; have hy1_3 := blk_frozen BK1.out 3; have hz1_4 : w1.cell? ⟨g1, 4, none⟩ = some (.string a0_4) := (blk_cell BK1.out 4).trans rfl; have hy1_4 := blk_frozen BK1.out 4) | (go_at_call 47; (with_reducible refine (impl_userOk.calls a0_0 true _ HU.out).mono ?_); rintro e w2 ⟨rfl, hb⟩; have n0_ := Aside0.mk (below_step z4_8 hb); have n1_ := Aside0.mk (blk_below (g := g1) (o := .cells #[.string a0_0, .int .i64 a0_1, .slice A0_2 l0_2.length c0_2, .slice A0_3 l0_3.length c0_3, .string a0_4] 62 (0, 0)) z4_10 hb); (try clear HB); (try clear BK1); have HB := n0_; have BK1 := n1_; clear n0_ n1_; (try clear hb); (try clear hz1_0); (try clear hy1_0); (try clear hz1_1); (try clear hy1_1); (try clear hz1_2); (try clear hy1_2); (try clear hz1_3); (try clear hy1_3); (try clear hz1_4); (try clear hy1_4); have hz1_0 : w2.cell? ⟨g1, 0, none⟩ = some (.string a0_0) := (blk_cell BK1.out 0).trans rfl; have hy1_0 := blk_frozen BK1.out 0; have hz1_1 : w2.cell? ⟨g1, 1, none⟩ = some (.int .i64 a0_1) := (blk_cell BK1.out 1).trans rfl; have hy1_1 := blk_frozen BK1.out 1; have hz1_2 : w2.cell? ⟨g1, 2, none⟩ = some (.slice A0_2 l0_2.length c0_2) := (blk_cell BK1.out 2).trans rfl; have hy1_2 := blk_frozen BK1.out 2; have hz1_3 : w2.cell? ⟨g1, 3, none⟩ = some (.slice A0_3 l0_3.length c0_3) := (blk_cell BK1.out 3).trans rfl; have hy1_3 := blk_frozen BK1.out 3; have hz1_4 : w2.cell? ⟨g1, 4, none⟩ = some (.string a0_4) := (blk_cell BK1.out 4).trans rfl; have hy1_4 := blk_frozen BK1.out 4) | (go_at_call 65; (with_reducible refine (impl_within.calls a0_1 0 9999 true _ HW.out).mono ?_); rintro e w3 ⟨rfl, hd_⟩; have n0_ := Aside0.mk (below_step z4_8 hd_.below); have n1_ := Aside0.mk (blk_below (g := g1) (o := .cells #[.string a0_0, .int .i64 a0_1, .slice A0_2 l0_2.length c0_2, .slice A0_3 l0_3.length c0_3, .string a0_4] 62 (0, 0)) z4_10 hd_.below); (try clear HB); (try clear BK1); have HB := n0_; have BK1 := n1_; clear n0_ n1_; (try clear hd_); (try clear hz1_0); (try clear hy1_0); (try clear hz1_1); (try clear hy1_1); (try clear hz1_2); (try clear hy1_2); (try clear hz1_3); (try clear hy1_3); (try clear hz1_4); (try clear hy1_4); have hz1_0 : w3.cell? ⟨g1, 0, none⟩ = some (.string a0_0) := (blk_cell BK1.out 0).trans rfl; have hy1_0 := blk_frozen BK1.out 0; have hz1_1 : w3.cell? ⟨g1, 1, none⟩ = some (.int .i64 a0_1) := (blk_cell BK1.out 1).trans rfl; have hy1_1 := blk_frozen BK1.out 1; have hz1_2 : w3.cell? ⟨g1, 2, none⟩ = some (.slice A0_2 l0_2.length c0_2) := (blk_cell BK1.out 2).trans rfl; have hy1_2 := blk_frozen BK1.out 2; have hz1_3 : w3.cell? ⟨g1, 3, none⟩ = some (.slice A0_3 l0_3.length c0_3) := (blk_cell BK1.out 3).trans rfl; have hy1_3 := blk_frozen BK1.out 3; have hz1_4 : w3.cell? ⟨g1, 4, none⟩ = some (.string a0_4) := (blk_cell BK1.out 4).trans rfl; have hy1_4 := blk_frozen BK1.out 4) | (go_at_call 64; (with_reducible refine (impl_orEmpty_impl_bodyOk.calls k a0_4 true _ HO.out (Tabs_below HT.out z4_8)).mono ?_); rintro e w4 ⟨rfl, hb⟩; have n0_ := Aside0.mk (below_step z4_8 hb); have n1_ := Aside0.mk (blk_below (g := g1) (o := .cells #[.string a0_0, .int .i64 a0_1, .slice A0_2 l0_2.length c0_2, .slice A0_3 l0_3.length c0_3, .string a0_4] 62 (0, 0)) z4_10 hb); (try clear HB); (try clear BK1); have HB := n0_; have BK1 := n1_; clear n0_ n1_; (try clear hb); (try clear hz1_0); (try clear hy1_0); (try clear hz1_1); (try clear hy1_1); (try clear hz1_2); (try clear hy1_2); (try clear hz1_3); (try clear hy1_3); (try clear hz1_4); (try clear hy1_4); have hz1_0 : w4.cell? ⟨g1, 0, none⟩ = some (.string a0_0) := (blk_cell BK1.out 0).trans rfl; have hy1_0 := blk_frozen BK1.out 0; have hz1_1 : w4.cell? ⟨g1, 1, none⟩ = some (.int .i64 a0_1) := (blk_cell BK1.out 1).trans rfl; have hy1_1 := blk_frozen BK1.out 1; have hz1_2 : w4.cell? ⟨g1, 2, none⟩ = some (.slice A0_2 l0_2.length c0_2) := (blk_cell BK1.out 2).trans rfl; have hy1_2 := blk_frozen BK1.out 2; have hz1_3 : w4.cell? ⟨g1, 3, none⟩ = some (.slice A0_3 l0_3.length c0_3) := (blk_cell BK1.out 3).trans rfl; have hy1_3 := blk_frozen BK1.out 3; have hz1_4 : w4.cell? ⟨g1, 4, none⟩ = some (.string a0_4) := (blk_cell BK1.out 4).trans rfl; have hy1_4 := blk_frozen BK1.out 4))
    go_ret
    exact ⟨by rw [← H.out]; rfl, z4_8⟩
  have H' := Aside0.mk (H.out)
  rw [decide_eq_true d3] at H'
  have d3i : decide ((6 : Int) < (l0_3.length : Int)) = false := decide_eq_false (by omega)
  clear H
  have H := H'
  clear H'
  have H' : Aside0 ((m && (q && impl_RoomOk.tail ow a0_0 a0_1 l0_2 l0_3 a0_4)) = r) := ⟨H.out⟩
  clear H
  have H := H'
  clear H' d2 d3
  go_enter Tryd.func40, Tryd.ntmps40
  go_wp2_with (first | ((with_reducible refine gate_dst (N := 1) rfl ?_); refine box_event ?hg (N := 1) ?hd (cs := #[.string a0_0, .int .i64 a0_1, .slice A0_2 l0_2.length c0_2, .slice A0_3 l0_3.length c0_3, .string a0_4]) (t := 62) ?hr ?_; (case hd => rfl); (case hg => rfl); (case hr => first | (go_simp; done) | (go_simp; rfl)); intro g1 hg w1 hbox hb; have n0_ := Aside0.mk (below_step z4_9 hb); have n1_ := Aside0.mk (hbox); have n2_ := Aside0.mk ((by rw [hg]; exact (below_size z4_9) : w.heap.size ≤ g1)); (try clear HB); (try clear BK1); (try clear GE1); have HB := n0_; have BK1 := n1_; have GE1 := n2_; clear n0_ n1_ n2_; clear hb hbox hg; have hz1_0 : w1.cell? ⟨g1, 0, none⟩ = some (.string a0_0) := (blk_cell BK1.out 0).trans rfl; have hy1_0 := blk_frozen BK1.out 0; have hz1_1 : w1.cell? ⟨g1, 1, none⟩ = some (.int .i64 a0_1) := (blk_cell BK1.out 1).trans rfl; have hy1_1 := blk_frozen BK1.out 1; have hz1_2 : w1.cell? ⟨g1, 2, none⟩ = some (.slice A0_2 l0_2.length c0_2) := (blk_cell BK1.out 2).trans rfl; have hy1_2 := blk_frozen BK1.out 2; have hz1_3 : w1.cell? ⟨g1, 3, none⟩ = some (.slice A0_3 l0_3.length c0_3) := (blk_cell BK1.out 3).trans rfl; have hy1_3 := blk_frozen BK1.out 3; have hz1_4 : w1.cell? ⟨g1, 4, none⟩ = some (.string a0_4) := (blk_cell BK1.out 4).trans rfl; have hy1_4 := blk_frozen BK1.out 4) | (go_at_call 47; (with_reducible refine (impl_userOk.calls a0_0 true _ HU.out).mono ?_); rintro e w2 ⟨rfl, hb⟩; have n0_ := Aside0.mk (below_step z4_8 hb); have n1_ := Aside0.mk (blk_below (g := g1) (o := .cells #[.string a0_0, .int .i64 a0_1, .slice A0_2 l0_2.length c0_2, .slice A0_3 l0_3.length c0_3, .string a0_4] 62 (0, 0)) z4_10 hb); (try clear HB); (try clear BK1); have HB := n0_; have BK1 := n1_; clear n0_ n1_; (try clear hb); (try clear hz1_0); (try clear hy1_0); (try clear hz1_1); (try clear hy1_1); (try clear hz1_2); (try clear hy1_2); (try clear hz1_3); (try clear hy1_3); (try clear hz1_4); (try clear hy1_4); have hz1_0 : w2.cell? ⟨g1, 0, none⟩ = some (.string a0_0) := (blk_cell BK1.out 0).trans rfl; have hy1_0 := blk_frozen BK1.out 0; have hz1_1 : w2.cell? ⟨g1, 1, none⟩ = some (.int .i64 a0_1) := (blk_cell BK1.out 1).trans rfl; have hy1_1 := blk_frozen BK1.out 1; have hz1_2 : w2.cell? ⟨g1, 2, none⟩ = some (.slice A0_2 l0_2.length c0_2) := (blk_cell BK1.out 2).trans rfl; have hy1_2 := blk_frozen BK1.out 2; have hz1_3 : w2.cell? ⟨g1, 3, none⟩ = some (.slice A0_3 l0_3.length c0_3) := (blk_cell BK1.out 3).trans rfl; have hy1_3 := blk_frozen BK1.out 3; have hz1_4 : w2.cell? ⟨g1, 4, none⟩ = some (.string a0_4) := (blk_cell BK1.out 4).trans rfl; have hy1_4 := blk_frozen BK1.out 4) | (go_at_call 65; (with_reducible refine (impl_within.calls a0_1 0 9999 true _ HW.out).mono ?_); rintro e w3 ⟨rfl, hd_⟩; have n0_ := Aside0.mk (below_step z4_8 hd_.below); have n1_ := Aside0.mk (blk_below (g := g1) (o := .cells #[.string a0_0, .int .i64 a0_1, .slice A0_2 l0_2.length c0_2, .slice A0_3 l0_3.length c0_3, .string a0_4] 62 (0, 0)) z4_10 hd_.below); (try clear HB); (try clear BK1); have HB := n0_; have BK1 := n1_; clear n0_ n1_; (try clear hd_); (try clear hz1_0); (try clear hy1_0); (try clear hz1_1); (try clear hy1_1); (try clear hz1_2); (try clear hy1_2); (try clear hz1_3); (try clear hy1_3); (try clear hz1_4); (try clear hy1_4); have hz1_0 : w3.cell? ⟨g1, 0, none⟩ = some (.string a0_0) := (blk_cell BK1.out 0).trans rfl; have hy1_0 := blk_frozen BK1.out 0; have hz1_1 : w3.cell? ⟨g1, 1, none⟩ = some (.int .i64 a0_1) := (blk_cell BK1.out 1).trans rfl; have hy1_1 := blk_frozen BK1.out 1; have hz1_2 : w3.cell? ⟨g1, 2, none⟩ = some (.slice A0_2 l0_2.length c0_2) := (blk_cell BK1.out 2).trans rfl; have hy1_2 := blk_frozen BK1.out 2; have hz1_3 : w3.cell? ⟨g1, 3, none⟩ = some (.slice A0_3 l0_3.length c0_3) := (blk_cell BK1.out 3).trans rfl; have hy1_3 := blk_frozen BK1.out 3; have hz1_4 : w3.cell? ⟨g1, 4, none⟩ = some (.string a0_4) := (blk_cell BK1.out 4).trans rfl; have hy1_4 := blk_frozen BK1.out 4) | (go_at_call 64; (with_reducible refine (impl_orEmpty_impl_bodyOk.calls k a0_4 true _ HO.out (Tabs_below HT.out z4_8)).mono ?_); rintro e w4 ⟨rfl, hb⟩; have n0_ := Aside0.mk (below_step z4_8 hb); have n1_ := Aside0.mk (blk_below (g := g1) (o := .cells #[.string a0_0, .int .i64 a0_1, .slice A0_2 l0_2.length c0_2, .slice A0_3 l0_3.length c0_3, .string a0_4] 62 (0, 0)) z4_10 hb); (try clear HB); (try clear BK1); have HB := n0_; have BK1 := n1_; clear n0_ n1_; (try clear hb); (try clear hz1_0); (try clear hy1_0); (try clear hz1_1); (try clear hy1_1); (try clear hz1_2); (try clear hy1_2); (try clear hz1_3); (try clear hy1_3); (try clear hz1_4); (try clear hy1_4); have hz1_0 : w4.cell? ⟨g1, 0, none⟩ = some (.string a0_0) := (blk_cell BK1.out 0).trans rfl; have hy1_0 := blk_frozen BK1.out 0; have hz1_1 : w4.cell? ⟨g1, 1, none⟩ = some (.int .i64 a0_1) := (blk_cell BK1.out 1).trans rfl; have hy1_1 := blk_frozen BK1.out 1; have hz1_2 : w4.cell? ⟨g1, 2, none⟩ = some (.slice A0_2 l0_2.length c0_2) := (blk_cell BK1.out 2).trans rfl; have hy1_2 := blk_frozen BK1.out 2; have hz1_3 : w4.cell? ⟨g1, 3, none⟩ = some (.slice A0_3 l0_3.length c0_3) := (blk_cell BK1.out 3).trans rfl; have hy1_3 := blk_frozen BK1.out 3; have hz1_4 : w4.cell? ⟨g1, 4, none⟩ = some (.string a0_4) := (blk_cell BK1.out 4).trans rfl; have hy1_4 := blk_frozen BK1.out 4))
  go_loopg [38] (l0_2.length + 1) (fun kq v38 w' => ∃ j : Nat, v38 = .int .i64 (j : Int) ∧ j ≤ l0_2.length ∧ Aside0 (kq + j = l0_2.length + 1) ∧ Aside0 (impl_RoomOk.mem k a0_0 a0_1 l0_2 l0_3 a0_4 (l0_2.drop j) (j : Int) = some m) ∧ Aside0 (w'.heap[g1]? = some (.cells #[.string a0_0, .int .i64 a0_1, .slice A0_2 l0_2.length c0_2, .slice A0_3 l0_3.length c0_3, .string a0_4] 62 (0, 0))) ∧ Aside0 (Below w.heap.size w w'))
  case atStart => exact ⟨0, rfl, Nat.zero_le _, ⟨by omega⟩, ⟨by rw [List.drop_zero]; exact HM.out⟩, ⟨z4_10⟩, ⟨z4_8⟩⟩
  case round =>
    try clear hz1_0
    try clear hy1_0
    try clear hz1_1
    try clear hy1_1
    try clear hz1_2
    try clear hy1_2
    try clear hz1_3
    try clear hy1_3
    try clear hz1_4
    try clear hy1_4
    clear HM
    obtain ⟨j, rfl, hj, HK, HA, BK1, HB⟩ := hrel
    by_cases hlt : j < l0_2.length
    · obtain ⟨u, n, wi, b, iv, jv, rk, f1, f2, f3, f4, f5, f6, f7, fm⟩ := impl_RoomOk.mem_step k a0_0 a0_1 l0_2 l0_3 a0_4 j hlt m HA.out
      have F1 := Aside0.mk f1
      have F2 := Aside0.mk f2
      have F3 := Aside0.mk f3
      have F4 := Aside0.mk f4
      have F5 := Aside0.mk f5
      have F6 := Aside0.mk f6
      have F7 := Aside0.mk f7
      have FM := Aside0.mk fm
      clear f1 f2 f3 f4 f5 f6 f7 fm HA
      obtain ⟨ad, e, hx0, hx1, hx2⟩ := at_T89 HR2.out (j : Int) (by omega) (by omega)
      cases e
      simp only [Int.toNat_natCast] at hx0 hx1 hx2
      replace hx0 := (HB.out.cell (World.block_lt_of_cell? w _ hx0)).trans hx0
      replace hx1 := (HB.out.cell (World.block_lt_of_cell? w _ hx1)).trans hx1
      replace hx2 := (HB.out.cell (World.block_lt_of_cell? w _ hx2)).trans hx2
      generalize rd_T89 l0_2 (j : Int) = x at hx0 hx1 hx2 F1 F2 F3 F4 F5 F6
      have hr1 := blk_cell BK1.out
      clear hr1
      have hr_0 : wr.cell? ⟨g1, 0, none⟩ = some (.string a0_0) := (blk_cell BK1.out 0).trans rfl
      have hr_1 : wr.cell? ⟨g1, 1, none⟩ = some (.int .i64 a0_1) := (blk_cell BK1.out 1).trans rfl
      have hr_2 : wr.cell? ⟨g1, 2, none⟩ = some (.slice (some ad) l0_2.length c0_2) := (blk_cell BK1.out 2).trans rfl
      have hr_3 : wr.cell? ⟨g1, 3, none⟩ = some (.slice A0_3 l0_3.length c0_3) := (blk_cell BK1.out 3).trans rfl
      have hr_4 : wr.cell? ⟨g1, 4, none⟩ = some (.string a0_4) := (blk_cell BK1.out 4).trans rfl
      cases u with
      | false =>
        have FM := Aside0.mk (FM.out)
        go_wp2_with (first | ((with_reducible refine gate_dst (N := 4) rfl ?_); refine box_event ?hg (N := 4) ?hd (cs := #[.string (⟨#[]⟩ : ByteArray), .string (⟨#[]⟩ : ByteArray), .int .i64 0]) (t := 89) ?hr ?_; (case hd => rfl); (case hg => rfl); (case hr => first | (go_simp; done) | (go_simp; rfl)); intro g4 hg w1 hbox hb; have n0_ := Aside0.mk (below_step z4_8 hb); have n1_ := Aside0.mk (blk_below (g := g1) (o := .cells #[.string a0_0, .int .i64 a0_1, .slice (some ad) l0_2.length c0_2, .slice A0_3 l0_3.length c0_3, .string a0_4] 62 (0, 0)) z4_10 hb); have n2_ := Aside0.mk (hbox); have n3_ := Aside0.mk ((by rw [hg]; exact (below_size z4_8) : w.heap.size ≤ g4)); have n4_ := Aside0.mk ((by rw [hg]; exact Nat.ne_of_lt (blk_lt (g := g1) (o := .cells #[.string a0_0, .int .i64 a0_1, .slice (some ad) l0_2.length c0_2, .slice A0_3 l0_3.length c0_3, .string a0_4] 62 (0, 0)) z4_10) : g1 ≠ g4)); have n5_ := Aside0.mk ((by rw [hg]; exact Nat.ne_of_gt (blk_lt (g := g1) (o := .cells #[.string a0_0, .int .i64 a0_1, .slice (some ad) l0_2.length c0_2, .slice A0_3 l0_3.length c0_3, .string a0_4] 62 (0, 0)) z4_10) : g4 ≠ g1)); (try clear HB); (try clear BK1); (try clear BK4); (try clear GE4); (try clear NB1_4); (try clear NB4_1); have HB := n0_; have BK1 := n1_; have BK4 := n2_; have GE4 := n3_; have NB1_4 := n4_; have NB4_1 := n5_; clear n0_ n1_ n2_ n3_ n4_ n5_; clear hb hbox hg; have hz1_0 : w1.cell? ⟨g1, 0, none⟩ = some (.string a0_0) := (blk_cell BK1.out 0).trans rfl; have hy1_0 := blk_frozen BK1.out 0; have hz1_1 : w1.cell? ⟨g1, 1, none⟩ = some (.int .i64 a0_1) := (blk_cell BK1.out 1).trans rfl; have hy1_1 := blk_frozen BK1.out 1; have hz1_2 : w1.cell? ⟨g1, 2, none⟩ = some (.slice (some ad) l0_2.length c0_2) := (blk_cell BK1.out 2).trans rfl; have hy1_2 := blk_frozen BK1.out 2; have hz1_3 : w1.cell? ⟨g1, 3, none⟩ = some (.slice A0_3 l0_3.length c0_3) := (blk_cell BK1.out 3).trans rfl; have hy1_3 := blk_frozen BK1.out 3; have hz1_4 : w1.cell? ⟨g1, 4, none⟩ = some (.string a0_4) := (blk_cell BK1.out 4).trans rfl; have hy1_4 := blk_frozen BK1.out 4; have hz4_0 : w1.cell? ⟨g4, 0, none⟩ = some (.string (⟨#[]⟩ : ByteArray)) := (blk_cell BK4.out 0).trans rfl; have hy4_0 := blk_frozen BK4.out 0; have hz4_1 : w1.cell? ⟨g4, 1, none⟩ = some (.string (⟨#[]⟩ : ByteArray)) := (blk_cell BK4.out 1).trans rfl; have hy4_1 := blk_frozen BK4.out 1; have hz4_2 : w1.cell? ⟨g4, 2, none⟩ = some (.int .i64 0) := (blk_cell BK4.out 2).trans rfl; have hy4_2 := blk_frozen BK4.out 2; have hn1_4 := NB1_4.out; have hn4_1 := NB4_1.out) | (go_at_call 47; (with_reducible refine (impl_userOk.calls x.f0 false _ F1.out).mono ?_); rintro e w2 ⟨rfl, hb⟩; have n0_ := Aside0.mk (below_step z4_6 hb); have n1_ := Aside0.mk (blk_below (g := g1) (o := .cells #[.string a0_0, .int .i64 a0_1, .slice (some ad) l0_2.length c0_2, .slice A0_3 l0_3.length c0_3, .string a0_4] 62 (0, 0)) z4_1 hb); have n2_ := Aside0.mk (blk_below (g := g4) (o := .cells #[.string x.f0, .string x.f1, .int .i64 x.f2] 89 (0, 0)) z4_0 hb); (try clear HB); (try clear BK1); (try clear BK4); have HB := n0_; have BK1 := n1_; have BK4 := n2_; clear n0_ n1_ n2_; (try clear hb); (try clear hz1_0); (try clear hy1_0); (try clear hz1_1); (try clear hy1_1); (try clear hz1_2); (try clear hy1_2); (try clear hz1_3); (try clear hy1_3); (try clear hz1_4); (try clear hy1_4); (try clear hz4_0); (try clear hy4_0); (try clear hz4_1); (try clear hy4_1); (try clear hz4_2); (try clear hy4_2); (try clear hn1_4); (try clear hn4_1); have hz1_0 : w2.cell? ⟨g1, 0, none⟩ = some (.string a0_0) := (blk_cell BK1.out 0).trans rfl; have hy1_0 := blk_frozen BK1.out 0; have hz1_1 : w2.cell? ⟨g1, 1, none⟩ = some (.int .i64 a0_1) := (blk_cell BK1.out 1).trans rfl; have hy1_1 := blk_frozen BK1.out 1; have hz1_2 : w2.cell? ⟨g1, 2, none⟩ = some (.slice (some ad) l0_2.length c0_2) := (blk_cell BK1.out 2).trans rfl; have hy1_2 := blk_frozen BK1.out 2; have hz1_3 : w2.cell? ⟨g1, 3, none⟩ = some (.slice A0_3 l0_3.length c0_3) := (blk_cell BK1.out 3).trans rfl; have hy1_3 := blk_frozen BK1.out 3; have hz1_4 : w2.cell? ⟨g1, 4, none⟩ = some (.string a0_4) := (blk_cell BK1.out 4).trans rfl; have hy1_4 := blk_frozen BK1.out 4; have hz4_0 : w2.cell? ⟨g4, 0, none⟩ = some (.string x.f0) := (blk_cell BK4.out 0).trans rfl; have hy4_0 := blk_frozen BK4.out 0; have hz4_1 : w2.cell? ⟨g4, 1, none⟩ = some (.string x.f1) := (blk_cell BK4.out 1).trans rfl; have hy4_1 := blk_frozen BK4.out 1; have hz4_2 : w2.cell? ⟨g4, 2, none⟩ = some (.int .i64 x.f2) := (blk_cell BK4.out 2).trans rfl; have hy4_2 := blk_frozen BK4.out 2; have hn1_4 := NB1_4.out; have hn4_1 := NB4_1.out))
        go_ret
        exact ⟨by rw [← H.out, FM.out]; rfl, z4_6⟩
      | true =>
      cases n with
      | false =>
        have FM := Aside0.mk (FM.out)
        go_wp2_with (first | ((with_reducible refine gate_dst (N := 4) rfl ?_); refine box_event ?hg (N := 4) ?hd (cs := #[.string (⟨#[]⟩ : ByteArray), .string (⟨#[]⟩ : ByteArray), .int .i64 0]) (t := 89) ?hr ?_; (case hd => rfl); (case hg => rfl); (case hr => first | (go_simp; done) | (go_simp; rfl)); intro g4 hg w1 hbox hb; have n0_ := Aside0.mk (below_step z4_8 hb); have n1_ := Aside0.mk (blk_below (g := g1) (o := .cells #[.string a0_0, .int .i64 a0_1, .slice (some ad) l0_2.length c0_2, .slice A0_3 l0_3.length c0_3, .string a0_4] 62 (0, 0)) z4_10 hb); have n2_ := Aside0.mk (hbox); have n3_ := Aside0.mk ((by rw [hg]; exact (below_size z4_8) : w.heap.size ≤ g4)); have n4_ := Aside0.mk ((by rw [hg]; exact Nat.ne_of_lt (blk_lt (g := g1) (o := .cells #[.string a0_0, .int .i64 a0_1, .slice (some ad) l0_2.length c0_2, .slice A0_3 l0_3.length c0_3, .string a0_4] 62 (0, 0)) z4_10) : g1 ≠ g4)); have n5_ := Aside0.mk ((by rw [hg]; exact Nat.ne_of_gt (blk_lt (g := g1) (o := .cells #[.string a0_0, .int .i64 a0_1, .slice (some ad) l0_2.length c0_2, .slice A0_3 l0_3.length c0_3, .string a0_4] 62 (0, 0)) z4_10) : g4 ≠ g1)); (try clear HB); (try clear BK1); (try clear BK4); (try clear GE4); (try clear NB1_4); (try clear NB4_1); have HB := n0_; have BK1 := n1_; have BK4 := n2_; have GE4 := n3_; have NB1_4 := n4_; have NB4_1 := n5_; clear n0_ n1_ n2_ n3_ n4_ n5_; clear hb hbox hg; have hz1_0 : w1.cell? ⟨g1, 0, none⟩ = some (.string a0_0) := (blk_cell BK1.out 0).trans rfl; have hy1_0 := blk_frozen BK1.out 0; have hz1_1 : w1.cell? ⟨g1, 1, none⟩ = some (.int .i64 a0_1) := (blk_cell BK1.out 1).trans rfl; have hy1_1 := blk_frozen BK1.out 1; have hz1_2 : w1.cell? ⟨g1, 2, none⟩ = some (.slice (some ad) l0_2.length c0_2) := (blk_cell BK1.out 2).trans rfl; have hy1_2 := blk_frozen BK1.out 2; have hz1_3 : w1.cell? ⟨g1, 3, none⟩ = some (.slice A0_3 l0_3.length c0_3) := (blk_cell BK1.out 3).trans rfl; have hy1_3 := blk_frozen BK1.out 3; have hz1_4 : w1.cell? ⟨g1, 4, none⟩ = some (.string a0_4) := (blk_cell BK1.out 4).trans rfl; have hy1_4 := blk_frozen BK1.out 4; have hz4_0 : w1.cell? ⟨g4, 0, none⟩ = some (.string (⟨#[]⟩ : ByteArray)) := (blk_cell BK4.out 0).trans rfl; have hy4_0 := blk_frozen BK4.out 0; have hz4_1 : w1.cell? ⟨g4, 1, none⟩ = some (.string (⟨#[]⟩ : ByteArray)) := (blk_cell BK4.out 1).trans rfl; have hy4_1 := blk_frozen BK4.out 1; have hz4_2 : w1.cell? ⟨g4, 2, none⟩ = some (.int .i64 0) := (blk_cell BK4.out 2).trans rfl; have hy4_2 := blk_frozen BK4.out 2; have hn1_4 := NB1_4.out; have hn4_1 := NB4_1.out) | (go_at_call 47; (with_reducible refine (impl_userOk.calls x.f0 true _ F1.out).mono ?_); rintro e w2 ⟨rfl, hb⟩; have n0_ := Aside0.mk (below_step z4_6 hb); have n1_ := Aside0.mk (blk_below (g := g1) (o := .cells #[.string a0_0, .int .i64 a0_1, .slice (some ad) l0_2.length c0_2, .slice A0_3 l0_3.length c0_3, .string a0_4] 62 (0, 0)) z4_1 hb); have n2_ := Aside0.mk (blk_below (g := g4) (o := .cells #[.string x.f0, .string x.f1, .int .i64 x.f2] 89 (0, 0)) z4_0 hb); (try clear HB); (try clear BK1); (try clear BK4); have HB := n0_; have BK1 := n1_; have BK4 := n2_; clear n0_ n1_ n2_; (try clear hb); (try clear hz1_0); (try clear hy1_0); (try clear hz1_1); (try clear hy1_1); (try clear hz1_2); (try clear hy1_2); (try clear hz1_3); (try clear hy1_3); (try clear hz1_4); (try clear hy1_4); (try clear hz4_0); (try clear hy4_0); (try clear hz4_1); (try clear hy4_1); (try clear hz4_2); (try clear hy4_2); (try clear hn1_4); (try clear hn4_1); have hz1_0 : w2.cell? ⟨g1, 0, none⟩ = some (.string a0_0) := (blk_cell BK1.out 0).trans rfl; have hy1_0 := blk_frozen BK1.out 0; have hz1_1 : w2.cell? ⟨g1, 1, none⟩ = some (.int .i64 a0_1) := (blk_cell BK1.out 1).trans rfl; have hy1_1 := blk_frozen BK1.out 1; have hz1_2 : w2.cell? ⟨g1, 2, none⟩ = some (.slice (some ad) l0_2.length c0_2) := (blk_cell BK1.out 2).trans rfl; have hy1_2 := blk_frozen BK1.out 2; have hz1_3 : w2.cell? ⟨g1, 3, none⟩ = some (.slice A0_3 l0_3.length c0_3) := (blk_cell BK1.out 3).trans rfl; have hy1_3 := blk_frozen BK1.out 3; have hz1_4 : w2.cell? ⟨g1, 4, none⟩ = some (.string a0_4) := (blk_cell BK1.out 4).trans rfl; have hy1_4 := blk_frozen BK1.out 4; have hz4_0 : w2.cell? ⟨g4, 0, none⟩ = some (.string x.f0) := (blk_cell BK4.out 0).trans rfl; have hy4_0 := blk_frozen BK4.out 0; have hz4_1 : w2.cell? ⟨g4, 1, none⟩ = some (.string x.f1) := (blk_cell BK4.out 1).trans rfl; have hy4_1 := blk_frozen BK4.out 1; have hz4_2 : w2.cell? ⟨g4, 2, none⟩ = some (.int .i64 x.f2) := (blk_cell BK4.out 2).trans rfl; have hy4_2 := blk_frozen BK4.out 2; have hn1_4 := NB1_4.out; have hn4_1 := NB4_1.out) | (go_at_call 49; (with_reducible refine (impl_nickOk.calls k x.f1 false _ F2.out (Tabs_below HT.out z4_6)).mono ?_); rintro e w3 ⟨rfl, hb⟩; have n0_ := Aside0.mk (below_step z4_6 hb); have n1_ := Aside0.mk (blk_below (g := g1) (o := .cells #[.string a0_0, .int .i64 a0_1, .slice (some ad) l0_2.length c0_2, .slice A0_3 l0_3.length c0_3, .string a0_4] 62 (0, 0)) z4_10 hb); have n2_ := Aside0.mk (blk_below (g := g4) (o := .cells #[.string x.f0, .string x.f1, .int .i64 x.f2] 89 (0, 0)) z4_11 hb); (try clear HB); (try clear BK1); (try clear BK4); have HB := n0_; have BK1 := n1_; have BK4 := n2_; clear n0_ n1_ n2_; (try clear hb); (try clear hz1_0); (try clear hy1_0); (try clear hz1_1); (try clear hy1_1); (try clear hz1_2); (try clear hy1_2); (try clear hz1_3); (try clear hy1_3); (try clear hz1_4); (try clear hy1_4); (try clear hz4_0); (try clear hy4_0); (try clear hz4_1); (try clear hy4_1); (try clear hz4_2); (try clear hy4_2); (try clear hn1_4); (try clear hn4_1); have hz1_0 : w3.cell? ⟨g1, 0, none⟩ = some (.string a0_0) := (blk_cell BK1.out 0).trans rfl; have hy1_0 := blk_frozen BK1.out 0; have hz1_1 : w3.cell? ⟨g1, 1, none⟩ = some (.int .i64 a0_1) := (blk_cell BK1.out 1).trans rfl; have hy1_1 := blk_frozen BK1.out 1; have hz1_2 : w3.cell? ⟨g1, 2, none⟩ = some (.slice (some ad) l0_2.length c0_2) := (blk_cell BK1.out 2).trans rfl; have hy1_2 := blk_frozen BK1.out 2; have hz1_3 : w3.cell? ⟨g1, 3, none⟩ = some (.slice A0_3 l0_3.length c0_3) := (blk_cell BK1.out 3).trans rfl; have hy1_3 := blk_frozen BK1.out 3; have hz1_4 : w3.cell? ⟨g1, 4, none⟩ = some (.string a0_4) := (blk_cell BK1.out 4).trans rfl; have hy1_4 := blk_frozen BK1.out 4; have hz4_0 : w3.cell? ⟨g4, 0, none⟩ = some (.string x.f0) := (blk_cell BK4.out 0).trans rfl; have hy4_0 := blk_frozen BK4.out 0; have hz4_1 : w3.cell? ⟨g4, 1, none⟩ = some (.string x.f1) := (blk_cell BK4.out 1).trans rfl; have hy4_1 := blk_frozen BK4.out 1; have hz4_2 : w3.cell? ⟨g4, 2, none⟩ = some (.int .i64 x.f2) := (blk_cell BK4.out 2).trans rfl; have hy4_2 := blk_frozen BK4.out 2; have hn1_4 := NB1_4.out; have hn4_1 := NB4_1.out))
        go_ret
        exact ⟨by rw [← H.out, FM.out]; rfl, z4_6⟩
      | true =>
      by_cases eiv : iv = (j : Int)
      case neg =>
        have biv : (iv == (j : Int)) = false := beq_eq_false_iff_ne.mpr eiv
        have civ : (iv != (j : Int)) = true := bne_iff_ne.mpr eiv
        have FM' := Aside0.mk (FM.out)
        rw [biv] at FM'
        clear FM
        have FM := FM'
        clear FM'
        go_wp2_with (first | ((with_reducible refine gate_dst (N := 4) rfl ?_); refine box_event ?hg (N := 4) ?hd (cs := #[.string (⟨#[]⟩ : ByteArray), .string (⟨#[]⟩ : ByteArray), .int .i64 0]) (t := 89) ?hr ?_; (case hd => rfl); (case hg => rfl); (case hr => first | (go_simp; done) | (go_simp; rfl)); intro g4 hg w1 hbox hb; have n0_ := Aside0.mk (below_step z4_8 hb); have n1_ := Aside0.mk (blk_below (g := g1) (o := .cells #[.string a0_0, .int .i64 a0_1, .slice (some ad) l0_2.length c0_2, .slice A0_3 l0_3.length c0_3, .string a0_4] 62 (0, 0)) z4_10 hb); have n2_ := Aside0.mk (hbox); have n3_ := Aside0.mk ((by rw [hg]; exact (below_size z4_8) : w.heap.size ≤ g4)); have n4_ := Aside0.mk ((by rw [hg]; exact Nat.ne_of_lt (blk_lt (g := g1) (o := .cells #[.string a0_0, .int .i64 a0_1, .slice (some ad) l0_2.length c0_2, .slice A0_3 l0_3.length c0_3, .string a0_4] 62 (0, 0)) z4_10) : g1 ≠ g4)); have n5_ := Aside0.mk ((by rw [hg]; exact Nat.ne_of_gt (blk_lt (g := g1) (o := .cells #[.string a0_0, .int .i64 a0_1, .slice (some ad) l0_2.length c0_2, .slice A0_3 l0_3.length c0_3, .string a0_4] 62 (0, 0)) z4_10) : g4 ≠ g1)); (try clear HB); (try clear BK1); (try clear BK4); (try clear GE4); (try clear NB1_4); (try clear NB4_1); have HB := n0_; have BK1 := n1_; have BK4 := n2_; have GE4 := n3_; have NB1_4 := n4_; have NB4_1 := n5_; clear n0_ n1_ n2_ n3_ n4_ n5_; clear hb hbox hg; have hz1_0 : w1.cell? ⟨g1, 0, none⟩ = some (.string a0_0) := (blk_cell BK1.out 0).trans rfl; have hy1_0 := blk_frozen BK1.out 0; have hz1_1 : w1.cell? ⟨g1, 1, none⟩ = some (.int .i64 a0_1) := (blk_cell BK1.out 1).trans rfl; have hy1_1 := blk_frozen BK1.out 1; have hz1_2 : w1.cell? ⟨g1, 2, none⟩ = some (.slice (some ad) l0_2.length c0_2) := (blk_cell BK1.out 2).trans rfl; have hy1_2 := blk_frozen BK1.out 2; have hz1_3 : w1.cell? ⟨g1, 3, none⟩ = some (.slice A0_3 l0_3.length c0_3) := (blk_cell BK1.out 3).trans rfl; have hy1_3 := blk_frozen BK1.out 3; have hz1_4 : w1.cell? ⟨g1, 4, none⟩ = some (.string a0_4) := (blk_cell BK1.out 4).trans rfl; have hy1_4 := blk_frozen BK1.out 4; have hz4_0 : w1.cell? ⟨g4, 0, none⟩ = some (.string (⟨#[]⟩ : ByteArray)) := (blk_cell BK4.out 0).trans rfl; have hy4_0 := blk_frozen BK4.out 0; have hz4_1 : w1.cell? ⟨g4, 1, none⟩ = some (.string (⟨#[]⟩ : ByteArray)) := (blk_cell BK4.out 1).trans rfl; have hy4_1 := blk_frozen BK4.out 1; have hz4_2 : w1.cell? ⟨g4, 2, none⟩ = some (.int .i64 0) := (blk_cell BK4.out 2).trans rfl; have hy4_2 := blk_frozen BK4.out 2; have hn1_4 := NB1_4.out; have hn4_1 := NB4_1.out) | (go_at_call 47; (with_reducible refine (impl_userOk.calls x.f0 true _ F1.out).mono ?_); rintro e w2 ⟨rfl, hb⟩; have n0_ := Aside0.mk (below_step z4_6 hb); have n1_ := Aside0.mk (blk_below (g := g1) (o := .cells #[.string a0_0, .int .i64 a0_1, .slice (some ad) l0_2.length c0_2, .slice A0_3 l0_3.length c0_3, .string a0_4] 62 (0, 0)) z4_1 hb); have n2_ := Aside0.mk (blk_below (g := g4) (o := .cells #[.string x.f0, .string x.f1, .int .i64 x.f2] 89 (0, 0)) z4_0 hb); (try clear HB); (try clear BK1); (try clear BK4); have HB := n0_; have BK1 := n1_; have BK4 := n2_; clear n0_ n1_ n2_; (try clear hb); (try clear hz1_0); (try clear hy1_0); (try clear hz1_1); (try clear hy1_1); (try clear hz1_2); (try clear hy1_2); (try clear hz1_3); (try clear hy1_3); (try clear hz1_4); (try clear hy1_4); (try clear hz4_0); (try clear hy4_0); (try clear hz4_1); (try clear hy4_1); (try clear hz4_2); (try clear hy4_2); (try clear hn1_4); (try clear hn4_1); have hz1_0 : w2.cell? ⟨g1, 0, none⟩ = some (.string a0_0) := (blk_cell BK1.out 0).trans rfl; have hy1_0 := blk_frozen BK1.out 0; have hz1_1 : w2.cell? ⟨g1, 1, none⟩ = some (.int .i64 a0_1) := (blk_cell BK1.out 1).trans rfl; have hy1_1 := blk_frozen BK1.out 1; have hz1_2 : w2.cell? ⟨g1, 2, none⟩ = some (.slice (some ad) l0_2.length c0_2) := (blk_cell BK1.out 2).trans rfl; have hy1_2 := blk_frozen BK1.out 2; have hz1_3 : w2.cell? ⟨g1, 3, none⟩ = some (.slice A0_3 l0_3.length c0_3) := (blk_cell BK1.out 3).trans rfl; have hy1_3 := blk_frozen BK1.out 3; have hz1_4 : w2.cell? ⟨g1, 4, none⟩ = some (.string a0_4) := (blk_cell BK1.out 4).trans rfl; have hy1_4 := blk_frozen BK1.out 4; have hz4_0 : w2.cell? ⟨g4, 0, none⟩ = some (.string x.f0) := (blk_cell BK4.out 0).trans rfl; have hy4_0 := blk_frozen BK4.out 0; have hz4_1 : w2.cell? ⟨g4, 1, none⟩ = some (.string x.f1) := (blk_cell BK4.out 1).trans rfl; have hy4_1 := blk_frozen BK4.out 1; have hz4_2 : w2.cell? ⟨g4, 2, none⟩ = some (.int .i64 x.f2) := (blk_cell BK4.out 2).trans rfl; have hy4_2 := blk_frozen BK4.out 2; have hn1_4 := NB1_4.out; have hn4_1 := NB4_1.out) | (go_at_call 49; (with_reducible refine (impl_nickOk.calls k x.f1 true _ F2.out (Tabs_below HT.out z4_6)).mono ?_); rintro e w3 ⟨rfl, hb⟩; have n0_ := Aside0.mk (below_step z4_6 hb); have n1_ := Aside0.mk (blk_below (g := g1) (o := .cells #[.string a0_0, .int .i64 a0_1, .slice (some ad) l0_2.length c0_2, .slice A0_3 l0_3.length c0_3, .string a0_4] 62 (0, 0)) z4_10 hb); have n2_ := Aside0.mk (blk_below (g := g4) (o := .cells #[.string x.f0, .string x.f1, .int .i64 x.f2] 89 (0, 0)) z4_11 hb); (try clear HB); (try clear BK1); (try clear BK4); have HB := n0_; have BK1 := n1_; have BK4 := n2_; clear n0_ n1_ n2_; (try clear hb); (try clear hz1_0); (try clear hy1_0); (try clear hz1_1); (try clear hy1_1); (try clear hz1_2); (try clear hy1_2); (try clear hz1_3); (try clear hy1_3); (try clear hz1_4); (try clear hy1_4); (try clear hz4_0); (try clear hy4_0); (try clear hz4_1); (try clear hy4_1); (try clear hz4_2); (try clear hy4_2); (try clear hn1_4); (try clear hn4_1); have hz1_0 : w3.cell? ⟨g1, 0, none⟩ = some (.string a0_0) := (blk_cell BK1.out 0).trans rfl; have hy1_0 := blk_frozen BK1.out 0; have hz1_1 : w3.cell? ⟨g1, 1, none⟩ = some (.int .i64 a0_1) := (blk_cell BK1.out 1).trans rfl; have hy1_1 := blk_frozen BK1.out 1; have hz1_2 : w3.cell? ⟨g1, 2, none⟩ = some (.slice (some ad) l0_2.length c0_2) := (blk_cell BK1.out 2).trans rfl; have hy1_2 := blk_frozen BK1.out 2; have hz1_3 : w3.cell? ⟨g1, 3, none⟩ = some (.slice A0_3 l0_3.length c0_3) := (blk_cell BK1.out 3).trans rfl; have hy1_3 := blk_frozen BK1.out 3; have hz1_4 : w3.cell? ⟨g1, 4, none⟩ = some (.string a0_4) := (blk_cell BK1.out 4).trans rfl; have hy1_4 := blk_frozen BK1.out 4; have hz4_0 : w3.cell? ⟨g4, 0, none⟩ = some (.string x.f0) := (blk_cell BK4.out 0).trans rfl; have hy4_0 := blk_frozen BK4.out 0; have hz4_1 : w3.cell? ⟨g4, 1, none⟩ = some (.string x.f1) := (blk_cell BK4.out 1).trans rfl; have hy4_1 := blk_frozen BK4.out 1; have hz4_2 : w3.cell? ⟨g4, 2, none⟩ = some (.int .i64 x.f2) := (blk_cell BK4.out 2).trans rfl; have hy4_2 := blk_frozen BK4.out 2; have hn1_4 := NB1_4.out; have hn4_1 := NB4_1.out) | (go_at_call 73; (with_reducible refine (impl_Room_member.calls a0_0 a0_1 (some ad) c0_2 l0_2 A0_3 c0_3 l0_3 a0_4 x.f0 iv _ z4_4 HC2.out z4_5 HC3.out F3.out).mono ?_); rintro e w4 ⟨rfl, hb⟩; have n0_ := Aside0.mk (below_step z4_6 hb); have n1_ := Aside0.mk (blk_below (g := g1) (o := .cells #[.string a0_0, .int .i64 a0_1, .slice (some ad) l0_2.length c0_2, .slice A0_3 l0_3.length c0_3, .string a0_4] 62 (0, 0)) z4_10 hb); have n2_ := Aside0.mk (blk_below (g := g4) (o := .cells #[.string x.f0, .string x.f1, .int .i64 x.f2] 89 (0, 0)) z4_11 hb); (try clear HB); (try clear BK1); (try clear BK4); have HB := n0_; have BK1 := n1_; have BK4 := n2_; clear n0_ n1_ n2_; (try clear hb); (try clear hz1_0); (try clear hy1_0); (try clear hz1_1); (try clear hy1_1); (try clear hz1_2); (try clear hy1_2); (try clear hz1_3); (try clear hy1_3); (try clear hz1_4); (try clear hy1_4); (try clear hz4_0); (try clear hy4_0); (try clear hz4_1); (try clear hy4_1); (try clear hz4_2); (try clear hy4_2); (try clear hn1_4); (try clear hn4_1); have hz1_0 : w4.cell? ⟨g1, 0, none⟩ = some (.string a0_0) := (blk_cell BK1.out 0).trans rfl; have hy1_0 := blk_frozen BK1.out 0; have hz1_1 : w4.cell? ⟨g1, 1, none⟩ = some (.int .i64 a0_1) := (blk_cell BK1.out 1).trans rfl; have hy1_1 := blk_frozen BK1.out 1; have hz1_2 : w4.cell? ⟨g1, 2, none⟩ = some (.slice (some ad) l0_2.length c0_2) := (blk_cell BK1.out 2).trans rfl; have hy1_2 := blk_frozen BK1.out 2; have hz1_3 : w4.cell? ⟨g1, 3, none⟩ = some (.slice A0_3 l0_3.length c0_3) := (blk_cell BK1.out 3).trans rfl; have hy1_3 := blk_frozen BK1.out 3; have hz1_4 : w4.cell? ⟨g1, 4, none⟩ = some (.string a0_4) := (blk_cell BK1.out 4).trans rfl; have hy1_4 := blk_frozen BK1.out 4; have hz4_0 : w4.cell? ⟨g4, 0, none⟩ = some (.string x.f0) := (blk_cell BK4.out 0).trans rfl; have hy4_0 := blk_frozen BK4.out 0; have hz4_1 : w4.cell? ⟨g4, 1, none⟩ = some (.string x.f1) := (blk_cell BK4.out 1).trans rfl; have hy4_1 := blk_frozen BK4.out 1; have hz4_2 : w4.cell? ⟨g4, 2, none⟩ = some (.int .i64 x.f2) := (blk_cell BK4.out 2).trans rfl; have hy4_2 := blk_frozen BK4.out 2; have hn1_4 := NB1_4.out; have hn4_1 := NB4_1.out))
        go_ret
        exact ⟨by rw [← H.out, FM.out]; rfl, z4_6⟩
      subst eiv
      have FM' := Aside0.mk (FM.out)
      rw [beq_self_eq_true] at FM'
      clear FM
      have FM := FM'
      clear FM'
      by_cases ejv : jv = (j : Int)
      case neg =>
        have bjv : (jv == (j : Int)) = false := beq_eq_false_iff_ne.mpr ejv
        have cjv : (jv != (j : Int)) = true := bne_iff_ne.mpr ejv
        have FM' := Aside0.mk (FM.out)
        rw [bjv] at FM'
        clear FM
        have FM := FM'
        clear FM'
        go_wp2_with (first | ((with_reducible refine gate_dst (N := 4) rfl ?_); refine box_event ?hg (N := 4) ?hd (cs := #[.string (⟨#[]⟩ : ByteArray), .string (⟨#[]⟩ : ByteArray), .int .i64 0]) (t := 89) ?hr ?_; (case hd => rfl); (case hg => rfl); (case hr => first | (go_simp; done) | (go_simp; rfl)); intro g4 hg w1 hbox hb; have n0_ := Aside0.mk (below_step z4_8 hb); have n1_ := Aside0.mk (blk_below (g := g1) (o := .cells #[.string a0_0, .int .i64 a0_1, .slice (some ad) l0_2.length c0_2, .slice A0_3 l0_3.length c0_3, .string a0_4] 62 (0, 0)) z4_10 hb); have n2_ := Aside0.mk (hbox); have n3_ := Aside0.mk ((by rw [hg]; exact (below_size z4_8) : w.heap.size ≤ g4)); have n4_ := Aside0.mk ((by rw [hg]; exact Nat.ne_of_lt (blk_lt (g := g1) (o := .cells #[.string a0_0, .int .i64 a0_1, .slice (some ad) l0_2.length c0_2, .slice A0_3 l0_3.length c0_3, .string a0_4] 62 (0, 0)) z4_10) : g1 ≠ g4)); have n5_ := Aside0.mk ((by rw [hg]; exact Nat.ne_of_gt (blk_lt (g := g1) (o := .cells #[.string a0_0, .int .i64 a0_1, .slice (some ad) l0_2.length c0_2, .slice A0_3 l0_3.length c0_3, .string a0_4] 62 (0, 0)) z4_10) : g4 ≠ g1)); (try clear HB); (try clear BK1); (try clear BK4); (try clear GE4); (try clear NB1_4); (try clear NB4_1); have HB := n0_; have BK1 := n1_; have BK4 := n2_; have GE4 := n3_; have NB1_4 := n4_; have NB4_1 := n5_; clear n0_ n1_ n2_ n3_ n4_ n5_; clear hb hbox hg; have hz1_0 : w1.cell? ⟨g1, 0, none⟩ = some (.string a0_0) := (blk_cell BK1.out 0).trans rfl; have hy1_0 := blk_frozen BK1.out 0; have hz1_1 : w1.cell? ⟨g1, 1, none⟩ = some (.int .i64 a0_1) := (blk_cell BK1.out 1).trans rfl; have hy1_1 := blk_frozen BK1.out 1; have hz1_2 : w1.cell? ⟨g1, 2, none⟩ = some (.slice (some ad) l0_2.length c0_2) := (blk_cell BK1.out 2).trans rfl; have hy1_2 := blk_frozen BK1.out 2; have hz1_3 : w1.cell? ⟨g1, 3, none⟩ = some (.slice A0_3 l0_3.length c0_3) := (blk_cell BK1.out 3).trans rfl; have hy1_3 := blk_frozen BK1.out 3; have hz1_4 : w1.cell? ⟨g1, 4, none⟩ = some (.string a0_4) := (blk_cell BK1.out 4).trans rfl; have hy1_4 := blk_frozen BK1.out 4; have hz4_0 : w1.cell? ⟨g4, 0, none⟩ = some (.string (⟨#[]⟩ : ByteArray)) := (blk_cell BK4.out 0).trans rfl; have hy4_0 := blk_frozen BK4.out 0; have hz4_1 : w1.cell? ⟨g4, 1, none⟩ = some (.string (⟨#[]⟩ : ByteArray)) := (blk_cell BK4.out 1).trans rfl; have hy4_1 := blk_frozen BK4.out 1; have hz4_2 : w1.cell? ⟨g4, 2, none⟩ = some (.int .i64 0) := (blk_cell BK4.out 2).trans rfl; have hy4_2 := blk_frozen BK4.out 2; have hn1_4 := NB1_4.out; have hn4_1 := NB4_1.out) | (go_at_call 47; (with_reducible refine (impl_userOk.calls x.f0 true _ F1.out).mono ?_); rintro e w2 ⟨rfl, hb⟩; have n0_ := Aside0.mk (below_step z4_6 hb); have n1_ := Aside0.mk (blk_below (g := g1) (o := .cells #[.string a0_0, .int .i64 a0_1, .slice (some ad) l0_2.length c0_2, .slice A0_3 l0_3.length c0_3, .string a0_4] 62 (0, 0)) z4_1 hb); have n2_ := Aside0.mk (blk_below (g := g4) (o := .cells #[.string x.f0, .string x.f1, .int .i64 x.f2] 89 (0, 0)) z4_0 hb); (try clear HB); (try clear BK1); (try clear BK4); have HB := n0_; have BK1 := n1_; have BK4 := n2_; clear n0_ n1_ n2_; (try clear hb); (try clear hz1_0); (try clear hy1_0); (try clear hz1_1); (try clear hy1_1); (try clear hz1_2); (try clear hy1_2); (try clear hz1_3); (try clear hy1_3); (try clear hz1_4); (try clear hy1_4); (try clear hz4_0); (try clear hy4_0); (try clear hz4_1); (try clear hy4_1); (try clear hz4_2); (try clear hy4_2); (try clear hn1_4); (try clear hn4_1); have hz1_0 : w2.cell? ⟨g1, 0, none⟩ = some (.string a0_0) := (blk_cell BK1.out 0).trans rfl; have hy1_0 := blk_frozen BK1.out 0; have hz1_1 : w2.cell? ⟨g1, 1, none⟩ = some (.int .i64 a0_1) := (blk_cell BK1.out 1).trans rfl; have hy1_1 := blk_frozen BK1.out 1; have hz1_2 : w2.cell? ⟨g1, 2, none⟩ = some (.slice (some ad) l0_2.length c0_2) := (blk_cell BK1.out 2).trans rfl; have hy1_2 := blk_frozen BK1.out 2; have hz1_3 : w2.cell? ⟨g1, 3, none⟩ = some (.slice A0_3 l0_3.length c0_3) := (blk_cell BK1.out 3).trans rfl; have hy1_3 := blk_frozen BK1.out 3; have hz1_4 : w2.cell? ⟨g1, 4, none⟩ = some (.string a0_4) := (blk_cell BK1.out 4).trans rfl; have hy1_4 := blk_frozen BK1.out 4; have hz4_0 : w2.cell? ⟨g4, 0, none⟩ = some (.string x.f0) := (blk_cell BK4.out 0).trans rfl; have hy4_0 := blk_frozen BK4.out 0; have hz4_1 : w2.cell? ⟨g4, 1, none⟩ = some (.string x.f1) := (blk_cell BK4.out 1).trans rfl; have hy4_1 := blk_frozen BK4.out 1; have hz4_2 : w2.cell? ⟨g4, 2, none⟩ = some (.int .i64 x.f2) := (blk_cell BK4.out 2).trans rfl; have hy4_2 := blk_frozen BK4.out 2; have hn1_4 := NB1_4.out; have hn4_1 := NB4_1.out) | (go_at_call 49; (with_reducible refine (impl_nickOk.calls k x.f1 true _ F2.out (Tabs_below HT.out z4_6)).mono ?_); rintro e w3 ⟨rfl, hb⟩; have n0_ := Aside0.mk (below_step z4_6 hb); have n1_ := Aside0.mk (blk_below (g := g1) (o := .cells #[.string a0_0, .int .i64 a0_1, .slice (some ad) l0_2.length c0_2, .slice A0_3 l0_3.length c0_3, .string a0_4] 62 (0, 0)) z4_10 hb); have n2_ := Aside0.mk (blk_below (g := g4) (o := .cells #[.string x.f0, .string x.f1, .int .i64 x.f2] 89 (0, 0)) z4_11 hb); (try clear HB); (try clear BK1); (try clear BK4); have HB := n0_; have BK1 := n1_; have BK4 := n2_; clear n0_ n1_ n2_; (try clear hb); (try clear hz1_0); (try clear hy1_0); (try clear hz1_1); (try clear hy1_1); (try clear hz1_2); (try clear hy1_2); (try clear hz1_3); (try clear hy1_3); (try clear hz1_4); (try clear hy1_4); (try clear hz4_0); (try clear hy4_0); (try clear hz4_1); (try clear hy4_1); (try clear hz4_2); (try clear hy4_2); (try clear hn1_4); (try clear hn4_1); have hz1_0 : w3.cell? ⟨g1, 0, none⟩ = some (.string a0_0) := (blk_cell BK1.out 0).trans rfl; have hy1_0 := blk_frozen BK1.out 0; have hz1_1 : w3.cell? ⟨g1, 1, none⟩ = some (.int .i64 a0_1) := (blk_cell BK1.out 1).trans rfl; have hy1_1 := blk_frozen BK1.out 1; have hz1_2 : w3.cell? ⟨g1, 2, none⟩ = some (.slice (some ad) l0_2.length c0_2) := (blk_cell BK1.out 2).trans rfl; have hy1_2 := blk_frozen BK1.out 2; have hz1_3 : w3.cell? ⟨g1, 3, none⟩ = some (.slice A0_3 l0_3.length c0_3) := (blk_cell BK1.out 3).trans rfl; have hy1_3 := blk_frozen BK1.out 3; have hz1_4 : w3.cell? ⟨g1, 4, none⟩ = some (.string a0_4) := (blk_cell BK1.out 4).trans rfl; have hy1_4 := blk_frozen BK1.out 4; have hz4_0 : w3.cell? ⟨g4, 0, none⟩ = some (.string x.f0) := (blk_cell BK4.out 0).trans rfl; have hy4_0 := blk_frozen BK4.out 0; have hz4_1 : w3.cell? ⟨g4, 1, none⟩ = some (.string x.f1) := (blk_cell BK4.out 1).trans rfl; have hy4_1 := blk_frozen BK4.out 1; have hz4_2 : w3.cell? ⟨g4, 2, none⟩ = some (.int .i64 x.f2) := (blk_cell BK4.out 2).trans rfl; have hy4_2 := blk_frozen BK4.out 2; have hn1_4 := NB1_4.out; have hn4_1 := NB4_1.out) | (go_at_call 73; (with_reducible refine (impl_Room_member.calls a0_0 a0_1 (some ad) c0_2 l0_2 A0_3 c0_3 l0_3 a0_4 x.f0 (j : Int) _ z4_4 HC2.out z4_5 HC3.out F3.out).mono ?_); rintro e w4 ⟨rfl, hb⟩; have n0_ := Aside0.mk (below_step z4_6 hb); have n1_ := Aside0.mk (blk_below (g := g1) (o := .cells #[.string a0_0, .int .i64 a0_1, .slice (some ad) l0_2.length c0_2, .slice A0_3 l0_3.length c0_3, .string a0_4] 62 (0, 0)) z4_10 hb); have n2_ := Aside0.mk (blk_below (g := g4) (o := .cells #[.string x.f0, .string x.f1, .int .i64 x.f2] 89 (0, 0)) z4_11 hb); (try clear HB); (try clear BK1); (try clear BK4); have HB := n0_; have BK1 := n1_; have BK4 := n2_; clear n0_ n1_ n2_; (try clear hb); (try clear hz1_0); (try clear hy1_0); (try clear hz1_1); (try clear hy1_1); (try clear hz1_2); (try clear hy1_2); (try clear hz1_3); (try clear hy1_3); (try clear hz1_4); (try clear hy1_4); (try clear hz4_0); (try clear hy4_0); (try clear hz4_1); (try clear hy4_1); (try clear hz4_2); (try clear hy4_2); (try clear hn1_4); (try clear hn4_1); have hz1_0 : w4.cell? ⟨g1, 0, none⟩ = some (.string a0_0) := (blk_cell BK1.out 0).trans rfl; have hy1_0 := blk_frozen BK1.out 0; have hz1_1 : w4.cell? ⟨g1, 1, none⟩ = some (.int .i64 a0_1) := (blk_cell BK1.out 1).trans rfl; have hy1_1 := blk_frozen BK1.out 1; have hz1_2 : w4.cell? ⟨g1, 2, none⟩ = some (.slice (some ad) l0_2.length c0_2) := (blk_cell BK1.out 2).trans rfl; have hy1_2 := blk_frozen BK1.out 2; have hz1_3 : w4.cell? ⟨g1, 3, none⟩ = some (.slice A0_3 l0_3.length c0_3) := (blk_cell BK1.out 3).trans rfl; have hy1_3 := blk_frozen BK1.out 3; have hz1_4 : w4.cell? ⟨g1, 4, none⟩ = some (.string a0_4) := (blk_cell BK1.out 4).trans rfl; have hy1_4 := blk_frozen BK1.out 4; have hz4_0 : w4.cell? ⟨g4, 0, none⟩ = some (.string x.f0) := (blk_cell BK4.out 0).trans rfl; have hy4_0 := blk_frozen BK4.out 0; have hz4_1 : w4.cell? ⟨g4, 1, none⟩ = some (.string x.f1) := (blk_cell BK4.out 1).trans rfl; have hy4_1 := blk_frozen BK4.out 1; have hz4_2 : w4.cell? ⟨g4, 2, none⟩ = some (.int .i64 x.f2) := (blk_cell BK4.out 2).trans rfl; have hy4_2 := blk_frozen BK4.out 2; have hn1_4 := NB1_4.out; have hn4_1 := NB4_1.out) | (go_at_call 74; (with_reducible refine (impl_Room_nick.calls a0_0 a0_1 (some ad) c0_2 l0_2 A0_3 c0_3 l0_3 a0_4 x.f1 jv _ z4_4 HC2.out z4_5 HC3.out F4.out).mono ?_); rintro e w5 ⟨rfl, hb⟩; have n0_ := Aside0.mk (below_step z4_6 hb); have n1_ := Aside0.mk (blk_below (g := g1) (o := .cells #[.string a0_0, .int .i64 a0_1, .slice (some ad) l0_2.length c0_2, .slice A0_3 l0_3.length c0_3, .string a0_4] 62 (0, 0)) z4_10 hb); have n2_ := Aside0.mk (blk_below (g := g4) (o := .cells #[.string x.f0, .string x.f1, .int .i64 x.f2] 89 (0, 0)) z4_11 hb); (try clear HB); (try clear BK1); (try clear BK4); have HB := n0_; have BK1 := n1_; have BK4 := n2_; clear n0_ n1_ n2_; (try clear hb); (try clear hz1_0); (try clear hy1_0); (try clear hz1_1); (try clear hy1_1); (try clear hz1_2); (try clear hy1_2); (try clear hz1_3); (try clear hy1_3); (try clear hz1_4); (try clear hy1_4); (try clear hz4_0); (try clear hy4_0); (try clear hz4_1); (try clear hy4_1); (try clear hz4_2); (try clear hy4_2); (try clear hn1_4); (try clear hn4_1); have hz1_0 : w5.cell? ⟨g1, 0, none⟩ = some (.string a0_0) := (blk_cell BK1.out 0).trans rfl; have hy1_0 := blk_frozen BK1.out 0; have hz1_1 : w5.cell? ⟨g1, 1, none⟩ = some (.int .i64 a0_1) := (blk_cell BK1.out 1).trans rfl; have hy1_1 := blk_frozen BK1.out 1; have hz1_2 : w5.cell? ⟨g1, 2, none⟩ = some (.slice (some ad) l0_2.length c0_2) := (blk_cell BK1.out 2).trans rfl; have hy1_2 := blk_frozen BK1.out 2; have hz1_3 : w5.cell? ⟨g1, 3, none⟩ = some (.slice A0_3 l0_3.length c0_3) := (blk_cell BK1.out 3).trans rfl; have hy1_3 := blk_frozen BK1.out 3; have hz1_4 : w5.cell? ⟨g1, 4, none⟩ = some (.string a0_4) := (blk_cell BK1.out 4).trans rfl; have hy1_4 := blk_frozen BK1.out 4; have hz4_0 : w5.cell? ⟨g4, 0, none⟩ = some (.string x.f0) := (blk_cell BK4.out 0).trans rfl; have hy4_0 := blk_frozen BK4.out 0; have hz4_1 : w5.cell? ⟨g4, 1, none⟩ = some (.string x.f1) := (blk_cell BK4.out 1).trans rfl; have hy4_1 := blk_frozen BK4.out 1; have hz4_2 : w5.cell? ⟨g4, 2, none⟩ = some (.int .i64 x.f2) := (blk_cell BK4.out 2).trans rfl; have hy4_2 := blk_frozen BK4.out 2; have hn1_4 := NB1_4.out; have hn4_1 := NB4_1.out))
        go_ret
        exact ⟨by rw [← H.out, FM.out]; rfl, z4_6⟩
      subst ejv
      have FM' := Aside0.mk (FM.out)
      rw [beq_self_eq_true] at FM'
      clear FM
      have FM := FM'
      clear FM'
      cases wi with
      | false =>
        have FM := Aside0.mk (FM.out)
        go_wp2_with (first | ((with_reducible refine gate_dst (N := 4) rfl ?_); refine box_event ?hg (N := 4) ?hd (cs := #[.string (⟨#[]⟩ : ByteArray), .string (⟨#[]⟩ : ByteArray), .int .i64 0]) (t := 89) ?hr ?_; (case hd => rfl); (case hg => rfl); (case hr => first | (go_simp; done) | (go_simp; rfl)); intro g4 hg w1 hbox hb; have n0_ := Aside0.mk (below_step z4_8 hb); have n1_ := Aside0.mk (blk_below (g := g1) (o := .cells #[.string a0_0, .int .i64 a0_1, .slice (some ad) l0_2.length c0_2, .slice A0_3 l0_3.length c0_3, .string a0_4] 62 (0, 0)) z4_10 hb); have n2_ := Aside0.mk (hbox); have n3_ := Aside0.mk ((by rw [hg]; exact (below_size z4_8) : w.heap.size ≤ g4)); have n4_ := Aside0.mk ((by rw [hg]; exact Nat.ne_of_lt (blk_lt (g := g1) (o := .cells #[.string a0_0, .int .i64 a0_1, .slice (some ad) l0_2.length c0_2, .slice A0_3 l0_3.length c0_3, .string a0_4] 62 (0, 0)) z4_10) : g1 ≠ g4)); have n5_ := Aside0.mk ((by rw [hg]; exact Nat.ne_of_gt (blk_lt (g := g1) (o := .cells #[.string a0_0, .int .i64 a0_1, .slice (some ad) l0_2.length c0_2, .slice A0_3 l0_3.length c0_3, .string a0_4] 62 (0, 0)) z4_10) : g4 ≠ g1)); (try clear HB); (try clear BK1); (try clear BK4); (try clear GE4); (try clear NB1_4); (try clear NB4_1); have HB := n0_; have BK1 := n1_; have BK4 := n2_; have GE4 := n3_; have NB1_4 := n4_; have NB4_1 := n5_; clear n0_ n1_ n2_ n3_ n4_ n5_; clear hb hbox hg; have hz1_0 : w1.cell? ⟨g1, 0, none⟩ = some (.string a0_0) := (blk_cell BK1.out 0).trans rfl; have hy1_0 := blk_frozen BK1.out 0; have hz1_1 : w1.cell? ⟨g1, 1, none⟩ = some (.int .i64 a0_1) := (blk_cell BK1.out 1).trans rfl; have hy1_1 := blk_frozen BK1.out 1; have hz1_2 : w1.cell? ⟨g1, 2, none⟩ = some (.slice (some ad) l0_2.length c0_2) := (blk_cell BK1.out 2).trans rfl; have hy1_2 := blk_frozen BK1.out 2; have hz1_3 : w1.cell? ⟨g1, 3, none⟩ = some (.slice A0_3 l0_3.length c0_3) := (blk_cell BK1.out 3).trans rfl; have hy1_3 := blk_frozen BK1.out 3; have hz1_4 : w1.cell? ⟨g1, 4, none⟩ = some (.string a0_4) := (blk_cell BK1.out 4).trans rfl; have hy1_4 := blk_frozen BK1.out 4; have hz4_0 : w1.cell? ⟨g4, 0, none⟩ = some (.string (⟨#[]⟩ : ByteArray)) := (blk_cell BK4.out 0).trans rfl; have hy4_0 := blk_frozen BK4.out 0; have hz4_1 : w1.cell? ⟨g4, 1, none⟩ = some (.string (⟨#[]⟩ : ByteArray)) := (blk_cell BK4.out 1).trans rfl; have hy4_1 := blk_frozen BK4.out 1; have hz4_2 : w1.cell? ⟨g4, 2, none⟩ = some (.int .i64 0) := (blk_cell BK4.out 2).trans rfl; have hy4_2 := blk_frozen BK4.out 2; have hn1_4 := NB1_4.out; have hn4_1 := NB4_1.out) | (go_at_call 47; (with_reducible refine (impl_userOk.calls x.f0 true _ F1.out).mono ?_); rintro e w2 ⟨rfl, hb⟩; have n0_ := Aside0.mk (below_step z4_6 hb); have n1_ := Aside0.mk (blk_below (g := g1) (o := .cells #[.string a0_0, .int .i64 a0_1, .slice (some ad) l0_2.length c0_2, .slice A0_3 l0_3.length c0_3, .string a0_4] 62 (0, 0)) z4_1 hb); have n2_ := Aside0.mk (blk_below (g := g4) (o := .cells #[.string x.f0, .string x.f1, .int .i64 x.f2] 89 (0, 0)) z4_0 hb); (try clear HB); (try clear BK1); (try clear BK4); have HB := n0_; have BK1 := n1_; have BK4 := n2_; clear n0_ n1_ n2_; (try clear hb); (try clear hz1_0); (try clear hy1_0); (try clear hz1_1); (try clear hy1_1); (try clear hz1_2); (try clear hy1_2); (try clear hz1_3); (try clear hy1_3); (try clear hz1_4); (try clear hy1_4); (try clear hz4_0); (try clear hy4_0); (try clear hz4_1); (try clear hy4_1); (try clear hz4_2); (try clear hy4_2); (try clear hn1_4); (try clear hn4_1); have hz1_0 : w2.cell? ⟨g1, 0, none⟩ = some (.string a0_0) := (blk_cell BK1.out 0).trans rfl; have hy1_0 := blk_frozen BK1.out 0; have hz1_1 : w2.cell? ⟨g1, 1, none⟩ = some (.int .i64 a0_1) := (blk_cell BK1.out 1).trans rfl; have hy1_1 := blk_frozen BK1.out 1; have hz1_2 : w2.cell? ⟨g1, 2, none⟩ = some (.slice (some ad) l0_2.length c0_2) := (blk_cell BK1.out 2).trans rfl; have hy1_2 := blk_frozen BK1.out 2; have hz1_3 : w2.cell? ⟨g1, 3, none⟩ = some (.slice A0_3 l0_3.length c0_3) := (blk_cell BK1.out 3).trans rfl; have hy1_3 := blk_frozen BK1.out 3; have hz1_4 : w2.cell? ⟨g1, 4, none⟩ = some (.string a0_4) := (blk_cell BK1.out 4).trans rfl; have hy1_4 := blk_frozen BK1.out 4; have hz4_0 : w2.cell? ⟨g4, 0, none⟩ = some (.string x.f0) := (blk_cell BK4.out 0).trans rfl; have hy4_0 := blk_frozen BK4.out 0; have hz4_1 : w2.cell? ⟨g4, 1, none⟩ = some (.string x.f1) := (blk_cell BK4.out 1).trans rfl; have hy4_1 := blk_frozen BK4.out 1; have hz4_2 : w2.cell? ⟨g4, 2, none⟩ = some (.int .i64 x.f2) := (blk_cell BK4.out 2).trans rfl; have hy4_2 := blk_frozen BK4.out 2; have hn1_4 := NB1_4.out; have hn4_1 := NB4_1.out) | (go_at_call 49; (with_reducible refine (impl_nickOk.calls k x.f1 true _ F2.out (Tabs_below HT.out z4_6)).mono ?_); rintro e w3 ⟨rfl, hb⟩; have n0_ := Aside0.mk (below_step z4_6 hb); have n1_ := Aside0.mk (blk_below (g := g1) (o := .cells #[.string a0_0, .int .i64 a0_1, .slice (some ad) l0_2.length c0_2, .slice A0_3 l0_3.length c0_3, .string a0_4] 62 (0, 0)) z4_10 hb); have n2_ := Aside0.mk (blk_below (g := g4) (o := .cells #[.string x.f0, .string x.f1, .int .i64 x.f2] 89 (0, 0)) z4_11 hb); (try clear HB); (try clear BK1); (try clear BK4); have HB := n0_; have BK1 := n1_; have BK4 := n2_; clear n0_ n1_ n2_; (try clear hb); (try clear hz1_0); (try clear hy1_0); (try clear hz1_1); (try clear hy1_1); (try clear hz1_2); (try clear hy1_2); (try clear hz1_3); (try clear hy1_3); (try clear hz1_4); (try clear hy1_4); (try clear hz4_0); (try clear hy4_0); (try clear hz4_1); (try clear hy4_1); (try clear hz4_2); (try clear hy4_2); (try clear hn1_4); (try clear hn4_1); have hz1_0 : w3.cell? ⟨g1, 0, none⟩ = some (.string a0_0) := (blk_cell BK1.out 0).trans rfl; have hy1_0 := blk_frozen BK1.out 0; have hz1_1 : w3.cell? ⟨g1, 1, none⟩ = some (.int .i64 a0_1) := (blk_cell BK1.out 1).trans rfl; have hy1_1 := blk_frozen BK1.out 1; have hz1_2 : w3.cell? ⟨g1, 2, none⟩ = some (.slice (some ad) l0_2.length c0_2) := (blk_cell BK1.out 2).trans rfl; have hy1_2 := blk_frozen BK1.out 2; have hz1_3 : w3.cell? ⟨g1, 3, none⟩ = some (.slice A0_3 l0_3.length c0_3) := (blk_cell BK1.out 3).trans rfl; have hy1_3 := blk_frozen BK1.out 3; have hz1_4 : w3.cell? ⟨g1, 4, none⟩ = some (.string a0_4) := (blk_cell BK1.out 4).trans rfl; have hy1_4 := blk_frozen BK1.out 4; have hz4_0 : w3.cell? ⟨g4, 0, none⟩ = some (.string x.f0) := (blk_cell BK4.out 0).trans rfl; have hy4_0 := blk_frozen BK4.out 0; have hz4_1 : w3.cell? ⟨g4, 1, none⟩ = some (.string x.f1) := (blk_cell BK4.out 1).trans rfl; have hy4_1 := blk_frozen BK4.out 1; have hz4_2 : w3.cell? ⟨g4, 2, none⟩ = some (.int .i64 x.f2) := (blk_cell BK4.out 2).trans rfl; have hy4_2 := blk_frozen BK4.out 2; have hn1_4 := NB1_4.out; have hn4_1 := NB4_1.out) | (go_at_call 73; (with_reducible refine (impl_Room_member.calls a0_0 a0_1 (some ad) c0_2 l0_2 A0_3 c0_3 l0_3 a0_4 x.f0 (j : Int) _ z4_4 HC2.out z4_5 HC3.out F3.out).mono ?_); rintro e w4 ⟨rfl, hb⟩; have n0_ := Aside0.mk (below_step z4_6 hb); have n1_ := Aside0.mk (blk_below (g := g1) (o := .cells #[.string a0_0, .int .i64 a0_1, .slice (some ad) l0_2.length c0_2, .slice A0_3 l0_3.length c0_3, .string a0_4] 62 (0, 0)) z4_10 hb); have n2_ := Aside0.mk (blk_below (g := g4) (o := .cells #[.string x.f0, .string x.f1, .int .i64 x.f2] 89 (0, 0)) z4_11 hb); (try clear HB); (try clear BK1); (try clear BK4); have HB := n0_; have BK1 := n1_; have BK4 := n2_; clear n0_ n1_ n2_; (try clear hb); (try clear hz1_0); (try clear hy1_0); (try clear hz1_1); (try clear hy1_1); (try clear hz1_2); (try clear hy1_2); (try clear hz1_3); (try clear hy1_3); (try clear hz1_4); (try clear hy1_4); (try clear hz4_0); (try clear hy4_0); (try clear hz4_1); (try clear hy4_1); (try clear hz4_2); (try clear hy4_2); (try clear hn1_4); (try clear hn4_1); have hz1_0 : w4.cell? ⟨g1, 0, none⟩ = some (.string a0_0) := (blk_cell BK1.out 0).trans rfl; have hy1_0 := blk_frozen BK1.out 0; have hz1_1 : w4.cell? ⟨g1, 1, none⟩ = some (.int .i64 a0_1) := (blk_cell BK1.out 1).trans rfl; have hy1_1 := blk_frozen BK1.out 1; have hz1_2 : w4.cell? ⟨g1, 2, none⟩ = some (.slice (some ad) l0_2.length c0_2) := (blk_cell BK1.out 2).trans rfl; have hy1_2 := blk_frozen BK1.out 2; have hz1_3 : w4.cell? ⟨g1, 3, none⟩ = some (.slice A0_3 l0_3.length c0_3) := (blk_cell BK1.out 3).trans rfl; have hy1_3 := blk_frozen BK1.out 3; have hz1_4 : w4.cell? ⟨g1, 4, none⟩ = some (.string a0_4) := (blk_cell BK1.out 4).trans rfl; have hy1_4 := blk_frozen BK1.out 4; have hz4_0 : w4.cell? ⟨g4, 0, none⟩ = some (.string x.f0) := (blk_cell BK4.out 0).trans rfl; have hy4_0 := blk_frozen BK4.out 0; have hz4_1 : w4.cell? ⟨g4, 1, none⟩ = some (.string x.f1) := (blk_cell BK4.out 1).trans rfl; have hy4_1 := blk_frozen BK4.out 1; have hz4_2 : w4.cell? ⟨g4, 2, none⟩ = some (.int .i64 x.f2) := (blk_cell BK4.out 2).trans rfl; have hy4_2 := blk_frozen BK4.out 2; have hn1_4 := NB1_4.out; have hn4_1 := NB4_1.out) | (go_at_call 74; (with_reducible refine (impl_Room_nick.calls a0_0 a0_1 (some ad) c0_2 l0_2 A0_3 c0_3 l0_3 a0_4 x.f1 (j : Int) _ z4_4 HC2.out z4_5 HC3.out F4.out).mono ?_); rintro e w5 ⟨rfl, hb⟩; have n0_ := Aside0.mk (below_step z4_6 hb); have n1_ := Aside0.mk (blk_below (g := g1) (o := .cells #[.string a0_0, .int .i64 a0_1, .slice (some ad) l0_2.length c0_2, .slice A0_3 l0_3.length c0_3, .string a0_4] 62 (0, 0)) z4_10 hb); have n2_ := Aside0.mk (blk_below (g := g4) (o := .cells #[.string x.f0, .string x.f1, .int .i64 x.f2] 89 (0, 0)) z4_11 hb); (try clear HB); (try clear BK1); (try clear BK4); have HB := n0_; have BK1 := n1_; have BK4 := n2_; clear n0_ n1_ n2_; (try clear hb); (try clear hz1_0); (try clear hy1_0); (try clear hz1_1); (try clear hy1_1); (try clear hz1_2); (try clear hy1_2); (try clear hz1_3); (try clear hy1_3); (try clear hz1_4); (try clear hy1_4); (try clear hz4_0); (try clear hy4_0); (try clear hz4_1); (try clear hy4_1); (try clear hz4_2); (try clear hy4_2); (try clear hn1_4); (try clear hn4_1); have hz1_0 : w5.cell? ⟨g1, 0, none⟩ = some (.string a0_0) := (blk_cell BK1.out 0).trans rfl; have hy1_0 := blk_frozen BK1.out 0; have hz1_1 : w5.cell? ⟨g1, 1, none⟩ = some (.int .i64 a0_1) := (blk_cell BK1.out 1).trans rfl; have hy1_1 := blk_frozen BK1.out 1; have hz1_2 : w5.cell? ⟨g1, 2, none⟩ = some (.slice (some ad) l0_2.length c0_2) := (blk_cell BK1.out 2).trans rfl; have hy1_2 := blk_frozen BK1.out 2; have hz1_3 : w5.cell? ⟨g1, 3, none⟩ = some (.slice A0_3 l0_3.length c0_3) := (blk_cell BK1.out 3).trans rfl; have hy1_3 := blk_frozen BK1.out 3; have hz1_4 : w5.cell? ⟨g1, 4, none⟩ = some (.string a0_4) := (blk_cell BK1.out 4).trans rfl; have hy1_4 := blk_frozen BK1.out 4; have hz4_0 : w5.cell? ⟨g4, 0, none⟩ = some (.string x.f0) := (blk_cell BK4.out 0).trans rfl; have hy4_0 := blk_frozen BK4.out 0; have hz4_1 : w5.cell? ⟨g4, 1, none⟩ = some (.string x.f1) := (blk_cell BK4.out 1).trans rfl; have hy4_1 := blk_frozen BK4.out 1; have hz4_2 : w5.cell? ⟨g4, 2, none⟩ = some (.int .i64 x.f2) := (blk_cell BK4.out 2).trans rfl; have hy4_2 := blk_frozen BK4.out 2; have hn1_4 := NB1_4.out; have hn4_1 := NB4_1.out) | (go_at_call 65; (with_reducible refine (impl_within.calls x.f2 1 3 false _ F5.out).mono ?_); rintro e w6 ⟨rfl, hd_⟩; have n0_ := Aside0.mk (below_step z4_6 hd_.below); have n1_ := Aside0.mk (blk_below (g := g1) (o := .cells #[.string a0_0, .int .i64 a0_1, .slice (some ad) l0_2.length c0_2, .slice A0_3 l0_3.length c0_3, .string a0_4] 62 (0, 0)) z4_10 hd_.below); have n2_ := Aside0.mk (blk_below (g := g4) (o := .cells #[.string x.f0, .string x.f1, .int .i64 x.f2] 89 (0, 0)) z4_11 hd_.below); (try clear HB); (try clear BK1); (try clear BK4); have HB := n0_; have BK1 := n1_; have BK4 := n2_; clear n0_ n1_ n2_; (try clear hd_); (try clear hz1_0); (try clear hy1_0); (try clear hz1_1); (try clear hy1_1); (try clear hz1_2); (try clear hy1_2); (try clear hz1_3); (try clear hy1_3); (try clear hz1_4); (try clear hy1_4); (try clear hz4_0); (try clear hy4_0); (try clear hz4_1); (try clear hy4_1); (try clear hz4_2); (try clear hy4_2); (try clear hn1_4); (try clear hn4_1); have hz1_0 : w6.cell? ⟨g1, 0, none⟩ = some (.string a0_0) := (blk_cell BK1.out 0).trans rfl; have hy1_0 := blk_frozen BK1.out 0; have hz1_1 : w6.cell? ⟨g1, 1, none⟩ = some (.int .i64 a0_1) := (blk_cell BK1.out 1).trans rfl; have hy1_1 := blk_frozen BK1.out 1; have hz1_2 : w6.cell? ⟨g1, 2, none⟩ = some (.slice (some ad) l0_2.length c0_2) := (blk_cell BK1.out 2).trans rfl; have hy1_2 := blk_frozen BK1.out 2; have hz1_3 : w6.cell? ⟨g1, 3, none⟩ = some (.slice A0_3 l0_3.length c0_3) := (blk_cell BK1.out 3).trans rfl; have hy1_3 := blk_frozen BK1.out 3; have hz1_4 : w6.cell? ⟨g1, 4, none⟩ = some (.string a0_4) := (blk_cell BK1.out 4).trans rfl; have hy1_4 := blk_frozen BK1.out 4; have hz4_0 : w6.cell? ⟨g4, 0, none⟩ = some (.string x.f0) := (blk_cell BK4.out 0).trans rfl; have hy4_0 := blk_frozen BK4.out 0; have hz4_1 : w6.cell? ⟨g4, 1, none⟩ = some (.string x.f1) := (blk_cell BK4.out 1).trans rfl; have hy4_1 := blk_frozen BK4.out 1; have hz4_2 : w6.cell? ⟨g4, 2, none⟩ = some (.int .i64 x.f2) := (blk_cell BK4.out 2).trans rfl; have hy4_2 := blk_frozen BK4.out 2; have hn1_4 := NB1_4.out; have hn4_1 := NB4_1.out))
        go_ret
        exact ⟨by rw [← H.out, FM.out]; rfl, z4_6⟩
      | true =>
      by_cases erk : rk = 0
      case pos =>
        subst erk
        go_wp2_with (first | ((with_reducible refine gate_dst (N := 4) rfl ?_); refine box_event ?hg (N := 4) ?hd (cs := #[.string (⟨#[]⟩ : ByteArray), .string (⟨#[]⟩ : ByteArray), .int .i64 0]) (t := 89) ?hr ?_; (case hd => rfl); (case hg => rfl); (case hr => first | (go_simp; done) | (go_simp; rfl)); intro g4 hg w1 hbox hb; have n0_ := Aside0.mk (below_step z4_8 hb); have n1_ := Aside0.mk (blk_below (g := g1) (o := .cells #[.string a0_0, .int .i64 a0_1, .slice (some ad) l0_2.length c0_2, .slice A0_3 l0_3.length c0_3, .string a0_4] 62 (0, 0)) z4_10 hb); have n2_ := Aside0.mk (hbox); have n3_ := Aside0.mk ((by rw [hg]; exact (below_size z4_8) : w.heap.size ≤ g4)); have n4_ := Aside0.mk ((by rw [hg]; exact Nat.ne_of_lt (blk_lt (g := g1) (o := .cells #[.string a0_0, .int .i64 a0_1, .slice (some ad) l0_2.length c0_2, .slice A0_3 l0_3.length c0_3, .string a0_4] 62 (0, 0)) z4_10) : g1 ≠ g4)); have n5_ := Aside0.mk ((by rw [hg]; exact Nat.ne_of_gt (blk_lt (g := g1) (o := .cells #[.string a0_0, .int .i64 a0_1, .slice (some ad) l0_2.length c0_2, .slice A0_3 l0_3.length c0_3, .string a0_4] 62 (0, 0)) z4_10) : g4 ≠ g1)); (try clear HB); (try clear BK1); (try clear BK4); (try clear GE4); (try clear NB1_4); (try clear NB4_1); have HB := n0_; have BK1 := n1_; have BK4 := n2_; have GE4 := n3_; have NB1_4 := n4_; have NB4_1 := n5_; clear n0_ n1_ n2_ n3_ n4_ n5_; clear hb hbox hg; have hz1_0 : w1.cell? ⟨g1, 0, none⟩ = some (.string a0_0) := (blk_cell BK1.out 0).trans rfl; have hy1_0 := blk_frozen BK1.out 0; have hz1_1 : w1.cell? ⟨g1, 1, none⟩ = some (.int .i64 a0_1) := (blk_cell BK1.out 1).trans rfl; have hy1_1 := blk_frozen BK1.out 1; have hz1_2 : w1.cell? ⟨g1, 2, none⟩ = some (.slice (some ad) l0_2.length c0_2) := (blk_cell BK1.out 2).trans rfl; have hy1_2 := blk_frozen BK1.out 2; have hz1_3 : w1.cell? ⟨g1, 3, none⟩ = some (.slice A0_3 l0_3.length c0_3) := (blk_cell BK1.out 3).trans rfl; have hy1_3 := blk_frozen BK1.out 3; have hz1_4 : w1.cell? ⟨g1, 4, none⟩ = some (.string a0_4) := (blk_cell BK1.out 4).trans rfl; have hy1_4 := blk_frozen BK1.out 4; have hz4_0 : w1.cell? ⟨g4, 0, none⟩ = some (.string (⟨#[]⟩ : ByteArray)) := (blk_cell BK4.out 0).trans rfl; have hy4_0 := blk_frozen BK4.out 0; have hz4_1 : w1.cell? ⟨g4, 1, none⟩ = some (.string (⟨#[]⟩ : ByteArray)) := (blk_cell BK4.out 1).trans rfl; have hy4_1 := blk_frozen BK4.out 1; have hz4_2 : w1.cell? ⟨g4, 2, none⟩ = some (.int .i64 0) := (blk_cell BK4.out 2).trans rfl; have hy4_2 := blk_frozen BK4.out 2; have hn1_4 := NB1_4.out; have hn4_1 := NB4_1.out) | (go_at_call 47; (with_reducible refine (impl_userOk.calls x.f0 true _ F1.out).mono ?_); rintro e w2 ⟨rfl, hb⟩; have n0_ := Aside0.mk (below_step z4_6 hb); have n1_ := Aside0.mk (blk_below (g := g1) (o := .cells #[.string a0_0, .int .i64 a0_1, .slice (some ad) l0_2.length c0_2, .slice A0_3 l0_3.length c0_3, .string a0_4] 62 (0, 0)) z4_1 hb); have n2_ := Aside0.mk (blk_below (g := g4) (o := .cells #[.string x.f0, .string x.f1, .int .i64 x.f2] 89 (0, 0)) z4_0 hb); (try clear HB); (try clear BK1); (try clear BK4); have HB := n0_; have BK1 := n1_; have BK4 := n2_; clear n0_ n1_ n2_; (try clear hb); (try clear hz1_0); (try clear hy1_0); (try clear hz1_1); (try clear hy1_1); (try clear hz1_2); (try clear hy1_2); (try clear hz1_3); (try clear hy1_3); (try clear hz1_4); (try clear hy1_4); (try clear hz4_0); (try clear hy4_0); (try clear hz4_1); (try clear hy4_1); (try clear hz4_2); (try clear hy4_2); (try clear hn1_4); (try clear hn4_1); have hz1_0 : w2.cell? ⟨g1, 0, none⟩ = some (.string a0_0) := (blk_cell BK1.out 0).trans rfl; have hy1_0 := blk_frozen BK1.out 0; have hz1_1 : w2.cell? ⟨g1, 1, none⟩ = some (.int .i64 a0_1) := (blk_cell BK1.out 1).trans rfl; have hy1_1 := blk_frozen BK1.out 1; have hz1_2 : w2.cell? ⟨g1, 2, none⟩ = some (.slice (some ad) l0_2.length c0_2) := (blk_cell BK1.out 2).trans rfl; have hy1_2 := blk_frozen BK1.out 2; have hz1_3 : w2.cell? ⟨g1, 3, none⟩ = some (.slice A0_3 l0_3.length c0_3) := (blk_cell BK1.out 3).trans rfl; have hy1_3 := blk_frozen BK1.out 3; have hz1_4 : w2.cell? ⟨g1, 4, none⟩ = some (.string a0_4) := (blk_cell BK1.out 4).trans rfl; have hy1_4 := blk_frozen BK1.out 4; have hz4_0 : w2.cell? ⟨g4, 0, none⟩ = some (.string x.f0) := (blk_cell BK4.out 0).trans rfl; have hy4_0 := blk_frozen BK4.out 0; have hz4_1 : w2.cell? ⟨g4, 1, none⟩ = some (.string x.f1) := (blk_cell BK4.out 1).trans rfl; have hy4_1 := blk_frozen BK4.out 1; have hz4_2 : w2.cell? ⟨g4, 2, none⟩ = some (.int .i64 x.f2) := (blk_cell BK4.out 2).trans rfl; have hy4_2 := blk_frozen BK4.out 2; have hn1_4 := NB1_4.out; have hn4_1 := NB4_1.out) | (go_at_call 49; (with_reducible refine (impl_nickOk.calls k x.f1 true _ F2.out (Tabs_below HT.out z4_6)).mono ?_); rintro e w3 ⟨rfl, hb⟩; have n0_ := Aside0.mk (below_step z4_6 hb); have n1_ := Aside0.mk (blk_below (g := g1) (o := .cells #[.string a0_0, .int .i64 a0_1, .slice (some ad) l0_2.length c0_2, .slice A0_3 l0_3.length c0_3, .string a0_4] 62 (0, 0)) z4_10 hb); have n2_ := Aside0.mk (blk_below (g := g4) (o := .cells #[.string x.f0, .string x.f1, .int .i64 x.f2] 89 (0, 0)) z4_11 hb); (try clear HB); (try clear BK1); (try clear BK4); have HB := n0_; have BK1 := n1_; have BK4 := n2_; clear n0_ n1_ n2_; (try clear hb); (try clear hz1_0); (try clear hy1_0); (try clear hz1_1); (try clear hy1_1); (try clear hz1_2); (try clear hy1_2); (try clear hz1_3); (try clear hy1_3); (try clear hz1_4); (try clear hy1_4); (try clear hz4_0); (try clear hy4_0); (try clear hz4_1); (try clear hy4_1); (try clear hz4_2); (try clear hy4_2); (try clear hn1_4); (try clear hn4_1); have hz1_0 : w3.cell? ⟨g1, 0, none⟩ = some (.string a0_0) := (blk_cell BK1.out 0).trans rfl; have hy1_0 := blk_frozen BK1.out 0; have hz1_1 : w3.cell? ⟨g1, 1, none⟩ = some (.int .i64 a0_1) := (blk_cell BK1.out 1).trans rfl; have hy1_1 := blk_frozen BK1.out 1; have hz1_2 : w3.cell? ⟨g1, 2, none⟩ = some (.slice (some ad) l0_2.length c0_2) := (blk_cell BK1.out 2).trans rfl; have hy1_2 := blk_frozen BK1.out 2; have hz1_3 : w3.cell? ⟨g1, 3, none⟩ = some (.slice A0_3 l0_3.length c0_3) := (blk_cell BK1.out 3).trans rfl; have hy1_3 := blk_frozen BK1.out 3; have hz1_4 : w3.cell? ⟨g1, 4, none⟩ = some (.string a0_4) := (blk_cell BK1.out 4).trans rfl; have hy1_4 := blk_frozen BK1.out 4; have hz4_0 : w3.cell? ⟨g4, 0, none⟩ = some (.string x.f0) := (blk_cell BK4.out 0).trans rfl; have hy4_0 := blk_frozen BK4.out 0; have hz4_1 : w3.cell? ⟨g4, 1, none⟩ = some (.string x.f1) := (blk_cell BK4.out 1).trans rfl; have hy4_1 := blk_frozen BK4.out 1; have hz4_2 : w3.cell? ⟨g4, 2, none⟩ = some (.int .i64 x.f2) := (blk_cell BK4.out 2).trans rfl; have hy4_2 := blk_frozen BK4.out 2; have hn1_4 := NB1_4.out; have hn4_1 := NB4_1.out) | (go_at_call 73; (with_reducible refine (impl_Room_member.calls a0_0 a0_1 (some ad) c0_2 l0_2 A0_3 c0_3 l0_3 a0_4 x.f0 (j : Int) _ z4_4 HC2.out z4_5 HC3.out F3.out).mono ?_); rintro e w4 ⟨rfl, hb⟩; have n0_ := Aside0.mk (below_step z4_6 hb); have n1_ := Aside0.mk (blk_below (g := g1) (o := .cells #[.string a0_0, .int .i64 a0_1, .slice (some ad) l0_2.length c0_2, .slice A0_3 l0_3.length c0_3, .string a0_4] 62 (0, 0)) z4_10 hb); have n2_ := Aside0.mk (blk_below (g := g4) (o := .cells #[.string x.f0, .string x.f1, .int .i64 x.f2] 89 (0, 0)) z4_11 hb); (try clear HB); (try clear BK1); (try clear BK4); have HB := n0_; have BK1 := n1_; have BK4 := n2_; clear n0_ n1_ n2_; (try clear hb); (try clear hz1_0); (try clear hy1_0); (try clear hz1_1); (try clear hy1_1); (try clear hz1_2); (try clear hy1_2); (try clear hz1_3); (try clear hy1_3); (try clear hz1_4); (try clear hy1_4); (try clear hz4_0); (try clear hy4_0); (try clear hz4_1); (try clear hy4_1); (try clear hz4_2); (try clear hy4_2); (try clear hn1_4); (try clear hn4_1); have hz1_0 : w4.cell? ⟨g1, 0, none⟩ = some (.string a0_0) := (blk_cell BK1.out 0).trans rfl; have hy1_0 := blk_frozen BK1.out 0; have hz1_1 : w4.cell? ⟨g1, 1, none⟩ = some (.int .i64 a0_1) := (blk_cell BK1.out 1).trans rfl; have hy1_1 := blk_frozen BK1.out 1; have hz1_2 : w4.cell? ⟨g1, 2, none⟩ = some (.slice (some ad) l0_2.length c0_2) := (blk_cell BK1.out 2).trans rfl; have hy1_2 := blk_frozen BK1.out 2; have hz1_3 : w4.cell? ⟨g1, 3, none⟩ = some (.slice A0_3 l0_3.length c0_3) := (blk_cell BK1.out 3).trans rfl; have hy1_3 := blk_frozen BK1.out 3; have hz1_4 : w4.cell? ⟨g1, 4, none⟩ = some (.string a0_4) := (blk_cell BK1.out 4).trans rfl; have hy1_4 := blk_frozen BK1.out 4; have hz4_0 : w4.cell? ⟨g4, 0, none⟩ = some (.string x.f0) := (blk_cell BK4.out 0).trans rfl; have hy4_0 := blk_frozen BK4.out 0; have hz4_1 : w4.cell? ⟨g4, 1, none⟩ = some (.string x.f1) := (blk_cell BK4.out 1).trans rfl; have hy4_1 := blk_frozen BK4.out 1; have hz4_2 : w4.cell? ⟨g4, 2, none⟩ = some (.int .i64 x.f2) := (blk_cell BK4.out 2).trans rfl; have hy4_2 := blk_frozen BK4.out 2; have hn1_4 := NB1_4.out; have hn4_1 := NB4_1.out) | (go_at_call 74; (with_reducible refine (impl_Room_nick.calls a0_0 a0_1 (some ad) c0_2 l0_2 A0_3 c0_3 l0_3 a0_4 x.f1 (j : Int) _ z4_4 HC2.out z4_5 HC3.out F4.out).mono ?_); rintro e w5 ⟨rfl, hb⟩; have n0_ := Aside0.mk (below_step z4_6 hb); have n1_ := Aside0.mk (blk_below (g := g1) (o := .cells #[.string a0_0, .int .i64 a0_1, .slice (some ad) l0_2.length c0_2, .slice A0_3 l0_3.length c0_3, .string a0_4] 62 (0, 0)) z4_10 hb); have n2_ := Aside0.mk (blk_below (g := g4) (o := .cells #[.string x.f0, .string x.f1, .int .i64 x.f2] 89 (0, 0)) z4_11 hb); (try clear HB); (try clear BK1); (try clear BK4); have HB := n0_; have BK1 := n1_; have BK4 := n2_; clear n0_ n1_ n2_; (try clear hb); (try clear hz1_0); (try clear hy1_0); (try clear hz1_1); (try clear hy1_1); (try clear hz1_2); (try clear hy1_2); (try clear hz1_3); (try clear hy1_3); (try clear hz1_4); (try clear hy1_4); (try clear hz4_0); (try clear hy4_0); (try clear hz4_1); (try clear hy4_1); (try clear hz4_2); (try clear hy4_2); (try clear hn1_4); (try clear hn4_1); have hz1_0 : w5.cell? ⟨g1, 0, none⟩ = some (.string a0_0) := (blk_cell BK1.out 0).trans rfl; have hy1_0 := blk_frozen BK1.out 0; have hz1_1 : w5.cell? ⟨g1, 1, none⟩ = some (.int .i64 a0_1) := (blk_cell BK1.out 1).trans rfl; have hy1_1 := blk_frozen BK1.out 1; have hz1_2 : w5.cell? ⟨g1, 2, none⟩ = some (.slice (some ad) l0_2.length c0_2) := (blk_cell BK1.out 2).trans rfl; have hy1_2 := blk_frozen BK1.out 2; have hz1_3 : w5.cell? ⟨g1, 3, none⟩ = some (.slice A0_3 l0_3.length c0_3) := (blk_cell BK1.out 3).trans rfl; have hy1_3 := blk_frozen BK1.out 3; have hz1_4 : w5.cell? ⟨g1, 4, none⟩ = some (.string a0_4) := (blk_cell BK1.out 4).trans rfl; have hy1_4 := blk_frozen BK1.out 4; have hz4_0 : w5.cell? ⟨g4, 0, none⟩ = some (.string x.f0) := (blk_cell BK4.out 0).trans rfl; have hy4_0 := blk_frozen BK4.out 0; have hz4_1 : w5.cell? ⟨g4, 1, none⟩ = some (.string x.f1) := (blk_cell BK4.out 1).trans rfl; have hy4_1 := blk_frozen BK4.out 1; have hz4_2 : w5.cell? ⟨g4, 2, none⟩ = some (.int .i64 x.f2) := (blk_cell BK4.out 2).trans rfl; have hy4_2 := blk_frozen BK4.out 2; have hn1_4 := NB1_4.out; have hn4_1 := NB4_1.out) | (go_at_call 65; (with_reducible refine (impl_within.calls x.f2 1 3 true _ F5.out).mono ?_); rintro e w6 ⟨rfl, hd_⟩; have n0_ := Aside0.mk (below_step z4_6 hd_.below); have n1_ := Aside0.mk (blk_below (g := g1) (o := .cells #[.string a0_0, .int .i64 a0_1, .slice (some ad) l0_2.length c0_2, .slice A0_3 l0_3.length c0_3, .string a0_4] 62 (0, 0)) z4_10 hd_.below); have n2_ := Aside0.mk (blk_below (g := g4) (o := .cells #[.string x.f0, .string x.f1, .int .i64 x.f2] 89 (0, 0)) z4_11 hd_.below); (try clear HB); (try clear BK1); (try clear BK4); have HB := n0_; have BK1 := n1_; have BK4 := n2_; clear n0_ n1_ n2_; (try clear hd_); (try clear hz1_0); (try clear hy1_0); (try clear hz1_1); (try clear hy1_1); (try clear hz1_2); (try clear hy1_2); (try clear hz1_3); (try clear hy1_3); (try clear hz1_4); (try clear hy1_4); (try clear hz4_0); (try clear hy4_0); (try clear hz4_1); (try clear hy4_1); (try clear hz4_2); (try clear hy4_2); (try clear hn1_4); (try clear hn4_1); have hz1_0 : w6.cell? ⟨g1, 0, none⟩ = some (.string a0_0) := (blk_cell BK1.out 0).trans rfl; have hy1_0 := blk_frozen BK1.out 0; have hz1_1 : w6.cell? ⟨g1, 1, none⟩ = some (.int .i64 a0_1) := (blk_cell BK1.out 1).trans rfl; have hy1_1 := blk_frozen BK1.out 1; have hz1_2 : w6.cell? ⟨g1, 2, none⟩ = some (.slice (some ad) l0_2.length c0_2) := (blk_cell BK1.out 2).trans rfl; have hy1_2 := blk_frozen BK1.out 2; have hz1_3 : w6.cell? ⟨g1, 3, none⟩ = some (.slice A0_3 l0_3.length c0_3) := (blk_cell BK1.out 3).trans rfl; have hy1_3 := blk_frozen BK1.out 3; have hz1_4 : w6.cell? ⟨g1, 4, none⟩ = some (.string a0_4) := (blk_cell BK1.out 4).trans rfl; have hy1_4 := blk_frozen BK1.out 4; have hz4_0 : w6.cell? ⟨g4, 0, none⟩ = some (.string x.f0) := (blk_cell BK4.out 0).trans rfl; have hy4_0 := blk_frozen BK4.out 0; have hz4_1 : w6.cell? ⟨g4, 1, none⟩ = some (.string x.f1) := (blk_cell BK4.out 1).trans rfl; have hy4_1 := blk_frozen BK4.out 1; have hz4_2 : w6.cell? ⟨g4, 2, none⟩ = some (.int .i64 x.f2) := (blk_cell BK4.out 2).trans rfl; have hy4_2 := blk_frozen BK4.out 2; have hn1_4 := NB1_4.out; have hn4_1 := NB4_1.out) | (go_at_call 75; (with_reducible refine (impl_Room_rank.calls k a0_0 a0_1 (some ad) c0_2 l0_2 A0_3 c0_3 l0_3 a0_4 x.f0 0 _ z4_4 HC2.out z4_5 HC3.out F6.out).mono ?_); rintro e w7 ⟨rfl, hb⟩; have n0_ := Aside0.mk (below_step z4_6 hb); have n1_ := Aside0.mk (blk_below (g := g1) (o := .cells #[.string a0_0, .int .i64 a0_1, .slice (some ad) l0_2.length c0_2, .slice A0_3 l0_3.length c0_3, .string a0_4] 62 (0, 0)) z4_10 hb); have n2_ := Aside0.mk (blk_below (g := g4) (o := .cells #[.string x.f0, .string x.f1, .int .i64 x.f2] 89 (0, 0)) z4_11 hb); (try clear HB); (try clear BK1); (try clear BK4); have HB := n0_; have BK1 := n1_; have BK4 := n2_; clear n0_ n1_ n2_; (try clear hb); (try clear hz1_0); (try clear hy1_0); (try clear hz1_1); (try clear hy1_1); (try clear hz1_2); (try clear hy1_2); (try clear hz1_3); (try clear hy1_3); (try clear hz1_4); (try clear hy1_4); (try clear hz4_0); (try clear hy4_0); (try clear hz4_1); (try clear hy4_1); (try clear hz4_2); (try clear hy4_2); (try clear hn1_4); (try clear hn4_1); have hz1_0 : w7.cell? ⟨g1, 0, none⟩ = some (.string a0_0) := (blk_cell BK1.out 0).trans rfl; have hy1_0 := blk_frozen BK1.out 0; have hz1_1 : w7.cell? ⟨g1, 1, none⟩ = some (.int .i64 a0_1) := (blk_cell BK1.out 1).trans rfl; have hy1_1 := blk_frozen BK1.out 1; have hz1_2 : w7.cell? ⟨g1, 2, none⟩ = some (.slice (some ad) l0_2.length c0_2) := (blk_cell BK1.out 2).trans rfl; have hy1_2 := blk_frozen BK1.out 2; have hz1_3 : w7.cell? ⟨g1, 3, none⟩ = some (.slice A0_3 l0_3.length c0_3) := (blk_cell BK1.out 3).trans rfl; have hy1_3 := blk_frozen BK1.out 3; have hz1_4 : w7.cell? ⟨g1, 4, none⟩ = some (.string a0_4) := (blk_cell BK1.out 4).trans rfl; have hy1_4 := blk_frozen BK1.out 4; have hz4_0 : w7.cell? ⟨g4, 0, none⟩ = some (.string x.f0) := (blk_cell BK4.out 0).trans rfl; have hy4_0 := blk_frozen BK4.out 0; have hz4_1 : w7.cell? ⟨g4, 1, none⟩ = some (.string x.f1) := (blk_cell BK4.out 1).trans rfl; have hy4_1 := blk_frozen BK4.out 1; have hz4_2 : w7.cell? ⟨g4, 2, none⟩ = some (.int .i64 x.f2) := (blk_cell BK4.out 2).trans rfl; have hy4_2 := blk_frozen BK4.out 2; have hn1_4 := NB1_4.out; have hn4_1 := NB4_1.out))
        go_ret
        exact ⟨by rw [← H.out, FM.out]; rfl, z4_6⟩
      have brk : (rk == 0) = false := beq_eq_false_iff_ne.mpr erk
      have FM' : Aside0 (m = b) := ⟨by rw [FM.out, brk]; rfl⟩
      clear FM
      go_wp2_with (first | ((with_reducible refine gate_dst (N := 4) rfl ?_); refine box_event ?hg (N := 4) ?hd (cs := #[.string (⟨#[]⟩ : ByteArray), .string (⟨#[]⟩ : ByteArray), .int .i64 0]) (t := 89) ?hr ?_; (case hd => rfl); (case hg => rfl); (case hr => first | (go_simp; done) | (go_simp; rfl)); intro g4 hg w1 hbox hb; have n0_ := Aside0.mk (below_step z4_8 hb); have n1_ := Aside0.mk (blk_below (g := g1) (o := .cells #[.string a0_0, .int .i64 a0_1, .slice (some ad) l0_2.length c0_2, .slice A0_3 l0_3.length c0_3, .string a0_4] 62 (0, 0)) z4_10 hb); have n2_ := Aside0.mk (hbox); have n3_ := Aside0.mk ((by rw [hg]; exact (below_size z4_8) : w.heap.size ≤ g4)); have n4_ := Aside0.mk ((by rw [hg]; exact Nat.ne_of_lt (blk_lt (g := g1) (o := .cells #[.string a0_0, .int .i64 a0_1, .slice (some ad) l0_2.length c0_2, .slice A0_3 l0_3.length c0_3, .string a0_4] 62 (0, 0)) z4_10) : g1 ≠ g4)); have n5_ := Aside0.mk ((by rw [hg]; exact Nat.ne_of_gt (blk_lt (g := g1) (o := .cells #[.string a0_0, .int .i64 a0_1, .slice (some ad) l0_2.length c0_2, .slice A0_3 l0_3.length c0_3, .string a0_4] 62 (0, 0)) z4_10) : g4 ≠ g1)); (try clear HB); (try clear BK1); (try clear BK4); (try clear GE4); (try clear NB1_4); (try clear NB4_1); have HB := n0_; have BK1 := n1_; have BK4 := n2_; have GE4 := n3_; have NB1_4 := n4_; have NB4_1 := n5_; clear n0_ n1_ n2_ n3_ n4_ n5_; clear hb hbox hg; have hz1_0 : w1.cell? ⟨g1, 0, none⟩ = some (.string a0_0) := (blk_cell BK1.out 0).trans rfl; have hy1_0 := blk_frozen BK1.out 0; have hz1_1 : w1.cell? ⟨g1, 1, none⟩ = some (.int .i64 a0_1) := (blk_cell BK1.out 1).trans rfl; have hy1_1 := blk_frozen BK1.out 1; have hz1_2 : w1.cell? ⟨g1, 2, none⟩ = some (.slice (some ad) l0_2.length c0_2) := (blk_cell BK1.out 2).trans rfl; have hy1_2 := blk_frozen BK1.out 2; have hz1_3 : w1.cell? ⟨g1, 3, none⟩ = some (.slice A0_3 l0_3.length c0_3) := (blk_cell BK1.out 3).trans rfl; have hy1_3 := blk_frozen BK1.out 3; have hz1_4 : w1.cell? ⟨g1, 4, none⟩ = some (.string a0_4) := (blk_cell BK1.out 4).trans rfl; have hy1_4 := blk_frozen BK1.out 4; have hz4_0 : w1.cell? ⟨g4, 0, none⟩ = some (.string (⟨#[]⟩ : ByteArray)) := (blk_cell BK4.out 0).trans rfl; have hy4_0 := blk_frozen BK4.out 0; have hz4_1 : w1.cell? ⟨g4, 1, none⟩ = some (.string (⟨#[]⟩ : ByteArray)) := (blk_cell BK4.out 1).trans rfl; have hy4_1 := blk_frozen BK4.out 1; have hz4_2 : w1.cell? ⟨g4, 2, none⟩ = some (.int .i64 0) := (blk_cell BK4.out 2).trans rfl; have hy4_2 := blk_frozen BK4.out 2; have hn1_4 := NB1_4.out; have hn4_1 := NB4_1.out) | (go_at_call 47; (with_reducible refine (impl_userOk.calls x.f0 true _ F1.out).mono ?_); rintro e w2 ⟨rfl, hb⟩; have n0_ := Aside0.mk (below_step z4_6 hb); have n1_ := Aside0.mk (blk_below (g := g1) (o := .cells #[.string a0_0, .int .i64 a0_1, .slice (some ad) l0_2.length c0_2, .slice A0_3 l0_3.length c0_3, .string a0_4] 62 (0, 0)) z4_1 hb); have n2_ := Aside0.mk (blk_below (g := g4) (o := .cells #[.string x.f0, .string x.f1, .int .i64 x.f2] 89 (0, 0)) z4_0 hb); (try clear HB); (try clear BK1); (try clear BK4); have HB := n0_; have BK1 := n1_; have BK4 := n2_; clear n0_ n1_ n2_; (try clear hb); (try clear hz1_0); (try clear hy1_0); (try clear hz1_1); (try clear hy1_1); (try clear hz1_2); (try clear hy1_2); (try clear hz1_3); (try clear hy1_3); (try clear hz1_4); (try clear hy1_4); (try clear hz4_0); (try clear hy4_0); (try clear hz4_1); (try clear hy4_1); (try clear hz4_2); (try clear hy4_2); (try clear hn1_4); (try clear hn4_1); have hz1_0 : w2.cell? ⟨g1, 0, none⟩ = some (.string a0_0) := (blk_cell BK1.out 0).trans rfl; have hy1_0 := blk_frozen BK1.out 0; have hz1_1 : w2.cell? ⟨g1, 1, none⟩ = some (.int .i64 a0_1) := (blk_cell BK1.out 1).trans rfl; have hy1_1 := blk_frozen BK1.out 1; have hz1_2 : w2.cell? ⟨g1, 2, none⟩ = some (.slice (some ad) l0_2.length c0_2) := (blk_cell BK1.out 2).trans rfl; have hy1_2 := blk_frozen BK1.out 2; have hz1_3 : w2.cell? ⟨g1, 3, none⟩ = some (.slice A0_3 l0_3.length c0_3) := (blk_cell BK1.out 3).trans rfl; have hy1_3 := blk_frozen BK1.out 3; have hz1_4 : w2.cell? ⟨g1, 4, none⟩ = some (.string a0_4) := (blk_cell BK1.out 4).trans rfl; have hy1_4 := blk_frozen BK1.out 4; have hz4_0 : w2.cell? ⟨g4, 0, none⟩ = some (.string x.f0) := (blk_cell BK4.out 0).trans rfl; have hy4_0 := blk_frozen BK4.out 0; have hz4_1 : w2.cell? ⟨g4, 1, none⟩ = some (.string x.f1) := (blk_cell BK4.out 1).trans rfl; have hy4_1 := blk_frozen BK4.out 1; have hz4_2 : w2.cell? ⟨g4, 2, none⟩ = some (.int .i64 x.f2) := (blk_cell BK4.out 2).trans rfl; have hy4_2 := blk_frozen BK4.out 2; have hn1_4 := NB1_4.out; have hn4_1 := NB4_1.out) | (go_at_call 49; (with_reducible refine (impl_nickOk.calls k x.f1 true _ F2.out (Tabs_below HT.out z4_6)).mono ?_); rintro e w3 ⟨rfl, hb⟩; have n0_ := Aside0.mk (below_step z4_6 hb); have n1_ := Aside0.mk (blk_below (g := g1) (o := .cells #[.string a0_0, .int .i64 a0_1, .slice (some ad) l0_2.length c0_2, .slice A0_3 l0_3.length c0_3, .string a0_4] 62 (0, 0)) z4_10 hb); have n2_ := Aside0.mk (blk_below (g := g4) (o := .cells #[.string x.f0, .string x.f1, .int .i64 x.f2] 89 (0, 0)) z4_11 hb); (try clear HB); (try clear BK1); (try clear BK4); have HB := n0_; have BK1 := n1_; have BK4 := n2_; clear n0_ n1_ n2_; (try clear hb); (try clear hz1_0); (try clear hy1_0); (try clear hz1_1); (try clear hy1_1); (try clear hz1_2); (try clear hy1_2); (try clear hz1_3); (try clear hy1_3); (try clear hz1_4); (try clear hy1_4); (try clear hz4_0); (try clear hy4_0); (try clear hz4_1); (try clear hy4_1); (try clear hz4_2); (try clear hy4_2); (try clear hn1_4); (try clear hn4_1); have hz1_0 : w3.cell? ⟨g1, 0, none⟩ = some (.string a0_0) := (blk_cell BK1.out 0).trans rfl; have hy1_0 := blk_frozen BK1.out 0; have hz1_1 : w3.cell? ⟨g1, 1, none⟩ = some (.int .i64 a0_1) := (blk_cell BK1.out 1).trans rfl; have hy1_1 := blk_frozen BK1.out 1; have hz1_2 : w3.cell? ⟨g1, 2, none⟩ = some (.slice (some ad) l0_2.length c0_2) := (blk_cell BK1.out 2).trans rfl; have hy1_2 := blk_frozen BK1.out 2; have hz1_3 : w3.cell? ⟨g1, 3, none⟩ = some (.slice A0_3 l0_3.length c0_3) := (blk_cell BK1.out 3).trans rfl; have hy1_3 := blk_frozen BK1.out 3; have hz1_4 : w3.cell? ⟨g1, 4, none⟩ = some (.string a0_4) := (blk_cell BK1.out 4).trans rfl; have hy1_4 := blk_frozen BK1.out 4; have hz4_0 : w3.cell? ⟨g4, 0, none⟩ = some (.string x.f0) := (blk_cell BK4.out 0).trans rfl; have hy4_0 := blk_frozen BK4.out 0; have hz4_1 : w3.cell? ⟨g4, 1, none⟩ = some (.string x.f1) := (blk_cell BK4.out 1).trans rfl; have hy4_1 := blk_frozen BK4.out 1; have hz4_2 : w3.cell? ⟨g4, 2, none⟩ = some (.int .i64 x.f2) := (blk_cell BK4.out 2).trans rfl; have hy4_2 := blk_frozen BK4.out 2; have hn1_4 := NB1_4.out; have hn4_1 := NB4_1.out) | (go_at_call 73; (with_reducible refine (impl_Room_member.calls a0_0 a0_1 (some ad) c0_2 l0_2 A0_3 c0_3 l0_3 a0_4 x.f0 (j : Int) _ z4_4 HC2.out z4_5 HC3.out F3.out).mono ?_); rintro e w4 ⟨rfl, hb⟩; have n0_ := Aside0.mk (below_step z4_6 hb); have n1_ := Aside0.mk (blk_below (g := g1) (o := .cells #[.string a0_0, .int .i64 a0_1, .slice (some ad) l0_2.length c0_2, .slice A0_3 l0_3.length c0_3, .string a0_4] 62 (0, 0)) z4_10 hb); have n2_ := Aside0.mk (blk_below (g := g4) (o := .cells #[.string x.f0, .string x.f1, .int .i64 x.f2] 89 (0, 0)) z4_11 hb); (try clear HB); (try clear BK1); (try clear BK4); have HB := n0_; have BK1 := n1_; have BK4 := n2_; clear n0_ n1_ n2_; (try clear hb); (try clear hz1_0); (try clear hy1_0); (try clear hz1_1); (try clear hy1_1); (try clear hz1_2); (try clear hy1_2); (try clear hz1_3); (try clear hy1_3); (try clear hz1_4); (try clear hy1_4); (try clear hz4_0); (try clear hy4_0); (try clear hz4_1); (try clear hy4_1); (try clear hz4_2); (try clear hy4_2); (try clear hn1_4); (try clear hn4_1); have hz1_0 : w4.cell? ⟨g1, 0, none⟩ = some (.string a0_0) := (blk_cell BK1.out 0).trans rfl; have hy1_0 := blk_frozen BK1.out 0; have hz1_1 : w4.cell? ⟨g1, 1, none⟩ = some (.int .i64 a0_1) := (blk_cell BK1.out 1).trans rfl; have hy1_1 := blk_frozen BK1.out 1; have hz1_2 : w4.cell? ⟨g1, 2, none⟩ = some (.slice (some ad) l0_2.length c0_2) := (blk_cell BK1.out 2).trans rfl; have hy1_2 := blk_frozen BK1.out 2; have hz1_3 : w4.cell? ⟨g1, 3, none⟩ = some (.slice A0_3 l0_3.length c0_3) := (blk_cell BK1.out 3).trans rfl; have hy1_3 := blk_frozen BK1.out 3; have hz1_4 : w4.cell? ⟨g1, 4, none⟩ = some (.string a0_4) := (blk_cell BK1.out 4).trans rfl; have hy1_4 := blk_frozen BK1.out 4; have hz4_0 : w4.cell? ⟨g4, 0, none⟩ = some (.string x.f0) := (blk_cell BK4.out 0).trans rfl; have hy4_0 := blk_frozen BK4.out 0; have hz4_1 : w4.cell? ⟨g4, 1, none⟩ = some (.string x.f1) := (blk_cell BK4.out 1).trans rfl; have hy4_1 := blk_frozen BK4.out 1; have hz4_2 : w4.cell? ⟨g4, 2, none⟩ = some (.int .i64 x.f2) := (blk_cell BK4.out 2).trans rfl; have hy4_2 := blk_frozen BK4.out 2; have hn1_4 := NB1_4.out; have hn4_1 := NB4_1.out) | (go_at_call 74; (with_reducible refine (impl_Room_nick.calls a0_0 a0_1 (some ad) c0_2 l0_2 A0_3 c0_3 l0_3 a0_4 x.f1 (j : Int) _ z4_4 HC2.out z4_5 HC3.out F4.out).mono ?_); rintro e w5 ⟨rfl, hb⟩; have n0_ := Aside0.mk (below_step z4_6 hb); have n1_ := Aside0.mk (blk_below (g := g1) (o := .cells #[.string a0_0, .int .i64 a0_1, .slice (some ad) l0_2.length c0_2, .slice A0_3 l0_3.length c0_3, .string a0_4] 62 (0, 0)) z4_10 hb); have n2_ := Aside0.mk (blk_below (g := g4) (o := .cells #[.string x.f0, .string x.f1, .int .i64 x.f2] 89 (0, 0)) z4_11 hb); (try clear HB); (try clear BK1); (try clear BK4); have HB := n0_; have BK1 := n1_; have BK4 := n2_; clear n0_ n1_ n2_; (try clear hb); (try clear hz1_0); (try clear hy1_0); (try clear hz1_1); (try clear hy1_1); (try clear hz1_2); (try clear hy1_2); (try clear hz1_3); (try clear hy1_3); (try clear hz1_4); (try clear hy1_4); (try clear hz4_0); (try clear hy4_0); (try clear hz4_1); (try clear hy4_1); (try clear hz4_2); (try clear hy4_2); (try clear hn1_4); (try clear hn4_1); have hz1_0 : w5.cell? ⟨g1, 0, none⟩ = some (.string a0_0) := (blk_cell BK1.out 0).trans rfl; have hy1_0 := blk_frozen BK1.out 0; have hz1_1 : w5.cell? ⟨g1, 1, none⟩ = some (.int .i64 a0_1) := (blk_cell BK1.out 1).trans rfl; have hy1_1 := blk_frozen BK1.out 1; have hz1_2 : w5.cell? ⟨g1, 2, none⟩ = some (.slice (some ad) l0_2.length c0_2) := (blk_cell BK1.out 2).trans rfl; have hy1_2 := blk_frozen BK1.out 2; have hz1_3 : w5.cell? ⟨g1, 3, none⟩ = some (.slice A0_3 l0_3.length c0_3) := (blk_cell BK1.out 3).trans rfl; have hy1_3 := blk_frozen BK1.out 3; have hz1_4 : w5.cell? ⟨g1, 4, none⟩ = some (.string a0_4) := (blk_cell BK1.out 4).trans rfl; have hy1_4 := blk_frozen BK1.out 4; have hz4_0 : w5.cell? ⟨g4, 0, none⟩ = some (.string x.f0) := (blk_cell BK4.out 0).trans rfl; have hy4_0 := blk_frozen BK4.out 0; have hz4_1 : w5.cell? ⟨g4, 1, none⟩ = some (.string x.f1) := (blk_cell BK4.out 1).trans rfl; have hy4_1 := blk_frozen BK4.out 1; have hz4_2 : w5.cell? ⟨g4, 2, none⟩ = some (.int .i64 x.f2) := (blk_cell BK4.out 2).trans rfl; have hy4_2 := blk_frozen BK4.out 2; have hn1_4 := NB1_4.out; have hn4_1 := NB4_1.out) | (go_at_call 65; (with_reducible refine (impl_within.calls x.f2 1 3 true _ F5.out).mono ?_); rintro e w6 ⟨rfl, hd_⟩; have n0_ := Aside0.mk (below_step z4_6 hd_.below); have n1_ := Aside0.mk (blk_below (g := g1) (o := .cells #[.string a0_0, .int .i64 a0_1, .slice (some ad) l0_2.length c0_2, .slice A0_3 l0_3.length c0_3, .string a0_4] 62 (0, 0)) z4_10 hd_.below); have n2_ := Aside0.mk (blk_below (g := g4) (o := .cells #[.string x.f0, .string x.f1, .int .i64 x.f2] 89 (0, 0)) z4_11 hd_.below); (try clear HB); (try clear BK1); (try clear BK4); have HB := n0_; have BK1 := n1_; have BK4 := n2_; clear n0_ n1_ n2_; (try clear hd_); (try clear hz1_0); (try clear hy1_0); (try clear hz1_1); (try clear hy1_1); (try clear hz1_2); (try clear hy1_2); (try clear hz1_3); (try clear hy1_3); (try clear hz1_4); (try clear hy1_4); (try clear hz4_0); (try clear hy4_0); (try clear hz4_1); (try clear hy4_1); (try clear hz4_2); (try clear hy4_2); (try clear hn1_4); (try clear hn4_1); have hz1_0 : w6.cell? ⟨g1, 0, none⟩ = some (.string a0_0) := (blk_cell BK1.out 0).trans rfl; have hy1_0 := blk_frozen BK1.out 0; have hz1_1 : w6.cell? ⟨g1, 1, none⟩ = some (.int .i64 a0_1) := (blk_cell BK1.out 1).trans rfl; have hy1_1 := blk_frozen BK1.out 1; have hz1_2 : w6.cell? ⟨g1, 2, none⟩ = some (.slice (some ad) l0_2.length c0_2) := (blk_cell BK1.out 2).trans rfl; have hy1_2 := blk_frozen BK1.out 2; have hz1_3 : w6.cell? ⟨g1, 3, none⟩ = some (.slice A0_3 l0_3.length c0_3) := (blk_cell BK1.out 3).trans rfl; have hy1_3 := blk_frozen BK1.out 3; have hz1_4 : w6.cell? ⟨g1, 4, none⟩ = some (.string a0_4) := (blk_cell BK1.out 4).trans rfl; have hy1_4 := blk_frozen BK1.out 4; have hz4_0 : w6.cell? ⟨g4, 0, none⟩ = some (.string x.f0) := (blk_cell BK4.out 0).trans rfl; have hy4_0 := blk_frozen BK4.out 0; have hz4_1 : w6.cell? ⟨g4, 1, none⟩ = some (.string x.f1) := (blk_cell BK4.out 1).trans rfl; have hy4_1 := blk_frozen BK4.out 1; have hz4_2 : w6.cell? ⟨g4, 2, none⟩ = some (.int .i64 x.f2) := (blk_cell BK4.out 2).trans rfl; have hy4_2 := blk_frozen BK4.out 2; have hn1_4 := NB1_4.out; have hn4_1 := NB4_1.out) | (go_at_call 75; (with_reducible refine (impl_Room_rank.calls k a0_0 a0_1 (some ad) c0_2 l0_2 A0_3 c0_3 l0_3 a0_4 x.f0 rk _ z4_4 HC2.out z4_5 HC3.out F6.out).mono ?_); rintro e w7 ⟨rfl, hb⟩; have n0_ := Aside0.mk (below_step z4_6 hb); have n1_ := Aside0.mk (blk_below (g := g1) (o := .cells #[.string a0_0, .int .i64 a0_1, .slice (some ad) l0_2.length c0_2, .slice A0_3 l0_3.length c0_3, .string a0_4] 62 (0, 0)) z4_10 hb); have n2_ := Aside0.mk (blk_below (g := g4) (o := .cells #[.string x.f0, .string x.f1, .int .i64 x.f2] 89 (0, 0)) z4_11 hb); (try clear HB); (try clear BK1); (try clear BK4); have HB := n0_; have BK1 := n1_; have BK4 := n2_; clear n0_ n1_ n2_; (try clear hb); (try clear hz1_0); (try clear hy1_0); (try clear hz1_1); (try clear hy1_1); (try clear hz1_2); (try clear hy1_2); (try clear hz1_3); (try clear hy1_3); (try clear hz1_4); (try clear hy1_4); (try clear hz4_0); (try clear hy4_0); (try clear hz4_1); (try clear hy4_1); (try clear hz4_2); (try clear hy4_2); (try clear hn1_4); (try clear hn4_1); have hz1_0 : w7.cell? ⟨g1, 0, none⟩ = some (.string a0_0) := (blk_cell BK1.out 0).trans rfl; have hy1_0 := blk_frozen BK1.out 0; have hz1_1 : w7.cell? ⟨g1, 1, none⟩ = some (.int .i64 a0_1) := (blk_cell BK1.out 1).trans rfl; have hy1_1 := blk_frozen BK1.out 1; have hz1_2 : w7.cell? ⟨g1, 2, none⟩ = some (.slice (some ad) l0_2.length c0_2) := (blk_cell BK1.out 2).trans rfl; have hy1_2 := blk_frozen BK1.out 2; have hz1_3 : w7.cell? ⟨g1, 3, none⟩ = some (.slice A0_3 l0_3.length c0_3) := (blk_cell BK1.out 3).trans rfl; have hy1_3 := blk_frozen BK1.out 3; have hz1_4 : w7.cell? ⟨g1, 4, none⟩ = some (.string a0_4) := (blk_cell BK1.out 4).trans rfl; have hy1_4 := blk_frozen BK1.out 4; have hz4_0 : w7.cell? ⟨g4, 0, none⟩ = some (.string x.f0) := (blk_cell BK4.out 0).trans rfl; have hy4_0 := blk_frozen BK4.out 0; have hz4_1 : w7.cell? ⟨g4, 1, none⟩ = some (.string x.f1) := (blk_cell BK4.out 1).trans rfl; have hy4_1 := blk_frozen BK4.out 1; have hz4_2 : w7.cell? ⟨g4, 2, none⟩ = some (.int .i64 x.f2) := (blk_cell BK4.out 2).trans rfl; have hy4_2 := blk_frozen BK4.out 2; have hn1_4 := NB1_4.out; have hn4_1 := NB4_1.out))
      go_roundg (gk - 1)
      case measure => have := HK.out; omega
      case rel => exact ⟨j + 1, by go_num, by omega, ⟨by have := HK.out; omega⟩, ⟨by rw [FM'.out]; exact F7.out⟩, ⟨z4_10⟩, ⟨z4_6⟩⟩
    · obtain rfl : j = l0_2.length := by omega
      have HMT : m = true := by
        have := HA.out
        rw [List.drop_length] at this
        exact (Option.some.inj this).symm
      subst HMT
      have H' : Aside0 ((q && impl_RoomOk.tail ow a0_0 a0_1 l0_2 l0_3 a0_4) = r) := ⟨H.out⟩
      clear H HA hlt hj HK
      have H := H'
      clear H'
      have hr_0 : wr.cell? ⟨g1, 0, none⟩ = some (.string a0_0) := (blk_cell BK1.out 0).trans rfl
      have hr_1 : wr.cell? ⟨g1, 1, none⟩ = some (.int .i64 a0_1) := (blk_cell BK1.out 1).trans rfl
      have hr_2 : wr.cell? ⟨g1, 2, none⟩ = some (.slice A0_2 l0_2.length c0_2) := (blk_cell BK1.out 2).trans rfl
      have hr_3 : wr.cell? ⟨g1, 3, none⟩ = some (.slice A0_3 l0_3.length c0_3) := (blk_cell BK1.out 3).trans rfl
      have hr_4 : wr.cell? ⟨g1, 4, none⟩ = some (.string a0_4) := (blk_cell BK1.out 4).trans rfl
      go_wp2
      go_loopg [86] (l0_3.length + 1) (fun kq v86 w' => ∃ j : Nat, v86 = .int .i64 (j : Int) ∧ j ≤ l0_3.length ∧ Aside0 (kq + j = l0_3.length + 1) ∧ Aside0 (impl_RoomOk.rks (l0_3.drop j) (impl_RoomOk.prev l0_3 j) = some q) ∧ Aside0 (w'.heap[g1]? = some (.cells #[.string a0_0, .int .i64 a0_1, .slice A0_2 l0_2.length c0_2, .slice A0_3 l0_3.length c0_3, .string a0_4] 62 (0, 0))) ∧ Aside0 (Below w.heap.size w w'))
      case atStart => exact ⟨0, rfl, Nat.zero_le _, ⟨by omega⟩, ⟨by rw [List.drop_zero]; exact HQ.out⟩, ⟨z4_10⟩, ⟨z4_8⟩⟩
      case round =>
        try clear hr_0; try clear hr_1; try clear hr_2; try clear hr_3; try clear hr_4; clear HQ
        obtain ⟨j, rfl, hj, HK, HA, BK1, HB⟩ := hrel
        by_cases hlt : j < l0_3.length
        · obtain ⟨u, wi, b, f1, f2, f3, fm⟩ := impl_RoomOk.rks_step l0_3 j hlt q HA.out
          have F1 := Aside0.mk f1
          have F2 := Aside0.mk f2
          have F3 := Aside0.mk f3
          have FM := Aside0.mk fm
          clear f1 f2 f3 fm HA
          obtain ⟨ad, e, hx0, hx1⟩ := at_T92 HR3.out (j : Int) (by omega) (by omega)
          cases e
          simp only [Int.toNat_natCast] at hx0 hx1
          replace hx0 := (HB.out.cell (World.block_lt_of_cell? w _ hx0)).trans hx0
          replace hx1 := (HB.out.cell (World.block_lt_of_cell? w _ hx1)).trans hx1
          generalize hxx : rd_T92 l0_3 (j : Int) = x at hx0 hx1 F1 F2 FM
          have hr_0 : wr.cell? ⟨g1, 0, none⟩ = some (.string a0_0) := (blk_cell BK1.out 0).trans rfl
          have hr_1 : wr.cell? ⟨g1, 1, none⟩ = some (.int .i64 a0_1) := (blk_cell BK1.out 1).trans rfl
          have hr_2 : wr.cell? ⟨g1, 2, none⟩ = some (.slice A0_2 l0_2.length c0_2) := (blk_cell BK1.out 2).trans rfl
          have hr_3 : wr.cell? ⟨g1, 3, none⟩ = some (.slice (some ad) l0_3.length c0_3) := (blk_cell BK1.out 3).trans rfl
          have hr_4 : wr.cell? ⟨g1, 4, none⟩ = some (.string a0_4) := (blk_cell BK1.out 4).trans rfl
          cases u with
          | false =>
            go_wp2_with (first | ((with_reducible refine gate_dst (N := 6) rfl ?_); refine box_event ?hg (N := 6) ?hd (cs := #[.string (⟨#[]⟩ : ByteArray), .int .i64 0]) (t := 92) ?hr ?_; (case hd => rfl); (case hg => rfl); (case hr => first | (go_simp; done) | (go_simp; rfl)); intro g6 hg w1 hbox hb; have n0_ := Aside0.mk (below_step z4_8 hb); have n1_ := Aside0.mk (blk_below (g := g1) (o := .cells #[.string a0_0, .int .i64 a0_1, .slice A0_2 l0_2.length c0_2, .slice (some ad) l0_3.length c0_3, .string a0_4] 62 (0, 0)) z4_10 hb); have n2_ := Aside0.mk (hbox); have n3_ := Aside0.mk ((by rw [hg]; exact (below_size z4_8) : w.heap.size ≤ g6)); have n4_ := Aside0.mk ((by rw [hg]; exact Nat.ne_of_lt (blk_lt (g := g1) (o := .cells #[.string a0_0, .int .i64 a0_1, .slice A0_2 l0_2.length c0_2, .slice (some ad) l0_3.length c0_3, .string a0_4] 62 (0, 0)) z4_10) : g1 ≠ g6)); have n5_ := Aside0.mk ((by rw [hg]; exact Nat.ne_of_gt (blk_lt (g := g1) (o := .cells #[.string a0_0, .int .i64 a0_1, .slice A0_2 l0_2.length c0_2, .slice (some ad) l0_3.length c0_3, .string a0_4] 62 (0, 0)) z4_10) : g6 ≠ g1)); (try clear HB); (try clear BK1); (try clear BK6); (try clear GE6); (try clear NB1_6); (try clear NB6_1); have HB := n0_; have BK1 := n1_; have BK6 := n2_; have GE6 := n3_; have NB1_6 := n4_; have NB6_1 := n5_; clear n0_ n1_ n2_ n3_ n4_ n5_; clear hb hbox hg; have hz1_0 : w1.cell? ⟨g1, 0, none⟩ = some (.string a0_0) := (blk_cell BK1.out 0).trans rfl; have hy1_0 := blk_frozen BK1.out 0; have hz1_1 : w1.cell? ⟨g1, 1, none⟩ = some (.int .i64 a0_1) := (blk_cell BK1.out 1).trans rfl; have hy1_1 := blk_frozen BK1.out 1; have hz1_2 : w1.cell? ⟨g1, 2, none⟩ = some (.slice A0_2 l0_2.length c0_2) := (blk_cell BK1.out 2).trans rfl; have hy1_2 := blk_frozen BK1.out 2; have hz1_3 : w1.cell? ⟨g1, 3, none⟩ = some (.slice (some ad) l0_3.length c0_3) := (blk_cell BK1.out 3).trans rfl; have hy1_3 := blk_frozen BK1.out 3; have hz1_4 : w1.cell? ⟨g1, 4, none⟩ = some (.string a0_4) := (blk_cell BK1.out 4).trans rfl; have hy1_4 := blk_frozen BK1.out 4; have hz6_0 : w1.cell? ⟨g6, 0, none⟩ = some (.string (⟨#[]⟩ : ByteArray)) := (blk_cell BK6.out 0).trans rfl; have hy6_0 := blk_frozen BK6.out 0; have hz6_1 : w1.cell? ⟨g6, 1, none⟩ = some (.int .i64 0) := (blk_cell BK6.out 1).trans rfl; have hy6_1 := blk_frozen BK6.out 1; have hn1_6 := NB1_6.out; have hn6_1 := NB6_1.out))
            have n0_ : Aside0 (((w1.setCell ⟨g6, 0, none⟩ (.string x.f0)).setCell ⟨g6, 1, none⟩ (.int .i64 x.f1)).heap[g1]? = some (.cells #[.string a0_0, .int .i64 a0_1, .slice A0_2 l0_2.length c0_2, .slice (some ad) l0_3.length c0_3, .string a0_4] 62 (0, 0))) := ⟨z4_3⟩
            have n1_ : Aside0 (((w1.setCell ⟨g6, 0, none⟩ (.string x.f0)).setCell ⟨g6, 1, none⟩ (.int .i64 x.f1)).heap[g6]? = some (.cells #[.string x.f0, .int .i64 x.f1] 92 (0, 0))) := ⟨z4_2⟩
            have n2_ : Aside0 (Below w.heap.size w ((w1.setCell ⟨g6, 0, none⟩ (.string x.f0)).setCell ⟨g6, 1, none⟩ (.int .i64 x.f1))) := ⟨z4_7⟩
            try clear hz1_0
            try clear hy1_0
            try clear hz1_1
            try clear hy1_1
            try clear hz1_2
            try clear hy1_2
            try clear hz1_3
            try clear hy1_3
            try clear hz1_4
            try clear hy1_4
            try clear hz6_0
            try clear hy6_0
            try clear hz6_1
            try clear hy6_1
            try clear hn1_6
            try clear hn6_1
            try clear hr_0
            try clear hr_1
            try clear hr_2
            try clear hr_3
            try clear hr_4
            try clear BK1 BK6 HB
            generalize ((w1.setCell ⟨g6, 0, none⟩ (.string x.f0)).setCell ⟨g6, 1, none⟩ (.int .i64 x.f1)) = v1 at n0_ n1_ n2_ ⊢
            have BK1 := Aside0.mk (blk_drew n0_.out)
            have BK6 := Aside0.mk (blk_drew n1_.out)
            have HB := Aside0.mk (below_drew1 n2_.out)
            clear n0_ n1_ n2_
            refine start_ (n := 31) (S := fun w' => w'.cell? ⟨g6, 0, none⟩ = some (.string x.f0) ∧ w'.cell? ⟨g6, 1, none⟩ = some (.int .i64 x.f1)) (ds := []) impl_RoomOk.q0 (by kernel_rfl) rfl rfl ⟨(blk_cell BK6.out 0).trans rfl, (blk_cell BK6.out 1).trans rfl⟩ (fun hHeld => ?_)
            refine with_tabW impl_RoomOk.tab12 impl_RoomOk.bits12 (fun HT_ HW_ => ?_)
            generalize v1.drew = v2 at BK1 BK6 HB hHeld ⊢
            refine impl_RoomOk.pS 0 (some 91) impl_RoomOk.q1 HT_.out ?_
            refine impl_RoomOk.tS 1 (some 92) impl_RoomOk.q2 HT_.out HW_.out hHeld ?_
            refine one_ (i := 2) (N := some 93) impl_RoomOk.q3 rfl rfl (one_of HT_.out (by kernel_rfl)) (by decide) (fun K hK => ?_)
            refine goes_ Tryd.func47 (by kernel_rfl) rfl #[.string x.f0] (by rfl) rfl rfl z4_13 ?_
            with_reducible refine (impl_userOk.calls x.f0 false _ F1.out).mono ?_
            rintro e v3 ⟨rfl, hb⟩
            refine ⟨_, rfl, ?_⟩
            have n0_ := Aside0.mk (below_step z4_7 hb); have n1_ := Aside0.mk (blk_below (g := g1) (o := .cells #[.string a0_0, .int .i64 a0_1, .slice A0_2 l0_2.length c0_2, .slice (some ad) l0_3.length c0_3, .string a0_4] 62 (0, 0)) z4_10 hb); have n2_ := Aside0.mk (blk_below (g := g6) (o := .cells #[.string x.f0, .int .i64 x.f1] 92 (0, 0)) z4_12 hb); (try clear HB); (try clear BK1); (try clear BK6); have HB := n0_; have BK1 := n1_; have BK6 := n2_; clear n0_ n1_ n2_; clear hb
            refine hK.out _ _ ⟨(blk_cell BK6.out 0).trans rfl, (blk_cell BK6.out 1).trans rfl⟩ (fun hHeld => ?_)
            clear hK K
            refine norm_ (a' := ?_) ?_ ?_
            rotate_left
            · show Act.put _ (some 93) _ = _
              simp only [Act.put, List.setIfInBounds_toArray, List.set_cons_zero, List.set_cons_succ, i64_w, i32_w]
              rfl
            refine impl_RoomOk.pS 3 (some 94) impl_RoomOk.q4 HT_.out ?_
            refine impl_RoomOk.pS 4 (some 95) impl_RoomOk.q5 HT_.out ?_
            refine impl_RoomOk.uS 5 (some 96) impl_RoomOk.q6 HT_.out ?_
            refine impl_RoomOk.uS 6 (some 97) impl_RoomOk.q7 HT_.out ?_
            refine impl_RoomOk.uS 7 (some 98) impl_RoomOk.q8 HT_.out ?_
            refine impl_RoomOk.uS 8 (some 99) impl_RoomOk.q9 HT_.out ?_
            refine impl_RoomOk.uS 9 (some 100) impl_RoomOk.q10 HT_.out ?_
            refine impl_RoomOk.uS 10 (some 101) impl_RoomOk.q11 HT_.out ?_
            refine impl_RoomOk.uS 11 (some 102) impl_RoomOk.q12 HT_.out ?_
            refine impl_RoomOk.uS 12 (some 103) impl_RoomOk.q13 HT_.out ?_
            refine impl_RoomOk.uS 13 (some 104) impl_RoomOk.q14 HT_.out ?_
            refine impl_RoomOk.uS 14 (some 105) impl_RoomOk.q15 HT_.out ?_
            refine impl_RoomOk.uS 15 (some 106) impl_RoomOk.q16 HT_.out ?_
            refine impl_RoomOk.uS 16 (some 107) impl_RoomOk.q17 HT_.out ?_
            refine impl_RoomOk.uS 17 (some 108) impl_RoomOk.q18 HT_.out ?_
            refine impl_RoomOk.uS 18 (some 109) impl_RoomOk.q19 HT_.out ?_
            refine impl_RoomOk.pS 19 (some 110) impl_RoomOk.q20 HT_.out ?_
            refine impl_RoomOk.pS 20 (some 111) impl_RoomOk.q21 HT_.out ?_
            refine impl_RoomOk.uS 21 (some 112) impl_RoomOk.q22 HT_.out ?_
            refine impl_RoomOk.uS 22 (some 113) impl_RoomOk.q23 HT_.out ?_
            refine impl_RoomOk.uS 23 (some 114) impl_RoomOk.q24 HT_.out ?_
            refine impl_RoomOk.uS 24 (some 115) impl_RoomOk.q25 HT_.out ?_
            refine impl_RoomOk.pS 25 (some 116) impl_RoomOk.q26 HT_.out ?_
            refine impl_RoomOk.pS 26 (some 117) impl_RoomOk.q27 HT_.out ?_
            refine impl_RoomOk.uS 27 (some 118) impl_RoomOk.q28 HT_.out ?_
            refine impl_RoomOk.uS 28 (some 119) impl_RoomOk.q29 HT_.out ?_
            refine impl_RoomOk.uS 29 (some 120) impl_RoomOk.q30 HT_.out ?_
            refine impl_RoomOk.pS 30 (some 121) impl_RoomOk.q31 HT_.out ?_
            refine done_ (done_of HT_.out (by kernel_rfl)) ?_
            go_wp2
            go_ret
            exact ⟨by rw [← H.out, FM.out]; rfl, z4_7⟩
          | true =>
          by_cases h0 : j = 0
          case pos =>
            have hL : impl_RoomOk.less (impl_RoomOk.prev l0_3 j) x.f0 = true := by rw [h0]; rfl
            have FM' := Aside0.mk (FM.out)
            rw [hL] at FM'
            clear FM
            have FM := FM'
            clear FM'
            have z0 : decide ((0 : Int) < (j : Int)) = false := decide_eq_false (by omega)
            have z1 : decide (0 < j) = false := decide_eq_false (by omega)
            have z2 : (0 < j) = False := eq_false (by omega)
            clear h0 hL
            cases wi with
            | false =>
              go_wp2_with (first | ((with_reducible refine gate_dst (N := 6) rfl ?_); refine box_event ?hg (N := 6) ?hd (cs := #[.string (⟨#[]⟩ : ByteArray), .int .i64 0]) (t := 92) ?hr ?_; (case hd => rfl); (case hg => rfl); (case hr => first | (go_simp; done) | (go_simp; rfl)); intro g6 hg w1 hbox hb; have n0_ := Aside0.mk (below_step z4_8 hb); have n1_ := Aside0.mk (blk_below (g := g1) (o := .cells #[.string a0_0, .int .i64 a0_1, .slice A0_2 l0_2.length c0_2, .slice (some ad) l0_3.length c0_3, .string a0_4] 62 (0, 0)) z4_10 hb); have n2_ := Aside0.mk (hbox); have n3_ := Aside0.mk ((by rw [hg]; exact (below_size z4_8) : w.heap.size ≤ g6)); have n4_ := Aside0.mk ((by rw [hg]; exact Nat.ne_of_lt (blk_lt (g := g1) (o := .cells #[.string a0_0, .int .i64 a0_1, .slice A0_2 l0_2.length c0_2, .slice (some ad) l0_3.length c0_3, .string a0_4] 62 (0, 0)) z4_10) : g1 ≠ g6)); have n5_ := Aside0.mk ((by rw [hg]; exact Nat.ne_of_gt (blk_lt (g := g1) (o := .cells #[.string a0_0, .int .i64 a0_1, .slice A0_2 l0_2.length c0_2, .slice (some ad) l0_3.length c0_3, .string a0_4] 62 (0, 0)) z4_10) : g6 ≠ g1)); (try clear HB); (try clear BK1); (try clear BK6); (try clear GE6); (try clear NB1_6); (try clear NB6_1); have HB := n0_; have BK1 := n1_; have BK6 := n2_; have GE6 := n3_; have NB1_6 := n4_; have NB6_1 := n5_; clear n0_ n1_ n2_ n3_ n4_ n5_; clear hb hbox hg; have hz1_0 : w1.cell? ⟨g1, 0, none⟩ = some (.string a0_0) := (blk_cell BK1.out 0).trans rfl; have hy1_0 := blk_frozen BK1.out 0; have hz1_1 : w1.cell? ⟨g1, 1, none⟩ = some (.int .i64 a0_1) := (blk_cell BK1.out 1).trans rfl; have hy1_1 := blk_frozen BK1.out 1; have hz1_2 : w1.cell? ⟨g1, 2, none⟩ = some (.slice A0_2 l0_2.length c0_2) := (blk_cell BK1.out 2).trans rfl; have hy1_2 := blk_frozen BK1.out 2; have hz1_3 : w1.cell? ⟨g1, 3, none⟩ = some (.slice (some ad) l0_3.length c0_3) := (blk_cell BK1.out 3).trans rfl; have hy1_3 := blk_frozen BK1.out 3; have hz1_4 : w1.cell? ⟨g1, 4, none⟩ = some (.string a0_4) := (blk_cell BK1.out 4).trans rfl; have hy1_4 := blk_frozen BK1.out 4; have hz6_0 : w1.cell? ⟨g6, 0, none⟩ = some (.string (⟨#[]⟩ : ByteArray)) := (blk_cell BK6.out 0).trans rfl; have hy6_0 := blk_frozen BK6.out 0; have hz6_1 : w1.cell? ⟨g6, 1, none⟩ = some (.int .i64 0) := (blk_cell BK6.out 1).trans rfl; have hy6_1 := blk_frozen BK6.out 1; have hn1_6 := NB1_6.out; have hn6_1 := NB6_1.out))
              have n0_ : Aside0 (((w1.setCell ⟨g6, 0, none⟩ (.string x.f0)).setCell ⟨g6, 1, none⟩ (.int .i64 x.f1)).heap[g1]? = some (.cells #[.string a0_0, .int .i64 a0_1, .slice A0_2 l0_2.length c0_2, .slice (some ad) l0_3.length c0_3, .string a0_4] 62 (0, 0))) := ⟨z4_3⟩
              have n1_ : Aside0 (((w1.setCell ⟨g6, 0, none⟩ (.string x.f0)).setCell ⟨g6, 1, none⟩ (.int .i64 x.f1)).heap[g6]? = some (.cells #[.string x.f0, .int .i64 x.f1] 92 (0, 0))) := ⟨z4_2⟩
              have n2_ : Aside0 (Below w.heap.size w ((w1.setCell ⟨g6, 0, none⟩ (.string x.f0)).setCell ⟨g6, 1, none⟩ (.int .i64 x.f1))) := ⟨z4_7⟩
              try clear hz1_0
              try clear hy1_0
              try clear hz1_1
              try clear hy1_1
              try clear hz1_2
              try clear hy1_2
              try clear hz1_3
              try clear hy1_3
              try clear hz1_4
              try clear hy1_4
              try clear hz6_0
              try clear hy6_0
              try clear hz6_1
              try clear hy6_1
              try clear hn1_6
              try clear hn6_1
              try clear hr_0
              try clear hr_1
              try clear hr_2
              try clear hr_3
              try clear hr_4
              try clear BK1 BK6 HB
              generalize ((w1.setCell ⟨g6, 0, none⟩ (.string x.f0)).setCell ⟨g6, 1, none⟩ (.int .i64 x.f1)) = v1 at n0_ n1_ n2_ ⊢
              have BK1 := Aside0.mk (blk_drew n0_.out)
              have BK6 := Aside0.mk (blk_drew n1_.out)
              have HB := Aside0.mk (below_drew1 n2_.out)
              clear n0_ n1_ n2_
              refine start_ (n := 31) (S := fun w' => w'.cell? ⟨g6, 0, none⟩ = some (.string x.f0) ∧ w'.cell? ⟨g6, 1, none⟩ = some (.int .i64 x.f1)) (ds := []) impl_RoomOk.q0 (by kernel_rfl) rfl rfl ⟨(blk_cell BK6.out 0).trans rfl, (blk_cell BK6.out 1).trans rfl⟩ (fun hHeld => ?_)
              refine with_tabW impl_RoomOk.tab12 impl_RoomOk.bits12 (fun HT_ HW_ => ?_)
              generalize v1.drew = v2 at BK1 BK6 HB hHeld ⊢
              refine impl_RoomOk.pS 0 (some 91) impl_RoomOk.q1 HT_.out ?_
              refine impl_RoomOk.tS 1 (some 92) impl_RoomOk.q2 HT_.out HW_.out hHeld ?_
              refine one_ (i := 2) (N := some 93) impl_RoomOk.q3 rfl rfl (one_of HT_.out (by kernel_rfl)) (by decide) (fun K hK => ?_)
              refine goes_ Tryd.func47 (by kernel_rfl) rfl #[.string x.f0] (by rfl) rfl rfl z4_13 ?_
              with_reducible refine (impl_userOk.calls x.f0 true _ F1.out).mono ?_
              rintro e v3 ⟨rfl, hb⟩
              refine ⟨_, rfl, ?_⟩
              have n0_ := Aside0.mk (below_step z4_7 hb); have n1_ := Aside0.mk (blk_below (g := g1) (o := .cells #[.string a0_0, .int .i64 a0_1, .slice A0_2 l0_2.length c0_2, .slice (some ad) l0_3.length c0_3, .string a0_4] 62 (0, 0)) z4_10 hb); have n2_ := Aside0.mk (blk_below (g := g6) (o := .cells #[.string x.f0, .int .i64 x.f1] 92 (0, 0)) z4_12 hb); (try clear HB); (try clear BK1); (try clear BK6); have HB := n0_; have BK1 := n1_; have BK6 := n2_; clear n0_ n1_ n2_; clear hb
              refine hK.out _ _ ⟨(blk_cell BK6.out 0).trans rfl, (blk_cell BK6.out 1).trans rfl⟩ (fun hHeld => ?_)
              clear hK K
              refine norm_ (a' := ?_) ?_ ?_
              rotate_left
              · show Act.put _ (some 93) _ = _
                simp only [Act.put, List.setIfInBounds_toArray, List.set_cons_zero, List.set_cons_succ, i64_w, i32_w]
                rfl
              refine impl_RoomOk.pS 3 (some 94) impl_RoomOk.q4 HT_.out ?_
              refine impl_RoomOk.pS 4 (some 95) impl_RoomOk.q5 HT_.out ?_
              refine impl_RoomOk.pS 5 (some 96) impl_RoomOk.q6 HT_.out ?_
              refine impl_RoomOk.pS 6 (some 97) impl_RoomOk.q7 HT_.out ?_
              refine impl_RoomOk.pS 7 (some 98) impl_RoomOk.q8 HT_.out ?_
              refine impl_RoomOk.uS 8 (some 99) impl_RoomOk.q9 HT_.out ?_
              refine impl_RoomOk.uS 9 (some 100) impl_RoomOk.q10 HT_.out ?_
              refine impl_RoomOk.uS 10 (some 101) impl_RoomOk.q11 HT_.out ?_
              refine impl_RoomOk.uS 11 (some 102) impl_RoomOk.q12 HT_.out ?_
              refine impl_RoomOk.uS 12 (some 103) impl_RoomOk.q13 HT_.out ?_
              refine impl_RoomOk.uS 13 (some 104) impl_RoomOk.q14 HT_.out ?_
              refine impl_RoomOk.uS 14 (some 105) impl_RoomOk.q15 HT_.out ?_
              refine impl_RoomOk.uS 15 (some 106) impl_RoomOk.q16 HT_.out ?_
              refine impl_RoomOk.uS 16 (some 107) impl_RoomOk.q17 HT_.out ?_
              refine impl_RoomOk.uS 17 (some 108) impl_RoomOk.q18 HT_.out ?_
              refine impl_RoomOk.pS 18 (some 109) impl_RoomOk.q19 HT_.out ?_
              refine impl_RoomOk.pS 19 (some 110) impl_RoomOk.q20 HT_.out ?_
              refine impl_RoomOk.pS 20 (some 111) impl_RoomOk.q21 HT_.out ?_
              refine impl_RoomOk.pS 21 (some 112) impl_RoomOk.q22 HT_.out ?_
              refine impl_RoomOk.tS 22 (some 113) impl_RoomOk.q23 HT_.out HW_.out hHeld ?_
              refine one_ (i := 23) (N := some 114) impl_RoomOk.q24 rfl rfl (one_of HT_.out (by kernel_rfl)) (by decide) (fun K hK => ?_)
              refine goes_ Tryd.func65 (by kernel_rfl) rfl #[.int .i64 x.f1, .int .i64 0, .int .i64 4] (by rfl) rfl rfl z4_13 ?_
              with_reducible refine (impl_within.calls x.f1 0 4 false _ F2.out).mono ?_
              rintro e w' ⟨rfl, ⟨nd, rfl⟩⟩
              refine ⟨_, rfl, ?_⟩
              refine hK.out _ _ ⟨(blk_cell BK6.out 0).trans rfl, (blk_cell BK6.out 1).trans rfl⟩ (fun hHeld => ?_)
              clear hK K
              refine norm_ (a' := ?_) ?_ ?_
              rotate_left
              · show Act.put _ (some 114) _ = _
                simp only [Act.put, List.setIfInBounds_toArray, List.set_cons_zero, List.set_cons_succ, i64_w, i32_w]
                rfl
              refine impl_RoomOk.pS 24 (some 115) impl_RoomOk.q25 HT_.out ?_
              refine impl_RoomOk.pS 25 (some 116) impl_RoomOk.q26 HT_.out ?_
              refine impl_RoomOk.pS 26 (some 117) impl_RoomOk.q27 HT_.out ?_
              refine impl_RoomOk.uS 27 (some 118) impl_RoomOk.q28 HT_.out ?_
              refine impl_RoomOk.uS 28 (some 119) impl_RoomOk.q29 HT_.out ?_
              refine impl_RoomOk.uS 29 (some 120) impl_RoomOk.q30 HT_.out ?_
              refine impl_RoomOk.pS 30 (some 121) impl_RoomOk.q31 HT_.out ?_
              refine done_ (done_of HT_.out (by kernel_rfl)) ?_
              go_wp2
              go_ret
              exact ⟨by rw [← H.out, FM.out]; rfl, z4_7⟩
            | true =>
            by_cases e1 : x.f1 = 1
            case pos =>
              have e1b : (x.f1 == 1) = true := beq_iff_eq.mpr e1
              have FM' := Aside0.mk (FM.out)
              rw [e1b] at FM'
              clear FM
              have FM := FM'
              clear FM'
              clear e1
              go_wp2_with (first | ((with_reducible refine gate_dst (N := 6) rfl ?_); refine box_event ?hg (N := 6) ?hd (cs := #[.string (⟨#[]⟩ : ByteArray), .int .i64 0]) (t := 92) ?hr ?_; (case hd => rfl); (case hg => rfl); (case hr => first | (go_simp; done) | (go_simp; rfl)); intro g6 hg w1 hbox hb; have n0_ := Aside0.mk (below_step z4_8 hb); have n1_ := Aside0.mk (blk_below (g := g1) (o := .cells #[.string a0_0, .int .i64 a0_1, .slice A0_2 l0_2.length c0_2, .slice (some ad) l0_3.length c0_3, .string a0_4] 62 (0, 0)) z4_10 hb); have n2_ := Aside0.mk (hbox); have n3_ := Aside0.mk ((by rw [hg]; exact (below_size z4_8) : w.heap.size ≤ g6)); have n4_ := Aside0.mk ((by rw [hg]; exact Nat.ne_of_lt (blk_lt (g := g1) (o := .cells #[.string a0_0, .int .i64 a0_1, .slice A0_2 l0_2.length c0_2, .slice (some ad) l0_3.length c0_3, .string a0_4] 62 (0, 0)) z4_10) : g1 ≠ g6)); have n5_ := Aside0.mk ((by rw [hg]; exact Nat.ne_of_gt (blk_lt (g := g1) (o := .cells #[.string a0_0, .int .i64 a0_1, .slice A0_2 l0_2.length c0_2, .slice (some ad) l0_3.length c0_3, .string a0_4] 62 (0, 0)) z4_10) : g6 ≠ g1)); (try clear HB); (try clear BK1); (try clear BK6); (try clear GE6); (try clear NB1_6); (try clear NB6_1); have HB := n0_; have BK1 := n1_; have BK6 := n2_; have GE6 := n3_; have NB1_6 := n4_; have NB6_1 := n5_; clear n0_ n1_ n2_ n3_ n4_ n5_; clear hb hbox hg; have hz1_0 : w1.cell? ⟨g1, 0, none⟩ = some (.string a0_0) := (blk_cell BK1.out 0).trans rfl; have hy1_0 := blk_frozen BK1.out 0; have hz1_1 : w1.cell? ⟨g1, 1, none⟩ = some (.int .i64 a0_1) := (blk_cell BK1.out 1).trans rfl; have hy1_1 := blk_frozen BK1.out 1; have hz1_2 : w1.cell? ⟨g1, 2, none⟩ = some (.slice A0_2 l0_2.length c0_2) := (blk_cell BK1.out 2).trans rfl; have hy1_2 := blk_frozen BK1.out 2; have hz1_3 : w1.cell? ⟨g1, 3, none⟩ = some (.slice (some ad) l0_3.length c0_3) := (blk_cell BK1.out 3).trans rfl; have hy1_3 := blk_frozen BK1.out 3; have hz1_4 : w1.cell? ⟨g1, 4, none⟩ = some (.string a0_4) := (blk_cell BK1.out 4).trans rfl; have hy1_4 := blk_frozen BK1.out 4; have hz6_0 : w1.cell? ⟨g6, 0, none⟩ = some (.string (⟨#[]⟩ : ByteArray)) := (blk_cell BK6.out 0).trans rfl; have hy6_0 := blk_frozen BK6.out 0; have hz6_1 : w1.cell? ⟨g6, 1, none⟩ = some (.int .i64 0) := (blk_cell BK6.out 1).trans rfl; have hy6_1 := blk_frozen BK6.out 1; have hn1_6 := NB1_6.out; have hn6_1 := NB6_1.out))
              have n0_ : Aside0 (((w1.setCell ⟨g6, 0, none⟩ (.string x.f0)).setCell ⟨g6, 1, none⟩ (.int .i64 x.f1)).heap[g1]? = some (.cells #[.string a0_0, .int .i64 a0_1, .slice A0_2 l0_2.length c0_2, .slice (some ad) l0_3.length c0_3, .string a0_4] 62 (0, 0))) := ⟨z4_3⟩
              have n1_ : Aside0 (((w1.setCell ⟨g6, 0, none⟩ (.string x.f0)).setCell ⟨g6, 1, none⟩ (.int .i64 x.f1)).heap[g6]? = some (.cells #[.string x.f0, .int .i64 x.f1] 92 (0, 0))) := ⟨z4_2⟩
              have n2_ : Aside0 (Below w.heap.size w ((w1.setCell ⟨g6, 0, none⟩ (.string x.f0)).setCell ⟨g6, 1, none⟩ (.int .i64 x.f1))) := ⟨z4_7⟩
              try clear hz1_0
              try clear hy1_0
              try clear hz1_1
              try clear hy1_1
              try clear hz1_2
              try clear hy1_2
              try clear hz1_3
              try clear hy1_3
              try clear hz1_4
              try clear hy1_4
              try clear hz6_0
              try clear hy6_0
              try clear hz6_1
              try clear hy6_1
              try clear hn1_6
              try clear hn6_1
              try clear hr_0
              try clear hr_1
              try clear hr_2
              try clear hr_3
              try clear hr_4
              try clear BK1 BK6 HB
              generalize ((w1.setCell ⟨g6, 0, none⟩ (.string x.f0)).setCell ⟨g6, 1, none⟩ (.int .i64 x.f1)) = v1 at n0_ n1_ n2_ ⊢
              have BK1 := Aside0.mk (blk_drew n0_.out)
              have BK6 := Aside0.mk (blk_drew n1_.out)
              have HB := Aside0.mk (below_drew1 n2_.out)
              clear n0_ n1_ n2_
              refine start_ (n := 31) (S := fun w' => w'.cell? ⟨g6, 0, none⟩ = some (.string x.f0) ∧ w'.cell? ⟨g6, 1, none⟩ = some (.int .i64 x.f1)) (ds := []) impl_RoomOk.q0 (by kernel_rfl) rfl rfl ⟨(blk_cell BK6.out 0).trans rfl, (blk_cell BK6.out 1).trans rfl⟩ (fun hHeld => ?_)
              refine with_tabW impl_RoomOk.tab12 impl_RoomOk.bits12 (fun HT_ HW_ => ?_)
              generalize v1.drew = v2 at BK1 BK6 HB hHeld ⊢
              refine impl_RoomOk.pS 0 (some 91) impl_RoomOk.q1 HT_.out ?_
              refine impl_RoomOk.tS 1 (some 92) impl_RoomOk.q2 HT_.out HW_.out hHeld ?_
              refine one_ (i := 2) (N := some 93) impl_RoomOk.q3 rfl rfl (one_of HT_.out (by kernel_rfl)) (by decide) (fun K hK => ?_)
              refine goes_ Tryd.func47 (by kernel_rfl) rfl #[.string x.f0] (by rfl) rfl rfl z4_13 ?_
              with_reducible refine (impl_userOk.calls x.f0 true _ F1.out).mono ?_
              rintro e v3 ⟨rfl, hb⟩
              refine ⟨_, rfl, ?_⟩
              have n0_ := Aside0.mk (below_step z4_7 hb); have n1_ := Aside0.mk (blk_below (g := g1) (o := .cells #[.string a0_0, .int .i64 a0_1, .slice A0_2 l0_2.length c0_2, .slice (some ad) l0_3.length c0_3, .string a0_4] 62 (0, 0)) z4_10 hb); have n2_ := Aside0.mk (blk_below (g := g6) (o := .cells #[.string x.f0, .int .i64 x.f1] 92 (0, 0)) z4_12 hb); (try clear HB); (try clear BK1); (try clear BK6); have HB := n0_; have BK1 := n1_; have BK6 := n2_; clear n0_ n1_ n2_; clear hb
              refine hK.out _ _ ⟨(blk_cell BK6.out 0).trans rfl, (blk_cell BK6.out 1).trans rfl⟩ (fun hHeld => ?_)
              clear hK K
              refine norm_ (a' := ?_) ?_ ?_
              rotate_left
              · show Act.put _ (some 93) _ = _
                simp only [Act.put, List.setIfInBounds_toArray, List.set_cons_zero, List.set_cons_succ, i64_w, i32_w]
                rfl
              refine impl_RoomOk.pS 3 (some 94) impl_RoomOk.q4 HT_.out ?_
              refine impl_RoomOk.pS 4 (some 95) impl_RoomOk.q5 HT_.out ?_
              refine impl_RoomOk.pS 5 (some 96) impl_RoomOk.q6 HT_.out ?_
              refine impl_RoomOk.pS 6 (some 97) impl_RoomOk.q7 HT_.out ?_
              refine impl_RoomOk.pS 7 (some 98) impl_RoomOk.q8 HT_.out ?_
              refine impl_RoomOk.uS 8 (some 99) impl_RoomOk.q9 HT_.out ?_
              refine impl_RoomOk.uS 9 (some 100) impl_RoomOk.q10 HT_.out ?_
              refine impl_RoomOk.uS 10 (some 101) impl_RoomOk.q11 HT_.out ?_
              refine impl_RoomOk.uS 11 (some 102) impl_RoomOk.q12 HT_.out ?_
              refine impl_RoomOk.uS 12 (some 103) impl_RoomOk.q13 HT_.out ?_
              refine impl_RoomOk.uS 13 (some 104) impl_RoomOk.q14 HT_.out ?_
              refine impl_RoomOk.uS 14 (some 105) impl_RoomOk.q15 HT_.out ?_
              refine impl_RoomOk.uS 15 (some 106) impl_RoomOk.q16 HT_.out ?_
              refine impl_RoomOk.uS 16 (some 107) impl_RoomOk.q17 HT_.out ?_
              refine impl_RoomOk.uS 17 (some 108) impl_RoomOk.q18 HT_.out ?_
              refine impl_RoomOk.pS 18 (some 109) impl_RoomOk.q19 HT_.out ?_
              refine impl_RoomOk.pS 19 (some 110) impl_RoomOk.q20 HT_.out ?_
              refine impl_RoomOk.pS 20 (some 111) impl_RoomOk.q21 HT_.out ?_
              refine impl_RoomOk.pS 21 (some 112) impl_RoomOk.q22 HT_.out ?_
              refine impl_RoomOk.tS 22 (some 113) impl_RoomOk.q23 HT_.out HW_.out hHeld ?_
              refine one_ (i := 23) (N := some 114) impl_RoomOk.q24 rfl rfl (one_of HT_.out (by kernel_rfl)) (by decide) (fun K hK => ?_)
              refine goes_ Tryd.func65 (by kernel_rfl) rfl #[.int .i64 x.f1, .int .i64 0, .int .i64 4] (by rfl) rfl rfl z4_13 ?_
              with_reducible refine (impl_within.calls x.f1 0 4 true _ F2.out).mono ?_
              rintro e w' ⟨rfl, ⟨nd, rfl⟩⟩
              refine ⟨_, rfl, ?_⟩
              refine hK.out _ _ ⟨(blk_cell BK6.out 0).trans rfl, (blk_cell BK6.out 1).trans rfl⟩ (fun hHeld => ?_)
              clear hK K
              refine norm_ (a' := ?_) ?_ ?_
              rotate_left
              · show Act.put _ (some 114) _ = _
                simp only [Act.put, List.setIfInBounds_toArray, List.set_cons_zero, List.set_cons_succ, i64_w, i32_w]
                rfl
              refine impl_RoomOk.pS 24 (some 115) impl_RoomOk.q25 HT_.out ?_
              refine impl_RoomOk.pS 25 (some 116) impl_RoomOk.q26 HT_.out ?_
              refine impl_RoomOk.pS 26 (some 117) impl_RoomOk.q27 HT_.out ?_
              refine impl_RoomOk.pS 27 (some 118) impl_RoomOk.q28 HT_.out ?_
              refine impl_RoomOk.tS 28 (some 119) impl_RoomOk.q29 HT_.out HW_.out hHeld ?_
              refine impl_RoomOk.pS 29 (some 120) impl_RoomOk.q30 HT_.out ?_
              refine impl_RoomOk.pS 30 (some 121) impl_RoomOk.q31 HT_.out ?_
              refine done_ (done_of HT_.out (by kernel_rfl)) ?_
              go_wp2
              go_ret
              exact ⟨by rw [← H.out, FM.out]; rfl, z4_7⟩
            have e1b : (x.f1 == 1) = false := beq_eq_false_iff_ne.mpr e1
            have FM' : Aside0 (q = b) := ⟨by rw [FM.out, e1b]; rfl⟩
            clear FM
            go_wp2_with (first | ((with_reducible refine gate_dst (N := 6) rfl ?_); refine box_event ?hg (N := 6) ?hd (cs := #[.string (⟨#[]⟩ : ByteArray), .int .i64 0]) (t := 92) ?hr ?_; (case hd => rfl); (case hg => rfl); (case hr => first | (go_simp; done) | (go_simp; rfl)); intro g6 hg w1 hbox hb; have n0_ := Aside0.mk (below_step z4_8 hb); have n1_ := Aside0.mk (blk_below (g := g1) (o := .cells #[.string a0_0, .int .i64 a0_1, .slice A0_2 l0_2.length c0_2, .slice (some ad) l0_3.length c0_3, .string a0_4] 62 (0, 0)) z4_10 hb); have n2_ := Aside0.mk (hbox); have n3_ := Aside0.mk ((by rw [hg]; exact (below_size z4_8) : w.heap.size ≤ g6)); have n4_ := Aside0.mk ((by rw [hg]; exact Nat.ne_of_lt (blk_lt (g := g1) (o := .cells #[.string a0_0, .int .i64 a0_1, .slice A0_2 l0_2.length c0_2, .slice (some ad) l0_3.length c0_3, .string a0_4] 62 (0, 0)) z4_10) : g1 ≠ g6)); have n5_ := Aside0.mk ((by rw [hg]; exact Nat.ne_of_gt (blk_lt (g := g1) (o := .cells #[.string a0_0, .int .i64 a0_1, .slice A0_2 l0_2.length c0_2, .slice (some ad) l0_3.length c0_3, .string a0_4] 62 (0, 0)) z4_10) : g6 ≠ g1)); (try clear HB); (try clear BK1); (try clear BK6); (try clear GE6); (try clear NB1_6); (try clear NB6_1); have HB := n0_; have BK1 := n1_; have BK6 := n2_; have GE6 := n3_; have NB1_6 := n4_; have NB6_1 := n5_; clear n0_ n1_ n2_ n3_ n4_ n5_; clear hb hbox hg; have hz1_0 : w1.cell? ⟨g1, 0, none⟩ = some (.string a0_0) := (blk_cell BK1.out 0).trans rfl; have hy1_0 := blk_frozen BK1.out 0; have hz1_1 : w1.cell? ⟨g1, 1, none⟩ = some (.int .i64 a0_1) := (blk_cell BK1.out 1).trans rfl; have hy1_1 := blk_frozen BK1.out 1; have hz1_2 : w1.cell? ⟨g1, 2, none⟩ = some (.slice A0_2 l0_2.length c0_2) := (blk_cell BK1.out 2).trans rfl; have hy1_2 := blk_frozen BK1.out 2; have hz1_3 : w1.cell? ⟨g1, 3, none⟩ = some (.slice (some ad) l0_3.length c0_3) := (blk_cell BK1.out 3).trans rfl; have hy1_3 := blk_frozen BK1.out 3; have hz1_4 : w1.cell? ⟨g1, 4, none⟩ = some (.string a0_4) := (blk_cell BK1.out 4).trans rfl; have hy1_4 := blk_frozen BK1.out 4; have hz6_0 : w1.cell? ⟨g6, 0, none⟩ = some (.string (⟨#[]⟩ : ByteArray)) := (blk_cell BK6.out 0).trans rfl; have hy6_0 := blk_frozen BK6.out 0; have hz6_1 : w1.cell? ⟨g6, 1, none⟩ = some (.int .i64 0) := (blk_cell BK6.out 1).trans rfl; have hy6_1 := blk_frozen BK6.out 1; have hn1_6 := NB1_6.out; have hn6_1 := NB6_1.out))
            have n0_ : Aside0 (((w1.setCell ⟨g6, 0, none⟩ (.string x.f0)).setCell ⟨g6, 1, none⟩ (.int .i64 x.f1)).heap[g1]? = some (.cells #[.string a0_0, .int .i64 a0_1, .slice A0_2 l0_2.length c0_2, .slice (some ad) l0_3.length c0_3, .string a0_4] 62 (0, 0))) := ⟨z4_3⟩
            have n1_ : Aside0 (((w1.setCell ⟨g6, 0, none⟩ (.string x.f0)).setCell ⟨g6, 1, none⟩ (.int .i64 x.f1)).heap[g6]? = some (.cells #[.string x.f0, .int .i64 x.f1] 92 (0, 0))) := ⟨z4_2⟩
            have n2_ : Aside0 (Below w.heap.size w ((w1.setCell ⟨g6, 0, none⟩ (.string x.f0)).setCell ⟨g6, 1, none⟩ (.int .i64 x.f1))) := ⟨z4_7⟩
            try clear hz1_0
            try clear hy1_0
            try clear hz1_1
            try clear hy1_1
            try clear hz1_2
            try clear hy1_2
            try clear hz1_3
            try clear hy1_3
            try clear hz1_4
            try clear hy1_4
            try clear hz6_0
            try clear hy6_0
            try clear hz6_1
            try clear hy6_1
            try clear hn1_6
            try clear hn6_1
            try clear hr_0
            try clear hr_1
            try clear hr_2
            try clear hr_3
            try clear hr_4
            try clear BK1 BK6 HB
            generalize ((w1.setCell ⟨g6, 0, none⟩ (.string x.f0)).setCell ⟨g6, 1, none⟩ (.int .i64 x.f1)) = v1 at n0_ n1_ n2_ ⊢
            have BK1 := Aside0.mk (blk_drew n0_.out)
            have BK6 := Aside0.mk (blk_drew n1_.out)
            have HB := Aside0.mk (below_drew1 n2_.out)
            clear n0_ n1_ n2_
            refine start_ (n := 31) (S := fun w' => w'.cell? ⟨g6, 0, none⟩ = some (.string x.f0) ∧ w'.cell? ⟨g6, 1, none⟩ = some (.int .i64 x.f1)) (ds := []) impl_RoomOk.q0 (by kernel_rfl) rfl rfl ⟨(blk_cell BK6.out 0).trans rfl, (blk_cell BK6.out 1).trans rfl⟩ (fun hHeld => ?_)
            refine with_tabW impl_RoomOk.tab12 impl_RoomOk.bits12 (fun HT_ HW_ => ?_)
            generalize v1.drew = v2 at BK1 BK6 HB hHeld ⊢
            refine impl_RoomOk.pS 0 (some 91) impl_RoomOk.q1 HT_.out ?_
            refine impl_RoomOk.tS 1 (some 92) impl_RoomOk.q2 HT_.out HW_.out hHeld ?_
            refine one_ (i := 2) (N := some 93) impl_RoomOk.q3 rfl rfl (one_of HT_.out (by kernel_rfl)) (by decide) (fun K hK => ?_)
            refine goes_ Tryd.func47 (by kernel_rfl) rfl #[.string x.f0] (by rfl) rfl rfl z4_13 ?_
            with_reducible refine (impl_userOk.calls x.f0 true _ F1.out).mono ?_
            rintro e v3 ⟨rfl, hb⟩
            refine ⟨_, rfl, ?_⟩
            have n0_ := Aside0.mk (below_step z4_7 hb); have n1_ := Aside0.mk (blk_below (g := g1) (o := .cells #[.string a0_0, .int .i64 a0_1, .slice A0_2 l0_2.length c0_2, .slice (some ad) l0_3.length c0_3, .string a0_4] 62 (0, 0)) z4_10 hb); have n2_ := Aside0.mk (blk_below (g := g6) (o := .cells #[.string x.f0, .int .i64 x.f1] 92 (0, 0)) z4_12 hb); (try clear HB); (try clear BK1); (try clear BK6); have HB := n0_; have BK1 := n1_; have BK6 := n2_; clear n0_ n1_ n2_; clear hb
            refine hK.out _ _ ⟨(blk_cell BK6.out 0).trans rfl, (blk_cell BK6.out 1).trans rfl⟩ (fun hHeld => ?_)
            clear hK K
            refine norm_ (a' := ?_) ?_ ?_
            rotate_left
            · show Act.put _ (some 93) _ = _
              simp only [Act.put, List.setIfInBounds_toArray, List.set_cons_zero, List.set_cons_succ, i64_w, i32_w]
              rfl
            refine impl_RoomOk.pS 3 (some 94) impl_RoomOk.q4 HT_.out ?_
            refine impl_RoomOk.pS 4 (some 95) impl_RoomOk.q5 HT_.out ?_
            refine impl_RoomOk.pS 5 (some 96) impl_RoomOk.q6 HT_.out ?_
            refine impl_RoomOk.pS 6 (some 97) impl_RoomOk.q7 HT_.out ?_
            refine impl_RoomOk.pS 7 (some 98) impl_RoomOk.q8 HT_.out ?_
            refine impl_RoomOk.uS 8 (some 99) impl_RoomOk.q9 HT_.out ?_
            refine impl_RoomOk.uS 9 (some 100) impl_RoomOk.q10 HT_.out ?_
            refine impl_RoomOk.uS 10 (some 101) impl_RoomOk.q11 HT_.out ?_
            refine impl_RoomOk.uS 11 (some 102) impl_RoomOk.q12 HT_.out ?_
            refine impl_RoomOk.uS 12 (some 103) impl_RoomOk.q13 HT_.out ?_
            refine impl_RoomOk.uS 13 (some 104) impl_RoomOk.q14 HT_.out ?_
            refine impl_RoomOk.uS 14 (some 105) impl_RoomOk.q15 HT_.out ?_
            refine impl_RoomOk.uS 15 (some 106) impl_RoomOk.q16 HT_.out ?_
            refine impl_RoomOk.uS 16 (some 107) impl_RoomOk.q17 HT_.out ?_
            refine impl_RoomOk.uS 17 (some 108) impl_RoomOk.q18 HT_.out ?_
            refine impl_RoomOk.pS 18 (some 109) impl_RoomOk.q19 HT_.out ?_
            refine impl_RoomOk.pS 19 (some 110) impl_RoomOk.q20 HT_.out ?_
            refine impl_RoomOk.pS 20 (some 111) impl_RoomOk.q21 HT_.out ?_
            refine impl_RoomOk.pS 21 (some 112) impl_RoomOk.q22 HT_.out ?_
            refine impl_RoomOk.tS 22 (some 113) impl_RoomOk.q23 HT_.out HW_.out hHeld ?_
            refine one_ (i := 23) (N := some 114) impl_RoomOk.q24 rfl rfl (one_of HT_.out (by kernel_rfl)) (by decide) (fun K hK => ?_)
            refine goes_ Tryd.func65 (by kernel_rfl) rfl #[.int .i64 x.f1, .int .i64 0, .int .i64 4] (by rfl) rfl rfl z4_13 ?_
            with_reducible refine (impl_within.calls x.f1 0 4 true _ F2.out).mono ?_
            rintro e w' ⟨rfl, ⟨nd, rfl⟩⟩
            refine ⟨_, rfl, ?_⟩
            refine hK.out _ _ ⟨(blk_cell BK6.out 0).trans rfl, (blk_cell BK6.out 1).trans rfl⟩ (fun hHeld => ?_)
            clear hK K
            refine norm_ (a' := ?_) ?_ ?_
            rotate_left
            · show Act.put _ (some 114) _ = _
              simp only [Act.put, List.setIfInBounds_toArray, List.set_cons_zero, List.set_cons_succ, i64_w, i32_w]
              rfl
            refine impl_RoomOk.pS 24 (some 115) impl_RoomOk.q25 HT_.out ?_
            refine impl_RoomOk.pS 25 (some 116) impl_RoomOk.q26 HT_.out ?_
            refine impl_RoomOk.pS 26 (some 117) impl_RoomOk.q27 HT_.out ?_
            refine impl_RoomOk.pS 27 (some 118) impl_RoomOk.q28 HT_.out ?_
            refine impl_RoomOk.tS 28 (some 119) impl_RoomOk.q29 HT_.out HW_.out hHeld ?_
            refine impl_RoomOk.pS 29 (some 120) impl_RoomOk.q30 HT_.out ?_
            refine impl_RoomOk.pS 30 (some 121) impl_RoomOk.q31 HT_.out ?_
            refine done_ (done_of HT_.out (by kernel_rfl)) ?_
            go_wp2
            go_roundg (gk - 1)
            case measure => have := HK.out; omega
            case rel => exact ⟨j + 1, by go_num, by omega, ⟨by have := HK.out; omega⟩, ⟨by rw [FM'.out]; exact F3.out⟩, ⟨z4_10⟩, ⟨z4_7⟩⟩
          obtain ⟨ji, hje⟩ : ∃ ji : Int, ji = (j : Int) - 1 := ⟨_, rfl⟩
          have hL : impl_RoomOk.less (impl_RoomOk.prev l0_3 j) x.f0 = Op.bytesLess (rd_T92 l0_3 ji).f0.toList x.f0.toList := by
            unfold impl_RoomOk.prev
            rw [if_neg h0, hje]
            rfl
          have hm3' := hm3
          have p0 : 0 ≤ ji := by omega
          have q0 : ji < (l0_3.length : Int) := by omega
          obtain ⟨ad', e', hp0, hp1⟩ := at_T92 HR3.out ji p0 q0
          obtain rfl : ad = ad' := by injection e'
          generalize rd_T92 l0_3 ji = y at hL hp0 hp1
          clear hp1
          have hjiw : IntKind.i64.wrap ((j : Int) - 1) = ji := by rw [hje]; exact IntWalk.i64_in _ (by omega)
          have z0 : decide ((0 : Int) < (j : Int)) = true := decide_eq_true (by omega)
          have h0' : 0 < j := by omega
          replace p0 := eq_true p0
          replace q0 := eq_true q0
          clear hje
          cases hB : Op.bytesLess y.f0.toList x.f0.toList with
          | false =>
            have FM' := Aside0.mk (FM.out)
            rw [hL, hB] at FM'
            clear FM
            have FM := FM'
            clear FM'
            go_wp2_with (first | ((with_reducible refine gate_dst (N := 6) rfl ?_); refine box_event ?hg (N := 6) ?hd (cs := #[.string (⟨#[]⟩ : ByteArray), .int .i64 0]) (t := 92) ?hr ?_; (case hd => rfl); (case hg => rfl); (case hr => first | (go_simp; done) | (go_simp; rfl)); intro g6 hg w1 hbox hb; have n0_ := Aside0.mk (below_step z4_8 hb); have n1_ := Aside0.mk (blk_below (g := g1) (o := .cells #[.string a0_0, .int .i64 a0_1, .slice A0_2 l0_2.length c0_2, .slice (some ad) l0_3.length c0_3, .string a0_4] 62 (0, 0)) z4_10 hb); have n2_ := Aside0.mk (hbox); have n3_ := Aside0.mk ((by rw [hg]; exact (below_size z4_8) : w.heap.size ≤ g6)); have n4_ := Aside0.mk ((by rw [hg]; exact Nat.ne_of_lt (blk_lt (g := g1) (o := .cells #[.string a0_0, .int .i64 a0_1, .slice A0_2 l0_2.length c0_2, .slice (some ad) l0_3.length c0_3, .string a0_4] 62 (0, 0)) z4_10) : g1 ≠ g6)); have n5_ := Aside0.mk ((by rw [hg]; exact Nat.ne_of_gt (blk_lt (g := g1) (o := .cells #[.string a0_0, .int .i64 a0_1, .slice A0_2 l0_2.length c0_2, .slice (some ad) l0_3.length c0_3, .string a0_4] 62 (0, 0)) z4_10) : g6 ≠ g1)); (try clear HB); (try clear BK1); (try clear BK6); (try clear GE6); (try clear NB1_6); (try clear NB6_1); have HB := n0_; have BK1 := n1_; have BK6 := n2_; have GE6 := n3_; have NB1_6 := n4_; have NB6_1 := n5_; clear n0_ n1_ n2_ n3_ n4_ n5_; clear hb hbox hg; have hz1_0 : w1.cell? ⟨g1, 0, none⟩ = some (.string a0_0) := (blk_cell BK1.out 0).trans rfl; have hy1_0 := blk_frozen BK1.out 0; have hz1_1 : w1.cell? ⟨g1, 1, none⟩ = some (.int .i64 a0_1) := (blk_cell BK1.out 1).trans rfl; have hy1_1 := blk_frozen BK1.out 1; have hz1_2 : w1.cell? ⟨g1, 2, none⟩ = some (.slice A0_2 l0_2.length c0_2) := (blk_cell BK1.out 2).trans rfl; have hy1_2 := blk_frozen BK1.out 2; have hz1_3 : w1.cell? ⟨g1, 3, none⟩ = some (.slice (some ad) l0_3.length c0_3) := (blk_cell BK1.out 3).trans rfl; have hy1_3 := blk_frozen BK1.out 3; have hz1_4 : w1.cell? ⟨g1, 4, none⟩ = some (.string a0_4) := (blk_cell BK1.out 4).trans rfl; have hy1_4 := blk_frozen BK1.out 4; have hz6_0 : w1.cell? ⟨g6, 0, none⟩ = some (.string (⟨#[]⟩ : ByteArray)) := (blk_cell BK6.out 0).trans rfl; have hy6_0 := blk_frozen BK6.out 0; have hz6_1 : w1.cell? ⟨g6, 1, none⟩ = some (.int .i64 0) := (blk_cell BK6.out 1).trans rfl; have hy6_1 := blk_frozen BK6.out 1; have hn1_6 := NB1_6.out; have hn6_1 := NB6_1.out))
            have n0_ : Aside0 (((w1.setCell ⟨g6, 0, none⟩ (.string x.f0)).setCell ⟨g6, 1, none⟩ (.int .i64 x.f1)).heap[g1]? = some (.cells #[.string a0_0, .int .i64 a0_1, .slice A0_2 l0_2.length c0_2, .slice (some ad) l0_3.length c0_3, .string a0_4] 62 (0, 0))) := ⟨z4_3⟩
            have n1_ : Aside0 (((w1.setCell ⟨g6, 0, none⟩ (.string x.f0)).setCell ⟨g6, 1, none⟩ (.int .i64 x.f1)).heap[g6]? = some (.cells #[.string x.f0, .int .i64 x.f1] 92 (0, 0))) := ⟨z4_2⟩
            have n2_ : Aside0 (Below w.heap.size w ((w1.setCell ⟨g6, 0, none⟩ (.string x.f0)).setCell ⟨g6, 1, none⟩ (.int .i64 x.f1))) := ⟨z4_7⟩
            try clear hz1_0
            try clear hy1_0
            try clear hz1_1
            try clear hy1_1
            try clear hz1_2
            try clear hy1_2
            try clear hz1_3
            try clear hy1_3
            try clear hz1_4
            try clear hy1_4
            try clear hz6_0
            try clear hy6_0
            try clear hz6_1
            try clear hy6_1
            try clear hn1_6
            try clear hn6_1
            try clear hr_0
            try clear hr_1
            try clear hr_2
            try clear hr_3
            try clear hr_4
            try clear BK1 BK6 HB
            generalize ((w1.setCell ⟨g6, 0, none⟩ (.string x.f0)).setCell ⟨g6, 1, none⟩ (.int .i64 x.f1)) = v1 at n0_ n1_ n2_ ⊢
            have BK1 := Aside0.mk (blk_drew n0_.out)
            have BK6 := Aside0.mk (blk_drew n1_.out)
            have HB := Aside0.mk (below_drew1 n2_.out)
            clear n0_ n1_ n2_
            refine start_ (n := 31) (S := fun w' => w'.cell? ⟨g6, 0, none⟩ = some (.string x.f0) ∧ w'.cell? ⟨g6, 1, none⟩ = some (.int .i64 x.f1) ∧ w'.cell? ⟨g1, 3, none⟩ = some (.slice (some ad) l0_3.length c0_3) ∧ w'.cell? (ad.add (ji.toNat * 2)) = some (.string y.f0)) (ds := []) impl_RoomOk.q0 (by kernel_rfl) rfl rfl ⟨(blk_cell BK6.out 0).trans rfl, (blk_cell BK6.out 1).trans rfl, (blk_cell BK1.out 3).trans rfl, (HB.out.cell (World.block_lt_of_cell? w _ hp0)).trans hp0⟩ (fun hHeld => ?_)
            refine with_tabW impl_RoomOk.tab12 impl_RoomOk.bits12 (fun HT_ HW_ => ?_)
            generalize v1.drew = v2 at BK1 BK6 HB hHeld ⊢
            refine impl_RoomOk.pS 0 (some 91) impl_RoomOk.q1 HT_.out ?_
            refine impl_RoomOk.tS 1 (some 92) impl_RoomOk.q2 HT_.out HW_.out hHeld ?_
            refine one_ (i := 2) (N := some 93) impl_RoomOk.q3 rfl rfl (one_of HT_.out (by kernel_rfl)) (by decide) (fun K hK => ?_)
            refine goes_ Tryd.func47 (by kernel_rfl) rfl #[.string x.f0] (by rfl) rfl rfl z4_13 ?_
            with_reducible refine (impl_userOk.calls x.f0 true _ F1.out).mono ?_
            rintro e v3 ⟨rfl, hb⟩
            refine ⟨_, rfl, ?_⟩
            have n0_ := Aside0.mk (below_step z4_7 hb); have n1_ := Aside0.mk (blk_below (g := g1) (o := .cells #[.string a0_0, .int .i64 a0_1, .slice A0_2 l0_2.length c0_2, .slice (some ad) l0_3.length c0_3, .string a0_4] 62 (0, 0)) z4_10 hb); have n2_ := Aside0.mk (blk_below (g := g6) (o := .cells #[.string x.f0, .int .i64 x.f1] 92 (0, 0)) z4_12 hb); (try clear HB); (try clear BK1); (try clear BK6); have HB := n0_; have BK1 := n1_; have BK6 := n2_; clear n0_ n1_ n2_; clear hb
            refine hK.out _ _ ⟨(blk_cell BK6.out 0).trans rfl, (blk_cell BK6.out 1).trans rfl, (blk_cell BK1.out 3).trans rfl, (HB.out.cell (World.block_lt_of_cell? w _ hp0)).trans hp0⟩ (fun hHeld => ?_)
            clear hK K
            refine norm_ (a' := ?_) ?_ ?_
            rotate_left
            · show Act.put _ (some 93) _ = _
              simp only [Act.put, List.setIfInBounds_toArray, List.set_cons_zero, List.set_cons_succ, i64_w, i32_w]
              rfl
            refine impl_RoomOk.pS 3 (some 94) impl_RoomOk.q4 HT_.out ?_
            refine impl_RoomOk.pS 4 (some 95) impl_RoomOk.q5 HT_.out ?_
            refine impl_RoomOk.pS 5 (some 96) impl_RoomOk.q6 HT_.out ?_
            refine impl_RoomOk.pS 6 (some 97) impl_RoomOk.q7 HT_.out ?_
            refine impl_RoomOk.pS 7 (some 98) impl_RoomOk.q8 HT_.out ?_
            refine impl_RoomOk.pS 8 (some 99) impl_RoomOk.q9 HT_.out ?_
            refine impl_RoomOk.pS 10 (some 101) impl_RoomOk.q32 HT_.out ?_
            refine impl_RoomOk.pS 11 (some 102) impl_RoomOk.q33 HT_.out ?_
            refine impl_RoomOk.pS 15 (some 106) impl_RoomOk.q34 HT_.out ?_
            refine impl_RoomOk.tS 9 (some 100) impl_RoomOk.q35 HT_.out HW_.out hHeld ?_
            refine impl_RoomOk.pS 12 (some 103) impl_RoomOk.q36 HT_.out ?_
            refine impl_RoomOk.pS 13 (some 104) impl_RoomOk.q37 HT_.out ?_
            refine impl_RoomOk.tS 14 (some 105) impl_RoomOk.q16 HT_.out HW_.out hHeld ?_
            refine impl_RoomOk.tS 16 (some 107) impl_RoomOk.q17 HT_.out HW_.out hHeld ?_
            refine impl_RoomOk.pS 17 (some 108) impl_RoomOk.q18 HT_.out ?_
            refine impl_RoomOk.pS 18 (some 109) impl_RoomOk.q19 HT_.out ?_
            refine impl_RoomOk.pS 19 (some 110) impl_RoomOk.q20 HT_.out ?_
            refine impl_RoomOk.pS 20 (some 111) impl_RoomOk.q21 HT_.out ?_
            refine impl_RoomOk.uS 21 (some 112) impl_RoomOk.q22 HT_.out ?_
            refine impl_RoomOk.uS 22 (some 113) impl_RoomOk.q23 HT_.out ?_
            refine impl_RoomOk.uS 23 (some 114) impl_RoomOk.q24 HT_.out ?_
            refine impl_RoomOk.uS 24 (some 115) impl_RoomOk.q25 HT_.out ?_
            refine impl_RoomOk.pS 25 (some 116) impl_RoomOk.q26 HT_.out ?_
            refine impl_RoomOk.pS 26 (some 117) impl_RoomOk.q27 HT_.out ?_
            refine impl_RoomOk.uS 27 (some 118) impl_RoomOk.q28 HT_.out ?_
            refine impl_RoomOk.uS 28 (some 119) impl_RoomOk.q29 HT_.out ?_
            refine impl_RoomOk.uS 29 (some 120) impl_RoomOk.q30 HT_.out ?_
            refine impl_RoomOk.pS 30 (some 121) impl_RoomOk.q31 HT_.out ?_
            refine done_ (done_of HT_.out (by kernel_rfl)) ?_
            go_wp2
            go_ret
            exact ⟨by rw [← H.out, FM.out]; rfl, z4_7⟩
          | true =>
            have FM' := Aside0.mk (FM.out)
            rw [hL, hB] at FM'
            clear FM
            have FM := FM'
            clear FM'
            cases wi with
            | false =>
              go_wp2_with (first | ((with_reducible refine gate_dst (N := 6) rfl ?_); refine box_event ?hg (N := 6) ?hd (cs := #[.string (⟨#[]⟩ : ByteArray), .int .i64 0]) (t := 92) ?hr ?_; (case hd => rfl); (case hg => rfl); (case hr => first | (go_simp; done) | (go_simp; rfl)); intro g6 hg w1 hbox hb; have n0_ := Aside0.mk (below_step z4_8 hb); have n1_ := Aside0.mk (blk_below (g := g1) (o := .cells #[.string a0_0, .int .i64 a0_1, .slice A0_2 l0_2.length c0_2, .slice (some ad) l0_3.length c0_3, .string a0_4] 62 (0, 0)) z4_10 hb); have n2_ := Aside0.mk (hbox); have n3_ := Aside0.mk ((by rw [hg]; exact (below_size z4_8) : w.heap.size ≤ g6)); have n4_ := Aside0.mk ((by rw [hg]; exact Nat.ne_of_lt (blk_lt (g := g1) (o := .cells #[.string a0_0, .int .i64 a0_1, .slice A0_2 l0_2.length c0_2, .slice (some ad) l0_3.length c0_3, .string a0_4] 62 (0, 0)) z4_10) : g1 ≠ g6)); have n5_ := Aside0.mk ((by rw [hg]; exact Nat.ne_of_gt (blk_lt (g := g1) (o := .cells #[.string a0_0, .int .i64 a0_1, .slice A0_2 l0_2.length c0_2, .slice (some ad) l0_3.length c0_3, .string a0_4] 62 (0, 0)) z4_10) : g6 ≠ g1)); (try clear HB); (try clear BK1); (try clear BK6); (try clear GE6); (try clear NB1_6); (try clear NB6_1); have HB := n0_; have BK1 := n1_; have BK6 := n2_; have GE6 := n3_; have NB1_6 := n4_; have NB6_1 := n5_; clear n0_ n1_ n2_ n3_ n4_ n5_; clear hb hbox hg; have hz1_0 : w1.cell? ⟨g1, 0, none⟩ = some (.string a0_0) := (blk_cell BK1.out 0).trans rfl; have hy1_0 := blk_frozen BK1.out 0; have hz1_1 : w1.cell? ⟨g1, 1, none⟩ = some (.int .i64 a0_1) := (blk_cell BK1.out 1).trans rfl; have hy1_1 := blk_frozen BK1.out 1; have hz1_2 : w1.cell? ⟨g1, 2, none⟩ = some (.slice A0_2 l0_2.length c0_2) := (blk_cell BK1.out 2).trans rfl; have hy1_2 := blk_frozen BK1.out 2; have hz1_3 : w1.cell? ⟨g1, 3, none⟩ = some (.slice (some ad) l0_3.length c0_3) := (blk_cell BK1.out 3).trans rfl; have hy1_3 := blk_frozen BK1.out 3; have hz1_4 : w1.cell? ⟨g1, 4, none⟩ = some (.string a0_4) := (blk_cell BK1.out 4).trans rfl; have hy1_4 := blk_frozen BK1.out 4; have hz6_0 : w1.cell? ⟨g6, 0, none⟩ = some (.string (⟨#[]⟩ : ByteArray)) := (blk_cell BK6.out 0).trans rfl; have hy6_0 := blk_frozen BK6.out 0; have hz6_1 : w1.cell? ⟨g6, 1, none⟩ = some (.int .i64 0) := (blk_cell BK6.out 1).trans rfl; have hy6_1 := blk_frozen BK6.out 1; have hn1_6 := NB1_6.out; have hn6_1 := NB6_1.out))
              have n0_ : Aside0 (((w1.setCell ⟨g6, 0, none⟩ (.string x.f0)).setCell ⟨g6, 1, none⟩ (.int .i64 x.f1)).heap[g1]? = some (.cells #[.string a0_0, .int .i64 a0_1, .slice A0_2 l0_2.length c0_2, .slice (some ad) l0_3.length c0_3, .string a0_4] 62 (0, 0))) := ⟨z4_3⟩
              have n1_ : Aside0 (((w1.setCell ⟨g6, 0, none⟩ (.string x.f0)).setCell ⟨g6, 1, none⟩ (.int .i64 x.f1)).heap[g6]? = some (.cells #[.string x.f0, .int .i64 x.f1] 92 (0, 0))) := ⟨z4_2⟩
              have n2_ : Aside0 (Below w.heap.size w ((w1.setCell ⟨g6, 0, none⟩ (.string x.f0)).setCell ⟨g6, 1, none⟩ (.int .i64 x.f1))) := ⟨z4_7⟩
              try clear hz1_0
              try clear hy1_0
              try clear hz1_1
              try clear hy1_1
              try clear hz1_2
              try clear hy1_2
              try clear hz1_3
              try clear hy1_3
              try clear hz1_4
              try clear hy1_4
              try clear hz6_0
              try clear hy6_0
              try clear hz6_1
              try clear hy6_1
              try clear hn1_6
              try clear hn6_1
              try clear hr_0
              try clear hr_1
              try clear hr_2
              try clear hr_3
              try clear hr_4
              try clear BK1 BK6 HB
              generalize ((w1.setCell ⟨g6, 0, none⟩ (.string x.f0)).setCell ⟨g6, 1, none⟩ (.int .i64 x.f1)) = v1 at n0_ n1_ n2_ ⊢
              have BK1 := Aside0.mk (blk_drew n0_.out)
              have BK6 := Aside0.mk (blk_drew n1_.out)
              have HB := Aside0.mk (below_drew1 n2_.out)
              clear n0_ n1_ n2_
              refine start_ (n := 31) (S := fun w' => w'.cell? ⟨g6, 0, none⟩ = some (.string x.f0) ∧ w'.cell? ⟨g6, 1, none⟩ = some (.int .i64 x.f1) ∧ w'.cell? ⟨g1, 3, none⟩ = some (.slice (some ad) l0_3.length c0_3) ∧ w'.cell? (ad.add (ji.toNat * 2)) = some (.string y.f0)) (ds := []) impl_RoomOk.q0 (by kernel_rfl) rfl rfl ⟨(blk_cell BK6.out 0).trans rfl, (blk_cell BK6.out 1).trans rfl, (blk_cell BK1.out 3).trans rfl, (HB.out.cell (World.block_lt_of_cell? w _ hp0)).trans hp0⟩ (fun hHeld => ?_)
              refine with_tabW impl_RoomOk.tab12 impl_RoomOk.bits12 (fun HT_ HW_ => ?_)
              generalize v1.drew = v2 at BK1 BK6 HB hHeld ⊢
              refine impl_RoomOk.pS 0 (some 91) impl_RoomOk.q1 HT_.out ?_
              refine impl_RoomOk.tS 1 (some 92) impl_RoomOk.q2 HT_.out HW_.out hHeld ?_
              refine one_ (i := 2) (N := some 93) impl_RoomOk.q3 rfl rfl (one_of HT_.out (by kernel_rfl)) (by decide) (fun K hK => ?_)
              refine goes_ Tryd.func47 (by kernel_rfl) rfl #[.string x.f0] (by rfl) rfl rfl z4_13 ?_
              with_reducible refine (impl_userOk.calls x.f0 true _ F1.out).mono ?_
              rintro e v3 ⟨rfl, hb⟩
              refine ⟨_, rfl, ?_⟩
              have n0_ := Aside0.mk (below_step z4_7 hb); have n1_ := Aside0.mk (blk_below (g := g1) (o := .cells #[.string a0_0, .int .i64 a0_1, .slice A0_2 l0_2.length c0_2, .slice (some ad) l0_3.length c0_3, .string a0_4] 62 (0, 0)) z4_10 hb); have n2_ := Aside0.mk (blk_below (g := g6) (o := .cells #[.string x.f0, .int .i64 x.f1] 92 (0, 0)) z4_12 hb); (try clear HB); (try clear BK1); (try clear BK6); have HB := n0_; have BK1 := n1_; have BK6 := n2_; clear n0_ n1_ n2_; clear hb
              refine hK.out _ _ ⟨(blk_cell BK6.out 0).trans rfl, (blk_cell BK6.out 1).trans rfl, (blk_cell BK1.out 3).trans rfl, (HB.out.cell (World.block_lt_of_cell? w _ hp0)).trans hp0⟩ (fun hHeld => ?_)
              clear hK K
              refine norm_ (a' := ?_) ?_ ?_
              rotate_left
              · show Act.put _ (some 93) _ = _
                simp only [Act.put, List.setIfInBounds_toArray, List.set_cons_zero, List.set_cons_succ, i64_w, i32_w]
                rfl
              refine impl_RoomOk.pS 3 (some 94) impl_RoomOk.q4 HT_.out ?_
              refine impl_RoomOk.pS 4 (some 95) impl_RoomOk.q5 HT_.out ?_
              refine impl_RoomOk.pS 5 (some 96) impl_RoomOk.q6 HT_.out ?_
              refine impl_RoomOk.pS 6 (some 97) impl_RoomOk.q7 HT_.out ?_
              refine impl_RoomOk.pS 7 (some 98) impl_RoomOk.q8 HT_.out ?_
              refine impl_RoomOk.pS 8 (some 99) impl_RoomOk.q9 HT_.out ?_
              refine impl_RoomOk.pS 10 (some 101) impl_RoomOk.q32 HT_.out ?_
              refine impl_RoomOk.pS 11 (some 102) impl_RoomOk.q33 HT_.out ?_
              refine impl_RoomOk.pS 15 (some 106) impl_RoomOk.q34 HT_.out ?_
              refine impl_RoomOk.tS 9 (some 100) impl_RoomOk.q35 HT_.out HW_.out hHeld ?_
              refine impl_RoomOk.pS 12 (some 103) impl_RoomOk.q36 HT_.out ?_
              refine impl_RoomOk.pS 13 (some 104) impl_RoomOk.q37 HT_.out ?_
              refine impl_RoomOk.tS 14 (some 105) impl_RoomOk.q16 HT_.out HW_.out hHeld ?_
              refine impl_RoomOk.tS 16 (some 107) impl_RoomOk.q17 HT_.out HW_.out hHeld ?_
              refine impl_RoomOk.pS 17 (some 108) impl_RoomOk.q18 HT_.out ?_
              refine impl_RoomOk.pS 18 (some 109) impl_RoomOk.q19 HT_.out ?_
              refine impl_RoomOk.pS 19 (some 110) impl_RoomOk.q20 HT_.out ?_
              refine impl_RoomOk.pS 20 (some 111) impl_RoomOk.q21 HT_.out ?_
              refine impl_RoomOk.pS 21 (some 112) impl_RoomOk.q22 HT_.out ?_
              refine impl_RoomOk.tS 22 (some 113) impl_RoomOk.q23 HT_.out HW_.out hHeld ?_
              refine one_ (i := 23) (N := some 114) impl_RoomOk.q24 rfl rfl (one_of HT_.out (by kernel_rfl)) (by decide) (fun K hK => ?_)
              refine goes_ Tryd.func65 (by kernel_rfl) rfl #[.int .i64 x.f1, .int .i64 0, .int .i64 4] (by rfl) rfl rfl z4_13 ?_
              with_reducible refine (impl_within.calls x.f1 0 4 false _ F2.out).mono ?_
              rintro e w' ⟨rfl, ⟨nd, rfl⟩⟩
              refine ⟨_, rfl, ?_⟩
              refine hK.out _ _ ⟨(blk_cell BK6.out 0).trans rfl, (blk_cell BK6.out 1).trans rfl, (blk_cell BK1.out 3).trans rfl, (HB.out.cell (World.block_lt_of_cell? w _ hp0)).trans hp0⟩ (fun hHeld => ?_)
              clear hK K
              refine norm_ (a' := ?_) ?_ ?_
              rotate_left
              · show Act.put _ (some 114) _ = _
                simp only [Act.put, List.setIfInBounds_toArray, List.set_cons_zero, List.set_cons_succ, i64_w, i32_w]
                rfl
              refine impl_RoomOk.pS 24 (some 115) impl_RoomOk.q25 HT_.out ?_
              refine impl_RoomOk.pS 25 (some 116) impl_RoomOk.q26 HT_.out ?_
              refine impl_RoomOk.pS 26 (some 117) impl_RoomOk.q27 HT_.out ?_
              refine impl_RoomOk.uS 27 (some 118) impl_RoomOk.q28 HT_.out ?_
              refine impl_RoomOk.uS 28 (some 119) impl_RoomOk.q29 HT_.out ?_
              refine impl_RoomOk.uS 29 (some 120) impl_RoomOk.q30 HT_.out ?_
              refine impl_RoomOk.pS 30 (some 121) impl_RoomOk.q31 HT_.out ?_
              refine done_ (done_of HT_.out (by kernel_rfl)) ?_
              go_wp2
              go_ret
              exact ⟨by rw [← H.out, FM.out]; rfl, z4_7⟩
            | true =>
            by_cases e1 : x.f1 = 1
            case pos =>
              have e1b : (x.f1 == 1) = true := beq_iff_eq.mpr e1
              have FM' := Aside0.mk (FM.out)
              rw [e1b] at FM'
              clear FM
              have FM := FM'
              clear FM'
              clear e1
              go_wp2_with (first | ((with_reducible refine gate_dst (N := 6) rfl ?_); refine box_event ?hg (N := 6) ?hd (cs := #[.string (⟨#[]⟩ : ByteArray), .int .i64 0]) (t := 92) ?hr ?_; (case hd => rfl); (case hg => rfl); (case hr => first | (go_simp; done) | (go_simp; rfl)); intro g6 hg w1 hbox hb; have n0_ := Aside0.mk (below_step z4_8 hb); have n1_ := Aside0.mk (blk_below (g := g1) (o := .cells #[.string a0_0, .int .i64 a0_1, .slice A0_2 l0_2.length c0_2, .slice (some ad) l0_3.length c0_3, .string a0_4] 62 (0, 0)) z4_10 hb); have n2_ := Aside0.mk (hbox); have n3_ := Aside0.mk ((by rw [hg]; exact (below_size z4_8) : w.heap.size ≤ g6)); have n4_ := Aside0.mk ((by rw [hg]; exact Nat.ne_of_lt (blk_lt (g := g1) (o := .cells #[.string a0_0, .int .i64 a0_1, .slice A0_2 l0_2.length c0_2, .slice (some ad) l0_3.length c0_3, .string a0_4] 62 (0, 0)) z4_10) : g1 ≠ g6)); have n5_ := Aside0.mk ((by rw [hg]; exact Nat.ne_of_gt (blk_lt (g := g1) (o := .cells #[.string a0_0, .int .i64 a0_1, .slice A0_2 l0_2.length c0_2, .slice (some ad) l0_3.length c0_3, .string a0_4] 62 (0, 0)) z4_10) : g6 ≠ g1)); (try clear HB); (try clear BK1); (try clear BK6); (try clear GE6); (try clear NB1_6); (try clear NB6_1); have HB := n0_; have BK1 := n1_; have BK6 := n2_; have GE6 := n3_; have NB1_6 := n4_; have NB6_1 := n5_; clear n0_ n1_ n2_ n3_ n4_ n5_; clear hb hbox hg; have hz1_0 : w1.cell? ⟨g1, 0, none⟩ = some (.string a0_0) := (blk_cell BK1.out 0).trans rfl; have hy1_0 := blk_frozen BK1.out 0; have hz1_1 : w1.cell? ⟨g1, 1, none⟩ = some (.int .i64 a0_1) := (blk_cell BK1.out 1).trans rfl; have hy1_1 := blk_frozen BK1.out 1; have hz1_2 : w1.cell? ⟨g1, 2, none⟩ = some (.slice A0_2 l0_2.length c0_2) := (blk_cell BK1.out 2).trans rfl; have hy1_2 := blk_frozen BK1.out 2; have hz1_3 : w1.cell? ⟨g1, 3, none⟩ = some (.slice (some ad) l0_3.length c0_3) := (blk_cell BK1.out 3).trans rfl; have hy1_3 := blk_frozen BK1.out 3; have hz1_4 : w1.cell? ⟨g1, 4, none⟩ = some (.string a0_4) := (blk_cell BK1.out 4).trans rfl; have hy1_4 := blk_frozen BK1.out 4; have hz6_0 : w1.cell? ⟨g6, 0, none⟩ = some (.string (⟨#[]⟩ : ByteArray)) := (blk_cell BK6.out 0).trans rfl; have hy6_0 := blk_frozen BK6.out 0; have hz6_1 : w1.cell? ⟨g6, 1, none⟩ = some (.int .i64 0) := (blk_cell BK6.out 1).trans rfl; have hy6_1 := blk_frozen BK6.out 1; have hn1_6 := NB1_6.out; have hn6_1 := NB6_1.out))
              have n0_ : Aside0 (((w1.setCell ⟨g6, 0, none⟩ (.string x.f0)).setCell ⟨g6, 1, none⟩ (.int .i64 x.f1)).heap[g1]? = some (.cells #[.string a0_0, .int .i64 a0_1, .slice A0_2 l0_2.length c0_2, .slice (some ad) l0_3.length c0_3, .string a0_4] 62 (0, 0))) := ⟨z4_3⟩
              have n1_ : Aside0 (((w1.setCell ⟨g6, 0, none⟩ (.string x.f0)).setCell ⟨g6, 1, none⟩ (.int .i64 x.f1)).heap[g6]? = some (.cells #[.string x.f0, .int .i64 x.f1] 92 (0, 0))) := ⟨z4_2⟩
              have n2_ : Aside0 (Below w.heap.size w ((w1.setCell ⟨g6, 0, none⟩ (.string x.f0)).setCell ⟨g6, 1, none⟩ (.int .i64 x.f1))) := ⟨z4_7⟩
              try clear hz1_0
              try clear hy1_0
              try clear hz1_1
              try clear hy1_1
              try clear hz1_2
              try clear hy1_2
              try clear hz1_3
              try clear hy1_3
              try clear hz1_4
              try clear hy1_4
              try clear hz6_0
              try clear hy6_0
              try clear hz6_1
              try clear hy6_1
              try clear hn1_6
              try clear hn6_1
              try clear hr_0
              try clear hr_1
              try clear hr_2
              try clear hr_3
              try clear hr_4
              try clear BK1 BK6 HB
              generalize ((w1.setCell ⟨g6, 0, none⟩ (.string x.f0)).setCell ⟨g6, 1, none⟩ (.int .i64 x.f1)) = v1 at n0_ n1_ n2_ ⊢
              have BK1 := Aside0.mk (blk_drew n0_.out)
              have BK6 := Aside0.mk (blk_drew n1_.out)
              have HB := Aside0.mk (below_drew1 n2_.out)
              clear n0_ n1_ n2_
              refine start_ (n := 31) (S := fun w' => w'.cell? ⟨g6, 0, none⟩ = some (.string x.f0) ∧ w'.cell? ⟨g6, 1, none⟩ = some (.int .i64 x.f1) ∧ w'.cell? ⟨g1, 3, none⟩ = some (.slice (some ad) l0_3.length c0_3) ∧ w'.cell? (ad.add (ji.toNat * 2)) = some (.string y.f0)) (ds := []) impl_RoomOk.q0 (by kernel_rfl) rfl rfl ⟨(blk_cell BK6.out 0).trans rfl, (blk_cell BK6.out 1).trans rfl, (blk_cell BK1.out 3).trans rfl, (HB.out.cell (World.block_lt_of_cell? w _ hp0)).trans hp0⟩ (fun hHeld => ?_)
              refine with_tabW impl_RoomOk.tab12 impl_RoomOk.bits12 (fun HT_ HW_ => ?_)
              generalize v1.drew = v2 at BK1 BK6 HB hHeld ⊢
              refine impl_RoomOk.pS 0 (some 91) impl_RoomOk.q1 HT_.out ?_
              refine impl_RoomOk.tS 1 (some 92) impl_RoomOk.q2 HT_.out HW_.out hHeld ?_
              refine one_ (i := 2) (N := some 93) impl_RoomOk.q3 rfl rfl (one_of HT_.out (by kernel_rfl)) (by decide) (fun K hK => ?_)
              refine goes_ Tryd.func47 (by kernel_rfl) rfl #[.string x.f0] (by rfl) rfl rfl z4_13 ?_
              with_reducible refine (impl_userOk.calls x.f0 true _ F1.out).mono ?_
              rintro e v3 ⟨rfl, hb⟩
              refine ⟨_, rfl, ?_⟩
              have n0_ := Aside0.mk (below_step z4_7 hb); have n1_ := Aside0.mk (blk_below (g := g1) (o := .cells #[.string a0_0, .int .i64 a0_1, .slice A0_2 l0_2.length c0_2, .slice (some ad) l0_3.length c0_3, .string a0_4] 62 (0, 0)) z4_10 hb); have n2_ := Aside0.mk (blk_below (g := g6) (o := .cells #[.string x.f0, .int .i64 x.f1] 92 (0, 0)) z4_12 hb); (try clear HB); (try clear BK1); (try clear BK6); have HB := n0_; have BK1 := n1_; have BK6 := n2_; clear n0_ n1_ n2_; clear hb
              refine hK.out _ _ ⟨(blk_cell BK6.out 0).trans rfl, (blk_cell BK6.out 1).trans rfl, (blk_cell BK1.out 3).trans rfl, (HB.out.cell (World.block_lt_of_cell? w _ hp0)).trans hp0⟩ (fun hHeld => ?_)
              clear hK K
              refine norm_ (a' := ?_) ?_ ?_
              rotate_left
              · show Act.put _ (some 93) _ = _
                simp only [Act.put, List.setIfInBounds_toArray, List.set_cons_zero, List.set_cons_succ, i64_w, i32_w]
                rfl
              refine impl_RoomOk.pS 3 (some 94) impl_RoomOk.q4 HT_.out ?_
              refine impl_RoomOk.pS 4 (some 95) impl_RoomOk.q5 HT_.out ?_
              refine impl_RoomOk.pS 5 (some 96) impl_RoomOk.q6 HT_.out ?_
              refine impl_RoomOk.pS 6 (some 97) impl_RoomOk.q7 HT_.out ?_
              refine impl_RoomOk.pS 7 (some 98) impl_RoomOk.q8 HT_.out ?_
              refine impl_RoomOk.pS 8 (some 99) impl_RoomOk.q9 HT_.out ?_
              refine impl_RoomOk.pS 10 (some 101) impl_RoomOk.q32 HT_.out ?_
              refine impl_RoomOk.pS 11 (some 102) impl_RoomOk.q33 HT_.out ?_
              refine impl_RoomOk.pS 15 (some 106) impl_RoomOk.q34 HT_.out ?_
              refine impl_RoomOk.tS 9 (some 100) impl_RoomOk.q35 HT_.out HW_.out hHeld ?_
              refine impl_RoomOk.pS 12 (some 103) impl_RoomOk.q36 HT_.out ?_
              refine impl_RoomOk.pS 13 (some 104) impl_RoomOk.q37 HT_.out ?_
              refine impl_RoomOk.tS 14 (some 105) impl_RoomOk.q16 HT_.out HW_.out hHeld ?_
              refine impl_RoomOk.tS 16 (some 107) impl_RoomOk.q17 HT_.out HW_.out hHeld ?_
              refine impl_RoomOk.pS 17 (some 108) impl_RoomOk.q18 HT_.out ?_
              refine impl_RoomOk.pS 18 (some 109) impl_RoomOk.q19 HT_.out ?_
              refine impl_RoomOk.pS 19 (some 110) impl_RoomOk.q20 HT_.out ?_
              refine impl_RoomOk.pS 20 (some 111) impl_RoomOk.q21 HT_.out ?_
              refine impl_RoomOk.pS 21 (some 112) impl_RoomOk.q22 HT_.out ?_
              refine impl_RoomOk.tS 22 (some 113) impl_RoomOk.q23 HT_.out HW_.out hHeld ?_
              refine one_ (i := 23) (N := some 114) impl_RoomOk.q24 rfl rfl (one_of HT_.out (by kernel_rfl)) (by decide) (fun K hK => ?_)
              refine goes_ Tryd.func65 (by kernel_rfl) rfl #[.int .i64 x.f1, .int .i64 0, .int .i64 4] (by rfl) rfl rfl z4_13 ?_
              with_reducible refine (impl_within.calls x.f1 0 4 true _ F2.out).mono ?_
              rintro e w' ⟨rfl, ⟨nd, rfl⟩⟩
              refine ⟨_, rfl, ?_⟩
              refine hK.out _ _ ⟨(blk_cell BK6.out 0).trans rfl, (blk_cell BK6.out 1).trans rfl, (blk_cell BK1.out 3).trans rfl, (HB.out.cell (World.block_lt_of_cell? w _ hp0)).trans hp0⟩ (fun hHeld => ?_)
              clear hK K
              refine norm_ (a' := ?_) ?_ ?_
              rotate_left
              · show Act.put _ (some 114) _ = _
                simp only [Act.put, List.setIfInBounds_toArray, List.set_cons_zero, List.set_cons_succ, i64_w, i32_w]
                rfl
              refine impl_RoomOk.pS 24 (some 115) impl_RoomOk.q25 HT_.out ?_
              refine impl_RoomOk.pS 25 (some 116) impl_RoomOk.q26 HT_.out ?_
              refine impl_RoomOk.pS 26 (some 117) impl_RoomOk.q27 HT_.out ?_
              refine impl_RoomOk.pS 27 (some 118) impl_RoomOk.q28 HT_.out ?_
              refine impl_RoomOk.tS 28 (some 119) impl_RoomOk.q29 HT_.out HW_.out hHeld ?_
              refine impl_RoomOk.pS 29 (some 120) impl_RoomOk.q30 HT_.out ?_
              refine impl_RoomOk.pS 30 (some 121) impl_RoomOk.q31 HT_.out ?_
              refine done_ (done_of HT_.out (by kernel_rfl)) ?_
              go_wp2
              go_ret
              exact ⟨by rw [← H.out, FM.out]; rfl, z4_7⟩
            have e1b : (x.f1 == 1) = false := beq_eq_false_iff_ne.mpr e1
            have FM' : Aside0 (q = b) := ⟨by rw [FM.out, e1b]; rfl⟩
            clear FM
            go_wp2_with (first | ((with_reducible refine gate_dst (N := 6) rfl ?_); refine box_event ?hg (N := 6) ?hd (cs := #[.string (⟨#[]⟩ : ByteArray), .int .i64 0]) (t := 92) ?hr ?_; (case hd => rfl); (case hg => rfl); (case hr => first | (go_simp; done) | (go_simp; rfl)); intro g6 hg w1 hbox hb; have n0_ := Aside0.mk (below_step z4_8 hb); have n1_ := Aside0.mk (blk_below (g := g1) (o := .cells #[.string a0_0, .int .i64 a0_1, .slice A0_2 l0_2.length c0_2, .slice (some ad) l0_3.length c0_3, .string a0_4] 62 (0, 0)) z4_10 hb); have n2_ := Aside0.mk (hbox); have n3_ := Aside0.mk ((by rw [hg]; exact (below_size z4_8) : w.heap.size ≤ g6)); have n4_ := Aside0.mk ((by rw [hg]; exact Nat.ne_of_lt (blk_lt (g := g1) (o := .cells #[.string a0_0, .int .i64 a0_1, .slice A0_2 l0_2.length c0_2, .slice (some ad) l0_3.length c0_3, .string a0_4] 62 (0, 0)) z4_10) : g1 ≠ g6)); have n5_ := Aside0.mk ((by rw [hg]; exact Nat.ne_of_gt (blk_lt (g := g1) (o := .cells #[.string a0_0, .int .i64 a0_1, .slice A0_2 l0_2.length c0_2, .slice (some ad) l0_3.length c0_3, .string a0_4] 62 (0, 0)) z4_10) : g6 ≠ g1)); (try clear HB); (try clear BK1); (try clear BK6); (try clear GE6); (try clear NB1_6); (try clear NB6_1); have HB := n0_; have BK1 := n1_; have BK6 := n2_; have GE6 := n3_; have NB1_6 := n4_; have NB6_1 := n5_; clear n0_ n1_ n2_ n3_ n4_ n5_; clear hb hbox hg; have hz1_0 : w1.cell? ⟨g1, 0, none⟩ = some (.string a0_0) := (blk_cell BK1.out 0).trans rfl; have hy1_0 := blk_frozen BK1.out 0; have hz1_1 : w1.cell? ⟨g1, 1, none⟩ = some (.int .i64 a0_1) := (blk_cell BK1.out 1).trans rfl; have hy1_1 := blk_frozen BK1.out 1; have hz1_2 : w1.cell? ⟨g1, 2, none⟩ = some (.slice A0_2 l0_2.length c0_2) := (blk_cell BK1.out 2).trans rfl; have hy1_2 := blk_frozen BK1.out 2; have hz1_3 : w1.cell? ⟨g1, 3, none⟩ = some (.slice (some ad) l0_3.length c0_3) := (blk_cell BK1.out 3).trans rfl; have hy1_3 := blk_frozen BK1.out 3; have hz1_4 : w1.cell? ⟨g1, 4, none⟩ = some (.string a0_4) := (blk_cell BK1.out 4).trans rfl; have hy1_4 := blk_frozen BK1.out 4; have hz6_0 : w1.cell? ⟨g6, 0, none⟩ = some (.string (⟨#[]⟩ : ByteArray)) := (blk_cell BK6.out 0).trans rfl; have hy6_0 := blk_frozen BK6.out 0; have hz6_1 : w1.cell? ⟨g6, 1, none⟩ = some (.int .i64 0) := (blk_cell BK6.out 1).trans rfl; have hy6_1 := blk_frozen BK6.out 1; have hn1_6 := NB1_6.out; have hn6_1 := NB6_1.out))
            have n0_ : Aside0 (((w1.setCell ⟨g6, 0, none⟩ (.string x.f0)).setCell ⟨g6, 1, none⟩ (.int .i64 x.f1)).heap[g1]? = some (.cells #[.string a0_0, .int .i64 a0_1, .slice A0_2 l0_2.length c0_2, .slice (some ad) l0_3.length c0_3, .string a0_4] 62 (0, 0))) := ⟨z4_3⟩
            have n1_ : Aside0 (((w1.setCell ⟨g6, 0, none⟩ (.string x.f0)).setCell ⟨g6, 1, none⟩ (.int .i64 x.f1)).heap[g6]? = some (.cells #[.string x.f0, .int .i64 x.f1] 92 (0, 0))) := ⟨z4_2⟩
            have n2_ : Aside0 (Below w.heap.size w ((w1.setCell ⟨g6, 0, none⟩ (.string x.f0)).setCell ⟨g6, 1, none⟩ (.int .i64 x.f1))) := ⟨z4_7⟩
            try clear hz1_0
            try clear hy1_0
            try clear hz1_1
            try clear hy1_1
            try clear hz1_2
            try clear hy1_2
            try clear hz1_3
            try clear hy1_3
            try clear hz1_4
            try clear hy1_4
            try clear hz6_0
            try clear hy6_0
            try clear hz6_1
            try clear hy6_1
            try clear hn1_6
            try clear hn6_1
            try clear hr_0
            try clear hr_1
            try clear hr_2
            try clear hr_3
            try clear hr_4
            try clear BK1 BK6 HB
            generalize ((w1.setCell ⟨g6, 0, none⟩ (.string x.f0)).setCell ⟨g6, 1, none⟩ (.int .i64 x.f1)) = v1 at n0_ n1_ n2_ ⊢
            have BK1 := Aside0.mk (blk_drew n0_.out)
            have BK6 := Aside0.mk (blk_drew n1_.out)
            have HB := Aside0.mk (below_drew1 n2_.out)
            clear n0_ n1_ n2_
            refine start_ (n := 31) (S := fun w' => w'.cell? ⟨g6, 0, none⟩ = some (.string x.f0) ∧ w'.cell? ⟨g6, 1, none⟩ = some (.int .i64 x.f1) ∧ w'.cell? ⟨g1, 3, none⟩ = some (.slice (some ad) l0_3.length c0_3) ∧ w'.cell? (ad.add (ji.toNat * 2)) = some (.string y.f0)) (ds := []) impl_RoomOk.q0 (by kernel_rfl) rfl rfl ⟨(blk_cell BK6.out 0).trans rfl, (blk_cell BK6.out 1).trans rfl, (blk_cell BK1.out 3).trans rfl, (HB.out.cell (World.block_lt_of_cell? w _ hp0)).trans hp0⟩ (fun hHeld => ?_)
            refine with_tabW impl_RoomOk.tab12 impl_RoomOk.bits12 (fun HT_ HW_ => ?_)
            generalize v1.drew = v2 at BK1 BK6 HB hHeld ⊢
            refine impl_RoomOk.pS 0 (some 91) impl_RoomOk.q1 HT_.out ?_
            refine impl_RoomOk.tS 1 (some 92) impl_RoomOk.q2 HT_.out HW_.out hHeld ?_
            refine one_ (i := 2) (N := some 93) impl_RoomOk.q3 rfl rfl (one_of HT_.out (by kernel_rfl)) (by decide) (fun K hK => ?_)
            refine goes_ Tryd.func47 (by kernel_rfl) rfl #[.string x.f0] (by rfl) rfl rfl z4_13 ?_
            with_reducible refine (impl_userOk.calls x.f0 true _ F1.out).mono ?_
            rintro e v3 ⟨rfl, hb⟩
            refine ⟨_, rfl, ?_⟩
            have n0_ := Aside0.mk (below_step z4_7 hb); have n1_ := Aside0.mk (blk_below (g := g1) (o := .cells #[.string a0_0, .int .i64 a0_1, .slice A0_2 l0_2.length c0_2, .slice (some ad) l0_3.length c0_3, .string a0_4] 62 (0, 0)) z4_10 hb); have n2_ := Aside0.mk (blk_below (g := g6) (o := .cells #[.string x.f0, .int .i64 x.f1] 92 (0, 0)) z4_12 hb); (try clear HB); (try clear BK1); (try clear BK6); have HB := n0_; have BK1 := n1_; have BK6 := n2_; clear n0_ n1_ n2_; clear hb
            refine hK.out _ _ ⟨(blk_cell BK6.out 0).trans rfl, (blk_cell BK6.out 1).trans rfl, (blk_cell BK1.out 3).trans rfl, (HB.out.cell (World.block_lt_of_cell? w _ hp0)).trans hp0⟩ (fun hHeld => ?_)
            clear hK K
            refine norm_ (a' := ?_) ?_ ?_
            rotate_left
            · show Act.put _ (some 93) _ = _
              simp only [Act.put, List.setIfInBounds_toArray, List.set_cons_zero, List.set_cons_succ, i64_w, i32_w]
              rfl
            refine impl_RoomOk.pS 3 (some 94) impl_RoomOk.q4 HT_.out ?_
            refine impl_RoomOk.pS 4 (some 95) impl_RoomOk.q5 HT_.out ?_
            refine impl_RoomOk.pS 5 (some 96) impl_RoomOk.q6 HT_.out ?_
            refine impl_RoomOk.pS 6 (some 97) impl_RoomOk.q7 HT_.out ?_
            refine impl_RoomOk.pS 7 (some 98) impl_RoomOk.q8 HT_.out ?_
            refine impl_RoomOk.pS 8 (some 99) impl_RoomOk.q9 HT_.out ?_
            refine impl_RoomOk.pS 10 (some 101) impl_RoomOk.q32 HT_.out ?_
            refine impl_RoomOk.pS 11 (some 102) impl_RoomOk.q33 HT_.out ?_
            refine impl_RoomOk.pS 15 (some 106) impl_RoomOk.q34 HT_.out ?_
            refine impl_RoomOk.tS 9 (some 100) impl_RoomOk.q35 HT_.out HW_.out hHeld ?_
            refine impl_RoomOk.pS 12 (some 103) impl_RoomOk.q36 HT_.out ?_
            refine impl_RoomOk.pS 13 (some 104) impl_RoomOk.q37 HT_.out ?_
            refine impl_RoomOk.tS 14 (some 105) impl_RoomOk.q16 HT_.out HW_.out hHeld ?_
            refine impl_RoomOk.tS 16 (some 107) impl_RoomOk.q17 HT_.out HW_.out hHeld ?_
            refine impl_RoomOk.pS 17 (some 108) impl_RoomOk.q18 HT_.out ?_
            refine impl_RoomOk.pS 18 (some 109) impl_RoomOk.q19 HT_.out ?_
            refine impl_RoomOk.pS 19 (some 110) impl_RoomOk.q20 HT_.out ?_
            refine impl_RoomOk.pS 20 (some 111) impl_RoomOk.q21 HT_.out ?_
            refine impl_RoomOk.pS 21 (some 112) impl_RoomOk.q22 HT_.out ?_
            refine impl_RoomOk.tS 22 (some 113) impl_RoomOk.q23 HT_.out HW_.out hHeld ?_
            refine one_ (i := 23) (N := some 114) impl_RoomOk.q24 rfl rfl (one_of HT_.out (by kernel_rfl)) (by decide) (fun K hK => ?_)
            refine goes_ Tryd.func65 (by kernel_rfl) rfl #[.int .i64 x.f1, .int .i64 0, .int .i64 4] (by rfl) rfl rfl z4_13 ?_
            with_reducible refine (impl_within.calls x.f1 0 4 true _ F2.out).mono ?_
            rintro e w' ⟨rfl, ⟨nd, rfl⟩⟩
            refine ⟨_, rfl, ?_⟩
            refine hK.out _ _ ⟨(blk_cell BK6.out 0).trans rfl, (blk_cell BK6.out 1).trans rfl, (blk_cell BK1.out 3).trans rfl, (HB.out.cell (World.block_lt_of_cell? w _ hp0)).trans hp0⟩ (fun hHeld => ?_)
            clear hK K
            refine norm_ (a' := ?_) ?_ ?_
            rotate_left
            · show Act.put _ (some 114) _ = _
              simp only [Act.put, List.setIfInBounds_toArray, List.set_cons_zero, List.set_cons_succ, i64_w, i32_w]
              rfl
            refine impl_RoomOk.pS 24 (some 115) impl_RoomOk.q25 HT_.out ?_
            refine impl_RoomOk.pS 25 (some 116) impl_RoomOk.q26 HT_.out ?_
            refine impl_RoomOk.pS 26 (some 117) impl_RoomOk.q27 HT_.out ?_
            refine impl_RoomOk.pS 27 (some 118) impl_RoomOk.q28 HT_.out ?_
            refine impl_RoomOk.tS 28 (some 119) impl_RoomOk.q29 HT_.out HW_.out hHeld ?_
            refine impl_RoomOk.pS 29 (some 120) impl_RoomOk.q30 HT_.out ?_
            refine impl_RoomOk.pS 30 (some 121) impl_RoomOk.q31 HT_.out ?_
            refine done_ (done_of HT_.out (by kernel_rfl)) ?_
            go_wp2
            go_roundg (gk - 1)
            case measure => have := HK.out; omega
            case rel => exact ⟨j + 1, by go_num, by omega, ⟨by have := HK.out; omega⟩, ⟨by rw [FM'.out]; exact F3.out⟩, ⟨z4_10⟩, ⟨z4_7⟩⟩
        · obtain rfl : j = l0_3.length := by omega
          have HQT : q = true := by
            have := HA.out
            rw [List.drop_length] at this
            exact (Option.some.inj this).symm
          subst HQT
          have H' : Aside0 (impl_RoomOk.tail ow a0_0 a0_1 l0_2 l0_3 a0_4 = r) := ⟨H.out⟩
          clear H HA hlt hj HK
          have H := H'
          clear H'
          have hr_0 : wr.cell? ⟨g1, 0, none⟩ = some (.string a0_0) := (blk_cell BK1.out 0).trans rfl
          have hr_1 : wr.cell? ⟨g1, 1, none⟩ = some (.int .i64 a0_1) := (blk_cell BK1.out 1).trans rfl
          have hr_2 : wr.cell? ⟨g1, 2, none⟩ = some (.slice A0_2 l0_2.length c0_2) := (blk_cell BK1.out 2).trans rfl
          have hr_3 : wr.cell? ⟨g1, 3, none⟩ = some (.slice A0_3 l0_3.length c0_3) := (blk_cell BK1.out 3).trans rfl
          have hr_4 : wr.cell? ⟨g1, 4, none⟩ = some (.string a0_4) := (blk_cell BK1.out 4).trans rfl
          by_cases t1 : 0 < ow
          case pos =>
            have t1b : decide (0 < ow) = true := decide_eq_true t1
            go_wp2_with (first | (go_at_call 76; (with_reducible refine (impl_Room_owners.calls k a0_0 a0_1 A0_2 c0_2 l0_2 A0_3 c0_3 l0_3 a0_4 ow _ z4_4 HC2.out z4_5 HC3.out HOW.out).mono ?_); rintro e w1 ⟨rfl, hb⟩; have n0_ := Aside0.mk (below_step z4_8 hb); have n1_ := Aside0.mk (blk_below (g := g1) (o := .cells #[.string a0_0, .int .i64 a0_1, .slice A0_2 l0_2.length c0_2, .slice A0_3 l0_3.length c0_3, .string a0_4] 62 (0, 0)) z4_10 hb); (try clear HB); (try clear BK1); have HB := n0_; have BK1 := n1_; clear n0_ n1_; (try clear hb); have hz1_0 : w1.cell? ⟨g1, 0, none⟩ = some (.string a0_0) := (blk_cell BK1.out 0).trans rfl; have hy1_0 := blk_frozen BK1.out 0; have hz1_1 : w1.cell? ⟨g1, 1, none⟩ = some (.int .i64 a0_1) := (blk_cell BK1.out 1).trans rfl; have hy1_1 := blk_frozen BK1.out 1; have hz1_2 : w1.cell? ⟨g1, 2, none⟩ = some (.slice A0_2 l0_2.length c0_2) := (blk_cell BK1.out 2).trans rfl; have hy1_2 := blk_frozen BK1.out 2; have hz1_3 : w1.cell? ⟨g1, 3, none⟩ = some (.slice A0_3 l0_3.length c0_3) := (blk_cell BK1.out 3).trans rfl; have hy1_3 := blk_frozen BK1.out 3; have hz1_4 : w1.cell? ⟨g1, 4, none⟩ = some (.string a0_4) := (blk_cell BK1.out 4).trans rfl; have hy1_4 := blk_frozen BK1.out 4))
            go_ret
            exact ⟨by rw [← H.out]; unfold impl_RoomOk.tail; rw [t1b]; rfl, z4_8⟩
          have t1b : decide (0 < ow) = false := decide_eq_false t1
          by_cases t2 : a0_1 = 0
          case neg =>
            have t2b : (a0_1 == 0) = false := beq_eq_false_iff_ne.mpr t2
            go_wp2_with (first | (go_at_call 76; (with_reducible refine (impl_Room_owners.calls k a0_0 a0_1 A0_2 c0_2 l0_2 A0_3 c0_3 l0_3 a0_4 ow _ z4_4 HC2.out z4_5 HC3.out HOW.out).mono ?_); rintro e w1 ⟨rfl, hb⟩; have n0_ := Aside0.mk (below_step z4_8 hb); have n1_ := Aside0.mk (blk_below (g := g1) (o := .cells #[.string a0_0, .int .i64 a0_1, .slice A0_2 l0_2.length c0_2, .slice A0_3 l0_3.length c0_3, .string a0_4] 62 (0, 0)) z4_10 hb); (try clear HB); (try clear BK1); have HB := n0_; have BK1 := n1_; clear n0_ n1_; (try clear hb); have hz1_0 : w1.cell? ⟨g1, 0, none⟩ = some (.string a0_0) := (blk_cell BK1.out 0).trans rfl; have hy1_0 := blk_frozen BK1.out 0; have hz1_1 : w1.cell? ⟨g1, 1, none⟩ = some (.int .i64 a0_1) := (blk_cell BK1.out 1).trans rfl; have hy1_1 := blk_frozen BK1.out 1; have hz1_2 : w1.cell? ⟨g1, 2, none⟩ = some (.slice A0_2 l0_2.length c0_2) := (blk_cell BK1.out 2).trans rfl; have hy1_2 := blk_frozen BK1.out 2; have hz1_3 : w1.cell? ⟨g1, 3, none⟩ = some (.slice A0_3 l0_3.length c0_3) := (blk_cell BK1.out 3).trans rfl; have hy1_3 := blk_frozen BK1.out 3; have hz1_4 : w1.cell? ⟨g1, 4, none⟩ = some (.string a0_4) := (blk_cell BK1.out 4).trans rfl; have hy1_4 := blk_frozen BK1.out 4))
            go_ret
            exact ⟨by rw [← H.out]; unfold impl_RoomOk.tail; rw [t1b, t2b]; rfl, z4_8⟩
          have t2b : (a0_1 == 0) = true := beq_iff_eq.mpr t2
          clear t2
          by_cases t3 : l0_2.length = 0
          case neg =>
            have t3b := Aside0.mk (decide_eq_false t3)
            have t3i : ((l0_2.length : Int) == 0) = false := beq_eq_false_iff_ne.mpr (by omega)
            go_wp2_with (first | (go_at_call 76; (with_reducible refine (impl_Room_owners.calls k a0_0 a0_1 A0_2 c0_2 l0_2 A0_3 c0_3 l0_3 a0_4 ow _ z4_4 HC2.out z4_5 HC3.out HOW.out).mono ?_); rintro e w1 ⟨rfl, hb⟩; have n0_ := Aside0.mk (below_step z4_8 hb); have n1_ := Aside0.mk (blk_below (g := g1) (o := .cells #[.string a0_0, .int .i64 a0_1, .slice A0_2 l0_2.length c0_2, .slice A0_3 l0_3.length c0_3, .string a0_4] 62 (0, 0)) z4_10 hb); (try clear HB); (try clear BK1); have HB := n0_; have BK1 := n1_; clear n0_ n1_; (try clear hb); have hz1_0 : w1.cell? ⟨g1, 0, none⟩ = some (.string a0_0) := (blk_cell BK1.out 0).trans rfl; have hy1_0 := blk_frozen BK1.out 0; have hz1_1 : w1.cell? ⟨g1, 1, none⟩ = some (.int .i64 a0_1) := (blk_cell BK1.out 1).trans rfl; have hy1_1 := blk_frozen BK1.out 1; have hz1_2 : w1.cell? ⟨g1, 2, none⟩ = some (.slice A0_2 l0_2.length c0_2) := (blk_cell BK1.out 2).trans rfl; have hy1_2 := blk_frozen BK1.out 2; have hz1_3 : w1.cell? ⟨g1, 3, none⟩ = some (.slice A0_3 l0_3.length c0_3) := (blk_cell BK1.out 3).trans rfl; have hy1_3 := blk_frozen BK1.out 3; have hz1_4 : w1.cell? ⟨g1, 4, none⟩ = some (.string a0_4) := (blk_cell BK1.out 4).trans rfl; have hy1_4 := blk_frozen BK1.out 4))
            go_ret
            exact ⟨by rw [← H.out]; unfold impl_RoomOk.tail; rw [t1b, t2b, t3b.out]; rfl, z4_8⟩
          have t3b := Aside0.mk (decide_eq_true t3)
          have t3i : ((l0_2.length : Int) == 0) = true := beq_iff_eq.mpr (by omega)
          clear t3
          by_cases t4 : l0_3.length = 0
          case neg =>
            have t4b := Aside0.mk (decide_eq_false t4)
            have t4i : ((l0_3.length : Int) == 0) = false := beq_eq_false_iff_ne.mpr (by omega)
            go_wp2_with (first | (go_at_call 76; (with_reducible refine (impl_Room_owners.calls k a0_0 a0_1 A0_2 c0_2 l0_2 A0_3 c0_3 l0_3 a0_4 ow _ z4_4 HC2.out z4_5 HC3.out HOW.out).mono ?_); rintro e w1 ⟨rfl, hb⟩; have n0_ := Aside0.mk (below_step z4_8 hb); have n1_ := Aside0.mk (blk_below (g := g1) (o := .cells #[.string a0_0, .int .i64 a0_1, .slice A0_2 l0_2.length c0_2, .slice A0_3 l0_3.length c0_3, .string a0_4] 62 (0, 0)) z4_10 hb); (try clear HB); (try clear BK1); have HB := n0_; have BK1 := n1_; clear n0_ n1_; (try clear hb); have hz1_0 : w1.cell? ⟨g1, 0, none⟩ = some (.string a0_0) := (blk_cell BK1.out 0).trans rfl; have hy1_0 := blk_frozen BK1.out 0; have hz1_1 : w1.cell? ⟨g1, 1, none⟩ = some (.int .i64 a0_1) := (blk_cell BK1.out 1).trans rfl; have hy1_1 := blk_frozen BK1.out 1; have hz1_2 : w1.cell? ⟨g1, 2, none⟩ = some (.slice A0_2 l0_2.length c0_2) := (blk_cell BK1.out 2).trans rfl; have hy1_2 := blk_frozen BK1.out 2; have hz1_3 : w1.cell? ⟨g1, 3, none⟩ = some (.slice A0_3 l0_3.length c0_3) := (blk_cell BK1.out 3).trans rfl; have hy1_3 := blk_frozen BK1.out 3; have hz1_4 : w1.cell? ⟨g1, 4, none⟩ = some (.string a0_4) := (blk_cell BK1.out 4).trans rfl; have hy1_4 := blk_frozen BK1.out 4))
            go_ret
            exact ⟨by rw [← H.out]; unfold impl_RoomOk.tail; rw [t1b, t2b, t3b.out, t4b.out]; rfl, z4_8⟩
          have t4b := Aside0.mk (decide_eq_true t4)
          have t4i : ((l0_3.length : Int) == 0) = true := beq_iff_eq.mpr (by omega)
          clear t4
          by_cases t5 : a0_4.toList = ([] : List UInt8)
          case pos =>
            have t5b : (a0_4.toList == ([] : List UInt8)) = true := beq_iff_eq.mpr t5
            have t5c : a0_4.toList.isEmpty = true := by rw [t5]; rfl
            have T5 := Aside0.mk t5b
            clear t5
            go_wp2_with (first | (go_at_call 76; (with_reducible refine (impl_Room_owners.calls k a0_0 a0_1 A0_2 c0_2 l0_2 A0_3 c0_3 l0_3 a0_4 ow _ z4_4 HC2.out z4_5 HC3.out HOW.out).mono ?_); rintro e w1 ⟨rfl, hb⟩; have n0_ := Aside0.mk (below_step z4_8 hb); have n1_ := Aside0.mk (blk_below (g := g1) (o := .cells #[.string a0_0, .int .i64 a0_1, .slice A0_2 l0_2.length c0_2, .slice A0_3 l0_3.length c0_3, .string a0_4] 62 (0, 0)) z4_10 hb); (try clear HB); (try clear BK1); have HB := n0_; have BK1 := n1_; clear n0_ n1_; (try clear hb); have hz1_0 : w1.cell? ⟨g1, 0, none⟩ = some (.string a0_0) := (blk_cell BK1.out 0).trans rfl; have hy1_0 := blk_frozen BK1.out 0; have hz1_1 : w1.cell? ⟨g1, 1, none⟩ = some (.int .i64 a0_1) := (blk_cell BK1.out 1).trans rfl; have hy1_1 := blk_frozen BK1.out 1; have hz1_2 : w1.cell? ⟨g1, 2, none⟩ = some (.slice A0_2 l0_2.length c0_2) := (blk_cell BK1.out 2).trans rfl; have hy1_2 := blk_frozen BK1.out 2; have hz1_3 : w1.cell? ⟨g1, 3, none⟩ = some (.slice A0_3 l0_3.length c0_3) := (blk_cell BK1.out 3).trans rfl; have hy1_3 := blk_frozen BK1.out 3; have hz1_4 : w1.cell? ⟨g1, 4, none⟩ = some (.string a0_4) := (blk_cell BK1.out 4).trans rfl; have hy1_4 := blk_frozen BK1.out 4))
            go_ret
            exact ⟨by rw [← H.out]; unfold impl_RoomOk.tail; rw [t1b, t2b, t3b.out, t4b.out, T5.out]; rfl, z4_8⟩
          have t5b : (a0_4.toList == ([] : List UInt8)) = false := beq_eq_false_iff_ne.mpr t5
          have t5c : a0_4.toList.isEmpty = false := by simpa using t5
          have T5 := Aside0.mk t5b
          clear t5
          go_wp2_with (first | (go_at_call 76; (with_reducible refine (impl_Room_owners.calls k a0_0 a0_1 A0_2 c0_2 l0_2 A0_3 c0_3 l0_3 a0_4 ow _ z4_4 HC2.out z4_5 HC3.out HOW.out).mono ?_); rintro e w1 ⟨rfl, hb⟩; have n0_ := Aside0.mk (below_step z4_8 hb); have n1_ := Aside0.mk (blk_below (g := g1) (o := .cells #[.string a0_0, .int .i64 a0_1, .slice A0_2 l0_2.length c0_2, .slice A0_3 l0_3.length c0_3, .string a0_4] 62 (0, 0)) z4_10 hb); (try clear HB); (try clear BK1); have HB := n0_; have BK1 := n1_; clear n0_ n1_; (try clear hb); have hz1_0 : w1.cell? ⟨g1, 0, none⟩ = some (.string a0_0) := (blk_cell BK1.out 0).trans rfl; have hy1_0 := blk_frozen BK1.out 0; have hz1_1 : w1.cell? ⟨g1, 1, none⟩ = some (.int .i64 a0_1) := (blk_cell BK1.out 1).trans rfl; have hy1_1 := blk_frozen BK1.out 1; have hz1_2 : w1.cell? ⟨g1, 2, none⟩ = some (.slice A0_2 l0_2.length c0_2) := (blk_cell BK1.out 2).trans rfl; have hy1_2 := blk_frozen BK1.out 2; have hz1_3 : w1.cell? ⟨g1, 3, none⟩ = some (.slice A0_3 l0_3.length c0_3) := (blk_cell BK1.out 3).trans rfl; have hy1_3 := blk_frozen BK1.out 3; have hz1_4 : w1.cell? ⟨g1, 4, none⟩ = some (.string a0_4) := (blk_cell BK1.out 4).trans rfl; have hy1_4 := blk_frozen BK1.out 4))
          go_ret
          exact ⟨by rw [← H.out]; unfold impl_RoomOk.tail; rw [t1b, t2b, t3b.out, t4b.out, T5.out]; rfl, z4_8⟩


end Go.Proofs.YtgjecacalpaacaaDoor.PAll
