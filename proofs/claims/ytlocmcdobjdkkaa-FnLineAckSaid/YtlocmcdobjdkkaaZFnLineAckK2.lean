-- laid by xprint.py and pack.py, programs of this session's; Lean checks it
import Derived.Test.YtlocmcdobjdkkaaZFnLineAckK0
import Derived.Test.YtlocmcdobjdkkaaZFnLineAckK1
namespace Go.Proofs.Ytlocmcdobjdkkaa.PAll
open Go.RowKit Go.Proofs.YtlocmcdobjdkkaaW.XWords Go.Proofs.YtlocmcdobjdkkaaW.PrintWords Go.Proofs.YtlocmcdobjdkkaaW.PrintLast Go.Proofs.YtlocmcdobjdkkaaW.PrintMore
theorem z2_22 {p : Prop} (h : p := by first | rfl | (simp; done) | (simp [*]; done)) : p := h
theorem z2_21 {p : Prop} (h : p := by first | (with_reducible assumption) | assumption) : p := h
theorem z2_20 {p : Prop} (h : p := by (with_reducible repeat (first | apply Kd.Q_alloc | apply Kd.Q_drewN | apply Kd.Q_drew)); exact HO132.out) : p := h
theorem z2_19 {p : Prop} (h : p := by (with_reducible repeat (first | apply Kd.R_alloc | apply Kd.R_drewN | apply Kd.R_drew)); exact HO104.out) : p := h
theorem z2_18 {p : Prop} (h : p := by simp only [Act.put, List.setIfInBounds_toArray, List.set_cons_zero, List.set_cons_succ, i64_w, i32_w]; rfl) : p := h
theorem z2_17 {p : Prop} (h : p := by (with_reducible repeat (first | apply Kd.Q_alloc | apply Kd.Q_drewN | apply Kd.Q_drew)); exact HO_125001.out) : p := h
theorem z2_16 {p : Prop} (h : p := by (with_reducible repeat (first | apply Kd.Q_alloc | apply Kd.Q_drewN | apply Kd.Q_drew)); exact HO_117001.out) : p := h
theorem z2_15 {p : Prop} (h : p := by (with_reducible repeat (first | apply Kd.Q_alloc | apply Kd.Q_drewN | apply Kd.Q_drew)); exact HO_109001.out) : p := h
theorem z2_14 {p : Prop} (h : p := by (with_reducible repeat (first | refine blk_drewN ?_ _ | refine blk_drew ?_ | refine blk_alloc ?_ _)); exact BK136.out) : p := h
theorem z2_13 {p : Prop} (h : p := by (with_reducible repeat (first | refine blk_drewN ?_ _ | refine blk_drew ?_ | refine blk_alloc ?_ _)); exact BK124.out) : p := h
theorem z2_12 {p : Prop} (h : p := by (with_reducible repeat (first | refine blk_drewN ?_ _ | refine blk_drew ?_ | refine blk_alloc ?_ _)); exact BK116.out) : p := h
theorem z2_11 {p : Prop} (h : p := by (with_reducible repeat (first | refine blk_drewN ?_ _ | refine blk_drew ?_ | refine blk_alloc ?_ _)); exact BK108.out) : p := h
theorem z2_10 {p : Prop} (h : p := by repeat (first | (with_reducible first | exact HB.out | apply below_alloc | apply pw_below_drewN | apply below_drew1) | exact HB.out)) : p := h
theorem z2_9 {p : Prop} (h : p := by (try simp only [List.map_toArray, List.map_cons, List.map_nil]); first | done | rfl | (simp only [List.length_drop, List.length_take]; rfl)) : p := h
theorem z2_8 {p : Prop} (h : p := by repeat (first | (with_reducible first | exact HB.out | apply below_alloc | apply pw_below_drewN | apply below_drew1 | refine below_set ?_ GE108.out) | exact HB.out)) : p := h
theorem z2_7 {p : Prop} (h : p := by repeat (first | (with_reducible exact HR140.out) | (with_reducible refine Kd.C_alloc ?_ _) | (with_reducible refine Kd.C_drewN ?_ _) | (with_reducible refine Kd.C_drew ?_) | exact HR140.out)) : p := h
theorem z2_6 {p : Prop} (h : p := by repeat (first | (with_reducible first | exact HB.out | apply below_alloc | apply pw_below_drewN | apply below_drew1 | refine below_set ?_ GE108.out | refine below_set ?_ GE116.out) | exact HB.out)) : p := h
theorem z2_5 {p : Prop} (h : p := by repeat (first | (with_reducible first | exact HB.out | apply below_alloc | apply pw_below_drewN | apply below_drew1 | refine below_set ?_ GE108.out | refine below_set ?_ GE116.out | refine below_set ?_ GE124.out) | exact HB.out)) : p := h
theorem z2_4 {p : Prop} (h : p := by repeat (first | (with_reducible first | exact HB.out | apply below_alloc | apply pw_below_drewN | apply below_drew1 | refine below_set ?_ GE108.out | refine below_set ?_ GE116.out | refine below_set ?_ GE124.out | refine below_set ?_ GE136.out) | exact HB.out)) : p := h
theorem z2_3 {p : Prop} (h : p := by (with_reducible repeat (first | apply Kd.R_alloc | apply Kd.R_drewN | apply Kd.R_drew)); exact (Kd.R_mono (Kd.R_far (p := ⟨gb124, 3, none⟩) (Kd.R_far (p := ⟨gb124, 2, none⟩) (Kd.R_far (p := ⟨gb124, 1, none⟩) (Kd.R_far (p := ⟨gb124, 0, none⟩) (Kd.R_types HO120.out BK124.out (by decide)) (fun _ hk => hk.2) (.int .i64 t117)) (fun _ hk => hk.2) (.slice Ao22 t118.length co22)) (fun _ hk => hk.2) (.int .i64 t121)) (fun _ hk => hk.2) (.bool t122)) (fun _ h_ => h_.1))) : p := h
theorem z2_2 {p : Prop} (h : p := by (with_reducible repeat (first | apply Kd.Q_alloc | apply Kd.Q_drewN | apply Kd.Q_drew)); exact (Kd.Q_mono (Kd.Q_far (p := ⟨gb124, 3, none⟩) (Kd.Q_far (p := ⟨gb124, 2, none⟩) (Kd.Q_far (p := ⟨gb124, 1, none⟩) (Kd.Q_far (p := ⟨gb124, 0, none⟩) (Kd.Q_types HO112.out BK124.out (by decide)) (fun _ hk => hk.2) (.int .i64 t117)) (fun _ hk => hk.2) (.slice Ao22 t118.length co22)) (fun _ hk => hk.2) (.int .i64 t121)) (fun _ hk => hk.2) (.bool t122)) (fun _ h_ => h_.1))) : p := h
theorem z2_1 {p : Prop} (h : p := by (with_reducible repeat (first | apply Kd.R_alloc | apply Kd.R_drewN | apply Kd.R_drew)); exact (Kd.R_mono (Kd.R_far (p := ⟨gb116, 3, none⟩) (Kd.R_far (p := ⟨gb116, 2, none⟩) (Kd.R_far (p := ⟨gb116, 1, none⟩) (Kd.R_far (p := ⟨gb116, 0, none⟩) (Kd.R_types HO104.out BK116.out (by decide)) (fun _ hk => hk.2) (.int .i64 t109)) (fun _ hk => hk.2) (.slice Ao15 t110.length co15)) (fun _ hk => hk.2) (.int .i64 t113)) (fun _ hk => hk.2) (.bool t114)) (fun _ h_ => h_.1))) : p := h
theorem z2_0 {p : Prop} (h : p := by (with_reducible repeat (first | apply Kd.R_alloc | apply Kd.R_drewN | apply Kd.R_drew)); exact (Kd.R_mono (Kd.R_far (p := ⟨gb108, 3, none⟩) (Kd.R_far (p := ⟨gb108, 2, none⟩) (Kd.R_far (p := ⟨gb108, 1, none⟩) (Kd.R_far (p := ⟨gb108, 0, none⟩) (Kd.R_types HO104.out BK108.out (by decide)) (fun _ hk => hk.2) (.int .i64 t101)) (fun _ hk => hk.2) (.slice Ao10 t102.length co10)) (fun _ hk => hk.2) (.int .i64 t105)) (fun _ hk => hk.2) (.bool t106)) (fun _ h_ => h_.1))) : p := h
end Go.Proofs.Ytlocmcdobjdkkaa.PAll
namespace Go.Proofs.Ytlocmcdobjdkkaa.PAll
open Go.RowKit Go.Proofs.YtlocmcdobjdkkaaW.XWords Go.Proofs.YtlocmcdobjdkkaaW.PrintWords Go.Proofs.YtlocmcdobjdkkaaW.PrintLast Go.Proofs.YtlocmcdobjdkkaaW.PrintMore
attribute [local go_sem] isSome_setCell max2_int min2_int max_two min_two max_three min_three max_four min_four   -- for this text's walks alone
set_option linter.unusedVariables false
set_option linter.unusedSimpArgs false

abbrev laws_FnLineAck.q0 : Array Bool := #[true, false, false, false, false, false, false, false, false, false, false, false, false, false, false, false, false, false, false, false, false, false, false, false, false, false, false, false, false, false, false, false, false, false, false, false, false, false, false, false, false, false, false]
abbrev laws_FnLineAck.q1 : Array Bool := #[true, true, false, false, false, false, false, false, false, false, false, false, false, false, false, false, false, false, false, false, false, false, false, false, false, false, false, false, false, false, false, false, false, false, false, false, false, false, false, false, false, false, false]
abbrev laws_FnLineAck.q2 : Array Bool := #[true, true, true, false, false, false, false, false, false, false, false, false, false, false, false, false, false, false, false, false, false, false, false, false, false, false, false, false, false, false, false, false, false, false, false, false, false, false, false, false, false, false, false]
abbrev laws_FnLineAck.q3 : Array Bool := #[true, true, true, true, false, false, false, false, false, false, false, false, false, false, false, false, false, false, false, false, false, false, false, false, false, false, false, false, false, false, false, false, false, false, false, false, false, false, false, false, false, false, false]
abbrev laws_FnLineAck.q4 : Array Bool := #[true, true, true, true, true, false, false, false, false, false, false, false, false, false, false, false, false, false, false, false, false, false, false, false, false, false, false, false, false, false, false, false, false, false, false, false, false, false, false, false, false, false, false]
abbrev laws_FnLineAck.q5 : Array Bool := #[true, true, true, true, true, true, false, false, false, false, false, false, false, false, false, false, false, false, false, false, false, false, false, false, false, false, false, false, false, false, false, false, false, false, false, false, false, false, false, false, false, false, false]
abbrev laws_FnLineAck.q6 : Array Bool := #[true, true, true, true, true, true, true, false, false, false, false, false, false, false, false, false, false, false, false, false, false, false, false, false, false, false, false, false, false, false, false, false, false, false, false, false, false, false, false, false, false, false, false]
abbrev laws_FnLineAck.q7 : Array Bool := #[true, true, true, true, true, true, true, false, true, false, false, false, false, false, false, false, false, false, false, false, false, false, false, false, false, false, false, false, false, false, false, false, false, false, false, false, false, false, false, false, false, false, false]
abbrev laws_FnLineAck.q8 : Array Bool := #[true, true, true, true, true, true, true, false, true, false, true, false, false, false, false, false, false, false, false, false, false, false, false, false, false, false, false, false, false, false, false, false, false, false, false, false, false, false, false, false, false, false, false]
abbrev laws_FnLineAck.q9 : Array Bool := #[true, true, true, true, true, true, true, true, true, false, true, false, false, false, false, false, false, false, false, false, false, false, false, false, false, false, false, false, false, false, false, false, false, false, false, false, false, false, false, false, false, false, false]
abbrev laws_FnLineAck.q10 : Array Bool := #[true, true, true, true, true, true, true, true, true, true, true, false, false, false, false, false, false, false, false, false, false, false, false, false, false, false, false, false, false, false, false, false, false, false, false, false, false, false, false, false, false, false, false]
abbrev laws_FnLineAck.q11 : Array Bool := #[true, true, true, true, true, true, true, true, true, true, true, true, false, false, false, false, false, false, false, false, false, false, false, false, false, false, false, false, false, false, false, false, false, false, false, false, false, false, false, false, false, false, false]
abbrev laws_FnLineAck.q12 : Array Bool := #[true, true, true, true, true, true, true, true, true, true, true, true, true, true, false, false, false, false, false, false, false, false, false, false, false, false, false, false, false, false, false, false, false, false, false, false, false, false, false, false, false, false, false]
abbrev laws_FnLineAck.q13 : Array Bool := #[true, true, true, true, true, true, true, true, true, true, true, true, true, true, true, false, false, false, false, false, false, false, false, false, false, false, false, false, false, false, false, false, false, false, false, false, false, false, false, false, false, false, false]
abbrev laws_FnLineAck.q14 : Array Bool := #[true, true, true, true, true, true, true, true, true, true, true, true, true, true, true, true, false, false, false, false, false, false, false, false, false, false, false, false, false, false, false, false, false, false, false, false, false, false, false, false, false, false, false]
abbrev laws_FnLineAck.q15 : Array Bool := #[true, true, true, true, true, true, true, true, true, true, true, true, true, true, true, true, false, true, false, false, false, false, false, false, false, false, false, false, false, false, false, false, false, false, false, false, false, false, false, false, false, false, false]
abbrev laws_FnLineAck.q16 : Array Bool := #[true, true, true, true, true, true, true, true, true, true, true, true, true, true, true, true, true, true, false, false, false, false, false, false, false, false, false, false, false, false, false, false, false, false, false, false, false, false, false, false, false, false, false]
abbrev laws_FnLineAck.q17 : Array Bool := #[true, true, true, true, true, true, true, true, true, true, true, true, true, true, true, true, true, true, true, false, false, false, false, false, false, false, false, false, false, false, false, false, false, false, false, false, false, false, false, false, false, false, false]
abbrev laws_FnLineAck.q18 : Array Bool := #[true, true, true, true, true, true, true, true, true, true, true, true, true, true, true, true, true, true, true, true, false, false, false, false, false, false, false, false, false, false, false, false, false, false, false, false, false, false, false, false, false, false, false]
abbrev laws_FnLineAck.q19 : Array Bool := #[true, true, true, true, true, true, true, true, true, true, true, true, true, true, true, true, true, true, true, true, true, false, false, false, false, false, false, false, false, false, false, false, false, false, false, false, false, false, false, false, false, false, false]
abbrev laws_FnLineAck.q20 : Array Bool := #[true, true, true, true, true, true, true, true, true, true, true, true, true, true, true, true, true, true, true, true, true, true, false, false, false, false, false, false, false, false, false, false, false, false, false, false, false, false, false, false, false, false, false]
abbrev laws_FnLineAck.q21 : Array Bool := #[true, true, true, true, true, true, true, true, true, true, true, true, true, true, true, true, true, true, true, true, true, true, true, false, false, false, false, false, false, false, false, false, false, false, false, false, false, false, false, false, false, false, false]
abbrev laws_FnLineAck.q22 : Array Bool := #[true, true, true, true, true, true, true, true, true, true, true, true, true, true, true, true, true, true, true, true, true, true, true, true, false, false, false, false, false, false, false, false, false, false, false, false, false, false, false, false, false, false, false]
abbrev laws_FnLineAck.q23 : Array Bool := #[true, true, true, true, true, true, true, true, true, true, true, true, true, true, true, true, true, true, true, true, true, true, true, true, true, false, false, false, false, false, false, false, false, false, false, false, false, false, false, false, false, false, false]
abbrev laws_FnLineAck.q24 : Array Bool := #[true, true, true, true, true, true, true, true, true, true, true, true, true, true, true, true, true, true, true, true, true, true, true, true, true, true, false, false, false, false, false, false, false, false, false, false, false, false, false, false, false, false, false]
abbrev laws_FnLineAck.q25 : Array Bool := #[true, true, true, true, true, true, true, true, true, true, true, true, true, true, true, true, true, true, true, true, true, true, true, true, true, true, true, true, false, false, false, false, false, false, false, false, false, false, false, false, false, false, false]
abbrev laws_FnLineAck.q26 : Array Bool := #[true, true, true, true, true, true, true, true, true, true, true, true, true, true, true, true, true, true, true, true, true, true, true, true, true, true, true, true, true, false, false, false, false, false, false, false, false, false, false, false, false, false, false]
abbrev laws_FnLineAck.q27 : Array Bool := #[true, true, true, true, true, true, true, true, true, true, true, true, true, true, true, true, true, true, true, true, true, true, true, true, true, true, true, true, true, true, false, false, false, false, false, false, false, false, false, false, false, false, false]
abbrev laws_FnLineAck.q28 : Array Bool := #[true, true, true, true, true, true, true, true, true, true, true, true, true, true, true, true, true, true, true, true, true, true, true, true, true, true, true, true, true, true, false, true, false, false, false, false, false, false, false, false, false, false, false]
abbrev laws_FnLineAck.q29 : Array Bool := #[true, true, true, true, true, true, true, true, true, true, true, true, true, true, true, true, true, true, true, true, true, true, true, true, true, true, true, true, true, true, true, true, true, true, false, false, false, false, false, false, false, false, false]
abbrev laws_FnLineAck.q30 : Array Bool := #[true, true, true, true, true, true, true, true, true, true, true, true, true, true, true, true, true, true, true, true, true, true, true, true, true, true, true, true, true, true, true, true, true, true, true, false, false, false, false, false, false, false, false]
abbrev laws_FnLineAck.q31 : Array Bool := #[true, true, true, true, true, true, true, true, true, true, true, true, true, true, true, true, true, true, true, true, true, true, true, true, true, true, true, true, true, true, true, true, true, true, true, true, false, false, false, false, false, false, false]
abbrev laws_FnLineAck.q32 : Array Bool := #[true, true, true, true, true, true, true, true, true, true, true, true, true, true, true, true, true, true, true, true, true, true, true, true, true, true, true, true, true, true, true, true, true, true, true, true, true, false, false, false, false, false, false]
abbrev laws_FnLineAck.q33 : Array Bool := #[true, true, true, true, true, true, true, true, true, true, true, true, true, true, true, true, true, true, true, true, true, true, true, true, true, true, true, true, true, true, true, true, true, true, true, true, true, false, true, false, false, false, false]
abbrev laws_FnLineAck.q34 : Array Bool := #[true, true, true, true, true, true, true, true, true, true, true, true, true, true, true, true, true, true, true, true, true, true, true, true, true, true, true, true, true, true, true, true, true, true, true, true, true, true, true, false, false, false, false]
abbrev laws_FnLineAck.q35 : Array Bool := #[true, true, true, true, true, true, true, true, true, true, true, true, true, true, true, true, true, true, true, true, true, true, true, true, true, true, true, true, true, true, true, true, true, true, true, true, true, true, true, true, false, false, false]
abbrev laws_FnLineAck.q36 : Array Bool := #[true, true, true, true, true, true, true, true, true, true, true, true, true, true, true, true, true, true, true, true, true, true, true, true, true, true, true, true, true, true, true, true, true, true, true, true, true, true, true, true, true, false, false]
abbrev laws_FnLineAck.q37 : Array Bool := #[true, true, true, true, true, true, true, true, true, true, true, true, true, true, true, true, true, true, true, true, true, true, true, true, true, true, true, true, true, true, true, true, true, true, true, true, true, true, true, true, true, true, false]
abbrev laws_FnLineAck.q38 : Array Bool := #[true, true, true, true, true, true, true, true, true, true, true, true, true, true, true, true, true, true, true, true, true, true, true, true, true, true, true, true, true, true, true, true, true, true, true, true, true, true, true, true, true, true, true]
def laws_FnLineAck.j0 : Nat → Int → Bool → Bool → Bool → Int → List ByteArray → Int → Bool → Int → List ByteArray → Int → Bool → Int → List ByteArray → Int → Bool → Option (Bool)
  | 0, _, _, _, _, _, _, _, _, _, _, _, _, _, _, _, _ => none
  | k + 1, x4, x6, x8, x44, x109000, x109001, x109002, x109003, x117000, x117001, x117002, x117003, x125000, x125001, x125002, x125003 => if x44 = true then (if (x6 == x8) = true then ((laws_hbLine.f k x117000 x117001 x117002 x117003 x125000 x125001 x125002 x125003).bind fun t126 => (if t126 = true then ((impl_LineOk.f x109000 x109001 x109002 x109003).bind fun t127 => (if t127 = true then (if x4 < 0 then (some true) else (if x4 ≥ 256 then (some true) else ((laws_hbLine.f k x117000 x117001 x117002 x117003 x109000 x109001 x109002 x109003).bind fun t128 => (some t128)))) else (some true))) else (some false))) else (some false)) else ((impl_LineAck.f x117000 x117001 x117002 x117003 x4).bind fun bt129 => (if (Int.tmod (wrap64 ((wrap64 (x4 - x109000)) + 256)) 256) ≤ (x109001.length : Int) then (if 0 ≤ (Int.tmod (wrap64 ((wrap64 (x4 - x109000)) + 256)) 256) then ((laws_hbTexts.f k x117001 (x109001.drop ((Int.tmod (wrap64 ((wrap64 (x4 - x109000)) + 256)) 256) : Int).toNat)).bind fun t141 => (if t141 = true then (if x117000 = x4 then (if bt129.2.2.2.2 = true then ((laws_hbLine.f k bt129.1 bt129.2.1 bt129.2.2.1 bt129.2.2.2.1 x117000 x117001 x117002 x117003).bind fun t142 => (if t142 = true then ((impl_LineSent.f x117000 x117001 x117002 x117003).bind fun t143 => ((impl_LineSent.f x109000 x109001 x109002 x109003).bind fun t144 => (if t143 = t144 then (some (x117002 == x109002)) else (some false)))) else (some false))) else (some false)) else (some false)) else (some false))) else (none)) else (some false)))
def laws_FnLineAck.f (k : Nat) (l0 : List Int) : Option (Bool) := if (l0.length : Int) > 1048576 then (some true) else ((spec_DrawLineAck.f k l0).bind fun bt101 => ((impl_LineAck.f bt101.1 bt101.2.1 bt101.2.2.1 bt101.2.2.2.1 bt101.2.2.2.2).bind fun bt109 => ((spec_LineAck.f k bt101.1 bt101.2.1 bt101.2.2.1 bt101.2.2.2.1 bt101.2.2.2.2).bind fun bt117 => (if (bt109.2.2.2.2 != bt117.2.2.2.2) = true then (laws_FnLineAck.j0 k bt101.2.2.2.2 bt109.2.2.2.2 bt117.2.2.2.2 true bt101.1 bt101.2.1 bt101.2.2.1 bt101.2.2.2.1 bt109.1 bt109.2.1 bt109.2.2.1 bt109.2.2.2.1 bt117.1 bt117.2.1 bt117.2.2.1 bt117.2.2.2.1) else ((laws_hbLine.f k bt109.1 bt109.2.1 bt109.2.2.1 bt109.2.2.2.1 bt117.1 bt117.2.1 bt117.2.2.1 bt117.2.2.2.1).bind fun t125 => (if t125 = true then (laws_FnLineAck.j0 k bt101.2.2.2.2 bt109.2.2.2.2 bt117.2.2.2.2 (!bt109.2.2.2.2) bt101.1 bt101.2.1 bt101.2.2.1 bt101.2.2.2.1 bt109.1 bt109.2.1 bt109.2.2.1 bt109.2.2.2.1 bt117.1 bt117.2.1 bt117.2.2.1 bt117.2.2.2.1) else (laws_FnLineAck.j0 k bt101.2.2.2.2 bt109.2.2.2.2 bt117.2.2.2.2 true bt101.1 bt101.2.1 bt101.2.2.1 bt101.2.2.2.1 bt109.1 bt109.2.1 bt109.2.2.1 bt109.2.2.2.1 bt117.1 bt117.2.1 bt117.2.2.1 bt117.2.2.2.1)))))))
theorem laws_FnLineAck.mono_l : ∀ k, (∀ y0 y1 y2 y3 y4 y5 y6 y7 y8 y9 y10 y11 y12 y13 y14 y15, LeO (laws_FnLineAck.j0 k y0 y1 y2 y3 y4 y5 y6 y7 y8 y9 y10 y11 y12 y13 y14 y15) (laws_FnLineAck.j0 (k + 1) y0 y1 y2 y3 y4 y5 y6 y7 y8 y9 y10 y11 y12 y13 y14 y15))
  | 0 => fun _ _ _ _ _ _ _ _ _ _ _ _ _ _ _ _ r h => by simp [laws_FnLineAck.j0] at h
  | k + 1 => by
    have ih0 := laws_FnLineAck.mono_l k
    · intro y0 y1 y2 y3 y4 y5 y6 y7 y8 y9 y10 y11 y12 y13 y14 y15
      unfold laws_FnLineAck.j0
      repeat' first
      | (with_reducible exact ih0 _ _ _ _ _ _ _ _ _ _ _ _ _ _ _ _)
      | (with_reducible exact laws_hbLine.mono _ _ _ _ _ _ _ _ _)
      | (with_reducible exact laws_hbTexts.mono _ _ _)
      | (with_reducible exact spec_DrawLineAck.mono _ _)
      | (with_reducible exact spec_LineAck.mono _ _ _ _ _ _)
      | (with_reducible exact LeO.refl _)
      | (with_reducible exact LeO.none _)
      | (with_reducible refine LeO.ite ?_ ?_)
      | (with_reducible refine LeO.bind ?_ (fun _ => ?_))
      | exact ih0 _ _ _ _ _ _ _ _ _ _ _ _ _ _ _ _
      | exact laws_hbLine.mono _ _ _ _ _ _ _ _ _
      | exact laws_hbTexts.mono _ _ _
      | exact spec_DrawLineAck.mono _ _
      | exact spec_LineAck.mono _ _ _ _ _ _
      | exact LeO.none _
      | refine LeO.ite ?_ ?_
      | refine LeO.bind ?_ (fun _ => ?_)
theorem laws_FnLineAck.mono : ∀ a0 k, LeO (laws_FnLineAck.f k a0) (laws_FnLineAck.f (k + 1) a0) := by
  intro a0 k
  have ih0 := laws_FnLineAck.mono_l k
  unfold laws_FnLineAck.f
  repeat' first
      | (with_reducible exact ih0 _ _ _ _ _ _ _ _ _ _ _ _ _ _ _ _)
      | (with_reducible exact laws_hbLine.mono _ _ _ _ _ _ _ _ _)
      | (with_reducible exact laws_hbTexts.mono _ _ _)
      | (with_reducible exact spec_DrawLineAck.mono _ _)
      | (with_reducible exact spec_LineAck.mono _ _ _ _ _ _)
      | (with_reducible exact LeO.refl _)
      | (with_reducible exact LeO.none _)
      | (with_reducible refine LeO.ite ?_ ?_)
      | (with_reducible refine LeO.bind ?_ (fun _ => ?_))
      | exact ih0 _ _ _ _ _ _ _ _ _ _ _ _ _ _ _ _
      | exact laws_hbLine.mono _ _ _ _ _ _ _ _ _
      | exact laws_hbTexts.mono _ _ _
      | exact spec_DrawLineAck.mono _ _
      | exact spec_LineAck.mono _ _ _ _ _ _
      | exact LeO.none _
      | refine LeO.ite ?_ ?_
      | refine LeO.bind ?_ (fun _ => ?_)
def laws_FnLineAck.T10 : Bool × List (List Nat × List Nat) := (true, [([], []), ([], []), ([1], [1]), ([2], [2]), ([0, 3], [0, 3]), ([4], [4]), ([5], [5]), ([6, 5], [5, 6]), ([5], [5]), ([8, 5], [5, 8]), ([5], [5]), ([9, 10, 5], [5, 9, 10]), ([7, 11, 5, 5], [5, 7, 11]), ([5, 12], [5, 12]), ([13, 12], [13]), ([14], [14]), ([15, 14], [14, 15]), ([14], [14]), ([16, 17, 14], [14, 16, 17]), ([14, 18], [14, 18]), ([19, 14], [19]), ([20], [20]), ([20, 21], [20, 21]), ([22, 20], [22]), ([23], [23]), ([23], [23]), ([24, 25, 23, 23], [23, 24, 25]), ([23, 26], [23, 26]), ([27, 26], [27]), ([28], [28]), ([29, 28, 28], [28, 29]), ([28], [28]), ([31, 30, 28], [28, 31]), ([30, 32, 28], [28, 30, 32]), ([28, 33], [28, 33]), ([34, 32], [34]), ([35], [35]), ([36, 35], [35, 36]), ([35], [35]), ([38, 35], [35, 38]), ([37, 39, 35], [35, 37, 39]), ([35, 40], [35, 40]), ([41, 35, 0, 1, 2, 3, 4, 5, 6, 7, 8, 9, 10, 11, 12, 13, 14, 15, 16, 17, 18, 19, 20, 21, 22, 23, 24, 25, 26, 27, 28, 29, 30, 31, 32, 33, 34, 35, 36, 37, 38, 39, 40, 41], [41])])
def laws_FnLineAck.B10 : List Nat := [0, 0, 2, 6, 15, 31, 63, 127, 63, 319, 63, 1855, 4095, 8191, 16383, 32767, 65535, 32767, 262143, 524287, 1048575, 2097151, 4194303, 8388607, 16777215, 16777215, 67108863, 134217727, 268435455, 536870911, 1073741823, 536870911, 4294967295, 8589934591, 17179869183, 34359738367, 68719476735, 137438953471, 68719476735, 343597383679, 1099511627775, 2199023255551, 4398046511103]
theorem laws_FnLineAck.tab10 : rtab .any (opsOf Try.f4 10) = laws_FnLineAck.T10 := by kernel_rfl
theorem laws_FnLineAck.bits10 : waitsOk laws_FnLineAck.T10.2 laws_FnLineAck.B10 = true := by kernel_rfl
set_option maxHeartbeats 8000000 in
set_option maxRecDepth 100000 in
theorem laws_FnLineAck.calls (k : Nat) (A0 : Option Addr) (c0 : Nat) (l0 : List Int) (r : Bool) (w : World) (hr0 : Kd.C (Kd.int .u8) w A0 l0.length l0) (hc0 : l0.length ≤ c0) (h : laws_FnLineAck.f k l0 = some r) (ht : r = true) :
    Calls Try.prog 4 #[.slice A0 l0.length c0] w fun e w' => e = .returned (.bool r) ∧ Below w.heap.size w w' := by
  have hu42 := Try.underlying42
  have HR0 := Aside0.mk hr0
  have HC0 := Aside0.mk hc0
  clear hr0 hc0
  have HB := Aside0.mk (Below.refl w.heap.size w)
  have H : (if (l0.length : Int) > 1048576 then (some true) else ((spec_DrawLineAck.f k l0).bind fun bt101 => ((impl_LineAck.f bt101.1 bt101.2.1 bt101.2.2.1 bt101.2.2.2.1 bt101.2.2.2.2).bind fun bt109 => ((spec_LineAck.f k bt101.1 bt101.2.1 bt101.2.2.1 bt101.2.2.2.1 bt101.2.2.2.2).bind fun bt117 => (if (bt109.2.2.2.2 != bt117.2.2.2.2) = true then (laws_FnLineAck.j0 k bt101.2.2.2.2 bt109.2.2.2.2 bt117.2.2.2.2 true bt101.1 bt101.2.1 bt101.2.2.1 bt101.2.2.2.1 bt109.1 bt109.2.1 bt109.2.2.1 bt109.2.2.2.1 bt117.1 bt117.2.1 bt117.2.2.1 bt117.2.2.2.1) else ((laws_hbLine.f k bt109.1 bt109.2.1 bt109.2.2.1 bt109.2.2.2.1 bt117.1 bt117.2.1 bt117.2.2.1 bt117.2.2.2.1).bind fun t125 => (if t125 = true then (laws_FnLineAck.j0 k bt101.2.2.2.2 bt109.2.2.2.2 bt117.2.2.2.2 (!bt109.2.2.2.2) bt101.1 bt101.2.1 bt101.2.2.1 bt101.2.2.2.1 bt109.1 bt109.2.1 bt109.2.2.1 bt109.2.2.2.1 bt117.1 bt117.2.1 bt117.2.2.1 bt117.2.2.2.1) else (laws_FnLineAck.j0 k bt101.2.2.2.2 bt109.2.2.2.2 bt117.2.2.2.2 true bt101.1 bt101.2.1 bt101.2.2.1 bt101.2.2.2.1 bt109.1 bt109.2.1 bt109.2.2.1 bt109.2.2.2.1 bt117.1 bt117.2.1 bt117.2.2.1 bt117.2.2.2.1)))))))) = some r := h
  clear h
  by_cases c2 : (l0.length : Int) > 1048576
  · rw [if_pos c2] at H
    have c2b0 : decide (1048576 < (l0.length : Int)) = true := decide_eq_true c2
    have c2b1 : decide (1048576 < l0.length) = true := decide_eq_true (by omega)
    clear c2
    obtain rfl := Option.some.inj H
    go_enter Try.func4, Try.ntmps4
    go_wp2
    go_ret
    exact ⟨by first | rfl | (simp [errW_none, errW_some] <;> rfl) | (simp [*, errW_none, errW_some] <;> rfl), by repeat (first | (with_reducible first | exact HB.out | apply below_alloc | apply pw_below_drewN | apply below_drew1) | exact HB.out)⟩
  · rw [if_neg c2] at H
    have c2b0 : decide (1048576 < (l0.length : Int)) = false := decide_eq_false c2
    have c2b1 : decide (1048576 < l0.length) = false := decide_eq_false (by omega)
    clear c2
    replace H := Option.bind_eq_some_iff.mp H
    obtain ⟨⟨t101, t102, t105, t106, t107⟩, A30, H⟩ := H
    replace H : ((impl_LineAck.f t101 t102 t105 t106 t107).bind fun bt109 => ((spec_LineAck.f k t101 t102 t105 t106 t107).bind fun bt117 => (if (bt109.2.2.2.2 != bt117.2.2.2.2) = true then (laws_FnLineAck.j0 k t107 bt109.2.2.2.2 bt117.2.2.2.2 true t101 t102 t105 t106 bt109.1 bt109.2.1 bt109.2.2.1 bt109.2.2.2.1 bt117.1 bt117.2.1 bt117.2.2.1 bt117.2.2.2.1) else ((laws_hbLine.f k bt109.1 bt109.2.1 bt109.2.2.1 bt109.2.2.2.1 bt117.1 bt117.2.1 bt117.2.2.1 bt117.2.2.2.1).bind fun t125 => (if t125 = true then (laws_FnLineAck.j0 k t107 bt109.2.2.2.2 bt117.2.2.2.2 (!bt109.2.2.2.2) t101 t102 t105 t106 bt109.1 bt109.2.1 bt109.2.2.1 bt109.2.2.2.1 bt117.1 bt117.2.1 bt117.2.2.1 bt117.2.2.2.1) else (laws_FnLineAck.j0 k t107 bt109.2.2.2.2 bt117.2.2.2.2 true t101 t102 t105 t106 bt109.1 bt109.2.1 bt109.2.2.1 bt109.2.2.2.1 bt117.1 bt117.2.1 bt117.2.2.1 bt117.2.2.2.1)))))) = some r := H
    have A3 := Aside0.mk A30
    clear A30
    replace H := Option.bind_eq_some_iff.mp H
    obtain ⟨⟨t109, t110, t113, t114, t115⟩, A40, H⟩ := H
    replace H : ((spec_LineAck.f k t101 t102 t105 t106 t107).bind fun bt117 => (if (t115 != bt117.2.2.2.2) = true then (laws_FnLineAck.j0 k t107 t115 bt117.2.2.2.2 true t101 t102 t105 t106 t109 t110 t113 t114 bt117.1 bt117.2.1 bt117.2.2.1 bt117.2.2.2.1) else ((laws_hbLine.f k t109 t110 t113 t114 bt117.1 bt117.2.1 bt117.2.2.1 bt117.2.2.2.1).bind fun t125 => (if t125 = true then (laws_FnLineAck.j0 k t107 t115 bt117.2.2.2.2 (!t115) t101 t102 t105 t106 t109 t110 t113 t114 bt117.1 bt117.2.1 bt117.2.2.1 bt117.2.2.2.1) else (laws_FnLineAck.j0 k t107 t115 bt117.2.2.2.2 true t101 t102 t105 t106 t109 t110 t113 t114 bt117.1 bt117.2.1 bt117.2.2.1 bt117.2.2.2.1))))) = some r := H
    have A4 := Aside0.mk A40
    clear A40
    replace H := Option.bind_eq_some_iff.mp H
    obtain ⟨⟨t117, t118, t121, t122, t123⟩, A50, H⟩ := H
    replace H : (if (t115 != t123) = true then (laws_FnLineAck.j0 k t107 t115 t123 true t101 t102 t105 t106 t109 t110 t113 t114 t117 t118 t121 t122) else ((laws_hbLine.f k t109 t110 t113 t114 t117 t118 t121 t122).bind fun t125 => (if t125 = true then (laws_FnLineAck.j0 k t107 t115 t123 (!t115) t101 t102 t105 t106 t109 t110 t113 t114 t117 t118 t121 t122) else (laws_FnLineAck.j0 k t107 t115 t123 true t101 t102 t105 t106 t109 t110 t113 t114 t117 t118 t121 t122)))) = some r := H
    have A5 := Aside0.mk A50
    clear A50
    have HC6 := Aside0.mk H
    clear H
    go_enter Try.func4, Try.ntmps4
    go_upto_region 6 with (first | ((with_reducible refine gate_callee (f := 14) rfl ?_); refine goesL_ (some 17) rfl rfl Try.func14 (by kernel_rfl) rfl #[.slice A0 l0.length c0] rfl z2_9 ?_; (with_reducible refine (spec_DrawLineAck.calls k _ _ l0 t101 t102 t105 t106 t107 _ ?side1 ?side2 A3.out).mono ?_); (case side1 => repeat (first | exact HR0.out | (with_reducible refine Kd.C_alloc ?_ _) | (with_reducible refine Kd.C_drewN ?_ _) | (with_reducible refine Kd.C_drew ?_))); (case side2 => exact HC0.out); rintro e w7 ⟨v103, rfl, ho0, hb⟩; refine ⟨_, rfl, ?_⟩; have n0_ := Aside0.mk (Kd.R_lower ho0 (below_size z2_10)); have n1_ := Aside0.mk (below_step z2_10 hb); clear HB; have HO104 := n0_; have HB := n1_; clear n0_ n1_; (try clear hb); (try clear hb2); (try clear hk); (try clear hi); (try clear ho0)) | ((with_reducible refine gate_dst (N := 3) rfl ?_); refine box_event ?hg (N := 3) ?hd (cs := #[.int .i64 0, .slice none 0 0, .int .i64 0, .bool false]) (t := 42) ?hr ?_; (case hd => rfl); (case hg => rfl); (case hr => first | (go_simp; done) | (go_simp; rfl)); intro gb108 hg w8 hbox hb; have n0_ := Aside0.mk (Kd.R_below z2_19 hb); have n1_ := Aside0.mk (below_step z2_10 hb); have n2_ := Aside0.mk (hbox); have n3_ := Aside0.mk ((by rw [hg]; exact (below_size z2_10) : w.heap.size ≤ gb108)); have n4_ := Aside0.mk ((by rw [hg]; exact (below_size z2_10) : w.heap.size ≤ gb108)); clear HO104; clear HB; have HO104 := n0_; have HB := n1_; have BK108 := n2_; have GW108 := n3_; have GE108 := n4_; clear n0_ n1_ n2_ n3_ n4_; clear hb hbox hg; have hcz9_0 : w8.cell? ⟨gb108, 0, none⟩ = some (.int .i64 0) := (blk_cell BK108.out 0).trans rfl; have hcz9_1 : w8.cell? ⟨gb108, 1, none⟩ = some (.slice none 0 0) := (blk_cell BK108.out 1).trans rfl; have hcz9_2 : w8.cell? ⟨gb108, 2, none⟩ = some (.int .i64 0) := (blk_cell BK108.out 2).trans rfl; have hcz9_3 : w8.cell? ⟨gb108, 3, none⟩ = some (.bool false) := (blk_cell BK108.out 3).trans rfl; have hfz9_0 := blk_frozen BK108.out 0; have hfz9_1 := blk_frozen BK108.out 1; have hfz9_2 := blk_frozen BK108.out 2; have hfz9_3 := blk_frozen BK108.out 3; obtain ⟨Ao10, co10, eo10⟩ := Kd.R_slice HO104.out; subst eo10) | ((with_reducible refine gate_callee (f := 15) rfl ?_); refine goesL_ (some 23) rfl rfl Try.func15 (by kernel_rfl) rfl #[.agg #[.int .i64 t101, .slice Ao10 t102.length co10, .int .i64 t105, .bool t106], .int .i64 t107] rfl z2_9 ?_; (with_reducible refine (impl_LineAck.calls t101 _ _ t102 t105 t106 t107 t109 t110 t113 t114 t115 _ ?side1 ?side2 A4.out).mono ?_); (case side1 => refine (Kd.R_reads' (e := 9) (base := w.heap.size) (ok := fun k_ => True) (n := t102.length) (c := co10) ?_).2.2; exact z2_0); (case side2 => exact (Kd.R_reads' HO104.out).2.1); rintro e w11 ⟨v111, rfl, ho0, hb⟩; refine ⟨_, rfl, ?_⟩; have n0_ := Aside0.mk (Kd.R_elder' z2_0 (Kd.Q_base ho0) hb); have n1_ := Aside0.mk (Kd.Q_lower (Kd.Q_new' ho0 (Kd.R_lt z2_0)) (below_size z2_8)); have n2_ := Aside0.mk (blk_below (g := gb108) (o := .cells #[.int .i64 t101, .slice Ao10 t102.length co10, .int .i64 t105, .bool t106] 42 (0, 0)) (by (with_reducible repeat (first | refine blk_drewN ?_ _ | refine blk_drew ?_ | refine blk_alloc ?_ _)); refine blk_put (cs := #[.int .i64 t101, .slice Ao10 t102.length co10, .int .i64 t105, .bool false]) ?_ 3 _ rfl; (with_reducible repeat (first | refine blk_drewN ?_ _ | refine blk_drew ?_ | refine blk_alloc ?_ _)); refine blk_put (cs := #[.int .i64 t101, .slice Ao10 t102.length co10, .int .i64 0, .bool false]) ?_ 2 _ rfl; (with_reducible repeat (first | refine blk_drewN ?_ _ | refine blk_drew ?_ | refine blk_alloc ?_ _)); refine blk_put (cs := #[.int .i64 t101, .slice none 0 0, .int .i64 0, .bool false]) ?_ 1 _ rfl; (with_reducible repeat (first | refine blk_drewN ?_ _ | refine blk_drew ?_ | refine blk_alloc ?_ _)); refine blk_put (cs := #[.int .i64 0, .slice none 0 0, .int .i64 0, .bool false]) ?_ 0 _ rfl; (with_reducible repeat (first | refine blk_drewN ?_ _ | refine blk_drew ?_ | refine blk_alloc ?_ _)); exact BK108.out) hb); have n3_ := Aside0.mk (below_step z2_8 hb); clear HO104; clear BK108; clear HB; have HO104 := n0_; have HO112 := n1_; have BK108 := n2_; have HB := n3_; clear n0_ n1_ n2_ n3_; (try clear hb); (try clear hb2); (try clear hk); (try clear hi); (try clear ho0)) | ((with_reducible refine gate_dst (N := 5) rfl ?_); refine box_event ?hg (N := 5) ?hd (cs := #[.int .i64 0, .slice none 0 0, .int .i64 0, .bool false]) (t := 42) ?hr ?_; (case hd => rfl); (case hg => rfl); (case hr => first | (go_simp; done) | (go_simp; rfl)); intro gb116 hg w12 hbox hb; have n0_ := Aside0.mk (Kd.R_below z2_19 hb); have n1_ := Aside0.mk (Kd.Q_below (by (with_reducible repeat (first | apply Kd.Q_alloc | apply Kd.Q_drewN | apply Kd.Q_drew)); exact HO112.out) hb); have n2_ := Aside0.mk (blk_below (g := gb108) (o := .cells #[.int .i64 t101, .slice Ao10 t102.length co10, .int .i64 t105, .bool t106] 42 (0, 0)) z2_11 hb); have n3_ := Aside0.mk (below_step z2_8 hb); have n4_ := Aside0.mk (hbox); have n5_ := Aside0.mk ((by rw [hg]; exact (below_size z2_8) : w.heap.size ≤ gb116)); have n6_ := Aside0.mk ((by rw [hg]; exact (below_size z2_8) : w.heap.size ≤ gb116)); have n7_ := Aside0.mk ((by rw [hg]; exact Nat.ne_of_lt (blk_lt (g := gb108) (o := .cells #[.int .i64 t101, .slice Ao10 t102.length co10, .int .i64 t105, .bool t106] 42 (0, 0)) z2_11) : gb108 ≠ gb116)); have n8_ := Aside0.mk ((by rw [hg]; exact Nat.ne_of_gt (blk_lt (g := gb108) (o := .cells #[.int .i64 t101, .slice Ao10 t102.length co10, .int .i64 t105, .bool t106] 42 (0, 0)) z2_11) : gb116 ≠ gb108)); clear HO104; clear HO112; clear BK108; clear HB; have HO104 := n0_; have HO112 := n1_; have BK108 := n2_; have HB := n3_; have BK116 := n4_; have GW116 := n5_; have GE116 := n6_; have NB108_116 := n7_; have NB116_108 := n8_; clear n0_ n1_ n2_ n3_ n4_ n5_ n6_ n7_ n8_; clear hb hbox hg; have hnb13 := NB116_108.out; have hnc13 := NB108_116.out; have hcz14_0 : w12.cell? ⟨gb116, 0, none⟩ = some (.int .i64 0) := (blk_cell BK116.out 0).trans rfl; have hcz14_1 : w12.cell? ⟨gb116, 1, none⟩ = some (.slice none 0 0) := (blk_cell BK116.out 1).trans rfl; have hcz14_2 : w12.cell? ⟨gb116, 2, none⟩ = some (.int .i64 0) := (blk_cell BK116.out 2).trans rfl; have hcz14_3 : w12.cell? ⟨gb116, 3, none⟩ = some (.bool false) := (blk_cell BK116.out 3).trans rfl; have hfz14_0 := blk_frozen BK116.out 0; have hfz14_1 := blk_frozen BK116.out 1; have hfz14_2 := blk_frozen BK116.out 2; have hfz14_3 := blk_frozen BK116.out 3; obtain ⟨Ao15, co15, eo15, _⟩ := Kd.Q_slice HO112.out; subst eo15; have hcz16_0 : w12.cell? ⟨gb108, 0, none⟩ = some (.int .i64 t101) := (blk_cell BK108.out 0).trans rfl; have hcz16_1 : w12.cell? ⟨gb108, 1, none⟩ = some (.slice Ao10 t102.length co10) := (blk_cell BK108.out 1).trans rfl; have hcz16_2 : w12.cell? ⟨gb108, 2, none⟩ = some (.int .i64 t105) := (blk_cell BK108.out 2).trans rfl; have hcz16_3 : w12.cell? ⟨gb108, 3, none⟩ = some (.bool t106) := (blk_cell BK108.out 3).trans rfl; have hfz16_0 := blk_frozen BK108.out 0; have hfz16_1 := blk_frozen BK108.out 1; have hfz16_2 := blk_frozen BK108.out 2; have hfz16_3 := blk_frozen BK108.out 3) | ((with_reducible refine gate_callee (f := 16) rfl ?_); refine goesL_ (some 29) rfl rfl Try.func16 (by kernel_rfl) rfl #[.agg #[.int .i64 t101, .slice Ao10 t102.length co10, .int .i64 t105, .bool t106], .int .i64 t107] rfl z2_9 ?_; (with_reducible refine (spec_LineAck.calls k t101 _ _ t102 t105 t106 t107 t117 t118 t121 t122 t123 _ ?side1 ?side2 A5.out).mono ?_); (case side1 => refine (Kd.R_reads' (e := 9) (base := w.heap.size) (ok := fun k_ => (True ∧ some k_ ≠ (.slice Ao15 t110.length co15 : Value).ownBlock)) (n := t102.length) (c := co10) ?_).2.2; exact z2_1); (case side2 => exact (Kd.R_reads' HO104.out).2.1); rintro e w17 ⟨v119, rfl, ho0, hb⟩; refine ⟨_, rfl, ?_⟩; have n0_ := Aside0.mk (Kd.R_elder' z2_1 (Kd.R_base ho0) hb); have n1_ := Aside0.mk (Kd.Q_elder' (by (with_reducible repeat (first | apply Kd.Q_alloc | apply Kd.Q_drewN | apply Kd.Q_drew)); exact (Kd.Q_mono (Kd.Q_far (p := ⟨gb116, 3, none⟩) (Kd.Q_far (p := ⟨gb116, 2, none⟩) (Kd.Q_far (p := ⟨gb116, 1, none⟩) (Kd.Q_far (p := ⟨gb116, 0, none⟩) (Kd.Q_types HO112.out BK116.out (by decide)) (fun _ hk => hk.2) (.int .i64 t109)) (fun _ hk => hk.2) (.slice Ao15 t110.length co15)) (fun _ hk => hk.2) (.int .i64 t113)) (fun _ hk => hk.2) (.bool t114)) (fun _ h_ => h_.1))) (Kd.R_base ho0) hb); have n2_ := Aside0.mk (Kd.R_lower (Kd.R_new' (Kd.R_new' ho0 (Kd.R_lt z2_1)) (Kd.Q_lt (by (with_reducible repeat (first | apply Kd.Q_alloc | apply Kd.Q_drewN | apply Kd.Q_drew)); exact (Kd.Q_mono (Kd.Q_far (p := ⟨gb116, 3, none⟩) (Kd.Q_far (p := ⟨gb116, 2, none⟩) (Kd.Q_far (p := ⟨gb116, 1, none⟩) (Kd.Q_far (p := ⟨gb116, 0, none⟩) (Kd.Q_types HO112.out BK116.out (by decide)) (fun _ hk => hk.2) (.int .i64 t109)) (fun _ hk => hk.2) (.slice Ao15 t110.length co15)) (fun _ hk => hk.2) (.int .i64 t113)) (fun _ hk => hk.2) (.bool t114)) (fun _ h_ => h_.1))))) (below_size z2_6)); have n3_ := Aside0.mk (blk_below (g := gb108) (o := .cells #[.int .i64 t101, .slice Ao10 t102.length co10, .int .i64 t105, .bool t106] 42 (0, 0)) (by (with_reducible repeat (first | refine blk_drewN ?_ _ | refine blk_drew ?_ | refine blk_alloc ?_ _ | refine blk_far ?_ NB108_116.out _)); exact BK108.out) hb); have n4_ := Aside0.mk (blk_below (g := gb116) (o := .cells #[.int .i64 t109, .slice Ao15 t110.length co15, .int .i64 t113, .bool t114] 42 (0, 0)) (by (with_reducible repeat (first | refine blk_drewN ?_ _ | refine blk_drew ?_ | refine blk_alloc ?_ _)); refine blk_put (cs := #[.int .i64 t109, .slice Ao15 t110.length co15, .int .i64 t113, .bool false]) ?_ 3 _ rfl; (with_reducible repeat (first | refine blk_drewN ?_ _ | refine blk_drew ?_ | refine blk_alloc ?_ _)); refine blk_put (cs := #[.int .i64 t109, .slice Ao15 t110.length co15, .int .i64 0, .bool false]) ?_ 2 _ rfl; (with_reducible repeat (first | refine blk_drewN ?_ _ | refine blk_drew ?_ | refine blk_alloc ?_ _)); refine blk_put (cs := #[.int .i64 t109, .slice none 0 0, .int .i64 0, .bool false]) ?_ 1 _ rfl; (with_reducible repeat (first | refine blk_drewN ?_ _ | refine blk_drew ?_ | refine blk_alloc ?_ _)); refine blk_put (cs := #[.int .i64 0, .slice none 0 0, .int .i64 0, .bool false]) ?_ 0 _ rfl; (with_reducible repeat (first | refine blk_drewN ?_ _ | refine blk_drew ?_ | refine blk_alloc ?_ _)); exact BK116.out) hb); have n5_ := Aside0.mk (below_step z2_6 hb); clear HO104; clear HO112; clear BK108; clear BK116; clear HB; have HO104 := n0_; have HO112 := n1_; have HO120 := n2_; have BK108 := n3_; have BK116 := n4_; have HB := n5_; clear n0_ n1_ n2_ n3_ n4_ n5_; (try clear hb); (try clear hb2); (try clear hk); (try clear hi); (try clear ho0)) | ((with_reducible refine gate_dst (N := 7) rfl ?_); refine box_event ?hg (N := 7) ?hd (cs := #[.int .i64 0, .slice none 0 0, .int .i64 0, .bool false]) (t := 42) ?hr ?_; (case hd => rfl); (case hg => rfl); (case hr => first | (go_simp; done) | (go_simp; rfl)); intro gb124 hg w18 hbox hb; have n0_ := Aside0.mk (Kd.R_below z2_19 hb); have n1_ := Aside0.mk (Kd.Q_below (by (with_reducible repeat (first | apply Kd.Q_alloc | apply Kd.Q_drewN | apply Kd.Q_drew)); exact HO112.out) hb); have n2_ := Aside0.mk (Kd.R_below (by (with_reducible repeat (first | apply Kd.R_alloc | apply Kd.R_drewN | apply Kd.R_drew)); exact HO120.out) hb); have n3_ := Aside0.mk (blk_below (g := gb108) (o := .cells #[.int .i64 t101, .slice Ao10 t102.length co10, .int .i64 t105, .bool t106] 42 (0, 0)) z2_11 hb); have n4_ := Aside0.mk (blk_below (g := gb116) (o := .cells #[.int .i64 t109, .slice Ao15 t110.length co15, .int .i64 t113, .bool t114] 42 (0, 0)) z2_12 hb); have n5_ := Aside0.mk (below_step z2_6 hb); have n6_ := Aside0.mk (hbox); have n7_ := Aside0.mk ((by rw [hg]; exact (below_size z2_6) : w.heap.size ≤ gb124)); have n8_ := Aside0.mk ((by rw [hg]; exact (below_size z2_6) : w.heap.size ≤ gb124)); have n9_ := Aside0.mk ((by rw [hg]; exact Nat.ne_of_lt (blk_lt (g := gb108) (o := .cells #[.int .i64 t101, .slice Ao10 t102.length co10, .int .i64 t105, .bool t106] 42 (0, 0)) z2_11) : gb108 ≠ gb124)); have n10_ := Aside0.mk ((by rw [hg]; exact Nat.ne_of_gt (blk_lt (g := gb108) (o := .cells #[.int .i64 t101, .slice Ao10 t102.length co10, .int .i64 t105, .bool t106] 42 (0, 0)) z2_11) : gb124 ≠ gb108)); have n11_ := Aside0.mk ((by rw [hg]; exact Nat.ne_of_lt (blk_lt (g := gb116) (o := .cells #[.int .i64 t109, .slice Ao15 t110.length co15, .int .i64 t113, .bool t114] 42 (0, 0)) z2_12) : gb116 ≠ gb124)); have n12_ := Aside0.mk ((by rw [hg]; exact Nat.ne_of_gt (blk_lt (g := gb116) (o := .cells #[.int .i64 t109, .slice Ao15 t110.length co15, .int .i64 t113, .bool t114] 42 (0, 0)) z2_12) : gb124 ≠ gb116)); clear HO104; clear HO112; clear HO120; clear BK108; clear BK116; clear HB; have HO104 := n0_; have HO112 := n1_; have HO120 := n2_; have BK108 := n3_; have BK116 := n4_; have HB := n5_; have BK124 := n6_; have GW124 := n7_; have GE124 := n8_; have NB108_124 := n9_; have NB124_108 := n10_; have NB116_124 := n11_; have NB124_116 := n12_; clear n0_ n1_ n2_ n3_ n4_ n5_ n6_ n7_ n8_ n9_ n10_ n11_ n12_; clear hb hbox hg; have hnb19 := NB124_108.out; have hnc19 := NB108_124.out; have hnb20 := NB124_116.out; have hnc20 := NB116_124.out; have hcz21_0 : w18.cell? ⟨gb124, 0, none⟩ = some (.int .i64 0) := (blk_cell BK124.out 0).trans rfl; have hcz21_1 : w18.cell? ⟨gb124, 1, none⟩ = some (.slice none 0 0) := (blk_cell BK124.out 1).trans rfl; have hcz21_2 : w18.cell? ⟨gb124, 2, none⟩ = some (.int .i64 0) := (blk_cell BK124.out 2).trans rfl; have hcz21_3 : w18.cell? ⟨gb124, 3, none⟩ = some (.bool false) := (blk_cell BK124.out 3).trans rfl; have hfz21_0 := blk_frozen BK124.out 0; have hfz21_1 := blk_frozen BK124.out 1; have hfz21_2 := blk_frozen BK124.out 2; have hfz21_3 := blk_frozen BK124.out 3; obtain ⟨Ao22, co22, eo22⟩ := Kd.R_slice HO120.out; subst eo22))
    (try simp only [Act.put, List.setIfInBounds_toArray, List.set_cons_zero, List.set_cons_succ])
    go_cut [44] (fun v44 wc => ∃ (kq : Nat) (x44_5 : Bool), v44 = .bool x44_5 ∧ Aside0 (laws_FnLineAck.j0 kq t107 t115 t123 x44_5 t101 t102 t105 t106 t109 t110 t113 t114 t117 t118 t121 t122 = some r) ∧ Aside0 (kq ≤ k) ∧ Aside0 (Kd.Q Kd.string 9 wc w.heap.size (fun k_ => some k_ ≠ ((.slice Ao15 t110.length co15) : Value).ownBlock ∧ some k_ ≠ ((.slice Ao22 t118.length co22) : Value).ownBlock) (.slice Ao10 t102.length co10) t102) ∧ Aside0 (Kd.Q Kd.string 9 wc w.heap.size (fun k_ => some k_ ≠ ((.slice Ao10 t102.length co10) : Value).ownBlock ∧ some k_ ≠ ((.slice Ao22 t118.length co22) : Value).ownBlock) (.slice Ao15 t110.length co15) t110) ∧ Aside0 (Kd.Q Kd.string 9 wc w.heap.size (fun k_ => some k_ ≠ ((.slice Ao10 t102.length co10) : Value).ownBlock ∧ some k_ ≠ ((.slice Ao15 t110.length co15) : Value).ownBlock) (.slice Ao22 t118.length co22) t118) ∧ Aside0 (wc.heap[gb108]? = some (.cells #[.int .i64 t101, (.slice Ao10 t102.length co10), .int .i64 t105, .bool t106] 42 (0, 0))) ∧ Aside0 (wc.heap[gb116]? = some (.cells #[.int .i64 t109, (.slice Ao15 t110.length co15), .int .i64 t113, .bool t114] 42 (0, 0))) ∧ Aside0 (wc.heap[gb124]? = some (.cells #[.int .i64 t117, (.slice Ao22 t118.length co22), .int .i64 t121, .bool t122] 42 (0, 0))) ∧ Aside0 (Below w.heap.size w wc))
    case first =>
      have H := HC6.out
      clear HC6
      by_cases c23 : (t115 != t123) = true
      · rw [if_pos c23] at H
        have c23b0 : (t115 != t123) = true := c23
        (try (have c23b1 : decide (t115 = t123) = false := by simpa using c23))
        (try (have c23b2 : (t115 == t123) = false := by simpa using c23))
        (try (have c23b3 : ¬ (t115 = t123) := by simpa using c23))
        clear c23
        (first | rw [c23b0] | (simp only [i64_w, i32_w]; rw [c23b0]) | skip)
        have H' := Aside0.mk H
        clear H
        go_wp2
        go_meet
        case rel => exact ⟨_, (true), z2_22, H', ⟨by first | omega | exact Nat.le_refl _⟩, ⟨Kd.Q_of_R (by (with_reducible repeat (first | apply Kd.R_alloc | apply Kd.R_drewN | apply Kd.R_drew)); exact Kd.R_mono (Kd.R_far (p := ⟨gb124, 3, none⟩) (Kd.R_far (p := ⟨gb124, 2, none⟩) (Kd.R_far (p := ⟨gb124, 1, none⟩) (Kd.R_far (p := ⟨gb124, 0, none⟩) (Kd.R_types HO104.out BK124.out (by decide)) (fun _ hk => hk.2) (.int .i64 t117)) (fun _ hk => hk.2) (.slice Ao22 t118.length co22)) (fun _ hk => hk.2) (.int .i64 t121)) (fun _ hk => hk.2) (.bool t122)) (fun _ hk => ⟨hk.1.1.2, hk.1.2⟩))⟩, ⟨by (with_reducible repeat (first | apply Kd.Q_alloc | apply Kd.Q_drewN | apply Kd.Q_drew)); exact Kd.Q_mono (Kd.Q_far (p := ⟨gb124, 3, none⟩) (Kd.Q_far (p := ⟨gb124, 2, none⟩) (Kd.Q_far (p := ⟨gb124, 1, none⟩) (Kd.Q_far (p := ⟨gb124, 0, none⟩) (Kd.Q_types HO112.out BK124.out (by decide)) (fun _ hk => hk.2) (.int .i64 t117)) (fun _ hk => hk.2) (.slice Ao22 t118.length co22)) (fun _ hk => hk.2) (.int .i64 t121)) (fun _ hk => hk.2) (.bool t122)) (fun _ hk => ⟨hk.1.1.2, hk.1.2⟩)⟩, ⟨Kd.Q_of_R (by (with_reducible repeat (first | apply Kd.R_alloc | apply Kd.R_drewN | apply Kd.R_drew)); exact Kd.R_mono (Kd.R_far (p := ⟨gb124, 3, none⟩) (Kd.R_far (p := ⟨gb124, 2, none⟩) (Kd.R_far (p := ⟨gb124, 1, none⟩) (Kd.R_far (p := ⟨gb124, 0, none⟩) (Kd.R_types HO120.out BK124.out (by decide)) (fun _ hk => hk.2) (.int .i64 t117)) (fun _ hk => hk.2) (.slice Ao22 t118.length co22)) (fun _ hk => hk.2) (.int .i64 t121)) (fun _ hk => hk.2) (.bool t122)) (fun _ hk => ⟨hk.1.1.2, hk.1.2⟩))⟩, ⟨by (with_reducible repeat (first | refine blk_drewN ?_ _ | refine blk_drew ?_ | refine blk_alloc ?_ _ | refine blk_far ?_ NB108_124.out _)); exact BK108.out⟩, ⟨by (with_reducible repeat (first | refine blk_drewN ?_ _ | refine blk_drew ?_ | refine blk_alloc ?_ _ | refine blk_far ?_ NB116_124.out _)); exact BK116.out⟩, ⟨by (with_reducible repeat (first | refine blk_drewN ?_ _ | refine blk_drew ?_ | refine blk_alloc ?_ _)); refine blk_put (cs := #[.int .i64 t117, .slice Ao22 t118.length co22, .int .i64 t121, .bool false]) ?_ 3 _ rfl; (with_reducible repeat (first | refine blk_drewN ?_ _ | refine blk_drew ?_ | refine blk_alloc ?_ _)); refine blk_put (cs := #[.int .i64 t117, .slice Ao22 t118.length co22, .int .i64 0, .bool false]) ?_ 2 _ rfl; (with_reducible repeat (first | refine blk_drewN ?_ _ | refine blk_drew ?_ | refine blk_alloc ?_ _)); refine blk_put (cs := #[.int .i64 t117, .slice none 0 0, .int .i64 0, .bool false]) ?_ 1 _ rfl; (with_reducible repeat (first | refine blk_drewN ?_ _ | refine blk_drew ?_ | refine blk_alloc ?_ _)); refine blk_put (cs := #[.int .i64 0, .slice none 0 0, .int .i64 0, .bool false]) ?_ 0 _ rfl; (with_reducible repeat (first | refine blk_drewN ?_ _ | refine blk_drew ?_ | refine blk_alloc ?_ _)); exact BK124.out⟩, ⟨by repeat (first | (with_reducible first | exact HB.out | apply below_alloc | apply pw_below_drewN | apply below_drew1 | refine below_set ?_ GE108.out | refine below_set ?_ GE116.out | refine below_set ?_ GE124.out) | exact HB.out)⟩⟩
      · rw [if_neg c23] at H
        have c23b0 : (t115 != t123) = false := by simpa using c23
        (try (have c23b1 : decide (t115 = t123) = true := by simpa using c23))
        (try (have c23b2 : (t115 == t123) = true := by simpa using c23))
        clear c23
        (first | rw [c23b0] | (simp only [i64_w, i32_w]; rw [c23b0]) | skip)
        replace H := Option.bind_eq_some_iff.mp H
        obtain ⟨t125, A240, H⟩ := H
        replace H : (if t125 = true then (laws_FnLineAck.j0 k t107 t115 t123 (!t115) t101 t102 t105 t106 t109 t110 t113 t114 t117 t118 t121 t122) else (laws_FnLineAck.j0 k t107 t115 t123 true t101 t102 t105 t106 t109 t110 t113 t114 t117 t118 t121 t122)) = some r := H
        have A24 := Aside0.mk A240
        clear A240
        by_cases c25 : t125 = true
        · subst c25
          have H1 : (laws_FnLineAck.j0 k t107 t115 t123 (!t115) t101 t102 t105 t106 t109 t110 t113 t114 t117 t118 t121 t122) = some r := by rw [if_pos rfl] at H; exact H
          clear H
          have H := H1
          clear H1
          have H' := Aside0.mk H
          clear H
          have hnb26 := NB116_108.out
          have hnc26 := NB108_116.out
          have hnb27 := NB116_124.out
          have hnc27 := NB124_116.out
          have hcz28_0 : w18.cell? ⟨gb116, 0, none⟩ = some (.int .i64 t109) := (blk_cell BK116.out 0).trans rfl
          have hcz28_1 : w18.cell? ⟨gb116, 1, none⟩ = some (.slice Ao15 t110.length co15) := (blk_cell BK116.out 1).trans rfl
          have hcz28_2 : w18.cell? ⟨gb116, 2, none⟩ = some (.int .i64 t113) := (blk_cell BK116.out 2).trans rfl
          have hcz28_3 : w18.cell? ⟨gb116, 3, none⟩ = some (.bool t114) := (blk_cell BK116.out 3).trans rfl
          have hfz28_0 := blk_frozen BK116.out 0
          have hfz28_1 := blk_frozen BK116.out 1
          have hfz28_2 := blk_frozen BK116.out 2
          have hfz28_3 := blk_frozen BK116.out 3
          have hnb29 := NB124_108.out
          have hnc29 := NB108_124.out
          have hcz30_0 : w18.cell? ⟨gb124, 0, none⟩ = some (.int .i64 0) := (blk_cell BK124.out 0).trans rfl
          have hcz30_1 : w18.cell? ⟨gb124, 1, none⟩ = some (.slice none 0 0) := (blk_cell BK124.out 1).trans rfl
          have hcz30_2 : w18.cell? ⟨gb124, 2, none⟩ = some (.int .i64 0) := (blk_cell BK124.out 2).trans rfl
          have hcz30_3 : w18.cell? ⟨gb124, 3, none⟩ = some (.bool false) := (blk_cell BK124.out 3).trans rfl
          have hfz30_0 := blk_frozen BK124.out 0
          have hfz30_1 := blk_frozen BK124.out 1
          have hfz30_2 := blk_frozen BK124.out 2
          have hfz30_3 := blk_frozen BK124.out 3
          go_wp2_with (first | (go_at_call 17; (with_reducible refine (laws_hbLine.calls k t109 _ _ t110 t113 t114 t117 _ _ t118 t121 t122 true _ ?side1 ?side2 ?side3 ?side4 A24.out).mono ?_); (case side1 => refine (Kd.Q_reads' (e := 9) (base := w.heap.size) (ok := fun k_ => ((True ∧ some k_ ≠ (.slice Ao10 t102.length co10 : Value).ownBlock) ∧ some k_ ≠ (.slice Ao22 t118.length co22 : Value).ownBlock)) (n := t110.length) (c := co15) ?_).2.2; exact z2_2); (case side2 => exact (Kd.Q_reads' HO112.out).2.1); (case side3 => refine (Kd.R_reads' (e := 9) (base := w.heap.size) (ok := fun k_ => ((True ∧ some k_ ≠ (.slice Ao10 t102.length co10 : Value).ownBlock) ∧ some k_ ≠ (.slice Ao15 t110.length co15 : Value).ownBlock)) (n := t118.length) (c := co22) ?_).2.2; exact z2_3); (case side4 => exact (Kd.R_reads' HO120.out).2.1); rintro e w31 ⟨rfl, hb⟩; have n0_ := Aside0.mk (Kd.R_below (by (with_reducible repeat (first | apply Kd.R_alloc | apply Kd.R_drewN | apply Kd.R_drew)); exact (Kd.R_mono (Kd.R_far (p := ⟨gb124, 3, none⟩) (Kd.R_far (p := ⟨gb124, 2, none⟩) (Kd.R_far (p := ⟨gb124, 1, none⟩) (Kd.R_far (p := ⟨gb124, 0, none⟩) (Kd.R_types HO104.out BK124.out (by decide)) (fun _ hk => hk.2) (.int .i64 t117)) (fun _ hk => hk.2) (.slice Ao22 t118.length co22)) (fun _ hk => hk.2) (.int .i64 t121)) (fun _ hk => hk.2) (.bool t122)) (fun _ h_ => h_.1))) hb); have n1_ := Aside0.mk (Kd.Q_below z2_2 hb); have n2_ := Aside0.mk (Kd.R_below z2_3 hb); have n3_ := Aside0.mk (blk_below (g := gb108) (o := .cells #[.int .i64 t101, .slice Ao10 t102.length co10, .int .i64 t105, .bool t106] 42 (0, 0)) (by (with_reducible repeat (first | refine blk_drewN ?_ _ | refine blk_drew ?_ | refine blk_alloc ?_ _ | refine blk_far ?_ NB108_124.out _)); exact BK108.out) hb); have n4_ := Aside0.mk (blk_below (g := gb116) (o := .cells #[.int .i64 t109, .slice Ao15 t110.length co15, .int .i64 t113, .bool t114] 42 (0, 0)) (by (with_reducible repeat (first | refine blk_drewN ?_ _ | refine blk_drew ?_ | refine blk_alloc ?_ _ | refine blk_far ?_ NB116_124.out _)); exact BK116.out) hb); have n5_ := Aside0.mk (blk_below (g := gb124) (o := .cells #[.int .i64 t117, .slice Ao22 t118.length co22, .int .i64 t121, .bool t122] 42 (0, 0)) (by (with_reducible repeat (first | refine blk_drewN ?_ _ | refine blk_drew ?_ | refine blk_alloc ?_ _)); refine blk_put (cs := #[.int .i64 t117, .slice Ao22 t118.length co22, .int .i64 t121, .bool false]) ?_ 3 _ rfl; (with_reducible repeat (first | refine blk_drewN ?_ _ | refine blk_drew ?_ | refine blk_alloc ?_ _)); refine blk_put (cs := #[.int .i64 t117, .slice Ao22 t118.length co22, .int .i64 0, .bool false]) ?_ 2 _ rfl; (with_reducible repeat (first | refine blk_drewN ?_ _ | refine blk_drew ?_ | refine blk_alloc ?_ _)); refine blk_put (cs := #[.int .i64 t117, .slice none 0 0, .int .i64 0, .bool false]) ?_ 1 _ rfl; (with_reducible repeat (first | refine blk_drewN ?_ _ | refine blk_drew ?_ | refine blk_alloc ?_ _)); refine blk_put (cs := #[.int .i64 0, .slice none 0 0, .int .i64 0, .bool false]) ?_ 0 _ rfl; (with_reducible repeat (first | refine blk_drewN ?_ _ | refine blk_drew ?_ | refine blk_alloc ?_ _)); exact BK124.out) hb); have n6_ := Aside0.mk (below_step z2_5 hb); clear HO104; clear HO112; clear HO120; clear BK108; clear BK116; clear BK124; clear HB; have HO104 := n0_; have HO112 := n1_; have HO120 := n2_; have BK108 := n3_; have BK116 := n4_; have BK124 := n5_; have HB := n6_; clear n0_ n1_ n2_ n3_ n4_ n5_ n6_; (try clear hb); (try clear hb2); (try clear hk); (try clear hi)))
          go_meet
          case rel => exact ⟨_, (!t115), z2_22, H', ⟨by first | omega | exact Nat.le_refl _⟩, ⟨Kd.Q_of_R (by (with_reducible repeat (first | apply Kd.R_alloc | apply Kd.R_drewN | apply Kd.R_drew)); exact Kd.R_mono HO104.out (fun _ hk => ⟨hk.1.2, hk.2⟩))⟩, ⟨by (with_reducible repeat (first | apply Kd.Q_alloc | apply Kd.Q_drewN | apply Kd.Q_drew)); exact Kd.Q_mono HO112.out (fun _ hk => ⟨hk.1.2, hk.2⟩)⟩, ⟨Kd.Q_of_R (by (with_reducible repeat (first | apply Kd.R_alloc | apply Kd.R_drewN | apply Kd.R_drew)); exact Kd.R_mono HO120.out (fun _ hk => ⟨hk.1.2, hk.2⟩))⟩, ⟨by (with_reducible repeat (first | refine blk_drewN ?_ _ | refine blk_drew ?_ | refine blk_alloc ?_ _)); exact BK108.out⟩, ⟨by (with_reducible repeat (first | refine blk_drewN ?_ _ | refine blk_drew ?_ | refine blk_alloc ?_ _)); exact BK116.out⟩, ⟨by (with_reducible repeat (first | refine blk_drewN ?_ _ | refine blk_drew ?_ | refine blk_alloc ?_ _)); exact BK124.out⟩, ⟨by repeat (first | (with_reducible first | exact HB.out | apply below_alloc | apply pw_below_drewN | apply below_drew1 | refine below_set ?_ GE108.out | refine below_set ?_ GE116.out | refine below_set ?_ GE124.out) | exact HB.out)⟩⟩
        · replace c25 := Bool.eq_false_iff.mpr c25
          subst c25
          have H1 : (laws_FnLineAck.j0 k t107 t115 t123 true t101 t102 t105 t106 t109 t110 t113 t114 t117 t118 t121 t122) = some r := by rw [if_neg (show ¬ (false = true) by decide)] at H; exact H
          clear H
          have H := H1
          clear H1
          have H' := Aside0.mk H
          clear H
          have hnb32 := NB116_108.out
          have hnc32 := NB108_116.out
          have hnb33 := NB116_124.out
          have hnc33 := NB124_116.out
          have hcz34_0 : w18.cell? ⟨gb116, 0, none⟩ = some (.int .i64 t109) := (blk_cell BK116.out 0).trans rfl
          have hcz34_1 : w18.cell? ⟨gb116, 1, none⟩ = some (.slice Ao15 t110.length co15) := (blk_cell BK116.out 1).trans rfl
          have hcz34_2 : w18.cell? ⟨gb116, 2, none⟩ = some (.int .i64 t113) := (blk_cell BK116.out 2).trans rfl
          have hcz34_3 : w18.cell? ⟨gb116, 3, none⟩ = some (.bool t114) := (blk_cell BK116.out 3).trans rfl
          have hfz34_0 := blk_frozen BK116.out 0
          have hfz34_1 := blk_frozen BK116.out 1
          have hfz34_2 := blk_frozen BK116.out 2
          have hfz34_3 := blk_frozen BK116.out 3
          have hnb35 := NB124_108.out
          have hnc35 := NB108_124.out
          have hcz36_0 : w18.cell? ⟨gb124, 0, none⟩ = some (.int .i64 0) := (blk_cell BK124.out 0).trans rfl
          have hcz36_1 : w18.cell? ⟨gb124, 1, none⟩ = some (.slice none 0 0) := (blk_cell BK124.out 1).trans rfl
          have hcz36_2 : w18.cell? ⟨gb124, 2, none⟩ = some (.int .i64 0) := (blk_cell BK124.out 2).trans rfl
          have hcz36_3 : w18.cell? ⟨gb124, 3, none⟩ = some (.bool false) := (blk_cell BK124.out 3).trans rfl
          have hfz36_0 := blk_frozen BK124.out 0
          have hfz36_1 := blk_frozen BK124.out 1
          have hfz36_2 := blk_frozen BK124.out 2
          have hfz36_3 := blk_frozen BK124.out 3
          go_wp2_with (first | (go_at_call 17; (with_reducible refine (laws_hbLine.calls k t109 _ _ t110 t113 t114 t117 _ _ t118 t121 t122 false _ ?side1 ?side2 ?side3 ?side4 A24.out).mono ?_); (case side1 => refine (Kd.Q_reads' (e := 9) (base := w.heap.size) (ok := fun k_ => ((True ∧ some k_ ≠ (.slice Ao10 t102.length co10 : Value).ownBlock) ∧ some k_ ≠ (.slice Ao22 t118.length co22 : Value).ownBlock)) (n := t110.length) (c := co15) ?_).2.2; exact z2_2); (case side2 => exact (Kd.Q_reads' HO112.out).2.1); (case side3 => refine (Kd.R_reads' (e := 9) (base := w.heap.size) (ok := fun k_ => ((True ∧ some k_ ≠ (.slice Ao10 t102.length co10 : Value).ownBlock) ∧ some k_ ≠ (.slice Ao15 t110.length co15 : Value).ownBlock)) (n := t118.length) (c := co22) ?_).2.2; exact z2_3); (case side4 => exact (Kd.R_reads' HO120.out).2.1); rintro e w37 ⟨rfl, hb⟩; have n0_ := Aside0.mk (Kd.R_below (by (with_reducible repeat (first | apply Kd.R_alloc | apply Kd.R_drewN | apply Kd.R_drew)); exact (Kd.R_mono (Kd.R_far (p := ⟨gb124, 3, none⟩) (Kd.R_far (p := ⟨gb124, 2, none⟩) (Kd.R_far (p := ⟨gb124, 1, none⟩) (Kd.R_far (p := ⟨gb124, 0, none⟩) (Kd.R_types HO104.out BK124.out (by decide)) (fun _ hk => hk.2) (.int .i64 t117)) (fun _ hk => hk.2) (.slice Ao22 t118.length co22)) (fun _ hk => hk.2) (.int .i64 t121)) (fun _ hk => hk.2) (.bool t122)) (fun _ h_ => h_.1))) hb); have n1_ := Aside0.mk (Kd.Q_below z2_2 hb); have n2_ := Aside0.mk (Kd.R_below z2_3 hb); have n3_ := Aside0.mk (blk_below (g := gb108) (o := .cells #[.int .i64 t101, .slice Ao10 t102.length co10, .int .i64 t105, .bool t106] 42 (0, 0)) (by (with_reducible repeat (first | refine blk_drewN ?_ _ | refine blk_drew ?_ | refine blk_alloc ?_ _ | refine blk_far ?_ NB108_124.out _)); exact BK108.out) hb); have n4_ := Aside0.mk (blk_below (g := gb116) (o := .cells #[.int .i64 t109, .slice Ao15 t110.length co15, .int .i64 t113, .bool t114] 42 (0, 0)) (by (with_reducible repeat (first | refine blk_drewN ?_ _ | refine blk_drew ?_ | refine blk_alloc ?_ _ | refine blk_far ?_ NB116_124.out _)); exact BK116.out) hb); have n5_ := Aside0.mk (blk_below (g := gb124) (o := .cells #[.int .i64 t117, .slice Ao22 t118.length co22, .int .i64 t121, .bool t122] 42 (0, 0)) (by (with_reducible repeat (first | refine blk_drewN ?_ _ | refine blk_drew ?_ | refine blk_alloc ?_ _)); refine blk_put (cs := #[.int .i64 t117, .slice Ao22 t118.length co22, .int .i64 t121, .bool false]) ?_ 3 _ rfl; (with_reducible repeat (first | refine blk_drewN ?_ _ | refine blk_drew ?_ | refine blk_alloc ?_ _)); refine blk_put (cs := #[.int .i64 t117, .slice Ao22 t118.length co22, .int .i64 0, .bool false]) ?_ 2 _ rfl; (with_reducible repeat (first | refine blk_drewN ?_ _ | refine blk_drew ?_ | refine blk_alloc ?_ _)); refine blk_put (cs := #[.int .i64 t117, .slice none 0 0, .int .i64 0, .bool false]) ?_ 1 _ rfl; (with_reducible repeat (first | refine blk_drewN ?_ _ | refine blk_drew ?_ | refine blk_alloc ?_ _)); refine blk_put (cs := #[.int .i64 0, .slice none 0 0, .int .i64 0, .bool false]) ?_ 0 _ rfl; (with_reducible repeat (first | refine blk_drewN ?_ _ | refine blk_drew ?_ | refine blk_alloc ?_ _)); exact BK124.out) hb); have n6_ := Aside0.mk (below_step z2_5 hb); clear HO104; clear HO112; clear HO120; clear BK108; clear BK116; clear BK124; clear HB; have HO104 := n0_; have HO112 := n1_; have HO120 := n2_; have BK108 := n3_; have BK116 := n4_; have BK124 := n5_; have HB := n6_; clear n0_ n1_ n2_ n3_ n4_ n5_ n6_; (try clear hb); (try clear hb2); (try clear hk); (try clear hi)))
          go_meet
          case rel => exact ⟨_, (true), z2_22, H', ⟨by first | omega | exact Nat.le_refl _⟩, ⟨Kd.Q_of_R (by (with_reducible repeat (first | apply Kd.R_alloc | apply Kd.R_drewN | apply Kd.R_drew)); exact Kd.R_mono HO104.out (fun _ hk => ⟨hk.1.2, hk.2⟩))⟩, ⟨by (with_reducible repeat (first | apply Kd.Q_alloc | apply Kd.Q_drewN | apply Kd.Q_drew)); exact Kd.Q_mono HO112.out (fun _ hk => ⟨hk.1.2, hk.2⟩)⟩, ⟨Kd.Q_of_R (by (with_reducible repeat (first | apply Kd.R_alloc | apply Kd.R_drewN | apply Kd.R_drew)); exact Kd.R_mono HO120.out (fun _ hk => ⟨hk.1.2, hk.2⟩))⟩, ⟨by (with_reducible repeat (first | refine blk_drewN ?_ _ | refine blk_drew ?_ | refine blk_alloc ?_ _)); exact BK108.out⟩, ⟨by (with_reducible repeat (first | refine blk_drewN ?_ _ | refine blk_drew ?_ | refine blk_alloc ?_ _)); exact BK116.out⟩, ⟨by (with_reducible repeat (first | refine blk_drewN ?_ _ | refine blk_drew ?_ | refine blk_alloc ?_ _)); exact BK124.out⟩, ⟨by repeat (first | (with_reducible first | exact HB.out | apply below_alloc | apply pw_below_drewN | apply below_drew1 | refine below_set ?_ GE108.out | refine below_set ?_ GE116.out | refine below_set ?_ GE124.out) | exact HB.out)⟩⟩
    case rest =>
      clear HC6
      try clear c1
      try clear c2
      try clear c2b0
      try clear c2b1
      try clear p2
      try clear c3
      try clear c4
      try clear c13
      try clear c14
      try clear c15
      try clear c16
      try clear c19
      try clear c20
      try clear c23
      try clear c23b0
      try clear c23b1
      try clear c23b2
      try clear c25
      try clear c26
      try clear c27
      try clear c29
      try clear c32
      try clear c33
      try clear c35
      try clear hcz14_0
      try clear hcz14_1
      try clear hcz14_2
      try clear hcz14_3
      try clear hcz16_0
      try clear hcz16_1
      try clear hcz16_2
      try clear hcz16_3
      try clear hcz21_0
      try clear hcz21_1
      try clear hcz21_2
      try clear hcz21_3
      try clear hcz28_0
      try clear hcz28_1
      try clear hcz28_2
      try clear hcz28_3
      try clear hcz30_0
      try clear hcz30_1
      try clear hcz30_2
      try clear hcz30_3
      try clear hcz34_0
      try clear hcz34_1
      try clear hcz34_2
      try clear hcz34_3
      try clear hcz36_0
      try clear hcz36_1
      try clear hcz36_2
      try clear hcz36_3
      try clear hcz9_0
      try clear hcz9_1
      try clear hcz9_2
      try clear hcz9_3
      try clear hfz14_0
      try clear hfz14_1
      try clear hfz14_2
      try clear hfz14_3
      try clear hfz16_0
      try clear hfz16_1
      try clear hfz16_2
      try clear hfz16_3
      try clear hfz21_0
      try clear hfz21_1
      try clear hfz21_2
      try clear hfz21_3
      try clear hfz28_0
      try clear hfz28_1
      try clear hfz28_2
      try clear hfz28_3
      try clear hfz30_0
      try clear hfz30_1
      try clear hfz30_2
      try clear hfz30_3
      try clear hfz34_0
      try clear hfz34_1
      try clear hfz34_2
      try clear hfz34_3
      try clear hfz36_0
      try clear hfz36_1
      try clear hfz36_2
      try clear hfz36_3
      try clear hfz9_0
      try clear hfz9_1
      try clear hfz9_2
      try clear hfz9_3
      obtain ⟨kq, x44_5, rfl, HA, HJ5, HO_109001, HO_117001, HO_125001, BK108, BK116, BK124, HB⟩ := hcut
      cases kq with
      | zero => exact absurd HA.out (by simp [laws_FnLineAck.j0])
      | succ kj5 =>
        have H := HA.out
        clear HA
        simp only [laws_FnLineAck.j0] at H
        by_cases c38 : x44_5 = true
        · subst c38
          have H1 : (if (t115 == t123) = true then ((laws_hbLine.f kj5 t109 t110 t113 t114 t117 t118 t121 t122).bind fun t126 => (if t126 = true then ((impl_LineOk.f t101 t102 t105 t106).bind fun t127 => (if t127 = true then (if t107 < 0 then (some true) else (if t107 ≥ 256 then (some true) else ((laws_hbLine.f kj5 t109 t110 t113 t114 t101 t102 t105 t106).bind fun t128 => (some t128)))) else (some true))) else (some false))) else (some false)) = some r := by rw [if_pos rfl] at H; exact H
          clear H
          have H := H1
          clear H1
          by_cases c39 : (t115 == t123) = true
          · rw [if_pos c39] at H
            have c39b0 : (t115 == t123) = true := c39
            (try (have c39b1 : decide (t115 = t123) = true := by simpa using c39))
            (try (have c39b2 : (t115 == t123) = true := by simpa using c39))
            clear c39
            replace H := Option.bind_eq_some_iff.mp H
            obtain ⟨t126, A400, H⟩ := H
            replace H : (if t126 = true then ((impl_LineOk.f t101 t102 t105 t106).bind fun t127 => (if t127 = true then (if t107 < 0 then (some true) else (if t107 ≥ 256 then (some true) else ((laws_hbLine.f kj5 t109 t110 t113 t114 t101 t102 t105 t106).bind fun t128 => (some t128)))) else (some true))) else (some false)) = some r := H
            have A40 := Aside0.mk A400
            clear A400
            by_cases c41 : t126 = true
            · subst c41
              have H1 : ((impl_LineOk.f t101 t102 t105 t106).bind fun t127 => (if t127 = true then (if t107 < 0 then (some true) else (if t107 ≥ 256 then (some true) else ((laws_hbLine.f kj5 t109 t110 t113 t114 t101 t102 t105 t106).bind fun t128 => (some t128)))) else (some true))) = some r := by rw [if_pos rfl] at H; exact H
              clear H
              have H := H1
              clear H1
              replace H := Option.bind_eq_some_iff.mp H
              obtain ⟨t127, A420, H⟩ := H
              replace H : (if t127 = true then (if t107 < 0 then (some true) else (if t107 ≥ 256 then (some true) else ((laws_hbLine.f kj5 t109 t110 t113 t114 t101 t102 t105 t106).bind fun t128 => (some t128)))) else (some true)) = some r := H
              have A42 := Aside0.mk A420
              clear A420
              by_cases c43 : t127 = true
              · subst c43
                have H1 : (if t107 < 0 then (some true) else (if t107 ≥ 256 then (some true) else ((laws_hbLine.f kj5 t109 t110 t113 t114 t101 t102 t105 t106).bind fun t128 => (some t128)))) = some r := by rw [if_pos rfl] at H; exact H
                clear H
                have H := H1
                clear H1
                by_cases c44 : t107 < 0
                · rw [if_pos c44] at H
                  have c44b0 : decide (t107 < 0) = true := decide_eq_true c44
                  clear c44
                  obtain rfl := Option.some.inj H
                  have hnb45 := NB116_108.out
                  have hnc45 := NB108_116.out
                  have hnb46 := NB116_124.out
                  have hnc46 := NB124_116.out
                  have hcz47_0 : wc.cell? ⟨gb116, 0, none⟩ = some (.int .i64 t109) := (blk_cell BK116.out 0).trans rfl
                  have hcz47_1 : wc.cell? ⟨gb116, 1, none⟩ = some (.slice Ao15 t110.length co15) := (blk_cell BK116.out 1).trans rfl
                  have hcz47_2 : wc.cell? ⟨gb116, 2, none⟩ = some (.int .i64 t113) := (blk_cell BK116.out 2).trans rfl
                  have hcz47_3 : wc.cell? ⟨gb116, 3, none⟩ = some (.bool t114) := (blk_cell BK116.out 3).trans rfl
                  have hfz47_0 := blk_frozen BK116.out 0
                  have hfz47_1 := blk_frozen BK116.out 1
                  have hfz47_2 := blk_frozen BK116.out 2
                  have hfz47_3 := blk_frozen BK116.out 3
                  have hnb48 := NB124_108.out
                  have hnc48 := NB108_124.out
                  have hcz49_0 : wc.cell? ⟨gb124, 0, none⟩ = some (.int .i64 t117) := (blk_cell BK124.out 0).trans rfl
                  have hcz49_1 : wc.cell? ⟨gb124, 1, none⟩ = some (.slice Ao22 t118.length co22) := (blk_cell BK124.out 1).trans rfl
                  have hcz49_2 : wc.cell? ⟨gb124, 2, none⟩ = some (.int .i64 t121) := (blk_cell BK124.out 2).trans rfl
                  have hcz49_3 : wc.cell? ⟨gb124, 3, none⟩ = some (.bool t122) := (blk_cell BK124.out 3).trans rfl
                  have hfz49_0 := blk_frozen BK124.out 0
                  have hfz49_1 := blk_frozen BK124.out 1
                  have hfz49_2 := blk_frozen BK124.out 2
                  have hfz49_3 := blk_frozen BK124.out 3
                  go_wp2_with (first | (go_at_call 17; (with_reducible refine (laws_hbLine.calls kj5 t109 _ _ t110 t113 t114 t117 _ _ t118 t121 t122 true _ ?side1 ?side2 ?side3 ?side4 A40.out).mono ?_); (case side1 => repeat (first | exact (Kd.Q_reads' HO_117001.out).2.2 | (with_reducible refine Kd.C_alloc ?_ _) | (with_reducible refine Kd.C_drewN ?_ _) | (with_reducible refine Kd.C_drew ?_))); (case side2 => exact (Kd.Q_reads' HO_117001.out).2.1); (case side3 => repeat (first | exact (Kd.Q_reads' HO_125001.out).2.2 | (with_reducible refine Kd.C_alloc ?_ _) | (with_reducible refine Kd.C_drewN ?_ _) | (with_reducible refine Kd.C_drew ?_))); (case side4 => exact (Kd.Q_reads' HO_125001.out).2.1); rintro e w50 ⟨rfl, hb⟩; have n0_ := Aside0.mk (Kd.Q_below z2_15 hb); have n1_ := Aside0.mk (Kd.Q_below z2_16 hb); have n2_ := Aside0.mk (Kd.Q_below z2_17 hb); have n3_ := Aside0.mk (blk_below (g := gb108) (o := .cells #[.int .i64 t101, .slice Ao10 t102.length co10, .int .i64 t105, .bool t106] 42 (0, 0)) z2_11 hb); have n4_ := Aside0.mk (blk_below (g := gb116) (o := .cells #[.int .i64 t109, .slice Ao15 t110.length co15, .int .i64 t113, .bool t114] 42 (0, 0)) z2_12 hb); have n5_ := Aside0.mk (blk_below (g := gb124) (o := .cells #[.int .i64 t117, .slice Ao22 t118.length co22, .int .i64 t121, .bool t122] 42 (0, 0)) z2_13 hb); have n6_ := Aside0.mk (below_step z2_5 hb); clear HO_109001; clear HO_117001; clear HO_125001; clear BK108; clear BK116; clear BK124; clear HB; have HO_109001 := n0_; have HO_117001 := n1_; have HO_125001 := n2_; have BK108 := n3_; have BK116 := n4_; have BK124 := n5_; have HB := n6_; clear n0_ n1_ n2_ n3_ n4_ n5_ n6_; (try clear hb); (try clear hb2); (try clear hk); (try clear hi); have hcz51_0 : w50.cell? ⟨gb108, 0, none⟩ = some (.int .i64 t101) := (blk_cell BK108.out 0).trans rfl; have hcz51_1 : w50.cell? ⟨gb108, 1, none⟩ = some (.slice Ao10 t102.length co10) := (blk_cell BK108.out 1).trans rfl; have hcz51_2 : w50.cell? ⟨gb108, 2, none⟩ = some (.int .i64 t105) := (blk_cell BK108.out 2).trans rfl; have hcz51_3 : w50.cell? ⟨gb108, 3, none⟩ = some (.bool t106) := (blk_cell BK108.out 3).trans rfl; have hfz51_0 := blk_frozen BK108.out 0; have hfz51_1 := blk_frozen BK108.out 1; have hfz51_2 := blk_frozen BK108.out 2; have hfz51_3 := blk_frozen BK108.out 3) | (go_at_call 18; (with_reducible refine (impl_LineOk.calls t101 _ _ t102 t105 t106 true _ ?side1 ?side2 A42.out).mono ?_); (case side1 => repeat (first | exact (Kd.Q_reads' HO_109001.out).2.2 | (with_reducible refine Kd.C_alloc ?_ _) | (with_reducible refine Kd.C_drewN ?_ _) | (with_reducible refine Kd.C_drew ?_))); (case side2 => exact (Kd.Q_reads' HO_109001.out).2.1); rintro e w52 ⟨rfl, hb⟩; have n0_ := Aside0.mk (Kd.Q_below z2_15 hb); have n1_ := Aside0.mk (Kd.Q_below z2_16 hb); have n2_ := Aside0.mk (Kd.Q_below z2_17 hb); have n3_ := Aside0.mk (blk_below (g := gb108) (o := .cells #[.int .i64 t101, .slice Ao10 t102.length co10, .int .i64 t105, .bool t106] 42 (0, 0)) z2_11 hb); have n4_ := Aside0.mk (blk_below (g := gb116) (o := .cells #[.int .i64 t109, .slice Ao15 t110.length co15, .int .i64 t113, .bool t114] 42 (0, 0)) z2_12 hb); have n5_ := Aside0.mk (blk_below (g := gb124) (o := .cells #[.int .i64 t117, .slice Ao22 t118.length co22, .int .i64 t121, .bool t122] 42 (0, 0)) z2_13 hb); have n6_ := Aside0.mk (below_step z2_5 hb); clear HO_109001; clear HO_117001; clear HO_125001; clear BK108; clear BK116; clear BK124; clear HB; have HO_109001 := n0_; have HO_117001 := n1_; have HO_125001 := n2_; have BK108 := n3_; have BK116 := n4_; have BK124 := n5_; have HB := n6_; clear n0_ n1_ n2_ n3_ n4_ n5_ n6_; (try clear hb); (try clear hb2); (try clear hk); (try clear hi)))
                  go_ret
                  exact ⟨by first | rfl | (simp [errW_none, errW_some] <;> rfl) | (simp [*, errW_none, errW_some] <;> rfl), by repeat (first | (with_reducible first | exact HB.out | apply below_alloc | apply pw_below_drewN | apply below_drew1 | refine below_set ?_ GE108.out | refine below_set ?_ GE116.out | refine below_set ?_ GE124.out) | exact HB.out)⟩
                · rw [if_neg c44] at H
                  have c44b0 : decide (t107 < 0) = false := decide_eq_false c44
                  clear c44
                  by_cases c53 : t107 ≥ 256
                  · rw [if_pos c53] at H
                    have c53b0 : decide (256 ≤ t107) = true := decide_eq_true c53
                    clear c53
                    obtain rfl := Option.some.inj H
                    have hnb54 := NB116_108.out
                    have hnc54 := NB108_116.out
                    have hnb55 := NB116_124.out
                    have hnc55 := NB124_116.out
                    have hcz56_0 : wc.cell? ⟨gb116, 0, none⟩ = some (.int .i64 t109) := (blk_cell BK116.out 0).trans rfl
                    have hcz56_1 : wc.cell? ⟨gb116, 1, none⟩ = some (.slice Ao15 t110.length co15) := (blk_cell BK116.out 1).trans rfl
                    have hcz56_2 : wc.cell? ⟨gb116, 2, none⟩ = some (.int .i64 t113) := (blk_cell BK116.out 2).trans rfl
                    have hcz56_3 : wc.cell? ⟨gb116, 3, none⟩ = some (.bool t114) := (blk_cell BK116.out 3).trans rfl
                    have hfz56_0 := blk_frozen BK116.out 0
                    have hfz56_1 := blk_frozen BK116.out 1
                    have hfz56_2 := blk_frozen BK116.out 2
                    have hfz56_3 := blk_frozen BK116.out 3
                    have hnb57 := NB124_108.out
                    have hnc57 := NB108_124.out
                    have hcz58_0 : wc.cell? ⟨gb124, 0, none⟩ = some (.int .i64 t117) := (blk_cell BK124.out 0).trans rfl
                    have hcz58_1 : wc.cell? ⟨gb124, 1, none⟩ = some (.slice Ao22 t118.length co22) := (blk_cell BK124.out 1).trans rfl
                    have hcz58_2 : wc.cell? ⟨gb124, 2, none⟩ = some (.int .i64 t121) := (blk_cell BK124.out 2).trans rfl
                    have hcz58_3 : wc.cell? ⟨gb124, 3, none⟩ = some (.bool t122) := (blk_cell BK124.out 3).trans rfl
                    have hfz58_0 := blk_frozen BK124.out 0
                    have hfz58_1 := blk_frozen BK124.out 1
                    have hfz58_2 := blk_frozen BK124.out 2
                    have hfz58_3 := blk_frozen BK124.out 3
                    go_wp2_with (first | (go_at_call 17; (with_reducible refine (laws_hbLine.calls kj5 t109 _ _ t110 t113 t114 t117 _ _ t118 t121 t122 true _ ?side1 ?side2 ?side3 ?side4 A40.out).mono ?_); (case side1 => repeat (first | exact (Kd.Q_reads' HO_117001.out).2.2 | (with_reducible refine Kd.C_alloc ?_ _) | (with_reducible refine Kd.C_drewN ?_ _) | (with_reducible refine Kd.C_drew ?_))); (case side2 => exact (Kd.Q_reads' HO_117001.out).2.1); (case side3 => repeat (first | exact (Kd.Q_reads' HO_125001.out).2.2 | (with_reducible refine Kd.C_alloc ?_ _) | (with_reducible refine Kd.C_drewN ?_ _) | (with_reducible refine Kd.C_drew ?_))); (case side4 => exact (Kd.Q_reads' HO_125001.out).2.1); rintro e w59 ⟨rfl, hb⟩; have n0_ := Aside0.mk (Kd.Q_below z2_15 hb); have n1_ := Aside0.mk (Kd.Q_below z2_16 hb); have n2_ := Aside0.mk (Kd.Q_below z2_17 hb); have n3_ := Aside0.mk (blk_below (g := gb108) (o := .cells #[.int .i64 t101, .slice Ao10 t102.length co10, .int .i64 t105, .bool t106] 42 (0, 0)) z2_11 hb); have n4_ := Aside0.mk (blk_below (g := gb116) (o := .cells #[.int .i64 t109, .slice Ao15 t110.length co15, .int .i64 t113, .bool t114] 42 (0, 0)) z2_12 hb); have n5_ := Aside0.mk (blk_below (g := gb124) (o := .cells #[.int .i64 t117, .slice Ao22 t118.length co22, .int .i64 t121, .bool t122] 42 (0, 0)) z2_13 hb); have n6_ := Aside0.mk (below_step z2_5 hb); clear HO_109001; clear HO_117001; clear HO_125001; clear BK108; clear BK116; clear BK124; clear HB; have HO_109001 := n0_; have HO_117001 := n1_; have HO_125001 := n2_; have BK108 := n3_; have BK116 := n4_; have BK124 := n5_; have HB := n6_; clear n0_ n1_ n2_ n3_ n4_ n5_ n6_; (try clear hb); (try clear hb2); (try clear hk); (try clear hi); have hcz60_0 : w59.cell? ⟨gb108, 0, none⟩ = some (.int .i64 t101) := (blk_cell BK108.out 0).trans rfl; have hcz60_1 : w59.cell? ⟨gb108, 1, none⟩ = some (.slice Ao10 t102.length co10) := (blk_cell BK108.out 1).trans rfl; have hcz60_2 : w59.cell? ⟨gb108, 2, none⟩ = some (.int .i64 t105) := (blk_cell BK108.out 2).trans rfl; have hcz60_3 : w59.cell? ⟨gb108, 3, none⟩ = some (.bool t106) := (blk_cell BK108.out 3).trans rfl; have hfz60_0 := blk_frozen BK108.out 0; have hfz60_1 := blk_frozen BK108.out 1; have hfz60_2 := blk_frozen BK108.out 2; have hfz60_3 := blk_frozen BK108.out 3) | (go_at_call 18; (with_reducible refine (impl_LineOk.calls t101 _ _ t102 t105 t106 true _ ?side1 ?side2 A42.out).mono ?_); (case side1 => repeat (first | exact (Kd.Q_reads' HO_109001.out).2.2 | (with_reducible refine Kd.C_alloc ?_ _) | (with_reducible refine Kd.C_drewN ?_ _) | (with_reducible refine Kd.C_drew ?_))); (case side2 => exact (Kd.Q_reads' HO_109001.out).2.1); rintro e w61 ⟨rfl, hb⟩; have n0_ := Aside0.mk (Kd.Q_below z2_15 hb); have n1_ := Aside0.mk (Kd.Q_below z2_16 hb); have n2_ := Aside0.mk (Kd.Q_below z2_17 hb); have n3_ := Aside0.mk (blk_below (g := gb108) (o := .cells #[.int .i64 t101, .slice Ao10 t102.length co10, .int .i64 t105, .bool t106] 42 (0, 0)) z2_11 hb); have n4_ := Aside0.mk (blk_below (g := gb116) (o := .cells #[.int .i64 t109, .slice Ao15 t110.length co15, .int .i64 t113, .bool t114] 42 (0, 0)) z2_12 hb); have n5_ := Aside0.mk (blk_below (g := gb124) (o := .cells #[.int .i64 t117, .slice Ao22 t118.length co22, .int .i64 t121, .bool t122] 42 (0, 0)) z2_13 hb); have n6_ := Aside0.mk (below_step z2_5 hb); clear HO_109001; clear HO_117001; clear HO_125001; clear BK108; clear BK116; clear BK124; clear HB; have HO_109001 := n0_; have HO_117001 := n1_; have HO_125001 := n2_; have BK108 := n3_; have BK116 := n4_; have BK124 := n5_; have HB := n6_; clear n0_ n1_ n2_ n3_ n4_ n5_ n6_; (try clear hb); (try clear hb2); (try clear hk); (try clear hi)))
                    go_ret
                    exact ⟨by first | rfl | (simp [errW_none, errW_some] <;> rfl) | (simp [*, errW_none, errW_some] <;> rfl), by repeat (first | (with_reducible first | exact HB.out | apply below_alloc | apply pw_below_drewN | apply below_drew1 | refine below_set ?_ GE108.out | refine below_set ?_ GE116.out | refine below_set ?_ GE124.out) | exact HB.out)⟩
                  · rw [if_neg c53] at H
                    have c53b0 : decide (256 ≤ t107) = false := decide_eq_false c53
                    clear c53
                    replace H := Option.bind_eq_some_iff.mp H
                    obtain ⟨t128, A620, H⟩ := H
                    replace H : (some t128) = some r := H
                    have A62 := Aside0.mk A620
                    clear A620
                    obtain rfl := Option.some.inj H
                    have hnb63 := NB116_108.out
                    have hnc63 := NB108_116.out
                    have hnb64 := NB116_124.out
                    have hnc64 := NB124_116.out
                    have hcz65_0 : wc.cell? ⟨gb116, 0, none⟩ = some (.int .i64 t109) := (blk_cell BK116.out 0).trans rfl
                    have hcz65_1 : wc.cell? ⟨gb116, 1, none⟩ = some (.slice Ao15 t110.length co15) := (blk_cell BK116.out 1).trans rfl
                    have hcz65_2 : wc.cell? ⟨gb116, 2, none⟩ = some (.int .i64 t113) := (blk_cell BK116.out 2).trans rfl
                    have hcz65_3 : wc.cell? ⟨gb116, 3, none⟩ = some (.bool t114) := (blk_cell BK116.out 3).trans rfl
                    have hfz65_0 := blk_frozen BK116.out 0
                    have hfz65_1 := blk_frozen BK116.out 1
                    have hfz65_2 := blk_frozen BK116.out 2
                    have hfz65_3 := blk_frozen BK116.out 3
                    have hnb66 := NB124_108.out
                    have hnc66 := NB108_124.out
                    have hcz67_0 : wc.cell? ⟨gb124, 0, none⟩ = some (.int .i64 t117) := (blk_cell BK124.out 0).trans rfl
                    have hcz67_1 : wc.cell? ⟨gb124, 1, none⟩ = some (.slice Ao22 t118.length co22) := (blk_cell BK124.out 1).trans rfl
                    have hcz67_2 : wc.cell? ⟨gb124, 2, none⟩ = some (.int .i64 t121) := (blk_cell BK124.out 2).trans rfl
                    have hcz67_3 : wc.cell? ⟨gb124, 3, none⟩ = some (.bool t122) := (blk_cell BK124.out 3).trans rfl
                    have hfz67_0 := blk_frozen BK124.out 0
                    have hfz67_1 := blk_frozen BK124.out 1
                    have hfz67_2 := blk_frozen BK124.out 2
                    have hfz67_3 := blk_frozen BK124.out 3
                    go_wp2_with (first | (go_at_call 17; (with_reducible refine (laws_hbLine.calls kj5 t109 _ _ t110 t113 t114 t117 _ _ t118 t121 t122 true _ ?side1 ?side2 ?side3 ?side4 A40.out).mono ?_); (case side1 => repeat (first | exact (Kd.Q_reads' HO_117001.out).2.2 | (with_reducible refine Kd.C_alloc ?_ _) | (with_reducible refine Kd.C_drewN ?_ _) | (with_reducible refine Kd.C_drew ?_))); (case side2 => exact (Kd.Q_reads' HO_117001.out).2.1); (case side3 => repeat (first | exact (Kd.Q_reads' HO_125001.out).2.2 | (with_reducible refine Kd.C_alloc ?_ _) | (with_reducible refine Kd.C_drewN ?_ _) | (with_reducible refine Kd.C_drew ?_))); (case side4 => exact (Kd.Q_reads' HO_125001.out).2.1); rintro e w68 ⟨rfl, hb⟩; have n0_ := Aside0.mk (Kd.Q_below z2_15 hb); have n1_ := Aside0.mk (Kd.Q_below z2_16 hb); have n2_ := Aside0.mk (Kd.Q_below z2_17 hb); have n3_ := Aside0.mk (blk_below (g := gb108) (o := .cells #[.int .i64 t101, .slice Ao10 t102.length co10, .int .i64 t105, .bool t106] 42 (0, 0)) z2_11 hb); have n4_ := Aside0.mk (blk_below (g := gb116) (o := .cells #[.int .i64 t109, .slice Ao15 t110.length co15, .int .i64 t113, .bool t114] 42 (0, 0)) z2_12 hb); have n5_ := Aside0.mk (blk_below (g := gb124) (o := .cells #[.int .i64 t117, .slice Ao22 t118.length co22, .int .i64 t121, .bool t122] 42 (0, 0)) z2_13 hb); have n6_ := Aside0.mk (below_step z2_5 hb); clear HO_109001; clear HO_117001; clear HO_125001; clear BK108; clear BK116; clear BK124; clear HB; have HO_109001 := n0_; have HO_117001 := n1_; have HO_125001 := n2_; have BK108 := n3_; have BK116 := n4_; have BK124 := n5_; have HB := n6_; clear n0_ n1_ n2_ n3_ n4_ n5_ n6_; (try clear hb); (try clear hb2); (try clear hk); (try clear hi); have hcz69_0 : w68.cell? ⟨gb108, 0, none⟩ = some (.int .i64 t101) := (blk_cell BK108.out 0).trans rfl; have hcz69_1 : w68.cell? ⟨gb108, 1, none⟩ = some (.slice Ao10 t102.length co10) := (blk_cell BK108.out 1).trans rfl; have hcz69_2 : w68.cell? ⟨gb108, 2, none⟩ = some (.int .i64 t105) := (blk_cell BK108.out 2).trans rfl; have hcz69_3 : w68.cell? ⟨gb108, 3, none⟩ = some (.bool t106) := (blk_cell BK108.out 3).trans rfl; have hfz69_0 := blk_frozen BK108.out 0; have hfz69_1 := blk_frozen BK108.out 1; have hfz69_2 := blk_frozen BK108.out 2; have hfz69_3 := blk_frozen BK108.out 3) | (go_at_call 18; (with_reducible refine (impl_LineOk.calls t101 _ _ t102 t105 t106 true _ ?side1 ?side2 A42.out).mono ?_); (case side1 => repeat (first | exact (Kd.Q_reads' HO_109001.out).2.2 | (with_reducible refine Kd.C_alloc ?_ _) | (with_reducible refine Kd.C_drewN ?_ _) | (with_reducible refine Kd.C_drew ?_))); (case side2 => exact (Kd.Q_reads' HO_109001.out).2.1); rintro e w70 ⟨rfl, hb⟩; have n0_ := Aside0.mk (Kd.Q_below z2_15 hb); have n1_ := Aside0.mk (Kd.Q_below z2_16 hb); have n2_ := Aside0.mk (Kd.Q_below z2_17 hb); have n3_ := Aside0.mk (blk_below (g := gb108) (o := .cells #[.int .i64 t101, .slice Ao10 t102.length co10, .int .i64 t105, .bool t106] 42 (0, 0)) z2_11 hb); have n4_ := Aside0.mk (blk_below (g := gb116) (o := .cells #[.int .i64 t109, .slice Ao15 t110.length co15, .int .i64 t113, .bool t114] 42 (0, 0)) z2_12 hb); have n5_ := Aside0.mk (blk_below (g := gb124) (o := .cells #[.int .i64 t117, .slice Ao22 t118.length co22, .int .i64 t121, .bool t122] 42 (0, 0)) z2_13 hb); have n6_ := Aside0.mk (below_step z2_5 hb); clear HO_109001; clear HO_117001; clear HO_125001; clear BK108; clear BK116; clear BK124; clear HB; have HO_109001 := n0_; have HO_117001 := n1_; have HO_125001 := n2_; have BK108 := n3_; have BK116 := n4_; have BK124 := n5_; have HB := n6_; clear n0_ n1_ n2_ n3_ n4_ n5_ n6_; (try clear hb); (try clear hb2); (try clear hk); (try clear hi); have hcz71_0 : w70.cell? ⟨gb116, 0, none⟩ = some (.int .i64 t109) := (blk_cell BK116.out 0).trans rfl; have hcz71_1 : w70.cell? ⟨gb116, 1, none⟩ = some (.slice Ao15 t110.length co15) := (blk_cell BK116.out 1).trans rfl; have hcz71_2 : w70.cell? ⟨gb116, 2, none⟩ = some (.int .i64 t113) := (blk_cell BK116.out 2).trans rfl; have hcz71_3 : w70.cell? ⟨gb116, 3, none⟩ = some (.bool t114) := (blk_cell BK116.out 3).trans rfl; have hfz71_0 := blk_frozen BK116.out 0; have hfz71_1 := blk_frozen BK116.out 1; have hfz71_2 := blk_frozen BK116.out 2; have hfz71_3 := blk_frozen BK116.out 3; have hcz72_0 : w70.cell? ⟨gb108, 0, none⟩ = some (.int .i64 t101) := (blk_cell BK108.out 0).trans rfl; have hcz72_1 : w70.cell? ⟨gb108, 1, none⟩ = some (.slice Ao10 t102.length co10) := (blk_cell BK108.out 1).trans rfl; have hcz72_2 : w70.cell? ⟨gb108, 2, none⟩ = some (.int .i64 t105) := (blk_cell BK108.out 2).trans rfl; have hcz72_3 : w70.cell? ⟨gb108, 3, none⟩ = some (.bool t106) := (blk_cell BK108.out 3).trans rfl; have hfz72_0 := blk_frozen BK108.out 0; have hfz72_1 := blk_frozen BK108.out 1; have hfz72_2 := blk_frozen BK108.out 2; have hfz72_3 := blk_frozen BK108.out 3) | (go_at_call 17; (with_reducible refine (laws_hbLine.calls kj5 t109 _ _ t110 t113 t114 t101 _ _ t102 t105 t106 t128 _ ?side1 ?side2 ?side3 ?side4 A62.out).mono ?_); (case side1 => repeat (first | exact (Kd.Q_reads' HO_117001.out).2.2 | (with_reducible refine Kd.C_alloc ?_ _) | (with_reducible refine Kd.C_drewN ?_ _) | (with_reducible refine Kd.C_drew ?_))); (case side2 => exact (Kd.Q_reads' HO_117001.out).2.1); (case side3 => repeat (first | exact (Kd.Q_reads' HO_109001.out).2.2 | (with_reducible refine Kd.C_alloc ?_ _) | (with_reducible refine Kd.C_drewN ?_ _) | (with_reducible refine Kd.C_drew ?_))); (case side4 => exact (Kd.Q_reads' HO_109001.out).2.1); rintro e w73 ⟨rfl, hb⟩; have n0_ := Aside0.mk (Kd.Q_below z2_15 hb); have n1_ := Aside0.mk (Kd.Q_below z2_16 hb); have n2_ := Aside0.mk (Kd.Q_below z2_17 hb); have n3_ := Aside0.mk (blk_below (g := gb108) (o := .cells #[.int .i64 t101, .slice Ao10 t102.length co10, .int .i64 t105, .bool t106] 42 (0, 0)) z2_11 hb); have n4_ := Aside0.mk (blk_below (g := gb116) (o := .cells #[.int .i64 t109, .slice Ao15 t110.length co15, .int .i64 t113, .bool t114] 42 (0, 0)) z2_12 hb); have n5_ := Aside0.mk (blk_below (g := gb124) (o := .cells #[.int .i64 t117, .slice Ao22 t118.length co22, .int .i64 t121, .bool t122] 42 (0, 0)) z2_13 hb); have n6_ := Aside0.mk (below_step z2_5 hb); clear HO_109001; clear HO_117001; clear HO_125001; clear BK108; clear BK116; clear BK124; clear HB; have HO_109001 := n0_; have HO_117001 := n1_; have HO_125001 := n2_; have BK108 := n3_; have BK116 := n4_; have BK124 := n5_; have HB := n6_; clear n0_ n1_ n2_ n3_ n4_ n5_ n6_; (try clear hb); (try clear hb2); (try clear hk); (try clear hi)))
                    go_ret
                    exact ⟨by first | rfl | (simp [errW_none, errW_some] <;> rfl) | (simp [*, errW_none, errW_some] <;> rfl), by repeat (first | (with_reducible first | exact HB.out | apply below_alloc | apply pw_below_drewN | apply below_drew1 | refine below_set ?_ GE108.out | refine below_set ?_ GE116.out | refine below_set ?_ GE124.out) | exact HB.out)⟩
              · replace c43 := Bool.eq_false_iff.mpr c43
                subst c43
                have H1 : (some true) = some r := by rw [if_neg (show ¬ (false = true) by decide)] at H; exact H
                clear H
                have H := H1
                clear H1
                obtain rfl := Option.some.inj H
                have hnb74 := NB116_108.out
                have hnc74 := NB108_116.out
                have hnb75 := NB116_124.out
                have hnc75 := NB124_116.out
                have hcz76_0 : wc.cell? ⟨gb116, 0, none⟩ = some (.int .i64 t109) := (blk_cell BK116.out 0).trans rfl
                have hcz76_1 : wc.cell? ⟨gb116, 1, none⟩ = some (.slice Ao15 t110.length co15) := (blk_cell BK116.out 1).trans rfl
                have hcz76_2 : wc.cell? ⟨gb116, 2, none⟩ = some (.int .i64 t113) := (blk_cell BK116.out 2).trans rfl
                have hcz76_3 : wc.cell? ⟨gb116, 3, none⟩ = some (.bool t114) := (blk_cell BK116.out 3).trans rfl
                have hfz76_0 := blk_frozen BK116.out 0
                have hfz76_1 := blk_frozen BK116.out 1
                have hfz76_2 := blk_frozen BK116.out 2
                have hfz76_3 := blk_frozen BK116.out 3
                have hnb77 := NB124_108.out
                have hnc77 := NB108_124.out
                have hcz78_0 : wc.cell? ⟨gb124, 0, none⟩ = some (.int .i64 t117) := (blk_cell BK124.out 0).trans rfl
                have hcz78_1 : wc.cell? ⟨gb124, 1, none⟩ = some (.slice Ao22 t118.length co22) := (blk_cell BK124.out 1).trans rfl
                have hcz78_2 : wc.cell? ⟨gb124, 2, none⟩ = some (.int .i64 t121) := (blk_cell BK124.out 2).trans rfl
                have hcz78_3 : wc.cell? ⟨gb124, 3, none⟩ = some (.bool t122) := (blk_cell BK124.out 3).trans rfl
                have hfz78_0 := blk_frozen BK124.out 0
                have hfz78_1 := blk_frozen BK124.out 1
                have hfz78_2 := blk_frozen BK124.out 2
                have hfz78_3 := blk_frozen BK124.out 3
                go_wp2_with (first | (go_at_call 17; (with_reducible refine (laws_hbLine.calls kj5 t109 _ _ t110 t113 t114 t117 _ _ t118 t121 t122 true _ ?side1 ?side2 ?side3 ?side4 A40.out).mono ?_); (case side1 => repeat (first | exact (Kd.Q_reads' HO_117001.out).2.2 | (with_reducible refine Kd.C_alloc ?_ _) | (with_reducible refine Kd.C_drewN ?_ _) | (with_reducible refine Kd.C_drew ?_))); (case side2 => exact (Kd.Q_reads' HO_117001.out).2.1); (case side3 => repeat (first | exact (Kd.Q_reads' HO_125001.out).2.2 | (with_reducible refine Kd.C_alloc ?_ _) | (with_reducible refine Kd.C_drewN ?_ _) | (with_reducible refine Kd.C_drew ?_))); (case side4 => exact (Kd.Q_reads' HO_125001.out).2.1); rintro e w79 ⟨rfl, hb⟩; have n0_ := Aside0.mk (Kd.Q_below z2_15 hb); have n1_ := Aside0.mk (Kd.Q_below z2_16 hb); have n2_ := Aside0.mk (Kd.Q_below z2_17 hb); have n3_ := Aside0.mk (blk_below (g := gb108) (o := .cells #[.int .i64 t101, .slice Ao10 t102.length co10, .int .i64 t105, .bool t106] 42 (0, 0)) z2_11 hb); have n4_ := Aside0.mk (blk_below (g := gb116) (o := .cells #[.int .i64 t109, .slice Ao15 t110.length co15, .int .i64 t113, .bool t114] 42 (0, 0)) z2_12 hb); have n5_ := Aside0.mk (blk_below (g := gb124) (o := .cells #[.int .i64 t117, .slice Ao22 t118.length co22, .int .i64 t121, .bool t122] 42 (0, 0)) z2_13 hb); have n6_ := Aside0.mk (below_step z2_5 hb); clear HO_109001; clear HO_117001; clear HO_125001; clear BK108; clear BK116; clear BK124; clear HB; have HO_109001 := n0_; have HO_117001 := n1_; have HO_125001 := n2_; have BK108 := n3_; have BK116 := n4_; have BK124 := n5_; have HB := n6_; clear n0_ n1_ n2_ n3_ n4_ n5_ n6_; (try clear hb); (try clear hb2); (try clear hk); (try clear hi); have hcz80_0 : w79.cell? ⟨gb108, 0, none⟩ = some (.int .i64 t101) := (blk_cell BK108.out 0).trans rfl; have hcz80_1 : w79.cell? ⟨gb108, 1, none⟩ = some (.slice Ao10 t102.length co10) := (blk_cell BK108.out 1).trans rfl; have hcz80_2 : w79.cell? ⟨gb108, 2, none⟩ = some (.int .i64 t105) := (blk_cell BK108.out 2).trans rfl; have hcz80_3 : w79.cell? ⟨gb108, 3, none⟩ = some (.bool t106) := (blk_cell BK108.out 3).trans rfl; have hfz80_0 := blk_frozen BK108.out 0; have hfz80_1 := blk_frozen BK108.out 1; have hfz80_2 := blk_frozen BK108.out 2; have hfz80_3 := blk_frozen BK108.out 3) | (go_at_call 18; (with_reducible refine (impl_LineOk.calls t101 _ _ t102 t105 t106 false _ ?side1 ?side2 A42.out).mono ?_); (case side1 => repeat (first | exact (Kd.Q_reads' HO_109001.out).2.2 | (with_reducible refine Kd.C_alloc ?_ _) | (with_reducible refine Kd.C_drewN ?_ _) | (with_reducible refine Kd.C_drew ?_))); (case side2 => exact (Kd.Q_reads' HO_109001.out).2.1); rintro e w81 ⟨rfl, hb⟩; have n0_ := Aside0.mk (Kd.Q_below z2_15 hb); have n1_ := Aside0.mk (Kd.Q_below z2_16 hb); have n2_ := Aside0.mk (Kd.Q_below z2_17 hb); have n3_ := Aside0.mk (blk_below (g := gb108) (o := .cells #[.int .i64 t101, .slice Ao10 t102.length co10, .int .i64 t105, .bool t106] 42 (0, 0)) z2_11 hb); have n4_ := Aside0.mk (blk_below (g := gb116) (o := .cells #[.int .i64 t109, .slice Ao15 t110.length co15, .int .i64 t113, .bool t114] 42 (0, 0)) z2_12 hb); have n5_ := Aside0.mk (blk_below (g := gb124) (o := .cells #[.int .i64 t117, .slice Ao22 t118.length co22, .int .i64 t121, .bool t122] 42 (0, 0)) z2_13 hb); have n6_ := Aside0.mk (below_step z2_5 hb); clear HO_109001; clear HO_117001; clear HO_125001; clear BK108; clear BK116; clear BK124; clear HB; have HO_109001 := n0_; have HO_117001 := n1_; have HO_125001 := n2_; have BK108 := n3_; have BK116 := n4_; have BK124 := n5_; have HB := n6_; clear n0_ n1_ n2_ n3_ n4_ n5_ n6_; (try clear hb); (try clear hb2); (try clear hk); (try clear hi)))
                go_ret
                exact ⟨by first | rfl | (simp [errW_none, errW_some] <;> rfl) | (simp [*, errW_none, errW_some] <;> rfl), by repeat (first | (with_reducible first | exact HB.out | apply below_alloc | apply pw_below_drewN | apply below_drew1 | refine below_set ?_ GE108.out | refine below_set ?_ GE116.out | refine below_set ?_ GE124.out) | exact HB.out)⟩
            · replace c41 := Bool.eq_false_iff.mpr c41
              subst c41
              have H1 : (some false) = some r := by rw [if_neg (show ¬ (false = true) by decide)] at H; exact H
              clear H
              have H := H1
              clear H1
              obtain rfl := Option.some.inj H
              cases ht
          · rw [if_neg c39] at H
            have c39b0 : (t115 == t123) = false := by simpa using c39
            (try (have c39b1 : decide (t115 = t123) = false := by simpa using c39))
            (try (have c39b2 : (t115 == t123) = false := by simpa using c39))
            (try (have c39b3 : ¬ (t115 = t123) := by simpa using c39))
            clear c39
            obtain rfl := Option.some.inj H
            cases ht
        · replace c38 := Bool.eq_false_iff.mpr c38
          subst c38
          have H1 : ((impl_LineAck.f t109 t110 t113 t114 t107).bind fun bt129 => (if (Int.tmod (wrap64 ((wrap64 (t107 - t101)) + 256)) 256) ≤ (t102.length : Int) then (if 0 ≤ (Int.tmod (wrap64 ((wrap64 (t107 - t101)) + 256)) 256) then ((laws_hbTexts.f kj5 t110 (t102.drop ((Int.tmod (wrap64 ((wrap64 (t107 - t101)) + 256)) 256) : Int).toNat)).bind fun t141 => (if t141 = true then (if t109 = t107 then (if bt129.2.2.2.2 = true then ((laws_hbLine.f kj5 bt129.1 bt129.2.1 bt129.2.2.1 bt129.2.2.2.1 t109 t110 t113 t114).bind fun t142 => (if t142 = true then ((impl_LineSent.f t109 t110 t113 t114).bind fun t143 => ((impl_LineSent.f t101 t102 t105 t106).bind fun t144 => (if t143 = t144 then (some (t113 == t105)) else (some false)))) else (some false))) else (some false)) else (some false)) else (some false))) else (none)) else (some false))) = some r := by rw [if_neg (show ¬ (false = true) by decide)] at H; exact H
          clear H
          have H := H1
          clear H1
          replace H := Option.bind_eq_some_iff.mp H
          obtain ⟨⟨t129, t130, t133, t134, t135⟩, A820, H⟩ := H
          replace H : (if (Int.tmod (wrap64 ((wrap64 (t107 - t101)) + 256)) 256) ≤ (t102.length : Int) then (if 0 ≤ (Int.tmod (wrap64 ((wrap64 (t107 - t101)) + 256)) 256) then ((laws_hbTexts.f kj5 t110 (t102.drop ((Int.tmod (wrap64 ((wrap64 (t107 - t101)) + 256)) 256) : Int).toNat)).bind fun t141 => (if t141 = true then (if t109 = t107 then (if t135 = true then ((laws_hbLine.f kj5 t129 t130 t133 t134 t109 t110 t113 t114).bind fun t142 => (if t142 = true then ((impl_LineSent.f t109 t110 t113 t114).bind fun t143 => ((impl_LineSent.f t101 t102 t105 t106).bind fun t144 => (if t143 = t144 then (some (t113 == t105)) else (some false)))) else (some false))) else (some false)) else (some false)) else (some false))) else (none)) else (some false)) = some r := H
          have A82 := Aside0.mk A820
          clear A820
          by_cases c83 : (Int.tmod (wrap64 ((wrap64 (t107 - t101)) + 256)) 256) ≤ (t102.length : Int)
          · rw [if_pos c83] at H
            have c83b0 : decide ((Int.tmod (wrap64 ((wrap64 (t107 - t101)) + 256)) 256) ≤ (t102.length : Int)) = true := decide_eq_true c83
            clear c83
            obtain ⟨ji84, hji84⟩ : ∃ j_ : Int, (Int.tmod (wrap64 ((wrap64 (t107 - t101)) + 256)) 256) = j_ := ⟨_, rfl⟩
            replace H : (if 0 ≤ (ji84) then ((laws_hbTexts.f kj5 t110 (t102.drop ((ji84) : Int).toNat)).bind fun t141 => (if t141 = true then (if t109 = t107 then (if t135 = true then ((laws_hbLine.f kj5 t129 t130 t133 t134 t109 t110 t113 t114).bind fun t142 => (if t142 = true then ((impl_LineSent.f t109 t110 t113 t114).bind fun t143 => ((impl_LineSent.f t101 t102 t105 t106).bind fun t144 => (if t143 = t144 then (some (t113 == t105)) else (some false)))) else (some false))) else (some false)) else (some false)) else (some false))) else (none)) = some r := by first | (rw [hji84] at H; exact H) | (simp only [hji84] at H ⊢; exact H)
            (try rw [hji84] at c83b0)
            (try rw [hji84] at A82)
            by_cases c85 : 0 ≤ (ji84)
            · rw [if_pos c85] at H
              have c85b0 := eq_true c85
              have c85b1 : decide (0 ≤ (ji84)) = true := decide_eq_true c85
              clear c85
              have c86b0 := eq_true (of_decide_eq_true z2_21 : (ji84) ≤ (t102.length : Int))
              obtain ⟨y137, hy137⟩ : ∃ y_ : List ByteArray, y_ = (t102.drop ((ji84) : Int).toNat) := ⟨_, rfl⟩
              replace H : ((laws_hbTexts.f kj5 t110 y137).bind fun t141 => (if t141 = true then (if t109 = t107 then (if t135 = true then ((laws_hbLine.f kj5 t129 t130 t133 t134 t109 t110 t113 t114).bind fun t142 => (if t142 = true then ((impl_LineSent.f t109 t110 t113 t114).bind fun t143 => ((impl_LineSent.f t101 t102 t105 t106).bind fun t144 => (if t143 = t144 then (some (t113 == t105)) else (some false)))) else (some false))) else (some false)) else (some false)) else (some false))) = some r := by first | (rw [hy137]; with_reducible exact H) | (have H2_ := (Option.bind_some _ _).symm.trans H; rw [hy137]; with_reducible exact H2_) | (have H2_ := (Option.bind_some _ _).symm.trans H; with_reducible exact H2_) | with_reducible exact H | (rw [hy137]; exact H) | exact H
              have Ny137 := Aside0.mk hy137
              clear hy137
              replace H := Option.bind_eq_some_iff.mp H
              obtain ⟨t141, A870, H⟩ := H
              replace H : (if t141 = true then (if t109 = t107 then (if t135 = true then ((laws_hbLine.f kj5 t129 t130 t133 t134 t109 t110 t113 t114).bind fun t142 => (if t142 = true then ((impl_LineSent.f t109 t110 t113 t114).bind fun t143 => ((impl_LineSent.f t101 t102 t105 t106).bind fun t144 => (if t143 = t144 then (some (t113 == t105)) else (some false)))) else (some false))) else (some false)) else (some false)) else (some false)) = some r := H
              have A87 := Aside0.mk A870
              clear A870
              by_cases c88 : t141 = true
              · subst c88
                have H1 : (if t109 = t107 then (if t135 = true then ((laws_hbLine.f kj5 t129 t130 t133 t134 t109 t110 t113 t114).bind fun t142 => (if t142 = true then ((impl_LineSent.f t109 t110 t113 t114).bind fun t143 => ((impl_LineSent.f t101 t102 t105 t106).bind fun t144 => (if t143 = t144 then (some (t113 == t105)) else (some false)))) else (some false))) else (some false)) else (some false)) = some r := by rw [if_pos rfl] at H; exact H
                clear H
                have H := H1
                clear H1
                by_cases c89 : t109 = t107
                · rw [if_pos c89] at H
                  have c89b0 : (t109 == t107) = true := beq_iff_eq.mpr c89
                  have c89b1 : (t109 != t107) = false := bne_eq_false_iff_eq.mpr c89
                  clear c89
                  by_cases c90 : t135 = true
                  · subst c90
                    have H1 : ((laws_hbLine.f kj5 t129 t130 t133 t134 t109 t110 t113 t114).bind fun t142 => (if t142 = true then ((impl_LineSent.f t109 t110 t113 t114).bind fun t143 => ((impl_LineSent.f t101 t102 t105 t106).bind fun t144 => (if t143 = t144 then (some (t113 == t105)) else (some false)))) else (some false))) = some r := by rw [if_pos rfl] at H; exact H
                    clear H
                    have H := H1
                    clear H1
                    replace H := Option.bind_eq_some_iff.mp H
                    obtain ⟨t142, A910, H⟩ := H
                    replace H : (if t142 = true then ((impl_LineSent.f t109 t110 t113 t114).bind fun t143 => ((impl_LineSent.f t101 t102 t105 t106).bind fun t144 => (if t143 = t144 then (some (t113 == t105)) else (some false)))) else (some false)) = some r := H
                    have A91 := Aside0.mk A910
                    clear A910
                    by_cases c92 : t142 = true
                    · subst c92
                      have H1 : ((impl_LineSent.f t109 t110 t113 t114).bind fun t143 => ((impl_LineSent.f t101 t102 t105 t106).bind fun t144 => (if t143 = t144 then (some (t113 == t105)) else (some false)))) = some r := by rw [if_pos rfl] at H; exact H
                      clear H
                      have H := H1
                      clear H1
                      replace H := Option.bind_eq_some_iff.mp H
                      obtain ⟨t143, A930, H⟩ := H
                      replace H : ((impl_LineSent.f t101 t102 t105 t106).bind fun t144 => (if t143 = t144 then (some (t113 == t105)) else (some false))) = some r := H
                      have A93 := Aside0.mk A930
                      clear A930
                      replace H := Option.bind_eq_some_iff.mp H
                      obtain ⟨t144, A940, H⟩ := H
                      replace H : (if t143 = t144 then (some (t113 == t105)) else (some false)) = some r := H
                      have A94 := Aside0.mk A940
                      clear A940
                      by_cases c95 : t143 = t144
                      · rw [if_pos c95] at H
                        have c95b0 : (t143 == t144) = true := beq_iff_eq.mpr c95
                        have c95b1 : (t143 != t144) = false := bne_eq_false_iff_eq.mpr c95
                        clear c95
                        obtain rfl := Option.some.inj H
                        have hnb96 := NB108_116.out
                        have hnc96 := NB116_108.out
                        have hnb97 := NB108_124.out
                        have hnc97 := NB124_108.out
                        have hcz98_0 : wc.cell? ⟨gb108, 0, none⟩ = some (.int .i64 t101) := (blk_cell BK108.out 0).trans rfl
                        have hcz98_1 : wc.cell? ⟨gb108, 1, none⟩ = some (.slice Ao10 t102.length co10) := (blk_cell BK108.out 1).trans rfl
                        have hcz98_2 : wc.cell? ⟨gb108, 2, none⟩ = some (.int .i64 t105) := (blk_cell BK108.out 2).trans rfl
                        have hcz98_3 : wc.cell? ⟨gb108, 3, none⟩ = some (.bool t106) := (blk_cell BK108.out 3).trans rfl
                        have hfz98_0 := blk_frozen BK108.out 0
                        have hfz98_1 := blk_frozen BK108.out 1
                        have hfz98_2 := blk_frozen BK108.out 2
                        have hfz98_3 := blk_frozen BK108.out 3
                        have hnb99 := NB116_124.out
                        have hnc99 := NB124_116.out
                        have hcz100_0 : wc.cell? ⟨gb116, 0, none⟩ = some (.int .i64 t109) := (blk_cell BK116.out 0).trans rfl
                        have hcz100_1 : wc.cell? ⟨gb116, 1, none⟩ = some (.slice Ao15 t110.length co15) := (blk_cell BK116.out 1).trans rfl
                        have hcz100_2 : wc.cell? ⟨gb116, 2, none⟩ = some (.int .i64 t113) := (blk_cell BK116.out 2).trans rfl
                        have hcz100_3 : wc.cell? ⟨gb116, 3, none⟩ = some (.bool t114) := (blk_cell BK116.out 3).trans rfl
                        have hfz100_0 := blk_frozen BK116.out 0
                        have hfz100_1 := blk_frozen BK116.out 1
                        have hfz100_2 := blk_frozen BK116.out 2
                        have hfz100_3 := blk_frozen BK116.out 3
                        try go_wp2_with (first | ((with_reducible refine gate_callee (f := 15) rfl ?_); refine goesL_ (some 80) rfl rfl Try.func15 (by kernel_rfl) rfl #[.agg #[.int .i64 t109, .slice Ao15 t110.length co15, .int .i64 t113, .bool t114], .int .i64 t107] rfl z2_9 ?_; (with_reducible refine (impl_LineAck.calls t109 _ _ t110 t113 t114 t107 t129 t130 t133 t134 true _ ?side1 ?side2 A82.out).mono ?_); (case side1 => repeat (first | exact (Kd.Q_reads' HO_117001.out).2.2 | (with_reducible refine Kd.C_alloc ?_ _) | (with_reducible refine Kd.C_drewN ?_ _) | (with_reducible refine Kd.C_drew ?_))); (case side2 => exact (Kd.Q_reads' HO_117001.out).2.1); rintro e w101 ⟨v131, rfl, ho0, hb⟩; refine ⟨_, rfl, ?_⟩; have n0_ := Aside0.mk (Kd.Q_elder' z2_15 (Kd.Q_base ho0) hb); have n1_ := Aside0.mk (Kd.Q_elder' z2_16 (Kd.Q_base ho0) hb); have n2_ := Aside0.mk (Kd.Q_elder' z2_17 (Kd.Q_base ho0) hb); have n3_ := Aside0.mk (Kd.Q_lower (Kd.Q_new' (Kd.Q_new' (Kd.Q_new' ho0 (Kd.Q_lt z2_15)) (Kd.Q_lt z2_16)) (Kd.Q_lt z2_17)) (below_size z2_5)); have n4_ := Aside0.mk (blk_below (g := gb108) (o := .cells #[.int .i64 t101, .slice Ao10 t102.length co10, .int .i64 t105, .bool t106] 42 (0, 0)) z2_11 hb); have n5_ := Aside0.mk (blk_below (g := gb116) (o := .cells #[.int .i64 t109, .slice Ao15 t110.length co15, .int .i64 t113, .bool t114] 42 (0, 0)) z2_12 hb); have n6_ := Aside0.mk (blk_below (g := gb124) (o := .cells #[.int .i64 t117, .slice Ao22 t118.length co22, .int .i64 t121, .bool t122] 42 (0, 0)) z2_13 hb); have n7_ := Aside0.mk (below_step z2_5 hb); clear HO_109001; clear HO_117001; clear HO_125001; clear BK108; clear BK116; clear BK124; clear HB; have HO_109001 := n0_; have HO_117001 := n1_; have HO_125001 := n2_; have HO132 := n3_; have BK108 := n4_; have BK116 := n5_; have BK124 := n6_; have HB := n7_; clear n0_ n1_ n2_ n3_ n4_ n5_ n6_ n7_; (try clear hb); (try clear hb2); (try clear hk); (try clear hi); (try clear ho0)) | ((with_reducible refine gate_dst (N := 10) rfl ?_); refine box_event ?hg (N := 10) ?hd (cs := #[.int .i64 0, .slice none 0 0, .int .i64 0, .bool false]) (t := 42) ?hr ?_; (case hd => rfl); (case hg => rfl); (case hr => first | (go_simp; done) | (go_simp; rfl)); intro gb136 hg w102 hbox hb; have n0_ := Aside0.mk (Kd.Q_below z2_15 hb); have n1_ := Aside0.mk (Kd.Q_below z2_16 hb); have n2_ := Aside0.mk (Kd.Q_below z2_17 hb); have n3_ := Aside0.mk (Kd.Q_below z2_20 hb); have n4_ := Aside0.mk (blk_below (g := gb108) (o := .cells #[.int .i64 t101, .slice Ao10 t102.length co10, .int .i64 t105, .bool t106] 42 (0, 0)) z2_11 hb); have n5_ := Aside0.mk (blk_below (g := gb116) (o := .cells #[.int .i64 t109, .slice Ao15 t110.length co15, .int .i64 t113, .bool t114] 42 (0, 0)) z2_12 hb); have n6_ := Aside0.mk (blk_below (g := gb124) (o := .cells #[.int .i64 t117, .slice Ao22 t118.length co22, .int .i64 t121, .bool t122] 42 (0, 0)) z2_13 hb); have n7_ := Aside0.mk (below_step z2_5 hb); have n8_ := Aside0.mk (hbox); have n9_ := Aside0.mk ((by rw [hg]; exact (below_size z2_5) : w.heap.size ≤ gb136)); have n10_ := Aside0.mk ((by rw [hg]; exact (below_size z2_5) : w.heap.size ≤ gb136)); have n11_ := Aside0.mk ((by rw [hg]; exact Nat.ne_of_lt (blk_lt (g := gb108) (o := .cells #[.int .i64 t101, .slice Ao10 t102.length co10, .int .i64 t105, .bool t106] 42 (0, 0)) z2_11) : gb108 ≠ gb136)); have n12_ := Aside0.mk ((by rw [hg]; exact Nat.ne_of_gt (blk_lt (g := gb108) (o := .cells #[.int .i64 t101, .slice Ao10 t102.length co10, .int .i64 t105, .bool t106] 42 (0, 0)) z2_11) : gb136 ≠ gb108)); have n13_ := Aside0.mk ((by rw [hg]; exact Nat.ne_of_lt (blk_lt (g := gb116) (o := .cells #[.int .i64 t109, .slice Ao15 t110.length co15, .int .i64 t113, .bool t114] 42 (0, 0)) z2_12) : gb116 ≠ gb136)); have n14_ := Aside0.mk ((by rw [hg]; exact Nat.ne_of_gt (blk_lt (g := gb116) (o := .cells #[.int .i64 t109, .slice Ao15 t110.length co15, .int .i64 t113, .bool t114] 42 (0, 0)) z2_12) : gb136 ≠ gb116)); have n15_ := Aside0.mk ((by rw [hg]; exact Nat.ne_of_lt (blk_lt (g := gb124) (o := .cells #[.int .i64 t117, .slice Ao22 t118.length co22, .int .i64 t121, .bool t122] 42 (0, 0)) z2_13) : gb124 ≠ gb136)); have n16_ := Aside0.mk ((by rw [hg]; exact Nat.ne_of_gt (blk_lt (g := gb124) (o := .cells #[.int .i64 t117, .slice Ao22 t118.length co22, .int .i64 t121, .bool t122] 42 (0, 0)) z2_13) : gb136 ≠ gb124)); clear HO_109001; clear HO_117001; clear HO_125001; clear HO132; clear BK108; clear BK116; clear BK124; clear HB; have HO_109001 := n0_; have HO_117001 := n1_; have HO_125001 := n2_; have HO132 := n3_; have BK108 := n4_; have BK116 := n5_; have BK124 := n6_; have HB := n7_; have BK136 := n8_; have GW136 := n9_; have GE136 := n10_; have NB108_136 := n11_; have NB136_108 := n12_; have NB116_136 := n13_; have NB136_116 := n14_; have NB124_136 := n15_; have NB136_124 := n16_; clear n0_ n1_ n2_ n3_ n4_ n5_ n6_ n7_ n8_ n9_ n10_ n11_ n12_ n13_ n14_ n15_ n16_; clear hb hbox hg; have hnb103 := NB136_108.out; have hnc103 := NB108_136.out; have hnb104 := NB136_116.out; have hnc104 := NB116_136.out; have hnb105 := NB136_124.out; have hnc105 := NB124_136.out; have hcz106_0 : w102.cell? ⟨gb136, 0, none⟩ = some (.int .i64 0) := (blk_cell BK136.out 0).trans rfl; have hcz106_1 : w102.cell? ⟨gb136, 1, none⟩ = some (.slice none 0 0) := (blk_cell BK136.out 1).trans rfl; have hcz106_2 : w102.cell? ⟨gb136, 2, none⟩ = some (.int .i64 0) := (blk_cell BK136.out 2).trans rfl; have hcz106_3 : w102.cell? ⟨gb136, 3, none⟩ = some (.bool false) := (blk_cell BK136.out 3).trans rfl; have hfz106_0 := blk_frozen BK136.out 0; have hfz106_1 := blk_frozen BK136.out 1; have hfz106_2 := blk_frozen BK136.out 2; have hfz106_3 := blk_frozen BK136.out 3; obtain ⟨Ao107, co107, eo107, _⟩ := Kd.Q_slice HO132.out; subst eo107))
                        have n0_ : Aside0 (Kd.Q Kd.string 9 ((((w102.setCell ⟨gb136, 0, none⟩ (.int .i64 t129)).setCell ⟨gb136, 1, none⟩ (.slice Ao107 t130.length co107)).setCell ⟨gb136, 2, none⟩ (.int .i64 t133)).setCell ⟨gb136, 3, none⟩ (.bool t134)) w.heap.size (fun k_ => some k_ ≠ (.slice Ao15 t110.length co15 : Value).ownBlock ∧ some k_ ≠ (.slice Ao22 t118.length co22 : Value).ownBlock ∧ some k_ ≠ (.slice Ao107 t130.length co107 : Value).ownBlock) (.slice Ao10 t102.length co10) t102) := ⟨by (with_reducible repeat (first | apply Kd.Q_alloc | apply Kd.Q_drewN | apply Kd.Q_drew)); exact Kd.Q_mono (Kd.Q_far (p := ⟨gb136, 3, none⟩) (Kd.Q_far (p := ⟨gb136, 2, none⟩) (Kd.Q_far (p := ⟨gb136, 1, none⟩) (Kd.Q_far (p := ⟨gb136, 0, none⟩) (Kd.Q_types HO_109001.out BK136.out (by decide)) (fun _ hk => hk.2) (.int .i64 t129)) (fun _ hk => hk.2) (.slice Ao107 t130.length co107)) (fun _ hk => hk.2) (.int .i64 t133)) (fun _ hk => hk.2) (.bool t134)) (fun _ hk => ⟨hk.1.1.1, ⟨hk.1.1.2, hk.1.2⟩⟩)⟩
                        have n1_ : Aside0 (Kd.Q Kd.string 9 ((((w102.setCell ⟨gb136, 0, none⟩ (.int .i64 t129)).setCell ⟨gb136, 1, none⟩ (.slice Ao107 t130.length co107)).setCell ⟨gb136, 2, none⟩ (.int .i64 t133)).setCell ⟨gb136, 3, none⟩ (.bool t134)) w.heap.size (fun k_ => some k_ ≠ (.slice Ao10 t102.length co10 : Value).ownBlock ∧ some k_ ≠ (.slice Ao22 t118.length co22 : Value).ownBlock ∧ some k_ ≠ (.slice Ao107 t130.length co107 : Value).ownBlock) (.slice Ao15 t110.length co15) t110) := ⟨by (with_reducible repeat (first | apply Kd.Q_alloc | apply Kd.Q_drewN | apply Kd.Q_drew)); exact Kd.Q_mono (Kd.Q_far (p := ⟨gb136, 3, none⟩) (Kd.Q_far (p := ⟨gb136, 2, none⟩) (Kd.Q_far (p := ⟨gb136, 1, none⟩) (Kd.Q_far (p := ⟨gb136, 0, none⟩) (Kd.Q_types HO_117001.out BK136.out (by decide)) (fun _ hk => hk.2) (.int .i64 t129)) (fun _ hk => hk.2) (.slice Ao107 t130.length co107)) (fun _ hk => hk.2) (.int .i64 t133)) (fun _ hk => hk.2) (.bool t134)) (fun _ hk => ⟨hk.1.1.1, ⟨hk.1.1.2, hk.1.2⟩⟩)⟩
                        have n2_ : Aside0 (Kd.Q Kd.string 9 ((((w102.setCell ⟨gb136, 0, none⟩ (.int .i64 t129)).setCell ⟨gb136, 1, none⟩ (.slice Ao107 t130.length co107)).setCell ⟨gb136, 2, none⟩ (.int .i64 t133)).setCell ⟨gb136, 3, none⟩ (.bool t134)) w.heap.size (fun k_ => some k_ ≠ (.slice Ao10 t102.length co10 : Value).ownBlock ∧ some k_ ≠ (.slice Ao15 t110.length co15 : Value).ownBlock ∧ some k_ ≠ (.slice Ao107 t130.length co107 : Value).ownBlock) (.slice Ao22 t118.length co22) t118) := ⟨by (with_reducible repeat (first | apply Kd.Q_alloc | apply Kd.Q_drewN | apply Kd.Q_drew)); exact Kd.Q_mono (Kd.Q_far (p := ⟨gb136, 3, none⟩) (Kd.Q_far (p := ⟨gb136, 2, none⟩) (Kd.Q_far (p := ⟨gb136, 1, none⟩) (Kd.Q_far (p := ⟨gb136, 0, none⟩) (Kd.Q_types HO_125001.out BK136.out (by decide)) (fun _ hk => hk.2) (.int .i64 t129)) (fun _ hk => hk.2) (.slice Ao107 t130.length co107)) (fun _ hk => hk.2) (.int .i64 t133)) (fun _ hk => hk.2) (.bool t134)) (fun _ hk => ⟨hk.1.1.1, ⟨hk.1.1.2, hk.1.2⟩⟩)⟩
                        have n3_ : Aside0 (Kd.Q Kd.string 9 ((((w102.setCell ⟨gb136, 0, none⟩ (.int .i64 t129)).setCell ⟨gb136, 1, none⟩ (.slice Ao107 t130.length co107)).setCell ⟨gb136, 2, none⟩ (.int .i64 t133)).setCell ⟨gb136, 3, none⟩ (.bool t134)) w.heap.size (fun k_ => some k_ ≠ (.slice Ao10 t102.length co10 : Value).ownBlock ∧ some k_ ≠ (.slice Ao15 t110.length co15 : Value).ownBlock ∧ some k_ ≠ (.slice Ao22 t118.length co22 : Value).ownBlock) (.slice Ao107 t130.length co107) t130) := ⟨by (with_reducible repeat (first | apply Kd.Q_alloc | apply Kd.Q_drewN | apply Kd.Q_drew)); exact Kd.Q_mono (Kd.Q_far (p := ⟨gb136, 3, none⟩) (Kd.Q_far (p := ⟨gb136, 2, none⟩) (Kd.Q_far (p := ⟨gb136, 1, none⟩) (Kd.Q_far (p := ⟨gb136, 0, none⟩) (Kd.Q_types HO132.out BK136.out (by decide)) (fun _ hk => hk.2) (.int .i64 t129)) (fun _ hk => hk.2) (.slice Ao107 t130.length co107)) (fun _ hk => hk.2) (.int .i64 t133)) (fun _ hk => hk.2) (.bool t134)) (fun _ hk => ⟨hk.1.1.1.2, ⟨hk.1.1.2, hk.1.2⟩⟩)⟩
                        have n4_ : Aside0 (((((w102.setCell ⟨gb136, 0, none⟩ (.int .i64 t129)).setCell ⟨gb136, 1, none⟩ (.slice Ao107 t130.length co107)).setCell ⟨gb136, 2, none⟩ (.int .i64 t133)).setCell ⟨gb136, 3, none⟩ (.bool t134)).heap[gb108]? = some (.cells #[.int .i64 t101, .slice Ao10 t102.length co10, .int .i64 t105, .bool t106] 42 (0, 0))) := ⟨by (with_reducible repeat (first | refine blk_drewN ?_ _ | refine blk_drew ?_ | refine blk_alloc ?_ _ | refine blk_far ?_ NB108_136.out _)); exact BK108.out⟩
                        have n5_ : Aside0 (((((w102.setCell ⟨gb136, 0, none⟩ (.int .i64 t129)).setCell ⟨gb136, 1, none⟩ (.slice Ao107 t130.length co107)).setCell ⟨gb136, 2, none⟩ (.int .i64 t133)).setCell ⟨gb136, 3, none⟩ (.bool t134)).heap[gb116]? = some (.cells #[.int .i64 t109, .slice Ao15 t110.length co15, .int .i64 t113, .bool t114] 42 (0, 0))) := ⟨by (with_reducible repeat (first | refine blk_drewN ?_ _ | refine blk_drew ?_ | refine blk_alloc ?_ _ | refine blk_far ?_ NB116_136.out _)); exact BK116.out⟩
                        have n6_ : Aside0 (((((w102.setCell ⟨gb136, 0, none⟩ (.int .i64 t129)).setCell ⟨gb136, 1, none⟩ (.slice Ao107 t130.length co107)).setCell ⟨gb136, 2, none⟩ (.int .i64 t133)).setCell ⟨gb136, 3, none⟩ (.bool t134)).heap[gb124]? = some (.cells #[.int .i64 t117, .slice Ao22 t118.length co22, .int .i64 t121, .bool t122] 42 (0, 0))) := ⟨by (with_reducible repeat (first | refine blk_drewN ?_ _ | refine blk_drew ?_ | refine blk_alloc ?_ _ | refine blk_far ?_ NB124_136.out _)); exact BK124.out⟩
                        have n7_ : Aside0 (((((w102.setCell ⟨gb136, 0, none⟩ (.int .i64 t129)).setCell ⟨gb136, 1, none⟩ (.slice Ao107 t130.length co107)).setCell ⟨gb136, 2, none⟩ (.int .i64 t133)).setCell ⟨gb136, 3, none⟩ (.bool t134)).heap[gb136]? = some (.cells #[.int .i64 t129, .slice Ao107 t130.length co107, .int .i64 t133, .bool t134] 42 (0, 0))) := ⟨by (with_reducible repeat (first | refine blk_drewN ?_ _ | refine blk_drew ?_ | refine blk_alloc ?_ _)); refine blk_put (cs := #[.int .i64 t129, .slice Ao107 t130.length co107, .int .i64 t133, .bool false]) ?_ 3 _ rfl; (with_reducible repeat (first | refine blk_drewN ?_ _ | refine blk_drew ?_ | refine blk_alloc ?_ _)); refine blk_put (cs := #[.int .i64 t129, .slice Ao107 t130.length co107, .int .i64 0, .bool false]) ?_ 2 _ rfl; (with_reducible repeat (first | refine blk_drewN ?_ _ | refine blk_drew ?_ | refine blk_alloc ?_ _)); refine blk_put (cs := #[.int .i64 t129, .slice none 0 0, .int .i64 0, .bool false]) ?_ 1 _ rfl; (with_reducible repeat (first | refine blk_drewN ?_ _ | refine blk_drew ?_ | refine blk_alloc ?_ _)); refine blk_put (cs := #[.int .i64 0, .slice none 0 0, .int .i64 0, .bool false]) ?_ 0 _ rfl; (with_reducible repeat (first | refine blk_drewN ?_ _ | refine blk_drew ?_ | refine blk_alloc ?_ _)); exact BK136.out⟩
                        have n8_ : Aside0 (Below w.heap.size w ((((w102.setCell ⟨gb136, 0, none⟩ (.int .i64 t129)).setCell ⟨gb136, 1, none⟩ (.slice Ao107 t130.length co107)).setCell ⟨gb136, 2, none⟩ (.int .i64 t133)).setCell ⟨gb136, 3, none⟩ (.bool t134))) := ⟨by repeat (first | (with_reducible first | exact HB.out | apply below_alloc | apply pw_below_drewN | apply below_drew1 | refine below_set ?_ GE108.out | refine below_set ?_ GE116.out | refine below_set ?_ GE124.out | refine below_set ?_ GE136.out) | exact HB.out)⟩
                        (try clear HO_109001)
                        (try clear HO_117001)
                        (try clear HO_125001)
                        (try clear HO132)
                        (try clear BK108)
                        (try clear BK116)
                        (try clear BK124)
                        (try clear BK136)
                        (try clear HB)
                        generalize ((((w102.setCell ⟨gb136, 0, none⟩ (.int .i64 t129)).setCell ⟨gb136, 1, none⟩ (.slice Ao107 t130.length co107)).setCell ⟨gb136, 2, none⟩ (.int .i64 t133)).setCell ⟨gb136, 3, none⟩ (.bool t134)) = w108 at n0_ n1_ n2_ n3_ n4_ n5_ n6_ n7_ n8_ ⊢
                        have HO_109001 := n0_
                        have HO_117001 := n1_
                        have HO_125001 := n2_
                        have HO132 := n3_
                        have BK108 := n4_
                        have BK116 := n5_
                        have BK124 := n6_
                        have BK136 := n7_
                        have HB := n8_
                        clear n0_ n1_ n2_ n3_ n4_ n5_ n6_ n7_ n8_
                        have n0_ := Aside0.mk (Kd.Q_drew HO_109001.out)
                        have n1_ := Aside0.mk (Kd.Q_drew HO_117001.out)
                        have n2_ := Aside0.mk (Kd.Q_drew HO_125001.out)
                        have n3_ := Aside0.mk (Kd.Q_drew HO132.out)
                        have n4_ := Aside0.mk (blk_drew BK108.out)
                        have n5_ := Aside0.mk (blk_drew BK116.out)
                        have n6_ := Aside0.mk (blk_drew BK124.out)
                        have n7_ := Aside0.mk (blk_drew BK136.out)
                        have n8_ := Aside0.mk (below_drew1 HB.out)
                        clear HO_109001
                        clear HO_117001
                        clear HO_125001
                        clear HO132
                        clear BK108
                        clear BK116
                        clear BK124
                        clear BK136
                        clear HB
                        have HO_109001 := n0_
                        have HO_117001 := n1_
                        have HO_125001 := n2_
                        have HO132 := n3_
                        have BK108 := n4_
                        have BK116 := n5_
                        have BK124 := n6_
                        have BK136 := n7_
                        have HB := n8_
                        clear n0_ n1_ n2_ n3_ n4_ n5_ n6_ n7_ n8_
                        have q110 : ((ji84) : Int) ≤ ((t102.length : Int) : Int) := of_decide_eq_true z2_21
                        obtain ⟨i0110, hi0110, _, hsz110, _⟩ := info_parts info9
                        have hroom110 : t102.length ≤ co10 := (Kd.Q_reads' HO_109001.out).2.1
                        have hC110 : Kd.C Kd.string _ Ao10 t102.length t102 := (Kd.Q_reads' HO_109001.out).2.2
                        have q0110 : (0 : Int) ≤ ((ji84) : Int) := of_decide_eq_true z2_21
                        have hcut110 := cut_from (P := Try.prog) 40 9 .i64 Try.underlying40 hi0110 1 hsz110 Ao10 t102.length co10 (ji84) q0110 q110
                        have hr110 := Kd.C_drop (m := ((ji84) : Int).toNat) (c := co10) hC110 (by omega) hroom110
                        obtain ⟨A110, hA110⟩ : ∃ A1, A1 = (if co10 = ((ji84) : Int).toNat then Ao10 else (Ao10 : Option Addr).map (·.add (((ji84) : Int).toNat * 1))) := ⟨_, rfl⟩
                        obtain ⟨c110, hc110⟩ : ∃ c1, c1 = co10 - ((ji84) : Int).toNat := ⟨_, rfl⟩
                        have hy110 : y137.length = t102.length - ((ji84) : Int).toNat := (by rw [Ny137.out, List.length_drop] <;> omega)
                        rw [show (t102).drop ((ji84) : Int).toNat = y137 from Ny137.out.symm] at hr110
                        replace hr110 : Kd.C Kd.string _ A110 y137.length y137 := (by rw [hA110]; exact hr110)
                        rw [← hy110, ← hA110, ← hc110] at hcut110
                        have HR140 := Aside0.mk hr110
                        have HC140 := Aside0.mk (show y137.length ≤ c110 from by rw [hy110, hc110]; exact Nat.sub_le_sub_right hroom110 _)
                        clear hr110 hC110 hroom110 hi0110 hsz110 hc110
                        have KY110 := Aside0.mk hy110
                        have KA110 := Aside0.mk hA110
                        clear hy110 hA110
                        have KL110 := Aside0.mk (show ((ji84) : Int).toNat ≤ t102.length from by omega)
                        replace q110 := eq_true q110
                        refine start_ (n := 43) (S := fun w' => w'.cell? ⟨gb108, 0, none⟩ = some (.int .i64 t101) ∧ w'.cell? ⟨gb108, 1, none⟩ = some (.slice Ao10 t102.length co10) ∧ w'.cell? ⟨gb108, 2, none⟩ = some (.int .i64 t105) ∧ w'.cell? ⟨gb108, 3, none⟩ = some (.bool t106) ∧ w'.cell? ⟨gb116, 0, none⟩ = some (.int .i64 t109) ∧ w'.cell? ⟨gb116, 1, none⟩ = some (.slice Ao15 t110.length co15) ∧ w'.cell? ⟨gb116, 2, none⟩ = some (.int .i64 t113) ∧ w'.cell? ⟨gb116, 3, none⟩ = some (.bool t114) ∧ w'.cell? ⟨gb136, 0, none⟩ = some (.int .i64 t129) ∧ w'.cell? ⟨gb136, 1, none⟩ = some (.slice Ao107 t130.length co107) ∧ w'.cell? ⟨gb136, 2, none⟩ = some (.int .i64 t133) ∧ w'.cell? ⟨gb136, 3, none⟩ = some (.bool t134)) (ds := []) #[false, false, false, false, false, false, false, false, false, false, false, false, false, false, false, false, false, false, false, false, false, false, false, false, false, false, false, false, false, false, false, false, false, false, false, false, false, false, false, false, false, false, false] (by kernel_rfl) rfl rfl ⟨(blk_cell BK108.out 0).trans rfl, (blk_cell BK108.out 1).trans rfl, (blk_cell BK108.out 2).trans rfl, (blk_cell BK108.out 3).trans rfl, (blk_cell BK116.out 0).trans rfl, (blk_cell BK116.out 1).trans rfl, (blk_cell BK116.out 2).trans rfl, (blk_cell BK116.out 3).trans rfl, (blk_cell BK136.out 0).trans rfl, (blk_cell BK136.out 1).trans rfl, (blk_cell BK136.out 2).trans rfl, (blk_cell BK136.out 3).trans rfl⟩ (fun hHeld => ?_); refine with_tabW laws_FnLineAck.tab10 laws_FnLineAck.bits10 (fun HT_ HW_ => ?_)
                        generalize w108.drew = w109 at HO_109001 HO_117001 HO_125001 HO132 BK108 BK116 BK124 BK136 HB HR140 hHeld ⊢
                        refine pure_ (i := 0) (N := some 83) (v := _) (a' := _) laws_FnLineAck.q0 rfl rfl (any_of HT_.out (by kernel_rfl)) (fun _ _ _ h => h) (Or.inl ⟨by rfl, by intro w'; go_simp; with_reducible rfl⟩) z2_18 ?_
                        refine pure_ (i := 1) (N := some 84) (v := _) (a' := _) laws_FnLineAck.q1 rfl rfl (any_of HT_.out (by kernel_rfl)) (fun _ _ _ h => h) (Or.inl ⟨by rfl, by intro w'; go_simp; with_reducible rfl⟩) z2_18 ?_
                        refine take_ (i := 2) (N := some 85) (v := _) (a' := _) laws_FnLineAck.q2 rfl rfl (take_ofW HT_.out HW_.out (by kernel_rfl)) (fun _ _ _ h => h) (Or.inl ⟨by rfl, by rintro w' ⟨s0, s1, s2, s3, s4, s5, s6, s7, s8, s9, s10, s11⟩; go_simp; with_reducible rfl⟩) hHeld z2_18 ?_
                        refine pure_ (i := 3) (N := some 86) (v := _) (a' := _) laws_FnLineAck.q3 rfl rfl (any_of HT_.out (by kernel_rfl)) (fun _ _ _ h => h) (Or.inl ⟨by rfl, by intro w'; go_simp; with_reducible rfl⟩) z2_18 ?_
                        refine pure_ (i := 4) (N := some 87) (v := _) (a' := _) laws_FnLineAck.q4 rfl rfl (any_of HT_.out (by kernel_rfl)) (fun _ _ _ h => h) (Or.inl ⟨by rfl, by intro w'; go_simp; with_reducible rfl⟩) z2_18 ?_
                        refine pure_ (i := 5) (N := some 88) (v := _) (a' := _) laws_FnLineAck.q5 rfl rfl (any_of HT_.out (by kernel_rfl)) (fun _ _ _ h => h) (Or.inl ⟨by rfl, by intro w'; go_simp; with_reducible rfl⟩) z2_18 ?_
                        refine pure_ (i := 6) (N := some 89) (v := _) (a' := _) laws_FnLineAck.q6 rfl rfl (any_of HT_.out (by kernel_rfl)) (fun _ _ _ h => h) (Or.inl ⟨by rfl, by intro w'; go_simp; with_reducible rfl⟩) z2_18 ?_
                        refine pure_ (i := 8) (N := some 91) (v := _) (a' := _) laws_FnLineAck.q7 rfl rfl (any_of HT_.out (by kernel_rfl)) (fun _ _ _ h => h) (Or.inl ⟨by rfl, by intro w'; go_simp; with_reducible rfl⟩) z2_18 ?_
                        refine pure_ (i := 10) (N := some 93) (v := _) (a' := _) laws_FnLineAck.q8 rfl rfl (any_of HT_.out (by kernel_rfl)) (fun _ _ _ h => h) (Or.inl ⟨by rfl, by intro w'; go_simp; with_reducible rfl⟩) z2_18 ?_
                        refine take_ (i := 7) (N := some 90) (v := _) (a' := _) laws_FnLineAck.q9 rfl rfl (take_ofW HT_.out HW_.out (by kernel_rfl)) (fun _ _ _ h => h) (Or.inl ⟨by rfl, by rintro w' ⟨s0, s1, s2, s3, s4, s5, s6, s7, s8, s9, s10, s11⟩; go_simp; with_reducible rfl⟩) hHeld z2_18 ?_
                        refine take_ (i := 9) (N := some 92) (v := _) (a' := _) laws_FnLineAck.q10 rfl rfl (take_ofW HT_.out HW_.out (by kernel_rfl)) (fun _ _ _ h => h) (Or.inl ⟨by rfl, by rintro w' ⟨s0, s1, s2, s3, s4, s5, s6, s7, s8, s9, s10, s11⟩; go_simp; with_reducible rfl⟩) hHeld z2_18 ?_
                        refine pure_ (i := 11) (N := some 94) (v := _) (a' := _) laws_FnLineAck.q11 rfl rfl (any_of HT_.out (by kernel_rfl)) (fun _ _ _ h => h) (Or.inl ⟨by rfl, by intro w'; go_simp; with_reducible rfl⟩) z2_18 ?_
                        refine one_ (i := 12) (N := some 95) #[true, true, true, true, true, true, true, true, true, true, true, true, true, false, false, false, false, false, false, false, false, false, false, false, false, false, false, false, false, false, false, false, false, false, false, false, false, false, false, false, false, false, false] rfl rfl (one_of HT_.out (by kernel_rfl)) (by decide) (fun K hK => ?_)
                        refine goes_ Try.func19 (by kernel_rfl) rfl #[.slice Ao15 t110.length co15, .slice A110 y137.length c110] (by rfl) rfl rfl z2_9 ?_
                        with_reducible refine (laws_hbTexts.calls kj5 _ _ t110 _ _ y137 true _ ?side1 ?side2 ?side3 ?side4 A87.out).mono ?_
                        (case side1 => repeat (first | exact (Kd.Q_reads' HO_117001.out).2.2 | (with_reducible refine Kd.C_alloc ?_ _) | (with_reducible refine Kd.C_drewN ?_ _) | (with_reducible refine Kd.C_drew ?_)))
                        (case side2 => exact (Kd.Q_reads' HO_117001.out).2.1)
                        (case side3 => repeat (first | exact z2_7 | (with_reducible refine Kd.C_alloc ?_ _) | (with_reducible refine Kd.C_drewN ?_ _) | (with_reducible refine Kd.C_drew ?_)))
                        (case side4 => exact HC140.out)
                        rintro e w' ⟨rfl, ⟨nd, rfl⟩⟩
                        refine ⟨_, rfl, ?_⟩
                        refine hK.out _ _ ⟨(blk_cell BK108.out 0).trans rfl, (blk_cell BK108.out 1).trans rfl, (blk_cell BK108.out 2).trans rfl, (blk_cell BK108.out 3).trans rfl, (blk_cell BK116.out 0).trans rfl, (blk_cell BK116.out 1).trans rfl, (blk_cell BK116.out 2).trans rfl, (blk_cell BK116.out 3).trans rfl, (blk_cell BK136.out 0).trans rfl, (blk_cell BK136.out 1).trans rfl, (blk_cell BK136.out 2).trans rfl, (blk_cell BK136.out 3).trans rfl⟩ (fun hHeld => ?_)
                        clear hK K
                        refine norm_ (a' := ?_) ?_ ?_
                        rotate_left
                        · show Act.put _ (some 95) _ = _
                          simp only [Act.put, List.setIfInBounds_toArray, List.set_cons_zero, List.set_cons_succ, i64_w, i32_w]
                          rfl
                        refine pure_ (i := 13) (N := some 96) (v := _) (a' := _) laws_FnLineAck.q12 rfl rfl (any_of HT_.out (by kernel_rfl)) (fun _ _ _ h => h) (Or.inl ⟨by rfl, by intro w'; go_simp; with_reducible rfl⟩) z2_18 ?_
                        refine pure_ (i := 14) (N := some 97) (v := _) (a' := _) laws_FnLineAck.q13 rfl rfl (any_of HT_.out (by kernel_rfl)) (fun _ _ _ h => h) (Or.inl ⟨by rfl, by intro w'; go_simp; with_reducible rfl⟩) z2_18 ?_
                        refine pure_ (i := 15) (N := some 98) (v := _) (a' := _) laws_FnLineAck.q14 rfl rfl (any_of HT_.out (by kernel_rfl)) (fun _ _ _ h => h) (Or.inl ⟨by rfl, by intro w'; go_simp; with_reducible rfl⟩) z2_18 ?_
                        refine pure_ (i := 17) (N := some 100) (v := _) (a' := _) laws_FnLineAck.q15 rfl rfl (any_of HT_.out (by kernel_rfl)) (fun _ _ _ h => h) (Or.inl ⟨by rfl, by intro w'; go_simp; with_reducible rfl⟩) z2_18 ?_
                        refine take_ (i := 16) (N := some 99) (v := _) (a' := _) laws_FnLineAck.q16 rfl rfl (take_ofW HT_.out HW_.out (by kernel_rfl)) (fun _ _ _ h => h) (Or.inl ⟨by rfl, by rintro w' ⟨s0, s1, s2, s3, s4, s5, s6, s7, s8, s9, s10, s11⟩; go_simp; with_reducible rfl⟩) hHeld z2_18 ?_
                        refine pure_ (i := 18) (N := some 101) (v := _) (a' := _) laws_FnLineAck.q17 rfl rfl (any_of HT_.out (by kernel_rfl)) (fun _ _ _ h => h) (Or.inl ⟨by rfl, by intro w'; go_simp; with_reducible rfl⟩) z2_18 ?_
                        refine pure_ (i := 19) (N := some 102) (v := _) (a' := _) laws_FnLineAck.q18 rfl rfl (any_of HT_.out (by kernel_rfl)) (fun _ _ _ h => h) (Or.inl ⟨by rfl, by intro w'; go_simp; with_reducible rfl⟩) z2_18 ?_
                        refine pure_ (i := 20) (N := some 103) (v := _) (a' := _) laws_FnLineAck.q19 rfl rfl (any_of HT_.out (by kernel_rfl)) (fun _ _ _ h => h) (Or.inl ⟨by rfl, by intro w'; go_simp; with_reducible rfl⟩) z2_18 ?_
                        refine pure_ (i := 21) (N := some 104) (v := _) (a' := _) laws_FnLineAck.q20 rfl rfl (any_of HT_.out (by kernel_rfl)) (fun _ _ _ h => h) (Or.inl ⟨by rfl, by intro w'; go_simp; with_reducible rfl⟩) z2_18 ?_
                        refine pure_ (i := 22) (N := some 105) (v := _) (a' := _) laws_FnLineAck.q21 rfl rfl (any_of HT_.out (by kernel_rfl)) (fun _ _ _ h => h) (Or.inl ⟨by rfl, by intro w'; go_simp; with_reducible rfl⟩) z2_18 ?_
                        refine pure_ (i := 23) (N := some 106) (v := _) (a' := _) laws_FnLineAck.q22 rfl rfl (any_of HT_.out (by kernel_rfl)) (fun _ _ _ h => h) (Or.inl ⟨by rfl, by intro w'; go_simp; with_reducible rfl⟩) z2_18 ?_
                        refine take_ (i := 24) (N := some 107) (v := _) (a' := _) laws_FnLineAck.q23 rfl rfl (take_ofW HT_.out HW_.out (by kernel_rfl)) (fun _ _ _ h => h) (Or.inl ⟨by rfl, by rintro w' ⟨s0, s1, s2, s3, s4, s5, s6, s7, s8, s9, s10, s11⟩; go_simp; with_reducible rfl⟩) hHeld z2_18 ?_
                        refine take_ (i := 25) (N := some 108) (v := _) (a' := _) laws_FnLineAck.q24 rfl rfl (take_ofW HT_.out HW_.out (by kernel_rfl)) (fun _ _ _ h => h) (Or.inl ⟨by rfl, by rintro w' ⟨s0, s1, s2, s3, s4, s5, s6, s7, s8, s9, s10, s11⟩; go_simp; with_reducible rfl⟩) hHeld z2_18 ?_
                        refine one_ (i := 26) (N := some 109) #[true, true, true, true, true, true, true, true, true, true, true, true, true, true, true, true, true, true, true, true, true, true, true, true, true, true, true, false, false, false, false, false, false, false, false, false, false, false, false, false, false, false, false] rfl rfl (one_of HT_.out (by kernel_rfl)) (by decide) (fun K hK => ?_)
                        refine goes_ Try.func17 (by kernel_rfl) rfl #[.agg #[.int .i64 t129, .slice Ao107 t130.length co107, .int .i64 t133, .bool t134], .agg #[.int .i64 t109, .slice Ao15 t110.length co15, .int .i64 t113, .bool t114]] (by rfl) rfl rfl z2_9 ?_
                        with_reducible refine (laws_hbLine.calls kj5 t129 _ _ t130 t133 t134 t109 _ _ t110 t113 t114 true _ ?side1 ?side2 ?side3 ?side4 A91.out).mono ?_
                        (case side1 => repeat (first | exact (Kd.Q_reads' HO132.out).2.2 | (with_reducible refine Kd.C_alloc ?_ _) | (with_reducible refine Kd.C_drewN ?_ _) | (with_reducible refine Kd.C_drew ?_)))
                        (case side2 => exact (Kd.Q_reads' HO132.out).2.1)
                        (case side3 => repeat (first | exact (Kd.Q_reads' HO_117001.out).2.2 | (with_reducible refine Kd.C_alloc ?_ _) | (with_reducible refine Kd.C_drewN ?_ _) | (with_reducible refine Kd.C_drew ?_)))
                        (case side4 => exact (Kd.Q_reads' HO_117001.out).2.1)
                        rintro e w111 ⟨rfl, hb⟩
                        refine ⟨_, rfl, ?_⟩
                        have n0_ := Aside0.mk (Kd.Q_below z2_15 hb)
                        have n1_ := Aside0.mk (Kd.Q_below z2_16 hb)
                        have n2_ := Aside0.mk (Kd.Q_below z2_17 hb)
                        have n3_ := Aside0.mk (Kd.Q_below z2_20 hb)
                        have n4_ := Aside0.mk (blk_below (g := gb108) (o := .cells #[.int .i64 t101, .slice Ao10 t102.length co10, .int .i64 t105, .bool t106] 42 (0, 0)) z2_11 hb)
                        have n5_ := Aside0.mk (blk_below (g := gb116) (o := .cells #[.int .i64 t109, .slice Ao15 t110.length co15, .int .i64 t113, .bool t114] 42 (0, 0)) z2_12 hb)
                        have n6_ := Aside0.mk (blk_below (g := gb124) (o := .cells #[.int .i64 t117, .slice Ao22 t118.length co22, .int .i64 t121, .bool t122] 42 (0, 0)) z2_13 hb)
                        have n7_ := Aside0.mk (blk_below (g := gb136) (o := .cells #[.int .i64 t129, .slice Ao107 t130.length co107, .int .i64 t133, .bool t134] 42 (0, 0)) z2_14 hb)
                        have n8_ := Aside0.mk (Kd.C_below z2_7 hb)
                        have n9_ := Aside0.mk (below_step z2_4 hb)
                        clear HO_109001
                        clear HO_117001
                        clear HO_125001
                        clear HO132
                        clear BK108
                        clear BK116
                        clear BK124
                        clear BK136
                        clear HR140
                        clear HB
                        have HO_109001 := n0_
                        have HO_117001 := n1_
                        have HO_125001 := n2_
                        have HO132 := n3_
                        have BK108 := n4_
                        have BK116 := n5_
                        have BK124 := n6_
                        have BK136 := n7_
                        have HR140 := n8_
                        have HB := n9_
                        clear n0_ n1_ n2_ n3_ n4_ n5_ n6_ n7_ n8_ n9_
                        (try clear hb)
                        (try clear hb2)
                        (try clear hk)
                        (try clear hi)
                        refine hK.out _ _ ⟨(blk_cell BK108.out 0).trans rfl, (blk_cell BK108.out 1).trans rfl, (blk_cell BK108.out 2).trans rfl, (blk_cell BK108.out 3).trans rfl, (blk_cell BK116.out 0).trans rfl, (blk_cell BK116.out 1).trans rfl, (blk_cell BK116.out 2).trans rfl, (blk_cell BK116.out 3).trans rfl, (blk_cell BK136.out 0).trans rfl, (blk_cell BK136.out 1).trans rfl, (blk_cell BK136.out 2).trans rfl, (blk_cell BK136.out 3).trans rfl⟩ (fun hHeld => ?_)
                        clear hK K
                        refine norm_ (a' := ?_) ?_ ?_
                        rotate_left
                        · show Act.put _ (some 109) _ = _
                          simp only [Act.put, List.setIfInBounds_toArray, List.set_cons_zero, List.set_cons_succ, i64_w, i32_w]
                          rfl
                        refine pure_ (i := 27) (N := some 110) (v := _) (a' := _) laws_FnLineAck.q25 rfl rfl (any_of HT_.out (by kernel_rfl)) (fun _ _ _ h => h) (Or.inl ⟨by rfl, by intro w'; go_simp; with_reducible rfl⟩) z2_18 ?_
                        refine pure_ (i := 28) (N := some 111) (v := _) (a' := _) laws_FnLineAck.q26 rfl rfl (any_of HT_.out (by kernel_rfl)) (fun _ _ _ h => h) (Or.inl ⟨by rfl, by intro w'; go_simp; with_reducible rfl⟩) z2_18 ?_
                        refine take_ (i := 29) (N := some 112) (v := _) (a' := _) laws_FnLineAck.q27 rfl rfl (take_ofW HT_.out HW_.out (by kernel_rfl)) (fun _ _ _ h => h) (Or.inl ⟨by rfl, by rintro w' ⟨s0, s1, s2, s3, s4, s5, s6, s7, s8, s9, s10, s11⟩; go_simp; with_reducible rfl⟩) hHeld z2_18 ?_
                        refine take_ (i := 31) (N := some 114) (v := _) (a' := _) laws_FnLineAck.q28 rfl rfl (take_ofW HT_.out HW_.out (by kernel_rfl)) (fun _ _ _ h => h) (Or.inl ⟨by rfl, by rintro w' ⟨s0, s1, s2, s3, s4, s5, s6, s7, s8, s9, s10, s11⟩; go_simp; with_reducible rfl⟩) hHeld z2_18 ?_
                        refine one_ (i := 30) (N := some 113) #[true, true, true, true, true, true, true, true, true, true, true, true, true, true, true, true, true, true, true, true, true, true, true, true, true, true, true, true, true, true, true, true, false, false, false, false, false, false, false, false, false, false, false] rfl rfl (one_of HT_.out (by kernel_rfl)) (by decide) (fun K hK => ?_)
                        refine goes_ Try.func20 (by kernel_rfl) rfl #[.agg #[.int .i64 t109, .slice Ao15 t110.length co15, .int .i64 t113, .bool t114]] (by rfl) rfl rfl z2_9 ?_
                        with_reducible refine (impl_LineSent.calls t109 _ _ t110 t113 t114 t143 _ ?side1 ?side2 A93.out).mono ?_
                        (case side1 => repeat (first | exact (Kd.Q_reads' HO_117001.out).2.2 | (with_reducible refine Kd.C_alloc ?_ _) | (with_reducible refine Kd.C_drewN ?_ _) | (with_reducible refine Kd.C_drew ?_)))
                        (case side2 => exact (Kd.Q_reads' HO_117001.out).2.1)
                        rintro e w112 ⟨rfl, hb⟩
                        refine ⟨_, rfl, ?_⟩
                        have n0_ := Aside0.mk (Kd.Q_below z2_15 hb)
                        have n1_ := Aside0.mk (Kd.Q_below z2_16 hb)
                        have n2_ := Aside0.mk (Kd.Q_below z2_17 hb)
                        have n3_ := Aside0.mk (Kd.Q_below z2_20 hb)
                        have n4_ := Aside0.mk (blk_below (g := gb108) (o := .cells #[.int .i64 t101, .slice Ao10 t102.length co10, .int .i64 t105, .bool t106] 42 (0, 0)) z2_11 hb)
                        have n5_ := Aside0.mk (blk_below (g := gb116) (o := .cells #[.int .i64 t109, .slice Ao15 t110.length co15, .int .i64 t113, .bool t114] 42 (0, 0)) z2_12 hb)
                        have n6_ := Aside0.mk (blk_below (g := gb124) (o := .cells #[.int .i64 t117, .slice Ao22 t118.length co22, .int .i64 t121, .bool t122] 42 (0, 0)) z2_13 hb)
                        have n7_ := Aside0.mk (blk_below (g := gb136) (o := .cells #[.int .i64 t129, .slice Ao107 t130.length co107, .int .i64 t133, .bool t134] 42 (0, 0)) z2_14 hb)
                        have n8_ := Aside0.mk (Kd.C_below z2_7 hb)
                        have n9_ := Aside0.mk (below_step z2_4 hb)
                        clear HO_109001
                        clear HO_117001
                        clear HO_125001
                        clear HO132
                        clear BK108
                        clear BK116
                        clear BK124
                        clear BK136
                        clear HR140
                        clear HB
                        have HO_109001 := n0_
                        have HO_117001 := n1_
                        have HO_125001 := n2_
                        have HO132 := n3_
                        have BK108 := n4_
                        have BK116 := n5_
                        have BK124 := n6_
                        have BK136 := n7_
                        have HR140 := n8_
                        have HB := n9_
                        clear n0_ n1_ n2_ n3_ n4_ n5_ n6_ n7_ n8_ n9_
                        (try clear hb)
                        (try clear hb2)
                        (try clear hk)
                        (try clear hi)
                        refine hK.out _ _ ⟨(blk_cell BK108.out 0).trans rfl, (blk_cell BK108.out 1).trans rfl, (blk_cell BK108.out 2).trans rfl, (blk_cell BK108.out 3).trans rfl, (blk_cell BK116.out 0).trans rfl, (blk_cell BK116.out 1).trans rfl, (blk_cell BK116.out 2).trans rfl, (blk_cell BK116.out 3).trans rfl, (blk_cell BK136.out 0).trans rfl, (blk_cell BK136.out 1).trans rfl, (blk_cell BK136.out 2).trans rfl, (blk_cell BK136.out 3).trans rfl⟩ (fun hHeld => ?_)
                        clear hK K
                        refine norm_ (a' := ?_) ?_ ?_
                        rotate_left
                        · show Act.put _ (some 113) _ = _
                          simp only [Act.put, List.setIfInBounds_toArray, List.set_cons_zero, List.set_cons_succ, i64_w, i32_w]
                          rfl
                        refine one_ (i := 32) (N := some 115) #[true, true, true, true, true, true, true, true, true, true, true, true, true, true, true, true, true, true, true, true, true, true, true, true, true, true, true, true, true, true, true, true, true, false, false, false, false, false, false, false, false, false, false] rfl rfl (one_of HT_.out (by kernel_rfl)) (by decide) (fun K hK => ?_)
                        refine goes_ Try.func20 (by kernel_rfl) rfl #[.agg #[.int .i64 t101, .slice Ao10 t102.length co10, .int .i64 t105, .bool t106]] (by rfl) rfl rfl z2_9 ?_
                        with_reducible refine (impl_LineSent.calls t101 _ _ t102 t105 t106 t144 _ ?side1 ?side2 A94.out).mono ?_
                        (case side1 => repeat (first | exact (Kd.Q_reads' HO_109001.out).2.2 | (with_reducible refine Kd.C_alloc ?_ _) | (with_reducible refine Kd.C_drewN ?_ _) | (with_reducible refine Kd.C_drew ?_)))
                        (case side2 => exact (Kd.Q_reads' HO_109001.out).2.1)
                        rintro e w113 ⟨rfl, hb⟩
                        refine ⟨_, rfl, ?_⟩
                        have n0_ := Aside0.mk (Kd.Q_below z2_15 hb)
                        have n1_ := Aside0.mk (Kd.Q_below z2_16 hb)
                        have n2_ := Aside0.mk (Kd.Q_below z2_17 hb)
                        have n3_ := Aside0.mk (Kd.Q_below z2_20 hb)
                        have n4_ := Aside0.mk (blk_below (g := gb108) (o := .cells #[.int .i64 t101, .slice Ao10 t102.length co10, .int .i64 t105, .bool t106] 42 (0, 0)) z2_11 hb)
                        have n5_ := Aside0.mk (blk_below (g := gb116) (o := .cells #[.int .i64 t109, .slice Ao15 t110.length co15, .int .i64 t113, .bool t114] 42 (0, 0)) z2_12 hb)
                        have n6_ := Aside0.mk (blk_below (g := gb124) (o := .cells #[.int .i64 t117, .slice Ao22 t118.length co22, .int .i64 t121, .bool t122] 42 (0, 0)) z2_13 hb)
                        have n7_ := Aside0.mk (blk_below (g := gb136) (o := .cells #[.int .i64 t129, .slice Ao107 t130.length co107, .int .i64 t133, .bool t134] 42 (0, 0)) z2_14 hb)
                        have n8_ := Aside0.mk (Kd.C_below z2_7 hb)
                        have n9_ := Aside0.mk (below_step z2_4 hb)
                        clear HO_109001
                        clear HO_117001
                        clear HO_125001
                        clear HO132
                        clear BK108
                        clear BK116
                        clear BK124
                        clear BK136
                        clear HR140
                        clear HB
                        have HO_109001 := n0_
                        have HO_117001 := n1_
                        have HO_125001 := n2_
                        have HO132 := n3_
                        have BK108 := n4_
                        have BK116 := n5_
                        have BK124 := n6_
                        have BK136 := n7_
                        have HR140 := n8_
                        have HB := n9_
                        clear n0_ n1_ n2_ n3_ n4_ n5_ n6_ n7_ n8_ n9_
                        (try clear hb)
                        (try clear hb2)
                        (try clear hk)
                        (try clear hi)
                        refine hK.out _ _ ⟨(blk_cell BK108.out 0).trans rfl, (blk_cell BK108.out 1).trans rfl, (blk_cell BK108.out 2).trans rfl, (blk_cell BK108.out 3).trans rfl, (blk_cell BK116.out 0).trans rfl, (blk_cell BK116.out 1).trans rfl, (blk_cell BK116.out 2).trans rfl, (blk_cell BK116.out 3).trans rfl, (blk_cell BK136.out 0).trans rfl, (blk_cell BK136.out 1).trans rfl, (blk_cell BK136.out 2).trans rfl, (blk_cell BK136.out 3).trans rfl⟩ (fun hHeld => ?_)
                        clear hK K
                        refine norm_ (a' := ?_) ?_ ?_
                        rotate_left
                        · show Act.put _ (some 115) _ = _
                          simp only [Act.put, List.setIfInBounds_toArray, List.set_cons_zero, List.set_cons_succ, i64_w, i32_w]
                          rfl
                        refine pure_ (i := 33) (N := some 116) (v := _) (a' := _) laws_FnLineAck.q29 rfl rfl (any_of HT_.out (by kernel_rfl)) (fun _ _ _ h => h) (Or.inl ⟨by rfl, by intro w'; go_simp; with_reducible rfl⟩) z2_18 ?_
                        refine pure_ (i := 34) (N := some 117) (v := _) (a' := _) laws_FnLineAck.q30 rfl rfl (any_of HT_.out (by kernel_rfl)) (fun _ _ _ h => h) (Or.inl ⟨by rfl, by intro w'; go_simp; with_reducible rfl⟩) z2_18 ?_
                        refine pure_ (i := 35) (N := some 118) (v := _) (a' := _) laws_FnLineAck.q31 rfl rfl (any_of HT_.out (by kernel_rfl)) (fun _ _ _ h => h) (Or.inl ⟨by rfl, by intro w'; go_simp; with_reducible rfl⟩) z2_18 ?_
                        refine pure_ (i := 36) (N := some 119) (v := _) (a' := _) laws_FnLineAck.q32 rfl rfl (any_of HT_.out (by kernel_rfl)) (fun _ _ _ h => h) (Or.inl ⟨by rfl, by intro w'; go_simp; with_reducible rfl⟩) z2_18 ?_
                        refine pure_ (i := 38) (N := some 121) (v := _) (a' := _) laws_FnLineAck.q33 rfl rfl (any_of HT_.out (by kernel_rfl)) (fun _ _ _ h => h) (Or.inl ⟨by rfl, by intro w'; go_simp; with_reducible rfl⟩) z2_18 ?_
                        refine take_ (i := 37) (N := some 120) (v := _) (a' := _) laws_FnLineAck.q34 rfl rfl (take_ofW HT_.out HW_.out (by kernel_rfl)) (fun _ _ _ h => h) (Or.inl ⟨by rfl, by rintro w' ⟨s0, s1, s2, s3, s4, s5, s6, s7, s8, s9, s10, s11⟩; go_simp; with_reducible rfl⟩) hHeld z2_18 ?_
                        refine take_ (i := 39) (N := some 122) (v := _) (a' := _) laws_FnLineAck.q35 rfl rfl (take_ofW HT_.out HW_.out (by kernel_rfl)) (fun _ _ _ h => h) (Or.inl ⟨by rfl, by rintro w' ⟨s0, s1, s2, s3, s4, s5, s6, s7, s8, s9, s10, s11⟩; go_simp; with_reducible rfl⟩) hHeld z2_18 ?_
                        refine pure_ (i := 40) (N := some 123) (v := _) (a' := _) laws_FnLineAck.q36 rfl rfl (any_of HT_.out (by kernel_rfl)) (fun _ _ _ h => h) (Or.inl ⟨by rfl, by intro w'; go_simp; with_reducible rfl⟩) z2_18 ?_
                        refine pure_ (i := 41) (N := some 124) (v := _) (a' := _) laws_FnLineAck.q37 rfl rfl (any_of HT_.out (by kernel_rfl)) (fun _ _ _ h => h) (Or.inl ⟨by rfl, by intro w'; go_simp; with_reducible rfl⟩) z2_18 ?_
                        refine pure_ (i := 42) (N := some 2) (v := _) (a' := _) laws_FnLineAck.q38 rfl rfl (any_of HT_.out (by kernel_rfl)) (fun _ _ _ h => h) (Or.inl ⟨by rfl, by intro w'; go_simp; with_reducible rfl⟩) z2_18 ?_
                        refine done_ (done_of HT_.out (by kernel_rfl)) ?_
                        try go_wp2
                        go_ret
                        exact ⟨by first | rfl | (simp [errW_none, errW_some] <;> rfl) | (simp only [← hji84]; first | rfl | (simp [errW_none, errW_some] <;> rfl)) | (simp [*, errW_none, errW_some] <;> rfl), by repeat (first | (with_reducible first | exact HB.out | apply below_alloc | apply pw_below_drewN | apply below_drew1 | refine below_set ?_ GE108.out | refine below_set ?_ GE116.out | refine below_set ?_ GE124.out | refine below_set ?_ GE136.out) | exact HB.out)⟩
                      · rw [if_neg c95] at H
                        have c95b0 : (t143 == t144) = false := beq_eq_false_iff_ne.mpr c95
                        have c95b1 : (t143 != t144) = true := bne_iff_ne.mpr c95
                        obtain rfl := Option.some.inj H
                        cases ht
                    · replace c92 := Bool.eq_false_iff.mpr c92
                      subst c92
                      have H1 : (some false) = some r := by rw [if_neg (show ¬ (false = true) by decide)] at H; exact H
                      clear H
                      have H := H1
                      clear H1
                      obtain rfl := Option.some.inj H
                      cases ht
                  · replace c90 := Bool.eq_false_iff.mpr c90
                    subst c90
                    have H1 : (some false) = some r := by rw [if_neg (show ¬ (false = true) by decide)] at H; exact H
                    clear H
                    have H := H1
                    clear H1
                    obtain rfl := Option.some.inj H
                    cases ht
                · rw [if_neg c89] at H
                  have c89b0 : (t109 == t107) = false := beq_eq_false_iff_ne.mpr c89
                  have c89b1 : (t109 != t107) = true := bne_iff_ne.mpr c89
                  obtain rfl := Option.some.inj H
                  cases ht
              · replace c88 := Bool.eq_false_iff.mpr c88
                subst c88
                have H1 : (some false) = some r := by rw [if_neg (show ¬ (false = true) by decide)] at H; exact H
                clear H
                have H := H1
                clear H1
                obtain rfl := Option.some.inj H
                cases ht
            · rw [if_neg c85] at H
              exact absurd H (by simp)
          · rw [if_neg c83] at H
            have c83b0 : decide ((Int.tmod (wrap64 ((wrap64 (t107 - t101)) + 256)) 256) ≤ (t102.length : Int)) = false := decide_eq_false c83
            clear c83
            obtain rfl := Option.some.inj H
            cases ht

def laws_FnLineAck.Pure : Prop := ∀ (l0 : List Int), l0.length ≤ maxLen → l0.length * 1 ≤ 140737488351232 → (∀ x ∈ l0, (Lit.int .u8 x).wf = true) → ∃ k, laws_FnLineAck.f k l0 = some true
theorem laws_FnLineAck.walk (P : laws_FnLineAck.Pure) (a0 : Option Addr) (len0 cap0 : Nat) (z0 : List Int) (w : World) (w0 : (a0 = none ∧ len0 = 0 ∧ cap0 = 0 ∧ z0 = []) ∨ ∃ x, a0 = some x ∧ len0 ≤ cap0 ∧ cap0 ≤ maxLen ∧ z0.length = cap0 ∧ (∀ i, i < z0.length → w.cell? (x.add i) = some (.int .u8 (z0.getD i 0))) ∧ ∀ n ∈ z0, (Lit.int .u8 n).wf = true) (y0 : len0 * 1 ≤ 140737488351232) :
    Calls Try.prog 4 #[.slice a0 len0 cap0] w fun e w' => e = .returned (.bool true) ∧ Below w.heap.size w w' := by
  obtain ⟨l0, rfl, hr0, hm0, hw0, hc0⟩ := ReadsInt.ofRowC w0
  obtain ⟨k, h⟩ := P l0 hm0 y0 hw0
  refine (laws_FnLineAck.calls k _ _ l0 true w (Kd.C_of_reads (d := (0 : Int)) (h1 := fun _ => rfl) hr0) hc0 h rfl).mono ?_
  rintro e w' ⟨rfl, hd⟩
  exact ⟨rfl, hd⟩

end Go.Proofs.Ytlocmcdobjdkkaa.PAll
