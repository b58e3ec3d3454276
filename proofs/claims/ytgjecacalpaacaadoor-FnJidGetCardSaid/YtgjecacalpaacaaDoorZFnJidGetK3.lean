-- laid by xprint.py and pack.py, programs of this session's; Lean checks it
import Derived.Test.YtgjecacalpaacaaDoorZFnJidGetK0
import Derived.Test.YtgjecacalpaacaaDoorZFnJidGetK2
import Derived.Test.YtgjecacalpaacaaDoorZFnJidGetK1
namespace Go.Proofs.YtgjecacalpaacaaDoor.PAll
open Go.RowKit Go.Proofs.YtgjecacalpaacaaDoorW.XWords Go.Proofs.YtgjecacalpaacaaDoorW.PrintWords Go.Proofs.YtgjecacalpaacaaDoorW.PrintLast Go.Proofs.YtgjecacalpaacaaDoorW.PrintMore
theorem z3_10 {p : Prop} (h : p := by first | rfl | (simp; done) | (simp [*]; done)) : p := h
theorem z3_9 {p : Prop} (h : p := by first | (with_reducible assumption) | assumption) : p := h
theorem z3_8 {p : Prop} (h : p := by (with_reducible repeat (first | refine blk_drewN ?_ _ | refine blk_drew ?_ | refine blk_alloc ?_ _)); exact BK101.out) : p := h
theorem z3_7 {p : Prop} (h : p := by (with_reducible repeat (first | refine blk_drewN ?_ _ | refine blk_drew ?_ | refine blk_alloc ?_ _)); exact BK111.out) : p := h
theorem z3_6 {p : Prop} (h : p := by (with_reducible repeat (first | refine blk_drewN ?_ _ | refine blk_drew ?_ | refine blk_alloc ?_ _)); exact BK106.out) : p := h
theorem z3_5 {p : Prop} (h : p := by repeat (first | (with_reducible first | exact HB.out | apply below_alloc | apply pw_below_drewN | apply below_drew1) | exact HB.out)) : p := h
theorem z3_4 {p : Prop} (h : p := by (try simp only [List.map_toArray, List.map_cons, List.map_nil]); first | done | rfl | (simp only [List.length_drop, List.length_take]; rfl)) : p := h
theorem z3_3 {p : Prop} (h : p := by repeat (first | (with_reducible first | exact HI103.out | apply IsS101.alloc | apply IsS101.drewN | apply IsS101.drew | apply IsS101.set_1) | exact HI103.out)) : p := h
theorem z3_2 {p : Prop} (h : p := by repeat (first | (with_reducible first | exact HB.out | apply below_alloc | apply pw_below_drewN | apply below_drew1 | refine below_set ?_ GE106.out) | exact HB.out)) : p := h
theorem z3_1 {p : Prop} (h : p := by repeat (first | (with_reducible first | exact HB.out | apply below_alloc | apply pw_below_drewN | apply below_drew1 | refine below_set ?_ (IsS101.ge HI103.out)) | exact HB.out)) : p := h
theorem z3_0 {p : Prop} (h : p := by repeat (first | (with_reducible first | exact HB.out | apply below_alloc | apply pw_below_drewN | apply below_drew1 | refine below_set ?_ GE106.out | refine below_set ?_ GE111.out) | exact HB.out)) : p := h
end Go.Proofs.YtgjecacalpaacaaDoor.PAll
namespace Go.Proofs.YtgjecacalpaacaaDoor.PAll
open Go.RowKit Go.Proofs.YtgjecacalpaacaaDoorW.XWords Go.Proofs.YtgjecacalpaacaaDoorW.PrintWords Go.Proofs.YtgjecacalpaacaaDoorW.PrintLast Go.Proofs.YtgjecacalpaacaaDoorW.PrintMore
attribute [local go_sem] isSome_setCell max2_int min2_int max_two min_two max_three min_three max_four min_four   -- for this text's walks alone
set_option linter.unusedVariables false
set_option linter.unusedSimpArgs false

def spec_DrawJidGet.f (k : Nat) (l0 : List Int) : Option (ByteArray) := (spec_l16Open.f l0).bind fun bt101 => ((spec_l16Rd_pick.f k bt101.1 bt101.2 4).bind fun bt104 => (if bt104.1 = 0 then ((spec_l16Rd_of.f k bt101.1 bt104.2 (([(⟨#[]⟩ : ByteArray), (⟨#[64, 104]⟩ : ByteArray), (⟨#[97, 64]⟩ : ByteArray), (⟨#[104, 47]⟩ : ByteArray), (⟨#[97, 64, 98, 64, 99]⟩ : ByteArray), (⟨#[65, 78, 78, 64, 82, 111, 111, 109, 115, 46, 76, 111, 99, 97, 108, 47, 66, 111]⟩ : ByteArray), (⟨#[104, 47, 97, 47, 98]⟩ : ByteArray), (⟨#[97, 64, 104, 47, 32, 120]⟩ : ByteArray), (⟨#[68, 101, 110, 64, 82, 79, 79, 77, 83, 46, 108, 111, 99, 97, 108]⟩ : ByteArray)] : List ByteArray))).bind fun bt109 => (some bt109.1)) else (if bt104.1 = 1 then ((spec_l16Jid.f k bt101.1 bt104.2).bind fun bt111 => ((spec_JidPut.f k bt111.1 bt111.2.1 bt111.2.2.1).bind fun t115 => ((spec_l16Bent.f k bt101.1 bt111.2.2.2 t115).bind fun bt116 => (some bt116.1)))) else ((spec_l16Jid.f k bt101.1 bt104.2).bind fun bt118 => ((spec_JidPut.f k bt118.1 bt118.2.1 bt118.2.2.1).bind fun t122 => (some t122))))))
theorem spec_DrawJidGet.mono : ∀ a0 k, LeO (spec_DrawJidGet.f k a0) (spec_DrawJidGet.f (k + 1) a0) := by
  intro a0 k
  unfold spec_DrawJidGet.f
  repeat' first
      | (with_reducible exact spec_JidPut.mono _ _ _ _)
      | (with_reducible exact spec_l16Bent.mono _ _ _ _)
      | (with_reducible exact spec_l16Jid.mono _ _ _)
      | (with_reducible exact spec_l16Rd_of.mono _ _ _ _)
      | (with_reducible exact spec_l16Rd_pick.mono _ _ _ _)
      | (with_reducible exact LeO.refl _)
      | (with_reducible exact LeO.none _)
      | (with_reducible refine LeO.ite ?_ ?_)
      | (with_reducible refine LeO.bind ?_ (fun _ => ?_))
      | exact spec_JidPut.mono _ _ _ _
      | exact spec_l16Bent.mono _ _ _ _
      | exact spec_l16Jid.mono _ _ _
      | exact spec_l16Rd_of.mono _ _ _ _
      | exact spec_l16Rd_pick.mono _ _ _ _
      | exact LeO.none _
      | refine LeO.ite ?_ ?_
      | refine LeO.bind ?_ (fun _ => ?_)
set_option maxHeartbeats 8000000 in
set_option maxRecDepth 100000 in
theorem spec_DrawJidGet.calls (k : Nat) (A0 : Option Addr) (c0 : Nat) (l0 : List Int) (r : ByteArray) (w : World) (hr0 : Kd.C (Kd.int .u8) w A0 l0.length l0) (hc0 : l0.length ≤ c0) (h : spec_DrawJidGet.f k l0 = some r) :
    Calls Tryd.prog 28 #[.slice A0 l0.length c0] w fun e w' => e = .returned (.string r) ∧ Below w.heap.size w w' := by
  have HR0 := Aside0.mk hr0
  have HC0 := Aside0.mk hc0
  clear hr0 hc0
  have HB := Aside0.mk (Below.refl w.heap.size w)
  have H : ((spec_l16Open.f l0).bind fun bt101 => ((spec_l16Rd_pick.f k bt101.1 bt101.2 4).bind fun bt104 => (if bt104.1 = 0 then ((spec_l16Rd_of.f k bt101.1 bt104.2 (([(⟨#[]⟩ : ByteArray), (⟨#[64, 104]⟩ : ByteArray), (⟨#[97, 64]⟩ : ByteArray), (⟨#[104, 47]⟩ : ByteArray), (⟨#[97, 64, 98, 64, 99]⟩ : ByteArray), (⟨#[65, 78, 78, 64, 82, 111, 111, 109, 115, 46, 76, 111, 99, 97, 108, 47, 66, 111]⟩ : ByteArray), (⟨#[104, 47, 97, 47, 98]⟩ : ByteArray), (⟨#[97, 64, 104, 47, 32, 120]⟩ : ByteArray), (⟨#[68, 101, 110, 64, 82, 79, 79, 77, 83, 46, 108, 111, 99, 97, 108]⟩ : ByteArray)] : List ByteArray))).bind fun bt109 => (some bt109.1)) else (if bt104.1 = 1 then ((spec_l16Jid.f k bt101.1 bt104.2).bind fun bt111 => ((spec_JidPut.f k bt111.1 bt111.2.1 bt111.2.2.1).bind fun t115 => ((spec_l16Bent.f k bt101.1 bt111.2.2.2 t115).bind fun bt116 => (some bt116.1)))) else ((spec_l16Jid.f k bt101.1 bt104.2).bind fun bt118 => ((spec_JidPut.f k bt118.1 bt118.2.1 bt118.2.2.1).bind fun t122 => (some t122))))))) = some r := h
  clear h
  replace H := Option.bind_eq_some_iff.mp H
  obtain ⟨⟨t101, t102⟩, A20, H⟩ := H
  replace H : ((spec_l16Rd_pick.f k t101 t102 4).bind fun bt104 => (if bt104.1 = 0 then ((spec_l16Rd_of.f k t101 bt104.2 (([(⟨#[]⟩ : ByteArray), (⟨#[64, 104]⟩ : ByteArray), (⟨#[97, 64]⟩ : ByteArray), (⟨#[104, 47]⟩ : ByteArray), (⟨#[97, 64, 98, 64, 99]⟩ : ByteArray), (⟨#[65, 78, 78, 64, 82, 111, 111, 109, 115, 46, 76, 111, 99, 97, 108, 47, 66, 111]⟩ : ByteArray), (⟨#[104, 47, 97, 47, 98]⟩ : ByteArray), (⟨#[97, 64, 104, 47, 32, 120]⟩ : ByteArray), (⟨#[68, 101, 110, 64, 82, 79, 79, 77, 83, 46, 108, 111, 99, 97, 108]⟩ : ByteArray)] : List ByteArray))).bind fun bt109 => (some bt109.1)) else (if bt104.1 = 1 then ((spec_l16Jid.f k t101 bt104.2).bind fun bt111 => ((spec_JidPut.f k bt111.1 bt111.2.1 bt111.2.2.1).bind fun t115 => ((spec_l16Bent.f k t101 bt111.2.2.2 t115).bind fun bt116 => (some bt116.1)))) else ((spec_l16Jid.f k t101 bt104.2).bind fun bt118 => ((spec_JidPut.f k bt118.1 bt118.2.1 bt118.2.2.1).bind fun t122 => (some t122)))))) = some r := H
  have A2 := Aside0.mk A20
  clear A20
  replace H := Option.bind_eq_some_iff.mp H
  obtain ⟨⟨t104, t105⟩, A30, H⟩ := H
  replace H : (if t104 = 0 then ((spec_l16Rd_of.f k t101 t105 (([(⟨#[]⟩ : ByteArray), (⟨#[64, 104]⟩ : ByteArray), (⟨#[97, 64]⟩ : ByteArray), (⟨#[104, 47]⟩ : ByteArray), (⟨#[97, 64, 98, 64, 99]⟩ : ByteArray), (⟨#[65, 78, 78, 64, 82, 111, 111, 109, 115, 46, 76, 111, 99, 97, 108, 47, 66, 111]⟩ : ByteArray), (⟨#[104, 47, 97, 47, 98]⟩ : ByteArray), (⟨#[97, 64, 104, 47, 32, 120]⟩ : ByteArray), (⟨#[68, 101, 110, 64, 82, 79, 79, 77, 83, 46, 108, 111, 99, 97, 108]⟩ : ByteArray)] : List ByteArray))).bind fun bt109 => (some bt109.1)) else (if t104 = 1 then ((spec_l16Jid.f k t101 t105).bind fun bt111 => ((spec_JidPut.f k bt111.1 bt111.2.1 bt111.2.2.1).bind fun t115 => ((spec_l16Bent.f k t101 bt111.2.2.2 t115).bind fun bt116 => (some bt116.1)))) else ((spec_l16Jid.f k t101 t105).bind fun bt118 => ((spec_JidPut.f k bt118.1 bt118.2.1 bt118.2.2.1).bind fun t122 => (some t122))))) = some r := H
  have A3 := Aside0.mk A30
  clear A30
  by_cases c4 : t104 = 0
  · rw [if_pos c4] at H
    have c4b0 : (t104 == 0) = true := beq_iff_eq.mpr c4
    have c4b1 : (t104 != 0) = false := bne_eq_false_iff_eq.mpr c4
    clear c4
    obtain ⟨y106, hy106⟩ : ∃ y_ : List ByteArray, y_ = (([(⟨#[]⟩ : ByteArray), (⟨#[64, 104]⟩ : ByteArray), (⟨#[97, 64]⟩ : ByteArray), (⟨#[104, 47]⟩ : ByteArray), (⟨#[97, 64, 98, 64, 99]⟩ : ByteArray), (⟨#[65, 78, 78, 64, 82, 111, 111, 109, 115, 46, 76, 111, 99, 97, 108, 47, 66, 111]⟩ : ByteArray), (⟨#[104, 47, 97, 47, 98]⟩ : ByteArray), (⟨#[97, 64, 104, 47, 32, 120]⟩ : ByteArray), (⟨#[68, 101, 110, 64, 82, 79, 79, 77, 83, 46, 108, 111, 99, 97, 108]⟩ : ByteArray)] : List ByteArray)) := ⟨_, rfl⟩
    replace H : ((spec_l16Rd_of.f k t101 t105 y106).bind fun bt109 => (some bt109.1)) = some r := by first | (rw [hy106]; with_reducible exact H) | (have H2_ := (Option.bind_some _ _).symm.trans H; rw [hy106]; with_reducible exact H2_) | (have H2_ := (Option.bind_some _ _).symm.trans H; with_reducible exact H2_) | with_reducible exact H | (rw [hy106]; exact H) | exact H
    have Ny106 := Aside0.mk hy106
    clear hy106
    replace H := Option.bind_eq_some_iff.mp H
    obtain ⟨⟨t109, t110⟩, A50, H⟩ := H
    replace H : (some t109) = some r := H
    have A5 := Aside0.mk A50
    clear A50
    obtain rfl := Option.some.inj H
    go_enter Tryd.func28, Tryd.ntmps28
    go_wp2_with (first | ((with_reducible refine gate_callee (f := 45) rfl ?_); refine goesL_ (some 5) rfl rfl Tryd.func45 (by kernel_rfl) rfl #[.slice A0 l0.length c0] rfl z3_4 ?_; (with_reducible refine (spec_l16Open.calls _ _ l0 t101 t102 w _ ?side1 ?side2 ?side3 A2.out).mono ?_); (case side1 => repeat (first | (with_reducible first | exact HB.out | apply below_alloc | apply pw_below_drewN | apply below_drew1) | exact HB.out)); (case side2 => exact HR0.out); (case side3 => exact HC0.out); rintro e w6 ⟨g103, rfl, hi, hb, hb2⟩; refine ⟨_, rfl, ?_⟩; have n0_ := Aside0.mk (hb); have n1_ := Aside0.mk (hi); clear HB; have HB := n0_; have HI103 := n1_; clear n0_ n1_; (try clear hb); (try clear hb2); (try clear hk); (try clear hi)) | ((with_reducible refine gate_callee (f := 56) rfl ?_); refine goesL_ (some 7) rfl rfl Tryd.func56 (by kernel_rfl) rfl #[.pointer (some ⟨g103, 0, none⟩), .int .i64 4] rfl z3_4 ?_; (with_reducible refine (spec_l16Rd_pick.calls k g103 t101 t102 4 t104 t105 w _ ?side1 ?side2 A3.out).mono ?_); (case side1 => repeat (first | (with_reducible first | exact HI103.out | apply IsS101.alloc | apply IsS101.drewN | apply IsS101.drew | apply IsS101.set_1) | exact HI103.out)); (case side2 => repeat (first | (with_reducible first | exact HB.out | apply below_alloc | apply pw_below_drewN | apply below_drew1 | refine below_set ?_ (IsS101.ge HI103.out)) | exact HB.out)); rintro e w7 ⟨rfl, hi, hb, hk⟩; refine ⟨_, rfl, ?_⟩; have n0_ := Aside0.mk (hb); have n1_ := Aside0.mk (hi); clear HB; clear HI103; have HB := n0_; have HI103 := n1_; clear n0_ n1_; (try clear hb); (try clear hb2); (try clear hk); (try clear hi)) | ((with_reducible refine gate_dst (N := 11) rfl ?_); refine Kd.R_lit Kd.string _ 9 ?hg (N := 11) ?hd (xs := ([(⟨#[]⟩ : ByteArray), (⟨#[64, 104]⟩ : ByteArray), (⟨#[97, 64]⟩ : ByteArray), (⟨#[104, 47]⟩ : ByteArray), (⟨#[97, 64, 98, 64, 99]⟩ : ByteArray), (⟨#[65, 78, 78, 64, 82, 111, 111, 109, 115, 46, 76, 111, 99, 97, 108, 47, 66, 111]⟩ : ByteArray), (⟨#[104, 47, 97, 47, 98]⟩ : ByteArray), (⟨#[97, 64, 104, 47, 32, 120]⟩ : ByteArray), (⟨#[68, 101, 110, 64, 82, 79, 79, 77, 83, 46, 108, 111, 99, 97, 108]⟩ : ByteArray)] : List ByteArray)) (inner := [.string (⟨#[]⟩ : ByteArray), .string (⟨#[64, 104]⟩ : ByteArray), .string (⟨#[97, 64]⟩ : ByteArray), .string (⟨#[104, 47]⟩ : ByteArray), .string (⟨#[97, 64, 98, 64, 99]⟩ : ByteArray), .string (⟨#[65, 78, 78, 64, 82, 111, 111, 109, 115, 46, 76, 111, 99, 97, 108, 47, 66, 111]⟩ : ByteArray), .string (⟨#[104, 47, 97, 47, 98]⟩ : ByteArray), .string (⟨#[97, 64, 104, 47, 32, 120]⟩ : ByteArray), .string (⟨#[68, 101, 110, 64, 82, 79, 79, 77, 83, 46, 108, 111, 99, 97, 108]⟩ : ByteArray)]) (ok := fun _ => True) (okp := fun _ => True) ?hr ?hp (fun _ hk => hk) trivial (Below.refl _ _) (Nat.le_refl _) (by simp) ?_; (case hd => rfl); (case hg => rfl); (case hr => first | (go_simp; done) | (go_simp; rfl)); (case hp => exact (Reps.one (show Kd.M Kd.string _ _ _ (⟨#[]⟩ : ByteArray) [.string (⟨#[]⟩ : ByteArray)] from rfl) (Reps.one (show Kd.M Kd.string _ _ _ (⟨#[64, 104]⟩ : ByteArray) [.string (⟨#[64, 104]⟩ : ByteArray)] from rfl) (Reps.one (show Kd.M Kd.string _ _ _ (⟨#[97, 64]⟩ : ByteArray) [.string (⟨#[97, 64]⟩ : ByteArray)] from rfl) (Reps.one (show Kd.M Kd.string _ _ _ (⟨#[104, 47]⟩ : ByteArray) [.string (⟨#[104, 47]⟩ : ByteArray)] from rfl) (Reps.one (show Kd.M Kd.string _ _ _ (⟨#[97, 64, 98, 64, 99]⟩ : ByteArray) [.string (⟨#[97, 64, 98, 64, 99]⟩ : ByteArray)] from rfl) (Reps.one (show Kd.M Kd.string _ _ _ (⟨#[65, 78, 78, 64, 82, 111, 111, 109, 115, 46, 76, 111, 99, 97, 108, 47, 66, 111]⟩ : ByteArray) [.string (⟨#[65, 78, 78, 64, 82, 111, 111, 109, 115, 46, 76, 111, 99, 97, 108, 47, 66, 111]⟩ : ByteArray)] from rfl) (Reps.one (show Kd.M Kd.string _ _ _ (⟨#[104, 47, 97, 47, 98]⟩ : ByteArray) [.string (⟨#[104, 47, 97, 47, 98]⟩ : ByteArray)] from rfl) (Reps.one (show Kd.M Kd.string _ _ _ (⟨#[97, 64, 104, 47, 32, 120]⟩ : ByteArray) [.string (⟨#[97, 64, 104, 47, 32, 120]⟩ : ByteArray)] from rfl) (Reps.one (show Kd.M Kd.string _ _ _ (⟨#[68, 101, 110, 64, 82, 79, 79, 77, 83, 46, 108, 111, 99, 97, 108]⟩ : ByteArray) [.string (⟨#[68, 101, 110, 64, 82, 79, 79, 77, 83, 46, 108, 111, 99, 97, 108]⟩ : ByteArray)] from rfl) (Reps.none _ _))))))))))); intro v107 w8 ho9 hb hg_ hnew_; clear hg_ hnew_; (first | rw [← Ny106.out] at ho9 | (simp only [Int.reduceToNat] at ho9; rw [← Ny106.out] at ho9)); have n0_ := Aside0.mk (Kd.R_lower ho9 (below_size z3_1)); have n1_ := Aside0.mk (IsS101.below z3_3 hb); have n2_ := Aside0.mk (below_step z3_1 hb); clear HI103; clear HB; have HO108 := n0_; have HI103 := n1_; have HB := n2_; clear n0_ n1_ n2_; clear hb ho9; obtain ⟨Ao10, co10, eo10⟩ := Kd.R_slice HO108.out; subst eo10) | ((with_reducible refine gate_callee (f := 57) rfl ?_); refine goesL_ (some 12) rfl rfl Tryd.func57 (by kernel_rfl) rfl #[.pointer (some ⟨g103, 0, none⟩), .slice Ao10 y106.length co10] rfl z3_4 ?_; (with_reducible refine (spec_l16Rd_of.calls k g103 t101 t105 _ _ y106 t109 t110 w _ ?side1 ?side2 ?side3 ?side4 ?side5 A5.out).mono ?_); (case side1 => repeat (first | (with_reducible first | exact HI103.out | apply IsS101.alloc | apply IsS101.drewN | apply IsS101.drew | apply IsS101.set_1) | exact HI103.out)); (case side2 => repeat (first | (with_reducible first | exact HB.out | apply below_alloc | apply pw_below_drewN | apply below_drew1 | refine below_set ?_ (IsS101.ge HI103.out)) | exact HB.out)); (case side3 => repeat (first | exact (Kd.R_reads' HO108.out).2.2 | (with_reducible refine Kd.C_alloc ?_ _) | (with_reducible refine Kd.C_drewN ?_ _) | (with_reducible refine Kd.C_drew ?_))); (case side4 => exact (Kd.R_reads' HO108.out).2.1); (case side5 => exact far_slice (IsS101.own_ne HI103.out HO108.out (by decide))); rintro e w11 ⟨rfl, hi, hb, hk⟩; refine ⟨_, rfl, ?_⟩; have n0_ := Aside0.mk (Kd.R_mono (Kd.R_keep (IsS101.apart (show IsS101 w _ g103 t101 t105 from by repeat (first | (with_reducible first | exact HI103.out | apply IsS101.alloc | apply IsS101.drewN | apply IsS101.drew | apply IsS101.set_1) | exact HI103.out)) (by (with_reducible repeat (first | apply Kd.R_alloc | apply Kd.R_drewN | apply Kd.R_drew)); exact HO108.out) (by decide)) hk (fun _ h => h.2)) (fun _ h => h.1)); have n1_ := Aside0.mk (hb); have n2_ := Aside0.mk (hi); clear HO108; clear HB; clear HI103; have HO108 := n0_; have HB := n1_; have HI103 := n2_; clear n0_ n1_ n2_; (try clear hb); (try clear hb2); (try clear hk); (try clear hi)))
    go_ret
    exact ⟨by first | rfl | (simp [errW_none, errW_some] <;> rfl) | (simp [*, errW_none, errW_some] <;> rfl), by repeat (first | (with_reducible first | exact HB.out | apply below_alloc | apply pw_below_drewN | apply below_drew1 | refine below_set ?_ (IsS101.ge HI103.out)) | exact HB.out)⟩
  · rw [if_neg c4] at H
    have c4b0 : (t104 == 0) = false := beq_eq_false_iff_ne.mpr c4
    have c4b1 : (t104 != 0) = true := bne_iff_ne.mpr c4
    by_cases c12 : t104 = 1
    · rw [if_pos c12] at H
      have c12b0 : (t104 == 1) = true := beq_iff_eq.mpr c12
      have c12b1 : (t104 != 1) = false := bne_eq_false_iff_eq.mpr c12
      clear c12
      replace H := Option.bind_eq_some_iff.mp H
      obtain ⟨⟨t111, t112, t113, t114⟩, A130, H⟩ := H
      replace H : ((spec_JidPut.f k t111 t112 t113).bind fun t115 => ((spec_l16Bent.f k t101 t114 t115).bind fun bt116 => (some bt116.1))) = some r := H
      have A13 := Aside0.mk A130
      clear A130
      replace H := Option.bind_eq_some_iff.mp H
      obtain ⟨t115, A140, H⟩ := H
      replace H : ((spec_l16Bent.f k t101 t114 t115).bind fun bt116 => (some bt116.1)) = some r := H
      have A14 := Aside0.mk A140
      clear A140
      replace H := Option.bind_eq_some_iff.mp H
      obtain ⟨⟨t116, t117⟩, A150, H⟩ := H
      replace H : (some t116) = some r := H
      have A15 := Aside0.mk A150
      clear A150
      obtain rfl := Option.some.inj H
      go_enter Tryd.func28, Tryd.ntmps28
      go_wp2_with (first | ((with_reducible refine gate_callee (f := 45) rfl ?_); refine goesL_ (some 5) rfl rfl Tryd.func45 (by kernel_rfl) rfl #[.slice A0 l0.length c0] rfl z3_4 ?_; (with_reducible refine (spec_l16Open.calls _ _ l0 t101 t102 w _ ?side1 ?side2 ?side3 A2.out).mono ?_); (case side1 => repeat (first | (with_reducible first | exact HB.out | apply below_alloc | apply pw_below_drewN | apply below_drew1) | exact HB.out)); (case side2 => exact HR0.out); (case side3 => exact HC0.out); rintro e w16 ⟨g103, rfl, hi, hb, hb2⟩; refine ⟨_, rfl, ?_⟩; have n0_ := Aside0.mk (hb); have n1_ := Aside0.mk (hi); clear HB; have HB := n0_; have HI103 := n1_; clear n0_ n1_; (try clear hb); (try clear hb2); (try clear hk); (try clear hi)) | ((with_reducible refine gate_callee (f := 56) rfl ?_); refine goesL_ (some 7) rfl rfl Tryd.func56 (by kernel_rfl) rfl #[.pointer (some ⟨g103, 0, none⟩), .int .i64 4] rfl z3_4 ?_; (with_reducible refine (spec_l16Rd_pick.calls k g103 t101 t102 4 t104 t105 w _ ?side1 ?side2 A3.out).mono ?_); (case side1 => repeat (first | (with_reducible first | exact HI103.out | apply IsS101.alloc | apply IsS101.drewN | apply IsS101.drew | apply IsS101.set_1) | exact HI103.out)); (case side2 => repeat (first | (with_reducible first | exact HB.out | apply below_alloc | apply pw_below_drewN | apply below_drew1 | refine below_set ?_ (IsS101.ge HI103.out)) | exact HB.out)); rintro e w17 ⟨rfl, hi, hb, hk⟩; refine ⟨_, rfl, ?_⟩; have n0_ := Aside0.mk (hb); have n1_ := Aside0.mk (hi); clear HB; clear HI103; have HB := n0_; have HI103 := n1_; clear n0_ n1_; (try clear hb); (try clear hb2); (try clear hk); (try clear hi)) | ((with_reducible refine gate_callee (f := 55) rfl ?_); refine goesL_ (some 17) rfl rfl Tryd.func55 (by kernel_rfl) rfl #[.pointer (some ⟨g103, 0, none⟩)] rfl z3_4 ?_; (with_reducible refine (spec_l16Jid.calls k g103 t101 t105 t111 t112 t113 t114 w _ ?side1 ?side2 A13.out).mono ?_); (case side1 => repeat (first | (with_reducible first | exact HI103.out | apply IsS101.alloc | apply IsS101.drewN | apply IsS101.drew | apply IsS101.set_1) | exact HI103.out)); (case side2 => repeat (first | (with_reducible first | exact HB.out | apply below_alloc | apply pw_below_drewN | apply below_drew1 | refine below_set ?_ (IsS101.ge HI103.out)) | exact HB.out)); rintro e w18 ⟨rfl, hi, hb, hk⟩; refine ⟨_, rfl, ?_⟩; have n0_ := Aside0.mk (hb); have n1_ := Aside0.mk (hi); clear HB; clear HI103; have HB := n0_; have HI103 := n1_; clear n0_ n1_; (try clear hb); (try clear hb2); (try clear hk); (try clear hi)) | ((with_reducible refine gate_callee (f := 21) rfl ?_); refine goesL_ (some 18) rfl rfl Tryd.func21 (by kernel_rfl) rfl #[.agg #[.string t111, .string t112, .string t113]] rfl z3_4 ?_; (with_reducible refine (spec_JidPut.calls k t111 t112 t113 t115 _ A14.out).mono ?_); rintro e w19 ⟨rfl, hb⟩; refine ⟨_, rfl, ?_⟩; have n0_ := Aside0.mk (IsS101.below z3_3 hb); have n1_ := Aside0.mk (below_step z3_1 hb); clear HI103; clear HB; have HI103 := n0_; have HB := n1_; clear n0_ n1_; (try clear hb); (try clear hb2); (try clear hk); (try clear hi)) | ((with_reducible refine gate_callee (f := 58) rfl ?_); refine goesL_ (some 19) rfl rfl Tryd.func58 (by kernel_rfl) rfl #[.pointer (some ⟨g103, 0, none⟩), .string t115] rfl z3_4 ?_; (with_reducible refine (spec_l16Bent.calls k g103 t101 t114 t115 t116 t117 w _ ?side1 ?side2 A15.out).mono ?_); (case side1 => repeat (first | (with_reducible first | exact HI103.out | apply IsS101.alloc | apply IsS101.drewN | apply IsS101.drew | apply IsS101.set_1) | exact HI103.out)); (case side2 => repeat (first | (with_reducible first | exact HB.out | apply below_alloc | apply pw_below_drewN | apply below_drew1 | refine below_set ?_ (IsS101.ge HI103.out)) | exact HB.out)); rintro e w20 ⟨rfl, hi, hb, hk⟩; refine ⟨_, rfl, ?_⟩; have n0_ := Aside0.mk (hb); have n1_ := Aside0.mk (hi); clear HB; clear HI103; have HB := n0_; have HI103 := n1_; clear n0_ n1_; (try clear hb); (try clear hb2); (try clear hk); (try clear hi)))
      go_ret
      exact ⟨by first | rfl | (simp [errW_none, errW_some] <;> rfl) | (simp [*, errW_none, errW_some] <;> rfl), by repeat (first | (with_reducible first | exact HB.out | apply below_alloc | apply pw_below_drewN | apply below_drew1 | refine below_set ?_ (IsS101.ge HI103.out)) | exact HB.out)⟩
    · rw [if_neg c12] at H
      have c12b0 : (t104 == 1) = false := beq_eq_false_iff_ne.mpr c12
      have c12b1 : (t104 != 1) = true := bne_iff_ne.mpr c12
      replace H := Option.bind_eq_some_iff.mp H
      obtain ⟨⟨t118, t119, t120, t121⟩, A210, H⟩ := H
      replace H : ((spec_JidPut.f k t118 t119 t120).bind fun t122 => (some t122)) = some r := H
      have A21 := Aside0.mk A210
      clear A210
      replace H := Option.bind_eq_some_iff.mp H
      obtain ⟨t122, A220, H⟩ := H
      replace H : (some t122) = some r := H
      have A22 := Aside0.mk A220
      clear A220
      obtain rfl := Option.some.inj H
      go_enter Tryd.func28, Tryd.ntmps28
      go_wp2_with (first | ((with_reducible refine gate_callee (f := 45) rfl ?_); refine goesL_ (some 5) rfl rfl Tryd.func45 (by kernel_rfl) rfl #[.slice A0 l0.length c0] rfl z3_4 ?_; (with_reducible refine (spec_l16Open.calls _ _ l0 t101 t102 w _ ?side1 ?side2 ?side3 A2.out).mono ?_); (case side1 => repeat (first | (with_reducible first | exact HB.out | apply below_alloc | apply pw_below_drewN | apply below_drew1) | exact HB.out)); (case side2 => exact HR0.out); (case side3 => exact HC0.out); rintro e w23 ⟨g103, rfl, hi, hb, hb2⟩; refine ⟨_, rfl, ?_⟩; have n0_ := Aside0.mk (hb); have n1_ := Aside0.mk (hi); clear HB; have HB := n0_; have HI103 := n1_; clear n0_ n1_; (try clear hb); (try clear hb2); (try clear hk); (try clear hi)) | ((with_reducible refine gate_callee (f := 56) rfl ?_); refine goesL_ (some 7) rfl rfl Tryd.func56 (by kernel_rfl) rfl #[.pointer (some ⟨g103, 0, none⟩), .int .i64 4] rfl z3_4 ?_; (with_reducible refine (spec_l16Rd_pick.calls k g103 t101 t102 4 t104 t105 w _ ?side1 ?side2 A3.out).mono ?_); (case side1 => repeat (first | (with_reducible first | exact HI103.out | apply IsS101.alloc | apply IsS101.drewN | apply IsS101.drew | apply IsS101.set_1) | exact HI103.out)); (case side2 => repeat (first | (with_reducible first | exact HB.out | apply below_alloc | apply pw_below_drewN | apply below_drew1 | refine below_set ?_ (IsS101.ge HI103.out)) | exact HB.out)); rintro e w24 ⟨rfl, hi, hb, hk⟩; refine ⟨_, rfl, ?_⟩; have n0_ := Aside0.mk (hb); have n1_ := Aside0.mk (hi); clear HB; clear HI103; have HB := n0_; have HI103 := n1_; clear n0_ n1_; (try clear hb); (try clear hb2); (try clear hk); (try clear hi)) | ((with_reducible refine gate_callee (f := 55) rfl ?_); refine goesL_ (some 21) rfl rfl Tryd.func55 (by kernel_rfl) rfl #[.pointer (some ⟨g103, 0, none⟩)] rfl z3_4 ?_; (with_reducible refine (spec_l16Jid.calls k g103 t101 t105 t118 t119 t120 t121 w _ ?side1 ?side2 A21.out).mono ?_); (case side1 => repeat (first | (with_reducible first | exact HI103.out | apply IsS101.alloc | apply IsS101.drewN | apply IsS101.drew | apply IsS101.set_1) | exact HI103.out)); (case side2 => repeat (first | (with_reducible first | exact HB.out | apply below_alloc | apply pw_below_drewN | apply below_drew1 | refine below_set ?_ (IsS101.ge HI103.out)) | exact HB.out)); rintro e w25 ⟨rfl, hi, hb, hk⟩; refine ⟨_, rfl, ?_⟩; have n0_ := Aside0.mk (hb); have n1_ := Aside0.mk (hi); clear HB; clear HI103; have HB := n0_; have HI103 := n1_; clear n0_ n1_; (try clear hb); (try clear hb2); (try clear hk); (try clear hi)) | ((with_reducible refine gate_callee (f := 21) rfl ?_); refine goesL_ (some 22) rfl rfl Tryd.func21 (by kernel_rfl) rfl #[.agg #[.string t118, .string t119, .string t120]] rfl z3_4 ?_; (with_reducible refine (spec_JidPut.calls k t118 t119 t120 t122 _ A22.out).mono ?_); rintro e w26 ⟨rfl, hb⟩; refine ⟨_, rfl, ?_⟩; have n0_ := Aside0.mk (IsS101.below z3_3 hb); have n1_ := Aside0.mk (below_step z3_1 hb); clear HI103; clear HB; have HI103 := n0_; have HB := n1_; clear n0_ n1_; (try clear hb); (try clear hb2); (try clear hk); (try clear hi)))
      go_ret
      exact ⟨by first | rfl | (simp [errW_none, errW_some] <;> rfl) | (simp [*, errW_none, errW_some] <;> rfl), by repeat (first | (with_reducible first | exact HB.out | apply below_alloc | apply pw_below_drewN | apply below_drew1 | refine below_set ?_ (IsS101.ge HI103.out)) | exact HB.out)⟩

end Go.Proofs.YtgjecacalpaacaaDoor.PAll
namespace Go.Proofs.YtgjecacalpaacaaDoor.PAll
open Go.RowKit Go.Proofs.YtgjecacalpaacaaDoorW.XWords Go.Proofs.YtgjecacalpaacaaDoorW.PrintWords Go.Proofs.YtgjecacalpaacaaDoorW.PrintLast Go.Proofs.YtgjecacalpaacaaDoorW.PrintMore
attribute [local go_sem] isSome_setCell max2_int min2_int max_two min_two max_three min_three max_four min_four   -- for this text's walks alone
set_option linter.unusedVariables false
set_option linter.unusedSimpArgs false

attribute [local go_sem high] eqA30
def laws_FnJidGet.j0 : Nat → ByteArray → Bool → Bool → Bool → ByteArray → ByteArray → ByteArray → ByteArray → ByteArray → ByteArray → Option (Bool)
  | 0, _, _, _, _, _, _, _, _, _, _ => none
  | k + 1, x3, x5, x7, x37, x107000, x107001, x107002, x112000, x112001, x112002 => if x37 = true then (if (x5 == x7) = true then (some (x107000.toList == x112000.toList && (x107001.toList == x112001.toList && (x107002.toList == x112002.toList)))) else (some false)) else ((impl_JidPut.f k x107000 x107001 x107002).bind fun t112 => ((impl_JidGet.f k t112).bind fun bt113 => ((impl_JidOk.f k x107000 x107001 x107002).bind fun t118 => (if t118 = true then (if bt113.2.2.2 = true then (if (bt113.1.toList == x107000.toList && (bt113.2.1.toList == x107001.toList && (bt113.2.2.1.toList == x107002.toList))) = true then (some ((t112.size : Int) == (x3.size : Int))) else (some false)) else (some false)) else (some false)))))
def laws_FnJidGet.f (k : Nat) (l0 : List Int) : Option (Bool) := if (l0.length : Int) > 1048576 then (some true) else ((spec_DrawJidGet.f k l0).bind fun t101 => ((impl_JidGet.f k t101).bind fun bt102 => ((spec_JidGet.f k t101).bind fun bt107 => (if (bt102.2.2.2 != bt107.2.2.2) = true then (laws_FnJidGet.j0 k t101 bt102.2.2.2 bt107.2.2.2 true bt102.1 bt102.2.1 bt102.2.2.1 bt107.1 bt107.2.1 bt107.2.2.1) else (if (!(bt102.1.toList == bt107.1.toList) || (!(bt102.2.1.toList == bt107.2.1.toList) || (!(bt102.2.2.1.toList == bt107.2.2.1.toList)))) = true then (laws_FnJidGet.j0 k t101 bt102.2.2.2 bt107.2.2.2 true bt102.1 bt102.2.1 bt102.2.2.1 bt107.1 bt107.2.1 bt107.2.2.1) else (laws_FnJidGet.j0 k t101 bt102.2.2.2 bt107.2.2.2 (!bt102.2.2.2) bt102.1 bt102.2.1 bt102.2.2.1 bt107.1 bt107.2.1 bt107.2.2.1))))))
theorem laws_FnJidGet.mono_l : ∀ k, (∀ y0 y1 y2 y3 y4 y5 y6 y7 y8 y9, LeO (laws_FnJidGet.j0 k y0 y1 y2 y3 y4 y5 y6 y7 y8 y9) (laws_FnJidGet.j0 (k + 1) y0 y1 y2 y3 y4 y5 y6 y7 y8 y9))
  | 0 => fun _ _ _ _ _ _ _ _ _ _ r h => by simp [laws_FnJidGet.j0] at h
  | k + 1 => by
    have ih0 := laws_FnJidGet.mono_l k
    · intro y0 y1 y2 y3 y4 y5 y6 y7 y8 y9
      unfold laws_FnJidGet.j0
      repeat' first
      | (with_reducible exact ih0 _ _ _ _ _ _ _ _ _ _)
      | (with_reducible exact impl_JidGet.mono _ _)
      | (with_reducible exact impl_JidOk.mono _ _ _ _)
      | (with_reducible exact impl_JidPut.mono _ _ _ _)
      | (with_reducible exact spec_DrawJidGet.mono _ _)
      | (with_reducible exact spec_JidGet.mono _ _)
      | (with_reducible exact LeO.refl _)
      | (with_reducible exact LeO.none _)
      | (with_reducible refine LeO.ite ?_ ?_)
      | (with_reducible refine LeO.bind ?_ (fun _ => ?_))
      | exact ih0 _ _ _ _ _ _ _ _ _ _
      | exact impl_JidGet.mono _ _
      | exact impl_JidOk.mono _ _ _ _
      | exact impl_JidPut.mono _ _ _ _
      | exact spec_DrawJidGet.mono _ _
      | exact spec_JidGet.mono _ _
      | exact LeO.none _
      | refine LeO.ite ?_ ?_
      | refine LeO.bind ?_ (fun _ => ?_)
theorem laws_FnJidGet.mono : ∀ a0 k, LeO (laws_FnJidGet.f k a0) (laws_FnJidGet.f (k + 1) a0) := by
  intro a0 k
  have ih0 := laws_FnJidGet.mono_l k
  unfold laws_FnJidGet.f
  repeat' first
      | (with_reducible exact ih0 _ _ _ _ _ _ _ _ _ _)
      | (with_reducible exact impl_JidGet.mono _ _)
      | (with_reducible exact impl_JidOk.mono _ _ _ _)
      | (with_reducible exact impl_JidPut.mono _ _ _ _)
      | (with_reducible exact spec_DrawJidGet.mono _ _)
      | (with_reducible exact spec_JidGet.mono _ _)
      | (with_reducible exact LeO.refl _)
      | (with_reducible exact LeO.none _)
      | (with_reducible refine LeO.ite ?_ ?_)
      | (with_reducible refine LeO.bind ?_ (fun _ => ?_))
      | exact ih0 _ _ _ _ _ _ _ _ _ _
      | exact impl_JidGet.mono _ _
      | exact impl_JidOk.mono _ _ _ _
      | exact impl_JidPut.mono _ _ _ _
      | exact spec_DrawJidGet.mono _ _
      | exact spec_JidGet.mono _ _
      | exact LeO.none _
      | refine LeO.ite ?_ ?_
      | refine LeO.bind ?_ (fun _ => ?_)
set_option maxHeartbeats 8000000 in
set_option maxRecDepth 100000 in
theorem laws_FnJidGet.calls (k : Nat) (A0 : Option Addr) (c0 : Nat) (l0 : List Int) (r : Bool) (w : World) (hr0 : Kd.C (Kd.int .u8) w A0 l0.length l0) (hc0 : l0.length ≤ c0) (h : laws_FnJidGet.f k l0 = some r) (ht : r = true) (hT : Tabs w) :
    Calls Tryd.prog 10 #[.slice A0 l0.length c0] w fun e w' => e = .returned (.bool r) ∧ Below w.heap.size w w' := by
  have HT := Aside0.mk hT
  clear hT
  have hu30 := Tryd.underlying30
  have HR0 := Aside0.mk hr0
  have HC0 := Aside0.mk hc0
  clear hr0 hc0
  have HB := Aside0.mk (Below.refl w.heap.size w)
  have H : (if (l0.length : Int) > 1048576 then (some true) else ((spec_DrawJidGet.f k l0).bind fun t101 => ((impl_JidGet.f k t101).bind fun bt102 => ((spec_JidGet.f k t101).bind fun bt107 => (if (bt102.2.2.2 != bt107.2.2.2) = true then (laws_FnJidGet.j0 k t101 bt102.2.2.2 bt107.2.2.2 true bt102.1 bt102.2.1 bt102.2.2.1 bt107.1 bt107.2.1 bt107.2.2.1) else (if (!(bt102.1.toList == bt107.1.toList) || (!(bt102.2.1.toList == bt107.2.1.toList) || (!(bt102.2.2.1.toList == bt107.2.2.1.toList)))) = true then (laws_FnJidGet.j0 k t101 bt102.2.2.2 bt107.2.2.2 true bt102.1 bt102.2.1 bt102.2.2.1 bt107.1 bt107.2.1 bt107.2.2.1) else (laws_FnJidGet.j0 k t101 bt102.2.2.2 bt107.2.2.2 (!bt102.2.2.2) bt102.1 bt102.2.1 bt102.2.2.1 bt107.1 bt107.2.1 bt107.2.2.1))))))) = some r := h
  clear h
  by_cases c2 : (l0.length : Int) > 1048576
  · rw [if_pos c2] at H
    have c2b0 : decide (1048576 < (l0.length : Int)) = true := decide_eq_true c2
    have c2b1 : decide (1048576 < l0.length) = true := decide_eq_true (by omega)
    clear c2
    obtain rfl := Option.some.inj H
    go_enter Tryd.func10, Tryd.ntmps10
    go_wp2
    go_ret
    exact ⟨by first | rfl | (simp [errW_none, errW_some] <;> rfl) | (simp [*, errW_none, errW_some] <;> rfl), by repeat (first | (with_reducible first | exact HB.out | apply below_alloc | apply pw_below_drewN | apply below_drew1) | exact HB.out)⟩
  · rw [if_neg c2] at H
    have c2b0 : decide (1048576 < (l0.length : Int)) = false := decide_eq_false c2
    have c2b1 : decide (1048576 < l0.length) = false := decide_eq_false (by omega)
    clear c2
    replace H := Option.bind_eq_some_iff.mp H
    obtain ⟨t101, A30, H⟩ := H
    replace H : ((impl_JidGet.f k t101).bind fun bt102 => ((spec_JidGet.f k t101).bind fun bt107 => (if (bt102.2.2.2 != bt107.2.2.2) = true then (laws_FnJidGet.j0 k t101 bt102.2.2.2 bt107.2.2.2 true bt102.1 bt102.2.1 bt102.2.2.1 bt107.1 bt107.2.1 bt107.2.2.1) else (if (!(bt102.1.toList == bt107.1.toList) || (!(bt102.2.1.toList == bt107.2.1.toList) || (!(bt102.2.2.1.toList == bt107.2.2.1.toList)))) = true then (laws_FnJidGet.j0 k t101 bt102.2.2.2 bt107.2.2.2 true bt102.1 bt102.2.1 bt102.2.2.1 bt107.1 bt107.2.1 bt107.2.2.1) else (laws_FnJidGet.j0 k t101 bt102.2.2.2 bt107.2.2.2 (!bt102.2.2.2) bt102.1 bt102.2.1 bt102.2.2.1 bt107.1 bt107.2.1 bt107.2.2.1))))) = some r := H
    have A3 := Aside0.mk A30
    clear A30
    replace H := Option.bind_eq_some_iff.mp H
    obtain ⟨⟨t102, t103, t104, t105⟩, A40, H⟩ := H
    replace H : ((spec_JidGet.f k t101).bind fun bt107 => (if (t105 != bt107.2.2.2) = true then (laws_FnJidGet.j0 k t101 t105 bt107.2.2.2 true t102 t103 t104 bt107.1 bt107.2.1 bt107.2.2.1) else (if (!(t102.toList == bt107.1.toList) || (!(t103.toList == bt107.2.1.toList) || (!(t104.toList == bt107.2.2.1.toList)))) = true then (laws_FnJidGet.j0 k t101 t105 bt107.2.2.2 true t102 t103 t104 bt107.1 bt107.2.1 bt107.2.2.1) else (laws_FnJidGet.j0 k t101 t105 bt107.2.2.2 (!t105) t102 t103 t104 bt107.1 bt107.2.1 bt107.2.2.1)))) = some r := H
    have A4 := Aside0.mk A40
    clear A40
    replace H := Option.bind_eq_some_iff.mp H
    obtain ⟨⟨t107, t108, t109, t110⟩, A50, H⟩ := H
    replace H : (if (t105 != t110) = true then (laws_FnJidGet.j0 k t101 t105 t110 true t102 t103 t104 t107 t108 t109) else (if (!(t102.toList == t107.toList) || (!(t103.toList == t108.toList) || (!(t104.toList == t109.toList)))) = true then (laws_FnJidGet.j0 k t101 t105 t110 true t102 t103 t104 t107 t108 t109) else (laws_FnJidGet.j0 k t101 t105 t110 (!t105) t102 t103 t104 t107 t108 t109))) = some r := H
    have A5 := Aside0.mk A50
    clear A50
    have HC6 := Aside0.mk H
    clear H
    go_enter Tryd.func10, Tryd.ntmps10
    go_upto_region 6 with (first | ((with_reducible refine gate_callee (f := 28) rfl ?_); refine goesL_ (some 15) rfl rfl Tryd.func28 (by kernel_rfl) rfl #[.slice A0 l0.length c0] rfl z3_4 ?_; (with_reducible refine (spec_DrawJidGet.calls k _ _ l0 t101 _ ?side1 ?side2 A3.out).mono ?_); (case side1 => repeat (first | exact HR0.out | (with_reducible refine Kd.C_alloc ?_ _) | (with_reducible refine Kd.C_drewN ?_ _) | (with_reducible refine Kd.C_drew ?_))); (case side2 => exact HC0.out); rintro e w7 ⟨rfl, hb⟩; refine ⟨_, rfl, ?_⟩; have n0_ := Aside0.mk (below_step z3_5 hb); clear HB; have HB := n0_; clear n0_; (try clear hb); (try clear hb2); (try clear hk); (try clear hi)) | ((with_reducible refine gate_callee (f := 24) rfl ?_); refine goesL_ (some 18) rfl rfl Tryd.func24 (by kernel_rfl) rfl #[.string t101] rfl z3_4 ?_; (with_reducible refine (impl_JidGet.calls k t101 t102 t103 t104 t105 _ A4.out (Tabs_below HT.out z3_5)).mono ?_); rintro e w8 ⟨rfl, hb⟩; refine ⟨_, rfl, ?_⟩; have n0_ := Aside0.mk (below_step z3_5 hb); clear HB; have HB := n0_; clear n0_; (try clear hb); (try clear hb2); (try clear hk); (try clear hi)) | ((with_reducible refine gate_dst (N := 4) rfl ?_); (try (refine gate_guard (by rfl) ?_; dsimp only)); refine box_event ?hg (N := 4) ?hd (cs := #[.string (⟨#[]⟩ : ByteArray), .string (⟨#[]⟩ : ByteArray), .string (⟨#[]⟩ : ByteArray)]) (t := 30) ?hr ?_; (case hd => rfl); (case hg => rfl); (case hr => first | (go_simp; done) | (go_simp; rfl)); intro gb106 hg w9 hbox hb; have n0_ := Aside0.mk (below_step z3_5 hb); have n1_ := Aside0.mk (hbox); have n2_ := Aside0.mk ((by rw [hg]; exact (below_size z3_5) : w.heap.size ≤ gb106)); have n3_ := Aside0.mk ((by rw [hg]; exact (below_size z3_5) : w.heap.size ≤ gb106)); clear HB; have HB := n0_; have BK106 := n1_; have GW106 := n2_; have GE106 := n3_; clear n0_ n1_ n2_ n3_; clear hb hbox hg; have hcz10_0 : w9.cell? ⟨gb106, 0, none⟩ = some (.string (⟨#[]⟩ : ByteArray)) := (blk_cell BK106.out 0).trans rfl; have hcz10_1 : w9.cell? ⟨gb106, 1, none⟩ = some (.string (⟨#[]⟩ : ByteArray)) := (blk_cell BK106.out 1).trans rfl; have hcz10_2 : w9.cell? ⟨gb106, 2, none⟩ = some (.string (⟨#[]⟩ : ByteArray)) := (blk_cell BK106.out 2).trans rfl; have hfz10_0 := blk_frozen BK106.out 0; have hfz10_1 := blk_frozen BK106.out 1; have hfz10_2 := blk_frozen BK106.out 2) | ((with_reducible refine gate_callee (f := 23) rfl ?_); refine goesL_ (some 23) rfl rfl Tryd.func23 (by kernel_rfl) rfl #[.string t101] rfl z3_4 ?_; (with_reducible refine (spec_JidGet.calls k t101 t107 t108 t109 t110 _ A5.out).mono ?_); rintro e w11 ⟨rfl, hb⟩; refine ⟨_, rfl, ?_⟩; have n0_ := Aside0.mk (blk_below (g := gb106) (o := .cells #[.string t102, .string t103, .string t104] 30 (0, 0)) (by (with_reducible repeat (first | refine blk_drewN ?_ _ | refine blk_drew ?_ | refine blk_alloc ?_ _)); refine blk_put (cs := #[.string t102, .string t103, .string (⟨#[]⟩ : ByteArray)]) ?_ 2 _ rfl; (with_reducible repeat (first | refine blk_drewN ?_ _ | refine blk_drew ?_ | refine blk_alloc ?_ _)); refine blk_put (cs := #[.string t102, .string (⟨#[]⟩ : ByteArray), .string (⟨#[]⟩ : ByteArray)]) ?_ 1 _ rfl; (with_reducible repeat (first | refine blk_drewN ?_ _ | refine blk_drew ?_ | refine blk_alloc ?_ _)); refine blk_put (cs := #[.string (⟨#[]⟩ : ByteArray), .string (⟨#[]⟩ : ByteArray), .string (⟨#[]⟩ : ByteArray)]) ?_ 0 _ rfl; (with_reducible repeat (first | refine blk_drewN ?_ _ | refine blk_drew ?_ | refine blk_alloc ?_ _)); exact BK106.out) hb); have n1_ := Aside0.mk (below_step z3_2 hb); clear BK106; clear HB; have BK106 := n0_; have HB := n1_; clear n0_ n1_; (try clear hb); (try clear hb2); (try clear hk); (try clear hi)) | ((with_reducible refine gate_dst (N := 6) rfl ?_); (try (refine gate_guard (by rfl) ?_; dsimp only)); refine box_event ?hg (N := 6) ?hd (cs := #[.string (⟨#[]⟩ : ByteArray), .string (⟨#[]⟩ : ByteArray), .string (⟨#[]⟩ : ByteArray)]) (t := 30) ?hr ?_; (case hd => rfl); (case hg => rfl); (case hr => first | (go_simp; done) | (go_simp; rfl)); intro gb111 hg w12 hbox hb; have n0_ := Aside0.mk (blk_below (g := gb106) (o := .cells #[.string t102, .string t103, .string t104] 30 (0, 0)) z3_6 hb); have n1_ := Aside0.mk (below_step z3_2 hb); have n2_ := Aside0.mk (hbox); have n3_ := Aside0.mk ((by rw [hg]; exact (below_size z3_2) : w.heap.size ≤ gb111)); have n4_ := Aside0.mk ((by rw [hg]; exact (below_size z3_2) : w.heap.size ≤ gb111)); have n5_ := Aside0.mk ((by rw [hg]; exact Nat.ne_of_lt (blk_lt (g := gb106) (o := .cells #[.string t102, .string t103, .string t104] 30 (0, 0)) z3_6) : gb106 ≠ gb111)); have n6_ := Aside0.mk ((by rw [hg]; exact Nat.ne_of_gt (blk_lt (g := gb106) (o := .cells #[.string t102, .string t103, .string t104] 30 (0, 0)) z3_6) : gb111 ≠ gb106)); clear BK106; clear HB; have BK106 := n0_; have HB := n1_; have BK111 := n2_; have GW111 := n3_; have GE111 := n4_; have NB106_111 := n5_; have NB111_106 := n6_; clear n0_ n1_ n2_ n3_ n4_ n5_ n6_; clear hb hbox hg; have hnb13 := NB111_106.out; have hnc13 := NB106_111.out; have hcz14_0 : w12.cell? ⟨gb111, 0, none⟩ = some (.string (⟨#[]⟩ : ByteArray)) := (blk_cell BK111.out 0).trans rfl; have hcz14_1 : w12.cell? ⟨gb111, 1, none⟩ = some (.string (⟨#[]⟩ : ByteArray)) := (blk_cell BK111.out 1).trans rfl; have hcz14_2 : w12.cell? ⟨gb111, 2, none⟩ = some (.string (⟨#[]⟩ : ByteArray)) := (blk_cell BK111.out 2).trans rfl; have hfz14_0 := blk_frozen BK111.out 0; have hfz14_1 := blk_frozen BK111.out 1; have hfz14_2 := blk_frozen BK111.out 2))
    (try simp only [Act.put, List.setIfInBounds_toArray, List.set_cons_zero, List.set_cons_succ])
    go_cut [37] (fun v37 wc => ∃ (kq : Nat) (x37_5 : Bool), v37 = .bool x37_5 ∧ Aside0 (laws_FnJidGet.j0 kq t101 t105 t110 x37_5 t102 t103 t104 t107 t108 t109 = some r) ∧ Aside0 (kq ≤ k) ∧ Aside0 (wc.heap[gb106]? = some (.cells #[.string t102, .string t103, .string t104] 30 (0, 0))) ∧ Aside0 (wc.heap[gb111]? = some (.cells #[.string t107, .string t108, .string t109] 30 (0, 0))) ∧ Aside0 (Below w.heap.size w wc))
    case first =>
      have H := HC6.out
      clear HC6
      by_cases c15 : (t105 != t110) = true
      · rw [if_pos c15] at H
        have c15b0 : (t105 != t110) = true := c15
        (try (have c15b1 : decide (t105 = t110) = false := by simpa using c15))
        (try (have c15b2 : (t105 == t110) = false := by simpa using c15))
        (try (have c15b3 : ¬ (t105 = t110) := by simpa using c15))
        clear c15
        (first | rw [c15b0] | (simp only [i64_w, i32_w]; rw [c15b0]) | skip)
        have H' := Aside0.mk H
        clear H
        go_wp2
        go_meet
        case rel => exact ⟨_, (true), z3_10, H', ⟨by first | omega | exact Nat.le_refl _⟩, ⟨by (with_reducible repeat (first | refine blk_drewN ?_ _ | refine blk_drew ?_ | refine blk_alloc ?_ _ | refine blk_far ?_ NB106_111.out _)); exact BK106.out⟩, ⟨by (with_reducible repeat (first | refine blk_drewN ?_ _ | refine blk_drew ?_ | refine blk_alloc ?_ _)); refine blk_put (cs := #[.string t107, .string t108, .string (⟨#[]⟩ : ByteArray)]) ?_ 2 _ rfl; (with_reducible repeat (first | refine blk_drewN ?_ _ | refine blk_drew ?_ | refine blk_alloc ?_ _)); refine blk_put (cs := #[.string t107, .string (⟨#[]⟩ : ByteArray), .string (⟨#[]⟩ : ByteArray)]) ?_ 1 _ rfl; (with_reducible repeat (first | refine blk_drewN ?_ _ | refine blk_drew ?_ | refine blk_alloc ?_ _)); refine blk_put (cs := #[.string (⟨#[]⟩ : ByteArray), .string (⟨#[]⟩ : ByteArray), .string (⟨#[]⟩ : ByteArray)]) ?_ 0 _ rfl; (with_reducible repeat (first | refine blk_drewN ?_ _ | refine blk_drew ?_ | refine blk_alloc ?_ _)); exact BK111.out⟩, ⟨by repeat (first | (with_reducible first | exact HB.out | apply below_alloc | apply pw_below_drewN | apply below_drew1 | refine below_set ?_ GE106.out | refine below_set ?_ GE111.out) | exact HB.out)⟩⟩
      · rw [if_neg c15] at H
        have c15b0 : (t105 != t110) = false := by simpa using c15
        (try (have c15b1 : decide (t105 = t110) = true := by simpa using c15))
        (try (have c15b2 : (t105 == t110) = true := by simpa using c15))
        clear c15
        (first | rw [c15b0] | (simp only [i64_w, i32_w]; rw [c15b0]) | skip)
        by_cases c16 : (!(t102.toList == t107.toList) || (!(t103.toList == t108.toList) || (!(t104.toList == t109.toList)))) = true
        · rw [if_pos c16] at H
          have c16b0 : (!(t102.toList == t107.toList) || (!(t103.toList == t108.toList) || (!(t104.toList == t109.toList)))) = true := c16
          clear c16
          have H' := Aside0.mk H
          clear H
          have hnb17 := NB106_111.out
          have hnc17 := NB111_106.out
          have hcz18_0 : w12.cell? ⟨gb106, 0, none⟩ = some (.string t102) := (blk_cell BK106.out 0).trans rfl
          have hcz18_1 : w12.cell? ⟨gb106, 1, none⟩ = some (.string t103) := (blk_cell BK106.out 1).trans rfl
          have hcz18_2 : w12.cell? ⟨gb106, 2, none⟩ = some (.string t104) := (blk_cell BK106.out 2).trans rfl
          have hfz18_0 := blk_frozen BK106.out 0
          have hfz18_1 := blk_frozen BK106.out 1
          have hfz18_2 := blk_frozen BK106.out 2
          have hcz19_0 : w12.cell? ⟨gb111, 0, none⟩ = some (.string (⟨#[]⟩ : ByteArray)) := (blk_cell BK111.out 0).trans rfl
          have hcz19_1 : w12.cell? ⟨gb111, 1, none⟩ = some (.string (⟨#[]⟩ : ByteArray)) := (blk_cell BK111.out 1).trans rfl
          have hcz19_2 : w12.cell? ⟨gb111, 2, none⟩ = some (.string (⟨#[]⟩ : ByteArray)) := (blk_cell BK111.out 2).trans rfl
          have hfz19_0 := blk_frozen BK111.out 0
          have hfz19_1 := blk_frozen BK111.out 1
          have hfz19_2 := blk_frozen BK111.out 2
          go_wp2
          go_meet
          case rel => exact ⟨_, (true), z3_10, H', ⟨by first | omega | exact Nat.le_refl _⟩, ⟨by (with_reducible repeat (first | refine blk_drewN ?_ _ | refine blk_drew ?_ | refine blk_alloc ?_ _ | refine blk_far ?_ NB106_111.out _)); exact BK106.out⟩, ⟨by (with_reducible repeat (first | refine blk_drewN ?_ _ | refine blk_drew ?_ | refine blk_alloc ?_ _)); refine blk_put (cs := #[.string t107, .string t108, .string (⟨#[]⟩ : ByteArray)]) ?_ 2 _ rfl; (with_reducible repeat (first | refine blk_drewN ?_ _ | refine blk_drew ?_ | refine blk_alloc ?_ _)); refine blk_put (cs := #[.string t107, .string (⟨#[]⟩ : ByteArray), .string (⟨#[]⟩ : ByteArray)]) ?_ 1 _ rfl; (with_reducible repeat (first | refine blk_drewN ?_ _ | refine blk_drew ?_ | refine blk_alloc ?_ _)); refine blk_put (cs := #[.string (⟨#[]⟩ : ByteArray), .string (⟨#[]⟩ : ByteArray), .string (⟨#[]⟩ : ByteArray)]) ?_ 0 _ rfl; (with_reducible repeat (first | refine blk_drewN ?_ _ | refine blk_drew ?_ | refine blk_alloc ?_ _)); exact BK111.out⟩, ⟨by repeat (first | (with_reducible first | exact HB.out | apply below_alloc | apply pw_below_drewN | apply below_drew1 | refine below_set ?_ GE106.out | refine below_set ?_ GE111.out) | exact HB.out)⟩⟩
        · rw [if_neg c16] at H
          have c16b0 : (!(t102.toList == t107.toList) || (!(t103.toList == t108.toList) || (!(t104.toList == t109.toList)))) = false := by simpa using c16
          clear c16
          have H' := Aside0.mk H
          clear H
          have hnb20 := NB106_111.out
          have hnc20 := NB111_106.out
          have hcz21_0 : w12.cell? ⟨gb106, 0, none⟩ = some (.string t102) := (blk_cell BK106.out 0).trans rfl
          have hcz21_1 : w12.cell? ⟨gb106, 1, none⟩ = some (.string t103) := (blk_cell BK106.out 1).trans rfl
          have hcz21_2 : w12.cell? ⟨gb106, 2, none⟩ = some (.string t104) := (blk_cell BK106.out 2).trans rfl
          have hfz21_0 := blk_frozen BK106.out 0
          have hfz21_1 := blk_frozen BK106.out 1
          have hfz21_2 := blk_frozen BK106.out 2
          have hcz22_0 : w12.cell? ⟨gb111, 0, none⟩ = some (.string (⟨#[]⟩ : ByteArray)) := (blk_cell BK111.out 0).trans rfl
          have hcz22_1 : w12.cell? ⟨gb111, 1, none⟩ = some (.string (⟨#[]⟩ : ByteArray)) := (blk_cell BK111.out 1).trans rfl
          have hcz22_2 : w12.cell? ⟨gb111, 2, none⟩ = some (.string (⟨#[]⟩ : ByteArray)) := (blk_cell BK111.out 2).trans rfl
          have hfz22_0 := blk_frozen BK111.out 0
          have hfz22_1 := blk_frozen BK111.out 1
          have hfz22_2 := blk_frozen BK111.out 2
          go_wp2
          go_meet
          case rel => exact ⟨_, (!t105), z3_10, H', ⟨by first | omega | exact Nat.le_refl _⟩, ⟨by (with_reducible repeat (first | refine blk_drewN ?_ _ | refine blk_drew ?_ | refine blk_alloc ?_ _ | refine blk_far ?_ NB106_111.out _)); exact BK106.out⟩, ⟨by (with_reducible repeat (first | refine blk_drewN ?_ _ | refine blk_drew ?_ | refine blk_alloc ?_ _)); refine blk_put (cs := #[.string t107, .string t108, .string (⟨#[]⟩ : ByteArray)]) ?_ 2 _ rfl; (with_reducible repeat (first | refine blk_drewN ?_ _ | refine blk_drew ?_ | refine blk_alloc ?_ _)); refine blk_put (cs := #[.string t107, .string (⟨#[]⟩ : ByteArray), .string (⟨#[]⟩ : ByteArray)]) ?_ 1 _ rfl; (with_reducible repeat (first | refine blk_drewN ?_ _ | refine blk_drew ?_ | refine blk_alloc ?_ _)); refine blk_put (cs := #[.string (⟨#[]⟩ : ByteArray), .string (⟨#[]⟩ : ByteArray), .string (⟨#[]⟩ : ByteArray)]) ?_ 0 _ rfl; (with_reducible repeat (first | refine blk_drewN ?_ _ | refine blk_drew ?_ | refine blk_alloc ?_ _)); exact BK111.out⟩, ⟨by repeat (first | (with_reducible first | exact HB.out | apply below_alloc | apply pw_below_drewN | apply below_drew1 | refine below_set ?_ GE106.out | refine below_set ?_ GE111.out) | exact HB.out)⟩⟩
    case rest =>
      clear HC6
      try clear c1
      try clear c2
      try clear c2b0
      try clear c2b1
      try clear p2
      try clear c10
      try clear c13
      try clear c15
      try clear c15b0
      try clear c15b1
      try clear c15b2
      try clear c16
      try clear c16b0
      try clear c17
      try clear c20
      try clear hcz10_0
      try clear hcz10_1
      try clear hcz10_2
      try clear hcz14_0
      try clear hcz14_1
      try clear hcz14_2
      try clear hcz18_0
      try clear hcz18_1
      try clear hcz18_2
      try clear hcz19_0
      try clear hcz19_1
      try clear hcz19_2
      try clear hcz21_0
      try clear hcz21_1
      try clear hcz21_2
      try clear hcz22_0
      try clear hcz22_1
      try clear hcz22_2
      try clear hfz10_0
      try clear hfz10_1
      try clear hfz10_2
      try clear hfz14_0
      try clear hfz14_1
      try clear hfz14_2
      try clear hfz18_0
      try clear hfz18_1
      try clear hfz18_2
      try clear hfz19_0
      try clear hfz19_1
      try clear hfz19_2
      try clear hfz21_0
      try clear hfz21_1
      try clear hfz21_2
      try clear hfz22_0
      try clear hfz22_1
      try clear hfz22_2
      obtain ⟨kq, x37_5, rfl, HA, HJ5, BK106, BK111, HB⟩ := hcut
      cases kq with
      | zero => exact absurd HA.out (by simp [laws_FnJidGet.j0])
      | succ kj5 =>
        have H := HA.out
        clear HA
        simp only [laws_FnJidGet.j0] at H
        by_cases c23 : x37_5 = true
        · subst c23
          have H1 : (if (t105 == t110) = true then (some (t102.toList == t107.toList && (t103.toList == t108.toList && (t104.toList == t109.toList)))) else (some false)) = some r := by rw [if_pos rfl] at H; exact H
          clear H
          have H := H1
          clear H1
          by_cases c24 : (t105 == t110) = true
          · rw [if_pos c24] at H
            have c24b0 : (t105 == t110) = true := c24
            (try (have c24b1 : decide (t105 = t110) = true := by simpa using c24))
            (try (have c24b2 : (t105 == t110) = true := by simpa using c24))
            clear c24
            obtain rfl := Option.some.inj H
            have hnb25 := NB106_111.out
            have hnc25 := NB111_106.out
            have hcz26_0 : wc.cell? ⟨gb106, 0, none⟩ = some (.string t102) := (blk_cell BK106.out 0).trans rfl
            have hcz26_1 : wc.cell? ⟨gb106, 1, none⟩ = some (.string t103) := (blk_cell BK106.out 1).trans rfl
            have hcz26_2 : wc.cell? ⟨gb106, 2, none⟩ = some (.string t104) := (blk_cell BK106.out 2).trans rfl
            have hfz26_0 := blk_frozen BK106.out 0
            have hfz26_1 := blk_frozen BK106.out 1
            have hfz26_2 := blk_frozen BK106.out 2
            have hcz27_0 : wc.cell? ⟨gb111, 0, none⟩ = some (.string t107) := (blk_cell BK111.out 0).trans rfl
            have hcz27_1 : wc.cell? ⟨gb111, 1, none⟩ = some (.string t108) := (blk_cell BK111.out 1).trans rfl
            have hcz27_2 : wc.cell? ⟨gb111, 2, none⟩ = some (.string t109) := (blk_cell BK111.out 2).trans rfl
            have hfz27_0 := blk_frozen BK111.out 0
            have hfz27_1 := blk_frozen BK111.out 1
            have hfz27_2 := blk_frozen BK111.out 2
            go_wp2
            go_ret
            exact ⟨by first | rfl | (simp [errW_none, errW_some] <;> rfl) | (simp [*, errW_none, errW_some] <;> rfl), by repeat (first | (with_reducible first | exact HB.out | apply below_alloc | apply pw_below_drewN | apply below_drew1 | refine below_set ?_ GE106.out | refine below_set ?_ GE111.out) | exact HB.out)⟩
          · rw [if_neg c24] at H
            have c24b0 : (t105 == t110) = false := by simpa using c24
            (try (have c24b1 : decide (t105 = t110) = false := by simpa using c24))
            (try (have c24b2 : (t105 == t110) = false := by simpa using c24))
            (try (have c24b3 : ¬ (t105 = t110) := by simpa using c24))
            clear c24
            obtain rfl := Option.some.inj H
            cases ht
        · replace c23 := Bool.eq_false_iff.mpr c23
          subst c23
          have H1 : ((impl_JidPut.f kj5 t102 t103 t104).bind fun t112 => ((impl_JidGet.f kj5 t112).bind fun bt113 => ((impl_JidOk.f kj5 t102 t103 t104).bind fun t118 => (if t118 = true then (if bt113.2.2.2 = true then (if (bt113.1.toList == t102.toList && (bt113.2.1.toList == t103.toList && (bt113.2.2.1.toList == t104.toList))) = true then (some ((t112.size : Int) == (t101.size : Int))) else (some false)) else (some false)) else (some false))))) = some r := by rw [if_neg (show ¬ (false = true) by decide)] at H; exact H
          clear H
          have H := H1
          clear H1
          replace H := Option.bind_eq_some_iff.mp H
          obtain ⟨t112, A280, H⟩ := H
          replace H : ((impl_JidGet.f kj5 t112).bind fun bt113 => ((impl_JidOk.f kj5 t102 t103 t104).bind fun t118 => (if t118 = true then (if bt113.2.2.2 = true then (if (bt113.1.toList == t102.toList && (bt113.2.1.toList == t103.toList && (bt113.2.2.1.toList == t104.toList))) = true then (some ((t112.size : Int) == (t101.size : Int))) else (some false)) else (some false)) else (some false)))) = some r := H
          have A28 := Aside0.mk A280
          clear A280
          replace H := Option.bind_eq_some_iff.mp H
          obtain ⟨⟨t113, t114, t115, t116⟩, A290, H⟩ := H
          replace H : ((impl_JidOk.f kj5 t102 t103 t104).bind fun t118 => (if t118 = true then (if t116 = true then (if (t113.toList == t102.toList && (t114.toList == t103.toList && (t115.toList == t104.toList))) = true then (some ((t112.size : Int) == (t101.size : Int))) else (some false)) else (some false)) else (some false))) = some r := H
          have A29 := Aside0.mk A290
          clear A290
          replace H := Option.bind_eq_some_iff.mp H
          obtain ⟨t118, A300, H⟩ := H
          replace H : (if t118 = true then (if t116 = true then (if (t113.toList == t102.toList && (t114.toList == t103.toList && (t115.toList == t104.toList))) = true then (some ((t112.size : Int) == (t101.size : Int))) else (some false)) else (some false)) else (some false)) = some r := H
          have A30 := Aside0.mk A300
          clear A300
          by_cases c31 : t118 = true
          · subst c31
            have H1 : (if t116 = true then (if (t113.toList == t102.toList && (t114.toList == t103.toList && (t115.toList == t104.toList))) = true then (some ((t112.size : Int) == (t101.size : Int))) else (some false)) else (some false)) = some r := by rw [if_pos rfl] at H; exact H
            clear H
            have H := H1
            clear H1
            by_cases c32 : t116 = true
            · subst c32
              have H1 : (if (t113.toList == t102.toList && (t114.toList == t103.toList && (t115.toList == t104.toList))) = true then (some ((t112.size : Int) == (t101.size : Int))) else (some false)) = some r := by rw [if_pos rfl] at H; exact H
              clear H
              have H := H1
              clear H1
              by_cases c33 : (t113.toList == t102.toList && (t114.toList == t103.toList && (t115.toList == t104.toList))) = true
              · rw [if_pos c33] at H
                have c33b0 : (t113.toList == t102.toList && (t114.toList == t103.toList && (t115.toList == t104.toList))) = true := c33
                (try (have c33b1 : decide (t113.toList = t102.toList && (t114.toList == t103.toList && (t115.toList == t104.toList))) = true := by simpa using c33))
                (try (have c33b2 : (t113.toList == t102.toList && (t114.toList == t103.toList && (t115.toList == t104.toList))) = true := by simpa using c33))
                clear c33
                obtain rfl := Option.some.inj H
                have hnb34 := NB106_111.out
                have hnc34 := NB111_106.out
                have hcz35_0 : wc.cell? ⟨gb106, 0, none⟩ = some (.string t102) := (blk_cell BK106.out 0).trans rfl
                have hcz35_1 : wc.cell? ⟨gb106, 1, none⟩ = some (.string t103) := (blk_cell BK106.out 1).trans rfl
                have hcz35_2 : wc.cell? ⟨gb106, 2, none⟩ = some (.string t104) := (blk_cell BK106.out 2).trans rfl
                have hfz35_0 := blk_frozen BK106.out 0
                have hfz35_1 := blk_frozen BK106.out 1
                have hfz35_2 := blk_frozen BK106.out 2
                go_wp2_with (first | ((with_reducible refine gate_callee (f := 22) rfl ?_); refine goesL_ (some 47) rfl rfl Tryd.func22 (by kernel_rfl) rfl #[.agg #[.string t102, .string t103, .string t104]] rfl z3_4 ?_; (with_reducible refine (impl_JidPut.calls kj5 t102 t103 t104 t112 _ A28.out (Tabs_below HT.out z3_0)).mono ?_); rintro e w36 ⟨rfl, hb⟩; refine ⟨_, rfl, ?_⟩; have n0_ := Aside0.mk (blk_below (g := gb106) (o := .cells #[.string t102, .string t103, .string t104] 30 (0, 0)) z3_6 hb); have n1_ := Aside0.mk (blk_below (g := gb111) (o := .cells #[.string t107, .string t108, .string t109] 30 (0, 0)) z3_7 hb); have n2_ := Aside0.mk (below_step z3_0 hb); clear BK106; clear BK111; clear HB; have BK106 := n0_; have BK111 := n1_; have HB := n2_; clear n0_ n1_ n2_; (try clear hb); (try clear hb2); (try clear hk); (try clear hi)) | ((with_reducible refine gate_callee (f := 24) rfl ?_); refine goesL_ (some 50) rfl rfl Tryd.func24 (by kernel_rfl) rfl #[.string t112] rfl z3_4 ?_; (with_reducible refine (impl_JidGet.calls kj5 t112 t113 t114 t115 true _ A29.out (Tabs_below HT.out z3_0)).mono ?_); rintro e w37 ⟨rfl, hb⟩; refine ⟨_, rfl, ?_⟩; have n0_ := Aside0.mk (blk_below (g := gb106) (o := .cells #[.string t102, .string t103, .string t104] 30 (0, 0)) z3_6 hb); have n1_ := Aside0.mk (blk_below (g := gb111) (o := .cells #[.string t107, .string t108, .string t109] 30 (0, 0)) z3_7 hb); have n2_ := Aside0.mk (below_step z3_0 hb); clear BK106; clear BK111; clear HB; have BK106 := n0_; have BK111 := n1_; have HB := n2_; clear n0_ n1_ n2_; (try clear hb); (try clear hb2); (try clear hk); (try clear hi)) | ((with_reducible refine gate_dst (N := 9) rfl ?_); (try (refine gate_guard (by rfl) ?_; dsimp only)); refine box_event ?hg (N := 9) ?hd (cs := #[.string (⟨#[]⟩ : ByteArray), .string (⟨#[]⟩ : ByteArray), .string (⟨#[]⟩ : ByteArray)]) (t := 30) ?hr ?_; (case hd => rfl); (case hg => rfl); (case hr => first | (go_simp; done) | (go_simp; rfl)); intro gb117 hg w38 hbox hb; have n0_ := Aside0.mk (blk_below (g := gb106) (o := .cells #[.string t102, .string t103, .string t104] 30 (0, 0)) z3_6 hb); have n1_ := Aside0.mk (blk_below (g := gb111) (o := .cells #[.string t107, .string t108, .string t109] 30 (0, 0)) z3_7 hb); have n2_ := Aside0.mk (below_step z3_0 hb); have n3_ := Aside0.mk (hbox); have n4_ := Aside0.mk ((by rw [hg]; exact (below_size z3_0) : w.heap.size ≤ gb117)); have n5_ := Aside0.mk ((by rw [hg]; exact (below_size z3_0) : w.heap.size ≤ gb117)); have n6_ := Aside0.mk ((by rw [hg]; exact Nat.ne_of_lt (blk_lt (g := gb106) (o := .cells #[.string t102, .string t103, .string t104] 30 (0, 0)) z3_6) : gb106 ≠ gb117)); have n7_ := Aside0.mk ((by rw [hg]; exact Nat.ne_of_gt (blk_lt (g := gb106) (o := .cells #[.string t102, .string t103, .string t104] 30 (0, 0)) z3_6) : gb117 ≠ gb106)); have n8_ := Aside0.mk ((by rw [hg]; exact Nat.ne_of_lt (blk_lt (g := gb111) (o := .cells #[.string t107, .string t108, .string t109] 30 (0, 0)) z3_7) : gb111 ≠ gb117)); have n9_ := Aside0.mk ((by rw [hg]; exact Nat.ne_of_gt (blk_lt (g := gb111) (o := .cells #[.string t107, .string t108, .string t109] 30 (0, 0)) z3_7) : gb117 ≠ gb111)); clear BK106; clear BK111; clear HB; have BK106 := n0_; have BK111 := n1_; have HB := n2_; have BK117 := n3_; have GW117 := n4_; have GE117 := n5_; have NB106_117 := n6_; have NB117_106 := n7_; have NB111_117 := n8_; have NB117_111 := n9_; clear n0_ n1_ n2_ n3_ n4_ n5_ n6_ n7_ n8_ n9_; clear hb hbox hg; have hnb39 := NB117_106.out; have hnc39 := NB106_117.out; have hnb40 := NB117_111.out; have hnc40 := NB111_117.out; have hcz41_0 : w38.cell? ⟨gb117, 0, none⟩ = some (.string (⟨#[]⟩ : ByteArray)) := (blk_cell BK117.out 0).trans rfl; have hcz41_1 : w38.cell? ⟨gb117, 1, none⟩ = some (.string (⟨#[]⟩ : ByteArray)) := (blk_cell BK117.out 1).trans rfl; have hcz41_2 : w38.cell? ⟨gb117, 2, none⟩ = some (.string (⟨#[]⟩ : ByteArray)) := (blk_cell BK117.out 2).trans rfl; have hfz41_0 := blk_frozen BK117.out 0; have hfz41_1 := blk_frozen BK117.out 1; have hfz41_2 := blk_frozen BK117.out 2; have hcz42_0 : w38.cell? ⟨gb106, 0, none⟩ = some (.string t102) := (blk_cell BK106.out 0).trans rfl; have hcz42_1 : w38.cell? ⟨gb106, 1, none⟩ = some (.string t103) := (blk_cell BK106.out 1).trans rfl; have hcz42_2 : w38.cell? ⟨gb106, 2, none⟩ = some (.string t104) := (blk_cell BK106.out 2).trans rfl; have hfz42_0 := blk_frozen BK106.out 0; have hfz42_1 := blk_frozen BK106.out 1; have hfz42_2 := blk_frozen BK106.out 2) | ((with_reducible refine gate_callee (f := 20) rfl ?_); refine goesL_ (some 54) rfl rfl Tryd.func20 (by kernel_rfl) rfl #[.agg #[.string t102, .string t103, .string t104]] rfl z3_4 ?_; (with_reducible refine (impl_JidOk.calls kj5 t102 t103 t104 true _ A30.out (Tabs_below HT.out (by repeat (first | (with_reducible first | exact HB.out | apply below_alloc | apply pw_below_drewN | apply below_drew1 | refine below_set ?_ GE106.out | refine below_set ?_ GE111.out | refine below_set ?_ GE117.out) | exact HB.out)))).mono ?_); rintro e w43 ⟨rfl, hb⟩; refine ⟨_, rfl, ?_⟩; have n0_ := Aside0.mk (blk_below (g := gb106) (o := .cells #[.string t102, .string t103, .string t104] 30 (0, 0)) (by (with_reducible repeat (first | refine blk_drewN ?_ _ | refine blk_drew ?_ | refine blk_alloc ?_ _ | refine blk_far ?_ NB106_117.out _)); exact BK106.out) hb); have n1_ := Aside0.mk (blk_below (g := gb111) (o := .cells #[.string t107, .string t108, .string t109] 30 (0, 0)) (by (with_reducible repeat (first | refine blk_drewN ?_ _ | refine blk_drew ?_ | refine blk_alloc ?_ _ | refine blk_far ?_ NB111_117.out _)); exact BK111.out) hb); have n2_ := Aside0.mk (blk_below (g := gb117) (o := .cells #[.string t113, .string t114, .string t115] 30 (0, 0)) (by (with_reducible repeat (first | refine blk_drewN ?_ _ | refine blk_drew ?_ | refine blk_alloc ?_ _)); refine blk_put (cs := #[.string t113, .string t114, .string (⟨#[]⟩ : ByteArray)]) ?_ 2 _ rfl; (with_reducible repeat (first | refine blk_drewN ?_ _ | refine blk_drew ?_ | refine blk_alloc ?_ _)); refine blk_put (cs := #[.string t113, .string (⟨#[]⟩ : ByteArray), .string (⟨#[]⟩ : ByteArray)]) ?_ 1 _ rfl; (with_reducible repeat (first | refine blk_drewN ?_ _ | refine blk_drew ?_ | refine blk_alloc ?_ _)); refine blk_put (cs := #[.string (⟨#[]⟩ : ByteArray), .string (⟨#[]⟩ : ByteArray), .string (⟨#[]⟩ : ByteArray)]) ?_ 0 _ rfl; (with_reducible repeat (first | refine blk_drewN ?_ _ | refine blk_drew ?_ | refine blk_alloc ?_ _)); exact BK117.out) hb); have n3_ := Aside0.mk (below_step (by repeat (first | (with_reducible first | exact HB.out | apply below_alloc | apply pw_below_drewN | apply below_drew1 | refine below_set ?_ GE106.out | refine below_set ?_ GE111.out | refine below_set ?_ GE117.out) | exact HB.out)) hb); clear BK106; clear BK111; clear BK117; clear HB; have BK106 := n0_; have BK111 := n1_; have BK117 := n2_; have HB := n3_; clear n0_ n1_ n2_ n3_; (try clear hb); (try clear hb2); (try clear hk); (try clear hi); have hcz44_0 : w43.cell? ⟨gb117, 0, none⟩ = some (.string t113) := (blk_cell BK117.out 0).trans rfl; have hcz44_1 : w43.cell? ⟨gb117, 1, none⟩ = some (.string t114) := (blk_cell BK117.out 1).trans rfl; have hcz44_2 : w43.cell? ⟨gb117, 2, none⟩ = some (.string t115) := (blk_cell BK117.out 2).trans rfl; have hfz44_0 := blk_frozen BK117.out 0; have hfz44_1 := blk_frozen BK117.out 1; have hfz44_2 := blk_frozen BK117.out 2; have hcz45_0 : w43.cell? ⟨gb106, 0, none⟩ = some (.string t102) := (blk_cell BK106.out 0).trans rfl; have hcz45_1 : w43.cell? ⟨gb106, 1, none⟩ = some (.string t103) := (blk_cell BK106.out 1).trans rfl; have hcz45_2 : w43.cell? ⟨gb106, 2, none⟩ = some (.string t104) := (blk_cell BK106.out 2).trans rfl; have hfz45_0 := blk_frozen BK106.out 0; have hfz45_1 := blk_frozen BK106.out 1; have hfz45_2 := blk_frozen BK106.out 2))
                go_ret
                exact ⟨by first | rfl | (simp [errW_none, errW_some] <;> rfl) | (simp [*, errW_none, errW_some] <;> rfl), by repeat (first | (with_reducible first | exact HB.out | apply below_alloc | apply pw_below_drewN | apply below_drew1 | refine below_set ?_ GE106.out | refine below_set ?_ GE111.out | refine below_set ?_ GE117.out) | exact HB.out)⟩
              · rw [if_neg c33] at H
                have c33b0 : (t113.toList == t102.toList && (t114.toList == t103.toList && (t115.toList == t104.toList))) = false := by simpa using c33
                (try (have c33b1 : decide (t113.toList = t102.toList && (t114.toList == t103.toList && (t115.toList == t104.toList))) = false := by simpa using c33))
                (try (have c33b2 : (t113.toList == t102.toList && (t114.toList == t103.toList && (t115.toList == t104.toList))) = false := by simpa using c33))
                (try (have c33b3 : ¬ (t113.toList = t102.toList && (t114.toList == t103.toList && (t115.toList == t104.toList))) := by simpa using c33))
                clear c33
                obtain rfl := Option.some.inj H
                cases ht
            · replace c32 := Bool.eq_false_iff.mpr c32
              subst c32
              have H1 : (some false) = some r := by rw [if_neg (show ¬ (false = true) by decide)] at H; exact H
              clear H
              have H := H1
              clear H1
              obtain rfl := Option.some.inj H
              cases ht
          · replace c31 := Bool.eq_false_iff.mpr c31
            subst c31
            have H1 : (some false) = some r := by rw [if_neg (show ¬ (false = true) by decide)] at H; exact H
            clear H
            have H := H1
            clear H1
            obtain rfl := Option.some.inj H
            cases ht

def laws_FnJidGet.Pure : Prop := ∀ (l0 : List Int), l0.length ≤ maxLen → l0.length * 1 ≤ 140737488351232 → (∀ x ∈ l0, (Lit.int .u8 x).wf = true) → ∃ k, laws_FnJidGet.f k l0 = some true
end Go.Proofs.YtgjecacalpaacaaDoor.PAll
namespace Go.Proofs.YtgjecacalpaacaaDoor.PAll
open Go.RowKit Go.Proofs.YtgjecacalpaacaaDoorW.XWords Go.Proofs.YtgjecacalpaacaaDoorW.PrintWords Go.Proofs.YtgjecacalpaacaaDoorW.PrintLast Go.Proofs.YtgjecacalpaacaaDoorW.PrintMore
attribute [local go_sem] isSome_setCell max2_int min2_int max_two min_two max_three min_three max_four min_four   -- for this text's walks alone
set_option linter.unusedVariables false
set_option linter.unusedSimpArgs false

def spec_TextOk.f (k : Nat) (a0 : ByteArray) : Option (Bool) := (spec_l1Utf.f k a0).bind fun t101 => (some t101)
theorem spec_TextOk.mono : ∀ a0 k, LeO (spec_TextOk.f k a0) (spec_TextOk.f (k + 1) a0) := by
  intro a0 k
  unfold spec_TextOk.f
  repeat' first
      | (with_reducible exact spec_l1Utf.mono _ _)
      | (with_reducible exact LeO.refl _)
      | (with_reducible exact LeO.none _)
      | (with_reducible refine LeO.ite ?_ ?_)
      | (with_reducible refine LeO.bind ?_ (fun _ => ?_))
      | exact spec_l1Utf.mono _ _
      | exact LeO.none _
      | refine LeO.ite ?_ ?_
      | refine LeO.bind ?_ (fun _ => ?_)
set_option maxHeartbeats 8000000 in
set_option maxRecDepth 100000 in
theorem spec_TextOk.calls (k : Nat) (a0 : ByteArray) (r : Bool) (w : World) (h : spec_TextOk.f k a0 = some r) :
    Calls Tryd.prog 14 #[.string a0] w fun e w' => e = .returned (.bool r) ∧ Below w.heap.size w w' := by
  have HB := Aside0.mk (Below.refl w.heap.size w)
  have H : ((spec_l1Utf.f k a0).bind fun t101 => (some t101)) = some r := h
  clear h
  replace H := Option.bind_eq_some_iff.mp H
  obtain ⟨t101, A20, H⟩ := H
  replace H : (some t101) = some r := H
  have A2 := Aside0.mk A20
  clear A20
  obtain rfl := Option.some.inj H
  go_enter Tryd.func14, Tryd.ntmps14
  go_wp2_with (first | ((with_reducible refine gate_callee (f := 42) rfl ?_); refine goesL_ (some 4) rfl rfl Tryd.func42 (by kernel_rfl) rfl #[.string a0] rfl z3_4 ?_; (with_reducible refine (spec_l1Utf.calls k a0 t101 _ A2.out).mono ?_); rintro e w3 ⟨rfl, hb⟩; refine ⟨_, rfl, ?_⟩; have n0_ := Aside0.mk (below_step z3_5 hb); clear HB; have HB := n0_; clear n0_; (try clear hb); (try clear hb2); (try clear hk); (try clear hi)))
  go_ret
  exact ⟨by first | rfl | (simp [errW_none, errW_some] <;> rfl) | (simp [*, errW_none, errW_some] <;> rfl), by repeat (first | (with_reducible first | exact HB.out | apply below_alloc | apply pw_below_drewN | apply below_drew1) | exact HB.out)⟩

end Go.Proofs.YtgjecacalpaacaaDoor.PAll
namespace Go.Proofs.YtgjecacalpaacaaDoor.PAll
open Go.RowKit Go.Proofs.YtgjecacalpaacaaDoorW.XWords Go.Proofs.YtgjecacalpaacaaDoorW.PrintWords Go.Proofs.YtgjecacalpaacaaDoorW.PrintLast Go.Proofs.YtgjecacalpaacaaDoorW.PrintMore
attribute [local go_sem] isSome_setCell max2_int min2_int max_two min_two max_three min_three max_four min_four   -- for this text's walks alone
set_option linter.unusedVariables false
set_option linter.unusedSimpArgs false

def spec_l5Word.l0 : Nat → ByteArray → Int → Option (Bool)
  | 0, _, _ => none
  | k + 1, x0, x3 => if x3 < (x0.size : Int) then (if 0 ≤ x3 then (if (bt x0 x3) ≤ 32 then (some false) else (if (bt x0 x3) ≥ 127 then (some false) else (spec_l5Word.l0 k x0 (wrap64 (x3 + 1))))) else (none)) else ((spec_l1In.f (x0.size : Int) 1 12).bind fun t101 => (some t101))
def spec_l5Word.f (k : Nat) (a0 : ByteArray) : Option (Bool) := spec_l5Word.l0 k a0 0
theorem spec_l5Word.mono_l : ∀ k, (∀ y0 y1, LeO (spec_l5Word.l0 k y0 y1) (spec_l5Word.l0 (k + 1) y0 y1))
  | 0 => fun _ _ r h => by simp [spec_l5Word.l0] at h
  | k + 1 => by
    have ih0 := spec_l5Word.mono_l k
    · intro y0 y1
      unfold spec_l5Word.l0
      repeat' first
      | (with_reducible exact ih0 _ _)
      | (with_reducible exact LeO.refl _)
      | (with_reducible exact LeO.none _)
      | (with_reducible refine LeO.ite ?_ ?_)
      | (with_reducible refine LeO.bind ?_ (fun _ => ?_))
      | exact ih0 _ _
      | exact LeO.none _
      | refine LeO.ite ?_ ?_
      | refine LeO.bind ?_ (fun _ => ?_)
theorem spec_l5Word.mono : ∀ a0 k, LeO (spec_l5Word.f k a0) (spec_l5Word.f (k + 1) a0) := by
  intro a0 k
  have ih0 := spec_l5Word.mono_l k
  unfold spec_l5Word.f
  repeat' first
      | (with_reducible exact ih0 _ _)
      | (with_reducible exact LeO.refl _)
      | (with_reducible exact LeO.none _)
      | (with_reducible refine LeO.ite ?_ ?_)
      | (with_reducible refine LeO.bind ?_ (fun _ => ?_))
      | exact ih0 _ _
      | exact LeO.none _
      | refine LeO.ite ?_ ?_
      | refine LeO.bind ?_ (fun _ => ?_)
set_option maxHeartbeats 8000000 in
set_option maxRecDepth 100000 in
theorem spec_l5Word.calls (k : Nat) (a0 : ByteArray) (r : Bool) (w : World) (h : spec_l5Word.f k a0 = some r) :
    Calls Tryd.prog 116 #[.string a0] w fun e w' => e = .returned (.bool r) ∧ Drawn0 w w' := by
  have H : (spec_l5Word.l0 k a0 0) = some r := h
  clear h
  have H' := Aside0.mk H
  clear H
  go_enter Tryd.func116, Tryd.ntmps116
  go_wp2
  go_loopg [3] k (fun kq v3 w' => ∃ (x3_1 : Int), v3 = .int .i64 x3_1 ∧ Aside0 (spec_l5Word.l0 kq a0 x3_1 = some r) ∧ Aside0 (kq ≤ k) ∧ Drawn0 w w')
  case atStart => exact ⟨(0), z3_10, H', ⟨Nat.le_refl _⟩, by repeat (first | exact Drawn0.refl _ | apply Drawn0.step)⟩
  case round =>
    clear H'
    try clear c1
    obtain ⟨x3_1, rfl, HA, HK1, ⟨m1, rfl⟩⟩ := hrel
    cases gk with
    | zero => exact absurd HA.out (by simp [spec_l5Word.l0])
    | succ k1 =>
      have H := HA.out
      clear HA
      simp only [spec_l5Word.l0] at H
      by_cases c2 : x3_1 < (a0.size : Int)
      · rw [if_pos c2] at H
        have c2b0 : decide (x3_1 < (a0.size : Int)) = true := decide_eq_true c2
        clear c2
        by_cases c3 : 0 ≤ x3_1
        · rw [if_pos c3] at H
          have c3b0 : decide (0 ≤ x3_1) = true := decide_eq_true c3
          clear c3
          by_cases c5 : (bt a0 x3_1) ≤ 32
          · rw [if_pos c5] at H
            have c5b0 : decide ((bt a0 x3_1) ≤ 32) = true := decide_eq_true c5
            clear c5
            obtain rfl := Option.some.inj H
            have p4 : 0 ≤ (x3_1 : Int) := of_decide_eq_true z3_9
            have q4 : x3_1 < (a0.size : Int) := of_decide_eq_true z3_9
            have hx4 := bt_at a0 x3_1
            replace p4 := eq_true p4
            replace q4 := eq_true q4
            go_wp2
            go_ret
            exact ⟨by first | rfl | (simp; done) | (simp [*]; done), by repeat (first | exact Drawn0.refl _ | apply Drawn0.step)⟩
          · rw [if_neg c5] at H
            have c5b0 : decide ((bt a0 x3_1) ≤ 32) = false := decide_eq_false c5
            clear c5
            by_cases c7 : (bt a0 x3_1) ≥ 127
            · rw [if_pos c7] at H
              have c7b0 : decide (127 ≤ (bt a0 x3_1)) = true := decide_eq_true c7
              clear c7
              obtain rfl := Option.some.inj H
              have p4 : 0 ≤ (x3_1 : Int) := of_decide_eq_true z3_9
              have q4 : x3_1 < (a0.size : Int) := of_decide_eq_true z3_9
              have hx4 := bt_at a0 x3_1
              replace p4 := eq_true p4
              replace q4 := eq_true q4
              have p6 : 0 ≤ (x3_1 : Int) := of_decide_eq_true z3_9
              have q6 : x3_1 < (a0.size : Int) := of_decide_eq_true z3_9
              have hx6 := bt_at a0 x3_1
              replace p6 := eq_true p6
              replace q6 := eq_true q6
              go_wp2
              go_ret
              exact ⟨by first | rfl | (simp; done) | (simp [*]; done), by repeat (first | exact Drawn0.refl _ | apply Drawn0.step)⟩
            · rw [if_neg c7] at H
              have c7b0 : decide (127 ≤ (bt a0 x3_1)) = false := decide_eq_false c7
              clear c7
              have H' := Aside0.mk H
              clear H
              have p4 : 0 ≤ (x3_1 : Int) := of_decide_eq_true z3_9
              have q4 : x3_1 < (a0.size : Int) := of_decide_eq_true z3_9
              have hx4 := bt_at a0 x3_1
              replace p4 := eq_true p4
              replace q4 := eq_true q4
              have p6 : 0 ≤ (x3_1 : Int) := of_decide_eq_true z3_9
              have q6 : x3_1 < (a0.size : Int) := of_decide_eq_true z3_9
              have hx6 := bt_at a0 x3_1
              replace p6 := eq_true p6
              replace q6 := eq_true q6
              go_wp2
              go_roundg k1
              case measure => have := HK1.out; omega
              case rel => exact ⟨(wrap64 (x3_1 + 1)), z3_10, H', ⟨by have := HK1.out; omega⟩, by repeat (first | exact Drawn0.refl _ | apply Drawn0.step)⟩
        · rw [if_neg c3] at H
          exact absurd H (by simp)
      · rw [if_neg c2] at H
        have c2b0 : decide (x3_1 < (a0.size : Int)) = false := decide_eq_false c2
        clear c2
        replace H := Option.bind_eq_some_iff.mp H
        obtain ⟨t101, A80, H⟩ := H
        replace H : (some t101) = some r := H
        have A8 := Aside0.mk A80
        clear A80
        obtain rfl := Option.some.inj H
        go_wp2_with (first | ((with_reducible refine gate_callee (f := 94) rfl ?_); refine goesL_ (some 22) rfl rfl Tryd.func94 (by kernel_rfl) rfl #[.int .i64 (a0.size : Int), .int .i64 1, .int .i64 12] rfl z3_4 ?_; (with_reducible refine (spec_l1In.calls (a0.size : Int) 1 12 t101 _ A8.out).mono ?_); rintro e w' ⟨rfl, ⟨nd, rfl⟩⟩; refine ⟨_, rfl, ?_⟩))
        go_ret
        exact ⟨by first | rfl | (simp; done) | (simp [*]; done), by repeat (first | exact Drawn0.refl _ | apply Drawn0.step)⟩

end Go.Proofs.YtgjecacalpaacaaDoor.PAll
namespace Go.Proofs.YtgjecacalpaacaaDoor.PAll
open Go.RowKit Go.Proofs.YtgjecacalpaacaaDoorW.XWords Go.Proofs.YtgjecacalpaacaaDoorW.PrintWords Go.Proofs.YtgjecacalpaacaaDoorW.PrintLast Go.Proofs.YtgjecacalpaacaaDoorW.PrintMore
attribute [local go_sem] isSome_setCell max2_int min2_int max_two min_two max_three min_three max_four min_four   -- for this text's walks alone
set_option linter.unusedVariables false
set_option linter.unusedSimpArgs false

def spec_l5Body.f (k : Nat) (a0 : ByteArray) : Option (Bool) := (spec_l1Utf.f k a0).bind fun t101 => (if t101 = true then ((spec_l1In.f (a0.size : Int) 1 60).bind fun t102 => (some t102)) else (some false))
theorem spec_l5Body.mono : ∀ a0 k, LeO (spec_l5Body.f k a0) (spec_l5Body.f (k + 1) a0) := by
  intro a0 k
  unfold spec_l5Body.f
  repeat' first
      | (with_reducible exact spec_l1Utf.mono _ _)
      | (with_reducible exact LeO.refl _)
      | (with_reducible exact LeO.none _)
      | (with_reducible refine LeO.ite ?_ ?_)
      | (with_reducible refine LeO.bind ?_ (fun _ => ?_))
      | exact spec_l1Utf.mono _ _
      | exact LeO.none _
      | refine LeO.ite ?_ ?_
      | refine LeO.bind ?_ (fun _ => ?_)
set_option maxHeartbeats 8000000 in
set_option maxRecDepth 100000 in
theorem spec_l5Body.calls (k : Nat) (a0 : ByteArray) (r : Bool) (w : World) (h : spec_l5Body.f k a0 = some r) :
    Calls Tryd.prog 98 #[.string a0] w fun e w' => e = .returned (.bool r) ∧ Below w.heap.size w w' := by
  have HB := Aside0.mk (Below.refl w.heap.size w)
  have H : ((spec_l1Utf.f k a0).bind fun t101 => (if t101 = true then ((spec_l1In.f (a0.size : Int) 1 60).bind fun t102 => (some t102)) else (some false))) = some r := h
  clear h
  replace H := Option.bind_eq_some_iff.mp H
  obtain ⟨t101, A20, H⟩ := H
  replace H : (if t101 = true then ((spec_l1In.f (a0.size : Int) 1 60).bind fun t102 => (some t102)) else (some false)) = some r := H
  have A2 := Aside0.mk A20
  clear A20
  by_cases c3 : t101 = true
  · subst c3
    have H1 : ((spec_l1In.f (a0.size : Int) 1 60).bind fun t102 => (some t102)) = some r := by rw [if_pos rfl] at H; exact H
    clear H
    have H := H1
    clear H1
    replace H := Option.bind_eq_some_iff.mp H
    obtain ⟨t102, A40, H⟩ := H
    replace H : (some t102) = some r := H
    have A4 := Aside0.mk A40
    clear A40
    obtain rfl := Option.some.inj H
    go_enter Tryd.func98, Tryd.ntmps98
    go_wp2_with (first | ((with_reducible refine gate_callee (f := 42) rfl ?_); refine goesL_ (some 4) rfl rfl Tryd.func42 (by kernel_rfl) rfl #[.string a0] rfl z3_4 ?_; (with_reducible refine (spec_l1Utf.calls k a0 true _ A2.out).mono ?_); rintro e w5 ⟨rfl, hb⟩; refine ⟨_, rfl, ?_⟩; have n0_ := Aside0.mk (below_step z3_5 hb); clear HB; have HB := n0_; clear n0_; (try clear hb); (try clear hb2); (try clear hk); (try clear hi)) | (go_at_call 94; (with_reducible refine (spec_l1In.calls (a0.size : Int) 1 60 t102 _ A4.out).mono ?_); rintro e w' ⟨rfl, ⟨nd, rfl⟩⟩))
    go_ret
    exact ⟨by first | rfl | (simp [errW_none, errW_some] <;> rfl) | (simp [*, errW_none, errW_some] <;> rfl), by repeat (first | (with_reducible first | exact HB.out | apply below_alloc | apply pw_below_drewN | apply below_drew1) | exact HB.out)⟩
  · replace c3 := Bool.eq_false_iff.mpr c3
    subst c3
    have H1 : (some false) = some r := by rw [if_neg (show ¬ (false = true) by decide)] at H; exact H
    clear H
    have H := H1
    clear H1
    obtain rfl := Option.some.inj H
    go_enter Tryd.func98, Tryd.ntmps98
    go_wp2_with (first | ((with_reducible refine gate_callee (f := 42) rfl ?_); refine goesL_ (some 4) rfl rfl Tryd.func42 (by kernel_rfl) rfl #[.string a0] rfl z3_4 ?_; (with_reducible refine (spec_l1Utf.calls k a0 false _ A2.out).mono ?_); rintro e w6 ⟨rfl, hb⟩; refine ⟨_, rfl, ?_⟩; have n0_ := Aside0.mk (below_step z3_5 hb); clear HB; have HB := n0_; clear n0_; (try clear hb); (try clear hb2); (try clear hk); (try clear hi)))
    go_ret
    exact ⟨by first | rfl | (simp [errW_none, errW_some] <;> rfl) | (simp [*, errW_none, errW_some] <;> rfl), by repeat (first | (with_reducible first | exact HB.out | apply below_alloc | apply pw_below_drewN | apply below_drew1) | exact HB.out)⟩

end Go.Proofs.YtgjecacalpaacaaDoor.PAll
namespace Go.Proofs.YtgjecacalpaacaaDoor.PAll
open Go.RowKit Go.Proofs.YtgjecacalpaacaaDoorW.XWords Go.Proofs.YtgjecacalpaacaaDoorW.PrintWords Go.Proofs.YtgjecacalpaacaaDoorW.PrintLast Go.Proofs.YtgjecacalpaacaaDoorW.PrintMore
attribute [local go_sem] isSome_setCell max2_int min2_int max_two min_two max_three min_three max_four min_four   -- for this text's walks alone
set_option linter.unusedVariables false
set_option linter.unusedSimpArgs false


def impl_wordOk.inB (b : Int) : Bool := decide (33 ≤ b) && decide (b ≤ 126)
theorem impl_wordOk.in_eq (b : Int) : impl_within.f b 33 126 = some (impl_wordOk.inB b) := by
  unfold impl_within.f impl_wordOk.inB
  (repeat' split) <;> rw [Option.some.injEq, Bool.eq_iff_iff] <;> simp_all <;> omega
theorem impl_wordOk.within_eq (n lo hi : Int) : impl_within.f n lo hi = some (decide (lo ≤ n) && decide (n ≤ hi)) := by
  unfold impl_within.f
  split <;> rw [Option.some.injEq, Bool.eq_iff_iff] <;> simp <;> omega
def impl_wordOk.f (a0 : ByteArray) : Option Bool := if a0.size ≤ 140737488351232 then some ((bytesOf a0).all impl_wordOk.inB && (decide (1 ≤ a0.size) && decide (a0.size ≤ 12))) else none
set_option maxHeartbeats 8000000 in
set_option maxRecDepth 100000 in
theorem impl_wordOk.calls (a0 : ByteArray) (r : Bool) (w : World) (h : impl_wordOk.f a0 = some r) :
    Calls Tryd.prog 61 #[.string a0] w fun e w' => e = .returned (.bool r) ∧ Below w.heap.size w w' := by
  have kb := fun W => print_bytes (P := Tryd.prog) 9 23 5 Tryd.underlying9 Tryd.underlying23 Tryd.underlying5 a0 W
  unfold impl_wordOk.f at h
  by_cases hs : a0.size ≤ 140737488351232
  case neg => rw [if_neg hs] at h; cases h
  rw [if_pos hs] at h
  have H := Aside0.mk (Option.some.inj h)
  clear h
  go_enter Tryd.func61, Tryd.ntmps61
  go_wp2
  go_loopg [8] (a0.size + 1) (fun kq v8 w' => ∃ j : Nat, v8 = .int .i64 (j : Int) ∧ j ≤ a0.size ∧ Aside0 (kq + j = a0.size + 1) ∧ Aside0 ((bytesOf a0).all impl_wordOk.inB = ((bytesOf a0).drop j).all impl_wordOk.inB) ∧ Aside0 (ReadsInt w' .u8 (some ⟨w.heap.size, 0, none⟩) a0.size (bytesOf a0)) ∧ Aside0 (Below w.heap.size w w'))
  case atStart => exact ⟨0, rfl, Nat.zero_le _, ⟨by omega⟩, ⟨by rw [List.drop_zero]⟩, ⟨bytes_reads _ _ _ (by omega)⟩, ⟨bytes_below (Below.refl _ _) (Nat.le_refl _) _ _⟩⟩
  case round =>
    obtain ⟨j, rfl, hj, HK, HA, HR, HB⟩ := hrel
    by_cases hlt : j < a0.size
    · have hx := bytes_cell HR.out j hlt
      have HA' := Aside0.mk (HA.out.trans (all_drop_bytes impl_wordOk.inB a0 j hlt))
      have A0 := Aside0.mk ((by have z := bt_range a0 (j : Int); rw [show wrap64 (bt a0 (j : Int)) = bt a0 (j : Int) by unfold wrap64; omega]; exact impl_wordOk.in_eq _ : impl_within.f (wrap64 (bt a0 (j : Int))) 33 126 = some (impl_wordOk.inB (bt a0 (j : Int)))))
      cases hb : impl_wordOk.inB (bt a0 (j : Int)) with
      | true =>
        have A := Aside0.mk (A0.out.trans (congrArg some hb))
        have HA2 := Aside0.mk (HA'.out.trans (by rw [hb, Bool.true_and]))
        clear hb A0 HA HA'
        go_wp2_with (go_at_call 65; (with_reducible refine (impl_within.calls (wrap64 (bt a0 (j : Int))) 33 126 true _ A.out).mono ?_); rintro e w' ⟨rfl, ⟨nd, rfl⟩⟩)
        go_roundg (gk - 1)
        case measure => have := HK.out; omega
        case rel => exact ⟨j + 1, by go_num, by omega, ⟨by have := HK.out; omega⟩, HA2, ⟨HR.out⟩, ⟨pw_below_drewN HB.out _⟩⟩
      | false =>
        have A := Aside0.mk (A0.out.trans (congrArg some hb))
        have HA2 := Aside0.mk (HA'.out.trans (by rw [hb, Bool.false_and]))
        clear hb A0 HA HA'
        go_wp2_with (go_at_call 65; (with_reducible refine (impl_within.calls (wrap64 (bt a0 (j : Int))) 33 126 false _ A.out).mono ?_); rintro e w' ⟨rfl, ⟨nd, rfl⟩⟩)
        go_ret
        have e := H.out
        rw [HA2.out, Bool.false_and] at e
        subst e
        exact ⟨rfl, pw_below_drewN HB.out _⟩
    · obtain rfl : j = a0.size := by omega
      have HA2 : (bytesOf a0).all impl_wordOk.inB = true := HA.out.trans (by rw [List.drop_of_length_le (by rw [bytesOf_length]; exact Nat.le_refl _)]; rfl)
      have e := H.out
      rw [HA2, Bool.true_and] at e
      clear HA HA2 H hj hlt
      have A := Aside0.mk ((impl_wordOk.within_eq (a0.size : Int) 1 12).trans (congrArg some ((by rw [Bool.eq_iff_iff]; simp; omega : (decide ((1 : Int) ≤ (a0.size : Int)) && decide ((a0.size : Int) ≤ 12)) = (decide (1 ≤ a0.size) && decide (a0.size ≤ 12))).trans e)))
      clear e
      go_wp2_with (go_at_call 65; (with_reducible refine (impl_within.calls (a0.size : Int) 1 12 r _ A.out).mono ?_); rintro e w' ⟨rfl, ⟨nd, rfl⟩⟩)
      go_ret
      exact ⟨rfl, pw_below_drewN HB.out _⟩


end Go.Proofs.YtgjecacalpaacaaDoor.PAll
namespace Go.Proofs.YtgjecacalpaacaaDoor.PAll
open Go.RowKit Go.Proofs.YtgjecacalpaacaaDoorW.XWords Go.Proofs.YtgjecacalpaacaaDoorW.PrintWords Go.Proofs.YtgjecacalpaacaaDoorW.PrintLast Go.Proofs.YtgjecacalpaacaaDoorW.PrintMore
attribute [local go_sem] isSome_setCell max2_int min2_int max_two min_two max_three min_three max_four min_four   -- for this text's walks alone
set_option linter.unusedVariables false
set_option linter.unusedSimpArgs false

def impl_bodyOk.f (k : Nat) (a0 : ByteArray) : Option (Bool) := (impl_within.f (a0.size : Int) 1 60).bind fun t101 => (if t101 = true then ((impl_TextOk.f k a0).bind fun t102 => (some t102)) else (some false))
theorem impl_bodyOk.mono : ∀ a0 k, LeO (impl_bodyOk.f k a0) (impl_bodyOk.f (k + 1) a0) := by
  intro a0 k
  unfold impl_bodyOk.f
  repeat' first
      | (with_reducible exact impl_TextOk.mono _ _)
      | (with_reducible exact LeO.refl _)
      | (with_reducible exact LeO.none _)
      | (with_reducible refine LeO.ite ?_ ?_)
      | (with_reducible refine LeO.bind ?_ (fun _ => ?_))
      | exact impl_TextOk.mono _ _
      | exact LeO.none _
      | refine LeO.ite ?_ ?_
      | refine LeO.bind ?_ (fun _ => ?_)
set_option maxHeartbeats 8000000 in
set_option maxRecDepth 100000 in
theorem impl_bodyOk.calls (k : Nat) (a0 : ByteArray) (r : Bool) (w : World) (h : impl_bodyOk.f k a0 = some r) (hT : Tabs w) :
    Calls Tryd.prog 63 #[.string a0] w fun e w' => e = .returned (.bool r) ∧ Below w.heap.size w w' := by
  have HT := Aside0.mk hT
  clear hT
  have HB := Aside0.mk (Below.refl w.heap.size w)
  have H : ((impl_within.f (a0.size : Int) 1 60).bind fun t101 => (if t101 = true then ((impl_TextOk.f k a0).bind fun t102 => (some t102)) else (some false))) = some r := h
  clear h
  replace H := Option.bind_eq_some_iff.mp H
  obtain ⟨t101, A20, H⟩ := H
  replace H : (if t101 = true then ((impl_TextOk.f k a0).bind fun t102 => (some t102)) else (some false)) = some r := H
  have A2 := Aside0.mk A20
  clear A20
  by_cases c3 : t101 = true
  · subst c3
    have H1 : ((impl_TextOk.f k a0).bind fun t102 => (some t102)) = some r := by rw [if_pos rfl] at H; exact H
    clear H
    have H := H1
    clear H1
    replace H := Option.bind_eq_some_iff.mp H
    obtain ⟨t102, A40, H⟩ := H
    replace H : (some t102) = some r := H
    have A4 := Aside0.mk A40
    clear A40
    obtain rfl := Option.some.inj H
    go_enter Tryd.func63, Tryd.ntmps63
    go_wp2_with (first | ((with_reducible refine gate_callee (f := 65) rfl ?_); refine goesL_ (some 5) rfl rfl Tryd.func65 (by kernel_rfl) rfl #[.int .i64 (a0.size : Int), .int .i64 1, .int .i64 60] rfl z3_4 ?_; (with_reducible refine (impl_within.calls (a0.size : Int) 1 60 true _ A2.out).mono ?_); rintro e w' ⟨rfl, ⟨nd, rfl⟩⟩; refine ⟨_, rfl, ?_⟩) | (go_at_call 15; (with_reducible refine (impl_TextOk.calls k a0 t102 _ A4.out (Tabs_below HT.out z3_5)).mono ?_); rintro e w5 ⟨rfl, hb⟩; have n0_ := Aside0.mk (below_step z3_5 hb); clear HB; have HB := n0_; clear n0_; (try clear hb); (try clear hb2); (try clear hk); (try clear hi)))
    go_ret
    exact ⟨by first | rfl | (simp [errW_none, errW_some] <;> rfl) | (simp [*, errW_none, errW_some] <;> rfl), by repeat (first | (with_reducible first | exact HB.out | apply below_alloc | apply pw_below_drewN | apply below_drew1) | exact HB.out)⟩
  · replace c3 := Bool.eq_false_iff.mpr c3
    subst c3
    have H1 : (some false) = some r := by rw [if_neg (show ¬ (false = true) by decide)] at H; exact H
    clear H
    have H := H1
    clear H1
    obtain rfl := Option.some.inj H
    go_enter Tryd.func63, Tryd.ntmps63
    go_wp2_with (first | ((with_reducible refine gate_callee (f := 65) rfl ?_); refine goesL_ (some 5) rfl rfl Tryd.func65 (by kernel_rfl) rfl #[.int .i64 (a0.size : Int), .int .i64 1, .int .i64 60] rfl z3_4 ?_; (with_reducible refine (impl_within.calls (a0.size : Int) 1 60 false _ A2.out).mono ?_); rintro e w' ⟨rfl, ⟨nd, rfl⟩⟩; refine ⟨_, rfl, ?_⟩))
    go_ret
    exact ⟨by first | rfl | (simp [errW_none, errW_some] <;> rfl) | (simp [*, errW_none, errW_some] <;> rfl), by repeat (first | (with_reducible first | exact HB.out | apply below_alloc | apply pw_below_drewN | apply below_drew1) | exact HB.out)⟩

end Go.Proofs.YtgjecacalpaacaaDoor.PAll
namespace Go.Proofs.YtgjecacalpaacaaDoor.PAll
open Go.RowKit Go.Proofs.YtgjecacalpaacaaDoorW.XWords Go.Proofs.YtgjecacalpaacaaDoorW.PrintWords Go.Proofs.YtgjecacalpaacaaDoorW.PrintLast Go.Proofs.YtgjecacalpaacaaDoorW.PrintMore
attribute [local go_sem] isSome_setCell max2_int min2_int max_two min_two max_three min_three max_four min_four   -- for this text's walks alone
set_option linter.unusedVariables false
set_option linter.unusedSimpArgs false


def impl_orEmpty_impl_wordOk.f (a0 : ByteArray) : Option Bool := if a0.toList = ([] : List UInt8) then some true else impl_wordOk.f a0
set_option maxHeartbeats 8000000 in
set_option maxRecDepth 100000 in
theorem impl_orEmpty_impl_wordOk.calls (a0 : ByteArray) (r : Bool) (w : World) (h : impl_orEmpty_impl_wordOk.f a0 = some r) :
    Calls Tryd.prog 64 #[.string a0, .func (.func 61) #[] #[]] w fun e w' => e = .returned (.bool r) ∧ Below w.heap.size w w' := by
  unfold impl_orEmpty_impl_wordOk.f at h
  by_cases c2 : a0.toList = ([] : List UInt8)
  · rw [if_pos c2] at h
    have h := Option.some.inj h
    subst h
    have c2b0 : (a0.toList == ([] : List UInt8)) = true := beq_iff_eq.mpr c2
    have c2b1 : (a0.toList != ([] : List UInt8)) = false := bne_eq_false_iff_eq.mpr c2
    clear c2
    go_enter Tryd.func64, Tryd.ntmps64
    go_wp2
    go_ret
    exact ⟨rfl, Below.refl _ _⟩
  · rw [if_neg c2] at h
    have c2b0 : (a0.toList == ([] : List UInt8)) = false := beq_eq_false_iff_ne.mpr c2
    have c2b1 : (a0.toList != ([] : List UInt8)) = true := bne_iff_ne.mpr c2
    have A := Aside0.mk h
    clear h
    go_enter Tryd.func64, Tryd.ntmps64
    go_wp2_with (go_at_call 61; (with_reducible refine (impl_wordOk.calls a0 r _ A.out).mono ?_); rintro e w' ⟨rfl, hb⟩)
    go_ret
    exact ⟨rfl, hb⟩


end Go.Proofs.YtgjecacalpaacaaDoor.PAll
namespace Go.Proofs.YtgjecacalpaacaaDoor.PAll
open Go.RowKit Go.Proofs.YtgjecacalpaacaaDoorW.XWords Go.Proofs.YtgjecacalpaacaaDoorW.PrintWords Go.Proofs.YtgjecacalpaacaaDoorW.PrintLast Go.Proofs.YtgjecacalpaacaaDoorW.PrintMore
attribute [local go_sem] isSome_setCell max2_int min2_int max_two min_two max_three min_three max_four min_four   -- for this text's walks alone
set_option linter.unusedVariables false
set_option linter.unusedSimpArgs false

def spec_JidOk.f (k : Nat) (a0_0 : ByteArray) (a0_1 : ByteArray) (a0_2 : ByteArray) : Option (Bool) := (spec_l4Ok.f k a0_0 a0_1 a0_2).bind fun t102 => (some t102)
theorem spec_JidOk.mono : ∀ a0 a1 a2 k, LeO (spec_JidOk.f k a0 a1 a2) (spec_JidOk.f (k + 1) a0 a1 a2) := by
  intro a0 a1 a2 k
  unfold spec_JidOk.f
  repeat' first
      | (with_reducible exact spec_l4Ok.mono _ _ _ _)
      | (with_reducible exact LeO.refl _)
      | (with_reducible exact LeO.none _)
      | (with_reducible refine LeO.ite ?_ ?_)
      | (with_reducible refine LeO.bind ?_ (fun _ => ?_))
      | exact spec_l4Ok.mono _ _ _ _
      | exact LeO.none _
      | refine LeO.ite ?_ ?_
      | refine LeO.bind ?_ (fun _ => ?_)
set_option maxHeartbeats 8000000 in
set_option maxRecDepth 100000 in
theorem spec_JidOk.calls (k : Nat) (a0_0 : ByteArray) (a0_1 : ByteArray) (a0_2 : ByteArray) (r : Bool) (w : World) (h : spec_JidOk.f k a0_0 a0_1 a0_2 = some r) :
    Calls Tryd.prog 18 #[.agg #[.string a0_0, .string a0_1, .string a0_2]] w fun e w' => e = .returned (.bool r) ∧ Below w.heap.size w w' := by
  have hu30 := Tryd.underlying30
  have HB := Aside0.mk (Below.refl w.heap.size w)
  have H : ((spec_l4Ok.f k a0_0 a0_1 a0_2).bind fun t102 => (some t102)) = some r := h
  clear h
  replace H := Option.bind_eq_some_iff.mp H
  obtain ⟨t102, A20, H⟩ := H
  replace H : (some t102) = some r := H
  have A2 := Aside0.mk A20
  clear A20
  obtain rfl := Option.some.inj H
  go_enter Tryd.func18, Tryd.ntmps18
  go_wp2_with (first | ((with_reducible refine gate_dst (N := 1) rfl ?_); refine box_event ?hg (N := 1) ?hd (cs := #[.string a0_0, .string a0_1, .string a0_2]) (t := 30) ?hr ?_; (case hd => rfl); (case hg => rfl); (case hr => first | (go_simp; done) | (go_simp; rfl)); intro gb101 hg w3 hbox hb; have n0_ := Aside0.mk (below_step z3_5 hb); have n1_ := Aside0.mk (hbox); have n2_ := Aside0.mk ((by rw [hg]; exact (below_size z3_5) : w.heap.size ≤ gb101)); have n3_ := Aside0.mk ((by rw [hg]; exact (below_size z3_5) : w.heap.size ≤ gb101)); clear HB; have HB := n0_; have BK101 := n1_; have GW101 := n2_; have GE101 := n3_; clear n0_ n1_ n2_ n3_; clear hb hbox hg; have hcz4_0 : w3.cell? ⟨gb101, 0, none⟩ = some (.string a0_0) := (blk_cell BK101.out 0).trans rfl; have hcz4_1 : w3.cell? ⟨gb101, 1, none⟩ = some (.string a0_1) := (blk_cell BK101.out 1).trans rfl; have hcz4_2 : w3.cell? ⟨gb101, 2, none⟩ = some (.string a0_2) := (blk_cell BK101.out 2).trans rfl; have hfz4_0 := blk_frozen BK101.out 0; have hfz4_1 := blk_frozen BK101.out 1; have hfz4_2 := blk_frozen BK101.out 2) | ((with_reducible refine gate_callee (f := 46) rfl ?_); refine goesL_ (some 4) rfl rfl Tryd.func46 (by kernel_rfl) rfl #[.agg #[.string a0_0, .string a0_1, .string a0_2]] rfl z3_4 ?_; (with_reducible refine (spec_l4Ok.calls k a0_0 a0_1 a0_2 t102 _ A2.out).mono ?_); rintro e w5 ⟨rfl, hb⟩; refine ⟨_, rfl, ?_⟩; have n0_ := Aside0.mk (blk_below (g := gb101) (o := .cells #[.string a0_0, .string a0_1, .string a0_2] 30 (0, 0)) z3_8 hb); have n1_ := Aside0.mk (below_step (by repeat (first | (with_reducible first | exact HB.out | apply below_alloc | apply pw_below_drewN | apply below_drew1 | refine below_set ?_ GE101.out) | exact HB.out)) hb); clear BK101; clear HB; have BK101 := n0_; have HB := n1_; clear n0_ n1_; (try clear hb); (try clear hb2); (try clear hk); (try clear hi)))
  go_ret
  exact ⟨by first | rfl | (simp [errW_none, errW_some] <;> rfl) | (simp [*, errW_none, errW_some] <;> rfl), by repeat (first | (with_reducible first | exact HB.out | apply below_alloc | apply pw_below_drewN | apply below_drew1 | refine below_set ?_ GE101.out) | exact HB.out)⟩

end Go.Proofs.YtgjecacalpaacaaDoor.PAll
namespace Go.Proofs.YtgjecacalpaacaaDoor.PAll
open Go.RowKit Go.Proofs.YtgjecacalpaacaaDoorW.XWords Go.Proofs.YtgjecacalpaacaaDoorW.PrintWords Go.Proofs.YtgjecacalpaacaaDoorW.PrintLast Go.Proofs.YtgjecacalpaacaaDoorW.PrintMore
attribute [local go_sem] isSome_setCell max2_int min2_int max_two min_two max_three min_three max_four min_four   -- for this text's walks alone
set_option linter.unusedVariables false
set_option linter.unusedSimpArgs false

def spec_DrawJidPut.f (k : Nat) (l0 : List Int) : Option (ByteArray × ByteArray × ByteArray) := (spec_l16Open.f l0).bind fun bt102 => ((spec_l16Jid.f k bt102.1 bt102.2).bind fun bt105 => (some (bt105.1, bt105.2.1, bt105.2.2.1)))
theorem spec_DrawJidPut.mono : ∀ a0 k, LeO (spec_DrawJidPut.f k a0) (spec_DrawJidPut.f (k + 1) a0) := by
  intro a0 k
  unfold spec_DrawJidPut.f
  repeat' first
      | (with_reducible exact spec_l16Jid.mono _ _ _)
      | (with_reducible exact LeO.refl _)
      | (with_reducible exact LeO.none _)
      | (with_reducible refine LeO.ite ?_ ?_)
      | (with_reducible refine LeO.bind ?_ (fun _ => ?_))
      | exact spec_l16Jid.mono _ _ _
      | exact LeO.none _
      | refine LeO.ite ?_ ?_
      | refine LeO.bind ?_ (fun _ => ?_)
set_option maxHeartbeats 8000000 in
set_option maxRecDepth 100000 in
theorem spec_DrawJidPut.calls (k : Nat) (A0 : Option Addr) (c0 : Nat) (l0 : List Int) (r1 : ByteArray) (r2 : ByteArray) (r3 : ByteArray) (w : World) (hr0 : Kd.C (Kd.int .u8) w A0 l0.length l0) (hc0 : l0.length ≤ c0) (h : spec_DrawJidPut.f k l0 = some (r1, r2, r3)) :
    Calls Tryd.prog 27 #[.slice A0 l0.length c0] w fun e w' => e = .returned (.agg #[.string r1, .string r2, .string r3]) ∧ Below w.heap.size w w' := by
  have hu30 := Tryd.underlying30
  have HR0 := Aside0.mk hr0
  have HC0 := Aside0.mk hc0
  clear hr0 hc0
  have HB := Aside0.mk (Below.refl w.heap.size w)
  have H : ((spec_l16Open.f l0).bind fun bt102 => ((spec_l16Jid.f k bt102.1 bt102.2).bind fun bt105 => (some (bt105.1, bt105.2.1, bt105.2.2.1)))) = some (r1, r2, r3) := h
  clear h
  replace H := Option.bind_eq_some_iff.mp H
  obtain ⟨⟨t102, t103⟩, A20, H⟩ := H
  replace H : ((spec_l16Jid.f k t102 t103).bind fun bt105 => (some (bt105.1, bt105.2.1, bt105.2.2.1))) = some (r1, r2, r3) := H
  have A2 := Aside0.mk A20
  clear A20
  replace H := Option.bind_eq_some_iff.mp H
  obtain ⟨⟨t105, t106, t107, t108⟩, A30, H⟩ := H
  replace H : (some (t105, t106, t107)) = some (r1, r2, r3) := H
  have A3 := Aside0.mk A30
  clear A30
  simp only [Option.some.injEq, Prod.mk.injEq] at H
  obtain ⟨rfl, rfl, rfl⟩ := H
  go_enter Tryd.func27, Tryd.ntmps27
  go_wp2_with (first | ((with_reducible refine gate_dst (N := 2) rfl ?_); refine box_event ?hg (N := 2) ?hd (cs := #[.string (⟨#[]⟩ : ByteArray), .string (⟨#[]⟩ : ByteArray), .string (⟨#[]⟩ : ByteArray)]) (t := 30) ?hr ?_; (case hd => rfl); (case hg => rfl); (case hr => first | (go_simp; done) | (go_simp; rfl)); intro gb101 hg w4 hbox hb; have n0_ := Aside0.mk (below_step z3_5 hb); have n1_ := Aside0.mk (hbox); have n2_ := Aside0.mk ((by rw [hg]; exact (below_size z3_5) : w.heap.size ≤ gb101)); have n3_ := Aside0.mk ((by rw [hg]; exact (below_size z3_5) : w.heap.size ≤ gb101)); clear HB; have HB := n0_; have BK101 := n1_; have GW101 := n2_; have GE101 := n3_; clear n0_ n1_ n2_ n3_; clear hb hbox hg) | ((with_reducible refine gate_callee (f := 45) rfl ?_); refine goesL_ (some 4) rfl rfl Tryd.func45 (by kernel_rfl) rfl #[.slice A0 l0.length c0] rfl z3_4 ?_; (with_reducible refine (spec_l16Open.calls _ _ l0 t102 t103 w _ ?side1 ?side2 ?side3 A2.out).mono ?_); (case side1 => repeat (first | (with_reducible first | exact HB.out | apply below_alloc | apply pw_below_drewN | apply below_drew1 | refine below_set ?_ GE101.out) | exact HB.out)); (case side2 => exact HR0.out); (case side3 => exact HC0.out); rintro e w5 ⟨g104, rfl, hi, hb, hb2⟩; refine ⟨_, rfl, ?_⟩; have n0_ := Aside0.mk (blk_below (g := gb101) (o := .cells #[.string (⟨#[]⟩ : ByteArray), .string (⟨#[]⟩ : ByteArray), .string (⟨#[]⟩ : ByteArray)] 30 (0, 0)) z3_8 hb2); have n1_ := Aside0.mk (hb); have n2_ := Aside0.mk (hi); have n3_ := Aside0.mk (IsS101.ne_blk hi (blk_below (g := gb101) (o := .cells #[.string (⟨#[]⟩ : ByteArray), .string (⟨#[]⟩ : ByteArray), .string (⟨#[]⟩ : ByteArray)] 30 (0, 0)) z3_8 hb2) (by decide)); have n4_ := Aside0.mk (Ne.symm (IsS101.ne_blk hi (blk_below (g := gb101) (o := .cells #[.string (⟨#[]⟩ : ByteArray), .string (⟨#[]⟩ : ByteArray), .string (⟨#[]⟩ : ByteArray)] 30 (0, 0)) z3_8 hb2) (by decide))); clear BK101; clear HB; have BK101 := n0_; have HB := n1_; have HI104 := n2_; have NB104_101 := n3_; have NB101_104 := n4_; clear n0_ n1_ n2_ n3_ n4_; (try clear hb); (try clear hb2); (try clear hk); (try clear hi)) | ((with_reducible refine gate_callee (f := 55) rfl ?_); refine goesL_ (some 5) rfl rfl Tryd.func55 (by kernel_rfl) rfl #[.pointer (some ⟨g104, 0, none⟩)] rfl z3_4 ?_; (with_reducible refine (spec_l16Jid.calls k g104 t102 t103 t105 t106 t107 t108 w _ ?side1 ?side2 A3.out).mono ?_); (case side1 => repeat (first | (with_reducible first | exact HI104.out | apply IsS101.alloc | apply IsS101.drewN | apply IsS101.drew | apply IsS101.set_1 | refine IsS101.far ?_ NB104_101.out _) | exact HI104.out)); (case side2 => repeat (first | (with_reducible first | exact HB.out | apply below_alloc | apply pw_below_drewN | apply below_drew1 | refine below_set ?_ (IsS101.ge HI104.out) | refine below_set ?_ GE101.out) | exact HB.out)); rintro e w6 ⟨rfl, hi, hb, hk⟩; refine ⟨_, rfl, ?_⟩; have n0_ := Aside0.mk (KeepBut.blk hk (g' := gb101) (o := .cells #[.string (⟨#[]⟩ : ByteArray), .string (⟨#[]⟩ : ByteArray), .string (⟨#[]⟩ : ByteArray)] 30 (0, 0)) z3_8 NB101_104.out (by simp)); have n1_ := Aside0.mk (hb); have n2_ := Aside0.mk (hi); clear BK101; clear HB; clear HI104; have BK101 := n0_; have HB := n1_; have HI104 := n2_; clear n0_ n1_ n2_; (try clear hb); (try clear hb2); (try clear hk); (try clear hi); have hnb7 := NB101_104.out; have hnc7 := NB104_101.out; have hcz8_0 : w6.cell? ⟨gb101, 0, none⟩ = some (.string (⟨#[]⟩ : ByteArray)) := (blk_cell BK101.out 0).trans rfl; have hcz8_1 : w6.cell? ⟨gb101, 1, none⟩ = some (.string (⟨#[]⟩ : ByteArray)) := (blk_cell BK101.out 1).trans rfl; have hcz8_2 : w6.cell? ⟨gb101, 2, none⟩ = some (.string (⟨#[]⟩ : ByteArray)) := (blk_cell BK101.out 2).trans rfl; have hfz8_0 := blk_frozen BK101.out 0; have hfz8_1 := blk_frozen BK101.out 1; have hfz8_2 := blk_frozen BK101.out 2))
  refine bodyPost_ret (results_cell_row rfl _ _ gb101 30 #[.string t105, .string t106, .string t107] (0, 0) _ rfl (by (with_reducible repeat (first | refine blk_drewN ?_ _ | refine blk_drew ?_ | refine blk_alloc ?_ _)); refine blk_put (cs := #[.string t105, .string t106, .string (⟨#[]⟩ : ByteArray)]) ?_ 2 _ rfl; (with_reducible repeat (first | refine blk_drewN ?_ _ | refine blk_drew ?_ | refine blk_alloc ?_ _)); refine blk_put (cs := #[.string t105, .string (⟨#[]⟩ : ByteArray), .string (⟨#[]⟩ : ByteArray)]) ?_ 1 _ rfl; (with_reducible repeat (first | refine blk_drewN ?_ _ | refine blk_drew ?_ | refine blk_alloc ?_ _)); refine blk_put (cs := #[.string (⟨#[]⟩ : ByteArray), .string (⟨#[]⟩ : ByteArray), .string (⟨#[]⟩ : ByteArray)]) ?_ 0 _ rfl; (with_reducible repeat (first | refine blk_drewN ?_ _ | refine blk_drew ?_ | refine blk_alloc ?_ _)); exact BK101.out) Tryd.underlying30 rfl (by kernel_rfl)) rfl ?_
  exact ⟨by first | rfl | (simp [errW_none, errW_some] <;> rfl) | (simp [*, errW_none, errW_some] <;> rfl), by repeat (first | (with_reducible first | exact HB.out | apply below_alloc | apply pw_below_drewN | apply below_drew1 | refine below_set ?_ (IsS101.ge HI104.out) | refine below_set ?_ GE101.out) | exact HB.out)⟩

end Go.Proofs.YtgjecacalpaacaaDoor.PAll
namespace Go.Proofs.YtgjecacalpaacaaDoor.PAll
open Go.RowKit Go.Proofs.YtgjecacalpaacaaDoorW.XWords Go.Proofs.YtgjecacalpaacaaDoorW.PrintWords Go.Proofs.YtgjecacalpaacaaDoorW.PrintLast Go.Proofs.YtgjecacalpaacaaDoorW.PrintMore
attribute [local go_sem] isSome_setCell max2_int min2_int max_two min_two max_three min_three max_four min_four   -- for this text's walks alone
set_option linter.unusedVariables false
set_option linter.unusedSimpArgs false

def spec_DrawJidOk.f (k : Nat) (l0 : List Int) : Option (ByteArray × ByteArray × ByteArray) := (spec_l16Open.f l0).bind fun bt102 => ((spec_l16Jid.f k bt102.1 bt102.2).bind fun bt105 => (some (bt105.1, bt105.2.1, bt105.2.2.1)))
theorem spec_DrawJidOk.mono : ∀ a0 k, LeO (spec_DrawJidOk.f k a0) (spec_DrawJidOk.f (k + 1) a0) := by
  intro a0 k
  unfold spec_DrawJidOk.f
  repeat' first
      | (with_reducible exact spec_l16Jid.mono _ _ _)
      | (with_reducible exact LeO.refl _)
      | (with_reducible exact LeO.none _)
      | (with_reducible refine LeO.ite ?_ ?_)
      | (with_reducible refine LeO.bind ?_ (fun _ => ?_))
      | exact spec_l16Jid.mono _ _ _
      | exact LeO.none _
      | refine LeO.ite ?_ ?_
      | refine LeO.bind ?_ (fun _ => ?_)
set_option maxHeartbeats 8000000 in
set_option maxRecDepth 100000 in
theorem spec_DrawJidOk.calls (k : Nat) (A0 : Option Addr) (c0 : Nat) (l0 : List Int) (r1 : ByteArray) (r2 : ByteArray) (r3 : ByteArray) (w : World) (hr0 : Kd.C (Kd.int .u8) w A0 l0.length l0) (hc0 : l0.length ≤ c0) (h : spec_DrawJidOk.f k l0 = some (r1, r2, r3)) :
    Calls Tryd.prog 26 #[.slice A0 l0.length c0] w fun e w' => e = .returned (.agg #[.string r1, .string r2, .string r3]) ∧ Below w.heap.size w w' := by
  have hu30 := Tryd.underlying30
  have HR0 := Aside0.mk hr0
  have HC0 := Aside0.mk hc0
  clear hr0 hc0
  have HB := Aside0.mk (Below.refl w.heap.size w)
  have H : ((spec_l16Open.f l0).bind fun bt102 => ((spec_l16Jid.f k bt102.1 bt102.2).bind fun bt105 => (some (bt105.1, bt105.2.1, bt105.2.2.1)))) = some (r1, r2, r3) := h
  clear h
  replace H := Option.bind_eq_some_iff.mp H
  obtain ⟨⟨t102, t103⟩, A20, H⟩ := H
  replace H : ((spec_l16Jid.f k t102 t103).bind fun bt105 => (some (bt105.1, bt105.2.1, bt105.2.2.1))) = some (r1, r2, r3) := H
  have A2 := Aside0.mk A20
  clear A20
  replace H := Option.bind_eq_some_iff.mp H
  obtain ⟨⟨t105, t106, t107, t108⟩, A30, H⟩ := H
  replace H : (some (t105, t106, t107)) = some (r1, r2, r3) := H
  have A3 := Aside0.mk A30
  clear A30
  simp only [Option.some.injEq, Prod.mk.injEq] at H
  obtain ⟨rfl, rfl, rfl⟩ := H
  go_enter Tryd.func26, Tryd.ntmps26
  go_wp2_with (first | ((with_reducible refine gate_dst (N := 2) rfl ?_); refine box_event ?hg (N := 2) ?hd (cs := #[.string (⟨#[]⟩ : ByteArray), .string (⟨#[]⟩ : ByteArray), .string (⟨#[]⟩ : ByteArray)]) (t := 30) ?hr ?_; (case hd => rfl); (case hg => rfl); (case hr => first | (go_simp; done) | (go_simp; rfl)); intro gb101 hg w4 hbox hb; have n0_ := Aside0.mk (below_step z3_5 hb); have n1_ := Aside0.mk (hbox); have n2_ := Aside0.mk ((by rw [hg]; exact (below_size z3_5) : w.heap.size ≤ gb101)); have n3_ := Aside0.mk ((by rw [hg]; exact (below_size z3_5) : w.heap.size ≤ gb101)); clear HB; have HB := n0_; have BK101 := n1_; have GW101 := n2_; have GE101 := n3_; clear n0_ n1_ n2_ n3_; clear hb hbox hg) | ((with_reducible refine gate_callee (f := 45) rfl ?_); refine goesL_ (some 4) rfl rfl Tryd.func45 (by kernel_rfl) rfl #[.slice A0 l0.length c0] rfl z3_4 ?_; (with_reducible refine (spec_l16Open.calls _ _ l0 t102 t103 w _ ?side1 ?side2 ?side3 A2.out).mono ?_); (case side1 => repeat (first | (with_reducible first | exact HB.out | apply below_alloc | apply pw_below_drewN | apply below_drew1 | refine below_set ?_ GE101.out) | exact HB.out)); (case side2 => exact HR0.out); (case side3 => exact HC0.out); rintro e w5 ⟨g104, rfl, hi, hb, hb2⟩; refine ⟨_, rfl, ?_⟩; have n0_ := Aside0.mk (blk_below (g := gb101) (o := .cells #[.string (⟨#[]⟩ : ByteArray), .string (⟨#[]⟩ : ByteArray), .string (⟨#[]⟩ : ByteArray)] 30 (0, 0)) z3_8 hb2); have n1_ := Aside0.mk (hb); have n2_ := Aside0.mk (hi); have n3_ := Aside0.mk (IsS101.ne_blk hi (blk_below (g := gb101) (o := .cells #[.string (⟨#[]⟩ : ByteArray), .string (⟨#[]⟩ : ByteArray), .string (⟨#[]⟩ : ByteArray)] 30 (0, 0)) z3_8 hb2) (by decide)); have n4_ := Aside0.mk (Ne.symm (IsS101.ne_blk hi (blk_below (g := gb101) (o := .cells #[.string (⟨#[]⟩ : ByteArray), .string (⟨#[]⟩ : ByteArray), .string (⟨#[]⟩ : ByteArray)] 30 (0, 0)) z3_8 hb2) (by decide))); clear BK101; clear HB; have BK101 := n0_; have HB := n1_; have HI104 := n2_; have NB104_101 := n3_; have NB101_104 := n4_; clear n0_ n1_ n2_ n3_ n4_; (try clear hb); (try clear hb2); (try clear hk); (try clear hi)) | ((with_reducible refine gate_callee (f := 55) rfl ?_); refine goesL_ (some 5) rfl rfl Tryd.func55 (by kernel_rfl) rfl #[.pointer (some ⟨g104, 0, none⟩)] rfl z3_4 ?_; (with_reducible refine (spec_l16Jid.calls k g104 t102 t103 t105 t106 t107 t108 w _ ?side1 ?side2 A3.out).mono ?_); (case side1 => repeat (first | (with_reducible first | exact HI104.out | apply IsS101.alloc | apply IsS101.drewN | apply IsS101.drew | apply IsS101.set_1 | refine IsS101.far ?_ NB104_101.out _) | exact HI104.out)); (case side2 => repeat (first | (with_reducible first | exact HB.out | apply below_alloc | apply pw_below_drewN | apply below_drew1 | refine below_set ?_ (IsS101.ge HI104.out) | refine below_set ?_ GE101.out) | exact HB.out)); rintro e w6 ⟨rfl, hi, hb, hk⟩; refine ⟨_, rfl, ?_⟩; have n0_ := Aside0.mk (KeepBut.blk hk (g' := gb101) (o := .cells #[.string (⟨#[]⟩ : ByteArray), .string (⟨#[]⟩ : ByteArray), .string (⟨#[]⟩ : ByteArray)] 30 (0, 0)) z3_8 NB101_104.out (by simp)); have n1_ := Aside0.mk (hb); have n2_ := Aside0.mk (hi); clear BK101; clear HB; clear HI104; have BK101 := n0_; have HB := n1_; have HI104 := n2_; clear n0_ n1_ n2_; (try clear hb); (try clear hb2); (try clear hk); (try clear hi); have hnb7 := NB101_104.out; have hnc7 := NB104_101.out; have hcz8_0 : w6.cell? ⟨gb101, 0, none⟩ = some (.string (⟨#[]⟩ : ByteArray)) := (blk_cell BK101.out 0).trans rfl; have hcz8_1 : w6.cell? ⟨gb101, 1, none⟩ = some (.string (⟨#[]⟩ : ByteArray)) := (blk_cell BK101.out 1).trans rfl; have hcz8_2 : w6.cell? ⟨gb101, 2, none⟩ = some (.string (⟨#[]⟩ : ByteArray)) := (blk_cell BK101.out 2).trans rfl; have hfz8_0 := blk_frozen BK101.out 0; have hfz8_1 := blk_frozen BK101.out 1; have hfz8_2 := blk_frozen BK101.out 2))
  refine bodyPost_ret (results_cell_row rfl _ _ gb101 30 #[.string t105, .string t106, .string t107] (0, 0) _ rfl (by (with_reducible repeat (first | refine blk_drewN ?_ _ | refine blk_drew ?_ | refine blk_alloc ?_ _)); refine blk_put (cs := #[.string t105, .string t106, .string (⟨#[]⟩ : ByteArray)]) ?_ 2 _ rfl; (with_reducible repeat (first | refine blk_drewN ?_ _ | refine blk_drew ?_ | refine blk_alloc ?_ _)); refine blk_put (cs := #[.string t105, .string (⟨#[]⟩ : ByteArray), .string (⟨#[]⟩ : ByteArray)]) ?_ 1 _ rfl; (with_reducible repeat (first | refine blk_drewN ?_ _ | refine blk_drew ?_ | refine blk_alloc ?_ _)); refine blk_put (cs := #[.string (⟨#[]⟩ : ByteArray), .string (⟨#[]⟩ : ByteArray), .string (⟨#[]⟩ : ByteArray)]) ?_ 0 _ rfl; (with_reducible repeat (first | refine blk_drewN ?_ _ | refine blk_drew ?_ | refine blk_alloc ?_ _)); exact BK101.out) Tryd.underlying30 rfl (by kernel_rfl)) rfl ?_
  exact ⟨by first | rfl | (simp [errW_none, errW_some] <;> rfl) | (simp [*, errW_none, errW_some] <;> rfl), by repeat (first | (with_reducible first | exact HB.out | apply below_alloc | apply pw_below_drewN | apply below_drew1 | refine below_set ?_ (IsS101.ge HI104.out) | refine below_set ?_ GE101.out) | exact HB.out)⟩

end Go.Proofs.YtgjecacalpaacaaDoor.PAll
