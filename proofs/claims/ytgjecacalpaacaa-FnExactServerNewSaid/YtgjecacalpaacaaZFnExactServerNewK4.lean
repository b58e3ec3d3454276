-- laid by xprint.py and pack.py, programs of this session's; Lean checks it
import Derived.Test.YtgjecacalpaacaaZFnExactServerNewK0
import Derived.Test.YtgjecacalpaacaaZFnExactServerNewK3
import Derived.Test.YtgjecacalpaacaaZFnExactServerNewK1
namespace Go.Proofs.Ytgjecacalpaacaa.PAll
open Go.RowKit Go.Proofs.YtgjecacalpaacaaW.XWords Go.Proofs.YtgjecacalpaacaaW.PrintWords Go.Proofs.YtgjecacalpaacaaW.PrintLast Go.Proofs.YtgjecacalpaacaaW.PrintMore
theorem z4_26 {p : Prop} (h : p := by first | rfl | (simp; done) | (simp [*]; done)) : p := h
theorem z4_25 {p : Prop} (h : p := by first | (with_reducible assumption) | assumption) : p := h
theorem z4_24 {p : Prop} (h : p := by (with_reducible repeat (first | apply Kd.R_alloc | apply Kd.R_drewN | apply Kd.R_drew)); exact HO146.out) : p := h
theorem z4_23 {p : Prop} (h : p := by (with_reducible repeat (first | apply Kd.S_alloc | apply Kd.S_drewN | apply Kd.S_drew)); exact HO129.out) : p := h
theorem z4_22 {p : Prop} (h : p := by (with_reducible repeat (first | apply Kd.R_alloc | apply Kd.R_drewN | apply Kd.R_drew)); exact HO125.out) : p := h
theorem z4_21 {p : Prop} (h : p := by (with_reducible repeat (first | apply Kd.Q_alloc | apply Kd.Q_drewN | apply Kd.Q_drew)); exact HO122.out) : p := h
theorem z4_20 {p : Prop} (h : p := by (with_reducible repeat (first | apply Kd.R_alloc | apply Kd.R_drewN | apply Kd.R_drew)); exact HO119.out) : p := h
theorem z4_19 {p : Prop} (h : p := by (with_reducible repeat (first | apply Kd.S_alloc | apply Kd.S_drewN | apply Kd.S_drew)); exact HO114.out) : p := h
theorem z4_18 {p : Prop} (h : p := by (with_reducible repeat (first | apply Kd.R_alloc | apply Kd.R_drewN | apply Kd.R_drew)); exact HO110.out) : p := h
theorem z4_17 {p : Prop} (h : p := by (with_reducible repeat (first | apply Kd.R_alloc | apply Kd.R_drewN | apply Kd.R_drew)); exact HO107.out) : p := h
theorem z4_16 {p : Prop} (h : p := by (with_reducible repeat (first | apply Kd.R_alloc | apply Kd.R_drewN | apply Kd.R_drew)); exact HO104.out) : p := h
theorem z4_15 {p : Prop} (h : p := by simp only [Act.put, List.setIfInBounds_toArray, List.set_cons_zero, List.set_cons_succ, i64_w, i32_w]; rfl) : p := h
theorem z4_14 {p : Prop} (h : p := by (with_reducible repeat (first | apply Kd.S_alloc | apply Kd.S_drewN | apply Kd.S_drew)); exact HO_132003.out) : p := h
theorem z4_13 {p : Prop} (h : p := by (with_reducible repeat (first | apply Kd.Q_alloc | apply Kd.Q_drewN | apply Kd.Q_drew)); exact HO_132001.out) : p := h
theorem z4_12 {p : Prop} (h : p := by (with_reducible repeat (first | apply Kd.Q_alloc | apply Kd.Q_drewN | apply Kd.Q_drew)); exact HO_132000.out) : p := h
theorem z4_11 {p : Prop} (h : p := by (with_reducible repeat (first | apply Kd.S_alloc | apply Kd.S_drewN | apply Kd.S_drew)); exact HO_117003.out) : p := h
theorem z4_10 {p : Prop} (h : p := by (with_reducible repeat (first | apply Kd.R_alloc | apply Kd.R_drewN | apply Kd.R_drew)); exact HO_117001.out) : p := h
theorem z4_9 {p : Prop} (h : p := by (with_reducible repeat (first | apply Kd.Q_alloc | apply Kd.Q_drewN | apply Kd.Q_drew)); exact HO_117000.out) : p := h
theorem z4_8 {p : Prop} (h : p := by (with_reducible repeat (first | refine blk_drewN ?_ _ | refine blk_drew ?_ | refine blk_alloc ?_ _)); exact BK131.out) : p := h
theorem z4_7 {p : Prop} (h : p := by (with_reducible repeat (first | refine blk_drewN ?_ _ | refine blk_drew ?_ | refine blk_alloc ?_ _)); exact BK116.out) : p := h
theorem z4_6 {p : Prop} (h : p := by (with_reducible repeat (first | refine blk_drewN ?_ _ | refine blk_drew ?_ | refine blk_alloc ?_ _)); exact BK101.out) : p := h
theorem z4_5 {p : Prop} (h : p := by repeat (first | (with_reducible first | exact HB.out | apply below_alloc | apply pw_below_drewN | apply below_drew1) | exact HB.out)) : p := h
theorem z4_4 {p : Prop} (h : p := by (try simp only [List.map_toArray, List.map_cons, List.map_nil]); first | done | rfl | (simp only [List.length_drop, List.length_take]; rfl)) : p := h
theorem z4_3 {p : Prop} (h : p := by repeat (first | (with_reducible first | exact HB.out | apply below_alloc | apply pw_below_drewN | apply below_drew1 | refine below_set ?_ GE116.out) | exact HB.out)) : p := h
theorem z4_2 {p : Prop} (h : p := by repeat (first | (with_reducible first | exact HB.out | apply below_alloc | apply pw_below_drewN | apply below_drew1 | refine below_set ?_ GE101.out) | exact HB.out)) : p := h
theorem z4_1 {p : Prop} (h : p := by repeat (first | (with_reducible first | exact HK.out | apply Kept.alloc | apply Kept.drewN | apply Kept.drew | refine Kept.setCell ?_ (.inr GW101.out) _) | exact HK.out)) : p := h
theorem z4_0 {p : Prop} (h : p := by repeat (first | (with_reducible first | exact HB.out | apply below_alloc | apply pw_below_drewN | apply below_drew1 | refine below_set ?_ GE116.out | refine below_set ?_ GE131.out) | exact HB.out)) : p := h
end Go.Proofs.Ytgjecacalpaacaa.PAll
namespace Go.Proofs.Ytgjecacalpaacaa.PAll
open Go.RowKit Go.Proofs.YtgjecacalpaacaaW.XWords Go.Proofs.YtgjecacalpaacaaW.PrintWords Go.Proofs.YtgjecacalpaacaaW.PrintLast Go.Proofs.YtgjecacalpaacaaW.PrintMore
attribute [local go_sem] isSome_setCell max2_int min2_int max_two min_two max_three min_three max_four min_four   -- for this text's walks alone
set_option linter.unusedVariables false
set_option linter.unusedSimpArgs false

def laws_markServer.f (k : Nat) (l0_0 : List (S40)) (l0_1 : List (S53)) (a0_2 : ByteArray) (l0_3 : List (S61)) (a0_4 : Int) (a1 : Int) : Option (Int × (List (S40)) × (List (S53))) := (laws_markAccountS.f k l0_0 a1).bind fun bt102 => ((laws_markEntryS.f k l0_1 bt102.1).bind fun bt104 => ((laws_markSessS.f l0_3 bt104.1).bind fun t106 => (some (t106, bt102.2, bt104.2))))
theorem laws_markServer.mono : ∀ a0 a1 a2 a3 a4 a5 k, LeO (laws_markServer.f k a0 a1 a2 a3 a4 a5) (laws_markServer.f (k + 1) a0 a1 a2 a3 a4 a5) := by
  intro a0 a1 a2 a3 a4 a5 k
  unfold laws_markServer.f
  repeat' first
      | (with_reducible exact laws_markAccountS.mono _ _ _)
      | (with_reducible exact laws_markEntryS.mono _ _ _)
      | (with_reducible exact LeO.refl _)
      | (with_reducible exact LeO.none _)
      | (with_reducible refine LeO.ite ?_ ?_)
      | (with_reducible refine LeO.bind ?_ (fun _ => ?_))
      | exact laws_markAccountS.mono _ _ _
      | exact laws_markEntryS.mono _ _ _
      | exact LeO.none _
      | refine LeO.ite ?_ ?_
      | refine LeO.bind ?_ (fun _ => ?_)
set_option maxHeartbeats 8000000 in
set_option maxRecDepth 100000 in
theorem laws_markServer.calls (k : Nat) (P0_0_ : Nat → Prop) (u9000_ : Value) (l0_0 : List (S40)) (P0_1_ : Nat → Prop) (u9001_ : Value) (l0_1 : List (S53)) (a0_2 : ByteArray) (A0_3 : Option Addr) (c0_3 : Nat) (l0_3 : List (S61)) (a0_4 : Int) (a1 : Int) (r1 : Int) (r2 : List (S40)) (r3 : List (S53)) (w0 w : World) (hB : Below w0.heap.size w0 w) (ho0_0 : Kd.Q k40 40 w w0.heap.size P0_0_ u9000_ l0_0) (ho0_1 : Kd.Q k53 53 w w0.heap.size P0_1_ u9001_ l0_1) (hr0_3 : ∀ W_, Kept w W_ (fun k_ => P0_0_ k_ ∨ P0_1_ k_) → Kd.C k61 W_ A0_3 l0_3.length l0_3) (hc0_3 : l0_3.length ≤ c0_3) (h : laws_markServer.f k l0_0 l0_1 a0_2 l0_3 a0_4 a1 = some (r1, r2, r3)) :
    Calls Try.prog 11 #[.agg #[u9000_, u9001_, .string a0_2, .slice A0_3 l0_3.length c0_3, .int .i64 a0_4], .int .i64 a1] w fun e w' => e = .returned (.int .i64 r1) ∧ Kd.Q k40 40 w' w0.heap.size (fun k_ => ((P0_0_ k_ ∨ P0_1_ k_) ∨ w.heap.size ≤ k_)) u9000_ r2 ∧ Kd.Q k53 53 w' w0.heap.size (fun k_ => ((P0_0_ k_ ∨ P0_1_ k_) ∨ w.heap.size ≤ k_)) u9001_ r3 ∧ Below w0.heap.size w0 w' ∧ Kept w w' (fun k_ => P0_0_ k_ ∨ P0_1_ k_) := by
  have hu28 := Try.underlying28
  have HO0_0 := Aside0.mk (show Kd.Q k40 40 w w0.heap.size (fun k_ => ((P0_0_ k_ ∨ P0_1_ k_) ∨ w.heap.size ≤ k_)) u9000_ l0_0 from Kd.Q_mono ho0_0 (fun k_ hk => (.inl (.inl hk))))
  have HO0_1 := Aside0.mk (show Kd.Q k53 53 w w0.heap.size (fun k_ => ((P0_0_ k_ ∨ P0_1_ k_) ∨ w.heap.size ≤ k_)) u9001_ l0_1 from Kd.Q_mono ho0_1 (fun k_ hk => (.inl (.inr hk))))
  have HR0_3 := Aside0.mk hr0_3
  have HC0_3 := Aside0.mk hc0_3
  clear hr0_3 hc0_3
  have HK := Aside0.mk (Kept.refl w (fun k_ => P0_0_ k_ ∨ P0_1_ k_))
  have HW0 := Aside0.mk hB.size
  have HB := Aside0.mk hB
  clear hB
  have H : ((laws_markAccountS.f k l0_0 a1).bind fun bt102 => ((laws_markEntryS.f k l0_1 bt102.1).bind fun bt104 => ((laws_markSessS.f l0_3 bt104.1).bind fun t106 => (some (t106, bt102.2, bt104.2))))) = some (r1, r2, r3) := h
  clear h
  replace H := Option.bind_eq_some_iff.mp H
  obtain ⟨⟨t102, t103⟩, A30, H⟩ := H
  replace H : ((laws_markEntryS.f k l0_1 t102).bind fun bt104 => ((laws_markSessS.f l0_3 bt104.1).bind fun t106 => (some (t106, t103, bt104.2)))) = some (r1, r2, r3) := H
  have A3 := Aside0.mk A30
  clear A30
  replace H := Option.bind_eq_some_iff.mp H
  obtain ⟨⟨t104, t105⟩, A40, H⟩ := H
  replace H : ((laws_markSessS.f l0_3 t104).bind fun t106 => (some (t106, t103, t105))) = some (r1, r2, r3) := H
  have A4 := Aside0.mk A40
  clear A40
  replace H := Option.bind_eq_some_iff.mp H
  obtain ⟨t106, A50, H⟩ := H
  replace H : (some (t106, t103, t105)) = some (r1, r2, r3) := H
  have A5 := Aside0.mk A50
  clear A50
  simp only [Option.some.injEq, Prod.mk.injEq] at H
  obtain ⟨rfl, rfl, rfl⟩ := H
  obtain ⟨Ao6, co6, eo6, _⟩ := Kd.Q_slice HO0_0.out
  subst eo6
  obtain ⟨Ao7, co7, eo7, _⟩ := Kd.Q_slice HO0_1.out
  subst eo7
  go_enter Try.func11, Try.ntmps11
  go_wp2_with (first | ((with_reducible refine gate_dst (N := 2) rfl ?_); refine box_event ?hg (N := 2) ?hd (cs := #[.slice Ao6 l0_0.length co6, .slice Ao7 l0_1.length co7, .string a0_2, .slice A0_3 l0_3.length c0_3, .int .i64 a0_4]) (t := 28) ?hr ?_; (case hd => rfl); (case hg => rfl); (case hr => first | (go_simp; done) | (go_simp; rfl)); intro gb101 hg w8 hbox hb; have n0_ := Aside0.mk (Kd.Q_below (by (with_reducible repeat (first | apply Kd.Q_alloc | apply Kd.Q_drewN | apply Kd.Q_drew)); exact HO0_0.out) hb); have n1_ := Aside0.mk (Kd.Q_below (by (with_reducible repeat (first | apply Kd.Q_alloc | apply Kd.Q_drewN | apply Kd.Q_drew)); exact HO0_1.out) hb); have n2_ := Aside0.mk (Kept.below (S := (fun k_ => P0_0_ k_ ∨ P0_1_ k_)) (by repeat (first | (with_reducible first | exact HK.out | apply Kept.alloc | apply Kept.drewN | apply Kept.drew) | exact HK.out)) hb); have n3_ := Aside0.mk (below_step z4_5 hb); have n4_ := Aside0.mk (hbox); have n5_ := Aside0.mk ((by rw [hg]; exact (by first | exact HK.out.1 | exact (show Kept w _ (fun k_ => P0_0_ k_ ∨ P0_1_ k_) from by repeat (first | (with_reducible first | exact HK.out | apply Kept.alloc | apply Kept.drewN | apply Kept.drew) | exact HK.out)).1) : w.heap.size ≤ gb101)); have n6_ := Aside0.mk ((by rw [hg]; exact (below_size z4_5) : w0.heap.size ≤ gb101)); clear HO0_0; clear HO0_1; clear HK; clear HB; have HO0_0 := n0_; have HO0_1 := n1_; have HK := n2_; have HB := n3_; have BK101 := n4_; have GW101 := n5_; have GE101 := n6_; clear n0_ n1_ n2_ n3_ n4_ n5_ n6_; clear hb hbox hg; have hcz9_0 : w8.cell? ⟨gb101, 0, none⟩ = some (.slice Ao6 l0_0.length co6) := (blk_cell BK101.out 0).trans rfl; have hcz9_1 : w8.cell? ⟨gb101, 1, none⟩ = some (.slice Ao7 l0_1.length co7) := (blk_cell BK101.out 1).trans rfl; have hcz9_2 : w8.cell? ⟨gb101, 2, none⟩ = some (.string a0_2) := (blk_cell BK101.out 2).trans rfl; have hcz9_3 : w8.cell? ⟨gb101, 3, none⟩ = some (.slice A0_3 l0_3.length c0_3) := (blk_cell BK101.out 3).trans rfl; have hcz9_4 : w8.cell? ⟨gb101, 4, none⟩ = some (.int .i64 a0_4) := (blk_cell BK101.out 4).trans rfl; have hfz9_0 := blk_frozen BK101.out 0; have hfz9_1 := blk_frozen BK101.out 1; have hfz9_2 := blk_frozen BK101.out 2; have hfz9_3 := blk_frozen BK101.out 3; have hfz9_4 := blk_frozen BK101.out 4) | ((with_reducible refine gate_callee (f := 10) rfl ?_); refine goesL_ (some 8) rfl rfl Try.func10 (by kernel_rfl) rfl #[.slice Ao6 l0_0.length co6, .int .i64 a1] rfl z4_4 ?_; (with_reducible refine (laws_markAccountS.calls k (fun k_ => some k_ = (.slice Ao6 l0_0.length co6 : Value).ownBlock) (.slice Ao6 l0_0.length co6) l0_0 a1 t102 t103 w0 _ ?side1 ?side2 A3.out).mono ?_); (case side1 => repeat (first | (with_reducible first | exact HB.out | apply below_alloc | apply pw_below_drewN | apply below_drew1 | refine below_set ?_ GE101.out) | exact HB.out)); (case side2 => exact Kd.Q_tight rfl HO0_0.out); rintro e w10 ⟨rfl, hy0, hb, hkp⟩; refine ⟨_, rfl, ?_⟩; have n0_ := Aside0.mk (Q_reok rfl hy0 (fun k_ e_ => HO0_0.out.1 k_ e_)); have n1_ := Aside0.mk (Kd.Q_mono (ok' := fun k_ => ((P0_0_ k_ ∨ P0_1_ k_) ∨ w.heap.size ≤ k_)) (Kd.Q_keptB ((Kd.Q_apart' HO0_1.out (Kd.Q_typed HO0_0.out) (by decide))) hkp (fun k_ hk_ hs_ => (hk_.2) hs_)) (fun k_ hk_ => hk_.1.1)); have n2_ := Aside0.mk (blk_kept z4_6 hkp (fun hs_ => (fun e_ => (Kd.Q_ne HO0_0.out BK101.out (by decide)) e_) hs_)); have n3_ := Aside0.mk (Kept.then_ (S := (fun k_ => P0_0_ k_ ∨ P0_1_ k_)) z4_1 hkp (fun k_ hs_ => (fun e_ => (HO0_0.out.1 k_ e_.symm)) hs_)); have n4_ := Aside0.mk (hb); clear HO0_0; clear HO0_1; clear BK101; clear HK; clear HB; have HO0_0 := n0_; have HO0_1 := n1_; have BK101 := n2_; have HK := n3_; have HB := n4_; clear n0_ n1_ n2_ n3_ n4_; (try clear hb); (try clear hkp); (try clear hy0); have hcz11_0 : w10.cell? ⟨gb101, 0, none⟩ = some (.slice Ao6 l0_0.length co6) := (blk_cell BK101.out 0).trans rfl; have hcz11_1 : w10.cell? ⟨gb101, 1, none⟩ = some (.slice Ao7 l0_1.length co7) := (blk_cell BK101.out 1).trans rfl; have hcz11_2 : w10.cell? ⟨gb101, 2, none⟩ = some (.string a0_2) := (blk_cell BK101.out 2).trans rfl; have hcz11_3 : w10.cell? ⟨gb101, 3, none⟩ = some (.slice A0_3 l0_3.length c0_3) := (blk_cell BK101.out 3).trans rfl; have hcz11_4 : w10.cell? ⟨gb101, 4, none⟩ = some (.int .i64 a0_4) := (blk_cell BK101.out 4).trans rfl; have hfz11_0 := blk_frozen BK101.out 0; have hfz11_1 := blk_frozen BK101.out 1; have hfz11_2 := blk_frozen BK101.out 2; have hfz11_3 := blk_frozen BK101.out 3; have hfz11_4 := blk_frozen BK101.out 4) | ((with_reducible refine gate_callee (f := 23) rfl ?_); refine goesL_ (some 12) rfl rfl Try.func23 (by kernel_rfl) rfl #[.slice Ao7 l0_1.length co7, .int .i64 t102] rfl z4_4 ?_; (with_reducible refine (laws_markEntryS.calls k (fun k_ => some k_ = (.slice Ao7 l0_1.length co7 : Value).ownBlock) (.slice Ao7 l0_1.length co7) l0_1 t102 t104 t105 w0 _ ?side1 ?side2 A4.out).mono ?_); (case side1 => repeat (first | (with_reducible first | exact HB.out | apply below_alloc | apply pw_below_drewN | apply below_drew1 | refine below_set ?_ GE101.out) | exact HB.out)); (case side2 => exact Kd.Q_tight rfl HO0_1.out); rintro e w12 ⟨rfl, hy0, hb, hkp⟩; refine ⟨_, rfl, ?_⟩; have n0_ := Aside0.mk (Kd.Q_mono (ok' := fun k_ => ((P0_0_ k_ ∨ P0_1_ k_) ∨ w.heap.size ≤ k_)) (Kd.Q_keptB ((Kd.Q_apart' HO0_0.out (Kd.Q_typed HO0_1.out) (by decide))) hkp (fun k_ hk_ hs_ => (hk_.2) hs_)) (fun k_ hk_ => hk_.1.1)); have n1_ := Aside0.mk (Q_reok rfl hy0 (fun k_ e_ => HO0_1.out.1 k_ e_)); have n2_ := Aside0.mk (blk_kept z4_6 hkp (fun hs_ => (fun e_ => (Kd.Q_ne HO0_1.out BK101.out (by decide)) e_) hs_)); have n3_ := Aside0.mk (Kept.then_ (S := (fun k_ => P0_0_ k_ ∨ P0_1_ k_)) z4_1 hkp (fun k_ hs_ => (fun e_ => (HO0_1.out.1 k_ e_.symm)) hs_)); have n4_ := Aside0.mk (hb); clear HO0_0; clear HO0_1; clear BK101; clear HK; clear HB; have HO0_0 := n0_; have HO0_1 := n1_; have BK101 := n2_; have HK := n3_; have HB := n4_; clear n0_ n1_ n2_ n3_ n4_; (try clear hb); (try clear hkp); (try clear hy0); have hcz13_0 : w12.cell? ⟨gb101, 0, none⟩ = some (.slice Ao6 l0_0.length co6) := (blk_cell BK101.out 0).trans rfl; have hcz13_1 : w12.cell? ⟨gb101, 1, none⟩ = some (.slice Ao7 l0_1.length co7) := (blk_cell BK101.out 1).trans rfl; have hcz13_2 : w12.cell? ⟨gb101, 2, none⟩ = some (.string a0_2) := (blk_cell BK101.out 2).trans rfl; have hcz13_3 : w12.cell? ⟨gb101, 3, none⟩ = some (.slice A0_3 l0_3.length c0_3) := (blk_cell BK101.out 3).trans rfl; have hcz13_4 : w12.cell? ⟨gb101, 4, none⟩ = some (.int .i64 a0_4) := (blk_cell BK101.out 4).trans rfl; have hfz13_0 := blk_frozen BK101.out 0; have hfz13_1 := blk_frozen BK101.out 1; have hfz13_2 := blk_frozen BK101.out 2; have hfz13_3 := blk_frozen BK101.out 3; have hfz13_4 := blk_frozen BK101.out 4) | ((with_reducible refine gate_callee (f := 24) rfl ?_); refine goesL_ (some 16) rfl rfl Try.func24 (by kernel_rfl) rfl #[.slice A0_3 l0_3.length c0_3, .int .i64 t104] rfl z4_4 ?_; (with_reducible refine (laws_markSessS.calls _ _ l0_3 t104 t106 _ ?side1 ?side2 A5.out).mono ?_); (case side1 => exact Kd.C_kept_now HR0_3.out z4_1); (case side2 => exact HC0_3.out); rintro e w' ⟨rfl, ⟨nd, rfl⟩⟩; refine ⟨_, rfl, ?_⟩))
  go_ret
  exact ⟨by first | rfl | (simp [errW_none, errW_some] <;> rfl) | (simp [*, errW_none, errW_some] <;> rfl), by (with_reducible repeat (first | apply Kd.Q_alloc | apply Kd.Q_drewN | apply Kd.Q_drew)); exact HO0_0.out, by (with_reducible repeat (first | apply Kd.Q_alloc | apply Kd.Q_drewN | apply Kd.Q_drew)); exact HO0_1.out, by repeat (first | (with_reducible first | exact HB.out | apply below_alloc | apply pw_below_drewN | apply below_drew1 | refine below_set ?_ GE101.out) | exact HB.out), by repeat (first | (with_reducible first | exact HK.out | apply Kept.alloc | apply Kept.drewN | apply Kept.drew | refine Kept.setCell ?_ (.inr GW101.out) _) | exact HK.out)⟩

end Go.Proofs.Ytgjecacalpaacaa.PAll
namespace Go.Proofs.Ytgjecacalpaacaa.PAll
open Go.RowKit Go.Proofs.YtgjecacalpaacaaW.XWords Go.Proofs.YtgjecacalpaacaaW.PrintWords Go.Proofs.YtgjecacalpaacaaW.PrintLast Go.Proofs.YtgjecacalpaacaaW.PrintMore
attribute [local go_sem] isSome_setCell max2_int min2_int max_two min_two max_three min_three max_four min_four   -- for this text's walks alone
set_option linter.unusedVariables false
set_option linter.unusedSimpArgs false

abbrev laws_heldAccountS.q0 : Array Bool := #[true, false, false, false, false, false, false, false]
abbrev laws_heldAccountS.q1 : Array Bool := #[true, true, false, false, false, false, false, false]
abbrev laws_heldAccountS.q2 : Array Bool := #[true, true, true, false, false, false, false, false]
abbrev laws_heldAccountS.q3 : Array Bool := #[true, true, true, true, false, false, false, false]
abbrev laws_heldAccountS.q4 : Array Bool := #[true, true, true, true, false, true, false, false]
abbrev laws_heldAccountS.q5 : Array Bool := #[true, true, true, true, true, true, false, false]
abbrev laws_heldAccountS.q6 : Array Bool := #[true, true, true, true, true, true, true, true]
def laws_heldAccountS.l0 : Nat → List (S40) → Int → Int → Option (Int)
  | 0, _, _, _ => none
  | k + 1, x0, x1, x5 => if x5 < (x0.length : Int) then (if 0 ≤ x5 then ((laws_markText.f k x1).bind fun t102 => (if ((rd_T40 x0 x5).f0).toList = t102.toList then ((laws_markText.f k (wrap64 (x1 + 1))).bind fun t104 => (if ((rd_T40 x0 x5).f1).toList = t104.toList then (laws_heldAccountS.l0 k x0 (wrap64 ((wrap64 (x1 + 1)) + 1)) (wrap64 (x5 + 1))) else (some (-1)))) else (some (-1)))) else (none)) else (some x1)
def laws_heldAccountS.f (k : Nat) (l0 : List (S40)) (a1 : Int) : Option (Int) := laws_heldAccountS.l0 k l0 a1 0
theorem laws_heldAccountS.mono_l : ∀ k, (∀ y0 y1 y2, LeO (laws_heldAccountS.l0 k y0 y1 y2) (laws_heldAccountS.l0 (k + 1) y0 y1 y2))
  | 0 => fun _ _ _ r h => by simp [laws_heldAccountS.l0] at h
  | k + 1 => by
    have ih0 := laws_heldAccountS.mono_l k
    · intro y0 y1 y2
      unfold laws_heldAccountS.l0
      repeat' first
      | (with_reducible exact ih0 _ _ _)
      | (with_reducible exact laws_markText.mono _ _)
      | (with_reducible exact LeO.refl _)
      | (with_reducible exact LeO.none _)
      | (with_reducible refine LeO.ite ?_ ?_)
      | (with_reducible refine LeO.bind ?_ (fun _ => ?_))
      | exact ih0 _ _ _
      | exact laws_markText.mono _ _
      | exact LeO.none _
      | refine LeO.ite ?_ ?_
      | refine LeO.bind ?_ (fun _ => ?_)
theorem laws_heldAccountS.mono : ∀ a0 a1 k, LeO (laws_heldAccountS.f k a0 a1) (laws_heldAccountS.f (k + 1) a0 a1) := by
  intro a0 a1 k
  have ih0 := laws_heldAccountS.mono_l k
  unfold laws_heldAccountS.f
  repeat' first
      | (with_reducible exact ih0 _ _ _)
      | (with_reducible exact laws_markText.mono _ _)
      | (with_reducible exact LeO.refl _)
      | (with_reducible exact LeO.none _)
      | (with_reducible refine LeO.ite ?_ ?_)
      | (with_reducible refine LeO.bind ?_ (fun _ => ?_))
      | exact ih0 _ _ _
      | exact laws_markText.mono _ _
      | exact LeO.none _
      | refine LeO.ite ?_ ?_
      | refine LeO.bind ?_ (fun _ => ?_)
def laws_heldAccountS.T4 : Bool × List (List Nat × List Nat) := (true, [([], []), ([], []), ([0, 1], [0, 1]), ([2], [2]), ([3], [3]), ([], []), ([5], [5]), ([4, 6], [4, 6])])
def laws_heldAccountS.B4 : List Nat := [0, 0, 3, 7, 15, 0, 32, 127]
theorem laws_heldAccountS.tab4 : rtab .any (opsOf Try.f25 4) = laws_heldAccountS.T4 := by kernel_rfl
theorem laws_heldAccountS.bits4 : waitsOk laws_heldAccountS.T4.2 laws_heldAccountS.B4 = true := by kernel_rfl
def laws_heldAccountS.T7 : Bool × List (List Nat × List Nat) := (true, [([], []), ([], []), ([0, 1], [0, 1]), ([2], [2]), ([3], [3]), ([], []), ([5], [5]), ([4, 6], [4, 6])])
def laws_heldAccountS.B7 : List Nat := [0, 0, 3, 7, 15, 0, 32, 127]
theorem laws_heldAccountS.tab7 : rtab .any (opsOf Try.f25 7) = laws_heldAccountS.T7 := by kernel_rfl
theorem laws_heldAccountS.bits7 : waitsOk laws_heldAccountS.T7.2 laws_heldAccountS.B7 = true := by kernel_rfl
set_option maxHeartbeats 8000000 in
set_option maxRecDepth 100000 in
theorem laws_heldAccountS.calls (k : Nat) (A0 : Option Addr) (c0 : Nat) (l0 : List (S40)) (a1 : Int) (r : Int) (w : World) (hr0 : Kd.C k40 w A0 l0.length l0) (hc0 : l0.length ≤ c0) (h : laws_heldAccountS.f k l0 a1 = some r) :
    Calls Try.prog 25 #[.slice A0 l0.length c0, .int .i64 a1] w fun e w' => e = .returned (.int .i64 r) ∧ Below w.heap.size w w' := by
  have HR0 := Aside0.mk hr0
  have HC0 := Aside0.mk hc0
  clear hr0 hc0
  have HB := Aside0.mk (Below.refl w.heap.size w)
  have H : (laws_heldAccountS.l0 k l0 a1 0) = some r := h
  clear h
  have H' := Aside0.mk H
  clear H
  go_enter Try.func25, Try.ntmps25
  go_wp2
  go_loopg [1, 5] k (fun kq v1 v5 w' => ∃ (x1_1 : Int) (x5_1 : Int), v1 = .int .i64 x1_1 ∧ v5 = .int .i64 x5_1 ∧ Aside0 (laws_heldAccountS.l0 kq l0 x1_1 x5_1 = some r) ∧ Aside0 (kq ≤ k) ∧ Aside0 (Below w.heap.size w w'))
  case atStart => exact ⟨(a1), (0), z4_26, z4_26, H', ⟨Nat.le_refl _⟩, ⟨by repeat (first | (with_reducible first | exact HB.out | apply below_alloc | apply pw_below_drewN | apply below_drew1) | exact HB.out)⟩⟩
  case round =>
    clear H'
    try clear c2
    try clear p2
    obtain ⟨x1_1, x5_1, rfl, rfl, HA, HK1, HB⟩ := hrel
    cases gk with
    | zero => exact absurd HA.out (by simp [laws_heldAccountS.l0])
    | succ k1 =>
      have H := HA.out
      clear HA
      simp only [laws_heldAccountS.l0] at H
      by_cases c3 : x5_1 < (l0.length : Int)
      · rw [if_pos c3] at H
        have c3b0 : decide (x5_1 < (l0.length : Int)) = true := decide_eq_true c3
        clear c3
        by_cases c4 : 0 ≤ x5_1
        · rw [if_pos c4] at H
          have c4b0 : decide (0 ≤ x5_1) = true := decide_eq_true c4
          clear c4
          replace H := Option.bind_eq_some_iff.mp H
          obtain ⟨t102, A50, H⟩ := H
          replace H : (if ((rd_T40 l0 x5_1).f0).toList = t102.toList then ((laws_markText.f k1 (wrap64 (x1_1 + 1))).bind fun t104 => (if ((rd_T40 l0 x5_1).f1).toList = t104.toList then (laws_heldAccountS.l0 k1 l0 (wrap64 ((wrap64 (x1_1 + 1)) + 1)) (wrap64 (x5_1 + 1))) else (some (-1)))) else (some (-1))) = some r := H
          have A5 := Aside0.mk A50
          clear A50
          by_cases c6 : ((rd_T40 l0 x5_1).f0).toList = t102.toList
          · rw [if_pos c6] at H
            have c6b0 : (((rd_T40 l0 x5_1).f0).toList == t102.toList) = true := beq_iff_eq.mpr c6
            have c6b1 : (((rd_T40 l0 x5_1).f0).toList != t102.toList) = false := bne_eq_false_iff_eq.mpr c6
            clear c6
            replace H := Option.bind_eq_some_iff.mp H
            obtain ⟨t104, A70, H⟩ := H
            replace H : (if ((rd_T40 l0 x5_1).f1).toList = t104.toList then (laws_heldAccountS.l0 k1 l0 (wrap64 ((wrap64 (x1_1 + 1)) + 1)) (wrap64 (x5_1 + 1))) else (some (-1))) = some r := H
            have A7 := Aside0.mk A70
            clear A70
            by_cases c8 : ((rd_T40 l0 x5_1).f1).toList = t104.toList
            · rw [if_pos c8] at H
              have c8b0 : (((rd_T40 l0 x5_1).f1).toList == t104.toList) = true := beq_iff_eq.mpr c8
              have c8b1 : (((rd_T40 l0 x5_1).f1).toList != t104.toList) = false := bne_eq_false_iff_eq.mpr c8
              clear c8
              have H' := Aside0.mk H
              clear H
              try go_wp2
              have n0_ := Aside0.mk (below_drew1 HB.out)
              clear HB
              have HB := n0_
              clear n0_
              have p101 : 0 ≤ (x5_1 : Int) := of_decide_eq_true z4_25
              have q101 : x5_1 < (l0.length : Int) := of_decide_eq_true z4_25
              obtain ⟨ad101, e101, hx101_0, hx101_1⟩ := at_T40 HR0.out x5_1 p101 q101
              have hw101_1 := hx101_1
              have hw101_0 := hx101_0
              cases e101
              replace hx101_0 := (HB.out.cell (World.block_lt_of_cell? w _ hx101_0)).trans hx101_0
              replace hx101_1 := (HB.out.cell (World.block_lt_of_cell? w _ hx101_1)).trans hx101_1
              replace p101 := eq_true p101
              replace q101 := eq_true q101
              refine start_ (n := 8) (S := fun w' => w'.cell? (ad101.add ((x5_1).toNat * 2)) = some (.string ((rd_T40 l0 x5_1).f0)) ∧ w'.cell? ⟨(ad101.add ((x5_1).toNat * 2)).block, (ad101.add ((x5_1).toNat * 2)).off + 1, none⟩ = some (.string ((rd_T40 l0 x5_1).f1))) (ds := []) #[false, false, false, false, false, false, false, false] (by kernel_rfl) rfl rfl ⟨((HB.out.cell (World.block_lt_of_cell? w _ hw101_0)).trans hw101_0), ((HB.out.cell (World.block_lt_of_cell? w _ hw101_1)).trans hw101_1)⟩ (fun hHeld => ?_); refine with_tabW laws_heldAccountS.tab4 laws_heldAccountS.bits4 (fun HT_ HW_ => ?_)
              generalize wr.drew = w9 at HB hx101_0 hx101_1 hHeld ⊢
              refine pure_ (i := 0) (N := some 12) (v := _) (a' := _) laws_heldAccountS.q0 rfl rfl (any_of HT_.out (by kernel_rfl)) (fun _ _ _ h => h) (Or.inl ⟨by rfl, by intro w'; go_simp; with_reducible rfl⟩) z4_15 ?_
              refine pure_ (i := 1) (N := some 13) (v := _) (a' := _) laws_heldAccountS.q1 rfl rfl (any_of HT_.out (by kernel_rfl)) (fun _ _ _ h => h) (Or.inl ⟨by rfl, by intro w'; go_simp; with_reducible rfl⟩) z4_15 ?_
              refine pure_ (i := 2) (N := some 14) (v := _) (a' := _) laws_heldAccountS.q2 rfl rfl (any_of HT_.out (by kernel_rfl)) (fun _ _ _ h => h) (Or.inl ⟨by rfl, by intro w'; go_simp; with_reducible rfl⟩) z4_15 ?_
              refine pure_ (i := 3) (N := some 15) (v := _) (a' := _) laws_heldAccountS.q3 rfl rfl (any_of HT_.out (by kernel_rfl)) (fun _ _ _ h => h) (Or.inl ⟨by rfl, by intro w'; go_simp; with_reducible rfl⟩) z4_15 ?_
              refine pure_ (i := 5) (N := some 17) (v := _) (a' := _) laws_heldAccountS.q4 rfl rfl (any_of HT_.out (by kernel_rfl)) (fun _ _ _ h => h) (Or.inl ⟨by rfl, by intro w'; go_simp; with_reducible rfl⟩) z4_15 ?_
              refine take_ (i := 4) (N := some 16) (v := _) (a' := _) laws_heldAccountS.q5 rfl rfl (take_ofW HT_.out HW_.out (by kernel_rfl)) (fun _ _ _ h => h) (Or.inl ⟨by rfl, by rintro w' ⟨s0, s1⟩; go_simp; with_reducible rfl⟩) hHeld z4_15 ?_
              refine one_ (i := 6) (N := some 18) #[true, true, true, true, true, true, true, false] rfl rfl (one_of HT_.out (by kernel_rfl)) (by decide) (fun K hK => ?_)
              refine goes_ Try.func22 (by kernel_rfl) rfl #[.int .i64 x1_1] (by rfl) rfl rfl z4_4 ?_
              with_reducible refine (laws_markText.calls k1 x1_1 t102 _ A5.out).mono ?_
              rintro e w10 ⟨rfl, hb⟩
              refine ⟨_, rfl, ?_⟩
              have n0_ := Aside0.mk (below_step z4_5 hb)
              clear HB
              have HB := n0_
              clear n0_
              (try clear hb)
              (try clear hb2)
              (try clear hk)
              (try clear hi)
              refine hK.out _ _ ⟨((HB.out.cell (World.block_lt_of_cell? w _ hw101_0)).trans hw101_0), ((HB.out.cell (World.block_lt_of_cell? w _ hw101_1)).trans hw101_1)⟩ (fun hHeld => ?_)
              clear hK K
              refine norm_ (a' := ?_) ?_ ?_
              rotate_left
              · show Act.put _ (some 18) _ = _
                simp only [Act.put, List.setIfInBounds_toArray, List.set_cons_zero, List.set_cons_succ, i64_w, i32_w]
                rfl
              refine pure_ (i := 7) (N := some 19) (v := _) (a' := _) laws_heldAccountS.q6 rfl rfl (any_of HT_.out (by kernel_rfl)) (fun _ _ _ h => h) (Or.inl ⟨by rfl, by intro w'; go_simp; with_reducible rfl⟩) z4_15 ?_
              refine done_ (done_of HT_.out (by kernel_rfl)) ?_
              try go_wp2
              have n0_ := Aside0.mk (below_drew1 HB.out)
              clear HB
              have HB := n0_
              clear n0_
              have p103 : 0 ≤ (x5_1 : Int) := of_decide_eq_true z4_25
              have q103 : x5_1 < (l0.length : Int) := of_decide_eq_true z4_25
              obtain ⟨ad103, e103, hx103_0, hx103_1⟩ := at_T40 HR0.out x5_1 p103 q103
              have hw103_1 := hx103_1
              have hw103_0 := hx103_0
              obtain rfl : ad101 = ad103 := (by injection e103)
              replace hx103_0 := (HB.out.cell (World.block_lt_of_cell? w _ hx103_0)).trans hx103_0
              replace hx103_1 := (HB.out.cell (World.block_lt_of_cell? w _ hx103_1)).trans hx103_1
              replace p103 := eq_true p103
              replace q103 := eq_true q103
              refine start_ (n := 8) (S := fun w' => w'.cell? (ad101.add ((x5_1).toNat * 2)) = some (.string ((rd_T40 l0 x5_1).f0)) ∧ w'.cell? ⟨(ad101.add ((x5_1).toNat * 2)).block, (ad101.add ((x5_1).toNat * 2)).off + 1, none⟩ = some (.string ((rd_T40 l0 x5_1).f1))) (ds := []) #[false, false, false, false, false, false, false, false] (by kernel_rfl) rfl rfl ⟨((HB.out.cell (World.block_lt_of_cell? w _ hw103_0)).trans hw103_0), ((HB.out.cell (World.block_lt_of_cell? w _ hw103_1)).trans hw103_1)⟩ (fun hHeld => ?_); refine with_tabW laws_heldAccountS.tab7 laws_heldAccountS.bits7 (fun HT_ HW_ => ?_)
              generalize w10.drew = w11 at HB hx103_0 hx103_1 hHeld ⊢
              refine pure_ (i := 0) (N := some 22) (v := _) (a' := _) laws_heldAccountS.q0 rfl rfl (any_of HT_.out (by kernel_rfl)) (fun _ _ _ h => h) (Or.inl ⟨by rfl, by intro w'; go_simp; with_reducible rfl⟩) z4_15 ?_
              refine pure_ (i := 1) (N := some 23) (v := _) (a' := _) laws_heldAccountS.q1 rfl rfl (any_of HT_.out (by kernel_rfl)) (fun _ _ _ h => h) (Or.inl ⟨by rfl, by intro w'; go_simp; with_reducible rfl⟩) z4_15 ?_
              refine pure_ (i := 2) (N := some 24) (v := _) (a' := _) laws_heldAccountS.q2 rfl rfl (any_of HT_.out (by kernel_rfl)) (fun _ _ _ h => h) (Or.inl ⟨by rfl, by intro w'; go_simp; with_reducible rfl⟩) z4_15 ?_
              refine pure_ (i := 3) (N := some 25) (v := _) (a' := _) laws_heldAccountS.q3 rfl rfl (any_of HT_.out (by kernel_rfl)) (fun _ _ _ h => h) (Or.inl ⟨by rfl, by intro w'; go_simp; with_reducible rfl⟩) z4_15 ?_
              refine pure_ (i := 5) (N := some 27) (v := _) (a' := _) laws_heldAccountS.q4 rfl rfl (any_of HT_.out (by kernel_rfl)) (fun _ _ _ h => h) (Or.inl ⟨by rfl, by intro w'; go_simp; with_reducible rfl⟩) z4_15 ?_
              refine take_ (i := 4) (N := some 26) (v := _) (a' := _) laws_heldAccountS.q5 rfl rfl (take_ofW HT_.out HW_.out (by kernel_rfl)) (fun _ _ _ h => h) (Or.inl ⟨by rfl, by rintro w' ⟨s0, s1⟩; go_simp; with_reducible rfl⟩) hHeld z4_15 ?_
              refine one_ (i := 6) (N := some 28) #[true, true, true, true, true, true, true, false] rfl rfl (one_of HT_.out (by kernel_rfl)) (by decide) (fun K hK => ?_)
              refine goes_ Try.func22 (by kernel_rfl) rfl #[.int .i64 (wrap64 (x1_1 + 1))] (by rfl) rfl rfl z4_4 ?_
              with_reducible refine (laws_markText.calls k1 (wrap64 (x1_1 + 1)) t104 _ A7.out).mono ?_
              rintro e w12 ⟨rfl, hb⟩
              refine ⟨_, rfl, ?_⟩
              have n0_ := Aside0.mk (below_step z4_5 hb)
              clear HB
              have HB := n0_
              clear n0_
              (try clear hb)
              (try clear hb2)
              (try clear hk)
              (try clear hi)
              refine hK.out _ _ ⟨((HB.out.cell (World.block_lt_of_cell? w _ hw103_0)).trans hw103_0), ((HB.out.cell (World.block_lt_of_cell? w _ hw103_1)).trans hw103_1)⟩ (fun hHeld => ?_)
              clear hK K
              refine norm_ (a' := ?_) ?_ ?_
              rotate_left
              · show Act.put _ (some 28) _ = _
                simp only [Act.put, List.setIfInBounds_toArray, List.set_cons_zero, List.set_cons_succ, i64_w, i32_w]
                rfl
              refine pure_ (i := 7) (N := some 29) (v := _) (a' := _) laws_heldAccountS.q6 rfl rfl (any_of HT_.out (by kernel_rfl)) (fun _ _ _ h => h) (Or.inl ⟨by rfl, by intro w'; go_simp; with_reducible rfl⟩) z4_15 ?_
              refine done_ (done_of HT_.out (by kernel_rfl)) ?_
              try go_wp2
              go_roundg k1
              case measure => have := HK1.out; omega
              case rel => exact ⟨(wrap64 ((wrap64 (x1_1 + 1)) + 1)), (wrap64 (x5_1 + 1)), z4_26, z4_26, H', ⟨by have := HK1.out; omega⟩, ⟨by repeat (first | (with_reducible first | exact HB.out | apply below_alloc | apply pw_below_drewN | apply below_drew1) | exact HB.out)⟩⟩
            · rw [if_neg c8] at H
              have c8b0 : (((rd_T40 l0 x5_1).f1).toList == t104.toList) = false := beq_eq_false_iff_ne.mpr c8
              have c8b1 : (((rd_T40 l0 x5_1).f1).toList != t104.toList) = true := bne_iff_ne.mpr c8
              obtain rfl := Option.some.inj H
              try go_wp2
              have n0_ := Aside0.mk (below_drew1 HB.out)
              clear HB
              have HB := n0_
              clear n0_
              have p101 : 0 ≤ (x5_1 : Int) := of_decide_eq_true z4_25
              have q101 : x5_1 < (l0.length : Int) := of_decide_eq_true z4_25
              obtain ⟨ad101, e101, hx101_0, hx101_1⟩ := at_T40 HR0.out x5_1 p101 q101
              have hw101_1 := hx101_1
              have hw101_0 := hx101_0
              cases e101
              replace hx101_0 := (HB.out.cell (World.block_lt_of_cell? w _ hx101_0)).trans hx101_0
              replace hx101_1 := (HB.out.cell (World.block_lt_of_cell? w _ hx101_1)).trans hx101_1
              replace p101 := eq_true p101
              replace q101 := eq_true q101
              refine start_ (n := 8) (S := fun w' => w'.cell? (ad101.add ((x5_1).toNat * 2)) = some (.string ((rd_T40 l0 x5_1).f0)) ∧ w'.cell? ⟨(ad101.add ((x5_1).toNat * 2)).block, (ad101.add ((x5_1).toNat * 2)).off + 1, none⟩ = some (.string ((rd_T40 l0 x5_1).f1))) (ds := []) #[false, false, false, false, false, false, false, false] (by kernel_rfl) rfl rfl ⟨((HB.out.cell (World.block_lt_of_cell? w _ hw101_0)).trans hw101_0), ((HB.out.cell (World.block_lt_of_cell? w _ hw101_1)).trans hw101_1)⟩ (fun hHeld => ?_); refine with_tabW laws_heldAccountS.tab4 laws_heldAccountS.bits4 (fun HT_ HW_ => ?_)
              generalize wr.drew = w13 at HB hx101_0 hx101_1 hHeld ⊢
              refine pure_ (i := 0) (N := some 12) (v := _) (a' := _) laws_heldAccountS.q0 rfl rfl (any_of HT_.out (by kernel_rfl)) (fun _ _ _ h => h) (Or.inl ⟨by rfl, by intro w'; go_simp; with_reducible rfl⟩) z4_15 ?_
              refine pure_ (i := 1) (N := some 13) (v := _) (a' := _) laws_heldAccountS.q1 rfl rfl (any_of HT_.out (by kernel_rfl)) (fun _ _ _ h => h) (Or.inl ⟨by rfl, by intro w'; go_simp; with_reducible rfl⟩) z4_15 ?_
              refine pure_ (i := 2) (N := some 14) (v := _) (a' := _) laws_heldAccountS.q2 rfl rfl (any_of HT_.out (by kernel_rfl)) (fun _ _ _ h => h) (Or.inl ⟨by rfl, by intro w'; go_simp; with_reducible rfl⟩) z4_15 ?_
              refine pure_ (i := 3) (N := some 15) (v := _) (a' := _) laws_heldAccountS.q3 rfl rfl (any_of HT_.out (by kernel_rfl)) (fun _ _ _ h => h) (Or.inl ⟨by rfl, by intro w'; go_simp; with_reducible rfl⟩) z4_15 ?_
              refine pure_ (i := 5) (N := some 17) (v := _) (a' := _) laws_heldAccountS.q4 rfl rfl (any_of HT_.out (by kernel_rfl)) (fun _ _ _ h => h) (Or.inl ⟨by rfl, by intro w'; go_simp; with_reducible rfl⟩) z4_15 ?_
              refine take_ (i := 4) (N := some 16) (v := _) (a' := _) laws_heldAccountS.q5 rfl rfl (take_ofW HT_.out HW_.out (by kernel_rfl)) (fun _ _ _ h => h) (Or.inl ⟨by rfl, by rintro w' ⟨s0, s1⟩; go_simp; with_reducible rfl⟩) hHeld z4_15 ?_
              refine one_ (i := 6) (N := some 18) #[true, true, true, true, true, true, true, false] rfl rfl (one_of HT_.out (by kernel_rfl)) (by decide) (fun K hK => ?_)
              refine goes_ Try.func22 (by kernel_rfl) rfl #[.int .i64 x1_1] (by rfl) rfl rfl z4_4 ?_
              with_reducible refine (laws_markText.calls k1 x1_1 t102 _ A5.out).mono ?_
              rintro e w14 ⟨rfl, hb⟩
              refine ⟨_, rfl, ?_⟩
              have n0_ := Aside0.mk (below_step z4_5 hb)
              clear HB
              have HB := n0_
              clear n0_
              (try clear hb)
              (try clear hb2)
              (try clear hk)
              (try clear hi)
              refine hK.out _ _ ⟨((HB.out.cell (World.block_lt_of_cell? w _ hw101_0)).trans hw101_0), ((HB.out.cell (World.block_lt_of_cell? w _ hw101_1)).trans hw101_1)⟩ (fun hHeld => ?_)
              clear hK K
              refine norm_ (a' := ?_) ?_ ?_
              rotate_left
              · show Act.put _ (some 18) _ = _
                simp only [Act.put, List.setIfInBounds_toArray, List.set_cons_zero, List.set_cons_succ, i64_w, i32_w]
                rfl
              refine pure_ (i := 7) (N := some 19) (v := _) (a' := _) laws_heldAccountS.q6 rfl rfl (any_of HT_.out (by kernel_rfl)) (fun _ _ _ h => h) (Or.inl ⟨by rfl, by intro w'; go_simp; with_reducible rfl⟩) z4_15 ?_
              refine done_ (done_of HT_.out (by kernel_rfl)) ?_
              try go_wp2
              have n0_ := Aside0.mk (below_drew1 HB.out)
              clear HB
              have HB := n0_
              clear n0_
              have p103 : 0 ≤ (x5_1 : Int) := of_decide_eq_true z4_25
              have q103 : x5_1 < (l0.length : Int) := of_decide_eq_true z4_25
              obtain ⟨ad103, e103, hx103_0, hx103_1⟩ := at_T40 HR0.out x5_1 p103 q103
              have hw103_1 := hx103_1
              have hw103_0 := hx103_0
              obtain rfl : ad101 = ad103 := (by injection e103)
              replace hx103_0 := (HB.out.cell (World.block_lt_of_cell? w _ hx103_0)).trans hx103_0
              replace hx103_1 := (HB.out.cell (World.block_lt_of_cell? w _ hx103_1)).trans hx103_1
              replace p103 := eq_true p103
              replace q103 := eq_true q103
              refine start_ (n := 8) (S := fun w' => w'.cell? (ad101.add ((x5_1).toNat * 2)) = some (.string ((rd_T40 l0 x5_1).f0)) ∧ w'.cell? ⟨(ad101.add ((x5_1).toNat * 2)).block, (ad101.add ((x5_1).toNat * 2)).off + 1, none⟩ = some (.string ((rd_T40 l0 x5_1).f1))) (ds := []) #[false, false, false, false, false, false, false, false] (by kernel_rfl) rfl rfl ⟨((HB.out.cell (World.block_lt_of_cell? w _ hw103_0)).trans hw103_0), ((HB.out.cell (World.block_lt_of_cell? w _ hw103_1)).trans hw103_1)⟩ (fun hHeld => ?_); refine with_tabW laws_heldAccountS.tab7 laws_heldAccountS.bits7 (fun HT_ HW_ => ?_)
              generalize w14.drew = w15 at HB hx103_0 hx103_1 hHeld ⊢
              refine pure_ (i := 0) (N := some 22) (v := _) (a' := _) laws_heldAccountS.q0 rfl rfl (any_of HT_.out (by kernel_rfl)) (fun _ _ _ h => h) (Or.inl ⟨by rfl, by intro w'; go_simp; with_reducible rfl⟩) z4_15 ?_
              refine pure_ (i := 1) (N := some 23) (v := _) (a' := _) laws_heldAccountS.q1 rfl rfl (any_of HT_.out (by kernel_rfl)) (fun _ _ _ h => h) (Or.inl ⟨by rfl, by intro w'; go_simp; with_reducible rfl⟩) z4_15 ?_
              refine pure_ (i := 2) (N := some 24) (v := _) (a' := _) laws_heldAccountS.q2 rfl rfl (any_of HT_.out (by kernel_rfl)) (fun _ _ _ h => h) (Or.inl ⟨by rfl, by intro w'; go_simp; with_reducible rfl⟩) z4_15 ?_
              refine pure_ (i := 3) (N := some 25) (v := _) (a' := _) laws_heldAccountS.q3 rfl rfl (any_of HT_.out (by kernel_rfl)) (fun _ _ _ h => h) (Or.inl ⟨by rfl, by intro w'; go_simp; with_reducible rfl⟩) z4_15 ?_
              refine pure_ (i := 5) (N := some 27) (v := _) (a' := _) laws_heldAccountS.q4 rfl rfl (any_of HT_.out (by kernel_rfl)) (fun _ _ _ h => h) (Or.inl ⟨by rfl, by intro w'; go_simp; with_reducible rfl⟩) z4_15 ?_
              refine take_ (i := 4) (N := some 26) (v := _) (a' := _) laws_heldAccountS.q5 rfl rfl (take_ofW HT_.out HW_.out (by kernel_rfl)) (fun _ _ _ h => h) (Or.inl ⟨by rfl, by rintro w' ⟨s0, s1⟩; go_simp; with_reducible rfl⟩) hHeld z4_15 ?_
              refine one_ (i := 6) (N := some 28) #[true, true, true, true, true, true, true, false] rfl rfl (one_of HT_.out (by kernel_rfl)) (by decide) (fun K hK => ?_)
              refine goes_ Try.func22 (by kernel_rfl) rfl #[.int .i64 (wrap64 (x1_1 + 1))] (by rfl) rfl rfl z4_4 ?_
              with_reducible refine (laws_markText.calls k1 (wrap64 (x1_1 + 1)) t104 _ A7.out).mono ?_
              rintro e w16 ⟨rfl, hb⟩
              refine ⟨_, rfl, ?_⟩
              have n0_ := Aside0.mk (below_step z4_5 hb)
              clear HB
              have HB := n0_
              clear n0_
              (try clear hb)
              (try clear hb2)
              (try clear hk)
              (try clear hi)
              refine hK.out _ _ ⟨((HB.out.cell (World.block_lt_of_cell? w _ hw103_0)).trans hw103_0), ((HB.out.cell (World.block_lt_of_cell? w _ hw103_1)).trans hw103_1)⟩ (fun hHeld => ?_)
              clear hK K
              refine norm_ (a' := ?_) ?_ ?_
              rotate_left
              · show Act.put _ (some 28) _ = _
                simp only [Act.put, List.setIfInBounds_toArray, List.set_cons_zero, List.set_cons_succ, i64_w, i32_w]
                rfl
              refine pure_ (i := 7) (N := some 29) (v := _) (a' := _) laws_heldAccountS.q6 rfl rfl (any_of HT_.out (by kernel_rfl)) (fun _ _ _ h => h) (Or.inl ⟨by rfl, by intro w'; go_simp; with_reducible rfl⟩) z4_15 ?_
              refine done_ (done_of HT_.out (by kernel_rfl)) ?_
              try go_wp2
              go_ret
              exact ⟨by first | rfl | (simp [errW_none, errW_some] <;> rfl) | (simp [*, errW_none, errW_some] <;> rfl), by repeat (first | (with_reducible first | exact HB.out | apply below_alloc | apply pw_below_drewN | apply below_drew1) | exact HB.out)⟩
          · rw [if_neg c6] at H
            have c6b0 : (((rd_T40 l0 x5_1).f0).toList == t102.toList) = false := beq_eq_false_iff_ne.mpr c6
            have c6b1 : (((rd_T40 l0 x5_1).f0).toList != t102.toList) = true := bne_iff_ne.mpr c6
            obtain rfl := Option.some.inj H
            try go_wp2
            have n0_ := Aside0.mk (below_drew1 HB.out)
            clear HB
            have HB := n0_
            clear n0_
            have p101 : 0 ≤ (x5_1 : Int) := of_decide_eq_true z4_25
            have q101 : x5_1 < (l0.length : Int) := of_decide_eq_true z4_25
            obtain ⟨ad101, e101, hx101_0, hx101_1⟩ := at_T40 HR0.out x5_1 p101 q101
            have hw101_1 := hx101_1
            have hw101_0 := hx101_0
            cases e101
            replace hx101_0 := (HB.out.cell (World.block_lt_of_cell? w _ hx101_0)).trans hx101_0
            replace hx101_1 := (HB.out.cell (World.block_lt_of_cell? w _ hx101_1)).trans hx101_1
            replace p101 := eq_true p101
            replace q101 := eq_true q101
            refine start_ (n := 8) (S := fun w' => w'.cell? (ad101.add ((x5_1).toNat * 2)) = some (.string ((rd_T40 l0 x5_1).f0)) ∧ w'.cell? ⟨(ad101.add ((x5_1).toNat * 2)).block, (ad101.add ((x5_1).toNat * 2)).off + 1, none⟩ = some (.string ((rd_T40 l0 x5_1).f1))) (ds := []) #[false, false, false, false, false, false, false, false] (by kernel_rfl) rfl rfl ⟨((HB.out.cell (World.block_lt_of_cell? w _ hw101_0)).trans hw101_0), ((HB.out.cell (World.block_lt_of_cell? w _ hw101_1)).trans hw101_1)⟩ (fun hHeld => ?_); refine with_tabW laws_heldAccountS.tab4 laws_heldAccountS.bits4 (fun HT_ HW_ => ?_)
            generalize wr.drew = w17 at HB hx101_0 hx101_1 hHeld ⊢
            refine pure_ (i := 0) (N := some 12) (v := _) (a' := _) laws_heldAccountS.q0 rfl rfl (any_of HT_.out (by kernel_rfl)) (fun _ _ _ h => h) (Or.inl ⟨by rfl, by intro w'; go_simp; with_reducible rfl⟩) z4_15 ?_
            refine pure_ (i := 1) (N := some 13) (v := _) (a' := _) laws_heldAccountS.q1 rfl rfl (any_of HT_.out (by kernel_rfl)) (fun _ _ _ h => h) (Or.inl ⟨by rfl, by intro w'; go_simp; with_reducible rfl⟩) z4_15 ?_
            refine pure_ (i := 2) (N := some 14) (v := _) (a' := _) laws_heldAccountS.q2 rfl rfl (any_of HT_.out (by kernel_rfl)) (fun _ _ _ h => h) (Or.inl ⟨by rfl, by intro w'; go_simp; with_reducible rfl⟩) z4_15 ?_
            refine pure_ (i := 3) (N := some 15) (v := _) (a' := _) laws_heldAccountS.q3 rfl rfl (any_of HT_.out (by kernel_rfl)) (fun _ _ _ h => h) (Or.inl ⟨by rfl, by intro w'; go_simp; with_reducible rfl⟩) z4_15 ?_
            refine pure_ (i := 5) (N := some 17) (v := _) (a' := _) laws_heldAccountS.q4 rfl rfl (any_of HT_.out (by kernel_rfl)) (fun _ _ _ h => h) (Or.inl ⟨by rfl, by intro w'; go_simp; with_reducible rfl⟩) z4_15 ?_
            refine take_ (i := 4) (N := some 16) (v := _) (a' := _) laws_heldAccountS.q5 rfl rfl (take_ofW HT_.out HW_.out (by kernel_rfl)) (fun _ _ _ h => h) (Or.inl ⟨by rfl, by rintro w' ⟨s0, s1⟩; go_simp; with_reducible rfl⟩) hHeld z4_15 ?_
            refine one_ (i := 6) (N := some 18) #[true, true, true, true, true, true, true, false] rfl rfl (one_of HT_.out (by kernel_rfl)) (by decide) (fun K hK => ?_)
            refine goes_ Try.func22 (by kernel_rfl) rfl #[.int .i64 x1_1] (by rfl) rfl rfl z4_4 ?_
            with_reducible refine (laws_markText.calls k1 x1_1 t102 _ A5.out).mono ?_
            rintro e w18 ⟨rfl, hb⟩
            refine ⟨_, rfl, ?_⟩
            have n0_ := Aside0.mk (below_step z4_5 hb)
            clear HB
            have HB := n0_
            clear n0_
            (try clear hb)
            (try clear hb2)
            (try clear hk)
            (try clear hi)
            refine hK.out _ _ ⟨((HB.out.cell (World.block_lt_of_cell? w _ hw101_0)).trans hw101_0), ((HB.out.cell (World.block_lt_of_cell? w _ hw101_1)).trans hw101_1)⟩ (fun hHeld => ?_)
            clear hK K
            refine norm_ (a' := ?_) ?_ ?_
            rotate_left
            · show Act.put _ (some 18) _ = _
              simp only [Act.put, List.setIfInBounds_toArray, List.set_cons_zero, List.set_cons_succ, i64_w, i32_w]
              rfl
            refine pure_ (i := 7) (N := some 19) (v := _) (a' := _) laws_heldAccountS.q6 rfl rfl (any_of HT_.out (by kernel_rfl)) (fun _ _ _ h => h) (Or.inl ⟨by rfl, by intro w'; go_simp; with_reducible rfl⟩) z4_15 ?_
            refine done_ (done_of HT_.out (by kernel_rfl)) ?_
            try go_wp2
            go_ret
            exact ⟨by first | rfl | (simp [errW_none, errW_some] <;> rfl) | (simp [*, errW_none, errW_some] <;> rfl), by repeat (first | (with_reducible first | exact HB.out | apply below_alloc | apply pw_below_drewN | apply below_drew1) | exact HB.out)⟩
        · rw [if_neg c4] at H
          exact absurd H (by simp)
      · rw [if_neg c3] at H
        have c3b0 : decide (x5_1 < (l0.length : Int)) = false := decide_eq_false c3
        clear c3
        obtain rfl := Option.some.inj H
        go_wp2
        go_ret
        exact ⟨by first | rfl | (simp [errW_none, errW_some] <;> rfl) | (simp [*, errW_none, errW_some] <;> rfl), by repeat (first | (with_reducible first | exact HB.out | apply below_alloc | apply pw_below_drewN | apply below_drew1) | exact HB.out)⟩

end Go.Proofs.Ytgjecacalpaacaa.PAll
namespace Go.Proofs.Ytgjecacalpaacaa.PAll
open Go.RowKit Go.Proofs.YtgjecacalpaacaaW.XWords Go.Proofs.YtgjecacalpaacaaW.PrintWords Go.Proofs.YtgjecacalpaacaaW.PrintLast Go.Proofs.YtgjecacalpaacaaW.PrintMore
attribute [local go_sem] isSome_setCell max2_int min2_int max_two min_two max_three min_three max_four min_four   -- for this text's walks alone
set_option linter.unusedVariables false
set_option linter.unusedSimpArgs false


def laws_heldEntryS.f (l0 : List S53) (a1 : Int) : Option (Int) := if l0.length = 0 then some a1 else none
set_option maxHeartbeats 8000000 in
set_option maxRecDepth 100000 in
theorem laws_heldEntryS.calls (A0 : Option Addr) (c0 : Nat) (l0 : List S53) (a1 : Int) (r : Int) (w : World) (hr0 : Kd.C k53 w A0 l0.length l0) (hc0 : l0.length ≤ c0) (h : laws_heldEntryS.f l0 a1 = some r) :
    Calls Try.prog 26 #[.slice A0 l0.length c0, .int .i64 a1] w fun e w' => e = .returned (.int .i64 r) ∧ Drawn0 w w' := by
  unfold laws_heldEntryS.f at h
  by_cases hl : l0.length = 0
  case neg => rw [if_neg hl] at h; cases h
  rw [if_pos hl] at h
  obtain rfl := Option.some.inj h
  rw [hl]
  clear h hr0 hc0 hl
  go_enter Try.func26, Try.ntmps26
  go_wp2
  go_loopg [1, 5] 1 (fun kq v1 v5 w' => v1 = .int .i64 a1 ∧ v5 = .int .i64 0 ∧ Drawn0 w w')
  case atStart => exact ⟨rfl, rfl, by repeat (first | exact Drawn0.refl _ | apply Drawn0.step)⟩
  case round =>
    obtain ⟨rfl, rfl, ⟨nd, rfl⟩⟩ := hrel
    go_wp2
    go_ret
    exact ⟨rfl, by repeat (first | exact Drawn0.refl _ | apply Drawn0.step)⟩


end Go.Proofs.Ytgjecacalpaacaa.PAll
namespace Go.Proofs.Ytgjecacalpaacaa.PAll
open Go.RowKit Go.Proofs.YtgjecacalpaacaaW.XWords Go.Proofs.YtgjecacalpaacaaW.PrintWords Go.Proofs.YtgjecacalpaacaaW.PrintLast Go.Proofs.YtgjecacalpaacaaW.PrintMore
attribute [local go_sem] isSome_setCell max2_int min2_int max_two min_two max_three min_three max_four min_four   -- for this text's walks alone
set_option linter.unusedVariables false
set_option linter.unusedSimpArgs false


def laws_heldSessS.f (l0 : List S61) (a1 : Int) : Option (Int) := if l0.length = 0 then some a1 else none
set_option maxHeartbeats 8000000 in
set_option maxRecDepth 100000 in
theorem laws_heldSessS.calls (A0 : Option Addr) (c0 : Nat) (l0 : List S61) (a1 : Int) (r : Int) (w : World) (hr0 : Kd.C k61 w A0 l0.length l0) (hc0 : l0.length ≤ c0) (h : laws_heldSessS.f l0 a1 = some r) :
    Calls Try.prog 27 #[.slice A0 l0.length c0, .int .i64 a1] w fun e w' => e = .returned (.int .i64 r) ∧ Drawn0 w w' := by
  unfold laws_heldSessS.f at h
  by_cases hl : l0.length = 0
  case neg => rw [if_neg hl] at h; cases h
  rw [if_pos hl] at h
  obtain rfl := Option.some.inj h
  rw [hl]
  clear h hr0 hc0 hl
  go_enter Try.func27, Try.ntmps27
  go_wp2
  go_loopg [1, 5] 1 (fun kq v1 v5 w' => v1 = .int .i64 a1 ∧ v5 = .int .i64 0 ∧ Drawn0 w w')
  case atStart => exact ⟨rfl, rfl, by repeat (first | exact Drawn0.refl _ | apply Drawn0.step)⟩
  case round =>
    obtain ⟨rfl, rfl, ⟨nd, rfl⟩⟩ := hrel
    go_wp2
    go_ret
    exact ⟨rfl, by repeat (first | exact Drawn0.refl _ | apply Drawn0.step)⟩


end Go.Proofs.Ytgjecacalpaacaa.PAll
namespace Go.Proofs.Ytgjecacalpaacaa.PAll
open Go.RowKit Go.Proofs.YtgjecacalpaacaaW.XWords Go.Proofs.YtgjecacalpaacaaW.PrintWords Go.Proofs.YtgjecacalpaacaaW.PrintLast Go.Proofs.YtgjecacalpaacaaW.PrintMore
attribute [local go_sem] isSome_setCell max2_int min2_int max_two min_two max_three min_three max_four min_four   -- for this text's walks alone
set_option linter.unusedVariables false
set_option linter.unusedSimpArgs false

def laws_heldServer.f (k : Nat) (l0_0 : List (S40)) (l0_1 : List (S53)) (a0_2 : ByteArray) (l0_3 : List (S61)) (a0_4 : Int) (a1 : Int) : Option (Int) := (laws_heldAccountS.f k l0_0 a1).bind fun t102 => (if t102 < 0 then (some (-1)) else ((laws_heldEntryS.f l0_1 t102).bind fun t103 => (if t103 < 0 then (some (-1)) else ((laws_heldSessS.f l0_3 t103).bind fun t104 => (if t104 < 0 then (some (-1)) else (some t104))))))
theorem laws_heldServer.mono : ∀ a0 a1 a2 a3 a4 a5 k, LeO (laws_heldServer.f k a0 a1 a2 a3 a4 a5) (laws_heldServer.f (k + 1) a0 a1 a2 a3 a4 a5) := by
  intro a0 a1 a2 a3 a4 a5 k
  unfold laws_heldServer.f
  repeat' first
      | (with_reducible exact laws_heldAccountS.mono _ _ _)
      | (with_reducible exact LeO.refl _)
      | (with_reducible exact LeO.none _)
      | (with_reducible refine LeO.ite ?_ ?_)
      | (with_reducible refine LeO.bind ?_ (fun _ => ?_))
      | exact laws_heldAccountS.mono _ _ _
      | exact LeO.none _
      | refine LeO.ite ?_ ?_
      | refine LeO.bind ?_ (fun _ => ?_)
set_option maxHeartbeats 8000000 in
set_option maxRecDepth 100000 in
theorem laws_heldServer.calls (k : Nat) (A0_0 : Option Addr) (c0_0 : Nat) (l0_0 : List (S40)) (A0_1 : Option Addr) (c0_1 : Nat) (l0_1 : List (S53)) (a0_2 : ByteArray) (A0_3 : Option Addr) (c0_3 : Nat) (l0_3 : List (S61)) (a0_4 : Int) (a1 : Int) (r : Int) (w : World) (hr0_0 : Kd.C k40 w A0_0 l0_0.length l0_0) (hc0_0 : l0_0.length ≤ c0_0) (hr0_1 : Kd.C k53 w A0_1 l0_1.length l0_1) (hc0_1 : l0_1.length ≤ c0_1) (hr0_3 : Kd.C k61 w A0_3 l0_3.length l0_3) (hc0_3 : l0_3.length ≤ c0_3) (h : laws_heldServer.f k l0_0 l0_1 a0_2 l0_3 a0_4 a1 = some r) :
    Calls Try.prog 12 #[.agg #[.slice A0_0 l0_0.length c0_0, .slice A0_1 l0_1.length c0_1, .string a0_2, .slice A0_3 l0_3.length c0_3, .int .i64 a0_4], .int .i64 a1] w fun e w' => e = .returned (.int .i64 r) ∧ Below w.heap.size w w' := by
  have hu28 := Try.underlying28
  have HR0_0 := Aside0.mk hr0_0
  have HC0_0 := Aside0.mk hc0_0
  clear hr0_0 hc0_0
  have HR0_1 := Aside0.mk hr0_1
  have HC0_1 := Aside0.mk hc0_1
  clear hr0_1 hc0_1
  have HR0_3 := Aside0.mk hr0_3
  have HC0_3 := Aside0.mk hc0_3
  clear hr0_3 hc0_3
  have HB := Aside0.mk (Below.refl w.heap.size w)
  have H : ((laws_heldAccountS.f k l0_0 a1).bind fun t102 => (if t102 < 0 then (some (-1)) else ((laws_heldEntryS.f l0_1 t102).bind fun t103 => (if t103 < 0 then (some (-1)) else ((laws_heldSessS.f l0_3 t103).bind fun t104 => (if t104 < 0 then (some (-1)) else (some t104))))))) = some r := h
  clear h
  replace H := Option.bind_eq_some_iff.mp H
  obtain ⟨t102, A30, H⟩ := H
  replace H : (if t102 < 0 then (some (-1)) else ((laws_heldEntryS.f l0_1 t102).bind fun t103 => (if t103 < 0 then (some (-1)) else ((laws_heldSessS.f l0_3 t103).bind fun t104 => (if t104 < 0 then (some (-1)) else (some t104)))))) = some r := H
  have A3 := Aside0.mk A30
  clear A30
  by_cases c4 : t102 < 0
  · rw [if_pos c4] at H
    have c4b0 : decide (t102 < 0) = true := decide_eq_true c4
    clear c4
    obtain rfl := Option.some.inj H
    go_enter Try.func12, Try.ntmps12
    go_wp2_with (first | ((with_reducible refine gate_dst (N := 2) rfl ?_); refine box_event ?hg (N := 2) ?hd (cs := #[.slice A0_0 l0_0.length c0_0, .slice A0_1 l0_1.length c0_1, .string a0_2, .slice A0_3 l0_3.length c0_3, .int .i64 a0_4]) (t := 28) ?hr ?_; (case hd => rfl); (case hg => rfl); (case hr => first | (go_simp; done) | (go_simp; rfl)); intro gb101 hg w5 hbox hb; have n0_ := Aside0.mk (below_step z4_5 hb); have n1_ := Aside0.mk (hbox); have n2_ := Aside0.mk ((by rw [hg]; exact (below_size z4_5) : w.heap.size ≤ gb101)); have n3_ := Aside0.mk ((by rw [hg]; exact (below_size z4_5) : w.heap.size ≤ gb101)); clear HB; have HB := n0_; have BK101 := n1_; have GW101 := n2_; have GE101 := n3_; clear n0_ n1_ n2_ n3_; clear hb hbox hg; have hcz6_0 : w5.cell? ⟨gb101, 0, none⟩ = some (.slice A0_0 l0_0.length c0_0) := (blk_cell BK101.out 0).trans rfl; have hcz6_1 : w5.cell? ⟨gb101, 1, none⟩ = some (.slice A0_1 l0_1.length c0_1) := (blk_cell BK101.out 1).trans rfl; have hcz6_2 : w5.cell? ⟨gb101, 2, none⟩ = some (.string a0_2) := (blk_cell BK101.out 2).trans rfl; have hcz6_3 : w5.cell? ⟨gb101, 3, none⟩ = some (.slice A0_3 l0_3.length c0_3) := (blk_cell BK101.out 3).trans rfl; have hcz6_4 : w5.cell? ⟨gb101, 4, none⟩ = some (.int .i64 a0_4) := (blk_cell BK101.out 4).trans rfl; have hfz6_0 := blk_frozen BK101.out 0; have hfz6_1 := blk_frozen BK101.out 1; have hfz6_2 := blk_frozen BK101.out 2; have hfz6_3 := blk_frozen BK101.out 3; have hfz6_4 := blk_frozen BK101.out 4) | ((with_reducible refine gate_callee (f := 25) rfl ?_); refine goesL_ (some 8) rfl rfl Try.func25 (by kernel_rfl) rfl #[.slice A0_0 l0_0.length c0_0, .int .i64 a1] rfl z4_4 ?_; (with_reducible refine (laws_heldAccountS.calls k _ _ l0_0 a1 t102 _ ?side1 ?side2 A3.out).mono ?_); (case side1 => repeat (first | exact (Kd.C_below HR0_0.out HB.out) | (with_reducible refine Kd.C_alloc ?_ _) | (with_reducible refine Kd.C_drewN ?_ _) | (with_reducible refine Kd.C_drew ?_))); (case side2 => exact HC0_0.out); rintro e w7 ⟨rfl, hb⟩; refine ⟨_, rfl, ?_⟩; have n0_ := Aside0.mk (blk_below (g := gb101) (o := .cells #[.slice A0_0 l0_0.length c0_0, .slice A0_1 l0_1.length c0_1, .string a0_2, .slice A0_3 l0_3.length c0_3, .int .i64 a0_4] 28 (0, 0)) z4_6 hb); have n1_ := Aside0.mk (below_step z4_2 hb); clear BK101; clear HB; have BK101 := n0_; have HB := n1_; clear n0_ n1_; (try clear hb); (try clear hb2); (try clear hk); (try clear hi)))
    go_ret
    exact ⟨by first | rfl | (simp [errW_none, errW_some] <;> rfl) | (simp [*, errW_none, errW_some] <;> rfl), by repeat (first | (with_reducible first | exact HB.out | apply below_alloc | apply pw_below_drewN | apply below_drew1 | refine below_set ?_ GE101.out) | exact HB.out)⟩
  · rw [if_neg c4] at H
    have c4b0 : decide (t102 < 0) = false := decide_eq_false c4
    clear c4
    replace H := Option.bind_eq_some_iff.mp H
    obtain ⟨t103, A80, H⟩ := H
    replace H : (if t103 < 0 then (some (-1)) else ((laws_heldSessS.f l0_3 t103).bind fun t104 => (if t104 < 0 then (some (-1)) else (some t104)))) = some r := H
    have A8 := Aside0.mk A80
    clear A80
    by_cases c9 : t103 < 0
    · rw [if_pos c9] at H
      have c9b0 : decide (t103 < 0) = true := decide_eq_true c9
      clear c9
      obtain rfl := Option.some.inj H
      go_enter Try.func12, Try.ntmps12
      go_wp2_with (first | ((with_reducible refine gate_dst (N := 2) rfl ?_); refine box_event ?hg (N := 2) ?hd (cs := #[.slice A0_0 l0_0.length c0_0, .slice A0_1 l0_1.length c0_1, .string a0_2, .slice A0_3 l0_3.length c0_3, .int .i64 a0_4]) (t := 28) ?hr ?_; (case hd => rfl); (case hg => rfl); (case hr => first | (go_simp; done) | (go_simp; rfl)); intro gb101 hg w10 hbox hb; have n0_ := Aside0.mk (below_step z4_5 hb); have n1_ := Aside0.mk (hbox); have n2_ := Aside0.mk ((by rw [hg]; exact (below_size z4_5) : w.heap.size ≤ gb101)); have n3_ := Aside0.mk ((by rw [hg]; exact (below_size z4_5) : w.heap.size ≤ gb101)); clear HB; have HB := n0_; have BK101 := n1_; have GW101 := n2_; have GE101 := n3_; clear n0_ n1_ n2_ n3_; clear hb hbox hg; have hcz11_0 : w10.cell? ⟨gb101, 0, none⟩ = some (.slice A0_0 l0_0.length c0_0) := (blk_cell BK101.out 0).trans rfl; have hcz11_1 : w10.cell? ⟨gb101, 1, none⟩ = some (.slice A0_1 l0_1.length c0_1) := (blk_cell BK101.out 1).trans rfl; have hcz11_2 : w10.cell? ⟨gb101, 2, none⟩ = some (.string a0_2) := (blk_cell BK101.out 2).trans rfl; have hcz11_3 : w10.cell? ⟨gb101, 3, none⟩ = some (.slice A0_3 l0_3.length c0_3) := (blk_cell BK101.out 3).trans rfl; have hcz11_4 : w10.cell? ⟨gb101, 4, none⟩ = some (.int .i64 a0_4) := (blk_cell BK101.out 4).trans rfl; have hfz11_0 := blk_frozen BK101.out 0; have hfz11_1 := blk_frozen BK101.out 1; have hfz11_2 := blk_frozen BK101.out 2; have hfz11_3 := blk_frozen BK101.out 3; have hfz11_4 := blk_frozen BK101.out 4) | ((with_reducible refine gate_callee (f := 25) rfl ?_); refine goesL_ (some 8) rfl rfl Try.func25 (by kernel_rfl) rfl #[.slice A0_0 l0_0.length c0_0, .int .i64 a1] rfl z4_4 ?_; (with_reducible refine (laws_heldAccountS.calls k _ _ l0_0 a1 t102 _ ?side1 ?side2 A3.out).mono ?_); (case side1 => repeat (first | exact (Kd.C_below HR0_0.out HB.out) | (with_reducible refine Kd.C_alloc ?_ _) | (with_reducible refine Kd.C_drewN ?_ _) | (with_reducible refine Kd.C_drew ?_))); (case side2 => exact HC0_0.out); rintro e w12 ⟨rfl, hb⟩; refine ⟨_, rfl, ?_⟩; have n0_ := Aside0.mk (blk_below (g := gb101) (o := .cells #[.slice A0_0 l0_0.length c0_0, .slice A0_1 l0_1.length c0_1, .string a0_2, .slice A0_3 l0_3.length c0_3, .int .i64 a0_4] 28 (0, 0)) z4_6 hb); have n1_ := Aside0.mk (below_step z4_2 hb); clear BK101; clear HB; have BK101 := n0_; have HB := n1_; clear n0_ n1_; (try clear hb); (try clear hb2); (try clear hk); (try clear hi); have hcz13_0 : w12.cell? ⟨gb101, 0, none⟩ = some (.slice A0_0 l0_0.length c0_0) := (blk_cell BK101.out 0).trans rfl; have hcz13_1 : w12.cell? ⟨gb101, 1, none⟩ = some (.slice A0_1 l0_1.length c0_1) := (blk_cell BK101.out 1).trans rfl; have hcz13_2 : w12.cell? ⟨gb101, 2, none⟩ = some (.string a0_2) := (blk_cell BK101.out 2).trans rfl; have hcz13_3 : w12.cell? ⟨gb101, 3, none⟩ = some (.slice A0_3 l0_3.length c0_3) := (blk_cell BK101.out 3).trans rfl; have hcz13_4 : w12.cell? ⟨gb101, 4, none⟩ = some (.int .i64 a0_4) := (blk_cell BK101.out 4).trans rfl; have hfz13_0 := blk_frozen BK101.out 0; have hfz13_1 := blk_frozen BK101.out 1; have hfz13_2 := blk_frozen BK101.out 2; have hfz13_3 := blk_frozen BK101.out 3; have hfz13_4 := blk_frozen BK101.out 4) | ((with_reducible refine gate_callee (f := 26) rfl ?_); refine goesL_ (some 14) rfl rfl Try.func26 (by kernel_rfl) rfl #[.slice A0_1 l0_1.length c0_1, .int .i64 t102] rfl z4_4 ?_; (with_reducible refine (laws_heldEntryS.calls _ _ l0_1 t102 t103 _ ?side1 ?side2 A8.out).mono ?_); (case side1 => repeat (first | exact (Kd.C_below HR0_1.out HB.out) | (with_reducible refine Kd.C_alloc ?_ _) | (with_reducible refine Kd.C_drewN ?_ _) | (with_reducible refine Kd.C_drew ?_))); (case side2 => exact HC0_1.out); rintro e w' ⟨rfl, ⟨nd, rfl⟩⟩; refine ⟨_, rfl, ?_⟩))
      go_ret
      exact ⟨by first | rfl | (simp [errW_none, errW_some] <;> rfl) | (simp [*, errW_none, errW_some] <;> rfl), by repeat (first | (with_reducible first | exact HB.out | apply below_alloc | apply pw_below_drewN | apply below_drew1 | refine below_set ?_ GE101.out) | exact HB.out)⟩
    · rw [if_neg c9] at H
      have c9b0 : decide (t103 < 0) = false := decide_eq_false c9
      clear c9
      replace H := Option.bind_eq_some_iff.mp H
      obtain ⟨t104, A140, H⟩ := H
      replace H : (if t104 < 0 then (some (-1)) else (some t104)) = some r := H
      have A14 := Aside0.mk A140
      clear A140
      by_cases c15 : t104 < 0
      · rw [if_pos c15] at H
        have c15b0 : decide (t104 < 0) = true := decide_eq_true c15
        clear c15
        obtain rfl := Option.some.inj H
        go_enter Try.func12, Try.ntmps12
        go_wp2_with (first | ((with_reducible refine gate_dst (N := 2) rfl ?_); refine box_event ?hg (N := 2) ?hd (cs := #[.slice A0_0 l0_0.length c0_0, .slice A0_1 l0_1.length c0_1, .string a0_2, .slice A0_3 l0_3.length c0_3, .int .i64 a0_4]) (t := 28) ?hr ?_; (case hd => rfl); (case hg => rfl); (case hr => first | (go_simp; done) | (go_simp; rfl)); intro gb101 hg w16 hbox hb; have n0_ := Aside0.mk (below_step z4_5 hb); have n1_ := Aside0.mk (hbox); have n2_ := Aside0.mk ((by rw [hg]; exact (below_size z4_5) : w.heap.size ≤ gb101)); have n3_ := Aside0.mk ((by rw [hg]; exact (below_size z4_5) : w.heap.size ≤ gb101)); clear HB; have HB := n0_; have BK101 := n1_; have GW101 := n2_; have GE101 := n3_; clear n0_ n1_ n2_ n3_; clear hb hbox hg; have hcz17_0 : w16.cell? ⟨gb101, 0, none⟩ = some (.slice A0_0 l0_0.length c0_0) := (blk_cell BK101.out 0).trans rfl; have hcz17_1 : w16.cell? ⟨gb101, 1, none⟩ = some (.slice A0_1 l0_1.length c0_1) := (blk_cell BK101.out 1).trans rfl; have hcz17_2 : w16.cell? ⟨gb101, 2, none⟩ = some (.string a0_2) := (blk_cell BK101.out 2).trans rfl; have hcz17_3 : w16.cell? ⟨gb101, 3, none⟩ = some (.slice A0_3 l0_3.length c0_3) := (blk_cell BK101.out 3).trans rfl; have hcz17_4 : w16.cell? ⟨gb101, 4, none⟩ = some (.int .i64 a0_4) := (blk_cell BK101.out 4).trans rfl; have hfz17_0 := blk_frozen BK101.out 0; have hfz17_1 := blk_frozen BK101.out 1; have hfz17_2 := blk_frozen BK101.out 2; have hfz17_3 := blk_frozen BK101.out 3; have hfz17_4 := blk_frozen BK101.out 4) | ((with_reducible refine gate_callee (f := 25) rfl ?_); refine goesL_ (some 8) rfl rfl Try.func25 (by kernel_rfl) rfl #[.slice A0_0 l0_0.length c0_0, .int .i64 a1] rfl z4_4 ?_; (with_reducible refine (laws_heldAccountS.calls k _ _ l0_0 a1 t102 _ ?side1 ?side2 A3.out).mono ?_); (case side1 => repeat (first | exact (Kd.C_below HR0_0.out HB.out) | (with_reducible refine Kd.C_alloc ?_ _) | (with_reducible refine Kd.C_drewN ?_ _) | (with_reducible refine Kd.C_drew ?_))); (case side2 => exact HC0_0.out); rintro e w18 ⟨rfl, hb⟩; refine ⟨_, rfl, ?_⟩; have n0_ := Aside0.mk (blk_below (g := gb101) (o := .cells #[.slice A0_0 l0_0.length c0_0, .slice A0_1 l0_1.length c0_1, .string a0_2, .slice A0_3 l0_3.length c0_3, .int .i64 a0_4] 28 (0, 0)) z4_6 hb); have n1_ := Aside0.mk (below_step z4_2 hb); clear BK101; clear HB; have BK101 := n0_; have HB := n1_; clear n0_ n1_; (try clear hb); (try clear hb2); (try clear hk); (try clear hi); have hcz19_0 : w18.cell? ⟨gb101, 0, none⟩ = some (.slice A0_0 l0_0.length c0_0) := (blk_cell BK101.out 0).trans rfl; have hcz19_1 : w18.cell? ⟨gb101, 1, none⟩ = some (.slice A0_1 l0_1.length c0_1) := (blk_cell BK101.out 1).trans rfl; have hcz19_2 : w18.cell? ⟨gb101, 2, none⟩ = some (.string a0_2) := (blk_cell BK101.out 2).trans rfl; have hcz19_3 : w18.cell? ⟨gb101, 3, none⟩ = some (.slice A0_3 l0_3.length c0_3) := (blk_cell BK101.out 3).trans rfl; have hcz19_4 : w18.cell? ⟨gb101, 4, none⟩ = some (.int .i64 a0_4) := (blk_cell BK101.out 4).trans rfl; have hfz19_0 := blk_frozen BK101.out 0; have hfz19_1 := blk_frozen BK101.out 1; have hfz19_2 := blk_frozen BK101.out 2; have hfz19_3 := blk_frozen BK101.out 3; have hfz19_4 := blk_frozen BK101.out 4) | ((with_reducible refine gate_callee (f := 26) rfl ?_); refine goesL_ (some 14) rfl rfl Try.func26 (by kernel_rfl) rfl #[.slice A0_1 l0_1.length c0_1, .int .i64 t102] rfl z4_4 ?_; (with_reducible refine (laws_heldEntryS.calls _ _ l0_1 t102 t103 _ ?side1 ?side2 A8.out).mono ?_); (case side1 => repeat (first | exact (Kd.C_below HR0_1.out HB.out) | (with_reducible refine Kd.C_alloc ?_ _) | (with_reducible refine Kd.C_drewN ?_ _) | (with_reducible refine Kd.C_drew ?_))); (case side2 => exact HC0_1.out); rintro e w' ⟨rfl, ⟨nd, rfl⟩⟩; refine ⟨_, rfl, ?_⟩) | ((with_reducible refine gate_callee (f := 27) rfl ?_); refine goesL_ (some 20) rfl rfl Try.func27 (by kernel_rfl) rfl #[.slice A0_3 l0_3.length c0_3, .int .i64 t103] rfl z4_4 ?_; (with_reducible refine (laws_heldSessS.calls _ _ l0_3 t103 t104 _ ?side1 ?side2 A14.out).mono ?_); (case side1 => repeat (first | exact (Kd.C_below HR0_3.out z4_2) | (with_reducible refine Kd.C_alloc ?_ _) | (with_reducible refine Kd.C_drewN ?_ _) | (with_reducible refine Kd.C_drew ?_))); (case side2 => exact HC0_3.out); rintro e w' ⟨rfl, ⟨nd, rfl⟩⟩; refine ⟨_, rfl, ?_⟩))
        go_ret
        exact ⟨by first | rfl | (simp [errW_none, errW_some] <;> rfl) | (simp [*, errW_none, errW_some] <;> rfl), by repeat (first | (with_reducible first | exact HB.out | apply below_alloc | apply pw_below_drewN | apply below_drew1 | refine below_set ?_ GE101.out) | exact HB.out)⟩
      · rw [if_neg c15] at H
        have c15b0 : decide (t104 < 0) = false := decide_eq_false c15
        clear c15
        obtain rfl := Option.some.inj H
        go_enter Try.func12, Try.ntmps12
        go_wp2_with (first | ((with_reducible refine gate_dst (N := 2) rfl ?_); refine box_event ?hg (N := 2) ?hd (cs := #[.slice A0_0 l0_0.length c0_0, .slice A0_1 l0_1.length c0_1, .string a0_2, .slice A0_3 l0_3.length c0_3, .int .i64 a0_4]) (t := 28) ?hr ?_; (case hd => rfl); (case hg => rfl); (case hr => first | (go_simp; done) | (go_simp; rfl)); intro gb101 hg w20 hbox hb; have n0_ := Aside0.mk (below_step z4_5 hb); have n1_ := Aside0.mk (hbox); have n2_ := Aside0.mk ((by rw [hg]; exact (below_size z4_5) : w.heap.size ≤ gb101)); have n3_ := Aside0.mk ((by rw [hg]; exact (below_size z4_5) : w.heap.size ≤ gb101)); clear HB; have HB := n0_; have BK101 := n1_; have GW101 := n2_; have GE101 := n3_; clear n0_ n1_ n2_ n3_; clear hb hbox hg; have hcz21_0 : w20.cell? ⟨gb101, 0, none⟩ = some (.slice A0_0 l0_0.length c0_0) := (blk_cell BK101.out 0).trans rfl; have hcz21_1 : w20.cell? ⟨gb101, 1, none⟩ = some (.slice A0_1 l0_1.length c0_1) := (blk_cell BK101.out 1).trans rfl; have hcz21_2 : w20.cell? ⟨gb101, 2, none⟩ = some (.string a0_2) := (blk_cell BK101.out 2).trans rfl; have hcz21_3 : w20.cell? ⟨gb101, 3, none⟩ = some (.slice A0_3 l0_3.length c0_3) := (blk_cell BK101.out 3).trans rfl; have hcz21_4 : w20.cell? ⟨gb101, 4, none⟩ = some (.int .i64 a0_4) := (blk_cell BK101.out 4).trans rfl; have hfz21_0 := blk_frozen BK101.out 0; have hfz21_1 := blk_frozen BK101.out 1; have hfz21_2 := blk_frozen BK101.out 2; have hfz21_3 := blk_frozen BK101.out 3; have hfz21_4 := blk_frozen BK101.out 4) | ((with_reducible refine gate_callee (f := 25) rfl ?_); refine goesL_ (some 8) rfl rfl Try.func25 (by kernel_rfl) rfl #[.slice A0_0 l0_0.length c0_0, .int .i64 a1] rfl z4_4 ?_; (with_reducible refine (laws_heldAccountS.calls k _ _ l0_0 a1 t102 _ ?side1 ?side2 A3.out).mono ?_); (case side1 => repeat (first | exact (Kd.C_below HR0_0.out HB.out) | (with_reducible refine Kd.C_alloc ?_ _) | (with_reducible refine Kd.C_drewN ?_ _) | (with_reducible refine Kd.C_drew ?_))); (case side2 => exact HC0_0.out); rintro e w22 ⟨rfl, hb⟩; refine ⟨_, rfl, ?_⟩; have n0_ := Aside0.mk (blk_below (g := gb101) (o := .cells #[.slice A0_0 l0_0.length c0_0, .slice A0_1 l0_1.length c0_1, .string a0_2, .slice A0_3 l0_3.length c0_3, .int .i64 a0_4] 28 (0, 0)) z4_6 hb); have n1_ := Aside0.mk (below_step z4_2 hb); clear BK101; clear HB; have BK101 := n0_; have HB := n1_; clear n0_ n1_; (try clear hb); (try clear hb2); (try clear hk); (try clear hi); have hcz23_0 : w22.cell? ⟨gb101, 0, none⟩ = some (.slice A0_0 l0_0.length c0_0) := (blk_cell BK101.out 0).trans rfl; have hcz23_1 : w22.cell? ⟨gb101, 1, none⟩ = some (.slice A0_1 l0_1.length c0_1) := (blk_cell BK101.out 1).trans rfl; have hcz23_2 : w22.cell? ⟨gb101, 2, none⟩ = some (.string a0_2) := (blk_cell BK101.out 2).trans rfl; have hcz23_3 : w22.cell? ⟨gb101, 3, none⟩ = some (.slice A0_3 l0_3.length c0_3) := (blk_cell BK101.out 3).trans rfl; have hcz23_4 : w22.cell? ⟨gb101, 4, none⟩ = some (.int .i64 a0_4) := (blk_cell BK101.out 4).trans rfl; have hfz23_0 := blk_frozen BK101.out 0; have hfz23_1 := blk_frozen BK101.out 1; have hfz23_2 := blk_frozen BK101.out 2; have hfz23_3 := blk_frozen BK101.out 3; have hfz23_4 := blk_frozen BK101.out 4) | ((with_reducible refine gate_callee (f := 26) rfl ?_); refine goesL_ (some 14) rfl rfl Try.func26 (by kernel_rfl) rfl #[.slice A0_1 l0_1.length c0_1, .int .i64 t102] rfl z4_4 ?_; (with_reducible refine (laws_heldEntryS.calls _ _ l0_1 t102 t103 _ ?side1 ?side2 A8.out).mono ?_); (case side1 => repeat (first | exact (Kd.C_below HR0_1.out HB.out) | (with_reducible refine Kd.C_alloc ?_ _) | (with_reducible refine Kd.C_drewN ?_ _) | (with_reducible refine Kd.C_drew ?_))); (case side2 => exact HC0_1.out); rintro e w' ⟨rfl, ⟨nd, rfl⟩⟩; refine ⟨_, rfl, ?_⟩) | ((with_reducible refine gate_callee (f := 27) rfl ?_); refine goesL_ (some 20) rfl rfl Try.func27 (by kernel_rfl) rfl #[.slice A0_3 l0_3.length c0_3, .int .i64 t103] rfl z4_4 ?_; (with_reducible refine (laws_heldSessS.calls _ _ l0_3 t103 t104 _ ?side1 ?side2 A14.out).mono ?_); (case side1 => repeat (first | exact (Kd.C_below HR0_3.out z4_2) | (with_reducible refine Kd.C_alloc ?_ _) | (with_reducible refine Kd.C_drewN ?_ _) | (with_reducible refine Kd.C_drew ?_))); (case side2 => exact HC0_3.out); rintro e w' ⟨rfl, ⟨nd, rfl⟩⟩; refine ⟨_, rfl, ?_⟩))
        go_ret
        exact ⟨by first | rfl | (simp [errW_none, errW_some] <;> rfl) | (simp [*, errW_none, errW_some] <;> rfl), by repeat (first | (with_reducible first | exact HB.out | apply below_alloc | apply pw_below_drewN | apply below_drew1 | refine below_set ?_ GE101.out) | exact HB.out)⟩

end Go.Proofs.Ytgjecacalpaacaa.PAll
namespace Go.Proofs.Ytgjecacalpaacaa.PAll
open Go.RowKit Go.Proofs.YtgjecacalpaacaaW.XWords Go.Proofs.YtgjecacalpaacaaW.PrintWords Go.Proofs.YtgjecacalpaacaaW.PrintLast Go.Proofs.YtgjecacalpaacaaW.PrintMore
attribute [local go_sem] isSome_setCell max2_int min2_int max_two min_two max_three min_three max_four min_four   -- for this text's walks alone
set_option linter.unusedVariables false
set_option linter.unusedSimpArgs false

def laws_FnExactServerNew.j0 : Nat → List (S38) → Bool → List (S40) → List (S53) → ByteArray → List (S61) → Int → List (S40) → List (S53) → ByteArray → List (S61) → Int → Option (Bool)
  | 0, _, _, _, _, _, _, _, _, _, _, _, _ => none
  | k + 1, x0, x42, x117000, x117001, x117002, x117003, x117004, x132000, x132001, x132002, x132003, x132004 => if x42 = true then (some false) else ((laws_markServer.f k x132000 x132001 x132002 x132003 x132004 1).bind fun bt140 => ((laws_heldServer.f k bt140.2.1 bt140.2.2 x132002 x132003 x132004 1).bind fun t143 => (if t143 < 0 then (some false) else (if t143 = bt140.1 then ((laws_toAccountS.f k x0).bind fun t144 => ((impl_ServerNew.f k t144).bind fun bt147 => ((laws_eqServer.f k bt147.1 bt147.2.1 bt147.2.2.1 bt147.2.2.2.1 bt147.2.2.2.2 x117000 x117001 x117002 x117003 x117004).bind fun t159 => (if t159 = true then ((laws_heldServer.f k bt140.2.1 bt140.2.2 x132002 x132003 x132004 1).bind fun t160 => (if t160 < 0 then (some false) else (if t160 = bt140.1 then (some true) else (some false)))) else (some false))))) else (some false)))))
def laws_FnExactServerNew.f (k : Nat) (l0 : List (S38)) : Option (Bool) := (laws_szAccountS.f k l0 1048576).bind fun t101 => (if t101 < 0 then (some true) else ((laws_toAccountS.f k l0).bind fun t102 => ((spec_ServerNew.f k t102).bind fun bt105 => ((laws_toAccountS.f k l0).bind fun t117 => ((impl_ServerNew.f k t117).bind fun bt120 => ((laws_eqServer.f k bt120.1 bt120.2.1 bt120.2.2.1 bt120.2.2.2.1 bt120.2.2.2.2 bt105.1 bt105.2.1 bt105.2.2.1 bt105.2.2.2.1 bt105.2.2.2.2).bind fun t132 => (if t132 = true then ((laws_toAccountS.f k l0).bind fun t133 => ((laws_eqAccountS.f k t117 t133).bind fun t136 => (if t136 = true then ((laws_markAccountS.f k t117 1).bind fun bt137 => (if bt137.1 < 0 then (laws_FnExactServerNew.j0 k l0 true bt105.1 bt105.2.1 bt105.2.2.1 bt105.2.2.2.1 bt105.2.2.2.2 bt120.1 bt120.2.1 bt120.2.2.1 bt120.2.2.2.1 bt120.2.2.2.2) else ((laws_eqServer.f k bt120.1 bt120.2.1 bt120.2.2.1 bt120.2.2.2.1 bt120.2.2.2.2 bt105.1 bt105.2.1 bt105.2.2.1 bt105.2.2.2.1 bt105.2.2.2.2).bind fun t139 => (laws_FnExactServerNew.j0 k l0 (!t139) bt105.1 bt105.2.1 bt105.2.2.1 bt105.2.2.2.1 bt105.2.2.2.2 bt120.1 bt120.2.1 bt120.2.2.1 bt120.2.2.2.1 bt120.2.2.2.2)))) else (some false)))) else (some false))))))))
theorem laws_FnExactServerNew.mono_l : ∀ k, (∀ y0 y1 y2 y3 y4 y5 y6 y7 y8 y9 y10 y11, LeO (laws_FnExactServerNew.j0 k y0 y1 y2 y3 y4 y5 y6 y7 y8 y9 y10 y11) (laws_FnExactServerNew.j0 (k + 1) y0 y1 y2 y3 y4 y5 y6 y7 y8 y9 y10 y11))
  | 0 => fun _ _ _ _ _ _ _ _ _ _ _ _ r h => by simp [laws_FnExactServerNew.j0] at h
  | k + 1 => by
    have ih0 := laws_FnExactServerNew.mono_l k
    · intro y0 y1 y2 y3 y4 y5 y6 y7 y8 y9 y10 y11
      unfold laws_FnExactServerNew.j0
      repeat' first
      | (with_reducible exact ih0 _ _ _ _ _ _ _ _ _ _ _ _)
      | (with_reducible exact impl_ServerNew.mono _ _)
      | (with_reducible exact laws_eqAccountS.mono _ _ _)
      | (with_reducible exact laws_eqServer.mono _ _ _ _ _ _ _ _ _ _ _)
      | (with_reducible exact laws_heldServer.mono _ _ _ _ _ _ _)
      | (with_reducible exact laws_markAccountS.mono _ _ _)
      | (with_reducible exact laws_markServer.mono _ _ _ _ _ _ _)
      | (with_reducible exact laws_szAccountS.mono _ _ _)
      | (with_reducible exact laws_toAccountS.mono _ _)
      | (with_reducible exact spec_ServerNew.mono _ _)
      | (with_reducible exact LeO.refl _)
      | (with_reducible exact LeO.none _)
      | (with_reducible refine LeO.ite ?_ ?_)
      | (with_reducible refine LeO.bind ?_ (fun _ => ?_))
      | exact ih0 _ _ _ _ _ _ _ _ _ _ _ _
      | exact impl_ServerNew.mono _ _
      | exact laws_eqAccountS.mono _ _ _
      | exact laws_eqServer.mono _ _ _ _ _ _ _ _ _ _ _
      | exact laws_heldServer.mono _ _ _ _ _ _ _
      | exact laws_markAccountS.mono _ _ _
      | exact laws_markServer.mono _ _ _ _ _ _ _
      | exact laws_szAccountS.mono _ _ _
      | exact laws_toAccountS.mono _ _
      | exact spec_ServerNew.mono _ _
      | exact LeO.none _
      | refine LeO.ite ?_ ?_
      | refine LeO.bind ?_ (fun _ => ?_)
theorem laws_FnExactServerNew.mono : ∀ a0 k, LeO (laws_FnExactServerNew.f k a0) (laws_FnExactServerNew.f (k + 1) a0) := by
  intro a0 k
  have ih0 := laws_FnExactServerNew.mono_l k
  unfold laws_FnExactServerNew.f
  repeat' first
      | (with_reducible exact ih0 _ _ _ _ _ _ _ _ _ _ _ _)
      | (with_reducible exact impl_ServerNew.mono _ _)
      | (with_reducible exact laws_eqAccountS.mono _ _ _)
      | (with_reducible exact laws_eqServer.mono _ _ _ _ _ _ _ _ _ _ _)
      | (with_reducible exact laws_heldServer.mono _ _ _ _ _ _ _)
      | (with_reducible exact laws_markAccountS.mono _ _ _)
      | (with_reducible exact laws_markServer.mono _ _ _ _ _ _ _)
      | (with_reducible exact laws_szAccountS.mono _ _ _)
      | (with_reducible exact laws_toAccountS.mono _ _)
      | (with_reducible exact spec_ServerNew.mono _ _)
      | (with_reducible exact LeO.refl _)
      | (with_reducible exact LeO.none _)
      | (with_reducible refine LeO.ite ?_ ?_)
      | (with_reducible refine LeO.bind ?_ (fun _ => ?_))
      | exact ih0 _ _ _ _ _ _ _ _ _ _ _ _
      | exact impl_ServerNew.mono _ _
      | exact laws_eqAccountS.mono _ _ _
      | exact laws_eqServer.mono _ _ _ _ _ _ _ _ _ _ _
      | exact laws_heldServer.mono _ _ _ _ _ _ _
      | exact laws_markAccountS.mono _ _ _
      | exact laws_markServer.mono _ _ _ _ _ _ _
      | exact laws_szAccountS.mono _ _ _
      | exact laws_toAccountS.mono _ _
      | exact spec_ServerNew.mono _ _
      | exact LeO.none _
      | refine LeO.ite ?_ ?_
      | refine LeO.bind ?_ (fun _ => ?_)
set_option maxHeartbeats 8000000 in
set_option maxRecDepth 100000 in
theorem laws_FnExactServerNew.calls (k : Nat) (A0 : Option Addr) (c0 : Nat) (l0 : List (S38)) (r : Bool) (w : World) (hr0 : Kd.C k38 w A0 l0.length l0) (hc0 : l0.length ≤ c0) (h : laws_FnExactServerNew.f k l0 = some r) (ht : r = true) :
    Calls Try.prog 3 #[.slice A0 l0.length c0] w fun e w' => e = .returned (.bool r) ∧ Below w.heap.size w w' := by
  have hu28 := Try.underlying28
  have HR0 := Aside0.mk hr0
  have HC0 := Aside0.mk hc0
  clear hr0 hc0
  have HB := Aside0.mk (Below.refl w.heap.size w)
  have H : ((laws_szAccountS.f k l0 1048576).bind fun t101 => (if t101 < 0 then (some true) else ((laws_toAccountS.f k l0).bind fun t102 => ((spec_ServerNew.f k t102).bind fun bt105 => ((laws_toAccountS.f k l0).bind fun t117 => ((impl_ServerNew.f k t117).bind fun bt120 => ((laws_eqServer.f k bt120.1 bt120.2.1 bt120.2.2.1 bt120.2.2.2.1 bt120.2.2.2.2 bt105.1 bt105.2.1 bt105.2.2.1 bt105.2.2.2.1 bt105.2.2.2.2).bind fun t132 => (if t132 = true then ((laws_toAccountS.f k l0).bind fun t133 => ((laws_eqAccountS.f k t117 t133).bind fun t136 => (if t136 = true then ((laws_markAccountS.f k t117 1).bind fun bt137 => (if bt137.1 < 0 then (laws_FnExactServerNew.j0 k l0 true bt105.1 bt105.2.1 bt105.2.2.1 bt105.2.2.2.1 bt105.2.2.2.2 bt120.1 bt120.2.1 bt120.2.2.1 bt120.2.2.2.1 bt120.2.2.2.2) else ((laws_eqServer.f k bt120.1 bt120.2.1 bt120.2.2.1 bt120.2.2.2.1 bt120.2.2.2.2 bt105.1 bt105.2.1 bt105.2.2.1 bt105.2.2.2.1 bt105.2.2.2.2).bind fun t139 => (laws_FnExactServerNew.j0 k l0 (!t139) bt105.1 bt105.2.1 bt105.2.2.1 bt105.2.2.2.1 bt105.2.2.2.2 bt120.1 bt120.2.1 bt120.2.2.1 bt120.2.2.2.1 bt120.2.2.2.2)))) else (some false)))) else (some false))))))))) = some r := h
  clear h
  replace H := Option.bind_eq_some_iff.mp H
  obtain ⟨t101, A20, H⟩ := H
  replace H : (if t101 < 0 then (some true) else ((laws_toAccountS.f k l0).bind fun t102 => ((spec_ServerNew.f k t102).bind fun bt105 => ((laws_toAccountS.f k l0).bind fun t117 => ((impl_ServerNew.f k t117).bind fun bt120 => ((laws_eqServer.f k bt120.1 bt120.2.1 bt120.2.2.1 bt120.2.2.2.1 bt120.2.2.2.2 bt105.1 bt105.2.1 bt105.2.2.1 bt105.2.2.2.1 bt105.2.2.2.2).bind fun t132 => (if t132 = true then ((laws_toAccountS.f k l0).bind fun t133 => ((laws_eqAccountS.f k t117 t133).bind fun t136 => (if t136 = true then ((laws_markAccountS.f k t117 1).bind fun bt137 => (if bt137.1 < 0 then (laws_FnExactServerNew.j0 k l0 true bt105.1 bt105.2.1 bt105.2.2.1 bt105.2.2.2.1 bt105.2.2.2.2 bt120.1 bt120.2.1 bt120.2.2.1 bt120.2.2.2.1 bt120.2.2.2.2) else ((laws_eqServer.f k bt120.1 bt120.2.1 bt120.2.2.1 bt120.2.2.2.1 bt120.2.2.2.2 bt105.1 bt105.2.1 bt105.2.2.1 bt105.2.2.2.1 bt105.2.2.2.2).bind fun t139 => (laws_FnExactServerNew.j0 k l0 (!t139) bt105.1 bt105.2.1 bt105.2.2.1 bt105.2.2.2.1 bt105.2.2.2.2 bt120.1 bt120.2.1 bt120.2.2.1 bt120.2.2.2.1 bt120.2.2.2.2)))) else (some false)))) else (some false)))))))) = some r := H
  have A2 := Aside0.mk A20
  clear A20
  by_cases c3 : t101 < 0
  · rw [if_pos c3] at H
    have c3b0 : decide (t101 < 0) = true := decide_eq_true c3
    clear c3
    obtain rfl := Option.some.inj H
    go_enter Try.func3, Try.ntmps3
    go_wp2_with (first | ((with_reducible refine gate_callee (f := 4) rfl ?_); refine goesL_ (some 13) rfl rfl Try.func4 (by kernel_rfl) rfl #[.slice A0 l0.length c0, .int .i64 1048576] rfl z4_4 ?_; (with_reducible refine (laws_szAccountS.calls k _ _ l0 1048576 t101 _ ?side1 ?side2 A2.out).mono ?_); (case side1 => repeat (first | exact HR0.out | (with_reducible refine Kd.C_alloc ?_ _) | (with_reducible refine Kd.C_drewN ?_ _) | (with_reducible refine Kd.C_drew ?_))); (case side2 => exact HC0.out); rintro e w4 ⟨rfl, hb⟩; refine ⟨_, rfl, ?_⟩; have n0_ := Aside0.mk (below_step z4_5 hb); clear HB; have HB := n0_; clear n0_; (try clear hb); (try clear hb2); (try clear hk); (try clear hi)))
    go_ret
    exact ⟨by first | rfl | (simp [errW_none, errW_some] <;> rfl) | (simp [*, errW_none, errW_some] <;> rfl), by repeat (first | (with_reducible first | exact HB.out | apply below_alloc | apply pw_below_drewN | apply below_drew1) | exact HB.out)⟩
  · rw [if_neg c3] at H
    have c3b0 : decide (t101 < 0) = false := decide_eq_false c3
    clear c3
    replace H := Option.bind_eq_some_iff.mp H
    obtain ⟨t102, A50, H⟩ := H
    replace H : ((spec_ServerNew.f k t102).bind fun bt105 => ((laws_toAccountS.f k l0).bind fun t117 => ((impl_ServerNew.f k t117).bind fun bt120 => ((laws_eqServer.f k bt120.1 bt120.2.1 bt120.2.2.1 bt120.2.2.2.1 bt120.2.2.2.2 bt105.1 bt105.2.1 bt105.2.2.1 bt105.2.2.2.1 bt105.2.2.2.2).bind fun t132 => (if t132 = true then ((laws_toAccountS.f k l0).bind fun t133 => ((laws_eqAccountS.f k t117 t133).bind fun t136 => (if t136 = true then ((laws_markAccountS.f k t117 1).bind fun bt137 => (if bt137.1 < 0 then (laws_FnExactServerNew.j0 k l0 true bt105.1 bt105.2.1 bt105.2.2.1 bt105.2.2.2.1 bt105.2.2.2.2 bt120.1 bt120.2.1 bt120.2.2.1 bt120.2.2.2.1 bt120.2.2.2.2) else ((laws_eqServer.f k bt120.1 bt120.2.1 bt120.2.2.1 bt120.2.2.2.1 bt120.2.2.2.2 bt105.1 bt105.2.1 bt105.2.2.1 bt105.2.2.2.1 bt105.2.2.2.2).bind fun t139 => (laws_FnExactServerNew.j0 k l0 (!t139) bt105.1 bt105.2.1 bt105.2.2.1 bt105.2.2.2.1 bt105.2.2.2.2 bt120.1 bt120.2.1 bt120.2.2.1 bt120.2.2.2.1 bt120.2.2.2.2)))) else (some false)))) else (some false)))))) = some r := H
    have A5 := Aside0.mk A50
    clear A50
    replace H := Option.bind_eq_some_iff.mp H
    obtain ⟨⟨t105, t108, t111, t112, t115⟩, A60, H⟩ := H
    replace H : ((laws_toAccountS.f k l0).bind fun t117 => ((impl_ServerNew.f k t117).bind fun bt120 => ((laws_eqServer.f k bt120.1 bt120.2.1 bt120.2.2.1 bt120.2.2.2.1 bt120.2.2.2.2 t105 t108 t111 t112 t115).bind fun t132 => (if t132 = true then ((laws_toAccountS.f k l0).bind fun t133 => ((laws_eqAccountS.f k t117 t133).bind fun t136 => (if t136 = true then ((laws_markAccountS.f k t117 1).bind fun bt137 => (if bt137.1 < 0 then (laws_FnExactServerNew.j0 k l0 true t105 t108 t111 t112 t115 bt120.1 bt120.2.1 bt120.2.2.1 bt120.2.2.2.1 bt120.2.2.2.2) else ((laws_eqServer.f k bt120.1 bt120.2.1 bt120.2.2.1 bt120.2.2.2.1 bt120.2.2.2.2 t105 t108 t111 t112 t115).bind fun t139 => (laws_FnExactServerNew.j0 k l0 (!t139) t105 t108 t111 t112 t115 bt120.1 bt120.2.1 bt120.2.2.1 bt120.2.2.2.1 bt120.2.2.2.2)))) else (some false)))) else (some false))))) = some r := H
    have A6 := Aside0.mk A60
    clear A60
    replace H := Option.bind_eq_some_iff.mp H
    obtain ⟨t117, A70, H⟩ := H
    replace H : ((impl_ServerNew.f k t117).bind fun bt120 => ((laws_eqServer.f k bt120.1 bt120.2.1 bt120.2.2.1 bt120.2.2.2.1 bt120.2.2.2.2 t105 t108 t111 t112 t115).bind fun t132 => (if t132 = true then ((laws_toAccountS.f k l0).bind fun t133 => ((laws_eqAccountS.f k t117 t133).bind fun t136 => (if t136 = true then ((laws_markAccountS.f k t117 1).bind fun bt137 => (if bt137.1 < 0 then (laws_FnExactServerNew.j0 k l0 true t105 t108 t111 t112 t115 bt120.1 bt120.2.1 bt120.2.2.1 bt120.2.2.2.1 bt120.2.2.2.2) else ((laws_eqServer.f k bt120.1 bt120.2.1 bt120.2.2.1 bt120.2.2.2.1 bt120.2.2.2.2 t105 t108 t111 t112 t115).bind fun t139 => (laws_FnExactServerNew.j0 k l0 (!t139) t105 t108 t111 t112 t115 bt120.1 bt120.2.1 bt120.2.2.1 bt120.2.2.2.1 bt120.2.2.2.2)))) else (some false)))) else (some false)))) = some r := H
    have A7 := Aside0.mk A70
    clear A70
    replace H := Option.bind_eq_some_iff.mp H
    obtain ⟨⟨t120, t123, t126, t127, t130⟩, A80, H⟩ := H
    replace H : ((laws_eqServer.f k t120 t123 t126 t127 t130 t105 t108 t111 t112 t115).bind fun t132 => (if t132 = true then ((laws_toAccountS.f k l0).bind fun t133 => ((laws_eqAccountS.f k t117 t133).bind fun t136 => (if t136 = true then ((laws_markAccountS.f k t117 1).bind fun bt137 => (if bt137.1 < 0 then (laws_FnExactServerNew.j0 k l0 true t105 t108 t111 t112 t115 t120 t123 t126 t127 t130) else ((laws_eqServer.f k t120 t123 t126 t127 t130 t105 t108 t111 t112 t115).bind fun t139 => (laws_FnExactServerNew.j0 k l0 (!t139) t105 t108 t111 t112 t115 t120 t123 t126 t127 t130)))) else (some false)))) else (some false))) = some r := H
    have A8 := Aside0.mk A80
    clear A80
    replace H := Option.bind_eq_some_iff.mp H
    obtain ⟨t132, A90, H⟩ := H
    replace H : (if t132 = true then ((laws_toAccountS.f k l0).bind fun t133 => ((laws_eqAccountS.f k t117 t133).bind fun t136 => (if t136 = true then ((laws_markAccountS.f k t117 1).bind fun bt137 => (if bt137.1 < 0 then (laws_FnExactServerNew.j0 k l0 true t105 t108 t111 t112 t115 t120 t123 t126 t127 t130) else ((laws_eqServer.f k t120 t123 t126 t127 t130 t105 t108 t111 t112 t115).bind fun t139 => (laws_FnExactServerNew.j0 k l0 (!t139) t105 t108 t111 t112 t115 t120 t123 t126 t127 t130)))) else (some false)))) else (some false)) = some r := H
    have A9 := Aside0.mk A90
    clear A90
    by_cases c10 : t132 = true
    · subst c10
      have H1 : ((laws_toAccountS.f k l0).bind fun t133 => ((laws_eqAccountS.f k t117 t133).bind fun t136 => (if t136 = true then ((laws_markAccountS.f k t117 1).bind fun bt137 => (if bt137.1 < 0 then (laws_FnExactServerNew.j0 k l0 true t105 t108 t111 t112 t115 t120 t123 t126 t127 t130) else ((laws_eqServer.f k t120 t123 t126 t127 t130 t105 t108 t111 t112 t115).bind fun t139 => (laws_FnExactServerNew.j0 k l0 (!t139) t105 t108 t111 t112 t115 t120 t123 t126 t127 t130)))) else (some false)))) = some r := by rw [if_pos rfl] at H; exact H
      clear H
      have H := H1
      clear H1
      replace H := Option.bind_eq_some_iff.mp H
      obtain ⟨t133, A110, H⟩ := H
      replace H : ((laws_eqAccountS.f k t117 t133).bind fun t136 => (if t136 = true then ((laws_markAccountS.f k t117 1).bind fun bt137 => (if bt137.1 < 0 then (laws_FnExactServerNew.j0 k l0 true t105 t108 t111 t112 t115 t120 t123 t126 t127 t130) else ((laws_eqServer.f k t120 t123 t126 t127 t130 t105 t108 t111 t112 t115).bind fun t139 => (laws_FnExactServerNew.j0 k l0 (!t139) t105 t108 t111 t112 t115 t120 t123 t126 t127 t130)))) else (some false))) = some r := H
      have A11 := Aside0.mk A110
      clear A110
      replace H := Option.bind_eq_some_iff.mp H
      obtain ⟨t136, A120, H⟩ := H
      replace H : (if t136 = true then ((laws_markAccountS.f k t117 1).bind fun bt137 => (if bt137.1 < 0 then (laws_FnExactServerNew.j0 k l0 true t105 t108 t111 t112 t115 t120 t123 t126 t127 t130) else ((laws_eqServer.f k t120 t123 t126 t127 t130 t105 t108 t111 t112 t115).bind fun t139 => (laws_FnExactServerNew.j0 k l0 (!t139) t105 t108 t111 t112 t115 t120 t123 t126 t127 t130)))) else (some false)) = some r := H
      have A12 := Aside0.mk A120
      clear A120
      by_cases c13 : t136 = true
      · subst c13
        have H1 : ((laws_markAccountS.f k t117 1).bind fun bt137 => (if bt137.1 < 0 then (laws_FnExactServerNew.j0 k l0 true t105 t108 t111 t112 t115 t120 t123 t126 t127 t130) else ((laws_eqServer.f k t120 t123 t126 t127 t130 t105 t108 t111 t112 t115).bind fun t139 => (laws_FnExactServerNew.j0 k l0 (!t139) t105 t108 t111 t112 t115 t120 t123 t126 t127 t130)))) = some r := by rw [if_pos rfl] at H; exact H
        clear H
        have H := H1
        clear H1
        replace H := Option.bind_eq_some_iff.mp H
        obtain ⟨⟨t137, t138⟩, A140, H⟩ := H
        replace H : (if t137 < 0 then (laws_FnExactServerNew.j0 k l0 true t105 t108 t111 t112 t115 t120 t123 t126 t127 t130) else ((laws_eqServer.f k t120 t123 t126 t127 t130 t105 t108 t111 t112 t115).bind fun t139 => (laws_FnExactServerNew.j0 k l0 (!t139) t105 t108 t111 t112 t115 t120 t123 t126 t127 t130))) = some r := H
        have A14 := Aside0.mk A140
        clear A140
        have HC15 := Aside0.mk H
        clear H
        go_enter Try.func3, Try.ntmps3
        go_upto_region 14 with (first | ((with_reducible refine gate_callee (f := 4) rfl ?_); refine goesL_ (some 13) rfl rfl Try.func4 (by kernel_rfl) rfl #[.slice A0 l0.length c0, .int .i64 1048576] rfl z4_4 ?_; (with_reducible refine (laws_szAccountS.calls k _ _ l0 1048576 t101 _ ?side1 ?side2 A2.out).mono ?_); (case side1 => repeat (first | exact HR0.out | (with_reducible refine Kd.C_alloc ?_ _) | (with_reducible refine Kd.C_drewN ?_ _) | (with_reducible refine Kd.C_drew ?_))); (case side2 => exact HC0.out); rintro e w16 ⟨rfl, hb⟩; refine ⟨_, rfl, ?_⟩; have n0_ := Aside0.mk (below_step z4_5 hb); clear HB; have HB := n0_; clear n0_; (try clear hb); (try clear hb2); (try clear hk); (try clear hi)) | ((with_reducible refine gate_callee (f := 6) rfl ?_); refine goesL_ (some 17) rfl rfl Try.func6 (by kernel_rfl) rfl #[.slice A0 l0.length c0] rfl z4_4 ?_; (with_reducible refine (laws_toAccountS.calls k _ _ l0 t102 _ ?side1 ?side2 A5.out).mono ?_); (case side1 => repeat (first | exact (Kd.C_below HR0.out HB.out) | (with_reducible refine Kd.C_alloc ?_ _) | (with_reducible refine Kd.C_drewN ?_ _) | (with_reducible refine Kd.C_drew ?_))); (case side2 => exact HC0.out); rintro e w17 ⟨v103, rfl, ho0, hb⟩; refine ⟨_, rfl, ?_⟩; have n0_ := Aside0.mk (Kd.R_lower ho0 (below_size z4_5)); have n1_ := Aside0.mk (below_step z4_5 hb); clear HB; have HO104 := n0_; have HB := n1_; clear n0_ n1_; (try clear hb); (try clear hb2); (try clear hk); (try clear hi); (try clear ho0); obtain ⟨Ao18, co18, eo18⟩ := Kd.R_slice HO104.out; subst eo18) | ((with_reducible refine gate_callee (f := 5) rfl ?_); refine goesL_ (some 18) rfl rfl Try.func5 (by kernel_rfl) rfl #[.slice Ao18 t102.length co18] rfl z4_4 ?_; (with_reducible refine (spec_ServerNew.calls k _ _ t102 t105 t108 t111 t112 t115 _ ?side1 ?side2 A6.out).mono ?_); (case side1 => repeat (first | exact (Kd.R_reads' HO104.out).2.2 | (with_reducible refine Kd.C_alloc ?_ _) | (with_reducible refine Kd.C_drewN ?_ _) | (with_reducible refine Kd.C_drew ?_))); (case side2 => exact (Kd.R_reads' HO104.out).2.1); rintro e w19 ⟨v106, v109, v113, rfl, ho0, ho1, ho2, hb⟩; refine ⟨_, rfl, ?_⟩; have n0_ := Aside0.mk (Kd.R_elder' z4_16 (Kd.R_base ho0) hb); have n1_ := Aside0.mk (Kd.R_lower (Kd.R_new' ho0 (Kd.R_lt z4_16)) (below_size z4_5)); have n2_ := Aside0.mk (Kd.R_lower ho1 (below_size z4_5)); have n3_ := Aside0.mk (Kd.S_lower ho2 (below_size z4_5)); have n4_ := Aside0.mk (below_step z4_5 hb); clear HO104; clear HB; have HO104 := n0_; have HO107 := n1_; have HO110 := n2_; have HO114 := n3_; have HB := n4_; clear n0_ n1_ n2_ n3_ n4_; (try clear hb); (try clear hb2); (try clear hk); (try clear hi); (try clear ho0); (try clear ho1); (try clear ho2)) | ((with_reducible refine gate_dst (N := 4) rfl ?_); refine box_event ?hg (N := 4) ?hd (cs := #[.slice none 0 0, .slice none 0 0, .string (⟨#[]⟩ : ByteArray), .slice none 0 0, .int .i64 0]) (t := 28) ?hr ?_; (case hd => rfl); (case hg => rfl); (case hr => first | (go_simp; done) | (go_simp; rfl)); intro gb116 hg w20 hbox hb; have n0_ := Aside0.mk (Kd.R_below z4_16 hb); have n1_ := Aside0.mk (Kd.R_below z4_17 hb); have n2_ := Aside0.mk (Kd.R_below z4_18 hb); have n3_ := Aside0.mk (Kd.S_below z4_19 hb); have n4_ := Aside0.mk (below_step z4_5 hb); have n5_ := Aside0.mk (hbox); have n6_ := Aside0.mk ((by rw [hg]; exact (below_size z4_5) : w.heap.size ≤ gb116)); have n7_ := Aside0.mk ((by rw [hg]; exact (below_size z4_5) : w.heap.size ≤ gb116)); clear HO104; clear HO107; clear HO110; clear HO114; clear HB; have HO104 := n0_; have HO107 := n1_; have HO110 := n2_; have HO114 := n3_; have HB := n4_; have BK116 := n5_; have GW116 := n6_; have GE116 := n7_; clear n0_ n1_ n2_ n3_ n4_ n5_ n6_ n7_; clear hb hbox hg; obtain ⟨Ao21, co21, eo21⟩ := Kd.R_slice HO107.out; subst eo21; have hcz22_0 : w20.cell? ⟨gb116, 0, none⟩ = some (.slice none 0 0) := (blk_cell BK116.out 0).trans rfl; have hcz22_1 : w20.cell? ⟨gb116, 1, none⟩ = some (.slice none 0 0) := (blk_cell BK116.out 1).trans rfl; have hcz22_2 : w20.cell? ⟨gb116, 2, none⟩ = some (.string (⟨#[]⟩ : ByteArray)) := (blk_cell BK116.out 2).trans rfl; have hcz22_3 : w20.cell? ⟨gb116, 3, none⟩ = some (.slice none 0 0) := (blk_cell BK116.out 3).trans rfl; have hcz22_4 : w20.cell? ⟨gb116, 4, none⟩ = some (.int .i64 0) := (blk_cell BK116.out 4).trans rfl; have hfz22_0 := blk_frozen BK116.out 0; have hfz22_1 := blk_frozen BK116.out 1; have hfz22_2 := blk_frozen BK116.out 2; have hfz22_3 := blk_frozen BK116.out 3; have hfz22_4 := blk_frozen BK116.out 4; obtain ⟨Ao23, co23, eo23⟩ := Kd.R_slice HO110.out; subst eo23; obtain ⟨Ao24, co24, eo24⟩ := Kd.S_slice HO114.out; subst eo24) | ((with_reducible refine gate_callee (f := 6) rfl ?_); refine goesL_ (some 20) rfl rfl Try.func6 (by kernel_rfl) rfl #[.slice A0 l0.length c0] rfl z4_4 ?_; (with_reducible refine (laws_toAccountS.calls k _ _ l0 t117 _ ?side1 ?side2 A7.out).mono ?_); (case side1 => exact Kd.C_below HR0.out z4_3); (case side2 => exact HC0.out); rintro e w25 ⟨v118, rfl, ho0, hb⟩; refine ⟨_, rfl, ?_⟩; have n0_ := Aside0.mk (Kd.R_elder' (by (with_reducible repeat (first | apply Kd.R_alloc | apply Kd.R_drewN | apply Kd.R_drew)); exact (Kd.R_mono (Kd.R_far (p := ⟨gb116, 4, none⟩) (Kd.R_far (p := ⟨gb116, 3, none⟩) (Kd.R_far (p := ⟨gb116, 2, none⟩) (Kd.R_far (p := ⟨gb116, 1, none⟩) (Kd.R_far (p := ⟨gb116, 0, none⟩) (Kd.R_types HO104.out BK116.out (by decide)) (fun _ hk => hk.2) (.slice Ao21 t105.length co21)) (fun _ hk => hk.2) (.slice Ao23 t108.length co23)) (fun _ hk => hk.2) (.string t111)) (fun _ hk => hk.2) (.slice Ao24 t112.length co24)) (fun _ hk => hk.2) (.int .i64 t115)) (fun _ h_ => h_.1))) (Kd.R_base ho0) hb); have n1_ := Aside0.mk (Kd.R_elder' (by (with_reducible repeat (first | apply Kd.R_alloc | apply Kd.R_drewN | apply Kd.R_drew)); exact (Kd.R_mono (Kd.R_far (p := ⟨gb116, 4, none⟩) (Kd.R_far (p := ⟨gb116, 3, none⟩) (Kd.R_far (p := ⟨gb116, 2, none⟩) (Kd.R_far (p := ⟨gb116, 1, none⟩) (Kd.R_far (p := ⟨gb116, 0, none⟩) (Kd.R_types HO107.out BK116.out (by decide)) (fun _ hk => hk.2) (.slice Ao21 t105.length co21)) (fun _ hk => hk.2) (.slice Ao23 t108.length co23)) (fun _ hk => hk.2) (.string t111)) (fun _ hk => hk.2) (.slice Ao24 t112.length co24)) (fun _ hk => hk.2) (.int .i64 t115)) (fun _ h_ => h_.1))) (Kd.R_base ho0) hb); have n2_ := Aside0.mk (Kd.R_below (by (with_reducible repeat (first | apply Kd.R_alloc | apply Kd.R_drewN | apply Kd.R_drew)); exact (Kd.R_mono (Kd.R_far (p := ⟨gb116, 4, none⟩) (Kd.R_far (p := ⟨gb116, 3, none⟩) (Kd.R_far (p := ⟨gb116, 2, none⟩) (Kd.R_far (p := ⟨gb116, 1, none⟩) (Kd.R_far (p := ⟨gb116, 0, none⟩) (Kd.R_types HO110.out BK116.out (by decide)) (fun _ hk => hk.2) (.slice Ao21 t105.length co21)) (fun _ hk => hk.2) (.slice Ao23 t108.length co23)) (fun _ hk => hk.2) (.string t111)) (fun _ hk => hk.2) (.slice Ao24 t112.length co24)) (fun _ hk => hk.2) (.int .i64 t115)) (fun _ h_ => h_.1))) hb); have n3_ := Aside0.mk (Kd.S_below (by (with_reducible repeat (first | apply Kd.S_alloc | apply Kd.S_drewN | apply Kd.S_drew)); exact (Kd.S_mono (Kd.S_far (p := ⟨gb116, 4, none⟩) (Kd.S_far (p := ⟨gb116, 3, none⟩) (Kd.S_far (p := ⟨gb116, 2, none⟩) (Kd.S_far (p := ⟨gb116, 1, none⟩) (Kd.S_far (p := ⟨gb116, 0, none⟩) (Kd.S_types HO114.out BK116.out (by decide)) (fun _ hk => hk.2) (.slice Ao21 t105.length co21)) (fun _ hk => hk.2) (.slice Ao23 t108.length co23)) (fun _ hk => hk.2) (.string t111)) (fun _ hk => hk.2) (.slice Ao24 t112.length co24)) (fun _ hk => hk.2) (.int .i64 t115)) (fun _ h_ => h_.1))) hb); have n4_ := Aside0.mk (Kd.R_lower (Kd.R_new' (Kd.R_new' ho0 (Kd.R_lt (by (with_reducible repeat (first | apply Kd.R_alloc | apply Kd.R_drewN | apply Kd.R_drew)); exact (Kd.R_mono (Kd.R_far (p := ⟨gb116, 4, none⟩) (Kd.R_far (p := ⟨gb116, 3, none⟩) (Kd.R_far (p := ⟨gb116, 2, none⟩) (Kd.R_far (p := ⟨gb116, 1, none⟩) (Kd.R_far (p := ⟨gb116, 0, none⟩) (Kd.R_types HO104.out BK116.out (by decide)) (fun _ hk => hk.2) (.slice Ao21 t105.length co21)) (fun _ hk => hk.2) (.slice Ao23 t108.length co23)) (fun _ hk => hk.2) (.string t111)) (fun _ hk => hk.2) (.slice Ao24 t112.length co24)) (fun _ hk => hk.2) (.int .i64 t115)) (fun _ h_ => h_.1))))) (Kd.R_lt (by (with_reducible repeat (first | apply Kd.R_alloc | apply Kd.R_drewN | apply Kd.R_drew)); exact (Kd.R_mono (Kd.R_far (p := ⟨gb116, 4, none⟩) (Kd.R_far (p := ⟨gb116, 3, none⟩) (Kd.R_far (p := ⟨gb116, 2, none⟩) (Kd.R_far (p := ⟨gb116, 1, none⟩) (Kd.R_far (p := ⟨gb116, 0, none⟩) (Kd.R_types HO107.out BK116.out (by decide)) (fun _ hk => hk.2) (.slice Ao21 t105.length co21)) (fun _ hk => hk.2) (.slice Ao23 t108.length co23)) (fun _ hk => hk.2) (.string t111)) (fun _ hk => hk.2) (.slice Ao24 t112.length co24)) (fun _ hk => hk.2) (.int .i64 t115)) (fun _ h_ => h_.1))))) (below_size z4_3)); have n5_ := Aside0.mk (blk_below (g := gb116) (o := .cells #[.slice Ao21 t105.length co21, .slice Ao23 t108.length co23, .string t111, .slice Ao24 t112.length co24, .int .i64 t115] 28 (0, 0)) (by (with_reducible repeat (first | refine blk_drewN ?_ _ | refine blk_drew ?_ | refine blk_alloc ?_ _)); refine blk_put (cs := #[.slice Ao21 t105.length co21, .slice Ao23 t108.length co23, .string t111, .slice Ao24 t112.length co24, .int .i64 0]) ?_ 4 _ rfl; (with_reducible repeat (first | refine blk_drewN ?_ _ | refine blk_drew ?_ | refine blk_alloc ?_ _)); refine blk_put (cs := #[.slice Ao21 t105.length co21, .slice Ao23 t108.length co23, .string t111, .slice none 0 0, .int .i64 0]) ?_ 3 _ rfl; (with_reducible repeat (first | refine blk_drewN ?_ _ | refine blk_drew ?_ | refine blk_alloc ?_ _)); refine blk_put (cs := #[.slice Ao21 t105.length co21, .slice Ao23 t108.length co23, .string (⟨#[]⟩ : ByteArray), .slice none 0 0, .int .i64 0]) ?_ 2 _ rfl; (with_reducible repeat (first | refine blk_drewN ?_ _ | refine blk_drew ?_ | refine blk_alloc ?_ _)); refine blk_put (cs := #[.slice Ao21 t105.length co21, .slice none 0 0, .string (⟨#[]⟩ : ByteArray), .slice none 0 0, .int .i64 0]) ?_ 1 _ rfl; (with_reducible repeat (first | refine blk_drewN ?_ _ | refine blk_drew ?_ | refine blk_alloc ?_ _)); refine blk_put (cs := #[.slice none 0 0, .slice none 0 0, .string (⟨#[]⟩ : ByteArray), .slice none 0 0, .int .i64 0]) ?_ 0 _ rfl; (with_reducible repeat (first | refine blk_drewN ?_ _ | refine blk_drew ?_ | refine blk_alloc ?_ _)); exact BK116.out) hb); have n6_ := Aside0.mk (below_step z4_3 hb); clear HO104; clear HO107; clear HO110; clear HO114; clear BK116; clear HB; have HO104 := n0_; have HO107 := n1_; have HO110 := n2_; have HO114 := n3_; have HO119 := n4_; have BK116 := n5_; have HB := n6_; clear n0_ n1_ n2_ n3_ n4_ n5_ n6_; (try clear hb); (try clear hb2); (try clear hk); (try clear hi); (try clear ho0); obtain ⟨Ao26, co26, eo26⟩ := Kd.R_slice HO119.out; subst eo26) | ((with_reducible refine gate_callee (f := 7) rfl ?_); refine goesL_ (some 22) rfl rfl Try.func7 (by kernel_rfl) rfl #[.slice Ao26 t117.length co26] rfl z4_4 ?_; (with_reducible refine (impl_ServerNew.calls k _ _ t117 t120 t123 t126 t127 t130 _ ?side1 ?side2 A8.out).mono ?_); (case side1 => repeat (first | exact (Kd.R_reads' HO119.out).2.2 | (with_reducible refine Kd.C_alloc ?_ _) | (with_reducible refine Kd.C_drewN ?_ _) | (with_reducible refine Kd.C_drew ?_))); (case side2 => exact (Kd.R_reads' HO119.out).2.1); rintro e w27 ⟨v121, v124, v128, rfl, ho0, ho1, ho2, hb⟩; refine ⟨_, rfl, ?_⟩; have n0_ := Aside0.mk (Kd.R_elder' z4_16 (Kd.Q_base ho0) hb); have n1_ := Aside0.mk (Kd.R_elder' z4_17 (Kd.Q_base ho0) hb); have n2_ := Aside0.mk (Kd.R_elder' z4_18 (Kd.R_base ho1) hb); have n3_ := Aside0.mk (Kd.S_elder' z4_19 (Kd.S_base ho2) hb); have n4_ := Aside0.mk (Kd.R_elder' z4_20 (Kd.Q_base ho0) hb); have n5_ := Aside0.mk (Kd.Q_lower (Kd.Q_new' (Kd.Q_new' (Kd.Q_new' ho0 (Kd.R_lt z4_16)) (Kd.R_lt z4_17)) (Kd.R_lt z4_20)) (below_size z4_3)); have n6_ := Aside0.mk (Kd.R_lower (Kd.R_new' ho1 (Kd.R_lt z4_18)) (below_size z4_3)); have n7_ := Aside0.mk (Kd.S_lower (Kd.S_new' ho2 (Kd.S_lt z4_19)) (below_size z4_3)); have n8_ := Aside0.mk (blk_below (g := gb116) (o := .cells #[.slice Ao21 t105.length co21, .slice Ao23 t108.length co23, .string t111, .slice Ao24 t112.length co24, .int .i64 t115] 28 (0, 0)) z4_7 hb); have n9_ := Aside0.mk (below_step z4_3 hb); clear HO104; clear HO107; clear HO110; clear HO114; clear HO119; clear BK116; clear HB; have HO104 := n0_; have HO107 := n1_; have HO110 := n2_; have HO114 := n3_; have HO119 := n4_; have HO122 := n5_; have HO125 := n6_; have HO129 := n7_; have BK116 := n8_; have HB := n9_; clear n0_ n1_ n2_ n3_ n4_ n5_ n6_ n7_ n8_ n9_; (try clear hb); (try clear hb2); (try clear hk); (try clear hi); (try clear ho0); (try clear ho1); (try clear ho2)) | ((with_reducible refine gate_dst (N := 6) rfl ?_); refine box_event ?hg (N := 6) ?hd (cs := #[.slice none 0 0, .slice none 0 0, .string (⟨#[]⟩ : ByteArray), .slice none 0 0, .int .i64 0]) (t := 28) ?hr ?_; (case hd => rfl); (case hg => rfl); (case hr => first | (go_simp; done) | (go_simp; rfl)); intro gb131 hg w28 hbox hb; have n0_ := Aside0.mk (Kd.R_below z4_16 hb); have n1_ := Aside0.mk (Kd.R_below z4_17 hb); have n2_ := Aside0.mk (Kd.R_below z4_18 hb); have n3_ := Aside0.mk (Kd.S_below z4_19 hb); have n4_ := Aside0.mk (Kd.R_below z4_20 hb); have n5_ := Aside0.mk (Kd.Q_below z4_21 hb); have n6_ := Aside0.mk (Kd.R_below z4_22 hb); have n7_ := Aside0.mk (Kd.S_below z4_23 hb); have n8_ := Aside0.mk (blk_below (g := gb116) (o := .cells #[.slice Ao21 t105.length co21, .slice Ao23 t108.length co23, .string t111, .slice Ao24 t112.length co24, .int .i64 t115] 28 (0, 0)) z4_7 hb); have n9_ := Aside0.mk (below_step z4_3 hb); have n10_ := Aside0.mk (hbox); have n11_ := Aside0.mk ((by rw [hg]; exact (below_size z4_3) : w.heap.size ≤ gb131)); have n12_ := Aside0.mk ((by rw [hg]; exact (below_size z4_3) : w.heap.size ≤ gb131)); have n13_ := Aside0.mk ((by rw [hg]; exact Nat.ne_of_lt (blk_lt (g := gb116) (o := .cells #[.slice Ao21 t105.length co21, .slice Ao23 t108.length co23, .string t111, .slice Ao24 t112.length co24, .int .i64 t115] 28 (0, 0)) z4_7) : gb116 ≠ gb131)); have n14_ := Aside0.mk ((by rw [hg]; exact Nat.ne_of_gt (blk_lt (g := gb116) (o := .cells #[.slice Ao21 t105.length co21, .slice Ao23 t108.length co23, .string t111, .slice Ao24 t112.length co24, .int .i64 t115] 28 (0, 0)) z4_7) : gb131 ≠ gb116)); clear HO104; clear HO107; clear HO110; clear HO114; clear HO119; clear HO122; clear HO125; clear HO129; clear BK116; clear HB; have HO104 := n0_; have HO107 := n1_; have HO110 := n2_; have HO114 := n3_; have HO119 := n4_; have HO122 := n5_; have HO125 := n6_; have HO129 := n7_; have BK116 := n8_; have HB := n9_; have BK131 := n10_; have GW131 := n11_; have GE131 := n12_; have NB116_131 := n13_; have NB131_116 := n14_; clear n0_ n1_ n2_ n3_ n4_ n5_ n6_ n7_ n8_ n9_ n10_ n11_ n12_ n13_ n14_; clear hb hbox hg; obtain ⟨Ao29, co29, eo29, _⟩ := Kd.Q_slice HO122.out; subst eo29; have hnb30 := NB131_116.out; have hnc30 := NB116_131.out; have hcz31_0 : w28.cell? ⟨gb131, 0, none⟩ = some (.slice none 0 0) := (blk_cell BK131.out 0).trans rfl; have hcz31_1 : w28.cell? ⟨gb131, 1, none⟩ = some (.slice none 0 0) := (blk_cell BK131.out 1).trans rfl; have hcz31_2 : w28.cell? ⟨gb131, 2, none⟩ = some (.string (⟨#[]⟩ : ByteArray)) := (blk_cell BK131.out 2).trans rfl; have hcz31_3 : w28.cell? ⟨gb131, 3, none⟩ = some (.slice none 0 0) := (blk_cell BK131.out 3).trans rfl; have hcz31_4 : w28.cell? ⟨gb131, 4, none⟩ = some (.int .i64 0) := (blk_cell BK131.out 4).trans rfl; have hfz31_0 := blk_frozen BK131.out 0; have hfz31_1 := blk_frozen BK131.out 1; have hfz31_2 := blk_frozen BK131.out 2; have hfz31_3 := blk_frozen BK131.out 3; have hfz31_4 := blk_frozen BK131.out 4; obtain ⟨Ao32, co32, eo32⟩ := Kd.R_slice HO125.out; subst eo32; obtain ⟨Ao33, co33, eo33⟩ := Kd.S_slice HO129.out; subst eo33; have hcz34_0 : w28.cell? ⟨gb116, 0, none⟩ = some (.slice Ao21 t105.length co21) := (blk_cell BK116.out 0).trans rfl; have hcz34_1 : w28.cell? ⟨gb116, 1, none⟩ = some (.slice Ao23 t108.length co23) := (blk_cell BK116.out 1).trans rfl; have hcz34_2 : w28.cell? ⟨gb116, 2, none⟩ = some (.string t111) := (blk_cell BK116.out 2).trans rfl; have hcz34_3 : w28.cell? ⟨gb116, 3, none⟩ = some (.slice Ao24 t112.length co24) := (blk_cell BK116.out 3).trans rfl; have hcz34_4 : w28.cell? ⟨gb116, 4, none⟩ = some (.int .i64 t115) := (blk_cell BK116.out 4).trans rfl; have hfz34_0 := blk_frozen BK116.out 0; have hfz34_1 := blk_frozen BK116.out 1; have hfz34_2 := blk_frozen BK116.out 2; have hfz34_3 := blk_frozen BK116.out 3; have hfz34_4 := blk_frozen BK116.out 4) | ((with_reducible refine gate_callee (f := 8) rfl ?_); refine goesL_ (some 25) rfl rfl Try.func8 (by kernel_rfl) rfl #[.agg #[.slice Ao29 t120.length co29, .slice Ao32 t123.length co32, .string t126, .slice Ao33 t127.length co33, .int .i64 t130], .agg #[.slice Ao21 t105.length co21, .slice Ao23 t108.length co23, .string t111, .slice Ao24 t112.length co24, .int .i64 t115]] rfl z4_4 ?_; (with_reducible refine (laws_eqServer.calls k _ _ t120 _ _ t123 t126 _ _ t127 t130 _ _ t105 _ _ t108 t111 _ _ t112 t115 true _ ?side1 ?side2 ?side3 ?side4 ?side5 ?side6 ?side7 ?side8 ?side9 ?side10 ?side11 ?side12 A9.out).mono ?_); (case side1 => refine (Kd.Q_reads' (e := 40) (base := w.heap.size) (ok := fun k_ => (((True ∧ some k_ ≠ (.slice Ao18 t102.length co18 : Value).ownBlock) ∧ some k_ ≠ (.slice Ao21 t105.length co21 : Value).ownBlock) ∧ some k_ ≠ (.slice Ao26 t117.length co26 : Value).ownBlock)) (n := t120.length) (c := co29) ?_).2.2; exact (by (with_reducible repeat (first | apply Kd.Q_alloc | apply Kd.Q_drewN | apply Kd.Q_drew)); exact (Kd.Q_mono (Kd.Q_far (p := ⟨gb131, 4, none⟩) (Kd.Q_far (p := ⟨gb131, 3, none⟩) (Kd.Q_far (p := ⟨gb131, 2, none⟩) (Kd.Q_far (p := ⟨gb131, 1, none⟩) (Kd.Q_far (p := ⟨gb131, 0, none⟩) (Kd.Q_types HO122.out BK131.out (by decide)) (fun _ hk => hk.2) (.slice Ao29 t120.length co29)) (fun _ hk => hk.2) (.slice Ao32 t123.length co32)) (fun _ hk => hk.2) (.string t126)) (fun _ hk => hk.2) (.slice Ao33 t127.length co33)) (fun _ hk => hk.2) (.int .i64 t130)) (fun _ h_ => h_.1)))); (case side2 => exact (Kd.Q_reads' HO122.out).2.1); (case side3 => refine (Kd.R_reads' (e := 53) (base := w.heap.size) (ok := fun k_ => (True ∧ some k_ ≠ (.slice Ao23 t108.length co23 : Value).ownBlock)) (n := t123.length) (c := co32) ?_).2.2; exact (by (with_reducible repeat (first | apply Kd.R_alloc | apply Kd.R_drewN | apply Kd.R_drew)); exact (Kd.R_mono (Kd.R_far (p := ⟨gb131, 4, none⟩) (Kd.R_far (p := ⟨gb131, 3, none⟩) (Kd.R_far (p := ⟨gb131, 2, none⟩) (Kd.R_far (p := ⟨gb131, 1, none⟩) (Kd.R_far (p := ⟨gb131, 0, none⟩) (Kd.R_types HO125.out BK131.out (by decide)) (fun _ hk => hk.2) (.slice Ao29 t120.length co29)) (fun _ hk => hk.2) (.slice Ao32 t123.length co32)) (fun _ hk => hk.2) (.string t126)) (fun _ hk => hk.2) (.slice Ao33 t127.length co33)) (fun _ hk => hk.2) (.int .i64 t130)) (fun _ h_ => h_.1)))); (case side4 => exact (Kd.R_reads' HO125.out).2.1); (case side5 => refine (Kd.S_reads' (e := 61) (base := w.heap.size) (ok := fun k_ => (True ∧ some k_ ≠ (.slice Ao24 t112.length co24 : Value).ownBlock)) (n := t127.length) (c := co33) ?_).2.2; exact (by (with_reducible repeat (first | apply Kd.S_alloc | apply Kd.S_drewN | apply Kd.S_drew)); exact (Kd.S_mono (Kd.S_far (p := ⟨gb131, 4, none⟩) (Kd.S_far (p := ⟨gb131, 3, none⟩) (Kd.S_far (p := ⟨gb131, 2, none⟩) (Kd.S_far (p := ⟨gb131, 1, none⟩) (Kd.S_far (p := ⟨gb131, 0, none⟩) (Kd.S_types HO129.out BK131.out (by decide)) (fun _ hk => hk.2) (.slice Ao29 t120.length co29)) (fun _ hk => hk.2) (.slice Ao32 t123.length co32)) (fun _ hk => hk.2) (.string t126)) (fun _ hk => hk.2) (.slice Ao33 t127.length co33)) (fun _ hk => hk.2) (.int .i64 t130)) (fun _ h_ => h_.1)))); (case side6 => exact (Kd.S_reads' HO129.out).2.1); (case side7 => refine (Kd.R_reads' (e := 40) (base := w.heap.size) (ok := fun k_ => (((True ∧ some k_ ≠ (.slice Ao18 t102.length co18 : Value).ownBlock) ∧ some k_ ≠ (.slice Ao26 t117.length co26 : Value).ownBlock) ∧ some k_ ≠ (.slice Ao29 t120.length co29 : Value).ownBlock)) (n := t105.length) (c := co21) ?_).2.2; exact (by (with_reducible repeat (first | apply Kd.R_alloc | apply Kd.R_drewN | apply Kd.R_drew)); exact (Kd.R_mono (Kd.R_far (p := ⟨gb131, 4, none⟩) (Kd.R_far (p := ⟨gb131, 3, none⟩) (Kd.R_far (p := ⟨gb131, 2, none⟩) (Kd.R_far (p := ⟨gb131, 1, none⟩) (Kd.R_far (p := ⟨gb131, 0, none⟩) (Kd.R_types HO107.out BK131.out (by decide)) (fun _ hk => hk.2) (.slice Ao29 t120.length co29)) (fun _ hk => hk.2) (.slice Ao32 t123.length co32)) (fun _ hk => hk.2) (.string t126)) (fun _ hk => hk.2) (.slice Ao33 t127.length co33)) (fun _ hk => hk.2) (.int .i64 t130)) (fun _ h_ => h_.1)))); (case side8 => exact (Kd.R_reads' HO107.out).2.1); (case side9 => refine (Kd.R_reads' (e := 53) (base := w.heap.size) (ok := fun k_ => (True ∧ some k_ ≠ (.slice Ao32 t123.length co32 : Value).ownBlock)) (n := t108.length) (c := co23) ?_).2.2; exact (by (with_reducible repeat (first | apply Kd.R_alloc | apply Kd.R_drewN | apply Kd.R_drew)); exact (Kd.R_mono (Kd.R_far (p := ⟨gb131, 4, none⟩) (Kd.R_far (p := ⟨gb131, 3, none⟩) (Kd.R_far (p := ⟨gb131, 2, none⟩) (Kd.R_far (p := ⟨gb131, 1, none⟩) (Kd.R_far (p := ⟨gb131, 0, none⟩) (Kd.R_types HO110.out BK131.out (by decide)) (fun _ hk => hk.2) (.slice Ao29 t120.length co29)) (fun _ hk => hk.2) (.slice Ao32 t123.length co32)) (fun _ hk => hk.2) (.string t126)) (fun _ hk => hk.2) (.slice Ao33 t127.length co33)) (fun _ hk => hk.2) (.int .i64 t130)) (fun _ h_ => h_.1)))); (case side10 => exact (Kd.R_reads' HO110.out).2.1); (case side11 => refine (Kd.S_reads' (e := 61) (base := w.heap.size) (ok := fun k_ => (True ∧ some k_ ≠ (.slice Ao33 t127.length co33 : Value).ownBlock)) (n := t112.length) (c := co24) ?_).2.2; exact (by (with_reducible repeat (first | apply Kd.S_alloc | apply Kd.S_drewN | apply Kd.S_drew)); exact (Kd.S_mono (Kd.S_far (p := ⟨gb131, 4, none⟩) (Kd.S_far (p := ⟨gb131, 3, none⟩) (Kd.S_far (p := ⟨gb131, 2, none⟩) (Kd.S_far (p := ⟨gb131, 1, none⟩) (Kd.S_far (p := ⟨gb131, 0, none⟩) (Kd.S_types HO114.out BK131.out (by decide)) (fun _ hk => hk.2) (.slice Ao29 t120.length co29)) (fun _ hk => hk.2) (.slice Ao32 t123.length co32)) (fun _ hk => hk.2) (.string t126)) (fun _ hk => hk.2) (.slice Ao33 t127.length co33)) (fun _ hk => hk.2) (.int .i64 t130)) (fun _ h_ => h_.1)))); (case side12 => exact (Kd.S_reads' HO114.out).2.1); rintro e w35 ⟨rfl, hb⟩; refine ⟨_, rfl, ?_⟩; have n0_ := Aside0.mk (Kd.R_below (by (with_reducible repeat (first | apply Kd.R_alloc | apply Kd.R_drewN | apply Kd.R_drew)); exact (Kd.R_mono (Kd.R_far (p := ⟨gb131, 4, none⟩) (Kd.R_far (p := ⟨gb131, 3, none⟩) (Kd.R_far (p := ⟨gb131, 2, none⟩) (Kd.R_far (p := ⟨gb131, 1, none⟩) (Kd.R_far (p := ⟨gb131, 0, none⟩) (Kd.R_types HO104.out BK131.out (by decide)) (fun _ hk => hk.2) (.slice Ao29 t120.length co29)) (fun _ hk => hk.2) (.slice Ao32 t123.length co32)) (fun _ hk => hk.2) (.string t126)) (fun _ hk => hk.2) (.slice Ao33 t127.length co33)) (fun _ hk => hk.2) (.int .i64 t130)) (fun _ h_ => h_.1))) hb); have n1_ := Aside0.mk (Kd.R_below (by (with_reducible repeat (first | apply Kd.R_alloc | apply Kd.R_drewN | apply Kd.R_drew)); exact (Kd.R_mono (Kd.R_far (p := ⟨gb131, 4, none⟩) (Kd.R_far (p := ⟨gb131, 3, none⟩) (Kd.R_far (p := ⟨gb131, 2, none⟩) (Kd.R_far (p := ⟨gb131, 1, none⟩) (Kd.R_far (p := ⟨gb131, 0, none⟩) (Kd.R_types HO107.out BK131.out (by decide)) (fun _ hk => hk.2) (.slice Ao29 t120.length co29)) (fun _ hk => hk.2) (.slice Ao32 t123.length co32)) (fun _ hk => hk.2) (.string t126)) (fun _ hk => hk.2) (.slice Ao33 t127.length co33)) (fun _ hk => hk.2) (.int .i64 t130)) (fun _ h_ => h_.1))) hb); have n2_ := Aside0.mk (Kd.R_below (by (with_reducible repeat (first | apply Kd.R_alloc | apply Kd.R_drewN | apply Kd.R_drew)); exact (Kd.R_mono (Kd.R_far (p := ⟨gb131, 4, none⟩) (Kd.R_far (p := ⟨gb131, 3, none⟩) (Kd.R_far (p := ⟨gb131, 2, none⟩) (Kd.R_far (p := ⟨gb131, 1, none⟩) (Kd.R_far (p := ⟨gb131, 0, none⟩) (Kd.R_types HO110.out BK131.out (by decide)) (fun _ hk => hk.2) (.slice Ao29 t120.length co29)) (fun _ hk => hk.2) (.slice Ao32 t123.length co32)) (fun _ hk => hk.2) (.string t126)) (fun _ hk => hk.2) (.slice Ao33 t127.length co33)) (fun _ hk => hk.2) (.int .i64 t130)) (fun _ h_ => h_.1))) hb); have n3_ := Aside0.mk (Kd.S_below (by (with_reducible repeat (first | apply Kd.S_alloc | apply Kd.S_drewN | apply Kd.S_drew)); exact (Kd.S_mono (Kd.S_far (p := ⟨gb131, 4, none⟩) (Kd.S_far (p := ⟨gb131, 3, none⟩) (Kd.S_far (p := ⟨gb131, 2, none⟩) (Kd.S_far (p := ⟨gb131, 1, none⟩) (Kd.S_far (p := ⟨gb131, 0, none⟩) (Kd.S_types HO114.out BK131.out (by decide)) (fun _ hk => hk.2) (.slice Ao29 t120.length co29)) (fun _ hk => hk.2) (.slice Ao32 t123.length co32)) (fun _ hk => hk.2) (.string t126)) (fun _ hk => hk.2) (.slice Ao33 t127.length co33)) (fun _ hk => hk.2) (.int .i64 t130)) (fun _ h_ => h_.1))) hb); have n4_ := Aside0.mk (Kd.R_below (by (with_reducible repeat (first | apply Kd.R_alloc | apply Kd.R_drewN | apply Kd.R_drew)); exact (Kd.R_mono (Kd.R_far (p := ⟨gb131, 4, none⟩) (Kd.R_far (p := ⟨gb131, 3, none⟩) (Kd.R_far (p := ⟨gb131, 2, none⟩) (Kd.R_far (p := ⟨gb131, 1, none⟩) (Kd.R_far (p := ⟨gb131, 0, none⟩) (Kd.R_types HO119.out BK131.out (by decide)) (fun _ hk => hk.2) (.slice Ao29 t120.length co29)) (fun _ hk => hk.2) (.slice Ao32 t123.length co32)) (fun _ hk => hk.2) (.string t126)) (fun _ hk => hk.2) (.slice Ao33 t127.length co33)) (fun _ hk => hk.2) (.int .i64 t130)) (fun _ h_ => h_.1))) hb); have n5_ := Aside0.mk (Kd.Q_below (by (with_reducible repeat (first | apply Kd.Q_alloc | apply Kd.Q_drewN | apply Kd.Q_drew)); exact (Kd.Q_mono (Kd.Q_far (p := ⟨gb131, 4, none⟩) (Kd.Q_far (p := ⟨gb131, 3, none⟩) (Kd.Q_far (p := ⟨gb131, 2, none⟩) (Kd.Q_far (p := ⟨gb131, 1, none⟩) (Kd.Q_far (p := ⟨gb131, 0, none⟩) (Kd.Q_types HO122.out BK131.out (by decide)) (fun _ hk => hk.2) (.slice Ao29 t120.length co29)) (fun _ hk => hk.2) (.slice Ao32 t123.length co32)) (fun _ hk => hk.2) (.string t126)) (fun _ hk => hk.2) (.slice Ao33 t127.length co33)) (fun _ hk => hk.2) (.int .i64 t130)) (fun _ h_ => h_.1))) hb); have n6_ := Aside0.mk (Kd.R_below (by (with_reducible repeat (first | apply Kd.R_alloc | apply Kd.R_drewN | apply Kd.R_drew)); exact (Kd.R_mono (Kd.R_far (p := ⟨gb131, 4, none⟩) (Kd.R_far (p := ⟨gb131, 3, none⟩) (Kd.R_far (p := ⟨gb131, 2, none⟩) (Kd.R_far (p := ⟨gb131, 1, none⟩) (Kd.R_far (p := ⟨gb131, 0, none⟩) (Kd.R_types HO125.out BK131.out (by decide)) (fun _ hk => hk.2) (.slice Ao29 t120.length co29)) (fun _ hk => hk.2) (.slice Ao32 t123.length co32)) (fun _ hk => hk.2) (.string t126)) (fun _ hk => hk.2) (.slice Ao33 t127.length co33)) (fun _ hk => hk.2) (.int .i64 t130)) (fun _ h_ => h_.1))) hb); have n7_ := Aside0.mk (Kd.S_below (by (with_reducible repeat (first | apply Kd.S_alloc | apply Kd.S_drewN | apply Kd.S_drew)); exact (Kd.S_mono (Kd.S_far (p := ⟨gb131, 4, none⟩) (Kd.S_far (p := ⟨gb131, 3, none⟩) (Kd.S_far (p := ⟨gb131, 2, none⟩) (Kd.S_far (p := ⟨gb131, 1, none⟩) (Kd.S_far (p := ⟨gb131, 0, none⟩) (Kd.S_types HO129.out BK131.out (by decide)) (fun _ hk => hk.2) (.slice Ao29 t120.length co29)) (fun _ hk => hk.2) (.slice Ao32 t123.length co32)) (fun _ hk => hk.2) (.string t126)) (fun _ hk => hk.2) (.slice Ao33 t127.length co33)) (fun _ hk => hk.2) (.int .i64 t130)) (fun _ h_ => h_.1))) hb); have n8_ := Aside0.mk (blk_below (g := gb116) (o := .cells #[.slice Ao21 t105.length co21, .slice Ao23 t108.length co23, .string t111, .slice Ao24 t112.length co24, .int .i64 t115] 28 (0, 0)) (by (with_reducible repeat (first | refine blk_drewN ?_ _ | refine blk_drew ?_ | refine blk_alloc ?_ _ | refine blk_far ?_ NB116_131.out _)); exact BK116.out) hb); have n9_ := Aside0.mk (blk_below (g := gb131) (o := .cells #[.slice Ao29 t120.length co29, .slice Ao32 t123.length co32, .string t126, .slice Ao33 t127.length co33, .int .i64 t130] 28 (0, 0)) (by (with_reducible repeat (first | refine blk_drewN ?_ _ | refine blk_drew ?_ | refine blk_alloc ?_ _)); refine blk_put (cs := #[.slice Ao29 t120.length co29, .slice Ao32 t123.length co32, .string t126, .slice Ao33 t127.length co33, .int .i64 0]) ?_ 4 _ rfl; (with_reducible repeat (first | refine blk_drewN ?_ _ | refine blk_drew ?_ | refine blk_alloc ?_ _)); refine blk_put (cs := #[.slice Ao29 t120.length co29, .slice Ao32 t123.length co32, .string t126, .slice none 0 0, .int .i64 0]) ?_ 3 _ rfl; (with_reducible repeat (first | refine blk_drewN ?_ _ | refine blk_drew ?_ | refine blk_alloc ?_ _)); refine blk_put (cs := #[.slice Ao29 t120.length co29, .slice Ao32 t123.length co32, .string (⟨#[]⟩ : ByteArray), .slice none 0 0, .int .i64 0]) ?_ 2 _ rfl; (with_reducible repeat (first | refine blk_drewN ?_ _ | refine blk_drew ?_ | refine blk_alloc ?_ _)); refine blk_put (cs := #[.slice Ao29 t120.length co29, .slice none 0 0, .string (⟨#[]⟩ : ByteArray), .slice none 0 0, .int .i64 0]) ?_ 1 _ rfl; (with_reducible repeat (first | refine blk_drewN ?_ _ | refine blk_drew ?_ | refine blk_alloc ?_ _)); refine blk_put (cs := #[.slice none 0 0, .slice none 0 0, .string (⟨#[]⟩ : ByteArray), .slice none 0 0, .int .i64 0]) ?_ 0 _ rfl; (with_reducible repeat (first | refine blk_drewN ?_ _ | refine blk_drew ?_ | refine blk_alloc ?_ _)); exact BK131.out) hb); have n10_ := Aside0.mk (below_step z4_0 hb); clear HO104; clear HO107; clear HO110; clear HO114; clear HO119; clear HO122; clear HO125; clear HO129; clear BK116; clear BK131; clear HB; have HO104 := n0_; have HO107 := n1_; have HO110 := n2_; have HO114 := n3_; have HO119 := n4_; have HO122 := n5_; have HO125 := n6_; have HO129 := n7_; have BK116 := n8_; have BK131 := n9_; have HB := n10_; clear n0_ n1_ n2_ n3_ n4_ n5_ n6_ n7_ n8_ n9_ n10_; (try clear hb); (try clear hb2); (try clear hk); (try clear hi)) | ((with_reducible refine gate_callee (f := 6) rfl ?_); refine goesL_ (some 29) rfl rfl Try.func6 (by kernel_rfl) rfl #[.slice A0 l0.length c0] rfl z4_4 ?_; (with_reducible refine (laws_toAccountS.calls k _ _ l0 t133 _ ?side1 ?side2 A11.out).mono ?_); (case side1 => repeat (first | exact (Kd.C_below HR0.out HB.out) | (with_reducible refine Kd.C_alloc ?_ _) | (with_reducible refine Kd.C_drewN ?_ _) | (with_reducible refine Kd.C_drew ?_))); (case side2 => exact HC0.out); rintro e w36 ⟨v134, rfl, ho0, hb⟩; refine ⟨_, rfl, ?_⟩; have n0_ := Aside0.mk (Kd.R_elder' z4_16 (Kd.R_base ho0) hb); have n1_ := Aside0.mk (Kd.R_elder' z4_17 (Kd.R_base ho0) hb); have n2_ := Aside0.mk (Kd.R_below z4_18 hb); have n3_ := Aside0.mk (Kd.S_below z4_19 hb); have n4_ := Aside0.mk (Kd.R_elder' z4_20 (Kd.R_base ho0) hb); have n5_ := Aside0.mk (Kd.Q_elder' z4_21 (Kd.R_base ho0) hb); have n6_ := Aside0.mk (Kd.R_below z4_22 hb); have n7_ := Aside0.mk (Kd.S_below z4_23 hb); have n8_ := Aside0.mk (Kd.R_lower (Kd.R_new' (Kd.R_new' (Kd.R_new' (Kd.R_new' ho0 (Kd.R_lt z4_16)) (Kd.R_lt z4_17)) (Kd.R_lt z4_20)) (Kd.Q_lt z4_21)) (below_size z4_0)); have n9_ := Aside0.mk (blk_below (g := gb116) (o := .cells #[.slice Ao21 t105.length co21, .slice Ao23 t108.length co23, .string t111, .slice Ao24 t112.length co24, .int .i64 t115] 28 (0, 0)) z4_7 hb); have n10_ := Aside0.mk (blk_below (g := gb131) (o := .cells #[.slice Ao29 t120.length co29, .slice Ao32 t123.length co32, .string t126, .slice Ao33 t127.length co33, .int .i64 t130] 28 (0, 0)) z4_8 hb); have n11_ := Aside0.mk (below_step z4_0 hb); clear HO104; clear HO107; clear HO110; clear HO114; clear HO119; clear HO122; clear HO125; clear HO129; clear BK116; clear BK131; clear HB; have HO104 := n0_; have HO107 := n1_; have HO110 := n2_; have HO114 := n3_; have HO119 := n4_; have HO122 := n5_; have HO125 := n6_; have HO129 := n7_; have HO135 := n8_; have BK116 := n9_; have BK131 := n10_; have HB := n11_; clear n0_ n1_ n2_ n3_ n4_ n5_ n6_ n7_ n8_ n9_ n10_ n11_; (try clear hb); (try clear hb2); (try clear hk); (try clear hi); (try clear ho0); obtain ⟨Ao37, co37, eo37⟩ := Kd.R_slice HO135.out; subst eo37) | ((with_reducible refine gate_callee (f := 9) rfl ?_); refine goesL_ (some 30) rfl rfl Try.func9 (by kernel_rfl) rfl #[.slice Ao26 t117.length co26, .slice Ao37 t133.length co37] rfl z4_4 ?_; (with_reducible refine (laws_eqAccountS.calls k _ _ t117 _ _ t133 true _ ?side1 ?side2 ?side3 ?side4 A12.out).mono ?_); (case side1 => repeat (first | exact (Kd.R_reads' HO119.out).2.2 | (with_reducible refine Kd.C_alloc ?_ _) | (with_reducible refine Kd.C_drewN ?_ _) | (with_reducible refine Kd.C_drew ?_))); (case side2 => exact (Kd.R_reads' HO119.out).2.1); (case side3 => repeat (first | exact (Kd.R_reads' HO135.out).2.2 | (with_reducible refine Kd.C_alloc ?_ _) | (with_reducible refine Kd.C_drewN ?_ _) | (with_reducible refine Kd.C_drew ?_))); (case side4 => exact (Kd.R_reads' HO135.out).2.1); rintro e w38 ⟨rfl, hb⟩; refine ⟨_, rfl, ?_⟩; have n0_ := Aside0.mk (Kd.R_below z4_16 hb); have n1_ := Aside0.mk (Kd.R_below z4_17 hb); have n2_ := Aside0.mk (Kd.R_below z4_18 hb); have n3_ := Aside0.mk (Kd.S_below z4_19 hb); have n4_ := Aside0.mk (Kd.R_below z4_20 hb); have n5_ := Aside0.mk (Kd.Q_below z4_21 hb); have n6_ := Aside0.mk (Kd.R_below z4_22 hb); have n7_ := Aside0.mk (Kd.S_below z4_23 hb); have n8_ := Aside0.mk (Kd.R_below (by (with_reducible repeat (first | apply Kd.R_alloc | apply Kd.R_drewN | apply Kd.R_drew)); exact HO135.out) hb); have n9_ := Aside0.mk (blk_below (g := gb116) (o := .cells #[.slice Ao21 t105.length co21, .slice Ao23 t108.length co23, .string t111, .slice Ao24 t112.length co24, .int .i64 t115] 28 (0, 0)) z4_7 hb); have n10_ := Aside0.mk (blk_below (g := gb131) (o := .cells #[.slice Ao29 t120.length co29, .slice Ao32 t123.length co32, .string t126, .slice Ao33 t127.length co33, .int .i64 t130] 28 (0, 0)) z4_8 hb); have n11_ := Aside0.mk (below_step z4_0 hb); clear HO104; clear HO107; clear HO110; clear HO114; clear HO119; clear HO122; clear HO125; clear HO129; clear HO135; clear BK116; clear BK131; clear HB; have HO104 := n0_; have HO107 := n1_; have HO110 := n2_; have HO114 := n3_; have HO119 := n4_; have HO122 := n5_; have HO125 := n6_; have HO129 := n7_; have HO135 := n8_; have BK116 := n9_; have BK131 := n10_; have HB := n11_; clear n0_ n1_ n2_ n3_ n4_ n5_ n6_ n7_ n8_ n9_ n10_ n11_; (try clear hb); (try clear hb2); (try clear hk); (try clear hi)) | ((with_reducible refine gate_callee (f := 10) rfl ?_); refine goesL_ (some 34) rfl rfl Try.func10 (by kernel_rfl) rfl #[.slice Ao26 t117.length co26, .int .i64 1] rfl z4_4 ?_; (with_reducible refine (laws_markAccountS.calls k (fun k_ => some k_ = (.slice Ao26 t117.length co26 : Value).ownBlock) (.slice Ao26 t117.length co26) t117 1 t137 t138 w _ ?side1 ?side2 A14.out).mono ?_); (case side1 => repeat (first | (with_reducible first | exact HB.out | apply below_alloc | apply pw_below_drewN | apply below_drew1 | refine below_set ?_ GE116.out | refine below_set ?_ GE131.out) | exact HB.out)); (case side2 => exact Kd.Q_of_R (Kd.R_tight rfl HO119.out)); rintro e w39 ⟨rfl, hy0, hb, hkp⟩; refine ⟨_, rfl, ?_⟩; have n0_ := Aside0.mk (Kd.R_mono (ok' := fun k_ => some k_ ≠ (.slice Ao21 t105.length co21 : Value).ownBlock ∧ some k_ ≠ (.slice Ao26 t117.length co26 : Value).ownBlock ∧ some k_ ≠ (.slice Ao29 t120.length co29 : Value).ownBlock ∧ some k_ ≠ (.slice Ao37 t133.length co37 : Value).ownBlock) (Kd.R_keptB (HO104.out) hkp (fun k_ hk_ hs_ => (hk_.1.1.2) hs_)) (fun k_ hk_ => ⟨hk_.1.1.1.1.2, hk_.1.1.1.2, hk_.1.1.2, hk_.1.2⟩)); have n1_ := Aside0.mk (Kd.R_mono (ok' := fun k_ => some k_ ≠ (.slice Ao18 t102.length co18 : Value).ownBlock ∧ some k_ ≠ (.slice Ao26 t117.length co26 : Value).ownBlock ∧ some k_ ≠ (.slice Ao29 t120.length co29 : Value).ownBlock ∧ some k_ ≠ (.slice Ao37 t133.length co37 : Value).ownBlock) (Kd.R_keptB (HO107.out) hkp (fun k_ hk_ hs_ => (hk_.1.1.2) hs_)) (fun k_ hk_ => ⟨hk_.1.1.1.1.2, hk_.1.1.1.2, hk_.1.1.2, hk_.1.2⟩)); have n2_ := Aside0.mk (Kd.R_mono (ok' := fun k_ => some k_ ≠ (.slice Ao32 t123.length co32 : Value).ownBlock) (Kd.R_keptB ((Kd.R_apart' HO110.out (Kd.R_typed HO119.out) (by decide))) hkp (fun k_ hk_ hs_ => (hk_.2) hs_)) (fun k_ hk_ => hk_.1.1.2)); have n3_ := Aside0.mk (Kd.S_mono (ok' := fun k_ => some k_ ≠ (.slice Ao33 t127.length co33 : Value).ownBlock) (Kd.S_keptB ((Kd.S_apart' HO114.out (Kd.R_typed HO119.out) (by decide))) hkp (fun k_ hk_ hs_ => (hk_.2) hs_)) (fun k_ hk_ => hk_.1.1.2)); have n4_ := Aside0.mk (blk_kept z4_7 hkp (fun hs_ => (fun e_ => (Kd.R_ne HO119.out BK116.out (by decide)) e_) hs_)); have n5_ := Aside0.mk (Q_reok rfl hy0 (fun k_ e_ => HO119.out.1 k_ e_)); have n6_ := Aside0.mk (Kd.Q_mono (ok' := fun k_ => some k_ ≠ (.slice Ao18 t102.length co18 : Value).ownBlock ∧ some k_ ≠ (.slice Ao21 t105.length co21 : Value).ownBlock ∧ some k_ ≠ (.slice Ao26 t117.length co26 : Value).ownBlock ∧ some k_ ≠ (.slice Ao37 t133.length co37 : Value).ownBlock) (Kd.Q_keptB (HO122.out) hkp (fun k_ hk_ hs_ => (hk_.1.2) hs_)) (fun k_ hk_ => ⟨hk_.1.1.1.1.2, hk_.1.1.1.2, hk_.1.1.2, hk_.1.2⟩)); have n7_ := Aside0.mk (Kd.R_mono (ok' := fun k_ => some k_ ≠ (.slice Ao23 t108.length co23 : Value).ownBlock) (Kd.R_keptB ((Kd.R_apart' HO125.out (Kd.R_typed HO119.out) (by decide))) hkp (fun k_ hk_ hs_ => (hk_.2) hs_)) (fun k_ hk_ => hk_.1.1.2)); have n8_ := Aside0.mk (Kd.S_mono (ok' := fun k_ => some k_ ≠ (.slice Ao24 t112.length co24 : Value).ownBlock) (Kd.S_keptB ((Kd.S_apart' HO129.out (Kd.R_typed HO119.out) (by decide))) hkp (fun k_ hk_ hs_ => (hk_.2) hs_)) (fun k_ hk_ => hk_.1.1.2)); have n9_ := Aside0.mk (blk_kept z4_8 hkp (fun hs_ => (fun e_ => (Kd.R_ne HO119.out BK131.out (by decide)) e_) hs_)); have n10_ := Aside0.mk (Kd.R_mono (ok' := fun k_ => some k_ ≠ (.slice Ao18 t102.length co18 : Value).ownBlock ∧ some k_ ≠ (.slice Ao21 t105.length co21 : Value).ownBlock ∧ some k_ ≠ (.slice Ao26 t117.length co26 : Value).ownBlock ∧ some k_ ≠ (.slice Ao29 t120.length co29 : Value).ownBlock) (Kd.R_keptB (HO135.out) hkp (fun k_ hk_ hs_ => (hk_.1.2) hs_)) (fun k_ hk_ => ⟨hk_.1.1.1.1.2, hk_.1.1.1.2, hk_.1.1.2, hk_.1.2⟩)); have n11_ := Aside0.mk (hb); clear HO104; clear HO107; clear HO110; clear HO114; clear BK116; clear HO119; clear HO122; clear HO125; clear HO129; clear BK131; clear HO135; clear HB; have HO104 := n0_; have HO107 := n1_; have HO110 := n2_; have HO114 := n3_; have BK116 := n4_; have HO119 := n5_; have HO122 := n6_; have HO125 := n7_; have HO129 := n8_; have BK131 := n9_; have HO135 := n10_; have HB := n11_; clear n0_ n1_ n2_ n3_ n4_ n5_ n6_ n7_ n8_ n9_ n10_ n11_; (try clear hb); (try clear hkp); (try clear hy0)))
        (try simp only [Act.put, List.setIfInBounds_toArray, List.set_cons_zero, List.set_cons_succ])
        go_cut [42] (fun v42 wc => ∃ (kq : Nat) (x42_14 : Bool), v42 = .bool x42_14 ∧ Aside0 (laws_FnExactServerNew.j0 kq l0 x42_14 t105 t108 t111 t112 t115 t120 t123 t126 t127 t130 = some r) ∧ Aside0 (kq ≤ k) ∧ Aside0 (Kd.Q k40 40 wc w.heap.size (fun k_ => some k_ ≠ ((.slice Ao29 t120.length co29) : Value).ownBlock) (.slice Ao21 t105.length co21) t105) ∧ Aside0 (Kd.R k53 53 wc w.heap.size (fun k_ => some k_ ≠ ((.slice Ao32 t123.length co32) : Value).ownBlock) (.slice Ao23 t108.length co23) t108) ∧ Aside0 (Kd.S k61 61 wc w.heap.size (fun k_ => some k_ ≠ ((.slice Ao33 t127.length co33) : Value).ownBlock) (.slice Ao24 t112.length co24) t112) ∧ Aside0 (Kd.Q k40 40 wc w.heap.size (fun k_ => some k_ ≠ ((.slice Ao21 t105.length co21) : Value).ownBlock) (.slice Ao29 t120.length co29) t120) ∧ Aside0 (Kd.R k53 53 wc w.heap.size (fun k_ => some k_ ≠ ((.slice Ao23 t108.length co23) : Value).ownBlock) (.slice Ao32 t123.length co32) t123) ∧ Aside0 (Kd.S k61 61 wc w.heap.size (fun k_ => some k_ ≠ ((.slice Ao24 t112.length co24) : Value).ownBlock) (.slice Ao33 t127.length co33) t127) ∧ Aside0 (wc.heap[gb116]? = some (.cells #[(.slice Ao21 t105.length co21), (.slice Ao23 t108.length co23), .string t111, (.slice Ao24 t112.length co24), .int .i64 t115] 28 (0, 0))) ∧ Aside0 (wc.heap[gb131]? = some (.cells #[(.slice Ao29 t120.length co29), (.slice Ao32 t123.length co32), .string t126, (.slice Ao33 t127.length co33), .int .i64 t130] 28 (0, 0))) ∧ Aside0 (Below w.heap.size w wc))
        case first =>
          have H := HC15.out
          clear HC15
          by_cases c40 : t137 < 0
          · rw [if_pos c40] at H
            have c40b0 : decide (t137 < 0) = true := decide_eq_true c40
            clear c40
            (first | rw [c40b0] | (simp only [i64_w, i32_w]; rw [c40b0]) | skip)
            have H' := Aside0.mk H
            clear H
            go_wp2
            go_meet
            case rel => exact ⟨_, (true), z4_26, H', ⟨by first | omega | exact Nat.le_refl _⟩, ⟨Kd.Q_of_R (by (with_reducible repeat (first | apply Kd.R_alloc | apply Kd.R_drewN | apply Kd.R_drew)); exact Kd.R_mono HO107.out (fun _ hk => hk.2.2.1))⟩, ⟨by (with_reducible repeat (first | apply Kd.R_alloc | apply Kd.R_drewN | apply Kd.R_drew)); exact HO110.out⟩, ⟨by (with_reducible repeat (first | apply Kd.S_alloc | apply Kd.S_drewN | apply Kd.S_drew)); exact HO114.out⟩, ⟨by (with_reducible repeat (first | apply Kd.Q_alloc | apply Kd.Q_drewN | apply Kd.Q_drew)); exact Kd.Q_mono HO122.out (fun _ hk => hk.2.1)⟩, ⟨by (with_reducible repeat (first | apply Kd.R_alloc | apply Kd.R_drewN | apply Kd.R_drew)); exact HO125.out⟩, ⟨by (with_reducible repeat (first | apply Kd.S_alloc | apply Kd.S_drewN | apply Kd.S_drew)); exact HO129.out⟩, ⟨by (with_reducible repeat (first | refine blk_drewN ?_ _ | refine blk_drew ?_ | refine blk_alloc ?_ _)); exact BK116.out⟩, ⟨by (with_reducible repeat (first | refine blk_drewN ?_ _ | refine blk_drew ?_ | refine blk_alloc ?_ _)); exact BK131.out⟩, ⟨by repeat (first | (with_reducible first | exact HB.out | apply below_alloc | apply pw_below_drewN | apply below_drew1 | refine below_set ?_ GE116.out | refine below_set ?_ GE131.out) | exact HB.out)⟩⟩
          · rw [if_neg c40] at H
            have c40b0 : decide (t137 < 0) = false := decide_eq_false c40
            clear c40
            (first | rw [c40b0] | (simp only [i64_w, i32_w]; rw [c40b0]) | skip)
            replace H := Option.bind_eq_some_iff.mp H
            obtain ⟨t139, A410, H⟩ := H
            replace H : (laws_FnExactServerNew.j0 k l0 (!t139) t105 t108 t111 t112 t115 t120 t123 t126 t127 t130) = some r := H
            have A41 := Aside0.mk A410
            clear A410
            have H' := Aside0.mk H
            clear H
            have hnb42 := NB131_116.out
            have hnc42 := NB116_131.out
            have hcz43_0 : w39.cell? ⟨gb131, 0, none⟩ = some (.slice Ao29 t120.length co29) := (blk_cell BK131.out 0).trans rfl
            have hcz43_1 : w39.cell? ⟨gb131, 1, none⟩ = some (.slice Ao32 t123.length co32) := (blk_cell BK131.out 1).trans rfl
            have hcz43_2 : w39.cell? ⟨gb131, 2, none⟩ = some (.string t126) := (blk_cell BK131.out 2).trans rfl
            have hcz43_3 : w39.cell? ⟨gb131, 3, none⟩ = some (.slice Ao33 t127.length co33) := (blk_cell BK131.out 3).trans rfl
            have hcz43_4 : w39.cell? ⟨gb131, 4, none⟩ = some (.int .i64 t130) := (blk_cell BK131.out 4).trans rfl
            have hfz43_0 := blk_frozen BK131.out 0
            have hfz43_1 := blk_frozen BK131.out 1
            have hfz43_2 := blk_frozen BK131.out 2
            have hfz43_3 := blk_frozen BK131.out 3
            have hfz43_4 := blk_frozen BK131.out 4
            have hcz44_0 : w39.cell? ⟨gb116, 0, none⟩ = some (.slice Ao21 t105.length co21) := (blk_cell BK116.out 0).trans rfl
            have hcz44_1 : w39.cell? ⟨gb116, 1, none⟩ = some (.slice Ao23 t108.length co23) := (blk_cell BK116.out 1).trans rfl
            have hcz44_2 : w39.cell? ⟨gb116, 2, none⟩ = some (.string t111) := (blk_cell BK116.out 2).trans rfl
            have hcz44_3 : w39.cell? ⟨gb116, 3, none⟩ = some (.slice Ao24 t112.length co24) := (blk_cell BK116.out 3).trans rfl
            have hcz44_4 : w39.cell? ⟨gb116, 4, none⟩ = some (.int .i64 t115) := (blk_cell BK116.out 4).trans rfl
            have hfz44_0 := blk_frozen BK116.out 0
            have hfz44_1 := blk_frozen BK116.out 1
            have hfz44_2 := blk_frozen BK116.out 2
            have hfz44_3 := blk_frozen BK116.out 3
            have hfz44_4 := blk_frozen BK116.out 4
            go_wp2_with (first | (go_at_call 8; (with_reducible refine (laws_eqServer.calls k _ _ t120 _ _ t123 t126 _ _ t127 t130 _ _ t105 _ _ t108 t111 _ _ t112 t115 t139 _ ?side1 ?side2 ?side3 ?side4 ?side5 ?side6 ?side7 ?side8 ?side9 ?side10 ?side11 ?side12 A41.out).mono ?_); (case side1 => repeat (first | exact (Kd.Q_reads' HO122.out).2.2 | (with_reducible refine Kd.C_alloc ?_ _) | (with_reducible refine Kd.C_drewN ?_ _) | (with_reducible refine Kd.C_drew ?_))); (case side2 => exact (Kd.Q_reads' HO122.out).2.1); (case side3 => repeat (first | exact (Kd.R_reads' HO125.out).2.2 | (with_reducible refine Kd.C_alloc ?_ _) | (with_reducible refine Kd.C_drewN ?_ _) | (with_reducible refine Kd.C_drew ?_))); (case side4 => exact (Kd.R_reads' HO125.out).2.1); (case side5 => repeat (first | exact (Kd.S_reads' HO129.out).2.2 | (with_reducible refine Kd.C_alloc ?_ _) | (with_reducible refine Kd.C_drewN ?_ _) | (with_reducible refine Kd.C_drew ?_))); (case side6 => exact (Kd.S_reads' HO129.out).2.1); (case side7 => repeat (first | exact (Kd.R_reads' HO107.out).2.2 | (with_reducible refine Kd.C_alloc ?_ _) | (with_reducible refine Kd.C_drewN ?_ _) | (with_reducible refine Kd.C_drew ?_))); (case side8 => exact (Kd.R_reads' HO107.out).2.1); (case side9 => repeat (first | exact (Kd.R_reads' HO110.out).2.2 | (with_reducible refine Kd.C_alloc ?_ _) | (with_reducible refine Kd.C_drewN ?_ _) | (with_reducible refine Kd.C_drew ?_))); (case side10 => exact (Kd.R_reads' HO110.out).2.1); (case side11 => repeat (first | exact (Kd.S_reads' HO114.out).2.2 | (with_reducible refine Kd.C_alloc ?_ _) | (with_reducible refine Kd.C_drewN ?_ _) | (with_reducible refine Kd.C_drew ?_))); (case side12 => exact (Kd.S_reads' HO114.out).2.1); rintro e w45 ⟨rfl, hb⟩; have n0_ := Aside0.mk (Kd.R_below z4_16 hb); have n1_ := Aside0.mk (Kd.R_below z4_17 hb); have n2_ := Aside0.mk (Kd.R_below z4_18 hb); have n3_ := Aside0.mk (Kd.S_below z4_19 hb); have n4_ := Aside0.mk (Kd.Q_below (by (with_reducible repeat (first | apply Kd.Q_alloc | apply Kd.Q_drewN | apply Kd.Q_drew)); exact HO119.out) hb); have n5_ := Aside0.mk (Kd.Q_below z4_21 hb); have n6_ := Aside0.mk (Kd.R_below z4_22 hb); have n7_ := Aside0.mk (Kd.S_below z4_23 hb); have n8_ := Aside0.mk (Kd.R_below (by (with_reducible repeat (first | apply Kd.R_alloc | apply Kd.R_drewN | apply Kd.R_drew)); exact HO135.out) hb); have n9_ := Aside0.mk (blk_below (g := gb116) (o := .cells #[.slice Ao21 t105.length co21, .slice Ao23 t108.length co23, .string t111, .slice Ao24 t112.length co24, .int .i64 t115] 28 (0, 0)) z4_7 hb); have n10_ := Aside0.mk (blk_below (g := gb131) (o := .cells #[.slice Ao29 t120.length co29, .slice Ao32 t123.length co32, .string t126, .slice Ao33 t127.length co33, .int .i64 t130] 28 (0, 0)) z4_8 hb); have n11_ := Aside0.mk (below_step z4_0 hb); clear HO104; clear HO107; clear HO110; clear HO114; clear HO119; clear HO122; clear HO125; clear HO129; clear HO135; clear BK116; clear BK131; clear HB; have HO104 := n0_; have HO107 := n1_; have HO110 := n2_; have HO114 := n3_; have HO119 := n4_; have HO122 := n5_; have HO125 := n6_; have HO129 := n7_; have HO135 := n8_; have BK116 := n9_; have BK131 := n10_; have HB := n11_; clear n0_ n1_ n2_ n3_ n4_ n5_ n6_ n7_ n8_ n9_ n10_ n11_; (try clear hb); (try clear hb2); (try clear hk); (try clear hi)))
            go_meet
            case rel => exact ⟨_, (!t139), z4_26, H', ⟨by first | omega | exact Nat.le_refl _⟩, ⟨Kd.Q_of_R (by (with_reducible repeat (first | apply Kd.R_alloc | apply Kd.R_drewN | apply Kd.R_drew)); exact Kd.R_mono HO107.out (fun _ hk => hk.2.2.1))⟩, ⟨by (with_reducible repeat (first | apply Kd.R_alloc | apply Kd.R_drewN | apply Kd.R_drew)); exact HO110.out⟩, ⟨by (with_reducible repeat (first | apply Kd.S_alloc | apply Kd.S_drewN | apply Kd.S_drew)); exact HO114.out⟩, ⟨by (with_reducible repeat (first | apply Kd.Q_alloc | apply Kd.Q_drewN | apply Kd.Q_drew)); exact Kd.Q_mono HO122.out (fun _ hk => hk.2.1)⟩, ⟨by (with_reducible repeat (first | apply Kd.R_alloc | apply Kd.R_drewN | apply Kd.R_drew)); exact HO125.out⟩, ⟨by (with_reducible repeat (first | apply Kd.S_alloc | apply Kd.S_drewN | apply Kd.S_drew)); exact HO129.out⟩, ⟨by (with_reducible repeat (first | refine blk_drewN ?_ _ | refine blk_drew ?_ | refine blk_alloc ?_ _)); exact BK116.out⟩, ⟨by (with_reducible repeat (first | refine blk_drewN ?_ _ | refine blk_drew ?_ | refine blk_alloc ?_ _)); exact BK131.out⟩, ⟨by repeat (first | (with_reducible first | exact HB.out | apply below_alloc | apply pw_below_drewN | apply below_drew1 | refine below_set ?_ GE116.out | refine below_set ?_ GE131.out) | exact HB.out)⟩⟩
        case rest =>
          clear HC15
          try clear c1
          try clear p2
          try clear c3
          try clear c3b0
          try clear c4
          try clear c5
          try clear c6
          try clear c7
          try clear c8
          try clear c9
          try clear c10
          try clear c13
          try clear c30
          try clear c40
          try clear c40b0
          try clear c42
          try clear hcz22_0
          try clear hcz22_1
          try clear hcz22_2
          try clear hcz22_3
          try clear hcz22_4
          try clear hcz31_0
          try clear hcz31_1
          try clear hcz31_2
          try clear hcz31_3
          try clear hcz31_4
          try clear hcz34_0
          try clear hcz34_1
          try clear hcz34_2
          try clear hcz34_3
          try clear hcz34_4
          try clear hcz43_0
          try clear hcz43_1
          try clear hcz43_2
          try clear hcz43_3
          try clear hcz43_4
          try clear hcz44_0
          try clear hcz44_1
          try clear hcz44_2
          try clear hcz44_3
          try clear hcz44_4
          try clear hfz22_0
          try clear hfz22_1
          try clear hfz22_2
          try clear hfz22_3
          try clear hfz22_4
          try clear hfz31_0
          try clear hfz31_1
          try clear hfz31_2
          try clear hfz31_3
          try clear hfz31_4
          try clear hfz34_0
          try clear hfz34_1
          try clear hfz34_2
          try clear hfz34_3
          try clear hfz34_4
          try clear hfz43_0
          try clear hfz43_1
          try clear hfz43_2
          try clear hfz43_3
          try clear hfz43_4
          try clear hfz44_0
          try clear hfz44_1
          try clear hfz44_2
          try clear hfz44_3
          try clear hfz44_4
          obtain ⟨kq, x42_14, rfl, HA, HJ14, HO_117000, HO_117001, HO_117003, HO_132000, HO_132001, HO_132003, BK116, BK131, HB⟩ := hcut
          cases kq with
          | zero => exact absurd HA.out (by simp [laws_FnExactServerNew.j0])
          | succ kj14 =>
            have H := HA.out
            clear HA
            simp only [laws_FnExactServerNew.j0] at H
            by_cases c46 : x42_14 = true
            · subst c46
              have H1 : (some false) = some r := by rw [if_pos rfl] at H; exact H
              clear H
              have H := H1
              clear H1
              obtain rfl := Option.some.inj H
              cases ht
            · replace c46 := Bool.eq_false_iff.mpr c46
              subst c46
              have H1 : ((laws_markServer.f kj14 t120 t123 t126 t127 t130 1).bind fun bt140 => ((laws_heldServer.f kj14 bt140.2.1 bt140.2.2 t126 t127 t130 1).bind fun t143 => (if t143 < 0 then (some false) else (if t143 = bt140.1 then ((laws_toAccountS.f kj14 l0).bind fun t144 => ((impl_ServerNew.f kj14 t144).bind fun bt147 => ((laws_eqServer.f kj14 bt147.1 bt147.2.1 bt147.2.2.1 bt147.2.2.2.1 bt147.2.2.2.2 t105 t108 t111 t112 t115).bind fun t159 => (if t159 = true then ((laws_heldServer.f kj14 bt140.2.1 bt140.2.2 t126 t127 t130 1).bind fun t160 => (if t160 < 0 then (some false) else (if t160 = bt140.1 then (some true) else (some false)))) else (some false))))) else (some false))))) = some r := by rw [if_neg (show ¬ (false = true) by decide)] at H; exact H
              clear H
              have H := H1
              clear H1
              replace H := Option.bind_eq_some_iff.mp H
              obtain ⟨⟨t140, t141, t142⟩, A470, H⟩ := H
              replace H : ((laws_heldServer.f kj14 t141 t142 t126 t127 t130 1).bind fun t143 => (if t143 < 0 then (some false) else (if t143 = t140 then ((laws_toAccountS.f kj14 l0).bind fun t144 => ((impl_ServerNew.f kj14 t144).bind fun bt147 => ((laws_eqServer.f kj14 bt147.1 bt147.2.1 bt147.2.2.1 bt147.2.2.2.1 bt147.2.2.2.2 t105 t108 t111 t112 t115).bind fun t159 => (if t159 = true then ((laws_heldServer.f kj14 t141 t142 t126 t127 t130 1).bind fun t160 => (if t160 < 0 then (some false) else (if t160 = t140 then (some true) else (some false)))) else (some false))))) else (some false)))) = some r := H
              have A47 := Aside0.mk A470
              clear A470
              replace H := Option.bind_eq_some_iff.mp H
              obtain ⟨t143, A480, H⟩ := H
              replace H : (if t143 < 0 then (some false) else (if t143 = t140 then ((laws_toAccountS.f kj14 l0).bind fun t144 => ((impl_ServerNew.f kj14 t144).bind fun bt147 => ((laws_eqServer.f kj14 bt147.1 bt147.2.1 bt147.2.2.1 bt147.2.2.2.1 bt147.2.2.2.2 t105 t108 t111 t112 t115).bind fun t159 => (if t159 = true then ((laws_heldServer.f kj14 t141 t142 t126 t127 t130 1).bind fun t160 => (if t160 < 0 then (some false) else (if t160 = t140 then (some true) else (some false)))) else (some false))))) else (some false))) = some r := H
              have A48 := Aside0.mk A480
              clear A480
              by_cases c49 : t143 < 0
              · rw [if_pos c49] at H
                have c49b0 : decide (t143 < 0) = true := decide_eq_true c49
                clear c49
                obtain rfl := Option.some.inj H
                cases ht
              · rw [if_neg c49] at H
                have c49b0 : decide (t143 < 0) = false := decide_eq_false c49
                clear c49
                by_cases c50 : t143 = t140
                · rw [if_pos c50] at H
                  have c50b0 : (t143 == t140) = true := beq_iff_eq.mpr c50
                  have c50b1 : (t143 != t140) = false := bne_eq_false_iff_eq.mpr c50
                  clear c50
                  replace H := Option.bind_eq_some_iff.mp H
                  obtain ⟨t144, A510, H⟩ := H
                  replace H : ((impl_ServerNew.f kj14 t144).bind fun bt147 => ((laws_eqServer.f kj14 bt147.1 bt147.2.1 bt147.2.2.1 bt147.2.2.2.1 bt147.2.2.2.2 t105 t108 t111 t112 t115).bind fun t159 => (if t159 = true then ((laws_heldServer.f kj14 t141 t142 t126 t127 t130 1).bind fun t160 => (if t160 < 0 then (some false) else (if t160 = t140 then (some true) else (some false)))) else (some false)))) = some r := H
                  have A51 := Aside0.mk A510
                  clear A510
                  replace H := Option.bind_eq_some_iff.mp H
                  obtain ⟨⟨t147, t150, t153, t154, t157⟩, A520, H⟩ := H
                  replace H : ((laws_eqServer.f kj14 t147 t150 t153 t154 t157 t105 t108 t111 t112 t115).bind fun t159 => (if t159 = true then ((laws_heldServer.f kj14 t141 t142 t126 t127 t130 1).bind fun t160 => (if t160 < 0 then (some false) else (if t160 = t140 then (some true) else (some false)))) else (some false))) = some r := H
                  have A52 := Aside0.mk A520
                  clear A520
                  replace H := Option.bind_eq_some_iff.mp H
                  obtain ⟨t159, A530, H⟩ := H
                  replace H : (if t159 = true then ((laws_heldServer.f kj14 t141 t142 t126 t127 t130 1).bind fun t160 => (if t160 < 0 then (some false) else (if t160 = t140 then (some true) else (some false)))) else (some false)) = some r := H
                  have A53 := Aside0.mk A530
                  clear A530
                  by_cases c54 : t159 = true
                  · subst c54
                    have H1 : ((laws_heldServer.f kj14 t141 t142 t126 t127 t130 1).bind fun t160 => (if t160 < 0 then (some false) else (if t160 = t140 then (some true) else (some false)))) = some r := by rw [if_pos rfl] at H; exact H
                    clear H
                    have H := H1
                    clear H1
                    replace H := Option.bind_eq_some_iff.mp H
                    obtain ⟨t160, A550, H⟩ := H
                    replace H : (if t160 < 0 then (some false) else (if t160 = t140 then (some true) else (some false))) = some r := H
                    have A55 := Aside0.mk A550
                    clear A550
                    by_cases c56 : t160 < 0
                    · rw [if_pos c56] at H
                      have c56b0 : decide (t160 < 0) = true := decide_eq_true c56
                      clear c56
                      obtain rfl := Option.some.inj H
                      cases ht
                    · rw [if_neg c56] at H
                      have c56b0 : decide (t160 < 0) = false := decide_eq_false c56
                      clear c56
                      by_cases c57 : t160 = t140
                      · rw [if_pos c57] at H
                        have c57b0 : (t160 == t140) = true := beq_iff_eq.mpr c57
                        have c57b1 : (t160 != t140) = false := bne_eq_false_iff_eq.mpr c57
                        clear c57
                        obtain rfl := Option.some.inj H
                        have hnb58 := NB131_116.out
                        have hnc58 := NB116_131.out
                        have hcz59_0 : wc.cell? ⟨gb131, 0, none⟩ = some (.slice Ao29 t120.length co29) := (blk_cell BK131.out 0).trans rfl
                        have hcz59_1 : wc.cell? ⟨gb131, 1, none⟩ = some (.slice Ao32 t123.length co32) := (blk_cell BK131.out 1).trans rfl
                        have hcz59_2 : wc.cell? ⟨gb131, 2, none⟩ = some (.string t126) := (blk_cell BK131.out 2).trans rfl
                        have hcz59_3 : wc.cell? ⟨gb131, 3, none⟩ = some (.slice Ao33 t127.length co33) := (blk_cell BK131.out 3).trans rfl
                        have hcz59_4 : wc.cell? ⟨gb131, 4, none⟩ = some (.int .i64 t130) := (blk_cell BK131.out 4).trans rfl
                        have hfz59_0 := blk_frozen BK131.out 0
                        have hfz59_1 := blk_frozen BK131.out 1
                        have hfz59_2 := blk_frozen BK131.out 2
                        have hfz59_3 := blk_frozen BK131.out 3
                        have hfz59_4 := blk_frozen BK131.out 4
                        go_wp2_with (first | ((with_reducible refine gate_callee (f := 11) rfl ?_); refine goesL_ (some 45) rfl rfl Try.func11 (by kernel_rfl) rfl #[.agg #[.slice Ao29 t120.length co29, .slice Ao32 t123.length co32, .string t126, .slice Ao33 t127.length co33, .int .i64 t130], .int .i64 1] rfl z4_4 ?_; (with_reducible refine (laws_markServer.calls kj14 (fun k_ => some k_ = (.slice Ao29 t120.length co29 : Value).ownBlock) (.slice Ao29 t120.length co29) t120 (fun k_ => some k_ = (.slice Ao32 t123.length co32 : Value).ownBlock) (.slice Ao32 t123.length co32) t123 t126 _ _ t127 t130 1 t140 t141 t142 w _ ?side1 ?side2 ?side3 ?side4 ?side5 A47.out).mono ?_); (case side1 => repeat (first | (with_reducible first | exact HB.out | apply below_alloc | apply pw_below_drewN | apply below_drew1 | refine below_set ?_ GE116.out | refine below_set ?_ GE131.out) | exact HB.out)); (case side2 => exact Kd.Q_tight rfl HO_132000.out); (case side3 => exact Kd.Q_of_R (Kd.R_tight rfl HO_132001.out)); (case side4 => exact Kd.C_kept_own ((Kd.S_R (Kd.S_apart' (Kd.S_apart' HO_132003.out (Kd.Q_typed HO_132000.out) (by decide)) (Kd.R_typed HO_132001.out) (by decide)))) (fun k_ hk_ hs_ => Or.elim hs_ (fun e_ => (hk_.1.2) e_) (fun e_ => (hk_.2) e_))); (case side5 => exact (Kd.S_reads' HO_132003.out).2.1); rintro e w60 ⟨rfl, hy0, hy1, hb, hkp⟩; refine ⟨_, rfl, ?_⟩; have n0_ := Aside0.mk (Kd.Q_mono (ok' := fun k_ => some k_ ≠ (.slice Ao29 t120.length co29 : Value).ownBlock) (Kd.Q_keptB ((Kd.Q_apart' HO_117000.out (Kd.R_typed HO_132001.out) (by decide))) hkp (fun k_ hk_ hs_ => Or.elim hs_ (fun e_ => (hk_.1) e_) (fun e_ => (hk_.2) e_))) (fun k_ hk_ => hk_.1.1)); have n1_ := Aside0.mk (Kd.R_mono (ok' := fun k_ => some k_ ≠ (.slice Ao32 t123.length co32 : Value).ownBlock) (Kd.R_keptB ((Kd.R_apart' HO_117001.out (Kd.Q_typed HO_132000.out) (by decide))) hkp (fun k_ hk_ hs_ => Or.elim hs_ (fun e_ => (hk_.2) e_) (fun e_ => (hk_.1) e_))) (fun k_ hk_ => hk_.1.1)); have n2_ := Aside0.mk (Kd.S_mono (ok' := fun k_ => some k_ ≠ (.slice Ao33 t127.length co33 : Value).ownBlock) (Kd.S_keptB ((Kd.S_apart' (Kd.S_apart' HO_117003.out (Kd.Q_typed HO_132000.out) (by decide)) (Kd.R_typed HO_132001.out) (by decide))) hkp (fun k_ hk_ hs_ => Or.elim hs_ (fun e_ => (hk_.1.2) e_) (fun e_ => (hk_.2) e_))) (fun k_ hk_ => hk_.1.1.1)); have n3_ := Aside0.mk (Q_reok rfl hy0 (fun k_ e_ => HO_132000.out.1 k_ e_)); have n4_ := Aside0.mk (Q_reok rfl hy1 (fun k_ e_ => HO_132001.out.1 k_ e_)); have n5_ := Aside0.mk (Kd.S_mono (ok' := fun k_ => some k_ ≠ (.slice Ao24 t112.length co24 : Value).ownBlock) (Kd.S_keptB ((Kd.S_apart' (Kd.S_apart' HO_132003.out (Kd.Q_typed HO_132000.out) (by decide)) (Kd.R_typed HO_132001.out) (by decide))) hkp (fun k_ hk_ hs_ => Or.elim hs_ (fun e_ => (hk_.1.2) e_) (fun e_ => (hk_.2) e_))) (fun k_ hk_ => hk_.1.1.1)); have n6_ := Aside0.mk (blk_kept z4_7 hkp (fun hs_ => Or.elim hs_ (fun e_ => (fun e_ => (Kd.Q_ne HO_132000.out BK116.out (by decide)) e_) e_) (fun e_ => (fun e_ => (Kd.R_ne HO_132001.out BK116.out (by decide)) e_) e_))); have n7_ := Aside0.mk (blk_kept z4_8 hkp (fun hs_ => Or.elim hs_ (fun e_ => (fun e_ => (Kd.Q_ne HO_132000.out BK131.out (by decide)) e_) e_) (fun e_ => (fun e_ => (Kd.R_ne HO_132001.out BK131.out (by decide)) e_) e_))); have n8_ := Aside0.mk (hb); clear HO_117000; clear HO_117001; clear HO_117003; clear HO_132000; clear HO_132001; clear HO_132003; clear BK116; clear BK131; clear HB; have HO_117000 := n0_; have HO_117001 := n1_; have HO_117003 := n2_; have HO_132000 := n3_; have HO_132001 := n4_; have HO_132003 := n5_; have BK116 := n6_; have BK131 := n7_; have HB := n8_; clear n0_ n1_ n2_ n3_ n4_ n5_ n6_ n7_ n8_; (try clear hb); (try clear hkp); (try clear hy0); (try clear hy1); have hcz61_0 : w60.cell? ⟨gb131, 0, none⟩ = some (.slice Ao29 t120.length co29) := (blk_cell BK131.out 0).trans rfl; have hcz61_1 : w60.cell? ⟨gb131, 1, none⟩ = some (.slice Ao32 t123.length co32) := (blk_cell BK131.out 1).trans rfl; have hcz61_2 : w60.cell? ⟨gb131, 2, none⟩ = some (.string t126) := (blk_cell BK131.out 2).trans rfl; have hcz61_3 : w60.cell? ⟨gb131, 3, none⟩ = some (.slice Ao33 t127.length co33) := (blk_cell BK131.out 3).trans rfl; have hcz61_4 : w60.cell? ⟨gb131, 4, none⟩ = some (.int .i64 t130) := (blk_cell BK131.out 4).trans rfl; have hfz61_0 := blk_frozen BK131.out 0; have hfz61_1 := blk_frozen BK131.out 1; have hfz61_2 := blk_frozen BK131.out 2; have hfz61_3 := blk_frozen BK131.out 3; have hfz61_4 := blk_frozen BK131.out 4) | ((with_reducible refine gate_callee (f := 12) rfl ?_); refine goesL_ (some 48) rfl rfl Try.func12 (by kernel_rfl) rfl #[.agg #[.slice Ao29 t141.length co29, .slice Ao32 t142.length co32, .string t126, .slice Ao33 t127.length co33, .int .i64 t130], .int .i64 1] rfl (by (try simp only [List.map_toArray, List.map_cons, List.map_nil]); first | done | (rw [show t141.length = t120.length from (Kd.Q_reads' HO_132000.out).1.symm, show t142.length = t123.length from (Kd.Q_reads' HO_132001.out).1.symm] <;> rfl) | rfl | (simp only [List.length_drop, List.length_take]; rfl)) ?_; (with_reducible refine (laws_heldServer.calls kj14 _ _ t141 _ _ t142 t126 _ _ t127 t130 1 t143 _ ?side1 ?side2 ?side3 ?side4 ?side5 ?side6 A48.out).mono ?_); (case side1 => repeat (first | exact (Kd.Q_reads' HO_132000.out).2.2 | (with_reducible refine Kd.C_alloc ?_ _) | (with_reducible refine Kd.C_drewN ?_ _) | (with_reducible refine Kd.C_drew ?_))); (case side2 => rw [show t141.length = t120.length from (Kd.Q_reads' HO_132000.out).1.symm]; exact (Kd.Q_reads' HO_132000.out).2.1); (case side3 => repeat (first | exact (Kd.Q_reads' HO_132001.out).2.2 | (with_reducible refine Kd.C_alloc ?_ _) | (with_reducible refine Kd.C_drewN ?_ _) | (with_reducible refine Kd.C_drew ?_))); (case side4 => rw [show t142.length = t123.length from (Kd.Q_reads' HO_132001.out).1.symm]; exact (Kd.Q_reads' HO_132001.out).2.1); (case side5 => repeat (first | exact (Kd.S_reads' HO_132003.out).2.2 | (with_reducible refine Kd.C_alloc ?_ _) | (with_reducible refine Kd.C_drewN ?_ _) | (with_reducible refine Kd.C_drew ?_))); (case side6 => exact (Kd.S_reads' HO_132003.out).2.1); rintro e w62 ⟨rfl, hb⟩; refine ⟨_, rfl, ?_⟩; have n0_ := Aside0.mk (Kd.Q_below z4_9 hb); have n1_ := Aside0.mk (Kd.R_below z4_10 hb); have n2_ := Aside0.mk (Kd.S_below z4_11 hb); have n3_ := Aside0.mk (Kd.Q_below z4_12 hb); have n4_ := Aside0.mk (Kd.Q_below z4_13 hb); have n5_ := Aside0.mk (Kd.S_below z4_14 hb); have n6_ := Aside0.mk (blk_below (g := gb116) (o := .cells #[.slice Ao21 t105.length co21, .slice Ao23 t108.length co23, .string t111, .slice Ao24 t112.length co24, .int .i64 t115] 28 (0, 0)) z4_7 hb); have n7_ := Aside0.mk (blk_below (g := gb131) (o := .cells #[.slice Ao29 t120.length co29, .slice Ao32 t123.length co32, .string t126, .slice Ao33 t127.length co33, .int .i64 t130] 28 (0, 0)) z4_8 hb); have n8_ := Aside0.mk (below_step z4_0 hb); clear HO_117000; clear HO_117001; clear HO_117003; clear HO_132000; clear HO_132001; clear HO_132003; clear BK116; clear BK131; clear HB; have HO_117000 := n0_; have HO_117001 := n1_; have HO_117003 := n2_; have HO_132000 := n3_; have HO_132001 := n4_; have HO_132003 := n5_; have BK116 := n6_; have BK131 := n7_; have HB := n8_; clear n0_ n1_ n2_ n3_ n4_ n5_ n6_ n7_ n8_; (try clear hb); (try clear hb2); (try clear hk); (try clear hi)) | ((with_reducible refine gate_callee (f := 6) rfl ?_); refine goesL_ (some 55) rfl rfl Try.func6 (by kernel_rfl) rfl #[.slice A0 l0.length c0] rfl z4_4 ?_; (with_reducible refine (laws_toAccountS.calls kj14 _ _ l0 t144 _ ?side1 ?side2 A51.out).mono ?_); (case side1 => repeat (first | exact (Kd.C_below HR0.out HB.out) | (with_reducible refine Kd.C_alloc ?_ _) | (with_reducible refine Kd.C_drewN ?_ _) | (with_reducible refine Kd.C_drew ?_))); (case side2 => exact HC0.out); rintro e w63 ⟨v145, rfl, ho0, hb⟩; refine ⟨_, rfl, ?_⟩; have n0_ := Aside0.mk (Kd.Q_elder' z4_9 (Kd.R_base ho0) hb); have n1_ := Aside0.mk (Kd.R_below z4_10 hb); have n2_ := Aside0.mk (Kd.S_below z4_11 hb); have n3_ := Aside0.mk (Kd.Q_elder' z4_12 (Kd.R_base ho0) hb); have n4_ := Aside0.mk (Kd.Q_below z4_13 hb); have n5_ := Aside0.mk (Kd.S_below z4_14 hb); have n6_ := Aside0.mk (Kd.R_lower (Kd.R_new' (Kd.R_new' ho0 (Kd.Q_lt z4_9)) (Kd.Q_lt z4_12)) (below_size z4_0)); have n7_ := Aside0.mk (blk_below (g := gb116) (o := .cells #[.slice Ao21 t105.length co21, .slice Ao23 t108.length co23, .string t111, .slice Ao24 t112.length co24, .int .i64 t115] 28 (0, 0)) z4_7 hb); have n8_ := Aside0.mk (blk_below (g := gb131) (o := .cells #[.slice Ao29 t120.length co29, .slice Ao32 t123.length co32, .string t126, .slice Ao33 t127.length co33, .int .i64 t130] 28 (0, 0)) z4_8 hb); have n9_ := Aside0.mk (below_step z4_0 hb); clear HO_117000; clear HO_117001; clear HO_117003; clear HO_132000; clear HO_132001; clear HO_132003; clear BK116; clear BK131; clear HB; have HO_117000 := n0_; have HO_117001 := n1_; have HO_117003 := n2_; have HO_132000 := n3_; have HO_132001 := n4_; have HO_132003 := n5_; have HO146 := n6_; have BK116 := n7_; have BK131 := n8_; have HB := n9_; clear n0_ n1_ n2_ n3_ n4_ n5_ n6_ n7_ n8_ n9_; (try clear hb); (try clear hb2); (try clear hk); (try clear hi); (try clear ho0); obtain ⟨Ao64, co64, eo64⟩ := Kd.R_slice HO146.out; subst eo64) | ((with_reducible refine gate_callee (f := 7) rfl ?_); refine goesL_ (some 56) rfl rfl Try.func7 (by kernel_rfl) rfl #[.slice Ao64 t144.length co64] rfl z4_4 ?_; (with_reducible refine (impl_ServerNew.calls kj14 _ _ t144 t147 t150 t153 t154 t157 _ ?side1 ?side2 A52.out).mono ?_); (case side1 => repeat (first | exact (Kd.R_reads' HO146.out).2.2 | (with_reducible refine Kd.C_alloc ?_ _) | (with_reducible refine Kd.C_drewN ?_ _) | (with_reducible refine Kd.C_drew ?_))); (case side2 => exact (Kd.R_reads' HO146.out).2.1); rintro e w65 ⟨v148, v151, v155, rfl, ho0, ho1, ho2, hb⟩; refine ⟨_, rfl, ?_⟩; have n0_ := Aside0.mk (Kd.Q_elder' z4_9 (Kd.Q_base ho0) hb); have n1_ := Aside0.mk (Kd.R_elder' z4_10 (Kd.R_base ho1) hb); have n2_ := Aside0.mk (Kd.S_elder' z4_11 (Kd.S_base ho2) hb); have n3_ := Aside0.mk (Kd.Q_elder' z4_12 (Kd.Q_base ho0) hb); have n4_ := Aside0.mk (Kd.Q_elder' z4_13 (Kd.R_base ho1) hb); have n5_ := Aside0.mk (Kd.S_elder' z4_14 (Kd.S_base ho2) hb); have n6_ := Aside0.mk (Kd.R_elder' z4_24 (Kd.Q_base ho0) hb); have n7_ := Aside0.mk (Kd.Q_lower (Kd.Q_new' (Kd.Q_new' (Kd.Q_new' ho0 (Kd.Q_lt z4_9)) (Kd.Q_lt z4_12)) (Kd.R_lt z4_24)) (below_size z4_0)); have n8_ := Aside0.mk (Kd.R_lower (Kd.R_new' (Kd.R_new' ho1 (Kd.R_lt z4_10)) (Kd.Q_lt z4_13)) (below_size z4_0)); have n9_ := Aside0.mk (Kd.S_lower (Kd.S_new' (Kd.S_new' ho2 (Kd.S_lt z4_11)) (Kd.S_lt z4_14)) (below_size z4_0)); have n10_ := Aside0.mk (blk_below (g := gb116) (o := .cells #[.slice Ao21 t105.length co21, .slice Ao23 t108.length co23, .string t111, .slice Ao24 t112.length co24, .int .i64 t115] 28 (0, 0)) z4_7 hb); have n11_ := Aside0.mk (blk_below (g := gb131) (o := .cells #[.slice Ao29 t120.length co29, .slice Ao32 t123.length co32, .string t126, .slice Ao33 t127.length co33, .int .i64 t130] 28 (0, 0)) z4_8 hb); have n12_ := Aside0.mk (below_step z4_0 hb); clear HO_117000; clear HO_117001; clear HO_117003; clear HO_132000; clear HO_132001; clear HO_132003; clear HO146; clear BK116; clear BK131; clear HB; have HO_117000 := n0_; have HO_117001 := n1_; have HO_117003 := n2_; have HO_132000 := n3_; have HO_132001 := n4_; have HO_132003 := n5_; have HO146 := n6_; have HO149 := n7_; have HO152 := n8_; have HO156 := n9_; have BK116 := n10_; have BK131 := n11_; have HB := n12_; clear n0_ n1_ n2_ n3_ n4_ n5_ n6_ n7_ n8_ n9_ n10_ n11_ n12_; (try clear hb); (try clear hb2); (try clear hk); (try clear hi); (try clear ho0); (try clear ho1); (try clear ho2)) | ((with_reducible refine gate_dst (N := 10) rfl ?_); refine box_event ?hg (N := 10) ?hd (cs := #[.slice none 0 0, .slice none 0 0, .string (⟨#[]⟩ : ByteArray), .slice none 0 0, .int .i64 0]) (t := 28) ?hr ?_; (case hd => rfl); (case hg => rfl); (case hr => first | (go_simp; done) | (go_simp; rfl)); intro gb158 hg w66 hbox hb; have n0_ := Aside0.mk (Kd.Q_below z4_9 hb); have n1_ := Aside0.mk (Kd.R_below z4_10 hb); have n2_ := Aside0.mk (Kd.S_below z4_11 hb); have n3_ := Aside0.mk (Kd.Q_below z4_12 hb); have n4_ := Aside0.mk (Kd.Q_below z4_13 hb); have n5_ := Aside0.mk (Kd.S_below z4_14 hb); have n6_ := Aside0.mk (Kd.R_below z4_24 hb); have n7_ := Aside0.mk (Kd.Q_below (by (with_reducible repeat (first | apply Kd.Q_alloc | apply Kd.Q_drewN | apply Kd.Q_drew)); exact HO149.out) hb); have n8_ := Aside0.mk (Kd.R_below (by (with_reducible repeat (first | apply Kd.R_alloc | apply Kd.R_drewN | apply Kd.R_drew)); exact HO152.out) hb); have n9_ := Aside0.mk (Kd.S_below (by (with_reducible repeat (first | apply Kd.S_alloc | apply Kd.S_drewN | apply Kd.S_drew)); exact HO156.out) hb); have n10_ := Aside0.mk (blk_below (g := gb116) (o := .cells #[.slice Ao21 t105.length co21, .slice Ao23 t108.length co23, .string t111, .slice Ao24 t112.length co24, .int .i64 t115] 28 (0, 0)) z4_7 hb); have n11_ := Aside0.mk (blk_below (g := gb131) (o := .cells #[.slice Ao29 t120.length co29, .slice Ao32 t123.length co32, .string t126, .slice Ao33 t127.length co33, .int .i64 t130] 28 (0, 0)) z4_8 hb); have n12_ := Aside0.mk (below_step z4_0 hb); have n13_ := Aside0.mk (hbox); have n14_ := Aside0.mk ((by rw [hg]; exact (below_size z4_0) : w.heap.size ≤ gb158)); have n15_ := Aside0.mk ((by rw [hg]; exact (below_size z4_0) : w.heap.size ≤ gb158)); have n16_ := Aside0.mk ((by rw [hg]; exact Nat.ne_of_lt (blk_lt (g := gb116) (o := .cells #[.slice Ao21 t105.length co21, .slice Ao23 t108.length co23, .string t111, .slice Ao24 t112.length co24, .int .i64 t115] 28 (0, 0)) z4_7) : gb116 ≠ gb158)); have n17_ := Aside0.mk ((by rw [hg]; exact Nat.ne_of_gt (blk_lt (g := gb116) (o := .cells #[.slice Ao21 t105.length co21, .slice Ao23 t108.length co23, .string t111, .slice Ao24 t112.length co24, .int .i64 t115] 28 (0, 0)) z4_7) : gb158 ≠ gb116)); have n18_ := Aside0.mk ((by rw [hg]; exact Nat.ne_of_lt (blk_lt (g := gb131) (o := .cells #[.slice Ao29 t120.length co29, .slice Ao32 t123.length co32, .string t126, .slice Ao33 t127.length co33, .int .i64 t130] 28 (0, 0)) z4_8) : gb131 ≠ gb158)); have n19_ := Aside0.mk ((by rw [hg]; exact Nat.ne_of_gt (blk_lt (g := gb131) (o := .cells #[.slice Ao29 t120.length co29, .slice Ao32 t123.length co32, .string t126, .slice Ao33 t127.length co33, .int .i64 t130] 28 (0, 0)) z4_8) : gb158 ≠ gb131)); clear HO_117000; clear HO_117001; clear HO_117003; clear HO_132000; clear HO_132001; clear HO_132003; clear HO146; clear HO149; clear HO152; clear HO156; clear BK116; clear BK131; clear HB; have HO_117000 := n0_; have HO_117001 := n1_; have HO_117003 := n2_; have HO_132000 := n3_; have HO_132001 := n4_; have HO_132003 := n5_; have HO146 := n6_; have HO149 := n7_; have HO152 := n8_; have HO156 := n9_; have BK116 := n10_; have BK131 := n11_; have HB := n12_; have BK158 := n13_; have GW158 := n14_; have GE158 := n15_; have NB116_158 := n16_; have NB158_116 := n17_; have NB131_158 := n18_; have NB158_131 := n19_; clear n0_ n1_ n2_ n3_ n4_ n5_ n6_ n7_ n8_ n9_ n10_ n11_ n12_ n13_ n14_ n15_ n16_ n17_ n18_ n19_; clear hb hbox hg; obtain ⟨Ao67, co67, eo67, _⟩ := Kd.Q_slice HO149.out; subst eo67; have hnb68 := NB158_116.out; have hnc68 := NB116_158.out; have hnb69 := NB158_131.out; have hnc69 := NB131_158.out; have hcz70_0 : w66.cell? ⟨gb158, 0, none⟩ = some (.slice none 0 0) := (blk_cell BK158.out 0).trans rfl; have hcz70_1 : w66.cell? ⟨gb158, 1, none⟩ = some (.slice none 0 0) := (blk_cell BK158.out 1).trans rfl; have hcz70_2 : w66.cell? ⟨gb158, 2, none⟩ = some (.string (⟨#[]⟩ : ByteArray)) := (blk_cell BK158.out 2).trans rfl; have hcz70_3 : w66.cell? ⟨gb158, 3, none⟩ = some (.slice none 0 0) := (blk_cell BK158.out 3).trans rfl; have hcz70_4 : w66.cell? ⟨gb158, 4, none⟩ = some (.int .i64 0) := (blk_cell BK158.out 4).trans rfl; have hfz70_0 := blk_frozen BK158.out 0; have hfz70_1 := blk_frozen BK158.out 1; have hfz70_2 := blk_frozen BK158.out 2; have hfz70_3 := blk_frozen BK158.out 3; have hfz70_4 := blk_frozen BK158.out 4; obtain ⟨Ao71, co71, eo71⟩ := Kd.R_slice HO152.out; subst eo71; obtain ⟨Ao72, co72, eo72⟩ := Kd.S_slice HO156.out; subst eo72; have hcz73_0 : w66.cell? ⟨gb116, 0, none⟩ = some (.slice Ao21 t105.length co21) := (blk_cell BK116.out 0).trans rfl; have hcz73_1 : w66.cell? ⟨gb116, 1, none⟩ = some (.slice Ao23 t108.length co23) := (blk_cell BK116.out 1).trans rfl; have hcz73_2 : w66.cell? ⟨gb116, 2, none⟩ = some (.string t111) := (blk_cell BK116.out 2).trans rfl; have hcz73_3 : w66.cell? ⟨gb116, 3, none⟩ = some (.slice Ao24 t112.length co24) := (blk_cell BK116.out 3).trans rfl; have hcz73_4 : w66.cell? ⟨gb116, 4, none⟩ = some (.int .i64 t115) := (blk_cell BK116.out 4).trans rfl; have hfz73_0 := blk_frozen BK116.out 0; have hfz73_1 := blk_frozen BK116.out 1; have hfz73_2 := blk_frozen BK116.out 2; have hfz73_3 := blk_frozen BK116.out 3; have hfz73_4 := blk_frozen BK116.out 4) | ((with_reducible refine gate_callee (f := 8) rfl ?_); refine goesL_ (some 59) rfl rfl Try.func8 (by kernel_rfl) rfl #[.agg #[.slice Ao67 t147.length co67, .slice Ao71 t150.length co71, .string t153, .slice Ao72 t154.length co72, .int .i64 t157], .agg #[.slice Ao21 t105.length co21, .slice Ao23 t108.length co23, .string t111, .slice Ao24 t112.length co24, .int .i64 t115]] rfl z4_4 ?_; (with_reducible refine (laws_eqServer.calls kj14 _ _ t147 _ _ t150 t153 _ _ t154 t157 _ _ t105 _ _ t108 t111 _ _ t112 t115 true _ ?side1 ?side2 ?side3 ?side4 ?side5 ?side6 ?side7 ?side8 ?side9 ?side10 ?side11 ?side12 A53.out).mono ?_); (case side1 => refine (Kd.Q_reads' (e := 40) (base := w.heap.size) (ok := fun k_ => (((True ∧ some k_ ≠ (.slice Ao21 t105.length co21 : Value).ownBlock) ∧ some k_ ≠ (.slice Ao29 t120.length co29 : Value).ownBlock) ∧ some k_ ≠ (.slice Ao64 t144.length co64 : Value).ownBlock)) (n := t147.length) (c := co67) ?_).2.2; exact (by (with_reducible repeat (first | apply Kd.Q_alloc | apply Kd.Q_drewN | apply Kd.Q_drew)); exact (Kd.Q_mono (Kd.Q_far (p := ⟨gb158, 4, none⟩) (Kd.Q_far (p := ⟨gb158, 3, none⟩) (Kd.Q_far (p := ⟨gb158, 2, none⟩) (Kd.Q_far (p := ⟨gb158, 1, none⟩) (Kd.Q_far (p := ⟨gb158, 0, none⟩) (Kd.Q_types HO149.out BK158.out (by decide)) (fun _ hk => hk.2) (.slice Ao67 t147.length co67)) (fun _ hk => hk.2) (.slice Ao71 t150.length co71)) (fun _ hk => hk.2) (.string t153)) (fun _ hk => hk.2) (.slice Ao72 t154.length co72)) (fun _ hk => hk.2) (.int .i64 t157)) (fun _ h_ => h_.1)))); (case side2 => exact (Kd.Q_reads' HO149.out).2.1); (case side3 => refine (Kd.R_reads' (e := 53) (base := w.heap.size) (ok := fun k_ => ((True ∧ some k_ ≠ (.slice Ao23 t108.length co23 : Value).ownBlock) ∧ some k_ ≠ (.slice Ao32 t123.length co32 : Value).ownBlock)) (n := t150.length) (c := co71) ?_).2.2; exact (by (with_reducible repeat (first | apply Kd.R_alloc | apply Kd.R_drewN | apply Kd.R_drew)); exact (Kd.R_mono (Kd.R_far (p := ⟨gb158, 4, none⟩) (Kd.R_far (p := ⟨gb158, 3, none⟩) (Kd.R_far (p := ⟨gb158, 2, none⟩) (Kd.R_far (p := ⟨gb158, 1, none⟩) (Kd.R_far (p := ⟨gb158, 0, none⟩) (Kd.R_types HO152.out BK158.out (by decide)) (fun _ hk => hk.2) (.slice Ao67 t147.length co67)) (fun _ hk => hk.2) (.slice Ao71 t150.length co71)) (fun _ hk => hk.2) (.string t153)) (fun _ hk => hk.2) (.slice Ao72 t154.length co72)) (fun _ hk => hk.2) (.int .i64 t157)) (fun _ h_ => h_.1)))); (case side4 => exact (Kd.R_reads' HO152.out).2.1); (case side5 => refine (Kd.S_reads' (e := 61) (base := w.heap.size) (ok := fun k_ => ((True ∧ some k_ ≠ (.slice Ao24 t112.length co24 : Value).ownBlock) ∧ some k_ ≠ (.slice Ao33 t127.length co33 : Value).ownBlock)) (n := t154.length) (c := co72) ?_).2.2; exact (by (with_reducible repeat (first | apply Kd.S_alloc | apply Kd.S_drewN | apply Kd.S_drew)); exact (Kd.S_mono (Kd.S_far (p := ⟨gb158, 4, none⟩) (Kd.S_far (p := ⟨gb158, 3, none⟩) (Kd.S_far (p := ⟨gb158, 2, none⟩) (Kd.S_far (p := ⟨gb158, 1, none⟩) (Kd.S_far (p := ⟨gb158, 0, none⟩) (Kd.S_types HO156.out BK158.out (by decide)) (fun _ hk => hk.2) (.slice Ao67 t147.length co67)) (fun _ hk => hk.2) (.slice Ao71 t150.length co71)) (fun _ hk => hk.2) (.string t153)) (fun _ hk => hk.2) (.slice Ao72 t154.length co72)) (fun _ hk => hk.2) (.int .i64 t157)) (fun _ h_ => h_.1)))); (case side6 => exact (Kd.S_reads' HO156.out).2.1); (case side7 => refine (Kd.Q_reads' (e := 40) (base := w.heap.size) (ok := fun k_ => ((some k_ ≠ (.slice Ao29 t120.length co29 : Value).ownBlock ∧ some k_ ≠ (.slice Ao64 t144.length co64 : Value).ownBlock) ∧ some k_ ≠ (.slice Ao67 t147.length co67 : Value).ownBlock)) (n := t105.length) (c := co21) ?_).2.2; exact (by (with_reducible repeat (first | apply Kd.Q_alloc | apply Kd.Q_drewN | apply Kd.Q_drew)); exact (Kd.Q_mono (Kd.Q_far (p := ⟨gb158, 4, none⟩) (Kd.Q_far (p := ⟨gb158, 3, none⟩) (Kd.Q_far (p := ⟨gb158, 2, none⟩) (Kd.Q_far (p := ⟨gb158, 1, none⟩) (Kd.Q_far (p := ⟨gb158, 0, none⟩) (Kd.Q_types HO_117000.out BK158.out (by decide)) (fun _ hk => hk.2) (.slice Ao67 t147.length co67)) (fun _ hk => hk.2) (.slice Ao71 t150.length co71)) (fun _ hk => hk.2) (.string t153)) (fun _ hk => hk.2) (.slice Ao72 t154.length co72)) (fun _ hk => hk.2) (.int .i64 t157)) (fun _ h_ => h_.1)))); (case side8 => exact (Kd.Q_reads' HO_117000.out).2.1); (case side9 => refine (Kd.R_reads' (e := 53) (base := w.heap.size) (ok := fun k_ => (some k_ ≠ (.slice Ao32 t123.length co32 : Value).ownBlock ∧ some k_ ≠ (.slice Ao71 t150.length co71 : Value).ownBlock)) (n := t108.length) (c := co23) ?_).2.2; exact (by (with_reducible repeat (first | apply Kd.R_alloc | apply Kd.R_drewN | apply Kd.R_drew)); exact (Kd.R_mono (Kd.R_far (p := ⟨gb158, 4, none⟩) (Kd.R_far (p := ⟨gb158, 3, none⟩) (Kd.R_far (p := ⟨gb158, 2, none⟩) (Kd.R_far (p := ⟨gb158, 1, none⟩) (Kd.R_far (p := ⟨gb158, 0, none⟩) (Kd.R_types HO_117001.out BK158.out (by decide)) (fun _ hk => hk.2) (.slice Ao67 t147.length co67)) (fun _ hk => hk.2) (.slice Ao71 t150.length co71)) (fun _ hk => hk.2) (.string t153)) (fun _ hk => hk.2) (.slice Ao72 t154.length co72)) (fun _ hk => hk.2) (.int .i64 t157)) (fun _ h_ => h_.1)))); (case side10 => exact (Kd.R_reads' HO_117001.out).2.1); (case side11 => refine (Kd.S_reads' (e := 61) (base := w.heap.size) (ok := fun k_ => (some k_ ≠ (.slice Ao33 t127.length co33 : Value).ownBlock ∧ some k_ ≠ (.slice Ao72 t154.length co72 : Value).ownBlock)) (n := t112.length) (c := co24) ?_).2.2; exact (by (with_reducible repeat (first | apply Kd.S_alloc | apply Kd.S_drewN | apply Kd.S_drew)); exact (Kd.S_mono (Kd.S_far (p := ⟨gb158, 4, none⟩) (Kd.S_far (p := ⟨gb158, 3, none⟩) (Kd.S_far (p := ⟨gb158, 2, none⟩) (Kd.S_far (p := ⟨gb158, 1, none⟩) (Kd.S_far (p := ⟨gb158, 0, none⟩) (Kd.S_types HO_117003.out BK158.out (by decide)) (fun _ hk => hk.2) (.slice Ao67 t147.length co67)) (fun _ hk => hk.2) (.slice Ao71 t150.length co71)) (fun _ hk => hk.2) (.string t153)) (fun _ hk => hk.2) (.slice Ao72 t154.length co72)) (fun _ hk => hk.2) (.int .i64 t157)) (fun _ h_ => h_.1)))); (case side12 => exact (Kd.S_reads' HO_117003.out).2.1); rintro e w74 ⟨rfl, hb⟩; refine ⟨_, rfl, ?_⟩; have n0_ := Aside0.mk (Kd.Q_below (by (with_reducible repeat (first | apply Kd.Q_alloc | apply Kd.Q_drewN | apply Kd.Q_drew)); exact (Kd.Q_mono (Kd.Q_far (p := ⟨gb158, 4, none⟩) (Kd.Q_far (p := ⟨gb158, 3, none⟩) (Kd.Q_far (p := ⟨gb158, 2, none⟩) (Kd.Q_far (p := ⟨gb158, 1, none⟩) (Kd.Q_far (p := ⟨gb158, 0, none⟩) (Kd.Q_types HO_117000.out BK158.out (by decide)) (fun _ hk => hk.2) (.slice Ao67 t147.length co67)) (fun _ hk => hk.2) (.slice Ao71 t150.length co71)) (fun _ hk => hk.2) (.string t153)) (fun _ hk => hk.2) (.slice Ao72 t154.length co72)) (fun _ hk => hk.2) (.int .i64 t157)) (fun _ h_ => h_.1))) hb); have n1_ := Aside0.mk (Kd.R_below (by (with_reducible repeat (first | apply Kd.R_alloc | apply Kd.R_drewN | apply Kd.R_drew)); exact (Kd.R_mono (Kd.R_far (p := ⟨gb158, 4, none⟩) (Kd.R_far (p := ⟨gb158, 3, none⟩) (Kd.R_far (p := ⟨gb158, 2, none⟩) (Kd.R_far (p := ⟨gb158, 1, none⟩) (Kd.R_far (p := ⟨gb158, 0, none⟩) (Kd.R_types HO_117001.out BK158.out (by decide)) (fun _ hk => hk.2) (.slice Ao67 t147.length co67)) (fun _ hk => hk.2) (.slice Ao71 t150.length co71)) (fun _ hk => hk.2) (.string t153)) (fun _ hk => hk.2) (.slice Ao72 t154.length co72)) (fun _ hk => hk.2) (.int .i64 t157)) (fun _ h_ => h_.1))) hb); have n2_ := Aside0.mk (Kd.S_below (by (with_reducible repeat (first | apply Kd.S_alloc | apply Kd.S_drewN | apply Kd.S_drew)); exact (Kd.S_mono (Kd.S_far (p := ⟨gb158, 4, none⟩) (Kd.S_far (p := ⟨gb158, 3, none⟩) (Kd.S_far (p := ⟨gb158, 2, none⟩) (Kd.S_far (p := ⟨gb158, 1, none⟩) (Kd.S_far (p := ⟨gb158, 0, none⟩) (Kd.S_types HO_117003.out BK158.out (by decide)) (fun _ hk => hk.2) (.slice Ao67 t147.length co67)) (fun _ hk => hk.2) (.slice Ao71 t150.length co71)) (fun _ hk => hk.2) (.string t153)) (fun _ hk => hk.2) (.slice Ao72 t154.length co72)) (fun _ hk => hk.2) (.int .i64 t157)) (fun _ h_ => h_.1))) hb); have n3_ := Aside0.mk (Kd.Q_below (by (with_reducible repeat (first | apply Kd.Q_alloc | apply Kd.Q_drewN | apply Kd.Q_drew)); exact (Kd.Q_mono (Kd.Q_far (p := ⟨gb158, 4, none⟩) (Kd.Q_far (p := ⟨gb158, 3, none⟩) (Kd.Q_far (p := ⟨gb158, 2, none⟩) (Kd.Q_far (p := ⟨gb158, 1, none⟩) (Kd.Q_far (p := ⟨gb158, 0, none⟩) (Kd.Q_types HO_132000.out BK158.out (by decide)) (fun _ hk => hk.2) (.slice Ao67 t147.length co67)) (fun _ hk => hk.2) (.slice Ao71 t150.length co71)) (fun _ hk => hk.2) (.string t153)) (fun _ hk => hk.2) (.slice Ao72 t154.length co72)) (fun _ hk => hk.2) (.int .i64 t157)) (fun _ h_ => h_.1))) hb); have n4_ := Aside0.mk (Kd.Q_below (by (with_reducible repeat (first | apply Kd.Q_alloc | apply Kd.Q_drewN | apply Kd.Q_drew)); exact (Kd.Q_mono (Kd.Q_far (p := ⟨gb158, 4, none⟩) (Kd.Q_far (p := ⟨gb158, 3, none⟩) (Kd.Q_far (p := ⟨gb158, 2, none⟩) (Kd.Q_far (p := ⟨gb158, 1, none⟩) (Kd.Q_far (p := ⟨gb158, 0, none⟩) (Kd.Q_types HO_132001.out BK158.out (by decide)) (fun _ hk => hk.2) (.slice Ao67 t147.length co67)) (fun _ hk => hk.2) (.slice Ao71 t150.length co71)) (fun _ hk => hk.2) (.string t153)) (fun _ hk => hk.2) (.slice Ao72 t154.length co72)) (fun _ hk => hk.2) (.int .i64 t157)) (fun _ h_ => h_.1))) hb); have n5_ := Aside0.mk (Kd.S_below (by (with_reducible repeat (first | apply Kd.S_alloc | apply Kd.S_drewN | apply Kd.S_drew)); exact (Kd.S_mono (Kd.S_far (p := ⟨gb158, 4, none⟩) (Kd.S_far (p := ⟨gb158, 3, none⟩) (Kd.S_far (p := ⟨gb158, 2, none⟩) (Kd.S_far (p := ⟨gb158, 1, none⟩) (Kd.S_far (p := ⟨gb158, 0, none⟩) (Kd.S_types HO_132003.out BK158.out (by decide)) (fun _ hk => hk.2) (.slice Ao67 t147.length co67)) (fun _ hk => hk.2) (.slice Ao71 t150.length co71)) (fun _ hk => hk.2) (.string t153)) (fun _ hk => hk.2) (.slice Ao72 t154.length co72)) (fun _ hk => hk.2) (.int .i64 t157)) (fun _ h_ => h_.1))) hb); have n6_ := Aside0.mk (Kd.R_below (by (with_reducible repeat (first | apply Kd.R_alloc | apply Kd.R_drewN | apply Kd.R_drew)); exact (Kd.R_mono (Kd.R_far (p := ⟨gb158, 4, none⟩) (Kd.R_far (p := ⟨gb158, 3, none⟩) (Kd.R_far (p := ⟨gb158, 2, none⟩) (Kd.R_far (p := ⟨gb158, 1, none⟩) (Kd.R_far (p := ⟨gb158, 0, none⟩) (Kd.R_types HO146.out BK158.out (by decide)) (fun _ hk => hk.2) (.slice Ao67 t147.length co67)) (fun _ hk => hk.2) (.slice Ao71 t150.length co71)) (fun _ hk => hk.2) (.string t153)) (fun _ hk => hk.2) (.slice Ao72 t154.length co72)) (fun _ hk => hk.2) (.int .i64 t157)) (fun _ h_ => h_.1))) hb); have n7_ := Aside0.mk (Kd.Q_below (by (with_reducible repeat (first | apply Kd.Q_alloc | apply Kd.Q_drewN | apply Kd.Q_drew)); exact (Kd.Q_mono (Kd.Q_far (p := ⟨gb158, 4, none⟩) (Kd.Q_far (p := ⟨gb158, 3, none⟩) (Kd.Q_far (p := ⟨gb158, 2, none⟩) (Kd.Q_far (p := ⟨gb158, 1, none⟩) (Kd.Q_far (p := ⟨gb158, 0, none⟩) (Kd.Q_types HO149.out BK158.out (by decide)) (fun _ hk => hk.2) (.slice Ao67 t147.length co67)) (fun _ hk => hk.2) (.slice Ao71 t150.length co71)) (fun _ hk => hk.2) (.string t153)) (fun _ hk => hk.2) (.slice Ao72 t154.length co72)) (fun _ hk => hk.2) (.int .i64 t157)) (fun _ h_ => h_.1))) hb); have n8_ := Aside0.mk (Kd.R_below (by (with_reducible repeat (first | apply Kd.R_alloc | apply Kd.R_drewN | apply Kd.R_drew)); exact (Kd.R_mono (Kd.R_far (p := ⟨gb158, 4, none⟩) (Kd.R_far (p := ⟨gb158, 3, none⟩) (Kd.R_far (p := ⟨gb158, 2, none⟩) (Kd.R_far (p := ⟨gb158, 1, none⟩) (Kd.R_far (p := ⟨gb158, 0, none⟩) (Kd.R_types HO152.out BK158.out (by decide)) (fun _ hk => hk.2) (.slice Ao67 t147.length co67)) (fun _ hk => hk.2) (.slice Ao71 t150.length co71)) (fun _ hk => hk.2) (.string t153)) (fun _ hk => hk.2) (.slice Ao72 t154.length co72)) (fun _ hk => hk.2) (.int .i64 t157)) (fun _ h_ => h_.1))) hb); have n9_ := Aside0.mk (Kd.S_below (by (with_reducible repeat (first | apply Kd.S_alloc | apply Kd.S_drewN | apply Kd.S_drew)); exact (Kd.S_mono (Kd.S_far (p := ⟨gb158, 4, none⟩) (Kd.S_far (p := ⟨gb158, 3, none⟩) (Kd.S_far (p := ⟨gb158, 2, none⟩) (Kd.S_far (p := ⟨gb158, 1, none⟩) (Kd.S_far (p := ⟨gb158, 0, none⟩) (Kd.S_types HO156.out BK158.out (by decide)) (fun _ hk => hk.2) (.slice Ao67 t147.length co67)) (fun _ hk => hk.2) (.slice Ao71 t150.length co71)) (fun _ hk => hk.2) (.string t153)) (fun _ hk => hk.2) (.slice Ao72 t154.length co72)) (fun _ hk => hk.2) (.int .i64 t157)) (fun _ h_ => h_.1))) hb); have n10_ := Aside0.mk (blk_below (g := gb116) (o := .cells #[.slice Ao21 t105.length co21, .slice Ao23 t108.length co23, .string t111, .slice Ao24 t112.length co24, .int .i64 t115] 28 (0, 0)) (by (with_reducible repeat (first | refine blk_drewN ?_ _ | refine blk_drew ?_ | refine blk_alloc ?_ _ | refine blk_far ?_ NB116_158.out _)); exact BK116.out) hb); have n11_ := Aside0.mk (blk_below (g := gb131) (o := .cells #[.slice Ao29 t120.length co29, .slice Ao32 t123.length co32, .string t126, .slice Ao33 t127.length co33, .int .i64 t130] 28 (0, 0)) (by (with_reducible repeat (first | refine blk_drewN ?_ _ | refine blk_drew ?_ | refine blk_alloc ?_ _ | refine blk_far ?_ NB131_158.out _)); exact BK131.out) hb); have n12_ := Aside0.mk (blk_below (g := gb158) (o := .cells #[.slice Ao67 t147.length co67, .slice Ao71 t150.length co71, .string t153, .slice Ao72 t154.length co72, .int .i64 t157] 28 (0, 0)) (by (with_reducible repeat (first | refine blk_drewN ?_ _ | refine blk_drew ?_ | refine blk_alloc ?_ _)); refine blk_put (cs := #[.slice Ao67 t147.length co67, .slice Ao71 t150.length co71, .string t153, .slice Ao72 t154.length co72, .int .i64 0]) ?_ 4 _ rfl; (with_reducible repeat (first | refine blk_drewN ?_ _ | refine blk_drew ?_ | refine blk_alloc ?_ _)); refine blk_put (cs := #[.slice Ao67 t147.length co67, .slice Ao71 t150.length co71, .string t153, .slice none 0 0, .int .i64 0]) ?_ 3 _ rfl; (with_reducible repeat (first | refine blk_drewN ?_ _ | refine blk_drew ?_ | refine blk_alloc ?_ _)); refine blk_put (cs := #[.slice Ao67 t147.length co67, .slice Ao71 t150.length co71, .string (⟨#[]⟩ : ByteArray), .slice none 0 0, .int .i64 0]) ?_ 2 _ rfl; (with_reducible repeat (first | refine blk_drewN ?_ _ | refine blk_drew ?_ | refine blk_alloc ?_ _)); refine blk_put (cs := #[.slice Ao67 t147.length co67, .slice none 0 0, .string (⟨#[]⟩ : ByteArray), .slice none 0 0, .int .i64 0]) ?_ 1 _ rfl; (with_reducible repeat (first | refine blk_drewN ?_ _ | refine blk_drew ?_ | refine blk_alloc ?_ _)); refine blk_put (cs := #[.slice none 0 0, .slice none 0 0, .string (⟨#[]⟩ : ByteArray), .slice none 0 0, .int .i64 0]) ?_ 0 _ rfl; (with_reducible repeat (first | refine blk_drewN ?_ _ | refine blk_drew ?_ | refine blk_alloc ?_ _)); exact BK158.out) hb); have n13_ := Aside0.mk (below_step (by repeat (first | (with_reducible first | exact HB.out | apply below_alloc | apply pw_below_drewN | apply below_drew1 | refine below_set ?_ GE116.out | refine below_set ?_ GE131.out | refine below_set ?_ GE158.out) | exact HB.out)) hb); clear HO_117000; clear HO_117001; clear HO_117003; clear HO_132000; clear HO_132001; clear HO_132003; clear HO146; clear HO149; clear HO152; clear HO156; clear BK116; clear BK131; clear BK158; clear HB; have HO_117000 := n0_; have HO_117001 := n1_; have HO_117003 := n2_; have HO_132000 := n3_; have HO_132001 := n4_; have HO_132003 := n5_; have HO146 := n6_; have HO149 := n7_; have HO152 := n8_; have HO156 := n9_; have BK116 := n10_; have BK131 := n11_; have BK158 := n12_; have HB := n13_; clear n0_ n1_ n2_ n3_ n4_ n5_ n6_ n7_ n8_ n9_ n10_ n11_ n12_ n13_; (try clear hb); (try clear hb2); (try clear hk); (try clear hi); have hcz75_0 : w74.cell? ⟨gb131, 0, none⟩ = some (.slice Ao29 t120.length co29) := (blk_cell BK131.out 0).trans rfl; have hcz75_1 : w74.cell? ⟨gb131, 1, none⟩ = some (.slice Ao32 t123.length co32) := (blk_cell BK131.out 1).trans rfl; have hcz75_2 : w74.cell? ⟨gb131, 2, none⟩ = some (.string t126) := (blk_cell BK131.out 2).trans rfl; have hcz75_3 : w74.cell? ⟨gb131, 3, none⟩ = some (.slice Ao33 t127.length co33) := (blk_cell BK131.out 3).trans rfl; have hcz75_4 : w74.cell? ⟨gb131, 4, none⟩ = some (.int .i64 t130) := (blk_cell BK131.out 4).trans rfl; have hfz75_0 := blk_frozen BK131.out 0; have hfz75_1 := blk_frozen BK131.out 1; have hfz75_2 := blk_frozen BK131.out 2; have hfz75_3 := blk_frozen BK131.out 3; have hfz75_4 := blk_frozen BK131.out 4) | ((with_reducible refine gate_callee (f := 12) rfl ?_); refine goesL_ (some 63) rfl rfl Try.func12 (by kernel_rfl) rfl #[.agg #[.slice Ao29 t141.length co29, .slice Ao32 t142.length co32, .string t126, .slice Ao33 t127.length co33, .int .i64 t130], .int .i64 1] rfl (by (try simp only [List.map_toArray, List.map_cons, List.map_nil]); first | done | (rw [show t141.length = t120.length from (Kd.Q_reads' HO_132000.out).1.symm, show t142.length = t123.length from (Kd.Q_reads' HO_132001.out).1.symm] <;> rfl) | rfl | (simp only [List.length_drop, List.length_take]; rfl)) ?_; (with_reducible refine (laws_heldServer.calls kj14 _ _ t141 _ _ t142 t126 _ _ t127 t130 1 t160 _ ?side1 ?side2 ?side3 ?side4 ?side5 ?side6 A55.out).mono ?_); (case side1 => repeat (first | exact (Kd.Q_reads' HO_132000.out).2.2 | (with_reducible refine Kd.C_alloc ?_ _) | (with_reducible refine Kd.C_drewN ?_ _) | (with_reducible refine Kd.C_drew ?_))); (case side2 => rw [show t141.length = t120.length from (Kd.Q_reads' HO_132000.out).1.symm]; exact (Kd.Q_reads' HO_132000.out).2.1); (case side3 => repeat (first | exact (Kd.Q_reads' HO_132001.out).2.2 | (with_reducible refine Kd.C_alloc ?_ _) | (with_reducible refine Kd.C_drewN ?_ _) | (with_reducible refine Kd.C_drew ?_))); (case side4 => rw [show t142.length = t123.length from (Kd.Q_reads' HO_132001.out).1.symm]; exact (Kd.Q_reads' HO_132001.out).2.1); (case side5 => repeat (first | exact (Kd.S_reads' HO_132003.out).2.2 | (with_reducible refine Kd.C_alloc ?_ _) | (with_reducible refine Kd.C_drewN ?_ _) | (with_reducible refine Kd.C_drew ?_))); (case side6 => exact (Kd.S_reads' HO_132003.out).2.1); rintro e w76 ⟨rfl, hb⟩; refine ⟨_, rfl, ?_⟩; have n0_ := Aside0.mk (Kd.Q_below z4_9 hb); have n1_ := Aside0.mk (Kd.R_below z4_10 hb); have n2_ := Aside0.mk (Kd.S_below z4_11 hb); have n3_ := Aside0.mk (Kd.Q_below z4_12 hb); have n4_ := Aside0.mk (Kd.Q_below z4_13 hb); have n5_ := Aside0.mk (Kd.S_below z4_14 hb); have n6_ := Aside0.mk (Kd.R_below z4_24 hb); have n7_ := Aside0.mk (Kd.Q_below (by (with_reducible repeat (first | apply Kd.Q_alloc | apply Kd.Q_drewN | apply Kd.Q_drew)); exact HO149.out) hb); have n8_ := Aside0.mk (Kd.R_below (by (with_reducible repeat (first | apply Kd.R_alloc | apply Kd.R_drewN | apply Kd.R_drew)); exact HO152.out) hb); have n9_ := Aside0.mk (Kd.S_below (by (with_reducible repeat (first | apply Kd.S_alloc | apply Kd.S_drewN | apply Kd.S_drew)); exact HO156.out) hb); have n10_ := Aside0.mk (blk_below (g := gb116) (o := .cells #[.slice Ao21 t105.length co21, .slice Ao23 t108.length co23, .string t111, .slice Ao24 t112.length co24, .int .i64 t115] 28 (0, 0)) z4_7 hb); have n11_ := Aside0.mk (blk_below (g := gb131) (o := .cells #[.slice Ao29 t120.length co29, .slice Ao32 t123.length co32, .string t126, .slice Ao33 t127.length co33, .int .i64 t130] 28 (0, 0)) z4_8 hb); have n12_ := Aside0.mk (blk_below (g := gb158) (o := .cells #[.slice Ao67 t147.length co67, .slice Ao71 t150.length co71, .string t153, .slice Ao72 t154.length co72, .int .i64 t157] 28 (0, 0)) (by (with_reducible repeat (first | refine blk_drewN ?_ _ | refine blk_drew ?_ | refine blk_alloc ?_ _)); exact BK158.out) hb); have n13_ := Aside0.mk (below_step (by repeat (first | (with_reducible first | exact HB.out | apply below_alloc | apply pw_below_drewN | apply below_drew1 | refine below_set ?_ GE116.out | refine below_set ?_ GE131.out | refine below_set ?_ GE158.out) | exact HB.out)) hb); clear HO_117000; clear HO_117001; clear HO_117003; clear HO_132000; clear HO_132001; clear HO_132003; clear HO146; clear HO149; clear HO152; clear HO156; clear BK116; clear BK131; clear BK158; clear HB; have HO_117000 := n0_; have HO_117001 := n1_; have HO_117003 := n2_; have HO_132000 := n3_; have HO_132001 := n4_; have HO_132003 := n5_; have HO146 := n6_; have HO149 := n7_; have HO152 := n8_; have HO156 := n9_; have BK116 := n10_; have BK131 := n11_; have BK158 := n12_; have HB := n13_; clear n0_ n1_ n2_ n3_ n4_ n5_ n6_ n7_ n8_ n9_ n10_ n11_ n12_ n13_; (try clear hb); (try clear hb2); (try clear hk); (try clear hi)))
                        go_ret
                        exact ⟨by first | rfl | (simp [errW_none, errW_some] <;> rfl) | (simp [*, errW_none, errW_some] <;> rfl), by repeat (first | (with_reducible first | exact HB.out | apply below_alloc | apply pw_below_drewN | apply below_drew1 | refine below_set ?_ GE116.out | refine below_set ?_ GE131.out | refine below_set ?_ GE158.out) | exact HB.out)⟩
                      · rw [if_neg c57] at H
                        have c57b0 : (t160 == t140) = false := beq_eq_false_iff_ne.mpr c57
                        have c57b1 : (t160 != t140) = true := bne_iff_ne.mpr c57
                        obtain rfl := Option.some.inj H
                        cases ht
                  · replace c54 := Bool.eq_false_iff.mpr c54
                    subst c54
                    have H1 : (some false) = some r := by rw [if_neg (show ¬ (false = true) by decide)] at H; exact H
                    clear H
                    have H := H1
                    clear H1
                    obtain rfl := Option.some.inj H
                    cases ht
                · rw [if_neg c50] at H
                  have c50b0 : (t143 == t140) = false := beq_eq_false_iff_ne.mpr c50
                  have c50b1 : (t143 != t140) = true := bne_iff_ne.mpr c50
                  obtain rfl := Option.some.inj H
                  cases ht
      · replace c13 := Bool.eq_false_iff.mpr c13
        subst c13
        have H1 : (some false) = some r := by rw [if_neg (show ¬ (false = true) by decide)] at H; exact H
        clear H
        have H := H1
        clear H1
        obtain rfl := Option.some.inj H
        cases ht
    · replace c10 := Bool.eq_false_iff.mpr c10
      subst c10
      have H1 : (some false) = some r := by rw [if_neg (show ¬ (false = true) by decide)] at H; exact H
      clear H
      have H := H1
      clear H1
      obtain rfl := Option.some.inj H
      cases ht

end Go.Proofs.Ytgjecacalpaacaa.PAll
