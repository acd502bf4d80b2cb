-- PRINTED by xprint.py (our own program, over the kit's print.py)
import Derived.Test.YtikbfbangjjfkaaXFnExactSettlex0
import Derived.Test.YtikbfbangjjfkaaXFnExactSettlex4
import Derived.Test.YtikbfbangjjfkaaXFnExactSettlex5
import Derived.Test.YtikbfbangjjfkaaXFnExactSettlex8
import Derived.Test.YtikbfbangjjfkaaXFnExactSettlex9
import Derived.Test.YtikbfbangjjfkaaXFnExactSettlex10
namespace Go.Proofs.Ytikbfbangjjfkaa.XFnExactSettle
open Go.RowKit Go.Proofs.YtikbfbangjjfkaaW.PrintWords Go.Proofs.YtikbfbangjjfkaaW.PrintLast Go.Proofs.YtikbfbangjjfkaaW.PrintMore Go.Proofs.YtikbfbangjjfkaaW.Idx
attribute [local go_sem] max2_int min2_int max_two min_two max_three min_three max_four min_four   -- for this text's walks alone
set_option linter.unusedVariables false
set_option linter.unusedSimpArgs false

/-! ### laws_heldMatch: function 14 -/
def laws_heldMatch.f (k : Nat) (l0_0 : List (List Int)) (l0_1 : List Int) (l0_2 : List Int) (a0_3 : Int) (a1 : Int) : Option (Int) := (laws_heldIntSS.f k l0_0 a1).bind fun t220 => (if t220 < 0 then (some (-1)) else ((laws_heldIntS.f k l0_1 t220).bind fun t221 => (if t221 < 0 then (some (-1)) else ((laws_heldIntS.f k l0_2 t221).bind fun t222 => (if t222 < 0 then (some (-1)) else (some t222))))))
theorem laws_heldMatch.mono : ∀ a0 a1 a2 a3 a4 k, LeO (laws_heldMatch.f k a0 a1 a2 a3 a4) (laws_heldMatch.f (k + 1) a0 a1 a2 a3 a4) := by
  intro a0 a1 a2 a3 a4 k
  unfold laws_heldMatch.f
  repeat' first
      | (with_reducible exact laws_heldIntS.mono _ _ _)
      | (with_reducible exact laws_heldIntSS.mono _ _ _)
      | (with_reducible exact LeO.refl _)
      | (with_reducible exact LeO.none _)
      | (with_reducible refine LeO.ite ?_ ?_)
      | (with_reducible refine LeO.bind ?_ (fun _ => ?_))
      | exact laws_heldIntS.mono _ _ _
      | exact laws_heldIntSS.mono _ _ _
      | exact LeO.none _
      | refine LeO.ite ?_ ?_
      | refine LeO.bind ?_ (fun _ => ?_)
set_option maxHeartbeats 8000000 in
set_option maxRecDepth 100000 in
theorem laws_heldMatch.calls (k : Nat) (A0_0 : Option Addr) (c0_0 : Nat) (l0_0 : List (List Int)) (A0_1 : Option Addr) (c0_1 : Nat) (l0_1 : List Int) (A0_2 : Option Addr) (c0_2 : Nat) (l0_2 : List Int) (a0_3 : Int) (a1 : Int) (r : Int) (w : World) (hr0_0 : Kd.C (Kd.slice 3 (Kd.int .i64)) w A0_0 l0_0.length l0_0) (hc0_0 : l0_0.length ≤ c0_0) (hr0_1 : Kd.C (Kd.int .i64) w A0_1 l0_1.length l0_1) (hc0_1 : l0_1.length ≤ c0_1) (hr0_2 : Kd.C (Kd.int .i64) w A0_2 l0_2.length l0_2) (hc0_2 : l0_2.length ≤ c0_2) (h : laws_heldMatch.f k l0_0 l0_1 l0_2 a0_3 a1 = some r) :
    Calls Try.prog 14 #[.agg #[.slice A0_0 l0_0.length c0_0, .slice A0_1 l0_1.length c0_1, .slice A0_2 l0_2.length c0_2, .int .i64 a0_3], .int .i64 a1] w fun e w' => e = .returned (.int .i64 r) ∧ Below w.heap.size w w' := by
  have hu29 := Try.underlying29
  have HR0_0 := Aside0.mk hr0_0
  have HC0_0 := Aside0.mk hc0_0
  clear hr0_0 hc0_0
  have HR0_1 := Aside0.mk hr0_1
  have HC0_1 := Aside0.mk hc0_1
  clear hr0_1 hc0_1
  have HR0_2 := Aside0.mk hr0_2
  have HC0_2 := Aside0.mk hc0_2
  clear hr0_2 hc0_2
  have HB := Aside0.mk (Below.refl w.heap.size w)
  have H : ((laws_heldIntSS.f k l0_0 a1).bind fun t220 => (if t220 < 0 then (some (-1)) else ((laws_heldIntS.f k l0_1 t220).bind fun t221 => (if t221 < 0 then (some (-1)) else ((laws_heldIntS.f k l0_2 t221).bind fun t222 => (if t222 < 0 then (some (-1)) else (some t222))))))) = some r := h
  clear h
  replace H := Option.bind_eq_some_iff.mp H
  obtain ⟨t220, A30, H⟩ := H
  replace H : (if t220 < 0 then (some (-1)) else ((laws_heldIntS.f k l0_1 t220).bind fun t221 => (if t221 < 0 then (some (-1)) else ((laws_heldIntS.f k l0_2 t221).bind fun t222 => (if t222 < 0 then (some (-1)) else (some t222)))))) = some r := H
  have A3 := Aside0.mk A30
  clear A30
  by_cases c4 : t220 < 0
  · rw [if_pos c4] at H
    have c4b0 : decide (t220 < 0) = true := decide_eq_true c4
    clear c4
    obtain rfl := Option.some.inj H
    go_enter Try.func14, Try.ntmps14
    go_wp2_with (first | ((with_reducible refine gate_dst (N := 2) rfl ?_); refine box_event ?hg (N := 2) ?hd (cs := #[.slice A0_0 l0_0.length c0_0, .slice A0_1 l0_1.length c0_1, .slice A0_2 l0_2.length c0_2, .int .i64 a0_3]) (t := 29) ?hr ?_; (case hd => rfl); (case hg => rfl); (case hr => first | (go_simp; done) | (go_simp; rfl)); intro gb219 hg w5 hbox hb; have n0_ := Aside0.mk (below_step (by repeat (first | (with_reducible first | exact HB.out | apply below_alloc | apply pw_below_drewN | apply below_drew1) | exact HB.out)) hb); have n1_ := Aside0.mk (hbox); have n2_ := Aside0.mk ((by rw [hg]; exact (below_size (by repeat (first | (with_reducible first | exact HB.out | apply below_alloc | apply pw_below_drewN | apply below_drew1) | exact HB.out))) : w.heap.size ≤ gb219)); have n3_ := Aside0.mk ((by rw [hg]; exact (below_size (by repeat (first | (with_reducible first | exact HB.out | apply below_alloc | apply pw_below_drewN | apply below_drew1) | exact HB.out))) : w.heap.size ≤ gb219)); clear HB; have HB := n0_; have BK219 := n1_; have GW219 := n2_; have GE219 := n3_; clear n0_ n1_ n2_ n3_; clear hb hbox hg; have hcz6_0 : w5.cell? ⟨gb219, 0, none⟩ = some (.slice A0_0 l0_0.length c0_0) := (blk_cell BK219.out 0).trans rfl; have hcz6_1 : w5.cell? ⟨gb219, 1, none⟩ = some (.slice A0_1 l0_1.length c0_1) := (blk_cell BK219.out 1).trans rfl; have hcz6_2 : w5.cell? ⟨gb219, 2, none⟩ = some (.slice A0_2 l0_2.length c0_2) := (blk_cell BK219.out 2).trans rfl; have hcz6_3 : w5.cell? ⟨gb219, 3, none⟩ = some (.int .i64 a0_3) := (blk_cell BK219.out 3).trans rfl; have hfz6_0 := blk_frozen BK219.out 0; have hfz6_1 := blk_frozen BK219.out 1; have hfz6_2 := blk_frozen BK219.out 2; have hfz6_3 := blk_frozen BK219.out 3) | ((with_reducible refine gate_callee (f := 34) rfl ?_); refine goesL_ (some 8) rfl rfl Try.func34 (by kernel_rfl) rfl #[.slice A0_0 l0_0.length c0_0, .int .i64 a1] rfl (by (try simp only [List.map_toArray, List.map_cons, List.map_nil]); first | done | rfl | (simp only [List.length_drop, List.length_take]; rfl)) ?_; (with_reducible refine (laws_heldIntSS.calls k _ _ l0_0 a1 t220 _ ?side1 ?side2 A3.out).mono ?_); (case side1 => repeat (first | exact (Kd.C_below HR0_0.out HB.out) | (with_reducible refine Kd.C_alloc ?_ _) | (with_reducible refine Kd.C_drewN ?_ _) | (with_reducible refine Kd.C_drew ?_))); (case side2 => exact HC0_0.out); rintro e w' ⟨rfl, ⟨nd, rfl⟩⟩; refine ⟨_, rfl, ?_⟩))
    go_ret
    exact ⟨by first | rfl | (simp [errW_none, errW_some] <;> rfl) | (simp [*, errW_none, errW_some] <;> rfl), by repeat (first | (with_reducible first | exact HB.out | apply below_alloc | apply pw_below_drewN | apply below_drew1 | refine below_set ?_ GE219.out) | exact HB.out)⟩
  · rw [if_neg c4] at H
    have c4b0 : decide (t220 < 0) = false := decide_eq_false c4
    clear c4
    replace H := Option.bind_eq_some_iff.mp H
    obtain ⟨t221, A70, H⟩ := H
    replace H : (if t221 < 0 then (some (-1)) else ((laws_heldIntS.f k l0_2 t221).bind fun t222 => (if t222 < 0 then (some (-1)) else (some t222)))) = some r := H
    have A7 := Aside0.mk A70
    clear A70
    by_cases c8 : t221 < 0
    · rw [if_pos c8] at H
      have c8b0 : decide (t221 < 0) = true := decide_eq_true c8
      clear c8
      obtain rfl := Option.some.inj H
      go_enter Try.func14, Try.ntmps14
      go_wp2_with (first | ((with_reducible refine gate_dst (N := 2) rfl ?_); refine box_event ?hg (N := 2) ?hd (cs := #[.slice A0_0 l0_0.length c0_0, .slice A0_1 l0_1.length c0_1, .slice A0_2 l0_2.length c0_2, .int .i64 a0_3]) (t := 29) ?hr ?_; (case hd => rfl); (case hg => rfl); (case hr => first | (go_simp; done) | (go_simp; rfl)); intro gb219 hg w9 hbox hb; have n0_ := Aside0.mk (below_step (by repeat (first | (with_reducible first | exact HB.out | apply below_alloc | apply pw_below_drewN | apply below_drew1) | exact HB.out)) hb); have n1_ := Aside0.mk (hbox); have n2_ := Aside0.mk ((by rw [hg]; exact (below_size (by repeat (first | (with_reducible first | exact HB.out | apply below_alloc | apply pw_below_drewN | apply below_drew1) | exact HB.out))) : w.heap.size ≤ gb219)); have n3_ := Aside0.mk ((by rw [hg]; exact (below_size (by repeat (first | (with_reducible first | exact HB.out | apply below_alloc | apply pw_below_drewN | apply below_drew1) | exact HB.out))) : w.heap.size ≤ gb219)); clear HB; have HB := n0_; have BK219 := n1_; have GW219 := n2_; have GE219 := n3_; clear n0_ n1_ n2_ n3_; clear hb hbox hg; have hcz10_0 : w9.cell? ⟨gb219, 0, none⟩ = some (.slice A0_0 l0_0.length c0_0) := (blk_cell BK219.out 0).trans rfl; have hcz10_1 : w9.cell? ⟨gb219, 1, none⟩ = some (.slice A0_1 l0_1.length c0_1) := (blk_cell BK219.out 1).trans rfl; have hcz10_2 : w9.cell? ⟨gb219, 2, none⟩ = some (.slice A0_2 l0_2.length c0_2) := (blk_cell BK219.out 2).trans rfl; have hcz10_3 : w9.cell? ⟨gb219, 3, none⟩ = some (.int .i64 a0_3) := (blk_cell BK219.out 3).trans rfl; have hfz10_0 := blk_frozen BK219.out 0; have hfz10_1 := blk_frozen BK219.out 1; have hfz10_2 := blk_frozen BK219.out 2; have hfz10_3 := blk_frozen BK219.out 3) | ((with_reducible refine gate_callee (f := 34) rfl ?_); refine goesL_ (some 8) rfl rfl Try.func34 (by kernel_rfl) rfl #[.slice A0_0 l0_0.length c0_0, .int .i64 a1] rfl (by (try simp only [List.map_toArray, List.map_cons, List.map_nil]); first | done | rfl | (simp only [List.length_drop, List.length_take]; rfl)) ?_; (with_reducible refine (laws_heldIntSS.calls k _ _ l0_0 a1 t220 _ ?side1 ?side2 A3.out).mono ?_); (case side1 => repeat (first | exact (Kd.C_below HR0_0.out HB.out) | (with_reducible refine Kd.C_alloc ?_ _) | (with_reducible refine Kd.C_drewN ?_ _) | (with_reducible refine Kd.C_drew ?_))); (case side2 => exact HC0_0.out); rintro e w' ⟨rfl, ⟨nd, rfl⟩⟩; refine ⟨_, rfl, ?_⟩) | ((with_reducible refine gate_callee (f := 35) rfl ?_); refine goesL_ (some 14) rfl rfl Try.func35 (by kernel_rfl) rfl #[.slice A0_1 l0_1.length c0_1, .int .i64 t220] rfl (by (try simp only [List.map_toArray, List.map_cons, List.map_nil]); first | done | rfl | (simp only [List.length_drop, List.length_take]; rfl)) ?_; (with_reducible refine (laws_heldIntS.calls k _ _ l0_1 t220 t221 _ ?side1 ?side2 A7.out).mono ?_); (case side1 => repeat (first | exact (Kd.C_below HR0_1.out (by repeat (first | (with_reducible first | exact HB.out | apply below_alloc | apply pw_below_drewN | apply below_drew1 | refine below_set ?_ GE219.out) | exact HB.out))) | (with_reducible refine Kd.C_alloc ?_ _) | (with_reducible refine Kd.C_drewN ?_ _) | (with_reducible refine Kd.C_drew ?_))); (case side2 => exact HC0_1.out); rintro e w' ⟨rfl, ⟨nd, rfl⟩⟩; refine ⟨_, rfl, ?_⟩))
      go_ret
      exact ⟨by first | rfl | (simp [errW_none, errW_some] <;> rfl) | (simp [*, errW_none, errW_some] <;> rfl), by repeat (first | (with_reducible first | exact HB.out | apply below_alloc | apply pw_below_drewN | apply below_drew1 | refine below_set ?_ GE219.out) | exact HB.out)⟩
    · rw [if_neg c8] at H
      have c8b0 : decide (t221 < 0) = false := decide_eq_false c8
      clear c8
      replace H := Option.bind_eq_some_iff.mp H
      obtain ⟨t222, A110, H⟩ := H
      replace H : (if t222 < 0 then (some (-1)) else (some t222)) = some r := H
      have A11 := Aside0.mk A110
      clear A110
      by_cases c12 : t222 < 0
      · rw [if_pos c12] at H
        have c12b0 : decide (t222 < 0) = true := decide_eq_true c12
        clear c12
        obtain rfl := Option.some.inj H
        go_enter Try.func14, Try.ntmps14
        go_wp2_with (first | ((with_reducible refine gate_dst (N := 2) rfl ?_); refine box_event ?hg (N := 2) ?hd (cs := #[.slice A0_0 l0_0.length c0_0, .slice A0_1 l0_1.length c0_1, .slice A0_2 l0_2.length c0_2, .int .i64 a0_3]) (t := 29) ?hr ?_; (case hd => rfl); (case hg => rfl); (case hr => first | (go_simp; done) | (go_simp; rfl)); intro gb219 hg w13 hbox hb; have n0_ := Aside0.mk (below_step (by repeat (first | (with_reducible first | exact HB.out | apply below_alloc | apply pw_below_drewN | apply below_drew1) | exact HB.out)) hb); have n1_ := Aside0.mk (hbox); have n2_ := Aside0.mk ((by rw [hg]; exact (below_size (by repeat (first | (with_reducible first | exact HB.out | apply below_alloc | apply pw_below_drewN | apply below_drew1) | exact HB.out))) : w.heap.size ≤ gb219)); have n3_ := Aside0.mk ((by rw [hg]; exact (below_size (by repeat (first | (with_reducible first | exact HB.out | apply below_alloc | apply pw_below_drewN | apply below_drew1) | exact HB.out))) : w.heap.size ≤ gb219)); clear HB; have HB := n0_; have BK219 := n1_; have GW219 := n2_; have GE219 := n3_; clear n0_ n1_ n2_ n3_; clear hb hbox hg; have hcz14_0 : w13.cell? ⟨gb219, 0, none⟩ = some (.slice A0_0 l0_0.length c0_0) := (blk_cell BK219.out 0).trans rfl; have hcz14_1 : w13.cell? ⟨gb219, 1, none⟩ = some (.slice A0_1 l0_1.length c0_1) := (blk_cell BK219.out 1).trans rfl; have hcz14_2 : w13.cell? ⟨gb219, 2, none⟩ = some (.slice A0_2 l0_2.length c0_2) := (blk_cell BK219.out 2).trans rfl; have hcz14_3 : w13.cell? ⟨gb219, 3, none⟩ = some (.int .i64 a0_3) := (blk_cell BK219.out 3).trans rfl; have hfz14_0 := blk_frozen BK219.out 0; have hfz14_1 := blk_frozen BK219.out 1; have hfz14_2 := blk_frozen BK219.out 2; have hfz14_3 := blk_frozen BK219.out 3) | ((with_reducible refine gate_callee (f := 34) rfl ?_); refine goesL_ (some 8) rfl rfl Try.func34 (by kernel_rfl) rfl #[.slice A0_0 l0_0.length c0_0, .int .i64 a1] rfl (by (try simp only [List.map_toArray, List.map_cons, List.map_nil]); first | done | rfl | (simp only [List.length_drop, List.length_take]; rfl)) ?_; (with_reducible refine (laws_heldIntSS.calls k _ _ l0_0 a1 t220 _ ?side1 ?side2 A3.out).mono ?_); (case side1 => repeat (first | exact (Kd.C_below HR0_0.out HB.out) | (with_reducible refine Kd.C_alloc ?_ _) | (with_reducible refine Kd.C_drewN ?_ _) | (with_reducible refine Kd.C_drew ?_))); (case side2 => exact HC0_0.out); rintro e w' ⟨rfl, ⟨nd, rfl⟩⟩; refine ⟨_, rfl, ?_⟩) | ((with_reducible refine gate_callee (f := 35) rfl ?_); refine goesL_ (some 14) rfl rfl Try.func35 (by kernel_rfl) rfl #[.slice A0_1 l0_1.length c0_1, .int .i64 t220] rfl (by (try simp only [List.map_toArray, List.map_cons, List.map_nil]); first | done | rfl | (simp only [List.length_drop, List.length_take]; rfl)) ?_; (with_reducible refine (laws_heldIntS.calls k _ _ l0_1 t220 t221 _ ?side1 ?side2 A7.out).mono ?_); (case side1 => repeat (first | exact (Kd.C_below HR0_1.out (by repeat (first | (with_reducible first | exact HB.out | apply below_alloc | apply pw_below_drewN | apply below_drew1 | refine below_set ?_ GE219.out) | exact HB.out))) | (with_reducible refine Kd.C_alloc ?_ _) | (with_reducible refine Kd.C_drewN ?_ _) | (with_reducible refine Kd.C_drew ?_))); (case side2 => exact HC0_1.out); rintro e w' ⟨rfl, ⟨nd, rfl⟩⟩; refine ⟨_, rfl, ?_⟩) | ((with_reducible refine gate_callee (f := 35) rfl ?_); refine goesL_ (some 20) rfl rfl Try.func35 (by kernel_rfl) rfl #[.slice A0_2 l0_2.length c0_2, .int .i64 t221] rfl (by (try simp only [List.map_toArray, List.map_cons, List.map_nil]); first | done | rfl | (simp only [List.length_drop, List.length_take]; rfl)) ?_; (with_reducible refine (laws_heldIntS.calls k _ _ l0_2 t221 t222 _ ?side1 ?side2 A11.out).mono ?_); (case side1 => repeat (first | exact (Kd.C_below HR0_2.out (by repeat (first | (with_reducible first | exact HB.out | apply below_alloc | apply pw_below_drewN | apply below_drew1 | refine below_set ?_ GE219.out) | exact HB.out))) | (with_reducible refine Kd.C_alloc ?_ _) | (with_reducible refine Kd.C_drewN ?_ _) | (with_reducible refine Kd.C_drew ?_))); (case side2 => exact HC0_2.out); rintro e w' ⟨rfl, ⟨nd, rfl⟩⟩; refine ⟨_, rfl, ?_⟩))
        go_ret
        exact ⟨by first | rfl | (simp [errW_none, errW_some] <;> rfl) | (simp [*, errW_none, errW_some] <;> rfl), by repeat (first | (with_reducible first | exact HB.out | apply below_alloc | apply pw_below_drewN | apply below_drew1 | refine below_set ?_ GE219.out) | exact HB.out)⟩
      · rw [if_neg c12] at H
        have c12b0 : decide (t222 < 0) = false := decide_eq_false c12
        clear c12
        obtain rfl := Option.some.inj H
        go_enter Try.func14, Try.ntmps14
        go_wp2_with (first | ((with_reducible refine gate_dst (N := 2) rfl ?_); refine box_event ?hg (N := 2) ?hd (cs := #[.slice A0_0 l0_0.length c0_0, .slice A0_1 l0_1.length c0_1, .slice A0_2 l0_2.length c0_2, .int .i64 a0_3]) (t := 29) ?hr ?_; (case hd => rfl); (case hg => rfl); (case hr => first | (go_simp; done) | (go_simp; rfl)); intro gb219 hg w15 hbox hb; have n0_ := Aside0.mk (below_step (by repeat (first | (with_reducible first | exact HB.out | apply below_alloc | apply pw_below_drewN | apply below_drew1) | exact HB.out)) hb); have n1_ := Aside0.mk (hbox); have n2_ := Aside0.mk ((by rw [hg]; exact (below_size (by repeat (first | (with_reducible first | exact HB.out | apply below_alloc | apply pw_below_drewN | apply below_drew1) | exact HB.out))) : w.heap.size ≤ gb219)); have n3_ := Aside0.mk ((by rw [hg]; exact (below_size (by repeat (first | (with_reducible first | exact HB.out | apply below_alloc | apply pw_below_drewN | apply below_drew1) | exact HB.out))) : w.heap.size ≤ gb219)); clear HB; have HB := n0_; have BK219 := n1_; have GW219 := n2_; have GE219 := n3_; clear n0_ n1_ n2_ n3_; clear hb hbox hg; have hcz16_0 : w15.cell? ⟨gb219, 0, none⟩ = some (.slice A0_0 l0_0.length c0_0) := (blk_cell BK219.out 0).trans rfl; have hcz16_1 : w15.cell? ⟨gb219, 1, none⟩ = some (.slice A0_1 l0_1.length c0_1) := (blk_cell BK219.out 1).trans rfl; have hcz16_2 : w15.cell? ⟨gb219, 2, none⟩ = some (.slice A0_2 l0_2.length c0_2) := (blk_cell BK219.out 2).trans rfl; have hcz16_3 : w15.cell? ⟨gb219, 3, none⟩ = some (.int .i64 a0_3) := (blk_cell BK219.out 3).trans rfl; have hfz16_0 := blk_frozen BK219.out 0; have hfz16_1 := blk_frozen BK219.out 1; have hfz16_2 := blk_frozen BK219.out 2; have hfz16_3 := blk_frozen BK219.out 3) | ((with_reducible refine gate_callee (f := 34) rfl ?_); refine goesL_ (some 8) rfl rfl Try.func34 (by kernel_rfl) rfl #[.slice A0_0 l0_0.length c0_0, .int .i64 a1] rfl (by (try simp only [List.map_toArray, List.map_cons, List.map_nil]); first | done | rfl | (simp only [List.length_drop, List.length_take]; rfl)) ?_; (with_reducible refine (laws_heldIntSS.calls k _ _ l0_0 a1 t220 _ ?side1 ?side2 A3.out).mono ?_); (case side1 => repeat (first | exact (Kd.C_below HR0_0.out HB.out) | (with_reducible refine Kd.C_alloc ?_ _) | (with_reducible refine Kd.C_drewN ?_ _) | (with_reducible refine Kd.C_drew ?_))); (case side2 => exact HC0_0.out); rintro e w' ⟨rfl, ⟨nd, rfl⟩⟩; refine ⟨_, rfl, ?_⟩) | ((with_reducible refine gate_callee (f := 35) rfl ?_); refine goesL_ (some 14) rfl rfl Try.func35 (by kernel_rfl) rfl #[.slice A0_1 l0_1.length c0_1, .int .i64 t220] rfl (by (try simp only [List.map_toArray, List.map_cons, List.map_nil]); first | done | rfl | (simp only [List.length_drop, List.length_take]; rfl)) ?_; (with_reducible refine (laws_heldIntS.calls k _ _ l0_1 t220 t221 _ ?side1 ?side2 A7.out).mono ?_); (case side1 => repeat (first | exact (Kd.C_below HR0_1.out (by repeat (first | (with_reducible first | exact HB.out | apply below_alloc | apply pw_below_drewN | apply below_drew1 | refine below_set ?_ GE219.out) | exact HB.out))) | (with_reducible refine Kd.C_alloc ?_ _) | (with_reducible refine Kd.C_drewN ?_ _) | (with_reducible refine Kd.C_drew ?_))); (case side2 => exact HC0_1.out); rintro e w' ⟨rfl, ⟨nd, rfl⟩⟩; refine ⟨_, rfl, ?_⟩) | ((with_reducible refine gate_callee (f := 35) rfl ?_); refine goesL_ (some 20) rfl rfl Try.func35 (by kernel_rfl) rfl #[.slice A0_2 l0_2.length c0_2, .int .i64 t221] rfl (by (try simp only [List.map_toArray, List.map_cons, List.map_nil]); first | done | rfl | (simp only [List.length_drop, List.length_take]; rfl)) ?_; (with_reducible refine (laws_heldIntS.calls k _ _ l0_2 t221 t222 _ ?side1 ?side2 A11.out).mono ?_); (case side1 => repeat (first | exact (Kd.C_below HR0_2.out (by repeat (first | (with_reducible first | exact HB.out | apply below_alloc | apply pw_below_drewN | apply below_drew1 | refine below_set ?_ GE219.out) | exact HB.out))) | (with_reducible refine Kd.C_alloc ?_ _) | (with_reducible refine Kd.C_drewN ?_ _) | (with_reducible refine Kd.C_drew ?_))); (case side2 => exact HC0_2.out); rintro e w' ⟨rfl, ⟨nd, rfl⟩⟩; refine ⟨_, rfl, ?_⟩))
        go_ret
        exact ⟨by first | rfl | (simp [errW_none, errW_some] <;> rfl) | (simp [*, errW_none, errW_some] <;> rfl), by repeat (first | (with_reducible first | exact HB.out | apply below_alloc | apply pw_below_drewN | apply below_drew1 | refine below_set ?_ GE219.out) | exact HB.out)⟩

/-! ### laws_markIntS: function 33 -/
def laws_markIntS.l0 : Nat → List Int → Int → Int → Option (Int × List Int)
  | 0, _, _, _ => none
  | k + 1, x0, x1, x5 => if x5 < (x0.length : Int) then (if 0 ≤ x5 then (laws_markIntS.l0 k (x0.set (x5 : Int).toNat x1) (wrap64 (x1 + 1)) (wrap64 (x5 + 1))) else (none)) else (some (x1, x0))
def laws_markIntS.f (k : Nat) (l0 : List Int) (a1 : Int) : Option (Int × List Int) := laws_markIntS.l0 k l0 a1 0
theorem laws_markIntS.mono_l : ∀ k, (∀ y0 y1 y2, LeO (laws_markIntS.l0 k y0 y1 y2) (laws_markIntS.l0 (k + 1) y0 y1 y2))
  | 0 => fun _ _ _ r h => by simp [laws_markIntS.l0] at h
  | k + 1 => by
    have ih0 := laws_markIntS.mono_l k
    · intro y0 y1 y2
      unfold laws_markIntS.l0
      repeat' first
      | (with_reducible exact ih0 _ _ _)
      | (with_reducible exact LeO.refl _)
      | (with_reducible exact LeO.none _)
      | (with_reducible refine LeO.ite ?_ ?_)
      | (with_reducible refine LeO.bind ?_ (fun _ => ?_))
      | exact ih0 _ _ _
      | exact LeO.none _
      | refine LeO.ite ?_ ?_
      | refine LeO.bind ?_ (fun _ => ?_)
theorem laws_markIntS.mono : ∀ a0 a1 k, LeO (laws_markIntS.f k a0 a1) (laws_markIntS.f (k + 1) a0 a1) := by
  intro a0 a1 k
  have ih0 := laws_markIntS.mono_l k
  unfold laws_markIntS.f
  repeat' first
      | (with_reducible exact ih0 _ _ _)
      | (with_reducible exact LeO.refl _)
      | (with_reducible exact LeO.none _)
      | (with_reducible refine LeO.ite ?_ ?_)
      | (with_reducible refine LeO.bind ?_ (fun _ => ?_))
      | exact ih0 _ _ _
      | exact LeO.none _
      | refine LeO.ite ?_ ?_
      | refine LeO.bind ?_ (fun _ => ?_)
set_option maxHeartbeats 8000000 in
set_option maxRecDepth 100000 in
theorem laws_markIntS.calls (k : Nat) (P0_ : Nat → Prop) (u9000_ : Value) (l0 : List Int) (a1 : Int) (r1 : Int) (r2 : List Int) (w0 w : World) (hB : Below w0.heap.size w0 w) (ho0 : Kd.R (Kd.int .i64) 3 w w0.heap.size P0_ u9000_ l0) (h : laws_markIntS.f k l0 a1 = some (r1, r2)) :
    Calls Try.prog 33 #[u9000_, .int .i64 a1] w fun e w' => e = .returned (.int .i64 r1) ∧ Kd.R (Kd.int .i64) 3 w' w0.heap.size (fun k_ => (P0_ k_ ∨ w.heap.size ≤ k_)) u9000_ r2 ∧ Below w0.heap.size w0 w' ∧ Kept w w' (fun k_ => P0_ k_) := by
  have HO0 := Aside0.mk (show Kd.R (Kd.int .i64) 3 w w0.heap.size (fun k_ => (P0_ k_ ∨ w.heap.size ≤ k_)) u9000_ l0 from Kd.R_mono ho0 (fun k_ hk => (.inl hk)))
  have HK := Aside0.mk (Kept.refl w (fun k_ => P0_ k_))
  have HW0 := Aside0.mk hB.size
  have HB := Aside0.mk hB
  clear hB
  have H : (laws_markIntS.l0 k l0 a1 0) = some (r1, r2) := h
  clear h
  have H' := Aside0.mk H
  clear H
  go_enter Try.func33, Try.ntmps33
  go_wp2
  go_loopg [1, 5] k (fun kq v1 v5 w' => ∃ (x0_1 : List Int) (x1_1 : Int) (x5_1 : Int), v1 = .int .i64 x1_1 ∧ v5 = .int .i64 x5_1 ∧ Aside0 (laws_markIntS.l0 kq x0_1 x1_1 x5_1 = some (r1, r2)) ∧ Aside0 (kq ≤ k) ∧ Aside0 (Kd.R (Kd.int .i64) 3 w' w0.heap.size (fun k_ => (P0_ k_ ∨ w.heap.size ≤ k_)) u9000_ x0_1) ∧ Aside0 (Kept w w' (fun k_ => P0_ k_)) ∧ Aside0 (Below w0.heap.size w0 w'))
  case atStart => exact ⟨(l0), (a1), (0), (by first | rfl | (simp; done) | (simp [*]; done)), (by first | rfl | (simp; done) | (simp [*]; done)), H', ⟨Nat.le_refl _⟩, ⟨by (with_reducible repeat (first | apply Kd.R_alloc | apply Kd.R_drewN | apply Kd.R_drew)); exact HO0.out⟩, ⟨by repeat (first | (with_reducible first | exact HK.out | apply Kept.alloc | apply Kept.drewN | apply Kept.drew) | exact HK.out)⟩, ⟨by repeat (first | (with_reducible first | exact HB.out | apply below_alloc | apply pw_below_drewN | apply below_drew1) | exact HB.out)⟩⟩
  case round =>
    clear H'
    try clear p2
    obtain ⟨x0_1, x1_1, x5_1, rfl, rfl, HA, HK1, HO_0, HK, HB⟩ := hrel
    cases gk with
    | zero => exact absurd HA.out (by simp [laws_markIntS.l0])
    | succ k1 =>
      have H := HA.out
      clear HA
      simp only [laws_markIntS.l0] at H
      by_cases c3 : x5_1 < (x0_1.length : Int)
      · rw [if_pos c3] at H
        have c3b0 : decide (x5_1 < (x0_1.length : Int)) = true := decide_eq_true c3
        clear c3
        by_cases c4 : 0 ≤ x5_1
        · rw [if_pos c4] at H
          have c4b0 : decide (0 ≤ x5_1) = true := decide_eq_true c4
          clear c4
          obtain ⟨y223, hy223⟩ : ∃ y_ : List Int, y_ = (x0_1.set (x5_1 : Int).toNat x1_1) := ⟨_, rfl⟩
          replace H : (laws_markIntS.l0 k1 y223 (wrap64 (x1_1 + 1)) (wrap64 (x5_1 + 1))) = some (r1, r2) := by first | (rw [hy223]; with_reducible exact H) | (have H2_ := (Option.bind_some _ _).symm.trans H; rw [hy223]; with_reducible exact H2_) | (have H2_ := (Option.bind_some _ _).symm.trans H; with_reducible exact H2_) | with_reducible exact H | (rw [hy223]; exact H) | exact H
          have Ny223 := Aside0.mk hy223
          clear hy223
          have H' := Aside0.mk H
          clear H
          obtain ⟨Ao6, co6, eo6⟩ := Kd.R_slice HO_0.out
          subst eo6
          have p5 : 0 ≤ (x5_1 : Int) := of_decide_eq_true (by first | (with_reducible assumption) | assumption)
          have q5 : (x5_1 : Int) < ((x0_1.length : Int) : Int) := of_decide_eq_true (by first | (with_reducible assumption) | assumption)
          obtain ⟨go5, co5, eo5, gb5, gl5, cl5, HG5⟩ := Kd.R_form HO_0.out (by omega)
          (first | cases eo5 | (injection eo5 with ea_ en_ ec_; (first | subst ea_ | (injection ea_ with ea_; subst ea_)); subst ec_; clear en_))
          have GB5 := Aside0.mk gb5
          have GG5 := Aside0.mk HG5
          clear gb5 gl5 HG5
          have HMgo5 := Aside0.mk (show (P0_ go5 ∨ w.heap.size ≤ go5) from (HO_0.out.1 _ rfl))
          obtain ⟨hx5_0, hf5_0⟩ := Kd.R_celln 0 HO_0.out (x5_1 : Int) p5 q5
          replace p5 := eq_true p5
          replace q5 := eq_true q5
          have HP7 := Kd.R_putg HO_0.out (x5_1 : Int) x1_1
          go_wp2_with (first | ((with_reducible refine gate_store (t := 3) (p := 15) rfl ?_); refine store_event (t := 3) (p := 15) (v := ?vo_w8) (w1 := (wr.setCell ⟨go5, (x5_1 : Int).toNat, none⟩ (.int .i64 x1_1))) ?hg ?ho ?hn ?hr ?_; (case ho => rfl); (case hg => rfl); (case hn => rfl); (case hr => first | (go_simp; done) | (go_simp; rfl)); intro w8 hw; have hg : wr.grownBy w8 (some go5) := (by rw [hw]; exact HP7.2); have hp_ : Kd.R (Kd.int .i64) 3 w8 w0.heap.size (fun k_ => (P0_ k_ ∨ w.heap.size ≤ k_)) (.slice (some ⟨go5, 0, none⟩) x0_1.length co6) y223 := (by rw [hw, Ny223.out]; exact HP7.1); clear HP7; have n0_ := Aside0.mk (hp_); have n1_ := Aside0.mk ((by rw [hw]; exact below_set (HB.out) GB5.out : Below w0.heap.size w0 w8)); have n2_ := Aside0.mk (Kept.of_grown (S := (fun k_ => P0_ k_)) hg (by repeat (first | (with_reducible first | exact HK.out | apply Kept.alloc | apply Kept.drewN | apply Kept.drew) | exact HK.out)) (fun k_ e_ => (HO_0.out.1 k_ e_))); clear HO_0; clear HB; clear HK; have HO_0 := n0_; have HB := n1_; have HK := n2_; clear n0_ n1_ n2_; clear hg hw hp_))
          go_roundg k1
          case measure => have := HK1.out; omega
          case rel => exact ⟨(y223), (wrap64 (x1_1 + 1)), (wrap64 (x5_1 + 1)), (by first | rfl | (simp; done) | (simp [*]; done)), (by first | rfl | (simp; done) | (simp [*]; done)), H', ⟨by have := HK1.out; omega⟩, ⟨by (with_reducible repeat (first | apply Kd.R_alloc | apply Kd.R_drewN | apply Kd.R_drew)); exact HO_0.out⟩, ⟨by repeat (first | (with_reducible first | exact HK.out | apply Kept.alloc | apply Kept.drewN | apply Kept.drew) | exact HK.out)⟩, ⟨by repeat (first | (with_reducible first | exact HB.out | apply below_alloc | apply pw_below_drewN | apply below_drew1) | exact HB.out)⟩⟩
        · rw [if_neg c4] at H
          exact absurd H (by simp)
      · rw [if_neg c3] at H
        have c3b0 : decide (x5_1 < (x0_1.length : Int)) = false := decide_eq_false c3
        clear c3
        simp only [Option.some.injEq, Prod.mk.injEq] at H
        obtain ⟨rfl, rfl⟩ := H
        obtain ⟨Ao9, co9, eo9⟩ := Kd.R_slice HO_0.out
        subst eo9
        go_wp2
        go_ret
        exact ⟨by first | rfl | (simp [errW_none, errW_some] <;> rfl) | (simp [*, errW_none, errW_some] <;> rfl), by (with_reducible repeat (first | apply Kd.R_alloc | apply Kd.R_drewN | apply Kd.R_drew)); exact HO_0.out, by repeat (first | (with_reducible first | exact HB.out | apply below_alloc | apply pw_below_drewN | apply below_drew1) | exact HB.out), by repeat (first | (with_reducible first | exact HK.out | apply Kept.alloc | apply Kept.drewN | apply Kept.drew) | exact HK.out)⟩

/-! ### laws_FnExactSettle: function 4 -/
/-! ### rows of rows, marked -/
def laws_FnExactSettle.mss : Nat → List (List Int) → Int → Int → Option (Int × List (List Int))
  | 0, _, _, _ => none
  | k + 1, l, a, i => if i < (l.length : Int) then ((laws_markIntS.f k (l.getD i.toNat ([] : List Int)) a).bind fun bt => (laws_FnExactSettle.mss k (l.set i.toNat bt.2) bt.1 (wrap64 (i + 1)))) else (some (a, l))
def laws_FnExactSettle.mm (k : Nat) (t0 : List (List Int)) (t1 t2 : List Int) (a : Int) : Option (Int × List (List Int) × List Int × List Int) := (laws_FnExactSettle.mss k t0 a 0).bind fun b => ((laws_markIntS.f k t1 b.1).bind fun c => ((laws_markIntS.f k t2 c.1).bind fun d => some (d.1, b.2, c.2, d.2)))
def laws_FnExactSettle.f (k : Nat) (l0 l1 : List S55) : Option Bool := (laws_szSettledS.f k l0 1048576).bind fun s => (if s < 0 then some true else ((laws_szSettledS.f k l1 s).bind fun t => (if t < 0 then some true else ((laws_toSettledS.f k l0).bind fun x => ((laws_toSettledS.f k l1).bind fun y => ((spec_Settle.f k x y).bind fun v => ((impl_Settle.f k x y).bind fun g => ((laws_eqMatch.f k g.1 g.2.1 g.2.2.1 g.2.2.2.1 v.1 v.2.1 v.2.2.1 v.2.2.2.1).bind fun e => ((laws_eqSettledS.f k x x).bind fun ex => ((laws_eqSettledS.f k y y).bind fun ey => ((laws_markSettledS.f k x 1).bind fun m => ((laws_markSettledS.f k y m.1).bind fun n => ((laws_FnExactSettle.mm k g.1 g.2.1 g.2.2.1 1).bind fun p => ((laws_heldMatch.f k p.2.1 p.2.2.1 p.2.2.2 g.2.2.2.1 1).bind fun q => some (e && (decide (g.2.2.2.2 = v.2.2.2.2) && (ex && (ey && (decide (0 ≤ n.1) && (decide (0 ≤ q) && decide (q = p.1)))))))))))))))))))))
theorem laws_FnExactSettle.row {W : World} {base g n cap : Nat} {ok : Nat → Prop} {xs : List (List Int)} (h : Kd.S (Kd.slice 3 (Kd.int .i64)) 27 W base ok (.slice (some ⟨g, 0, none⟩) n cap) xs) (i : Int) (h0 : 0 ≤ i) (h1 : i < n) :
    ∃ (oki : Nat → Prop) (v3 : Value), W.cell? ⟨g, i.toNat, none⟩ = some v3 ∧ Kd.R (Kd.int .i64) 3 W base oki v3 (xs.getD i.toNat ([] : List Int)) ∧ (∀ k, oki k → ok k) ∧
      ∀ (w1 : World) (l3 : List Int), Kept W w1 oki → Kd.R (Kd.int .i64) 3 w1 base (fun k => oki k ∨ W.heap.size ≤ k) v3 l3 → Kd.S (Kd.slice 3 (Kd.int .i64)) 27 w1 base ok (.slice (some ⟨g, 0, none⟩) n cap) (xs.set i.toNat l3) := by
  obtain ⟨oki, ce, hcl, hM, hcc, hfr, hoki, hH⟩ := Kd.S_elem h ([] : List Int) i h0 h1
  obtain ⟨v3, rfl, ge⟩ := hM
  have hc : W.cell? ⟨g, i.toNat, none⟩ = some v3 := by
    have hq : W.cell? ⟨g, i.toNat * 1 + 0, none⟩ = some v3 := hcc 0 _ rfl
    rwa [Nat.mul_one, Nat.add_zero] at hq
  exact ⟨oki, v3, hc, ge, fun k hk => (hoki k hk).1, fun w1 l3 hk hr => Kd.H_back (okp := fun k => some k = v3.ownBlock) (x' := l3) (Kd.H_kept hH hk (fun k _ hn hs => hn hs)) ⟨v3, rfl, Kd.R_tight rfl hr⟩ (fun k e_ => ge.1 k e_.symm)⟩
theorem laws_FnExactSettle.wz {i : Int} {n : Nat} (h0 : 0 ≤ i) (h1 : i < n) (h2 : n ≤ 9223372036854775807) : wrap64 (i + 1) = i + 1 := by
  unfold wrap64
  omega
theorem laws_FnExactSettle.mss_calls (k : Nat) (P0_ : Nat → Prop) (u : Value) (l0 : List (List Int)) (a1 : Int) (r1 : Int) (r2 : List (List Int)) (w0 w : World) (hB : Below w0.heap.size w0 w) (ho0 : Kd.S (Kd.slice 3 (Kd.int .i64)) 27 w w0.heap.size P0_ u l0) (h : laws_FnExactSettle.mss k l0 a1 0 = some (r1, r2)) :
    Calls Try.prog 32 #[u, .int .i64 a1] w fun e w' => e = .returned (.int .i64 r1) ∧ Kd.S (Kd.slice 3 (Kd.int .i64)) 27 w' w0.heap.size P0_ u r2 ∧ Below w0.heap.size w0 w' ∧ Kept w w' (fun k_ => P0_ k_) := by
  have HK := Aside0.mk (Kept.refl w (fun k_ => P0_ k_))
  have HO0 := Aside0.mk ho0
  have HB := Aside0.mk hB
  clear hB ho0
  have H' := Aside0.mk h
  clear h
  go_enter Try.func32, Try.ntmps32
  go_wp2
  go_loopg [1, 5] k (fun kq v1 v5 w' => ∃ (x : List (List Int)) (a : Int) (i : Int), v1 = .int .i64 a ∧ v5 = .int .i64 i ∧ Aside0 (laws_FnExactSettle.mss kq x a i = some (r1, r2)) ∧ Aside0 (kq ≤ k) ∧ Aside0 (x.length = l0.length) ∧ Aside0 (0 ≤ i) ∧ Aside0 (Kd.S (Kd.slice 3 (Kd.int .i64)) 27 w' w0.heap.size P0_ u x) ∧ Aside0 (Kept w w' (fun k_ => P0_ k_)) ∧ Aside0 (Below w0.heap.size w0 w'))
  case atStart => exact ⟨l0, a1, 0, (by first | rfl | (simp; done) | (simp [*]; done)), (by first | rfl | (simp; done) | (simp [*]; done)), H', ⟨Nat.le_refl _⟩, ⟨rfl⟩, ⟨Int.le_refl _⟩, HO0, HK, HB⟩
  case round =>
    clear H' HO0
    obtain ⟨x, a, i, rfl, rfl, HA, HK1, XL, I0, HO, HK, HB⟩ := hrel
    cases gk with
    | zero => exact absurd HA.out (by simp [laws_FnExactSettle.mss])
    | succ k1 =>
      have H := HA.out
      clear HA
      simp only [laws_FnExactSettle.mss] at H
      have hxl := XL.out
      by_cases c3 : i < (x.length : Int)
      · rw [if_pos c3] at H
        have c3b0 : decide (i < (x.length : Int)) = true := decide_eq_true c3
        replace H := Option.bind_eq_some_iff.mp H
        obtain ⟨⟨q1, q2⟩, A2, H⟩ := H
        have A2 := Aside0.mk A2
        have H2 := Aside0.mk H
        clear H
        have hi0 := I0.out
        obtain ⟨g, cap, hu, gb, gl, hg⟩ := Kd.S_form HO.out (by omega)
        subst hu
        clear gb gl hg
        have hmx := Kd.C_max (Kd.S_reads' HO.out).2.2
        have WZ := Aside0.mk (laws_FnExactSettle.wz I0.out c3 hmx)
        have p : (0 ≤ i) = True := eq_true I0.out
        have q : (i < (x.length : Int)) = True := eq_true c3
        obtain ⟨oki, v3, hx, hr, hok, hq⟩ := laws_FnExactSettle.row HO.out i I0.out c3
        have HR := Aside0.mk hr
        have OKI := Aside0.mk hok
        have HQ := Aside0.mk hq
        clear hr hok hq hmx c3 hxl hi0
        go_wp2_with (first | (go_at_call 33; refine (laws_markIntS.calls k1 oki v3 _ _ q1 q2 w0 _ HB.out HR.out A2.out).mono ?_; rintro e w5 ⟨rfl, hy, hb, hk⟩; have n0_ := Aside0.mk (HQ.out w5 q2 hk hy); have n1_ := Aside0.mk hb; have n2_ := Aside0.mk (Kept.then_ (S := (fun k_ => P0_ k_)) HK.out hk (fun k_ hk_ => .inl (OKI.out k_ hk_))); clear HO HB HK; have HO := n0_; have HB := n1_; have HK := n2_; clear n0_ n1_ n2_ hy hb hk; (try clear hx)))
        go_roundg k1
        case measure => have := HK1.out; omega
        case rel =>
          have hi := I0.out
          exact ⟨x.set i.toNat q2, q1, wrap64 (i + 1), (by first | rfl | (simp; done) | (simp [*]; done)), (by first | rfl | (simp; done) | (simp [*]; done)), H2, ⟨by have := HK1.out; omega⟩, ⟨by rw [List.length_set]; exact XL.out⟩, ⟨by rw [WZ.out]; omega⟩, HO, HK, HB⟩
      · rw [if_neg c3] at H
        have c3b0 : decide (i < (x.length : Int)) = false := decide_eq_false c3
        clear c3 hxl
        obtain ⟨rfl, rfl⟩ := Prod.mk.inj (Option.some.inj H)
        obtain ⟨A9, c9, e9⟩ := Kd.S_slice HO.out
        subst e9
        go_wp2
        go_ret
        exact ⟨by first | rfl | (simp; done) | (simp [*]; done), HO.out, HB.out, HK.out⟩
/-! ### a made answer, in a variable -/
/-- A row of one's own, its blocks in a stretch of the heap. -/
def laws_FnExactSettle.XV (w0 : World) (lo hi : Nat) (W : World) (v : Value) (l : List S33) : Prop := w0.heap.size ≤ lo ∧ Kd.R k33 33 W w0.heap.size (fun k_ => lo ≤ k_ ∧ k_ < hi) v l
structure laws_FnExactSettle.MV (w0 : World) (lo hi gb : Nat) (W : World) (u0 u1 u2 : Value) (t0 : List (List Int)) (t1 t2 : List Int) (d : Int) : Prop where
  le : w0.heap.size ≤ lo
  lh : lo ≤ hi
  hb : hi ≤ gb
  s : Kd.S (Kd.slice 3 (Kd.int .i64)) 27 W w0.heap.size (fun k_ => (lo ≤ k_ ∧ k_ < hi) ∧ some k_ ≠ u1.ownBlock ∧ some k_ ≠ u2.ownBlock) u0 t0
  r1 : Kd.R (Kd.int .i64) 3 W w0.heap.size (fun k_ => (lo ≤ k_ ∧ k_ < hi) ∧ some k_ ≠ u2.ownBlock) u1 t1
  r2 : Kd.R (Kd.int .i64) 3 W w0.heap.size (fun k_ => (lo ≤ k_ ∧ k_ < hi) ∧ some k_ ≠ u1.ownBlock) u2 t2
  bx : W.heap[gb]? = some (.cells #[u0, u1, u2, .int .i64 d] 29 (0, 0))
section
variable {w0 W W1 W3 : World} {lo hi gb : Nat} {v u0 u1 u2 : Value} {l : List S33} {t0 : List (List Int)} {t1 t2 : List Int} {d : Int} {S : Nat → Prop}
theorem laws_FnExactSettle.XV.kept (h : laws_FnExactSettle.XV w0 lo hi W v l) (hk : Kept W W1 S) (hn : ∀ k, lo ≤ k → k < hi → ¬ S k) : laws_FnExactSettle.XV w0 lo hi W1 v l := ⟨h.1, Kd.R_kept h.2 hk (fun k hk_ => hn k hk_.1 hk_.2)⟩
theorem laws_FnExactSettle.XV.below (h : laws_FnExactSettle.XV w0 lo hi W v l) (hb : Below W.heap.size W W1) : laws_FnExactSettle.XV w0 lo hi W1 v l := h.kept (Kept.of_below hb (fun _ => False)) (fun _ _ _ h => h)
theorem laws_FnExactSettle.XV.made (h : Kd.R k33 33 W1 W.heap.size (fun _ => True) v l) (hb : Below w0.heap.size w0 W) : laws_FnExactSettle.XV w0 W.heap.size W1.heap.size W1 v l :=
  ⟨below_size hb, Kd.R_lower (Kd.R_mono (Kd.R_bound h) (fun k hk => ⟨hk.2.1, hk.2.2.1⟩)) (below_size hb)⟩
theorem laws_FnExactSettle.MV.kept (h : laws_FnExactSettle.MV w0 lo hi gb W u0 u1 u2 t0 t1 t2 d) (hk : Kept W W1 S) (hn : ∀ k, lo ≤ k → k ≤ gb → ¬ S k) : laws_FnExactSettle.MV w0 lo hi gb W1 u0 u1 u2 t0 t1 t2 d := by
  obtain ⟨h1, h0, h2, h3, h4, h5, h6⟩ := h
  exact ⟨h1, h0, h2, Kd.S_kept h3 hk (fun k hk_ => hn k hk_.1.1 (by have := hk_.1.2; omega)), Kd.R_kept h4 hk (fun k hk_ => hn k hk_.1.1 (by have := hk_.1.2; omega)), Kd.R_kept h5 hk (fun k hk_ => hn k hk_.1.1 (by have := hk_.1.2; omega)), blk_kept h6 hk (hn gb (by omega) (Nat.le_refl _))⟩
theorem laws_FnExactSettle.MV.below (h : laws_FnExactSettle.MV w0 lo hi gb W u0 u1 u2 t0 t1 t2 d) (hb : Below W.heap.size W W1) : laws_FnExactSettle.MV w0 lo hi gb W1 u0 u1 u2 t0 t1 t2 d := h.kept (Kept.of_below hb (fun _ => False)) (fun _ _ _ h => h)
theorem laws_FnExactSettle.MV.made (h0 : Kd.S (Kd.slice 3 (Kd.int .i64)) 27 W1 W.heap.size (fun k_ => some k_ ≠ u1.ownBlock ∧ some k_ ≠ u2.ownBlock) u0 t0) (h1 : Kd.R (Kd.int .i64) 3 W1 W.heap.size (fun k_ => some k_ ≠ u2.ownBlock) u1 t1) (h2 : Kd.R (Kd.int .i64) 3 W1 W.heap.size (fun k_ => some k_ ≠ u1.ownBlock) u2 t2)
    (hb : Below w0.heap.size w0 W) (hc : Below W.heap.size W W1) (hd : Below W1.heap.size W1 W3) (hg : W1.heap.size ≤ gb) (hx : W3.heap[gb]? = some (.cells #[u0, u1, u2, .int .i64 d] 29 (0, 0))) : laws_FnExactSettle.MV w0 W.heap.size W1.heap.size gb W3 u0 u1 u2 t0 t1 t2 d :=
  ⟨below_size hb, hc.size, hg, Kd.S_below (Kd.S_lower (Kd.S_mono (Kd.S_bound h0) (fun k hk => ⟨⟨hk.2.1, hk.2.2.1⟩, hk.1⟩)) (below_size hb)) hd, Kd.R_below (Kd.R_lower (Kd.R_mono (Kd.R_bound h1) (fun k hk => ⟨⟨hk.2.1, hk.2.2.1⟩, hk.1⟩)) (below_size hb)) hd, Kd.R_below (Kd.R_lower (Kd.R_mono (Kd.R_bound h2) (fun k hk => ⟨⟨hk.2.1, hk.2.2.1⟩, hk.1⟩)) (below_size hb)) hd, hx⟩
end
/-- An answer is marked. -/
theorem laws_FnExactSettle.mm_calls (k : Nat) {w0 W : World} {lo hi gb : Nat} {u0 u1 u2 : Value} {t0 : List (List Int)} {t1 t2 : List Int} {d : Int} (a p1 : Int) (q0 : List (List Int)) (q1 q2 : List Int) (hB : Below w0.heap.size w0 W) (M : laws_FnExactSettle.MV w0 lo hi gb W u0 u1 u2 t0 t1 t2 d) (h : laws_FnExactSettle.mm k t0 t1 t2 a = some (p1, q0, q1, q2)) :
    Calls Try.prog 13 #[.agg #[u0, u1, u2, .int .i64 d], .int .i64 a] W fun e w' => e = .returned (.int .i64 p1) ∧ laws_FnExactSettle.MV w0 lo hi gb w' u0 u1 u2 q0 q1 q2 d ∧ Below w0.heap.size w0 w' ∧ Kept W w' (fun k_ => lo ≤ k_ ∧ k_ < hi) := by
  unfold laws_FnExactSettle.mm at h
  obtain ⟨⟨b1, b2⟩, hb, h⟩ := Option.bind_eq_some_iff.mp h
  obtain ⟨⟨c1, c2⟩, hc, h⟩ := Option.bind_eq_some_iff.mp h
  obtain ⟨⟨d1, d2⟩, hd, h⟩ := Option.bind_eq_some_iff.mp h
  obtain ⟨rfl, rfl, rfl, rfl⟩ : d1 = p1 ∧ b2 = q0 ∧ c2 = q1 ∧ d2 = q2 := by simpa using h
  have A1 := Aside0.mk hb
  have A2 := Aside0.mk hc
  have A3 := Aside0.mk hd
  have HB := Aside0.mk hB
  have HM := Aside0.mk M
  obtain ⟨B0, n0, e0⟩ := Kd.S_slice M.s
  obtain ⟨B1, n1, e1⟩ := Kd.R_slice M.r1
  obtain ⟨B2, n2, e2⟩ := Kd.R_slice M.r2
  subst e0 e1 e2
  clear h hb hc hd hB M
  go_enter Try.func13, Try.ntmps13
  go_wp2_with (first | ((with_reducible refine gate_dst (N := 2) rfl ?_); refine box_event ?hg (N := 2) ?hd (cs := #[.slice B0 t0.length n0, .slice B1 t1.length n1, .slice B2 t2.length n2, .int .i64 d]) (t := 29) ?hr ?_; (case hd => rfl); (case hg => rfl); (case hr => first | (go_simp; done) | (go_simp; rfl)); intro gx hg w4 hbox hb; have HG := Aside0.mk (Nat.lt_of_lt_of_le (blk_lt HM.out.bx) (Nat.le_of_eq hg.symm)); have n_M := Aside0.mk (HM.out.below hb); have n_B := Aside0.mk (below_step HB.out hb); have HK4 := Aside0.mk (Kept.of_below hb (fun k_ => lo ≤ k_ ∧ k_ < hi)); have HX := Aside0.mk hbox; clear HM HB hg hbox hb; have HM := n_M; have HB := n_B; clear n_M n_B; have z0 : w4.cell? ⟨gx, 0, none⟩ = some (.slice B0 t0.length n0) := (blk_cell HX.out 0).trans rfl) | (go_at_call 32; refine (laws_FnExactSettle.mss_calls k _ _ _ _ b1 b2 w0 _ HB.out HM.out.s A1.out).mono ?_; rintro e w5 ⟨rfl, hs, hb, hk⟩; have HS5 := Aside0.mk hs; have H15 := Aside0.mk (Kd.R_kept (Kd.R_tight rfl HM.out.r1) hk (fun k_ e_ hp_ => hp_.2.1 e_)); have H25 := Aside0.mk (Kd.R_kept (Kd.R_tight rfl HM.out.r2) hk (fun k_ e_ hp_ => hp_.2.2 e_)); have HX5 := Aside0.mk (blk_kept HM.out.bx hk (fun hp_ => by have := HM.out.hb; have := hp_.1.2; omega)); have HY5 := Aside0.mk (blk_kept HX.out hk (fun hp_ => by have := HM.out.hb; have := hp_.1.2; have := HG.out; omega)); have HB5 := Aside0.mk hb; have HK5 := Aside0.mk (Kept.then_ HK4.out hk (fun k_ hp_ => .inl hp_.1)); clear hs hb hk z0 HX HK4; have z1 : w5.cell? ⟨gx, 1, none⟩ = some (.slice B1 t1.length n1) := (blk_cell HY5.out 1).trans rfl) | (go_at_call 33; refine (laws_markIntS.calls k (fun k_ => some k_ = (Value.slice B1 t1.length n1).ownBlock) (.slice B1 t1.length n1) t1 b1 c1 c2 w0 _ HB5.out H15.out A2.out).mono ?_; rintro e w6 ⟨rfl, hs, hb, hk⟩; have HS6 := Aside0.mk (Kd.S_kept HS5.out hk (fun k_ hp_ e_ => hp_.2.1 e_)); have H16 := Aside0.mk (Kd.R_tight rfl hs); have H26 := Aside0.mk (Kd.R_kept H25.out hk (fun k_ e_ f_ => (HM.out.r1.1 k_ f_.symm).2 e_)); have HX6 := Aside0.mk (blk_kept HX5.out hk (fun e_ => by have := HM.out.hb; have := (HM.out.r1.1 gb e_.symm).1.2; omega)); have HY6 := Aside0.mk (blk_kept HY5.out hk (fun e_ => by have := HM.out.hb; have := (HM.out.r1.1 gx e_.symm).1.2; have := HG.out; omega)); have HB6 := Aside0.mk hb; have HK6 := Aside0.mk (Kept.then_ HK5.out hk (fun k_ e_ => .inl (HM.out.r1.1 k_ e_.symm).1)); clear hs hb hk HS5 H15 H25 HX5 HY5 HB5 HK5 z1; have z2 : w6.cell? ⟨gx, 2, none⟩ = some (.slice B2 t2.length n2) := (blk_cell HY6.out 2).trans rfl) | (go_at_call 33; refine (laws_markIntS.calls k (fun k_ => some k_ = (Value.slice B2 t2.length n2).ownBlock) (.slice B2 t2.length n2) t2 c1 d1 d2 w0 _ HB6.out H26.out A3.out).mono ?_; rintro e w7 ⟨rfl, hs, hb, hk⟩; have HS7 := Aside0.mk (Kd.S_kept HS6.out hk (fun k_ hp_ e_ => hp_.2.2 e_)); have H17 := Aside0.mk (Kd.R_kept H16.out hk (fun k_ e_ f_ => (HM.out.r2.1 k_ f_.symm).2 e_)); have H27 := Aside0.mk (Kd.R_tight rfl hs); have HX7 := Aside0.mk (blk_kept HX6.out hk (fun e_ => by have := HM.out.hb; have := (HM.out.r2.1 gb e_.symm).1.2; omega)); have HB7 := Aside0.mk hb; have HK7 := Aside0.mk (Kept.then_ HK6.out hk (fun k_ e_ => .inl (HM.out.r2.1 k_ e_.symm).1)); clear hs hb hk HS6 H16 H26 HX6 HY6 HB6 HK6 z2))
  go_ret
  exact ⟨by first | rfl | (simp; done), ⟨HM.out.le, HM.out.lh, HM.out.hb, HS7.out, Kd.R_reok rfl H17.out (fun k_ e_ => HM.out.r1.1 k_ e_), Kd.R_reok rfl H27.out (fun k_ e_ => HM.out.r2.1 k_ e_), HX7.out⟩, HB7.out, HK7.out⟩
theorem laws_FnExactSettle.mss_mono : ∀ k, (∀ y0 y1 y2, LeO (laws_FnExactSettle.mss k y0 y1 y2) (laws_FnExactSettle.mss (k + 1) y0 y1 y2))
  | 0 => fun _ _ _ r h => by simp [laws_FnExactSettle.mss] at h
  | k + 1 => by
    have ih0 := laws_FnExactSettle.mss_mono k
    · intro y0 y1 y2
      unfold laws_FnExactSettle.mss
      repeat' first
      | (with_reducible exact ih0 _ _ _)
      | (with_reducible exact laws_markIntS.mono _ _ _)
      | (with_reducible exact LeO.refl _)
      | (with_reducible exact LeO.none _)
      | (with_reducible refine LeO.ite ?_ ?_)
      | (with_reducible refine LeO.bind ?_ (fun _ => ?_))
theorem laws_FnExactSettle.mm_mono (k : Nat) (t0 : List (List Int)) (t1 t2 : List Int) (a : Int) : LeO (laws_FnExactSettle.mm k t0 t1 t2 a) (laws_FnExactSettle.mm (k + 1) t0 t1 t2 a) := by
  unfold laws_FnExactSettle.mm
  exact LeO.bind (laws_FnExactSettle.mss_mono k _ _ _) (fun _ => LeO.bind (laws_markIntS.mono _ _ _) (fun _ => LeO.bind (laws_markIntS.mono _ _ _) (fun _ => LeO.refl _)))
theorem laws_FnExactSettle.mono : ∀ a0 a1 k, LeO (laws_FnExactSettle.f k a0 a1) (laws_FnExactSettle.f (k + 1) a0 a1) := by
  intro a0 a1 k
  unfold laws_FnExactSettle.f
  repeat' first
      | (with_reducible exact laws_szSettledS.mono _ _ _)
      | (with_reducible exact laws_toSettledS.mono _ _)
      | (with_reducible exact spec_Settle.mono _ _ _)
      | (with_reducible exact impl_Settle.mono _ _ _)
      | (with_reducible exact laws_eqMatch.mono _ _ _ _ _ _ _ _ _)
      | (with_reducible exact laws_eqSettledS.mono _ _ _)
      | (with_reducible exact laws_markSettledS.mono _ _ _)
      | (with_reducible exact laws_FnExactSettle.mm_mono _ _ _ _ _)
      | (with_reducible exact laws_heldMatch.mono _ _ _ _ _ _)
      | (with_reducible exact LeO.refl _)
      | (with_reducible exact LeO.none _)
      | (with_reducible refine LeO.ite ?_ ?_)
      | (with_reducible refine LeO.bind ?_ (fun _ => ?_))

set_option maxHeartbeats 8000000 in
set_option maxRecDepth 100000 in
theorem laws_FnExactSettle.calls (k : Nat) (A0 : Option Addr) (c0 : Nat) (l0 : List (S55)) (A1 : Option Addr) (c1 : Nat) (l1 : List (S55)) (r : Bool) (w : World) (hr0 : Kd.C k55 w A0 l0.length l0) (hc0 : l0.length ≤ c0) (hr1 : Kd.C k55 w A1 l1.length l1) (hc1 : l1.length ≤ c1) (h : laws_FnExactSettle.f k l0 l1 = some r) (hT0 : r = true) :
    Calls Try.prog 4 #[.slice A0 l0.length c0, .slice A1 l1.length c1] w fun e w' => e = .returned (.bool r) ∧ Below w.heap.size w w' := by
  unfold laws_FnExactSettle.f at h
  obtain ⟨s_, B1, h⟩ := Option.bind_eq_some_iff.mp h
  have AS := Aside0.mk B1
  have HR0 := Aside0.mk hr0
  have HR1 := Aside0.mk hr1
  have HC0 := Aside0.mk hc0
  have HC1 := Aside0.mk hc1
  have HB := Aside0.mk (Below.refl w.heap.size w)
  subst hT0
  clear B1 hr0 hr1 hc0 hc1
  by_cases d1 : s_ < 0
  · have b1 : decide (s_ < 0) = true := decide_eq_true d1
    clear d1 h
    go_enter Try.func4, Try.ntmps4
    go_wp2_with (first | (go_at_call 7; (with_reducible refine (laws_szSettledS.calls k _ _ l0 1048576 s_ _ ?s1 ?s2 AS.out).mono ?_); (case s1 => exact (Kd.C_below HR0.out HB.out)); (case s2 => exact HC0.out); rintro e w2 ⟨rfl, hb⟩; have n_B := Aside0.mk (below_step HB.out hb); clear HB; have HB := n_B; clear n_B; clear hb))
    go_ret
    exact ⟨by first | rfl | (simp; done), HB.out⟩
  have b1 : decide (s_ < 0) = false := decide_eq_false d1
  rw [if_neg d1] at h
  clear d1
  obtain ⟨t_, B2, h⟩ := Option.bind_eq_some_iff.mp h
  have AT := Aside0.mk B2
  clear B2
  by_cases d2 : t_ < 0
  · have b2 : decide (t_ < 0) = true := decide_eq_true d2
    clear d2 h
    go_enter Try.func4, Try.ntmps4
    go_wp2_with (first | (go_at_call 7; (with_reducible refine (laws_szSettledS.calls k _ _ l0 1048576 s_ _ ?s1 ?s2 AS.out).mono ?_); (case s1 => exact (Kd.C_below HR0.out HB.out)); (case s2 => exact HC0.out); rintro e w2 ⟨rfl, hb⟩; have n_B := Aside0.mk (below_step HB.out hb); clear HB; have HB := n_B; clear n_B; clear hb) | (go_at_call 7; (with_reducible refine (laws_szSettledS.calls k _ _ l1 s_ t_ _ ?s1 ?s2 AT.out).mono ?_); (case s1 => exact (Kd.C_below HR1.out HB.out)); (case s2 => exact HC1.out); rintro e w5 ⟨rfl, hb⟩; have n_B := Aside0.mk (below_step HB.out hb); clear HB; have HB := n_B; clear n_B; clear hb))
    go_ret
    exact ⟨by first | rfl | (simp; done), HB.out⟩
  have b2 : decide (t_ < 0) = false := decide_eq_false d2
  rw [if_neg d2] at h
  clear d2
  obtain ⟨x_, AX, h⟩ := Option.bind_eq_some_iff.mp h
  have AX := Aside0.mk AX
  obtain ⟨y_, AY, h⟩ := Option.bind_eq_some_iff.mp h
  have AY := Aside0.mk AY
  obtain ⟨⟨v0, v1, v2, v3, v4⟩, AV, h⟩ := Option.bind_eq_some_iff.mp h
  have AV := Aside0.mk AV
  obtain ⟨⟨g0, g1, g2, g3, g4⟩, AG, h⟩ := Option.bind_eq_some_iff.mp h
  have AG := Aside0.mk AG
  obtain ⟨e_, AE, h⟩ := Option.bind_eq_some_iff.mp h
  obtain ⟨ex, AEX, h⟩ := Option.bind_eq_some_iff.mp h
  obtain ⟨ey, AEY, h⟩ := Option.bind_eq_some_iff.mp h
  obtain ⟨⟨m1, m2⟩, AM, h⟩ := Option.bind_eq_some_iff.mp h
  obtain ⟨⟨n1, n2⟩, AN, h⟩ := Option.bind_eq_some_iff.mp h
  obtain ⟨⟨p1, p2, p3, p4⟩, AP, h⟩ := Option.bind_eq_some_iff.mp h
  obtain ⟨q_, AQ, h⟩ := Option.bind_eq_some_iff.mp h
  have h := Option.some.inj h
  simp only [Bool.and_eq_true, decide_eq_true_eq] at h
  obtain ⟨rfl, rfl, rfl, rfl, hn0, hq0, rfl⟩ := h
  have AE := Aside0.mk AE
  have AEX := Aside0.mk AEX
  have AEY := Aside0.mk AEY
  have AM := Aside0.mk AM
  have AN := Aside0.mk AN
  have AP := Aside0.mk AP
  have AQ := Aside0.mk AQ
  have bn : decide (n1 < 0) = false := decide_eq_false (by omega)
  have bq : decide (q_ < 0) = false := decide_eq_false (by omega)
  have bg : (g4 != g4) = false := by simp
  have bqq : (q_ != q_) = false := by simp
  clear hn0 hq0
  go_enter Try.func4, Try.ntmps4
  go_upto_region 8 with (first | (go_at_call 7; (with_reducible refine (laws_szSettledS.calls k _ _ l0 1048576 s_ _ ?s1 ?s2 AS.out).mono ?_); (case s1 => exact (Kd.C_below HR0.out HB.out)); (case s2 => exact HC0.out); rintro e w2 ⟨rfl, hb⟩; have n_B := Aside0.mk (below_step HB.out hb); clear HB; have HB := n_B; clear n_B; clear hb) | (go_at_call 7; (with_reducible refine (laws_szSettledS.calls k _ _ l1 s_ t_ _ ?s1 ?s2 AT.out).mono ?_); (case s1 => exact (Kd.C_below HR1.out HB.out)); (case s2 => exact HC1.out); rintro e w5 ⟨rfl, hb⟩; have n_B := Aside0.mk (below_step HB.out hb); clear HB; have HB := n_B; clear n_B; clear hb))
  (try simp only [Act.put, List.setIfInBounds_toArray, List.set_cons_zero, List.set_cons_succ])
  go_upto_region 9 with (first | (go_at_call 9; (with_reducible refine (laws_toSettledS.calls k _ _ l0 x_ _ ?s1 ?s2 AX.out).mono ?_); (case s1 => exact (Kd.C_below HR0.out HB.out)); (case s2 => exact HC0.out); rintro e w29 ⟨vX1, rfl, hr, hb⟩; have X1 := Aside0.mk (laws_FnExactSettle.XV.made hr HB.out); have SZX1 := Aside0.mk hb.size; skip; skip; have n_B := Aside0.mk (below_step HB.out hb); clear HB; have HB := n_B; clear n_B; obtain ⟨AX1, cX1, eX1⟩ := Kd.R_slice X1.out.2; subst eX1; clear hr hb) | (go_at_call 9; (with_reducible refine (laws_toSettledS.calls k _ _ l1 y_ _ ?s1 ?s2 AY.out).mono ?_); (case s1 => exact (Kd.C_below HR1.out HB.out)); (case s2 => exact HC1.out); rintro e w31 ⟨vY1, rfl, hr, hb⟩; have Y1 := Aside0.mk (laws_FnExactSettle.XV.made hr HB.out); have SZY1 := Aside0.mk hb.size; have n_X1 := Aside0.mk (X1.out.below hb); clear X1; have X1 := n_X1; clear n_X1; skip; have n_B := Aside0.mk (below_step HB.out hb); clear HB; have HB := n_B; clear n_B; obtain ⟨AY1, cY1, eY1⟩ := Kd.R_slice Y1.out.2; subst eY1; clear hr hb) | (go_at_call 8; (with_reducible refine (spec_Settle.calls k _ _ x_ _ _ y_ v0 v1 v2 v3 g4 _ ?s1 ?s2 ?s3 ?s4 AV.out).mono ?_); (case s1 => exact (Kd.R_reads' X1.out.2).2.2); (case s2 => exact (Kd.R_reads' X1.out.2).2.1); (case s3 => exact (Kd.R_reads' Y1.out.2).2.2); (case s4 => exact (Kd.R_reads' Y1.out.2).2.1); rintro e w32 ⟨u0V, u1V, u2V, rfl, h0, h1, h2, hb⟩; have HS_ := Aside0.mk h0; have H1_ := Aside0.mk h1; have H2_ := Aside0.mk h2; have HP_ := HB; have HC_ := Aside0.mk hb; have n_X1 := Aside0.mk (X1.out.below hb); have n_Y1 := Aside0.mk (Y1.out.below hb); clear X1 Y1; have X1 := n_X1; have Y1 := n_Y1; clear n_X1 n_Y1; skip; have n_B := Aside0.mk (below_step HB.out hb); clear HB; have HB := n_B; clear n_B; obtain ⟨A0V, c0V, e0_⟩ := Kd.S_slice HS_.out; obtain ⟨A1V, c1V, e1_⟩ := Kd.R_slice H1_.out; obtain ⟨A2V, c2V, e2_⟩ := Kd.R_slice H2_.out; subst e0_ e1_ e2_; clear h0 h1 h2 hb) | ((with_reducible refine gate_dst (N := 6) rfl ?_); refine box_event ?hg (N := 6) ?hd (cs := #[.slice none 0 0, .slice none 0 0, .slice none 0 0, .int .i64 0]) (t := 29) ?hr ?_; (case hd => rfl); (case hg => rfl); (case hr => first | (go_simp; done) | (go_simp; rfl)); intro gV hg w32b hbox hb; have HBX := Aside0.mk hbox; have HG := Aside0.mk (Nat.le_of_eq hg.symm); have HBL := Aside0.mk hb; clear hg hbox hb; have z0 : w32b.cell? ⟨gV, 0, none⟩ = some (.slice none 0 0) := (blk_cell HBX.out 0).trans rfl; have f0 := blk_frozen HBX.out 0; have z1 : w32b.cell? ⟨gV, 1, none⟩ = some (.slice none 0 0) := (blk_cell HBX.out 1).trans rfl; have f1 := blk_frozen HBX.out 1; have z2 : w32b.cell? ⟨gV, 2, none⟩ = some (.slice none 0 0) := (blk_cell HBX.out 2).trans rfl; have f2 := blk_frozen HBX.out 2; have z3 : w32b.cell? ⟨gV, 3, none⟩ = some (.int .i64 0) := (blk_cell HBX.out 3).trans rfl; have f3 := blk_frozen HBX.out 3) | ((with_reducible refine gate_store (t := 29) (p := 6) rfl ?_); refine store_event (t := 29) (p := 6) (v := ?vo_V) (w1 := ((((w32b.setCell ⟨gV, 0, none⟩ (.slice A0V v0.length c0V)).setCell ⟨gV, 1, none⟩ (.slice A1V v1.length c1V)).setCell ⟨gV, 2, none⟩ (.slice A2V v2.length c2V)).setCell ⟨gV, 3, none⟩ (.int .i64 v3))) ?hg ?ho ?hn ?hr ?_; (case ho => rfl); (case hg => rfl); (case hn => rfl); (case hr => first | (go_simp; done) | (go_simp; rfl)); intro w33 hw; have hb3 : Below w32.heap.size w32 w33 := (by rw [hw]; exact (below_set (below_set (below_set (below_set HBL.out HG.out) HG.out) HG.out) HG.out)); have hx3 : w33.heap[gV]? = some (.cells #[.slice A0V v0.length c0V, .slice A1V v1.length c1V, .slice A2V v2.length c2V, .int .i64 v3] 29 (0, 0)) := (by rw [hw]; exact (blk_put (cs := #[.slice A0V v0.length c0V, .slice A1V v1.length c1V, .slice A2V v2.length c2V, .int .i64 0]) (blk_put (cs := #[.slice A0V v0.length c0V, .slice A1V v1.length c1V, .slice none 0 0, .int .i64 0]) (blk_put (cs := #[.slice A0V v0.length c0V, .slice none 0 0, .slice none 0 0, .int .i64 0]) (blk_put (cs := #[.slice none 0 0, .slice none 0 0, .slice none 0 0, .int .i64 0]) HBX.out 0 _ rfl) 1 _ rfl) 2 _ rfl) 3 _ rfl)); clear hw; have V := Aside0.mk (laws_FnExactSettle.MV.made HS_.out H1_.out H2_.out HP_.out HC_.out hb3 HG.out hx3); clear z0 z1 z2 z3 f0 f1 f2 f3 HS_ H1_ H2_ HP_ HC_ HBX HG HBL hx3; have n_X1 := Aside0.mk (X1.out.below hb3); have n_Y1 := Aside0.mk (Y1.out.below hb3); clear X1 Y1; have X1 := n_X1; have Y1 := n_Y1; clear n_X1 n_Y1; skip; have n_B := Aside0.mk (below_step HB.out hb3); clear HB; have HB := n_B; clear n_B; clear hb3; (try clear zV0 zV1 zV2 zV3); have zV0 : w33.cell? ⟨gV, 0, none⟩ = some (.slice A0V v0.length c0V) := (blk_cell V.out.bx 0).trans rfl; have zV1 : w33.cell? ⟨gV, 1, none⟩ = some (.slice A1V v1.length c1V) := (blk_cell V.out.bx 1).trans rfl; have zV2 : w33.cell? ⟨gV, 2, none⟩ = some (.slice A2V v2.length c2V) := (blk_cell V.out.bx 2).trans rfl; have zV3 : w33.cell? ⟨gV, 3, none⟩ = some (.int .i64 v3) := (blk_cell V.out.bx 3).trans rfl))
  (try simp only [Act.put, List.setIfInBounds_toArray, List.set_cons_zero, List.set_cons_succ])
  have OV := Aside0.mk (blk_lt V.out.bx)
  clear X1 Y1
  go_upto_region 10 with (first | (go_at_call 9; (with_reducible refine (laws_toSettledS.calls k _ _ l0 x_ _ ?s1 ?s2 AX.out).mono ?_); (case s1 => exact (Kd.C_below HR0.out HB.out)); (case s2 => exact HC0.out); rintro e w36 ⟨vX2, rfl, hr, hb⟩; have X2 := Aside0.mk (laws_FnExactSettle.XV.made hr HB.out); have SZX2 := Aside0.mk hb.size; have n_V := Aside0.mk (V.out.below hb); clear V; have V := n_V; clear n_V; (try clear zV0 zV1 zV2 zV3); have zV0 : w36.cell? ⟨gV, 0, none⟩ = some (.slice A0V v0.length c0V) := (blk_cell V.out.bx 0).trans rfl; have zV1 : w36.cell? ⟨gV, 1, none⟩ = some (.slice A1V v1.length c1V) := (blk_cell V.out.bx 1).trans rfl; have zV2 : w36.cell? ⟨gV, 2, none⟩ = some (.slice A2V v2.length c2V) := (blk_cell V.out.bx 2).trans rfl; have zV3 : w36.cell? ⟨gV, 3, none⟩ = some (.int .i64 v3) := (blk_cell V.out.bx 3).trans rfl; have n_B := Aside0.mk (below_step HB.out hb); clear HB; have HB := n_B; clear n_B; obtain ⟨AX2, cX2, eX2⟩ := Kd.R_slice X2.out.2; subst eX2; clear hr hb))
  (try simp only [Act.put, List.setIfInBounds_toArray, List.set_cons_zero, List.set_cons_succ])
  go_upto_region 11 with (first | (go_at_call 9; (with_reducible refine (laws_toSettledS.calls k _ _ l1 y_ _ ?s1 ?s2 AY.out).mono ?_); (case s1 => exact (Kd.C_below HR1.out HB.out)); (case s2 => exact HC1.out); rintro e w38 ⟨vY2, rfl, hr, hb⟩; have Y2 := Aside0.mk (laws_FnExactSettle.XV.made hr HB.out); have SZY2 := Aside0.mk hb.size; have n_V := Aside0.mk (V.out.below hb); have n_X2 := Aside0.mk (X2.out.below hb); clear V X2; have V := n_V; have X2 := n_X2; clear n_V n_X2; (try clear zV0 zV1 zV2 zV3); have zV0 : w38.cell? ⟨gV, 0, none⟩ = some (.slice A0V v0.length c0V) := (blk_cell V.out.bx 0).trans rfl; have zV1 : w38.cell? ⟨gV, 1, none⟩ = some (.slice A1V v1.length c1V) := (blk_cell V.out.bx 1).trans rfl; have zV2 : w38.cell? ⟨gV, 2, none⟩ = some (.slice A2V v2.length c2V) := (blk_cell V.out.bx 2).trans rfl; have zV3 : w38.cell? ⟨gV, 3, none⟩ = some (.int .i64 v3) := (blk_cell V.out.bx 3).trans rfl; have n_B := Aside0.mk (below_step HB.out hb); clear HB; have HB := n_B; clear n_B; obtain ⟨AY2, cY2, eY2⟩ := Kd.R_slice Y2.out.2; subst eY2; clear hr hb))
  (try simp only [Act.put, List.setIfInBounds_toArray, List.set_cons_zero, List.set_cons_succ])
  go_upto_region 12 with (first | (go_at_call 6; (with_reducible refine (impl_Settle.calls k _ _ x_ _ _ y_ g0 g1 g2 g3 g4 _ ?s1 ?s2 ?s3 ?s4 AG.out).mono ?_); (case s1 => exact (Kd.R_reads' X2.out.2).2.2); (case s2 => exact (Kd.R_reads' X2.out.2).2.1); (case s3 => exact (Kd.R_reads' Y2.out.2).2.2); (case s4 => exact (Kd.R_reads' Y2.out.2).2.1); rintro e w42 ⟨u0G, u1G, u2G, rfl, h0, h1, h2, hb⟩; have HS_ := Aside0.mk h0; have H1_ := Aside0.mk h1; have H2_ := Aside0.mk h2; have HP_ := HB; have HC_ := Aside0.mk hb; have n_V := Aside0.mk (V.out.below hb); have n_X2 := Aside0.mk (X2.out.below hb); have n_Y2 := Aside0.mk (Y2.out.below hb); clear V X2 Y2; have V := n_V; have X2 := n_X2; have Y2 := n_Y2; clear n_V n_X2 n_Y2; (try clear zV0 zV1 zV2 zV3); have zV0 : w42.cell? ⟨gV, 0, none⟩ = some (.slice A0V v0.length c0V) := (blk_cell V.out.bx 0).trans rfl; have zV1 : w42.cell? ⟨gV, 1, none⟩ = some (.slice A1V v1.length c1V) := (blk_cell V.out.bx 1).trans rfl; have zV2 : w42.cell? ⟨gV, 2, none⟩ = some (.slice A2V v2.length c2V) := (blk_cell V.out.bx 2).trans rfl; have zV3 : w42.cell? ⟨gV, 3, none⟩ = some (.int .i64 v3) := (blk_cell V.out.bx 3).trans rfl; have n_B := Aside0.mk (below_step HB.out hb); clear HB; have HB := n_B; clear n_B; obtain ⟨A0G, c0G, e0_⟩ := Kd.S_slice HS_.out; obtain ⟨A1G, c1G, e1_⟩ := Kd.R_slice H1_.out; obtain ⟨A2G, c2G, e2_⟩ := Kd.R_slice H2_.out; subst e0_ e1_ e2_; clear h0 h1 h2 hb) | ((with_reducible refine gate_dst (N := 10) rfl ?_); refine box_event ?hg (N := 10) ?hd (cs := #[.slice none 0 0, .slice none 0 0, .slice none 0 0, .int .i64 0]) (t := 29) ?hr ?_; (case hd => rfl); (case hg => rfl); (case hr => first | (go_simp; done) | (go_simp; rfl)); intro gG hg w43 hbox hb; have HBX := Aside0.mk hbox; have HG := Aside0.mk (Nat.le_of_eq hg.symm); have HBL := Aside0.mk hb; clear hg hbox hb; have z0 : w43.cell? ⟨gG, 0, none⟩ = some (.slice none 0 0) := (blk_cell HBX.out 0).trans rfl; have f0 := blk_frozen HBX.out 0; have z1 : w43.cell? ⟨gG, 1, none⟩ = some (.slice none 0 0) := (blk_cell HBX.out 1).trans rfl; have f1 := blk_frozen HBX.out 1; have z2 : w43.cell? ⟨gG, 2, none⟩ = some (.slice none 0 0) := (blk_cell HBX.out 2).trans rfl; have f2 := blk_frozen HBX.out 2; have z3 : w43.cell? ⟨gG, 3, none⟩ = some (.int .i64 0) := (blk_cell HBX.out 3).trans rfl; have f3 := blk_frozen HBX.out 3) | ((with_reducible refine gate_store (t := 29) (p := 10) rfl ?_); refine store_event (t := 29) (p := 10) (v := ?vo_G) (w1 := ((((w43.setCell ⟨gG, 0, none⟩ (.slice A0G g0.length c0G)).setCell ⟨gG, 1, none⟩ (.slice A1G g1.length c1G)).setCell ⟨gG, 2, none⟩ (.slice A2G g2.length c2G)).setCell ⟨gG, 3, none⟩ (.int .i64 g3))) ?hg ?ho ?hn ?hr ?_; (case ho => rfl); (case hg => rfl); (case hn => rfl); (case hr => first | (go_simp; done) | (go_simp; rfl)); intro w44 hw; have hb3 : Below w42.heap.size w42 w44 := (by rw [hw]; exact (below_set (below_set (below_set (below_set HBL.out HG.out) HG.out) HG.out) HG.out)); have hx3 : w44.heap[gG]? = some (.cells #[.slice A0G g0.length c0G, .slice A1G g1.length c1G, .slice A2G g2.length c2G, .int .i64 g3] 29 (0, 0)) := (by rw [hw]; exact (blk_put (cs := #[.slice A0G g0.length c0G, .slice A1G g1.length c1G, .slice A2G g2.length c2G, .int .i64 0]) (blk_put (cs := #[.slice A0G g0.length c0G, .slice A1G g1.length c1G, .slice none 0 0, .int .i64 0]) (blk_put (cs := #[.slice A0G g0.length c0G, .slice none 0 0, .slice none 0 0, .int .i64 0]) (blk_put (cs := #[.slice none 0 0, .slice none 0 0, .slice none 0 0, .int .i64 0]) HBX.out 0 _ rfl) 1 _ rfl) 2 _ rfl) 3 _ rfl)); clear hw; have G := Aside0.mk (laws_FnExactSettle.MV.made HS_.out H1_.out H2_.out HP_.out HC_.out hb3 HG.out hx3); clear z0 z1 z2 z3 f0 f1 f2 f3 HS_ H1_ H2_ HP_ HC_ HBX HG HBL hx3; have n_V := Aside0.mk (V.out.below hb3); have n_X2 := Aside0.mk (X2.out.below hb3); have n_Y2 := Aside0.mk (Y2.out.below hb3); clear V X2 Y2; have V := n_V; have X2 := n_X2; have Y2 := n_Y2; clear n_V n_X2 n_Y2; (try clear zV0 zV1 zV2 zV3); have zV0 : w44.cell? ⟨gV, 0, none⟩ = some (.slice A0V v0.length c0V) := (blk_cell V.out.bx 0).trans rfl; have zV1 : w44.cell? ⟨gV, 1, none⟩ = some (.slice A1V v1.length c1V) := (blk_cell V.out.bx 1).trans rfl; have zV2 : w44.cell? ⟨gV, 2, none⟩ = some (.slice A2V v2.length c2V) := (blk_cell V.out.bx 2).trans rfl; have zV3 : w44.cell? ⟨gV, 3, none⟩ = some (.int .i64 v3) := (blk_cell V.out.bx 3).trans rfl; have n_B := Aside0.mk (below_step HB.out hb3); clear HB; have HB := n_B; clear n_B; clear hb3; (try clear zG0 zG1 zG2 zG3); have zG0 : w44.cell? ⟨gG, 0, none⟩ = some (.slice A0G g0.length c0G) := (blk_cell G.out.bx 0).trans rfl; have zG1 : w44.cell? ⟨gG, 1, none⟩ = some (.slice A1G g1.length c1G) := (blk_cell G.out.bx 1).trans rfl; have zG2 : w44.cell? ⟨gG, 2, none⟩ = some (.slice A2G g2.length c2G) := (blk_cell G.out.bx 2).trans rfl; have zG3 : w44.cell? ⟨gG, 3, none⟩ = some (.int .i64 g3) := (blk_cell G.out.bx 3).trans rfl))
  (try simp only [Act.put, List.setIfInBounds_toArray, List.set_cons_zero, List.set_cons_succ])
  go_upto_region 14 with (first | (go_at_call 10; (with_reducible refine (laws_eqMatch.calls k _ _ g0 _ _ g1 _ _ g2 g3 _ _ v0 _ _ v1 _ _ v2 v3 true _ ?s1 ?s2 ?s3 ?s4 ?s5 ?s6 ?s7 ?s8 ?s9 ?s10 ?s11 ?s12 AE.out).mono ?_); (case s1 => exact (Kd.S_reads' G.out.s).2.2); (case s2 => exact (Kd.S_reads' G.out.s).2.1); (case s3 => exact (Kd.R_reads' G.out.r1).2.2); (case s4 => exact (Kd.R_reads' G.out.r1).2.1); (case s5 => exact (Kd.R_reads' G.out.r2).2.2); (case s6 => exact (Kd.R_reads' G.out.r2).2.1); (case s7 => exact (Kd.S_reads' V.out.s).2.2); (case s8 => exact (Kd.S_reads' V.out.s).2.1); (case s9 => exact (Kd.R_reads' V.out.r1).2.2); (case s10 => exact (Kd.R_reads' V.out.r1).2.1); (case s11 => exact (Kd.R_reads' V.out.r2).2.2); (case s12 => exact (Kd.R_reads' V.out.r2).2.1); rintro e w48 ⟨rfl, hb⟩; have n_V := Aside0.mk (V.out.below hb); have n_X2 := Aside0.mk (X2.out.below hb); have n_Y2 := Aside0.mk (Y2.out.below hb); have n_G := Aside0.mk (G.out.below hb); clear V X2 Y2 G; have V := n_V; have X2 := n_X2; have Y2 := n_Y2; have G := n_G; clear n_V n_X2 n_Y2 n_G; (try clear zV0 zV1 zV2 zV3); have zV0 : w48.cell? ⟨gV, 0, none⟩ = some (.slice A0V v0.length c0V) := (blk_cell V.out.bx 0).trans rfl; have zV1 : w48.cell? ⟨gV, 1, none⟩ = some (.slice A1V v1.length c1V) := (blk_cell V.out.bx 1).trans rfl; have zV2 : w48.cell? ⟨gV, 2, none⟩ = some (.slice A2V v2.length c2V) := (blk_cell V.out.bx 2).trans rfl; have zV3 : w48.cell? ⟨gV, 3, none⟩ = some (.int .i64 v3) := (blk_cell V.out.bx 3).trans rfl; (try clear zG0 zG1 zG2 zG3); have zG0 : w48.cell? ⟨gG, 0, none⟩ = some (.slice A0G g0.length c0G) := (blk_cell G.out.bx 0).trans rfl; have zG1 : w48.cell? ⟨gG, 1, none⟩ = some (.slice A1G g1.length c1G) := (blk_cell G.out.bx 1).trans rfl; have zG2 : w48.cell? ⟨gG, 2, none⟩ = some (.slice A2G g2.length c2G) := (blk_cell G.out.bx 2).trans rfl; have zG3 : w48.cell? ⟨gG, 3, none⟩ = some (.int .i64 g3) := (blk_cell G.out.bx 3).trans rfl; have n_B := Aside0.mk (below_step HB.out hb); clear HB; have HB := n_B; clear n_B; clear hb))
  (try simp only [Act.put, List.setIfInBounds_toArray, List.set_cons_zero, List.set_cons_succ])
  go_upto_region 16 with (first | (go_at_call 9; (with_reducible refine (laws_toSettledS.calls k _ _ l0 x_ _ ?s1 ?s2 AX.out).mono ?_); (case s1 => exact (Kd.C_below HR0.out HB.out)); (case s2 => exact HC0.out); rintro e w56 ⟨vX3, rfl, hr, hb⟩; have X3 := Aside0.mk (laws_FnExactSettle.XV.made hr HB.out); have SZX3 := Aside0.mk hb.size; have n_V := Aside0.mk (V.out.below hb); have n_X2 := Aside0.mk (X2.out.below hb); have n_Y2 := Aside0.mk (Y2.out.below hb); have n_G := Aside0.mk (G.out.below hb); clear V X2 Y2 G; have V := n_V; have X2 := n_X2; have Y2 := n_Y2; have G := n_G; clear n_V n_X2 n_Y2 n_G; (try clear zV0 zV1 zV2 zV3); have zV0 : w56.cell? ⟨gV, 0, none⟩ = some (.slice A0V v0.length c0V) := (blk_cell V.out.bx 0).trans rfl; have zV1 : w56.cell? ⟨gV, 1, none⟩ = some (.slice A1V v1.length c1V) := (blk_cell V.out.bx 1).trans rfl; have zV2 : w56.cell? ⟨gV, 2, none⟩ = some (.slice A2V v2.length c2V) := (blk_cell V.out.bx 2).trans rfl; have zV3 : w56.cell? ⟨gV, 3, none⟩ = some (.int .i64 v3) := (blk_cell V.out.bx 3).trans rfl; (try clear zG0 zG1 zG2 zG3); have zG0 : w56.cell? ⟨gG, 0, none⟩ = some (.slice A0G g0.length c0G) := (blk_cell G.out.bx 0).trans rfl; have zG1 : w56.cell? ⟨gG, 1, none⟩ = some (.slice A1G g1.length c1G) := (blk_cell G.out.bx 1).trans rfl; have zG2 : w56.cell? ⟨gG, 2, none⟩ = some (.slice A2G g2.length c2G) := (blk_cell G.out.bx 2).trans rfl; have zG3 : w56.cell? ⟨gG, 3, none⟩ = some (.int .i64 g3) := (blk_cell G.out.bx 3).trans rfl; have n_B := Aside0.mk (below_step HB.out hb); clear HB; have HB := n_B; clear n_B; obtain ⟨AX3, cX3, eX3⟩ := Kd.R_slice X3.out.2; subst eX3; clear hr hb) | (go_at_call 11; (with_reducible refine (laws_eqSettledS.calls k _ _ x_ _ _ x_ true _ ?s1 ?s2 ?s3 ?s4 AEX.out).mono ?_); (case s1 => exact (Kd.R_reads' X2.out.2).2.2); (case s2 => exact (Kd.R_reads' X2.out.2).2.1); (case s3 => exact (Kd.R_reads' X3.out.2).2.2); (case s4 => exact (Kd.R_reads' X3.out.2).2.1); rintro e w57 ⟨rfl, hb⟩; have n_V := Aside0.mk (V.out.below hb); have n_X2 := Aside0.mk (X2.out.below hb); have n_Y2 := Aside0.mk (Y2.out.below hb); have n_G := Aside0.mk (G.out.below hb); have n_X3 := Aside0.mk (X3.out.below hb); clear V X2 Y2 G X3; have V := n_V; have X2 := n_X2; have Y2 := n_Y2; have G := n_G; have X3 := n_X3; clear n_V n_X2 n_Y2 n_G n_X3; (try clear zV0 zV1 zV2 zV3); have zV0 : w57.cell? ⟨gV, 0, none⟩ = some (.slice A0V v0.length c0V) := (blk_cell V.out.bx 0).trans rfl; have zV1 : w57.cell? ⟨gV, 1, none⟩ = some (.slice A1V v1.length c1V) := (blk_cell V.out.bx 1).trans rfl; have zV2 : w57.cell? ⟨gV, 2, none⟩ = some (.slice A2V v2.length c2V) := (blk_cell V.out.bx 2).trans rfl; have zV3 : w57.cell? ⟨gV, 3, none⟩ = some (.int .i64 v3) := (blk_cell V.out.bx 3).trans rfl; (try clear zG0 zG1 zG2 zG3); have zG0 : w57.cell? ⟨gG, 0, none⟩ = some (.slice A0G g0.length c0G) := (blk_cell G.out.bx 0).trans rfl; have zG1 : w57.cell? ⟨gG, 1, none⟩ = some (.slice A1G g1.length c1G) := (blk_cell G.out.bx 1).trans rfl; have zG2 : w57.cell? ⟨gG, 2, none⟩ = some (.slice A2G g2.length c2G) := (blk_cell G.out.bx 2).trans rfl; have zG3 : w57.cell? ⟨gG, 3, none⟩ = some (.int .i64 g3) := (blk_cell G.out.bx 3).trans rfl; have n_B := Aside0.mk (below_step HB.out hb); clear HB; have HB := n_B; clear n_B; clear hb))
  (try simp only [Act.put, List.setIfInBounds_toArray, List.set_cons_zero, List.set_cons_succ])
  clear X3
  go_upto_region 18 with (first | (go_at_call 9; (with_reducible refine (laws_toSettledS.calls k _ _ l1 y_ _ ?s1 ?s2 AY.out).mono ?_); (case s1 => exact (Kd.C_below HR1.out HB.out)); (case s2 => exact HC1.out); rintro e w61 ⟨vY3, rfl, hr, hb⟩; have Y3 := Aside0.mk (laws_FnExactSettle.XV.made hr HB.out); have SZY3 := Aside0.mk hb.size; have n_V := Aside0.mk (V.out.below hb); have n_X2 := Aside0.mk (X2.out.below hb); have n_Y2 := Aside0.mk (Y2.out.below hb); have n_G := Aside0.mk (G.out.below hb); clear V X2 Y2 G; have V := n_V; have X2 := n_X2; have Y2 := n_Y2; have G := n_G; clear n_V n_X2 n_Y2 n_G; (try clear zV0 zV1 zV2 zV3); have zV0 : w61.cell? ⟨gV, 0, none⟩ = some (.slice A0V v0.length c0V) := (blk_cell V.out.bx 0).trans rfl; have zV1 : w61.cell? ⟨gV, 1, none⟩ = some (.slice A1V v1.length c1V) := (blk_cell V.out.bx 1).trans rfl; have zV2 : w61.cell? ⟨gV, 2, none⟩ = some (.slice A2V v2.length c2V) := (blk_cell V.out.bx 2).trans rfl; have zV3 : w61.cell? ⟨gV, 3, none⟩ = some (.int .i64 v3) := (blk_cell V.out.bx 3).trans rfl; (try clear zG0 zG1 zG2 zG3); have zG0 : w61.cell? ⟨gG, 0, none⟩ = some (.slice A0G g0.length c0G) := (blk_cell G.out.bx 0).trans rfl; have zG1 : w61.cell? ⟨gG, 1, none⟩ = some (.slice A1G g1.length c1G) := (blk_cell G.out.bx 1).trans rfl; have zG2 : w61.cell? ⟨gG, 2, none⟩ = some (.slice A2G g2.length c2G) := (blk_cell G.out.bx 2).trans rfl; have zG3 : w61.cell? ⟨gG, 3, none⟩ = some (.int .i64 g3) := (blk_cell G.out.bx 3).trans rfl; have n_B := Aside0.mk (below_step HB.out hb); clear HB; have HB := n_B; clear n_B; obtain ⟨AY3, cY3, eY3⟩ := Kd.R_slice Y3.out.2; subst eY3; clear hr hb) | (go_at_call 11; (with_reducible refine (laws_eqSettledS.calls k _ _ y_ _ _ y_ true _ ?s1 ?s2 ?s3 ?s4 AEY.out).mono ?_); (case s1 => exact (Kd.R_reads' Y2.out.2).2.2); (case s2 => exact (Kd.R_reads' Y2.out.2).2.1); (case s3 => exact (Kd.R_reads' Y3.out.2).2.2); (case s4 => exact (Kd.R_reads' Y3.out.2).2.1); rintro e w62 ⟨rfl, hb⟩; have n_V := Aside0.mk (V.out.below hb); have n_X2 := Aside0.mk (X2.out.below hb); have n_Y2 := Aside0.mk (Y2.out.below hb); have n_G := Aside0.mk (G.out.below hb); have n_Y3 := Aside0.mk (Y3.out.below hb); clear V X2 Y2 G Y3; have V := n_V; have X2 := n_X2; have Y2 := n_Y2; have G := n_G; have Y3 := n_Y3; clear n_V n_X2 n_Y2 n_G n_Y3; (try clear zV0 zV1 zV2 zV3); have zV0 : w62.cell? ⟨gV, 0, none⟩ = some (.slice A0V v0.length c0V) := (blk_cell V.out.bx 0).trans rfl; have zV1 : w62.cell? ⟨gV, 1, none⟩ = some (.slice A1V v1.length c1V) := (blk_cell V.out.bx 1).trans rfl; have zV2 : w62.cell? ⟨gV, 2, none⟩ = some (.slice A2V v2.length c2V) := (blk_cell V.out.bx 2).trans rfl; have zV3 : w62.cell? ⟨gV, 3, none⟩ = some (.int .i64 v3) := (blk_cell V.out.bx 3).trans rfl; (try clear zG0 zG1 zG2 zG3); have zG0 : w62.cell? ⟨gG, 0, none⟩ = some (.slice A0G g0.length c0G) := (blk_cell G.out.bx 0).trans rfl; have zG1 : w62.cell? ⟨gG, 1, none⟩ = some (.slice A1G g1.length c1G) := (blk_cell G.out.bx 1).trans rfl; have zG2 : w62.cell? ⟨gG, 2, none⟩ = some (.slice A2G g2.length c2G) := (blk_cell G.out.bx 2).trans rfl; have zG3 : w62.cell? ⟨gG, 3, none⟩ = some (.int .i64 g3) := (blk_cell G.out.bx 3).trans rfl; have n_B := Aside0.mk (below_step HB.out hb); clear HB; have HB := n_B; clear n_B; clear hb))
  (try simp only [Act.put, List.setIfInBounds_toArray, List.set_cons_zero, List.set_cons_succ])
  clear Y3
  go_upto_region 20 with (first | (go_at_call 12; refine (laws_markSettledS.calls k (fun k_ => some k_ = (Value.slice AX2 x_.length cX2).ownBlock) _ x_ 1 m1 m2 w _ HB.out (Kd.R_tight rfl X2.out.2) AM.out).mono ?_; rintro e w66 ⟨rfl, hy, hb, hk⟩; have n_V := Aside0.mk (V.out.kept hk (fun k_ a_ b_ e_ => by have h_ := X2.out.2.1 k_ e_.symm; have := OV.out; have := SZX2.out; have := SZY2.out; omega)); have n_Y2 := Aside0.mk (Y2.out.kept hk (fun k_ a_ b_ e_ => by have h_ := X2.out.2.1 k_ e_.symm; have := OV.out; have := SZX2.out; have := SZY2.out; omega)); have n_G := Aside0.mk (G.out.kept hk (fun k_ a_ b_ e_ => by have h_ := X2.out.2.1 k_ e_.symm; have := OV.out; have := SZX2.out; have := SZY2.out; omega)); clear V Y2 G; have V := n_V; have Y2 := n_Y2; have G := n_G; clear n_V n_Y2 n_G; (try clear zV0 zV1 zV2 zV3); have zV0 : w66.cell? ⟨gV, 0, none⟩ = some (.slice A0V v0.length c0V) := (blk_cell V.out.bx 0).trans rfl; have zV1 : w66.cell? ⟨gV, 1, none⟩ = some (.slice A1V v1.length c1V) := (blk_cell V.out.bx 1).trans rfl; have zV2 : w66.cell? ⟨gV, 2, none⟩ = some (.slice A2V v2.length c2V) := (blk_cell V.out.bx 2).trans rfl; have zV3 : w66.cell? ⟨gV, 3, none⟩ = some (.int .i64 v3) := (blk_cell V.out.bx 3).trans rfl; (try clear zG0 zG1 zG2 zG3); have zG0 : w66.cell? ⟨gG, 0, none⟩ = some (.slice A0G g0.length c0G) := (blk_cell G.out.bx 0).trans rfl; have zG1 : w66.cell? ⟨gG, 1, none⟩ = some (.slice A1G g1.length c1G) := (blk_cell G.out.bx 1).trans rfl; have zG2 : w66.cell? ⟨gG, 2, none⟩ = some (.slice A2G g2.length c2G) := (blk_cell G.out.bx 2).trans rfl; have zG3 : w66.cell? ⟨gG, 3, none⟩ = some (.int .i64 g3) := (blk_cell G.out.bx 3).trans rfl; clear HB; have HB := Aside0.mk hb; clear hy hb hk X2))
  (try simp only [Act.put, List.setIfInBounds_toArray, List.set_cons_zero, List.set_cons_succ])
  go_upto_region 21 with (first | (go_at_call 12; refine (laws_markSettledS.calls k (fun k_ => some k_ = (Value.slice AY2 y_.length cY2).ownBlock) _ y_ m1 n1 n2 w _ HB.out (Kd.R_tight rfl Y2.out.2) AN.out).mono ?_; rintro e w69 ⟨rfl, hy, hb, hk⟩; have n_V := Aside0.mk (V.out.kept hk (fun k_ a_ b_ e_ => by have h_ := Y2.out.2.1 k_ e_.symm; have := OV.out; have := SZX2.out; have := SZY2.out; omega)); have n_G := Aside0.mk (G.out.kept hk (fun k_ a_ b_ e_ => by have h_ := Y2.out.2.1 k_ e_.symm; have := OV.out; have := SZX2.out; have := SZY2.out; omega)); clear V G; have V := n_V; have G := n_G; clear n_V n_G; (try clear zV0 zV1 zV2 zV3); have zV0 : w69.cell? ⟨gV, 0, none⟩ = some (.slice A0V v0.length c0V) := (blk_cell V.out.bx 0).trans rfl; have zV1 : w69.cell? ⟨gV, 1, none⟩ = some (.slice A1V v1.length c1V) := (blk_cell V.out.bx 1).trans rfl; have zV2 : w69.cell? ⟨gV, 2, none⟩ = some (.slice A2V v2.length c2V) := (blk_cell V.out.bx 2).trans rfl; have zV3 : w69.cell? ⟨gV, 3, none⟩ = some (.int .i64 v3) := (blk_cell V.out.bx 3).trans rfl; (try clear zG0 zG1 zG2 zG3); have zG0 : w69.cell? ⟨gG, 0, none⟩ = some (.slice A0G g0.length c0G) := (blk_cell G.out.bx 0).trans rfl; have zG1 : w69.cell? ⟨gG, 1, none⟩ = some (.slice A1G g1.length c1G) := (blk_cell G.out.bx 1).trans rfl; have zG2 : w69.cell? ⟨gG, 2, none⟩ = some (.slice A2G g2.length c2G) := (blk_cell G.out.bx 2).trans rfl; have zG3 : w69.cell? ⟨gG, 3, none⟩ = some (.int .i64 g3) := (blk_cell G.out.bx 3).trans rfl; clear HB; have HB := Aside0.mk hb; clear hy hb hk Y2))
  (try simp only [Act.put, List.setIfInBounds_toArray, List.set_cons_zero, List.set_cons_succ])
  go_upto_region 24 with (first | (go_at_call 10; (with_reducible refine (laws_eqMatch.calls k _ _ g0 _ _ g1 _ _ g2 g3 _ _ v0 _ _ v1 _ _ v2 v3 true _ ?s1 ?s2 ?s3 ?s4 ?s5 ?s6 ?s7 ?s8 ?s9 ?s10 ?s11 ?s12 AE.out).mono ?_); (case s1 => exact (Kd.S_reads' G.out.s).2.2); (case s2 => exact (Kd.S_reads' G.out.s).2.1); (case s3 => exact (Kd.R_reads' G.out.r1).2.2); (case s4 => exact (Kd.R_reads' G.out.r1).2.1); (case s5 => exact (Kd.R_reads' G.out.r2).2.2); (case s6 => exact (Kd.R_reads' G.out.r2).2.1); (case s7 => exact (Kd.S_reads' V.out.s).2.2); (case s8 => exact (Kd.S_reads' V.out.s).2.1); (case s9 => exact (Kd.R_reads' V.out.r1).2.2); (case s10 => exact (Kd.R_reads' V.out.r1).2.1); (case s11 => exact (Kd.R_reads' V.out.r2).2.2); (case s12 => exact (Kd.R_reads' V.out.r2).2.1); rintro e w75 ⟨rfl, hb⟩; have n_V := Aside0.mk (V.out.below hb); have n_G := Aside0.mk (G.out.below hb); clear V G; have V := n_V; have G := n_G; clear n_V n_G; (try clear zV0 zV1 zV2 zV3); have zV0 : w75.cell? ⟨gV, 0, none⟩ = some (.slice A0V v0.length c0V) := (blk_cell V.out.bx 0).trans rfl; have zV1 : w75.cell? ⟨gV, 1, none⟩ = some (.slice A1V v1.length c1V) := (blk_cell V.out.bx 1).trans rfl; have zV2 : w75.cell? ⟨gV, 2, none⟩ = some (.slice A2V v2.length c2V) := (blk_cell V.out.bx 2).trans rfl; have zV3 : w75.cell? ⟨gV, 3, none⟩ = some (.int .i64 v3) := (blk_cell V.out.bx 3).trans rfl; (try clear zG0 zG1 zG2 zG3); have zG0 : w75.cell? ⟨gG, 0, none⟩ = some (.slice A0G g0.length c0G) := (blk_cell G.out.bx 0).trans rfl; have zG1 : w75.cell? ⟨gG, 1, none⟩ = some (.slice A1G g1.length c1G) := (blk_cell G.out.bx 1).trans rfl; have zG2 : w75.cell? ⟨gG, 2, none⟩ = some (.slice A2G g2.length c2G) := (blk_cell G.out.bx 2).trans rfl; have zG3 : w75.cell? ⟨gG, 3, none⟩ = some (.int .i64 g3) := (blk_cell G.out.bx 3).trans rfl; have n_B := Aside0.mk (below_step HB.out hb); clear HB; have HB := n_B; clear n_B; clear hb))
  (try simp only [Act.put, List.setIfInBounds_toArray, List.set_cons_zero, List.set_cons_succ])
  go_upto_region 26 with (first | (go_at_call 13; refine (laws_FnExactSettle.mm_calls k 1 q_ p2 p3 p4 HB.out G.out AP.out).mono ?_; rintro e w85 ⟨rfl, hm, hb, hk⟩; have hl0 := (Kd.S_reads' hm.s).1; have hl1 := (Kd.R_reads' hm.r1).1; have hl2 := (Kd.R_reads' hm.r2).1; rw [hl0, hl1, hl2] at hm; have G2 := Aside0.mk hm; have n_V := Aside0.mk (V.out.kept hk (fun k_ a_ b_ e_ => by have := OV.out; have := SZX2.out; have := SZY2.out; omega)); clear V; have V := n_V; clear n_V; clear HB; have HB := Aside0.mk hb; clear hm hb hk hl0 hl1 hl2 G zG0 zG1 zG2 zG3; have G := G2; clear G2; (try clear zV0 zV1 zV2 zV3); have zV0 : w85.cell? ⟨gV, 0, none⟩ = some (.slice A0V v0.length c0V) := (blk_cell V.out.bx 0).trans rfl; have zV1 : w85.cell? ⟨gV, 1, none⟩ = some (.slice A1V v1.length c1V) := (blk_cell V.out.bx 1).trans rfl; have zV2 : w85.cell? ⟨gV, 2, none⟩ = some (.slice A2V v2.length c2V) := (blk_cell V.out.bx 2).trans rfl; have zV3 : w85.cell? ⟨gV, 3, none⟩ = some (.int .i64 v3) := (blk_cell V.out.bx 3).trans rfl; (try clear zG0 zG1 zG2 zG3); have zG0 : w85.cell? ⟨gG, 0, none⟩ = some (.slice A0G p2.length c0G) := (blk_cell G.out.bx 0).trans rfl; have zG1 : w85.cell? ⟨gG, 1, none⟩ = some (.slice A1G p3.length c1G) := (blk_cell G.out.bx 1).trans rfl; have zG2 : w85.cell? ⟨gG, 2, none⟩ = some (.slice A2G p4.length c2G) := (blk_cell G.out.bx 2).trans rfl; have zG3 : w85.cell? ⟨gG, 3, none⟩ = some (.int .i64 g3) := (blk_cell G.out.bx 3).trans rfl))
  (try simp only [Act.put, List.setIfInBounds_toArray, List.set_cons_zero, List.set_cons_succ])
  go_upto_region 31 with (first | (go_at_call 14; (with_reducible refine (laws_heldMatch.calls k _ _ p2 _ _ p3 _ _ p4 g3 1 q_ _ ?s1 ?s2 ?s3 ?s4 ?s5 ?s6 AQ.out).mono ?_); (case s1 => exact (Kd.S_reads' G.out.s).2.2); (case s2 => exact (Kd.S_reads' G.out.s).2.1); (case s3 => exact (Kd.R_reads' G.out.r1).2.2); (case s4 => exact (Kd.R_reads' G.out.r1).2.1); (case s5 => exact (Kd.R_reads' G.out.r2).2.2); (case s6 => exact (Kd.R_reads' G.out.r2).2.1); rintro e w88 ⟨rfl, hb⟩; have n_V := Aside0.mk (V.out.below hb); have n_G := Aside0.mk (G.out.below hb); clear V G; have V := n_V; have G := n_G; clear n_V n_G; (try clear zV0 zV1 zV2 zV3); have zV0 : w88.cell? ⟨gV, 0, none⟩ = some (.slice A0V v0.length c0V) := (blk_cell V.out.bx 0).trans rfl; have zV1 : w88.cell? ⟨gV, 1, none⟩ = some (.slice A1V v1.length c1V) := (blk_cell V.out.bx 1).trans rfl; have zV2 : w88.cell? ⟨gV, 2, none⟩ = some (.slice A2V v2.length c2V) := (blk_cell V.out.bx 2).trans rfl; have zV3 : w88.cell? ⟨gV, 3, none⟩ = some (.int .i64 v3) := (blk_cell V.out.bx 3).trans rfl; (try clear zG0 zG1 zG2 zG3); have zG0 : w88.cell? ⟨gG, 0, none⟩ = some (.slice A0G p2.length c0G) := (blk_cell G.out.bx 0).trans rfl; have zG1 : w88.cell? ⟨gG, 1, none⟩ = some (.slice A1G p3.length c1G) := (blk_cell G.out.bx 1).trans rfl; have zG2 : w88.cell? ⟨gG, 2, none⟩ = some (.slice A2G p4.length c2G) := (blk_cell G.out.bx 2).trans rfl; have zG3 : w88.cell? ⟨gG, 3, none⟩ = some (.int .i64 g3) := (blk_cell G.out.bx 3).trans rfl; have n_B := Aside0.mk (below_step HB.out hb); clear HB; have HB := n_B; clear n_B; clear hb))
  (try simp only [Act.put, List.setIfInBounds_toArray, List.set_cons_zero, List.set_cons_succ])
  go_upto_region 32 with (first | (go_at_call 9; (with_reducible refine (laws_toSettledS.calls k _ _ l0 x_ _ ?s1 ?s2 AX.out).mono ?_); (case s1 => exact (Kd.C_below HR0.out HB.out)); (case s2 => exact HC0.out); rintro e w96 ⟨vX4, rfl, hr, hb⟩; have X4 := Aside0.mk (laws_FnExactSettle.XV.made hr HB.out); have SZX4 := Aside0.mk hb.size; have n_V := Aside0.mk (V.out.below hb); have n_G := Aside0.mk (G.out.below hb); clear V G; have V := n_V; have G := n_G; clear n_V n_G; (try clear zV0 zV1 zV2 zV3); have zV0 : w96.cell? ⟨gV, 0, none⟩ = some (.slice A0V v0.length c0V) := (blk_cell V.out.bx 0).trans rfl; have zV1 : w96.cell? ⟨gV, 1, none⟩ = some (.slice A1V v1.length c1V) := (blk_cell V.out.bx 1).trans rfl; have zV2 : w96.cell? ⟨gV, 2, none⟩ = some (.slice A2V v2.length c2V) := (blk_cell V.out.bx 2).trans rfl; have zV3 : w96.cell? ⟨gV, 3, none⟩ = some (.int .i64 v3) := (blk_cell V.out.bx 3).trans rfl; (try clear zG0 zG1 zG2 zG3); have zG0 : w96.cell? ⟨gG, 0, none⟩ = some (.slice A0G p2.length c0G) := (blk_cell G.out.bx 0).trans rfl; have zG1 : w96.cell? ⟨gG, 1, none⟩ = some (.slice A1G p3.length c1G) := (blk_cell G.out.bx 1).trans rfl; have zG2 : w96.cell? ⟨gG, 2, none⟩ = some (.slice A2G p4.length c2G) := (blk_cell G.out.bx 2).trans rfl; have zG3 : w96.cell? ⟨gG, 3, none⟩ = some (.int .i64 g3) := (blk_cell G.out.bx 3).trans rfl; have n_B := Aside0.mk (below_step HB.out hb); clear HB; have HB := n_B; clear n_B; obtain ⟨AX4, cX4, eX4⟩ := Kd.R_slice X4.out.2; subst eX4; clear hr hb) | (go_at_call 9; (with_reducible refine (laws_toSettledS.calls k _ _ l1 y_ _ ?s1 ?s2 AY.out).mono ?_); (case s1 => exact (Kd.C_below HR1.out HB.out)); (case s2 => exact HC1.out); rintro e w98 ⟨vY4, rfl, hr, hb⟩; have Y4 := Aside0.mk (laws_FnExactSettle.XV.made hr HB.out); have SZY4 := Aside0.mk hb.size; have n_V := Aside0.mk (V.out.below hb); have n_G := Aside0.mk (G.out.below hb); have n_X4 := Aside0.mk (X4.out.below hb); clear V G X4; have V := n_V; have G := n_G; have X4 := n_X4; clear n_V n_G n_X4; (try clear zV0 zV1 zV2 zV3); have zV0 : w98.cell? ⟨gV, 0, none⟩ = some (.slice A0V v0.length c0V) := (blk_cell V.out.bx 0).trans rfl; have zV1 : w98.cell? ⟨gV, 1, none⟩ = some (.slice A1V v1.length c1V) := (blk_cell V.out.bx 1).trans rfl; have zV2 : w98.cell? ⟨gV, 2, none⟩ = some (.slice A2V v2.length c2V) := (blk_cell V.out.bx 2).trans rfl; have zV3 : w98.cell? ⟨gV, 3, none⟩ = some (.int .i64 v3) := (blk_cell V.out.bx 3).trans rfl; (try clear zG0 zG1 zG2 zG3); have zG0 : w98.cell? ⟨gG, 0, none⟩ = some (.slice A0G p2.length c0G) := (blk_cell G.out.bx 0).trans rfl; have zG1 : w98.cell? ⟨gG, 1, none⟩ = some (.slice A1G p3.length c1G) := (blk_cell G.out.bx 1).trans rfl; have zG2 : w98.cell? ⟨gG, 2, none⟩ = some (.slice A2G p4.length c2G) := (blk_cell G.out.bx 2).trans rfl; have zG3 : w98.cell? ⟨gG, 3, none⟩ = some (.int .i64 g3) := (blk_cell G.out.bx 3).trans rfl; have n_B := Aside0.mk (below_step HB.out hb); clear HB; have HB := n_B; clear n_B; obtain ⟨AY4, cY4, eY4⟩ := Kd.R_slice Y4.out.2; subst eY4; clear hr hb) | (go_at_call 6; (with_reducible refine (impl_Settle.calls k _ _ x_ _ _ y_ g0 g1 g2 g3 g4 _ ?s1 ?s2 ?s3 ?s4 AG.out).mono ?_); (case s1 => exact (Kd.R_reads' X4.out.2).2.2); (case s2 => exact (Kd.R_reads' X4.out.2).2.1); (case s3 => exact (Kd.R_reads' Y4.out.2).2.2); (case s4 => exact (Kd.R_reads' Y4.out.2).2.1); rintro e w99 ⟨u0H, u1H, u2H, rfl, h0, h1, h2, hb⟩; have HS_ := Aside0.mk h0; have H1_ := Aside0.mk h1; have H2_ := Aside0.mk h2; have HP_ := HB; have HC_ := Aside0.mk hb; have n_V := Aside0.mk (V.out.below hb); have n_G := Aside0.mk (G.out.below hb); have n_X4 := Aside0.mk (X4.out.below hb); have n_Y4 := Aside0.mk (Y4.out.below hb); clear V G X4 Y4; have V := n_V; have G := n_G; have X4 := n_X4; have Y4 := n_Y4; clear n_V n_G n_X4 n_Y4; (try clear zV0 zV1 zV2 zV3); have zV0 : w99.cell? ⟨gV, 0, none⟩ = some (.slice A0V v0.length c0V) := (blk_cell V.out.bx 0).trans rfl; have zV1 : w99.cell? ⟨gV, 1, none⟩ = some (.slice A1V v1.length c1V) := (blk_cell V.out.bx 1).trans rfl; have zV2 : w99.cell? ⟨gV, 2, none⟩ = some (.slice A2V v2.length c2V) := (blk_cell V.out.bx 2).trans rfl; have zV3 : w99.cell? ⟨gV, 3, none⟩ = some (.int .i64 v3) := (blk_cell V.out.bx 3).trans rfl; (try clear zG0 zG1 zG2 zG3); have zG0 : w99.cell? ⟨gG, 0, none⟩ = some (.slice A0G p2.length c0G) := (blk_cell G.out.bx 0).trans rfl; have zG1 : w99.cell? ⟨gG, 1, none⟩ = some (.slice A1G p3.length c1G) := (blk_cell G.out.bx 1).trans rfl; have zG2 : w99.cell? ⟨gG, 2, none⟩ = some (.slice A2G p4.length c2G) := (blk_cell G.out.bx 2).trans rfl; have zG3 : w99.cell? ⟨gG, 3, none⟩ = some (.int .i64 g3) := (blk_cell G.out.bx 3).trans rfl; have n_B := Aside0.mk (below_step HB.out hb); clear HB; have HB := n_B; clear n_B; obtain ⟨A0H, c0H, e0_⟩ := Kd.S_slice HS_.out; obtain ⟨A1H, c1H, e1_⟩ := Kd.R_slice H1_.out; obtain ⟨A2H, c2H, e2_⟩ := Kd.R_slice H2_.out; subst e0_ e1_ e2_; clear h0 h1 h2 hb) | ((with_reducible refine gate_dst (N := 15) rfl ?_); refine box_event ?hg (N := 15) ?hd (cs := #[.slice none 0 0, .slice none 0 0, .slice none 0 0, .int .i64 0]) (t := 29) ?hr ?_; (case hd => rfl); (case hg => rfl); (case hr => first | (go_simp; done) | (go_simp; rfl)); intro gH hg w99b hbox hb; have HBX := Aside0.mk hbox; have HG := Aside0.mk (Nat.le_of_eq hg.symm); have HBL := Aside0.mk hb; clear hg hbox hb; have z0 : w99b.cell? ⟨gH, 0, none⟩ = some (.slice none 0 0) := (blk_cell HBX.out 0).trans rfl; have f0 := blk_frozen HBX.out 0; have z1 : w99b.cell? ⟨gH, 1, none⟩ = some (.slice none 0 0) := (blk_cell HBX.out 1).trans rfl; have f1 := blk_frozen HBX.out 1; have z2 : w99b.cell? ⟨gH, 2, none⟩ = some (.slice none 0 0) := (blk_cell HBX.out 2).trans rfl; have f2 := blk_frozen HBX.out 2; have z3 : w99b.cell? ⟨gH, 3, none⟩ = some (.int .i64 0) := (blk_cell HBX.out 3).trans rfl; have f3 := blk_frozen HBX.out 3) | ((with_reducible refine gate_store (t := 29) (p := 15) rfl ?_); refine store_event (t := 29) (p := 15) (v := ?vo_H) (w1 := ((((w99b.setCell ⟨gH, 0, none⟩ (.slice A0H g0.length c0H)).setCell ⟨gH, 1, none⟩ (.slice A1H g1.length c1H)).setCell ⟨gH, 2, none⟩ (.slice A2H g2.length c2H)).setCell ⟨gH, 3, none⟩ (.int .i64 g3))) ?hg ?ho ?hn ?hr ?_; (case ho => rfl); (case hg => rfl); (case hn => rfl); (case hr => first | (go_simp; done) | (go_simp; rfl)); intro w100 hw; have hb3 : Below w99.heap.size w99 w100 := (by rw [hw]; exact (below_set (below_set (below_set (below_set HBL.out HG.out) HG.out) HG.out) HG.out)); have hx3 : w100.heap[gH]? = some (.cells #[.slice A0H g0.length c0H, .slice A1H g1.length c1H, .slice A2H g2.length c2H, .int .i64 g3] 29 (0, 0)) := (by rw [hw]; exact (blk_put (cs := #[.slice A0H g0.length c0H, .slice A1H g1.length c1H, .slice A2H g2.length c2H, .int .i64 0]) (blk_put (cs := #[.slice A0H g0.length c0H, .slice A1H g1.length c1H, .slice none 0 0, .int .i64 0]) (blk_put (cs := #[.slice A0H g0.length c0H, .slice none 0 0, .slice none 0 0, .int .i64 0]) (blk_put (cs := #[.slice none 0 0, .slice none 0 0, .slice none 0 0, .int .i64 0]) HBX.out 0 _ rfl) 1 _ rfl) 2 _ rfl) 3 _ rfl)); clear hw; have H := Aside0.mk (laws_FnExactSettle.MV.made HS_.out H1_.out H2_.out HP_.out HC_.out hb3 HG.out hx3); clear z0 z1 z2 z3 f0 f1 f2 f3 HS_ H1_ H2_ HP_ HC_ HBX HG HBL hx3; have n_V := Aside0.mk (V.out.below hb3); have n_G := Aside0.mk (G.out.below hb3); have n_X4 := Aside0.mk (X4.out.below hb3); have n_Y4 := Aside0.mk (Y4.out.below hb3); clear V G X4 Y4; have V := n_V; have G := n_G; have X4 := n_X4; have Y4 := n_Y4; clear n_V n_G n_X4 n_Y4; (try clear zV0 zV1 zV2 zV3); have zV0 : w100.cell? ⟨gV, 0, none⟩ = some (.slice A0V v0.length c0V) := (blk_cell V.out.bx 0).trans rfl; have zV1 : w100.cell? ⟨gV, 1, none⟩ = some (.slice A1V v1.length c1V) := (blk_cell V.out.bx 1).trans rfl; have zV2 : w100.cell? ⟨gV, 2, none⟩ = some (.slice A2V v2.length c2V) := (blk_cell V.out.bx 2).trans rfl; have zV3 : w100.cell? ⟨gV, 3, none⟩ = some (.int .i64 v3) := (blk_cell V.out.bx 3).trans rfl; (try clear zG0 zG1 zG2 zG3); have zG0 : w100.cell? ⟨gG, 0, none⟩ = some (.slice A0G p2.length c0G) := (blk_cell G.out.bx 0).trans rfl; have zG1 : w100.cell? ⟨gG, 1, none⟩ = some (.slice A1G p3.length c1G) := (blk_cell G.out.bx 1).trans rfl; have zG2 : w100.cell? ⟨gG, 2, none⟩ = some (.slice A2G p4.length c2G) := (blk_cell G.out.bx 2).trans rfl; have zG3 : w100.cell? ⟨gG, 3, none⟩ = some (.int .i64 g3) := (blk_cell G.out.bx 3).trans rfl; have n_B := Aside0.mk (below_step HB.out hb3); clear HB; have HB := n_B; clear n_B; clear hb3; (try clear zH0 zH1 zH2 zH3); have zH0 : w100.cell? ⟨gH, 0, none⟩ = some (.slice A0H g0.length c0H) := (blk_cell H.out.bx 0).trans rfl; have zH1 : w100.cell? ⟨gH, 1, none⟩ = some (.slice A1H g1.length c1H) := (blk_cell H.out.bx 1).trans rfl; have zH2 : w100.cell? ⟨gH, 2, none⟩ = some (.slice A2H g2.length c2H) := (blk_cell H.out.bx 2).trans rfl; have zH3 : w100.cell? ⟨gH, 3, none⟩ = some (.int .i64 g3) := (blk_cell H.out.bx 3).trans rfl))
  (try simp only [Act.put, List.setIfInBounds_toArray, List.set_cons_zero, List.set_cons_succ])
  clear X4 Y4
  go_upto_region 34 with (first | (go_at_call 10; (with_reducible refine (laws_eqMatch.calls k _ _ g0 _ _ g1 _ _ g2 g3 _ _ v0 _ _ v1 _ _ v2 v3 true _ ?s1 ?s2 ?s3 ?s4 ?s5 ?s6 ?s7 ?s8 ?s9 ?s10 ?s11 ?s12 AE.out).mono ?_); (case s1 => exact (Kd.S_reads' H.out.s).2.2); (case s2 => exact (Kd.S_reads' H.out.s).2.1); (case s3 => exact (Kd.R_reads' H.out.r1).2.2); (case s4 => exact (Kd.R_reads' H.out.r1).2.1); (case s5 => exact (Kd.R_reads' H.out.r2).2.2); (case s6 => exact (Kd.R_reads' H.out.r2).2.1); (case s7 => exact (Kd.S_reads' V.out.s).2.2); (case s8 => exact (Kd.S_reads' V.out.s).2.1); (case s9 => exact (Kd.R_reads' V.out.r1).2.2); (case s10 => exact (Kd.R_reads' V.out.r1).2.1); (case s11 => exact (Kd.R_reads' V.out.r2).2.2); (case s12 => exact (Kd.R_reads' V.out.r2).2.1); rintro e w104 ⟨rfl, hb⟩; have n_V := Aside0.mk (V.out.below hb); have n_G := Aside0.mk (G.out.below hb); have n_H := Aside0.mk (H.out.below hb); clear V G H; have V := n_V; have G := n_G; have H := n_H; clear n_V n_G n_H; (try clear zV0 zV1 zV2 zV3); have zV0 : w104.cell? ⟨gV, 0, none⟩ = some (.slice A0V v0.length c0V) := (blk_cell V.out.bx 0).trans rfl; have zV1 : w104.cell? ⟨gV, 1, none⟩ = some (.slice A1V v1.length c1V) := (blk_cell V.out.bx 1).trans rfl; have zV2 : w104.cell? ⟨gV, 2, none⟩ = some (.slice A2V v2.length c2V) := (blk_cell V.out.bx 2).trans rfl; have zV3 : w104.cell? ⟨gV, 3, none⟩ = some (.int .i64 v3) := (blk_cell V.out.bx 3).trans rfl; (try clear zG0 zG1 zG2 zG3); have zG0 : w104.cell? ⟨gG, 0, none⟩ = some (.slice A0G p2.length c0G) := (blk_cell G.out.bx 0).trans rfl; have zG1 : w104.cell? ⟨gG, 1, none⟩ = some (.slice A1G p3.length c1G) := (blk_cell G.out.bx 1).trans rfl; have zG2 : w104.cell? ⟨gG, 2, none⟩ = some (.slice A2G p4.length c2G) := (blk_cell G.out.bx 2).trans rfl; have zG3 : w104.cell? ⟨gG, 3, none⟩ = some (.int .i64 g3) := (blk_cell G.out.bx 3).trans rfl; (try clear zH0 zH1 zH2 zH3); have zH0 : w104.cell? ⟨gH, 0, none⟩ = some (.slice A0H g0.length c0H) := (blk_cell H.out.bx 0).trans rfl; have zH1 : w104.cell? ⟨gH, 1, none⟩ = some (.slice A1H g1.length c1H) := (blk_cell H.out.bx 1).trans rfl; have zH2 : w104.cell? ⟨gH, 2, none⟩ = some (.slice A2H g2.length c2H) := (blk_cell H.out.bx 2).trans rfl; have zH3 : w104.cell? ⟨gH, 3, none⟩ = some (.int .i64 g3) := (blk_cell H.out.bx 3).trans rfl; have n_B := Aside0.mk (below_step HB.out hb); clear HB; have HB := n_B; clear n_B; clear hb))
  (try simp only [Act.put, List.setIfInBounds_toArray, List.set_cons_zero, List.set_cons_succ])
  go_wp2_with (first | (go_at_call 14; (with_reducible refine (laws_heldMatch.calls k _ _ p2 _ _ p3 _ _ p4 g3 1 q_ _ ?s1 ?s2 ?s3 ?s4 ?s5 ?s6 AQ.out).mono ?_); (case s1 => exact (Kd.S_reads' G.out.s).2.2); (case s2 => exact (Kd.S_reads' G.out.s).2.1); (case s3 => exact (Kd.R_reads' G.out.r1).2.2); (case s4 => exact (Kd.R_reads' G.out.r1).2.1); (case s5 => exact (Kd.R_reads' G.out.r2).2.2); (case s6 => exact (Kd.R_reads' G.out.r2).2.1); rintro e w113 ⟨rfl, hb⟩; have n_V := Aside0.mk (V.out.below hb); have n_G := Aside0.mk (G.out.below hb); have n_H := Aside0.mk (H.out.below hb); clear V G H; have V := n_V; have G := n_G; have H := n_H; clear n_V n_G n_H; (try clear zV0 zV1 zV2 zV3); have zV0 : w113.cell? ⟨gV, 0, none⟩ = some (.slice A0V v0.length c0V) := (blk_cell V.out.bx 0).trans rfl; have zV1 : w113.cell? ⟨gV, 1, none⟩ = some (.slice A1V v1.length c1V) := (blk_cell V.out.bx 1).trans rfl; have zV2 : w113.cell? ⟨gV, 2, none⟩ = some (.slice A2V v2.length c2V) := (blk_cell V.out.bx 2).trans rfl; have zV3 : w113.cell? ⟨gV, 3, none⟩ = some (.int .i64 v3) := (blk_cell V.out.bx 3).trans rfl; (try clear zG0 zG1 zG2 zG3); have zG0 : w113.cell? ⟨gG, 0, none⟩ = some (.slice A0G p2.length c0G) := (blk_cell G.out.bx 0).trans rfl; have zG1 : w113.cell? ⟨gG, 1, none⟩ = some (.slice A1G p3.length c1G) := (blk_cell G.out.bx 1).trans rfl; have zG2 : w113.cell? ⟨gG, 2, none⟩ = some (.slice A2G p4.length c2G) := (blk_cell G.out.bx 2).trans rfl; have zG3 : w113.cell? ⟨gG, 3, none⟩ = some (.int .i64 g3) := (blk_cell G.out.bx 3).trans rfl; (try clear zH0 zH1 zH2 zH3); have zH0 : w113.cell? ⟨gH, 0, none⟩ = some (.slice A0H g0.length c0H) := (blk_cell H.out.bx 0).trans rfl; have zH1 : w113.cell? ⟨gH, 1, none⟩ = some (.slice A1H g1.length c1H) := (blk_cell H.out.bx 1).trans rfl; have zH2 : w113.cell? ⟨gH, 2, none⟩ = some (.slice A2H g2.length c2H) := (blk_cell H.out.bx 2).trans rfl; have zH3 : w113.cell? ⟨gH, 3, none⟩ = some (.int .i64 g3) := (blk_cell H.out.bx 3).trans rfl; have n_B := Aside0.mk (below_step HB.out hb); clear HB; have HB := n_B; clear n_B; clear hb))
  go_ret
  exact ⟨by first | rfl | (simp; done), HB.out⟩

def wfT55 (x : S55) : Prop := (fun s_ => s_.size ≤ 9223372036854775807) x.f0 ∧ (fun n_ => (Lit.int .i64 n_).wf = true) x.f1

/-- THE ONE PURE STATEMENT of laws_FnExactSettle. -/
def laws_FnExactSettle.Pure : Prop := ∀ (l0 : List (S55)) (l1 : List (S55)), (l0.length ≤ 9223372036854775807 ∧ ∀ x ∈ l0, wfT55 x) → (l1.length ≤ 9223372036854775807 ∧ ∀ x ∈ l1, wfT55 x) → ∃ k, laws_FnExactSettle.f k l0 l1 = some true
theorem laws_FnExactSettle.walk (P : laws_FnExactSettle.Pure) (A0 : Option Addr) (c0 : Nat) (l0 : List (S55)) (A1 : Option Addr) (c1 : Nat) (l1 : List (S55)) (w : World) (hr0 : Kd.C k55 w A0 l0.length l0) (hc0 : l0.length ≤ c0) (hr1 : Kd.C k55 w A1 l1.length l1) (hc1 : l1.length ≤ c1) (hw0 : (l0.length ≤ 9223372036854775807 ∧ ∀ x ∈ l0, wfT55 x)) (hw1 : (l1.length ≤ 9223372036854775807 ∧ ∀ x ∈ l1, wfT55 x)) :
    Calls Try.prog 4 #[.slice A0 l0.length c0, .slice A1 l1.length c1] w fun e w' => e = .returned (.bool true) ∧ Below w.heap.size w w' := by
  obtain ⟨k, h⟩ := P l0 l1 hw0 hw1
  refine (laws_FnExactSettle.calls k A0 c0 l0 A1 c1 l1 true w hr0 hc0 hr1 hc1 h rfl).mono ?_
  rintro e w' ⟨rfl, hd⟩
  exact ⟨rfl, hd⟩


end Go.Proofs.Ytikbfbangjjfkaa.XFnExactSettle
