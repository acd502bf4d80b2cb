-- PRINTED by xprint.py (our own program, over the kit's print.py)
import Derived.Test.YthhdcjdlcfbkdaaXFnOrderx0
import Derived.Test.YthhdcjdlcfbkdaaXFnOrderx1
namespace Go.Proofs.Ythhdcjdlcfbkdaa.XFnOrder
open Go.RowKit Go.Proofs.YthhdcjdlcfbkdaaW.PrintWords Go.Proofs.YthhdcjdlcfbkdaaW.PrintLast Go.Proofs.YthhdcjdlcfbkdaaW.PrintMore Go.Proofs.YthhdcjdlcfbkdaaW.Idx
attribute [local go_sem] max2_int min2_int max_two min_two max_three min_three max_four min_four   -- for this text's walks alone
set_option linter.unusedVariables false
set_option linter.unusedSimpArgs false

/-! ### laws_FnOrder: function 6 -/
mutual
def laws_FnOrder.j0 : Nat → Int → Bool → Int → Bool → Int → Int → Int → Int → Int → Int → Option (Bool)
  | 0, _, _, _, _, _, _, _, _, _, _ => none
  | k + 1, x4, x5, x6, x45, x162000, x162001, x162002, x162003, x162004, x162005 => if x45 = true then (some false) else (if x6 = 14 then (if x162000 > (wrap64 (x162001 + x162002)) then (if x162003 = 0 then (none) else (some (decide ((wrap64 ((wrap64 (x162001 + x162002)) + (mx x162004 x162003))) > (wrap64 (x162005 - ((mx 0 (wrap64 (x162005 - (wrap64 (x162001 + x162002))))) % x162003))))))) else (some false)) else (if x6 = 0 then (if x162003 = 0 then (none) else (if (Int.tmod x4 x162003) = 0 then (laws_FnOrder.j1 k x4 x5 (wrap64 (x162001 + x162002)) (decide (x4 < 0)) x162000 x162001 x162002 x162003 x162004 x162005) else (laws_FnOrder.j1 k x4 x5 (wrap64 (x162001 + x162002)) true x162000 x162001 x162002 x162003 x162004 x162005))) else (laws_FnOrder.j1 k x4 x5 (wrap64 (x162001 + x162002)) true x162000 x162001 x162002 x162003 x162004 x162005)))
def laws_FnOrder.j1 : Nat → Int → Bool → Int → Bool → Int → Int → Int → Int → Int → Int → Option (Bool)
  | 0, _, _, _, _, _, _, _, _, _, _ => none
  | k + 1, x4, x5, x10, x90, x162000, x162001, x162002, x162003, x162004, x162005 => if x90 = true then (some false) else (if x4 = 0 then (if x162000 ≤ x10 then (some (!x5)) else (some false)) else (if x4 < x162004 then (laws_FnOrder.j2 k x4 x5 x10 true x162000 x162001 x162002 x162003 x162004 x162005) else (laws_FnOrder.j2 k x4 x5 x10 (decide ((wrap64 (x10 + x4)) > x162005)) x162000 x162001 x162002 x162003 x162004 x162005)))
def laws_FnOrder.j2 : Nat → Int → Bool → Int → Bool → Int → Int → Int → Int → Int → Int → Option (Bool)
  | 0, _, _, _, _, _, _, _, _, _, _ => none
  | k + 1, x4, x5, x10, x112, x162000, x162001, x162002, x162003, x162004, x162005 => if x112 = true then (some false) else (if x5 = true then (some (decide ((wrap64 ((wrap64 (x10 + x4)) + x162003)) > x162005))) else (if (wrap64 (x10 + x4)) ≥ x162000 then (if (wrap64 ((wrap64 (x10 + x4)) - x162003)) < x162000 then (some true) else (some (decide ((wrap64 (x4 - x162003)) < x162004)))) else (some false)))
end
def laws_FnOrder.f (k : Nat) (l0 : List Int) : Option (Bool) := if (l0.length : Int) > 1048576 then (some true) else ((spec_NeedOf.f l0).bind fun bt155 => ((impl_OrderFor.f bt155.1 bt155.2.1 bt155.2.2.1 bt155.2.2.2.1 bt155.2.2.2.2.1 bt155.2.2.2.2.2).bind fun bt162 => ((spec_OrderFor.f bt155.1 bt155.2.1 bt155.2.2.1 bt155.2.2.2.1 bt155.2.2.2.2.1 bt155.2.2.2.2.2).bind fun bt165 => ((impl_NeedOK.f bt155.1 bt155.2.1 bt155.2.2.1 bt155.2.2.2.1 bt155.2.2.2.2.1 bt155.2.2.2.2.2).bind fun t168 => (if t168 = true then (if bt162.2.2 = bt165.2.2 then (if bt162.1 = bt165.1 then (laws_FnOrder.j0 k bt162.1 bt162.2.1 bt162.2.2 (bt162.2.1 != bt165.2.1) bt155.1 bt155.2.1 bt155.2.2.1 bt155.2.2.2.1 bt155.2.2.2.2.1 bt155.2.2.2.2.2) else (laws_FnOrder.j0 k bt162.1 bt162.2.1 bt162.2.2 true bt155.1 bt155.2.1 bt155.2.2.1 bt155.2.2.2.1 bt155.2.2.2.2.1 bt155.2.2.2.2.2)) else (laws_FnOrder.j0 k bt162.1 bt162.2.1 bt162.2.2 true bt155.1 bt155.2.1 bt155.2.2.1 bt155.2.2.2.1 bt155.2.2.2.2.1 bt155.2.2.2.2.2)) else (laws_FnOrder.j0 k bt162.1 bt162.2.1 bt162.2.2 true bt155.1 bt155.2.1 bt155.2.2.1 bt155.2.2.2.1 bt155.2.2.2.2.1 bt155.2.2.2.2.2))))))
theorem laws_FnOrder.mono_l : ∀ k, (∀ y0 y1 y2 y3 y4 y5 y6 y7 y8 y9, LeO (laws_FnOrder.j0 k y0 y1 y2 y3 y4 y5 y6 y7 y8 y9) (laws_FnOrder.j0 (k + 1) y0 y1 y2 y3 y4 y5 y6 y7 y8 y9)) ∧ (∀ y0 y1 y2 y3 y4 y5 y6 y7 y8 y9, LeO (laws_FnOrder.j1 k y0 y1 y2 y3 y4 y5 y6 y7 y8 y9) (laws_FnOrder.j1 (k + 1) y0 y1 y2 y3 y4 y5 y6 y7 y8 y9)) ∧ (∀ y0 y1 y2 y3 y4 y5 y6 y7 y8 y9, LeO (laws_FnOrder.j2 k y0 y1 y2 y3 y4 y5 y6 y7 y8 y9) (laws_FnOrder.j2 (k + 1) y0 y1 y2 y3 y4 y5 y6 y7 y8 y9))
  | 0 => ⟨fun _ _ _ _ _ _ _ _ _ _ r h => by simp [laws_FnOrder.j0] at h, fun _ _ _ _ _ _ _ _ _ _ r h => by simp [laws_FnOrder.j1] at h, fun _ _ _ _ _ _ _ _ _ _ r h => by simp [laws_FnOrder.j2] at h⟩
  | k + 1 => by
    obtain ⟨ih0, ih1, ih2⟩ := laws_FnOrder.mono_l k
    refine ⟨?_, ?_, ?_⟩
    · intro y0 y1 y2 y3 y4 y5 y6 y7 y8 y9
      unfold laws_FnOrder.j0
      repeat' first
      | (with_reducible exact ih0 _ _ _ _ _ _ _ _ _ _)
      | (with_reducible exact ih1 _ _ _ _ _ _ _ _ _ _)
      | (with_reducible exact ih2 _ _ _ _ _ _ _ _ _ _)
      | (with_reducible exact LeO.refl _)
      | (with_reducible exact LeO.none _)
      | (with_reducible refine LeO.ite ?_ ?_)
      | (with_reducible refine LeO.bind ?_ (fun _ => ?_))
      | exact ih0 _ _ _ _ _ _ _ _ _ _
      | exact ih1 _ _ _ _ _ _ _ _ _ _
      | exact ih2 _ _ _ _ _ _ _ _ _ _
      | exact LeO.none _
      | refine LeO.ite ?_ ?_
      | refine LeO.bind ?_ (fun _ => ?_)
    · intro y0 y1 y2 y3 y4 y5 y6 y7 y8 y9
      unfold laws_FnOrder.j1
      repeat' first
      | (with_reducible exact ih0 _ _ _ _ _ _ _ _ _ _)
      | (with_reducible exact ih1 _ _ _ _ _ _ _ _ _ _)
      | (with_reducible exact ih2 _ _ _ _ _ _ _ _ _ _)
      | (with_reducible exact LeO.refl _)
      | (with_reducible exact LeO.none _)
      | (with_reducible refine LeO.ite ?_ ?_)
      | (with_reducible refine LeO.bind ?_ (fun _ => ?_))
      | exact ih0 _ _ _ _ _ _ _ _ _ _
      | exact ih1 _ _ _ _ _ _ _ _ _ _
      | exact ih2 _ _ _ _ _ _ _ _ _ _
      | exact LeO.none _
      | refine LeO.ite ?_ ?_
      | refine LeO.bind ?_ (fun _ => ?_)
    · intro y0 y1 y2 y3 y4 y5 y6 y7 y8 y9
      unfold laws_FnOrder.j2
      repeat' first
      | (with_reducible exact ih0 _ _ _ _ _ _ _ _ _ _)
      | (with_reducible exact ih1 _ _ _ _ _ _ _ _ _ _)
      | (with_reducible exact ih2 _ _ _ _ _ _ _ _ _ _)
      | (with_reducible exact LeO.refl _)
      | (with_reducible exact LeO.none _)
      | (with_reducible refine LeO.ite ?_ ?_)
      | (with_reducible refine LeO.bind ?_ (fun _ => ?_))
      | exact ih0 _ _ _ _ _ _ _ _ _ _
      | exact ih1 _ _ _ _ _ _ _ _ _ _
      | exact ih2 _ _ _ _ _ _ _ _ _ _
      | exact LeO.none _
      | refine LeO.ite ?_ ?_
      | refine LeO.bind ?_ (fun _ => ?_)
theorem laws_FnOrder.mono : ∀ a0 k, LeO (laws_FnOrder.f k a0) (laws_FnOrder.f (k + 1) a0) := by
  intro a0 k
  obtain ⟨ih0, ih1, ih2⟩ := laws_FnOrder.mono_l k
  unfold laws_FnOrder.f
  repeat' first
      | (with_reducible exact ih0 _ _ _ _ _ _ _ _ _ _)
      | (with_reducible exact ih1 _ _ _ _ _ _ _ _ _ _)
      | (with_reducible exact ih2 _ _ _ _ _ _ _ _ _ _)
      | (with_reducible exact LeO.refl _)
      | (with_reducible exact LeO.none _)
      | (with_reducible refine LeO.ite ?_ ?_)
      | (with_reducible refine LeO.bind ?_ (fun _ => ?_))
      | exact ih0 _ _ _ _ _ _ _ _ _ _
      | exact ih1 _ _ _ _ _ _ _ _ _ _
      | exact ih2 _ _ _ _ _ _ _ _ _ _
      | exact LeO.none _
      | refine LeO.ite ?_ ?_
      | refine LeO.bind ?_ (fun _ => ?_)
set_option maxHeartbeats 8000000 in
set_option maxRecDepth 100000 in
theorem laws_FnOrder.calls (k : Nat) (A0 : Option Addr) (c0 : Nat) (l0 : List Int) (r : Bool) (w : World) (hr0 : Kd.C (Kd.int .u8) w A0 l0.length l0) (hc0 : l0.length ≤ c0) (h : laws_FnOrder.f k l0 = some r) :
    Calls Try.prog 6 #[.slice A0 l0.length c0] w fun e w' => e = .returned (.bool r) ∧ Below w.heap.size w w' := by
  have hu25 := Try.underlying25
  have HR0 := Aside0.mk hr0
  have HC0 := Aside0.mk hc0
  clear hr0 hc0
  have HB := Aside0.mk (Below.refl w.heap.size w)
  have H : (if (l0.length : Int) > 1048576 then (some true) else ((spec_NeedOf.f l0).bind fun bt155 => ((impl_OrderFor.f bt155.1 bt155.2.1 bt155.2.2.1 bt155.2.2.2.1 bt155.2.2.2.2.1 bt155.2.2.2.2.2).bind fun bt162 => ((spec_OrderFor.f bt155.1 bt155.2.1 bt155.2.2.1 bt155.2.2.2.1 bt155.2.2.2.2.1 bt155.2.2.2.2.2).bind fun bt165 => ((impl_NeedOK.f bt155.1 bt155.2.1 bt155.2.2.1 bt155.2.2.2.1 bt155.2.2.2.2.1 bt155.2.2.2.2.2).bind fun t168 => (if t168 = true then (if bt162.2.2 = bt165.2.2 then (if bt162.1 = bt165.1 then (laws_FnOrder.j0 k bt162.1 bt162.2.1 bt162.2.2 (bt162.2.1 != bt165.2.1) bt155.1 bt155.2.1 bt155.2.2.1 bt155.2.2.2.1 bt155.2.2.2.2.1 bt155.2.2.2.2.2) else (laws_FnOrder.j0 k bt162.1 bt162.2.1 bt162.2.2 true bt155.1 bt155.2.1 bt155.2.2.1 bt155.2.2.2.1 bt155.2.2.2.2.1 bt155.2.2.2.2.2)) else (laws_FnOrder.j0 k bt162.1 bt162.2.1 bt162.2.2 true bt155.1 bt155.2.1 bt155.2.2.1 bt155.2.2.2.1 bt155.2.2.2.2.1 bt155.2.2.2.2.2)) else (laws_FnOrder.j0 k bt162.1 bt162.2.1 bt162.2.2 true bt155.1 bt155.2.1 bt155.2.2.1 bt155.2.2.2.1 bt155.2.2.2.2.1 bt155.2.2.2.2.2))))))) = some r := h
  clear h
  by_cases c2 : (l0.length : Int) > 1048576
  · rw [if_pos c2] at H
    have c2b0 : decide (1048576 < (l0.length : Int)) = true := decide_eq_true c2
    have c2b1 : decide (1048576 < l0.length) = true := decide_eq_true (by omega)
    clear c2
    obtain rfl := Option.some.inj H
    go_enter Try.func6, Try.ntmps6
    go_wp2
    repeat (go_quiet (fail); try go_wp2)
    go_ret
    exact ⟨by first | rfl | (simp [errW_none, errW_some] <;> rfl) | (simp [*, errW_none, errW_some] <;> rfl), by repeat (first | (with_reducible first | exact HB.out | apply below_alloc | apply pw_below_drewN | apply below_drew1) | exact HB.out)⟩
  · rw [if_neg c2] at H
    have c2b0 : decide (1048576 < (l0.length : Int)) = false := decide_eq_false c2
    have c2b1 : decide (1048576 < l0.length) = false := decide_eq_false (by omega)
    clear c2
    replace H := Option.bind_eq_some_iff.mp H
    obtain ⟨⟨t155, t156, t157, t158, t159, t160⟩, A30, H⟩ := H
    replace H : ((impl_OrderFor.f t155 t156 t157 t158 t159 t160).bind fun bt162 => ((spec_OrderFor.f t155 t156 t157 t158 t159 t160).bind fun bt165 => ((impl_NeedOK.f t155 t156 t157 t158 t159 t160).bind fun t168 => (if t168 = true then (if bt162.2.2 = bt165.2.2 then (if bt162.1 = bt165.1 then (laws_FnOrder.j0 k bt162.1 bt162.2.1 bt162.2.2 (bt162.2.1 != bt165.2.1) t155 t156 t157 t158 t159 t160) else (laws_FnOrder.j0 k bt162.1 bt162.2.1 bt162.2.2 true t155 t156 t157 t158 t159 t160)) else (laws_FnOrder.j0 k bt162.1 bt162.2.1 bt162.2.2 true t155 t156 t157 t158 t159 t160)) else (laws_FnOrder.j0 k bt162.1 bt162.2.1 bt162.2.2 true t155 t156 t157 t158 t159 t160))))) = some r := H
    have A3 := Aside0.mk A30
    clear A30
    replace H := Option.bind_eq_some_iff.mp H
    obtain ⟨⟨t162, t163, t164⟩, A40, H⟩ := H
    replace H : ((spec_OrderFor.f t155 t156 t157 t158 t159 t160).bind fun bt165 => ((impl_NeedOK.f t155 t156 t157 t158 t159 t160).bind fun t168 => (if t168 = true then (if t164 = bt165.2.2 then (if t162 = bt165.1 then (laws_FnOrder.j0 k t162 t163 t164 (t163 != bt165.2.1) t155 t156 t157 t158 t159 t160) else (laws_FnOrder.j0 k t162 t163 t164 true t155 t156 t157 t158 t159 t160)) else (laws_FnOrder.j0 k t162 t163 t164 true t155 t156 t157 t158 t159 t160)) else (laws_FnOrder.j0 k t162 t163 t164 true t155 t156 t157 t158 t159 t160)))) = some r := H
    have A4 := Aside0.mk A40
    clear A40
    replace H := Option.bind_eq_some_iff.mp H
    obtain ⟨⟨t165, t166, t167⟩, A50, H⟩ := H
    replace H : ((impl_NeedOK.f t155 t156 t157 t158 t159 t160).bind fun t168 => (if t168 = true then (if t164 = t167 then (if t162 = t165 then (laws_FnOrder.j0 k t162 t163 t164 (t163 != t166) t155 t156 t157 t158 t159 t160) else (laws_FnOrder.j0 k t162 t163 t164 true t155 t156 t157 t158 t159 t160)) else (laws_FnOrder.j0 k t162 t163 t164 true t155 t156 t157 t158 t159 t160)) else (laws_FnOrder.j0 k t162 t163 t164 true t155 t156 t157 t158 t159 t160))) = some r := H
    have A5 := Aside0.mk A50
    clear A50
    have HC6 := Aside0.mk H
    clear H
    go_enter Try.func6, Try.ntmps6
    go_upto_region 6 with (first | (go_at_call 19; (with_reducible refine (spec_NeedOf.calls _ _ l0 t155 t156 t157 t158 t159 t160 _ ?side1 ?side2 A3.out).mono ?_); (case side1 => repeat (first | exact HR0.out | (with_reducible refine Kd.C_alloc ?_ _) | (with_reducible refine Kd.C_drewN ?_ _) | (with_reducible refine Kd.C_drew ?_))); (case side2 => exact HC0.out); rintro e w7 ⟨rfl, hb⟩; have n0_ := Aside0.mk (below_step (by repeat (first | (with_reducible first | exact HB.out | apply below_alloc | apply pw_below_drewN | apply below_drew1) | exact HB.out)) hb); clear HB; have HB := n0_; clear n0_; (try clear hb); (try clear hb2); (try clear hk); (try clear hi)) | ((with_reducible refine gate_dst (N := 3) rfl ?_); (try (refine gate_guard (by rfl) ?_; dsimp only)); refine box_event ?hg (N := 3) ?hd (cs := #[.int .i64 0, .int .i64 0, .int .i64 0, .int .i64 0, .int .i64 0, .int .i64 0]) (t := 25) ?hr ?_; (case hd => rfl); (case hg => rfl); (case hr => first | (go_simp; done) | (go_simp; rfl)); intro gb161 hg w8 hbox hb; have n0_ := Aside0.mk (below_step (by repeat (first | (with_reducible first | exact HB.out | apply below_alloc | apply pw_below_drewN | apply below_drew1) | exact HB.out)) hb); have n1_ := Aside0.mk (hbox); have n2_ := Aside0.mk ((by rw [hg]; exact (below_size (by repeat (first | (with_reducible first | exact HB.out | apply below_alloc | apply pw_below_drewN | apply below_drew1) | exact HB.out))) : w.heap.size ≤ gb161)); have n3_ := Aside0.mk ((by rw [hg]; exact (below_size (by repeat (first | (with_reducible first | exact HB.out | apply below_alloc | apply pw_below_drewN | apply below_drew1) | exact HB.out))) : w.heap.size ≤ gb161)); clear HB; have HB := n0_; have BK161 := n1_; have GW161 := n2_; have GE161 := n3_; clear n0_ n1_ n2_ n3_; clear hb hbox hg; have hcz9_0 : w8.cell? ⟨gb161, 0, none⟩ = some (.int .i64 0) := (blk_cell BK161.out 0).trans rfl; have hcz9_1 : w8.cell? ⟨gb161, 1, none⟩ = some (.int .i64 0) := (blk_cell BK161.out 1).trans rfl; have hcz9_2 : w8.cell? ⟨gb161, 2, none⟩ = some (.int .i64 0) := (blk_cell BK161.out 2).trans rfl; have hcz9_3 : w8.cell? ⟨gb161, 3, none⟩ = some (.int .i64 0) := (blk_cell BK161.out 3).trans rfl; have hcz9_4 : w8.cell? ⟨gb161, 4, none⟩ = some (.int .i64 0) := (blk_cell BK161.out 4).trans rfl; have hcz9_5 : w8.cell? ⟨gb161, 5, none⟩ = some (.int .i64 0) := (blk_cell BK161.out 5).trans rfl; have hfz9_0 := blk_frozen BK161.out 0; have hfz9_1 := blk_frozen BK161.out 1; have hfz9_2 := blk_frozen BK161.out 2; have hfz9_3 := blk_frozen BK161.out 3; have hfz9_4 := blk_frozen BK161.out 4; have hfz9_5 := blk_frozen BK161.out 5) | (go_at_call 15; (with_reducible refine (impl_OrderFor.calls t155 t156 t157 t158 t159 t160 t162 t163 t164 _ A4.out).mono ?_); rintro e w10 ⟨rfl, hb⟩; have n0_ := Aside0.mk (blk_below (g := gb161) (o := .cells #[.int .i64 t155, .int .i64 t156, .int .i64 t157, .int .i64 t158, .int .i64 t159, .int .i64 t160] 25 (0, 0)) (by (with_reducible repeat (first | refine blk_drewN ?_ _ | refine blk_drew ?_ | refine blk_alloc ?_ _)); refine blk_put (cs := #[.int .i64 t155, .int .i64 t156, .int .i64 t157, .int .i64 t158, .int .i64 t159, .int .i64 0]) ?_ 5 _ rfl; (with_reducible repeat (first | refine blk_drewN ?_ _ | refine blk_drew ?_ | refine blk_alloc ?_ _)); refine blk_put (cs := #[.int .i64 t155, .int .i64 t156, .int .i64 t157, .int .i64 t158, .int .i64 0, .int .i64 0]) ?_ 4 _ rfl; (with_reducible repeat (first | refine blk_drewN ?_ _ | refine blk_drew ?_ | refine blk_alloc ?_ _)); refine blk_put (cs := #[.int .i64 t155, .int .i64 t156, .int .i64 t157, .int .i64 0, .int .i64 0, .int .i64 0]) ?_ 3 _ rfl; (with_reducible repeat (first | refine blk_drewN ?_ _ | refine blk_drew ?_ | refine blk_alloc ?_ _)); refine blk_put (cs := #[.int .i64 t155, .int .i64 t156, .int .i64 0, .int .i64 0, .int .i64 0, .int .i64 0]) ?_ 2 _ rfl; (with_reducible repeat (first | refine blk_drewN ?_ _ | refine blk_drew ?_ | refine blk_alloc ?_ _)); refine blk_put (cs := #[.int .i64 t155, .int .i64 0, .int .i64 0, .int .i64 0, .int .i64 0, .int .i64 0]) ?_ 1 _ rfl; (with_reducible repeat (first | refine blk_drewN ?_ _ | refine blk_drew ?_ | refine blk_alloc ?_ _)); refine blk_put (cs := #[.int .i64 0, .int .i64 0, .int .i64 0, .int .i64 0, .int .i64 0, .int .i64 0]) ?_ 0 _ rfl; (with_reducible repeat (first | refine blk_drewN ?_ _ | refine blk_drew ?_ | refine blk_alloc ?_ _)); exact BK161.out) hb); have n1_ := Aside0.mk (below_step (by repeat (first | (with_reducible first | exact HB.out | apply below_alloc | apply pw_below_drewN | apply below_drew1 | refine below_set ?_ GE161.out) | exact HB.out)) hb); clear BK161; clear HB; have BK161 := n0_; have HB := n1_; clear n0_ n1_; (try clear hb); (try clear hb2); (try clear hk); (try clear hi); have hcz11_0 : w10.cell? ⟨gb161, 0, none⟩ = some (.int .i64 t155) := (blk_cell BK161.out 0).trans rfl; have hcz11_1 : w10.cell? ⟨gb161, 1, none⟩ = some (.int .i64 t156) := (blk_cell BK161.out 1).trans rfl; have hcz11_2 : w10.cell? ⟨gb161, 2, none⟩ = some (.int .i64 t157) := (blk_cell BK161.out 2).trans rfl; have hcz11_3 : w10.cell? ⟨gb161, 3, none⟩ = some (.int .i64 t158) := (blk_cell BK161.out 3).trans rfl; have hcz11_4 : w10.cell? ⟨gb161, 4, none⟩ = some (.int .i64 t159) := (blk_cell BK161.out 4).trans rfl; have hcz11_5 : w10.cell? ⟨gb161, 5, none⟩ = some (.int .i64 t160) := (blk_cell BK161.out 5).trans rfl; have hfz11_0 := blk_frozen BK161.out 0; have hfz11_1 := blk_frozen BK161.out 1; have hfz11_2 := blk_frozen BK161.out 2; have hfz11_3 := blk_frozen BK161.out 3; have hfz11_4 := blk_frozen BK161.out 4; have hfz11_5 := blk_frozen BK161.out 5) | (go_at_call 14; (with_reducible refine (spec_OrderFor.calls t155 t156 t157 t158 t159 t160 t165 t166 t167 _ A5.out).mono ?_); rintro e w12 ⟨rfl, hb⟩; have n0_ := Aside0.mk (blk_below (g := gb161) (o := .cells #[.int .i64 t155, .int .i64 t156, .int .i64 t157, .int .i64 t158, .int .i64 t159, .int .i64 t160] 25 (0, 0)) (by (with_reducible repeat (first | refine blk_drewN ?_ _ | refine blk_drew ?_ | refine blk_alloc ?_ _)); exact BK161.out) hb); have n1_ := Aside0.mk (below_step (by repeat (first | (with_reducible first | exact HB.out | apply below_alloc | apply pw_below_drewN | apply below_drew1 | refine below_set ?_ GE161.out) | exact HB.out)) hb); clear BK161; clear HB; have BK161 := n0_; have HB := n1_; clear n0_ n1_; (try clear hb); (try clear hb2); (try clear hk); (try clear hi)))
    repeat (go_quiet (first | (go_at_call 19; (with_reducible refine (spec_NeedOf.calls _ _ l0 t155 t156 t157 t158 t159 t160 _ ?side1 ?side2 A3.out).mono ?_); (case side1 => repeat (first | exact HR0.out | (with_reducible refine Kd.C_alloc ?_ _) | (with_reducible refine Kd.C_drewN ?_ _) | (with_reducible refine Kd.C_drew ?_))); (case side2 => exact HC0.out); rintro e w7 ⟨rfl, hb⟩; have n0_ := Aside0.mk (below_step (by repeat (first | (with_reducible first | exact HB.out | apply below_alloc | apply pw_below_drewN | apply below_drew1) | exact HB.out)) hb); clear HB; have HB := n0_; clear n0_; (try clear hb); (try clear hb2); (try clear hk); (try clear hi)) | ((with_reducible refine gate_dst (N := 3) rfl ?_); (try (refine gate_guard (by rfl) ?_; dsimp only)); refine box_event ?hg (N := 3) ?hd (cs := #[.int .i64 0, .int .i64 0, .int .i64 0, .int .i64 0, .int .i64 0, .int .i64 0]) (t := 25) ?hr ?_; (case hd => rfl); (case hg => rfl); (case hr => first | (go_simp; done) | (go_simp; rfl)); intro gb161 hg w8 hbox hb; have n0_ := Aside0.mk (below_step (by repeat (first | (with_reducible first | exact HB.out | apply below_alloc | apply pw_below_drewN | apply below_drew1) | exact HB.out)) hb); have n1_ := Aside0.mk (hbox); have n2_ := Aside0.mk ((by rw [hg]; exact (below_size (by repeat (first | (with_reducible first | exact HB.out | apply below_alloc | apply pw_below_drewN | apply below_drew1) | exact HB.out))) : w.heap.size ≤ gb161)); have n3_ := Aside0.mk ((by rw [hg]; exact (below_size (by repeat (first | (with_reducible first | exact HB.out | apply below_alloc | apply pw_below_drewN | apply below_drew1) | exact HB.out))) : w.heap.size ≤ gb161)); clear HB; have HB := n0_; have BK161 := n1_; have GW161 := n2_; have GE161 := n3_; clear n0_ n1_ n2_ n3_; clear hb hbox hg; have hcz9_0 : w8.cell? ⟨gb161, 0, none⟩ = some (.int .i64 0) := (blk_cell BK161.out 0).trans rfl; have hcz9_1 : w8.cell? ⟨gb161, 1, none⟩ = some (.int .i64 0) := (blk_cell BK161.out 1).trans rfl; have hcz9_2 : w8.cell? ⟨gb161, 2, none⟩ = some (.int .i64 0) := (blk_cell BK161.out 2).trans rfl; have hcz9_3 : w8.cell? ⟨gb161, 3, none⟩ = some (.int .i64 0) := (blk_cell BK161.out 3).trans rfl; have hcz9_4 : w8.cell? ⟨gb161, 4, none⟩ = some (.int .i64 0) := (blk_cell BK161.out 4).trans rfl; have hcz9_5 : w8.cell? ⟨gb161, 5, none⟩ = some (.int .i64 0) := (blk_cell BK161.out 5).trans rfl; have hfz9_0 := blk_frozen BK161.out 0; have hfz9_1 := blk_frozen BK161.out 1; have hfz9_2 := blk_frozen BK161.out 2; have hfz9_3 := blk_frozen BK161.out 3; have hfz9_4 := blk_frozen BK161.out 4; have hfz9_5 := blk_frozen BK161.out 5) | (go_at_call 15; (with_reducible refine (impl_OrderFor.calls t155 t156 t157 t158 t159 t160 t162 t163 t164 _ A4.out).mono ?_); rintro e w10 ⟨rfl, hb⟩; have n0_ := Aside0.mk (blk_below (g := gb161) (o := .cells #[.int .i64 t155, .int .i64 t156, .int .i64 t157, .int .i64 t158, .int .i64 t159, .int .i64 t160] 25 (0, 0)) (by (with_reducible repeat (first | refine blk_drewN ?_ _ | refine blk_drew ?_ | refine blk_alloc ?_ _)); refine blk_put (cs := #[.int .i64 t155, .int .i64 t156, .int .i64 t157, .int .i64 t158, .int .i64 t159, .int .i64 0]) ?_ 5 _ rfl; (with_reducible repeat (first | refine blk_drewN ?_ _ | refine blk_drew ?_ | refine blk_alloc ?_ _)); refine blk_put (cs := #[.int .i64 t155, .int .i64 t156, .int .i64 t157, .int .i64 t158, .int .i64 0, .int .i64 0]) ?_ 4 _ rfl; (with_reducible repeat (first | refine blk_drewN ?_ _ | refine blk_drew ?_ | refine blk_alloc ?_ _)); refine blk_put (cs := #[.int .i64 t155, .int .i64 t156, .int .i64 t157, .int .i64 0, .int .i64 0, .int .i64 0]) ?_ 3 _ rfl; (with_reducible repeat (first | refine blk_drewN ?_ _ | refine blk_drew ?_ | refine blk_alloc ?_ _)); refine blk_put (cs := #[.int .i64 t155, .int .i64 t156, .int .i64 0, .int .i64 0, .int .i64 0, .int .i64 0]) ?_ 2 _ rfl; (with_reducible repeat (first | refine blk_drewN ?_ _ | refine blk_drew ?_ | refine blk_alloc ?_ _)); refine blk_put (cs := #[.int .i64 t155, .int .i64 0, .int .i64 0, .int .i64 0, .int .i64 0, .int .i64 0]) ?_ 1 _ rfl; (with_reducible repeat (first | refine blk_drewN ?_ _ | refine blk_drew ?_ | refine blk_alloc ?_ _)); refine blk_put (cs := #[.int .i64 0, .int .i64 0, .int .i64 0, .int .i64 0, .int .i64 0, .int .i64 0]) ?_ 0 _ rfl; (with_reducible repeat (first | refine blk_drewN ?_ _ | refine blk_drew ?_ | refine blk_alloc ?_ _)); exact BK161.out) hb); have n1_ := Aside0.mk (below_step (by repeat (first | (with_reducible first | exact HB.out | apply below_alloc | apply pw_below_drewN | apply below_drew1 | refine below_set ?_ GE161.out) | exact HB.out)) hb); clear BK161; clear HB; have BK161 := n0_; have HB := n1_; clear n0_ n1_; (try clear hb); (try clear hb2); (try clear hk); (try clear hi); have hcz11_0 : w10.cell? ⟨gb161, 0, none⟩ = some (.int .i64 t155) := (blk_cell BK161.out 0).trans rfl; have hcz11_1 : w10.cell? ⟨gb161, 1, none⟩ = some (.int .i64 t156) := (blk_cell BK161.out 1).trans rfl; have hcz11_2 : w10.cell? ⟨gb161, 2, none⟩ = some (.int .i64 t157) := (blk_cell BK161.out 2).trans rfl; have hcz11_3 : w10.cell? ⟨gb161, 3, none⟩ = some (.int .i64 t158) := (blk_cell BK161.out 3).trans rfl; have hcz11_4 : w10.cell? ⟨gb161, 4, none⟩ = some (.int .i64 t159) := (blk_cell BK161.out 4).trans rfl; have hcz11_5 : w10.cell? ⟨gb161, 5, none⟩ = some (.int .i64 t160) := (blk_cell BK161.out 5).trans rfl; have hfz11_0 := blk_frozen BK161.out 0; have hfz11_1 := blk_frozen BK161.out 1; have hfz11_2 := blk_frozen BK161.out 2; have hfz11_3 := blk_frozen BK161.out 3; have hfz11_4 := blk_frozen BK161.out 4; have hfz11_5 := blk_frozen BK161.out 5) | (go_at_call 14; (with_reducible refine (spec_OrderFor.calls t155 t156 t157 t158 t159 t160 t165 t166 t167 _ A5.out).mono ?_); rintro e w12 ⟨rfl, hb⟩; have n0_ := Aside0.mk (blk_below (g := gb161) (o := .cells #[.int .i64 t155, .int .i64 t156, .int .i64 t157, .int .i64 t158, .int .i64 t159, .int .i64 t160] 25 (0, 0)) (by (with_reducible repeat (first | refine blk_drewN ?_ _ | refine blk_drew ?_ | refine blk_alloc ?_ _)); exact BK161.out) hb); have n1_ := Aside0.mk (below_step (by repeat (first | (with_reducible first | exact HB.out | apply below_alloc | apply pw_below_drewN | apply below_drew1 | refine below_set ?_ GE161.out) | exact HB.out)) hb); clear BK161; clear HB; have BK161 := n0_; have HB := n1_; clear n0_ n1_; (try clear hb); (try clear hb2); (try clear hk); (try clear hi))); go_upto_region 6 with (first | (go_at_call 19; (with_reducible refine (spec_NeedOf.calls _ _ l0 t155 t156 t157 t158 t159 t160 _ ?side1 ?side2 A3.out).mono ?_); (case side1 => repeat (first | exact HR0.out | (with_reducible refine Kd.C_alloc ?_ _) | (with_reducible refine Kd.C_drewN ?_ _) | (with_reducible refine Kd.C_drew ?_))); (case side2 => exact HC0.out); rintro e w7 ⟨rfl, hb⟩; have n0_ := Aside0.mk (below_step (by repeat (first | (with_reducible first | exact HB.out | apply below_alloc | apply pw_below_drewN | apply below_drew1) | exact HB.out)) hb); clear HB; have HB := n0_; clear n0_; (try clear hb); (try clear hb2); (try clear hk); (try clear hi)) | ((with_reducible refine gate_dst (N := 3) rfl ?_); (try (refine gate_guard (by rfl) ?_; dsimp only)); refine box_event ?hg (N := 3) ?hd (cs := #[.int .i64 0, .int .i64 0, .int .i64 0, .int .i64 0, .int .i64 0, .int .i64 0]) (t := 25) ?hr ?_; (case hd => rfl); (case hg => rfl); (case hr => first | (go_simp; done) | (go_simp; rfl)); intro gb161 hg w8 hbox hb; have n0_ := Aside0.mk (below_step (by repeat (first | (with_reducible first | exact HB.out | apply below_alloc | apply pw_below_drewN | apply below_drew1) | exact HB.out)) hb); have n1_ := Aside0.mk (hbox); have n2_ := Aside0.mk ((by rw [hg]; exact (below_size (by repeat (first | (with_reducible first | exact HB.out | apply below_alloc | apply pw_below_drewN | apply below_drew1) | exact HB.out))) : w.heap.size ≤ gb161)); have n3_ := Aside0.mk ((by rw [hg]; exact (below_size (by repeat (first | (with_reducible first | exact HB.out | apply below_alloc | apply pw_below_drewN | apply below_drew1) | exact HB.out))) : w.heap.size ≤ gb161)); clear HB; have HB := n0_; have BK161 := n1_; have GW161 := n2_; have GE161 := n3_; clear n0_ n1_ n2_ n3_; clear hb hbox hg; have hcz9_0 : w8.cell? ⟨gb161, 0, none⟩ = some (.int .i64 0) := (blk_cell BK161.out 0).trans rfl; have hcz9_1 : w8.cell? ⟨gb161, 1, none⟩ = some (.int .i64 0) := (blk_cell BK161.out 1).trans rfl; have hcz9_2 : w8.cell? ⟨gb161, 2, none⟩ = some (.int .i64 0) := (blk_cell BK161.out 2).trans rfl; have hcz9_3 : w8.cell? ⟨gb161, 3, none⟩ = some (.int .i64 0) := (blk_cell BK161.out 3).trans rfl; have hcz9_4 : w8.cell? ⟨gb161, 4, none⟩ = some (.int .i64 0) := (blk_cell BK161.out 4).trans rfl; have hcz9_5 : w8.cell? ⟨gb161, 5, none⟩ = some (.int .i64 0) := (blk_cell BK161.out 5).trans rfl; have hfz9_0 := blk_frozen BK161.out 0; have hfz9_1 := blk_frozen BK161.out 1; have hfz9_2 := blk_frozen BK161.out 2; have hfz9_3 := blk_frozen BK161.out 3; have hfz9_4 := blk_frozen BK161.out 4; have hfz9_5 := blk_frozen BK161.out 5) | (go_at_call 15; (with_reducible refine (impl_OrderFor.calls t155 t156 t157 t158 t159 t160 t162 t163 t164 _ A4.out).mono ?_); rintro e w10 ⟨rfl, hb⟩; have n0_ := Aside0.mk (blk_below (g := gb161) (o := .cells #[.int .i64 t155, .int .i64 t156, .int .i64 t157, .int .i64 t158, .int .i64 t159, .int .i64 t160] 25 (0, 0)) (by (with_reducible repeat (first | refine blk_drewN ?_ _ | refine blk_drew ?_ | refine blk_alloc ?_ _)); refine blk_put (cs := #[.int .i64 t155, .int .i64 t156, .int .i64 t157, .int .i64 t158, .int .i64 t159, .int .i64 0]) ?_ 5 _ rfl; (with_reducible repeat (first | refine blk_drewN ?_ _ | refine blk_drew ?_ | refine blk_alloc ?_ _)); refine blk_put (cs := #[.int .i64 t155, .int .i64 t156, .int .i64 t157, .int .i64 t158, .int .i64 0, .int .i64 0]) ?_ 4 _ rfl; (with_reducible repeat (first | refine blk_drewN ?_ _ | refine blk_drew ?_ | refine blk_alloc ?_ _)); refine blk_put (cs := #[.int .i64 t155, .int .i64 t156, .int .i64 t157, .int .i64 0, .int .i64 0, .int .i64 0]) ?_ 3 _ rfl; (with_reducible repeat (first | refine blk_drewN ?_ _ | refine blk_drew ?_ | refine blk_alloc ?_ _)); refine blk_put (cs := #[.int .i64 t155, .int .i64 t156, .int .i64 0, .int .i64 0, .int .i64 0, .int .i64 0]) ?_ 2 _ rfl; (with_reducible repeat (first | refine blk_drewN ?_ _ | refine blk_drew ?_ | refine blk_alloc ?_ _)); refine blk_put (cs := #[.int .i64 t155, .int .i64 0, .int .i64 0, .int .i64 0, .int .i64 0, .int .i64 0]) ?_ 1 _ rfl; (with_reducible repeat (first | refine blk_drewN ?_ _ | refine blk_drew ?_ | refine blk_alloc ?_ _)); refine blk_put (cs := #[.int .i64 0, .int .i64 0, .int .i64 0, .int .i64 0, .int .i64 0, .int .i64 0]) ?_ 0 _ rfl; (with_reducible repeat (first | refine blk_drewN ?_ _ | refine blk_drew ?_ | refine blk_alloc ?_ _)); exact BK161.out) hb); have n1_ := Aside0.mk (below_step (by repeat (first | (with_reducible first | exact HB.out | apply below_alloc | apply pw_below_drewN | apply below_drew1 | refine below_set ?_ GE161.out) | exact HB.out)) hb); clear BK161; clear HB; have BK161 := n0_; have HB := n1_; clear n0_ n1_; (try clear hb); (try clear hb2); (try clear hk); (try clear hi); have hcz11_0 : w10.cell? ⟨gb161, 0, none⟩ = some (.int .i64 t155) := (blk_cell BK161.out 0).trans rfl; have hcz11_1 : w10.cell? ⟨gb161, 1, none⟩ = some (.int .i64 t156) := (blk_cell BK161.out 1).trans rfl; have hcz11_2 : w10.cell? ⟨gb161, 2, none⟩ = some (.int .i64 t157) := (blk_cell BK161.out 2).trans rfl; have hcz11_3 : w10.cell? ⟨gb161, 3, none⟩ = some (.int .i64 t158) := (blk_cell BK161.out 3).trans rfl; have hcz11_4 : w10.cell? ⟨gb161, 4, none⟩ = some (.int .i64 t159) := (blk_cell BK161.out 4).trans rfl; have hcz11_5 : w10.cell? ⟨gb161, 5, none⟩ = some (.int .i64 t160) := (blk_cell BK161.out 5).trans rfl; have hfz11_0 := blk_frozen BK161.out 0; have hfz11_1 := blk_frozen BK161.out 1; have hfz11_2 := blk_frozen BK161.out 2; have hfz11_3 := blk_frozen BK161.out 3; have hfz11_4 := blk_frozen BK161.out 4; have hfz11_5 := blk_frozen BK161.out 5) | (go_at_call 14; (with_reducible refine (spec_OrderFor.calls t155 t156 t157 t158 t159 t160 t165 t166 t167 _ A5.out).mono ?_); rintro e w12 ⟨rfl, hb⟩; have n0_ := Aside0.mk (blk_below (g := gb161) (o := .cells #[.int .i64 t155, .int .i64 t156, .int .i64 t157, .int .i64 t158, .int .i64 t159, .int .i64 t160] 25 (0, 0)) (by (with_reducible repeat (first | refine blk_drewN ?_ _ | refine blk_drew ?_ | refine blk_alloc ?_ _)); exact BK161.out) hb); have n1_ := Aside0.mk (below_step (by repeat (first | (with_reducible first | exact HB.out | apply below_alloc | apply pw_below_drewN | apply below_drew1 | refine below_set ?_ GE161.out) | exact HB.out)) hb); clear BK161; clear HB; have BK161 := n0_; have HB := n1_; clear n0_ n1_; (try clear hb); (try clear hb2); (try clear hk); (try clear hi))))
    (try simp only [Act.put, List.setIfInBounds_toArray, List.set_cons_zero, List.set_cons_succ])
    go_cut [45] (fun v45 wc => ∃ (kq : Nat) (x45_5 : Bool), v45 = .bool x45_5 ∧ Aside0 (laws_FnOrder.j0 kq t162 t163 t164 x45_5 t155 t156 t157 t158 t159 t160 = some r) ∧ Aside0 (kq ≤ k) ∧ Aside0 (wc.heap[gb161]? = some (.cells #[.int .i64 t155, .int .i64 t156, .int .i64 t157, .int .i64 t158, .int .i64 t159, .int .i64 t160] 25 (0, 0))) ∧ Aside0 (Below w.heap.size w wc))
    case first =>
      have H := HC6.out
      clear HC6
      replace H := Option.bind_eq_some_iff.mp H
      obtain ⟨t168, A130, H⟩ := H
      replace H : (if t168 = true then (if t164 = t167 then (if t162 = t165 then (laws_FnOrder.j0 k t162 t163 t164 (t163 != t166) t155 t156 t157 t158 t159 t160) else (laws_FnOrder.j0 k t162 t163 t164 true t155 t156 t157 t158 t159 t160)) else (laws_FnOrder.j0 k t162 t163 t164 true t155 t156 t157 t158 t159 t160)) else (laws_FnOrder.j0 k t162 t163 t164 true t155 t156 t157 t158 t159 t160)) = some r := H
      have A13 := Aside0.mk A130
      clear A130
      by_cases c14 : t168 = true
      · subst c14
        have H1 : (if t164 = t167 then (if t162 = t165 then (laws_FnOrder.j0 k t162 t163 t164 (t163 != t166) t155 t156 t157 t158 t159 t160) else (laws_FnOrder.j0 k t162 t163 t164 true t155 t156 t157 t158 t159 t160)) else (laws_FnOrder.j0 k t162 t163 t164 true t155 t156 t157 t158 t159 t160)) = some r := by rw [if_pos rfl] at H; exact H
        clear H
        have H := H1
        clear H1
        by_cases c15 : t164 = t167
        · rw [if_pos c15] at H
          have c15b0 : (t164 == t167) = true := beq_iff_eq.mpr c15
          have c15b1 : (t164 != t167) = false := bne_eq_false_iff_eq.mpr c15
          clear c15
          (first | rw [c15b0] | (simp only [i64_w, i32_w]; rw [c15b0]) | skip)
          by_cases c16 : t162 = t165
          · rw [if_pos c16] at H
            have c16b0 : (t162 == t165) = true := beq_iff_eq.mpr c16
            have c16b1 : (t162 != t165) = false := bne_eq_false_iff_eq.mpr c16
            clear c16
            have H' := Aside0.mk H
            clear H
            have hcz17_0 : w12.cell? ⟨gb161, 0, none⟩ = some (.int .i64 t155) := (blk_cell BK161.out 0).trans rfl
            have hcz17_1 : w12.cell? ⟨gb161, 1, none⟩ = some (.int .i64 t156) := (blk_cell BK161.out 1).trans rfl
            have hcz17_2 : w12.cell? ⟨gb161, 2, none⟩ = some (.int .i64 t157) := (blk_cell BK161.out 2).trans rfl
            have hcz17_3 : w12.cell? ⟨gb161, 3, none⟩ = some (.int .i64 t158) := (blk_cell BK161.out 3).trans rfl
            have hcz17_4 : w12.cell? ⟨gb161, 4, none⟩ = some (.int .i64 t159) := (blk_cell BK161.out 4).trans rfl
            have hcz17_5 : w12.cell? ⟨gb161, 5, none⟩ = some (.int .i64 t160) := (blk_cell BK161.out 5).trans rfl
            have hfz17_0 := blk_frozen BK161.out 0
            have hfz17_1 := blk_frozen BK161.out 1
            have hfz17_2 := blk_frozen BK161.out 2
            have hfz17_3 := blk_frozen BK161.out 3
            have hfz17_4 := blk_frozen BK161.out 4
            have hfz17_5 := blk_frozen BK161.out 5
            go_wp2_with (first | (go_at_call 13; (with_reducible refine (impl_NeedOK.calls t155 t156 t157 t158 t159 t160 true _ A13.out).mono ?_); rintro e w18 ⟨rfl, hb⟩; have n0_ := Aside0.mk (blk_below (g := gb161) (o := .cells #[.int .i64 t155, .int .i64 t156, .int .i64 t157, .int .i64 t158, .int .i64 t159, .int .i64 t160] 25 (0, 0)) (by (with_reducible repeat (first | refine blk_drewN ?_ _ | refine blk_drew ?_ | refine blk_alloc ?_ _)); exact BK161.out) hb); have n1_ := Aside0.mk (below_step (by repeat (first | (with_reducible first | exact HB.out | apply below_alloc | apply pw_below_drewN | apply below_drew1 | refine below_set ?_ GE161.out) | exact HB.out)) hb); clear BK161; clear HB; have BK161 := n0_; have HB := n1_; clear n0_ n1_; (try clear hb); (try clear hb2); (try clear hk); (try clear hi)))
            repeat (go_quiet (first | (go_at_call 13; (with_reducible refine (impl_NeedOK.calls t155 t156 t157 t158 t159 t160 true _ A13.out).mono ?_); rintro e w18 ⟨rfl, hb⟩; have n0_ := Aside0.mk (blk_below (g := gb161) (o := .cells #[.int .i64 t155, .int .i64 t156, .int .i64 t157, .int .i64 t158, .int .i64 t159, .int .i64 t160] 25 (0, 0)) (by (with_reducible repeat (first | refine blk_drewN ?_ _ | refine blk_drew ?_ | refine blk_alloc ?_ _)); exact BK161.out) hb); have n1_ := Aside0.mk (below_step (by repeat (first | (with_reducible first | exact HB.out | apply below_alloc | apply pw_below_drewN | apply below_drew1 | refine below_set ?_ GE161.out) | exact HB.out)) hb); clear BK161; clear HB; have BK161 := n0_; have HB := n1_; clear n0_ n1_; (try clear hb); (try clear hb2); (try clear hk); (try clear hi))); try go_wp2_with (first | (go_at_call 13; (with_reducible refine (impl_NeedOK.calls t155 t156 t157 t158 t159 t160 true _ A13.out).mono ?_); rintro e w18 ⟨rfl, hb⟩; have n0_ := Aside0.mk (blk_below (g := gb161) (o := .cells #[.int .i64 t155, .int .i64 t156, .int .i64 t157, .int .i64 t158, .int .i64 t159, .int .i64 t160] 25 (0, 0)) (by (with_reducible repeat (first | refine blk_drewN ?_ _ | refine blk_drew ?_ | refine blk_alloc ?_ _)); exact BK161.out) hb); have n1_ := Aside0.mk (below_step (by repeat (first | (with_reducible first | exact HB.out | apply below_alloc | apply pw_below_drewN | apply below_drew1 | refine below_set ?_ GE161.out) | exact HB.out)) hb); clear BK161; clear HB; have BK161 := n0_; have HB := n1_; clear n0_ n1_; (try clear hb); (try clear hb2); (try clear hk); (try clear hi))))
            go_meet
            case rel => exact ⟨_, ((t163 != t166)), (by first | rfl | (simp; done) | (simp [*]; done)), H', ⟨by first | omega | exact Nat.le_refl _⟩, ⟨by (with_reducible repeat (first | refine blk_drewN ?_ _ | refine blk_drew ?_ | refine blk_alloc ?_ _)); exact BK161.out⟩, ⟨by repeat (first | (with_reducible first | exact HB.out | apply below_alloc | apply pw_below_drewN | apply below_drew1 | refine below_set ?_ GE161.out) | exact HB.out)⟩⟩
          · rw [if_neg c16] at H
            have c16b0 : (t162 == t165) = false := beq_eq_false_iff_ne.mpr c16
            have c16b1 : (t162 != t165) = true := bne_iff_ne.mpr c16
            have H' := Aside0.mk H
            clear H
            have hcz19_0 : w12.cell? ⟨gb161, 0, none⟩ = some (.int .i64 t155) := (blk_cell BK161.out 0).trans rfl
            have hcz19_1 : w12.cell? ⟨gb161, 1, none⟩ = some (.int .i64 t156) := (blk_cell BK161.out 1).trans rfl
            have hcz19_2 : w12.cell? ⟨gb161, 2, none⟩ = some (.int .i64 t157) := (blk_cell BK161.out 2).trans rfl
            have hcz19_3 : w12.cell? ⟨gb161, 3, none⟩ = some (.int .i64 t158) := (blk_cell BK161.out 3).trans rfl
            have hcz19_4 : w12.cell? ⟨gb161, 4, none⟩ = some (.int .i64 t159) := (blk_cell BK161.out 4).trans rfl
            have hcz19_5 : w12.cell? ⟨gb161, 5, none⟩ = some (.int .i64 t160) := (blk_cell BK161.out 5).trans rfl
            have hfz19_0 := blk_frozen BK161.out 0
            have hfz19_1 := blk_frozen BK161.out 1
            have hfz19_2 := blk_frozen BK161.out 2
            have hfz19_3 := blk_frozen BK161.out 3
            have hfz19_4 := blk_frozen BK161.out 4
            have hfz19_5 := blk_frozen BK161.out 5
            go_wp2_with (first | (go_at_call 13; (with_reducible refine (impl_NeedOK.calls t155 t156 t157 t158 t159 t160 true _ A13.out).mono ?_); rintro e w20 ⟨rfl, hb⟩; have n0_ := Aside0.mk (blk_below (g := gb161) (o := .cells #[.int .i64 t155, .int .i64 t156, .int .i64 t157, .int .i64 t158, .int .i64 t159, .int .i64 t160] 25 (0, 0)) (by (with_reducible repeat (first | refine blk_drewN ?_ _ | refine blk_drew ?_ | refine blk_alloc ?_ _)); exact BK161.out) hb); have n1_ := Aside0.mk (below_step (by repeat (first | (with_reducible first | exact HB.out | apply below_alloc | apply pw_below_drewN | apply below_drew1 | refine below_set ?_ GE161.out) | exact HB.out)) hb); clear BK161; clear HB; have BK161 := n0_; have HB := n1_; clear n0_ n1_; (try clear hb); (try clear hb2); (try clear hk); (try clear hi)))
            repeat (go_quiet (first | (go_at_call 13; (with_reducible refine (impl_NeedOK.calls t155 t156 t157 t158 t159 t160 true _ A13.out).mono ?_); rintro e w20 ⟨rfl, hb⟩; have n0_ := Aside0.mk (blk_below (g := gb161) (o := .cells #[.int .i64 t155, .int .i64 t156, .int .i64 t157, .int .i64 t158, .int .i64 t159, .int .i64 t160] 25 (0, 0)) (by (with_reducible repeat (first | refine blk_drewN ?_ _ | refine blk_drew ?_ | refine blk_alloc ?_ _)); exact BK161.out) hb); have n1_ := Aside0.mk (below_step (by repeat (first | (with_reducible first | exact HB.out | apply below_alloc | apply pw_below_drewN | apply below_drew1 | refine below_set ?_ GE161.out) | exact HB.out)) hb); clear BK161; clear HB; have BK161 := n0_; have HB := n1_; clear n0_ n1_; (try clear hb); (try clear hb2); (try clear hk); (try clear hi))); try go_wp2_with (first | (go_at_call 13; (with_reducible refine (impl_NeedOK.calls t155 t156 t157 t158 t159 t160 true _ A13.out).mono ?_); rintro e w20 ⟨rfl, hb⟩; have n0_ := Aside0.mk (blk_below (g := gb161) (o := .cells #[.int .i64 t155, .int .i64 t156, .int .i64 t157, .int .i64 t158, .int .i64 t159, .int .i64 t160] 25 (0, 0)) (by (with_reducible repeat (first | refine blk_drewN ?_ _ | refine blk_drew ?_ | refine blk_alloc ?_ _)); exact BK161.out) hb); have n1_ := Aside0.mk (below_step (by repeat (first | (with_reducible first | exact HB.out | apply below_alloc | apply pw_below_drewN | apply below_drew1 | refine below_set ?_ GE161.out) | exact HB.out)) hb); clear BK161; clear HB; have BK161 := n0_; have HB := n1_; clear n0_ n1_; (try clear hb); (try clear hb2); (try clear hk); (try clear hi))))
            go_meet
            case rel => exact ⟨_, (true), (by first | rfl | (simp; done) | (simp [*]; done)), H', ⟨by first | omega | exact Nat.le_refl _⟩, ⟨by (with_reducible repeat (first | refine blk_drewN ?_ _ | refine blk_drew ?_ | refine blk_alloc ?_ _)); exact BK161.out⟩, ⟨by repeat (first | (with_reducible first | exact HB.out | apply below_alloc | apply pw_below_drewN | apply below_drew1 | refine below_set ?_ GE161.out) | exact HB.out)⟩⟩
        · rw [if_neg c15] at H
          have c15b0 : (t164 == t167) = false := beq_eq_false_iff_ne.mpr c15
          have c15b1 : (t164 != t167) = true := bne_iff_ne.mpr c15
          (first | rw [c15b0] | (simp only [i64_w, i32_w]; rw [c15b0]) | skip)
          have H' := Aside0.mk H
          clear H
          have hcz21_0 : w12.cell? ⟨gb161, 0, none⟩ = some (.int .i64 t155) := (blk_cell BK161.out 0).trans rfl
          have hcz21_1 : w12.cell? ⟨gb161, 1, none⟩ = some (.int .i64 t156) := (blk_cell BK161.out 1).trans rfl
          have hcz21_2 : w12.cell? ⟨gb161, 2, none⟩ = some (.int .i64 t157) := (blk_cell BK161.out 2).trans rfl
          have hcz21_3 : w12.cell? ⟨gb161, 3, none⟩ = some (.int .i64 t158) := (blk_cell BK161.out 3).trans rfl
          have hcz21_4 : w12.cell? ⟨gb161, 4, none⟩ = some (.int .i64 t159) := (blk_cell BK161.out 4).trans rfl
          have hcz21_5 : w12.cell? ⟨gb161, 5, none⟩ = some (.int .i64 t160) := (blk_cell BK161.out 5).trans rfl
          have hfz21_0 := blk_frozen BK161.out 0
          have hfz21_1 := blk_frozen BK161.out 1
          have hfz21_2 := blk_frozen BK161.out 2
          have hfz21_3 := blk_frozen BK161.out 3
          have hfz21_4 := blk_frozen BK161.out 4
          have hfz21_5 := blk_frozen BK161.out 5
          go_wp2_with (first | (go_at_call 13; (with_reducible refine (impl_NeedOK.calls t155 t156 t157 t158 t159 t160 true _ A13.out).mono ?_); rintro e w22 ⟨rfl, hb⟩; have n0_ := Aside0.mk (blk_below (g := gb161) (o := .cells #[.int .i64 t155, .int .i64 t156, .int .i64 t157, .int .i64 t158, .int .i64 t159, .int .i64 t160] 25 (0, 0)) (by (with_reducible repeat (first | refine blk_drewN ?_ _ | refine blk_drew ?_ | refine blk_alloc ?_ _)); exact BK161.out) hb); have n1_ := Aside0.mk (below_step (by repeat (first | (with_reducible first | exact HB.out | apply below_alloc | apply pw_below_drewN | apply below_drew1 | refine below_set ?_ GE161.out) | exact HB.out)) hb); clear BK161; clear HB; have BK161 := n0_; have HB := n1_; clear n0_ n1_; (try clear hb); (try clear hb2); (try clear hk); (try clear hi)))
          repeat (go_quiet (first | (go_at_call 13; (with_reducible refine (impl_NeedOK.calls t155 t156 t157 t158 t159 t160 true _ A13.out).mono ?_); rintro e w22 ⟨rfl, hb⟩; have n0_ := Aside0.mk (blk_below (g := gb161) (o := .cells #[.int .i64 t155, .int .i64 t156, .int .i64 t157, .int .i64 t158, .int .i64 t159, .int .i64 t160] 25 (0, 0)) (by (with_reducible repeat (first | refine blk_drewN ?_ _ | refine blk_drew ?_ | refine blk_alloc ?_ _)); exact BK161.out) hb); have n1_ := Aside0.mk (below_step (by repeat (first | (with_reducible first | exact HB.out | apply below_alloc | apply pw_below_drewN | apply below_drew1 | refine below_set ?_ GE161.out) | exact HB.out)) hb); clear BK161; clear HB; have BK161 := n0_; have HB := n1_; clear n0_ n1_; (try clear hb); (try clear hb2); (try clear hk); (try clear hi))); try go_wp2_with (first | (go_at_call 13; (with_reducible refine (impl_NeedOK.calls t155 t156 t157 t158 t159 t160 true _ A13.out).mono ?_); rintro e w22 ⟨rfl, hb⟩; have n0_ := Aside0.mk (blk_below (g := gb161) (o := .cells #[.int .i64 t155, .int .i64 t156, .int .i64 t157, .int .i64 t158, .int .i64 t159, .int .i64 t160] 25 (0, 0)) (by (with_reducible repeat (first | refine blk_drewN ?_ _ | refine blk_drew ?_ | refine blk_alloc ?_ _)); exact BK161.out) hb); have n1_ := Aside0.mk (below_step (by repeat (first | (with_reducible first | exact HB.out | apply below_alloc | apply pw_below_drewN | apply below_drew1 | refine below_set ?_ GE161.out) | exact HB.out)) hb); clear BK161; clear HB; have BK161 := n0_; have HB := n1_; clear n0_ n1_; (try clear hb); (try clear hb2); (try clear hk); (try clear hi))))
          go_meet
          case rel => exact ⟨_, (true), (by first | rfl | (simp; done) | (simp [*]; done)), H', ⟨by first | omega | exact Nat.le_refl _⟩, ⟨by (with_reducible repeat (first | refine blk_drewN ?_ _ | refine blk_drew ?_ | refine blk_alloc ?_ _)); exact BK161.out⟩, ⟨by repeat (first | (with_reducible first | exact HB.out | apply below_alloc | apply pw_below_drewN | apply below_drew1 | refine below_set ?_ GE161.out) | exact HB.out)⟩⟩
      · replace c14 := Bool.eq_false_iff.mpr c14
        subst c14
        have H1 : (laws_FnOrder.j0 k t162 t163 t164 true t155 t156 t157 t158 t159 t160) = some r := by rw [if_neg (show ¬ (false = true) by decide)] at H; exact H
        clear H
        have H := H1
        clear H1
        have H' := Aside0.mk H
        clear H
        have hcz23_0 : w12.cell? ⟨gb161, 0, none⟩ = some (.int .i64 t155) := (blk_cell BK161.out 0).trans rfl
        have hcz23_1 : w12.cell? ⟨gb161, 1, none⟩ = some (.int .i64 t156) := (blk_cell BK161.out 1).trans rfl
        have hcz23_2 : w12.cell? ⟨gb161, 2, none⟩ = some (.int .i64 t157) := (blk_cell BK161.out 2).trans rfl
        have hcz23_3 : w12.cell? ⟨gb161, 3, none⟩ = some (.int .i64 t158) := (blk_cell BK161.out 3).trans rfl
        have hcz23_4 : w12.cell? ⟨gb161, 4, none⟩ = some (.int .i64 t159) := (blk_cell BK161.out 4).trans rfl
        have hcz23_5 : w12.cell? ⟨gb161, 5, none⟩ = some (.int .i64 t160) := (blk_cell BK161.out 5).trans rfl
        have hfz23_0 := blk_frozen BK161.out 0
        have hfz23_1 := blk_frozen BK161.out 1
        have hfz23_2 := blk_frozen BK161.out 2
        have hfz23_3 := blk_frozen BK161.out 3
        have hfz23_4 := blk_frozen BK161.out 4
        have hfz23_5 := blk_frozen BK161.out 5
        go_wp2_with (first | (go_at_call 13; (with_reducible refine (impl_NeedOK.calls t155 t156 t157 t158 t159 t160 false _ A13.out).mono ?_); rintro e w24 ⟨rfl, hb⟩; have n0_ := Aside0.mk (blk_below (g := gb161) (o := .cells #[.int .i64 t155, .int .i64 t156, .int .i64 t157, .int .i64 t158, .int .i64 t159, .int .i64 t160] 25 (0, 0)) (by (with_reducible repeat (first | refine blk_drewN ?_ _ | refine blk_drew ?_ | refine blk_alloc ?_ _)); exact BK161.out) hb); have n1_ := Aside0.mk (below_step (by repeat (first | (with_reducible first | exact HB.out | apply below_alloc | apply pw_below_drewN | apply below_drew1 | refine below_set ?_ GE161.out) | exact HB.out)) hb); clear BK161; clear HB; have BK161 := n0_; have HB := n1_; clear n0_ n1_; (try clear hb); (try clear hb2); (try clear hk); (try clear hi)))
        repeat (go_quiet (first | (go_at_call 13; (with_reducible refine (impl_NeedOK.calls t155 t156 t157 t158 t159 t160 false _ A13.out).mono ?_); rintro e w24 ⟨rfl, hb⟩; have n0_ := Aside0.mk (blk_below (g := gb161) (o := .cells #[.int .i64 t155, .int .i64 t156, .int .i64 t157, .int .i64 t158, .int .i64 t159, .int .i64 t160] 25 (0, 0)) (by (with_reducible repeat (first | refine blk_drewN ?_ _ | refine blk_drew ?_ | refine blk_alloc ?_ _)); exact BK161.out) hb); have n1_ := Aside0.mk (below_step (by repeat (first | (with_reducible first | exact HB.out | apply below_alloc | apply pw_below_drewN | apply below_drew1 | refine below_set ?_ GE161.out) | exact HB.out)) hb); clear BK161; clear HB; have BK161 := n0_; have HB := n1_; clear n0_ n1_; (try clear hb); (try clear hb2); (try clear hk); (try clear hi))); try go_wp2_with (first | (go_at_call 13; (with_reducible refine (impl_NeedOK.calls t155 t156 t157 t158 t159 t160 false _ A13.out).mono ?_); rintro e w24 ⟨rfl, hb⟩; have n0_ := Aside0.mk (blk_below (g := gb161) (o := .cells #[.int .i64 t155, .int .i64 t156, .int .i64 t157, .int .i64 t158, .int .i64 t159, .int .i64 t160] 25 (0, 0)) (by (with_reducible repeat (first | refine blk_drewN ?_ _ | refine blk_drew ?_ | refine blk_alloc ?_ _)); exact BK161.out) hb); have n1_ := Aside0.mk (below_step (by repeat (first | (with_reducible first | exact HB.out | apply below_alloc | apply pw_below_drewN | apply below_drew1 | refine below_set ?_ GE161.out) | exact HB.out)) hb); clear BK161; clear HB; have BK161 := n0_; have HB := n1_; clear n0_ n1_; (try clear hb); (try clear hb2); (try clear hk); (try clear hi))))
        go_meet
        case rel => exact ⟨_, (true), (by first | rfl | (simp; done) | (simp [*]; done)), H', ⟨by first | omega | exact Nat.le_refl _⟩, ⟨by (with_reducible repeat (first | refine blk_drewN ?_ _ | refine blk_drew ?_ | refine blk_alloc ?_ _)); exact BK161.out⟩, ⟨by repeat (first | (with_reducible first | exact HB.out | apply below_alloc | apply pw_below_drewN | apply below_drew1 | refine below_set ?_ GE161.out) | exact HB.out)⟩⟩
    case rest =>
      clear HC6
      try clear c1
      try clear c2
      try clear c2b0
      try clear c2b1
      try clear p2
      try clear c6
      try clear c14
      try clear c15
      try clear c15b0
      try clear c15b1
      try clear c16
      try clear c16b0
      try clear c16b1
      try clear hcz11_0
      try clear hcz11_1
      try clear hcz11_2
      try clear hcz11_3
      try clear hcz11_4
      try clear hcz11_5
      try clear hcz17_0
      try clear hcz17_1
      try clear hcz17_2
      try clear hcz17_3
      try clear hcz17_4
      try clear hcz17_5
      try clear hcz19_0
      try clear hcz19_1
      try clear hcz19_2
      try clear hcz19_3
      try clear hcz19_4
      try clear hcz19_5
      try clear hcz21_0
      try clear hcz21_1
      try clear hcz21_2
      try clear hcz21_3
      try clear hcz21_4
      try clear hcz21_5
      try clear hcz23_0
      try clear hcz23_1
      try clear hcz23_2
      try clear hcz23_3
      try clear hcz23_4
      try clear hcz23_5
      try clear hcz9_0
      try clear hcz9_1
      try clear hcz9_2
      try clear hcz9_3
      try clear hcz9_4
      try clear hcz9_5
      try clear hfz11_0
      try clear hfz11_1
      try clear hfz11_2
      try clear hfz11_3
      try clear hfz11_4
      try clear hfz11_5
      try clear hfz17_0
      try clear hfz17_1
      try clear hfz17_2
      try clear hfz17_3
      try clear hfz17_4
      try clear hfz17_5
      try clear hfz19_0
      try clear hfz19_1
      try clear hfz19_2
      try clear hfz19_3
      try clear hfz19_4
      try clear hfz19_5
      try clear hfz21_0
      try clear hfz21_1
      try clear hfz21_2
      try clear hfz21_3
      try clear hfz21_4
      try clear hfz21_5
      try clear hfz23_0
      try clear hfz23_1
      try clear hfz23_2
      try clear hfz23_3
      try clear hfz23_4
      try clear hfz23_5
      try clear hfz9_0
      try clear hfz9_1
      try clear hfz9_2
      try clear hfz9_3
      try clear hfz9_4
      try clear hfz9_5
      obtain ⟨kq, x45_5, rfl, HA, HJ5, BK161, HB⟩ := hcut
      cases kq with
      | zero => exact absurd HA.out (by simp [laws_FnOrder.j0])
      | succ kj5 =>
        have H := HA.out
        clear HA
        simp only [laws_FnOrder.j0] at H
        by_cases c25 : x45_5 = true
        · subst c25
          have H1 : (some false) = some r := by rw [if_pos rfl] at H; exact H
          clear H
          have H := H1
          clear H1
          obtain rfl := Option.some.inj H
          go_wp2
          repeat (go_quiet (fail); try go_wp2)
          go_ret
          exact ⟨by first | rfl | (simp [errW_none, errW_some] <;> rfl) | (simp [*, errW_none, errW_some] <;> rfl), by repeat (first | (with_reducible first | exact HB.out | apply below_alloc | apply pw_below_drewN | apply below_drew1 | refine below_set ?_ GE161.out) | exact HB.out)⟩
        · replace c25 := Bool.eq_false_iff.mpr c25
          subst c25
          have H1 : (if t164 = 14 then (if t155 > (wrap64 (t156 + t157)) then (if t158 = 0 then (none) else (some (decide ((wrap64 ((wrap64 (t156 + t157)) + (mx t159 t158))) > (wrap64 (t160 - ((mx 0 (wrap64 (t160 - (wrap64 (t156 + t157))))) % t158))))))) else (some false)) else (if t164 = 0 then (if t158 = 0 then (none) else (if (Int.tmod t162 t158) = 0 then (laws_FnOrder.j1 kj5 t162 t163 (wrap64 (t156 + t157)) (decide (t162 < 0)) t155 t156 t157 t158 t159 t160) else (laws_FnOrder.j1 kj5 t162 t163 (wrap64 (t156 + t157)) true t155 t156 t157 t158 t159 t160))) else (laws_FnOrder.j1 kj5 t162 t163 (wrap64 (t156 + t157)) true t155 t156 t157 t158 t159 t160))) = some r := by rw [if_neg (show ¬ (false = true) by decide)] at H; exact H
          clear H
          have H := H1
          clear H1
          by_cases c26 : t164 = 14
          · rw [if_pos c26] at H
            have c26b0 : (t164 == 14) = true := beq_iff_eq.mpr c26
            have c26b1 : (t164 != 14) = false := bne_eq_false_iff_eq.mpr c26
            clear c26
            by_cases c27 : t155 > (wrap64 (t156 + t157))
            · rw [if_pos c27] at H
              have c27b0 : decide ((wrap64 (t156 + t157)) < t155) = true := decide_eq_true c27
              clear c27
              obtain ⟨ji28, hji28⟩ : ∃ j_ : Int, (mx t159 t158) = j_ := ⟨_, rfl⟩
              replace H : (if t158 = 0 then (none) else (some (decide ((wrap64 ((wrap64 (t156 + t157)) + (ji28))) > (wrap64 (t160 - ((mx 0 (wrap64 (t160 - (wrap64 (t156 + t157))))) % t158))))))) = some r := by first | (rw [hji28] at H; exact H) | (simp only [hji28] at H ⊢; exact H)
              have hji28_ : (if t159 < t158 then t158 else t159) = ji28 := hji28
              obtain ⟨ji29, hji29⟩ : ∃ j_ : Int, (mx 0 (wrap64 (t160 - (wrap64 (t156 + t157))))) = j_ := ⟨_, rfl⟩
              replace H : (if t158 = 0 then (none) else (some (decide ((wrap64 ((wrap64 (t156 + t157)) + (ji28))) > (wrap64 (t160 - ((ji29) % t158))))))) = some r := by first | (rw [hji29] at H; exact H) | (simp only [hji29] at H ⊢; exact H)
              have hji29_ : (if 0 < (wrap64 (t160 - (wrap64 (t156 + t157)))) then (wrap64 (t160 - (wrap64 (t156 + t157)))) else 0) = ji29 := hji29
              by_cases c30 : t158 = 0
              · rw [if_pos c30] at H
                exact absurd H (by simp)
              · rw [if_neg c30] at H
                have c30b0 : (t158 == 0) = false := beq_eq_false_iff_ne.mpr c30
                have c30b1 : (t158 != 0) = true := bne_iff_ne.mpr c30
                obtain rfl := Option.some.inj H
                have hcz31_0 : wc.cell? ⟨gb161, 0, none⟩ = some (.int .i64 t155) := (blk_cell BK161.out 0).trans rfl
                have hcz31_1 : wc.cell? ⟨gb161, 1, none⟩ = some (.int .i64 t156) := (blk_cell BK161.out 1).trans rfl
                have hcz31_2 : wc.cell? ⟨gb161, 2, none⟩ = some (.int .i64 t157) := (blk_cell BK161.out 2).trans rfl
                have hcz31_3 : wc.cell? ⟨gb161, 3, none⟩ = some (.int .i64 t158) := (blk_cell BK161.out 3).trans rfl
                have hcz31_4 : wc.cell? ⟨gb161, 4, none⟩ = some (.int .i64 t159) := (blk_cell BK161.out 4).trans rfl
                have hcz31_5 : wc.cell? ⟨gb161, 5, none⟩ = some (.int .i64 t160) := (blk_cell BK161.out 5).trans rfl
                have hfz31_0 := blk_frozen BK161.out 0
                have hfz31_1 := blk_frozen BK161.out 1
                have hfz31_2 := blk_frozen BK161.out 2
                have hfz31_3 := blk_frozen BK161.out 3
                have hfz31_4 := blk_frozen BK161.out 4
                have hfz31_5 := blk_frozen BK161.out 5
                go_wp2
                repeat (go_quiet (fail); try go_wp2)
                go_ret
                exact ⟨by first | rfl | (simp [errW_none, errW_some] <;> rfl) | (simp only [← hji28, ← hji29]; first | rfl | (simp [errW_none, errW_some] <;> rfl)) | (simp [*, errW_none, errW_some] <;> rfl), by repeat (first | (with_reducible first | exact HB.out | apply below_alloc | apply pw_below_drewN | apply below_drew1 | refine below_set ?_ GE161.out) | exact HB.out)⟩
            · rw [if_neg c27] at H
              have c27b0 : decide ((wrap64 (t156 + t157)) < t155) = false := decide_eq_false c27
              clear c27
              obtain rfl := Option.some.inj H
              have hcz32_0 : wc.cell? ⟨gb161, 0, none⟩ = some (.int .i64 t155) := (blk_cell BK161.out 0).trans rfl
              have hcz32_1 : wc.cell? ⟨gb161, 1, none⟩ = some (.int .i64 t156) := (blk_cell BK161.out 1).trans rfl
              have hcz32_2 : wc.cell? ⟨gb161, 2, none⟩ = some (.int .i64 t157) := (blk_cell BK161.out 2).trans rfl
              have hcz32_3 : wc.cell? ⟨gb161, 3, none⟩ = some (.int .i64 t158) := (blk_cell BK161.out 3).trans rfl
              have hcz32_4 : wc.cell? ⟨gb161, 4, none⟩ = some (.int .i64 t159) := (blk_cell BK161.out 4).trans rfl
              have hcz32_5 : wc.cell? ⟨gb161, 5, none⟩ = some (.int .i64 t160) := (blk_cell BK161.out 5).trans rfl
              have hfz32_0 := blk_frozen BK161.out 0
              have hfz32_1 := blk_frozen BK161.out 1
              have hfz32_2 := blk_frozen BK161.out 2
              have hfz32_3 := blk_frozen BK161.out 3
              have hfz32_4 := blk_frozen BK161.out 4
              have hfz32_5 := blk_frozen BK161.out 5
              go_wp2
              repeat (go_quiet (fail); try go_wp2)
              go_ret
              exact ⟨by first | rfl | (simp [errW_none, errW_some] <;> rfl) | (simp [*, errW_none, errW_some] <;> rfl), by repeat (first | (with_reducible first | exact HB.out | apply below_alloc | apply pw_below_drewN | apply below_drew1 | refine below_set ?_ GE161.out) | exact HB.out)⟩
          · rw [if_neg c26] at H
            have c26b0 : (t164 == 14) = false := beq_eq_false_iff_ne.mpr c26
            have c26b1 : (t164 != 14) = true := bne_iff_ne.mpr c26
            have HC33 := Aside0.mk H
            clear H
            have hcz34_0 : wc.cell? ⟨gb161, 0, none⟩ = some (.int .i64 t155) := (blk_cell BK161.out 0).trans rfl
            have hcz34_1 : wc.cell? ⟨gb161, 1, none⟩ = some (.int .i64 t156) := (blk_cell BK161.out 1).trans rfl
            have hcz34_2 : wc.cell? ⟨gb161, 2, none⟩ = some (.int .i64 t157) := (blk_cell BK161.out 2).trans rfl
            have hcz34_3 : wc.cell? ⟨gb161, 3, none⟩ = some (.int .i64 t158) := (blk_cell BK161.out 3).trans rfl
            have hcz34_4 : wc.cell? ⟨gb161, 4, none⟩ = some (.int .i64 t159) := (blk_cell BK161.out 4).trans rfl
            have hcz34_5 : wc.cell? ⟨gb161, 5, none⟩ = some (.int .i64 t160) := (blk_cell BK161.out 5).trans rfl
            have hfz34_0 := blk_frozen BK161.out 0
            have hfz34_1 := blk_frozen BK161.out 1
            have hfz34_2 := blk_frozen BK161.out 2
            have hfz34_3 := blk_frozen BK161.out 3
            have hfz34_4 := blk_frozen BK161.out 4
            have hfz34_5 := blk_frozen BK161.out 5
            go_upto_region 11 with (fail)
            repeat (go_quiet (fail); go_upto_region 11 with (fail))
            go_cut [90] (fun v90 wc => ∃ (kq : Nat) (x90_32 : Bool), v90 = .bool x90_32 ∧ Aside0 (laws_FnOrder.j1 kq t162 t163 (wrap64 (t156 + t157)) x90_32 t155 t156 t157 t158 t159 t160 = some r) ∧ Aside0 (kq ≤ kj5) ∧ Aside0 (wc.heap[gb161]? = some (.cells #[.int .i64 t155, .int .i64 t156, .int .i64 t157, .int .i64 t158, .int .i64 t159, .int .i64 t160] 25 (0, 0))) ∧ Aside0 (Below w.heap.size w wc))
            case first =>
              have H := HC33.out
              clear HC33
              by_cases c35 : t164 = 0
              · rw [if_pos c35] at H
                have c35b0 : (t164 == 0) = true := beq_iff_eq.mpr c35
                have c35b1 : (t164 != 0) = false := bne_eq_false_iff_eq.mpr c35
                clear c35
                (first | rw [c35b0] | (simp only [i64_w, i32_w]; rw [c35b0]) | skip)
                by_cases c36 : t158 = 0
                · rw [if_pos c36] at H
                  exact absurd H (by simp)
                · rw [if_neg c36] at H
                  have c36b0 : (t158 == 0) = false := beq_eq_false_iff_ne.mpr c36
                  have c36b1 : (t158 != 0) = true := bne_iff_ne.mpr c36
                  by_cases c37 : (Int.tmod t162 t158) = 0
                  · rw [if_pos c37] at H
                    have c37b0 : ((Int.tmod t162 t158) == 0) = true := beq_iff_eq.mpr c37
                    have c37b1 : ((Int.tmod t162 t158) != 0) = false := bne_eq_false_iff_eq.mpr c37
                    clear c37
                    have H' := Aside0.mk H
                    clear H
                    have hcz38_0 : wc.cell? ⟨gb161, 0, none⟩ = some (.int .i64 t155) := (blk_cell BK161.out 0).trans rfl
                    have hcz38_1 : wc.cell? ⟨gb161, 1, none⟩ = some (.int .i64 t156) := (blk_cell BK161.out 1).trans rfl
                    have hcz38_2 : wc.cell? ⟨gb161, 2, none⟩ = some (.int .i64 t157) := (blk_cell BK161.out 2).trans rfl
                    have hcz38_3 : wc.cell? ⟨gb161, 3, none⟩ = some (.int .i64 t158) := (blk_cell BK161.out 3).trans rfl
                    have hcz38_4 : wc.cell? ⟨gb161, 4, none⟩ = some (.int .i64 t159) := (blk_cell BK161.out 4).trans rfl
                    have hcz38_5 : wc.cell? ⟨gb161, 5, none⟩ = some (.int .i64 t160) := (blk_cell BK161.out 5).trans rfl
                    have hfz38_0 := blk_frozen BK161.out 0
                    have hfz38_1 := blk_frozen BK161.out 1
                    have hfz38_2 := blk_frozen BK161.out 2
                    have hfz38_3 := blk_frozen BK161.out 3
                    have hfz38_4 := blk_frozen BK161.out 4
                    have hfz38_5 := blk_frozen BK161.out 5
                    go_wp2
                    repeat (go_quiet (fail); try go_wp2)
                    go_meet
                    case rel => exact ⟨_, (decide (t162 < 0)), (by first | rfl | (simp; done) | (simp [*]; done)), H', ⟨by have := HJ5.out; first | omega | exact Nat.le_refl _⟩, ⟨by (with_reducible repeat (first | refine blk_drewN ?_ _ | refine blk_drew ?_ | refine blk_alloc ?_ _)); exact BK161.out⟩, ⟨by repeat (first | (with_reducible first | exact HB.out | apply below_alloc | apply pw_below_drewN | apply below_drew1 | refine below_set ?_ GE161.out) | exact HB.out)⟩⟩
                  · rw [if_neg c37] at H
                    have c37b0 : ((Int.tmod t162 t158) == 0) = false := beq_eq_false_iff_ne.mpr c37
                    have c37b1 : ((Int.tmod t162 t158) != 0) = true := bne_iff_ne.mpr c37
                    have H' := Aside0.mk H
                    clear H
                    have hcz39_0 : wc.cell? ⟨gb161, 0, none⟩ = some (.int .i64 t155) := (blk_cell BK161.out 0).trans rfl
                    have hcz39_1 : wc.cell? ⟨gb161, 1, none⟩ = some (.int .i64 t156) := (blk_cell BK161.out 1).trans rfl
                    have hcz39_2 : wc.cell? ⟨gb161, 2, none⟩ = some (.int .i64 t157) := (blk_cell BK161.out 2).trans rfl
                    have hcz39_3 : wc.cell? ⟨gb161, 3, none⟩ = some (.int .i64 t158) := (blk_cell BK161.out 3).trans rfl
                    have hcz39_4 : wc.cell? ⟨gb161, 4, none⟩ = some (.int .i64 t159) := (blk_cell BK161.out 4).trans rfl
                    have hcz39_5 : wc.cell? ⟨gb161, 5, none⟩ = some (.int .i64 t160) := (blk_cell BK161.out 5).trans rfl
                    have hfz39_0 := blk_frozen BK161.out 0
                    have hfz39_1 := blk_frozen BK161.out 1
                    have hfz39_2 := blk_frozen BK161.out 2
                    have hfz39_3 := blk_frozen BK161.out 3
                    have hfz39_4 := blk_frozen BK161.out 4
                    have hfz39_5 := blk_frozen BK161.out 5
                    go_wp2
                    repeat (go_quiet (fail); try go_wp2)
                    go_meet
                    case rel => exact ⟨_, (true), (by first | rfl | (simp; done) | (simp [*]; done)), H', ⟨by have := HJ5.out; first | omega | exact Nat.le_refl _⟩, ⟨by (with_reducible repeat (first | refine blk_drewN ?_ _ | refine blk_drew ?_ | refine blk_alloc ?_ _)); exact BK161.out⟩, ⟨by repeat (first | (with_reducible first | exact HB.out | apply below_alloc | apply pw_below_drewN | apply below_drew1 | refine below_set ?_ GE161.out) | exact HB.out)⟩⟩
              · rw [if_neg c35] at H
                have c35b0 : (t164 == 0) = false := beq_eq_false_iff_ne.mpr c35
                have c35b1 : (t164 != 0) = true := bne_iff_ne.mpr c35
                (first | rw [c35b0] | (simp only [i64_w, i32_w]; rw [c35b0]) | skip)
                have H' := Aside0.mk H
                clear H
                go_wp2
                repeat (go_quiet (fail); try go_wp2)
                go_meet
                case rel => exact ⟨_, (true), (by first | rfl | (simp; done) | (simp [*]; done)), H', ⟨by have := HJ5.out; first | omega | exact Nat.le_refl _⟩, ⟨by (with_reducible repeat (first | refine blk_drewN ?_ _ | refine blk_drew ?_ | refine blk_alloc ?_ _)); exact BK161.out⟩, ⟨by repeat (first | (with_reducible first | exact HB.out | apply below_alloc | apply pw_below_drewN | apply below_drew1 | refine below_set ?_ GE161.out) | exact HB.out)⟩⟩
            case rest =>
              clear HC33
              try clear c1
              try clear c2
              try clear c2b0
              try clear c2b1
              try clear p2
              try clear c3
              try clear c6
              try clear p6
              try clear c14
              try clear c15
              try clear c15b0
              try clear c15b1
              try clear c16
              try clear c16b0
              try clear c16b1
              try clear c25
              try clear c26
              try clear c26b0
              try clear c26b1
              try clear c27
              try clear c27b0
              try clear c30
              try clear c30b0
              try clear c30b1
              try clear c35
              try clear c35b0
              try clear c35b1
              try clear c36
              try clear c36b0
              try clear c36b1
              try clear c37
              try clear c37b0
              try clear c37b1
              try clear hcz11_0
              try clear hcz11_1
              try clear hcz11_2
              try clear hcz11_3
              try clear hcz11_4
              try clear hcz11_5
              try clear hcz17_0
              try clear hcz17_1
              try clear hcz17_2
              try clear hcz17_3
              try clear hcz17_4
              try clear hcz17_5
              try clear hcz19_0
              try clear hcz19_1
              try clear hcz19_2
              try clear hcz19_3
              try clear hcz19_4
              try clear hcz19_5
              try clear hcz21_0
              try clear hcz21_1
              try clear hcz21_2
              try clear hcz21_3
              try clear hcz21_4
              try clear hcz21_5
              try clear hcz23_0
              try clear hcz23_1
              try clear hcz23_2
              try clear hcz23_3
              try clear hcz23_4
              try clear hcz23_5
              try clear hcz31_0
              try clear hcz31_1
              try clear hcz31_2
              try clear hcz31_3
              try clear hcz31_4
              try clear hcz31_5
              try clear hcz32_0
              try clear hcz32_1
              try clear hcz32_2
              try clear hcz32_3
              try clear hcz32_4
              try clear hcz32_5
              try clear hcz34_0
              try clear hcz34_1
              try clear hcz34_2
              try clear hcz34_3
              try clear hcz34_4
              try clear hcz34_5
              try clear hcz38_0
              try clear hcz38_1
              try clear hcz38_2
              try clear hcz38_3
              try clear hcz38_4
              try clear hcz38_5
              try clear hcz39_0
              try clear hcz39_1
              try clear hcz39_2
              try clear hcz39_3
              try clear hcz39_4
              try clear hcz39_5
              try clear hcz9_0
              try clear hcz9_1
              try clear hcz9_2
              try clear hcz9_3
              try clear hcz9_4
              try clear hcz9_5
              try clear hfz11_0
              try clear hfz11_1
              try clear hfz11_2
              try clear hfz11_3
              try clear hfz11_4
              try clear hfz11_5
              try clear hfz17_0
              try clear hfz17_1
              try clear hfz17_2
              try clear hfz17_3
              try clear hfz17_4
              try clear hfz17_5
              try clear hfz19_0
              try clear hfz19_1
              try clear hfz19_2
              try clear hfz19_3
              try clear hfz19_4
              try clear hfz19_5
              try clear hfz21_0
              try clear hfz21_1
              try clear hfz21_2
              try clear hfz21_3
              try clear hfz21_4
              try clear hfz21_5
              try clear hfz23_0
              try clear hfz23_1
              try clear hfz23_2
              try clear hfz23_3
              try clear hfz23_4
              try clear hfz23_5
              try clear hfz31_0
              try clear hfz31_1
              try clear hfz31_2
              try clear hfz31_3
              try clear hfz31_4
              try clear hfz31_5
              try clear hfz32_0
              try clear hfz32_1
              try clear hfz32_2
              try clear hfz32_3
              try clear hfz32_4
              try clear hfz32_5
              try clear hfz34_0
              try clear hfz34_1
              try clear hfz34_2
              try clear hfz34_3
              try clear hfz34_4
              try clear hfz34_5
              try clear hfz38_0
              try clear hfz38_1
              try clear hfz38_2
              try clear hfz38_3
              try clear hfz38_4
              try clear hfz38_5
              try clear hfz39_0
              try clear hfz39_1
              try clear hfz39_2
              try clear hfz39_3
              try clear hfz39_4
              try clear hfz39_5
              try clear hfz9_0
              try clear hfz9_1
              try clear hfz9_2
              try clear hfz9_3
              try clear hfz9_4
              try clear hfz9_5
              try clear p2
              obtain ⟨kq, x90_32, rfl, HA, HJ32, BK161, HB⟩ := hcut
              cases kq with
              | zero => exact absurd HA.out (by simp [laws_FnOrder.j1])
              | succ kj32 =>
                have H := HA.out
                clear HA
                simp only [laws_FnOrder.j1] at H
                by_cases c40 : x90_32 = true
                · subst c40
                  have H1 : (some false) = some r := by rw [if_pos rfl] at H; exact H
                  clear H
                  have H := H1
                  clear H1
                  obtain rfl := Option.some.inj H
                  go_wp2
                  repeat (go_quiet (fail); try go_wp2)
                  go_ret
                  exact ⟨by first | rfl | (simp [errW_none, errW_some] <;> rfl) | (simp [*, errW_none, errW_some] <;> rfl), by repeat (first | (with_reducible first | exact HB.out | apply below_alloc | apply pw_below_drewN | apply below_drew1 | refine below_set ?_ GE161.out) | exact HB.out)⟩
                · replace c40 := Bool.eq_false_iff.mpr c40
                  subst c40
                  have H1 : (if t162 = 0 then (if t155 ≤ (wrap64 (t156 + t157)) then (some (!t163)) else (some false)) else (if t162 < t159 then (laws_FnOrder.j2 kj32 t162 t163 (wrap64 (t156 + t157)) true t155 t156 t157 t158 t159 t160) else (laws_FnOrder.j2 kj32 t162 t163 (wrap64 (t156 + t157)) (decide ((wrap64 ((wrap64 (t156 + t157)) + t162)) > t160)) t155 t156 t157 t158 t159 t160))) = some r := by rw [if_neg (show ¬ (false = true) by decide)] at H; exact H
                  clear H
                  have H := H1
                  clear H1
                  by_cases c41 : t162 = 0
                  · rw [if_pos c41] at H
                    have c41b0 : (t162 == 0) = true := beq_iff_eq.mpr c41
                    have c41b1 : (t162 != 0) = false := bne_eq_false_iff_eq.mpr c41
                    clear c41
                    by_cases c42 : t155 ≤ (wrap64 (t156 + t157))
                    · rw [if_pos c42] at H
                      have c42b0 : decide (t155 ≤ (wrap64 (t156 + t157))) = true := decide_eq_true c42
                      clear c42
                      obtain rfl := Option.some.inj H
                      have hcz43_0 : wc.cell? ⟨gb161, 0, none⟩ = some (.int .i64 t155) := (blk_cell BK161.out 0).trans rfl
                      have hcz43_1 : wc.cell? ⟨gb161, 1, none⟩ = some (.int .i64 t156) := (blk_cell BK161.out 1).trans rfl
                      have hcz43_2 : wc.cell? ⟨gb161, 2, none⟩ = some (.int .i64 t157) := (blk_cell BK161.out 2).trans rfl
                      have hcz43_3 : wc.cell? ⟨gb161, 3, none⟩ = some (.int .i64 t158) := (blk_cell BK161.out 3).trans rfl
                      have hcz43_4 : wc.cell? ⟨gb161, 4, none⟩ = some (.int .i64 t159) := (blk_cell BK161.out 4).trans rfl
                      have hcz43_5 : wc.cell? ⟨gb161, 5, none⟩ = some (.int .i64 t160) := (blk_cell BK161.out 5).trans rfl
                      have hfz43_0 := blk_frozen BK161.out 0
                      have hfz43_1 := blk_frozen BK161.out 1
                      have hfz43_2 := blk_frozen BK161.out 2
                      have hfz43_3 := blk_frozen BK161.out 3
                      have hfz43_4 := blk_frozen BK161.out 4
                      have hfz43_5 := blk_frozen BK161.out 5
                      go_wp2
                      repeat (go_quiet (fail); try go_wp2)
                      go_ret
                      exact ⟨by first | rfl | (simp [errW_none, errW_some] <;> rfl) | (simp [*, errW_none, errW_some] <;> rfl), by repeat (first | (with_reducible first | exact HB.out | apply below_alloc | apply pw_below_drewN | apply below_drew1 | refine below_set ?_ GE161.out) | exact HB.out)⟩
                    · rw [if_neg c42] at H
                      have c42b0 : decide (t155 ≤ (wrap64 (t156 + t157))) = false := decide_eq_false c42
                      clear c42
                      obtain rfl := Option.some.inj H
                      have hcz44_0 : wc.cell? ⟨gb161, 0, none⟩ = some (.int .i64 t155) := (blk_cell BK161.out 0).trans rfl
                      have hcz44_1 : wc.cell? ⟨gb161, 1, none⟩ = some (.int .i64 t156) := (blk_cell BK161.out 1).trans rfl
                      have hcz44_2 : wc.cell? ⟨gb161, 2, none⟩ = some (.int .i64 t157) := (blk_cell BK161.out 2).trans rfl
                      have hcz44_3 : wc.cell? ⟨gb161, 3, none⟩ = some (.int .i64 t158) := (blk_cell BK161.out 3).trans rfl
                      have hcz44_4 : wc.cell? ⟨gb161, 4, none⟩ = some (.int .i64 t159) := (blk_cell BK161.out 4).trans rfl
                      have hcz44_5 : wc.cell? ⟨gb161, 5, none⟩ = some (.int .i64 t160) := (blk_cell BK161.out 5).trans rfl
                      have hfz44_0 := blk_frozen BK161.out 0
                      have hfz44_1 := blk_frozen BK161.out 1
                      have hfz44_2 := blk_frozen BK161.out 2
                      have hfz44_3 := blk_frozen BK161.out 3
                      have hfz44_4 := blk_frozen BK161.out 4
                      have hfz44_5 := blk_frozen BK161.out 5
                      go_wp2
                      repeat (go_quiet (fail); try go_wp2)
                      go_ret
                      exact ⟨by first | rfl | (simp [errW_none, errW_some] <;> rfl) | (simp [*, errW_none, errW_some] <;> rfl), by repeat (first | (with_reducible first | exact HB.out | apply below_alloc | apply pw_below_drewN | apply below_drew1 | refine below_set ?_ GE161.out) | exact HB.out)⟩
                  · rw [if_neg c41] at H
                    have c41b0 : (t162 == 0) = false := beq_eq_false_iff_ne.mpr c41
                    have c41b1 : (t162 != 0) = true := bne_iff_ne.mpr c41
                    have HC45 := Aside0.mk H
                    clear H
                    go_upto_region 15 with (fail)
                    repeat (go_quiet (fail); go_upto_region 15 with (fail))
                    go_cut [112] (fun v112 wc => ∃ (kq : Nat) (x112_44 : Bool), v112 = .bool x112_44 ∧ Aside0 (laws_FnOrder.j2 kq t162 t163 (wrap64 (t156 + t157)) x112_44 t155 t156 t157 t158 t159 t160 = some r) ∧ Aside0 (kq ≤ kj32) ∧ Aside0 (wc.heap[gb161]? = some (.cells #[.int .i64 t155, .int .i64 t156, .int .i64 t157, .int .i64 t158, .int .i64 t159, .int .i64 t160] 25 (0, 0))) ∧ Aside0 (Below w.heap.size w wc))
                    case first =>
                      have H := HC45.out
                      clear HC45
                      by_cases c46 : t162 < t159
                      · rw [if_pos c46] at H
                        have c46b0 : decide (t162 < t159) = true := decide_eq_true c46
                        clear c46
                        (first | rw [c46b0] | (simp only [i64_w, i32_w]; rw [c46b0]) | skip)
                        have H' := Aside0.mk H
                        clear H
                        have hcz47_0 : wc.cell? ⟨gb161, 0, none⟩ = some (.int .i64 t155) := (blk_cell BK161.out 0).trans rfl
                        have hcz47_1 : wc.cell? ⟨gb161, 1, none⟩ = some (.int .i64 t156) := (blk_cell BK161.out 1).trans rfl
                        have hcz47_2 : wc.cell? ⟨gb161, 2, none⟩ = some (.int .i64 t157) := (blk_cell BK161.out 2).trans rfl
                        have hcz47_3 : wc.cell? ⟨gb161, 3, none⟩ = some (.int .i64 t158) := (blk_cell BK161.out 3).trans rfl
                        have hcz47_4 : wc.cell? ⟨gb161, 4, none⟩ = some (.int .i64 t159) := (blk_cell BK161.out 4).trans rfl
                        have hcz47_5 : wc.cell? ⟨gb161, 5, none⟩ = some (.int .i64 t160) := (blk_cell BK161.out 5).trans rfl
                        have hfz47_0 := blk_frozen BK161.out 0
                        have hfz47_1 := blk_frozen BK161.out 1
                        have hfz47_2 := blk_frozen BK161.out 2
                        have hfz47_3 := blk_frozen BK161.out 3
                        have hfz47_4 := blk_frozen BK161.out 4
                        have hfz47_5 := blk_frozen BK161.out 5
                        go_wp2
                        repeat (go_quiet (fail); try go_wp2)
                        go_meet
                        case rel => exact ⟨_, (true), (by first | rfl | (simp; done) | (simp [*]; done)), H', ⟨by have := HJ5.out; have := HJ32.out; first | omega | exact Nat.le_refl _⟩, ⟨by (with_reducible repeat (first | refine blk_drewN ?_ _ | refine blk_drew ?_ | refine blk_alloc ?_ _)); exact BK161.out⟩, ⟨by repeat (first | (with_reducible first | exact HB.out | apply below_alloc | apply pw_below_drewN | apply below_drew1 | refine below_set ?_ GE161.out) | exact HB.out)⟩⟩
                      · rw [if_neg c46] at H
                        have c46b0 : decide (t162 < t159) = false := decide_eq_false c46
                        clear c46
                        (first | rw [c46b0] | (simp only [i64_w, i32_w]; rw [c46b0]) | skip)
                        have H' := Aside0.mk H
                        clear H
                        have hcz48_0 : wc.cell? ⟨gb161, 0, none⟩ = some (.int .i64 t155) := (blk_cell BK161.out 0).trans rfl
                        have hcz48_1 : wc.cell? ⟨gb161, 1, none⟩ = some (.int .i64 t156) := (blk_cell BK161.out 1).trans rfl
                        have hcz48_2 : wc.cell? ⟨gb161, 2, none⟩ = some (.int .i64 t157) := (blk_cell BK161.out 2).trans rfl
                        have hcz48_3 : wc.cell? ⟨gb161, 3, none⟩ = some (.int .i64 t158) := (blk_cell BK161.out 3).trans rfl
                        have hcz48_4 : wc.cell? ⟨gb161, 4, none⟩ = some (.int .i64 t159) := (blk_cell BK161.out 4).trans rfl
                        have hcz48_5 : wc.cell? ⟨gb161, 5, none⟩ = some (.int .i64 t160) := (blk_cell BK161.out 5).trans rfl
                        have hfz48_0 := blk_frozen BK161.out 0
                        have hfz48_1 := blk_frozen BK161.out 1
                        have hfz48_2 := blk_frozen BK161.out 2
                        have hfz48_3 := blk_frozen BK161.out 3
                        have hfz48_4 := blk_frozen BK161.out 4
                        have hfz48_5 := blk_frozen BK161.out 5
                        go_wp2
                        repeat (go_quiet (fail); try go_wp2)
                        go_meet
                        case rel => exact ⟨_, (decide ((wrap64 ((wrap64 (t156 + t157)) + t162)) > t160)), (by first | rfl | (simp; done) | (simp [*]; done)), H', ⟨by have := HJ5.out; have := HJ32.out; first | omega | exact Nat.le_refl _⟩, ⟨by (with_reducible repeat (first | refine blk_drewN ?_ _ | refine blk_drew ?_ | refine blk_alloc ?_ _)); exact BK161.out⟩, ⟨by repeat (first | (with_reducible first | exact HB.out | apply below_alloc | apply pw_below_drewN | apply below_drew1 | refine below_set ?_ GE161.out) | exact HB.out)⟩⟩
                    case rest =>
                      clear HC45
                      try clear c1
                      try clear c2
                      try clear c2b0
                      try clear c2b1
                      try clear p2
                      try clear c3
                      try clear c4
                      try clear c6
                      try clear p6
                      try clear c14
                      try clear c15
                      try clear c15b0
                      try clear c15b1
                      try clear c16
                      try clear c16b0
                      try clear c16b1
                      try clear c25
                      try clear c26
                      try clear c26b0
                      try clear c26b1
                      try clear c27
                      try clear c27b0
                      try clear c30
                      try clear c30b0
                      try clear c30b1
                      try clear c35
                      try clear c35b0
                      try clear c35b1
                      try clear c36
                      try clear c36b0
                      try clear c36b1
                      try clear c37
                      try clear c37b0
                      try clear c37b1
                      try clear c40
                      try clear c41
                      try clear c41b0
                      try clear c41b1
                      try clear c42
                      try clear c42b0
                      try clear c46
                      try clear c46b0
                      try clear hcz11_0
                      try clear hcz11_1
                      try clear hcz11_2
                      try clear hcz11_3
                      try clear hcz11_4
                      try clear hcz11_5
                      try clear hcz17_0
                      try clear hcz17_1
                      try clear hcz17_2
                      try clear hcz17_3
                      try clear hcz17_4
                      try clear hcz17_5
                      try clear hcz19_0
                      try clear hcz19_1
                      try clear hcz19_2
                      try clear hcz19_3
                      try clear hcz19_4
                      try clear hcz19_5
                      try clear hcz21_0
                      try clear hcz21_1
                      try clear hcz21_2
                      try clear hcz21_3
                      try clear hcz21_4
                      try clear hcz21_5
                      try clear hcz23_0
                      try clear hcz23_1
                      try clear hcz23_2
                      try clear hcz23_3
                      try clear hcz23_4
                      try clear hcz23_5
                      try clear hcz31_0
                      try clear hcz31_1
                      try clear hcz31_2
                      try clear hcz31_3
                      try clear hcz31_4
                      try clear hcz31_5
                      try clear hcz32_0
                      try clear hcz32_1
                      try clear hcz32_2
                      try clear hcz32_3
                      try clear hcz32_4
                      try clear hcz32_5
                      try clear hcz34_0
                      try clear hcz34_1
                      try clear hcz34_2
                      try clear hcz34_3
                      try clear hcz34_4
                      try clear hcz34_5
                      try clear hcz38_0
                      try clear hcz38_1
                      try clear hcz38_2
                      try clear hcz38_3
                      try clear hcz38_4
                      try clear hcz38_5
                      try clear hcz39_0
                      try clear hcz39_1
                      try clear hcz39_2
                      try clear hcz39_3
                      try clear hcz39_4
                      try clear hcz39_5
                      try clear hcz43_0
                      try clear hcz43_1
                      try clear hcz43_2
                      try clear hcz43_3
                      try clear hcz43_4
                      try clear hcz43_5
                      try clear hcz44_0
                      try clear hcz44_1
                      try clear hcz44_2
                      try clear hcz44_3
                      try clear hcz44_4
                      try clear hcz44_5
                      try clear hcz47_0
                      try clear hcz47_1
                      try clear hcz47_2
                      try clear hcz47_3
                      try clear hcz47_4
                      try clear hcz47_5
                      try clear hcz48_0
                      try clear hcz48_1
                      try clear hcz48_2
                      try clear hcz48_3
                      try clear hcz48_4
                      try clear hcz48_5
                      try clear hcz9_0
                      try clear hcz9_1
                      try clear hcz9_2
                      try clear hcz9_3
                      try clear hcz9_4
                      try clear hcz9_5
                      try clear hfz11_0
                      try clear hfz11_1
                      try clear hfz11_2
                      try clear hfz11_3
                      try clear hfz11_4
                      try clear hfz11_5
                      try clear hfz17_0
                      try clear hfz17_1
                      try clear hfz17_2
                      try clear hfz17_3
                      try clear hfz17_4
                      try clear hfz17_5
                      try clear hfz19_0
                      try clear hfz19_1
                      try clear hfz19_2
                      try clear hfz19_3
                      try clear hfz19_4
                      try clear hfz19_5
                      try clear hfz21_0
                      try clear hfz21_1
                      try clear hfz21_2
                      try clear hfz21_3
                      try clear hfz21_4
                      try clear hfz21_5
                      try clear hfz23_0
                      try clear hfz23_1
                      try clear hfz23_2
                      try clear hfz23_3
                      try clear hfz23_4
                      try clear hfz23_5
                      try clear hfz31_0
                      try clear hfz31_1
                      try clear hfz31_2
                      try clear hfz31_3
                      try clear hfz31_4
                      try clear hfz31_5
                      try clear hfz32_0
                      try clear hfz32_1
                      try clear hfz32_2
                      try clear hfz32_3
                      try clear hfz32_4
                      try clear hfz32_5
                      try clear hfz34_0
                      try clear hfz34_1
                      try clear hfz34_2
                      try clear hfz34_3
                      try clear hfz34_4
                      try clear hfz34_5
                      try clear hfz38_0
                      try clear hfz38_1
                      try clear hfz38_2
                      try clear hfz38_3
                      try clear hfz38_4
                      try clear hfz38_5
                      try clear hfz39_0
                      try clear hfz39_1
                      try clear hfz39_2
                      try clear hfz39_3
                      try clear hfz39_4
                      try clear hfz39_5
                      try clear hfz43_0
                      try clear hfz43_1
                      try clear hfz43_2
                      try clear hfz43_3
                      try clear hfz43_4
                      try clear hfz43_5
                      try clear hfz44_0
                      try clear hfz44_1
                      try clear hfz44_2
                      try clear hfz44_3
                      try clear hfz44_4
                      try clear hfz44_5
                      try clear hfz47_0
                      try clear hfz47_1
                      try clear hfz47_2
                      try clear hfz47_3
                      try clear hfz47_4
                      try clear hfz47_5
                      try clear hfz48_0
                      try clear hfz48_1
                      try clear hfz48_2
                      try clear hfz48_3
                      try clear hfz48_4
                      try clear hfz48_5
                      try clear hfz9_0
                      try clear hfz9_1
                      try clear hfz9_2
                      try clear hfz9_3
                      try clear hfz9_4
                      try clear hfz9_5
                      try clear p2
                      try clear p6
                      obtain ⟨kq, x112_44, rfl, HA, HJ44, BK161, HB⟩ := hcut
                      cases kq with
                      | zero => exact absurd HA.out (by simp [laws_FnOrder.j2])
                      | succ kj44 =>
                        have H := HA.out
                        clear HA
                        simp only [laws_FnOrder.j2] at H
                        by_cases c49 : x112_44 = true
                        · subst c49
                          have H1 : (some false) = some r := by rw [if_pos rfl] at H; exact H
                          clear H
                          have H := H1
                          clear H1
                          obtain rfl := Option.some.inj H
                          go_wp2
                          repeat (go_quiet (fail); try go_wp2)
                          go_ret
                          exact ⟨by first | rfl | (simp [errW_none, errW_some] <;> rfl) | (simp [*, errW_none, errW_some] <;> rfl), by repeat (first | (with_reducible first | exact HB.out | apply below_alloc | apply pw_below_drewN | apply below_drew1 | refine below_set ?_ GE161.out) | exact HB.out)⟩
                        · replace c49 := Bool.eq_false_iff.mpr c49
                          subst c49
                          have H1 : (if t163 = true then (some (decide ((wrap64 ((wrap64 ((wrap64 (t156 + t157)) + t162)) + t158)) > t160))) else (if (wrap64 ((wrap64 (t156 + t157)) + t162)) ≥ t155 then (if (wrap64 ((wrap64 ((wrap64 (t156 + t157)) + t162)) - t158)) < t155 then (some true) else (some (decide ((wrap64 (t162 - t158)) < t159)))) else (some false))) = some r := by rw [if_neg (show ¬ (false = true) by decide)] at H; exact H
                          clear H
                          have H := H1
                          clear H1
                          by_cases c50 : t163 = true
                          · subst c50
                            have H1 : (some (decide ((wrap64 ((wrap64 ((wrap64 (t156 + t157)) + t162)) + t158)) > t160))) = some r := by rw [if_pos rfl] at H; exact H
                            clear H
                            have H := H1
                            clear H1
                            obtain rfl := Option.some.inj H
                            have hcz51_0 : wc.cell? ⟨gb161, 0, none⟩ = some (.int .i64 t155) := (blk_cell BK161.out 0).trans rfl
                            have hcz51_1 : wc.cell? ⟨gb161, 1, none⟩ = some (.int .i64 t156) := (blk_cell BK161.out 1).trans rfl
                            have hcz51_2 : wc.cell? ⟨gb161, 2, none⟩ = some (.int .i64 t157) := (blk_cell BK161.out 2).trans rfl
                            have hcz51_3 : wc.cell? ⟨gb161, 3, none⟩ = some (.int .i64 t158) := (blk_cell BK161.out 3).trans rfl
                            have hcz51_4 : wc.cell? ⟨gb161, 4, none⟩ = some (.int .i64 t159) := (blk_cell BK161.out 4).trans rfl
                            have hcz51_5 : wc.cell? ⟨gb161, 5, none⟩ = some (.int .i64 t160) := (blk_cell BK161.out 5).trans rfl
                            have hfz51_0 := blk_frozen BK161.out 0
                            have hfz51_1 := blk_frozen BK161.out 1
                            have hfz51_2 := blk_frozen BK161.out 2
                            have hfz51_3 := blk_frozen BK161.out 3
                            have hfz51_4 := blk_frozen BK161.out 4
                            have hfz51_5 := blk_frozen BK161.out 5
                            go_wp2
                            repeat (go_quiet (fail); try go_wp2)
                            go_ret
                            exact ⟨by first | rfl | (simp [errW_none, errW_some] <;> rfl) | (simp [*, errW_none, errW_some] <;> rfl), by repeat (first | (with_reducible first | exact HB.out | apply below_alloc | apply pw_below_drewN | apply below_drew1 | refine below_set ?_ GE161.out) | exact HB.out)⟩
                          · replace c50 := Bool.eq_false_iff.mpr c50
                            subst c50
                            have H1 : (if (wrap64 ((wrap64 (t156 + t157)) + t162)) ≥ t155 then (if (wrap64 ((wrap64 ((wrap64 (t156 + t157)) + t162)) - t158)) < t155 then (some true) else (some (decide ((wrap64 (t162 - t158)) < t159)))) else (some false)) = some r := by rw [if_neg (show ¬ (false = true) by decide)] at H; exact H
                            clear H
                            have H := H1
                            clear H1
                            by_cases c52 : (wrap64 ((wrap64 (t156 + t157)) + t162)) ≥ t155
                            · rw [if_pos c52] at H
                              have c52b0 : decide (t155 ≤ (wrap64 ((wrap64 (t156 + t157)) + t162))) = true := decide_eq_true c52
                              clear c52
                              by_cases c53 : (wrap64 ((wrap64 ((wrap64 (t156 + t157)) + t162)) - t158)) < t155
                              · rw [if_pos c53] at H
                                have c53b0 : decide ((wrap64 ((wrap64 ((wrap64 (t156 + t157)) + t162)) - t158)) < t155) = true := decide_eq_true c53
                                clear c53
                                obtain rfl := Option.some.inj H
                                have hcz54_0 : wc.cell? ⟨gb161, 0, none⟩ = some (.int .i64 t155) := (blk_cell BK161.out 0).trans rfl
                                have hcz54_1 : wc.cell? ⟨gb161, 1, none⟩ = some (.int .i64 t156) := (blk_cell BK161.out 1).trans rfl
                                have hcz54_2 : wc.cell? ⟨gb161, 2, none⟩ = some (.int .i64 t157) := (blk_cell BK161.out 2).trans rfl
                                have hcz54_3 : wc.cell? ⟨gb161, 3, none⟩ = some (.int .i64 t158) := (blk_cell BK161.out 3).trans rfl
                                have hcz54_4 : wc.cell? ⟨gb161, 4, none⟩ = some (.int .i64 t159) := (blk_cell BK161.out 4).trans rfl
                                have hcz54_5 : wc.cell? ⟨gb161, 5, none⟩ = some (.int .i64 t160) := (blk_cell BK161.out 5).trans rfl
                                have hfz54_0 := blk_frozen BK161.out 0
                                have hfz54_1 := blk_frozen BK161.out 1
                                have hfz54_2 := blk_frozen BK161.out 2
                                have hfz54_3 := blk_frozen BK161.out 3
                                have hfz54_4 := blk_frozen BK161.out 4
                                have hfz54_5 := blk_frozen BK161.out 5
                                go_wp2
                                repeat (go_quiet (fail); try go_wp2)
                                go_ret
                                exact ⟨by first | rfl | (simp [errW_none, errW_some] <;> rfl) | (simp [*, errW_none, errW_some] <;> rfl), by repeat (first | (with_reducible first | exact HB.out | apply below_alloc | apply pw_below_drewN | apply below_drew1 | refine below_set ?_ GE161.out) | exact HB.out)⟩
                              · rw [if_neg c53] at H
                                have c53b0 : decide ((wrap64 ((wrap64 ((wrap64 (t156 + t157)) + t162)) - t158)) < t155) = false := decide_eq_false c53
                                clear c53
                                obtain rfl := Option.some.inj H
                                have hcz55_0 : wc.cell? ⟨gb161, 0, none⟩ = some (.int .i64 t155) := (blk_cell BK161.out 0).trans rfl
                                have hcz55_1 : wc.cell? ⟨gb161, 1, none⟩ = some (.int .i64 t156) := (blk_cell BK161.out 1).trans rfl
                                have hcz55_2 : wc.cell? ⟨gb161, 2, none⟩ = some (.int .i64 t157) := (blk_cell BK161.out 2).trans rfl
                                have hcz55_3 : wc.cell? ⟨gb161, 3, none⟩ = some (.int .i64 t158) := (blk_cell BK161.out 3).trans rfl
                                have hcz55_4 : wc.cell? ⟨gb161, 4, none⟩ = some (.int .i64 t159) := (blk_cell BK161.out 4).trans rfl
                                have hcz55_5 : wc.cell? ⟨gb161, 5, none⟩ = some (.int .i64 t160) := (blk_cell BK161.out 5).trans rfl
                                have hfz55_0 := blk_frozen BK161.out 0
                                have hfz55_1 := blk_frozen BK161.out 1
                                have hfz55_2 := blk_frozen BK161.out 2
                                have hfz55_3 := blk_frozen BK161.out 3
                                have hfz55_4 := blk_frozen BK161.out 4
                                have hfz55_5 := blk_frozen BK161.out 5
                                go_wp2
                                repeat (go_quiet (fail); try go_wp2)
                                go_ret
                                exact ⟨by first | rfl | (simp [errW_none, errW_some] <;> rfl) | (simp [*, errW_none, errW_some] <;> rfl), by repeat (first | (with_reducible first | exact HB.out | apply below_alloc | apply pw_below_drewN | apply below_drew1 | refine below_set ?_ GE161.out) | exact HB.out)⟩
                            · rw [if_neg c52] at H
                              have c52b0 : decide (t155 ≤ (wrap64 ((wrap64 (t156 + t157)) + t162))) = false := decide_eq_false c52
                              clear c52
                              obtain rfl := Option.some.inj H
                              have hcz56_0 : wc.cell? ⟨gb161, 0, none⟩ = some (.int .i64 t155) := (blk_cell BK161.out 0).trans rfl
                              have hcz56_1 : wc.cell? ⟨gb161, 1, none⟩ = some (.int .i64 t156) := (blk_cell BK161.out 1).trans rfl
                              have hcz56_2 : wc.cell? ⟨gb161, 2, none⟩ = some (.int .i64 t157) := (blk_cell BK161.out 2).trans rfl
                              have hcz56_3 : wc.cell? ⟨gb161, 3, none⟩ = some (.int .i64 t158) := (blk_cell BK161.out 3).trans rfl
                              have hcz56_4 : wc.cell? ⟨gb161, 4, none⟩ = some (.int .i64 t159) := (blk_cell BK161.out 4).trans rfl
                              have hcz56_5 : wc.cell? ⟨gb161, 5, none⟩ = some (.int .i64 t160) := (blk_cell BK161.out 5).trans rfl
                              have hfz56_0 := blk_frozen BK161.out 0
                              have hfz56_1 := blk_frozen BK161.out 1
                              have hfz56_2 := blk_frozen BK161.out 2
                              have hfz56_3 := blk_frozen BK161.out 3
                              have hfz56_4 := blk_frozen BK161.out 4
                              have hfz56_5 := blk_frozen BK161.out 5
                              go_wp2
                              repeat (go_quiet (fail); try go_wp2)
                              go_ret
                              exact ⟨by first | rfl | (simp [errW_none, errW_some] <;> rfl) | (simp [*, errW_none, errW_some] <;> rfl), by repeat (first | (with_reducible first | exact HB.out | apply below_alloc | apply pw_below_drewN | apply below_drew1 | refine below_set ?_ GE161.out) | exact HB.out)⟩


/-- THE ONE PURE STATEMENT of laws_FnOrder. -/
def laws_FnOrder.Pure : Prop := ∀ (l0 : List Int), (l0.length ≤ 9223372036854775807 ∧ ∀ x ∈ l0, (Lit.int .u8 x).wf = true) → ∃ k, laws_FnOrder.f k l0 = some true
theorem laws_FnOrder.walk (P : laws_FnOrder.Pure) (A0 : Option Addr) (c0 : Nat) (l0 : List Int) (w : World) (hr0 : Kd.C (Kd.int .u8) w A0 l0.length l0) (hc0 : l0.length ≤ c0) (hw0 : (l0.length ≤ 9223372036854775807 ∧ ∀ x ∈ l0, (Lit.int .u8 x).wf = true)) :
    Calls Try.prog 6 #[.slice A0 l0.length c0] w fun e w' => e = .returned (.bool true) ∧ Below w.heap.size w w' := by
  obtain ⟨k, h⟩ := P l0 hw0
  refine (laws_FnOrder.calls k A0 c0 l0 true w hr0 hc0 h).mono ?_
  rintro e w' ⟨rfl, hd⟩
  exact ⟨rfl, hd⟩

end Go.Proofs.Ythhdcjdlcfbkdaa.XFnOrder
