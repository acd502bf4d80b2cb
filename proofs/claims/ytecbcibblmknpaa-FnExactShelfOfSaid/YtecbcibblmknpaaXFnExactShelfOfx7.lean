-- PRINTED by xprint.py (our own program, over the kit's print.py)
import Derived.Test.YtecbcibblmknpaaXFnExactShelfOfx0
import Derived.Test.YtecbcibblmknpaaXFnExactShelfOfx4
import Derived.Test.YtecbcibblmknpaaXFnExactShelfOfx5
import Derived.Test.YtecbcibblmknpaaXFnExactShelfOfx6
import Derived.Test.YtecbcibblmknpaaPu
namespace Go.Proofs.Ytecbcibblmknpaa.XFnExactShelfOf
open Go.RowKit Go.Proofs.YtecbcibblmknpaaW.PrintWords Go.Proofs.YtecbcibblmknpaaW.PrintLast Go.Proofs.YtecbcibblmknpaaW.PrintMore Go.Proofs.YtecbcibblmknpaaW.Idx
attribute [local go_sem] max2_int min2_int max_two min_two max_three min_three max_four min_four   -- for this text's walks alone
set_option linter.unusedVariables false
set_option linter.unusedSimpArgs false

/-! ### spec_ShelfOf: function 12 -/
mutual
def spec_ShelfOf.j0 : Nat → List (S50) → Int → List Int → Bool → Option (List Int × Int × Int × Int)
 | 0, _, _, _, _ => none
 | k + 1, x0, x1, x2, x17 => if x17 = true then (some (([] : List Int), 0, 0, 2)) else ((spec_FacingsOK.f k x0).bind fun t148 => (if t148 = true then ((spec_l01In.f x1 0 2000).bind fun t149 => (if t149 = true then (if (x2.length : Int) = (x0.length : Int) then (spec_ShelfOf.l0 k x0 x1 x2 0 ([] : List Int) 0 0) else (some (([] : List Int), 0, 0, 3))) else (some (([] : List Int), 0, 0, 5)))) else (some (([] : List Int), 0, 0, 1))))
def spec_ShelfOf.l0 : Nat → List (S50) → Int → List Int → Int → List Int → Int → Int → Option (List Int × Int × Int × Int)
 | 0, _, _, _, _, _, _, _ => none
 | k + 1, x0, x1, x2, x9, x151000, x151001, x151002 => if x9 < (x0.length : Int) then (if 0 ≤ x9 then (if x9 < (x2.length : Int) then ((spec_l01In.f (rd x2 x9) ((rd_T50 x0 x9).f2) (((rd_T50 x0 x9).f3).length : Int)).bind fun t154 => (if t154 = true then (if x151000.length < 17592186044416 then ((spec_l13Gain.f k ((rd_T50 x0 x9).f0) ((rd_T50 x0 x9).f1) ((rd_T50 x0 x9).f2) ((rd_T50 x0 x9).f3) (rd x2 x9)).bind fun t163 => (spec_ShelfOf.l0 k x0 x1 x2 (wrap64 (x9 + 1)) (x151000 ++ [rd x2 x9]) (wrap64 (x151001 + (wrap64 ((rd x2 x9) * ((rd_T50 x0 x9).f1))))) (wrap64 (x151002 + t163)))) else (none)) else (some (([] : List Int), 0, 0, 3)))) else (none)) else (none)) else (if x151001 > x1 then (some (([] : List Int), 0, 0, 14)) else (some (x151000, x151001, x151002, 0)))
end
def spec_ShelfOf.f (k : Nat) (l0 : List (S50)) (a1 : Int) (l2 : List Int) : Option (List Int × Int × Int × Int) := if (l0.length : Int) > 4096 then (spec_ShelfOf.j0 k l0 a1 l2 true) else (spec_ShelfOf.j0 k l0 a1 l2 (decide ((l2.length : Int) > 4096)))
theorem spec_ShelfOf.mono_l : ∀ k, (∀ y0 y1 y2 y3, LeO (spec_ShelfOf.j0 k y0 y1 y2 y3) (spec_ShelfOf.j0 (k + 1) y0 y1 y2 y3)) ∧ (∀ y0 y1 y2 y3 y4 y5 y6, LeO (spec_ShelfOf.l0 k y0 y1 y2 y3 y4 y5 y6) (spec_ShelfOf.l0 (k + 1) y0 y1 y2 y3 y4 y5 y6))
 | 0 => ⟨fun _ _ _ _ r h => by simp [spec_ShelfOf.j0] at h, fun _ _ _ _ _ _ _ r h => by simp [spec_ShelfOf.l0] at h⟩
 | k + 1 => by
  obtain ⟨ih0, ih1⟩ := spec_ShelfOf.mono_l k
  refine ⟨?_, ?_⟩
  ·intro y0 y1 y2 y3
   unfold spec_ShelfOf.j0
   repeat' first
   | (with_reducible exact ih0 _ _ _ _)
   | (with_reducible exact ih1 _ _ _ _ _ _ _)
   | (with_reducible exact spec_FacingsOK.mono _ _)
   | (with_reducible exact spec_l13Gain.mono _ _ _ _ _ _)
   | (with_reducible exact LeO.refl _)
   | (with_reducible exact LeO.none _)
   | (with_reducible refine LeO.ite ?_ ?_)
   | (with_reducible refine LeO.bind ?_ (fun _ => ?_))
   | exact ih0 _ _ _ _
   | exact ih1 _ _ _ _ _ _ _
   | exact spec_FacingsOK.mono _ _
   | exact spec_l13Gain.mono _ _ _ _ _ _
   | exact LeO.none _
   | refine LeO.ite ?_ ?_
   | refine LeO.bind ?_ (fun _ => ?_)
  ·intro y0 y1 y2 y3 y4 y5 y6
   unfold spec_ShelfOf.l0
   repeat' first
   | (with_reducible exact ih0 _ _ _ _)
   | (with_reducible exact ih1 _ _ _ _ _ _ _)
   | (with_reducible exact spec_FacingsOK.mono _ _)
   | (with_reducible exact spec_l13Gain.mono _ _ _ _ _ _)
   | (with_reducible exact LeO.refl _)
   | (with_reducible exact LeO.none _)
   | (with_reducible refine LeO.ite ?_ ?_)
   | (with_reducible refine LeO.bind ?_ (fun _ => ?_))
   | exact ih0 _ _ _ _
   | exact ih1 _ _ _ _ _ _ _
   | exact spec_FacingsOK.mono _ _
   | exact spec_l13Gain.mono _ _ _ _ _ _
   | exact LeO.none _
   | refine LeO.ite ?_ ?_
   | refine LeO.bind ?_ (fun _ => ?_)
theorem spec_ShelfOf.mono : ∀ a0 a1 a2 k, LeO (spec_ShelfOf.f k a0 a1 a2) (spec_ShelfOf.f (k + 1) a0 a1 a2) := by
 intro a0 a1 a2 k
 obtain ⟨ih0, ih1⟩ := spec_ShelfOf.mono_l k
 unfold spec_ShelfOf.f
 repeat' first
   | (with_reducible exact ih0 _ _ _ _)
   | (with_reducible exact ih1 _ _ _ _ _ _ _)
   | (with_reducible exact spec_FacingsOK.mono _ _)
   | (with_reducible exact spec_l13Gain.mono _ _ _ _ _ _)
   | (with_reducible exact LeO.refl _)
   | (with_reducible exact LeO.none _)
   | (with_reducible refine LeO.ite ?_ ?_)
   | (with_reducible refine LeO.bind ?_ (fun _ => ?_))
   | exact ih0 _ _ _ _
   | exact ih1 _ _ _ _ _ _ _
   | exact spec_FacingsOK.mono _ _
   | exact spec_l13Gain.mono _ _ _ _ _ _
   | exact LeO.none _
   | refine LeO.ite ?_ ?_
   | refine LeO.bind ?_ (fun _ => ?_)
def spec_ShelfOf.T13 : Bool × List (List Nat × List Nat) := (true, [([], []), ([], []), ([0, 1], [0, 1]), ([2], [2]), ([], []), ([], []), ([4, 5], [4, 5]), ([6], [6]), ([7], [7]), ([], []), ([], []), ([9, 10], [9, 10]), ([11], [11]), ([12], [12]), ([13], [13]), ([3, 8, 14], [3, 8, 14]), ([15], [15])])
def spec_ShelfOf.B13 : List Nat := [0, 0, 3, 7, 0, 0, 48, 112, 240, 0, 0, 1536, 3584, 7680, 15872, 32767, 65535]
theorem spec_ShelfOf.tab13 : rtab .any (opsOf Try.f12 13) = spec_ShelfOf.T13 := by kernel_rfl
theorem spec_ShelfOf.bits13 : waitsOk spec_ShelfOf.T13.2 spec_ShelfOf.B13 = true := by kernel_rfl
def spec_ShelfOf.T15 : Bool × List (List Nat × List Nat) := (true, [([], []), ([0], [0]), ([], []), ([], []), ([2, 3], [2, 3]), ([4], [4]), ([5], [5]), ([1, 6], [1, 6]), ([0, 1, 2, 3, 4, 5, 6, 7], []), ([8, 7, 7, 0, 1, 2, 3, 4, 5, 6, 7], [7, 8])])
def spec_ShelfOf.B15 : List Nat := [0, 1, 0, 0, 12, 28, 60, 127, 255, 511]
theorem spec_ShelfOf.tab15 : rtab .any (opsOf Try.f12 15) = spec_ShelfOf.T15 := by kernel_rfl
theorem spec_ShelfOf.bits15 : waitsOk spec_ShelfOf.T15.2 spec_ShelfOf.B15 = true := by kernel_rfl
def spec_ShelfOf.T16 : Bool × List (List Nat × List Nat) := (true, [([], []), ([0], [0]), ([], []), ([], []), ([2, 3], [2, 3]), ([4], [4]), ([], []), ([], []), ([6, 7], [6, 7]), ([8], [8]), ([9], [9]), ([5, 10], [5, 10]), ([1, 11], [1, 11]), ([0, 1, 2, 3, 4, 5, 6, 7, 8, 9, 10, 11, 12], []), ([13, 12, 0, 1, 2, 3, 4, 5, 6, 7, 8, 9, 10, 11, 12], [12, 13])])
def spec_ShelfOf.B16 : List Nat := [0, 1, 0, 0, 12, 28, 0, 0, 192, 448, 960, 2044, 4095, 8191, 16383]
theorem spec_ShelfOf.tab16 : rtab .any (opsOf Try.f12 16) = spec_ShelfOf.T16 := by kernel_rfl
theorem spec_ShelfOf.bits16 : waitsOk spec_ShelfOf.T16.2 spec_ShelfOf.B16 = true := by kernel_rfl
def spec_ShelfOf.T17 : Bool × List (List Nat × List Nat) := (true, [([], []), ([0], [0]), ([], []), ([], []), ([2, 3], [2, 3]), ([4], [4]), ([], []), ([], []), ([6, 7], [6, 7]), ([8], [8]), ([5, 9], [5, 9]), ([1, 10], [1, 10]), ([0, 1, 2, 3, 4, 5, 6, 7, 8, 9, 10, 11], []), ([12, 11, 10, 0, 1, 2, 3, 4, 5, 6, 7, 8, 9, 10, 11], [11, 12])])
def spec_ShelfOf.B17 : List Nat := [0, 1, 0, 0, 12, 28, 0, 0, 192, 448, 1020, 2047, 4095, 8191]
theorem spec_ShelfOf.tab17 : rtab .any (opsOf Try.f12 17) = spec_ShelfOf.T17 := by kernel_rfl
theorem spec_ShelfOf.bits17 : waitsOk spec_ShelfOf.T17.2 spec_ShelfOf.B17 = true := by kernel_rfl
set_option maxHeartbeats 8000000 in
set_option maxRecDepth 100000 in
theorem spec_ShelfOf.calls (k : Nat) (A0 : Option Addr) (c0 : Nat) (l0 : List (S50)) (a1 : Int) (A2 : Option Addr) (c2 : Nat) (l2 : List Int) (r1 : List Int) (r2 : Int) (r3 : Int) (r4 : Int) (w : World) (hr0 : Kd.C k50 w A0 l0.length l0) (hc0 : l0.length ≤ c0) (hr2 : Kd.C (Kd.int .i64) w A2 l2.length l2) (hc2 : l2.length ≤ c2) (h : spec_ShelfOf.f k l0 a1 l2 = some (r1, r2, r3, r4)) :
  Calls Try.prog 12 #[.slice A0 l0.length c0, .int .i64 a1, .slice A2 l2.length c2] w fun e w' => ∃ v0_ : Value, e = .returned (.tuple #[.agg #[v0_, .int .i64 r2, .int .i64 r3], .int .i64 r4]) ∧ Kd.R (Kd.int .i64) 3 w' w.heap.size (fun _ => True) v0_ r1 ∧ Below w.heap.size w w' := by
 have hu31 := Try.underlying31
 have hu50 := Try.underlying50
 have HR0 := Aside0.mk hr0
 have HC0 := Aside0.mk hc0
 clear hr0 hc0
 have HR2 := Aside0.mk hr2
 have HC2 := Aside0.mk hc2
 clear hr2 hc2
 have HB := Aside0.mk (Below.refl w.heap.size w)
 have H : (if (l0.length : Int) > 4096 then (spec_ShelfOf.j0 k l0 a1 l2 true) else (spec_ShelfOf.j0 k l0 a1 l2 (decide ((l2.length : Int) > 4096)))) = some (r1, r2, r3, r4) := h
 clear h
 have HC4 := Aside0.mk H
 clear H
 go_enter Try.func12, Try.ntmps12
 go_upto_region 1 with (first | ((with_reducible refine gate_dst (N := 6) rfl ?_); (try (refine gate_guard (by rfl) ?_; dsimp only)); refine box_event ?hg (N := 6) ?hd (cs := #[.slice none 0 0, .int .i64 0, .int .i64 0]) (t := 31) ?hr ?_; (case hd => rfl); (case hg => rfl); (case hr => first | (go_simp; done) | (go_simp; rfl)); intro gb147 hg w5 hbox hb; have n0_ := Aside0.mk (below_step bl_ hb); have n1_ := Aside0.mk (hbox); have n2_ := Aside0.mk ((by rw [hg]; exact (below_size bl_) : w.heap.size ≤ gb147)); have n3_ := Aside0.mk ((by rw [hg]; exact (below_size bl_) : w.heap.size ≤ gb147)); clear HB; have HB := n0_; have BK147 := n1_; have GW147 := n2_; have GE147 := n3_; clear n0_ n1_ n2_ n3_; clear hb hbox hg))
 (try simp only [Act.put, List.setIfInBounds_toArray, List.set_cons_zero, List.set_cons_succ])
 go_cut [17] (fun v17 wc => ∃ (kq : Nat) (x17_3 : Bool), v17 = .bool x17_3 ∧ Aside0 (spec_ShelfOf.j0 kq l0 a1 l2 x17_3 = some (r1, r2, r3, r4)) ∧ Aside0 (kq ≤ k) ∧ Aside0 (wc.heap[gb147]? = some (.cells #[(.slice none 0 0), .int .i64 0, .int .i64 0] 31 (0, 0))) ∧ Aside0 (Below w.heap.size w wc))
 case first =>
  have H := HC4.out
  clear HC4
  by_cases c6 : (l0.length : Int) > 4096
  ·rw [if_pos c6] at H
   have c6b0 : decide (4096 < (l0.length : Int)) = true := decide_eq_true c6
   have c6b1 : decide (4096 < l0.length) = true := decide_eq_true (by omega)
   clear c6
   (first | rw [c6b0] | (simp only [i64_w, i32_w]; rw [c6b0]) | skip)
   have H' := Aside0.mk H
   clear H
   go_wp2
   go_meet
   case rel => exact ⟨_, (true), (by first | rfl | (simp; done) | (simp [*]; done)), H', ⟨by first | omega | exact Nat.le_refl _⟩, ⟨by (with_reducible repeat (first | refine blk_drewN ?_ _ | refine blk_drew ?_ | refine blk_alloc ?_ _)); exact BK147.out⟩, ⟨by repeat (first | (with_reducible first | exact HB.out | apply below_alloc | apply pw_below_drewN | apply below_drew1 | refine below_set ?_ GE147.out) | exact HB.out)⟩⟩
  rw [if_neg c6] at H
  have c6b0 : decide (4096 < (l0.length : Int)) = false := decide_eq_false c6
  have c6b1 : decide (4096 < l0.length) = false := decide_eq_false (by omega)
  clear c6
  (first | rw [c6b0] | (simp only [i64_w, i32_w]; rw [c6b0]) | skip)
  have H' := Aside0.mk H
  clear H
  go_wp2
  go_meet
  case rel => exact ⟨_, (decide ((l2.length : Int) > 4096)), (by first | rfl | (simp; done) | (simp [*]; done)), H', ⟨by first | omega | exact Nat.le_refl _⟩, ⟨by (with_reducible repeat (first | refine blk_drewN ?_ _ | refine blk_drew ?_ | refine blk_alloc ?_ _)); exact BK147.out⟩, ⟨by repeat (first | (with_reducible first | exact HB.out | apply below_alloc | apply pw_below_drewN | apply below_drew1 | refine below_set ?_ GE147.out) | exact HB.out)⟩⟩
 case rest =>
  clear HC4
  (try clear c1); (try clear c2); (try clear p2); (try clear c6); (try clear c6b0); (try clear c6b1)
  obtain ⟨kq, x17_3, rfl, HA, HJ3, BK147, HB⟩ := hcut
  cases kq with
  | zero => exact absurd HA.out (by simp [spec_ShelfOf.j0])
  | succ kj3 =>
   have H := HA.out
   clear HA
   simp only [spec_ShelfOf.j0] at H
   by_cases c7 : x17_3 = true
   ·subst c7
    have H1 : (some (([] : List Int), 0, 0, 2)) = some (r1, r2, r3, r4) := by rw [if_pos rfl] at H; exact H
    clear H
    have H := H1
    clear H1
    simp only [Option.some.injEq, Prod.mk.injEq] at H
    obtain ⟨rfl, rfl, rfl, rfl⟩ := H
    have hcz8_0 : wc.cell? ⟨gb147, 0, none⟩ = some (.slice none 0 0) := (blk_cell BK147.out 0).trans rfl
    have hcz8_1 : wc.cell? ⟨gb147, 1, none⟩ = some (.int .i64 0) := (blk_cell BK147.out 1).trans rfl
    have hcz8_2 : wc.cell? ⟨gb147, 2, none⟩ = some (.int .i64 0) := (blk_cell BK147.out 2).trans rfl
    have hfz8_0 := blk_frozen BK147.out 0
    have hfz8_1 := blk_frozen BK147.out 1
    have hfz8_2 := blk_frozen BK147.out 2
    go_wp2
    refine bodyPost_ret (results_ct rfl _ _ gb147 31 #[.slice none 0 0, .int .i64 0, .int .i64 0] (0, 0) _ rfl (by (with_reducible repeat (first | refine blk_drewN ?_ _ | refine blk_drew ?_ | refine blk_alloc ?_ _)); refine blk_put (cs := #[.slice none 0 0, .int .i64 0, .int .i64 0]) ?_ 2 _ rfl; (with_reducible repeat (first | refine blk_drewN ?_ _ | refine blk_drew ?_ | refine blk_alloc ?_ _)); refine blk_put (cs := #[.slice none 0 0, .int .i64 0, .int .i64 0]) ?_ 1 _ rfl; (with_reducible repeat (first | refine blk_drewN ?_ _ | refine blk_drew ?_ | refine blk_alloc ?_ _)); refine blk_put (cs := #[.slice none 0 0, .int .i64 0, .int .i64 0]) ?_ 0 _ rfl; (with_reducible repeat (first | refine blk_drewN ?_ _ | refine blk_drew ?_ | refine blk_alloc ?_ _)); exact BK147.out) Try.underlying31 rfl (by kernel_rfl)) rfl ?_
    exact ⟨_, by first | rfl | (simp [errW_none, errW_some] <;> rfl) | (simp [*, errW_none, errW_some] <;> rfl), by first | exact Kd.R_nil _ _ _ _ _ | exact Kd.N_nil _ _ _ _ _ | exact Kd.V_nil _ _ _ _ _ | exact Kd.Q_nil _ _ _ _ _ | exact Kd.S_nil _ _ _ _ _, by repeat (first | (with_reducible first | exact HB.out | apply below_alloc | apply pw_below_drewN | apply below_drew1 | refine below_set ?_ GE147.out) | exact HB.out)⟩
   replace c7 := Bool.eq_false_iff.mpr c7
   subst c7
   have H1 : ((spec_FacingsOK.f kj3 l0).bind fun t148 => (if t148 = true then ((spec_l01In.f a1 0 2000).bind fun t149 => (if t149 = true then (if (l2.length : Int) = (l0.length : Int) then (spec_ShelfOf.l0 kj3 l0 a1 l2 0 ([] : List Int) 0 0) else (some (([] : List Int), 0, 0, 3))) else (some (([] : List Int), 0, 0, 5)))) else (some (([] : List Int), 0, 0, 1)))) = some (r1, r2, r3, r4) := by rw [if_neg (show ¬ (false = true) by decide)] at H; exact H
   clear H
   have H := H1
   clear H1
   replace H := Option.bind_eq_some_iff.mp H
   obtain ⟨t148, A90, H⟩ := H
   replace H : (if t148 = true then ((spec_l01In.f a1 0 2000).bind fun t149 => (if t149 = true then (if (l2.length : Int) = (l0.length : Int) then (spec_ShelfOf.l0 kj3 l0 a1 l2 0 ([] : List Int) 0 0) else (some (([] : List Int), 0, 0, 3))) else (some (([] : List Int), 0, 0, 5)))) else (some (([] : List Int), 0, 0, 1))) = some (r1, r2, r3, r4) := H
   have A9 := Aside0.mk A90
   clear A90
   by_cases c10 : t148 = true
   rotate_left
   ·replace c10 := Bool.eq_false_iff.mpr c10
    subst c10
    have H1 : (some (([] : List Int), 0, 0, 1)) = some (r1, r2, r3, r4) := by rw [if_neg (show ¬ (false = true) by decide)] at H; exact H
    clear H
    have H := H1
    clear H1
    simp only [Option.some.injEq, Prod.mk.injEq] at H
    obtain ⟨rfl, rfl, rfl, rfl⟩ := H
    go_wp2_with (first | ((with_reducible refine gate_callee (f := 8) rfl ?_); refine goesL_ (some 20) rfl rfl Try.func8 (by kernel_rfl) rfl #[.slice A0 l0.length c0] rfl (by (try simp only [List.map_toArray, List.map_cons, List.map_nil]); first | done | rfl | (simp only [List.length_drop, List.length_take]; rfl)) ?_; (with_reducible refine (spec_FacingsOK.calls kj3 _ _ l0 false _ ?side1 ?side2 A9.out).mono ?_); (case side1 => repeat (first | exact (Kd.C_below HR0.out HB.out) | (with_reducible refine Kd.C_alloc ?_ _) | (with_reducible refine Kd.C_drewN ?_ _) | (with_reducible refine Kd.C_drew ?_))); (case side2 => exact HC0.out); rintro e w52 ⟨rfl, hb⟩; refine ⟨_, rfl, ?_⟩; have n0_ := Aside0.mk (blk_below (g := gb147) (o := .cells #[.slice none 0 0, .int .i64 0, .int .i64 0] 31 (0, 0)) bk_ hb); have n1_ := Aside0.mk (below_step bl_ hb); clear BK147; clear HB; have BK147 := n0_; have HB := n1_; clear n0_ n1_; (try clear hb); (try clear hb2); (try clear hk); (try clear hi); have hcz53_0 : w52.cell? ⟨gb147, 0, none⟩ = some (.slice none 0 0) := (blk_cell BK147.out 0).trans rfl; have hcz53_1 : w52.cell? ⟨gb147, 1, none⟩ = some (.int .i64 0) := (blk_cell BK147.out 1).trans rfl; have hcz53_2 : w52.cell? ⟨gb147, 2, none⟩ = some (.int .i64 0) := (blk_cell BK147.out 2).trans rfl; have hfz53_0 := blk_frozen BK147.out 0; have hfz53_1 := blk_frozen BK147.out 1; have hfz53_2 := blk_frozen BK147.out 2))
    refine bodyPost_ret (results_ct rfl _ _ gb147 31 #[.slice none 0 0, .int .i64 0, .int .i64 0] (0, 0) _ rfl (by (with_reducible repeat (first | refine blk_drewN ?_ _ | refine blk_drew ?_ | refine blk_alloc ?_ _)); refine blk_put (cs := #[.slice none 0 0, .int .i64 0, .int .i64 0]) ?_ 2 _ rfl; (with_reducible repeat (first | refine blk_drewN ?_ _ | refine blk_drew ?_ | refine blk_alloc ?_ _)); refine blk_put (cs := #[.slice none 0 0, .int .i64 0, .int .i64 0]) ?_ 1 _ rfl; (with_reducible repeat (first | refine blk_drewN ?_ _ | refine blk_drew ?_ | refine blk_alloc ?_ _)); refine blk_put (cs := #[.slice none 0 0, .int .i64 0, .int .i64 0]) ?_ 0 _ rfl; (with_reducible repeat (first | refine blk_drewN ?_ _ | refine blk_drew ?_ | refine blk_alloc ?_ _)); exact BK147.out) Try.underlying31 rfl (by kernel_rfl)) rfl ?_
    exact ⟨_, by first | rfl | (simp [errW_none, errW_some] <;> rfl) | (simp [*, errW_none, errW_some] <;> rfl), by first | exact Kd.R_nil _ _ _ _ _ | exact Kd.N_nil _ _ _ _ _ | exact Kd.V_nil _ _ _ _ _ | exact Kd.Q_nil _ _ _ _ _ | exact Kd.S_nil _ _ _ _ _, by repeat (first | (with_reducible first | exact HB.out | apply below_alloc | apply pw_below_drewN | apply below_drew1 | refine below_set ?_ GE147.out) | exact HB.out)⟩

   subst c10
   have H1 : ((spec_l01In.f a1 0 2000).bind fun t149 => (if t149 = true then (if (l2.length : Int) = (l0.length : Int) then (spec_ShelfOf.l0 kj3 l0 a1 l2 0 ([] : List Int) 0 0) else (some (([] : List Int), 0, 0, 3))) else (some (([] : List Int), 0, 0, 5)))) = some (r1, r2, r3, r4) := by rw [if_pos rfl] at H; exact H
   clear H
   have H := H1
   clear H1
   replace H := Option.bind_eq_some_iff.mp H
   obtain ⟨t149, A110, H⟩ := H
   replace H : (if t149 = true then (if (l2.length : Int) = (l0.length : Int) then (spec_ShelfOf.l0 kj3 l0 a1 l2 0 ([] : List Int) 0 0) else (some (([] : List Int), 0, 0, 3))) else (some (([] : List Int), 0, 0, 5))) = some (r1, r2, r3, r4) := H
   have A11 := Aside0.mk A110
   clear A110
   by_cases c12 : t149 = true
   rotate_left
   ·replace c12 := Bool.eq_false_iff.mpr c12
    subst c12
    have H1 : (some (([] : List Int), 0, 0, 5)) = some (r1, r2, r3, r4) := by rw [if_neg (show ¬ (false = true) by decide)] at H; exact H
    clear H
    have H := H1
    clear H1
    simp only [Option.some.injEq, Prod.mk.injEq] at H
    obtain ⟨rfl, rfl, rfl, rfl⟩ := H
    go_wp2_with (first | ((with_reducible refine gate_callee (f := 8) rfl ?_); refine goesL_ (some 20) rfl rfl Try.func8 (by kernel_rfl) rfl #[.slice A0 l0.length c0] rfl (by (try simp only [List.map_toArray, List.map_cons, List.map_nil]); first | done | rfl | (simp only [List.length_drop, List.length_take]; rfl)) ?_; (with_reducible refine (spec_FacingsOK.calls kj3 _ _ l0 true _ ?side1 ?side2 A9.out).mono ?_); (case side1 => repeat (first | exact (Kd.C_below HR0.out HB.out) | (with_reducible refine Kd.C_alloc ?_ _) | (with_reducible refine Kd.C_drewN ?_ _) | (with_reducible refine Kd.C_drew ?_))); (case side2 => exact HC0.out); rintro e w50 ⟨rfl, hb⟩; refine ⟨_, rfl, ?_⟩; have n0_ := Aside0.mk (blk_below (g := gb147) (o := .cells #[.slice none 0 0, .int .i64 0, .int .i64 0] 31 (0, 0)) bk_ hb); have n1_ := Aside0.mk (below_step bl_ hb); clear BK147; clear HB; have BK147 := n0_; have HB := n1_; clear n0_ n1_; (try clear hb); (try clear hb2); (try clear hk); (try clear hi)) | ((with_reducible refine gate_callee (f := 26) rfl ?_); refine goesL_ (some 24) rfl rfl Try.func26 (by kernel_rfl) rfl #[.int .i64 a1, .int .i64 0, .int .i64 2000] rfl (by (try simp only [List.map_toArray, List.map_cons, List.map_nil]); first | done | rfl | (simp only [List.length_drop, List.length_take]; rfl)) ?_; (with_reducible refine (spec_l01In.calls a1 0 2000 false _ A11.out).mono ?_); rintro e w' ⟨rfl, ⟨nd, rfl⟩⟩; refine ⟨_, rfl, ?_⟩; (try (rw [drewN_self w50]; generalize hq_ : World.drewN w50 _ = w50; have n0_ : Aside0 (w50.heap[gb147]? = some (.cells #[.slice none 0 0, .int .i64 0, .int .i64 0] 31 (0, 0))) := ⟨by rw [← hq_]; exact bk_⟩; have n1_ : Aside0 (Below w.heap.size w w50) := ⟨by rw [← hq_]; exact bl_⟩; clear BK147 HB hq_; have BK147 := n0_; have HB := n1_; clear n0_ n1_)); have hcz51_0 : w50.cell? ⟨gb147, 0, none⟩ = some (.slice none 0 0) := (blk_cell BK147.out 0).trans rfl; have hcz51_1 : w50.cell? ⟨gb147, 1, none⟩ = some (.int .i64 0) := (blk_cell BK147.out 1).trans rfl; have hcz51_2 : w50.cell? ⟨gb147, 2, none⟩ = some (.int .i64 0) := (blk_cell BK147.out 2).trans rfl; have hfz51_0 := blk_frozen BK147.out 0; have hfz51_1 := blk_frozen BK147.out 1; have hfz51_2 := blk_frozen BK147.out 2))
    refine bodyPost_ret (results_ct rfl _ _ gb147 31 #[.slice none 0 0, .int .i64 0, .int .i64 0] (0, 0) _ rfl (by (with_reducible repeat (first | refine blk_drewN ?_ _ | refine blk_drew ?_ | refine blk_alloc ?_ _)); refine blk_put (cs := #[.slice none 0 0, .int .i64 0, .int .i64 0]) ?_ 2 _ rfl; (with_reducible repeat (first | refine blk_drewN ?_ _ | refine blk_drew ?_ | refine blk_alloc ?_ _)); refine blk_put (cs := #[.slice none 0 0, .int .i64 0, .int .i64 0]) ?_ 1 _ rfl; (with_reducible repeat (first | refine blk_drewN ?_ _ | refine blk_drew ?_ | refine blk_alloc ?_ _)); refine blk_put (cs := #[.slice none 0 0, .int .i64 0, .int .i64 0]) ?_ 0 _ rfl; (with_reducible repeat (first | refine blk_drewN ?_ _ | refine blk_drew ?_ | refine blk_alloc ?_ _)); exact BK147.out) Try.underlying31 rfl (by kernel_rfl)) rfl ?_
    exact ⟨_, by first | rfl | (simp [errW_none, errW_some] <;> rfl) | (simp [*, errW_none, errW_some] <;> rfl), by first | exact Kd.R_nil _ _ _ _ _ | exact Kd.N_nil _ _ _ _ _ | exact Kd.V_nil _ _ _ _ _ | exact Kd.Q_nil _ _ _ _ _ | exact Kd.S_nil _ _ _ _ _, by repeat (first | (with_reducible first | exact HB.out | apply below_alloc | apply pw_below_drewN | apply below_drew1 | refine below_set ?_ GE147.out) | exact HB.out)⟩
   subst c12
   have H1 : (if (l2.length : Int) = (l0.length : Int) then (spec_ShelfOf.l0 kj3 l0 a1 l2 0 ([] : List Int) 0 0) else (some (([] : List Int), 0, 0, 3))) = some (r1, r2, r3, r4) := by rw [if_pos rfl] at H; exact H
   clear H
   have H := H1
   clear H1
   by_cases c13 : (l2.length : Int) = (l0.length : Int)
   rotate_left
   ·rw [if_neg c13] at H
    have c13b0 : ((l2.length : Int) == (l0.length : Int)) = false := beq_eq_false_iff_ne.mpr c13
    have c13b1 : ((l2.length : Int) != (l0.length : Int)) = true := bne_iff_ne.mpr c13
    have c13b2 : (l2.length == l0.length) = false := by first | simpa using c13 | (simp at c13 ⊢; omega)
    simp only [Option.some.injEq, Prod.mk.injEq] at H
    obtain ⟨rfl, rfl, rfl, rfl⟩ := H
    go_wp2_with (first | ((with_reducible refine gate_callee (f := 8) rfl ?_); refine goesL_ (some 20) rfl rfl Try.func8 (by kernel_rfl) rfl #[.slice A0 l0.length c0] rfl (by (try simp only [List.map_toArray, List.map_cons, List.map_nil]); first | done | rfl | (simp only [List.length_drop, List.length_take]; rfl)) ?_; (with_reducible refine (spec_FacingsOK.calls kj3 _ _ l0 true _ ?side1 ?side2 A9.out).mono ?_); (case side1 => repeat (first | exact (Kd.C_below HR0.out HB.out) | (with_reducible refine Kd.C_alloc ?_ _) | (with_reducible refine Kd.C_drewN ?_ _) | (with_reducible refine Kd.C_drew ?_))); (case side2 => exact HC0.out); rintro e w48 ⟨rfl, hb⟩; refine ⟨_, rfl, ?_⟩; have n0_ := Aside0.mk (blk_below (g := gb147) (o := .cells #[.slice none 0 0, .int .i64 0, .int .i64 0] 31 (0, 0)) bk_ hb); have n1_ := Aside0.mk (below_step bl_ hb); clear BK147; clear HB; have BK147 := n0_; have HB := n1_; clear n0_ n1_; (try clear hb); (try clear hb2); (try clear hk); (try clear hi)) | ((with_reducible refine gate_callee (f := 26) rfl ?_); refine goesL_ (some 24) rfl rfl Try.func26 (by kernel_rfl) rfl #[.int .i64 a1, .int .i64 0, .int .i64 2000] rfl (by (try simp only [List.map_toArray, List.map_cons, List.map_nil]); first | done | rfl | (simp only [List.length_drop, List.length_take]; rfl)) ?_; (with_reducible refine (spec_l01In.calls a1 0 2000 true _ A11.out).mono ?_); rintro e w' ⟨rfl, ⟨nd, rfl⟩⟩; refine ⟨_, rfl, ?_⟩; (try (rw [drewN_self w48]; generalize hq_ : World.drewN w48 _ = w48; have n0_ : Aside0 (w48.heap[gb147]? = some (.cells #[.slice none 0 0, .int .i64 0, .int .i64 0] 31 (0, 0))) := ⟨by rw [← hq_]; exact bk_⟩; have n1_ : Aside0 (Below w.heap.size w w48) := ⟨by rw [← hq_]; exact bl_⟩; clear BK147 HB hq_; have BK147 := n0_; have HB := n1_; clear n0_ n1_)); have hcz49_0 : w48.cell? ⟨gb147, 0, none⟩ = some (.slice none 0 0) := (blk_cell BK147.out 0).trans rfl; have hcz49_1 : w48.cell? ⟨gb147, 1, none⟩ = some (.int .i64 0) := (blk_cell BK147.out 1).trans rfl; have hcz49_2 : w48.cell? ⟨gb147, 2, none⟩ = some (.int .i64 0) := (blk_cell BK147.out 2).trans rfl; have hfz49_0 := blk_frozen BK147.out 0; have hfz49_1 := blk_frozen BK147.out 1; have hfz49_2 := blk_frozen BK147.out 2))
    refine bodyPost_ret (results_ct rfl _ _ gb147 31 #[.slice none 0 0, .int .i64 0, .int .i64 0] (0, 0) _ rfl (by (with_reducible repeat (first | refine blk_drewN ?_ _ | refine blk_drew ?_ | refine blk_alloc ?_ _)); refine blk_put (cs := #[.slice none 0 0, .int .i64 0, .int .i64 0]) ?_ 2 _ rfl; (with_reducible repeat (first | refine blk_drewN ?_ _ | refine blk_drew ?_ | refine blk_alloc ?_ _)); refine blk_put (cs := #[.slice none 0 0, .int .i64 0, .int .i64 0]) ?_ 1 _ rfl; (with_reducible repeat (first | refine blk_drewN ?_ _ | refine blk_drew ?_ | refine blk_alloc ?_ _)); refine blk_put (cs := #[.slice none 0 0, .int .i64 0, .int .i64 0]) ?_ 0 _ rfl; (with_reducible repeat (first | refine blk_drewN ?_ _ | refine blk_drew ?_ | refine blk_alloc ?_ _)); exact BK147.out) Try.underlying31 rfl (by kernel_rfl)) rfl ?_
    exact ⟨_, by first | rfl | (simp [errW_none, errW_some] <;> rfl) | (simp [*, errW_none, errW_some] <;> rfl), by first | exact Kd.R_nil _ _ _ _ _ | exact Kd.N_nil _ _ _ _ _ | exact Kd.V_nil _ _ _ _ _ | exact Kd.Q_nil _ _ _ _ _ | exact Kd.S_nil _ _ _ _ _, by repeat (first | (with_reducible first | exact HB.out | apply below_alloc | apply pw_below_drewN | apply below_drew1 | refine below_set ?_ GE147.out) | exact HB.out)⟩
   rw [if_pos c13] at H
   have c13b0 : ((l2.length : Int) == (l0.length : Int)) = true := beq_iff_eq.mpr c13
   have c13b1 : ((l2.length : Int) != (l0.length : Int)) = false := bne_eq_false_iff_eq.mpr c13
   have c13b2 : (l2.length == l0.length) = true := by first | simpa using c13 | (simp at c13 ⊢; omega)
   clear c13
   have H' := Aside0.mk H
   clear H
   go_wp2_with (first | ((with_reducible refine gate_callee (f := 8) rfl ?_); refine goesL_ (some 20) rfl rfl Try.func8 (by kernel_rfl) rfl #[.slice A0 l0.length c0] rfl (by (try simp only [List.map_toArray, List.map_cons, List.map_nil]); first | done | rfl | (simp only [List.length_drop, List.length_take]; rfl)) ?_; (with_reducible refine (spec_FacingsOK.calls kj3 _ _ l0 true _ ?side1 ?side2 A9.out).mono ?_); (case side1 => repeat (first | exact (Kd.C_below HR0.out HB.out) | (with_reducible refine Kd.C_alloc ?_ _) | (with_reducible refine Kd.C_drewN ?_ _) | (with_reducible refine Kd.C_drew ?_))); (case side2 => exact HC0.out); rintro e w14 ⟨rfl, hb⟩; refine ⟨_, rfl, ?_⟩; have n0_ := Aside0.mk (blk_below (g := gb147) (o := .cells #[.slice none 0 0, .int .i64 0, .int .i64 0] 31 (0, 0)) bk_ hb); have n1_ := Aside0.mk (below_step bl_ hb); clear BK147; clear HB; have BK147 := n0_; have HB := n1_; clear n0_ n1_; (try clear hb); (try clear hb2); (try clear hk); (try clear hi)) | ((with_reducible refine gate_callee (f := 26) rfl ?_); refine goesL_ (some 24) rfl rfl Try.func26 (by kernel_rfl) rfl #[.int .i64 a1, .int .i64 0, .int .i64 2000] rfl (by (try simp only [List.map_toArray, List.map_cons, List.map_nil]); first | done | rfl | (simp only [List.length_drop, List.length_take]; rfl)) ?_; (with_reducible refine (spec_l01In.calls a1 0 2000 true _ A11.out).mono ?_); rintro e w' ⟨rfl, ⟨nd, rfl⟩⟩; refine ⟨_, rfl, ?_⟩; (try (rw [drewN_self w14]; generalize hq_ : World.drewN w14 _ = w14; have n0_ : Aside0 (w14.heap[gb147]? = some (.cells #[.slice none 0 0, .int .i64 0, .int .i64 0] 31 (0, 0))) := ⟨by rw [← hq_]; exact bk_⟩; have n1_ : Aside0 (Below w.heap.size w w14) := ⟨by rw [← hq_]; exact bl_⟩; clear BK147 HB hq_; have BK147 := n0_; have HB := n1_; clear n0_ n1_))) | ((with_reducible refine gate_dst (N := 8) rfl ?_); (try (refine gate_guard (by rfl) ?_; dsimp only)); refine box_event ?hg (N := 8) ?hd (cs := #[.slice none 0 0, .int .i64 0, .int .i64 0]) (t := 31) ?hr ?_; (case hd => rfl); (case hg => rfl); (case hr => first | (go_simp; done) | (go_simp; rfl)); intro gb150 hg w15 hbox hb; have n0_ := Aside0.mk (blk_below (g := gb147) (o := .cells #[.slice none 0 0, .int .i64 0, .int .i64 0] 31 (0, 0)) bk_ hb); have n1_ := Aside0.mk (below_step bl_ hb); have n2_ := Aside0.mk (hbox); have n3_ := Aside0.mk ((by rw [hg]; exact (below_size bl_) : w.heap.size ≤ gb150)); have n4_ := Aside0.mk ((by rw [hg]; exact (below_size bl_) : w.heap.size ≤ gb150)); have n5_ := Aside0.mk ((by rw [hg]; exact Nat.ne_of_lt (blk_lt (g := gb147) (o := .cells #[.slice none 0 0, .int .i64 0, .int .i64 0] 31 (0, 0)) bk_) : gb147 ≠ gb150)); have n6_ := Aside0.mk ((by rw [hg]; exact Nat.ne_of_gt (blk_lt (g := gb147) (o := .cells #[.slice none 0 0, .int .i64 0, .int .i64 0] 31 (0, 0)) bk_) : gb150 ≠ gb147)); clear BK147; clear HB; have BK147 := n0_; have HB := n1_; have BK150 := n2_; have GW150 := n3_; have GE150 := n4_; have NB147_150 := n5_; have NB150_147 := n6_; clear n0_ n1_ n2_ n3_ n4_ n5_ n6_; clear hb hbox hg; have hnb16 := NB150_147.out; have hnc16 := NB147_150.out; have hcz17_0 : w15.cell? ⟨gb150, 0, none⟩ = some (.slice none 0 0) := (blk_cell BK150.out 0).trans rfl; have hcz17_1 : w15.cell? ⟨gb150, 1, none⟩ = some (.int .i64 0) := (blk_cell BK150.out 1).trans rfl; have hcz17_2 : w15.cell? ⟨gb150, 2, none⟩ = some (.int .i64 0) := (blk_cell BK150.out 2).trans rfl; have hfz17_0 := blk_frozen BK150.out 0; have hfz17_1 := blk_frozen BK150.out 1; have hfz17_2 := blk_frozen BK150.out 2))
   go_loopg [9] kj3 (fun kq v9 w' => ∃ (x9_2 : Int) (x148001_2 : Int) (x148002_2 : Int) (x151000_2 : List Int) (x151001_2 : Int) (x151002_2 : Int) (u151000 : Value), v9 = .int .i64 x9_2 ∧ Aside0 (spec_ShelfOf.l0 kq l0 a1 l2 x9_2 x151000_2 x151001_2 x151002_2 = some (r1, r2, r3, r4)) ∧ Aside0 (kq ≤ kj3) ∧ Aside0 (Kd.R (Kd.int .i64) 3 w' w.heap.size (fun _ => True) u151000 x151000_2) ∧ Aside0 (w'.heap[gb147]? = some (.cells #[(.slice none 0 0), .int .i64 x148001_2, .int .i64 x148002_2] 31 (0, 0))) ∧ Aside0 (w'.heap[gb150]? = some (.cells #[u151000, .int .i64 x151001_2, .int .i64 x151002_2] 31 (0, 0))) ∧ Aside0 (Below w.heap.size w w'))
   case atStart => exact ⟨(0), (0), (0), (([] : List Int)), (0), (0), (.slice none 0 0), (by first | rfl | (simp; done) | (simp [*]; done)), H', ⟨Nat.le_refl _⟩, ⟨by first | exact Kd.R_nil _ _ _ _ _ | exact Kd.N_nil _ _ _ _ _ | exact Kd.V_nil _ _ _ _ _ | exact Kd.Q_nil _ _ _ _ _ | exact Kd.S_nil _ _ _ _ _⟩, ⟨by (with_reducible repeat (first | refine blk_drewN ?_ _ | refine blk_drew ?_ | refine blk_alloc ?_ _)); refine blk_far ?_ NB147_150.out _; (with_reducible repeat (first | refine blk_drewN ?_ _ | refine blk_drew ?_ | refine blk_alloc ?_ _)); refine blk_far ?_ NB147_150.out _; (with_reducible repeat (first | refine blk_drewN ?_ _ | refine blk_drew ?_ | refine blk_alloc ?_ _)); exact blk_far bk_ NB147_150.out _⟩, ⟨by (with_reducible repeat (first | refine blk_drewN ?_ _ | refine blk_drew ?_ | refine blk_alloc ?_ _)); refine blk_put (cs := #[.slice none 0 0, .int .i64 0, .int .i64 0]) ?_ 2 _ rfl; (with_reducible repeat (first | refine blk_drewN ?_ _ | refine blk_drew ?_ | refine blk_alloc ?_ _)); refine blk_put (cs := #[.slice none 0 0, .int .i64 0, .int .i64 0]) ?_ 1 _ rfl; (with_reducible repeat (first | refine blk_drewN ?_ _ | refine blk_drew ?_ | refine blk_alloc ?_ _)); refine blk_put (cs := #[.slice none 0 0, .int .i64 0, .int .i64 0]) ?_ 0 _ rfl; (with_reducible repeat (first | refine blk_drewN ?_ _ | refine blk_drew ?_ | refine blk_alloc ?_ _)); exact BK150.out⟩, ⟨by repeat (first | (with_reducible first | exact HB.out | apply below_alloc | apply pw_below_drewN | apply below_drew1 | refine below_set ?_ GE147.out | refine below_set ?_ GE150.out) | exact HB.out)⟩⟩
   case round =>
    clear H'
    (try clear c7); (try clear c8); (try clear c10); (try clear c12); (try clear c13); (try clear c13b0); (try clear c13b1); (try clear c13b2); (try clear c16); (try clear hcz17_0); (try clear hcz17_1); (try clear hcz17_2); (try clear hcz8_0); (try clear hcz8_1); (try clear hcz8_2); (try clear hfz17_0); (try clear hfz17_1); (try clear hfz17_2); (try clear hfz8_0); (try clear hfz8_1); (try clear hfz8_2)
    obtain ⟨x9_2, x148001_2, x148002_2, x151000_2, x151001_2, x151002_2, u151000, rfl, HA, HK2, HO_151000, BK147, BK150, HB⟩ := hrel
    cases gk with
    | zero => exact absurd HA.out (by simp [spec_ShelfOf.l0])
    | succ k2 =>
     have H := HA.out
     clear HA
     simp only [spec_ShelfOf.l0] at H
     by_cases c18 : x9_2 < (l0.length : Int)
     rotate_left
     ·rw [if_neg c18] at H
      have c18b0 : decide (x9_2 < (l0.length : Int)) = false := decide_eq_false c18
      clear c18
      by_cases c40 : x151001_2 > a1
      ·rw [if_pos c40] at H
       have c40b0 : decide (a1 < x151001_2) = true := decide_eq_true c40
       clear c40
       simp only [Option.some.injEq, Prod.mk.injEq] at H
       obtain ⟨rfl, rfl, rfl, rfl⟩ := H
       have hnb41 := NB150_147.out
       have hnc41 := NB147_150.out
       have hcz42_0 : wr.cell? ⟨gb150, 0, none⟩ = some (u151000) := (blk_cell BK150.out 0).trans rfl
       have hcz42_1 : wr.cell? ⟨gb150, 1, none⟩ = some (.int .i64 x151001_2) := (blk_cell BK150.out 1).trans rfl
       have hcz42_2 : wr.cell? ⟨gb150, 2, none⟩ = some (.int .i64 x151002_2) := (blk_cell BK150.out 2).trans rfl
       have hfz42_0 := blk_frozen BK150.out 0
       have hfz42_1 := blk_frozen BK150.out 1
       have hfz42_2 := blk_frozen BK150.out 2
       have hcz43_0 : wr.cell? ⟨gb147, 0, none⟩ = some (.slice none 0 0) := (blk_cell BK147.out 0).trans rfl
       have hcz43_1 : wr.cell? ⟨gb147, 1, none⟩ = some (.int .i64 x148001_2) := (blk_cell BK147.out 1).trans rfl
       have hcz43_2 : wr.cell? ⟨gb147, 2, none⟩ = some (.int .i64 x148002_2) := (blk_cell BK147.out 2).trans rfl
       have hfz43_0 := blk_frozen BK147.out 0
       have hfz43_1 := blk_frozen BK147.out 1
       have hfz43_2 := blk_frozen BK147.out 2
       go_wp2
       refine bodyPost_ret (results_ct rfl _ _ gb147 31 #[.slice none 0 0, .int .i64 0, .int .i64 0] (0, 0) _ rfl (by (with_reducible repeat (first | refine blk_drewN ?_ _ | refine blk_drew ?_ | refine blk_alloc ?_ _)); refine blk_put (cs := #[.slice none 0 0, .int .i64 0, .int .i64 x148002_2]) ?_ 2 _ rfl; (with_reducible repeat (first | refine blk_drewN ?_ _ | refine blk_drew ?_ | refine blk_alloc ?_ _)); refine blk_put (cs := #[.slice none 0 0, .int .i64 x148001_2, .int .i64 x148002_2]) ?_ 1 _ rfl; (with_reducible repeat (first | refine blk_drewN ?_ _ | refine blk_drew ?_ | refine blk_alloc ?_ _)); refine blk_put (cs := #[.slice none 0 0, .int .i64 x148001_2, .int .i64 x148002_2]) ?_ 0 _ rfl; (with_reducible repeat (first | refine blk_drewN ?_ _ | refine blk_drew ?_ | refine blk_alloc ?_ _)); exact BK147.out) Try.underlying31 rfl (by kernel_rfl)) rfl ?_
       exact ⟨_, by first | rfl | (simp [errW_none, errW_some] <;> rfl) | (simp [*, errW_none, errW_some] <;> rfl), by first | exact Kd.R_nil _ _ _ _ _ | exact Kd.N_nil _ _ _ _ _ | exact Kd.V_nil _ _ _ _ _ | exact Kd.Q_nil _ _ _ _ _ | exact Kd.S_nil _ _ _ _ _, by repeat (first | (with_reducible first | exact HB.out | apply below_alloc | apply pw_below_drewN | apply below_drew1 | refine below_set ?_ GE147.out | refine below_set ?_ GE150.out) | exact HB.out)⟩
      rw [if_neg c40] at H
      have c40b0 : decide (a1 < x151001_2) = false := decide_eq_false c40
      clear c40
      simp only [Option.some.injEq, Prod.mk.injEq] at H
      obtain ⟨rfl, rfl, rfl, rfl⟩ := H
      have hnb44 := NB150_147.out
      have hnc44 := NB147_150.out
      have hcz45_0 : wr.cell? ⟨gb150, 0, none⟩ = some (u151000) := (blk_cell BK150.out 0).trans rfl
      have hcz45_1 : wr.cell? ⟨gb150, 1, none⟩ = some (.int .i64 x151001_2) := (blk_cell BK150.out 1).trans rfl
      have hcz45_2 : wr.cell? ⟨gb150, 2, none⟩ = some (.int .i64 x151002_2) := (blk_cell BK150.out 2).trans rfl
      have hfz45_0 := blk_frozen BK150.out 0
      have hfz45_1 := blk_frozen BK150.out 1
      have hfz45_2 := blk_frozen BK150.out 2
      obtain ⟨Ao46, co46, eo46⟩ := Kd.R_slice HO_151000.out
      subst eo46
      have hcz47_0 : wr.cell? ⟨gb147, 0, none⟩ = some (.slice none 0 0) := (blk_cell BK147.out 0).trans rfl
      have hcz47_1 : wr.cell? ⟨gb147, 1, none⟩ = some (.int .i64 x148001_2) := (blk_cell BK147.out 1).trans rfl
      have hcz47_2 : wr.cell? ⟨gb147, 2, none⟩ = some (.int .i64 x148002_2) := (blk_cell BK147.out 2).trans rfl
      have hfz47_0 := blk_frozen BK147.out 0
      have hfz47_1 := blk_frozen BK147.out 1
      have hfz47_2 := blk_frozen BK147.out 2
      go_wp2
      refine bodyPost_ret (results_ct rfl _ _ gb147 31 #[.slice Ao46 x151000_2.length co46, .int .i64 x151001_2, .int .i64 x151002_2] (0, 0) _ rfl (by (with_reducible repeat (first | refine blk_drewN ?_ _ | refine blk_drew ?_ | refine blk_alloc ?_ _)); refine blk_put (cs := #[.slice Ao46 x151000_2.length co46, .int .i64 x151001_2, .int .i64 x148002_2]) ?_ 2 _ rfl; (with_reducible repeat (first | refine blk_drewN ?_ _ | refine blk_drew ?_ | refine blk_alloc ?_ _)); refine blk_put (cs := #[.slice Ao46 x151000_2.length co46, .int .i64 x148001_2, .int .i64 x148002_2]) ?_ 1 _ rfl; (with_reducible repeat (first | refine blk_drewN ?_ _ | refine blk_drew ?_ | refine blk_alloc ?_ _)); refine blk_put (cs := #[.slice none 0 0, .int .i64 x148001_2, .int .i64 x148002_2]) ?_ 0 _ rfl; (with_reducible repeat (first | refine blk_drewN ?_ _ | refine blk_drew ?_ | refine blk_alloc ?_ _)); exact BK147.out) Try.underlying31 rfl (by kernel_rfl)) rfl ?_
      exact ⟨_, by first | rfl | (simp [errW_none, errW_some] <;> rfl) | (simp [*, errW_none, errW_some] <;> rfl), by (with_reducible repeat (first | apply Kd.R_alloc | apply Kd.R_drewN | apply Kd.R_drew)); exact Kd.R_mono (Kd.R_far (p := ⟨gb147, 2, none⟩) (Kd.R_far (p := ⟨gb147, 1, none⟩) (Kd.R_far (p := ⟨gb147, 0, none⟩) (Kd.R_types HO_151000.out BK147.out (by decide)) (fun _ hk => hk.2) (.slice Ao46 x151000_2.length co46)) (fun _ hk => hk.2) (.int .i64 x151001_2)) (fun _ hk => hk.2) (.int .i64 x151002_2)) (fun _ hk => trivial), by repeat (first | (with_reducible first | exact HB.out | apply below_alloc | apply pw_below_drewN | apply below_drew1 | refine below_set ?_ GE147.out | refine below_set ?_ GE150.out) | exact HB.out)⟩
     rw [if_pos c18] at H
     have c18b0 : decide (x9_2 < (l0.length : Int)) = true := decide_eq_true c18
     clear c18
     by_cases c19 : 0 ≤ x9_2
     rotate_left
     ·rw [if_neg c19] at H
      exact absurd H (by simp)
     rw [if_pos c19] at H
     have c19b0 : decide (0 ≤ x9_2) = true := decide_eq_true c19
     clear c19
     by_cases c20 : x9_2 < (l2.length : Int)
     rotate_left
     ·rw [if_neg c20] at H
      exact absurd H (by simp)
     rw [if_pos c20] at H
     have c20b0 : decide (x9_2 < (l2.length : Int)) = true := decide_eq_true c20
     clear c20
     replace H := Option.bind_eq_some_iff.mp H
     obtain ⟨t154, A210, H⟩ := H
     replace H : (if t154 = true then (if x151000_2.length < 17592186044416 then ((spec_l13Gain.f k2 ((rd_T50 l0 x9_2).f0) ((rd_T50 l0 x9_2).f1) ((rd_T50 l0 x9_2).f2) ((rd_T50 l0 x9_2).f3) (rd l2 x9_2)).bind fun t163 => (spec_ShelfOf.l0 k2 l0 a1 l2 (wrap64 (x9_2 + 1)) (x151000_2 ++ [rd l2 x9_2]) (wrap64 (x151001_2 + (wrap64 ((rd l2 x9_2) * ((rd_T50 l0 x9_2).f1))))) (wrap64 (x151002_2 + t163)))) else (none)) else (some (([] : List Int), 0, 0, 3))) = some (r1, r2, r3, r4) := H
     have A21 := Aside0.mk A210
     clear A210
     by_cases c22 : t154 = true
     rotate_left
     ·replace c22 := Bool.eq_false_iff.mpr c22
      subst c22
      have H1 : (some (([] : List Int), 0, 0, 3)) = some (r1, r2, r3, r4) := by rw [if_neg (show ¬ (false = true) by decide)] at H; exact H
      clear H
      have H := H1
      clear H1
      simp only [Option.some.injEq, Prod.mk.injEq] at H
      obtain ⟨rfl, rfl, rfl, rfl⟩ := H
      try go_wp2
      have n0_ := Aside0.mk (Kd.R_drew HO_151000.out)
      have n1_ := Aside0.mk (blk_drew BK147.out)
      have n2_ := Aside0.mk (blk_drew BK150.out)
      have n3_ := Aside0.mk (below_drew1 HB.out)
      clear HO_151000
      clear BK147
      clear BK150
      clear HB
      have HO_151000 := n0_
      have BK147 := n1_
      have BK150 := n2_
      have HB := n3_
      clear n0_ n1_ n2_ n3_
      have p151 : 0 ≤ (x9_2 : Int) := od_
      have q151 : x9_2 < (l2.length : Int) := od_
      obtain ⟨ad151, e151, hx151_0⟩ := Kd.at_int HR2.out x9_2 p151 q151
      have hw151_0 := hx151_0
      cases e151
      replace hx151_0 := (HB.out.cell (World.block_lt_of_cell? w _ hx151_0)).trans hx151_0
      replace p151 := eq_true p151
      replace q151 := eq_true q151
      have p152 : 0 ≤ (x9_2 : Int) := od_
      have q152 : x9_2 < (l0.length : Int) := od_
      obtain ⟨ad152, A152_3, c152_3, e152, hx152_0, hx152_1, hx152_2, hx152_3, hl152_3, hi152_3⟩ := at_T50 HR0.out x9_2 p152 q152
      have hw152_3 := hx152_3
      have hw152_2 := hx152_2
      have hw152_1 := hx152_1
      have hw152_0 := hx152_0
      cases e152
      replace hx152_0 := (HB.out.cell (World.block_lt_of_cell? w _ hx152_0)).trans hx152_0
      replace hx152_1 := (HB.out.cell (World.block_lt_of_cell? w _ hx152_1)).trans hx152_1
      replace hx152_2 := (HB.out.cell (World.block_lt_of_cell? w _ hx152_2)).trans hx152_2
      replace hx152_3 := (HB.out.cell (World.block_lt_of_cell? w _ hx152_3)).trans hx152_3
      have HR152_3 := Aside0.mk hi152_3
      have HC152_3 := Aside0.mk hl152_3
      clear hi152_3 hl152_3
      replace p152 := eq_true p152
      replace q152 := eq_true q152
      have p153 : 0 ≤ (x9_2 : Int) := od_
      have q153 : x9_2 < (l0.length : Int) := od_
      obtain ⟨ad153, A153_3, c153_3, e153, hx153_0, hx153_1, hx153_2, hx153_3, hl153_3, hi153_3⟩ := at_T50 HR0.out x9_2 p153 q153
      have hw153_3 := hx153_3
      have hw153_2 := hx153_2
      have hw153_1 := hx153_1
      have hw153_0 := hx153_0
      obtain rfl : ad152 = ad153 := (by injection e153)
      replace hx153_0 := (HB.out.cell (World.block_lt_of_cell? w _ hx153_0)).trans hx153_0
      replace hx153_1 := (HB.out.cell (World.block_lt_of_cell? w _ hx153_1)).trans hx153_1
      replace hx153_2 := (HB.out.cell (World.block_lt_of_cell? w _ hx153_2)).trans hx153_2
      replace hx153_3 := (HB.out.cell (World.block_lt_of_cell? w _ hx153_3)).trans hx153_3
      have HR153_3 := Aside0.mk hi153_3
      have HC153_3 := Aside0.mk hl153_3
      clear hi153_3 hl153_3
      replace p153 := eq_true p153
      replace q153 := eq_true q153
      have ea_ := Option.some.inj (hx152_3.symm.trans hx153_3)
      injection ea_ with ea_ en_ ec_
      subst ea_
      subst ec_
      clear en_
      refine start_ (n := 17) (S := fun w' => w'.cell? (ad151.add (x9_2).toNat) = some (.int .i64 (rd l2 x9_2)) ∧ w'.cell? (ad152.add ((x9_2).toNat * 4)) = some (.string ((rd_T50 l0 x9_2).f0)) ∧ w'.cell? ⟨(ad152.add ((x9_2).toNat * 4)).block, (ad152.add ((x9_2).toNat * 4)).off + 1, none⟩ = some (.int .i64 ((rd_T50 l0 x9_2).f1)) ∧ w'.cell? ⟨(ad152.add ((x9_2).toNat * 4)).block, (ad152.add ((x9_2).toNat * 4)).off + 2, none⟩ = some (.int .i64 ((rd_T50 l0 x9_2).f2)) ∧ w'.cell? ⟨(ad152.add ((x9_2).toNat * 4)).block, (ad152.add ((x9_2).toNat * 4)).off + 3, none⟩ = some (.slice A152_3 ((rd_T50 l0 x9_2).f3).length c152_3) ∧ w'.cell? (ad152.add ((x9_2).toNat * 4)) = some (.string ((rd_T50 l0 x9_2).f0)) ∧ w'.cell? ⟨(ad152.add ((x9_2).toNat * 4)).block, (ad152.add ((x9_2).toNat * 4)).off + 1, none⟩ = some (.int .i64 ((rd_T50 l0 x9_2).f1)) ∧ w'.cell? ⟨(ad152.add ((x9_2).toNat * 4)).block, (ad152.add ((x9_2).toNat * 4)).off + 2, none⟩ = some (.int .i64 ((rd_T50 l0 x9_2).f2)) ∧ w'.cell? ⟨(ad152.add ((x9_2).toNat * 4)).block, (ad152.add ((x9_2).toNat * 4)).off + 3, none⟩ = some (.slice A152_3 ((rd_T50 l0 x9_2).f3).length c152_3)) (ds := []) (msk 0 17) (by kernel_rfl) rfl rfl ⟨((HB.out.cell (World.block_lt_of_cell? w _ hw151_0)).trans hw151_0), ((HB.out.cell (World.block_lt_of_cell? w _ hw152_0)).trans hw152_0), ((HB.out.cell (World.block_lt_of_cell? w _ hw152_1)).trans hw152_1), ((HB.out.cell (World.block_lt_of_cell? w _ hw152_2)).trans hw152_2), ((HB.out.cell (World.block_lt_of_cell? w _ hw152_3)).trans hw152_3), ((HB.out.cell (World.block_lt_of_cell? w _ hw153_0)).trans hw153_0), ((HB.out.cell (World.block_lt_of_cell? w _ hw153_1)).trans hw153_1), ((HB.out.cell (World.block_lt_of_cell? w _ hw153_2)).trans hw153_2), ((HB.out.cell (World.block_lt_of_cell? w _ hw153_3)).trans hw153_3)⟩ (fun hHeld => ?_); refine with_tabW spec_ShelfOf.tab13 spec_ShelfOf.bits13 (fun HT_ HW_ => ?_)
      generalize wr.drew = w37 at HO_151000 BK147 BK150 HB HR152_3 HR153_3 hx151_0 hx152_0 hx152_1 hx152_2 hx152_3 hx153_0 hx153_1 hx153_2 hx153_3 hHeld ⊢
      refine pu_ 0 40 (msk 1 16) HT_.out ?_; refine pu_ 1 41 (msk 2 15) HT_.out ?_; refine pu_ 2 42 (msk 3 14) HT_.out ?_; refine pu_ 4 44 (mskl 17 3 [4]) HT_.out ?_; refine pu_ 5 45 (mskl 17 3 [4, 5]) HT_.out ?_; refine pu_ 6 46 (mskl 17 3 [4, 5, 6]) HT_.out ?_; refine pu_ 7 47 (mskl 17 3 [4, 5, 6, 7]) HT_.out ?_; refine pu_ 9 49 (mskl 17 3 [4, 5, 6, 7, 9]) HT_.out ?_; refine pu_ 10 50 (mskl 17 3 [4, 5, 6, 7, 9, 10]) HT_.out ?_; refine pu_ 11 51 (mskl 17 3 [4, 5, 6, 7, 9, 10, 11]) HT_.out ?_; refine pu_ 12 52 (mskl 17 3 [4, 5, 6, 7, 9, 10, 11, 12]) HT_.out ?_
      refine tk_ 3 43 (mskl 17 8 [9, 10, 11, 12]) HT_.out HW_.out hHeld ?_ (hy := by rintro w' ⟨s0, s1, s2, s3, s4, s5, s6, s7, s8⟩; go_simp; with_reducible rfl)
      refine tk_ 8 48 (msk 13 4) HT_.out HW_.out hHeld ?_ (hy := by rintro w' ⟨s0, s1, s2, s3, s4, s5, s6, s7, s8⟩; go_simp; with_reducible rfl)
      refine tk_ 13 53 (msk 14 3) HT_.out HW_.out hHeld ?_ (hy := by rintro w' ⟨s0, s1, s2, s3, s4, s5, s6, s7, s8⟩; go_simp; with_reducible rfl)
      refine pu_ 14 54 (msk 15 2) HT_.out ?_
      refine one_ (i := 15) (N := some 55) (msk 16 1) rfl rfl (one_of HT_.out (by kernel_rfl)) (by decide) (fun K hK => ?_)
      refine goes_ Try.func26 (by kernel_rfl) rfl #[.int .i64 (rd l2 x9_2), .int .i64 ((rd_T50 l0 x9_2).f2), .int .i64 (((rd_T50 l0 x9_2).f3).length : Int)] (by rfl) rfl rfl (by (try simp only [List.map_toArray, List.map_cons, List.map_nil]); first | done | rfl | (simp only [List.length_drop, List.length_take]; rfl)) ?_
      with_reducible refine (spec_l01In.calls (rd l2 x9_2) ((rd_T50 l0 x9_2).f2) (((rd_T50 l0 x9_2).f3).length : Int) false _ A21.out).mono ?_
      rintro e w' ⟨rfl, ⟨nd, rfl⟩⟩
      refine ⟨_, rfl, ?_⟩
      refine hK.out _ _ ⟨((HB.out.cell (World.block_lt_of_cell? w _ hw151_0)).trans hw151_0), ((HB.out.cell (World.block_lt_of_cell? w _ hw152_0)).trans hw152_0), ((HB.out.cell (World.block_lt_of_cell? w _ hw152_1)).trans hw152_1), ((HB.out.cell (World.block_lt_of_cell? w _ hw152_2)).trans hw152_2), ((HB.out.cell (World.block_lt_of_cell? w _ hw152_3)).trans hw152_3), ((HB.out.cell (World.block_lt_of_cell? w _ hw153_0)).trans hw153_0), ((HB.out.cell (World.block_lt_of_cell? w _ hw153_1)).trans hw153_1), ((HB.out.cell (World.block_lt_of_cell? w _ hw153_2)).trans hw153_2), ((HB.out.cell (World.block_lt_of_cell? w _ hw153_3)).trans hw153_3)⟩ (fun hHeld => ?_)
      clear hK K
      refine norm_ (a' := ?_) ?_ ?_
      rotate_left
      ·show Act.put _ (some 55) _ = _
       simp only [Act.put, List.setIfInBounds_toArray, List.set_cons_zero, List.set_cons_succ, i64_w, i32_w]
       rfl
      refine pu_ 16 56 (msk 17 0) HT_.out ?_
      refine done_ (done_of HT_.out (by kernel_rfl)) ?_
      have hnb38 := NB147_150.out
      have hnc38 := NB150_147.out
      have hcz39_0 : w37.cell? ⟨gb147, 0, none⟩ = some (.slice none 0 0) := (blk_cell BK147.out 0).trans rfl
      have hcz39_1 : w37.cell? ⟨gb147, 1, none⟩ = some (.int .i64 x148001_2) := (blk_cell BK147.out 1).trans rfl
      have hcz39_2 : w37.cell? ⟨gb147, 2, none⟩ = some (.int .i64 x148002_2) := (blk_cell BK147.out 2).trans rfl
      have hfz39_0 := blk_frozen BK147.out 0
      have hfz39_1 := blk_frozen BK147.out 1
      have hfz39_2 := blk_frozen BK147.out 2
      try go_wp2
      refine bodyPost_ret (results_ct rfl _ _ gb147 31 #[.slice none 0 0, .int .i64 0, .int .i64 0] (0, 0) _ rfl (by (with_reducible repeat (first | refine blk_drewN ?_ _ | refine blk_drew ?_ | refine blk_alloc ?_ _)); refine blk_put (cs := #[.slice none 0 0, .int .i64 0, .int .i64 x148002_2]) ?_ 2 _ rfl; (with_reducible repeat (first | refine blk_drewN ?_ _ | refine blk_drew ?_ | refine blk_alloc ?_ _)); refine blk_put (cs := #[.slice none 0 0, .int .i64 x148001_2, .int .i64 x148002_2]) ?_ 1 _ rfl; (with_reducible repeat (first | refine blk_drewN ?_ _ | refine blk_drew ?_ | refine blk_alloc ?_ _)); refine blk_put (cs := #[.slice none 0 0, .int .i64 x148001_2, .int .i64 x148002_2]) ?_ 0 _ rfl; (with_reducible repeat (first | refine blk_drewN ?_ _ | refine blk_drew ?_ | refine blk_alloc ?_ _)); exact BK147.out) Try.underlying31 rfl (by kernel_rfl)) rfl ?_
      exact ⟨_, by first | rfl | (simp [errW_none, errW_some] <;> rfl) | (simp [*, errW_none, errW_some] <;> rfl), by first | exact Kd.R_nil _ _ _ _ _ | exact Kd.N_nil _ _ _ _ _ | exact Kd.V_nil _ _ _ _ _ | exact Kd.Q_nil _ _ _ _ _ | exact Kd.S_nil _ _ _ _ _, by repeat (first | (with_reducible first | exact HB.out | apply below_alloc | apply pw_below_drewN | apply below_drew1 | refine below_set ?_ GE147.out | refine below_set ?_ GE150.out) | exact HB.out)⟩
     subst c22
     have H1 : (if x151000_2.length < 17592186044416 then ((spec_l13Gain.f k2 ((rd_T50 l0 x9_2).f0) ((rd_T50 l0 x9_2).f1) ((rd_T50 l0 x9_2).f2) ((rd_T50 l0 x9_2).f3) (rd l2 x9_2)).bind fun t163 => (spec_ShelfOf.l0 k2 l0 a1 l2 (wrap64 (x9_2 + 1)) (x151000_2 ++ [rd l2 x9_2]) (wrap64 (x151001_2 + (wrap64 ((rd l2 x9_2) * ((rd_T50 l0 x9_2).f1))))) (wrap64 (x151002_2 + t163)))) else (none)) = some (r1, r2, r3, r4) := by rw [if_pos rfl] at H; exact H
     clear H
     have H := H1
     clear H1
     by_cases c23 : x151000_2.length < 17592186044416
     rotate_left
     ·rw [if_neg c23] at H
      exact absurd H (by simp)
     rw [if_pos c23] at H
     have LMc23 := Aside0.mk c23
     clear c23
     obtain ⟨y156, hy156⟩ : ∃ y_ : List Int, y_ = (x151000_2 ++ [rd l2 x9_2]) := ⟨_, rfl⟩
     replace H : ((spec_l13Gain.f k2 ((rd_T50 l0 x9_2).f0) ((rd_T50 l0 x9_2).f1) ((rd_T50 l0 x9_2).f2) ((rd_T50 l0 x9_2).f3) (rd l2 x9_2)).bind fun t163 => (spec_ShelfOf.l0 k2 l0 a1 l2 (wrap64 (x9_2 + 1)) y156 (wrap64 (x151001_2 + (wrap64 ((rd l2 x9_2) * ((rd_T50 l0 x9_2).f1))))) (wrap64 (x151002_2 + t163)))) = some (r1, r2, r3, r4) := by first | (rw [hy156]; with_reducible exact H) | (have H2_ := (Option.bind_some _ _).symm.trans H; rw [hy156]; with_reducible exact H2_) | (have H2_ := (Option.bind_some _ _).symm.trans H; with_reducible exact H2_) | with_reducible exact H | (rw [hy156]; exact H) | exact H
     have Ny156 := Aside0.mk hy156
     clear hy156
     replace H := Option.bind_eq_some_iff.mp H
     obtain ⟨t163, A240, H⟩ := H
     replace H : (spec_ShelfOf.l0 k2 l0 a1 l2 (wrap64 (x9_2 + 1)) y156 (wrap64 (x151001_2 + (wrap64 ((rd l2 x9_2) * ((rd_T50 l0 x9_2).f1))))) (wrap64 (x151002_2 + t163))) = some (r1, r2, r3, r4) := H
     have A24 := Aside0.mk A240
     clear A240
     have H' := Aside0.mk H
     clear H
     try go_wp2
     have n0_ := Aside0.mk (Kd.R_drew HO_151000.out)
     have n1_ := Aside0.mk (blk_drew BK147.out)
     have n2_ := Aside0.mk (blk_drew BK150.out)
     have n3_ := Aside0.mk (below_drew1 HB.out)
     clear HO_151000
     clear BK147
     clear BK150
     clear HB
     have HO_151000 := n0_
     have BK147 := n1_
     have BK150 := n2_
     have HB := n3_
     clear n0_ n1_ n2_ n3_
     have p151 : 0 ≤ (x9_2 : Int) := od_
     have q151 : x9_2 < (l2.length : Int) := od_
     obtain ⟨ad151, e151, hx151_0⟩ := Kd.at_int HR2.out x9_2 p151 q151
     have hw151_0 := hx151_0
     cases e151
     replace hx151_0 := (HB.out.cell (World.block_lt_of_cell? w _ hx151_0)).trans hx151_0
     replace p151 := eq_true p151
     replace q151 := eq_true q151
     have p152 : 0 ≤ (x9_2 : Int) := od_
     have q152 : x9_2 < (l0.length : Int) := od_
     obtain ⟨ad152, A152_3, c152_3, e152, hx152_0, hx152_1, hx152_2, hx152_3, hl152_3, hi152_3⟩ := at_T50 HR0.out x9_2 p152 q152
     have hw152_3 := hx152_3
     have hw152_2 := hx152_2
     have hw152_1 := hx152_1
     have hw152_0 := hx152_0
     cases e152
     replace hx152_0 := (HB.out.cell (World.block_lt_of_cell? w _ hx152_0)).trans hx152_0
     replace hx152_1 := (HB.out.cell (World.block_lt_of_cell? w _ hx152_1)).trans hx152_1
     replace hx152_2 := (HB.out.cell (World.block_lt_of_cell? w _ hx152_2)).trans hx152_2
     replace hx152_3 := (HB.out.cell (World.block_lt_of_cell? w _ hx152_3)).trans hx152_3
     have HR152_3 := Aside0.mk hi152_3
     have HC152_3 := Aside0.mk hl152_3
     clear hi152_3 hl152_3
     replace p152 := eq_true p152
     replace q152 := eq_true q152
     have p153 : 0 ≤ (x9_2 : Int) := od_
     have q153 : x9_2 < (l0.length : Int) := od_
     obtain ⟨ad153, A153_3, c153_3, e153, hx153_0, hx153_1, hx153_2, hx153_3, hl153_3, hi153_3⟩ := at_T50 HR0.out x9_2 p153 q153
     have hw153_3 := hx153_3
     have hw153_2 := hx153_2
     have hw153_1 := hx153_1
     have hw153_0 := hx153_0
     obtain rfl : ad152 = ad153 := (by injection e153)
     replace hx153_0 := (HB.out.cell (World.block_lt_of_cell? w _ hx153_0)).trans hx153_0
     replace hx153_1 := (HB.out.cell (World.block_lt_of_cell? w _ hx153_1)).trans hx153_1
     replace hx153_2 := (HB.out.cell (World.block_lt_of_cell? w _ hx153_2)).trans hx153_2
     replace hx153_3 := (HB.out.cell (World.block_lt_of_cell? w _ hx153_3)).trans hx153_3
     have HR153_3 := Aside0.mk hi153_3
     have HC153_3 := Aside0.mk hl153_3
     clear hi153_3 hl153_3
     replace p153 := eq_true p153
     replace q153 := eq_true q153
     have ea_ := Option.some.inj (hx152_3.symm.trans hx153_3)
     injection ea_ with ea_ en_ ec_
     subst ea_
     subst ec_
     clear en_
     refine start_ (n := 17) (S := fun w' => w'.cell? (ad151.add (x9_2).toNat) = some (.int .i64 (rd l2 x9_2)) ∧ w'.cell? (ad152.add ((x9_2).toNat * 4)) = some (.string ((rd_T50 l0 x9_2).f0)) ∧ w'.cell? ⟨(ad152.add ((x9_2).toNat * 4)).block, (ad152.add ((x9_2).toNat * 4)).off + 1, none⟩ = some (.int .i64 ((rd_T50 l0 x9_2).f1)) ∧ w'.cell? ⟨(ad152.add ((x9_2).toNat * 4)).block, (ad152.add ((x9_2).toNat * 4)).off + 2, none⟩ = some (.int .i64 ((rd_T50 l0 x9_2).f2)) ∧ w'.cell? ⟨(ad152.add ((x9_2).toNat * 4)).block, (ad152.add ((x9_2).toNat * 4)).off + 3, none⟩ = some (.slice A152_3 ((rd_T50 l0 x9_2).f3).length c152_3) ∧ w'.cell? (ad152.add ((x9_2).toNat * 4)) = some (.string ((rd_T50 l0 x9_2).f0)) ∧ w'.cell? ⟨(ad152.add ((x9_2).toNat * 4)).block, (ad152.add ((x9_2).toNat * 4)).off + 1, none⟩ = some (.int .i64 ((rd_T50 l0 x9_2).f1)) ∧ w'.cell? ⟨(ad152.add ((x9_2).toNat * 4)).block, (ad152.add ((x9_2).toNat * 4)).off + 2, none⟩ = some (.int .i64 ((rd_T50 l0 x9_2).f2)) ∧ w'.cell? ⟨(ad152.add ((x9_2).toNat * 4)).block, (ad152.add ((x9_2).toNat * 4)).off + 3, none⟩ = some (.slice A152_3 ((rd_T50 l0 x9_2).f3).length c152_3)) (ds := []) (msk 0 17) (by kernel_rfl) rfl rfl ⟨((HB.out.cell (World.block_lt_of_cell? w _ hw151_0)).trans hw151_0), ((HB.out.cell (World.block_lt_of_cell? w _ hw152_0)).trans hw152_0), ((HB.out.cell (World.block_lt_of_cell? w _ hw152_1)).trans hw152_1), ((HB.out.cell (World.block_lt_of_cell? w _ hw152_2)).trans hw152_2), ((HB.out.cell (World.block_lt_of_cell? w _ hw152_3)).trans hw152_3), ((HB.out.cell (World.block_lt_of_cell? w _ hw153_0)).trans hw153_0), ((HB.out.cell (World.block_lt_of_cell? w _ hw153_1)).trans hw153_1), ((HB.out.cell (World.block_lt_of_cell? w _ hw153_2)).trans hw153_2), ((HB.out.cell (World.block_lt_of_cell? w _ hw153_3)).trans hw153_3)⟩ (fun hHeld => ?_); refine with_tabW spec_ShelfOf.tab13 spec_ShelfOf.bits13 (fun HT_ HW_ => ?_)
     generalize wr.drew = w25 at HO_151000 BK147 BK150 HB HR152_3 HR153_3 hx151_0 hx152_0 hx152_1 hx152_2 hx152_3 hx153_0 hx153_1 hx153_2 hx153_3 hHeld ⊢
     refine pu_ 0 40 (msk 1 16) HT_.out ?_; refine pu_ 1 41 (msk 2 15) HT_.out ?_; refine pu_ 2 42 (msk 3 14) HT_.out ?_; refine pu_ 4 44 (mskl 17 3 [4]) HT_.out ?_; refine pu_ 5 45 (mskl 17 3 [4, 5]) HT_.out ?_; refine pu_ 6 46 (mskl 17 3 [4, 5, 6]) HT_.out ?_; refine pu_ 7 47 (mskl 17 3 [4, 5, 6, 7]) HT_.out ?_; refine pu_ 9 49 (mskl 17 3 [4, 5, 6, 7, 9]) HT_.out ?_; refine pu_ 10 50 (mskl 17 3 [4, 5, 6, 7, 9, 10]) HT_.out ?_; refine pu_ 11 51 (mskl 17 3 [4, 5, 6, 7, 9, 10, 11]) HT_.out ?_; refine pu_ 12 52 (mskl 17 3 [4, 5, 6, 7, 9, 10, 11, 12]) HT_.out ?_
     refine tk_ 3 43 (mskl 17 8 [9, 10, 11, 12]) HT_.out HW_.out hHeld ?_ (hy := by rintro w' ⟨s0, s1, s2, s3, s4, s5, s6, s7, s8⟩; go_simp; with_reducible rfl)
     refine tk_ 8 48 (msk 13 4) HT_.out HW_.out hHeld ?_ (hy := by rintro w' ⟨s0, s1, s2, s3, s4, s5, s6, s7, s8⟩; go_simp; with_reducible rfl)
     refine tk_ 13 53 (msk 14 3) HT_.out HW_.out hHeld ?_ (hy := by rintro w' ⟨s0, s1, s2, s3, s4, s5, s6, s7, s8⟩; go_simp; with_reducible rfl)
     refine pu_ 14 54 (msk 15 2) HT_.out ?_
     refine one_ (i := 15) (N := some 55) (msk 16 1) rfl rfl (one_of HT_.out (by kernel_rfl)) (by decide) (fun K hK => ?_)
     refine goes_ Try.func26 (by kernel_rfl) rfl #[.int .i64 (rd l2 x9_2), .int .i64 ((rd_T50 l0 x9_2).f2), .int .i64 (((rd_T50 l0 x9_2).f3).length : Int)] (by rfl) rfl rfl (by (try simp only [List.map_toArray, List.map_cons, List.map_nil]); first | done | rfl | (simp only [List.length_drop, List.length_take]; rfl)) ?_
     with_reducible refine (spec_l01In.calls (rd l2 x9_2) ((rd_T50 l0 x9_2).f2) (((rd_T50 l0 x9_2).f3).length : Int) true _ A21.out).mono ?_
     rintro e w' ⟨rfl, ⟨nd, rfl⟩⟩
     refine ⟨_, rfl, ?_⟩
     refine hK.out _ _ ⟨((HB.out.cell (World.block_lt_of_cell? w _ hw151_0)).trans hw151_0), ((HB.out.cell (World.block_lt_of_cell? w _ hw152_0)).trans hw152_0), ((HB.out.cell (World.block_lt_of_cell? w _ hw152_1)).trans hw152_1), ((HB.out.cell (World.block_lt_of_cell? w _ hw152_2)).trans hw152_2), ((HB.out.cell (World.block_lt_of_cell? w _ hw152_3)).trans hw152_3), ((HB.out.cell (World.block_lt_of_cell? w _ hw153_0)).trans hw153_0), ((HB.out.cell (World.block_lt_of_cell? w _ hw153_1)).trans hw153_1), ((HB.out.cell (World.block_lt_of_cell? w _ hw153_2)).trans hw153_2), ((HB.out.cell (World.block_lt_of_cell? w _ hw153_3)).trans hw153_3)⟩ (fun hHeld => ?_)
     clear hK K
     refine norm_ (a' := ?_) ?_ ?_
     rotate_left
     ·show Act.put _ (some 55) _ = _
      simp only [Act.put, List.setIfInBounds_toArray, List.set_cons_zero, List.set_cons_succ, i64_w, i32_w]
      rfl
     refine pu_ 16 56 (msk 17 0) HT_.out ?_
     refine done_ (done_of HT_.out (by kernel_rfl)) ?_
     try go_wp2
     (try (rw [drewN_self w25]; generalize hq_ : World.drewN w25 _ = w25; have n0_ : Aside0 (Kd.R (Kd.int .i64) 3 w25 w.heap.size (fun _ => True) u151000 x151000_2) := ⟨by rw [← hq_]; exact (by (with_reducible repeat (first | apply Kd.R_alloc | apply Kd.R_drewN | apply Kd.R_drew)); exact HO_151000.out)⟩; have n1_ : Aside0 (w25.heap[gb147]? = some (.cells #[.slice none 0 0, .int .i64 x148001_2, .int .i64 x148002_2] 31 (0, 0))) := ⟨by rw [← hq_]; exact bk_⟩; have n2_ : Aside0 (w25.heap[gb150]? = some (.cells #[u151000, .int .i64 x151001_2, .int .i64 x151002_2] 31 (0, 0))) := ⟨by rw [← hq_]; exact bk_⟩; have n3_ : Aside0 (Below w.heap.size w w25) := ⟨by rw [← hq_]; exact bl_⟩; clear HO_151000 BK147 BK150 HB hq_; have HO_151000 := n0_; have BK147 := n1_; have BK150 := n2_; have HB := n3_; clear n0_ n1_ n2_ n3_))
     have n0_ := Aside0.mk (Kd.R_drew HO_151000.out)
     have n1_ := Aside0.mk (blk_drew BK147.out)
     have n2_ := Aside0.mk (blk_drew BK150.out)
     have n3_ := Aside0.mk (below_drew1 HB.out)
     clear HO_151000
     clear BK147
     clear BK150
     clear HB
     have HO_151000 := n0_
     have BK147 := n1_
     have BK150 := n2_
     have HB := n3_
     clear n0_ n1_ n2_ n3_
     have p155 : 0 ≤ (x9_2 : Int) := od_
     have q155 : x9_2 < (l2.length : Int) := od_
     obtain ⟨ad155, e155, hx155_0⟩ := Kd.at_int HR2.out x9_2 p155 q155
     have hw155_0 := hx155_0
     obtain rfl : ad151 = ad155 := (by injection e155)
     replace hx155_0 := (HB.out.cell (World.block_lt_of_cell? w _ hx155_0)).trans hx155_0
     replace p155 := eq_true p155
     replace q155 := eq_true q155
     refine start_ (n := 10) (S := fun w' => w'.cell? ⟨gb150, 0, none⟩ = some (u151000) ∧ w'.cell? ⟨gb150, 1, none⟩ = some (.int .i64 x151001_2) ∧ w'.cell? ⟨gb150, 2, none⟩ = some (.int .i64 x151002_2) ∧ w'.cell? (ad151.add (x9_2).toNat) = some (.int .i64 (rd l2 x9_2))) (ds := [9]) (msk 0 10) (by kernel_rfl) rfl rfl ⟨(blk_cell BK150.out 0).trans rfl, (blk_cell BK150.out 1).trans rfl, (blk_cell BK150.out 2).trans rfl, ((HB.out.cell (World.block_lt_of_cell? w _ hw155_0)).trans hw155_0)⟩ (fun hHeld => ?_); refine with_tabW spec_ShelfOf.tab15 spec_ShelfOf.bits15 (fun HT_ HW_ => ?_)
     generalize w25.drew = w26 at HO_151000 BK147 BK150 HB hx155_0 hHeld ⊢
     refine pu_ 0 58 (msk 1 9) HT_.out ?_; refine pu_ 2 60 (mskl 10 1 [2]) HT_.out ?_; refine pu_ 3 61 (mskl 10 1 [2, 3]) HT_.out ?_; refine pu_ 4 62 (mskl 10 1 [2, 3, 4]) HT_.out ?_
     refine tk_ 1 59 (msk 5 5) HT_.out HW_.out hHeld ?_ (hy := by rintro w' ⟨s0, s1, s2, s3⟩; go_simp; with_reducible rfl)
     refine tk_ 5 63 (msk 6 4) HT_.out HW_.out hHeld ?_ (hy := by rintro w' ⟨s0, s1, s2, s3⟩; go_simp; with_reducible rfl)
     refine one_ (i := 6) (N := some 64) (msk 7 3) rfl rfl (one_of HT_.out (by kernel_rfl)) (by decide) (fun K hK => ?_)
     refine value_ (w1 := ?_) (v := ?_) (by rfl) rfl ?_ ?_
     rotate_left 2
     ·go_simp
      constructor
      ·rfl
      ·rfl
     refine hK.out _ _ ⟨(blk_cell (blk_alloc BK150.out _) 0).trans rfl, (blk_cell (blk_alloc BK150.out _) 1).trans rfl, (blk_cell (blk_alloc BK150.out _) 2).trans rfl, (World.cell?_alloc_lt _ _ _ (World.block_lt_of_cell? _ _ (((HB.out.cell (World.block_lt_of_cell? w _ hw155_0)).trans hw155_0)))).trans (((HB.out.cell (World.block_lt_of_cell? w _ hw155_0)).trans hw155_0))⟩ (fun hHeld => ?_)
     clear hK K
     refine norm_ (a' := ?_) ?_ ?_
     rotate_left
     ·show Act.put _ (some 64) _ = _
      simp only [Act.put, List.setIfInBounds_toArray, List.set_cons_zero, List.set_cons_succ, i64_w, i32_w]
      rfl
     refine one_ (i := 7) (N := some 65) (msk 8 2) rfl rfl (one_of HT_.out (by kernel_rfl)) (by decide) (fun K hK => ?_)
     refine Kd.R_append_step (Kd.int .i64) (w0 := w) w.heap.size (by rfl) (.tmp 59) (.tmp 64) 29 3 (.int .i64 0) 8 rfl Try.underlying29 info3 rfl (by decide) (by omega) u151000 x151000_2 (rd l2 x9_2) [.int .i64 (rd l2 x9_2)] (fun _ => True) (fun _ => False) rfl rfl ?aP (fun _ hk => hk.elim) ?aF ?aO ?aB ?aS ?aL ?_
     (case aP => exact rfl)
     (case aB => exact bl_)
     (case aF => exact (fun _ _ => trivial))
     (case aO => exact (by (with_reducible repeat (first | apply Kd.R_alloc | apply Kd.R_drewN | apply Kd.R_drew)); exact HO_151000.out))
     (case aS => exact (below_size bl_))
     (case aL => have := LMc23.out; omega)
     intro v157 w27 ho hb hg hat
     rw [← Ny156.out] at ho
     have n0_ := Aside0.mk (blk_grown (g := gb147) (o := .cells #[.slice none 0 0, .int .i64 x148001_2, .int .i64 x148002_2] 31 (0, 0)) bk_ hg (Kd.R_ne HO_151000.out BK147.out (by decide)))
     have n1_ := Aside0.mk (blk_grown (g := gb150) (o := .cells #[u151000, .int .i64 x151001_2, .int .i64 x151002_2] 31 (0, 0)) bk_ hg (Kd.R_ne HO_151000.out BK150.out (by decide)))
     have n2_ := Aside0.mk (hb)
     have n3_ := Aside0.mk (ho)
     clear BK147
     clear BK150
     clear HB
     clear HO_151000
     have BK147 := n0_
     have BK150 := n1_
     have HB := n2_
     have HO158 := n3_
     clear n0_ n1_ n2_ n3_
     clear ho hb hg hat
     obtain ⟨Ao28, co28, eo28⟩ := Kd.R_slice HO158.out
     (first | subst eo28 | (injection eo28 with f1_ f2_ f3_; have f4_ := f1_.symm; have f5_ := f3_.symm; clear f1_ f2_ f3_; subst f4_; subst f5_))
     refine hK.out _ _ ⟨(blk_cell BK150.out 0).trans rfl, (blk_cell BK150.out 1).trans rfl, (blk_cell BK150.out 2).trans rfl, ((HB.out.cell (World.block_lt_of_cell? w _ hw155_0)).trans hw155_0)⟩ (fun hHeld => ?_)
     clear hK K
     refine norm_ (a' := ?_) ?_ ?_
     rotate_left
     ·show Act.put _ (some 65) _ = _
      simp only [Act.put, List.setIfInBounds_toArray, List.set_cons_zero, List.set_cons_succ, i64_w, i32_w]
      rfl
     refine pu_ 8 66 (msk 9 1) HT_.out ?_
     refine last_ (i := 9) (N := none) (msk 10 0) rfl rfl (one_of HT_.out (by kernel_rfl)) (by decide) (fun K hK => ?_)
     have hs29 : w27.cell? ⟨gb150, 0, none⟩ = some (u151000) := (blk_cell BK150.out 0).trans rfl
     have hfs29 := blk_frozen BK150.out 0
     have hns29_0 := NB147_150.out
     have hms29_0 := NB150_147.out
     refine skip_ (w1 := ?_) (by rfl) rfl ?_ ?_
     rotate_left
     ·go_simp
      rfl
     refine hK.out _ _ ?_
     clear hK K
     refine done_ (done_of HT_.out (by kernel_rfl)) ?_
     try go_wp2
     have n0_ : Aside0 (Kd.R (Kd.int .i64) 3 (w27.setCell ⟨gb150, 0, none⟩ (.slice Ao28 y156.length co28)) w.heap.size (fun _ => True) (.slice Ao28 y156.length co28) y156) := ⟨by (with_reducible repeat (first | apply Kd.R_alloc | apply Kd.R_drewN | apply Kd.R_drew)); exact Kd.R_mono (Kd.R_far (p := ⟨gb150, 0, none⟩) (Kd.R_types HO158.out BK150.out (by decide)) (fun _ hk => hk.2) (.slice Ao28 y156.length co28)) (fun _ hk => trivial)⟩
     have n1_ : Aside0 ((w27.setCell ⟨gb150, 0, none⟩ (.slice Ao28 y156.length co28)).heap[gb147]? = some (.cells #[.slice none 0 0, .int .i64 x148001_2, .int .i64 x148002_2] 31 (0, 0))) := ⟨by (with_reducible repeat (first | refine blk_drewN ?_ _ | refine blk_drew ?_ | refine blk_alloc ?_ _)); exact blk_far bk_ NB147_150.out _⟩
     have n2_ : Aside0 ((w27.setCell ⟨gb150, 0, none⟩ (.slice Ao28 y156.length co28)).heap[gb150]? = some (.cells #[.slice Ao28 y156.length co28, .int .i64 x151001_2, .int .i64 x151002_2] 31 (0, 0))) := ⟨by (with_reducible repeat (first | refine blk_drewN ?_ _ | refine blk_drew ?_ | refine blk_alloc ?_ _)); refine blk_put (cs := #[u151000, .int .i64 x151001_2, .int .i64 x151002_2]) ?_ 0 _ rfl; (with_reducible repeat (first | refine blk_drewN ?_ _ | refine blk_drew ?_ | refine blk_alloc ?_ _)); exact BK150.out⟩
     have n3_ : Aside0 (Below w.heap.size w (w27.setCell ⟨gb150, 0, none⟩ (.slice Ao28 y156.length co28))) := ⟨by repeat (first | (with_reducible first | exact HB.out | apply below_alloc | apply pw_below_drewN | apply below_drew1 | refine below_set ?_ GE147.out | refine below_set ?_ GE150.out) | exact HB.out)⟩
     (try clear HO158)
     (try clear BK147)
     (try clear BK150)
     (try clear HB)
     generalize (w27.setCell ⟨gb150, 0, none⟩ (.slice Ao28 y156.length co28)) = w30 at n0_ n1_ n2_ n3_ ⊢
     have HO158 := n0_
     have BK147 := n1_
     have BK150 := n2_
     have HB := n3_
     clear n0_ n1_ n2_ n3_
     have n0_ := Aside0.mk (Kd.R_drew HO158.out)
     have n1_ := Aside0.mk (blk_drew BK147.out)
     have n2_ := Aside0.mk (blk_drew BK150.out)
     have n3_ := Aside0.mk (below_drew1 HB.out)
     clear HO158
     clear BK147
     clear BK150
     clear HB
     have HO158 := n0_
     have BK147 := n1_
     have BK150 := n2_
     have HB := n3_
     clear n0_ n1_ n2_ n3_
     have p159 : 0 ≤ (x9_2 : Int) := od_
     have q159 : x9_2 < (l2.length : Int) := od_
     obtain ⟨ad159, e159, hx159_0⟩ := Kd.at_int HR2.out x9_2 p159 q159
     have hw159_0 := hx159_0
     obtain rfl : ad151 = ad159 := (by injection e159)
     replace hx159_0 := (HB.out.cell (World.block_lt_of_cell? w _ hx159_0)).trans hx159_0
     replace p159 := eq_true p159
     replace q159 := eq_true q159
     have p160 : 0 ≤ (x9_2 : Int) := od_
     have q160 : x9_2 < (l0.length : Int) := od_
     obtain ⟨ad160, A160_3, c160_3, e160, hx160_0, hx160_1, hx160_2, hx160_3, hl160_3, hi160_3⟩ := at_T50 HR0.out x9_2 p160 q160
     have hw160_3 := hx160_3
     have hw160_2 := hx160_2
     have hw160_1 := hx160_1
     have hw160_0 := hx160_0
     obtain rfl : ad152 = ad160 := (by injection e160)
     replace hx160_0 := (HB.out.cell (World.block_lt_of_cell? w _ hx160_0)).trans hx160_0
     replace hx160_1 := (HB.out.cell (World.block_lt_of_cell? w _ hx160_1)).trans hx160_1
     replace hx160_2 := (HB.out.cell (World.block_lt_of_cell? w _ hx160_2)).trans hx160_2
     replace hx160_3 := (HB.out.cell (World.block_lt_of_cell? w _ hx160_3)).trans hx160_3
     have HR160_3 := Aside0.mk hi160_3
     have HC160_3 := Aside0.mk hl160_3
     clear hi160_3 hl160_3
     replace p160 := eq_true p160
     replace q160 := eq_true q160
     refine start_ (n := 15) (S := fun w' => w'.cell? ⟨gb150, 0, none⟩ = some (.slice Ao28 y156.length co28) ∧ w'.cell? ⟨gb150, 1, none⟩ = some (.int .i64 x151001_2) ∧ w'.cell? ⟨gb150, 2, none⟩ = some (.int .i64 x151002_2) ∧ w'.cell? (ad151.add (x9_2).toNat) = some (.int .i64 (rd l2 x9_2)) ∧ w'.cell? (ad152.add ((x9_2).toNat * 4)) = some (.string ((rd_T50 l0 x9_2).f0)) ∧ w'.cell? ⟨(ad152.add ((x9_2).toNat * 4)).block, (ad152.add ((x9_2).toNat * 4)).off + 1, none⟩ = some (.int .i64 ((rd_T50 l0 x9_2).f1)) ∧ w'.cell? ⟨(ad152.add ((x9_2).toNat * 4)).block, (ad152.add ((x9_2).toNat * 4)).off + 2, none⟩ = some (.int .i64 ((rd_T50 l0 x9_2).f2)) ∧ w'.cell? ⟨(ad152.add ((x9_2).toNat * 4)).block, (ad152.add ((x9_2).toNat * 4)).off + 3, none⟩ = some (.slice A160_3 ((rd_T50 l0 x9_2).f3).length c160_3)) (ds := [14]) (msk 0 15) (by kernel_rfl) rfl rfl ⟨(blk_cell BK150.out 0).trans rfl, (blk_cell BK150.out 1).trans rfl, (blk_cell BK150.out 2).trans rfl, ((HB.out.cell (World.block_lt_of_cell? w _ hw159_0)).trans hw159_0), ((HB.out.cell (World.block_lt_of_cell? w _ hw160_0)).trans hw160_0), ((HB.out.cell (World.block_lt_of_cell? w _ hw160_1)).trans hw160_1), ((HB.out.cell (World.block_lt_of_cell? w _ hw160_2)).trans hw160_2), ((HB.out.cell (World.block_lt_of_cell? w _ hw160_3)).trans hw160_3)⟩ (fun hHeld => ?_); refine with_tabW spec_ShelfOf.tab16 spec_ShelfOf.bits16 (fun HT_ HW_ => ?_)
     generalize w30.drew = w31 at HO158 BK147 BK150 HB HR160_3 hx159_0 hx160_0 hx160_1 hx160_2 hx160_3 hHeld ⊢
     refine pu_ 0 67 (msk 1 14) HT_.out ?_; refine pu_ 2 69 (mskl 15 1 [2]) HT_.out ?_; refine pu_ 3 70 (mskl 15 1 [2, 3]) HT_.out ?_; refine pu_ 4 71 (mskl 15 1 [2, 3, 4]) HT_.out ?_; refine pu_ 6 73 (mskl 15 1 [2, 3, 4, 6]) HT_.out ?_; refine pu_ 7 74 (mskl 15 1 [2, 3, 4, 6, 7]) HT_.out ?_; refine pu_ 8 75 (mskl 15 1 [2, 3, 4, 6, 7, 8]) HT_.out ?_; refine pu_ 9 76 (mskl 15 1 [2, 3, 4, 6, 7, 8, 9]) HT_.out ?_
     refine tk_ 1 68 (mskl 15 5 [6, 7, 8, 9]) HT_.out HW_.out hHeld ?_ (hy := by rintro w' ⟨s0, s1, s2, s3, s4, s5, s6, s7⟩; go_simp; with_reducible rfl)
     refine tk_ 5 72 (msk 10 5) HT_.out HW_.out hHeld ?_ (hy := by rintro w' ⟨s0, s1, s2, s3, s4, s5, s6, s7⟩; go_simp; with_reducible rfl)
     refine tk_ 10 77 (msk 11 4) HT_.out HW_.out hHeld ?_ (hy := by rintro w' ⟨s0, s1, s2, s3, s4, s5, s6, s7⟩; go_simp; with_reducible rfl)
     refine pu_ 11 78 (msk 12 3) HT_.out ?_; refine pu_ 12 79 (msk 13 2) HT_.out ?_; refine pu_ 13 80 (msk 14 1) HT_.out ?_
     refine last_ (i := 14) (N := none) (msk 15 0) rfl rfl (one_of HT_.out (by kernel_rfl)) (by decide) (fun K hK => ?_)
     have hs32 : w31.cell? ⟨gb150, 1, none⟩ = some (.int .i64 x151001_2) := (blk_cell BK150.out 1).trans rfl
     have hfs32 := blk_frozen BK150.out 1
     have hns32_0 := NB147_150.out
     have hms32_0 := NB150_147.out
     refine skip_ (w1 := ?_) (by rfl) rfl ?_ ?_
     rotate_left
     ·go_simp
      rfl
     refine hK.out _ _ ?_
     clear hK K
     refine done_ (done_of HT_.out (by kernel_rfl)) ?_
     try go_wp2
     have n0_ : Aside0 (Kd.R (Kd.int .i64) 3 (w31.setCell ⟨gb150, 1, none⟩ (.int .i64 (wrap64 (x151001_2 + (wrap64 ((rd l2 x9_2) * ((rd_T50 l0 x9_2).f1))))))) w.heap.size (fun _ => True) (.slice Ao28 y156.length co28) y156) := ⟨by (with_reducible repeat (first | apply Kd.R_alloc | apply Kd.R_drewN | apply Kd.R_drew)); exact Kd.R_mono (Kd.R_far (p := ⟨gb150, 1, none⟩) (Kd.R_types HO158.out BK150.out (by decide)) (fun _ hk => hk.2) (.int .i64 (wrap64 (x151001_2 + (wrap64 ((rd l2 x9_2) * ((rd_T50 l0 x9_2).f1))))))) (fun _ hk => trivial)⟩
     have n1_ : Aside0 ((w31.setCell ⟨gb150, 1, none⟩ (.int .i64 (wrap64 (x151001_2 + (wrap64 ((rd l2 x9_2) * ((rd_T50 l0 x9_2).f1))))))).heap[gb147]? = some (.cells #[.slice none 0 0, .int .i64 x148001_2, .int .i64 x148002_2] 31 (0, 0))) := ⟨by (with_reducible repeat (first | refine blk_drewN ?_ _ | refine blk_drew ?_ | refine blk_alloc ?_ _)); exact blk_far bk_ NB147_150.out _⟩
     have n2_ : Aside0 ((w31.setCell ⟨gb150, 1, none⟩ (.int .i64 (wrap64 (x151001_2 + (wrap64 ((rd l2 x9_2) * ((rd_T50 l0 x9_2).f1))))))).heap[gb150]? = some (.cells #[.slice Ao28 y156.length co28, .int .i64 (wrap64 (x151001_2 + (wrap64 ((rd l2 x9_2) * ((rd_T50 l0 x9_2).f1))))), .int .i64 x151002_2] 31 (0, 0))) := ⟨by (with_reducible repeat (first | refine blk_drewN ?_ _ | refine blk_drew ?_ | refine blk_alloc ?_ _)); refine blk_put (cs := #[.slice Ao28 y156.length co28, .int .i64 x151001_2, .int .i64 x151002_2]) ?_ 1 _ rfl; (with_reducible repeat (first | refine blk_drewN ?_ _ | refine blk_drew ?_ | refine blk_alloc ?_ _)); exact BK150.out⟩
     have n3_ : Aside0 (Below w.heap.size w (w31.setCell ⟨gb150, 1, none⟩ (.int .i64 (wrap64 (x151001_2 + (wrap64 ((rd l2 x9_2) * ((rd_T50 l0 x9_2).f1)))))))) := ⟨by repeat (first | (with_reducible first | exact HB.out | apply below_alloc | apply pw_below_drewN | apply below_drew1 | refine below_set ?_ GE147.out | refine below_set ?_ GE150.out) | exact HB.out)⟩
     (try clear HO158)
     (try clear BK147)
     (try clear BK150)
     (try clear HB)
     generalize (w31.setCell ⟨gb150, 1, none⟩ (.int .i64 (wrap64 (x151001_2 + (wrap64 ((rd l2 x9_2) * ((rd_T50 l0 x9_2).f1))))))) = w33 at n0_ n1_ n2_ n3_ ⊢
     have HO158 := n0_
     have BK147 := n1_
     have BK150 := n2_
     have HB := n3_
     clear n0_ n1_ n2_ n3_
     have n0_ := Aside0.mk (Kd.R_drew HO158.out)
     have n1_ := Aside0.mk (blk_drew BK147.out)
     have n2_ := Aside0.mk (blk_drew BK150.out)
     have n3_ := Aside0.mk (below_drew1 HB.out)
     clear HO158
     clear BK147
     clear BK150
     clear HB
     have HO158 := n0_
     have BK147 := n1_
     have BK150 := n2_
     have HB := n3_
     clear n0_ n1_ n2_ n3_
     have p161 : 0 ≤ (x9_2 : Int) := od_
     have q161 : x9_2 < (l0.length : Int) := od_
     obtain ⟨ad161, A161_3, c161_3, e161, hx161_0, hx161_1, hx161_2, hx161_3, hl161_3, hi161_3⟩ := at_T50 HR0.out x9_2 p161 q161
     have hw161_3 := hx161_3
     have hw161_2 := hx161_2
     have hw161_1 := hx161_1
     have hw161_0 := hx161_0
     obtain rfl : ad152 = ad161 := (by injection e161)
     replace hx161_0 := (HB.out.cell (World.block_lt_of_cell? w _ hx161_0)).trans hx161_0
     replace hx161_1 := (HB.out.cell (World.block_lt_of_cell? w _ hx161_1)).trans hx161_1
     replace hx161_2 := (HB.out.cell (World.block_lt_of_cell? w _ hx161_2)).trans hx161_2
     replace hx161_3 := (HB.out.cell (World.block_lt_of_cell? w _ hx161_3)).trans hx161_3
     have HR161_3 := Aside0.mk hi161_3
     have HC161_3 := Aside0.mk hl161_3
     clear hi161_3 hl161_3
     replace p161 := eq_true p161
     replace q161 := eq_true q161
     have p162 : 0 ≤ (x9_2 : Int) := od_
     have q162 : x9_2 < (l2.length : Int) := od_
     obtain ⟨ad162, e162, hx162_0⟩ := Kd.at_int HR2.out x9_2 p162 q162
     have hw162_0 := hx162_0
     obtain rfl : ad151 = ad162 := (by injection e162)
     replace hx162_0 := (HB.out.cell (World.block_lt_of_cell? w _ hx162_0)).trans hx162_0
     replace p162 := eq_true p162
     replace q162 := eq_true q162
     refine start_ (n := 14) (S := fun w' => w'.cell? ⟨gb150, 0, none⟩ = some (.slice Ao28 y156.length co28) ∧ w'.cell? ⟨gb150, 1, none⟩ = some (.int .i64 (wrap64 (x151001_2 + (wrap64 ((rd l2 x9_2) * ((rd_T50 l0 x9_2).f1)))))) ∧ w'.cell? ⟨gb150, 2, none⟩ = some (.int .i64 x151002_2) ∧ w'.cell? (ad152.add ((x9_2).toNat * 4)) = some (.string ((rd_T50 l0 x9_2).f0)) ∧ w'.cell? ⟨(ad152.add ((x9_2).toNat * 4)).block, (ad152.add ((x9_2).toNat * 4)).off + 1, none⟩ = some (.int .i64 ((rd_T50 l0 x9_2).f1)) ∧ w'.cell? ⟨(ad152.add ((x9_2).toNat * 4)).block, (ad152.add ((x9_2).toNat * 4)).off + 2, none⟩ = some (.int .i64 ((rd_T50 l0 x9_2).f2)) ∧ w'.cell? ⟨(ad152.add ((x9_2).toNat * 4)).block, (ad152.add ((x9_2).toNat * 4)).off + 3, none⟩ = some (.slice A161_3 ((rd_T50 l0 x9_2).f3).length c161_3) ∧ w'.cell? (ad151.add (x9_2).toNat) = some (.int .i64 (rd l2 x9_2))) (ds := [13]) (msk 0 14) (by kernel_rfl) rfl rfl ⟨(blk_cell BK150.out 0).trans rfl, (blk_cell BK150.out 1).trans rfl, (blk_cell BK150.out 2).trans rfl, ((HB.out.cell (World.block_lt_of_cell? w _ hw161_0)).trans hw161_0), ((HB.out.cell (World.block_lt_of_cell? w _ hw161_1)).trans hw161_1), ((HB.out.cell (World.block_lt_of_cell? w _ hw161_2)).trans hw161_2), ((HB.out.cell (World.block_lt_of_cell? w _ hw161_3)).trans hw161_3), ((HB.out.cell (World.block_lt_of_cell? w _ hw162_0)).trans hw162_0)⟩ (fun hHeld => ?_); refine with_tabW spec_ShelfOf.tab17 spec_ShelfOf.bits17 (fun HT_ HW_ => ?_)
     generalize w33.drew = w34 at HO158 BK147 BK150 HB HR161_3 hx161_0 hx161_1 hx161_2 hx161_3 hx162_0 hHeld ⊢
     refine pu_ 0 81 (msk 1 13) HT_.out ?_; refine pu_ 2 83 (mskl 14 1 [2]) HT_.out ?_; refine pu_ 3 84 (mskl 14 1 [2, 3]) HT_.out ?_; refine pu_ 4 85 (mskl 14 1 [2, 3, 4]) HT_.out ?_; refine pu_ 6 87 (mskl 14 1 [2, 3, 4, 6]) HT_.out ?_; refine pu_ 7 88 (mskl 14 1 [2, 3, 4, 6, 7]) HT_.out ?_; refine pu_ 8 89 (mskl 14 1 [2, 3, 4, 6, 7, 8]) HT_.out ?_
     refine tk_ 1 82 (mskl 14 5 [6, 7, 8]) HT_.out HW_.out hHeld ?_ (hy := by rintro w' ⟨s0, s1, s2, s3, s4, s5, s6, s7⟩; go_simp; with_reducible rfl)
     refine tk_ 5 86 (msk 9 5) HT_.out HW_.out hHeld ?_ (hy := by rintro w' ⟨s0, s1, s2, s3, s4, s5, s6, s7⟩; go_simp; with_reducible rfl)
     refine tk_ 9 90 (msk 10 4) HT_.out HW_.out hHeld ?_ (hy := by rintro w' ⟨s0, s1, s2, s3, s4, s5, s6, s7⟩; go_simp; with_reducible rfl)
     refine one_ (i := 10) (N := some 91) (msk 11 3) rfl rfl (one_of HT_.out (by kernel_rfl)) (by decide) (fun K hK => ?_)
     refine goes_ Try.func31 (by kernel_rfl) rfl #[.agg #[.string ((rd_T50 l0 x9_2).f0), .int .i64 ((rd_T50 l0 x9_2).f1), .int .i64 ((rd_T50 l0 x9_2).f2), .slice A161_3 ((rd_T50 l0 x9_2).f3).length c161_3], .int .i64 (rd l2 x9_2)] (by rfl) rfl rfl (by (try simp only [List.map_toArray, List.map_cons, List.map_nil]); first | done | rfl | (simp only [List.length_drop, List.length_take]; rfl)) ?_
     with_reducible refine (spec_l13Gain.calls k2 ((rd_T50 l0 x9_2).f0) ((rd_T50 l0 x9_2).f1) ((rd_T50 l0 x9_2).f2) _ _ ((rd_T50 l0 x9_2).f3) (rd l2 x9_2) t163 _ ?side1 ?side2 A24.out).mono ?_
     (case side1 => repeat (first | exact (Kd.C_below HR161_3.out HB.out) | (with_reducible refine Kd.C_alloc ?_ _) | (with_reducible refine Kd.C_drewN ?_ _) | (with_reducible refine Kd.C_drew ?_)))
     (case side2 => exact HC161_3.out)
     rintro e w35 ⟨rfl, hb⟩
     refine ⟨_, rfl, ?_⟩
     have n0_ := Aside0.mk (Kd.R_below (by (with_reducible repeat (first | apply Kd.R_alloc | apply Kd.R_drewN | apply Kd.R_drew)); exact HO158.out) hb)
     have n1_ := Aside0.mk (blk_below (g := gb147) (o := .cells #[.slice none 0 0, .int .i64 x148001_2, .int .i64 x148002_2] 31 (0, 0)) bk_ hb)
     have n2_ := Aside0.mk (blk_below (g := gb150) (o := .cells #[.slice Ao28 y156.length co28, .int .i64 (wrap64 (x151001_2 + (wrap64 ((rd l2 x9_2) * ((rd_T50 l0 x9_2).f1))))), .int .i64 x151002_2] 31 (0, 0)) bk_ hb)
     have n3_ := Aside0.mk (below_step bl_ hb)
     clear HO158
     clear BK147
     clear BK150
     clear HB
     have HO158 := n0_
     have BK147 := n1_
     have BK150 := n2_
     have HB := n3_
     clear n0_ n1_ n2_ n3_
     (try clear hb)
     (try clear hb2)
     (try clear hk)
     (try clear hi)
     refine hK.out _ _ ⟨(blk_cell BK150.out 0).trans rfl, (blk_cell BK150.out 1).trans rfl, (blk_cell BK150.out 2).trans rfl, ((HB.out.cell (World.block_lt_of_cell? w _ hw161_0)).trans hw161_0), ((HB.out.cell (World.block_lt_of_cell? w _ hw161_1)).trans hw161_1), ((HB.out.cell (World.block_lt_of_cell? w _ hw161_2)).trans hw161_2), ((HB.out.cell (World.block_lt_of_cell? w _ hw161_3)).trans hw161_3), ((HB.out.cell (World.block_lt_of_cell? w _ hw162_0)).trans hw162_0)⟩ (fun hHeld => ?_)
     clear hK K
     refine norm_ (a' := ?_) ?_ ?_
     rotate_left
     ·show Act.put _ (some 91) _ = _
      simp only [Act.put, List.setIfInBounds_toArray, List.set_cons_zero, List.set_cons_succ, i64_w, i32_w]
      rfl
     refine pu_ 11 92 (msk 12 2) HT_.out ?_; refine pu_ 12 93 (msk 13 1) HT_.out ?_
     refine last_ (i := 13) (N := none) (msk 14 0) rfl rfl (one_of HT_.out (by kernel_rfl)) (by decide) (fun K hK => ?_)
     have hs36 : w35.cell? ⟨gb150, 2, none⟩ = some (.int .i64 x151002_2) := (blk_cell BK150.out 2).trans rfl
     have hfs36 := blk_frozen BK150.out 2
     have hns36_0 := NB147_150.out
     have hms36_0 := NB150_147.out
     refine skip_ (w1 := ?_) (by rfl) rfl ?_ ?_
     rotate_left
     ·go_simp
      rfl
     refine hK.out _ _ ?_
     clear hK K
     refine done_ (done_of HT_.out (by kernel_rfl)) ?_
     try go_wp2
     go_roundg k2
     case measure => have := HJ3.out; have := HK2.out; omega
     case rel => exact ⟨(wrap64 (x9_2 + 1)), (x148001_2), (x148002_2), (y156), (wrap64 (x151001_2 + (wrap64 ((rd l2 x9_2) * ((rd_T50 l0 x9_2).f1))))), (wrap64 (x151002_2 + t163)), (.slice Ao28 y156.length co28), (by first | rfl | (simp; done) | (simp [*]; done)), H', ⟨by have := HJ3.out; have := HK2.out; omega⟩, ⟨by (with_reducible repeat (first | apply Kd.R_alloc | apply Kd.R_drewN | apply Kd.R_drew)); exact Kd.R_mono (Kd.R_far (p := ⟨gb150, 2, none⟩) (Kd.R_types HO158.out BK150.out (by decide)) (fun _ hk => hk.2) (.int .i64 (wrap64 (x151002_2 + t163)))) (fun _ hk => trivial)⟩, ⟨by (with_reducible repeat (first | refine blk_drewN ?_ _ | refine blk_drew ?_ | refine blk_alloc ?_ _)); exact blk_far bk_ NB147_150.out _⟩, ⟨by (with_reducible repeat (first | refine blk_drewN ?_ _ | refine blk_drew ?_ | refine blk_alloc ?_ _)); refine blk_put (cs := #[.slice Ao28 y156.length co28, .int .i64 (wrap64 (x151001_2 + (wrap64 ((rd l2 x9_2) * ((rd_T50 l0 x9_2).f1))))), .int .i64 x151002_2]) ?_ 2 _ rfl; (with_reducible repeat (first | refine blk_drewN ?_ _ | refine blk_drew ?_ | refine blk_alloc ?_ _)); exact BK150.out⟩, ⟨by repeat (first | (with_reducible first | exact HB.out | apply below_alloc | apply pw_below_drewN | apply below_drew1 | refine below_set ?_ GE147.out | refine below_set ?_ GE150.out) | exact HB.out)⟩⟩
end Go.Proofs.Ytecbcibblmknpaa.XFnExactShelfOf
