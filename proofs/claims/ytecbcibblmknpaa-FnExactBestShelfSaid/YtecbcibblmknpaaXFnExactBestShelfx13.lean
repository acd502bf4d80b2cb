-- PRINTED by xprint.py (our own program, over the kit's print.py)
import Derived.Test.YtecbcibblmknpaaXFnExactBestShelfx0
import Derived.Test.YtecbcibblmknpaaXFnExactBestShelfx10
import Derived.Test.YtecbcibblmknpaaXFnExactBestShelfx11
import Derived.Test.YtecbcibblmknpaaXFnExactBestShelfx12
import Derived.Test.YtecbcibblmknpaaPu
namespace Go.Proofs.Ytecbcibblmknpaa.XFnExactBestShelf
open Go.RowKit Go.Proofs.YtecbcibblmknpaaW.PrintWords Go.Proofs.YtecbcibblmknpaaW.PrintLast Go.Proofs.YtecbcibblmknpaaW.PrintMore Go.Proofs.YtecbcibblmknpaaW.Idx
attribute [local go_sem] max2_int min2_int max_two min_two max_three min_three max_four min_four   -- for this text's walks alone
set_option linter.unusedVariables false
set_option linter.unusedSimpArgs false

/-! ### spec_ShelfOf: function 12 -/
mutual
def spec_ShelfOf.j0 : Nat → List (S50) → Int → List Int → Bool → Option (List Int × Int × Int × Int)
 | 0, _, _, _, _ => none
 | k + 1, x0, x1, x2, x17 => if x17 = true then (some (([] : List Int), 0, 0, 2)) else ((spec_FacingsOK.f k x0).bind fun t269 => (if t269 = true then ((spec_l01In.f x1 0 2000).bind fun t270 => (if t270 = true then (if (x2.length : Int) = (x0.length : Int) then (spec_ShelfOf.l0 k x0 x1 x2 0 ([] : List Int) 0 0) else (some (([] : List Int), 0, 0, 3))) else (some (([] : List Int), 0, 0, 5)))) else (some (([] : List Int), 0, 0, 1))))
def spec_ShelfOf.l0 : Nat → List (S50) → Int → List Int → Int → List Int → Int → Int → Option (List Int × Int × Int × Int)
 | 0, _, _, _, _, _, _, _ => none
 | k + 1, x0, x1, x2, x9, x272000, x272001, x272002 => if x9 < (x0.length : Int) then (if 0 ≤ x9 then (if x9 < (x2.length : Int) then ((spec_l01In.f (rd x2 x9) ((rd_T50 x0 x9).f2) (((rd_T50 x0 x9).f3).length : Int)).bind fun t275 => (if t275 = true then (if x272000.length < 17592186044416 then ((spec_l13Gain.f k ((rd_T50 x0 x9).f0) ((rd_T50 x0 x9).f1) ((rd_T50 x0 x9).f2) ((rd_T50 x0 x9).f3) (rd x2 x9)).bind fun t284 => (spec_ShelfOf.l0 k x0 x1 x2 (wrap64 (x9 + 1)) (x272000 ++ [rd x2 x9]) (wrap64 (x272001 + (wrap64 ((rd x2 x9) * ((rd_T50 x0 x9).f1))))) (wrap64 (x272002 + t284)))) else (none)) else (some (([] : List Int), 0, 0, 3)))) else (none)) else (none)) else (if x272001 > x1 then (some (([] : List Int), 0, 0, 14)) else (some (x272000, x272001, x272002, 0)))
end
def spec_ShelfOf.f (k : Nat) (l0 : List (S50)) (a1 : Int) (l2 : List Int) : Option (List Int × Int × Int × Int) := if (l0.length : Int) > 4096 then (spec_ShelfOf.j0 k l0 a1 l2 true) else (spec_ShelfOf.j0 k l0 a1 l2 (decide ((l2.length : Int) > 4096)))
theorem spec_ShelfOf.mono_l : ∀ k, (∀ y0 y1 y2 y3, LeO (spec_ShelfOf.j0 k y0 y1 y2 y3) (spec_ShelfOf.j0 (k + 1) y0 y1 y2 y3)) ∧ (∀ y0 y1 y2 y3 y4 y5 y6, LeO (spec_ShelfOf.l0 k y0 y1 y2 y3 y4 y5 y6) (spec_ShelfOf.l0 (k + 1) y0 y1 y2 y3 y4 y5 y6))
 | 0 => ⟨fun _ _ _ _ r h => by simp [spec_ShelfOf.j0] at h, fun _ _ _ _ _ _ _ r h => by simp [spec_ShelfOf.l0] at h⟩
 | k + 1 => by
  obtain ⟨ih0, ih1⟩ := spec_ShelfOf.mono_l k
  refine ⟨?_, ?_⟩
  ·intro y0 y1 y2 y3
   unfold spec_ShelfOf.j0
   repeat' first
   | (with_reducible exact ih0 _ _ _ _)
   | (with_reducible exact ih1 _ _ _ _ _ _ _)
   | (with_reducible exact spec_FacingsOK.mono _ _)
   | (with_reducible exact spec_l13Gain.mono _ _ _ _ _ _)
   | (with_reducible exact LeO.refl _)
   | (with_reducible exact LeO.none _)
   | (with_reducible refine LeO.ite ?_ ?_)
   | (with_reducible refine LeO.bind ?_ (fun _ => ?_))
   | exact ih0 _ _ _ _
   | exact ih1 _ _ _ _ _ _ _
   | exact spec_FacingsOK.mono _ _
   | exact spec_l13Gain.mono _ _ _ _ _ _
   | exact LeO.none _
   | refine LeO.ite ?_ ?_
   | refine LeO.bind ?_ (fun _ => ?_)
  ·intro y0 y1 y2 y3 y4 y5 y6
   unfold spec_ShelfOf.l0
   repeat' first
   | (with_reducible exact ih0 _ _ _ _)
   | (with_reducible exact ih1 _ _ _ _ _ _ _)
   | (with_reducible exact spec_FacingsOK.mono _ _)
   | (with_reducible exact spec_l13Gain.mono _ _ _ _ _ _)
   | (with_reducible exact LeO.refl _)
   | (with_reducible exact LeO.none _)
   | (with_reducible refine LeO.ite ?_ ?_)
   | (with_reducible refine LeO.bind ?_ (fun _ => ?_))
   | exact ih0 _ _ _ _
   | exact ih1 _ _ _ _ _ _ _
   | exact spec_FacingsOK.mono _ _
   | exact spec_l13Gain.mono _ _ _ _ _ _
   | exact LeO.none _
   | refine LeO.ite ?_ ?_
   | refine LeO.bind ?_ (fun _ => ?_)
theorem spec_ShelfOf.mono : ∀ a0 a1 a2 k, LeO (spec_ShelfOf.f k a0 a1 a2) (spec_ShelfOf.f (k + 1) a0 a1 a2) := by
 intro a0 a1 a2 k
 obtain ⟨ih0, ih1⟩ := spec_ShelfOf.mono_l k
 unfold spec_ShelfOf.f
 repeat' first
   | (with_reducible exact ih0 _ _ _ _)
   | (with_reducible exact ih1 _ _ _ _ _ _ _)
   | (with_reducible exact spec_FacingsOK.mono _ _)
   | (with_reducible exact spec_l13Gain.mono _ _ _ _ _ _)
   | (with_reducible exact LeO.refl _)
   | (with_reducible exact LeO.none _)
   | (with_reducible refine LeO.ite ?_ ?_)
   | (with_reducible refine LeO.bind ?_ (fun _ => ?_))
   | exact ih0 _ _ _ _
   | exact ih1 _ _ _ _ _ _ _
   | exact spec_FacingsOK.mono _ _
   | exact spec_l13Gain.mono _ _ _ _ _ _
   | exact LeO.none _
   | refine LeO.ite ?_ ?_
   | refine LeO.bind ?_ (fun _ => ?_)
def spec_ShelfOf.T13 : Bool × List (List Nat × List Nat) := (true, [([], []), ([], []), ([0, 1], [0, 1]), ([2], [2]), ([], []), ([], []), ([4, 5], [4, 5]), ([6], [6]), ([7], [7]), ([], []), ([], []), ([9, 10], [9, 10]), ([11], [11]), ([12], [12]), ([13], [13]), ([3, 8, 14], [3, 8, 14]), ([15], [15])])
def spec_ShelfOf.B13 : List Nat := [0, 0, 3, 7, 0, 0, 48, 112, 240, 0, 0, 1536, 3584, 7680, 15872, 32767, 65535]
theorem spec_ShelfOf.tab13 : rtab .any (opsOf Try.f12 13) = spec_ShelfOf.T13 := by kernel_rfl
theorem spec_ShelfOf.bits13 : waitsOk spec_ShelfOf.T13.2 spec_ShelfOf.B13 = true := by kernel_rfl
def spec_ShelfOf.T15 : Bool × List (List Nat × List Nat) := (true, [([], []), ([0], [0]), ([], []), ([], []), ([2, 3], [2, 3]), ([4], [4]), ([5], [5]), ([1, 6], [1, 6]), ([0, 1, 2, 3, 4, 5, 6, 7], []), ([8, 7, 7, 0, 1, 2, 3, 4, 5, 6, 7], [7, 8])])
def spec_ShelfOf.B15 : List Nat := [0, 1, 0, 0, 12, 28, 60, 127, 255, 511]
theorem spec_ShelfOf.tab15 : rtab .any (opsOf Try.f12 15) = spec_ShelfOf.T15 := by kernel_rfl
theorem spec_ShelfOf.bits15 : waitsOk spec_ShelfOf.T15.2 spec_ShelfOf.B15 = true := by kernel_rfl
def spec_ShelfOf.T16 : Bool × List (List Nat × List Nat) := (true, [([], []), ([0], [0]), ([], []), ([], []), ([2, 3], [2, 3]), ([4], [4]), ([], []), ([], []), ([6, 7], [6, 7]), ([8], [8]), ([9], [9]), ([5, 10], [5, 10]), ([1, 11], [1, 11]), ([0, 1, 2, 3, 4, 5, 6, 7, 8, 9, 10, 11, 12], []), ([13, 12, 0, 1, 2, 3, 4, 5, 6, 7, 8, 9, 10, 11, 12], [12, 13])])
def spec_ShelfOf.B16 : List Nat := [0, 1, 0, 0, 12, 28, 0, 0, 192, 448, 960, 2044, 4095, 8191, 16383]
theorem spec_ShelfOf.tab16 : rtab .any (opsOf Try.f12 16) = spec_ShelfOf.T16 := by kernel_rfl
theorem spec_ShelfOf.bits16 : waitsOk spec_ShelfOf.T16.2 spec_ShelfOf.B16 = true := by kernel_rfl
def spec_ShelfOf.T17 : Bool × List (List Nat × List Nat) := (true, [([], []), ([0], [0]), ([], []), ([], []), ([2, 3], [2, 3]), ([4], [4]), ([], []), ([], []), ([6, 7], [6, 7]), ([8], [8]), ([5, 9], [5, 9]), ([1, 10], [1, 10]), ([0, 1, 2, 3, 4, 5, 6, 7, 8, 9, 10, 11], []), ([12, 11, 10, 0, 1, 2, 3, 4, 5, 6, 7, 8, 9, 10, 11], [11, 12])])
def spec_ShelfOf.B17 : List Nat := [0, 1, 0, 0, 12, 28, 0, 0, 192, 448, 1020, 2047, 4095, 8191]
theorem spec_ShelfOf.tab17 : rtab .any (opsOf Try.f12 17) = spec_ShelfOf.T17 := by kernel_rfl
theorem spec_ShelfOf.bits17 : waitsOk spec_ShelfOf.T17.2 spec_ShelfOf.B17 = true := by kernel_rfl
set_option maxHeartbeats 8000000 in
set_option maxRecDepth 100000 in
theorem spec_ShelfOf.calls (k : Nat) (A0 : Option Addr) (c0 : Nat) (l0 : List (S50)) (a1 : Int) (A2 : Option Addr) (c2 : Nat) (l2 : List Int) (r1 : List Int) (r2 : Int) (r3 : Int) (r4 : Int) (w : World) (hr0 : Kd.C k50 w A0 l0.length l0) (hc0 : l0.length ≤ c0) (hr2 : Kd.C (Kd.int .i64) w A2 l2.length l2) (hc2 : l2.length ≤ c2) (h : spec_ShelfOf.f k l0 a1 l2 = some (r1, r2, r3, r4)) :
  Calls Try.prog 12 #[.slice A0 l0.length c0, .int .i64 a1, .slice A2 l2.length c2] w fun e w' => ∃ v0_ : Value, e = .returned (.tuple #[.agg #[v0_, .int .i64 r2, .int .i64 r3], .int .i64 r4]) ∧ Kd.R (Kd.int .i64) 3 w' w.heap.size (fun _ => True) v0_ r1 ∧ Below w.heap.size w w' := by
 have hu31 := Try.underlying31
 have hu50 := Try.underlying50
 have HR0 := Aside0.mk hr0
 have HC0 := Aside0.mk hc0
 clear hr0 hc0
 have HR2 := Aside0.mk hr2
 have HC2 := Aside0.mk hc2
 clear hr2 hc2
 have HB := Aside0.mk (Below.refl w.heap.size w)
 have H : (if (l0.length : Int) > 4096 then (spec_ShelfOf.j0 k l0 a1 l2 true) else (spec_ShelfOf.j0 k l0 a1 l2 (decide ((l2.length : Int) > 4096)))) = some (r1, r2, r3, r4) := h
 clear h
 have HC4 := Aside0.mk H
 clear H
 go_enter Try.func12, Try.ntmps12
 go_upto_region 1 with (first | ((with_reducible refine gate_dst (N := 6) rfl ?_); (try (refine gate_guard (by rfl) ?_; dsimp only)); refine box_event ?hg (N := 6) ?hd (cs := #[.slice none 0 0, .int .i64 0, .int .i64 0]) (t := 31) ?hr ?_; (case hd => rfl); (case hg => rfl); (case hr => first | (go_simp; done) | (go_simp; rfl)); intro gb268 hg w5 hbox hb; have n0_ := Aside0.mk (below_step bl_ hb); have n1_ := Aside0.mk (hbox); have n2_ := Aside0.mk ((by rw [hg]; exact (below_size bl_) : w.heap.size ≤ gb268)); have n3_ := Aside0.mk ((by rw [hg]; exact (below_size bl_) : w.heap.size ≤ gb268)); clear HB; have HB := n0_; have BK268 := n1_; have GW268 := n2_; have GE268 := n3_; clear n0_ n1_ n2_ n3_; clear hb hbox hg))
 (try simp only [Act.put, List.setIfInBounds_toArray, List.set_cons_zero, List.set_cons_succ])
 go_cut [17] (fun v17 wc => ∃ (kq : Nat) (x17_3 : Bool), v17 = .bool x17_3 ∧ Aside0 (spec_ShelfOf.j0 kq l0 a1 l2 x17_3 = some (r1, r2, r3, r4)) ∧ Aside0 (kq ≤ k) ∧ Aside0 (wc.heap[gb268]? = some (.cells #[(.slice none 0 0), .int .i64 0, .int .i64 0] 31 (0, 0))) ∧ Aside0 (Below w.heap.size w wc))
 case first =>
  have H := HC4.out
  clear HC4
  by_cases c6 : (l0.length : Int) > 4096
  ·rw [if_pos c6] at H
   have c6b0 : decide (4096 < (l0.length : Int)) = true := decide_eq_true c6
   have c6b1 : decide (4096 < l0.length) = true := decide_eq_true (by omega)
   clear c6
   (first | rw [c6b0] | (simp only [i64_w, i32_w]; rw [c6b0]) | skip)
   have H' := Aside0.mk H
   clear H
   go_wp2
   go_meet
   case rel => exact ⟨_, (true), (by first | rfl | (simp; done) | (simp [*]; done)), H', ⟨by first | omega | exact Nat.le_refl _⟩, ⟨by (with_reducible repeat (first | refine blk_drewN ?_ _ | refine blk_drew ?_ | refine blk_alloc ?_ _)); exact BK268.out⟩, ⟨by repeat (first | (with_reducible first | exact HB.out | apply below_alloc | apply pw_below_drewN | apply below_drew1 | refine below_set ?_ GE268.out) | exact HB.out)⟩⟩
  rw [if_neg c6] at H
  have c6b0 : decide (4096 < (l0.length : Int)) = false := decide_eq_false c6
  have c6b1 : decide (4096 < l0.length) = false := decide_eq_false (by omega)
  clear c6
  (first | rw [c6b0] | (simp only [i64_w, i32_w]; rw [c6b0]) | skip)
  have H' := Aside0.mk H
  clear H
  go_wp2
  go_meet
  case rel => exact ⟨_, (decide ((l2.length : Int) > 4096)), (by first | rfl | (simp; done) | (simp [*]; done)), H', ⟨by first | omega | exact Nat.le_refl _⟩, ⟨by (with_reducible repeat (first | refine blk_drewN ?_ _ | refine blk_drew ?_ | refine blk_alloc ?_ _)); exact BK268.out⟩, ⟨by repeat (first | (with_reducible first | exact HB.out | apply below_alloc | apply pw_below_drewN | apply below_drew1 | refine below_set ?_ GE268.out) | exact HB.out)⟩⟩
 case rest =>
  clear HC4
  (try clear c1); (try clear c2); (try clear p2); (try clear c6); (try clear c6b0); (try clear c6b1)
  obtain ⟨kq, x17_3, rfl, HA, HJ3, BK268, HB⟩ := hcut
  cases kq with
  | zero => exact absurd HA.out (by simp [spec_ShelfOf.j0])
  | succ kj3 =>
   have H := HA.out
   clear HA
   simp only [spec_ShelfOf.j0] at H
   by_cases c7 : x17_3 = true
   ·subst c7
    have H1 : (some (([] : List Int), 0, 0, 2)) = some (r1, r2, r3, r4) := by rw [if_pos rfl] at H; exact H
    clear H
    have H := H1
    clear H1
    simp only [Option.some.injEq, Prod.mk.injEq] at H
    obtain ⟨rfl, rfl, rfl, rfl⟩ := H
    have hcz8_0 : wc.cell? ⟨gb268, 0, none⟩ = some (.slice none 0 0) := (blk_cell BK268.out 0).trans rfl
    have hcz8_1 : wc.cell? ⟨gb268, 1, none⟩ = some (.int .i64 0) := (blk_cell BK268.out 1).trans rfl
    have hcz8_2 : wc.cell? ⟨gb268, 2, none⟩ = some (.int .i64 0) := (blk_cell BK268.out 2).trans rfl
    have hfz8_0 := blk_frozen BK268.out 0
    have hfz8_1 := blk_frozen BK268.out 1
    have hfz8_2 := blk_frozen BK268.out 2
    go_wp2
    refine bodyPost_ret (results_ct rfl _ _ gb268 31 #[.slice none 0 0, .int .i64 0, .int .i64 0] (0, 0) _ rfl (by (with_reducible repeat (first | refine blk_drewN ?_ _ | refine blk_drew ?_ | refine blk_alloc ?_ _)); refine blk_put (cs := #[.slice none 0 0, .int .i64 0, .int .i64 0]) ?_ 2 _ rfl; (with_reducible repeat (first | refine blk_drewN ?_ _ | refine blk_drew ?_ | refine blk_alloc ?_ _)); refine blk_put (cs := #[.slice none 0 0, .int .i64 0, .int .i64 0]) ?_ 1 _ rfl; (with_reducible repeat (first | refine blk_drewN ?_ _ | refine blk_drew ?_ | refine blk_alloc ?_ _)); refine blk_put (cs := #[.slice none 0 0, .int .i64 0, .int .i64 0]) ?_ 0 _ rfl; (with_reducible repeat (first | refine blk_drewN ?_ _ | refine blk_drew ?_ | refine blk_alloc ?_ _)); exact BK268.out) Try.underlying31 rfl (by kernel_rfl)) rfl ?_
    exact ⟨_, by first | rfl | (simp [errW_none, errW_some] <;> rfl) | (simp [*, errW_none, errW_some] <;> rfl), by first | exact Kd.R_nil _ _ _ _ _ | exact Kd.N_nil _ _ _ _ _ | exact Kd.V_nil _ _ _ _ _ | exact Kd.Q_nil _ _ _ _ _ | exact Kd.S_nil _ _ _ _ _, by repeat (first | (with_reducible first | exact HB.out | apply below_alloc | apply pw_below_drewN | apply below_drew1 | refine below_set ?_ GE268.out) | exact HB.out)⟩
   replace c7 := Bool.eq_false_iff.mpr c7
   subst c7
   have H1 : ((spec_FacingsOK.f kj3 l0).bind fun t269 => (if t269 = true then ((spec_l01In.f a1 0 2000).bind fun t270 => (if t270 = true then (if (l2.length : Int) = (l0.length : Int) then (spec_ShelfOf.l0 kj3 l0 a1 l2 0 ([] : List Int) 0 0) else (some (([] : List Int), 0, 0, 3))) else (some (([] : List Int), 0, 0, 5)))) else (some (([] : List Int), 0, 0, 1)))) = some (r1, r2, r3, r4) := by rw [if_neg (show ¬ (false = true) by decide)] at H; exact H
   clear H
   have H := H1
   clear H1
   replace H := Option.bind_eq_some_iff.mp H
   obtain ⟨t269, A90, H⟩ := H
   replace H : (if t269 = true then ((spec_l01In.f a1 0 2000).bind fun t270 => (if t270 = true then (if (l2.length : Int) = (l0.length : Int) then (spec_ShelfOf.l0 kj3 l0 a1 l2 0 ([] : List Int) 0 0) else (some (([] : List Int), 0, 0, 3))) else (some (([] : List Int), 0, 0, 5)))) else (some (([] : List Int), 0, 0, 1))) = some (r1, r2, r3, r4) := H
   have A9 := Aside0.mk A90
   clear A90
   by_cases c10 : t269 = true
   rotate_left
   ·replace c10 := Bool.eq_false_iff.mpr c10
    subst c10
    have H1 : (some (([] : List Int), 0, 0, 1)) = some (r1, r2, r3, r4) := by rw [if_neg (show ¬ (false = true) by decide)] at H; exact H
    clear H
    have H := H1
    clear H1
    simp only [Option.some.injEq, Prod.mk.injEq] at H
    obtain ⟨rfl, rfl, rfl, rfl⟩ := H
    go_wp2_with (first | ((with_reducible refine gate_callee (f := 8) rfl ?_); refine goesL_ (some 20) rfl rfl Try.func8 (by kernel_rfl) rfl #[.slice A0 l0.length c0] rfl (by (try simp only [List.map_toArray, List.map_cons, List.map_nil]); first | done | rfl | (simp only [List.length_drop, List.length_take]; rfl)) ?_; (with_reducible refine (spec_FacingsOK.calls kj3 _ _ l0 false _ ?side1 ?side2 A9.out).mono ?_); (case side1 => repeat (first | exact (Kd.C_below HR0.out HB.out) | (with_reducible refine Kd.C_alloc ?_ _) | (with_reducible refine Kd.C_drewN ?_ _) | (with_reducible refine Kd.C_drew ?_))); (case side2 => exact HC0.out); rintro e w52 ⟨rfl, hb⟩; refine ⟨_, rfl, ?_⟩; have n0_ := Aside0.mk (blk_below (g := gb268) (o := .cells #[.slice none 0 0, .int .i64 0, .int .i64 0] 31 (0, 0)) bk_ hb); have n1_ := Aside0.mk (below_step bl_ hb); clear BK268; clear HB; have BK268 := n0_; have HB := n1_; clear n0_ n1_; (try clear hb); (try clear hb2); (try clear hk); (try clear hi); have hcz53_0 : w52.cell? ⟨gb268, 0, none⟩ = some (.slice none 0 0) := (blk_cell BK268.out 0).trans rfl; have hcz53_1 : w52.cell? ⟨gb268, 1, none⟩ = some (.int .i64 0) := (blk_cell BK268.out 1).trans rfl; have hcz53_2 : w52.cell? ⟨gb268, 2, none⟩ = some (.int .i64 0) := (blk_cell BK268.out 2).trans rfl; have hfz53_0 := blk_frozen BK268.out 0; have hfz53_1 := blk_frozen BK268.out 1; have hfz53_2 := blk_frozen BK268.out 2))
    refine bodyPost_ret (results_ct rfl _ _ gb268 31 #[.slice none 0 0, .int .i64 0, .int .i64 0] (0, 0) _ rfl (by (with_reducible repeat (first | refine blk_drewN ?_ _ | refine blk_drew ?_ | refine blk_alloc ?_ _)); refine blk_put (cs := #[.slice none 0 0, .int .i64 0, .int .i64 0]) ?_ 2 _ rfl; (with_reducible repeat (first | refine blk_drewN ?_ _ | refine blk_drew ?_ | refine blk_alloc ?_ _)); refine blk_put (cs := #[.slice none 0 0, .int .i64 0, .int .i64 0]) ?_ 1 _ rfl; (with_reducible repeat (first | refine blk_drewN ?_ _ | refine blk_drew ?_ | refine blk_alloc ?_ _)); refine blk_put (cs := #[.slice none 0 0, .int .i64 0, .int .i64 0]) ?_ 0 _ rfl; (with_reducible repeat (first | refine blk_drewN ?_ _ | refine blk_drew ?_ | refine blk_alloc ?_ _)); exact BK268.out) Try.underlying31 rfl (by kernel_rfl)) rfl ?_
    exact ⟨_, by first | rfl | (simp [errW_none, errW_some] <;> rfl) | (simp [*, errW_none, errW_some] <;> rfl), by first | exact Kd.R_nil _ _ _ _ _ | exact Kd.N_nil _ _ _ _ _ | exact Kd.V_nil _ _ _ _ _ | exact Kd.Q_nil _ _ _ _ _ | exact Kd.S_nil _ _ _ _ _, by repeat (first | (with_reducible first | exact HB.out | apply below_alloc | apply pw_below_drewN | apply below_drew1 | refine below_set ?_ GE268.out) | exact HB.out)⟩

   subst c10
   have H1 : ((spec_l01In.f a1 0 2000).bind fun t270 => (if t270 = true then (if (l2.length : Int) = (l0.length : Int) then (spec_ShelfOf.l0 kj3 l0 a1 l2 0 ([] : List Int) 0 0) else (some (([] : List Int), 0, 0, 3))) else (some (([] : List Int), 0, 0, 5)))) = some (r1, r2, r3, r4) := by rw [if_pos rfl] at H; exact H
   clear H
   have H := H1
   clear H1
   replace H := Option.bind_eq_some_iff.mp H
   obtain ⟨t270, A110, H⟩ := H
   replace H : (if t270 = true then (if (l2.length : Int) = (l0.length : Int) then (spec_ShelfOf.l0 kj3 l0 a1 l2 0 ([] : List Int) 0 0) else (some (([] : List Int), 0, 0, 3))) else (some (([] : List Int), 0, 0, 5))) = some (r1, r2, r3, r4) := H
   have A11 := Aside0.mk A110
   clear A110
   by_cases c12 : t270 = true
   rotate_left
   ·replace c12 := Bool.eq_false_iff.mpr c12
    subst c12
    have H1 : (some (([] : List Int), 0, 0, 5)) = some (r1, r2, r3, r4) := by rw [if_neg (show ¬ (false = true) by decide)] at H; exact H
    clear H
    have H := H1
    clear H1
    simp only [Option.some.injEq, Prod.mk.injEq] at H
    obtain ⟨rfl, rfl, rfl, rfl⟩ := H
    go_wp2_with (first | ((with_reducible refine gate_callee (f := 8) rfl ?_); refine goesL_ (some 20) rfl rfl Try.func8 (by kernel_rfl) rfl #[.slice A0 l0.length c0] rfl (by (try simp only [List.map_toArray, List.map_cons, List.map_nil]); first | done | rfl | (simp only [List.length_drop, List.length_take]; rfl)) ?_; (with_reducible refine (spec_FacingsOK.calls kj3 _ _ l0 true _ ?side1 ?side2 A9.out).mono ?_); (case side1 => repeat (first | exact (Kd.C_below HR0.out HB.out) | (with_reducible refine Kd.C_alloc ?_ _) | (with_reducible refine Kd.C_drewN ?_ _) | (with_reducible refine Kd.C_drew ?_))); (case side2 => exact HC0.out); rintro e w50 ⟨rfl, hb⟩; refine ⟨_, rfl, ?_⟩; have n0_ := Aside0.mk (blk_below (g := gb268) (o := .cells #[.slice none 0 0, .int .i64 0, .int .i64 0] 31 (0, 0)) bk_ hb); have n1_ := Aside0.mk (below_step bl_ hb); clear BK268; clear HB; have BK268 := n0_; have HB := n1_; clear n0_ n1_; (try clear hb); (try clear hb2); (try clear hk); (try clear hi)) | ((with_reducible refine gate_callee (f := 26) rfl ?_); refine goesL_ (some 24) rfl rfl Try.func26 (by kernel_rfl) rfl #[.int .i64 a1, .int .i64 0, .int .i64 2000] rfl (by (try simp only [List.map_toArray, List.map_cons, List.map_nil]); first | done | rfl | (simp only [List.length_drop, List.length_take]; rfl)) ?_; (with_reducible refine (spec_l01In.calls a1 0 2000 false _ A11.out).mono ?_); rintro e w' ⟨rfl, ⟨nd, rfl⟩⟩; refine ⟨_, rfl, ?_⟩; (try (rw [drewN_self w50]; generalize hq_ : World.drewN w50 _ = w50; have n0_ : Aside0 (w50.heap[gb268]? = some (.cells #[.slice none 0 0, .int .i64 0, .int .i64 0] 31 (0, 0))) := ⟨by rw [← hq_]; exact bk_⟩; have n1_ : Aside0 (Below w.heap.size w w50) := ⟨by rw [← hq_]; exact bl_⟩; clear BK268 HB hq_; have BK268 := n0_; have HB := n1_; clear n0_ n1_)); have hcz51_0 : w50.cell? ⟨gb268, 0, none⟩ = some (.slice none 0 0) := (blk_cell BK268.out 0).trans rfl; have hcz51_1 : w50.cell? ⟨gb268, 1, none⟩ = some (.int .i64 0) := (blk_cell BK268.out 1).trans rfl; have hcz51_2 : w50.cell? ⟨gb268, 2, none⟩ = some (.int .i64 0) := (blk_cell BK268.out 2).trans rfl; have hfz51_0 := blk_frozen BK268.out 0; have hfz51_1 := blk_frozen BK268.out 1; have hfz51_2 := blk_frozen BK268.out 2))
    refine bodyPost_ret (results_ct rfl _ _ gb268 31 #[.slice none 0 0, .int .i64 0, .int .i64 0] (0, 0) _ rfl (by (with_reducible repeat (first | refine blk_drewN ?_ _ | refine blk_drew ?_ | refine blk_alloc ?_ _)); refine blk_put (cs := #[.slice none 0 0, .int .i64 0, .int .i64 0]) ?_ 2 _ rfl; (with_reducible repeat (first | refine blk_drewN ?_ _ | refine blk_drew ?_ | refine blk_alloc ?_ _)); refine blk_put (cs := #[.slice none 0 0, .int .i64 0, .int .i64 0]) ?_ 1 _ rfl; (with_reducible repeat (first | refine blk_drewN ?_ _ | refine blk_drew ?_ | refine blk_alloc ?_ _)); refine blk_put (cs := #[.slice none 0 0, .int .i64 0, .int .i64 0]) ?_ 0 _ rfl; (with_reducible repeat (first | refine blk_drewN ?_ _ | refine blk_drew ?_ | refine blk_alloc ?_ _)); exact BK268.out) Try.underlying31 rfl (by kernel_rfl)) rfl ?_
    exact ⟨_, by first | rfl | (simp [errW_none, errW_some] <;> rfl) | (simp [*, errW_none, errW_some] <;> rfl), by first | exact Kd.R_nil _ _ _ _ _ | exact Kd.N_nil _ _ _ _ _ | exact Kd.V_nil _ _ _ _ _ | exact Kd.Q_nil _ _ _ _ _ | exact Kd.S_nil _ _ _ _ _, by repeat (first | (with_reducible first | exact HB.out | apply below_alloc | apply pw_below_drewN | apply below_drew1 | refine below_set ?_ GE268.out) | exact HB.out)⟩
   subst c12
   have H1 : (if (l2.length : Int) = (l0.length : Int) then (spec_ShelfOf.l0 kj3 l0 a1 l2 0 ([] : List Int) 0 0) else (some (([] : List Int), 0, 0, 3))) = some (r1, r2, r3, r4) := by rw [if_pos rfl] at H; exact H
   clear H
   have H := H1
   clear H1
   by_cases c13 : (l2.length : Int) = (l0.length : Int)
   rotate_left
   ·rw [if_neg c13] at H
    have c13b0 : ((l2.length : Int) == (l0.length : Int)) = false := beq_eq_false_iff_ne.mpr c13
    have c13b1 : ((l2.length : Int) != (l0.length : Int)) = true := bne_iff_ne.mpr c13
    have c13b2 : (l2.length == l0.length) = false := by first | simpa using c13 | (simp at c13 ⊢; omega)
    simp only [Option.some.injEq, Prod.mk.injEq] at H
    obtain ⟨rfl, rfl, rfl, rfl⟩ := H
    go_wp2_with (first | ((with_reducible refine gate_callee (f := 8) rfl ?_); refine goesL_ (some 20) rfl rfl Try.func8 (by kernel_rfl) rfl #[.slice A0 l0.length c0] rfl (by (try simp only [List.map_toArray, List.map_cons, List.map_nil]); first | done | rfl | (simp only [List.length_drop, List.length_take]; rfl)) ?_; (with_reducible refine (spec_FacingsOK.calls kj3 _ _ l0 true _ ?side1 ?side2 A9.out).mono ?_); (case side1 => repeat (first | exact (Kd.C_below HR0.out HB.out) | (with_reducible refine Kd.C_alloc ?_ _) | (with_reducible refine Kd.C_drewN ?_ _) | (with_reducible refine Kd.C_drew ?_))); (case side2 => exact HC0.out); rintro e w48 ⟨rfl, hb⟩; refine ⟨_, rfl, ?_⟩; have n0_ := Aside0.mk (blk_below (g := gb268) (o := .cells #[.slice none 0 0, .int .i64 0, .int .i64 0] 31 (0, 0)) bk_ hb); have n1_ := Aside0.mk (below_step bl_ hb); clear BK268; clear HB; have BK268 := n0_; have HB := n1_; clear n0_ n1_; (try clear hb); (try clear hb2); (try clear hk); (try clear hi)) | ((with_reducible refine gate_callee (f := 26) rfl ?_); refine goesL_ (some 24) rfl rfl Try.func26 (by kernel_rfl) rfl #[.int .i64 a1, .int .i64 0, .int .i64 2000] rfl (by (try simp only [List.map_toArray, List.map_cons, List.map_nil]); first | done | rfl | (simp only [List.length_drop, List.length_take]; rfl)) ?_; (with_reducible refine (spec_l01In.calls a1 0 2000 true _ A11.out).mono ?_); rintro e w' ⟨rfl, ⟨nd, rfl⟩⟩; refine ⟨_, rfl, ?_⟩; (try (rw [drewN_self w48]; generalize hq_ : World.drewN w48 _ = w48; have n0_ : Aside0 (w48.heap[gb268]? = some (.cells #[.slice none 0 0, .int .i64 0, .int .i64 0] 31 (0, 0))) := ⟨by rw [← hq_]; exact bk_⟩; have n1_ : Aside0 (Below w.heap.size w w48) := ⟨by rw [← hq_]; exact bl_⟩; clear BK268 HB hq_; have BK268 := n0_; have HB := n1_; clear n0_ n1_)); have hcz49_0 : w48.cell? ⟨gb268, 0, none⟩ = some (.slice none 0 0) := (blk_cell BK268.out 0).trans rfl; have hcz49_1 : w48.cell? ⟨gb268, 1, none⟩ = some (.int .i64 0) := (blk_cell BK268.out 1).trans rfl; have hcz49_2 : w48.cell? ⟨gb268, 2, none⟩ = some (.int .i64 0) := (blk_cell BK268.out 2).trans rfl; have hfz49_0 := blk_frozen BK268.out 0; have hfz49_1 := blk_frozen BK268.out 1; have hfz49_2 := blk_frozen BK268.out 2))
    refine bodyPost_ret (results_ct rfl _ _ gb268 31 #[.slice none 0 0, .int .i64 0, .int .i64 0] (0, 0) _ rfl (by (with_reducible repeat (first | refine blk_drewN ?_ _ | refine blk_drew ?_ | refine blk_alloc ?_ _)); refine blk_put (cs := #[.slice none 0 0, .int .i64 0, .int .i64 0]) ?_ 2 _ rfl; (with_reducible repeat (first | refine blk_drewN ?_ _ | refine blk_drew ?_ | refine blk_alloc ?_ _)); refine blk_put (cs := #[.slice none 0 0, .int .i64 0, .int .i64 0]) ?_ 1 _ rfl; (with_reducible repeat (first | refine blk_drewN ?_ _ | refine blk_drew ?_ | refine blk_alloc ?_ _)); refine blk_put (cs := #[.slice none 0 0, .int .i64 0, .int .i64 0]) ?_ 0 _ rfl; (with_reducible repeat (first | refine blk_drewN ?_ _ | refine blk_drew ?_ | refine blk_alloc ?_ _)); exact BK268.out) Try.underlying31 rfl (by kernel_rfl)) rfl ?_
    exact ⟨_, by first | rfl | (simp [errW_none, errW_some] <;> rfl) | (simp [*, errW_none, errW_some] <;> rfl), by first | exact Kd.R_nil _ _ _ _ _ | exact Kd.N_nil _ _ _ _ _ | exact Kd.V_nil _ _ _ _ _ | exact Kd.Q_nil _ _ _ _ _ | exact Kd.S_nil _ _ _ _ _, by repeat (first | (with_reducible first | exact HB.out | apply below_alloc | apply pw_below_drewN | apply below_drew1 | refine below_set ?_ GE268.out) | exact HB.out)⟩
   rw [if_pos c13] at H
   have c13b0 : ((l2.length : Int) == (l0.length : Int)) = true := beq_iff_eq.mpr c13
   have c13b1 : ((l2.length : Int) != (l0.length : Int)) = false := bne_eq_false_iff_eq.mpr c13
   have c13b2 : (l2.length == l0.length) = true := by first | simpa using c13 | (simp at c13 ⊢; omega)
   clear c13
   have H' := Aside0.mk H
   clear H
   go_wp2_with (first | ((with_reducible refine gate_callee (f := 8) rfl ?_); refine goesL_ (some 20) rfl rfl Try.func8 (by kernel_rfl) rfl #[.slice A0 l0.length c0] rfl (by (try simp only [List.map_toArray, List.map_cons, List.map_nil]); first | done | rfl | (simp only [List.length_drop, List.length_take]; rfl)) ?_; (with_reducible refine (spec_FacingsOK.calls kj3 _ _ l0 true _ ?side1 ?side2 A9.out).mono ?_); (case side1 => repeat (first | exact (Kd.C_below HR0.out HB.out) | (with_reducible refine Kd.C_alloc ?_ _) | (with_reducible refine Kd.C_drewN ?_ _) | (with_reducible refine Kd.C_drew ?_))); (case side2 => exact HC0.out); rintro e w14 ⟨rfl, hb⟩; refine ⟨_, rfl, ?_⟩; have n0_ := Aside0.mk (blk_below (g := gb268) (o := .cells #[.slice none 0 0, .int .i64 0, .int .i64 0] 31 (0, 0)) bk_ hb); have n1_ := Aside0.mk (below_step bl_ hb); clear BK268; clear HB; have BK268 := n0_; have HB := n1_; clear n0_ n1_; (try clear hb); (try clear hb2); (try clear hk); (try clear hi)) | ((with_reducible refine gate_callee (f := 26) rfl ?_); refine goesL_ (some 24) rfl rfl Try.func26 (by kernel_rfl) rfl #[.int .i64 a1, .int .i64 0, .int .i64 2000] rfl (by (try simp only [List.map_toArray, List.map_cons, List.map_nil]); first | done | rfl | (simp only [List.length_drop, List.length_take]; rfl)) ?_; (with_reducible refine (spec_l01In.calls a1 0 2000 true _ A11.out).mono ?_); rintro e w' ⟨rfl, ⟨nd, rfl⟩⟩; refine ⟨_, rfl, ?_⟩; (try (rw [drewN_self w14]; generalize hq_ : World.drewN w14 _ = w14; have n0_ : Aside0 (w14.heap[gb268]? = some (.cells #[.slice none 0 0, .int .i64 0, .int .i64 0] 31 (0, 0))) := ⟨by rw [← hq_]; exact bk_⟩; have n1_ : Aside0 (Below w.heap.size w w14) := ⟨by rw [← hq_]; exact bl_⟩; clear BK268 HB hq_; have BK268 := n0_; have HB := n1_; clear n0_ n1_))) | ((with_reducible refine gate_dst (N := 8) rfl ?_); (try (refine gate_guard (by rfl) ?_; dsimp only)); refine box_event ?hg (N := 8) ?hd (cs := #[.slice none 0 0, .int .i64 0, .int .i64 0]) (t := 31) ?hr ?_; (case hd => rfl); (case hg => rfl); (case hr => first | (go_simp; done) | (go_simp; rfl)); intro gb271 hg w15 hbox hb; have n0_ := Aside0.mk (blk_below (g := gb268) (o := .cells #[.slice none 0 0, .int .i64 0, .int .i64 0] 31 (0, 0)) bk_ hb); have n1_ := Aside0.mk (below_step bl_ hb); have n2_ := Aside0.mk (hbox); have n3_ := Aside0.mk ((by rw [hg]; exact (below_size bl_) : w.heap.size ≤ gb271)); have n4_ := Aside0.mk ((by rw [hg]; exact (below_size bl_) : w.heap.size ≤ gb271)); have n5_ := Aside0.mk ((by rw [hg]; exact Nat.ne_of_lt (blk_lt (g := gb268) (o := .cells #[.slice none 0 0, .int .i64 0, .int .i64 0] 31 (0, 0)) bk_) : gb268 ≠ gb271)); have n6_ := Aside0.mk ((by rw [hg]; exact Nat.ne_of_gt (blk_lt (g := gb268) (o := .cells #[.slice none 0 0, .int .i64 0, .int .i64 0] 31 (0, 0)) bk_) : gb271 ≠ gb268)); clear BK268; clear HB; have BK268 := n0_; have HB := n1_; have BK271 := n2_; have GW271 := n3_; have GE271 := n4_; have NB268_271 := n5_; have NB271_268 := n6_; clear n0_ n1_ n2_ n3_ n4_ n5_ n6_; clear hb hbox hg; have hnb16 := NB271_268.out; have hnc16 := NB268_271.out; have hcz17_0 : w15.cell? ⟨gb271, 0, none⟩ = some (.slice none 0 0) := (blk_cell BK271.out 0).trans rfl; have hcz17_1 : w15.cell? ⟨gb271, 1, none⟩ = some (.int .i64 0) := (blk_cell BK271.out 1).trans rfl; have hcz17_2 : w15.cell? ⟨gb271, 2, none⟩ = some (.int .i64 0) := (blk_cell BK271.out 2).trans rfl; have hfz17_0 := blk_frozen BK271.out 0; have hfz17_1 := blk_frozen BK271.out 1; have hfz17_2 := blk_frozen BK271.out 2))
   go_loopg [9] kj3 (fun kq v9 w' => ∃ (x9_2 : Int) (x269001_2 : Int) (x269002_2 : Int) (x272000_2 : List Int) (x272001_2 : Int) (x272002_2 : Int) (u272000 : Value), v9 = .int .i64 x9_2 ∧ Aside0 (spec_ShelfOf.l0 kq l0 a1 l2 x9_2 x272000_2 x272001_2 x272002_2 = some (r1, r2, r3, r4)) ∧ Aside0 (kq ≤ kj3) ∧ Aside0 (Kd.R (Kd.int .i64) 3 w' w.heap.size (fun _ => True) u272000 x272000_2) ∧ Aside0 (w'.heap[gb268]? = some (.cells #[(.slice none 0 0), .int .i64 x269001_2, .int .i64 x269002_2] 31 (0, 0))) ∧ Aside0 (w'.heap[gb271]? = some (.cells #[u272000, .int .i64 x272001_2, .int .i64 x272002_2] 31 (0, 0))) ∧ Aside0 (Below w.heap.size w w'))
   case atStart => exact ⟨(0), (0), (0), (([] : List Int)), (0), (0), (.slice none 0 0), (by first | rfl | (simp; done) | (simp [*]; done)), H', ⟨Nat.le_refl _⟩, ⟨by first | exact Kd.R_nil _ _ _ _ _ | exact Kd.N_nil _ _ _ _ _ | exact Kd.V_nil _ _ _ _ _ | exact Kd.Q_nil _ _ _ _ _ | exact Kd.S_nil _ _ _ _ _⟩, ⟨by (with_reducible repeat (first | refine blk_drewN ?_ _ | refine blk_drew ?_ | refine blk_alloc ?_ _)); refine blk_far ?_ NB268_271.out _; (with_reducible repeat (first | refine blk_drewN ?_ _ | refine blk_drew ?_ | refine blk_alloc ?_ _)); refine blk_far ?_ NB268_271.out _; (with_reducible repeat (first | refine blk_drewN ?_ _ | refine blk_drew ?_ | refine blk_alloc ?_ _)); exact blk_far bk_ NB268_271.out _⟩, ⟨by (with_reducible repeat (first | refine blk_drewN ?_ _ | refine blk_drew ?_ | refine blk_alloc ?_ _)); refine blk_put (cs := #[.slice none 0 0, .int .i64 0, .int .i64 0]) ?_ 2 _ rfl; (with_reducible repeat (first | refine blk_drewN ?_ _ | refine blk_drew ?_ | refine blk_alloc ?_ _)); refine blk_put (cs := #[.slice none 0 0, .int .i64 0, .int .i64 0]) ?_ 1 _ rfl; (with_reducible repeat (first | refine blk_drewN ?_ _ | refine blk_drew ?_ | refine blk_alloc ?_ _)); refine blk_put (cs := #[.slice none 0 0, .int .i64 0, .int .i64 0]) ?_ 0 _ rfl; (with_reducible repeat (first | refine blk_drewN ?_ _ | refine blk_drew ?_ | refine blk_alloc ?_ _)); exact BK271.out⟩, ⟨by repeat (first | (with_reducible first | exact HB.out | apply below_alloc | apply pw_below_drewN | apply below_drew1 | refine below_set ?_ GE268.out | refine below_set ?_ GE271.out) | exact HB.out)⟩⟩
   case round =>
    clear H'
    (try clear c7); (try clear c8); (try clear c10); (try clear c12); (try clear c13); (try clear c13b0); (try clear c13b1); (try clear c13b2); (try clear c16); (try clear hcz17_0); (try clear hcz17_1); (try clear hcz17_2); (try clear hcz8_0); (try clear hcz8_1); (try clear hcz8_2); (try clear hfz17_0); (try clear hfz17_1); (try clear hfz17_2); (try clear hfz8_0); (try clear hfz8_1); (try clear hfz8_2)
    obtain ⟨x9_2, x269001_2, x269002_2, x272000_2, x272001_2, x272002_2, u272000, rfl, HA, HK2, HO_272000, BK268, BK271, HB⟩ := hrel
    cases gk with
    | zero => exact absurd HA.out (by simp [spec_ShelfOf.l0])
    | succ k2 =>
     have H := HA.out
     clear HA
     simp only [spec_ShelfOf.l0] at H
     by_cases c18 : x9_2 < (l0.length : Int)
     rotate_left
     ·rw [if_neg c18] at H
      have c18b0 : decide (x9_2 < (l0.length : Int)) = false := decide_eq_false c18
      clear c18
      by_cases c40 : x272001_2 > a1
      ·rw [if_pos c40] at H
       have c40b0 : decide (a1 < x272001_2) = true := decide_eq_true c40
       clear c40
       simp only [Option.some.injEq, Prod.mk.injEq] at H
       obtain ⟨rfl, rfl, rfl, rfl⟩ := H
       have hnb41 := NB271_268.out
       have hnc41 := NB268_271.out
       have hcz42_0 : wr.cell? ⟨gb271, 0, none⟩ = some (u272000) := (blk_cell BK271.out 0).trans rfl
       have hcz42_1 : wr.cell? ⟨gb271, 1, none⟩ = some (.int .i64 x272001_2) := (blk_cell BK271.out 1).trans rfl
       have hcz42_2 : wr.cell? ⟨gb271, 2, none⟩ = some (.int .i64 x272002_2) := (blk_cell BK271.out 2).trans rfl
       have hfz42_0 := blk_frozen BK271.out 0
       have hfz42_1 := blk_frozen BK271.out 1
       have hfz42_2 := blk_frozen BK271.out 2
       have hcz43_0 : wr.cell? ⟨gb268, 0, none⟩ = some (.slice none 0 0) := (blk_cell BK268.out 0).trans rfl
       have hcz43_1 : wr.cell? ⟨gb268, 1, none⟩ = some (.int .i64 x269001_2) := (blk_cell BK268.out 1).trans rfl
       have hcz43_2 : wr.cell? ⟨gb268, 2, none⟩ = some (.int .i64 x269002_2) := (blk_cell BK268.out 2).trans rfl
       have hfz43_0 := blk_frozen BK268.out 0
       have hfz43_1 := blk_frozen BK268.out 1
       have hfz43_2 := blk_frozen BK268.out 2
       go_wp2
       refine bodyPost_ret (results_ct rfl _ _ gb268 31 #[.slice none 0 0, .int .i64 0, .int .i64 0] (0, 0) _ rfl (by (with_reducible repeat (first | refine blk_drewN ?_ _ | refine blk_drew ?_ | refine blk_alloc ?_ _)); refine blk_put (cs := #[.slice none 0 0, .int .i64 0, .int .i64 x269002_2]) ?_ 2 _ rfl; (with_reducible repeat (first | refine blk_drewN ?_ _ | refine blk_drew ?_ | refine blk_alloc ?_ _)); refine blk_put (cs := #[.slice none 0 0, .int .i64 x269001_2, .int .i64 x269002_2]) ?_ 1 _ rfl; (with_reducible repeat (first | refine blk_drewN ?_ _ | refine blk_drew ?_ | refine blk_alloc ?_ _)); refine blk_put (cs := #[.slice none 0 0, .int .i64 x269001_2, .int .i64 x269002_2]) ?_ 0 _ rfl; (with_reducible repeat (first | refine blk_drewN ?_ _ | refine blk_drew ?_ | refine blk_alloc ?_ _)); exact BK268.out) Try.underlying31 rfl (by kernel_rfl)) rfl ?_
       exact ⟨_, by first | rfl | (simp [errW_none, errW_some] <;> rfl) | (simp [*, errW_none, errW_some] <;> rfl), by first | exact Kd.R_nil _ _ _ _ _ | exact Kd.N_nil _ _ _ _ _ | exact Kd.V_nil _ _ _ _ _ | exact Kd.Q_nil _ _ _ _ _ | exact Kd.S_nil _ _ _ _ _, by repeat (first | (with_reducible first | exact HB.out | apply below_alloc | apply pw_below_drewN | apply below_drew1 | refine below_set ?_ GE268.out | refine below_set ?_ GE271.out) | exact HB.out)⟩
      rw [if_neg c40] at H
      have c40b0 : decide (a1 < x272001_2) = false := decide_eq_false c40
      clear c40
      simp only [Option.some.injEq, Prod.mk.injEq] at H
      obtain ⟨rfl, rfl, rfl, rfl⟩ := H
      have hnb44 := NB271_268.out
      have hnc44 := NB268_271.out
      have hcz45_0 : wr.cell? ⟨gb271, 0, none⟩ = some (u272000) := (blk_cell BK271.out 0).trans rfl
      have hcz45_1 : wr.cell? ⟨gb271, 1, none⟩ = some (.int .i64 x272001_2) := (blk_cell BK271.out 1).trans rfl
      have hcz45_2 : wr.cell? ⟨gb271, 2, none⟩ = some (.int .i64 x272002_2) := (blk_cell BK271.out 2).trans rfl
      have hfz45_0 := blk_frozen BK271.out 0
      have hfz45_1 := blk_frozen BK271.out 1
      have hfz45_2 := blk_frozen BK271.out 2
      obtain ⟨Ao46, co46, eo46⟩ := Kd.R_slice HO_272000.out
      subst eo46
      have hcz47_0 : wr.cell? ⟨gb268, 0, none⟩ = some (.slice none 0 0) := (blk_cell BK268.out 0).trans rfl
      have hcz47_1 : wr.cell? ⟨gb268, 1, none⟩ = some (.int .i64 x269001_2) := (blk_cell BK268.out 1).trans rfl
      have hcz47_2 : wr.cell? ⟨gb268, 2, none⟩ = some (.int .i64 x269002_2) := (blk_cell BK268.out 2).trans rfl
      have hfz47_0 := blk_frozen BK268.out 0
      have hfz47_1 := blk_frozen BK268.out 1
      have hfz47_2 := blk_frozen BK268.out 2
      go_wp2
      refine bodyPost_ret (results_ct rfl _ _ gb268 31 #[.slice Ao46 x272000_2.length co46, .int .i64 x272001_2, .int .i64 x272002_2] (0, 0) _ rfl (by (with_reducible repeat (first | refine blk_drewN ?_ _ | refine blk_drew ?_ | refine blk_alloc ?_ _)); refine blk_put (cs := #[.slice Ao46 x272000_2.length co46, .int .i64 x272001_2, .int .i64 x269002_2]) ?_ 2 _ rfl; (with_reducible repeat (first | refine blk_drewN ?_ _ | refine blk_drew ?_ | refine blk_alloc ?_ _)); refine blk_put (cs := #[.slice Ao46 x272000_2.length co46, .int .i64 x269001_2, .int .i64 x269002_2]) ?_ 1 _ rfl; (with_reducible repeat (first | refine blk_drewN ?_ _ | refine blk_drew ?_ | refine blk_alloc ?_ _)); refine blk_put (cs := #[.slice none 0 0, .int .i64 x269001_2, .int .i64 x269002_2]) ?_ 0 _ rfl; (with_reducible repeat (first | refine blk_drewN ?_ _ | refine blk_drew ?_ | refine blk_alloc ?_ _)); exact BK268.out) Try.underlying31 rfl (by kernel_rfl)) rfl ?_
      exact ⟨_, by first | rfl | (simp [errW_none, errW_some] <;> rfl) | (simp [*, errW_none, errW_some] <;> rfl), by (with_reducible repeat (first | apply Kd.R_alloc | apply Kd.R_drewN | apply Kd.R_drew)); exact Kd.R_mono (Kd.R_far (p := ⟨gb268, 2, none⟩) (Kd.R_far (p := ⟨gb268, 1, none⟩) (Kd.R_far (p := ⟨gb268, 0, none⟩) (Kd.R_types HO_272000.out BK268.out (by decide)) (fun _ hk => hk.2) (.slice Ao46 x272000_2.length co46)) (fun _ hk => hk.2) (.int .i64 x272001_2)) (fun _ hk => hk.2) (.int .i64 x272002_2)) (fun _ hk => trivial), by repeat (first | (with_reducible first | exact HB.out | apply below_alloc | apply pw_below_drewN | apply below_drew1 | refine below_set ?_ GE268.out | refine below_set ?_ GE271.out) | exact HB.out)⟩
     rw [if_pos c18] at H
     have c18b0 : decide (x9_2 < (l0.length : Int)) = true := decide_eq_true c18
     clear c18
     by_cases c19 : 0 ≤ x9_2
     rotate_left
     ·rw [if_neg c19] at H
      exact absurd H (by simp)
     rw [if_pos c19] at H
     have c19b0 : decide (0 ≤ x9_2) = true := decide_eq_true c19
     clear c19
     by_cases c20 : x9_2 < (l2.length : Int)
     rotate_left
     ·rw [if_neg c20] at H
      exact absurd H (by simp)
     rw [if_pos c20] at H
     have c20b0 : decide (x9_2 < (l2.length : Int)) = true := decide_eq_true c20
     clear c20
     replace H := Option.bind_eq_some_iff.mp H
     obtain ⟨t275, A210, H⟩ := H
     replace H : (if t275 = true then (if x272000_2.length < 17592186044416 then ((spec_l13Gain.f k2 ((rd_T50 l0 x9_2).f0) ((rd_T50 l0 x9_2).f1) ((rd_T50 l0 x9_2).f2) ((rd_T50 l0 x9_2).f3) (rd l2 x9_2)).bind fun t284 => (spec_ShelfOf.l0 k2 l0 a1 l2 (wrap64 (x9_2 + 1)) (x272000_2 ++ [rd l2 x9_2]) (wrap64 (x272001_2 + (wrap64 ((rd l2 x9_2) * ((rd_T50 l0 x9_2).f1))))) (wrap64 (x272002_2 + t284)))) else (none)) else (some (([] : List Int), 0, 0, 3))) = some (r1, r2, r3, r4) := H
     have A21 := Aside0.mk A210
     clear A210
     by_cases c22 : t275 = true
     rotate_left
     ·replace c22 := Bool.eq_false_iff.mpr c22
      subst c22
      have H1 : (some (([] : List Int), 0, 0, 3)) = some (r1, r2, r3, r4) := by rw [if_neg (show ¬ (false = true) by decide)] at H; exact H
      clear H
      have H := H1
      clear H1
      simp only [Option.some.injEq, Prod.mk.injEq] at H
      obtain ⟨rfl, rfl, rfl, rfl⟩ := H
      try go_wp2
      have n0_ := Aside0.mk (Kd.R_drew HO_272000.out)
      have n1_ := Aside0.mk (blk_drew BK268.out)
      have n2_ := Aside0.mk (blk_drew BK271.out)
      have n3_ := Aside0.mk (below_drew1 HB.out)
      clear HO_272000
      clear BK268
      clear BK271
      clear HB
      have HO_272000 := n0_
      have BK268 := n1_
      have BK271 := n2_
      have HB := n3_
      clear n0_ n1_ n2_ n3_
      have p272 : 0 ≤ (x9_2 : Int) := od_
      have q272 : x9_2 < (l2.length : Int) := od_
      obtain ⟨ad272, e272, hx272_0⟩ := Kd.at_int HR2.out x9_2 p272 q272
      have hw272_0 := hx272_0
      cases e272
      replace hx272_0 := (HB.out.cell (World.block_lt_of_cell? w _ hx272_0)).trans hx272_0
      replace p272 := eq_true p272
      replace q272 := eq_true q272
      have p273 : 0 ≤ (x9_2 : Int) := od_
      have q273 : x9_2 < (l0.length : Int) := od_
      obtain ⟨ad273, A273_3, c273_3, e273, hx273_0, hx273_1, hx273_2, hx273_3, hl273_3, hi273_3⟩ := at_T50 HR0.out x9_2 p273 q273
      have hw273_3 := hx273_3
      have hw273_2 := hx273_2
      have hw273_1 := hx273_1
      have hw273_0 := hx273_0
      cases e273
      replace hx273_0 := (HB.out.cell (World.block_lt_of_cell? w _ hx273_0)).trans hx273_0
      replace hx273_1 := (HB.out.cell (World.block_lt_of_cell? w _ hx273_1)).trans hx273_1
      replace hx273_2 := (HB.out.cell (World.block_lt_of_cell? w _ hx273_2)).trans hx273_2
      replace hx273_3 := (HB.out.cell (World.block_lt_of_cell? w _ hx273_3)).trans hx273_3
      have HR273_3 := Aside0.mk hi273_3
      have HC273_3 := Aside0.mk hl273_3
      clear hi273_3 hl273_3
      replace p273 := eq_true p273
      replace q273 := eq_true q273
      have p274 : 0 ≤ (x9_2 : Int) := od_
      have q274 : x9_2 < (l0.length : Int) := od_
      obtain ⟨ad274, A274_3, c274_3, e274, hx274_0, hx274_1, hx274_2, hx274_3, hl274_3, hi274_3⟩ := at_T50 HR0.out x9_2 p274 q274
      have hw274_3 := hx274_3
      have hw274_2 := hx274_2
      have hw274_1 := hx274_1
      have hw274_0 := hx274_0
      obtain rfl : ad273 = ad274 := (by injection e274)
      replace hx274_0 := (HB.out.cell (World.block_lt_of_cell? w _ hx274_0)).trans hx274_0
      replace hx274_1 := (HB.out.cell (World.block_lt_of_cell? w _ hx274_1)).trans hx274_1
      replace hx274_2 := (HB.out.cell (World.block_lt_of_cell? w _ hx274_2)).trans hx274_2
      replace hx274_3 := (HB.out.cell (World.block_lt_of_cell? w _ hx274_3)).trans hx274_3
      have HR274_3 := Aside0.mk hi274_3
      have HC274_3 := Aside0.mk hl274_3
      clear hi274_3 hl274_3
      replace p274 := eq_true p274
      replace q274 := eq_true q274
      have ea_ := Option.some.inj (hx273_3.symm.trans hx274_3)
      injection ea_ with ea_ en_ ec_
      subst ea_
      subst ec_
      clear en_
      refine start_ (n := 17) (S := fun w' => w'.cell? (ad272.add (x9_2).toNat) = some (.int .i64 (rd l2 x9_2)) ∧ w'.cell? (ad273.add ((x9_2).toNat * 4)) = some (.string ((rd_T50 l0 x9_2).f0)) ∧ w'.cell? ⟨(ad273.add ((x9_2).toNat * 4)).block, (ad273.add ((x9_2).toNat * 4)).off + 1, none⟩ = some (.int .i64 ((rd_T50 l0 x9_2).f1)) ∧ w'.cell? ⟨(ad273.add ((x9_2).toNat * 4)).block, (ad273.add ((x9_2).toNat * 4)).off + 2, none⟩ = some (.int .i64 ((rd_T50 l0 x9_2).f2)) ∧ w'.cell? ⟨(ad273.add ((x9_2).toNat * 4)).block, (ad273.add ((x9_2).toNat * 4)).off + 3, none⟩ = some (.slice A273_3 ((rd_T50 l0 x9_2).f3).length c273_3) ∧ w'.cell? (ad273.add ((x9_2).toNat * 4)) = some (.string ((rd_T50 l0 x9_2).f0)) ∧ w'.cell? ⟨(ad273.add ((x9_2).toNat * 4)).block, (ad273.add ((x9_2).toNat * 4)).off + 1, none⟩ = some (.int .i64 ((rd_T50 l0 x9_2).f1)) ∧ w'.cell? ⟨(ad273.add ((x9_2).toNat * 4)).block, (ad273.add ((x9_2).toNat * 4)).off + 2, none⟩ = some (.int .i64 ((rd_T50 l0 x9_2).f2)) ∧ w'.cell? ⟨(ad273.add ((x9_2).toNat * 4)).block, (ad273.add ((x9_2).toNat * 4)).off + 3, none⟩ = some (.slice A273_3 ((rd_T50 l0 x9_2).f3).length c273_3)) (ds := []) (msk 0 17) (by kernel_rfl) rfl rfl ⟨((HB.out.cell (World.block_lt_of_cell? w _ hw272_0)).trans hw272_0), ((HB.out.cell (World.block_lt_of_cell? w _ hw273_0)).trans hw273_0), ((HB.out.cell (World.block_lt_of_cell? w _ hw273_1)).trans hw273_1), ((HB.out.cell (World.block_lt_of_cell? w _ hw273_2)).trans hw273_2), ((HB.out.cell (World.block_lt_of_cell? w _ hw273_3)).trans hw273_3), ((HB.out.cell (World.block_lt_of_cell? w _ hw274_0)).trans hw274_0), ((HB.out.cell (World.block_lt_of_cell? w _ hw274_1)).trans hw274_1), ((HB.out.cell (World.block_lt_of_cell? w _ hw274_2)).trans hw274_2), ((HB.out.cell (World.block_lt_of_cell? w _ hw274_3)).trans hw274_3)⟩ (fun hHeld => ?_); refine with_tabW spec_ShelfOf.tab13 spec_ShelfOf.bits13 (fun HT_ HW_ => ?_)
      generalize wr.drew = w37 at HO_272000 BK268 BK271 HB HR273_3 HR274_3 hx272_0 hx273_0 hx273_1 hx273_2 hx273_3 hx274_0 hx274_1 hx274_2 hx274_3 hHeld ⊢
      refine pu_ 0 40 (msk 1 16) HT_.out ?_; refine pu_ 1 41 (msk 2 15) HT_.out ?_; refine pu_ 2 42 (msk 3 14) HT_.out ?_; refine pu_ 4 44 (mskl 17 3 [4]) HT_.out ?_; refine pu_ 5 45 (mskl 17 3 [4, 5]) HT_.out ?_; refine pu_ 6 46 (mskl 17 3 [4, 5, 6]) HT_.out ?_; refine pu_ 7 47 (mskl 17 3 [4, 5, 6, 7]) HT_.out ?_; refine pu_ 9 49 (mskl 17 3 [4, 5, 6, 7, 9]) HT_.out ?_; refine pu_ 10 50 (mskl 17 3 [4, 5, 6, 7, 9, 10]) HT_.out ?_; refine pu_ 11 51 (mskl 17 3 [4, 5, 6, 7, 9, 10, 11]) HT_.out ?_; refine pu_ 12 52 (mskl 17 3 [4, 5, 6, 7, 9, 10, 11, 12]) HT_.out ?_
      refine tk_ 3 43 (mskl 17 8 [9, 10, 11, 12]) HT_.out HW_.out hHeld ?_ (hy := by rintro w' ⟨s0, s1, s2, s3, s4, s5, s6, s7, s8⟩; go_simp; with_reducible rfl)
      refine tk_ 8 48 (msk 13 4) HT_.out HW_.out hHeld ?_ (hy := by rintro w' ⟨s0, s1, s2, s3, s4, s5, s6, s7, s8⟩; go_simp; with_reducible rfl)
      refine tk_ 13 53 (msk 14 3) HT_.out HW_.out hHeld ?_ (hy := by rintro w' ⟨s0, s1, s2, s3, s4, s5, s6, s7, s8⟩; go_simp; with_reducible rfl)
      refine pu_ 14 54 (msk 15 2) HT_.out ?_
      refine one_ (i := 15) (N := some 55) (msk 16 1) rfl rfl (one_of HT_.out (by kernel_rfl)) (by decide) (fun K hK => ?_)
      refine goes_ Try.func26 (by kernel_rfl) rfl #[.int .i64 (rd l2 x9_2), .int .i64 ((rd_T50 l0 x9_2).f2), .int .i64 (((rd_T50 l0 x9_2).f3).length : Int)] (by rfl) rfl rfl (by (try simp only [List.map_toArray, List.map_cons, List.map_nil]); first | done | rfl | (simp only [List.length_drop, List.length_take]; rfl)) ?_
      with_reducible refine (spec_l01In.calls (rd l2 x9_2) ((rd_T50 l0 x9_2).f2) (((rd_T50 l0 x9_2).f3).length : Int) false _ A21.out).mono ?_
      rintro e w' ⟨rfl, ⟨nd, rfl⟩⟩
      refine ⟨_, rfl, ?_⟩
      refine hK.out _ _ ⟨((HB.out.cell (World.block_lt_of_cell? w _ hw272_0)).trans hw272_0), ((HB.out.cell (World.block_lt_of_cell? w _ hw273_0)).trans hw273_0), ((HB.out.cell (World.block_lt_of_cell? w _ hw273_1)).trans hw273_1), ((HB.out.cell (World.block_lt_of_cell? w _ hw273_2)).trans hw273_2), ((HB.out.cell (World.block_lt_of_cell? w _ hw273_3)).trans hw273_3), ((HB.out.cell (World.block_lt_of_cell? w _ hw274_0)).trans hw274_0), ((HB.out.cell (World.block_lt_of_cell? w _ hw274_1)).trans hw274_1), ((HB.out.cell (World.block_lt_of_cell? w _ hw274_2)).trans hw274_2), ((HB.out.cell (World.block_lt_of_cell? w _ hw274_3)).trans hw274_3)⟩ (fun hHeld => ?_)
      clear hK K
      refine norm_ (a' := ?_) ?_ ?_
      rotate_left
      ·show Act.put _ (some 55) _ = _
       simp only [Act.put, List.setIfInBounds_toArray, List.set_cons_zero, List.set_cons_succ, i64_w, i32_w]
       rfl
      refine pu_ 16 56 (msk 17 0) HT_.out ?_
      refine done_ (done_of HT_.out (by kernel_rfl)) ?_
      have hnb38 := NB268_271.out
      have hnc38 := NB271_268.out
      have hcz39_0 : w37.cell? ⟨gb268, 0, none⟩ = some (.slice none 0 0) := (blk_cell BK268.out 0).trans rfl
      have hcz39_1 : w37.cell? ⟨gb268, 1, none⟩ = some (.int .i64 x269001_2) := (blk_cell BK268.out 1).trans rfl
      have hcz39_2 : w37.cell? ⟨gb268, 2, none⟩ = some (.int .i64 x269002_2) := (blk_cell BK268.out 2).trans rfl
      have hfz39_0 := blk_frozen BK268.out 0
      have hfz39_1 := blk_frozen BK268.out 1
      have hfz39_2 := blk_frozen BK268.out 2
      try go_wp2
      refine bodyPost_ret (results_ct rfl _ _ gb268 31 #[.slice none 0 0, .int .i64 0, .int .i64 0] (0, 0) _ rfl (by (with_reducible repeat (first | refine blk_drewN ?_ _ | refine blk_drew ?_ | refine blk_alloc ?_ _)); refine blk_put (cs := #[.slice none 0 0, .int .i64 0, .int .i64 x269002_2]) ?_ 2 _ rfl; (with_reducible repeat (first | refine blk_drewN ?_ _ | refine blk_drew ?_ | refine blk_alloc ?_ _)); refine blk_put (cs := #[.slice none 0 0, .int .i64 x269001_2, .int .i64 x269002_2]) ?_ 1 _ rfl; (with_reducible repeat (first | refine blk_drewN ?_ _ | refine blk_drew ?_ | refine blk_alloc ?_ _)); refine blk_put (cs := #[.slice none 0 0, .int .i64 x269001_2, .int .i64 x269002_2]) ?_ 0 _ rfl; (with_reducible repeat (first | refine blk_drewN ?_ _ | refine blk_drew ?_ | refine blk_alloc ?_ _)); exact BK268.out) Try.underlying31 rfl (by kernel_rfl)) rfl ?_
      exact ⟨_, by first | rfl | (simp [errW_none, errW_some] <;> rfl) | (simp [*, errW_none, errW_some] <;> rfl), by first | exact Kd.R_nil _ _ _ _ _ | exact Kd.N_nil _ _ _ _ _ | exact Kd.V_nil _ _ _ _ _ | exact Kd.Q_nil _ _ _ _ _ | exact Kd.S_nil _ _ _ _ _, by repeat (first | (with_reducible first | exact HB.out | apply below_alloc | apply pw_below_drewN | apply below_drew1 | refine below_set ?_ GE268.out | refine below_set ?_ GE271.out) | exact HB.out)⟩
     subst c22
     have H1 : (if x272000_2.length < 17592186044416 then ((spec_l13Gain.f k2 ((rd_T50 l0 x9_2).f0) ((rd_T50 l0 x9_2).f1) ((rd_T50 l0 x9_2).f2) ((rd_T50 l0 x9_2).f3) (rd l2 x9_2)).bind fun t284 => (spec_ShelfOf.l0 k2 l0 a1 l2 (wrap64 (x9_2 + 1)) (x272000_2 ++ [rd l2 x9_2]) (wrap64 (x272001_2 + (wrap64 ((rd l2 x9_2) * ((rd_T50 l0 x9_2).f1))))) (wrap64 (x272002_2 + t284)))) else (none)) = some (r1, r2, r3, r4) := by rw [if_pos rfl] at H; exact H
     clear H
     have H := H1
     clear H1
     by_cases c23 : x272000_2.length < 17592186044416
     rotate_left
     ·rw [if_neg c23] at H
      exact absurd H (by simp)
     rw [if_pos c23] at H
     have LMc23 := Aside0.mk c23
     clear c23
     obtain ⟨y277, hy277⟩ : ∃ y_ : List Int, y_ = (x272000_2 ++ [rd l2 x9_2]) := ⟨_, rfl⟩
     replace H : ((spec_l13Gain.f k2 ((rd_T50 l0 x9_2).f0) ((rd_T50 l0 x9_2).f1) ((rd_T50 l0 x9_2).f2) ((rd_T50 l0 x9_2).f3) (rd l2 x9_2)).bind fun t284 => (spec_ShelfOf.l0 k2 l0 a1 l2 (wrap64 (x9_2 + 1)) y277 (wrap64 (x272001_2 + (wrap64 ((rd l2 x9_2) * ((rd_T50 l0 x9_2).f1))))) (wrap64 (x272002_2 + t284)))) = some (r1, r2, r3, r4) := by first | (rw [hy277]; with_reducible exact H) | (have H2_ := (Option.bind_some _ _).symm.trans H; rw [hy277]; with_reducible exact H2_) | (have H2_ := (Option.bind_some _ _).symm.trans H; with_reducible exact H2_) | with_reducible exact H | (rw [hy277]; exact H) | exact H
     have Ny277 := Aside0.mk hy277
     clear hy277
     replace H := Option.bind_eq_some_iff.mp H
     obtain ⟨t284, A240, H⟩ := H
     replace H : (spec_ShelfOf.l0 k2 l0 a1 l2 (wrap64 (x9_2 + 1)) y277 (wrap64 (x272001_2 + (wrap64 ((rd l2 x9_2) * ((rd_T50 l0 x9_2).f1))))) (wrap64 (x272002_2 + t284))) = some (r1, r2, r3, r4) := H
     have A24 := Aside0.mk A240
     clear A240
     have H' := Aside0.mk H
     clear H
     try go_wp2
     have n0_ := Aside0.mk (Kd.R_drew HO_272000.out)
     have n1_ := Aside0.mk (blk_drew BK268.out)
     have n2_ := Aside0.mk (blk_drew BK271.out)
     have n3_ := Aside0.mk (below_drew1 HB.out)
     clear HO_272000
     clear BK268
     clear BK271
     clear HB
     have HO_272000 := n0_
     have BK268 := n1_
     have BK271 := n2_
     have HB := n3_
     clear n0_ n1_ n2_ n3_
     have p272 : 0 ≤ (x9_2 : Int) := od_
     have q272 : x9_2 < (l2.length : Int) := od_
     obtain ⟨ad272, e272, hx272_0⟩ := Kd.at_int HR2.out x9_2 p272 q272
     have hw272_0 := hx272_0
     cases e272
     replace hx272_0 := (HB.out.cell (World.block_lt_of_cell? w _ hx272_0)).trans hx272_0
     replace p272 := eq_true p272
     replace q272 := eq_true q272
     have p273 : 0 ≤ (x9_2 : Int) := od_
     have q273 : x9_2 < (l0.length : Int) := od_
     obtain ⟨ad273, A273_3, c273_3, e273, hx273_0, hx273_1, hx273_2, hx273_3, hl273_3, hi273_3⟩ := at_T50 HR0.out x9_2 p273 q273
     have hw273_3 := hx273_3
     have hw273_2 := hx273_2
     have hw273_1 := hx273_1
     have hw273_0 := hx273_0
     cases e273
     replace hx273_0 := (HB.out.cell (World.block_lt_of_cell? w _ hx273_0)).trans hx273_0
     replace hx273_1 := (HB.out.cell (World.block_lt_of_cell? w _ hx273_1)).trans hx273_1
     replace hx273_2 := (HB.out.cell (World.block_lt_of_cell? w _ hx273_2)).trans hx273_2
     replace hx273_3 := (HB.out.cell (World.block_lt_of_cell? w _ hx273_3)).trans hx273_3
     have HR273_3 := Aside0.mk hi273_3
     have HC273_3 := Aside0.mk hl273_3
     clear hi273_3 hl273_3
     replace p273 := eq_true p273
     replace q273 := eq_true q273
     have p274 : 0 ≤ (x9_2 : Int) := od_
     have q274 : x9_2 < (l0.length : Int) := od_
     obtain ⟨ad274, A274_3, c274_3, e274, hx274_0, hx274_1, hx274_2, hx274_3, hl274_3, hi274_3⟩ := at_T50 HR0.out x9_2 p274 q274
     have hw274_3 := hx274_3
     have hw274_2 := hx274_2
     have hw274_1 := hx274_1
     have hw274_0 := hx274_0
     obtain rfl : ad273 = ad274 := (by injection e274)
     replace hx274_0 := (HB.out.cell (World.block_lt_of_cell? w _ hx274_0)).trans hx274_0
     replace hx274_1 := (HB.out.cell (World.block_lt_of_cell? w _ hx274_1)).trans hx274_1
     replace hx274_2 := (HB.out.cell (World.block_lt_of_cell? w _ hx274_2)).trans hx274_2
     replace hx274_3 := (HB.out.cell (World.block_lt_of_cell? w _ hx274_3)).trans hx274_3
     have HR274_3 := Aside0.mk hi274_3
     have HC274_3 := Aside0.mk hl274_3
     clear hi274_3 hl274_3
     replace p274 := eq_true p274
     replace q274 := eq_true q274
     have ea_ := Option.some.inj (hx273_3.symm.trans hx274_3)
     injection ea_ with ea_ en_ ec_
     subst ea_
     subst ec_
     clear en_
     refine start_ (n := 17) (S := fun w' => w'.cell? (ad272.add (x9_2).toNat) = some (.int .i64 (rd l2 x9_2)) ∧ w'.cell? (ad273.add ((x9_2).toNat * 4)) = some (.string ((rd_T50 l0 x9_2).f0)) ∧ w'.cell? ⟨(ad273.add ((x9_2).toNat * 4)).block, (ad273.add ((x9_2).toNat * 4)).off + 1, none⟩ = some (.int .i64 ((rd_T50 l0 x9_2).f1)) ∧ w'.cell? ⟨(ad273.add ((x9_2).toNat * 4)).block, (ad273.add ((x9_2).toNat * 4)).off + 2, none⟩ = some (.int .i64 ((rd_T50 l0 x9_2).f2)) ∧ w'.cell? ⟨(ad273.add ((x9_2).toNat * 4)).block, (ad273.add ((x9_2).toNat * 4)).off + 3, none⟩ = some (.slice A273_3 ((rd_T50 l0 x9_2).f3).length c273_3) ∧ w'.cell? (ad273.add ((x9_2).toNat * 4)) = some (.string ((rd_T50 l0 x9_2).f0)) ∧ w'.cell? ⟨(ad273.add ((x9_2).toNat * 4)).block, (ad273.add ((x9_2).toNat * 4)).off + 1, none⟩ = some (.int .i64 ((rd_T50 l0 x9_2).f1)) ∧ w'.cell? ⟨(ad273.add ((x9_2).toNat * 4)).block, (ad273.add ((x9_2).toNat * 4)).off + 2, none⟩ = some (.int .i64 ((rd_T50 l0 x9_2).f2)) ∧ w'.cell? ⟨(ad273.add ((x9_2).toNat * 4)).block, (ad273.add ((x9_2).toNat * 4)).off + 3, none⟩ = some (.slice A273_3 ((rd_T50 l0 x9_2).f3).length c273_3)) (ds := []) (msk 0 17) (by kernel_rfl) rfl rfl ⟨((HB.out.cell (World.block_lt_of_cell? w _ hw272_0)).trans hw272_0), ((HB.out.cell (World.block_lt_of_cell? w _ hw273_0)).trans hw273_0), ((HB.out.cell (World.block_lt_of_cell? w _ hw273_1)).trans hw273_1), ((HB.out.cell (World.block_lt_of_cell? w _ hw273_2)).trans hw273_2), ((HB.out.cell (World.block_lt_of_cell? w _ hw273_3)).trans hw273_3), ((HB.out.cell (World.block_lt_of_cell? w _ hw274_0)).trans hw274_0), ((HB.out.cell (World.block_lt_of_cell? w _ hw274_1)).trans hw274_1), ((HB.out.cell (World.block_lt_of_cell? w _ hw274_2)).trans hw274_2), ((HB.out.cell (World.block_lt_of_cell? w _ hw274_3)).trans hw274_3)⟩ (fun hHeld => ?_); refine with_tabW spec_ShelfOf.tab13 spec_ShelfOf.bits13 (fun HT_ HW_ => ?_)
     generalize wr.drew = w25 at HO_272000 BK268 BK271 HB HR273_3 HR274_3 hx272_0 hx273_0 hx273_1 hx273_2 hx273_3 hx274_0 hx274_1 hx274_2 hx274_3 hHeld ⊢
     refine pu_ 0 40 (msk 1 16) HT_.out ?_; refine pu_ 1 41 (msk 2 15) HT_.out ?_; refine pu_ 2 42 (msk 3 14) HT_.out ?_; refine pu_ 4 44 (mskl 17 3 [4]) HT_.out ?_; refine pu_ 5 45 (mskl 17 3 [4, 5]) HT_.out ?_; refine pu_ 6 46 (mskl 17 3 [4, 5, 6]) HT_.out ?_; refine pu_ 7 47 (mskl 17 3 [4, 5, 6, 7]) HT_.out ?_; refine pu_ 9 49 (mskl 17 3 [4, 5, 6, 7, 9]) HT_.out ?_; refine pu_ 10 50 (mskl 17 3 [4, 5, 6, 7, 9, 10]) HT_.out ?_; refine pu_ 11 51 (mskl 17 3 [4, 5, 6, 7, 9, 10, 11]) HT_.out ?_; refine pu_ 12 52 (mskl 17 3 [4, 5, 6, 7, 9, 10, 11, 12]) HT_.out ?_
     refine tk_ 3 43 (mskl 17 8 [9, 10, 11, 12]) HT_.out HW_.out hHeld ?_ (hy := by rintro w' ⟨s0, s1, s2, s3, s4, s5, s6, s7, s8⟩; go_simp; with_reducible rfl)
     refine tk_ 8 48 (msk 13 4) HT_.out HW_.out hHeld ?_ (hy := by rintro w' ⟨s0, s1, s2, s3, s4, s5, s6, s7, s8⟩; go_simp; with_reducible rfl)
     refine tk_ 13 53 (msk 14 3) HT_.out HW_.out hHeld ?_ (hy := by rintro w' ⟨s0, s1, s2, s3, s4, s5, s6, s7, s8⟩; go_simp; with_reducible rfl)
     refine pu_ 14 54 (msk 15 2) HT_.out ?_
     refine one_ (i := 15) (N := some 55) (msk 16 1) rfl rfl (one_of HT_.out (by kernel_rfl)) (by decide) (fun K hK => ?_)
     refine goes_ Try.func26 (by kernel_rfl) rfl #[.int .i64 (rd l2 x9_2), .int .i64 ((rd_T50 l0 x9_2).f2), .int .i64 (((rd_T50 l0 x9_2).f3).length : Int)] (by rfl) rfl rfl (by (try simp only [List.map_toArray, List.map_cons, List.map_nil]); first | done | rfl | (simp only [List.length_drop, List.length_take]; rfl)) ?_
     with_reducible refine (spec_l01In.calls (rd l2 x9_2) ((rd_T50 l0 x9_2).f2) (((rd_T50 l0 x9_2).f3).length : Int) true _ A21.out).mono ?_
     rintro e w' ⟨rfl, ⟨nd, rfl⟩⟩
     refine ⟨_, rfl, ?_⟩
     refine hK.out _ _ ⟨((HB.out.cell (World.block_lt_of_cell? w _ hw272_0)).trans hw272_0), ((HB.out.cell (World.block_lt_of_cell? w _ hw273_0)).trans hw273_0), ((HB.out.cell (World.block_lt_of_cell? w _ hw273_1)).trans hw273_1), ((HB.out.cell (World.block_lt_of_cell? w _ hw273_2)).trans hw273_2), ((HB.out.cell (World.block_lt_of_cell? w _ hw273_3)).trans hw273_3), ((HB.out.cell (World.block_lt_of_cell? w _ hw274_0)).trans hw274_0), ((HB.out.cell (World.block_lt_of_cell? w _ hw274_1)).trans hw274_1), ((HB.out.cell (World.block_lt_of_cell? w _ hw274_2)).trans hw274_2), ((HB.out.cell (World.block_lt_of_cell? w _ hw274_3)).trans hw274_3)⟩ (fun hHeld => ?_)
     clear hK K
     refine norm_ (a' := ?_) ?_ ?_
     rotate_left
     ·show Act.put _ (some 55) _ = _
      simp only [Act.put, List.setIfInBounds_toArray, List.set_cons_zero, List.set_cons_succ, i64_w, i32_w]
      rfl
     refine pu_ 16 56 (msk 17 0) HT_.out ?_
     refine done_ (done_of HT_.out (by kernel_rfl)) ?_
     try go_wp2
     (try (rw [drewN_self w25]; generalize hq_ : World.drewN w25 _ = w25; have n0_ : Aside0 (Kd.R (Kd.int .i64) 3 w25 w.heap.size (fun _ => True) u272000 x272000_2) := ⟨by rw [← hq_]; exact (by (with_reducible repeat (first | apply Kd.R_alloc | apply Kd.R_drewN | apply Kd.R_drew)); exact HO_272000.out)⟩; have n1_ : Aside0 (w25.heap[gb268]? = some (.cells #[.slice none 0 0, .int .i64 x269001_2, .int .i64 x269002_2] 31 (0, 0))) := ⟨by rw [← hq_]; exact bk_⟩; have n2_ : Aside0 (w25.heap[gb271]? = some (.cells #[u272000, .int .i64 x272001_2, .int .i64 x272002_2] 31 (0, 0))) := ⟨by rw [← hq_]; exact bk_⟩; have n3_ : Aside0 (Below w.heap.size w w25) := ⟨by rw [← hq_]; exact bl_⟩; clear HO_272000 BK268 BK271 HB hq_; have HO_272000 := n0_; have BK268 := n1_; have BK271 := n2_; have HB := n3_; clear n0_ n1_ n2_ n3_))
     have n0_ := Aside0.mk (Kd.R_drew HO_272000.out)
     have n1_ := Aside0.mk (blk_drew BK268.out)
     have n2_ := Aside0.mk (blk_drew BK271.out)
     have n3_ := Aside0.mk (below_drew1 HB.out)
     clear HO_272000
     clear BK268
     clear BK271
     clear HB
     have HO_272000 := n0_
     have BK268 := n1_
     have BK271 := n2_
     have HB := n3_
     clear n0_ n1_ n2_ n3_
     have p276 : 0 ≤ (x9_2 : Int) := od_
     have q276 : x9_2 < (l2.length : Int) := od_
     obtain ⟨ad276, e276, hx276_0⟩ := Kd.at_int HR2.out x9_2 p276 q276
     have hw276_0 := hx276_0
     obtain rfl : ad272 = ad276 := (by injection e276)
     replace hx276_0 := (HB.out.cell (World.block_lt_of_cell? w _ hx276_0)).trans hx276_0
     replace p276 := eq_true p276
     replace q276 := eq_true q276
     refine start_ (n := 10) (S := fun w' => w'.cell? ⟨gb271, 0, none⟩ = some (u272000) ∧ w'.cell? ⟨gb271, 1, none⟩ = some (.int .i64 x272001_2) ∧ w'.cell? ⟨gb271, 2, none⟩ = some (.int .i64 x272002_2) ∧ w'.cell? (ad272.add (x9_2).toNat) = some (.int .i64 (rd l2 x9_2))) (ds := [9]) (msk 0 10) (by kernel_rfl) rfl rfl ⟨(blk_cell BK271.out 0).trans rfl, (blk_cell BK271.out 1).trans rfl, (blk_cell BK271.out 2).trans rfl, ((HB.out.cell (World.block_lt_of_cell? w _ hw276_0)).trans hw276_0)⟩ (fun hHeld => ?_); refine with_tabW spec_ShelfOf.tab15 spec_ShelfOf.bits15 (fun HT_ HW_ => ?_)
     generalize w25.drew = w26 at HO_272000 BK268 BK271 HB hx276_0 hHeld ⊢
     refine pu_ 0 58 (msk 1 9) HT_.out ?_; refine pu_ 2 60 (mskl 10 1 [2]) HT_.out ?_; refine pu_ 3 61 (mskl 10 1 [2, 3]) HT_.out ?_; refine pu_ 4 62 (mskl 10 1 [2, 3, 4]) HT_.out ?_
     refine tk_ 1 59 (msk 5 5) HT_.out HW_.out hHeld ?_ (hy := by rintro w' ⟨s0, s1, s2, s3⟩; go_simp; with_reducible rfl)
     refine tk_ 5 63 (msk 6 4) HT_.out HW_.out hHeld ?_ (hy := by rintro w' ⟨s0, s1, s2, s3⟩; go_simp; with_reducible rfl)
     refine one_ (i := 6) (N := some 64) (msk 7 3) rfl rfl (one_of HT_.out (by kernel_rfl)) (by decide) (fun K hK => ?_)
     refine value_ (w1 := ?_) (v := ?_) (by rfl) rfl ?_ ?_
     rotate_left 2
     ·go_simp
      constructor
      ·rfl
      ·rfl
     refine hK.out _ _ ⟨(blk_cell (blk_alloc BK271.out _) 0).trans rfl, (blk_cell (blk_alloc BK271.out _) 1).trans rfl, (blk_cell (blk_alloc BK271.out _) 2).trans rfl, (World.cell?_alloc_lt _ _ _ (World.block_lt_of_cell? _ _ (((HB.out.cell (World.block_lt_of_cell? w _ hw276_0)).trans hw276_0)))).trans (((HB.out.cell (World.block_lt_of_cell? w _ hw276_0)).trans hw276_0))⟩ (fun hHeld => ?_)
     clear hK K
     refine norm_ (a' := ?_) ?_ ?_
     rotate_left
     ·show Act.put _ (some 64) _ = _
      simp only [Act.put, List.setIfInBounds_toArray, List.set_cons_zero, List.set_cons_succ, i64_w, i32_w]
      rfl
     refine one_ (i := 7) (N := some 65) (msk 8 2) rfl rfl (one_of HT_.out (by kernel_rfl)) (by decide) (fun K hK => ?_)
     refine Kd.R_append_step (Kd.int .i64) (w0 := w) w.heap.size (by rfl) (.tmp 59) (.tmp 64) 29 3 (.int .i64 0) 8 rfl Try.underlying29 info3 rfl (by decide) (by omega) u272000 x272000_2 (rd l2 x9_2) [.int .i64 (rd l2 x9_2)] (fun _ => True) (fun _ => False) rfl rfl ?aP (fun _ hk => hk.elim) ?aF ?aO ?aB ?aS ?aL ?_
     (case aP => exact rfl)
     (case aB => exact bl_)
     (case aF => exact (fun _ _ => trivial))
     (case aO => exact (by (with_reducible repeat (first | apply Kd.R_alloc | apply Kd.R_drewN | apply Kd.R_drew)); exact HO_272000.out))
     (case aS => exact (below_size bl_))
     (case aL => have := LMc23.out; omega)
     intro v278 w27 ho hb hg hat
     rw [← Ny277.out] at ho
     have n0_ := Aside0.mk (blk_grown (g := gb268) (o := .cells #[.slice none 0 0, .int .i64 x269001_2, .int .i64 x269002_2] 31 (0, 0)) bk_ hg (Kd.R_ne HO_272000.out BK268.out (by decide)))
     have n1_ := Aside0.mk (blk_grown (g := gb271) (o := .cells #[u272000, .int .i64 x272001_2, .int .i64 x272002_2] 31 (0, 0)) bk_ hg (Kd.R_ne HO_272000.out BK271.out (by decide)))
     have n2_ := Aside0.mk (hb)
     have n3_ := Aside0.mk (ho)
     clear BK268
     clear BK271
     clear HB
     clear HO_272000
     have BK268 := n0_
     have BK271 := n1_
     have HB := n2_
     have HO279 := n3_
     clear n0_ n1_ n2_ n3_
     clear ho hb hg hat
     obtain ⟨Ao28, co28, eo28⟩ := Kd.R_slice HO279.out
     (first | subst eo28 | (injection eo28 with f1_ f2_ f3_; have f4_ := f1_.symm; have f5_ := f3_.symm; clear f1_ f2_ f3_; subst f4_; subst f5_))
     refine hK.out _ _ ⟨(blk_cell BK271.out 0).trans rfl, (blk_cell BK271.out 1).trans rfl, (blk_cell BK271.out 2).trans rfl, ((HB.out.cell (World.block_lt_of_cell? w _ hw276_0)).trans hw276_0)⟩ (fun hHeld => ?_)
     clear hK K
     refine norm_ (a' := ?_) ?_ ?_
     rotate_left
     ·show Act.put _ (some 65) _ = _
      simp only [Act.put, List.setIfInBounds_toArray, List.set_cons_zero, List.set_cons_succ, i64_w, i32_w]
      rfl
     refine pu_ 8 66 (msk 9 1) HT_.out ?_
     refine last_ (i := 9) (N := none) (msk 10 0) rfl rfl (one_of HT_.out (by kernel_rfl)) (by decide) (fun K hK => ?_)
     have hs29 : w27.cell? ⟨gb271, 0, none⟩ = some (u272000) := (blk_cell BK271.out 0).trans rfl
     have hfs29 := blk_frozen BK271.out 0
     have hns29_0 := NB268_271.out
     have hms29_0 := NB271_268.out
     refine skip_ (w1 := ?_) (by rfl) rfl ?_ ?_
     rotate_left
     ·go_simp
      rfl
     refine hK.out _ _ ?_
     clear hK K
     refine done_ (done_of HT_.out (by kernel_rfl)) ?_
     try go_wp2
     have n0_ : Aside0 (Kd.R (Kd.int .i64) 3 (w27.setCell ⟨gb271, 0, none⟩ (.slice Ao28 y277.length co28)) w.heap.size (fun _ => True) (.slice Ao28 y277.length co28) y277) := ⟨by (with_reducible repeat (first | apply Kd.R_alloc | apply Kd.R_drewN | apply Kd.R_drew)); exact Kd.R_mono (Kd.R_far (p := ⟨gb271, 0, none⟩) (Kd.R_types HO279.out BK271.out (by decide)) (fun _ hk => hk.2) (.slice Ao28 y277.length co28)) (fun _ hk => trivial)⟩
     have n1_ : Aside0 ((w27.setCell ⟨gb271, 0, none⟩ (.slice Ao28 y277.length co28)).heap[gb268]? = some (.cells #[.slice none 0 0, .int .i64 x269001_2, .int .i64 x269002_2] 31 (0, 0))) := ⟨by (with_reducible repeat (first | refine blk_drewN ?_ _ | refine blk_drew ?_ | refine blk_alloc ?_ _)); exact blk_far bk_ NB268_271.out _⟩
     have n2_ : Aside0 ((w27.setCell ⟨gb271, 0, none⟩ (.slice Ao28 y277.length co28)).heap[gb271]? = some (.cells #[.slice Ao28 y277.length co28, .int .i64 x272001_2, .int .i64 x272002_2] 31 (0, 0))) := ⟨by (with_reducible repeat (first | refine blk_drewN ?_ _ | refine blk_drew ?_ | refine blk_alloc ?_ _)); refine blk_put (cs := #[u272000, .int .i64 x272001_2, .int .i64 x272002_2]) ?_ 0 _ rfl; (with_reducible repeat (first | refine blk_drewN ?_ _ | refine blk_drew ?_ | refine blk_alloc ?_ _)); exact BK271.out⟩
     have n3_ : Aside0 (Below w.heap.size w (w27.setCell ⟨gb271, 0, none⟩ (.slice Ao28 y277.length co28))) := ⟨by repeat (first | (with_reducible first | exact HB.out | apply below_alloc | apply pw_below_drewN | apply below_drew1 | refine below_set ?_ GE268.out | refine below_set ?_ GE271.out) | exact HB.out)⟩
     (try clear HO279)
     (try clear BK268)
     (try clear BK271)
     (try clear HB)
     generalize (w27.setCell ⟨gb271, 0, none⟩ (.slice Ao28 y277.length co28)) = w30 at n0_ n1_ n2_ n3_ ⊢
     have HO279 := n0_
     have BK268 := n1_
     have BK271 := n2_
     have HB := n3_
     clear n0_ n1_ n2_ n3_
     have n0_ := Aside0.mk (Kd.R_drew HO279.out)
     have n1_ := Aside0.mk (blk_drew BK268.out)
     have n2_ := Aside0.mk (blk_drew BK271.out)
     have n3_ := Aside0.mk (below_drew1 HB.out)
     clear HO279
     clear BK268
     clear BK271
     clear HB
     have HO279 := n0_
     have BK268 := n1_
     have BK271 := n2_
     have HB := n3_
     clear n0_ n1_ n2_ n3_
     have p280 : 0 ≤ (x9_2 : Int) := od_
     have q280 : x9_2 < (l2.length : Int) := od_
     obtain ⟨ad280, e280, hx280_0⟩ := Kd.at_int HR2.out x9_2 p280 q280
     have hw280_0 := hx280_0
     obtain rfl : ad272 = ad280 := (by injection e280)
     replace hx280_0 := (HB.out.cell (World.block_lt_of_cell? w _ hx280_0)).trans hx280_0
     replace p280 := eq_true p280
     replace q280 := eq_true q280
     have p281 : 0 ≤ (x9_2 : Int) := od_
     have q281 : x9_2 < (l0.length : Int) := od_
     obtain ⟨ad281, A281_3, c281_3, e281, hx281_0, hx281_1, hx281_2, hx281_3, hl281_3, hi281_3⟩ := at_T50 HR0.out x9_2 p281 q281
     have hw281_3 := hx281_3
     have hw281_2 := hx281_2
     have hw281_1 := hx281_1
     have hw281_0 := hx281_0
     obtain rfl : ad273 = ad281 := (by injection e281)
     replace hx281_0 := (HB.out.cell (World.block_lt_of_cell? w _ hx281_0)).trans hx281_0
     replace hx281_1 := (HB.out.cell (World.block_lt_of_cell? w _ hx281_1)).trans hx281_1
     replace hx281_2 := (HB.out.cell (World.block_lt_of_cell? w _ hx281_2)).trans hx281_2
     replace hx281_3 := (HB.out.cell (World.block_lt_of_cell? w _ hx281_3)).trans hx281_3
     have HR281_3 := Aside0.mk hi281_3
     have HC281_3 := Aside0.mk hl281_3
     clear hi281_3 hl281_3
     replace p281 := eq_true p281
     replace q281 := eq_true q281
     refine start_ (n := 15) (S := fun w' => w'.cell? ⟨gb271, 0, none⟩ = some (.slice Ao28 y277.length co28) ∧ w'.cell? ⟨gb271, 1, none⟩ = some (.int .i64 x272001_2) ∧ w'.cell? ⟨gb271, 2, none⟩ = some (.int .i64 x272002_2) ∧ w'.cell? (ad272.add (x9_2).toNat) = some (.int .i64 (rd l2 x9_2)) ∧ w'.cell? (ad273.add ((x9_2).toNat * 4)) = some (.string ((rd_T50 l0 x9_2).f0)) ∧ w'.cell? ⟨(ad273.add ((x9_2).toNat * 4)).block, (ad273.add ((x9_2).toNat * 4)).off + 1, none⟩ = some (.int .i64 ((rd_T50 l0 x9_2).f1)) ∧ w'.cell? ⟨(ad273.add ((x9_2).toNat * 4)).block, (ad273.add ((x9_2).toNat * 4)).off + 2, none⟩ = some (.int .i64 ((rd_T50 l0 x9_2).f2)) ∧ w'.cell? ⟨(ad273.add ((x9_2).toNat * 4)).block, (ad273.add ((x9_2).toNat * 4)).off + 3, none⟩ = some (.slice A281_3 ((rd_T50 l0 x9_2).f3).length c281_3)) (ds := [14]) (msk 0 15) (by kernel_rfl) rfl rfl ⟨(blk_cell BK271.out 0).trans rfl, (blk_cell BK271.out 1).trans rfl, (blk_cell BK271.out 2).trans rfl, ((HB.out.cell (World.block_lt_of_cell? w _ hw280_0)).trans hw280_0), ((HB.out.cell (World.block_lt_of_cell? w _ hw281_0)).trans hw281_0), ((HB.out.cell (World.block_lt_of_cell? w _ hw281_1)).trans hw281_1), ((HB.out.cell (World.block_lt_of_cell? w _ hw281_2)).trans hw281_2), ((HB.out.cell (World.block_lt_of_cell? w _ hw281_3)).trans hw281_3)⟩ (fun hHeld => ?_); refine with_tabW spec_ShelfOf.tab16 spec_ShelfOf.bits16 (fun HT_ HW_ => ?_)
     generalize w30.drew = w31 at HO279 BK268 BK271 HB HR281_3 hx280_0 hx281_0 hx281_1 hx281_2 hx281_3 hHeld ⊢
     refine pu_ 0 67 (msk 1 14) HT_.out ?_; refine pu_ 2 69 (mskl 15 1 [2]) HT_.out ?_; refine pu_ 3 70 (mskl 15 1 [2, 3]) HT_.out ?_; refine pu_ 4 71 (mskl 15 1 [2, 3, 4]) HT_.out ?_; refine pu_ 6 73 (mskl 15 1 [2, 3, 4, 6]) HT_.out ?_; refine pu_ 7 74 (mskl 15 1 [2, 3, 4, 6, 7]) HT_.out ?_; refine pu_ 8 75 (mskl 15 1 [2, 3, 4, 6, 7, 8]) HT_.out ?_; refine pu_ 9 76 (mskl 15 1 [2, 3, 4, 6, 7, 8, 9]) HT_.out ?_
     refine tk_ 1 68 (mskl 15 5 [6, 7, 8, 9]) HT_.out HW_.out hHeld ?_ (hy := by rintro w' ⟨s0, s1, s2, s3, s4, s5, s6, s7⟩; go_simp; with_reducible rfl)
     refine tk_ 5 72 (msk 10 5) HT_.out HW_.out hHeld ?_ (hy := by rintro w' ⟨s0, s1, s2, s3, s4, s5, s6, s7⟩; go_simp; with_reducible rfl)
     refine tk_ 10 77 (msk 11 4) HT_.out HW_.out hHeld ?_ (hy := by rintro w' ⟨s0, s1, s2, s3, s4, s5, s6, s7⟩; go_simp; with_reducible rfl)
     refine pu_ 11 78 (msk 12 3) HT_.out ?_; refine pu_ 12 79 (msk 13 2) HT_.out ?_; refine pu_ 13 80 (msk 14 1) HT_.out ?_
     refine last_ (i := 14) (N := none) (msk 15 0) rfl rfl (one_of HT_.out (by kernel_rfl)) (by decide) (fun K hK => ?_)
     have hs32 : w31.cell? ⟨gb271, 1, none⟩ = some (.int .i64 x272001_2) := (blk_cell BK271.out 1).trans rfl
     have hfs32 := blk_frozen BK271.out 1
     have hns32_0 := NB268_271.out
     have hms32_0 := NB271_268.out
     refine skip_ (w1 := ?_) (by rfl) rfl ?_ ?_
     rotate_left
     ·go_simp
      rfl
     refine hK.out _ _ ?_
     clear hK K
     refine done_ (done_of HT_.out (by kernel_rfl)) ?_
     try go_wp2
     have n0_ : Aside0 (Kd.R (Kd.int .i64) 3 (w31.setCell ⟨gb271, 1, none⟩ (.int .i64 (wrap64 (x272001_2 + (wrap64 ((rd l2 x9_2) * ((rd_T50 l0 x9_2).f1))))))) w.heap.size (fun _ => True) (.slice Ao28 y277.length co28) y277) := ⟨by (with_reducible repeat (first | apply Kd.R_alloc | apply Kd.R_drewN | apply Kd.R_drew)); exact Kd.R_mono (Kd.R_far (p := ⟨gb271, 1, none⟩) (Kd.R_types HO279.out BK271.out (by decide)) (fun _ hk => hk.2) (.int .i64 (wrap64 (x272001_2 + (wrap64 ((rd l2 x9_2) * ((rd_T50 l0 x9_2).f1))))))) (fun _ hk => trivial)⟩
     have n1_ : Aside0 ((w31.setCell ⟨gb271, 1, none⟩ (.int .i64 (wrap64 (x272001_2 + (wrap64 ((rd l2 x9_2) * ((rd_T50 l0 x9_2).f1))))))).heap[gb268]? = some (.cells #[.slice none 0 0, .int .i64 x269001_2, .int .i64 x269002_2] 31 (0, 0))) := ⟨by (with_reducible repeat (first | refine blk_drewN ?_ _ | refine blk_drew ?_ | refine blk_alloc ?_ _)); exact blk_far bk_ NB268_271.out _⟩
     have n2_ : Aside0 ((w31.setCell ⟨gb271, 1, none⟩ (.int .i64 (wrap64 (x272001_2 + (wrap64 ((rd l2 x9_2) * ((rd_T50 l0 x9_2).f1))))))).heap[gb271]? = some (.cells #[.slice Ao28 y277.length co28, .int .i64 (wrap64 (x272001_2 + (wrap64 ((rd l2 x9_2) * ((rd_T50 l0 x9_2).f1))))), .int .i64 x272002_2] 31 (0, 0))) := ⟨by (with_reducible repeat (first | refine blk_drewN ?_ _ | refine blk_drew ?_ | refine blk_alloc ?_ _)); refine blk_put (cs := #[.slice Ao28 y277.length co28, .int .i64 x272001_2, .int .i64 x272002_2]) ?_ 1 _ rfl; (with_reducible repeat (first | refine blk_drewN ?_ _ | refine blk_drew ?_ | refine blk_alloc ?_ _)); exact BK271.out⟩
     have n3_ : Aside0 (Below w.heap.size w (w31.setCell ⟨gb271, 1, none⟩ (.int .i64 (wrap64 (x272001_2 + (wrap64 ((rd l2 x9_2) * ((rd_T50 l0 x9_2).f1)))))))) := ⟨by repeat (first | (with_reducible first | exact HB.out | apply below_alloc | apply pw_below_drewN | apply below_drew1 | refine below_set ?_ GE268.out | refine below_set ?_ GE271.out) | exact HB.out)⟩
     (try clear HO279)
     (try clear BK268)
     (try clear BK271)
     (try clear HB)
     generalize (w31.setCell ⟨gb271, 1, none⟩ (.int .i64 (wrap64 (x272001_2 + (wrap64 ((rd l2 x9_2) * ((rd_T50 l0 x9_2).f1))))))) = w33 at n0_ n1_ n2_ n3_ ⊢
     have HO279 := n0_
     have BK268 := n1_
     have BK271 := n2_
     have HB := n3_
     clear n0_ n1_ n2_ n3_
     have n0_ := Aside0.mk (Kd.R_drew HO279.out)
     have n1_ := Aside0.mk (blk_drew BK268.out)
     have n2_ := Aside0.mk (blk_drew BK271.out)
     have n3_ := Aside0.mk (below_drew1 HB.out)
     clear HO279
     clear BK268
     clear BK271
     clear HB
     have HO279 := n0_
     have BK268 := n1_
     have BK271 := n2_
     have HB := n3_
     clear n0_ n1_ n2_ n3_
     have p282 : 0 ≤ (x9_2 : Int) := od_
     have q282 : x9_2 < (l0.length : Int) := od_
     obtain ⟨ad282, A282_3, c282_3, e282, hx282_0, hx282_1, hx282_2, hx282_3, hl282_3, hi282_3⟩ := at_T50 HR0.out x9_2 p282 q282
     have hw282_3 := hx282_3
     have hw282_2 := hx282_2
     have hw282_1 := hx282_1
     have hw282_0 := hx282_0
     obtain rfl : ad273 = ad282 := (by injection e282)
     replace hx282_0 := (HB.out.cell (World.block_lt_of_cell? w _ hx282_0)).trans hx282_0
     replace hx282_1 := (HB.out.cell (World.block_lt_of_cell? w _ hx282_1)).trans hx282_1
     replace hx282_2 := (HB.out.cell (World.block_lt_of_cell? w _ hx282_2)).trans hx282_2
     replace hx282_3 := (HB.out.cell (World.block_lt_of_cell? w _ hx282_3)).trans hx282_3
     have HR282_3 := Aside0.mk hi282_3
     have HC282_3 := Aside0.mk hl282_3
     clear hi282_3 hl282_3
     replace p282 := eq_true p282
     replace q282 := eq_true q282
     have p283 : 0 ≤ (x9_2 : Int) := od_
     have q283 : x9_2 < (l2.length : Int) := od_
     obtain ⟨ad283, e283, hx283_0⟩ := Kd.at_int HR2.out x9_2 p283 q283
     have hw283_0 := hx283_0
     obtain rfl : ad272 = ad283 := (by injection e283)
     replace hx283_0 := (HB.out.cell (World.block_lt_of_cell? w _ hx283_0)).trans hx283_0
     replace p283 := eq_true p283
     replace q283 := eq_true q283
     refine start_ (n := 14) (S := fun w' => w'.cell? ⟨gb271, 0, none⟩ = some (.slice Ao28 y277.length co28) ∧ w'.cell? ⟨gb271, 1, none⟩ = some (.int .i64 (wrap64 (x272001_2 + (wrap64 ((rd l2 x9_2) * ((rd_T50 l0 x9_2).f1)))))) ∧ w'.cell? ⟨gb271, 2, none⟩ = some (.int .i64 x272002_2) ∧ w'.cell? (ad273.add ((x9_2).toNat * 4)) = some (.string ((rd_T50 l0 x9_2).f0)) ∧ w'.cell? ⟨(ad273.add ((x9_2).toNat * 4)).block, (ad273.add ((x9_2).toNat * 4)).off + 1, none⟩ = some (.int .i64 ((rd_T50 l0 x9_2).f1)) ∧ w'.cell? ⟨(ad273.add ((x9_2).toNat * 4)).block, (ad273.add ((x9_2).toNat * 4)).off + 2, none⟩ = some (.int .i64 ((rd_T50 l0 x9_2).f2)) ∧ w'.cell? ⟨(ad273.add ((x9_2).toNat * 4)).block, (ad273.add ((x9_2).toNat * 4)).off + 3, none⟩ = some (.slice A282_3 ((rd_T50 l0 x9_2).f3).length c282_3) ∧ w'.cell? (ad272.add (x9_2).toNat) = some (.int .i64 (rd l2 x9_2))) (ds := [13]) (msk 0 14) (by kernel_rfl) rfl rfl ⟨(blk_cell BK271.out 0).trans rfl, (blk_cell BK271.out 1).trans rfl, (blk_cell BK271.out 2).trans rfl, ((HB.out.cell (World.block_lt_of_cell? w _ hw282_0)).trans hw282_0), ((HB.out.cell (World.block_lt_of_cell? w _ hw282_1)).trans hw282_1), ((HB.out.cell (World.block_lt_of_cell? w _ hw282_2)).trans hw282_2), ((HB.out.cell (World.block_lt_of_cell? w _ hw282_3)).trans hw282_3), ((HB.out.cell (World.block_lt_of_cell? w _ hw283_0)).trans hw283_0)⟩ (fun hHeld => ?_); refine with_tabW spec_ShelfOf.tab17 spec_ShelfOf.bits17 (fun HT_ HW_ => ?_)
     generalize w33.drew = w34 at HO279 BK268 BK271 HB HR282_3 hx282_0 hx282_1 hx282_2 hx282_3 hx283_0 hHeld ⊢
     refine pu_ 0 81 (msk 1 13) HT_.out ?_; refine pu_ 2 83 (mskl 14 1 [2]) HT_.out ?_; refine pu_ 3 84 (mskl 14 1 [2, 3]) HT_.out ?_; refine pu_ 4 85 (mskl 14 1 [2, 3, 4]) HT_.out ?_; refine pu_ 6 87 (mskl 14 1 [2, 3, 4, 6]) HT_.out ?_; refine pu_ 7 88 (mskl 14 1 [2, 3, 4, 6, 7]) HT_.out ?_; refine pu_ 8 89 (mskl 14 1 [2, 3, 4, 6, 7, 8]) HT_.out ?_
     refine tk_ 1 82 (mskl 14 5 [6, 7, 8]) HT_.out HW_.out hHeld ?_ (hy := by rintro w' ⟨s0, s1, s2, s3, s4, s5, s6, s7⟩; go_simp; with_reducible rfl)
     refine tk_ 5 86 (msk 9 5) HT_.out HW_.out hHeld ?_ (hy := by rintro w' ⟨s0, s1, s2, s3, s4, s5, s6, s7⟩; go_simp; with_reducible rfl)
     refine tk_ 9 90 (msk 10 4) HT_.out HW_.out hHeld ?_ (hy := by rintro w' ⟨s0, s1, s2, s3, s4, s5, s6, s7⟩; go_simp; with_reducible rfl)
     refine one_ (i := 10) (N := some 91) (msk 11 3) rfl rfl (one_of HT_.out (by kernel_rfl)) (by decide) (fun K hK => ?_)
     refine goes_ Try.func31 (by kernel_rfl) rfl #[.agg #[.string ((rd_T50 l0 x9_2).f0), .int .i64 ((rd_T50 l0 x9_2).f1), .int .i64 ((rd_T50 l0 x9_2).f2), .slice A282_3 ((rd_T50 l0 x9_2).f3).length c282_3], .int .i64 (rd l2 x9_2)] (by rfl) rfl rfl (by (try simp only [List.map_toArray, List.map_cons, List.map_nil]); first | done | rfl | (simp only [List.length_drop, List.length_take]; rfl)) ?_
     with_reducible refine (spec_l13Gain.calls k2 ((rd_T50 l0 x9_2).f0) ((rd_T50 l0 x9_2).f1) ((rd_T50 l0 x9_2).f2) _ _ ((rd_T50 l0 x9_2).f3) (rd l2 x9_2) t284 _ ?side1 ?side2 A24.out).mono ?_
     (case side1 => repeat (first | exact (Kd.C_below HR282_3.out HB.out) | (with_reducible refine Kd.C_alloc ?_ _) | (with_reducible refine Kd.C_drewN ?_ _) | (with_reducible refine Kd.C_drew ?_)))
     (case side2 => exact HC282_3.out)
     rintro e w35 ⟨rfl, hb⟩
     refine ⟨_, rfl, ?_⟩
     have n0_ := Aside0.mk (Kd.R_below (by (with_reducible repeat (first | apply Kd.R_alloc | apply Kd.R_drewN | apply Kd.R_drew)); exact HO279.out) hb)
     have n1_ := Aside0.mk (blk_below (g := gb268) (o := .cells #[.slice none 0 0, .int .i64 x269001_2, .int .i64 x269002_2] 31 (0, 0)) bk_ hb)
     have n2_ := Aside0.mk (blk_below (g := gb271) (o := .cells #[.slice Ao28 y277.length co28, .int .i64 (wrap64 (x272001_2 + (wrap64 ((rd l2 x9_2) * ((rd_T50 l0 x9_2).f1))))), .int .i64 x272002_2] 31 (0, 0)) bk_ hb)
     have n3_ := Aside0.mk (below_step bl_ hb)
     clear HO279
     clear BK268
     clear BK271
     clear HB
     have HO279 := n0_
     have BK268 := n1_
     have BK271 := n2_
     have HB := n3_
     clear n0_ n1_ n2_ n3_
     (try clear hb)
     (try clear hb2)
     (try clear hk)
     (try clear hi)
     refine hK.out _ _ ⟨(blk_cell BK271.out 0).trans rfl, (blk_cell BK271.out 1).trans rfl, (blk_cell BK271.out 2).trans rfl, ((HB.out.cell (World.block_lt_of_cell? w _ hw282_0)).trans hw282_0), ((HB.out.cell (World.block_lt_of_cell? w _ hw282_1)).trans hw282_1), ((HB.out.cell (World.block_lt_of_cell? w _ hw282_2)).trans hw282_2), ((HB.out.cell (World.block_lt_of_cell? w _ hw282_3)).trans hw282_3), ((HB.out.cell (World.block_lt_of_cell? w _ hw283_0)).trans hw283_0)⟩ (fun hHeld => ?_)
     clear hK K
     refine norm_ (a' := ?_) ?_ ?_
     rotate_left
     ·show Act.put _ (some 91) _ = _
      simp only [Act.put, List.setIfInBounds_toArray, List.set_cons_zero, List.set_cons_succ, i64_w, i32_w]
      rfl
     refine pu_ 11 92 (msk 12 2) HT_.out ?_; refine pu_ 12 93 (msk 13 1) HT_.out ?_
     refine last_ (i := 13) (N := none) (msk 14 0) rfl rfl (one_of HT_.out (by kernel_rfl)) (by decide) (fun K hK => ?_)
     have hs36 : w35.cell? ⟨gb271, 2, none⟩ = some (.int .i64 x272002_2) := (blk_cell BK271.out 2).trans rfl
     have hfs36 := blk_frozen BK271.out 2
     have hns36_0 := NB268_271.out
     have hms36_0 := NB271_268.out
     refine skip_ (w1 := ?_) (by rfl) rfl ?_ ?_
     rotate_left
     ·go_simp
      rfl
     refine hK.out _ _ ?_
     clear hK K
     refine done_ (done_of HT_.out (by kernel_rfl)) ?_
     try go_wp2
     go_roundg k2
     case measure => have := HJ3.out; have := HK2.out; omega
     case rel => exact ⟨(wrap64 (x9_2 + 1)), (x269001_2), (x269002_2), (y277), (wrap64 (x272001_2 + (wrap64 ((rd l2 x9_2) * ((rd_T50 l0 x9_2).f1))))), (wrap64 (x272002_2 + t284)), (.slice Ao28 y277.length co28), (by first | rfl | (simp; done) | (simp [*]; done)), H', ⟨by have := HJ3.out; have := HK2.out; omega⟩, ⟨by (with_reducible repeat (first | apply Kd.R_alloc | apply Kd.R_drewN | apply Kd.R_drew)); exact Kd.R_mono (Kd.R_far (p := ⟨gb271, 2, none⟩) (Kd.R_types HO279.out BK271.out (by decide)) (fun _ hk => hk.2) (.int .i64 (wrap64 (x272002_2 + t284)))) (fun _ hk => trivial)⟩, ⟨by (with_reducible repeat (first | refine blk_drewN ?_ _ | refine blk_drew ?_ | refine blk_alloc ?_ _)); exact blk_far bk_ NB268_271.out _⟩, ⟨by (with_reducible repeat (first | refine blk_drewN ?_ _ | refine blk_drew ?_ | refine blk_alloc ?_ _)); refine blk_put (cs := #[.slice Ao28 y277.length co28, .int .i64 (wrap64 (x272001_2 + (wrap64 ((rd l2 x9_2) * ((rd_T50 l0 x9_2).f1))))), .int .i64 x272002_2]) ?_ 2 _ rfl; (with_reducible repeat (first | refine blk_drewN ?_ _ | refine blk_drew ?_ | refine blk_alloc ?_ _)); exact BK271.out⟩, ⟨by repeat (first | (with_reducible first | exact HB.out | apply below_alloc | apply pw_below_drewN | apply below_drew1 | refine below_set ?_ GE268.out | refine below_set ?_ GE271.out) | exact HB.out)⟩⟩
end Go.Proofs.Ytecbcibblmknpaa.XFnExactBestShelf
