-- PRINTED by xprint.py (our own program, over the kit's print.py)
import Derived.Test.YtecbcibblmknpaaXFnShelfx0
import Derived.Test.YtecbcibblmknpaaXFnShelfx11
import Derived.Test.YtecbcibblmknpaaXFnShelfx12
import Derived.Test.YtecbcibblmknpaaXFnShelfx13
import Derived.Test.YtecbcibblmknpaaPu
namespace Go.Proofs.Ytecbcibblmknpaa.XFnShelf
open Go.RowKit Go.Proofs.YtecbcibblmknpaaW.PrintWords Go.Proofs.YtecbcibblmknpaaW.PrintLast Go.Proofs.YtecbcibblmknpaaW.PrintMore Go.Proofs.YtecbcibblmknpaaW.Idx
attribute [local go_sem] max2_int min2_int max_two min_two max_three min_three max_four min_four   -- for this text's walks alone
set_option linter.unusedVariables false
set_option linter.unusedSimpArgs false

/-! ### spec_ShelfOf: function 12 -/
mutual
def spec_ShelfOf.j0 : Nat → List (S50) → Int → List Int → Bool → Option (List Int × Int × Int × Int)
 | 0, _, _, _, _ => none
 | k + 1, x0, x1, x2, x17 => if x17 = true then (some (([] : List Int), 0, 0, 2)) else ((spec_FacingsOK.f k x0).bind fun t311 => (if t311 = true then ((spec_l01In.f x1 0 2000).bind fun t312 => (if t312 = true then (if (x2.length : Int) = (x0.length : Int) then (spec_ShelfOf.l0 k x0 x1 x2 0 ([] : List Int) 0 0) else (some (([] : List Int), 0, 0, 3))) else (some (([] : List Int), 0, 0, 5)))) else (some (([] : List Int), 0, 0, 1))))
def spec_ShelfOf.l0 : Nat → List (S50) → Int → List Int → Int → List Int → Int → Int → Option (List Int × Int × Int × Int)
 | 0, _, _, _, _, _, _, _ => none
 | k + 1, x0, x1, x2, x9, x314000, x314001, x314002 => if x9 < (x0.length : Int) then (if 0 ≤ x9 then (if x9 < (x2.length : Int) then ((spec_l01In.f (rd x2 x9) ((rd_T50 x0 x9).f2) (((rd_T50 x0 x9).f3).length : Int)).bind fun t317 => (if t317 = true then (if x314000.length < 17592186044416 then ((spec_l13Gain.f k ((rd_T50 x0 x9).f0) ((rd_T50 x0 x9).f1) ((rd_T50 x0 x9).f2) ((rd_T50 x0 x9).f3) (rd x2 x9)).bind fun t326 => (spec_ShelfOf.l0 k x0 x1 x2 (wrap64 (x9 + 1)) (x314000 ++ [rd x2 x9]) (wrap64 (x314001 + (wrap64 ((rd x2 x9) * ((rd_T50 x0 x9).f1))))) (wrap64 (x314002 + t326)))) else (none)) else (some (([] : List Int), 0, 0, 3)))) else (none)) else (none)) else (if x314001 > x1 then (some (([] : List Int), 0, 0, 14)) else (some (x314000, x314001, x314002, 0)))
end
def spec_ShelfOf.f (k : Nat) (l0 : List (S50)) (a1 : Int) (l2 : List Int) : Option (List Int × Int × Int × Int) := if (l0.length : Int) > 4096 then (spec_ShelfOf.j0 k l0 a1 l2 true) else (spec_ShelfOf.j0 k l0 a1 l2 (decide ((l2.length : Int) > 4096)))
theorem spec_ShelfOf.mono_l : ∀ k, (∀ y0 y1 y2 y3, LeO (spec_ShelfOf.j0 k y0 y1 y2 y3) (spec_ShelfOf.j0 (k + 1) y0 y1 y2 y3)) ∧ (∀ y0 y1 y2 y3 y4 y5 y6, LeO (spec_ShelfOf.l0 k y0 y1 y2 y3 y4 y5 y6) (spec_ShelfOf.l0 (k + 1) y0 y1 y2 y3 y4 y5 y6))
 | 0 => ⟨fun _ _ _ _ r h => by simp [spec_ShelfOf.j0] at h, fun _ _ _ _ _ _ _ r h => by simp [spec_ShelfOf.l0] at h⟩
 | k + 1 => by
  obtain ⟨ih0, ih1⟩ := spec_ShelfOf.mono_l k
  refine ⟨?_, ?_⟩
  ·intro y0 y1 y2 y3
   unfold spec_ShelfOf.j0
   repeat' first
   | (with_reducible exact ih0 _ _ _ _)
   | (with_reducible exact ih1 _ _ _ _ _ _ _)
   | (with_reducible exact spec_FacingsOK.mono _ _)
   | (with_reducible exact spec_l13Gain.mono _ _ _ _ _ _)
   | (with_reducible exact LeO.refl _)
   | (with_reducible exact LeO.none _)
   | (with_reducible refine LeO.ite ?_ ?_)
   | (with_reducible refine LeO.bind ?_ (fun _ => ?_))
   | exact ih0 _ _ _ _
   | exact ih1 _ _ _ _ _ _ _
   | exact spec_FacingsOK.mono _ _
   | exact spec_l13Gain.mono _ _ _ _ _ _
   | exact LeO.none _
   | refine LeO.ite ?_ ?_
   | refine LeO.bind ?_ (fun _ => ?_)
  ·intro y0 y1 y2 y3 y4 y5 y6
   unfold spec_ShelfOf.l0
   repeat' first
   | (with_reducible exact ih0 _ _ _ _)
   | (with_reducible exact ih1 _ _ _ _ _ _ _)
   | (with_reducible exact spec_FacingsOK.mono _ _)
   | (with_reducible exact spec_l13Gain.mono _ _ _ _ _ _)
   | (with_reducible exact LeO.refl _)
   | (with_reducible exact LeO.none _)
   | (with_reducible refine LeO.ite ?_ ?_)
   | (with_reducible refine LeO.bind ?_ (fun _ => ?_))
   | exact ih0 _ _ _ _
   | exact ih1 _ _ _ _ _ _ _
   | exact spec_FacingsOK.mono _ _
   | exact spec_l13Gain.mono _ _ _ _ _ _
   | exact LeO.none _
   | refine LeO.ite ?_ ?_
   | refine LeO.bind ?_ (fun _ => ?_)
theorem spec_ShelfOf.mono : ∀ a0 a1 a2 k, LeO (spec_ShelfOf.f k a0 a1 a2) (spec_ShelfOf.f (k + 1) a0 a1 a2) := by
 intro a0 a1 a2 k
 obtain ⟨ih0, ih1⟩ := spec_ShelfOf.mono_l k
 unfold spec_ShelfOf.f
 repeat' first
   | (with_reducible exact ih0 _ _ _ _)
   | (with_reducible exact ih1 _ _ _ _ _ _ _)
   | (with_reducible exact spec_FacingsOK.mono _ _)
   | (with_reducible exact spec_l13Gain.mono _ _ _ _ _ _)
   | (with_reducible exact LeO.refl _)
   | (with_reducible exact LeO.none _)
   | (with_reducible refine LeO.ite ?_ ?_)
   | (with_reducible refine LeO.bind ?_ (fun _ => ?_))
   | exact ih0 _ _ _ _
   | exact ih1 _ _ _ _ _ _ _
   | exact spec_FacingsOK.mono _ _
   | exact spec_l13Gain.mono _ _ _ _ _ _
   | exact LeO.none _
   | refine LeO.ite ?_ ?_
   | refine LeO.bind ?_ (fun _ => ?_)
def spec_ShelfOf.T13 : Bool × List (List Nat × List Nat) := (true, [([], []), ([], []), ([0, 1], [0, 1]), ([2], [2]), ([], []), ([], []), ([4, 5], [4, 5]), ([6], [6]), ([7], [7]), ([], []), ([], []), ([9, 10], [9, 10]), ([11], [11]), ([12], [12]), ([13], [13]), ([3, 8, 14], [3, 8, 14]), ([15], [15])])
def spec_ShelfOf.B13 : List Nat := [0, 0, 3, 7, 0, 0, 48, 112, 240, 0, 0, 1536, 3584, 7680, 15872, 32767, 65535]
theorem spec_ShelfOf.tab13 : rtab .any (opsOf Try.f12 13) = spec_ShelfOf.T13 := by kernel_rfl
theorem spec_ShelfOf.bits13 : waitsOk spec_ShelfOf.T13.2 spec_ShelfOf.B13 = true := by kernel_rfl
def spec_ShelfOf.T15 : Bool × List (List Nat × List Nat) := (true, [([], []), ([0], [0]), ([], []), ([], []), ([2, 3], [2, 3]), ([4], [4]), ([5], [5]), ([1, 6], [1, 6]), ([0, 1, 2, 3, 4, 5, 6, 7], []), ([8, 7, 7, 0, 1, 2, 3, 4, 5, 6, 7], [7, 8])])
def spec_ShelfOf.B15 : List Nat := [0, 1, 0, 0, 12, 28, 60, 127, 255, 511]
theorem spec_ShelfOf.tab15 : rtab .any (opsOf Try.f12 15) = spec_ShelfOf.T15 := by kernel_rfl
theorem spec_ShelfOf.bits15 : waitsOk spec_ShelfOf.T15.2 spec_ShelfOf.B15 = true := by kernel_rfl
def spec_ShelfOf.T16 : Bool × List (List Nat × List Nat) := (true, [([], []), ([0], [0]), ([], []), ([], []), ([2, 3], [2, 3]), ([4], [4]), ([], []), ([], []), ([6, 7], [6, 7]), ([8], [8]), ([9], [9]), ([5, 10], [5, 10]), ([1, 11], [1, 11]), ([0, 1, 2, 3, 4, 5, 6, 7, 8, 9, 10, 11, 12], []), ([13, 12, 0, 1, 2, 3, 4, 5, 6, 7, 8, 9, 10, 11, 12], [12, 13])])
def spec_ShelfOf.B16 : List Nat := [0, 1, 0, 0, 12, 28, 0, 0, 192, 448, 960, 2044, 4095, 8191, 16383]
theorem spec_ShelfOf.tab16 : rtab .any (opsOf Try.f12 16) = spec_ShelfOf.T16 := by kernel_rfl
theorem spec_ShelfOf.bits16 : waitsOk spec_ShelfOf.T16.2 spec_ShelfOf.B16 = true := by kernel_rfl
def spec_ShelfOf.T17 : Bool × List (List Nat × List Nat) := (true, [([], []), ([0], [0]), ([], []), ([], []), ([2, 3], [2, 3]), ([4], [4]), ([], []), ([], []), ([6, 7], [6, 7]), ([8], [8]), ([5, 9], [5, 9]), ([1, 10], [1, 10]), ([0, 1, 2, 3, 4, 5, 6, 7, 8, 9, 10, 11], []), ([12, 11, 10, 0, 1, 2, 3, 4, 5, 6, 7, 8, 9, 10, 11], [11, 12])])
def spec_ShelfOf.B17 : List Nat := [0, 1, 0, 0, 12, 28, 0, 0, 192, 448, 1020, 2047, 4095, 8191]
theorem spec_ShelfOf.tab17 : rtab .any (opsOf Try.f12 17) = spec_ShelfOf.T17 := by kernel_rfl
theorem spec_ShelfOf.bits17 : waitsOk spec_ShelfOf.T17.2 spec_ShelfOf.B17 = true := by kernel_rfl
set_option maxHeartbeats 8000000 in
set_option maxRecDepth 100000 in
theorem spec_ShelfOf.calls (k : Nat) (A0 : Option Addr) (c0 : Nat) (l0 : List (S50)) (a1 : Int) (A2 : Option Addr) (c2 : Nat) (l2 : List Int) (r1 : List Int) (r2 : Int) (r3 : Int) (r4 : Int) (w : World) (hr0 : Kd.C k50 w A0 l0.length l0) (hc0 : l0.length ≤ c0) (hr2 : Kd.C (Kd.int .i64) w A2 l2.length l2) (hc2 : l2.length ≤ c2) (h : spec_ShelfOf.f k l0 a1 l2 = some (r1, r2, r3, r4)) :
  Calls Try.prog 12 #[.slice A0 l0.length c0, .int .i64 a1, .slice A2 l2.length c2] w fun e w' => ∃ v0_ : Value, e = .returned (.tuple #[.agg #[v0_, .int .i64 r2, .int .i64 r3], .int .i64 r4]) ∧ Kd.R (Kd.int .i64) 3 w' w.heap.size (fun _ => True) v0_ r1 ∧ Below w.heap.size w w' := by
 have hu31 := Try.underlying31
 have hu50 := Try.underlying50
 have HR0 := Aside0.mk hr0
 have HC0 := Aside0.mk hc0
 clear hr0 hc0
 have HR2 := Aside0.mk hr2
 have HC2 := Aside0.mk hc2
 clear hr2 hc2
 have HB := Aside0.mk (Below.refl w.heap.size w)
 have H : (if (l0.length : Int) > 4096 then (spec_ShelfOf.j0 k l0 a1 l2 true) else (spec_ShelfOf.j0 k l0 a1 l2 (decide ((l2.length : Int) > 4096)))) = some (r1, r2, r3, r4) := h
 clear h
 have HC4 := Aside0.mk H
 clear H
 go_enter Try.func12, Try.ntmps12
 go_upto_region 1 with (first | ((with_reducible refine gate_dst (N := 6) rfl ?_); (try (refine gate_guard (by rfl) ?_; dsimp only)); refine box_event ?hg (N := 6) ?hd (cs := #[.slice none 0 0, .int .i64 0, .int .i64 0]) (t := 31) ?hr ?_; (case hd => rfl); (case hg => rfl); (case hr => first | (go_simp; done) | (go_simp; rfl)); intro gb310 hg w5 hbox hb; have n0_ := Aside0.mk (below_step bl_ hb); have n1_ := Aside0.mk (hbox); have n2_ := Aside0.mk ((by rw [hg]; exact (below_size bl_) : w.heap.size ≤ gb310)); have n3_ := Aside0.mk ((by rw [hg]; exact (below_size bl_) : w.heap.size ≤ gb310)); clear HB; have HB := n0_; have BK310 := n1_; have GW310 := n2_; have GE310 := n3_; clear n0_ n1_ n2_ n3_; clear hb hbox hg))
 (try simp only [Act.put, List.setIfInBounds_toArray, List.set_cons_zero, List.set_cons_succ])
 go_cut [17] (fun v17 wc => ∃ (kq : Nat) (x17_3 : Bool), v17 = .bool x17_3 ∧ Aside0 (spec_ShelfOf.j0 kq l0 a1 l2 x17_3 = some (r1, r2, r3, r4)) ∧ Aside0 (kq ≤ k) ∧ Aside0 (wc.heap[gb310]? = some (.cells #[(.slice none 0 0), .int .i64 0, .int .i64 0] 31 (0, 0))) ∧ Aside0 (Below w.heap.size w wc))
 case first =>
  have H := HC4.out
  clear HC4
  by_cases c6 : (l0.length : Int) > 4096
  ·rw [if_pos c6] at H
   have c6b0 : decide (4096 < (l0.length : Int)) = true := decide_eq_true c6
   have c6b1 : decide (4096 < l0.length) = true := decide_eq_true (by omega)
   clear c6
   (first | rw [c6b0] | (simp only [i64_w, i32_w]; rw [c6b0]) | skip)
   as_aux_lemma =>
    have H' := Aside0.mk H
    clear H
    go_wp2
    go_meet
    case rel => exact ⟨_, (true), (by first | rfl | (simp; done) | (simp [*]; done)), H', ⟨by first | omega | exact Nat.le_refl _⟩, ⟨by (with_reducible repeat (first | refine blk_drewN ?_ _ | refine blk_drew ?_ | refine blk_alloc ?_ _)); exact BK310.out⟩, ⟨by repeat (first | (with_reducible first | exact HB.out | apply below_alloc | apply pw_below_drewN | apply below_drew1 | refine below_set ?_ GE310.out) | exact HB.out)⟩⟩
  rw [if_neg c6] at H
  have c6b0 : decide (4096 < (l0.length : Int)) = false := decide_eq_false c6
  have c6b1 : decide (4096 < l0.length) = false := decide_eq_false (by omega)
  clear c6
  (first | rw [c6b0] | (simp only [i64_w, i32_w]; rw [c6b0]) | skip)
  as_aux_lemma =>
   have H' := Aside0.mk H
   clear H
   go_wp2
   go_meet
   case rel => exact ⟨_, (decide ((l2.length : Int) > 4096)), (by first | rfl | (simp; done) | (simp [*]; done)), H', ⟨by first | omega | exact Nat.le_refl _⟩, ⟨by (with_reducible repeat (first | refine blk_drewN ?_ _ | refine blk_drew ?_ | refine blk_alloc ?_ _)); exact BK310.out⟩, ⟨by repeat (first | (with_reducible first | exact HB.out | apply below_alloc | apply pw_below_drewN | apply below_drew1 | refine below_set ?_ GE310.out) | exact HB.out)⟩⟩
 case rest =>
  clear HC4
  (try clear c1); (try clear c2); (try clear p2); (try clear c6); (try clear c6b0); (try clear c6b1)
  obtain ⟨kq, x17_3, rfl, HA, HJ3, BK310, HB⟩ := hcut
  cases kq with
  | zero => exact absurd HA.out (by simp [spec_ShelfOf.j0])
  | succ kj3 =>
   have H := HA.out
   clear HA
   simp only [spec_ShelfOf.j0] at H
   by_cases c7 : x17_3 = true
   ·subst c7
    have H1 : (some (([] : List Int), 0, 0, 2)) = some (r1, r2, r3, r4) := by rw [if_pos rfl] at H; exact H
    clear H
    have H := H1
    clear H1
    as_aux_lemma =>
     simp only [Option.some.injEq, Prod.mk.injEq] at H
     obtain ⟨rfl, rfl, rfl, rfl⟩ := H
     have hcz8_0 : wc.cell? ⟨gb310, 0, none⟩ = some (.slice none 0 0) := (blk_cell BK310.out 0).trans rfl
     have hcz8_1 : wc.cell? ⟨gb310, 1, none⟩ = some (.int .i64 0) := (blk_cell BK310.out 1).trans rfl
     have hcz8_2 : wc.cell? ⟨gb310, 2, none⟩ = some (.int .i64 0) := (blk_cell BK310.out 2).trans rfl
     have hfz8_0 := blk_frozen BK310.out 0
     have hfz8_1 := blk_frozen BK310.out 1
     have hfz8_2 := blk_frozen BK310.out 2
     go_wp2
     refine bodyPost_ret (results_ct rfl _ _ gb310 31 #[.slice none 0 0, .int .i64 0, .int .i64 0] (0, 0) _ rfl (by (with_reducible repeat (first | refine blk_drewN ?_ _ | refine blk_drew ?_ | refine blk_alloc ?_ _)); refine blk_put (cs := #[.slice none 0 0, .int .i64 0, .int .i64 0]) ?_ 2 _ rfl; (with_reducible repeat (first | refine blk_drewN ?_ _ | refine blk_drew ?_ | refine blk_alloc ?_ _)); refine blk_put (cs := #[.slice none 0 0, .int .i64 0, .int .i64 0]) ?_ 1 _ rfl; (with_reducible repeat (first | refine blk_drewN ?_ _ | refine blk_drew ?_ | refine blk_alloc ?_ _)); refine blk_put (cs := #[.slice none 0 0, .int .i64 0, .int .i64 0]) ?_ 0 _ rfl; (with_reducible repeat (first | refine blk_drewN ?_ _ | refine blk_drew ?_ | refine blk_alloc ?_ _)); exact BK310.out) Try.underlying31 rfl (by kernel_rfl)) rfl ?_
     exact ⟨_, by first | rfl | (simp [errW_none, errW_some] <;> rfl) | (simp [*, errW_none, errW_some] <;> rfl), by first | exact Kd.R_nil _ _ _ _ _ | exact Kd.N_nil _ _ _ _ _ | exact Kd.V_nil _ _ _ _ _ | exact Kd.Q_nil _ _ _ _ _ | exact Kd.S_nil _ _ _ _ _, by repeat (first | (with_reducible first | exact HB.out | apply below_alloc | apply pw_below_drewN | apply below_drew1 | refine below_set ?_ GE310.out) | exact HB.out)⟩
   replace c7 := Bool.eq_false_iff.mpr c7
   subst c7
   have H1 : ((spec_FacingsOK.f kj3 l0).bind fun t311 => (if t311 = true then ((spec_l01In.f a1 0 2000).bind fun t312 => (if t312 = true then (if (l2.length : Int) = (l0.length : Int) then (spec_ShelfOf.l0 kj3 l0 a1 l2 0 ([] : List Int) 0 0) else (some (([] : List Int), 0, 0, 3))) else (some (([] : List Int), 0, 0, 5)))) else (some (([] : List Int), 0, 0, 1)))) = some (r1, r2, r3, r4) := by rw [if_neg (show ¬ (false = true) by decide)] at H; exact H
   clear H
   have H := H1
   clear H1
   replace H := Option.bind_eq_some_iff.mp H
   obtain ⟨t311, A90, H⟩ := H
   replace H : (if t311 = true then ((spec_l01In.f a1 0 2000).bind fun t312 => (if t312 = true then (if (l2.length : Int) = (l0.length : Int) then (spec_ShelfOf.l0 kj3 l0 a1 l2 0 ([] : List Int) 0 0) else (some (([] : List Int), 0, 0, 3))) else (some (([] : List Int), 0, 0, 5)))) else (some (([] : List Int), 0, 0, 1))) = some (r1, r2, r3, r4) := H
   have A9 := Aside0.mk A90
   clear A90
   by_cases c10 : t311 = true
   rotate_left
   ·replace c10 := Bool.eq_false_iff.mpr c10
    subst c10
    have H1 : (some (([] : List Int), 0, 0, 1)) = some (r1, r2, r3, r4) := by rw [if_neg (show ¬ (false = true) by decide)] at H; exact H
    clear H
    have H := H1
    clear H1
    as_aux_lemma =>
     simp only [Option.some.injEq, Prod.mk.injEq] at H
     obtain ⟨rfl, rfl, rfl, rfl⟩ := H
     go_wp2_with (first | ((with_reducible refine gate_callee (f := 8) rfl ?_); refine goesL_ (some 20) rfl rfl Try.func8 (by kernel_rfl) rfl #[.slice A0 l0.length c0] rfl (by (try simp only [List.map_toArray, List.map_cons, List.map_nil]); first | done | rfl | (simp only [List.length_drop, List.length_take]; rfl)) ?_; (with_reducible refine (spec_FacingsOK.calls kj3 _ _ l0 false _ ?side1 ?side2 A9.out).mono ?_); (case side1 => repeat (first | exact (Kd.C_below HR0.out HB.out) | (with_reducible refine Kd.C_alloc ?_ _) | (with_reducible refine Kd.C_drewN ?_ _) | (with_reducible refine Kd.C_drew ?_))); (case side2 => exact HC0.out); rintro e w52 ⟨rfl, hb⟩; refine ⟨_, rfl, ?_⟩; have n0_ := Aside0.mk (blk_below (g := gb310) (o := .cells #[.slice none 0 0, .int .i64 0, .int .i64 0] 31 (0, 0)) bk_ hb); have n1_ := Aside0.mk (below_step bl_ hb); clear BK310; clear HB; have BK310 := n0_; have HB := n1_; clear n0_ n1_; (try clear hb); (try clear hb2); (try clear hk); (try clear hi); have hcz53_0 : w52.cell? ⟨gb310, 0, none⟩ = some (.slice none 0 0) := (blk_cell BK310.out 0).trans rfl; have hcz53_1 : w52.cell? ⟨gb310, 1, none⟩ = some (.int .i64 0) := (blk_cell BK310.out 1).trans rfl; have hcz53_2 : w52.cell? ⟨gb310, 2, none⟩ = some (.int .i64 0) := (blk_cell BK310.out 2).trans rfl; have hfz53_0 := blk_frozen BK310.out 0; have hfz53_1 := blk_frozen BK310.out 1; have hfz53_2 := blk_frozen BK310.out 2))
     refine bodyPost_ret (results_ct rfl _ _ gb310 31 #[.slice none 0 0, .int .i64 0, .int .i64 0] (0, 0) _ rfl (by (with_reducible repeat (first | refine blk_drewN ?_ _ | refine blk_drew ?_ | refine blk_alloc ?_ _)); refine blk_put (cs := #[.slice none 0 0, .int .i64 0, .int .i64 0]) ?_ 2 _ rfl; (with_reducible repeat (first | refine blk_drewN ?_ _ | refine blk_drew ?_ | refine blk_alloc ?_ _)); refine blk_put (cs := #[.slice none 0 0, .int .i64 0, .int .i64 0]) ?_ 1 _ rfl; (with_reducible repeat (first | refine blk_drewN ?_ _ | refine blk_drew ?_ | refine blk_alloc ?_ _)); refine blk_put (cs := #[.slice none 0 0, .int .i64 0, .int .i64 0]) ?_ 0 _ rfl; (with_reducible repeat (first | refine blk_drewN ?_ _ | refine blk_drew ?_ | refine blk_alloc ?_ _)); exact BK310.out) Try.underlying31 rfl (by kernel_rfl)) rfl ?_
     exact ⟨_, by first | rfl | (simp [errW_none, errW_some] <;> rfl) | (simp [*, errW_none, errW_some] <;> rfl), by first | exact Kd.R_nil _ _ _ _ _ | exact Kd.N_nil _ _ _ _ _ | exact Kd.V_nil _ _ _ _ _ | exact Kd.Q_nil _ _ _ _ _ | exact Kd.S_nil _ _ _ _ _, by repeat (first | (with_reducible first | exact HB.out | apply below_alloc | apply pw_below_drewN | apply below_drew1 | refine below_set ?_ GE310.out) | exact HB.out)⟩

   subst c10
   have H1 : ((spec_l01In.f a1 0 2000).bind fun t312 => (if t312 = true then (if (l2.length : Int) = (l0.length : Int) then (spec_ShelfOf.l0 kj3 l0 a1 l2 0 ([] : List Int) 0 0) else (some (([] : List Int), 0, 0, 3))) else (some (([] : List Int), 0, 0, 5)))) = some (r1, r2, r3, r4) := by rw [if_pos rfl] at H; exact H
   clear H
   have H := H1
   clear H1
   replace H := Option.bind_eq_some_iff.mp H
   obtain ⟨t312, A110, H⟩ := H
   replace H : (if t312 = true then (if (l2.length : Int) = (l0.length : Int) then (spec_ShelfOf.l0 kj3 l0 a1 l2 0 ([] : List Int) 0 0) else (some (([] : List Int), 0, 0, 3))) else (some (([] : List Int), 0, 0, 5))) = some (r1, r2, r3, r4) := H
   have A11 := Aside0.mk A110
   clear A110
   by_cases c12 : t312 = true
   rotate_left
   ·replace c12 := Bool.eq_false_iff.mpr c12
    subst c12
    have H1 : (some (([] : List Int), 0, 0, 5)) = some (r1, r2, r3, r4) := by rw [if_neg (show ¬ (false = true) by decide)] at H; exact H
    clear H
    have H := H1
    clear H1
    as_aux_lemma =>
     simp only [Option.some.injEq, Prod.mk.injEq] at H
     obtain ⟨rfl, rfl, rfl, rfl⟩ := H
     go_wp2_with (first | ((with_reducible refine gate_callee (f := 8) rfl ?_); refine goesL_ (some 20) rfl rfl Try.func8 (by kernel_rfl) rfl #[.slice A0 l0.length c0] rfl (by (try simp only [List.map_toArray, List.map_cons, List.map_nil]); first | done | rfl | (simp only [List.length_drop, List.length_take]; rfl)) ?_; (with_reducible refine (spec_FacingsOK.calls kj3 _ _ l0 true _ ?side1 ?side2 A9.out).mono ?_); (case side1 => repeat (first | exact (Kd.C_below HR0.out HB.out) | (with_reducible refine Kd.C_alloc ?_ _) | (with_reducible refine Kd.C_drewN ?_ _) | (with_reducible refine Kd.C_drew ?_))); (case side2 => exact HC0.out); rintro e w50 ⟨rfl, hb⟩; refine ⟨_, rfl, ?_⟩; have n0_ := Aside0.mk (blk_below (g := gb310) (o := .cells #[.slice none 0 0, .int .i64 0, .int .i64 0] 31 (0, 0)) bk_ hb); have n1_ := Aside0.mk (below_step bl_ hb); clear BK310; clear HB; have BK310 := n0_; have HB := n1_; clear n0_ n1_; (try clear hb); (try clear hb2); (try clear hk); (try clear hi)) | ((with_reducible refine gate_callee (f := 26) rfl ?_); refine goesL_ (some 24) rfl rfl Try.func26 (by kernel_rfl) rfl #[.int .i64 a1, .int .i64 0, .int .i64 2000] rfl (by (try simp only [List.map_toArray, List.map_cons, List.map_nil]); first | done | rfl | (simp only [List.length_drop, List.length_take]; rfl)) ?_; (with_reducible refine (spec_l01In.calls a1 0 2000 false _ A11.out).mono ?_); rintro e w' ⟨rfl, ⟨nd, rfl⟩⟩; refine ⟨_, rfl, ?_⟩; (try (rw [drewN_self w50]; generalize hq_ : World.drewN w50 _ = w50; have n0_ : Aside0 (w50.heap[gb310]? = some (.cells #[.slice none 0 0, .int .i64 0, .int .i64 0] 31 (0, 0))) := ⟨by rw [← hq_]; exact bk_⟩; have n1_ : Aside0 (Below w.heap.size w w50) := ⟨by rw [← hq_]; exact bl_⟩; clear BK310 HB hq_; have BK310 := n0_; have HB := n1_; clear n0_ n1_)); have hcz51_0 : w50.cell? ⟨gb310, 0, none⟩ = some (.slice none 0 0) := (blk_cell BK310.out 0).trans rfl; have hcz51_1 : w50.cell? ⟨gb310, 1, none⟩ = some (.int .i64 0) := (blk_cell BK310.out 1).trans rfl; have hcz51_2 : w50.cell? ⟨gb310, 2, none⟩ = some (.int .i64 0) := (blk_cell BK310.out 2).trans rfl; have hfz51_0 := blk_frozen BK310.out 0; have hfz51_1 := blk_frozen BK310.out 1; have hfz51_2 := blk_frozen BK310.out 2))
     refine bodyPost_ret (results_ct rfl _ _ gb310 31 #[.slice none 0 0, .int .i64 0, .int .i64 0] (0, 0) _ rfl (by (with_reducible repeat (first | refine blk_drewN ?_ _ | refine blk_drew ?_ | refine blk_alloc ?_ _)); refine blk_put (cs := #[.slice none 0 0, .int .i64 0, .int .i64 0]) ?_ 2 _ rfl; (with_reducible repeat (first | refine blk_drewN ?_ _ | refine blk_drew ?_ | refine blk_alloc ?_ _)); refine blk_put (cs := #[.slice none 0 0, .int .i64 0, .int .i64 0]) ?_ 1 _ rfl; (with_reducible repeat (first | refine blk_drewN ?_ _ | refine blk_drew ?_ | refine blk_alloc ?_ _)); refine blk_put (cs := #[.slice none 0 0, .int .i64 0, .int .i64 0]) ?_ 0 _ rfl; (with_reducible repeat (first | refine blk_drewN ?_ _ | refine blk_drew ?_ | refine blk_alloc ?_ _)); exact BK310.out) Try.underlying31 rfl (by kernel_rfl)) rfl ?_
     exact ⟨_, by first | rfl | (simp [errW_none, errW_some] <;> rfl) | (simp [*, errW_none, errW_some] <;> rfl), by first | exact Kd.R_nil _ _ _ _ _ | exact Kd.N_nil _ _ _ _ _ | exact Kd.V_nil _ _ _ _ _ | exact Kd.Q_nil _ _ _ _ _ | exact Kd.S_nil _ _ _ _ _, by repeat (first | (with_reducible first | exact HB.out | apply below_alloc | apply pw_below_drewN | apply below_drew1 | refine below_set ?_ GE310.out) | exact HB.out)⟩
   subst c12
   have H1 : (if (l2.length : Int) = (l0.length : Int) then (spec_ShelfOf.l0 kj3 l0 a1 l2 0 ([] : List Int) 0 0) else (some (([] : List Int), 0, 0, 3))) = some (r1, r2, r3, r4) := by rw [if_pos rfl] at H; exact H
   clear H
   have H := H1
   clear H1
   by_cases c13 : (l2.length : Int) = (l0.length : Int)
   rotate_left
   ·rw [if_neg c13] at H
    have c13b0 : ((l2.length : Int) == (l0.length : Int)) = false := beq_eq_false_iff_ne.mpr c13
    have c13b1 : ((l2.length : Int) != (l0.length : Int)) = true := bne_iff_ne.mpr c13
    have c13b2 : (l2.length == l0.length) = false := by first | simpa using c13 | (simp at c13 ⊢; omega)
    as_aux_lemma =>
     simp only [Option.some.injEq, Prod.mk.injEq] at H
     obtain ⟨rfl, rfl, rfl, rfl⟩ := H
     go_wp2_with (first | ((with_reducible refine gate_callee (f := 8) rfl ?_); refine goesL_ (some 20) rfl rfl Try.func8 (by kernel_rfl) rfl #[.slice A0 l0.length c0] rfl (by (try simp only [List.map_toArray, List.map_cons, List.map_nil]); first | done | rfl | (simp only [List.length_drop, List.length_take]; rfl)) ?_; (with_reducible refine (spec_FacingsOK.calls kj3 _ _ l0 true _ ?side1 ?side2 A9.out).mono ?_); (case side1 => repeat (first | exact (Kd.C_below HR0.out HB.out) | (with_reducible refine Kd.C_alloc ?_ _) | (with_reducible refine Kd.C_drewN ?_ _) | (with_reducible refine Kd.C_drew ?_))); (case side2 => exact HC0.out); rintro e w48 ⟨rfl, hb⟩; refine ⟨_, rfl, ?_⟩; have n0_ := Aside0.mk (blk_below (g := gb310) (o := .cells #[.slice none 0 0, .int .i64 0, .int .i64 0] 31 (0, 0)) bk_ hb); have n1_ := Aside0.mk (below_step bl_ hb); clear BK310; clear HB; have BK310 := n0_; have HB := n1_; clear n0_ n1_; (try clear hb); (try clear hb2); (try clear hk); (try clear hi)) | ((with_reducible refine gate_callee (f := 26) rfl ?_); refine goesL_ (some 24) rfl rfl Try.func26 (by kernel_rfl) rfl #[.int .i64 a1, .int .i64 0, .int .i64 2000] rfl (by (try simp only [List.map_toArray, List.map_cons, List.map_nil]); first | done | rfl | (simp only [List.length_drop, List.length_take]; rfl)) ?_; (with_reducible refine (spec_l01In.calls a1 0 2000 true _ A11.out).mono ?_); rintro e w' ⟨rfl, ⟨nd, rfl⟩⟩; refine ⟨_, rfl, ?_⟩; (try (rw [drewN_self w48]; generalize hq_ : World.drewN w48 _ = w48; have n0_ : Aside0 (w48.heap[gb310]? = some (.cells #[.slice none 0 0, .int .i64 0, .int .i64 0] 31 (0, 0))) := ⟨by rw [← hq_]; exact bk_⟩; have n1_ : Aside0 (Below w.heap.size w w48) := ⟨by rw [← hq_]; exact bl_⟩; clear BK310 HB hq_; have BK310 := n0_; have HB := n1_; clear n0_ n1_)); have hcz49_0 : w48.cell? ⟨gb310, 0, none⟩ = some (.slice none 0 0) := (blk_cell BK310.out 0).trans rfl; have hcz49_1 : w48.cell? ⟨gb310, 1, none⟩ = some (.int .i64 0) := (blk_cell BK310.out 1).trans rfl; have hcz49_2 : w48.cell? ⟨gb310, 2, none⟩ = some (.int .i64 0) := (blk_cell BK310.out 2).trans rfl; have hfz49_0 := blk_frozen BK310.out 0; have hfz49_1 := blk_frozen BK310.out 1; have hfz49_2 := blk_frozen BK310.out 2))
     refine bodyPost_ret (results_ct rfl _ _ gb310 31 #[.slice none 0 0, .int .i64 0, .int .i64 0] (0, 0) _ rfl (by (with_reducible repeat (first | refine blk_drewN ?_ _ | refine blk_drew ?_ | refine blk_alloc ?_ _)); refine blk_put (cs := #[.slice none 0 0, .int .i64 0, .int .i64 0]) ?_ 2 _ rfl; (with_reducible repeat (first | refine blk_drewN ?_ _ | refine blk_drew ?_ | refine blk_alloc ?_ _)); refine blk_put (cs := #[.slice none 0 0, .int .i64 0, .int .i64 0]) ?_ 1 _ rfl; (with_reducible repeat (first | refine blk_drewN ?_ _ | refine blk_drew ?_ | refine blk_alloc ?_ _)); refine blk_put (cs := #[.slice none 0 0, .int .i64 0, .int .i64 0]) ?_ 0 _ rfl; (with_reducible repeat (first | refine blk_drewN ?_ _ | refine blk_drew ?_ | refine blk_alloc ?_ _)); exact BK310.out) Try.underlying31 rfl (by kernel_rfl)) rfl ?_
     exact ⟨_, by first | rfl | (simp [errW_none, errW_some] <;> rfl) | (simp [*, errW_none, errW_some] <;> rfl), by first | exact Kd.R_nil _ _ _ _ _ | exact Kd.N_nil _ _ _ _ _ | exact Kd.V_nil _ _ _ _ _ | exact Kd.Q_nil _ _ _ _ _ | exact Kd.S_nil _ _ _ _ _, by repeat (first | (with_reducible first | exact HB.out | apply below_alloc | apply pw_below_drewN | apply below_drew1 | refine below_set ?_ GE310.out) | exact HB.out)⟩
   rw [if_pos c13] at H
   have c13b0 : ((l2.length : Int) == (l0.length : Int)) = true := beq_iff_eq.mpr c13
   have c13b1 : ((l2.length : Int) != (l0.length : Int)) = false := bne_eq_false_iff_eq.mpr c13
   have c13b2 : (l2.length == l0.length) = true := by first | simpa using c13 | (simp at c13 ⊢; omega)
   clear c13
   have H' := Aside0.mk H
   clear H
   go_wp2_with (first | ((with_reducible refine gate_callee (f := 8) rfl ?_); refine goesL_ (some 20) rfl rfl Try.func8 (by kernel_rfl) rfl #[.slice A0 l0.length c0] rfl (by (try simp only [List.map_toArray, List.map_cons, List.map_nil]); first | done | rfl | (simp only [List.length_drop, List.length_take]; rfl)) ?_; (with_reducible refine (spec_FacingsOK.calls kj3 _ _ l0 true _ ?side1 ?side2 A9.out).mono ?_); (case side1 => repeat (first | exact (Kd.C_below HR0.out HB.out) | (with_reducible refine Kd.C_alloc ?_ _) | (with_reducible refine Kd.C_drewN ?_ _) | (with_reducible refine Kd.C_drew ?_))); (case side2 => exact HC0.out); rintro e w14 ⟨rfl, hb⟩; refine ⟨_, rfl, ?_⟩; have n0_ := Aside0.mk (blk_below (g := gb310) (o := .cells #[.slice none 0 0, .int .i64 0, .int .i64 0] 31 (0, 0)) bk_ hb); have n1_ := Aside0.mk (below_step bl_ hb); clear BK310; clear HB; have BK310 := n0_; have HB := n1_; clear n0_ n1_; (try clear hb); (try clear hb2); (try clear hk); (try clear hi)) | ((with_reducible refine gate_callee (f := 26) rfl ?_); refine goesL_ (some 24) rfl rfl Try.func26 (by kernel_rfl) rfl #[.int .i64 a1, .int .i64 0, .int .i64 2000] rfl (by (try simp only [List.map_toArray, List.map_cons, List.map_nil]); first | done | rfl | (simp only [List.length_drop, List.length_take]; rfl)) ?_; (with_reducible refine (spec_l01In.calls a1 0 2000 true _ A11.out).mono ?_); rintro e w' ⟨rfl, ⟨nd, rfl⟩⟩; refine ⟨_, rfl, ?_⟩; (try (rw [drewN_self w14]; generalize hq_ : World.drewN w14 _ = w14; have n0_ : Aside0 (w14.heap[gb310]? = some (.cells #[.slice none 0 0, .int .i64 0, .int .i64 0] 31 (0, 0))) := ⟨by rw [← hq_]; exact bk_⟩; have n1_ : Aside0 (Below w.heap.size w w14) := ⟨by rw [← hq_]; exact bl_⟩; clear BK310 HB hq_; have BK310 := n0_; have HB := n1_; clear n0_ n1_))) | ((with_reducible refine gate_dst (N := 8) rfl ?_); (try (refine gate_guard (by rfl) ?_; dsimp only)); refine box_event ?hg (N := 8) ?hd (cs := #[.slice none 0 0, .int .i64 0, .int .i64 0]) (t := 31) ?hr ?_; (case hd => rfl); (case hg => rfl); (case hr => first | (go_simp; done) | (go_simp; rfl)); intro gb313 hg w15 hbox hb; have n0_ := Aside0.mk (blk_below (g := gb310) (o := .cells #[.slice none 0 0, .int .i64 0, .int .i64 0] 31 (0, 0)) bk_ hb); have n1_ := Aside0.mk (below_step bl_ hb); have n2_ := Aside0.mk (hbox); have n3_ := Aside0.mk ((by rw [hg]; exact (below_size bl_) : w.heap.size ≤ gb313)); have n4_ := Aside0.mk ((by rw [hg]; exact (below_size bl_) : w.heap.size ≤ gb313)); have n5_ := Aside0.mk ((by rw [hg]; exact Nat.ne_of_lt (blk_lt (g := gb310) (o := .cells #[.slice none 0 0, .int .i64 0, .int .i64 0] 31 (0, 0)) bk_) : gb310 ≠ gb313)); have n6_ := Aside0.mk ((by rw [hg]; exact Nat.ne_of_gt (blk_lt (g := gb310) (o := .cells #[.slice none 0 0, .int .i64 0, .int .i64 0] 31 (0, 0)) bk_) : gb313 ≠ gb310)); clear BK310; clear HB; have BK310 := n0_; have HB := n1_; have BK313 := n2_; have GW313 := n3_; have GE313 := n4_; have NB310_313 := n5_; have NB313_310 := n6_; clear n0_ n1_ n2_ n3_ n4_ n5_ n6_; clear hb hbox hg; have hnb16 := NB313_310.out; have hnc16 := NB310_313.out; have hcz17_0 : w15.cell? ⟨gb313, 0, none⟩ = some (.slice none 0 0) := (blk_cell BK313.out 0).trans rfl; have hcz17_1 : w15.cell? ⟨gb313, 1, none⟩ = some (.int .i64 0) := (blk_cell BK313.out 1).trans rfl; have hcz17_2 : w15.cell? ⟨gb313, 2, none⟩ = some (.int .i64 0) := (blk_cell BK313.out 2).trans rfl; have hfz17_0 := blk_frozen BK313.out 0; have hfz17_1 := blk_frozen BK313.out 1; have hfz17_2 := blk_frozen BK313.out 2))
   go_loopg [9] kj3 (fun kq v9 w' => ∃ (x9_2 : Int) (x311001_2 : Int) (x311002_2 : Int) (x314000_2 : List Int) (x314001_2 : Int) (x314002_2 : Int) (u314000 : Value), v9 = .int .i64 x9_2 ∧ Aside0 (spec_ShelfOf.l0 kq l0 a1 l2 x9_2 x314000_2 x314001_2 x314002_2 = some (r1, r2, r3, r4)) ∧ Aside0 (kq ≤ kj3) ∧ Aside0 (Kd.R (Kd.int .i64) 3 w' w.heap.size (fun _ => True) u314000 x314000_2) ∧ Aside0 (w'.heap[gb310]? = some (.cells #[(.slice none 0 0), .int .i64 x311001_2, .int .i64 x311002_2] 31 (0, 0))) ∧ Aside0 (w'.heap[gb313]? = some (.cells #[u314000, .int .i64 x314001_2, .int .i64 x314002_2] 31 (0, 0))) ∧ Aside0 (Below w.heap.size w w'))
   case atStart => exact ⟨(0), (0), (0), (([] : List Int)), (0), (0), (.slice none 0 0), (by first | rfl | (simp; done) | (simp [*]; done)), H', ⟨Nat.le_refl _⟩, ⟨by first | exact Kd.R_nil _ _ _ _ _ | exact Kd.N_nil _ _ _ _ _ | exact Kd.V_nil _ _ _ _ _ | exact Kd.Q_nil _ _ _ _ _ | exact Kd.S_nil _ _ _ _ _⟩, ⟨by (with_reducible repeat (first | refine blk_drewN ?_ _ | refine blk_drew ?_ | refine blk_alloc ?_ _)); refine blk_far ?_ NB310_313.out _; (with_reducible repeat (first | refine blk_drewN ?_ _ | refine blk_drew ?_ | refine blk_alloc ?_ _)); refine blk_far ?_ NB310_313.out _; (with_reducible repeat (first | refine blk_drewN ?_ _ | refine blk_drew ?_ | refine blk_alloc ?_ _)); exact blk_far bk_ NB310_313.out _⟩, ⟨by (with_reducible repeat (first | refine blk_drewN ?_ _ | refine blk_drew ?_ | refine blk_alloc ?_ _)); refine blk_put (cs := #[.slice none 0 0, .int .i64 0, .int .i64 0]) ?_ 2 _ rfl; (with_reducible repeat (first | refine blk_drewN ?_ _ | refine blk_drew ?_ | refine blk_alloc ?_ _)); refine blk_put (cs := #[.slice none 0 0, .int .i64 0, .int .i64 0]) ?_ 1 _ rfl; (with_reducible repeat (first | refine blk_drewN ?_ _ | refine blk_drew ?_ | refine blk_alloc ?_ _)); refine blk_put (cs := #[.slice none 0 0, .int .i64 0, .int .i64 0]) ?_ 0 _ rfl; (with_reducible repeat (first | refine blk_drewN ?_ _ | refine blk_drew ?_ | refine blk_alloc ?_ _)); exact BK313.out⟩, ⟨by repeat (first | (with_reducible first | exact HB.out | apply below_alloc | apply pw_below_drewN | apply below_drew1 | refine below_set ?_ GE310.out | refine below_set ?_ GE313.out) | exact HB.out)⟩⟩
   case round =>
    clear H'
    (try clear c7); (try clear c8); (try clear c10); (try clear c12); (try clear c13); (try clear c13b0); (try clear c13b1); (try clear c13b2); (try clear c16); (try clear hcz17_0); (try clear hcz17_1); (try clear hcz17_2); (try clear hcz8_0); (try clear hcz8_1); (try clear hcz8_2); (try clear hfz17_0); (try clear hfz17_1); (try clear hfz17_2); (try clear hfz8_0); (try clear hfz8_1); (try clear hfz8_2)
    obtain ⟨x9_2, x311001_2, x311002_2, x314000_2, x314001_2, x314002_2, u314000, rfl, HA, HK2, HO_314000, BK310, BK313, HB⟩ := hrel
    cases gk with
    | zero => exact absurd HA.out (by simp [spec_ShelfOf.l0])
    | succ k2 =>
     have H := HA.out
     clear HA
     simp only [spec_ShelfOf.l0] at H
     by_cases c18 : x9_2 < (l0.length : Int)
     rotate_left
     ·rw [if_neg c18] at H
      have c18b0 : decide (x9_2 < (l0.length : Int)) = false := decide_eq_false c18
      clear c18
      by_cases c40 : x314001_2 > a1
      ·rw [if_pos c40] at H
       have c40b0 : decide (a1 < x314001_2) = true := decide_eq_true c40
       clear c40
       as_aux_lemma =>
        simp only [Option.some.injEq, Prod.mk.injEq] at H
        obtain ⟨rfl, rfl, rfl, rfl⟩ := H
        have hnb41 := NB313_310.out
        have hnc41 := NB310_313.out
        have hcz42_0 : wr.cell? ⟨gb313, 0, none⟩ = some (u314000) := (blk_cell BK313.out 0).trans rfl
        have hcz42_1 : wr.cell? ⟨gb313, 1, none⟩ = some (.int .i64 x314001_2) := (blk_cell BK313.out 1).trans rfl
        have hcz42_2 : wr.cell? ⟨gb313, 2, none⟩ = some (.int .i64 x314002_2) := (blk_cell BK313.out 2).trans rfl
        have hfz42_0 := blk_frozen BK313.out 0
        have hfz42_1 := blk_frozen BK313.out 1
        have hfz42_2 := blk_frozen BK313.out 2
        have hcz43_0 : wr.cell? ⟨gb310, 0, none⟩ = some (.slice none 0 0) := (blk_cell BK310.out 0).trans rfl
        have hcz43_1 : wr.cell? ⟨gb310, 1, none⟩ = some (.int .i64 x311001_2) := (blk_cell BK310.out 1).trans rfl
        have hcz43_2 : wr.cell? ⟨gb310, 2, none⟩ = some (.int .i64 x311002_2) := (blk_cell BK310.out 2).trans rfl
        have hfz43_0 := blk_frozen BK310.out 0
        have hfz43_1 := blk_frozen BK310.out 1
        have hfz43_2 := blk_frozen BK310.out 2
        go_wp2
        refine bodyPost_ret (results_ct rfl _ _ gb310 31 #[.slice none 0 0, .int .i64 0, .int .i64 0] (0, 0) _ rfl (by (with_reducible repeat (first | refine blk_drewN ?_ _ | refine blk_drew ?_ | refine blk_alloc ?_ _)); refine blk_put (cs := #[.slice none 0 0, .int .i64 0, .int .i64 x311002_2]) ?_ 2 _ rfl; (with_reducible repeat (first | refine blk_drewN ?_ _ | refine blk_drew ?_ | refine blk_alloc ?_ _)); refine blk_put (cs := #[.slice none 0 0, .int .i64 x311001_2, .int .i64 x311002_2]) ?_ 1 _ rfl; (with_reducible repeat (first | refine blk_drewN ?_ _ | refine blk_drew ?_ | refine blk_alloc ?_ _)); refine blk_put (cs := #[.slice none 0 0, .int .i64 x311001_2, .int .i64 x311002_2]) ?_ 0 _ rfl; (with_reducible repeat (first | refine blk_drewN ?_ _ | refine blk_drew ?_ | refine blk_alloc ?_ _)); exact BK310.out) Try.underlying31 rfl (by kernel_rfl)) rfl ?_
        exact ⟨_, by first | rfl | (simp [errW_none, errW_some] <;> rfl) | (simp [*, errW_none, errW_some] <;> rfl), by first | exact Kd.R_nil _ _ _ _ _ | exact Kd.N_nil _ _ _ _ _ | exact Kd.V_nil _ _ _ _ _ | exact Kd.Q_nil _ _ _ _ _ | exact Kd.S_nil _ _ _ _ _, by repeat (first | (with_reducible first | exact HB.out | apply below_alloc | apply pw_below_drewN | apply below_drew1 | refine below_set ?_ GE310.out | refine below_set ?_ GE313.out) | exact HB.out)⟩
      rw [if_neg c40] at H
      have c40b0 : decide (a1 < x314001_2) = false := decide_eq_false c40
      clear c40
      as_aux_lemma =>
       simp only [Option.some.injEq, Prod.mk.injEq] at H
       obtain ⟨rfl, rfl, rfl, rfl⟩ := H
       have hnb44 := NB313_310.out
       have hnc44 := NB310_313.out
       have hcz45_0 : wr.cell? ⟨gb313, 0, none⟩ = some (u314000) := (blk_cell BK313.out 0).trans rfl
       have hcz45_1 : wr.cell? ⟨gb313, 1, none⟩ = some (.int .i64 x314001_2) := (blk_cell BK313.out 1).trans rfl
       have hcz45_2 : wr.cell? ⟨gb313, 2, none⟩ = some (.int .i64 x314002_2) := (blk_cell BK313.out 2).trans rfl
       have hfz45_0 := blk_frozen BK313.out 0
       have hfz45_1 := blk_frozen BK313.out 1
       have hfz45_2 := blk_frozen BK313.out 2
       obtain ⟨Ao46, co46, eo46⟩ := Kd.R_slice HO_314000.out
       subst eo46
       have hcz47_0 : wr.cell? ⟨gb310, 0, none⟩ = some (.slice none 0 0) := (blk_cell BK310.out 0).trans rfl
       have hcz47_1 : wr.cell? ⟨gb310, 1, none⟩ = some (.int .i64 x311001_2) := (blk_cell BK310.out 1).trans rfl
       have hcz47_2 : wr.cell? ⟨gb310, 2, none⟩ = some (.int .i64 x311002_2) := (blk_cell BK310.out 2).trans rfl
       have hfz47_0 := blk_frozen BK310.out 0
       have hfz47_1 := blk_frozen BK310.out 1
       have hfz47_2 := blk_frozen BK310.out 2
       go_wp2
       refine bodyPost_ret (results_ct rfl _ _ gb310 31 #[.slice Ao46 x314000_2.length co46, .int .i64 x314001_2, .int .i64 x314002_2] (0, 0) _ rfl (by (with_reducible repeat (first | refine blk_drewN ?_ _ | refine blk_drew ?_ | refine blk_alloc ?_ _)); refine blk_put (cs := #[.slice Ao46 x314000_2.length co46, .int .i64 x314001_2, .int .i64 x311002_2]) ?_ 2 _ rfl; (with_reducible repeat (first | refine blk_drewN ?_ _ | refine blk_drew ?_ | refine blk_alloc ?_ _)); refine blk_put (cs := #[.slice Ao46 x314000_2.length co46, .int .i64 x311001_2, .int .i64 x311002_2]) ?_ 1 _ rfl; (with_reducible repeat (first | refine blk_drewN ?_ _ | refine blk_drew ?_ | refine blk_alloc ?_ _)); refine blk_put (cs := #[.slice none 0 0, .int .i64 x311001_2, .int .i64 x311002_2]) ?_ 0 _ rfl; (with_reducible repeat (first | refine blk_drewN ?_ _ | refine blk_drew ?_ | refine blk_alloc ?_ _)); exact BK310.out) Try.underlying31 rfl (by kernel_rfl)) rfl ?_
       exact ⟨_, by first | rfl | (simp [errW_none, errW_some] <;> rfl) | (simp [*, errW_none, errW_some] <;> rfl), by (with_reducible repeat (first | apply Kd.R_alloc | apply Kd.R_drewN | apply Kd.R_drew)); exact Kd.R_mono (Kd.R_far (p := ⟨gb310, 2, none⟩) (Kd.R_far (p := ⟨gb310, 1, none⟩) (Kd.R_far (p := ⟨gb310, 0, none⟩) (Kd.R_types HO_314000.out BK310.out (by decide)) (fun _ hk => hk.2) (.slice Ao46 x314000_2.length co46)) (fun _ hk => hk.2) (.int .i64 x314001_2)) (fun _ hk => hk.2) (.int .i64 x314002_2)) (fun _ hk => trivial), by repeat (first | (with_reducible first | exact HB.out | apply below_alloc | apply pw_below_drewN | apply below_drew1 | refine below_set ?_ GE310.out | refine below_set ?_ GE313.out) | exact HB.out)⟩
     rw [if_pos c18] at H
     have c18b0 : decide (x9_2 < (l0.length : Int)) = true := decide_eq_true c18
     clear c18
     by_cases c19 : 0 ≤ x9_2
     rotate_left
     ·rw [if_neg c19] at H
      exact absurd H (by simp)
     rw [if_pos c19] at H
     have c19b0 : decide (0 ≤ x9_2) = true := decide_eq_true c19
     clear c19
     by_cases c20 : x9_2 < (l2.length : Int)
     rotate_left
     ·rw [if_neg c20] at H
      exact absurd H (by simp)
     rw [if_pos c20] at H
     have c20b0 : decide (x9_2 < (l2.length : Int)) = true := decide_eq_true c20
     clear c20
     replace H := Option.bind_eq_some_iff.mp H
     obtain ⟨t317, A210, H⟩ := H
     replace H : (if t317 = true then (if x314000_2.length < 17592186044416 then ((spec_l13Gain.f k2 ((rd_T50 l0 x9_2).f0) ((rd_T50 l0 x9_2).f1) ((rd_T50 l0 x9_2).f2) ((rd_T50 l0 x9_2).f3) (rd l2 x9_2)).bind fun t326 => (spec_ShelfOf.l0 k2 l0 a1 l2 (wrap64 (x9_2 + 1)) (x314000_2 ++ [rd l2 x9_2]) (wrap64 (x314001_2 + (wrap64 ((rd l2 x9_2) * ((rd_T50 l0 x9_2).f1))))) (wrap64 (x314002_2 + t326)))) else (none)) else (some (([] : List Int), 0, 0, 3))) = some (r1, r2, r3, r4) := H
     have A21 := Aside0.mk A210
     clear A210
     by_cases c22 : t317 = true
     rotate_left
     ·replace c22 := Bool.eq_false_iff.mpr c22
      subst c22
      have H1 : (some (([] : List Int), 0, 0, 3)) = some (r1, r2, r3, r4) := by rw [if_neg (show ¬ (false = true) by decide)] at H; exact H
      clear H
      have H := H1
      clear H1
      as_aux_lemma =>
       simp only [Option.some.injEq, Prod.mk.injEq] at H
       obtain ⟨rfl, rfl, rfl, rfl⟩ := H
       try go_wp2
       have n0_ := Aside0.mk (Kd.R_drew HO_314000.out)
       have n1_ := Aside0.mk (blk_drew BK310.out)
       have n2_ := Aside0.mk (blk_drew BK313.out)
       have n3_ := Aside0.mk (below_drew1 HB.out)
       clear HO_314000
       clear BK310
       clear BK313
       clear HB
       have HO_314000 := n0_
       have BK310 := n1_
       have BK313 := n2_
       have HB := n3_
       clear n0_ n1_ n2_ n3_
       have p314 : 0 ≤ (x9_2 : Int) := od_
       have q314 : x9_2 < (l2.length : Int) := od_
       obtain ⟨ad314, e314, hx314_0⟩ := Kd.at_int HR2.out x9_2 p314 q314
       have hw314_0 := hx314_0
       cases e314
       replace hx314_0 := (HB.out.cell (World.block_lt_of_cell? w _ hx314_0)).trans hx314_0
       replace p314 := eq_true p314
       replace q314 := eq_true q314
       have p315 : 0 ≤ (x9_2 : Int) := od_
       have q315 : x9_2 < (l0.length : Int) := od_
       obtain ⟨ad315, A315_3, c315_3, e315, hx315_0, hx315_1, hx315_2, hx315_3, hl315_3, hi315_3⟩ := at_T50 HR0.out x9_2 p315 q315
       have hw315_3 := hx315_3
       have hw315_2 := hx315_2
       have hw315_1 := hx315_1
       have hw315_0 := hx315_0
       cases e315
       replace hx315_0 := (HB.out.cell (World.block_lt_of_cell? w _ hx315_0)).trans hx315_0
       replace hx315_1 := (HB.out.cell (World.block_lt_of_cell? w _ hx315_1)).trans hx315_1
       replace hx315_2 := (HB.out.cell (World.block_lt_of_cell? w _ hx315_2)).trans hx315_2
       replace hx315_3 := (HB.out.cell (World.block_lt_of_cell? w _ hx315_3)).trans hx315_3
       have HR315_3 := Aside0.mk hi315_3
       have HC315_3 := Aside0.mk hl315_3
       clear hi315_3 hl315_3
       replace p315 := eq_true p315
       replace q315 := eq_true q315
       have p316 : 0 ≤ (x9_2 : Int) := od_
       have q316 : x9_2 < (l0.length : Int) := od_
       obtain ⟨ad316, A316_3, c316_3, e316, hx316_0, hx316_1, hx316_2, hx316_3, hl316_3, hi316_3⟩ := at_T50 HR0.out x9_2 p316 q316
       have hw316_3 := hx316_3
       have hw316_2 := hx316_2
       have hw316_1 := hx316_1
       have hw316_0 := hx316_0
       obtain rfl : ad315 = ad316 := (by injection e316)
       replace hx316_0 := (HB.out.cell (World.block_lt_of_cell? w _ hx316_0)).trans hx316_0
       replace hx316_1 := (HB.out.cell (World.block_lt_of_cell? w _ hx316_1)).trans hx316_1
       replace hx316_2 := (HB.out.cell (World.block_lt_of_cell? w _ hx316_2)).trans hx316_2
       replace hx316_3 := (HB.out.cell (World.block_lt_of_cell? w _ hx316_3)).trans hx316_3
       have HR316_3 := Aside0.mk hi316_3
       have HC316_3 := Aside0.mk hl316_3
       clear hi316_3 hl316_3
       replace p316 := eq_true p316
       replace q316 := eq_true q316
       have ea_ := Option.some.inj (hx315_3.symm.trans hx316_3)
       injection ea_ with ea_ en_ ec_
       subst ea_
       subst ec_
       clear en_
       refine start_ (n := 17) (S := fun w' => w'.cell? (ad314.add (x9_2).toNat) = some (.int .i64 (rd l2 x9_2)) ∧ w'.cell? (ad315.add ((x9_2).toNat * 4)) = some (.string ((rd_T50 l0 x9_2).f0)) ∧ w'.cell? ⟨(ad315.add ((x9_2).toNat * 4)).block, (ad315.add ((x9_2).toNat * 4)).off + 1, none⟩ = some (.int .i64 ((rd_T50 l0 x9_2).f1)) ∧ w'.cell? ⟨(ad315.add ((x9_2).toNat * 4)).block, (ad315.add ((x9_2).toNat * 4)).off + 2, none⟩ = some (.int .i64 ((rd_T50 l0 x9_2).f2)) ∧ w'.cell? ⟨(ad315.add ((x9_2).toNat * 4)).block, (ad315.add ((x9_2).toNat * 4)).off + 3, none⟩ = some (.slice A315_3 ((rd_T50 l0 x9_2).f3).length c315_3) ∧ w'.cell? (ad315.add ((x9_2).toNat * 4)) = some (.string ((rd_T50 l0 x9_2).f0)) ∧ w'.cell? ⟨(ad315.add ((x9_2).toNat * 4)).block, (ad315.add ((x9_2).toNat * 4)).off + 1, none⟩ = some (.int .i64 ((rd_T50 l0 x9_2).f1)) ∧ w'.cell? ⟨(ad315.add ((x9_2).toNat * 4)).block, (ad315.add ((x9_2).toNat * 4)).off + 2, none⟩ = some (.int .i64 ((rd_T50 l0 x9_2).f2)) ∧ w'.cell? ⟨(ad315.add ((x9_2).toNat * 4)).block, (ad315.add ((x9_2).toNat * 4)).off + 3, none⟩ = some (.slice A315_3 ((rd_T50 l0 x9_2).f3).length c315_3)) (ds := []) (msk 0 17) (by kernel_rfl) rfl rfl ⟨((HB.out.cell (World.block_lt_of_cell? w _ hw314_0)).trans hw314_0), ((HB.out.cell (World.block_lt_of_cell? w _ hw315_0)).trans hw315_0), ((HB.out.cell (World.block_lt_of_cell? w _ hw315_1)).trans hw315_1), ((HB.out.cell (World.block_lt_of_cell? w _ hw315_2)).trans hw315_2), ((HB.out.cell (World.block_lt_of_cell? w _ hw315_3)).trans hw315_3), ((HB.out.cell (World.block_lt_of_cell? w _ hw316_0)).trans hw316_0), ((HB.out.cell (World.block_lt_of_cell? w _ hw316_1)).trans hw316_1), ((HB.out.cell (World.block_lt_of_cell? w _ hw316_2)).trans hw316_2), ((HB.out.cell (World.block_lt_of_cell? w _ hw316_3)).trans hw316_3)⟩ (fun hHeld => ?_); refine with_tabW spec_ShelfOf.tab13 spec_ShelfOf.bits13 (fun HT_ HW_ => ?_)
       generalize wr.drew = w37 at HO_314000 BK310 BK313 HB HR315_3 HR316_3 hx314_0 hx315_0 hx315_1 hx315_2 hx315_3 hx316_0 hx316_1 hx316_2 hx316_3 hHeld ⊢
       refine pu_ 0 40 (msk 1 16) HT_.out ?_; refine pu_ 1 41 (msk 2 15) HT_.out ?_; refine pu_ 2 42 (msk 3 14) HT_.out ?_; refine pu_ 4 44 (mskl 17 3 [4]) HT_.out ?_; refine pu_ 5 45 (mskl 17 3 [4, 5]) HT_.out ?_; refine pu_ 6 46 (mskl 17 3 [4, 5, 6]) HT_.out ?_; refine pu_ 7 47 (mskl 17 3 [4, 5, 6, 7]) HT_.out ?_; refine pu_ 9 49 (mskl 17 3 [4, 5, 6, 7, 9]) HT_.out ?_; refine pu_ 10 50 (mskl 17 3 [4, 5, 6, 7, 9, 10]) HT_.out ?_; refine pu_ 11 51 (mskl 17 3 [4, 5, 6, 7, 9, 10, 11]) HT_.out ?_; refine pu_ 12 52 (mskl 17 3 [4, 5, 6, 7, 9, 10, 11, 12]) HT_.out ?_
       refine tk_ 3 43 (mskl 17 8 [9, 10, 11, 12]) HT_.out HW_.out hHeld ?_ (hy := by rintro w' ⟨s0, s1, s2, s3, s4, s5, s6, s7, s8⟩; go_simp; with_reducible rfl)
       refine tk_ 8 48 (msk 13 4) HT_.out HW_.out hHeld ?_ (hy := by rintro w' ⟨s0, s1, s2, s3, s4, s5, s6, s7, s8⟩; go_simp; with_reducible rfl)
       refine tk_ 13 53 (msk 14 3) HT_.out HW_.out hHeld ?_ (hy := by rintro w' ⟨s0, s1, s2, s3, s4, s5, s6, s7, s8⟩; go_simp; with_reducible rfl)
       refine pu_ 14 54 (msk 15 2) HT_.out ?_
       refine one_ (i := 15) (N := some 55) (msk 16 1) rfl rfl (one_of HT_.out (by kernel_rfl)) (by decide) (fun K hK => ?_)
       refine goes_ Try.func26 (by kernel_rfl) rfl #[.int .i64 (rd l2 x9_2), .int .i64 ((rd_T50 l0 x9_2).f2), .int .i64 (((rd_T50 l0 x9_2).f3).length : Int)] (by rfl) rfl rfl (by (try simp only [List.map_toArray, List.map_cons, List.map_nil]); first | done | rfl | (simp only [List.length_drop, List.length_take]; rfl)) ?_
       with_reducible refine (spec_l01In.calls (rd l2 x9_2) ((rd_T50 l0 x9_2).f2) (((rd_T50 l0 x9_2).f3).length : Int) false _ A21.out).mono ?_
       rintro e w' ⟨rfl, ⟨nd, rfl⟩⟩
       refine ⟨_, rfl, ?_⟩
       refine hK.out _ _ ⟨((HB.out.cell (World.block_lt_of_cell? w _ hw314_0)).trans hw314_0), ((HB.out.cell (World.block_lt_of_cell? w _ hw315_0)).trans hw315_0), ((HB.out.cell (World.block_lt_of_cell? w _ hw315_1)).trans hw315_1), ((HB.out.cell (World.block_lt_of_cell? w _ hw315_2)).trans hw315_2), ((HB.out.cell (World.block_lt_of_cell? w _ hw315_3)).trans hw315_3), ((HB.out.cell (World.block_lt_of_cell? w _ hw316_0)).trans hw316_0), ((HB.out.cell (World.block_lt_of_cell? w _ hw316_1)).trans hw316_1), ((HB.out.cell (World.block_lt_of_cell? w _ hw316_2)).trans hw316_2), ((HB.out.cell (World.block_lt_of_cell? w _ hw316_3)).trans hw316_3)⟩ (fun hHeld => ?_)
       clear hK K
       refine norm_ (a' := ?_) ?_ ?_
       rotate_left
       ·show Act.put _ (some 55) _ = _
        simp only [Act.put, List.setIfInBounds_toArray, List.set_cons_zero, List.set_cons_succ, i64_w, i32_w]
        rfl
       refine pu_ 16 56 (msk 17 0) HT_.out ?_
       refine done_ (done_of HT_.out (by kernel_rfl)) ?_
       have hnb38 := NB310_313.out
       have hnc38 := NB313_310.out
       have hcz39_0 : w37.cell? ⟨gb310, 0, none⟩ = some (.slice none 0 0) := (blk_cell BK310.out 0).trans rfl
       have hcz39_1 : w37.cell? ⟨gb310, 1, none⟩ = some (.int .i64 x311001_2) := (blk_cell BK310.out 1).trans rfl
       have hcz39_2 : w37.cell? ⟨gb310, 2, none⟩ = some (.int .i64 x311002_2) := (blk_cell BK310.out 2).trans rfl
       have hfz39_0 := blk_frozen BK310.out 0
       have hfz39_1 := blk_frozen BK310.out 1
       have hfz39_2 := blk_frozen BK310.out 2
       try go_wp2
       refine bodyPost_ret (results_ct rfl _ _ gb310 31 #[.slice none 0 0, .int .i64 0, .int .i64 0] (0, 0) _ rfl (by (with_reducible repeat (first | refine blk_drewN ?_ _ | refine blk_drew ?_ | refine blk_alloc ?_ _)); refine blk_put (cs := #[.slice none 0 0, .int .i64 0, .int .i64 x311002_2]) ?_ 2 _ rfl; (with_reducible repeat (first | refine blk_drewN ?_ _ | refine blk_drew ?_ | refine blk_alloc ?_ _)); refine blk_put (cs := #[.slice none 0 0, .int .i64 x311001_2, .int .i64 x311002_2]) ?_ 1 _ rfl; (with_reducible repeat (first | refine blk_drewN ?_ _ | refine blk_drew ?_ | refine blk_alloc ?_ _)); refine blk_put (cs := #[.slice none 0 0, .int .i64 x311001_2, .int .i64 x311002_2]) ?_ 0 _ rfl; (with_reducible repeat (first | refine blk_drewN ?_ _ | refine blk_drew ?_ | refine blk_alloc ?_ _)); exact BK310.out) Try.underlying31 rfl (by kernel_rfl)) rfl ?_
       exact ⟨_, by first | rfl | (simp [errW_none, errW_some] <;> rfl) | (simp [*, errW_none, errW_some] <;> rfl), by first | exact Kd.R_nil _ _ _ _ _ | exact Kd.N_nil _ _ _ _ _ | exact Kd.V_nil _ _ _ _ _ | exact Kd.Q_nil _ _ _ _ _ | exact Kd.S_nil _ _ _ _ _, by repeat (first | (with_reducible first | exact HB.out | apply below_alloc | apply pw_below_drewN | apply below_drew1 | refine below_set ?_ GE310.out | refine below_set ?_ GE313.out) | exact HB.out)⟩
     subst c22
     have H1 : (if x314000_2.length < 17592186044416 then ((spec_l13Gain.f k2 ((rd_T50 l0 x9_2).f0) ((rd_T50 l0 x9_2).f1) ((rd_T50 l0 x9_2).f2) ((rd_T50 l0 x9_2).f3) (rd l2 x9_2)).bind fun t326 => (spec_ShelfOf.l0 k2 l0 a1 l2 (wrap64 (x9_2 + 1)) (x314000_2 ++ [rd l2 x9_2]) (wrap64 (x314001_2 + (wrap64 ((rd l2 x9_2) * ((rd_T50 l0 x9_2).f1))))) (wrap64 (x314002_2 + t326)))) else (none)) = some (r1, r2, r3, r4) := by rw [if_pos rfl] at H; exact H
     clear H
     have H := H1
     clear H1
     by_cases c23 : x314000_2.length < 17592186044416
     rotate_left
     ·rw [if_neg c23] at H
      exact absurd H (by simp)
     rw [if_pos c23] at H
     have LMc23 := Aside0.mk c23
     clear c23
     obtain ⟨y319, hy319⟩ : ∃ y_ : List Int, y_ = (x314000_2 ++ [rd l2 x9_2]) := ⟨_, rfl⟩
     replace H : ((spec_l13Gain.f k2 ((rd_T50 l0 x9_2).f0) ((rd_T50 l0 x9_2).f1) ((rd_T50 l0 x9_2).f2) ((rd_T50 l0 x9_2).f3) (rd l2 x9_2)).bind fun t326 => (spec_ShelfOf.l0 k2 l0 a1 l2 (wrap64 (x9_2 + 1)) y319 (wrap64 (x314001_2 + (wrap64 ((rd l2 x9_2) * ((rd_T50 l0 x9_2).f1))))) (wrap64 (x314002_2 + t326)))) = some (r1, r2, r3, r4) := by first | (rw [hy319]; with_reducible exact H) | (have H2_ := (Option.bind_some _ _).symm.trans H; rw [hy319]; with_reducible exact H2_) | (have H2_ := (Option.bind_some _ _).symm.trans H; with_reducible exact H2_) | with_reducible exact H | (rw [hy319]; exact H) | exact H
     have Ny319 := Aside0.mk hy319
     clear hy319
     replace H := Option.bind_eq_some_iff.mp H
     obtain ⟨t326, A240, H⟩ := H
     replace H : (spec_ShelfOf.l0 k2 l0 a1 l2 (wrap64 (x9_2 + 1)) y319 (wrap64 (x314001_2 + (wrap64 ((rd l2 x9_2) * ((rd_T50 l0 x9_2).f1))))) (wrap64 (x314002_2 + t326))) = some (r1, r2, r3, r4) := H
     have A24 := Aside0.mk A240
     clear A240
     as_aux_lemma =>
      have H' := Aside0.mk H
      clear H
      try go_wp2
      have n0_ := Aside0.mk (Kd.R_drew HO_314000.out)
      have n1_ := Aside0.mk (blk_drew BK310.out)
      have n2_ := Aside0.mk (blk_drew BK313.out)
      have n3_ := Aside0.mk (below_drew1 HB.out)
      clear HO_314000
      clear BK310
      clear BK313
      clear HB
      have HO_314000 := n0_
      have BK310 := n1_
      have BK313 := n2_
      have HB := n3_
      clear n0_ n1_ n2_ n3_
      have p314 : 0 ≤ (x9_2 : Int) := od_
      have q314 : x9_2 < (l2.length : Int) := od_
      obtain ⟨ad314, e314, hx314_0⟩ := Kd.at_int HR2.out x9_2 p314 q314
      have hw314_0 := hx314_0
      cases e314
      replace hx314_0 := (HB.out.cell (World.block_lt_of_cell? w _ hx314_0)).trans hx314_0
      replace p314 := eq_true p314
      replace q314 := eq_true q314
      have p315 : 0 ≤ (x9_2 : Int) := od_
      have q315 : x9_2 < (l0.length : Int) := od_
      obtain ⟨ad315, A315_3, c315_3, e315, hx315_0, hx315_1, hx315_2, hx315_3, hl315_3, hi315_3⟩ := at_T50 HR0.out x9_2 p315 q315
      have hw315_3 := hx315_3
      have hw315_2 := hx315_2
      have hw315_1 := hx315_1
      have hw315_0 := hx315_0
      cases e315
      replace hx315_0 := (HB.out.cell (World.block_lt_of_cell? w _ hx315_0)).trans hx315_0
      replace hx315_1 := (HB.out.cell (World.block_lt_of_cell? w _ hx315_1)).trans hx315_1
      replace hx315_2 := (HB.out.cell (World.block_lt_of_cell? w _ hx315_2)).trans hx315_2
      replace hx315_3 := (HB.out.cell (World.block_lt_of_cell? w _ hx315_3)).trans hx315_3
      have HR315_3 := Aside0.mk hi315_3
      have HC315_3 := Aside0.mk hl315_3
      clear hi315_3 hl315_3
      replace p315 := eq_true p315
      replace q315 := eq_true q315
      have p316 : 0 ≤ (x9_2 : Int) := od_
      have q316 : x9_2 < (l0.length : Int) := od_
      obtain ⟨ad316, A316_3, c316_3, e316, hx316_0, hx316_1, hx316_2, hx316_3, hl316_3, hi316_3⟩ := at_T50 HR0.out x9_2 p316 q316
      have hw316_3 := hx316_3
      have hw316_2 := hx316_2
      have hw316_1 := hx316_1
      have hw316_0 := hx316_0
      obtain rfl : ad315 = ad316 := (by injection e316)
      replace hx316_0 := (HB.out.cell (World.block_lt_of_cell? w _ hx316_0)).trans hx316_0
      replace hx316_1 := (HB.out.cell (World.block_lt_of_cell? w _ hx316_1)).trans hx316_1
      replace hx316_2 := (HB.out.cell (World.block_lt_of_cell? w _ hx316_2)).trans hx316_2
      replace hx316_3 := (HB.out.cell (World.block_lt_of_cell? w _ hx316_3)).trans hx316_3
      have HR316_3 := Aside0.mk hi316_3
      have HC316_3 := Aside0.mk hl316_3
      clear hi316_3 hl316_3
      replace p316 := eq_true p316
      replace q316 := eq_true q316
      have ea_ := Option.some.inj (hx315_3.symm.trans hx316_3)
      injection ea_ with ea_ en_ ec_
      subst ea_
      subst ec_
      clear en_
      refine start_ (n := 17) (S := fun w' => w'.cell? (ad314.add (x9_2).toNat) = some (.int .i64 (rd l2 x9_2)) ∧ w'.cell? (ad315.add ((x9_2).toNat * 4)) = some (.string ((rd_T50 l0 x9_2).f0)) ∧ w'.cell? ⟨(ad315.add ((x9_2).toNat * 4)).block, (ad315.add ((x9_2).toNat * 4)).off + 1, none⟩ = some (.int .i64 ((rd_T50 l0 x9_2).f1)) ∧ w'.cell? ⟨(ad315.add ((x9_2).toNat * 4)).block, (ad315.add ((x9_2).toNat * 4)).off + 2, none⟩ = some (.int .i64 ((rd_T50 l0 x9_2).f2)) ∧ w'.cell? ⟨(ad315.add ((x9_2).toNat * 4)).block, (ad315.add ((x9_2).toNat * 4)).off + 3, none⟩ = some (.slice A315_3 ((rd_T50 l0 x9_2).f3).length c315_3) ∧ w'.cell? (ad315.add ((x9_2).toNat * 4)) = some (.string ((rd_T50 l0 x9_2).f0)) ∧ w'.cell? ⟨(ad315.add ((x9_2).toNat * 4)).block, (ad315.add ((x9_2).toNat * 4)).off + 1, none⟩ = some (.int .i64 ((rd_T50 l0 x9_2).f1)) ∧ w'.cell? ⟨(ad315.add ((x9_2).toNat * 4)).block, (ad315.add ((x9_2).toNat * 4)).off + 2, none⟩ = some (.int .i64 ((rd_T50 l0 x9_2).f2)) ∧ w'.cell? ⟨(ad315.add ((x9_2).toNat * 4)).block, (ad315.add ((x9_2).toNat * 4)).off + 3, none⟩ = some (.slice A315_3 ((rd_T50 l0 x9_2).f3).length c315_3)) (ds := []) (msk 0 17) (by kernel_rfl) rfl rfl ⟨((HB.out.cell (World.block_lt_of_cell? w _ hw314_0)).trans hw314_0), ((HB.out.cell (World.block_lt_of_cell? w _ hw315_0)).trans hw315_0), ((HB.out.cell (World.block_lt_of_cell? w _ hw315_1)).trans hw315_1), ((HB.out.cell (World.block_lt_of_cell? w _ hw315_2)).trans hw315_2), ((HB.out.cell (World.block_lt_of_cell? w _ hw315_3)).trans hw315_3), ((HB.out.cell (World.block_lt_of_cell? w _ hw316_0)).trans hw316_0), ((HB.out.cell (World.block_lt_of_cell? w _ hw316_1)).trans hw316_1), ((HB.out.cell (World.block_lt_of_cell? w _ hw316_2)).trans hw316_2), ((HB.out.cell (World.block_lt_of_cell? w _ hw316_3)).trans hw316_3)⟩ (fun hHeld => ?_); refine with_tabW spec_ShelfOf.tab13 spec_ShelfOf.bits13 (fun HT_ HW_ => ?_)
      generalize wr.drew = w25 at HO_314000 BK310 BK313 HB HR315_3 HR316_3 hx314_0 hx315_0 hx315_1 hx315_2 hx315_3 hx316_0 hx316_1 hx316_2 hx316_3 hHeld ⊢
      refine pu_ 0 40 (msk 1 16) HT_.out ?_; refine pu_ 1 41 (msk 2 15) HT_.out ?_; refine pu_ 2 42 (msk 3 14) HT_.out ?_; refine pu_ 4 44 (mskl 17 3 [4]) HT_.out ?_; refine pu_ 5 45 (mskl 17 3 [4, 5]) HT_.out ?_; refine pu_ 6 46 (mskl 17 3 [4, 5, 6]) HT_.out ?_; refine pu_ 7 47 (mskl 17 3 [4, 5, 6, 7]) HT_.out ?_; refine pu_ 9 49 (mskl 17 3 [4, 5, 6, 7, 9]) HT_.out ?_; refine pu_ 10 50 (mskl 17 3 [4, 5, 6, 7, 9, 10]) HT_.out ?_; refine pu_ 11 51 (mskl 17 3 [4, 5, 6, 7, 9, 10, 11]) HT_.out ?_; refine pu_ 12 52 (mskl 17 3 [4, 5, 6, 7, 9, 10, 11, 12]) HT_.out ?_
      refine tk_ 3 43 (mskl 17 8 [9, 10, 11, 12]) HT_.out HW_.out hHeld ?_ (hy := by rintro w' ⟨s0, s1, s2, s3, s4, s5, s6, s7, s8⟩; go_simp; with_reducible rfl)
      refine tk_ 8 48 (msk 13 4) HT_.out HW_.out hHeld ?_ (hy := by rintro w' ⟨s0, s1, s2, s3, s4, s5, s6, s7, s8⟩; go_simp; with_reducible rfl)
      refine tk_ 13 53 (msk 14 3) HT_.out HW_.out hHeld ?_ (hy := by rintro w' ⟨s0, s1, s2, s3, s4, s5, s6, s7, s8⟩; go_simp; with_reducible rfl)
      refine pu_ 14 54 (msk 15 2) HT_.out ?_
      refine one_ (i := 15) (N := some 55) (msk 16 1) rfl rfl (one_of HT_.out (by kernel_rfl)) (by decide) (fun K hK => ?_)
      refine goes_ Try.func26 (by kernel_rfl) rfl #[.int .i64 (rd l2 x9_2), .int .i64 ((rd_T50 l0 x9_2).f2), .int .i64 (((rd_T50 l0 x9_2).f3).length : Int)] (by rfl) rfl rfl (by (try simp only [List.map_toArray, List.map_cons, List.map_nil]); first | done | rfl | (simp only [List.length_drop, List.length_take]; rfl)) ?_
      with_reducible refine (spec_l01In.calls (rd l2 x9_2) ((rd_T50 l0 x9_2).f2) (((rd_T50 l0 x9_2).f3).length : Int) true _ A21.out).mono ?_
      rintro e w' ⟨rfl, ⟨nd, rfl⟩⟩
      refine ⟨_, rfl, ?_⟩
      refine hK.out _ _ ⟨((HB.out.cell (World.block_lt_of_cell? w _ hw314_0)).trans hw314_0), ((HB.out.cell (World.block_lt_of_cell? w _ hw315_0)).trans hw315_0), ((HB.out.cell (World.block_lt_of_cell? w _ hw315_1)).trans hw315_1), ((HB.out.cell (World.block_lt_of_cell? w _ hw315_2)).trans hw315_2), ((HB.out.cell (World.block_lt_of_cell? w _ hw315_3)).trans hw315_3), ((HB.out.cell (World.block_lt_of_cell? w _ hw316_0)).trans hw316_0), ((HB.out.cell (World.block_lt_of_cell? w _ hw316_1)).trans hw316_1), ((HB.out.cell (World.block_lt_of_cell? w _ hw316_2)).trans hw316_2), ((HB.out.cell (World.block_lt_of_cell? w _ hw316_3)).trans hw316_3)⟩ (fun hHeld => ?_)
      clear hK K
      refine norm_ (a' := ?_) ?_ ?_
      rotate_left
      ·show Act.put _ (some 55) _ = _
       simp only [Act.put, List.setIfInBounds_toArray, List.set_cons_zero, List.set_cons_succ, i64_w, i32_w]
       rfl
      refine pu_ 16 56 (msk 17 0) HT_.out ?_
      refine done_ (done_of HT_.out (by kernel_rfl)) ?_
      try go_wp2
      (try (rw [drewN_self w25]; generalize hq_ : World.drewN w25 _ = w25; have n0_ : Aside0 (Kd.R (Kd.int .i64) 3 w25 w.heap.size (fun _ => True) u314000 x314000_2) := ⟨by rw [← hq_]; exact (by (with_reducible repeat (first | apply Kd.R_alloc | apply Kd.R_drewN | apply Kd.R_drew)); exact HO_314000.out)⟩; have n1_ : Aside0 (w25.heap[gb310]? = some (.cells #[.slice none 0 0, .int .i64 x311001_2, .int .i64 x311002_2] 31 (0, 0))) := ⟨by rw [← hq_]; exact bk_⟩; have n2_ : Aside0 (w25.heap[gb313]? = some (.cells #[u314000, .int .i64 x314001_2, .int .i64 x314002_2] 31 (0, 0))) := ⟨by rw [← hq_]; exact bk_⟩; have n3_ : Aside0 (Below w.heap.size w w25) := ⟨by rw [← hq_]; exact bl_⟩; clear HO_314000 BK310 BK313 HB hq_; have HO_314000 := n0_; have BK310 := n1_; have BK313 := n2_; have HB := n3_; clear n0_ n1_ n2_ n3_))
      have n0_ := Aside0.mk (Kd.R_drew HO_314000.out)
      have n1_ := Aside0.mk (blk_drew BK310.out)
      have n2_ := Aside0.mk (blk_drew BK313.out)
      have n3_ := Aside0.mk (below_drew1 HB.out)
      clear HO_314000
      clear BK310
      clear BK313
      clear HB
      have HO_314000 := n0_
      have BK310 := n1_
      have BK313 := n2_
      have HB := n3_
      clear n0_ n1_ n2_ n3_
      have p318 : 0 ≤ (x9_2 : Int) := od_
      have q318 : x9_2 < (l2.length : Int) := od_
      obtain ⟨ad318, e318, hx318_0⟩ := Kd.at_int HR2.out x9_2 p318 q318
      have hw318_0 := hx318_0
      obtain rfl : ad314 = ad318 := (by injection e318)
      replace hx318_0 := (HB.out.cell (World.block_lt_of_cell? w _ hx318_0)).trans hx318_0
      replace p318 := eq_true p318
      replace q318 := eq_true q318
      refine start_ (n := 10) (S := fun w' => w'.cell? ⟨gb313, 0, none⟩ = some (u314000) ∧ w'.cell? ⟨gb313, 1, none⟩ = some (.int .i64 x314001_2) ∧ w'.cell? ⟨gb313, 2, none⟩ = some (.int .i64 x314002_2) ∧ w'.cell? (ad314.add (x9_2).toNat) = some (.int .i64 (rd l2 x9_2))) (ds := [9]) (msk 0 10) (by kernel_rfl) rfl rfl ⟨(blk_cell BK313.out 0).trans rfl, (blk_cell BK313.out 1).trans rfl, (blk_cell BK313.out 2).trans rfl, ((HB.out.cell (World.block_lt_of_cell? w _ hw318_0)).trans hw318_0)⟩ (fun hHeld => ?_); refine with_tabW spec_ShelfOf.tab15 spec_ShelfOf.bits15 (fun HT_ HW_ => ?_)
      generalize w25.drew = w26 at HO_314000 BK310 BK313 HB hx318_0 hHeld ⊢
      refine pu_ 0 58 (msk 1 9) HT_.out ?_; refine pu_ 2 60 (mskl 10 1 [2]) HT_.out ?_; refine pu_ 3 61 (mskl 10 1 [2, 3]) HT_.out ?_; refine pu_ 4 62 (mskl 10 1 [2, 3, 4]) HT_.out ?_
      refine tk_ 1 59 (msk 5 5) HT_.out HW_.out hHeld ?_ (hy := by rintro w' ⟨s0, s1, s2, s3⟩; go_simp; with_reducible rfl)
      refine tk_ 5 63 (msk 6 4) HT_.out HW_.out hHeld ?_ (hy := by rintro w' ⟨s0, s1, s2, s3⟩; go_simp; with_reducible rfl)
      refine one_ (i := 6) (N := some 64) (msk 7 3) rfl rfl (one_of HT_.out (by kernel_rfl)) (by decide) (fun K hK => ?_)
      refine value_ (w1 := ?_) (v := ?_) (by rfl) rfl ?_ ?_
      rotate_left 2
      ·go_simp
       constructor
       ·rfl
       ·rfl
      refine hK.out _ _ ⟨(blk_cell (blk_alloc BK313.out _) 0).trans rfl, (blk_cell (blk_alloc BK313.out _) 1).trans rfl, (blk_cell (blk_alloc BK313.out _) 2).trans rfl, (World.cell?_alloc_lt _ _ _ (World.block_lt_of_cell? _ _ (((HB.out.cell (World.block_lt_of_cell? w _ hw318_0)).trans hw318_0)))).trans (((HB.out.cell (World.block_lt_of_cell? w _ hw318_0)).trans hw318_0))⟩ (fun hHeld => ?_)
      clear hK K
      refine norm_ (a' := ?_) ?_ ?_
      rotate_left
      ·show Act.put _ (some 64) _ = _
       simp only [Act.put, List.setIfInBounds_toArray, List.set_cons_zero, List.set_cons_succ, i64_w, i32_w]
       rfl
      refine one_ (i := 7) (N := some 65) (msk 8 2) rfl rfl (one_of HT_.out (by kernel_rfl)) (by decide) (fun K hK => ?_)
      refine Kd.R_append_step (Kd.int .i64) (w0 := w) w.heap.size (by rfl) (.tmp 59) (.tmp 64) 29 3 (.int .i64 0) 8 rfl Try.underlying29 info3 rfl (by decide) (by omega) u314000 x314000_2 (rd l2 x9_2) [.int .i64 (rd l2 x9_2)] (fun _ => True) (fun _ => False) rfl rfl ?aP (fun _ hk => hk.elim) ?aF ?aO ?aB ?aS ?aL ?_
      (case aP => exact rfl)
      (case aB => exact bl_)
      (case aF => exact (fun _ _ => trivial))
      (case aO => exact (by (with_reducible repeat (first | apply Kd.R_alloc | apply Kd.R_drewN | apply Kd.R_drew)); exact HO_314000.out))
      (case aS => exact (below_size bl_))
      (case aL => have := LMc23.out; omega)
      intro v320 w27 ho hb hg hat
      rw [← Ny319.out] at ho
      have n0_ := Aside0.mk (blk_grown (g := gb310) (o := .cells #[.slice none 0 0, .int .i64 x311001_2, .int .i64 x311002_2] 31 (0, 0)) bk_ hg (Kd.R_ne HO_314000.out BK310.out (by decide)))
      have n1_ := Aside0.mk (blk_grown (g := gb313) (o := .cells #[u314000, .int .i64 x314001_2, .int .i64 x314002_2] 31 (0, 0)) bk_ hg (Kd.R_ne HO_314000.out BK313.out (by decide)))
      have n2_ := Aside0.mk (hb)
      have n3_ := Aside0.mk (ho)
      clear BK310
      clear BK313
      clear HB
      clear HO_314000
      have BK310 := n0_
      have BK313 := n1_
      have HB := n2_
      have HO321 := n3_
      clear n0_ n1_ n2_ n3_
      clear ho hb hg hat
      obtain ⟨Ao28, co28, eo28⟩ := Kd.R_slice HO321.out
      (first | subst eo28 | (injection eo28 with f1_ f2_ f3_; have f4_ := f1_.symm; have f5_ := f3_.symm; clear f1_ f2_ f3_; subst f4_; subst f5_))
      refine hK.out _ _ ⟨(blk_cell BK313.out 0).trans rfl, (blk_cell BK313.out 1).trans rfl, (blk_cell BK313.out 2).trans rfl, ((HB.out.cell (World.block_lt_of_cell? w _ hw318_0)).trans hw318_0)⟩ (fun hHeld => ?_)
      clear hK K
      refine norm_ (a' := ?_) ?_ ?_
      rotate_left
      ·show Act.put _ (some 65) _ = _
       simp only [Act.put, List.setIfInBounds_toArray, List.set_cons_zero, List.set_cons_succ, i64_w, i32_w]
       rfl
      refine pu_ 8 66 (msk 9 1) HT_.out ?_
      refine last_ (i := 9) (N := none) (msk 10 0) rfl rfl (one_of HT_.out (by kernel_rfl)) (by decide) (fun K hK => ?_)
      have hs29 : w27.cell? ⟨gb313, 0, none⟩ = some (u314000) := (blk_cell BK313.out 0).trans rfl
      have hfs29 := blk_frozen BK313.out 0
      have hns29_0 := NB310_313.out
      have hms29_0 := NB313_310.out
      refine skip_ (w1 := ?_) (by rfl) rfl ?_ ?_
      rotate_left
      ·go_simp
       rfl
      refine hK.out _ _ ?_
      clear hK K
      refine done_ (done_of HT_.out (by kernel_rfl)) ?_
      try go_wp2
      have n0_ : Aside0 (Kd.R (Kd.int .i64) 3 (w27.setCell ⟨gb313, 0, none⟩ (.slice Ao28 y319.length co28)) w.heap.size (fun _ => True) (.slice Ao28 y319.length co28) y319) := ⟨by (with_reducible repeat (first | apply Kd.R_alloc | apply Kd.R_drewN | apply Kd.R_drew)); exact Kd.R_mono (Kd.R_far (p := ⟨gb313, 0, none⟩) (Kd.R_types HO321.out BK313.out (by decide)) (fun _ hk => hk.2) (.slice Ao28 y319.length co28)) (fun _ hk => trivial)⟩
      have n1_ : Aside0 ((w27.setCell ⟨gb313, 0, none⟩ (.slice Ao28 y319.length co28)).heap[gb310]? = some (.cells #[.slice none 0 0, .int .i64 x311001_2, .int .i64 x311002_2] 31 (0, 0))) := ⟨by (with_reducible repeat (first | refine blk_drewN ?_ _ | refine blk_drew ?_ | refine blk_alloc ?_ _)); exact blk_far bk_ NB310_313.out _⟩
      have n2_ : Aside0 ((w27.setCell ⟨gb313, 0, none⟩ (.slice Ao28 y319.length co28)).heap[gb313]? = some (.cells #[.slice Ao28 y319.length co28, .int .i64 x314001_2, .int .i64 x314002_2] 31 (0, 0))) := ⟨by (with_reducible repeat (first | refine blk_drewN ?_ _ | refine blk_drew ?_ | refine blk_alloc ?_ _)); refine blk_put (cs := #[u314000, .int .i64 x314001_2, .int .i64 x314002_2]) ?_ 0 _ rfl; (with_reducible repeat (first | refine blk_drewN ?_ _ | refine blk_drew ?_ | refine blk_alloc ?_ _)); exact BK313.out⟩
      have n3_ : Aside0 (Below w.heap.size w (w27.setCell ⟨gb313, 0, none⟩ (.slice Ao28 y319.length co28))) := ⟨by repeat (first | (with_reducible first | exact HB.out | apply below_alloc | apply pw_below_drewN | apply below_drew1 | refine below_set ?_ GE310.out | refine below_set ?_ GE313.out) | exact HB.out)⟩
      (try clear HO321)
      (try clear BK310)
      (try clear BK313)
      (try clear HB)
      generalize (w27.setCell ⟨gb313, 0, none⟩ (.slice Ao28 y319.length co28)) = w30 at n0_ n1_ n2_ n3_ ⊢
      have HO321 := n0_
      have BK310 := n1_
      have BK313 := n2_
      have HB := n3_
      clear n0_ n1_ n2_ n3_
      have n0_ := Aside0.mk (Kd.R_drew HO321.out)
      have n1_ := Aside0.mk (blk_drew BK310.out)
      have n2_ := Aside0.mk (blk_drew BK313.out)
      have n3_ := Aside0.mk (below_drew1 HB.out)
      clear HO321
      clear BK310
      clear BK313
      clear HB
      have HO321 := n0_
      have BK310 := n1_
      have BK313 := n2_
      have HB := n3_
      clear n0_ n1_ n2_ n3_
      have p322 : 0 ≤ (x9_2 : Int) := od_
      have q322 : x9_2 < (l2.length : Int) := od_
      obtain ⟨ad322, e322, hx322_0⟩ := Kd.at_int HR2.out x9_2 p322 q322
      have hw322_0 := hx322_0
      obtain rfl : ad314 = ad322 := (by injection e322)
      replace hx322_0 := (HB.out.cell (World.block_lt_of_cell? w _ hx322_0)).trans hx322_0
      replace p322 := eq_true p322
      replace q322 := eq_true q322
      have p323 : 0 ≤ (x9_2 : Int) := od_
      have q323 : x9_2 < (l0.length : Int) := od_
      obtain ⟨ad323, A323_3, c323_3, e323, hx323_0, hx323_1, hx323_2, hx323_3, hl323_3, hi323_3⟩ := at_T50 HR0.out x9_2 p323 q323
      have hw323_3 := hx323_3
      have hw323_2 := hx323_2
      have hw323_1 := hx323_1
      have hw323_0 := hx323_0
      obtain rfl : ad315 = ad323 := (by injection e323)
      replace hx323_0 := (HB.out.cell (World.block_lt_of_cell? w _ hx323_0)).trans hx323_0
      replace hx323_1 := (HB.out.cell (World.block_lt_of_cell? w _ hx323_1)).trans hx323_1
      replace hx323_2 := (HB.out.cell (World.block_lt_of_cell? w _ hx323_2)).trans hx323_2
      replace hx323_3 := (HB.out.cell (World.block_lt_of_cell? w _ hx323_3)).trans hx323_3
      have HR323_3 := Aside0.mk hi323_3
      have HC323_3 := Aside0.mk hl323_3
      clear hi323_3 hl323_3
      replace p323 := eq_true p323
      replace q323 := eq_true q323
      refine start_ (n := 15) (S := fun w' => w'.cell? ⟨gb313, 0, none⟩ = some (.slice Ao28 y319.length co28) ∧ w'.cell? ⟨gb313, 1, none⟩ = some (.int .i64 x314001_2) ∧ w'.cell? ⟨gb313, 2, none⟩ = some (.int .i64 x314002_2) ∧ w'.cell? (ad314.add (x9_2).toNat) = some (.int .i64 (rd l2 x9_2)) ∧ w'.cell? (ad315.add ((x9_2).toNat * 4)) = some (.string ((rd_T50 l0 x9_2).f0)) ∧ w'.cell? ⟨(ad315.add ((x9_2).toNat * 4)).block, (ad315.add ((x9_2).toNat * 4)).off + 1, none⟩ = some (.int .i64 ((rd_T50 l0 x9_2).f1)) ∧ w'.cell? ⟨(ad315.add ((x9_2).toNat * 4)).block, (ad315.add ((x9_2).toNat * 4)).off + 2, none⟩ = some (.int .i64 ((rd_T50 l0 x9_2).f2)) ∧ w'.cell? ⟨(ad315.add ((x9_2).toNat * 4)).block, (ad315.add ((x9_2).toNat * 4)).off + 3, none⟩ = some (.slice A323_3 ((rd_T50 l0 x9_2).f3).length c323_3)) (ds := [14]) (msk 0 15) (by kernel_rfl) rfl rfl ⟨(blk_cell BK313.out 0).trans rfl, (blk_cell BK313.out 1).trans rfl, (blk_cell BK313.out 2).trans rfl, ((HB.out.cell (World.block_lt_of_cell? w _ hw322_0)).trans hw322_0), ((HB.out.cell (World.block_lt_of_cell? w _ hw323_0)).trans hw323_0), ((HB.out.cell (World.block_lt_of_cell? w _ hw323_1)).trans hw323_1), ((HB.out.cell (World.block_lt_of_cell? w _ hw323_2)).trans hw323_2), ((HB.out.cell (World.block_lt_of_cell? w _ hw323_3)).trans hw323_3)⟩ (fun hHeld => ?_); refine with_tabW spec_ShelfOf.tab16 spec_ShelfOf.bits16 (fun HT_ HW_ => ?_)
      generalize w30.drew = w31 at HO321 BK310 BK313 HB HR323_3 hx322_0 hx323_0 hx323_1 hx323_2 hx323_3 hHeld ⊢
      refine pu_ 0 67 (msk 1 14) HT_.out ?_; refine pu_ 2 69 (mskl 15 1 [2]) HT_.out ?_; refine pu_ 3 70 (mskl 15 1 [2, 3]) HT_.out ?_; refine pu_ 4 71 (mskl 15 1 [2, 3, 4]) HT_.out ?_; refine pu_ 6 73 (mskl 15 1 [2, 3, 4, 6]) HT_.out ?_; refine pu_ 7 74 (mskl 15 1 [2, 3, 4, 6, 7]) HT_.out ?_; refine pu_ 8 75 (mskl 15 1 [2, 3, 4, 6, 7, 8]) HT_.out ?_; refine pu_ 9 76 (mskl 15 1 [2, 3, 4, 6, 7, 8, 9]) HT_.out ?_
      refine tk_ 1 68 (mskl 15 5 [6, 7, 8, 9]) HT_.out HW_.out hHeld ?_ (hy := by rintro w' ⟨s0, s1, s2, s3, s4, s5, s6, s7⟩; go_simp; with_reducible rfl)
      refine tk_ 5 72 (msk 10 5) HT_.out HW_.out hHeld ?_ (hy := by rintro w' ⟨s0, s1, s2, s3, s4, s5, s6, s7⟩; go_simp; with_reducible rfl)
      refine tk_ 10 77 (msk 11 4) HT_.out HW_.out hHeld ?_ (hy := by rintro w' ⟨s0, s1, s2, s3, s4, s5, s6, s7⟩; go_simp; with_reducible rfl)
      refine pu_ 11 78 (msk 12 3) HT_.out ?_; refine pu_ 12 79 (msk 13 2) HT_.out ?_; refine pu_ 13 80 (msk 14 1) HT_.out ?_
      refine last_ (i := 14) (N := none) (msk 15 0) rfl rfl (one_of HT_.out (by kernel_rfl)) (by decide) (fun K hK => ?_)
      have hs32 : w31.cell? ⟨gb313, 1, none⟩ = some (.int .i64 x314001_2) := (blk_cell BK313.out 1).trans rfl
      have hfs32 := blk_frozen BK313.out 1
      have hns32_0 := NB310_313.out
      have hms32_0 := NB313_310.out
      refine skip_ (w1 := ?_) (by rfl) rfl ?_ ?_
      rotate_left
      ·go_simp
       rfl
      refine hK.out _ _ ?_
      clear hK K
      refine done_ (done_of HT_.out (by kernel_rfl)) ?_
      try go_wp2
      have n0_ : Aside0 (Kd.R (Kd.int .i64) 3 (w31.setCell ⟨gb313, 1, none⟩ (.int .i64 (wrap64 (x314001_2 + (wrap64 ((rd l2 x9_2) * ((rd_T50 l0 x9_2).f1))))))) w.heap.size (fun _ => True) (.slice Ao28 y319.length co28) y319) := ⟨by (with_reducible repeat (first | apply Kd.R_alloc | apply Kd.R_drewN | apply Kd.R_drew)); exact Kd.R_mono (Kd.R_far (p := ⟨gb313, 1, none⟩) (Kd.R_types HO321.out BK313.out (by decide)) (fun _ hk => hk.2) (.int .i64 (wrap64 (x314001_2 + (wrap64 ((rd l2 x9_2) * ((rd_T50 l0 x9_2).f1))))))) (fun _ hk => trivial)⟩
      have n1_ : Aside0 ((w31.setCell ⟨gb313, 1, none⟩ (.int .i64 (wrap64 (x314001_2 + (wrap64 ((rd l2 x9_2) * ((rd_T50 l0 x9_2).f1))))))).heap[gb310]? = some (.cells #[.slice none 0 0, .int .i64 x311001_2, .int .i64 x311002_2] 31 (0, 0))) := ⟨by (with_reducible repeat (first | refine blk_drewN ?_ _ | refine blk_drew ?_ | refine blk_alloc ?_ _)); exact blk_far bk_ NB310_313.out _⟩
      have n2_ : Aside0 ((w31.setCell ⟨gb313, 1, none⟩ (.int .i64 (wrap64 (x314001_2 + (wrap64 ((rd l2 x9_2) * ((rd_T50 l0 x9_2).f1))))))).heap[gb313]? = some (.cells #[.slice Ao28 y319.length co28, .int .i64 (wrap64 (x314001_2 + (wrap64 ((rd l2 x9_2) * ((rd_T50 l0 x9_2).f1))))), .int .i64 x314002_2] 31 (0, 0))) := ⟨by (with_reducible repeat (first | refine blk_drewN ?_ _ | refine blk_drew ?_ | refine blk_alloc ?_ _)); refine blk_put (cs := #[.slice Ao28 y319.length co28, .int .i64 x314001_2, .int .i64 x314002_2]) ?_ 1 _ rfl; (with_reducible repeat (first | refine blk_drewN ?_ _ | refine blk_drew ?_ | refine blk_alloc ?_ _)); exact BK313.out⟩
      have n3_ : Aside0 (Below w.heap.size w (w31.setCell ⟨gb313, 1, none⟩ (.int .i64 (wrap64 (x314001_2 + (wrap64 ((rd l2 x9_2) * ((rd_T50 l0 x9_2).f1)))))))) := ⟨by repeat (first | (with_reducible first | exact HB.out | apply below_alloc | apply pw_below_drewN | apply below_drew1 | refine below_set ?_ GE310.out | refine below_set ?_ GE313.out) | exact HB.out)⟩
      (try clear HO321)
      (try clear BK310)
      (try clear BK313)
      (try clear HB)
      generalize (w31.setCell ⟨gb313, 1, none⟩ (.int .i64 (wrap64 (x314001_2 + (wrap64 ((rd l2 x9_2) * ((rd_T50 l0 x9_2).f1))))))) = w33 at n0_ n1_ n2_ n3_ ⊢
      have HO321 := n0_
      have BK310 := n1_
      have BK313 := n2_
      have HB := n3_
      clear n0_ n1_ n2_ n3_
      have n0_ := Aside0.mk (Kd.R_drew HO321.out)
      have n1_ := Aside0.mk (blk_drew BK310.out)
      have n2_ := Aside0.mk (blk_drew BK313.out)
      have n3_ := Aside0.mk (below_drew1 HB.out)
      clear HO321
      clear BK310
      clear BK313
      clear HB
      have HO321 := n0_
      have BK310 := n1_
      have BK313 := n2_
      have HB := n3_
      clear n0_ n1_ n2_ n3_
      have p324 : 0 ≤ (x9_2 : Int) := od_
      have q324 : x9_2 < (l0.length : Int) := od_
      obtain ⟨ad324, A324_3, c324_3, e324, hx324_0, hx324_1, hx324_2, hx324_3, hl324_3, hi324_3⟩ := at_T50 HR0.out x9_2 p324 q324
      have hw324_3 := hx324_3
      have hw324_2 := hx324_2
      have hw324_1 := hx324_1
      have hw324_0 := hx324_0
      obtain rfl : ad315 = ad324 := (by injection e324)
      replace hx324_0 := (HB.out.cell (World.block_lt_of_cell? w _ hx324_0)).trans hx324_0
      replace hx324_1 := (HB.out.cell (World.block_lt_of_cell? w _ hx324_1)).trans hx324_1
      replace hx324_2 := (HB.out.cell (World.block_lt_of_cell? w _ hx324_2)).trans hx324_2
      replace hx324_3 := (HB.out.cell (World.block_lt_of_cell? w _ hx324_3)).trans hx324_3
      have HR324_3 := Aside0.mk hi324_3
      have HC324_3 := Aside0.mk hl324_3
      clear hi324_3 hl324_3
      replace p324 := eq_true p324
      replace q324 := eq_true q324
      have p325 : 0 ≤ (x9_2 : Int) := od_
      have q325 : x9_2 < (l2.length : Int) := od_
      obtain ⟨ad325, e325, hx325_0⟩ := Kd.at_int HR2.out x9_2 p325 q325
      have hw325_0 := hx325_0
      obtain rfl : ad314 = ad325 := (by injection e325)
      replace hx325_0 := (HB.out.cell (World.block_lt_of_cell? w _ hx325_0)).trans hx325_0
      replace p325 := eq_true p325
      replace q325 := eq_true q325
      refine start_ (n := 14) (S := fun w' => w'.cell? ⟨gb313, 0, none⟩ = some (.slice Ao28 y319.length co28) ∧ w'.cell? ⟨gb313, 1, none⟩ = some (.int .i64 (wrap64 (x314001_2 + (wrap64 ((rd l2 x9_2) * ((rd_T50 l0 x9_2).f1)))))) ∧ w'.cell? ⟨gb313, 2, none⟩ = some (.int .i64 x314002_2) ∧ w'.cell? (ad315.add ((x9_2).toNat * 4)) = some (.string ((rd_T50 l0 x9_2).f0)) ∧ w'.cell? ⟨(ad315.add ((x9_2).toNat * 4)).block, (ad315.add ((x9_2).toNat * 4)).off + 1, none⟩ = some (.int .i64 ((rd_T50 l0 x9_2).f1)) ∧ w'.cell? ⟨(ad315.add ((x9_2).toNat * 4)).block, (ad315.add ((x9_2).toNat * 4)).off + 2, none⟩ = some (.int .i64 ((rd_T50 l0 x9_2).f2)) ∧ w'.cell? ⟨(ad315.add ((x9_2).toNat * 4)).block, (ad315.add ((x9_2).toNat * 4)).off + 3, none⟩ = some (.slice A324_3 ((rd_T50 l0 x9_2).f3).length c324_3) ∧ w'.cell? (ad314.add (x9_2).toNat) = some (.int .i64 (rd l2 x9_2))) (ds := [13]) (msk 0 14) (by kernel_rfl) rfl rfl ⟨(blk_cell BK313.out 0).trans rfl, (blk_cell BK313.out 1).trans rfl, (blk_cell BK313.out 2).trans rfl, ((HB.out.cell (World.block_lt_of_cell? w _ hw324_0)).trans hw324_0), ((HB.out.cell (World.block_lt_of_cell? w _ hw324_1)).trans hw324_1), ((HB.out.cell (World.block_lt_of_cell? w _ hw324_2)).trans hw324_2), ((HB.out.cell (World.block_lt_of_cell? w _ hw324_3)).trans hw324_3), ((HB.out.cell (World.block_lt_of_cell? w _ hw325_0)).trans hw325_0)⟩ (fun hHeld => ?_); refine with_tabW spec_ShelfOf.tab17 spec_ShelfOf.bits17 (fun HT_ HW_ => ?_)
      generalize w33.drew = w34 at HO321 BK310 BK313 HB HR324_3 hx324_0 hx324_1 hx324_2 hx324_3 hx325_0 hHeld ⊢
      refine pu_ 0 81 (msk 1 13) HT_.out ?_; refine pu_ 2 83 (mskl 14 1 [2]) HT_.out ?_; refine pu_ 3 84 (mskl 14 1 [2, 3]) HT_.out ?_; refine pu_ 4 85 (mskl 14 1 [2, 3, 4]) HT_.out ?_; refine pu_ 6 87 (mskl 14 1 [2, 3, 4, 6]) HT_.out ?_; refine pu_ 7 88 (mskl 14 1 [2, 3, 4, 6, 7]) HT_.out ?_; refine pu_ 8 89 (mskl 14 1 [2, 3, 4, 6, 7, 8]) HT_.out ?_
      refine tk_ 1 82 (mskl 14 5 [6, 7, 8]) HT_.out HW_.out hHeld ?_ (hy := by rintro w' ⟨s0, s1, s2, s3, s4, s5, s6, s7⟩; go_simp; with_reducible rfl)
      refine tk_ 5 86 (msk 9 5) HT_.out HW_.out hHeld ?_ (hy := by rintro w' ⟨s0, s1, s2, s3, s4, s5, s6, s7⟩; go_simp; with_reducible rfl)
      refine tk_ 9 90 (msk 10 4) HT_.out HW_.out hHeld ?_ (hy := by rintro w' ⟨s0, s1, s2, s3, s4, s5, s6, s7⟩; go_simp; with_reducible rfl)
      refine one_ (i := 10) (N := some 91) (msk 11 3) rfl rfl (one_of HT_.out (by kernel_rfl)) (by decide) (fun K hK => ?_)
      refine goes_ Try.func31 (by kernel_rfl) rfl #[.agg #[.string ((rd_T50 l0 x9_2).f0), .int .i64 ((rd_T50 l0 x9_2).f1), .int .i64 ((rd_T50 l0 x9_2).f2), .slice A324_3 ((rd_T50 l0 x9_2).f3).length c324_3], .int .i64 (rd l2 x9_2)] (by rfl) rfl rfl (by (try simp only [List.map_toArray, List.map_cons, List.map_nil]); first | done | rfl | (simp only [List.length_drop, List.length_take]; rfl)) ?_
      with_reducible refine (spec_l13Gain.calls k2 ((rd_T50 l0 x9_2).f0) ((rd_T50 l0 x9_2).f1) ((rd_T50 l0 x9_2).f2) _ _ ((rd_T50 l0 x9_2).f3) (rd l2 x9_2) t326 _ ?side1 ?side2 A24.out).mono ?_
      (case side1 => repeat (first | exact (Kd.C_below HR324_3.out HB.out) | (with_reducible refine Kd.C_alloc ?_ _) | (with_reducible refine Kd.C_drewN ?_ _) | (with_reducible refine Kd.C_drew ?_)))
      (case side2 => exact HC324_3.out)
      rintro e w35 ⟨rfl, hb⟩
      refine ⟨_, rfl, ?_⟩
      have n0_ := Aside0.mk (Kd.R_below (by (with_reducible repeat (first | apply Kd.R_alloc | apply Kd.R_drewN | apply Kd.R_drew)); exact HO321.out) hb)
      have n1_ := Aside0.mk (blk_below (g := gb310) (o := .cells #[.slice none 0 0, .int .i64 x311001_2, .int .i64 x311002_2] 31 (0, 0)) bk_ hb)
      have n2_ := Aside0.mk (blk_below (g := gb313) (o := .cells #[.slice Ao28 y319.length co28, .int .i64 (wrap64 (x314001_2 + (wrap64 ((rd l2 x9_2) * ((rd_T50 l0 x9_2).f1))))), .int .i64 x314002_2] 31 (0, 0)) bk_ hb)
      have n3_ := Aside0.mk (below_step bl_ hb)
      clear HO321
      clear BK310
      clear BK313
      clear HB
      have HO321 := n0_
      have BK310 := n1_
      have BK313 := n2_
      have HB := n3_
      clear n0_ n1_ n2_ n3_
      (try clear hb)
      (try clear hb2)
      (try clear hk)
      (try clear hi)
      refine hK.out _ _ ⟨(blk_cell BK313.out 0).trans rfl, (blk_cell BK313.out 1).trans rfl, (blk_cell BK313.out 2).trans rfl, ((HB.out.cell (World.block_lt_of_cell? w _ hw324_0)).trans hw324_0), ((HB.out.cell (World.block_lt_of_cell? w _ hw324_1)).trans hw324_1), ((HB.out.cell (World.block_lt_of_cell? w _ hw324_2)).trans hw324_2), ((HB.out.cell (World.block_lt_of_cell? w _ hw324_3)).trans hw324_3), ((HB.out.cell (World.block_lt_of_cell? w _ hw325_0)).trans hw325_0)⟩ (fun hHeld => ?_)
      clear hK K
      refine norm_ (a' := ?_) ?_ ?_
      rotate_left
      ·show Act.put _ (some 91) _ = _
       simp only [Act.put, List.setIfInBounds_toArray, List.set_cons_zero, List.set_cons_succ, i64_w, i32_w]
       rfl
      refine pu_ 11 92 (msk 12 2) HT_.out ?_; refine pu_ 12 93 (msk 13 1) HT_.out ?_
      refine last_ (i := 13) (N := none) (msk 14 0) rfl rfl (one_of HT_.out (by kernel_rfl)) (by decide) (fun K hK => ?_)
      have hs36 : w35.cell? ⟨gb313, 2, none⟩ = some (.int .i64 x314002_2) := (blk_cell BK313.out 2).trans rfl
      have hfs36 := blk_frozen BK313.out 2
      have hns36_0 := NB310_313.out
      have hms36_0 := NB313_310.out
      refine skip_ (w1 := ?_) (by rfl) rfl ?_ ?_
      rotate_left
      ·go_simp
       rfl
      refine hK.out _ _ ?_
      clear hK K
      refine done_ (done_of HT_.out (by kernel_rfl)) ?_
      try go_wp2
      go_roundg k2
      case measure => have := HJ3.out; have := HK2.out; omega
      case rel => exact ⟨(wrap64 (x9_2 + 1)), (x311001_2), (x311002_2), (y319), (wrap64 (x314001_2 + (wrap64 ((rd l2 x9_2) * ((rd_T50 l0 x9_2).f1))))), (wrap64 (x314002_2 + t326)), (.slice Ao28 y319.length co28), (by first | rfl | (simp; done) | (simp [*]; done)), H', ⟨by have := HJ3.out; have := HK2.out; omega⟩, ⟨by (with_reducible repeat (first | apply Kd.R_alloc | apply Kd.R_drewN | apply Kd.R_drew)); exact Kd.R_mono (Kd.R_far (p := ⟨gb313, 2, none⟩) (Kd.R_types HO321.out BK313.out (by decide)) (fun _ hk => hk.2) (.int .i64 (wrap64 (x314002_2 + t326)))) (fun _ hk => trivial)⟩, ⟨by (with_reducible repeat (first | refine blk_drewN ?_ _ | refine blk_drew ?_ | refine blk_alloc ?_ _)); exact blk_far bk_ NB310_313.out _⟩, ⟨by (with_reducible repeat (first | refine blk_drewN ?_ _ | refine blk_drew ?_ | refine blk_alloc ?_ _)); refine blk_put (cs := #[.slice Ao28 y319.length co28, .int .i64 (wrap64 (x314001_2 + (wrap64 ((rd l2 x9_2) * ((rd_T50 l0 x9_2).f1))))), .int .i64 x314002_2]) ?_ 2 _ rfl; (with_reducible repeat (first | refine blk_drewN ?_ _ | refine blk_drew ?_ | refine blk_alloc ?_ _)); exact BK313.out⟩, ⟨by repeat (first | (with_reducible first | exact HB.out | apply below_alloc | apply pw_below_drewN | apply below_drew1 | refine below_set ?_ GE310.out | refine below_set ?_ GE313.out) | exact HB.out)⟩⟩
end Go.Proofs.Ytecbcibblmknpaa.XFnShelf
