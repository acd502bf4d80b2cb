-- PRINTED by xprint.py (our own program, over the kit's print.py)
import Derived.Test.YtecbcibblmknpaaXFnExactBestShelfx0
import Derived.Test.YtecbcibblmknpaaXFnExactBestShelfx5
import Derived.Test.YtecbcibblmknpaaPu
namespace Go.Proofs.Ytecbcibblmknpaa.XFnExactBestShelf
open Go.RowKit Go.Proofs.YtecbcibblmknpaaW.PrintWords Go.Proofs.YtecbcibblmknpaaW.PrintLast Go.Proofs.YtecbcibblmknpaaW.PrintMore Go.Proofs.YtecbcibblmknpaaW.Idx
attribute [local go_sem] max2_int min2_int max_two min_two max_three min_three max_four min_four   -- for this text's walks alone
set_option linter.unusedVariables false
set_option linter.unusedSimpArgs false

/-! ### impl_planOf: function 35 -/
def impl_planOf.l0 : Nat → List Int → List (S50) → Int → Int → List Int → Int → Int → Option (List Int × Int × Int)
 | 0, _, _, _, _, _, _, _ => none
 | k + 1, x1, x11, x12, x13, x193000, x193001, x193002 => if x13 < x12 then (if 0 ≤ x13 then (if x13 < (x11.length : Int) then (if x13 < (x1.length : Int) then (if 0 ≤ (rd x1 x13) then (if (rd x1 x13) ≤ (((rd_T50 x11 x13).f3).length : Int) then ((impl_sumOf.f k (((rd_T50 x11 x13).f3).take ((rd x1 x13) : Int).toNat)).bind fun t198 => (impl_planOf.l0 k x1 x11 x12 (wrap64 (x13 + 1)) x193000 (wrap64 (x193001 + (wrap64 ((rd x1 x13) * ((rd_T50 x11 x13).f1))))) (wrap64 (x193002 + t198)))) else (none)) else (none)) else (none)) else (none)) else (none)) else (some (x193000, x193001, x193002))
def impl_planOf.f (k : Nat) (l0 : List (S50)) (l1 : List Int) : Option (List Int × Int × Int) := (slices_Clone_int_int.f l1).bind fun t189 => (impl_planOf.l0 k l1 l0 (l0.length : Int) 0 t189 0 0)
theorem impl_planOf.mono_l : ∀ k, (∀ y0 y1 y2 y3 y4 y5 y6, LeO (impl_planOf.l0 k y0 y1 y2 y3 y4 y5 y6) (impl_planOf.l0 (k + 1) y0 y1 y2 y3 y4 y5 y6))
 | 0 => fun _ _ _ _ _ _ _ r h => by simp [impl_planOf.l0] at h
 | k + 1 => by
  have ih0 := impl_planOf.mono_l k
  ·intro y0 y1 y2 y3 y4 y5 y6
   unfold impl_planOf.l0
   repeat' first
   | (with_reducible exact ih0 _ _ _ _ _ _ _)
   | (with_reducible exact impl_sumOf.mono _ _)
   | (with_reducible exact LeO.refl _)
   | (with_reducible exact LeO.none _)
   | (with_reducible refine LeO.ite ?_ ?_)
   | (with_reducible refine LeO.bind ?_ (fun _ => ?_))
   | exact ih0 _ _ _ _ _ _ _
   | exact impl_sumOf.mono _ _
   | exact LeO.none _
   | refine LeO.ite ?_ ?_
   | refine LeO.bind ?_ (fun _ => ?_)
theorem impl_planOf.mono : ∀ a0 a1 k, LeO (impl_planOf.f k a0 a1) (impl_planOf.f (k + 1) a0 a1) := by
 intro a0 a1 k
 have ih0 := impl_planOf.mono_l k
 unfold impl_planOf.f
 repeat' first
   | (with_reducible exact ih0 _ _ _ _ _ _ _)
   | (with_reducible exact impl_sumOf.mono _ _)
   | (with_reducible exact LeO.refl _)
   | (with_reducible exact LeO.none _)
   | (with_reducible refine LeO.ite ?_ ?_)
   | (with_reducible refine LeO.bind ?_ (fun _ => ?_))
   | exact ih0 _ _ _ _ _ _ _
   | exact impl_sumOf.mono _ _
   | exact LeO.none _
   | refine LeO.ite ?_ ?_
   | refine LeO.bind ?_ (fun _ => ?_)
def impl_planOf.T5 : Bool × List (List Nat × List Nat) := (true, [([], []), ([0], [0]), ([], []), ([], []), ([2, 3], [2, 3]), ([4], [4]), ([], []), ([6], [6]), ([5, 7], [5, 7]), ([1, 8], [1, 8]), ([0, 1, 2, 3, 4, 5, 6, 7, 8, 9], []), ([10, 9, 0, 1, 2, 3, 4, 5, 6, 7, 8, 9], [9, 10])])
def impl_planOf.B5 : List Nat := [0, 1, 0, 0, 12, 28, 0, 64, 252, 511, 1023, 2047]
theorem impl_planOf.tab5 : rtab .any (opsOf Try.f35 5) = impl_planOf.T5 := by kernel_rfl
theorem impl_planOf.bits5 : waitsOk impl_planOf.T5.2 impl_planOf.B5 = true := by kernel_rfl
def impl_planOf.T6 : Bool × List (List Nat × List Nat) := (true, [([], []), ([0], [0]), ([], []), ([2], [2]), ([], []), ([], []), ([4, 5], [4, 5]), ([6], [6]), ([3, 7], [3, 7]), ([8], [8]), ([1, 9], [1, 9]), ([0, 1, 2, 3, 4, 5, 6, 7, 8, 9, 10], []), ([11, 10, 9, 0, 1, 2, 3, 4, 5, 6, 7, 8, 9, 10], [10, 11])])
def impl_planOf.B6 : List Nat := [0, 1, 0, 4, 0, 0, 48, 112, 252, 508, 1023, 2047, 4095]
theorem impl_planOf.tab6 : rtab .any (opsOf Try.f35 6) = impl_planOf.T6 := by kernel_rfl
theorem impl_planOf.bits6 : waitsOk impl_planOf.T6.2 impl_planOf.B6 = true := by kernel_rfl
set_option maxHeartbeats 8000000 in
set_option maxRecDepth 100000 in
theorem impl_planOf.calls (k : Nat) (A0 : Option Addr) (c0 : Nat) (l0 : List (S50)) (A1 : Option Addr) (c1 : Nat) (l1 : List Int) (r1 : List Int) (r2 : Int) (r3 : Int) (w : World) (hr0 : Kd.C k50 w A0 l0.length l0) (hc0 : l0.length ≤ c0) (hr1 : Kd.C (Kd.int .i64) w A1 l1.length l1) (hc1 : l1.length ≤ c1) (h : impl_planOf.f k l0 l1 = some (r1, r2, r3)) :
  Calls Try.prog 35 #[.slice A0 l0.length c0, .slice A1 l1.length c1] w fun e w' => ∃ v0_ : Value, e = .returned (.agg #[v0_, .int .i64 r2, .int .i64 r3]) ∧ Kd.R (Kd.int .i64) 3 w' w.heap.size (fun _ => True) v0_ r1 ∧ Below w.heap.size w w' := by
 have hu31 := Try.underlying31
 have hu50 := Try.underlying50
 have HR0 := Aside0.mk hr0
 have HC0 := Aside0.mk hc0
 clear hr0 hc0
 have HR1 := Aside0.mk hr1
 have HC1 := Aside0.mk hc1
 clear hr1 hc1
 have HB := Aside0.mk (Below.refl w.heap.size w)
 have H : ((slices_Clone_int_int.f l1).bind fun t189 => (impl_planOf.l0 k l1 l0 (l0.length : Int) 0 t189 0 0)) = some (r1, r2, r3) := h
 clear h
 replace H := Option.bind_eq_some_iff.mp H
 obtain ⟨t189, A30, H⟩ := H
 replace H : (impl_planOf.l0 k l1 l0 (l0.length : Int) 0 t189 0 0) = some (r1, r2, r3) := H
 have A3 := Aside0.mk A30
 clear A30
 have H' := Aside0.mk H
 clear H
 go_enter Try.func35, Try.ntmps35
 go_wp2_with (first | ((with_reducible refine gate_dst (N := 4) rfl ?_); refine box_event ?hg (N := 4) ?hd (cs := #[.slice none 0 0, .int .i64 0, .int .i64 0]) (t := 31) ?hr ?_; (case hd => rfl); (case hg => rfl); (case hr => first | (go_simp; done) | (go_simp; rfl)); intro gb188 hg w4 hbox hb; have n0_ := Aside0.mk (below_step bl_ hb); have n1_ := Aside0.mk (hbox); have n2_ := Aside0.mk ((by rw [hg]; exact (below_size bl_) : w.heap.size ≤ gb188)); have n3_ := Aside0.mk ((by rw [hg]; exact (below_size bl_) : w.heap.size ≤ gb188)); clear HB; have HB := n0_; have BK188 := n1_; have GW188 := n2_; have GE188 := n3_; clear n0_ n1_ n2_ n3_; clear hb hbox hg) | ((with_reducible refine gate_callee (f := 50) rfl ?_); refine goesL_ (some 9) rfl rfl Try.func50 (by kernel_rfl) rfl #[.slice A1 l1.length c1] rfl (by (try simp only [List.map_toArray, List.map_cons, List.map_nil]); first | done | rfl | (simp only [List.length_drop, List.length_take]; rfl)) ?_; (with_reducible refine (slices_Clone_int_int.calls _ _ l1 t189 _ ?side1 ?side2 A3.out).mono ?_); (case side1 => repeat (first | exact (Kd.C_below HR1.out HB.out) | (with_reducible refine Kd.C_alloc ?_ _) | (with_reducible refine Kd.C_drewN ?_ _) | (with_reducible refine Kd.C_drew ?_))); (case side2 => exact HC1.out); rintro e w5 ⟨v190, rfl, ho0, hb⟩; refine ⟨_, rfl, ?_⟩; have n0_ := Aside0.mk (Kd.R_lower ho0 (below_size bl_)); have n1_ := Aside0.mk (blk_below (g := gb188) (o := .cells #[.slice none 0 0, .int .i64 0, .int .i64 0] 31 (0, 0)) bk_ hb); have n2_ := Aside0.mk (below_step bl_ hb); clear BK188; clear HB; have HO191 := n0_; have BK188 := n1_; have HB := n2_; clear n0_ n1_ n2_; (try clear hb); (try clear hb2); (try clear hk); (try clear hi); (try clear ho0); obtain ⟨Ao6, co6, eo6⟩ := Kd.R_slice HO191.out; subst eo6) | ((with_reducible refine gate_dst (N := 5) rfl ?_); refine box_event ?hg (N := 5) ?hd (cs := #[.slice none 0 0, .int .i64 0, .int .i64 0]) (t := 31) ?hr ?_; (case hd => rfl); (case hg => rfl); (case hr => first | (go_simp; done) | (go_simp; rfl)); intro gb192 hg w7 hbox hb; have n0_ := Aside0.mk (Kd.R_below (by (with_reducible repeat (first | apply Kd.R_alloc | apply Kd.R_drewN | apply Kd.R_drew)); exact HO191.out) hb); have n1_ := Aside0.mk (blk_below (g := gb188) (o := .cells #[.slice none 0 0, .int .i64 0, .int .i64 0] 31 (0, 0)) bk_ hb); have n2_ := Aside0.mk (below_step bl_ hb); have n3_ := Aside0.mk (hbox); have n4_ := Aside0.mk ((by rw [hg]; exact (below_size bl_) : w.heap.size ≤ gb192)); have n5_ := Aside0.mk ((by rw [hg]; exact (below_size bl_) : w.heap.size ≤ gb192)); have n6_ := Aside0.mk ((by rw [hg]; exact Nat.ne_of_lt (blk_lt (g := gb188) (o := .cells #[.slice none 0 0, .int .i64 0, .int .i64 0] 31 (0, 0)) bk_) : gb188 ≠ gb192)); have n7_ := Aside0.mk ((by rw [hg]; exact Nat.ne_of_gt (blk_lt (g := gb188) (o := .cells #[.slice none 0 0, .int .i64 0, .int .i64 0] 31 (0, 0)) bk_) : gb192 ≠ gb188)); clear HO191; clear BK188; clear HB; have HO191 := n0_; have BK188 := n1_; have HB := n2_; have BK192 := n3_; have GW192 := n4_; have GE192 := n5_; have NB188_192 := n6_; have NB192_188 := n7_; clear n0_ n1_ n2_ n3_ n4_ n5_ n6_ n7_; clear hb hbox hg; have hnb8 := NB192_188.out; have hnc8 := NB188_192.out; have hcz9_0 : w7.cell? ⟨gb192, 0, none⟩ = some (.slice none 0 0) := (blk_cell BK192.out 0).trans rfl; have hcz9_1 : w7.cell? ⟨gb192, 1, none⟩ = some (.int .i64 0) := (blk_cell BK192.out 1).trans rfl; have hcz9_2 : w7.cell? ⟨gb192, 2, none⟩ = some (.int .i64 0) := (blk_cell BK192.out 2).trans rfl; have hfz9_0 := blk_frozen BK192.out 0; have hfz9_1 := blk_frozen BK192.out 1; have hfz9_2 := blk_frozen BK192.out 2))
 go_loopg [13] k (fun kq v13 w' => ∃ (x13_1 : Int) (x193001_1 : Int) (x193002_1 : Int), v13 = .int .i64 x13_1 ∧ Aside0 (impl_planOf.l0 kq l1 l0 (l0.length : Int) x13_1 t189 x193001_1 x193002_1 = some (r1, r2, r3)) ∧ Aside0 (kq ≤ k) ∧ Aside0 (Kd.R (Kd.int .i64) 3 w' w.heap.size (fun _ => True) (.slice Ao6 t189.length co6) t189) ∧ Aside0 (w'.heap[gb188]? = some (.cells #[(.slice none 0 0), .int .i64 0, .int .i64 0] 31 (0, 0))) ∧ Aside0 (w'.heap[gb192]? = some (.cells #[(.slice Ao6 t189.length co6), .int .i64 x193001_1, .int .i64 x193002_1] 31 (0, 0))) ∧ Aside0 (Below w.heap.size w w'))
 case atStart => exact ⟨(0), (0), (0), (by first | rfl | (simp; done) | (simp [*]; done)), H', ⟨Nat.le_refl _⟩, ⟨by (with_reducible repeat (first | apply Kd.R_alloc | apply Kd.R_drewN | apply Kd.R_drew)); exact Kd.R_mono (Kd.R_far (p := ⟨gb192, 2, none⟩) (Kd.R_far (p := ⟨gb192, 1, none⟩) (Kd.R_far (p := ⟨gb192, 0, none⟩) (Kd.R_types HO191.out BK192.out (by decide)) (fun _ hk => hk.2) (.slice Ao6 t189.length co6)) (fun _ hk => hk.2) (.int .i64 0)) (fun _ hk => hk.2) (.int .i64 0)) (fun _ hk => trivial)⟩, ⟨by (with_reducible repeat (first | refine blk_drewN ?_ _ | refine blk_drew ?_ | refine blk_alloc ?_ _)); refine blk_far ?_ NB188_192.out _; (with_reducible repeat (first | refine blk_drewN ?_ _ | refine blk_drew ?_ | refine blk_alloc ?_ _)); refine blk_far ?_ NB188_192.out _; (with_reducible repeat (first | refine blk_drewN ?_ _ | refine blk_drew ?_ | refine blk_alloc ?_ _)); exact blk_far bk_ NB188_192.out _⟩, ⟨by (with_reducible repeat (first | refine blk_drewN ?_ _ | refine blk_drew ?_ | refine blk_alloc ?_ _)); refine blk_put (cs := #[.slice Ao6 t189.length co6, .int .i64 0, .int .i64 0]) ?_ 2 _ rfl; (with_reducible repeat (first | refine blk_drewN ?_ _ | refine blk_drew ?_ | refine blk_alloc ?_ _)); refine blk_put (cs := #[.slice Ao6 t189.length co6, .int .i64 0, .int .i64 0]) ?_ 1 _ rfl; (with_reducible repeat (first | refine blk_drewN ?_ _ | refine blk_drew ?_ | refine blk_alloc ?_ _)); refine blk_put (cs := #[.slice none 0 0, .int .i64 0, .int .i64 0]) ?_ 0 _ rfl; (with_reducible repeat (first | refine blk_drewN ?_ _ | refine blk_drew ?_ | refine blk_alloc ?_ _)); exact BK192.out⟩, ⟨by repeat (first | (with_reducible first | exact HB.out | apply below_alloc | apply pw_below_drewN | apply below_drew1 | refine below_set ?_ GE188.out | refine below_set ?_ GE192.out) | exact HB.out)⟩⟩
 case round =>
  clear H'
  (try clear c1); (try clear p2); (try clear c3); (try clear c5); (try clear c8); (try clear hcz9_0); (try clear hcz9_1); (try clear hcz9_2); (try clear hfz9_0); (try clear hfz9_1); (try clear hfz9_2)
  obtain ⟨x13_1, x193001_1, x193002_1, rfl, HA, HK1, HO_193000, BK188, BK192, HB⟩ := hrel
  cases gk with
  | zero => exact absurd HA.out (by simp [impl_planOf.l0])
  | succ k1 =>
   have H := HA.out
   clear HA
   simp only [impl_planOf.l0] at H
   by_cases c10 : x13_1 < (l0.length : Int)
   rotate_left
   ·rw [if_neg c10] at H
    have c10b0 : decide (x13_1 < (l0.length : Int)) = false := decide_eq_false c10
    clear c10
    simp only [Option.some.injEq, Prod.mk.injEq] at H
    obtain ⟨rfl, rfl, rfl⟩ := H
    have hnb28 := NB192_188.out
    have hnc28 := NB188_192.out
    have hcz29_0 : wr.cell? ⟨gb192, 0, none⟩ = some (.slice Ao6 t189.length co6) := (blk_cell BK192.out 0).trans rfl
    have hcz29_1 : wr.cell? ⟨gb192, 1, none⟩ = some (.int .i64 x193001_1) := (blk_cell BK192.out 1).trans rfl
    have hcz29_2 : wr.cell? ⟨gb192, 2, none⟩ = some (.int .i64 x193002_1) := (blk_cell BK192.out 2).trans rfl
    have hfz29_0 := blk_frozen BK192.out 0
    have hfz29_1 := blk_frozen BK192.out 1
    have hfz29_2 := blk_frozen BK192.out 2
    have hcz30_0 : wr.cell? ⟨gb188, 0, none⟩ = some (.slice none 0 0) := (blk_cell BK188.out 0).trans rfl
    have hcz30_1 : wr.cell? ⟨gb188, 1, none⟩ = some (.int .i64 0) := (blk_cell BK188.out 1).trans rfl
    have hcz30_2 : wr.cell? ⟨gb188, 2, none⟩ = some (.int .i64 0) := (blk_cell BK188.out 2).trans rfl
    have hfz30_0 := blk_frozen BK188.out 0
    have hfz30_1 := blk_frozen BK188.out 1
    have hfz30_2 := blk_frozen BK188.out 2
    go_wp2
    refine bodyPost_ret (results_cell_row rfl _ _ gb188 31 #[.slice Ao6 t189.length co6, .int .i64 x193001_1, .int .i64 x193002_1] (0, 0) _ rfl (by (with_reducible repeat (first | refine blk_drewN ?_ _ | refine blk_drew ?_ | refine blk_alloc ?_ _)); refine blk_put (cs := #[.slice Ao6 t189.length co6, .int .i64 x193001_1, .int .i64 0]) ?_ 2 _ rfl; (with_reducible repeat (first | refine blk_drewN ?_ _ | refine blk_drew ?_ | refine blk_alloc ?_ _)); refine blk_put (cs := #[.slice Ao6 t189.length co6, .int .i64 0, .int .i64 0]) ?_ 1 _ rfl; (with_reducible repeat (first | refine blk_drewN ?_ _ | refine blk_drew ?_ | refine blk_alloc ?_ _)); refine blk_put (cs := #[.slice none 0 0, .int .i64 0, .int .i64 0]) ?_ 0 _ rfl; (with_reducible repeat (first | refine blk_drewN ?_ _ | refine blk_drew ?_ | refine blk_alloc ?_ _)); exact BK188.out) Try.underlying31 rfl (by kernel_rfl)) rfl ?_
    exact ⟨_, by first | rfl | (simp [errW_none, errW_some] <;> rfl) | (simp [*, errW_none, errW_some] <;> rfl), by (with_reducible repeat (first | apply Kd.R_alloc | apply Kd.R_drewN | apply Kd.R_drew)); exact Kd.R_mono (Kd.R_far (p := ⟨gb188, 2, none⟩) (Kd.R_far (p := ⟨gb188, 1, none⟩) (Kd.R_far (p := ⟨gb188, 0, none⟩) (Kd.R_types HO_193000.out BK188.out (by decide)) (fun _ hk => hk.2) (.slice Ao6 t189.length co6)) (fun _ hk => hk.2) (.int .i64 x193001_1)) (fun _ hk => hk.2) (.int .i64 x193002_1)) (fun _ hk => trivial), by repeat (first | (with_reducible first | exact HB.out | apply below_alloc | apply pw_below_drewN | apply below_drew1 | refine below_set ?_ GE188.out | refine below_set ?_ GE192.out) | exact HB.out)⟩

   rw [if_pos c10] at H
   have c10b0 : decide (x13_1 < (l0.length : Int)) = true := decide_eq_true c10
   clear c10
   by_cases c11 : 0 ≤ x13_1
   rotate_left
   ·rw [if_neg c11] at H
    exact absurd H (by simp)
   rw [if_pos c11] at H
   have c11b0 : decide (0 ≤ x13_1) = true := decide_eq_true c11
   clear c11
   by_cases c12 : x13_1 < (l0.length : Int)
   rotate_left
   ·rw [if_neg c12] at H
    exact absurd H (by simp)
   rw [if_pos c12] at H
   have c12b0 : decide (x13_1 < (l0.length : Int)) = true := decide_eq_true c12
   clear c12
   by_cases c13 : x13_1 < (l1.length : Int)
   rotate_left
   ·rw [if_neg c13] at H
    exact absurd H (by simp)
   rw [if_pos c13] at H
   have c13b0 : decide (x13_1 < (l1.length : Int)) = true := decide_eq_true c13
   clear c13
   by_cases c14 : 0 ≤ (rd l1 x13_1)
   rotate_left
   ·rw [if_neg c14] at H
    exact absurd H (by simp)
   rw [if_pos c14] at H
   have c14b0 := eq_true c14
   have c14b1 : decide (0 ≤ (rd l1 x13_1)) = true := decide_eq_true c14
   clear c14
   by_cases c15 : (rd l1 x13_1) ≤ (((rd_T50 l0 x13_1).f3).length : Int)
   rotate_left
   ·rw [if_neg c15] at H
    exact absurd H (by simp)
   rw [if_pos c15] at H
   have c15b0 := eq_true c15
   have c15b1 : decide ((rd l1 x13_1) ≤ (((rd_T50 l0 x13_1).f3).length : Int)) = true := decide_eq_true c15
   clear c15
   replace H := Option.bind_eq_some_iff.mp H
   obtain ⟨t198, A160, H⟩ := H
   replace H : (impl_planOf.l0 k1 l1 l0 (l0.length : Int) (wrap64 (x13_1 + 1)) t189 (wrap64 (x193001_1 + (wrap64 ((rd l1 x13_1) * ((rd_T50 l0 x13_1).f1))))) (wrap64 (x193002_1 + t198))) = some (r1, r2, r3) := H
   have A16 := Aside0.mk A160
   clear A160
   have H' := Aside0.mk H
   clear H
   have p193 : 0 ≤ (x13_1 : Int) := od_
   have q193 : x13_1 < (l0.length : Int) := od_
   obtain ⟨ad193, A193_3, c193_3, e193, hx193_0, hx193_1, hx193_2, hx193_3, hl193_3, hi193_3⟩ := at_T50 HR0.out x13_1 p193 q193
   cases e193
   replace hx193_0 := (HB.out.cell (World.block_lt_of_cell? w _ hx193_0)).trans hx193_0
   replace hx193_1 := (HB.out.cell (World.block_lt_of_cell? w _ hx193_1)).trans hx193_1
   replace hx193_2 := (HB.out.cell (World.block_lt_of_cell? w _ hx193_2)).trans hx193_2
   replace hx193_3 := (HB.out.cell (World.block_lt_of_cell? w _ hx193_3)).trans hx193_3
   have HR193_3 := Aside0.mk hi193_3
   have HC193_3 := Aside0.mk hl193_3
   clear hi193_3 hl193_3
   replace p193 := eq_true p193
   replace q193 := eq_true q193
   try go_wp2_with (first | ((with_reducible refine gate_dst (N := 7) rfl ?_); refine box_event ?hg (N := 7) ?hd (cs := #[.string (⟨#[]⟩ : ByteArray), .int .i64 0, .int .i64 0, .slice none 0 0]) (t := 50) ?hr ?_; (case hd => rfl); (case hg => rfl); (case hr => first | (go_simp; done) | (go_simp; rfl)); intro gb194 hg w17 hbox hb; have n0_ := Aside0.mk (Kd.R_below (by (with_reducible repeat (first | apply Kd.R_alloc | apply Kd.R_drewN | apply Kd.R_drew)); exact HO_193000.out) hb); have n1_ := Aside0.mk (blk_below (g := gb188) (o := .cells #[.slice none 0 0, .int .i64 0, .int .i64 0] 31 (0, 0)) bk_ hb); have n2_ := Aside0.mk (blk_below (g := gb192) (o := .cells #[.slice Ao6 t189.length co6, .int .i64 x193001_1, .int .i64 x193002_1] 31 (0, 0)) bk_ hb); have n3_ := Aside0.mk (below_step bl_ hb); have n4_ := Aside0.mk (hbox); have n5_ := Aside0.mk ((by rw [hg]; exact (below_size bl_) : w.heap.size ≤ gb194)); have n6_ := Aside0.mk ((by rw [hg]; exact (below_size bl_) : w.heap.size ≤ gb194)); have n7_ := Aside0.mk ((by rw [hg]; exact Nat.ne_of_lt (blk_lt (g := gb188) (o := .cells #[.slice none 0 0, .int .i64 0, .int .i64 0] 31 (0, 0)) bk_) : gb188 ≠ gb194)); have n8_ := Aside0.mk ((by rw [hg]; exact Nat.ne_of_gt (blk_lt (g := gb188) (o := .cells #[.slice none 0 0, .int .i64 0, .int .i64 0] 31 (0, 0)) bk_) : gb194 ≠ gb188)); have n9_ := Aside0.mk ((by rw [hg]; exact Nat.ne_of_lt (blk_lt (g := gb192) (o := .cells #[.slice Ao6 t189.length co6, .int .i64 x193001_1, .int .i64 x193002_1] 31 (0, 0)) bk_) : gb192 ≠ gb194)); have n10_ := Aside0.mk ((by rw [hg]; exact Nat.ne_of_gt (blk_lt (g := gb192) (o := .cells #[.slice Ao6 t189.length co6, .int .i64 x193001_1, .int .i64 x193002_1] 31 (0, 0)) bk_) : gb194 ≠ gb192)); clear HO_193000; clear BK188; clear BK192; clear HB; have HO_193000 := n0_; have BK188 := n1_; have BK192 := n2_; have HB := n3_; have BK194 := n4_; have GW194 := n5_; have GE194 := n6_; have NB188_194 := n7_; have NB194_188 := n8_; have NB192_194 := n9_; have NB194_192 := n10_; clear n0_ n1_ n2_ n3_ n4_ n5_ n6_ n7_ n8_ n9_ n10_; clear hb hbox hg; have hnb18 := NB194_188.out; have hnc18 := NB188_194.out; have hnb19 := NB194_192.out; have hnc19 := NB192_194.out; have hcz20_0 : w17.cell? ⟨gb194, 0, none⟩ = some (.string (⟨#[]⟩ : ByteArray)) := (blk_cell BK194.out 0).trans rfl; have hcz20_1 : w17.cell? ⟨gb194, 1, none⟩ = some (.int .i64 0) := (blk_cell BK194.out 1).trans rfl; have hcz20_2 : w17.cell? ⟨gb194, 2, none⟩ = some (.int .i64 0) := (blk_cell BK194.out 2).trans rfl; have hcz20_3 : w17.cell? ⟨gb194, 3, none⟩ = some (.slice none 0 0) := (blk_cell BK194.out 3).trans rfl; have hfz20_0 := blk_frozen BK194.out 0; have hfz20_1 := blk_frozen BK194.out 1; have hfz20_2 := blk_frozen BK194.out 2; have hfz20_3 := blk_frozen BK194.out 3))
   have n0_ : Aside0 (Kd.R (Kd.int .i64) 3 ((((w17.setCell ⟨gb194, 0, none⟩ (.string ((rd_T50 l0 x13_1).f0))).setCell ⟨gb194, 1, none⟩ (.int .i64 ((rd_T50 l0 x13_1).f1))).setCell ⟨gb194, 2, none⟩ (.int .i64 ((rd_T50 l0 x13_1).f2))).setCell ⟨gb194, 3, none⟩ (.slice A193_3 ((rd_T50 l0 x13_1).f3).length c193_3)) w.heap.size (fun _ => True) (.slice Ao6 t189.length co6) t189) := ⟨by (with_reducible repeat (first | apply Kd.R_alloc | apply Kd.R_drewN | apply Kd.R_drew)); exact Kd.R_mono (Kd.R_far (p := ⟨gb194, 3, none⟩) (Kd.R_far (p := ⟨gb194, 2, none⟩) (Kd.R_far (p := ⟨gb194, 1, none⟩) (Kd.R_far (p := ⟨gb194, 0, none⟩) (Kd.R_types HO_193000.out BK194.out (by decide)) (fun _ hk => hk.2) (.string ((rd_T50 l0 x13_1).f0))) (fun _ hk => hk.2) (.int .i64 ((rd_T50 l0 x13_1).f1))) (fun _ hk => hk.2) (.int .i64 ((rd_T50 l0 x13_1).f2))) (fun _ hk => hk.2) (.slice A193_3 ((rd_T50 l0 x13_1).f3).length c193_3)) (fun _ hk => trivial)⟩
   have n1_ : Aside0 (((((w17.setCell ⟨gb194, 0, none⟩ (.string ((rd_T50 l0 x13_1).f0))).setCell ⟨gb194, 1, none⟩ (.int .i64 ((rd_T50 l0 x13_1).f1))).setCell ⟨gb194, 2, none⟩ (.int .i64 ((rd_T50 l0 x13_1).f2))).setCell ⟨gb194, 3, none⟩ (.slice A193_3 ((rd_T50 l0 x13_1).f3).length c193_3)).heap[gb188]? = some (.cells #[.slice none 0 0, .int .i64 0, .int .i64 0] 31 (0, 0))) := ⟨by (with_reducible repeat (first | refine blk_drewN ?_ _ | refine blk_drew ?_ | refine blk_alloc ?_ _)); refine blk_far ?_ NB188_194.out _; (with_reducible repeat (first | refine blk_drewN ?_ _ | refine blk_drew ?_ | refine blk_alloc ?_ _)); refine blk_far ?_ NB188_194.out _; (with_reducible repeat (first | refine blk_drewN ?_ _ | refine blk_drew ?_ | refine blk_alloc ?_ _)); refine blk_far ?_ NB188_194.out _; (with_reducible repeat (first | refine blk_drewN ?_ _ | refine blk_drew ?_ | refine blk_alloc ?_ _)); exact blk_far bk_ NB188_194.out _⟩
   have n2_ : Aside0 (((((w17.setCell ⟨gb194, 0, none⟩ (.string ((rd_T50 l0 x13_1).f0))).setCell ⟨gb194, 1, none⟩ (.int .i64 ((rd_T50 l0 x13_1).f1))).setCell ⟨gb194, 2, none⟩ (.int .i64 ((rd_T50 l0 x13_1).f2))).setCell ⟨gb194, 3, none⟩ (.slice A193_3 ((rd_T50 l0 x13_1).f3).length c193_3)).heap[gb192]? = some (.cells #[.slice Ao6 t189.length co6, .int .i64 x193001_1, .int .i64 x193002_1] 31 (0, 0))) := ⟨by (with_reducible repeat (first | refine blk_drewN ?_ _ | refine blk_drew ?_ | refine blk_alloc ?_ _)); refine blk_far ?_ NB192_194.out _; (with_reducible repeat (first | refine blk_drewN ?_ _ | refine blk_drew ?_ | refine blk_alloc ?_ _)); refine blk_far ?_ NB192_194.out _; (with_reducible repeat (first | refine blk_drewN ?_ _ | refine blk_drew ?_ | refine blk_alloc ?_ _)); refine blk_far ?_ NB192_194.out _; (with_reducible repeat (first | refine blk_drewN ?_ _ | refine blk_drew ?_ | refine blk_alloc ?_ _)); exact blk_far bk_ NB192_194.out _⟩
   have n3_ : Aside0 (((((w17.setCell ⟨gb194, 0, none⟩ (.string ((rd_T50 l0 x13_1).f0))).setCell ⟨gb194, 1, none⟩ (.int .i64 ((rd_T50 l0 x13_1).f1))).setCell ⟨gb194, 2, none⟩ (.int .i64 ((rd_T50 l0 x13_1).f2))).setCell ⟨gb194, 3, none⟩ (.slice A193_3 ((rd_T50 l0 x13_1).f3).length c193_3)).heap[gb194]? = some (.cells #[.string ((rd_T50 l0 x13_1).f0), .int .i64 ((rd_T50 l0 x13_1).f1), .int .i64 ((rd_T50 l0 x13_1).f2), .slice A193_3 ((rd_T50 l0 x13_1).f3).length c193_3] 50 (0, 0))) := ⟨by (with_reducible repeat (first | refine blk_drewN ?_ _ | refine blk_drew ?_ | refine blk_alloc ?_ _)); refine blk_put (cs := #[.string ((rd_T50 l0 x13_1).f0), .int .i64 ((rd_T50 l0 x13_1).f1), .int .i64 ((rd_T50 l0 x13_1).f2), .slice none 0 0]) ?_ 3 _ rfl; (with_reducible repeat (first | refine blk_drewN ?_ _ | refine blk_drew ?_ | refine blk_alloc ?_ _)); refine blk_put (cs := #[.string ((rd_T50 l0 x13_1).f0), .int .i64 ((rd_T50 l0 x13_1).f1), .int .i64 0, .slice none 0 0]) ?_ 2 _ rfl; (with_reducible repeat (first | refine blk_drewN ?_ _ | refine blk_drew ?_ | refine blk_alloc ?_ _)); refine blk_put (cs := #[.string ((rd_T50 l0 x13_1).f0), .int .i64 0, .int .i64 0, .slice none 0 0]) ?_ 1 _ rfl; (with_reducible repeat (first | refine blk_drewN ?_ _ | refine blk_drew ?_ | refine blk_alloc ?_ _)); refine blk_put (cs := #[.string (⟨#[]⟩ : ByteArray), .int .i64 0, .int .i64 0, .slice none 0 0]) ?_ 0 _ rfl; (with_reducible repeat (first | refine blk_drewN ?_ _ | refine blk_drew ?_ | refine blk_alloc ?_ _)); exact BK194.out⟩
   have n4_ : Aside0 (Below w.heap.size w ((((w17.setCell ⟨gb194, 0, none⟩ (.string ((rd_T50 l0 x13_1).f0))).setCell ⟨gb194, 1, none⟩ (.int .i64 ((rd_T50 l0 x13_1).f1))).setCell ⟨gb194, 2, none⟩ (.int .i64 ((rd_T50 l0 x13_1).f2))).setCell ⟨gb194, 3, none⟩ (.slice A193_3 ((rd_T50 l0 x13_1).f3).length c193_3))) := ⟨by repeat (first | (with_reducible first | exact HB.out | apply below_alloc | apply pw_below_drewN | apply below_drew1 | refine below_set ?_ GE188.out | refine below_set ?_ GE192.out | refine below_set ?_ GE194.out) | exact HB.out)⟩
   (try clear HO_193000)
   (try clear BK188)
   (try clear BK192)
   (try clear BK194)
   (try clear HB)
   generalize ((((w17.setCell ⟨gb194, 0, none⟩ (.string ((rd_T50 l0 x13_1).f0))).setCell ⟨gb194, 1, none⟩ (.int .i64 ((rd_T50 l0 x13_1).f1))).setCell ⟨gb194, 2, none⟩ (.int .i64 ((rd_T50 l0 x13_1).f2))).setCell ⟨gb194, 3, none⟩ (.slice A193_3 ((rd_T50 l0 x13_1).f3).length c193_3)) = w21 at n0_ n1_ n2_ n3_ n4_ ⊢
   have HO_193000 := n0_
   have BK188 := n1_
   have BK192 := n2_
   have BK194 := n3_
   have HB := n4_
   clear n0_ n1_ n2_ n3_ n4_
   have n0_ := Aside0.mk (Kd.R_drew HO_193000.out)
   have n1_ := Aside0.mk (blk_drew BK188.out)
   have n2_ := Aside0.mk (blk_drew BK192.out)
   have n3_ := Aside0.mk (blk_drew BK194.out)
   have n4_ := Aside0.mk (below_drew1 HB.out)
   clear HO_193000
   clear BK188
   clear BK192
   clear BK194
   clear HB
   have HO_193000 := n0_
   have BK188 := n1_
   have BK192 := n2_
   have BK194 := n3_
   have HB := n4_
   clear n0_ n1_ n2_ n3_ n4_
   have p195 : 0 ≤ (x13_1 : Int) := od_
   have q195 : x13_1 < (l1.length : Int) := od_
   obtain ⟨ad195, e195, hx195_0⟩ := Kd.at_int HR1.out x13_1 p195 q195
   have hw195_0 := hx195_0
   cases e195
   replace hx195_0 := (HB.out.cell (World.block_lt_of_cell? w _ hx195_0)).trans hx195_0
   replace p195 := eq_true p195
   replace q195 := eq_true q195
   refine start_ (n := 12) (S := fun w' => w'.cell? ⟨gb192, 0, none⟩ = some (.slice Ao6 t189.length co6) ∧ w'.cell? ⟨gb192, 1, none⟩ = some (.int .i64 x193001_1) ∧ w'.cell? ⟨gb192, 2, none⟩ = some (.int .i64 x193002_1) ∧ w'.cell? ⟨gb194, 0, none⟩ = some (.string ((rd_T50 l0 x13_1).f0)) ∧ w'.cell? ⟨gb194, 1, none⟩ = some (.int .i64 ((rd_T50 l0 x13_1).f1)) ∧ w'.cell? ⟨gb194, 2, none⟩ = some (.int .i64 ((rd_T50 l0 x13_1).f2)) ∧ w'.cell? ⟨gb194, 3, none⟩ = some (.slice A193_3 ((rd_T50 l0 x13_1).f3).length c193_3) ∧ w'.cell? (ad195.add (x13_1).toNat) = some (.int .i64 (rd l1 x13_1))) (ds := [11]) (msk 0 12) (by kernel_rfl) rfl rfl ⟨(blk_cell BK192.out 0).trans rfl, (blk_cell BK192.out 1).trans rfl, (blk_cell BK192.out 2).trans rfl, (blk_cell BK194.out 0).trans rfl, (blk_cell BK194.out 1).trans rfl, (blk_cell BK194.out 2).trans rfl, (blk_cell BK194.out 3).trans rfl, ((HB.out.cell (World.block_lt_of_cell? w _ hw195_0)).trans hw195_0)⟩ (fun hHeld => ?_); refine with_tabW impl_planOf.tab5 impl_planOf.bits5 (fun HT_ HW_ => ?_)
   generalize w21.drew = w22 at HO_193000 BK188 BK192 BK194 HB hx195_0 hHeld ⊢
   refine pu_ 0 18 (msk 1 11) HT_.out ?_; refine pu_ 2 20 (mskl 12 1 [2]) HT_.out ?_; refine pu_ 3 21 (mskl 12 1 [2, 3]) HT_.out ?_; refine pu_ 4 22 (mskl 12 1 [2, 3, 4]) HT_.out ?_; refine pu_ 6 24 (mskl 12 1 [2, 3, 4, 6]) HT_.out ?_
   refine tk_ 1 19 (mskl 12 5 [6]) HT_.out HW_.out hHeld ?_ (hy := by rintro w' ⟨s0, s1, s2, s3, s4, s5, s6, s7⟩; go_simp; with_reducible rfl)
   refine tk_ 5 23 (msk 7 5) HT_.out HW_.out hHeld ?_ (hy := by rintro w' ⟨s0, s1, s2, s3, s4, s5, s6, s7⟩; go_simp; with_reducible rfl)
   refine tk_ 7 25 (msk 8 4) HT_.out HW_.out hHeld ?_ (hy := by rintro w' ⟨s0, s1, s2, s3, s4, s5, s6, s7⟩; go_simp; with_reducible rfl)
   refine pu_ 8 26 (msk 9 3) HT_.out ?_; refine pu_ 9 27 (msk 10 2) HT_.out ?_; refine pu_ 10 28 (msk 11 1) HT_.out ?_
   refine last_ (i := 11) (N := none) (msk 12 0) rfl rfl (one_of HT_.out (by kernel_rfl)) (by decide) (fun K hK => ?_)
   have hs23 : w22.cell? ⟨gb192, 1, none⟩ = some (.int .i64 x193001_1) := (blk_cell BK192.out 1).trans rfl
   have hfs23 := blk_frozen BK192.out 1
   have hns23_0 := NB188_192.out
   have hns23_2 := NB194_192.out
   have hms23_0 := NB192_188.out
   have hms23_2 := NB192_194.out
   refine skip_ (w1 := ?_) (by rfl) rfl ?_ ?_
   rotate_left
   ·go_simp
    rfl
   refine hK.out _ _ ?_
   clear hK K
   refine done_ (done_of HT_.out (by kernel_rfl)) ?_
   try go_wp2
   have n0_ : Aside0 (Kd.R (Kd.int .i64) 3 (w22.setCell ⟨gb192, 1, none⟩ (.int .i64 (wrap64 (x193001_1 + (wrap64 ((rd l1 x13_1) * ((rd_T50 l0 x13_1).f1))))))) w.heap.size (fun _ => True) (.slice Ao6 t189.length co6) t189) := ⟨by (with_reducible repeat (first | apply Kd.R_alloc | apply Kd.R_drewN | apply Kd.R_drew)); exact Kd.R_mono (Kd.R_far (p := ⟨gb192, 1, none⟩) (Kd.R_types HO_193000.out BK192.out (by decide)) (fun _ hk => hk.2) (.int .i64 (wrap64 (x193001_1 + (wrap64 ((rd l1 x13_1) * ((rd_T50 l0 x13_1).f1))))))) (fun _ hk => trivial)⟩
   have n1_ : Aside0 ((w22.setCell ⟨gb192, 1, none⟩ (.int .i64 (wrap64 (x193001_1 + (wrap64 ((rd l1 x13_1) * ((rd_T50 l0 x13_1).f1))))))).heap[gb188]? = some (.cells #[.slice none 0 0, .int .i64 0, .int .i64 0] 31 (0, 0))) := ⟨by (with_reducible repeat (first | refine blk_drewN ?_ _ | refine blk_drew ?_ | refine blk_alloc ?_ _)); exact blk_far bk_ NB188_192.out _⟩
   have n2_ : Aside0 ((w22.setCell ⟨gb192, 1, none⟩ (.int .i64 (wrap64 (x193001_1 + (wrap64 ((rd l1 x13_1) * ((rd_T50 l0 x13_1).f1))))))).heap[gb192]? = some (.cells #[.slice Ao6 t189.length co6, .int .i64 (wrap64 (x193001_1 + (wrap64 ((rd l1 x13_1) * ((rd_T50 l0 x13_1).f1))))), .int .i64 x193002_1] 31 (0, 0))) := ⟨by (with_reducible repeat (first | refine blk_drewN ?_ _ | refine blk_drew ?_ | refine blk_alloc ?_ _)); refine blk_put (cs := #[.slice Ao6 t189.length co6, .int .i64 x193001_1, .int .i64 x193002_1]) ?_ 1 _ rfl; (with_reducible repeat (first | refine blk_drewN ?_ _ | refine blk_drew ?_ | refine blk_alloc ?_ _)); exact BK192.out⟩
   have n3_ : Aside0 ((w22.setCell ⟨gb192, 1, none⟩ (.int .i64 (wrap64 (x193001_1 + (wrap64 ((rd l1 x13_1) * ((rd_T50 l0 x13_1).f1))))))).heap[gb194]? = some (.cells #[.string ((rd_T50 l0 x13_1).f0), .int .i64 ((rd_T50 l0 x13_1).f1), .int .i64 ((rd_T50 l0 x13_1).f2), .slice A193_3 ((rd_T50 l0 x13_1).f3).length c193_3] 50 (0, 0))) := ⟨by (with_reducible repeat (first | refine blk_drewN ?_ _ | refine blk_drew ?_ | refine blk_alloc ?_ _)); exact blk_far bk_ NB194_192.out _⟩
   have n4_ : Aside0 (Below w.heap.size w (w22.setCell ⟨gb192, 1, none⟩ (.int .i64 (wrap64 (x193001_1 + (wrap64 ((rd l1 x13_1) * ((rd_T50 l0 x13_1).f1)))))))) := ⟨by repeat (first | (with_reducible first | exact HB.out | apply below_alloc | apply pw_below_drewN | apply below_drew1 | refine below_set ?_ GE188.out | refine below_set ?_ GE192.out | refine below_set ?_ GE194.out) | exact HB.out)⟩
   (try clear HO_193000)
   (try clear BK188)
   (try clear BK192)
   (try clear BK194)
   (try clear HB)
   generalize (w22.setCell ⟨gb192, 1, none⟩ (.int .i64 (wrap64 (x193001_1 + (wrap64 ((rd l1 x13_1) * ((rd_T50 l0 x13_1).f1))))))) = w24 at n0_ n1_ n2_ n3_ n4_ ⊢
   have HO_193000 := n0_
   have BK188 := n1_
   have BK192 := n2_
   have BK194 := n3_
   have HB := n4_
   clear n0_ n1_ n2_ n3_ n4_
   have n0_ := Aside0.mk (Kd.R_drew HO_193000.out)
   have n1_ := Aside0.mk (blk_drew BK188.out)
   have n2_ := Aside0.mk (blk_drew BK192.out)
   have n3_ := Aside0.mk (blk_drew BK194.out)
   have n4_ := Aside0.mk (below_drew1 HB.out)
   clear HO_193000
   clear BK188
   clear BK192
   clear BK194
   clear HB
   have HO_193000 := n0_
   have BK188 := n1_
   have BK192 := n2_
   have BK194 := n3_
   have HB := n4_
   clear n0_ n1_ n2_ n3_ n4_
   have p196 : 0 ≤ (x13_1 : Int) := od_
   have q196 : x13_1 < (l1.length : Int) := od_
   obtain ⟨ad196, e196, hx196_0⟩ := Kd.at_int HR1.out x13_1 p196 q196
   have hw196_0 := hx196_0
   obtain rfl : ad195 = ad196 := (by injection e196)
   replace hx196_0 := (HB.out.cell (World.block_lt_of_cell? w _ hx196_0)).trans hx196_0
   replace p196 := eq_true p196
   replace q196 := eq_true q196
   obtain ⟨i026, hi026, _, hsz26, _⟩ := info_parts info3
   obtain ⟨hcut26, hA26, hC26⟩ := print_take_of (P := Try.prog) (Value.int .i64) 0 29 3 .i64 Try.underlying29 hi026 hsz26 A193_3 c193_3 ((rd_T50 l0 x13_1).f3) (rd l1 x13_1) od_ od_ HC193_3.out
   have HR197 := Aside0.mk (Kd.C_of_reads (h1 := fun _ => rfl) (hA26 _ (Kd.reads_of_C HR193_3.out)))
   have HC197 := Aside0.mk hC26
   clear hA26 hC26 hi026 hsz26
   refine start_ (n := 13) (S := fun w' => w'.cell? ⟨gb192, 0, none⟩ = some (.slice Ao6 t189.length co6) ∧ w'.cell? ⟨gb192, 1, none⟩ = some (.int .i64 (wrap64 (x193001_1 + (wrap64 ((rd l1 x13_1) * ((rd_T50 l0 x13_1).f1)))))) ∧ w'.cell? ⟨gb192, 2, none⟩ = some (.int .i64 x193002_1) ∧ w'.cell? ⟨gb194, 0, none⟩ = some (.string ((rd_T50 l0 x13_1).f0)) ∧ w'.cell? ⟨gb194, 1, none⟩ = some (.int .i64 ((rd_T50 l0 x13_1).f1)) ∧ w'.cell? ⟨gb194, 2, none⟩ = some (.int .i64 ((rd_T50 l0 x13_1).f2)) ∧ w'.cell? ⟨gb194, 3, none⟩ = some (.slice A193_3 ((rd_T50 l0 x13_1).f3).length c193_3) ∧ w'.cell? (ad195.add (x13_1).toNat) = some (.int .i64 (rd l1 x13_1))) (ds := [12]) (msk 0 13) (by kernel_rfl) rfl rfl ⟨(blk_cell BK192.out 0).trans rfl, (blk_cell BK192.out 1).trans rfl, (blk_cell BK192.out 2).trans rfl, (blk_cell BK194.out 0).trans rfl, (blk_cell BK194.out 1).trans rfl, (blk_cell BK194.out 2).trans rfl, (blk_cell BK194.out 3).trans rfl, ((HB.out.cell (World.block_lt_of_cell? w _ hw196_0)).trans hw196_0)⟩ (fun hHeld => ?_); refine with_tabW impl_planOf.tab6 impl_planOf.bits6 (fun HT_ HW_ => ?_)
   generalize w24.drew = w25 at HO_193000 BK188 BK192 BK194 HB HR197 hx196_0 hHeld ⊢
   refine pu_ 0 29 (msk 1 12) HT_.out ?_; refine pu_ 2 31 (mskl 13 1 [2]) HT_.out ?_; refine pu_ 4 33 (mskl 13 1 [2, 4]) HT_.out ?_; refine pu_ 5 34 (mskl 13 1 [2, 4, 5]) HT_.out ?_; refine pu_ 6 35 (mskl 13 1 [2, 4, 5, 6]) HT_.out ?_
   refine tk_ 1 30 (mskl 13 3 [4, 5, 6]) HT_.out HW_.out hHeld ?_ (hy := by rintro w' ⟨s0, s1, s2, s3, s4, s5, s6, s7⟩; go_simp; with_reducible rfl)
   refine tk_ 3 32 (msk 7 6) HT_.out HW_.out hHeld ?_ (hy := by rintro w' ⟨s0, s1, s2, s3, s4, s5, s6, s7⟩; go_simp; with_reducible rfl)
   refine tk_ 7 36 (msk 8 5) HT_.out HW_.out hHeld ?_ (hy := by rintro w' ⟨s0, s1, s2, s3, s4, s5, s6, s7⟩; go_simp; with_reducible rfl)
   refine pu_ 8 37 (msk 9 4) HT_.out ?_
   refine one_ (i := 9) (N := some 38) (msk 10 3) rfl rfl (one_of HT_.out (by kernel_rfl)) (by decide) (fun K hK => ?_)
   refine goes_ Try.func42 (by kernel_rfl) rfl #[.slice A193_3 (((rd_T50 l0 x13_1).f3).take ((rd l1 x13_1) : Int).toNat).length c193_3] (by rfl) rfl rfl (by (try simp only [List.map_toArray, List.map_cons, List.map_nil]); first | done | (rw [show (((rd_T50 l0 x13_1).f3).take ((rd l1 x13_1) : Int).toNat).length = (rd l1 x13_1).toNat from (by rw [List.length_take]; have h_ : ((rd l1 x13_1) : Int) ≤ (((rd_T50 l0 x13_1).f3).length : Int) := od_; omega)] <;> rfl) | rfl | (simp only [List.length_drop, List.length_take]; rfl)) ?_
   with_reducible refine (impl_sumOf.calls k1 _ _ (((rd_T50 l0 x13_1).f3).take ((rd l1 x13_1) : Int).toNat) t198 _ ?side1 ?side2 A16.out).mono ?_
   (case side1 => repeat (first | exact (Kd.C_below HR197.out HB.out) | (with_reducible refine Kd.C_alloc ?_ _) | (with_reducible refine Kd.C_drewN ?_ _) | (with_reducible refine Kd.C_drew ?_)))
   (case side2 => exact HC197.out)
   rintro e w' ⟨rfl, ⟨nd, rfl⟩⟩
   refine ⟨_, rfl, ?_⟩
   refine hK.out _ _ ⟨(blk_cell BK192.out 0).trans rfl, (blk_cell BK192.out 1).trans rfl, (blk_cell BK192.out 2).trans rfl, (blk_cell BK194.out 0).trans rfl, (blk_cell BK194.out 1).trans rfl, (blk_cell BK194.out 2).trans rfl, (blk_cell BK194.out 3).trans rfl, ((HB.out.cell (World.block_lt_of_cell? w _ hw196_0)).trans hw196_0)⟩ (fun hHeld => ?_)
   clear hK K
   refine norm_ (a' := ?_) ?_ ?_
   rotate_left
   ·show Act.put _ (some 38) _ = _
    simp only [Act.put, List.setIfInBounds_toArray, List.set_cons_zero, List.set_cons_succ, i64_w, i32_w]
    rfl
   refine pu_ 10 39 (msk 11 2) HT_.out ?_; refine pu_ 11 40 (msk 12 1) HT_.out ?_
   refine last_ (i := 12) (N := none) (msk 13 0) rfl rfl (one_of HT_.out (by kernel_rfl)) (by decide) (fun K hK => ?_)
   have hs27 : w25.cell? ⟨gb192, 2, none⟩ = some (.int .i64 x193002_1) := (blk_cell BK192.out 2).trans rfl
   have hfs27 := blk_frozen BK192.out 2
   have hns27_0 := NB188_192.out
   have hns27_2 := NB194_192.out
   have hms27_0 := NB192_188.out
   have hms27_2 := NB192_194.out
   refine skip_ (w1 := ?_) (by rfl) rfl ?_ ?_
   rotate_left
   ·go_simp
    rfl
   refine hK.out _ _ ?_
   clear hK K
   refine done_ (done_of HT_.out (by kernel_rfl)) ?_
   try go_wp2
   go_roundg k1
   case measure => have := HK1.out; omega
   case rel => exact ⟨(wrap64 (x13_1 + 1)), (wrap64 (x193001_1 + (wrap64 ((rd l1 x13_1) * ((rd_T50 l0 x13_1).f1))))), (wrap64 (x193002_1 + t198)), (by first | rfl | (simp; done) | (simp [*]; done)), H', ⟨by have := HK1.out; omega⟩, ⟨by (with_reducible repeat (first | apply Kd.R_alloc | apply Kd.R_drewN | apply Kd.R_drew)); exact Kd.R_mono (Kd.R_far (p := ⟨gb192, 2, none⟩) (Kd.R_types HO_193000.out BK192.out (by decide)) (fun _ hk => hk.2) (.int .i64 (wrap64 (x193002_1 + t198)))) (fun _ hk => trivial)⟩, ⟨by (with_reducible repeat (first | refine blk_drewN ?_ _ | refine blk_drew ?_ | refine blk_alloc ?_ _)); exact blk_far bk_ NB188_192.out _⟩, ⟨by (with_reducible repeat (first | refine blk_drewN ?_ _ | refine blk_drew ?_ | refine blk_alloc ?_ _)); refine blk_put (cs := #[.slice Ao6 t189.length co6, .int .i64 (wrap64 (x193001_1 + (wrap64 ((rd l1 x13_1) * ((rd_T50 l0 x13_1).f1))))), .int .i64 x193002_1]) ?_ 2 _ rfl; (with_reducible repeat (first | refine blk_drewN ?_ _ | refine blk_drew ?_ | refine blk_alloc ?_ _)); exact BK192.out⟩, ⟨by repeat (first | (with_reducible first | exact HB.out | apply below_alloc | apply pw_below_drewN | apply below_drew1 | refine below_set ?_ GE188.out | refine below_set ?_ GE192.out | refine below_set ?_ GE194.out) | exact HB.out)⟩⟩
/-! ### bits_Mul32: function 62 -/
def bits_Mul32.f (a0 : Int) (a1 : Int) : Option (Int × Int) := some (((IntKind.u64.wrap ((IntKind.u64.wrap (a0)) * (IntKind.u64.wrap (a1)))) / 4294967296) % 4294967296, (IntKind.u64.wrap ((IntKind.u64.wrap (a0)) * (IntKind.u64.wrap (a1)))) % 4294967296)
set_option maxHeartbeats 8000000 in
set_option maxRecDepth 100000 in
theorem bits_Mul32.calls (a0 : Int) (a1 : Int) (r1 : Int) (r2 : Int) (w : World) (h : bits_Mul32.f a0 a1 = some (r1, r2)) :
  Calls Try.prog 62 #[.int .u32 a0, .int .u32 a1] w fun e w' => e = .returned (.tuple #[.int .u32 r1, .int .u32 r2]) ∧ Drawn0 w w' := by
 have H : (some (((IntKind.u64.wrap ((IntKind.u64.wrap (a0)) * (IntKind.u64.wrap (a1)))) / 4294967296) % 4294967296, (IntKind.u64.wrap ((IntKind.u64.wrap (a0)) * (IntKind.u64.wrap (a1)))) % 4294967296)) = some (r1, r2) := h
 clear h
 simp only [Option.some.injEq, Prod.mk.injEq] at H
 obtain ⟨rfl, rfl⟩ := H
 go_enter Try.func62, Try.ntmps62
 go_wp2
 go_ret2
 exact ⟨by first | rfl | (simp; done) | (simp [*]; done), by repeat (first | exact Drawn0.refl _ | apply Drawn0.step)⟩

/-! ### bits_Mul64: function 63 -/
def bits_Mul64.f (a0 : Int) (a1 : Int) : Option (Int × Int) := some (IntKind.u64.wrap ((IntKind.u64.wrap ((IntKind.u64.wrap ((a0 / 4294967296) * (a1 / 4294967296))) + ((IntKind.u64.wrap ((IntKind.u64.wrap ((a0 / 4294967296) * (Go.bits .and .u64 a1 4294967295))) + ((IntKind.u64.wrap ((Go.bits .and .u64 a0 4294967295) * (Go.bits .and .u64 a1 4294967295))) / 4294967296))) / 4294967296))) + ((IntKind.u64.wrap ((Go.bits .and .u64 (IntKind.u64.wrap ((IntKind.u64.wrap ((a0 / 4294967296) * (Go.bits .and .u64 a1 4294967295))) + ((IntKind.u64.wrap ((Go.bits .and .u64 a0 4294967295) * (Go.bits .and .u64 a1 4294967295))) / 4294967296))) 4294967295) + (IntKind.u64.wrap ((Go.bits .and .u64 a0 4294967295) * (a1 / 4294967296))))) / 4294967296)), IntKind.u64.wrap (a0 * a1))
set_option maxHeartbeats 8000000 in
set_option maxRecDepth 100000 in
theorem bits_Mul64.calls (a0 : Int) (a1 : Int) (r1 : Int) (r2 : Int) (w : World) (h : bits_Mul64.f a0 a1 = some (r1, r2)) :
  Calls Try.prog 63 #[.int .u64 a0, .int .u64 a1] w fun e w' => e = .returned (.tuple #[.int .u64 r1, .int .u64 r2]) ∧ Drawn0 w w' := by
 have H : (some (IntKind.u64.wrap ((IntKind.u64.wrap ((IntKind.u64.wrap ((a0 / 4294967296) * (a1 / 4294967296))) + ((IntKind.u64.wrap ((IntKind.u64.wrap ((a0 / 4294967296) * (Go.bits .and .u64 a1 4294967295))) + ((IntKind.u64.wrap ((Go.bits .and .u64 a0 4294967295) * (Go.bits .and .u64 a1 4294967295))) / 4294967296))) / 4294967296))) + ((IntKind.u64.wrap ((Go.bits .and .u64 (IntKind.u64.wrap ((IntKind.u64.wrap ((a0 / 4294967296) * (Go.bits .and .u64 a1 4294967295))) + ((IntKind.u64.wrap ((Go.bits .and .u64 a0 4294967295) * (Go.bits .and .u64 a1 4294967295))) / 4294967296))) 4294967295) + (IntKind.u64.wrap ((Go.bits .and .u64 a0 4294967295) * (a1 / 4294967296))))) / 4294967296)), IntKind.u64.wrap (a0 * a1))) = some (r1, r2) := h
 clear h
 simp only [Option.some.injEq, Prod.mk.injEq] at H
 obtain ⟨rfl, rfl⟩ := H
 go_enter Try.func63, Try.ntmps63
 go_wp2
 go_ret2
 exact ⟨by first | rfl | (simp; done) | (simp [*]; done), by repeat (first | exact Drawn0.refl _ | apply Drawn0.step)⟩

/-! ### bits_Mul: function 61 -/
def bits_Mul.f (a0 : Int) (a1 : Int) : Option (Int × Int) := (bits_Mul64.f a0 a1).bind fun bt199 => (some (bt199.1, bt199.2))
set_option maxHeartbeats 8000000 in
set_option maxRecDepth 100000 in
theorem bits_Mul.calls (a0 : Int) (a1 : Int) (r1 : Int) (r2 : Int) (w : World) (h : bits_Mul.f a0 a1 = some (r1, r2)) :
  Calls Try.prog 61 #[.int .u64 a0, .int .u64 a1] w fun e w' => e = .returned (.tuple #[.int .u64 r1, .int .u64 r2]) ∧ Drawn0 w w' := by
 have H : ((bits_Mul64.f a0 a1).bind fun bt199 => (some (bt199.1, bt199.2))) = some (r1, r2) := h
 clear h
 replace H := Option.bind_eq_some_iff.mp H
 obtain ⟨⟨t199, t200⟩, A30, H⟩ := H
 replace H : (some (t199, t200)) = some (r1, r2) := H
 have A3 := Aside0.mk A30
 clear A30
 simp only [Option.some.injEq, Prod.mk.injEq] at H
 obtain ⟨rfl, rfl⟩ := H
 go_enter Try.func61, Try.ntmps61
 go_wp2_with (first | ((with_reducible refine gate_callee (f := 63) rfl ?_); refine goesL_ (some 25) rfl rfl Try.func63 (by kernel_rfl) rfl #[.int .u64 a0, .int .u64 a1] rfl (by (try simp only [List.map_toArray, List.map_cons, List.map_nil]); first | done | rfl | (simp only [List.length_drop, List.length_take]; rfl)) ?_; (with_reducible refine (bits_Mul64.calls a0 a1 t199 t200 _ A3.out).mono ?_); rintro e w' ⟨rfl, ⟨nd, rfl⟩⟩; refine ⟨_, rfl, ?_⟩))
 go_ret2
 exact ⟨by first | rfl | (simp; done) | (simp [*]; done), by repeat (first | exact Drawn0.refl _ | apply Drawn0.step)⟩

/-! ### slices_Repeat_int_int: function 54 -/
def slices_Repeat_int_int.f (l0 : List Int) (a1 : Int) : Option (List Int) := if l0.length = 1 ∧ 1 ≤ a1 ∧ a1 ≤ 17592186044415 then some (List.replicate a1.toNat (rd l0 0)) else none

theorem slices_Repeat_int_int.hi (m : Int) (h0 : 0 ≤ m) (h1 : m ≤ 17592186044415) : bits_Mul.f 1 m = some (0, m) := by
 have wr : ∀ x : Int, 0 ≤ x → x < 18446744073709551616 → IntKind.u64.wrap x = x := by
  intro x a b
  simp only [IntKind.wrap, IntKind.bits, IntKind.signed]
  simp
  omega
 have e1 : Go.bits .and .u64 1 4294967295 = 1 := by decide
 have e0 : Go.bits .and .u64 0 4294967295 = 0 := by decide
 have em : Go.bits .and .u64 m 4294967295 = m % 4294967296 := by
  obtain ⟨k, rfl⟩ := Int.eq_ofNat_of_zero_le h0
  have h := u64_and_nat k 4294967295 (by omega) (by omega)
  rw [show ((4294967295 : Nat) : Int) = 4294967295 by rfl] at h
  rw [h, show (4294967295 : Nat) = 2 ^ 32 - 1 by decide, Nat.and_two_pow_sub_one_eq_mod]
  omega
 unfold bits_Mul.f bits_Mul64.f
 rw [e1, em]
 simp only [Option.bind_some, Int.one_mul, show (1 : Int) / 4294967296 = 0 by decide, Int.zero_mul]
 have hl := Int.emod_nonneg m (show (4294967296 : Int) ≠ 0 by decide)
 have hl2 := Int.emod_lt_of_pos m (show (0 : Int) < 4294967296 by decide)
 have hd : 0 ≤ m / 4294967296 := Int.ediv_nonneg h0 (by decide)
 have hd2 : m / 4294967296 ≤ m := Int.ediv_le_self _ h0
 rw [wr 0 (by decide) (by decide), wr (m % 4294967296) hl (by omega), show m % 4294967296 / 4294967296 = 0 by omega]
 have z0 : IntKind.u64.wrap 0 = 0 := wr 0 (by decide) (by decide)
 have zm : IntKind.u64.wrap (m / 4294967296) = m / 4294967296 := wr _ hd (by omega)
 have zz : m / 4294967296 / 4294967296 = 0 := by omega
 simp only [show (0 : Int) + 0 = 0 by rfl, z0, e0, zm, Int.zero_add, zz, show (0 : Int) / 4294967296 = 0 by decide, wr m h0 (by omega)]
theorem slices_Repeat_int_int.shape {w : World} {base e n : Nat} {v : Value} (h : Kd.R (Kd.int .i64) e w base (fun _ => True) v (List.replicate n 0)) (hn : 0 < n) :
  ∃ (g cap : Nat) (L : List Value), v = .slice (some ⟨g, 0, none⟩) n cap ∧ base ≤ g ∧ w.heap[g]? = some (.cells L.toArray e (0, 0)) ∧ n ≤ cap ∧ cap ≤ 9223372036854775807 ∧ L.length = cap := by
 have ho := Kd.own_of_R h
 rw [List.length_replicate] at ho
 rcases ho.2 with ⟨_, h0⟩ | ⟨g, cap, cur, rfl, hb, hg, hle, hm, hs, _⟩
 ·omega
 ·exact ⟨g, cap, cur.toList, rfl, hb, by simpa using hg, hle, by simpa [maxLen] using hm, by simpa using hs⟩
theorem slices_Repeat_int_int.fin {w : World} {base e n g cap : Nat} {L : List Value} (x : Int) (hb : base ≤ g) (hg : w.heap[g]? = some (.cells L.toArray e (0, 0))) (hL : L.length = cap) (hn : n ≤ cap) (hm : cap ≤ 9223372036854775807) (hx : ∀ j, j < n → L[j]? = some (.int .i64 x)) :
  Kd.R (Kd.int .i64) e w base (fun _ => True) (.slice (some ⟨g, 0, none⟩) n cap) (List.replicate n x) := by
 refine Kd.R_of_own ⟨by simp [encs], .inr ⟨g, cap, L.toArray, by rw [List.length_replicate], hb, hg, by rw [List.length_replicate]; exact hn, by simpa [maxLen] using hm, by simpa using hL, ?_⟩⟩ (fun _ _ => trivial)
 rw [List.length_replicate, Nat.mul_one]
 apply List.ext_getElem?
 intro j
 rw [List.getElem?_take]
 by_cases hj : j < n
 rotate_left
 ·rw [if_neg hj]
  simp [encs, hj]
 rw [if_pos hj, hx j hj]
 simp [encs, hj]
theorem slices_Repeat_int_int.spl {L : List Value} {kk mm : Nat} {v : Value} (hx : ∀ j, j < kk → L[j]? = some v) (hl : kk + mm ≤ L.length) : ∀ j, j < kk + mm → (splice L kk (List.replicate mm v))[j]? = some v := by
 intro j hj
 unfold splice
 have e : (L.take kk).length = kk := by rw [List.length_take]; omega
 by_cases h : j < kk
 ·rw [List.getElem?_append_left (by omega), List.getElem?_take, if_pos h, hx j h]
 rw [List.getElem?_append_right (by omega), e, List.getElem?_append_left (by rw [List.length_replicate]; omega), List.getElem?_replicate, if_pos (by omega)]
theorem slices_Repeat_int_int.rep {α : Type} {n j : Nat} {x v : α} (h : (List.replicate n x)[j]? = some v) : j < n ∧ v = x := by
 rw [List.getElem?_replicate] at h
 split at h
 ·injection h with h
  exact ⟨by assumption, h.symm⟩
 ·cases h
theorem slices_Repeat_int_int.mins {k n m : Nat} (hm : m = Nat.min k (n - k)) (h1 : 1 ≤ k) (h2 : k < n) : 1 ≤ m ∧ m ≤ k ∧ k + m ≤ n := by
 rcases Nat.le_total k (n - k) with h | h
 ·have e : Nat.min k (n - k) = k := Nat.min_eq_left h
  omega
 ·have e : Nat.min k (n - k) = n - k := Nat.min_eq_right h
  omega
theorem slices_Repeat_int_int.spl1 {L : List Value} {v : Value} (hl : 1 ≤ L.length) : ∀ j, j < 1 → (splice L 0 [v])[j]? = some v := slices_Repeat_int_int.spl (L := L) (kk := 0) (mm := 1) (fun j hj => absurd hj (Nat.not_lt_zero _)) (by omega)
theorem slices_Repeat_int_int.cells {W : World} {g e : Nat} {L : List Value} (h : W.heap[g]? = some (.cells L.toArray e (0, 0))) (j : Nat) (v : Value) (hv : L[j]? = some v) : W.cell? ((⟨g, 0, none⟩ : Addr).add j) = some v := by
 rw [add_plain, blk_cell h]
 simpa using hv

set_option maxHeartbeats 8000000 in
set_option maxRecDepth 100000 in
theorem slices_Repeat_int_int.calls (A0 : Option Addr) (c0 : Nat) (l0 : List Int) (a1 : Int) (r : List Int) (w : World) (hr0 : Kd.C (Kd.int .i64) w A0 l0.length l0) (hc0 : l0.length ≤ c0) (h : slices_Repeat_int_int.f l0 a1 = some r) :
  Calls Try.prog 54 #[.slice A0 l0.length c0, .int .i64 a1] w fun e w' => ∃ v0_ : Value, e = .returned (v0_) ∧ Kd.R (Kd.int .i64) 3 w' w.heap.size (fun _ => True) v0_ r ∧ Below w.heap.size w w' := by
 unfold slices_Repeat_int_int.f at h
 by_cases c1 : l0.length = 1 ∧ 1 ≤ a1 ∧ a1 ≤ 17592186044415
 rotate_left
 ·rw [if_neg c1] at h
  cases h


 rw [if_pos c1] at h
 obtain rfl := Option.some.inj h
 clear h
 obtain ⟨hl, h1, h2⟩ := c1
 match l0, hl with
 | [x], _ =>
  have HM := Aside0.mk (slices_Repeat_int_int.hi a1 (by omega) h2)
  obtain ⟨m, rfl⟩ := Int.eq_ofNat_of_zero_le (show 0 ≤ a1 by omega)
  have HB := Aside0.mk (Below.refl w.heap.size w)
  obtain ⟨ad, e0, hx0⟩ := Kd.at_int hr0 0 (by omega) (by simp)
  subst e0
  simp only [Int.reduceToNat] at hx0
  have HX := Aside0.mk hx0
  have H1 := Aside0.mk h1
  have H2 := Aside0.mk h2
  have b0 : 0 ≤ (m : Int) := by omega
  have b1 : (m : Int) ≤ 17592186044415 := h2
  have d0 : decide ((m : Int) < 0) = false := decide_eq_false (by omega)
  have s3 : IntKind.u64.wrap (m : Int) = (m : Int) := by
   simp only [IntKind.wrap, IntKind.bits, IntKind.signed]
   simp
   omega
  have s4 : IntKind.i64.wrap (m : Int) = (m : Int) := by
   rw [IntKind.wrap_i64]
   omega
  have s5 : decide (9223372036854775807 < (m : Int)) = false := decide_eq_false (by omega)
  have LB := Aside0.mk b0
  have LH := Aside0.mk b1
  clear hr0 hc0 hx0 h1 h2
  go_enter Try.func54, Try.ntmps54
  go_wp2_with (first
   | (go_at_call 61; refine (bits_Mul.calls _ _ _ _ _ HM.out).mono ?_; rintro e w' ⟨rfl, ⟨nd, rfl⟩⟩)
   | ((with_reducible refine gate_dst (N := 30) rfl ?_); refine Kd.R_make (Kd.int .i64) _ 3 rfl (N := 30) rfl 29 _ _ rfl (m : Int) rfl rfl Try.underlying29 (.int .i64 0) 8 info3 rfl (by decide) (by omega) 0 (ok := fun _ => True) (okp := fun _ => True) rfl (fun _ hk => hk) trivial LB.out (by have := LH.out; omega) (Below.refl _ _) (Nat.le_refl _) ?_; intro v1 w1 ho hb hg_ hnew_; clear hg_ hnew_; rw [Int.toNat_natCast] at ho; obtain ⟨g, cap, L, rfl, hbg, hg, hnc, hcm, hL⟩ := slices_Repeat_int_int.shape ho (by have := H1.out; omega); have n6_ := Aside0.mk (below_step bl_ hb); have HBG := Aside0.mk (Nat.le_trans (below_size bl_) hbg); have HG := Aside0.mk hg; have HNC := Aside0.mk hnc; have HCM := Aside0.mk hcm; have HL := Aside0.mk hL; clear HB; have HB := n6_; clear n6_; clear hb ho hbg hg hnc hcm hL)
   | ((with_reducible refine gate_builtin (b := .copy) (xs := #[.tmp 31, .tmp 32]) rfl ?_); refine wpList_copy_splice rfl (.tmp 31) (.tmp 32) 29 29 rfl 3 Try.underlying29 (by kernel_rfl) (some ⟨g, 0, none⟩) (some ad) m cap 1 c0 rfl rfl g 0 L 3 HG.out [.int .i64 x] (by have := H1.out; simp [Nat.min_def]; omega) (fun _ => ⟨rfl, ad, rfl, fun j v hj => ?_⟩) (by have := H1.out; have := HNC.out; have := HL.out; simp; omega) (by simp [Value.oneCell']) w.heap.size w HB.out HBG.out ?_; (exact (by cases j with | zero => (simp at hj; subst hj; exact (HB.out.cell (World.block_lt_of_cell? w _ HX.out)).trans HX.out) | succ j => (simp at hj))); intro w2 hg2 hb2; have n1_ := Aside0.mk hg2.out; have n2_ := Aside0.mk hb2; clear HG HB; have HG := n1_; have HB := n2_; clear n1_ n2_ hg2 hb2))
  have HM1 := Aside0.mk (show 1 ≤ m by have := H1.out; omega)
  clear HM HX
  go_loopg [8] m (fun gg s8 wr => ∃ (kk : Nat) (L' : List Value), s8 = .int .i64 kk ∧ 1 ≤ kk ∧ kk ≤ m ∧ m - kk ≤ gg ∧ Aside0 (wr.heap[g]? = some (.cells L'.toArray 3 (0, 0))) ∧ Aside0 (L'.length = cap) ∧ Aside0 (∀ j, j < kk → L'[j]? = some (.int .i64 x)) ∧ Aside0 (Below w.heap.size w wr))
  case atStart =>
   exact ⟨1, _, rfl, by omega, HM1.out, by omega, HG, ⟨by rw [length_splice _ _ _ (by have := HM1.out; have := HNC.out; have := HL.out; simp; omega)]; exact HL.out⟩, ⟨slices_Repeat_int_int.spl1 (by have := HM1.out; have := HNC.out; have := HL.out; omega)⟩, HB⟩
  case round =>
   clear HG HB HL
   obtain ⟨kk, L', rfl, hk1, hkm, hgg, HG, HL, HX, HB⟩ := hrel
   by_cases hlt : kk < m
   rotate_left
   ·have hltz : decide ((kk : Int) < (m : Int)) = false := decide_eq_false (by omega)
    obtain rfl : kk = m := by omega
    go_wp2
    go_ret
    exact ⟨_, by first | rfl | (simp; done) | (simp [*]; done), by rw [Int.toNat_natCast]; exact slices_Repeat_int_int.fin x HBG.out HG.out HL.out HNC.out HCM.out HX.out, HB.out⟩
   have hltz : decide ((kk : Int) < (m : Int)) = true := decide_eq_true (by omega)
   obtain ⟨mm, hmm⟩ : ∃ mm, mm = Nat.min kk (m - kk) := ⟨_, rfl⟩
   have hm1 : 1 ≤ mm ∧ mm ≤ kk ∧ kk + mm ≤ m := slices_Repeat_int_int.mins hmm hk1 hlt
   obtain ⟨i0, hi0, hz0, hz1, hz2⟩ := info_parts info3
   have hc1 : ∀ W : World, (Instr.slice 29 (.slice (some ⟨g, 0, none⟩) m cap) (some (.int .i64 (kk : Int))) none none).run Try.prog W = .ok (.slice (some ⟨g, kk, none⟩) (m - kk) (cap - kk)) W := by
    intro W
    rw [cut_from 29 3 .i64 Try.underlying29 hi0 1 hz1 (some ⟨g, 0, none⟩) m cap (kk : Int) (by omega) (by omega) W]
    rw [Int.toNat_natCast, if_neg (by have := HNC.out; omega), Nat.mul_one]
    simp only [Option.map_some, add_plain]
   have hc2 : ∀ W : World, (Instr.slice 29 (.slice (some ⟨g, 0, none⟩) m cap) none (some (.int .i64 (kk : Int))) none).run Try.prog W = .ok (.slice (some ⟨g, 0, none⟩) kk cap) W := by
    intro W
    rw [cut_to 29 3 .i64 Try.underlying29 hi0 (some ⟨g, 0, none⟩) m cap (kk : Int) (by omega) (by omega) HNC.out W, Int.toNat_natCast]
   have hsum : IntKind.i64.wrap ((kk : Int) + (mm : Int)) = ((kk + mm : Nat) : Int) := by
    rw [IntKind.wrap_i64]
    have := LH.out
    omega
   have hrun : ∀ W : World, Aside0 (W.heap[g]? = some (.cells L'.toArray 3 (0, 0))) → True := fun _ _ => trivial
   have GG := Aside0.mk hgg
   have MM := Aside0.mk hm1
   have ME := Aside0.mk hmm
   clear hgg hm1 hmm hi0 hz0 hz1 hz2 hrun
   go_wp2
   go_region_law (refine step_copy_splice rfl (.tmp 41) (.tmp 44) 29 29 rfl 3 Try.underlying29 (by kernel_rfl) (some ⟨g, kk, none⟩) (some ⟨g, 0, none⟩) (m - kk) (cap - kk) kk cap (by simp [Act.eval, Act.put]) (by simp [Act.eval, Act.put]) g kk L' 3 HG.out (List.replicate mm (.int .i64 x)) (by rw [List.length_replicate]; exact ME.out) (fun _ => ⟨rfl, _, rfl, fun j v hj => slices_Repeat_int_int.cells HG.out j v (by rw [(slices_Repeat_int_int.rep hj).2]; exact HX.out j (by have := (slices_Repeat_int_int.rep hj).1; have := MM.out; omega))⟩) (by rw [List.length_replicate]; have := MM.out; have := HNC.out; have := HL.out; omega) (by intro v hv; rw [List.mem_replicate] at hv; rw [hv.2]; rfl) w.heap.size w (by repeat (first | exact HB.out | apply pw_below_drewN | apply below_drew)) HBG.out ?_; intro w4 hg4 hb4)
   all_goals
    go_wp2
    go_roundg (m - (kk + mm))
    case measure => have := GG.out; have := MM.out; omega
    case rel => exact ⟨kk + mm, _, by first | rfl | (simp; done), by omega, MM.out.2.2, Nat.le_refl _, ⟨hg4.out⟩, ⟨by rw [length_splice _ _ _ (by rw [List.length_replicate]; have := MM.out; have := HNC.out; have := HL.out; omega)]; exact HL.out⟩, ⟨slices_Repeat_int_int.spl HX.out (by have := MM.out; have := HNC.out; have := HL.out; omega)⟩, ⟨hb4⟩⟩
end Go.Proofs.Ytecbcibblmknpaa.XFnExactBestShelf
