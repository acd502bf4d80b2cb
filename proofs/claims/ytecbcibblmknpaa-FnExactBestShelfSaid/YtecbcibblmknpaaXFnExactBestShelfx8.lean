-- PRINTED by xprint.py (our own program, over the kit's print.py)
import Derived.Test.YtecbcibblmknpaaXFnExactBestShelfx0
import Derived.Test.YtecbcibblmknpaaXFnExactBestShelfx5
import Derived.Test.YtecbcibblmknpaaXFnExactBestShelfx6
import Derived.Test.YtecbcibblmknpaaXFnExactBestShelfx7
import Derived.Test.YtecbcibblmknpaaPu
namespace Go.Proofs.Ytecbcibblmknpaa.XFnExactBestShelf
open Go.RowKit Go.Proofs.YtecbcibblmknpaaW.PrintWords Go.Proofs.YtecbcibblmknpaaW.PrintLast Go.Proofs.YtecbcibblmknpaaW.PrintMore Go.Proofs.YtecbcibblmknpaaW.Idx
attribute [local go_sem] max2_int min2_int max_two min_two max_three min_three max_four min_four   -- for this text's walks alone
set_option linter.unusedVariables false
set_option linter.unusedSimpArgs false

/-! ### impl_BestShelf: function 22 -/
mutual
def impl_BestShelf.l0 : Nat → List (S50) → Int → List (List Int) → List Int → List (S50) → Int → Int → Option (List Int × Int × Int × Int)
 | 0, _, _, _, _, _, _, _ => none
 | k + 1, x0, x1, x7, x8, x31, x32, x33 => if x33 < x32 then (if 0 ≤ x33 then (if x33 < (x31.length : Int) then (if ((rd_T50 x31 x33).f1) = 0 then (none) else (impl_BestShelf.l1 k x0 x1 x7 x8 x33 (mn (((rd_T50 x31 x33).f3).length : Int) (wrap64 (Int.tdiv x1 ((rd_T50 x31 x33).f1)))) x31 x32 x33 ((rd_T50 x31 x33).f0) ((rd_T50 x31 x33).f1) ((rd_T50 x31 x33).f2) ((rd_T50 x31 x33).f3))) else (none)) else (none)) else ((impl_planOf.f k x0 x8).bind fun bt238 => (some (bt238.1, bt238.2.1, bt238.2.2, 0)))
def impl_BestShelf.l1 : Nat → List (S50) → Int → List (List Int) → List Int → Int → Int → List (S50) → Int → Int → ByteArray → Int → Int → List Int → Option (List Int × Int × Int × Int)
 | 0, _, _, _, _, _, _, _, _, _, _, _, _, _ => none
 | k + 1, x0, x1, x7, x8, x9, x11, x31, x32, x33, x245000, x245001, x245002, x245003 => if 0 ≤ (wrap64 (x9 + 1)) then (if (wrap64 (x9 + 1)) < (x7.length : Int) then (if 0 ≤ (wrap64 (x1 - (wrap64 (x11 * x245001)))) then (if (wrap64 (x1 - (wrap64 (x11 * x245001)))) < ((rd_L2 x7 (wrap64 (x9 + 1))).length : Int) then (if (rd (rd_L2 x7 (wrap64 (x9 + 1))) (wrap64 (x1 - (wrap64 (x11 * x245001))))) < 0 then (impl_BestShelf.l1 k x0 x1 x7 x8 x9 (wrap64 (x11 - 1)) x31 x32 x33 x245000 x245001 x245002 x245003) else (if 0 ≤ x11 then (if x11 ≤ (x245003.length : Int) then ((impl_sumOf.f k (x245003.take (x11 : Int).toNat)).bind fun t250 => (if 0 ≤ x9 then (if x9 < (x7.length : Int) then (if 0 ≤ x1 then (if x1 < ((rd_L2 x7 x9).length : Int) then (if (wrap64 ((rd (rd_L2 x7 (wrap64 (x9 + 1))) (wrap64 (x1 - (wrap64 (x11 * x245001))))) + t250)) = (rd (rd_L2 x7 x9) x1) then (if x8.length < 17592186044416 then (impl_BestShelf.l0 k x0 (wrap64 (x1 - (wrap64 (x11 * x245001)))) x7 (x8 ++ [x11]) x31 x32 (wrap64 (x33 + 1))) else (none)) else (impl_BestShelf.l1 k x0 x1 x7 x8 x9 (wrap64 (x11 - 1)) x31 x32 x33 x245000 x245001 x245002 x245003)) else (none)) else (none)) else (none)) else (none))) else (none)) else (none))) else (none)) else (none)) else (none)) else (none)
end
def impl_BestShelf.f (k : Nat) (l0 : List (S50)) (a1 : Int) : Option (List Int × Int × Int × Int) := (impl_shelfCode.f k l0 a1).bind fun t229 => (if t229 = 0 then ((impl_bestGains.f k l0 a1).bind fun t230 => (if 0 < (t230.length : Int) then (if 0 ≤ a1 then (if a1 < ((rd_L2 t230 0).length : Int) then (if (rd (rd_L2 t230 0) a1) < 0 then (some (([] : List Int), 0, 0, 8)) else (impl_BestShelf.l0 k l0 a1 t230 (([] : List Int)) l0 (l0.length : Int) 0)) else (none)) else (none)) else (none))) else (some (([] : List Int), 0, 0, t229)))
theorem impl_BestShelf.mono_l : ∀ k, (∀ y0 y1 y2 y3 y4 y5 y6, LeO (impl_BestShelf.l0 k y0 y1 y2 y3 y4 y5 y6) (impl_BestShelf.l0 (k + 1) y0 y1 y2 y3 y4 y5 y6)) ∧ (∀ y0 y1 y2 y3 y4 y5 y6 y7 y8 y9 y10 y11 y12, LeO (impl_BestShelf.l1 k y0 y1 y2 y3 y4 y5 y6 y7 y8 y9 y10 y11 y12) (impl_BestShelf.l1 (k + 1) y0 y1 y2 y3 y4 y5 y6 y7 y8 y9 y10 y11 y12))
 | 0 => ⟨fun _ _ _ _ _ _ _ r h => by simp [impl_BestShelf.l0] at h, fun _ _ _ _ _ _ _ _ _ _ _ _ _ r h => by simp [impl_BestShelf.l1] at h⟩
 | k + 1 => by
  obtain ⟨ih0, ih1⟩ := impl_BestShelf.mono_l k
  refine ⟨?_, ?_⟩
  ·intro y0 y1 y2 y3 y4 y5 y6
   unfold impl_BestShelf.l0
   repeat' first
   | (with_reducible exact ih0 _ _ _ _ _ _ _)
   | (with_reducible exact ih1 _ _ _ _ _ _ _ _ _ _ _ _ _)
   | (with_reducible exact impl_bestGains.mono _ _ _)
   | (with_reducible exact impl_planOf.mono _ _ _)
   | (with_reducible exact impl_shelfCode.mono _ _ _)
   | (with_reducible exact impl_sumOf.mono _ _)
   | (with_reducible exact LeO.refl _)
   | (with_reducible exact LeO.none _)
   | (with_reducible refine LeO.ite ?_ ?_)
   | (with_reducible refine LeO.bind ?_ (fun _ => ?_))
   | exact ih0 _ _ _ _ _ _ _
   | exact ih1 _ _ _ _ _ _ _ _ _ _ _ _ _
   | exact impl_bestGains.mono _ _ _
   | exact impl_planOf.mono _ _ _
   | exact impl_shelfCode.mono _ _ _
   | exact impl_sumOf.mono _ _
   | exact LeO.none _
   | refine LeO.ite ?_ ?_
   | refine LeO.bind ?_ (fun _ => ?_)
  ·intro y0 y1 y2 y3 y4 y5 y6 y7 y8 y9 y10 y11 y12
   unfold impl_BestShelf.l1
   repeat' first
   | (with_reducible exact ih0 _ _ _ _ _ _ _)
   | (with_reducible exact ih1 _ _ _ _ _ _ _ _ _ _ _ _ _)
   | (with_reducible exact impl_bestGains.mono _ _ _)
   | (with_reducible exact impl_planOf.mono _ _ _)
   | (with_reducible exact impl_shelfCode.mono _ _ _)
   | (with_reducible exact impl_sumOf.mono _ _)
   | (with_reducible exact LeO.refl _)
   | (with_reducible exact LeO.none _)
   | (with_reducible refine LeO.ite ?_ ?_)
   | (with_reducible refine LeO.bind ?_ (fun _ => ?_))
   | exact ih0 _ _ _ _ _ _ _
   | exact ih1 _ _ _ _ _ _ _ _ _ _ _ _ _
   | exact impl_bestGains.mono _ _ _
   | exact impl_planOf.mono _ _ _
   | exact impl_shelfCode.mono _ _ _
   | exact impl_sumOf.mono _ _
   | exact LeO.none _
   | refine LeO.ite ?_ ?_
   | refine LeO.bind ?_ (fun _ => ?_)
theorem impl_BestShelf.mono : ∀ a0 a1 k, LeO (impl_BestShelf.f k a0 a1) (impl_BestShelf.f (k + 1) a0 a1) := by
 intro a0 a1 k
 obtain ⟨ih0, ih1⟩ := impl_BestShelf.mono_l k
 unfold impl_BestShelf.f
 repeat' first
   | (with_reducible exact ih0 _ _ _ _ _ _ _)
   | (with_reducible exact ih1 _ _ _ _ _ _ _ _ _ _ _ _ _)
   | (with_reducible exact impl_bestGains.mono _ _ _)
   | (with_reducible exact impl_planOf.mono _ _ _)
   | (with_reducible exact impl_shelfCode.mono _ _ _)
   | (with_reducible exact impl_sumOf.mono _ _)
   | (with_reducible exact LeO.refl _)
   | (with_reducible exact LeO.none _)
   | (with_reducible refine LeO.ite ?_ ?_)
   | (with_reducible refine LeO.bind ?_ (fun _ => ?_))
   | exact ih0 _ _ _ _ _ _ _
   | exact ih1 _ _ _ _ _ _ _ _ _ _ _ _ _
   | exact impl_bestGains.mono _ _ _
   | exact impl_planOf.mono _ _ _
   | exact impl_shelfCode.mono _ _ _
   | exact impl_sumOf.mono _ _
   | exact LeO.none _
   | refine LeO.ite ?_ ?_
   | refine LeO.bind ?_ (fun _ => ?_)
def impl_BestShelf.T10 : Bool × List (List Nat × List Nat) := (true, [([], []), ([0], [0]), ([1], [1]), ([], []), ([], []), ([4], [4]), ([3, 5], [3, 5]), ([2, 6], [2, 6]), ([7, 0, 1, 2, 3, 4, 5, 6, 7], [7])])
def impl_BestShelf.B10 : List Nat := [0, 1, 3, 0, 0, 16, 56, 127, 255]
theorem impl_BestShelf.tab10 : rtab .any (opsOf Try.f22 10) = impl_BestShelf.T10 := by kernel_rfl
theorem impl_BestShelf.bits10 : waitsOk impl_BestShelf.T10.2 impl_BestShelf.B10 = true := by kernel_rfl
def impl_BestShelf.T11 : Bool × List (List Nat × List Nat) := (true, [([], []), ([], []), ([1], [1]), ([0, 2], [0, 2]), ([3], [3]), ([], []), ([], []), ([], []), ([7], [7]), ([6, 8], [6, 8]), ([5, 9], [5, 9]), ([4, 10], [4, 10]), ([11], [11]), ([12], [12]), ([13], [13]), ([14], [14]), ([14], [14]), ([16, 14], [14, 16]), ([15, 17, 14], [14, 15, 17]), ([18, 14], [14, 18]), ([14], [14]), ([14], [14]), ([14], [14]), ([22, 14], [14, 22]), ([21, 23, 14], [14, 21, 23]), ([20, 24, 14], [14, 20, 24]), ([19, 25, 14], [14, 19, 25]), ([26, 14], [14, 26]), ([14], [14]), ([28, 14], [14, 28]), ([14], [14]), ([29, 30, 14], [14, 29, 30]), ([31, 14, 14], [14, 31]), ([27, 32, 14], [14, 27, 32]), ([14], [14]), ([14], [14]), ([34, 35, 14], [14, 34, 35]), ([36, 14], [14, 36]), ([14], [14]), ([37, 38, 14], [14, 37, 38]), ([39, 14], [14, 39]), ([33, 40, 14], [14, 33, 40]), ([14, 41], [14, 41])])
def impl_BestShelf.B11 : List Nat := [0, 0, 2, 7, 15, 0, 0, 0, 128, 448, 992, 2047, 4095, 8191, 16383, 32767, 32767, 98303, 262143, 524287, 32767, 32767, 32767, 4227071, 14712831, 32538623, 67108863, 134217727, 32767, 268468223, 32767, 1879080959, 4026564607, 8589934591, 32767, 32767, 51539640319, 120259117055, 32767, 532575977471, 1082331791359, 2199023255551, 4398046511103]
theorem impl_BestShelf.tab11 : rtab .any (opsOf Try.f22 11) = impl_BestShelf.T11 := by kernel_rfl
theorem impl_BestShelf.bits11 : waitsOk impl_BestShelf.T11.2 impl_BestShelf.B11 = true := by kernel_rfl
def impl_BestShelf.T13 : Bool × List (List Nat × List Nat) := (true, [([], []), ([], []), ([1], [1]), ([0, 2], [0, 2]), ([], []), ([], []), ([], []), ([6], [6]), ([5, 7], [5, 7]), ([4, 8], [4, 8]), ([3, 3, 0, 1, 2, 3], [0, 3]), ([9, 10, 0, 1, 2, 3, 4, 5, 6, 7, 8, 9, 10], [4, 9])])
def impl_BestShelf.B13 : List Nat := [0, 0, 2, 7, 0, 0, 0, 64, 224, 496, 15, 2047]
theorem impl_BestShelf.tab13 : rtab .any (opsOf Try.f22 13) = impl_BestShelf.T13 := by kernel_rfl
theorem impl_BestShelf.bits13 : waitsOk impl_BestShelf.T13.2 impl_BestShelf.B13 = true := by kernel_rfl
set_option maxHeartbeats 8000000 in
set_option maxRecDepth 100000 in
theorem impl_BestShelf.calls (k : Nat) (A0 : Option Addr) (c0 : Nat) (l0 : List (S50)) (a1 : Int) (r1 : List Int) (r2 : Int) (r3 : Int) (r4 : Int) (w : World) (hr0 : Kd.C k50 w A0 l0.length l0) (hc0 : l0.length ≤ c0) (h : impl_BestShelf.f k l0 a1 = some (r1, r2, r3, r4)) :
  Calls Try.prog 22 #[.slice A0 l0.length c0, .int .i64 a1] w fun e w' => ∃ v0_ : Value, e = .returned (.tuple #[.agg #[v0_, .int .i64 r2, .int .i64 r3], .int .i64 r4]) ∧ Kd.R (Kd.int .i64) 3 w' w.heap.size (fun _ => True) v0_ r1 ∧ Below w.heap.size w w' := by
 have hu31 := Try.underlying31
 have hu50 := Try.underlying50
 have HR0 := Aside0.mk hr0
 have HC0 := Aside0.mk hc0
 clear hr0 hc0
 have HB := Aside0.mk (Below.refl w.heap.size w)
 have H : ((impl_shelfCode.f k l0 a1).bind fun t229 => (if t229 = 0 then ((impl_bestGains.f k l0 a1).bind fun t230 => (if 0 < (t230.length : Int) then (if 0 ≤ a1 then (if a1 < ((rd_L2 t230 0).length : Int) then (if (rd (rd_L2 t230 0) a1) < 0 then (some (([] : List Int), 0, 0, 8)) else (impl_BestShelf.l0 k l0 a1 t230 (([] : List Int)) l0 (l0.length : Int) 0)) else (none)) else (none)) else (none))) else (some (([] : List Int), 0, 0, t229)))) = some (r1, r2, r3, r4) := h
 clear h
 replace H := Option.bind_eq_some_iff.mp H
 obtain ⟨t229, A30, H⟩ := H
 replace H : (if t229 = 0 then ((impl_bestGains.f k l0 a1).bind fun t230 => (if 0 < (t230.length : Int) then (if 0 ≤ a1 then (if a1 < ((rd_L2 t230 0).length : Int) then (if (rd (rd_L2 t230 0) a1) < 0 then (some (([] : List Int), 0, 0, 8)) else (impl_BestShelf.l0 k l0 a1 t230 (([] : List Int)) l0 (l0.length : Int) 0)) else (none)) else (none)) else (none))) else (some (([] : List Int), 0, 0, t229))) = some (r1, r2, r3, r4) := H
 have A3 := Aside0.mk A30
 clear A30
 by_cases c4 : t229 = 0
 rotate_left
 ·rw [if_neg c4] at H
  have c4b0 : (t229 == 0) = false := beq_eq_false_iff_ne.mpr c4
  have c4b1 : (t229 != 0) = true := bne_iff_ne.mpr c4
  simp only [Option.some.injEq, Prod.mk.injEq] at H
  obtain ⟨rfl, rfl, rfl, rfl⟩ := H
  go_enter Try.func22, Try.ntmps22
  go_wp2_with (first | ((with_reducible refine gate_dst (N := 4) rfl ?_); refine box_event ?hg (N := 4) ?hd (cs := #[.slice none 0 0, .int .i64 0, .int .i64 0]) (t := 31) ?hr ?_; (case hd => rfl); (case hg => rfl); (case hr => first | (go_simp; done) | (go_simp; rfl)); intro gb228 hg w61 hbox hb; have n0_ := Aside0.mk (below_step bl_ hb); have n1_ := Aside0.mk (hbox); have n2_ := Aside0.mk ((by rw [hg]; exact (below_size bl_) : w.heap.size ≤ gb228)); have n3_ := Aside0.mk ((by rw [hg]; exact (below_size bl_) : w.heap.size ≤ gb228)); clear HB; have HB := n0_; have BK228 := n1_; have GW228 := n2_; have GE228 := n3_; clear n0_ n1_ n2_ n3_; clear hb hbox hg) | ((with_reducible refine gate_callee (f := 33) rfl ?_); refine goesL_ (some 14) rfl rfl Try.func33 (by kernel_rfl) rfl #[.slice A0 l0.length c0, .int .i64 a1] rfl (by (try simp only [List.map_toArray, List.map_cons, List.map_nil]); first | done | rfl | (simp only [List.length_drop, List.length_take]; rfl)) ?_; (with_reducible refine (impl_shelfCode.calls k _ _ l0 a1 t229 _ ?side1 ?side2 A3.out).mono ?_); (case side1 => repeat (first | exact (Kd.C_below HR0.out HB.out) | (with_reducible refine Kd.C_alloc ?_ _) | (with_reducible refine Kd.C_drewN ?_ _) | (with_reducible refine Kd.C_drew ?_))); (case side2 => exact HC0.out); rintro e w62 ⟨rfl, hb⟩; refine ⟨_, rfl, ?_⟩; have n0_ := Aside0.mk (blk_below (g := gb228) (o := .cells #[.slice none 0 0, .int .i64 0, .int .i64 0] 31 (0, 0)) bk_ hb); have n1_ := Aside0.mk (below_step bl_ hb); clear BK228; clear HB; have BK228 := n0_; have HB := n1_; clear n0_ n1_; (try clear hb); (try clear hb2); (try clear hk); (try clear hi); have hcz63_0 : w62.cell? ⟨gb228, 0, none⟩ = some (.slice none 0 0) := (blk_cell BK228.out 0).trans rfl; have hcz63_1 : w62.cell? ⟨gb228, 1, none⟩ = some (.int .i64 0) := (blk_cell BK228.out 1).trans rfl; have hcz63_2 : w62.cell? ⟨gb228, 2, none⟩ = some (.int .i64 0) := (blk_cell BK228.out 2).trans rfl; have hfz63_0 := blk_frozen BK228.out 0; have hfz63_1 := blk_frozen BK228.out 1; have hfz63_2 := blk_frozen BK228.out 2))
  refine bodyPost_ret (results_ct rfl _ _ gb228 31 #[.slice none 0 0, .int .i64 0, .int .i64 0] (0, 0) _ rfl (by (with_reducible repeat (first | refine blk_drewN ?_ _ | refine blk_drew ?_ | refine blk_alloc ?_ _)); refine blk_put (cs := #[.slice none 0 0, .int .i64 0, .int .i64 0]) ?_ 2 _ rfl; (with_reducible repeat (first | refine blk_drewN ?_ _ | refine blk_drew ?_ | refine blk_alloc ?_ _)); refine blk_put (cs := #[.slice none 0 0, .int .i64 0, .int .i64 0]) ?_ 1 _ rfl; (with_reducible repeat (first | refine blk_drewN ?_ _ | refine blk_drew ?_ | refine blk_alloc ?_ _)); refine blk_put (cs := #[.slice none 0 0, .int .i64 0, .int .i64 0]) ?_ 0 _ rfl; (with_reducible repeat (first | refine blk_drewN ?_ _ | refine blk_drew ?_ | refine blk_alloc ?_ _)); exact BK228.out) Try.underlying31 rfl (by kernel_rfl)) rfl ?_
  exact ⟨_, by first | rfl | (simp [errW_none, errW_some] <;> rfl) | (simp [*, errW_none, errW_some] <;> rfl), by first | exact Kd.R_nil _ _ _ _ _ | exact Kd.N_nil _ _ _ _ _ | exact Kd.V_nil _ _ _ _ _ | exact Kd.Q_nil _ _ _ _ _ | exact Kd.S_nil _ _ _ _ _, by repeat (first | (with_reducible first | exact HB.out | apply below_alloc | apply pw_below_drewN | apply below_drew1 | refine below_set ?_ GE228.out) | exact HB.out)⟩

 rw [if_pos c4] at H
 have c4b0 : (t229 == 0) = true := beq_iff_eq.mpr c4
 have c4b1 : (t229 != 0) = false := bne_eq_false_iff_eq.mpr c4
 clear c4
 replace H := Option.bind_eq_some_iff.mp H
 obtain ⟨t230, A50, H⟩ := H
 replace H : (if 0 < (t230.length : Int) then (if 0 ≤ a1 then (if a1 < ((rd_L2 t230 0).length : Int) then (if (rd (rd_L2 t230 0) a1) < 0 then (some (([] : List Int), 0, 0, 8)) else (impl_BestShelf.l0 k l0 a1 t230 (([] : List Int)) l0 (l0.length : Int) 0)) else (none)) else (none)) else (none)) = some (r1, r2, r3, r4) := H
 have A5 := Aside0.mk A50
 clear A50
 obtain ⟨y233, hy233⟩ : ∃ y_ : List Int, y_ = (([] : List Int)) := ⟨_, rfl⟩
 replace H : (if 0 < (t230.length : Int) then (if 0 ≤ a1 then (if a1 < ((rd_L2 t230 0).length : Int) then (if (rd (rd_L2 t230 0) a1) < 0 then (some (([] : List Int), 0, 0, 8)) else (impl_BestShelf.l0 k l0 a1 t230 y233 l0 (l0.length : Int) 0)) else (none)) else (none)) else (none)) = some (r1, r2, r3, r4) := by first | (rw [hy233]; with_reducible exact H) | (have H2_ := (Option.bind_some _ _).symm.trans H; rw [hy233]; with_reducible exact H2_) | (have H2_ := (Option.bind_some _ _).symm.trans H; with_reducible exact H2_) | with_reducible exact H | (rw [hy233]; exact H) | exact H
 have Ny233 := Aside0.mk hy233
 clear hy233
 by_cases c6 : 0 < (t230.length : Int)
 rotate_left
 ·rw [if_neg c6] at H
  exact absurd H (by simp)
 rw [if_pos c6] at H
 have c6b0 : decide (0 < (t230.length : Int)) = true := decide_eq_true c6
 have c6b1 : decide (0 < t230.length) = true := decide_eq_true (by omega)
 clear c6
 by_cases c7 : 0 ≤ a1
 rotate_left
 ·rw [if_neg c7] at H
  exact absurd H (by simp)
 rw [if_pos c7] at H
 have c7b0 : decide (0 ≤ a1) = true := decide_eq_true c7
 clear c7
 by_cases c8 : a1 < ((rd_L2 t230 0).length : Int)
 rotate_left
 ·rw [if_neg c8] at H
  exact absurd H (by simp)
 rw [if_pos c8] at H
 have c8b0 : decide (a1 < ((rd_L2 t230 0).length : Int)) = true := decide_eq_true c8
 clear c8
 by_cases c9 : (rd (rd_L2 t230 0) a1) < 0
 ·rw [if_pos c9] at H
  have c9b0 : decide ((rd (rd_L2 t230 0) a1) < 0) = true := decide_eq_true c9
  clear c9
  simp only [Option.some.injEq, Prod.mk.injEq] at H
  obtain ⟨rfl, rfl, rfl, rfl⟩ := H
  go_enter Try.func22, Try.ntmps22
  go_wp2_with (first | ((with_reducible refine gate_dst (N := 4) rfl ?_); refine box_event ?hg (N := 4) ?hd (cs := #[.slice none 0 0, .int .i64 0, .int .i64 0]) (t := 31) ?hr ?_; (case hd => rfl); (case hg => rfl); (case hr => first | (go_simp; done) | (go_simp; rfl)); intro gb228 hg w10 hbox hb; have n0_ := Aside0.mk (below_step bl_ hb); have n1_ := Aside0.mk (hbox); have n2_ := Aside0.mk ((by rw [hg]; exact (below_size bl_) : w.heap.size ≤ gb228)); have n3_ := Aside0.mk ((by rw [hg]; exact (below_size bl_) : w.heap.size ≤ gb228)); clear HB; have HB := n0_; have BK228 := n1_; have GW228 := n2_; have GE228 := n3_; clear n0_ n1_ n2_ n3_; clear hb hbox hg) | ((with_reducible refine gate_callee (f := 33) rfl ?_); refine goesL_ (some 14) rfl rfl Try.func33 (by kernel_rfl) rfl #[.slice A0 l0.length c0, .int .i64 a1] rfl (by (try simp only [List.map_toArray, List.map_cons, List.map_nil]); first | done | rfl | (simp only [List.length_drop, List.length_take]; rfl)) ?_; (with_reducible refine (impl_shelfCode.calls k _ _ l0 a1 t229 _ ?side1 ?side2 A3.out).mono ?_); (case side1 => repeat (first | exact (Kd.C_below HR0.out HB.out) | (with_reducible refine Kd.C_alloc ?_ _) | (with_reducible refine Kd.C_drewN ?_ _) | (with_reducible refine Kd.C_drew ?_))); (case side2 => exact HC0.out); rintro e w11 ⟨rfl, hb⟩; refine ⟨_, rfl, ?_⟩; have n0_ := Aside0.mk (blk_below (g := gb228) (o := .cells #[.slice none 0 0, .int .i64 0, .int .i64 0] 31 (0, 0)) bk_ hb); have n1_ := Aside0.mk (below_step bl_ hb); clear BK228; clear HB; have BK228 := n0_; have HB := n1_; clear n0_ n1_; (try clear hb); (try clear hb2); (try clear hk); (try clear hi)) | ((with_reducible refine gate_callee (f := 41) rfl ?_); refine goesL_ (some 21) rfl rfl Try.func41 (by kernel_rfl) rfl #[.slice A0 l0.length c0, .int .i64 a1] rfl (by (try simp only [List.map_toArray, List.map_cons, List.map_nil]); first | done | rfl | (simp only [List.length_drop, List.length_take]; rfl)) ?_; (with_reducible refine (impl_bestGains.calls k _ _ l0 a1 t230 _ ?side1 ?side2 A5.out).mono ?_); (case side1 => repeat (first | exact (Kd.C_below HR0.out HB.out) | (with_reducible refine Kd.C_alloc ?_ _) | (with_reducible refine Kd.C_drewN ?_ _) | (with_reducible refine Kd.C_drew ?_))); (case side2 => exact HC0.out); rintro e w12 ⟨v231, rfl, ho0, hb⟩; refine ⟨_, rfl, ?_⟩; have n0_ := Aside0.mk (Kd.S_lower ho0 (below_size bl_)); have n1_ := Aside0.mk (blk_below (g := gb228) (o := .cells #[.slice none 0 0, .int .i64 0, .int .i64 0] 31 (0, 0)) bk_ hb); have n2_ := Aside0.mk (below_step bl_ hb); clear BK228; clear HB; have HO232 := n0_; have BK228 := n1_; have HB := n2_; clear n0_ n1_ n2_; (try clear hb); (try clear hb2); (try clear hk); (try clear hi); (try clear ho0)) | ((with_reducible refine gate_dst (N := 22) rfl ?_); refine Kd.R_lit (Kd.int .i64) _ 3 ?hg (N := 22) ?hd (xs := ([] : List Int)) (inner := []) (ok := fun _ => True) (okp := fun _ => True) ?hr ?hp (fun _ hk => hk) trivial (Below.refl _ _) (Nat.le_refl _) (by simp) ?_; (case hd => rfl); (case hg => rfl); (case hr => first | (go_simp; done) | (go_simp; rfl)); (case hp => exact (Reps.none _ _)); intro v234 w13 ho14 hb hg_ hnew_; clear hg_ hnew_; (first | rw [← Ny233.out] at ho14 | (simp only [Int.reduceToNat] at ho14; rw [← Ny233.out] at ho14)); have n0_ := Aside0.mk (Kd.S_elder' (by (with_reducible repeat (first | apply Kd.S_alloc | apply Kd.S_drewN | apply Kd.S_drew)); exact HO232.out) (Kd.R_base ho14) hb); have n1_ := Aside0.mk (Kd.R_lower ho14 (below_size bl_)); have n2_ := Aside0.mk (blk_below (g := gb228) (o := .cells #[.slice none 0 0, .int .i64 0, .int .i64 0] 31 (0, 0)) bk_ hb); have n3_ := Aside0.mk (below_step bl_ hb); clear HO232; clear BK228; clear HB; have HO232 := n0_; have HO235 := n1_; have BK228 := n2_; have HB := n3_; clear n0_ n1_ n2_ n3_; clear hb ho14; obtain ⟨Ao15, co15, eo15⟩ := Kd.S_slice HO232.out; subst eo15; have p236 : 0 ≤ (0 : Int) := (by omega); have q236 : 0 < (t230.length : Int) := od_; obtain ⟨ad236, A236_0, c236_0, e236, hx236_0, hl236_0, hi236_0⟩ := at_L2 (Kd.S_reads' HO232.out).2.2 0 p236 q236; cases e236; obtain ⟨ce236, hce236, hMe236, hcc236⟩ := Kd.S_get HO232.out [] 0 p236 (by first | exact q236 | exact od_ | (have e_ := (Kd.S_reads' HO232.out).1; omega)); obtain ⟨ve236_0, rfl, ge236_0⟩ := hMe236; have hv236_0 := hcc236 0 _ rfl; rw [Nat.add_zero, show ((Kd.slice 3 (Kd.int .i64))).sz = 1 from rfl, Nat.mul_one] at hv236_0; replace hv236_0 := Option.some.inj (hv236_0.symm.trans hx236_0); rw [hv236_0] at ge236_0; have HL236_0 := Aside0.mk (show Kd.R (Kd.int .i64) 3 _ _ _ _ (rd_L2 t230 0) from ge236_0); clear hv236_0 ge236_0; clear hcc236 hce236; have qi236 : (0 < t230.length) = True := eq_true (by omega); (try rw [show ((0 : Int)).toNat = 0 from rfl] at hx236_0); (try rw [Addr.add_zero'] at hx236_0); have HR236_0 := Aside0.mk hi236_0; have HC236_0 := Aside0.mk hl236_0; clear hi236_0 hl236_0; replace p236 := eq_true p236; replace q236 := eq_true q236; have p237 : 0 ≤ (a1 : Int) := od_; have q237 : a1 < ((rd_L2 t230 0).length : Int) := od_; obtain ⟨ad237, e237, hx237_0⟩ := Kd.at_int (by repeat (first | (with_reducible exact HR236_0.out) | (with_reducible refine Kd.C_alloc ?_ _) | (with_reducible refine Kd.C_drewN ?_ _) | (with_reducible refine Kd.C_drew ?_) | exact HR236_0.out)) a1 p237 q237; cases e237; replace p237 := eq_true p237; replace q237 := eq_true q237; have hcz16_0 : w13.cell? ⟨gb228, 0, none⟩ = some (.slice none 0 0) := (blk_cell BK228.out 0).trans rfl; have hcz16_1 : w13.cell? ⟨gb228, 1, none⟩ = some (.int .i64 0) := (blk_cell BK228.out 1).trans rfl; have hcz16_2 : w13.cell? ⟨gb228, 2, none⟩ = some (.int .i64 0) := (blk_cell BK228.out 2).trans rfl; have hfz16_0 := blk_frozen BK228.out 0; have hfz16_1 := blk_frozen BK228.out 1; have hfz16_2 := blk_frozen BK228.out 2))
  refine bodyPost_ret (results_ct rfl _ _ gb228 31 #[.slice none 0 0, .int .i64 0, .int .i64 0] (0, 0) _ rfl (by (with_reducible repeat (first | refine blk_drewN ?_ _ | refine blk_drew ?_ | refine blk_alloc ?_ _)); refine blk_put (cs := #[.slice none 0 0, .int .i64 0, .int .i64 0]) ?_ 2 _ rfl; (with_reducible repeat (first | refine blk_drewN ?_ _ | refine blk_drew ?_ | refine blk_alloc ?_ _)); refine blk_put (cs := #[.slice none 0 0, .int .i64 0, .int .i64 0]) ?_ 1 _ rfl; (with_reducible repeat (first | refine blk_drewN ?_ _ | refine blk_drew ?_ | refine blk_alloc ?_ _)); refine blk_put (cs := #[.slice none 0 0, .int .i64 0, .int .i64 0]) ?_ 0 _ rfl; (with_reducible repeat (first | refine blk_drewN ?_ _ | refine blk_drew ?_ | refine blk_alloc ?_ _)); exact BK228.out) Try.underlying31 rfl (by kernel_rfl)) rfl ?_
  exact ⟨_, by first | rfl | (simp [errW_none, errW_some] <;> rfl) | (simp [*, errW_none, errW_some] <;> rfl), by first | exact Kd.R_nil _ _ _ _ _ | exact Kd.N_nil _ _ _ _ _ | exact Kd.V_nil _ _ _ _ _ | exact Kd.Q_nil _ _ _ _ _ | exact Kd.S_nil _ _ _ _ _, by repeat (first | (with_reducible first | exact HB.out | apply below_alloc | apply pw_below_drewN | apply below_drew1 | refine below_set ?_ GE228.out) | exact HB.out)⟩
 rw [if_neg c9] at H
 have c9b0 : decide ((rd (rd_L2 t230 0) a1) < 0) = false := decide_eq_false c9
 clear c9
 have H' := Aside0.mk H
 clear H
 go_enter Try.func22, Try.ntmps22
 go_wp2_with (first | ((with_reducible refine gate_dst (N := 4) rfl ?_); refine box_event ?hg (N := 4) ?hd (cs := #[.slice none 0 0, .int .i64 0, .int .i64 0]) (t := 31) ?hr ?_; (case hd => rfl); (case hg => rfl); (case hr => first | (go_simp; done) | (go_simp; rfl)); intro gb228 hg w17 hbox hb; have n0_ := Aside0.mk (below_step bl_ hb); have n1_ := Aside0.mk (hbox); have n2_ := Aside0.mk ((by rw [hg]; exact (below_size bl_) : w.heap.size ≤ gb228)); have n3_ := Aside0.mk ((by rw [hg]; exact (below_size bl_) : w.heap.size ≤ gb228)); clear HB; have HB := n0_; have BK228 := n1_; have GW228 := n2_; have GE228 := n3_; clear n0_ n1_ n2_ n3_; clear hb hbox hg) | ((with_reducible refine gate_callee (f := 33) rfl ?_); refine goesL_ (some 14) rfl rfl Try.func33 (by kernel_rfl) rfl #[.slice A0 l0.length c0, .int .i64 a1] rfl (by (try simp only [List.map_toArray, List.map_cons, List.map_nil]); first | done | rfl | (simp only [List.length_drop, List.length_take]; rfl)) ?_; (with_reducible refine (impl_shelfCode.calls k _ _ l0 a1 t229 _ ?side1 ?side2 A3.out).mono ?_); (case side1 => repeat (first | exact (Kd.C_below HR0.out HB.out) | (with_reducible refine Kd.C_alloc ?_ _) | (with_reducible refine Kd.C_drewN ?_ _) | (with_reducible refine Kd.C_drew ?_))); (case side2 => exact HC0.out); rintro e w18 ⟨rfl, hb⟩; refine ⟨_, rfl, ?_⟩; have n0_ := Aside0.mk (blk_below (g := gb228) (o := .cells #[.slice none 0 0, .int .i64 0, .int .i64 0] 31 (0, 0)) bk_ hb); have n1_ := Aside0.mk (below_step bl_ hb); clear BK228; clear HB; have BK228 := n0_; have HB := n1_; clear n0_ n1_; (try clear hb); (try clear hb2); (try clear hk); (try clear hi)) | ((with_reducible refine gate_callee (f := 41) rfl ?_); refine goesL_ (some 21) rfl rfl Try.func41 (by kernel_rfl) rfl #[.slice A0 l0.length c0, .int .i64 a1] rfl (by (try simp only [List.map_toArray, List.map_cons, List.map_nil]); first | done | rfl | (simp only [List.length_drop, List.length_take]; rfl)) ?_; (with_reducible refine (impl_bestGains.calls k _ _ l0 a1 t230 _ ?side1 ?side2 A5.out).mono ?_); (case side1 => repeat (first | exact (Kd.C_below HR0.out HB.out) | (with_reducible refine Kd.C_alloc ?_ _) | (with_reducible refine Kd.C_drewN ?_ _) | (with_reducible refine Kd.C_drew ?_))); (case side2 => exact HC0.out); rintro e w19 ⟨v231, rfl, ho0, hb⟩; refine ⟨_, rfl, ?_⟩; have n0_ := Aside0.mk (Kd.S_lower ho0 (below_size bl_)); have n1_ := Aside0.mk (blk_below (g := gb228) (o := .cells #[.slice none 0 0, .int .i64 0, .int .i64 0] 31 (0, 0)) bk_ hb); have n2_ := Aside0.mk (below_step bl_ hb); clear BK228; clear HB; have HO232 := n0_; have BK228 := n1_; have HB := n2_; clear n0_ n1_ n2_; (try clear hb); (try clear hb2); (try clear hk); (try clear hi); (try clear ho0)) | ((with_reducible refine gate_dst (N := 22) rfl ?_); refine Kd.R_lit (Kd.int .i64) _ 3 ?hg (N := 22) ?hd (xs := ([] : List Int)) (inner := []) (ok := fun _ => True) (okp := fun _ => True) ?hr ?hp (fun _ hk => hk) trivial (Below.refl _ _) (Nat.le_refl _) (by simp) ?_; (case hd => rfl); (case hg => rfl); (case hr => first | (go_simp; done) | (go_simp; rfl)); (case hp => exact (Reps.none _ _)); intro v234 w20 ho21 hb hg_ hnew_; clear hg_ hnew_; (first | rw [← Ny233.out] at ho21 | (simp only [Int.reduceToNat] at ho21; rw [← Ny233.out] at ho21)); have n0_ := Aside0.mk (Kd.S_elder' (by (with_reducible repeat (first | apply Kd.S_alloc | apply Kd.S_drewN | apply Kd.S_drew)); exact HO232.out) (Kd.R_base ho21) hb); have n1_ := Aside0.mk (Kd.R_lower ho21 (below_size bl_)); have n2_ := Aside0.mk (blk_below (g := gb228) (o := .cells #[.slice none 0 0, .int .i64 0, .int .i64 0] 31 (0, 0)) bk_ hb); have n3_ := Aside0.mk (below_step bl_ hb); clear HO232; clear BK228; clear HB; have HO232 := n0_; have HO235 := n1_; have BK228 := n2_; have HB := n3_; clear n0_ n1_ n2_ n3_; clear hb ho21; obtain ⟨Ao22, co22, eo22⟩ := Kd.S_slice HO232.out; subst eo22; have p236 : 0 ≤ (0 : Int) := (by omega); have q236 : 0 < (t230.length : Int) := od_; obtain ⟨ad236, A236_0, c236_0, e236, hx236_0, hl236_0, hi236_0⟩ := at_L2 (Kd.S_reads' HO232.out).2.2 0 p236 q236; cases e236; obtain ⟨ce236, hce236, hMe236, hcc236⟩ := Kd.S_get HO232.out [] 0 p236 (by first | exact q236 | exact od_ | (have e_ := (Kd.S_reads' HO232.out).1; omega)); obtain ⟨ve236_0, rfl, ge236_0⟩ := hMe236; have hv236_0 := hcc236 0 _ rfl; rw [Nat.add_zero, show ((Kd.slice 3 (Kd.int .i64))).sz = 1 from rfl, Nat.mul_one] at hv236_0; replace hv236_0 := Option.some.inj (hv236_0.symm.trans hx236_0); rw [hv236_0] at ge236_0; have HL236_0 := Aside0.mk (show Kd.R (Kd.int .i64) 3 _ _ _ _ (rd_L2 t230 0) from ge236_0); clear hv236_0 ge236_0; clear hcc236 hce236; have qi236 : (0 < t230.length) = True := eq_true (by omega); (try rw [show ((0 : Int)).toNat = 0 from rfl] at hx236_0); (try rw [Addr.add_zero'] at hx236_0); have HR236_0 := Aside0.mk hi236_0; have HC236_0 := Aside0.mk hl236_0; clear hi236_0 hl236_0; replace p236 := eq_true p236; replace q236 := eq_true q236; have p237 : 0 ≤ (a1 : Int) := od_; have q237 : a1 < ((rd_L2 t230 0).length : Int) := od_; obtain ⟨ad237, e237, hx237_0⟩ := Kd.at_int (by repeat (first | (with_reducible exact HR236_0.out) | (with_reducible refine Kd.C_alloc ?_ _) | (with_reducible refine Kd.C_drewN ?_ _) | (with_reducible refine Kd.C_drew ?_) | exact HR236_0.out)) a1 p237 q237; cases e237; replace p237 := eq_true p237; replace q237 := eq_true q237))
 go_loopg [1, 8, 33] k (fun kq v1 v8 v33 w' => ∃ (x1_1 : Int) (x8_1 : List Int) (x33_1 : Int), v1 = .int .i64 x1_1 ∧ v33 = .int .i64 x33_1 ∧ Aside0 (impl_BestShelf.l0 kq l0 x1_1 t230 x8_1 l0 (l0.length : Int) x33_1 = some (r1, r2, r3, r4)) ∧ Aside0 (kq ≤ k) ∧ Aside0 (Kd.S (Kd.slice 3 (Kd.int .i64)) 29 w' w.heap.size (fun k_ => some k_ ≠ (v8 : Value).ownBlock) (.slice (some ad236) t230.length co22) t230) ∧ Aside0 (Kd.R (Kd.int .i64) 3 w' w.heap.size (fun _ => True) v8 x8_1) ∧ Aside0 (w'.heap[gb228]? = some (.cells #[(.slice none 0 0), .int .i64 0, .int .i64 0] 31 (0, 0))) ∧ Aside0 (Below w.heap.size w w'))
 case atStart => exact ⟨(a1), (y233), (0), (by first | rfl | (simp; done) | (simp [*]; done)), (by first | rfl | (simp; done) | (simp [*]; done)), H', ⟨Nat.le_refl _⟩, ⟨by (with_reducible repeat (first | apply Kd.S_alloc | apply Kd.S_drewN | apply Kd.S_drew)); exact Kd.S_mono HO232.out (fun _ hk => hk.2)⟩, ⟨by (with_reducible repeat (first | apply Kd.R_alloc | apply Kd.R_drewN | apply Kd.R_drew)); exact HO235.out⟩, ⟨by (with_reducible repeat (first | refine blk_drewN ?_ _ | refine blk_drew ?_ | refine blk_alloc ?_ _)); exact BK228.out⟩, ⟨by repeat (first | (with_reducible first | exact HB.out | apply below_alloc | apply pw_below_drewN | apply below_drew1 | refine below_set ?_ GE228.out) | exact HB.out)⟩⟩
 case round =>
  clear H'
  (try clear c2); (try clear p2); (try clear q2); (try clear hx2); (try clear qi2); (try clear c3); (try clear c4); (try clear c4b0); (try clear c4b1); (try clear c6); (try clear c6b0); (try clear c6b1); (try clear c7); (try clear c7b0); (try clear c8); (try clear c8b0); (try clear c9); (try clear c9b0); (try clear c22); (try clear hcz16_0); (try clear hcz16_1); (try clear hcz16_2); (try clear hfz16_0); (try clear hfz16_1); (try clear hfz16_2); (try clear hx236_0); (try clear hx237_0); (try clear p236); (try clear p237); (try clear q236); (try clear q237)
  obtain ⟨x1_1, x8_1, x33_1, rfl, rfl, HA, HK1, HO_7, HO_8, BK228, HB⟩ := hrel
  cases gk with
  | zero => exact absurd HA.out (by simp [impl_BestShelf.l0])
  | succ k1 =>
   have H := HA.out
   clear HA
   simp only [impl_BestShelf.l0] at H
   by_cases c23 : x33_1 < (l0.length : Int)
   rotate_left
   ·rw [if_neg c23] at H
    have c23b0 : decide (x33_1 < (l0.length : Int)) = false := decide_eq_false c23
    clear c23
    replace H := Option.bind_eq_some_iff.mp H
    obtain ⟨⟨t238, t241, t242⟩, A560, H⟩ := H
    replace H : (some (t238, t241, t242, 0)) = some (r1, r2, r3, r4) := H
    have A56 := Aside0.mk A560
    clear A560
    simp only [Option.some.injEq, Prod.mk.injEq] at H
    obtain ⟨rfl, rfl, rfl, rfl⟩ := H
    obtain ⟨Ao57, co57, eo57⟩ := Kd.R_slice HO_8.out
    subst eo57
    go_wp2_with (first | ((with_reducible refine gate_callee (f := 35) rfl ?_); refine goesL_ (some 104) rfl rfl Try.func35 (by kernel_rfl) rfl #[.slice A0 l0.length c0, .slice Ao57 x8_1.length co57] rfl (by (try simp only [List.map_toArray, List.map_cons, List.map_nil]); first | done | rfl | (simp only [List.length_drop, List.length_take]; rfl)) ?_; (with_reducible refine (impl_planOf.calls k1 _ _ l0 _ _ x8_1 t238 t241 t242 _ ?side1 ?side2 ?side3 ?side4 A56.out).mono ?_); (case side1 => repeat (first | exact (Kd.C_below HR0.out HB.out) | (with_reducible refine Kd.C_alloc ?_ _) | (with_reducible refine Kd.C_drewN ?_ _) | (with_reducible refine Kd.C_drew ?_))); (case side2 => exact HC0.out); (case side3 => repeat (first | exact (Kd.R_reads' HO_8.out).2.2 | (with_reducible refine Kd.C_alloc ?_ _) | (with_reducible refine Kd.C_drewN ?_ _) | (with_reducible refine Kd.C_drew ?_))); (case side4 => exact (Kd.R_reads' HO_8.out).2.1); rintro e w58 ⟨v239, rfl, ho0, hb⟩; refine ⟨_, rfl, ?_⟩; have n0_ := Aside0.mk (Kd.S_elder' (by (with_reducible repeat (first | apply Kd.S_alloc | apply Kd.S_drewN | apply Kd.S_drew)); exact HO_7.out) (Kd.R_base ho0) hb); have n1_ := Aside0.mk (Kd.R_elder' (by (with_reducible repeat (first | apply Kd.R_alloc | apply Kd.R_drewN | apply Kd.R_drew)); exact HO_8.out) (Kd.R_base ho0) hb); have n2_ := Aside0.mk (Kd.R_lower (Kd.R_new' ho0 (Kd.R_lt (by (with_reducible repeat (first | apply Kd.R_alloc | apply Kd.R_drewN | apply Kd.R_drew)); exact HO_8.out))) (below_size bl_)); have n3_ := Aside0.mk (blk_below (g := gb228) (o := .cells #[.slice none 0 0, .int .i64 0, .int .i64 0] 31 (0, 0)) bk_ hb); have n4_ := Aside0.mk (below_step bl_ hb); clear HO_7; clear HO_8; clear BK228; clear HB; have HO_7 := n0_; have HO_8 := n1_; have HO240 := n2_; have BK228 := n3_; have HB := n4_; clear n0_ n1_ n2_ n3_ n4_; (try clear hb); (try clear hb2); (try clear hk); (try clear hi); (try clear ho0); obtain ⟨Ao59, co59, eo59⟩ := Kd.R_slice HO240.out; subst eo59; have hcz60_0 : w58.cell? ⟨gb228, 0, none⟩ = some (.slice none 0 0) := (blk_cell BK228.out 0).trans rfl; have hcz60_1 : w58.cell? ⟨gb228, 1, none⟩ = some (.int .i64 0) := (blk_cell BK228.out 1).trans rfl; have hcz60_2 : w58.cell? ⟨gb228, 2, none⟩ = some (.int .i64 0) := (blk_cell BK228.out 2).trans rfl; have hfz60_0 := blk_frozen BK228.out 0; have hfz60_1 := blk_frozen BK228.out 1; have hfz60_2 := blk_frozen BK228.out 2))
    refine bodyPost_ret (results_ct rfl _ _ gb228 31 #[.slice Ao59 t238.length co59, .int .i64 t241, .int .i64 t242] (0, 0) _ rfl (by (with_reducible repeat (first | refine blk_drewN ?_ _ | refine blk_drew ?_ | refine blk_alloc ?_ _)); refine blk_put (cs := #[.slice Ao59 t238.length co59, .int .i64 t241, .int .i64 0]) ?_ 2 _ rfl; (with_reducible repeat (first | refine blk_drewN ?_ _ | refine blk_drew ?_ | refine blk_alloc ?_ _)); refine blk_put (cs := #[.slice Ao59 t238.length co59, .int .i64 0, .int .i64 0]) ?_ 1 _ rfl; (with_reducible repeat (first | refine blk_drewN ?_ _ | refine blk_drew ?_ | refine blk_alloc ?_ _)); refine blk_put (cs := #[.slice none 0 0, .int .i64 0, .int .i64 0]) ?_ 0 _ rfl; (with_reducible repeat (first | refine blk_drewN ?_ _ | refine blk_drew ?_ | refine blk_alloc ?_ _)); exact BK228.out) Try.underlying31 rfl (by kernel_rfl)) rfl ?_
    exact ⟨_, by first | rfl | (simp [errW_none, errW_some] <;> rfl) | (simp [*, errW_none, errW_some] <;> rfl), by (with_reducible repeat (first | apply Kd.R_alloc | apply Kd.R_drewN | apply Kd.R_drew)); exact Kd.R_mono (Kd.R_far (p := ⟨gb228, 2, none⟩) (Kd.R_far (p := ⟨gb228, 1, none⟩) (Kd.R_far (p := ⟨gb228, 0, none⟩) (Kd.R_types HO240.out BK228.out (by decide)) (fun _ hk => hk.2) (.slice Ao59 t238.length co59)) (fun _ hk => hk.2) (.int .i64 t241)) (fun _ hk => hk.2) (.int .i64 t242)) (fun _ hk => trivial), by repeat (first | (with_reducible first | exact HB.out | apply below_alloc | apply pw_below_drewN | apply below_drew1 | refine below_set ?_ GE228.out) | exact HB.out)⟩
   rw [if_pos c23] at H
   have c23b0 : decide (x33_1 < (l0.length : Int)) = true := decide_eq_true c23
   clear c23
   by_cases c24 : 0 ≤ x33_1
   rotate_left
   ·rw [if_neg c24] at H
    exact absurd H (by simp)
   rw [if_pos c24] at H
   have c24b0 : decide (0 ≤ x33_1) = true := decide_eq_true c24
   clear c24
   by_cases c25 : x33_1 < (l0.length : Int)
   rotate_left
   ·rw [if_neg c25] at H
    exact absurd H (by simp)
   rw [if_pos c25] at H
   have c25b0 : decide (x33_1 < (l0.length : Int)) = true := decide_eq_true c25
   clear c25
   by_cases c26 : ((rd_T50 l0 x33_1).f1) = 0
   ·rw [if_pos c26] at H
    exact absurd H (by simp)
   rw [if_neg c26] at H
   have c26b0 : (((rd_T50 l0 x33_1).f1) == 0) = false := beq_eq_false_iff_ne.mpr c26
   have c26b1 : (((rd_T50 l0 x33_1).f1) != 0) = true := bne_iff_ne.mpr c26
   obtain ⟨ji27, hji27⟩ : ∃ j_ : Int, (mn (((rd_T50 l0 x33_1).f3).length : Int) (wrap64 (Int.tdiv x1_1 ((rd_T50 l0 x33_1).f1)))) = j_ := ⟨_, rfl⟩
   replace H : (impl_BestShelf.l1 k1 l0 x1_1 t230 x8_1 x33_1 ji27 l0 (l0.length : Int) x33_1 ((rd_T50 l0 x33_1).f0) ((rd_T50 l0 x33_1).f1) ((rd_T50 l0 x33_1).f2) ((rd_T50 l0 x33_1).f3)) = some (r1, r2, r3, r4) := by first | (rw [hji27] at H; exact H) | (simp only [hji27] at H ⊢; exact H)
   have hji27_ : (if (wrap64 (Int.tdiv x1_1 ((rd_T50 l0 x33_1).f1))) < (((rd_T50 l0 x33_1).f3).length : Int) then (wrap64 (Int.tdiv x1_1 ((rd_T50 l0 x33_1).f1))) else (((rd_T50 l0 x33_1).f3).length : Int)) = ji27 := hji27
   have H' := Aside0.mk H
   clear H
   have p243 : 0 ≤ (x33_1 : Int) := od_
   have q243 : x33_1 < (l0.length : Int) := od_
   obtain ⟨ad243, A243_3, c243_3, e243, hx243_0, hx243_1, hx243_2, hx243_3, hl243_3, hi243_3⟩ := at_T50 HR0.out x33_1 p243 q243
   cases e243
   replace hx243_0 := (HB.out.cell (World.block_lt_of_cell? w _ hx243_0)).trans hx243_0
   replace hx243_1 := (HB.out.cell (World.block_lt_of_cell? w _ hx243_1)).trans hx243_1
   replace hx243_2 := (HB.out.cell (World.block_lt_of_cell? w _ hx243_2)).trans hx243_2
   replace hx243_3 := (HB.out.cell (World.block_lt_of_cell? w _ hx243_3)).trans hx243_3
   have HR243_3 := Aside0.mk hi243_3
   have HC243_3 := Aside0.mk hl243_3
   clear hi243_3 hl243_3
   replace p243 := eq_true p243
   replace q243 := eq_true q243
   try go_wp2_with (first | ((with_reducible refine gate_dst (N := 10) rfl ?_); refine box_event ?hg (N := 10) ?hd (cs := #[.string (⟨#[]⟩ : ByteArray), .int .i64 0, .int .i64 0, .slice none 0 0]) (t := 50) ?hr ?_; (case hd => rfl); (case hg => rfl); (case hr => first | (go_simp; done) | (go_simp; rfl)); intro gb244 hg w28 hbox hb; have n0_ := Aside0.mk (Kd.S_below (by (with_reducible repeat (first | apply Kd.S_alloc | apply Kd.S_drewN | apply Kd.S_drew)); exact HO_7.out) hb); have n1_ := Aside0.mk (Kd.R_below (by (with_reducible repeat (first | apply Kd.R_alloc | apply Kd.R_drewN | apply Kd.R_drew)); exact HO_8.out) hb); have n2_ := Aside0.mk (blk_below (g := gb228) (o := .cells #[.slice none 0 0, .int .i64 0, .int .i64 0] 31 (0, 0)) bk_ hb); have n3_ := Aside0.mk (below_step bl_ hb); have n4_ := Aside0.mk (hbox); have n5_ := Aside0.mk ((by rw [hg]; exact (below_size bl_) : w.heap.size ≤ gb244)); have n6_ := Aside0.mk ((by rw [hg]; exact (below_size bl_) : w.heap.size ≤ gb244)); have n7_ := Aside0.mk ((by rw [hg]; exact Nat.ne_of_lt (blk_lt (g := gb228) (o := .cells #[.slice none 0 0, .int .i64 0, .int .i64 0] 31 (0, 0)) bk_) : gb228 ≠ gb244)); have n8_ := Aside0.mk ((by rw [hg]; exact Nat.ne_of_gt (blk_lt (g := gb228) (o := .cells #[.slice none 0 0, .int .i64 0, .int .i64 0] 31 (0, 0)) bk_) : gb244 ≠ gb228)); clear HO_7; clear HO_8; clear BK228; clear HB; have HO_7 := n0_; have HO_8 := n1_; have BK228 := n2_; have HB := n3_; have BK244 := n4_; have GW244 := n5_; have GE244 := n6_; have NB228_244 := n7_; have NB244_228 := n8_; clear n0_ n1_ n2_ n3_ n4_ n5_ n6_ n7_ n8_; clear hb hbox hg; have hnb29 := NB244_228.out; have hnc29 := NB228_244.out; have hcz30_0 : w28.cell? ⟨gb244, 0, none⟩ = some (.string (⟨#[]⟩ : ByteArray)) := (blk_cell BK244.out 0).trans rfl; have hcz30_1 : w28.cell? ⟨gb244, 1, none⟩ = some (.int .i64 0) := (blk_cell BK244.out 1).trans rfl; have hcz30_2 : w28.cell? ⟨gb244, 2, none⟩ = some (.int .i64 0) := (blk_cell BK244.out 2).trans rfl; have hcz30_3 : w28.cell? ⟨gb244, 3, none⟩ = some (.slice none 0 0) := (blk_cell BK244.out 3).trans rfl; have hfz30_0 := blk_frozen BK244.out 0; have hfz30_1 := blk_frozen BK244.out 1; have hfz30_2 := blk_frozen BK244.out 2; have hfz30_3 := blk_frozen BK244.out 3))
   have n0_ : Aside0 (Kd.S (Kd.slice 3 (Kd.int .i64)) 29 ((((w28.setCell ⟨gb244, 0, none⟩ (.string ((rd_T50 l0 x33_1).f0))).setCell ⟨gb244, 1, none⟩ (.int .i64 ((rd_T50 l0 x33_1).f1))).setCell ⟨gb244, 2, none⟩ (.int .i64 ((rd_T50 l0 x33_1).f2))).setCell ⟨gb244, 3, none⟩ (.slice A243_3 ((rd_T50 l0 x33_1).f3).length c243_3)) w.heap.size (fun k_ => some k_ ≠ (u8 : Value).ownBlock) (.slice (some ad236) t230.length co22) t230) := ⟨by (with_reducible repeat (first | apply Kd.S_alloc | apply Kd.S_drewN | apply Kd.S_drew)); exact Kd.S_mono (Kd.S_far (p := ⟨gb244, 3, none⟩) (Kd.S_far (p := ⟨gb244, 2, none⟩) (Kd.S_far (p := ⟨gb244, 1, none⟩) (Kd.S_far (p := ⟨gb244, 0, none⟩) (Kd.S_types HO_7.out BK244.out (by decide)) (fun _ hk => hk.2) (.string ((rd_T50 l0 x33_1).f0))) (fun _ hk => hk.2) (.int .i64 ((rd_T50 l0 x33_1).f1))) (fun _ hk => hk.2) (.int .i64 ((rd_T50 l0 x33_1).f2))) (fun _ hk => hk.2) (.slice A243_3 ((rd_T50 l0 x33_1).f3).length c243_3)) (fun _ hk => hk.1)⟩
   have n1_ : Aside0 (Kd.R (Kd.int .i64) 3 ((((w28.setCell ⟨gb244, 0, none⟩ (.string ((rd_T50 l0 x33_1).f0))).setCell ⟨gb244, 1, none⟩ (.int .i64 ((rd_T50 l0 x33_1).f1))).setCell ⟨gb244, 2, none⟩ (.int .i64 ((rd_T50 l0 x33_1).f2))).setCell ⟨gb244, 3, none⟩ (.slice A243_3 ((rd_T50 l0 x33_1).f3).length c243_3)) w.heap.size (fun _ => True) u8 x8_1) := ⟨by (with_reducible repeat (first | apply Kd.R_alloc | apply Kd.R_drewN | apply Kd.R_drew)); exact Kd.R_mono (Kd.R_far (p := ⟨gb244, 3, none⟩) (Kd.R_far (p := ⟨gb244, 2, none⟩) (Kd.R_far (p := ⟨gb244, 1, none⟩) (Kd.R_far (p := ⟨gb244, 0, none⟩) (Kd.R_types HO_8.out BK244.out (by decide)) (fun _ hk => hk.2) (.string ((rd_T50 l0 x33_1).f0))) (fun _ hk => hk.2) (.int .i64 ((rd_T50 l0 x33_1).f1))) (fun _ hk => hk.2) (.int .i64 ((rd_T50 l0 x33_1).f2))) (fun _ hk => hk.2) (.slice A243_3 ((rd_T50 l0 x33_1).f3).length c243_3)) (fun _ hk => trivial)⟩
   have n2_ : Aside0 (((((w28.setCell ⟨gb244, 0, none⟩ (.string ((rd_T50 l0 x33_1).f0))).setCell ⟨gb244, 1, none⟩ (.int .i64 ((rd_T50 l0 x33_1).f1))).setCell ⟨gb244, 2, none⟩ (.int .i64 ((rd_T50 l0 x33_1).f2))).setCell ⟨gb244, 3, none⟩ (.slice A243_3 ((rd_T50 l0 x33_1).f3).length c243_3)).heap[gb228]? = some (.cells #[.slice none 0 0, .int .i64 0, .int .i64 0] 31 (0, 0))) := ⟨by (with_reducible repeat (first | refine blk_drewN ?_ _ | refine blk_drew ?_ | refine blk_alloc ?_ _)); refine blk_far ?_ NB228_244.out _; (with_reducible repeat (first | refine blk_drewN ?_ _ | refine blk_drew ?_ | refine blk_alloc ?_ _)); refine blk_far ?_ NB228_244.out _; (with_reducible repeat (first | refine blk_drewN ?_ _ | refine blk_drew ?_ | refine blk_alloc ?_ _)); refine blk_far ?_ NB228_244.out _; (with_reducible repeat (first | refine blk_drewN ?_ _ | refine blk_drew ?_ | refine blk_alloc ?_ _)); exact blk_far bk_ NB228_244.out _⟩
   have n3_ : Aside0 (((((w28.setCell ⟨gb244, 0, none⟩ (.string ((rd_T50 l0 x33_1).f0))).setCell ⟨gb244, 1, none⟩ (.int .i64 ((rd_T50 l0 x33_1).f1))).setCell ⟨gb244, 2, none⟩ (.int .i64 ((rd_T50 l0 x33_1).f2))).setCell ⟨gb244, 3, none⟩ (.slice A243_3 ((rd_T50 l0 x33_1).f3).length c243_3)).heap[gb244]? = some (.cells #[.string ((rd_T50 l0 x33_1).f0), .int .i64 ((rd_T50 l0 x33_1).f1), .int .i64 ((rd_T50 l0 x33_1).f2), .slice A243_3 ((rd_T50 l0 x33_1).f3).length c243_3] 50 (0, 0))) := ⟨by (with_reducible repeat (first | refine blk_drewN ?_ _ | refine blk_drew ?_ | refine blk_alloc ?_ _)); refine blk_put (cs := #[.string ((rd_T50 l0 x33_1).f0), .int .i64 ((rd_T50 l0 x33_1).f1), .int .i64 ((rd_T50 l0 x33_1).f2), .slice none 0 0]) ?_ 3 _ rfl; (with_reducible repeat (first | refine blk_drewN ?_ _ | refine blk_drew ?_ | refine blk_alloc ?_ _)); refine blk_put (cs := #[.string ((rd_T50 l0 x33_1).f0), .int .i64 ((rd_T50 l0 x33_1).f1), .int .i64 0, .slice none 0 0]) ?_ 2 _ rfl; (with_reducible repeat (first | refine blk_drewN ?_ _ | refine blk_drew ?_ | refine blk_alloc ?_ _)); refine blk_put (cs := #[.string ((rd_T50 l0 x33_1).f0), .int .i64 0, .int .i64 0, .slice none 0 0]) ?_ 1 _ rfl; (with_reducible repeat (first | refine blk_drewN ?_ _ | refine blk_drew ?_ | refine blk_alloc ?_ _)); refine blk_put (cs := #[.string (⟨#[]⟩ : ByteArray), .int .i64 0, .int .i64 0, .slice none 0 0]) ?_ 0 _ rfl; (with_reducible repeat (first | refine blk_drewN ?_ _ | refine blk_drew ?_ | refine blk_alloc ?_ _)); exact BK244.out⟩
   have n4_ : Aside0 (Below w.heap.size w ((((w28.setCell ⟨gb244, 0, none⟩ (.string ((rd_T50 l0 x33_1).f0))).setCell ⟨gb244, 1, none⟩ (.int .i64 ((rd_T50 l0 x33_1).f1))).setCell ⟨gb244, 2, none⟩ (.int .i64 ((rd_T50 l0 x33_1).f2))).setCell ⟨gb244, 3, none⟩ (.slice A243_3 ((rd_T50 l0 x33_1).f3).length c243_3))) := ⟨by repeat (first | (with_reducible first | exact HB.out | apply below_alloc | apply pw_below_drewN | apply below_drew1 | refine below_set ?_ GE228.out | refine below_set ?_ GE244.out) | exact HB.out)⟩
   (try clear HO_7)
   (try clear HO_8)
   (try clear BK228)
   (try clear BK244)
   (try clear HB)
   generalize ((((w28.setCell ⟨gb244, 0, none⟩ (.string ((rd_T50 l0 x33_1).f0))).setCell ⟨gb244, 1, none⟩ (.int .i64 ((rd_T50 l0 x33_1).f1))).setCell ⟨gb244, 2, none⟩ (.int .i64 ((rd_T50 l0 x33_1).f2))).setCell ⟨gb244, 3, none⟩ (.slice A243_3 ((rd_T50 l0 x33_1).f3).length c243_3)) = w31 at n0_ n1_ n2_ n3_ n4_ ⊢
   have HO_7 := n0_
   have HO_8 := n1_
   have BK228 := n2_
   have BK244 := n3_
   have HB := n4_
   clear n0_ n1_ n2_ n3_ n4_
   have n0_ := Aside0.mk (Kd.S_drew HO_7.out)
   have n1_ := Aside0.mk (Kd.R_drew HO_8.out)
   have n2_ := Aside0.mk (blk_drew BK228.out)
   have n3_ := Aside0.mk (blk_drew BK244.out)
   have n4_ := Aside0.mk (below_drew1 HB.out)
   clear HO_7
   clear HO_8
   clear BK228
   clear BK244
   clear HB
   have HO_7 := n0_
   have HO_8 := n1_
   have BK228 := n2_
   have BK244 := n3_
   have HB := n4_
   clear n0_ n1_ n2_ n3_ n4_
   refine start_ (n := 9) (S := fun w' => w'.cell? ⟨gb244, 0, none⟩ = some (.string ((rd_T50 l0 x33_1).f0)) ∧ w'.cell? ⟨gb244, 1, none⟩ = some (.int .i64 ((rd_T50 l0 x33_1).f1)) ∧ w'.cell? ⟨gb244, 2, none⟩ = some (.int .i64 ((rd_T50 l0 x33_1).f2)) ∧ w'.cell? ⟨gb244, 3, none⟩ = some (.slice A243_3 ((rd_T50 l0 x33_1).f3).length c243_3)) (ds := []) (msk 0 9) (by kernel_rfl) rfl rfl ⟨(blk_cell BK244.out 0).trans rfl, (blk_cell BK244.out 1).trans rfl, (blk_cell BK244.out 2).trans rfl, (blk_cell BK244.out 3).trans rfl⟩ (fun hHeld => ?_); refine with_tabW impl_BestShelf.tab10 impl_BestShelf.bits10 (fun HT_ HW_ => ?_)
   generalize w31.drew = w32 at HO_7 HO_8 BK228 BK244 HB hHeld ⊢
   refine pu_ 0 38 (msk 1 8) HT_.out ?_; refine pu_ 3 41 (mskl 9 1 [3]) HT_.out ?_; refine pu_ 4 42 (mskl 9 1 [3, 4]) HT_.out ?_
   refine tk_ 1 39 (mskl 9 2 [3, 4]) HT_.out HW_.out hHeld ?_ (hy := by rintro w' ⟨s0, s1, s2, s3⟩; go_simp; with_reducible rfl)
   refine pu_ 2 40 (msk 5 4) HT_.out ?_
   refine tk_ 5 43 (msk 6 3) HT_.out HW_.out hHeld ?_ (hy := by rintro w' ⟨s0, s1, s2, s3⟩; go_simp; with_reducible rfl)
   refine pu_ 6 44 (msk 7 2) HT_.out ?_; refine pu_ 7 45 (msk 8 1) HT_.out ?_; refine pu_ 8 11 (msk 9 0) HT_.out ?_
   refine done_ (done_of HT_.out (by kernel_rfl)) ?_
   try go_wp2
   go_loopg [11] k1 (fun kq v11 w' => ∃ (x11_2 : Int), v11 = .int .i64 x11_2 ∧ Aside0 (impl_BestShelf.l1 kq l0 x1_1 t230 x8_1 x33_1 x11_2 l0 (l0.length : Int) x33_1 ((rd_T50 l0 x33_1).f0) ((rd_T50 l0 x33_1).f1) ((rd_T50 l0 x33_1).f2) ((rd_T50 l0 x33_1).f3) = some (r1, r2, r3, r4)) ∧ Aside0 (kq ≤ k1) ∧ Aside0 (Kd.S (Kd.slice 3 (Kd.int .i64)) 29 w' w.heap.size (fun k_ => some k_ ≠ (u8 : Value).ownBlock) (.slice (some ad236) t230.length co22) t230) ∧ Aside0 (Kd.R (Kd.int .i64) 3 w' w.heap.size (fun _ => True) u8 x8_1) ∧ Aside0 (w'.heap[gb228]? = some (.cells #[(.slice none 0 0), .int .i64 0, .int .i64 0] 31 (0, 0))) ∧ Aside0 (w'.heap[gb244]? = some (.cells #[.string ((rd_T50 l0 x33_1).f0), .int .i64 ((rd_T50 l0 x33_1).f1), .int .i64 ((rd_T50 l0 x33_1).f2), (.slice A243_3 ((rd_T50 l0 x33_1).f3).length c243_3)] 50 (0, 0))) ∧ Aside0 (Below w.heap.size w w'))
   case atStart => exact ⟨(ji27), (by first | rfl | (simp; done) | (simp only [← hji27] <;> (first | rfl | simp)) | (simp [*]; done)), H', ⟨Nat.le_refl _⟩, ⟨by (with_reducible repeat (first | apply Kd.S_alloc | apply Kd.S_drewN | apply Kd.S_drew)); exact HO_7.out⟩, ⟨by (with_reducible repeat (first | apply Kd.R_alloc | apply Kd.R_drewN | apply Kd.R_drew)); exact HO_8.out⟩, ⟨by (with_reducible repeat (first | refine blk_drewN ?_ _ | refine blk_drew ?_ | refine blk_alloc ?_ _)); exact BK228.out⟩, ⟨by (with_reducible repeat (first | refine blk_drewN ?_ _ | refine blk_drew ?_ | refine blk_alloc ?_ _)); exact BK244.out⟩, ⟨by repeat (first | (with_reducible first | exact HB.out | apply below_alloc | apply pw_below_drewN | apply below_drew1 | refine below_set ?_ GE228.out | refine below_set ?_ GE244.out) | exact HB.out)⟩⟩
   case round =>
    clear H'
    (try clear p6); (try clear c23); (try clear c23b0); (try clear p23); (try clear q23); (try clear hx23); (try clear qi23); (try clear c24); (try clear c24b0); (try clear p24); (try clear q24); (try clear hx24); (try clear c25); (try clear c25b0); (try clear c26); (try clear c26b0); (try clear c26b1); (try clear c29); (try clear hcz30_0); (try clear hcz30_1); (try clear hcz30_2); (try clear hcz30_3); (try clear hfz30_0); (try clear hfz30_1); (try clear hfz30_2); (try clear hfz30_3); (try clear hx243_0); (try clear hx243_1); (try clear hx243_2); (try clear hx243_3); (try clear p243); (try clear q243)
    obtain ⟨x11_2, rfl, HA, HK2, HO_7, HO_8, BK228, BK244, HB⟩ := hrel
    cases gk with
    | zero => exact absurd HA.out (by simp [impl_BestShelf.l1])
    | succ k2 =>
     have H := HA.out
     clear HA
     simp only [impl_BestShelf.l1] at H
     obtain ⟨ji33, hji33⟩ : ∃ j_ : Int, (wrap64 (x33_1 + 1)) = j_ := ⟨_, rfl⟩
     replace H : (if 0 ≤ (ji33) then (if (ji33) < (t230.length : Int) then (if 0 ≤ (wrap64 (x1_1 - (wrap64 (x11_2 * ((rd_T50 l0 x33_1).f1))))) then (if (wrap64 (x1_1 - (wrap64 (x11_2 * ((rd_T50 l0 x33_1).f1))))) < ((rd_L2 t230 (ji33)).length : Int) then (if (rd (rd_L2 t230 (ji33)) (wrap64 (x1_1 - (wrap64 (x11_2 * ((rd_T50 l0 x33_1).f1)))))) < 0 then (impl_BestShelf.l1 k2 l0 x1_1 t230 x8_1 x33_1 (wrap64 (x11_2 - 1)) l0 (l0.length : Int) x33_1 ((rd_T50 l0 x33_1).f0) ((rd_T50 l0 x33_1).f1) ((rd_T50 l0 x33_1).f2) ((rd_T50 l0 x33_1).f3)) else (if 0 ≤ x11_2 then (if x11_2 ≤ (((rd_T50 l0 x33_1).f3).length : Int) then ((impl_sumOf.f k2 (((rd_T50 l0 x33_1).f3).take (x11_2 : Int).toNat)).bind fun t250 => (if 0 ≤ x33_1 then (if x33_1 < (t230.length : Int) then (if 0 ≤ x1_1 then (if x1_1 < ((rd_L2 t230 x33_1).length : Int) then (if (wrap64 ((rd (rd_L2 t230 (ji33)) (wrap64 (x1_1 - (wrap64 (x11_2 * ((rd_T50 l0 x33_1).f1)))))) + t250)) = (rd (rd_L2 t230 x33_1) x1_1) then (if x8_1.length < 17592186044416 then (impl_BestShelf.l0 k2 l0 (wrap64 (x1_1 - (wrap64 (x11_2 * ((rd_T50 l0 x33_1).f1))))) t230 (x8_1 ++ [x11_2]) l0 (l0.length : Int) ji33) else (none)) else (impl_BestShelf.l1 k2 l0 x1_1 t230 x8_1 x33_1 (wrap64 (x11_2 - 1)) l0 (l0.length : Int) x33_1 ((rd_T50 l0 x33_1).f0) ((rd_T50 l0 x33_1).f1) ((rd_T50 l0 x33_1).f2) ((rd_T50 l0 x33_1).f3))) else (none)) else (none)) else (none)) else (none))) else (none)) else (none))) else (none)) else (none)) else (none)) else (none)) = some (r1, r2, r3, r4) := by first | (rw [hji33] at H; exact H) | (simp only [hji33] at H ⊢; exact H)
     have hji33w : (IntKind.i64.wrap (x33_1 + 1)) = ji33 := (i64_w _).trans hji33
     by_cases c34 : 0 ≤ (ji33)
     rotate_left
     ·rw [if_neg c34] at H
      exact absurd H (by simp)
     rw [if_pos c34] at H
     have c34b0 : decide (0 ≤ (ji33)) = true := decide_eq_true c34
     clear c34
     by_cases c35 : (ji33) < (t230.length : Int)
     rotate_left
     ·rw [if_neg c35] at H
      exact absurd H (by simp)
     rw [if_pos c35] at H
     have c35b0 : decide ((ji33) < (t230.length : Int)) = true := decide_eq_true c35
     clear c35
     obtain ⟨ji36, hji36⟩ : ∃ j_ : Int, (wrap64 (x1_1 - (wrap64 (x11_2 * ((rd_T50 l0 x33_1).f1))))) = j_ := ⟨_, rfl⟩
     replace H : (if 0 ≤ (ji36) then (if (ji36) < ((rd_L2 t230 (ji33)).length : Int) then (if (rd (rd_L2 t230 (ji33)) (ji36)) < 0 then (impl_BestShelf.l1 k2 l0 x1_1 t230 x8_1 x33_1 (wrap64 (x11_2 - 1)) l0 (l0.length : Int) x33_1 ((rd_T50 l0 x33_1).f0) ((rd_T50 l0 x33_1).f1) ((rd_T50 l0 x33_1).f2) ((rd_T50 l0 x33_1).f3)) else (if 0 ≤ x11_2 then (if x11_2 ≤ (((rd_T50 l0 x33_1).f3).length : Int) then ((impl_sumOf.f k2 (((rd_T50 l0 x33_1).f3).take (x11_2 : Int).toNat)).bind fun t250 => (if 0 ≤ x33_1 then (if x33_1 < (t230.length : Int) then (if 0 ≤ x1_1 then (if x1_1 < ((rd_L2 t230 x33_1).length : Int) then (if (wrap64 ((rd (rd_L2 t230 (ji33)) (ji36)) + t250)) = (rd (rd_L2 t230 x33_1) x1_1) then (if x8_1.length < 17592186044416 then (impl_BestShelf.l0 k2 l0 ji36 t230 (x8_1 ++ [x11_2]) l0 (l0.length : Int) ji33) else (none)) else (impl_BestShelf.l1 k2 l0 x1_1 t230 x8_1 x33_1 (wrap64 (x11_2 - 1)) l0 (l0.length : Int) x33_1 ((rd_T50 l0 x33_1).f0) ((rd_T50 l0 x33_1).f1) ((rd_T50 l0 x33_1).f2) ((rd_T50 l0 x33_1).f3))) else (none)) else (none)) else (none)) else (none))) else (none)) else (none))) else (none)) else (none)) = some (r1, r2, r3, r4) := by first | (rw [hji36] at H; exact H) | (simp only [hji36] at H ⊢; exact H)
     have hji36w : (IntKind.i64.wrap (x1_1 - (wrap64 (x11_2 * ((rd_T50 l0 x33_1).f1))))) = ji36 := (i64_w _).trans hji36
     by_cases c37 : 0 ≤ (ji36)
     rotate_left
     ·rw [if_neg c37] at H
      exact absurd H (by simp)
     rw [if_pos c37] at H
     have c37b0 : decide (0 ≤ (ji36)) = true := decide_eq_true c37
     clear c37
     by_cases c38 : (ji36) < ((rd_L2 t230 (ji33)).length : Int)
     rotate_left
     ·rw [if_neg c38] at H
      exact absurd H (by simp)
     rw [if_pos c38] at H
     have c38b0 : decide ((ji36) < ((rd_L2 t230 (ji33)).length : Int)) = true := decide_eq_true c38
     clear c38
     by_cases c39 : (rd (rd_L2 t230 (ji33)) (ji36)) < 0
     ·rw [if_pos c39] at H
      have c39b0 : decide ((rd (rd_L2 t230 (ji33)) (ji36)) < 0) = true := decide_eq_true c39
      clear c39
      have H' := Aside0.mk H
      clear H
      try go_wp2
      have n0_ := Aside0.mk (Kd.S_drew HO_7.out)
      have n1_ := Aside0.mk (Kd.R_drew HO_8.out)
      have n2_ := Aside0.mk (blk_drew BK228.out)
      have n3_ := Aside0.mk (blk_drew BK244.out)
      have n4_ := Aside0.mk (below_drew1 HB.out)
      clear HO_7
      clear HO_8
      clear BK228
      clear BK244
      clear HB
      have HO_7 := n0_
      have HO_8 := n1_
      have BK228 := n2_
      have BK244 := n3_
      have HB := n4_
      clear n0_ n1_ n2_ n3_ n4_
      have p245 : 0 ≤ ((ji33) : Int) := od_
      have q245 : (ji33) < (t230.length : Int) := od_
      obtain ⟨ad245, A245_0, c245_0, e245, hx245_0, hl245_0, hi245_0⟩ := at_L2 (Kd.S_reads' HO_7.out).2.2 (ji33) p245 q245
      obtain rfl : ad236 = ad245 := (by injection e245)
      obtain ⟨ce245, hce245, hMe245, hcc245⟩ := Kd.S_get HO_7.out [] (ji33) p245 (by first | exact q245 | exact od_ | (have e_ := (Kd.S_reads' HO_7.out).1; omega))
      obtain ⟨ve245_0, rfl, ge245_0⟩ := hMe245
      have hv245_0 := hcc245 0 _ rfl
      rw [Nat.add_zero, show ((Kd.slice 3 (Kd.int .i64))).sz = 1 from rfl, Nat.mul_one] at hv245_0
      replace hv245_0 := Option.some.inj (hv245_0.symm.trans hx245_0)
      rw [hv245_0] at ge245_0
      have HL245_0 := Aside0.mk (show Kd.R (Kd.int .i64) 3 _ _ _ _ (rd_L2 t230 (ji33)) from ge245_0)
      clear hv245_0 ge245_0
      clear hcc245 hce245
      have HR245_0 := Aside0.mk hi245_0
      have HC245_0 := Aside0.mk hl245_0
      clear hi245_0 hl245_0
      replace p245 := eq_true p245
      replace q245 := eq_true q245
      have p246 : 0 ≤ ((ji36) : Int) := od_
      have q246 : (ji36) < ((rd_L2 t230 (ji33)).length : Int) := od_
      obtain ⟨ad246, e246, hx246_0⟩ := Kd.at_int (by repeat (first | (with_reducible exact HR245_0.out) | (with_reducible refine Kd.C_alloc ?_ _) | (with_reducible refine Kd.C_drewN ?_ _) | (with_reducible refine Kd.C_drew ?_) | exact HR245_0.out)) (ji36) p246 q246
      cases e246
      replace p246 := eq_true p246
      replace q246 := eq_true q246
      refine start_ (n := 43) (S := fun w' => w'.cell? ⟨gb244, 0, none⟩ = some (.string ((rd_T50 l0 x33_1).f0)) ∧ w'.cell? ⟨gb244, 1, none⟩ = some (.int .i64 ((rd_T50 l0 x33_1).f1)) ∧ w'.cell? ⟨gb244, 2, none⟩ = some (.int .i64 ((rd_T50 l0 x33_1).f2)) ∧ w'.cell? ⟨gb244, 3, none⟩ = some (.slice A243_3 ((rd_T50 l0 x33_1).f3).length c243_3) ∧ w'.cell? (ad236.add ((ji33)).toNat) = some (.slice (some ad246) (rd_L2 t230 (ji33)).length c245_0) ∧ w'.cell? (ad246.add ((ji36)).toNat) = some (.int .i64 (rd (rd_L2 t230 (ji33)) (ji36)))) (ds := []) (msk 0 43) (by kernel_rfl) rfl rfl ⟨(blk_cell BK244.out 0).trans rfl, (blk_cell BK244.out 1).trans rfl, (blk_cell BK244.out 2).trans rfl, (blk_cell BK244.out 3).trans rfl, hx245_0, hx246_0⟩ (fun hHeld => ?_); refine with_tabW impl_BestShelf.tab11 impl_BestShelf.bits11 (fun HT_ HW_ => ?_)
      generalize wr.drew = w40 at HO_7 HO_8 BK228 BK244 HB HL245_0 HR245_0 hx245_0 hx246_0 hHeld ⊢
      refine pu_ 0 46 (msk 1 42) HT_.out ?_; refine pu_ 1 47 (msk 2 41) HT_.out ?_; refine pu_ 2 48 (msk 3 40) HT_.out ?_; refine pu_ 3 49 (msk 4 39) HT_.out ?_; refine pu_ 5 51 (mskl 43 4 [5]) HT_.out ?_; refine pu_ 6 52 (mskl 43 4 [5, 6]) HT_.out ?_; refine pu_ 7 53 (mskl 43 4 [5, 6, 7]) HT_.out ?_
      refine tk_ 4 50 (msk 8 35) HT_.out HW_.out hHeld ?_ (hy := by rintro w' ⟨s0, s1, s2, s3, s4, s5⟩; go_simp; with_reducible rfl)
      refine tk_ 8 54 (msk 9 34) HT_.out HW_.out hHeld ?_ (hy := by rintro w' ⟨s0, s1, s2, s3, s4, s5⟩; go_simp; with_reducible rfl)
      refine pu_ 9 55 (msk 10 33) HT_.out ?_; refine pu_ 10 56 (msk 11 32) HT_.out ?_; refine pu_ 11 57 (msk 12 31) HT_.out ?_
      refine tk_ 12 58 (msk 13 30) HT_.out HW_.out hHeld ?_ (hy := by rintro w' ⟨s0, s1, s2, s3, s4, s5⟩; go_simp; with_reducible rfl)
      refine pu_ 13 59 (msk 14 29) HT_.out ?_; refine pu_ 14 60 (msk 15 28) HT_.out ?_; refine pn_ 15 61 (msk 16 27) HT_.out ?_; refine pn_ 16 62 (msk 17 26) HT_.out ?_; refine pn_ 17 63 (msk 18 25) HT_.out ?_; refine pn_ 18 64 (msk 19 24) HT_.out ?_; refine pn_ 19 65 (msk 20 23) HT_.out ?_; refine pn_ 20 66 (msk 21 22) HT_.out ?_; refine pn_ 21 67 (msk 22 21) HT_.out ?_; refine pn_ 22 68 (msk 23 20) HT_.out ?_; refine pn_ 23 69 (msk 24 19) HT_.out ?_; refine pn_ 24 70 (msk 25 18) HT_.out ?_; refine pn_ 25 71 (msk 26 17) HT_.out ?_; refine pn_ 26 72 (msk 27 16) HT_.out ?_; refine pn_ 27 73 (msk 28 15) HT_.out ?_; refine pn_ 28 74 (msk 29 14) HT_.out ?_; refine pn_ 29 75 (msk 30 13) HT_.out ?_; refine pn_ 30 76 (msk 31 12) HT_.out ?_; refine pn_ 31 77 (msk 32 11) HT_.out ?_; refine pn_ 32 78 (msk 33 10) HT_.out ?_; refine pn_ 33 79 (msk 34 9) HT_.out ?_; refine pn_ 34 80 (msk 35 8) HT_.out ?_; refine pn_ 35 81 (msk 36 7) HT_.out ?_; refine pn_ 36 82 (msk 37 6) HT_.out ?_; refine pn_ 37 83 (msk 38 5) HT_.out ?_; refine pn_ 38 84 (msk 39 4) HT_.out ?_; refine pn_ 39 85 (msk 40 3) HT_.out ?_; refine pn_ 40 86 (msk 41 2) HT_.out ?_; refine pn_ 41 87 (msk 42 1) HT_.out ?_; refine pu_ 42 88 (msk 43 0) HT_.out ?_
      refine done_ (done_of HT_.out (by kernel_rfl)) ?_
      try go_wp2
      go_roundg k2
      case measure => have := HK1.out; have := HK2.out; omega
      case rel => exact ⟨(wrap64 (x11_2 - 1)), (by first | rfl | (simp; done) | (simp [*]; done)), H', ⟨by have := HK1.out; have := HK2.out; omega⟩, ⟨by (with_reducible repeat (first | apply Kd.S_alloc | apply Kd.S_drewN | apply Kd.S_drew)); exact HO_7.out⟩, ⟨by (with_reducible repeat (first | apply Kd.R_alloc | apply Kd.R_drewN | apply Kd.R_drew)); exact HO_8.out⟩, ⟨by (with_reducible repeat (first | refine blk_drewN ?_ _ | refine blk_drew ?_ | refine blk_alloc ?_ _)); exact BK228.out⟩, ⟨by (with_reducible repeat (first | refine blk_drewN ?_ _ | refine blk_drew ?_ | refine blk_alloc ?_ _)); exact BK244.out⟩, ⟨by repeat (first | (with_reducible first | exact HB.out | apply below_alloc | apply pw_below_drewN | apply below_drew1 | refine below_set ?_ GE228.out | refine below_set ?_ GE244.out) | exact HB.out)⟩⟩
     rw [if_neg c39] at H
     have c39b0 : decide ((rd (rd_L2 t230 (ji33)) (ji36)) < 0) = false := decide_eq_false c39
     clear c39
     by_cases c41 : 0 ≤ x11_2
     rotate_left
     ·rw [if_neg c41] at H
      exact absurd H (by simp)
     rw [if_pos c41] at H
     have c41b0 := eq_true c41
     have c41b1 : decide (0 ≤ x11_2) = true := decide_eq_true c41
     clear c41
     by_cases c42 : x11_2 ≤ (((rd_T50 l0 x33_1).f3).length : Int)
     rotate_left
     ·rw [if_neg c42] at H
      exact absurd H (by simp)
     rw [if_pos c42] at H
     have c42b0 := eq_true c42
     have c42b1 : decide (x11_2 ≤ (((rd_T50 l0 x33_1).f3).length : Int)) = true := decide_eq_true c42
     clear c42
     replace H := Option.bind_eq_some_iff.mp H
     obtain ⟨t250, A430, H⟩ := H
     replace H : (if 0 ≤ x33_1 then (if x33_1 < (t230.length : Int) then (if 0 ≤ x1_1 then (if x1_1 < ((rd_L2 t230 x33_1).length : Int) then (if (wrap64 ((rd (rd_L2 t230 (ji33)) (ji36)) + t250)) = (rd (rd_L2 t230 x33_1) x1_1) then (if x8_1.length < 17592186044416 then (impl_BestShelf.l0 k2 l0 ji36 t230 (x8_1 ++ [x11_2]) l0 (l0.length : Int) ji33) else (none)) else (impl_BestShelf.l1 k2 l0 x1_1 t230 x8_1 x33_1 (wrap64 (x11_2 - 1)) l0 (l0.length : Int) x33_1 ((rd_T50 l0 x33_1).f0) ((rd_T50 l0 x33_1).f1) ((rd_T50 l0 x33_1).f2) ((rd_T50 l0 x33_1).f3))) else (none)) else (none)) else (none)) else (none)) = some (r1, r2, r3, r4) := H
     have A43 := Aside0.mk A430
     clear A430
     by_cases c44 : 0 ≤ x33_1
     rotate_left
     ·rw [if_neg c44] at H
      exact absurd H (by simp)
     rw [if_pos c44] at H
     have c44b0 : decide (0 ≤ x33_1) = true := decide_eq_true c44
     clear c44
     by_cases c45 : x33_1 < (t230.length : Int)
     rotate_left
     ·rw [if_neg c45] at H
      exact absurd H (by simp)
     rw [if_pos c45] at H
     have c45b0 : decide (x33_1 < (t230.length : Int)) = true := decide_eq_true c45
     clear c45
     by_cases c46 : 0 ≤ x1_1
     rotate_left
     ·rw [if_neg c46] at H
      exact absurd H (by simp)
     rw [if_pos c46] at H
     have c46b0 : decide (0 ≤ x1_1) = true := decide_eq_true c46
     clear c46
     by_cases c47 : x1_1 < ((rd_L2 t230 x33_1).length : Int)
     rotate_left
     ·rw [if_neg c47] at H
      exact absurd H (by simp)
     rw [if_pos c47] at H
     have c47b0 : decide (x1_1 < ((rd_L2 t230 x33_1).length : Int)) = true := decide_eq_true c47
     clear c47
     by_cases c48 : (wrap64 ((rd (rd_L2 t230 (ji33)) (ji36)) + t250)) = (rd (rd_L2 t230 x33_1) x1_1)
     rotate_left
     ·rw [if_neg c48] at H
      have c48b0 : ((wrap64 ((rd (rd_L2 t230 (ji33)) (ji36)) + t250)) == (rd (rd_L2 t230 x33_1) x1_1)) = false := beq_eq_false_iff_ne.mpr c48
      have c48b1 : ((wrap64 ((rd (rd_L2 t230 (ji33)) (ji36)) + t250)) != (rd (rd_L2 t230 x33_1) x1_1)) = true := bne_iff_ne.mpr c48
      have H' := Aside0.mk H
      clear H
      try go_wp2
      have n0_ := Aside0.mk (Kd.S_drew HO_7.out)
      have n1_ := Aside0.mk (Kd.R_drew HO_8.out)
      have n2_ := Aside0.mk (blk_drew BK228.out)
      have n3_ := Aside0.mk (blk_drew BK244.out)
      have n4_ := Aside0.mk (below_drew1 HB.out)
      clear HO_7
      clear HO_8
      clear BK228
      clear BK244
      clear HB
      have HO_7 := n0_
      have HO_8 := n1_
      have BK228 := n2_
      have BK244 := n3_
      have HB := n4_
      clear n0_ n1_ n2_ n3_ n4_
      have p245 : 0 ≤ ((ji33) : Int) := od_
      have q245 : (ji33) < (t230.length : Int) := od_
      obtain ⟨ad245, A245_0, c245_0, e245, hx245_0, hl245_0, hi245_0⟩ := at_L2 (Kd.S_reads' HO_7.out).2.2 (ji33) p245 q245
      obtain rfl : ad236 = ad245 := (by injection e245)
      obtain ⟨ce245, hce245, hMe245, hcc245⟩ := Kd.S_get HO_7.out [] (ji33) p245 (by first | exact q245 | exact od_ | (have e_ := (Kd.S_reads' HO_7.out).1; omega))
      obtain ⟨ve245_0, rfl, ge245_0⟩ := hMe245
      have hv245_0 := hcc245 0 _ rfl
      rw [Nat.add_zero, show ((Kd.slice 3 (Kd.int .i64))).sz = 1 from rfl, Nat.mul_one] at hv245_0
      replace hv245_0 := Option.some.inj (hv245_0.symm.trans hx245_0)
      rw [hv245_0] at ge245_0
      have HL245_0 := Aside0.mk (show Kd.R (Kd.int .i64) 3 _ _ _ _ (rd_L2 t230 (ji33)) from ge245_0)
      clear hv245_0 ge245_0
      clear hcc245 hce245
      have HR245_0 := Aside0.mk hi245_0
      have HC245_0 := Aside0.mk hl245_0
      clear hi245_0 hl245_0
      replace p245 := eq_true p245
      replace q245 := eq_true q245
      have p246 : 0 ≤ ((ji36) : Int) := od_
      have q246 : (ji36) < ((rd_L2 t230 (ji33)).length : Int) := od_
      obtain ⟨ad246, e246, hx246_0⟩ := Kd.at_int (by repeat (first | (with_reducible exact HR245_0.out) | (with_reducible refine Kd.C_alloc ?_ _) | (with_reducible refine Kd.C_drewN ?_ _) | (with_reducible refine Kd.C_drew ?_) | exact HR245_0.out)) (ji36) p246 q246
      cases e246
      replace p246 := eq_true p246
      replace q246 := eq_true q246
      have p247 : 0 ≤ ((ji33) : Int) := od_
      have q247 : (ji33) < (t230.length : Int) := od_
      obtain ⟨ad247, A247_0, c247_0, e247, hx247_0, hl247_0, hi247_0⟩ := at_L2 (Kd.S_reads' HO_7.out).2.2 (ji33) p247 q247
      obtain rfl : ad236 = ad247 := (by injection e247)
      obtain ⟨ce247, hce247, hMe247, hcc247⟩ := Kd.S_get HO_7.out [] (ji33) p247 (by first | exact q247 | exact od_ | (have e_ := (Kd.S_reads' HO_7.out).1; omega))
      obtain ⟨ve247_0, rfl, ge247_0⟩ := hMe247
      have hv247_0 := hcc247 0 _ rfl
      rw [Nat.add_zero, show ((Kd.slice 3 (Kd.int .i64))).sz = 1 from rfl, Nat.mul_one] at hv247_0
      replace hv247_0 := Option.some.inj (hv247_0.symm.trans hx247_0)
      rw [hv247_0] at ge247_0
      have HL247_0 := Aside0.mk (show Kd.R (Kd.int .i64) 3 _ _ _ _ (rd_L2 t230 (ji33)) from ge247_0)
      clear hv247_0 ge247_0
      clear hcc247 hce247
      have HR247_0 := Aside0.mk hi247_0
      have HC247_0 := Aside0.mk hl247_0
      clear hi247_0 hl247_0
      replace p247 := eq_true p247
      replace q247 := eq_true q247
      have ea_ := Option.some.inj (hx245_0.symm.trans hx247_0)
      injection ea_ with ea_ en_ ec_
      subst ea_
      subst ec_
      clear en_
      have p248 : 0 ≤ ((ji36) : Int) := od_
      have q248 : (ji36) < ((rd_L2 t230 (ji33)).length : Int) := od_
      obtain ⟨ad248, e248, hx248_0⟩ := Kd.at_int (by repeat (first | (with_reducible exact HR247_0.out) | (with_reducible refine Kd.C_alloc ?_ _) | (with_reducible refine Kd.C_drewN ?_ _) | (with_reducible refine Kd.C_drew ?_) | exact HR247_0.out)) (ji36) p248 q248
      cases e248
      replace p248 := eq_true p248
      replace q248 := eq_true q248
      obtain ⟨i055, hi055, _, hsz55, _⟩ := info_parts info3
      obtain ⟨hcut55, hA55, hC55⟩ := print_take_of (P := Try.prog) (Value.int .i64) 0 29 3 .i64 Try.underlying29 hi055 hsz55 A243_3 c243_3 ((rd_T50 l0 x33_1).f3) x11_2 od_ od_ HC243_3.out
      have HR249 := Aside0.mk (Kd.C_of_reads (h1 := fun _ => rfl) (hA55 _ (Kd.reads_of_C HR243_3.out)))
      have HC249 := Aside0.mk hC55
      clear hA55 hC55 hi055 hsz55
      have p251 : 0 ≤ (x33_1 : Int) := od_
      have q251 : x33_1 < (t230.length : Int) := od_
      obtain ⟨ad251, A251_0, c251_0, e251, hx251_0, hl251_0, hi251_0⟩ := at_L2 (Kd.S_reads' HO_7.out).2.2 x33_1 p251 q251
      obtain rfl : ad236 = ad251 := (by injection e251)
      obtain ⟨ce251, hce251, hMe251, hcc251⟩ := Kd.S_get HO_7.out [] x33_1 p251 (by first | exact q251 | exact od_ | (have e_ := (Kd.S_reads' HO_7.out).1; omega))
      obtain ⟨ve251_0, rfl, ge251_0⟩ := hMe251
      have hv251_0 := hcc251 0 _ rfl
      rw [Nat.add_zero, show ((Kd.slice 3 (Kd.int .i64))).sz = 1 from rfl, Nat.mul_one] at hv251_0
      replace hv251_0 := Option.some.inj (hv251_0.symm.trans hx251_0)
      rw [hv251_0] at ge251_0
      have HL251_0 := Aside0.mk (show Kd.R (Kd.int .i64) 3 _ _ _ _ (rd_L2 t230 x33_1) from ge251_0)
      clear hv251_0 ge251_0
      clear hcc251 hce251
      have HR251_0 := Aside0.mk hi251_0
      have HC251_0 := Aside0.mk hl251_0
      clear hi251_0 hl251_0
      replace p251 := eq_true p251
      replace q251 := eq_true q251
      have p252 : 0 ≤ (x1_1 : Int) := od_
      have q252 : x1_1 < ((rd_L2 t230 x33_1).length : Int) := od_
      obtain ⟨ad252, e252, hx252_0⟩ := Kd.at_int (by repeat (first | (with_reducible exact HR251_0.out) | (with_reducible refine Kd.C_alloc ?_ _) | (with_reducible refine Kd.C_drewN ?_ _) | (with_reducible refine Kd.C_drew ?_) | exact HR251_0.out)) x1_1 p252 q252
      cases e252
      replace p252 := eq_true p252
      replace q252 := eq_true q252
      refine start_ (n := 43) (S := fun w' => w'.cell? ⟨gb244, 0, none⟩ = some (.string ((rd_T50 l0 x33_1).f0)) ∧ w'.cell? ⟨gb244, 1, none⟩ = some (.int .i64 ((rd_T50 l0 x33_1).f1)) ∧ w'.cell? ⟨gb244, 2, none⟩ = some (.int .i64 ((rd_T50 l0 x33_1).f2)) ∧ w'.cell? ⟨gb244, 3, none⟩ = some (.slice A243_3 ((rd_T50 l0 x33_1).f3).length c243_3) ∧ w'.cell? (ad236.add ((ji33)).toNat) = some (.slice (some ad246) (rd_L2 t230 (ji33)).length c245_0) ∧ w'.cell? (ad246.add ((ji36)).toNat) = some (.int .i64 (rd (rd_L2 t230 (ji33)) (ji36))) ∧ w'.cell? (ad236.add ((ji33)).toNat) = some (.slice (some ad246) (rd_L2 t230 (ji33)).length c245_0) ∧ w'.cell? (ad246.add ((ji36)).toNat) = some (.int .i64 (rd (rd_L2 t230 (ji33)) (ji36))) ∧ w'.cell? (ad236.add (x33_1).toNat) = some (.slice (some ad252) (rd_L2 t230 x33_1).length c251_0) ∧ w'.cell? (ad252.add (x1_1).toNat) = some (.int .i64 (rd (rd_L2 t230 x33_1) x1_1))) (ds := []) (msk 0 43) (by kernel_rfl) rfl rfl ⟨(blk_cell BK244.out 0).trans rfl, (blk_cell BK244.out 1).trans rfl, (blk_cell BK244.out 2).trans rfl, (blk_cell BK244.out 3).trans rfl, hx245_0, hx246_0, hx247_0, hx248_0, hx251_0, hx252_0⟩ (fun hHeld => ?_); refine with_tabW impl_BestShelf.tab11 impl_BestShelf.bits11 (fun HT_ HW_ => ?_)
      generalize wr.drew = w54 at HO_7 HO_8 BK228 BK244 HB HL245_0 HL247_0 HL251_0 HR245_0 HR247_0 HR249 HR251_0 hx245_0 hx246_0 hx247_0 hx248_0 hx251_0 hx252_0 hHeld ⊢
      refine pu_ 0 46 (msk 1 42) HT_.out ?_; refine pu_ 1 47 (msk 2 41) HT_.out ?_; refine pu_ 2 48 (msk 3 40) HT_.out ?_; refine pu_ 3 49 (msk 4 39) HT_.out ?_; refine pu_ 5 51 (mskl 43 4 [5]) HT_.out ?_; refine pu_ 6 52 (mskl 43 4 [5, 6]) HT_.out ?_; refine pu_ 7 53 (mskl 43 4 [5, 6, 7]) HT_.out ?_
      refine tk_ 4 50 (msk 8 35) HT_.out HW_.out hHeld ?_ (hy := by rintro w' ⟨s0, s1, s2, s3, s4, s5, s6, s7, s8, s9⟩; go_simp; with_reducible rfl)
      refine tk_ 8 54 (msk 9 34) HT_.out HW_.out hHeld ?_ (hy := by rintro w' ⟨s0, s1, s2, s3, s4, s5, s6, s7, s8, s9⟩; go_simp; with_reducible rfl)
      refine pu_ 9 55 (msk 10 33) HT_.out ?_; refine pu_ 10 56 (msk 11 32) HT_.out ?_; refine pu_ 11 57 (msk 12 31) HT_.out ?_
      refine tk_ 12 58 (msk 13 30) HT_.out HW_.out hHeld ?_ (hy := by rintro w' ⟨s0, s1, s2, s3, s4, s5, s6, s7, s8, s9⟩; go_simp; with_reducible rfl)
      refine pu_ 13 59 (msk 14 29) HT_.out ?_; refine pu_ 14 60 (msk 15 28) HT_.out ?_; refine pu_ 15 61 (msk 16 27) HT_.out ?_; refine pu_ 16 62 (msk 17 26) HT_.out ?_; refine pu_ 17 63 (msk 18 25) HT_.out ?_; refine pu_ 18 64 (msk 19 24) HT_.out ?_; refine pu_ 20 66 (mskl 43 19 [20]) HT_.out ?_; refine pu_ 21 67 (mskl 43 19 [20, 21]) HT_.out ?_; refine pu_ 22 68 (mskl 43 19 [20, 21, 22]) HT_.out ?_; refine pu_ 28 74 (mskl 43 19 [20, 21, 22, 28]) HT_.out ?_; refine pu_ 30 76 (mskl 43 19 [20, 21, 22, 28, 30]) HT_.out ?_; refine pu_ 34 80 (mskl 43 19 [20, 21, 22, 28, 30, 34]) HT_.out ?_; refine pu_ 35 81 (mskl 43 19 [20, 21, 22, 28, 30, 34, 35]) HT_.out ?_; refine pu_ 36 82 (mskl 43 19 [20, 21, 22, 28, 30, 34, 35, 36]) HT_.out ?_; refine pu_ 38 84 (mskl 43 19 [20, 21, 22, 28, 30, 34, 35, 36, 38]) HT_.out ?_
      refine tk_ 19 65 (mskl 43 23 [28, 30, 34, 35, 36, 38]) HT_.out HW_.out hHeld ?_ (hy := by rintro w' ⟨s0, s1, s2, s3, s4, s5, s6, s7, s8, s9⟩; go_simp; with_reducible rfl)
      refine tk_ 23 69 (mskl 43 24 [28, 30, 34, 35, 36, 38]) HT_.out HW_.out hHeld ?_ (hy := by rintro w' ⟨s0, s1, s2, s3, s4, s5, s6, s7, s8, s9⟩; go_simp; with_reducible rfl)
      refine pu_ 24 70 (mskl 43 25 [28, 30, 34, 35, 36, 38]) HT_.out ?_; refine pu_ 25 71 (mskl 43 26 [28, 30, 34, 35, 36, 38]) HT_.out ?_; refine pu_ 26 72 (mskl 43 27 [28, 30, 34, 35, 36, 38]) HT_.out ?_
      refine tk_ 27 73 (mskl 43 29 [30, 34, 35, 36, 38]) HT_.out HW_.out hHeld ?_ (hy := by rintro w' ⟨s0, s1, s2, s3, s4, s5, s6, s7, s8, s9⟩; go_simp; with_reducible rfl)
      refine tk_ 29 75 (mskl 43 31 [34, 35, 36, 38]) HT_.out HW_.out hHeld ?_ (hy := by rintro w' ⟨s0, s1, s2, s3, s4, s5, s6, s7, s8, s9⟩; go_simp; with_reducible rfl)
      refine pu_ 31 77 (mskl 43 32 [34, 35, 36, 38]) HT_.out ?_
      refine tk_ 37 83 (mskl 43 32 [34, 35, 36, 37, 38]) HT_.out HW_.out hHeld ?_ (hy := by rintro w' ⟨s0, s1, s2, s3, s4, s5, s6, s7, s8, s9⟩; go_simp; with_reducible rfl)
      refine pu_ 39 85 (mskl 43 32 [34, 35, 36, 37, 38, 39]) HT_.out ?_
      refine tk_ 40 86 (mskl 43 32 [34, 35, 36, 37, 38, 39, 40]) HT_.out HW_.out hHeld ?_ (hy := by rintro w' ⟨s0, s1, s2, s3, s4, s5, s6, s7, s8, s9⟩; go_simp; with_reducible rfl)
      refine one_ (i := 32) (N := some 78) (mskl 43 33 [34, 35, 36, 37, 38, 39, 40]) rfl rfl (one_of HT_.out (by kernel_rfl)) (by decide) (fun K hK => ?_)
      refine goes_ Try.func42 (by kernel_rfl) rfl #[.slice A243_3 (((rd_T50 l0 x33_1).f3).take (x11_2 : Int).toNat).length c243_3] (by rfl) rfl rfl (by (try simp only [List.map_toArray, List.map_cons, List.map_nil]); first | done | (rw [show (((rd_T50 l0 x33_1).f3).take (x11_2 : Int).toNat).length = x11_2.toNat from (by rw [List.length_take]; have h_ : (x11_2 : Int) ≤ (((rd_T50 l0 x33_1).f3).length : Int) := od_; omega)] <;> rfl) | rfl | (simp only [List.length_drop, List.length_take]; rfl)) ?_
      with_reducible refine (impl_sumOf.calls k2 _ _ (((rd_T50 l0 x33_1).f3).take (x11_2 : Int).toNat) t250 _ ?side1 ?side2 A43.out).mono ?_
      (case side1 => repeat (first | exact (Kd.C_below HR249.out HB.out) | (with_reducible refine Kd.C_alloc ?_ _) | (with_reducible refine Kd.C_drewN ?_ _) | (with_reducible refine Kd.C_drew ?_)))
      (case side2 => exact HC249.out)
      rintro e w' ⟨rfl, ⟨nd, rfl⟩⟩
      refine ⟨_, rfl, ?_⟩
      refine hK.out _ _ ⟨(blk_cell BK244.out 0).trans rfl, (blk_cell BK244.out 1).trans rfl, (blk_cell BK244.out 2).trans rfl, (blk_cell BK244.out 3).trans rfl, hHeld.2.2.2.2.1, hHeld.2.2.2.2.2.1, hHeld.2.2.2.2.2.2.1, hHeld.2.2.2.2.2.2.2.1, hHeld.2.2.2.2.2.2.2.2.1, hHeld.2.2.2.2.2.2.2.2.2⟩ (fun hHeld => ?_)
      clear hK K
      refine norm_ (a' := ?_) ?_ ?_
      rotate_left
      ·show Act.put _ (some 78) _ = _
       simp only [Act.put, List.setIfInBounds_toArray, List.set_cons_zero, List.set_cons_succ, i64_w, i32_w]
       rfl
      refine pu_ 33 79 (msk 41 2) HT_.out ?_; refine pu_ 41 87 (msk 42 1) HT_.out ?_; refine pu_ 42 88 (msk 43 0) HT_.out ?_
      refine done_ (done_of HT_.out (by kernel_rfl)) ?_
      try go_wp2
      go_roundg k2
      case measure => have := HK1.out; have := HK2.out; omega
      case rel => exact ⟨(wrap64 (x11_2 - 1)), (by first | rfl | (simp; done) | (simp [*]; done)), H', ⟨by have := HK1.out; have := HK2.out; omega⟩, ⟨by (with_reducible repeat (first | apply Kd.S_alloc | apply Kd.S_drewN | apply Kd.S_drew)); exact HO_7.out⟩, ⟨by (with_reducible repeat (first | apply Kd.R_alloc | apply Kd.R_drewN | apply Kd.R_drew)); exact HO_8.out⟩, ⟨by (with_reducible repeat (first | refine blk_drewN ?_ _ | refine blk_drew ?_ | refine blk_alloc ?_ _)); exact BK228.out⟩, ⟨by (with_reducible repeat (first | refine blk_drewN ?_ _ | refine blk_drew ?_ | refine blk_alloc ?_ _)); exact BK244.out⟩, ⟨by repeat (first | (with_reducible first | exact HB.out | apply below_alloc | apply pw_below_drewN | apply below_drew1 | refine below_set ?_ GE228.out | refine below_set ?_ GE244.out) | exact HB.out)⟩⟩
     rw [if_pos c48] at H
     have c48b0 : ((wrap64 ((rd (rd_L2 t230 (ji33)) (ji36)) + t250)) == (rd (rd_L2 t230 x33_1) x1_1)) = true := beq_iff_eq.mpr c48
     have c48b1 : ((wrap64 ((rd (rd_L2 t230 (ji33)) (ji36)) + t250)) != (rd (rd_L2 t230 x33_1) x1_1)) = false := bne_eq_false_iff_eq.mpr c48
     clear c48
     by_cases c49 : x8_1.length < 17592186044416
     rotate_left
     ·rw [if_neg c49] at H
      exact absurd H (by simp)
     rw [if_pos c49] at H
     have LMc49 := Aside0.mk c49
     clear c49
     obtain ⟨y253, hy253⟩ : ∃ y_ : List Int, y_ = (x8_1 ++ [x11_2]) := ⟨_, rfl⟩
     replace H : (impl_BestShelf.l0 k2 l0 ji36 t230 y253 l0 (l0.length : Int) ji33) = some (r1, r2, r3, r4) := by first | (rw [hy253]; with_reducible exact H) | (have H2_ := (Option.bind_some _ _).symm.trans H; rw [hy253]; with_reducible exact H2_) | (have H2_ := (Option.bind_some _ _).symm.trans H; with_reducible exact H2_) | with_reducible exact H | (rw [hy253]; exact H) | exact H
     have Ny253 := Aside0.mk hy253
     clear hy253
     have H' := Aside0.mk H
     clear H
     try go_wp2
     have n0_ := Aside0.mk (Kd.S_drew HO_7.out)
     have n1_ := Aside0.mk (Kd.R_drew HO_8.out)
     have n2_ := Aside0.mk (blk_drew BK228.out)
     have n3_ := Aside0.mk (blk_drew BK244.out)
     have n4_ := Aside0.mk (below_drew1 HB.out)
     clear HO_7
     clear HO_8
     clear BK228
     clear BK244
     clear HB
     have HO_7 := n0_
     have HO_8 := n1_
     have BK228 := n2_
     have BK244 := n3_
     have HB := n4_
     clear n0_ n1_ n2_ n3_ n4_
     have p245 : 0 ≤ ((ji33) : Int) := od_
     have q245 : (ji33) < (t230.length : Int) := od_
     obtain ⟨ad245, A245_0, c245_0, e245, hx245_0, hl245_0, hi245_0⟩ := at_L2 (Kd.S_reads' HO_7.out).2.2 (ji33) p245 q245
     obtain rfl : ad236 = ad245 := (by injection e245)
     obtain ⟨ce245, hce245, hMe245, hcc245⟩ := Kd.S_get HO_7.out [] (ji33) p245 (by first | exact q245 | exact od_ | (have e_ := (Kd.S_reads' HO_7.out).1; omega))
     obtain ⟨ve245_0, rfl, ge245_0⟩ := hMe245
     have hv245_0 := hcc245 0 _ rfl
     rw [Nat.add_zero, show ((Kd.slice 3 (Kd.int .i64))).sz = 1 from rfl, Nat.mul_one] at hv245_0
     replace hv245_0 := Option.some.inj (hv245_0.symm.trans hx245_0)
     rw [hv245_0] at ge245_0
     have HL245_0 := Aside0.mk (show Kd.R (Kd.int .i64) 3 _ _ _ _ (rd_L2 t230 (ji33)) from ge245_0)
     clear hv245_0 ge245_0
     clear hcc245 hce245
     have HR245_0 := Aside0.mk hi245_0
     have HC245_0 := Aside0.mk hl245_0
     clear hi245_0 hl245_0
     replace p245 := eq_true p245
     replace q245 := eq_true q245
     have p246 : 0 ≤ ((ji36) : Int) := od_
     have q246 : (ji36) < ((rd_L2 t230 (ji33)).length : Int) := od_
     obtain ⟨ad246, e246, hx246_0⟩ := Kd.at_int (by repeat (first | (with_reducible exact HR245_0.out) | (with_reducible refine Kd.C_alloc ?_ _) | (with_reducible refine Kd.C_drewN ?_ _) | (with_reducible refine Kd.C_drew ?_) | exact HR245_0.out)) (ji36) p246 q246
     cases e246
     replace p246 := eq_true p246
     replace q246 := eq_true q246
     have p247 : 0 ≤ ((ji33) : Int) := od_
     have q247 : (ji33) < (t230.length : Int) := od_
     obtain ⟨ad247, A247_0, c247_0, e247, hx247_0, hl247_0, hi247_0⟩ := at_L2 (Kd.S_reads' HO_7.out).2.2 (ji33) p247 q247
     obtain rfl : ad236 = ad247 := (by injection e247)
     obtain ⟨ce247, hce247, hMe247, hcc247⟩ := Kd.S_get HO_7.out [] (ji33) p247 (by first | exact q247 | exact od_ | (have e_ := (Kd.S_reads' HO_7.out).1; omega))
     obtain ⟨ve247_0, rfl, ge247_0⟩ := hMe247
     have hv247_0 := hcc247 0 _ rfl
     rw [Nat.add_zero, show ((Kd.slice 3 (Kd.int .i64))).sz = 1 from rfl, Nat.mul_one] at hv247_0
     replace hv247_0 := Option.some.inj (hv247_0.symm.trans hx247_0)
     rw [hv247_0] at ge247_0
     have HL247_0 := Aside0.mk (show Kd.R (Kd.int .i64) 3 _ _ _ _ (rd_L2 t230 (ji33)) from ge247_0)
     clear hv247_0 ge247_0
     clear hcc247 hce247
     have HR247_0 := Aside0.mk hi247_0
     have HC247_0 := Aside0.mk hl247_0
     clear hi247_0 hl247_0
     replace p247 := eq_true p247
     replace q247 := eq_true q247
     have ea_ := Option.some.inj (hx245_0.symm.trans hx247_0)
     injection ea_ with ea_ en_ ec_
     subst ea_
     subst ec_
     clear en_
     have p248 : 0 ≤ ((ji36) : Int) := od_
     have q248 : (ji36) < ((rd_L2 t230 (ji33)).length : Int) := od_
     obtain ⟨ad248, e248, hx248_0⟩ := Kd.at_int (by repeat (first | (with_reducible exact HR247_0.out) | (with_reducible refine Kd.C_alloc ?_ _) | (with_reducible refine Kd.C_drewN ?_ _) | (with_reducible refine Kd.C_drew ?_) | exact HR247_0.out)) (ji36) p248 q248
     cases e248
     replace p248 := eq_true p248
     replace q248 := eq_true q248
     obtain ⟨i051, hi051, _, hsz51, _⟩ := info_parts info3
     obtain ⟨hcut51, hA51, hC51⟩ := print_take_of (P := Try.prog) (Value.int .i64) 0 29 3 .i64 Try.underlying29 hi051 hsz51 A243_3 c243_3 ((rd_T50 l0 x33_1).f3) x11_2 od_ od_ HC243_3.out
     have HR249 := Aside0.mk (Kd.C_of_reads (h1 := fun _ => rfl) (hA51 _ (Kd.reads_of_C HR243_3.out)))
     have HC249 := Aside0.mk hC51
     clear hA51 hC51 hi051 hsz51
     have p251 : 0 ≤ (x33_1 : Int) := od_
     have q251 : x33_1 < (t230.length : Int) := od_
     obtain ⟨ad251, A251_0, c251_0, e251, hx251_0, hl251_0, hi251_0⟩ := at_L2 (Kd.S_reads' HO_7.out).2.2 x33_1 p251 q251
     obtain rfl : ad236 = ad251 := (by injection e251)
     obtain ⟨ce251, hce251, hMe251, hcc251⟩ := Kd.S_get HO_7.out [] x33_1 p251 (by first | exact q251 | exact od_ | (have e_ := (Kd.S_reads' HO_7.out).1; omega))
     obtain ⟨ve251_0, rfl, ge251_0⟩ := hMe251
     have hv251_0 := hcc251 0 _ rfl
     rw [Nat.add_zero, show ((Kd.slice 3 (Kd.int .i64))).sz = 1 from rfl, Nat.mul_one] at hv251_0
     replace hv251_0 := Option.some.inj (hv251_0.symm.trans hx251_0)
     rw [hv251_0] at ge251_0
     have HL251_0 := Aside0.mk (show Kd.R (Kd.int .i64) 3 _ _ _ _ (rd_L2 t230 x33_1) from ge251_0)
     clear hv251_0 ge251_0
     clear hcc251 hce251
     have HR251_0 := Aside0.mk hi251_0
     have HC251_0 := Aside0.mk hl251_0
     clear hi251_0 hl251_0
     replace p251 := eq_true p251
     replace q251 := eq_true q251
     have p252 : 0 ≤ (x1_1 : Int) := od_
     have q252 : x1_1 < ((rd_L2 t230 x33_1).length : Int) := od_
     obtain ⟨ad252, e252, hx252_0⟩ := Kd.at_int (by repeat (first | (with_reducible exact HR251_0.out) | (with_reducible refine Kd.C_alloc ?_ _) | (with_reducible refine Kd.C_drewN ?_ _) | (with_reducible refine Kd.C_drew ?_) | exact HR251_0.out)) x1_1 p252 q252
     cases e252
     replace p252 := eq_true p252
     replace q252 := eq_true q252
     refine start_ (n := 43) (S := fun w' => w'.cell? ⟨gb244, 0, none⟩ = some (.string ((rd_T50 l0 x33_1).f0)) ∧ w'.cell? ⟨gb244, 1, none⟩ = some (.int .i64 ((rd_T50 l0 x33_1).f1)) ∧ w'.cell? ⟨gb244, 2, none⟩ = some (.int .i64 ((rd_T50 l0 x33_1).f2)) ∧ w'.cell? ⟨gb244, 3, none⟩ = some (.slice A243_3 ((rd_T50 l0 x33_1).f3).length c243_3) ∧ w'.cell? (ad236.add ((ji33)).toNat) = some (.slice (some ad246) (rd_L2 t230 (ji33)).length c245_0) ∧ w'.cell? (ad246.add ((ji36)).toNat) = some (.int .i64 (rd (rd_L2 t230 (ji33)) (ji36))) ∧ w'.cell? (ad236.add ((ji33)).toNat) = some (.slice (some ad246) (rd_L2 t230 (ji33)).length c245_0) ∧ w'.cell? (ad246.add ((ji36)).toNat) = some (.int .i64 (rd (rd_L2 t230 (ji33)) (ji36))) ∧ w'.cell? (ad236.add (x33_1).toNat) = some (.slice (some ad252) (rd_L2 t230 x33_1).length c251_0) ∧ w'.cell? (ad252.add (x1_1).toNat) = some (.int .i64 (rd (rd_L2 t230 x33_1) x1_1))) (ds := []) (msk 0 43) (by kernel_rfl) rfl rfl ⟨(blk_cell BK244.out 0).trans rfl, (blk_cell BK244.out 1).trans rfl, (blk_cell BK244.out 2).trans rfl, (blk_cell BK244.out 3).trans rfl, hx245_0, hx246_0, hx247_0, hx248_0, hx251_0, hx252_0⟩ (fun hHeld => ?_); refine with_tabW impl_BestShelf.tab11 impl_BestShelf.bits11 (fun HT_ HW_ => ?_)
     generalize wr.drew = w50 at HO_7 HO_8 BK228 BK244 HB HL245_0 HL247_0 HL251_0 HR245_0 HR247_0 HR249 HR251_0 hx245_0 hx246_0 hx247_0 hx248_0 hx251_0 hx252_0 hHeld ⊢
     refine pu_ 0 46 (msk 1 42) HT_.out ?_; refine pu_ 1 47 (msk 2 41) HT_.out ?_; refine pu_ 2 48 (msk 3 40) HT_.out ?_; refine pu_ 3 49 (msk 4 39) HT_.out ?_; refine pu_ 5 51 (mskl 43 4 [5]) HT_.out ?_; refine pu_ 6 52 (mskl 43 4 [5, 6]) HT_.out ?_; refine pu_ 7 53 (mskl 43 4 [5, 6, 7]) HT_.out ?_
     refine tk_ 4 50 (msk 8 35) HT_.out HW_.out hHeld ?_ (hy := by rintro w' ⟨s0, s1, s2, s3, s4, s5, s6, s7, s8, s9⟩; go_simp; with_reducible rfl)
     refine tk_ 8 54 (msk 9 34) HT_.out HW_.out hHeld ?_ (hy := by rintro w' ⟨s0, s1, s2, s3, s4, s5, s6, s7, s8, s9⟩; go_simp; with_reducible rfl)
     refine pu_ 9 55 (msk 10 33) HT_.out ?_; refine pu_ 10 56 (msk 11 32) HT_.out ?_; refine pu_ 11 57 (msk 12 31) HT_.out ?_
     refine tk_ 12 58 (msk 13 30) HT_.out HW_.out hHeld ?_ (hy := by rintro w' ⟨s0, s1, s2, s3, s4, s5, s6, s7, s8, s9⟩; go_simp; with_reducible rfl)
     refine pu_ 13 59 (msk 14 29) HT_.out ?_; refine pu_ 14 60 (msk 15 28) HT_.out ?_; refine pu_ 15 61 (msk 16 27) HT_.out ?_; refine pu_ 16 62 (msk 17 26) HT_.out ?_; refine pu_ 17 63 (msk 18 25) HT_.out ?_; refine pu_ 18 64 (msk 19 24) HT_.out ?_; refine pu_ 20 66 (mskl 43 19 [20]) HT_.out ?_; refine pu_ 21 67 (mskl 43 19 [20, 21]) HT_.out ?_; refine pu_ 22 68 (mskl 43 19 [20, 21, 22]) HT_.out ?_; refine pu_ 28 74 (mskl 43 19 [20, 21, 22, 28]) HT_.out ?_; refine pu_ 30 76 (mskl 43 19 [20, 21, 22, 28, 30]) HT_.out ?_; refine pu_ 34 80 (mskl 43 19 [20, 21, 22, 28, 30, 34]) HT_.out ?_; refine pu_ 35 81 (mskl 43 19 [20, 21, 22, 28, 30, 34, 35]) HT_.out ?_; refine pu_ 36 82 (mskl 43 19 [20, 21, 22, 28, 30, 34, 35, 36]) HT_.out ?_; refine pu_ 38 84 (mskl 43 19 [20, 21, 22, 28, 30, 34, 35, 36, 38]) HT_.out ?_
     refine tk_ 19 65 (mskl 43 23 [28, 30, 34, 35, 36, 38]) HT_.out HW_.out hHeld ?_ (hy := by rintro w' ⟨s0, s1, s2, s3, s4, s5, s6, s7, s8, s9⟩; go_simp; with_reducible rfl)
     refine tk_ 23 69 (mskl 43 24 [28, 30, 34, 35, 36, 38]) HT_.out HW_.out hHeld ?_ (hy := by rintro w' ⟨s0, s1, s2, s3, s4, s5, s6, s7, s8, s9⟩; go_simp; with_reducible rfl)
     refine pu_ 24 70 (mskl 43 25 [28, 30, 34, 35, 36, 38]) HT_.out ?_; refine pu_ 25 71 (mskl 43 26 [28, 30, 34, 35, 36, 38]) HT_.out ?_; refine pu_ 26 72 (mskl 43 27 [28, 30, 34, 35, 36, 38]) HT_.out ?_
     refine tk_ 27 73 (mskl 43 29 [30, 34, 35, 36, 38]) HT_.out HW_.out hHeld ?_ (hy := by rintro w' ⟨s0, s1, s2, s3, s4, s5, s6, s7, s8, s9⟩; go_simp; with_reducible rfl)
     refine tk_ 29 75 (mskl 43 31 [34, 35, 36, 38]) HT_.out HW_.out hHeld ?_ (hy := by rintro w' ⟨s0, s1, s2, s3, s4, s5, s6, s7, s8, s9⟩; go_simp; with_reducible rfl)
     refine pu_ 31 77 (mskl 43 32 [34, 35, 36, 38]) HT_.out ?_
     refine tk_ 37 83 (mskl 43 32 [34, 35, 36, 37, 38]) HT_.out HW_.out hHeld ?_ (hy := by rintro w' ⟨s0, s1, s2, s3, s4, s5, s6, s7, s8, s9⟩; go_simp; with_reducible rfl)
     refine pu_ 39 85 (mskl 43 32 [34, 35, 36, 37, 38, 39]) HT_.out ?_
     refine tk_ 40 86 (mskl 43 32 [34, 35, 36, 37, 38, 39, 40]) HT_.out HW_.out hHeld ?_ (hy := by rintro w' ⟨s0, s1, s2, s3, s4, s5, s6, s7, s8, s9⟩; go_simp; with_reducible rfl)
     refine one_ (i := 32) (N := some 78) (mskl 43 33 [34, 35, 36, 37, 38, 39, 40]) rfl rfl (one_of HT_.out (by kernel_rfl)) (by decide) (fun K hK => ?_)
     refine goes_ Try.func42 (by kernel_rfl) rfl #[.slice A243_3 (((rd_T50 l0 x33_1).f3).take (x11_2 : Int).toNat).length c243_3] (by rfl) rfl rfl (by (try simp only [List.map_toArray, List.map_cons, List.map_nil]); first | done | (rw [show (((rd_T50 l0 x33_1).f3).take (x11_2 : Int).toNat).length = x11_2.toNat from (by rw [List.length_take]; have h_ : (x11_2 : Int) ≤ (((rd_T50 l0 x33_1).f3).length : Int) := od_; omega)] <;> rfl) | rfl | (simp only [List.length_drop, List.length_take]; rfl)) ?_
     with_reducible refine (impl_sumOf.calls k2 _ _ (((rd_T50 l0 x33_1).f3).take (x11_2 : Int).toNat) t250 _ ?side1 ?side2 A43.out).mono ?_
     (case side1 => repeat (first | exact (Kd.C_below HR249.out HB.out) | (with_reducible refine Kd.C_alloc ?_ _) | (with_reducible refine Kd.C_drewN ?_ _) | (with_reducible refine Kd.C_drew ?_)))
     (case side2 => exact HC249.out)
     rintro e w' ⟨rfl, ⟨nd, rfl⟩⟩
     refine ⟨_, rfl, ?_⟩
     refine hK.out _ _ ⟨(blk_cell BK244.out 0).trans rfl, (blk_cell BK244.out 1).trans rfl, (blk_cell BK244.out 2).trans rfl, (blk_cell BK244.out 3).trans rfl, hHeld.2.2.2.2.1, hHeld.2.2.2.2.2.1, hHeld.2.2.2.2.2.2.1, hHeld.2.2.2.2.2.2.2.1, hHeld.2.2.2.2.2.2.2.2.1, hHeld.2.2.2.2.2.2.2.2.2⟩ (fun hHeld => ?_)
     clear hK K
     refine norm_ (a' := ?_) ?_ ?_
     rotate_left
     ·show Act.put _ (some 78) _ = _
      simp only [Act.put, List.setIfInBounds_toArray, List.set_cons_zero, List.set_cons_succ, i64_w, i32_w]
      rfl
     refine pu_ 33 79 (msk 41 2) HT_.out ?_; refine pu_ 41 87 (msk 42 1) HT_.out ?_; refine pu_ 42 88 (msk 43 0) HT_.out ?_
     refine done_ (done_of HT_.out (by kernel_rfl)) ?_
     try go_wp2
     (try (rw [drewN_self w50]; generalize hq_ : World.drewN w50 _ = w50; have n0_ : Aside0 (Kd.R (Kd.int .i64) 3 w50 w.heap.size (fun k_ => some k_ ≠ (.slice (some ad236) t230.length co22 : Value).ownBlock ∧ some k_ ≠ (u8 : Value).ownBlock) (.slice (some ad246) (rd_L2 t230 (ji33)).length c245_0) (rd_L2 t230 (ji33))) := ⟨by rw [← hq_]; exact (by (with_reducible repeat (first | apply Kd.R_alloc | apply Kd.R_drewN | apply Kd.R_drew)); exact Kd.R_mono HL245_0.out (fun _ hk => by first | exact ⟨hk.2, hk.1⟩ | exact ⟨hk.1, hk.2⟩))⟩; have n1_ : Aside0 (Kd.R (Kd.int .i64) 3 w50 w.heap.size (fun k_ => some k_ ≠ (.slice (some ad236) t230.length co22 : Value).ownBlock ∧ some k_ ≠ (u8 : Value).ownBlock) (.slice (some ad246) (rd_L2 t230 (ji33)).length c245_0) (rd_L2 t230 (ji33))) := ⟨by rw [← hq_]; exact (by (with_reducible repeat (first | apply Kd.R_alloc | apply Kd.R_drewN | apply Kd.R_drew)); exact Kd.R_mono HL247_0.out (fun _ hk => by first | exact ⟨hk.2, hk.1⟩ | exact ⟨hk.1, hk.2⟩))⟩; have n2_ : Aside0 (Kd.R (Kd.int .i64) 3 w50 w.heap.size (fun k_ => some k_ ≠ (.slice (some ad236) t230.length co22 : Value).ownBlock ∧ some k_ ≠ (u8 : Value).ownBlock) (.slice (some ad252) (rd_L2 t230 x33_1).length c251_0) (rd_L2 t230 x33_1)) := ⟨by rw [← hq_]; exact (by (with_reducible repeat (first | apply Kd.R_alloc | apply Kd.R_drewN | apply Kd.R_drew)); exact Kd.R_mono HL251_0.out (fun _ hk => by first | exact ⟨hk.2, hk.1⟩ | exact ⟨hk.1, hk.2⟩))⟩; have n3_ : Aside0 (Kd.S (Kd.slice 3 (Kd.int .i64)) 29 w50 w.heap.size (fun k_ => some k_ ≠ (u8 : Value).ownBlock) (.slice (some ad236) t230.length co22) t230) := ⟨by rw [← hq_]; exact (by (with_reducible repeat (first | apply Kd.S_alloc | apply Kd.S_drewN | apply Kd.S_drew)); exact HO_7.out)⟩; have n4_ : Aside0 (Kd.R (Kd.int .i64) 3 w50 w.heap.size (fun _ => True) u8 x8_1) := ⟨by rw [← hq_]; exact (by (with_reducible repeat (first | apply Kd.R_alloc | apply Kd.R_drewN | apply Kd.R_drew)); exact HO_8.out)⟩; have n5_ : Aside0 (w50.heap[gb228]? = some (.cells #[.slice none 0 0, .int .i64 0, .int .i64 0] 31 (0, 0))) := ⟨by rw [← hq_]; exact bk_⟩; have n6_ : Aside0 (w50.heap[gb244]? = some (.cells #[.string ((rd_T50 l0 x33_1).f0), .int .i64 ((rd_T50 l0 x33_1).f1), .int .i64 ((rd_T50 l0 x33_1).f2), .slice A243_3 ((rd_T50 l0 x33_1).f3).length c243_3] 50 (0, 0))) := ⟨by rw [← hq_]; exact bk_⟩; have n7_ : Aside0 (Below w.heap.size w w50) := ⟨by rw [← hq_]; exact bl_⟩; have n8_ : Aside0 (Kd.C (Kd.int .i64) w50 (some ad246) (rd_L2 t230 (ji33)).length (rd_L2 t230 (ji33))) := ⟨by rw [← hq_]; exact (by repeat (first | (with_reducible exact HR245_0.out) | (with_reducible refine Kd.C_alloc ?_ _) | (with_reducible refine Kd.C_drewN ?_ _) | (with_reducible refine Kd.C_drew ?_) | exact HR245_0.out))⟩; have n9_ : Aside0 (Kd.C (Kd.int .i64) w50 (some ad246) (rd_L2 t230 (ji33)).length (rd_L2 t230 (ji33))) := ⟨by rw [← hq_]; exact (by repeat (first | (with_reducible exact HR247_0.out) | (with_reducible refine Kd.C_alloc ?_ _) | (with_reducible refine Kd.C_drewN ?_ _) | (with_reducible refine Kd.C_drew ?_) | exact HR247_0.out))⟩; have n10_ : Aside0 (Kd.C (Kd.int .i64) w50 (some ad252) (rd_L2 t230 x33_1).length (rd_L2 t230 x33_1)) := ⟨by rw [← hq_]; exact (by repeat (first | (with_reducible exact HR251_0.out) | (with_reducible refine Kd.C_alloc ?_ _) | (with_reducible refine Kd.C_drewN ?_ _) | (with_reducible refine Kd.C_drew ?_) | exact HR251_0.out))⟩; clear HL245_0 HL247_0 HL251_0 HO_7 HO_8 BK228 BK244 HB HR245_0 HR247_0 HR251_0 hq_; have HL245_0 := n0_; have HL247_0 := n1_; have HL251_0 := n2_; have HO_7 := n3_; have HO_8 := n4_; have BK228 := n5_; have BK244 := n6_; have HB := n7_; have HR245_0 := n8_; have HR247_0 := n9_; have HR251_0 := n10_; clear n0_ n1_ n2_ n3_ n4_ n5_ n6_ n7_ n8_ n9_ n10_))
     have n0_ := Aside0.mk (Kd.S_drew HO_7.out)
     have n1_ := Aside0.mk (Kd.R_drew HO_8.out)
     have n2_ := Aside0.mk (Kd.R_drew HL245_0.out)
     have n3_ := Aside0.mk (Kd.R_drew HL247_0.out)
     have n4_ := Aside0.mk (Kd.R_drew HL251_0.out)
     have n5_ := Aside0.mk (blk_drew BK228.out)
     have n6_ := Aside0.mk (blk_drew BK244.out)
     have n7_ := Aside0.mk (Kd.C_drew HR245_0.out)
     have n8_ := Aside0.mk (Kd.C_drew HR247_0.out)
     have n9_ := Aside0.mk (Kd.C_drew HR251_0.out)
     have n10_ := Aside0.mk (below_drew1 HB.out)
     clear HO_7
     clear HO_8
     clear HL245_0
     clear HL247_0
     clear HL251_0
     clear BK228
     clear BK244
     clear HR245_0
     clear HR247_0
     clear HR251_0
     clear HB
     have HO_7 := n0_
     have HO_8 := n1_
     have HL245_0 := n2_
     have HL247_0 := n3_
     have HL251_0 := n4_
     have BK228 := n5_
     have BK244 := n6_
     have HR245_0 := n7_
     have HR247_0 := n8_
     have HR251_0 := n9_
     have HB := n10_
     clear n0_ n1_ n2_ n3_ n4_ n5_ n6_ n7_ n8_ n9_ n10_
     refine start_ (n := 12) (S := fun w' => w'.cell? ⟨gb244, 0, none⟩ = some (.string ((rd_T50 l0 x33_1).f0)) ∧ w'.cell? ⟨gb244, 1, none⟩ = some (.int .i64 ((rd_T50 l0 x33_1).f1)) ∧ w'.cell? ⟨gb244, 2, none⟩ = some (.int .i64 ((rd_T50 l0 x33_1).f2)) ∧ w'.cell? ⟨gb244, 3, none⟩ = some (.slice A243_3 ((rd_T50 l0 x33_1).f3).length c243_3)) (ds := []) (msk 0 12) (by kernel_rfl) rfl rfl ⟨(blk_cell BK244.out 0).trans rfl, (blk_cell BK244.out 1).trans rfl, (blk_cell BK244.out 2).trans rfl, (blk_cell BK244.out 3).trans rfl⟩ (fun hHeld => ?_); refine with_tabW impl_BestShelf.tab13 impl_BestShelf.bits13 (fun HT_ HW_ => ?_)
     generalize w50.drew = w52 at HO_7 HO_8 HL245_0 HL247_0 HL251_0 BK228 BK244 HR245_0 HR247_0 HR251_0 HB hHeld ⊢
     refine pu_ 0 91 (msk 1 11) HT_.out ?_; refine pu_ 1 92 (msk 2 10) HT_.out ?_; refine pu_ 4 95 (mskl 12 2 [4]) HT_.out ?_; refine pu_ 5 96 (mskl 12 2 [4, 5]) HT_.out ?_; refine pu_ 6 97 (mskl 12 2 [4, 5, 6]) HT_.out ?_
     refine tk_ 7 98 (mskl 12 2 [4, 5, 6, 7]) HT_.out HW_.out hHeld ?_ (hy := by rintro w' ⟨s0, s1, s2, s3⟩; go_simp; with_reducible rfl)
     refine pu_ 8 99 (mskl 12 2 [4, 5, 6, 7, 8]) HT_.out ?_; refine pu_ 9 100 (mskl 12 2 [4, 5, 6, 7, 8, 9]) HT_.out ?_
     refine one_ (i := 2) (N := some 93) (mskl 12 3 [4, 5, 6, 7, 8, 9]) rfl rfl (one_of HT_.out (by kernel_rfl)) (by decide) (fun K hK => ?_)
     refine value_ (w1 := ?_) (v := ?_) (by rfl) rfl ?_ ?_
     rotate_left 2
     ·go_simp
      constructor
      ·rfl
      ·rfl
     refine hK.out _ _ ⟨(blk_cell (blk_alloc BK244.out _) 0).trans rfl, (blk_cell (blk_alloc BK244.out _) 1).trans rfl, (blk_cell (blk_alloc BK244.out _) 2).trans rfl, (blk_cell (blk_alloc BK244.out _) 3).trans rfl⟩ (fun hHeld => ?_)
     clear hK K
     refine norm_ (a' := ?_) ?_ ?_
     rotate_left
     ·show Act.put _ (some 93) _ = _
      simp only [Act.put, List.setIfInBounds_toArray, List.set_cons_zero, List.set_cons_succ, i64_w, i32_w]
      rfl
     refine one_ (i := 3) (N := some 94) (msk 10 2) rfl rfl (one_of HT_.out (by kernel_rfl)) (by decide) (fun K hK => ?_)
     refine Kd.R_append_step (Kd.int .i64) (w0 := w) w.heap.size (by rfl) (.tmp 91) (.tmp 93) 29 3 (.int .i64 0) 8 rfl Try.underlying29 info3 rfl (by decide) (by omega) u8 x8_1 x11_2 [.int .i64 x11_2] (fun _ => True) (fun _ => False) rfl rfl ?aP (fun _ hk => hk.elim) ?aF ?aO ?aB ?aS ?aL ?_
     (case aP => exact rfl)
     (case aB => exact bl_)
     (case aF => exact (fun _ _ => trivial))
     (case aO => exact (by (with_reducible repeat (first | apply Kd.R_alloc | apply Kd.R_drewN | apply Kd.R_drew)); exact HO_8.out))
     (case aS => exact (below_size bl_))
     (case aL => have := LMc49.out; omega)
     intro v254 w53 ho hb hg hat
     rw [← Ny253.out] at ho
     have n0_ := Aside0.mk (Kd.S_after (ok := (fun _ => True)) (by (with_reducible repeat (first | apply Kd.S_alloc | apply Kd.S_drewN | apply Kd.S_drew)); exact Kd.S_mono HO_7.out (fun _ hk => ⟨trivial, hk⟩)) hg hat)
     have n1_ := Aside0.mk (blk_grown (g := gb228) (o := .cells #[.slice none 0 0, .int .i64 0, .int .i64 0] 31 (0, 0)) bk_ hg (Kd.R_ne HO_8.out BK228.out (by decide)))
     have n2_ := Aside0.mk (blk_grown (g := gb244) (o := .cells #[.string ((rd_T50 l0 x33_1).f0), .int .i64 ((rd_T50 l0 x33_1).f1), .int .i64 ((rd_T50 l0 x33_1).f2), .slice A243_3 ((rd_T50 l0 x33_1).f3).length c243_3] 50 (0, 0)) bk_ hg (Kd.R_ne HO_8.out BK244.out (by decide)))
     have n3_ := Aside0.mk (Kd.R_after (ok := (fun k_ => some k_ ≠ (.slice (some ad236) t230.length co22 : Value).ownBlock)) (by (with_reducible repeat (first | apply Kd.R_alloc | apply Kd.R_drewN | apply Kd.R_drew)); exact Kd.R_mono HL245_0.out (fun _ hk => by first | exact ⟨hk.2, hk.1⟩ | exact ⟨hk.1, hk.2⟩)) hg hat)
     have n4_ := Aside0.mk (Kd.R_after (ok := (fun k_ => some k_ ≠ (.slice (some ad236) t230.length co22 : Value).ownBlock)) (by (with_reducible repeat (first | apply Kd.R_alloc | apply Kd.R_drewN | apply Kd.R_drew)); exact Kd.R_mono HL247_0.out (fun _ hk => by first | exact ⟨hk.2, hk.1⟩ | exact ⟨hk.1, hk.2⟩)) hg hat)
     have n5_ := Aside0.mk (Kd.R_after (ok := (fun k_ => some k_ ≠ (.slice (some ad236) t230.length co22 : Value).ownBlock)) (by (with_reducible repeat (first | apply Kd.R_alloc | apply Kd.R_drewN | apply Kd.R_drew)); exact Kd.R_mono HL251_0.out (fun _ hk => by first | exact ⟨hk.2, hk.1⟩ | exact ⟨hk.1, hk.2⟩)) hg hat)
     have n6_ := Aside0.mk (hb)
     have n7_ := Aside0.mk (ho)
     clear HO_7
     clear BK228
     clear BK244
     clear HL245_0
     clear HL247_0
     clear HL251_0
     clear HB
     clear HO_8
     have HO_7 := n0_
     have BK228 := n1_
     have BK244 := n2_
     have HL245_0 := n3_
     have HL247_0 := n4_
     have HL251_0 := n5_
     have HB := n6_
     have HO255 := n7_
     clear n0_ n1_ n2_ n3_ n4_ n5_ n6_ n7_
     clear ho hb hg hat
     refine hK.out _ _ ⟨(blk_cell BK244.out 0).trans rfl, (blk_cell BK244.out 1).trans rfl, (blk_cell BK244.out 2).trans rfl, (blk_cell BK244.out 3).trans rfl⟩ (fun hHeld => ?_)
     clear hK K
     refine norm_ (a' := ?_) ?_ ?_
     rotate_left
     ·show Act.put _ (some 94) _ = _
      simp only [Act.put, List.setIfInBounds_toArray, List.set_cons_zero, List.set_cons_succ, i64_w, i32_w]
      rfl
     refine pu_ 10 8 (msk 11 1) HT_.out ?_; refine pu_ 11 1 (msk 12 0) HT_.out ?_
     refine done_ (done_of HT_.out (by kernel_rfl)) ?_
     try go_wp2
     go_roundg k2
     case measure => have := HK1.out; have := HK2.out; omega
     case rel => exact ⟨(ji36), (y253), (ji33), (by first | rfl | (simp; done) | (simp only [← hji36] <;> (first | rfl | simp)) | (simp [*]; done)), (by first | rfl | (simp; done) | (simp only [← hji33] <;> (first | rfl | simp)) | (simp [*]; done)), H', ⟨by have := HK1.out; have := HK2.out; omega⟩, ⟨by (with_reducible repeat (first | apply Kd.S_alloc | apply Kd.S_drewN | apply Kd.S_drew)); exact Kd.S_mono HO_7.out (fun _ hk => hk.2)⟩, ⟨by (with_reducible repeat (first | apply Kd.R_alloc | apply Kd.R_drewN | apply Kd.R_drew)); exact HO255.out⟩, ⟨by (with_reducible repeat (first | refine blk_drewN ?_ _ | refine blk_drew ?_ | refine blk_alloc ?_ _)); exact BK228.out⟩, ⟨by repeat (first | (with_reducible first | exact HB.out | apply below_alloc | apply pw_below_drewN | apply below_drew1 | refine below_set ?_ GE228.out | refine below_set ?_ GE244.out) | exact HB.out)⟩⟩
end Go.Proofs.Ytecbcibblmknpaa.XFnExactBestShelf
