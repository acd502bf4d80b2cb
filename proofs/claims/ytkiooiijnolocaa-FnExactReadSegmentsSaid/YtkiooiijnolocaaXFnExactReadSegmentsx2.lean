-- PRINTED by xprint.py (our own program, over the kit's print.py)
import Derived.Test.YtkiooiijnolocaaXFnExactReadSegmentsx0
import Derived.Test.YtkiooiijnolocaaXFnExactReadSegmentsx1
import Derived.Test.YtkiooiijnolocaaPu
namespace Go.Proofs.Ytkiooiijnolocaa.XFnExactReadSegments
open Go.RowKit Go.Proofs.YtkiooiijnolocaaW.PrintWords Go.Proofs.YtkiooiijnolocaaW.PrintLast Go.Proofs.YtkiooiijnolocaaW.PrintMore Go.Proofs.YtkiooiijnolocaaW.Idx
attribute [local go_sem] max2_int min2_int max_two min_two max_three min_three max_four min_four   -- for this text's walks alone
set_option linter.unusedVariables false
set_option linter.unusedSimpArgs false

/-! ### spec_ReadSegments: function 12 -/
mutual
def spec_ReadSegments.l0 : Nat → ByteArray → List (S68) → List (S68) → Int → Option ((List (S68)) × Int × Int)
 | 0, _, _, _, _ => none
 | k + 1, x0, x5, x6, x7 => if x7 < (x0.size : Int) then (if (x6.length : Int) = 200 then (some (x5, 9, x7)) else (spec_ReadSegments.l1 k x0 x5 x6 x7 0)) else (some (x6, 0, 0))
def spec_ReadSegments.l1 : Nat → ByteArray → List (S68) → List (S68) → Int → Int → Option ((List (S68)) × Int × Int)
 | 0, _, _, _, _, _ => none
 | k + 1, x0, x5, x6, x7, x8 => if x8 < 3 then (if (wrap64 (x7 + x8)) ≥ (x0.size : Int) then (some (x5, 4, wrap64 (x7 + x8))) else (if 0 ≤ (wrap64 (x7 + x8)) then (if (wrap64 (x7 + x8)) < (x0.size : Int) then (if (bt x0 (wrap64 (x7 + x8))) < 65 then (some (x5, 4, wrap64 (x7 + x8))) else (if (bt x0 (wrap64 (x7 + x8))) > 90 then (some (x5, 4, wrap64 (x7 + x8))) else (spec_ReadSegments.l1 k x0 x5 x6 x7 (wrap64 (x8 + 1))))) else (none)) else (none))) else (if 0 ≤ x7 then (if x7 ≤ (wrap64 (x7 + 3)) then (if (wrap64 (x7 + 3)) ≤ (x0.size : Int) then (spec_ReadSegments.l2 k x0 x5 x6 (wrap64 (x7 + 3)) (x0.extract (x7 : Int).toNat ((wrap64 (x7 + 3)) : Int).toNat) ([] : List ByteArray)) else (none)) else (none)) else (none))
def spec_ReadSegments.l2 : Nat → ByteArray → List (S68) → List (S68) → Int → ByteArray → List ByteArray → Option ((List (S68)) × Int × Int)
 | 0, _, _, _, _, _, _ => none
 | k + 1, x0, x5, x6, x7, x108000, x108001 => if x7 < (x0.size : Int) then (if 0 ≤ x7 then (spec_ReadSegments.j3 k x0 x5 x6 x7 ((bt x0 x7) == 43) x108000 x108001) else (none)) else (spec_ReadSegments.j3 k x0 x5 x6 x7 false x108000 x108001)
def spec_ReadSegments.j3 : Nat → ByteArray → List (S68) → List (S68) → Int → Bool → ByteArray → List ByteArray → Option ((List (S68)) × Int × Int)
 | 0, _, _, _, _, _, _, _ => none
 | k + 1, x0, x5, x6, x7, x73, x108000, x108001 => if x73 = true then (if (x108001.length : Int) = 20 then (some (x5, 9, x7)) else (spec_ReadSegments.l3 k x0 x5 x6 (wrap64 (x7 + 1)) (([] : List Int)) x108000 x108001)) else (if x7 = (x0.size : Int) then (some (x5, 4, x7)) else (if 0 ≤ x7 then (if x7 < (x0.size : Int) then (if (bt x0 x7) = 39 then (if x6.length < 3518437208883 then (spec_ReadSegments.l0 k x0 x5 (x6 ++ [(⟨x108000, x108001⟩ : S68)]) (wrap64 (x7 + 1))) else (none)) else (some (x5, 4, x7))) else (none)) else (none)))
def spec_ReadSegments.l3 : Nat → ByteArray → List (S68) → List (S68) → Int → List Int → ByteArray → List ByteArray → Option ((List (S68)) × Int × Int)
 | 0, _, _, _, _, _, _, _ => none
 | k + 1, x0, x5, x6, x7, x10, x108000, x108001 => if x7 < (x0.size : Int) then (if 0 ≤ x7 then (if (bt x0 x7) = 43 then (spec_ReadSegments.j5 k x0 x5 x6 x7 x10 false x108000 x108001) else (spec_ReadSegments.j5 k x0 x5 x6 x7 x10 ((bt x0 x7) != 39) x108000 x108001)) else (none)) else (spec_ReadSegments.j5 k x0 x5 x6 x7 x10 false x108000 x108001)
def spec_ReadSegments.j5 : Nat → ByteArray → List (S68) → List (S68) → Int → List Int → Bool → ByteArray → List ByteArray → Option ((List (S68)) × Int × Int)
 | 0, _, _, _, _, _, _, _, _ => none
 | k + 1, x0, x5, x6, x7, x10, x98, x108000, x108001 => if x98 = true then (if 0 ≤ x7 then (if x7 < (x0.size : Int) then (if (bt x0 x7) = 63 then (if (wrap64 (x7 + 1)) = (x0.size : Int) then (spec_ReadSegments.j6 k x0 x5 x6 (wrap64 (x7 + 1)) x10 true x108000 x108001) else (if 0 ≤ (wrap64 (x7 + 1)) then (if (wrap64 (x7 + 1)) < (x0.size : Int) then ((spec_l18Special.f (bt x0 (wrap64 (x7 + 1)))).bind fun t117 => (spec_ReadSegments.j6 k x0 x5 x6 (wrap64 (x7 + 1)) x10 (!t117) x108000 x108001)) else (none)) else (none))) else (if (x10.length : Int) = 80 then (some (x5, 5, x7)) else (if x10.length < 140737488355328 then (spec_ReadSegments.l3 k x0 x5 x6 (wrap64 (x7 + 1)) (x10 ++ [bt x0 x7]) x108000 x108001) else (none)))) else (none)) else (none)) else (if x108001.length < 8796093022208 then (spec_ReadSegments.l2 k x0 x5 x6 x7 x108000 (x108001 ++ [strOfNums x10])) else (none))
def spec_ReadSegments.j6 : Nat → ByteArray → List (S68) → List (S68) → Int → List Int → Bool → ByteArray → List ByteArray → Option ((List (S68)) × Int × Int)
 | 0, _, _, _, _, _, _, _, _ => none
 | k + 1, x0, x5, x6, x7, x10, x115, x108000, x108001 => if x115 = true then (some (x5, 4, x7)) else (if (x10.length : Int) = 80 then (some (x5, 5, x7)) else (if 0 ≤ x7 then (if x7 < (x0.size : Int) then (if x10.length < 140737488355328 then (spec_ReadSegments.l3 k x0 x5 x6 (wrap64 (x7 + 1)) (x10 ++ [bt x0 x7]) x108000 x108001) else (none)) else (none)) else (none)))
end
def spec_ReadSegments.f (k : Nat) (a0 : ByteArray) : Option ((List (S68)) × Int × Int) := (some (([] : List (S68)) : List (S68))).bind fun y101 => (if (a0.size : Int) > 65536 then (some (y101, 2, 0)) else (spec_ReadSegments.l0 k a0 y101 (([] : List (S68))) 0))
theorem spec_ReadSegments.mono_l : ∀ k, (∀ y0 y1 y2 y3, LeO (spec_ReadSegments.l0 k y0 y1 y2 y3) (spec_ReadSegments.l0 (k + 1) y0 y1 y2 y3)) ∧ (∀ y0 y1 y2 y3 y4, LeO (spec_ReadSegments.l1 k y0 y1 y2 y3 y4) (spec_ReadSegments.l1 (k + 1) y0 y1 y2 y3 y4)) ∧ (∀ y0 y1 y2 y3 y4 y5, LeO (spec_ReadSegments.l2 k y0 y1 y2 y3 y4 y5) (spec_ReadSegments.l2 (k + 1) y0 y1 y2 y3 y4 y5)) ∧ (∀ y0 y1 y2 y3 y4 y5 y6, LeO (spec_ReadSegments.j3 k y0 y1 y2 y3 y4 y5 y6) (spec_ReadSegments.j3 (k + 1) y0 y1 y2 y3 y4 y5 y6)) ∧ (∀ y0 y1 y2 y3 y4 y5 y6, LeO (spec_ReadSegments.l3 k y0 y1 y2 y3 y4 y5 y6) (spec_ReadSegments.l3 (k + 1) y0 y1 y2 y3 y4 y5 y6)) ∧ (∀ y0 y1 y2 y3 y4 y5 y6 y7, LeO (spec_ReadSegments.j5 k y0 y1 y2 y3 y4 y5 y6 y7) (spec_ReadSegments.j5 (k + 1) y0 y1 y2 y3 y4 y5 y6 y7)) ∧ (∀ y0 y1 y2 y3 y4 y5 y6 y7, LeO (spec_ReadSegments.j6 k y0 y1 y2 y3 y4 y5 y6 y7) (spec_ReadSegments.j6 (k + 1) y0 y1 y2 y3 y4 y5 y6 y7))
 | 0 => ⟨fun _ _ _ _ r h => by simp [spec_ReadSegments.l0] at h, fun _ _ _ _ _ r h => by simp [spec_ReadSegments.l1] at h, fun _ _ _ _ _ _ r h => by simp [spec_ReadSegments.l2] at h, fun _ _ _ _ _ _ _ r h => by simp [spec_ReadSegments.j3] at h, fun _ _ _ _ _ _ _ r h => by simp [spec_ReadSegments.l3] at h, fun _ _ _ _ _ _ _ _ r h => by simp [spec_ReadSegments.j5] at h, fun _ _ _ _ _ _ _ _ r h => by simp [spec_ReadSegments.j6] at h⟩
 | k + 1 => by
  obtain ⟨ih0, ih1, ih2, ih3, ih4, ih5, ih6⟩ := spec_ReadSegments.mono_l k
  refine ⟨?_, ?_, ?_, ?_, ?_, ?_, ?_⟩
  ·intro y0 y1 y2 y3
   unfold spec_ReadSegments.l0
   repeat' first
   | (with_reducible exact ih0 _ _ _ _)
   | (with_reducible exact ih1 _ _ _ _ _)
   | (with_reducible exact ih2 _ _ _ _ _ _)
   | (with_reducible exact ih3 _ _ _ _ _ _ _)
   | (with_reducible exact ih4 _ _ _ _ _ _ _)
   | (with_reducible exact ih5 _ _ _ _ _ _ _ _)
   | (with_reducible exact ih6 _ _ _ _ _ _ _ _)
   | (with_reducible exact LeO.refl _)
   | (with_reducible exact LeO.none _)
   | (with_reducible refine LeO.ite ?_ ?_)
   | (with_reducible refine LeO.bind ?_ (fun _ => ?_))
   | exact ih0 _ _ _ _
   | exact ih1 _ _ _ _ _
   | exact ih2 _ _ _ _ _ _
   | exact ih3 _ _ _ _ _ _ _
   | exact ih4 _ _ _ _ _ _ _
   | exact ih5 _ _ _ _ _ _ _ _
   | exact ih6 _ _ _ _ _ _ _ _
   | exact LeO.none _
   | refine LeO.ite ?_ ?_
   | refine LeO.bind ?_ (fun _ => ?_)
  ·intro y0 y1 y2 y3 y4
   unfold spec_ReadSegments.l1
   repeat' first
   | (with_reducible exact ih0 _ _ _ _)
   | (with_reducible exact ih1 _ _ _ _ _)
   | (with_reducible exact ih2 _ _ _ _ _ _)
   | (with_reducible exact ih3 _ _ _ _ _ _ _)
   | (with_reducible exact ih4 _ _ _ _ _ _ _)
   | (with_reducible exact ih5 _ _ _ _ _ _ _ _)
   | (with_reducible exact ih6 _ _ _ _ _ _ _ _)
   | (with_reducible exact LeO.refl _)
   | (with_reducible exact LeO.none _)
   | (with_reducible refine LeO.ite ?_ ?_)
   | (with_reducible refine LeO.bind ?_ (fun _ => ?_))
   | exact ih0 _ _ _ _
   | exact ih1 _ _ _ _ _
   | exact ih2 _ _ _ _ _ _
   | exact ih3 _ _ _ _ _ _ _
   | exact ih4 _ _ _ _ _ _ _
   | exact ih5 _ _ _ _ _ _ _ _
   | exact ih6 _ _ _ _ _ _ _ _
   | exact LeO.none _
   | refine LeO.ite ?_ ?_
   | refine LeO.bind ?_ (fun _ => ?_)
  ·intro y0 y1 y2 y3 y4 y5
   unfold spec_ReadSegments.l2
   repeat' first
   | (with_reducible exact ih0 _ _ _ _)
   | (with_reducible exact ih1 _ _ _ _ _)
   | (with_reducible exact ih2 _ _ _ _ _ _)
   | (with_reducible exact ih3 _ _ _ _ _ _ _)
   | (with_reducible exact ih4 _ _ _ _ _ _ _)
   | (with_reducible exact ih5 _ _ _ _ _ _ _ _)
   | (with_reducible exact ih6 _ _ _ _ _ _ _ _)
   | (with_reducible exact LeO.refl _)
   | (with_reducible exact LeO.none _)
   | (with_reducible refine LeO.ite ?_ ?_)
   | (with_reducible refine LeO.bind ?_ (fun _ => ?_))
   | exact ih0 _ _ _ _
   | exact ih1 _ _ _ _ _
   | exact ih2 _ _ _ _ _ _
   | exact ih3 _ _ _ _ _ _ _
   | exact ih4 _ _ _ _ _ _ _
   | exact ih5 _ _ _ _ _ _ _ _
   | exact ih6 _ _ _ _ _ _ _ _
   | exact LeO.none _
   | refine LeO.ite ?_ ?_
   | refine LeO.bind ?_ (fun _ => ?_)
  ·intro y0 y1 y2 y3 y4 y5 y6
   unfold spec_ReadSegments.j3
   repeat' first
   | (with_reducible exact ih0 _ _ _ _)
   | (with_reducible exact ih1 _ _ _ _ _)
   | (with_reducible exact ih2 _ _ _ _ _ _)
   | (with_reducible exact ih3 _ _ _ _ _ _ _)
   | (with_reducible exact ih4 _ _ _ _ _ _ _)
   | (with_reducible exact ih5 _ _ _ _ _ _ _ _)
   | (with_reducible exact ih6 _ _ _ _ _ _ _ _)
   | (with_reducible exact LeO.refl _)
   | (with_reducible exact LeO.none _)
   | (with_reducible refine LeO.ite ?_ ?_)
   | (with_reducible refine LeO.bind ?_ (fun _ => ?_))
   | exact ih0 _ _ _ _
   | exact ih1 _ _ _ _ _
   | exact ih2 _ _ _ _ _ _
   | exact ih3 _ _ _ _ _ _ _
   | exact ih4 _ _ _ _ _ _ _
   | exact ih5 _ _ _ _ _ _ _ _
   | exact ih6 _ _ _ _ _ _ _ _
   | exact LeO.none _
   | refine LeO.ite ?_ ?_
   | refine LeO.bind ?_ (fun _ => ?_)
  ·intro y0 y1 y2 y3 y4 y5 y6
   unfold spec_ReadSegments.l3
   repeat' first
   | (with_reducible exact ih0 _ _ _ _)
   | (with_reducible exact ih1 _ _ _ _ _)
   | (with_reducible exact ih2 _ _ _ _ _ _)
   | (with_reducible exact ih3 _ _ _ _ _ _ _)
   | (with_reducible exact ih4 _ _ _ _ _ _ _)
   | (with_reducible exact ih5 _ _ _ _ _ _ _ _)
   | (with_reducible exact ih6 _ _ _ _ _ _ _ _)
   | (with_reducible exact LeO.refl _)
   | (with_reducible exact LeO.none _)
   | (with_reducible refine LeO.ite ?_ ?_)
   | (with_reducible refine LeO.bind ?_ (fun _ => ?_))
   | exact ih0 _ _ _ _
   | exact ih1 _ _ _ _ _
   | exact ih2 _ _ _ _ _ _
   | exact ih3 _ _ _ _ _ _ _
   | exact ih4 _ _ _ _ _ _ _
   | exact ih5 _ _ _ _ _ _ _ _
   | exact ih6 _ _ _ _ _ _ _ _
   | exact LeO.none _
   | refine LeO.ite ?_ ?_
   | refine LeO.bind ?_ (fun _ => ?_)
  ·intro y0 y1 y2 y3 y4 y5 y6 y7
   unfold spec_ReadSegments.j5
   repeat' first
   | (with_reducible exact ih0 _ _ _ _)
   | (with_reducible exact ih1 _ _ _ _ _)
   | (with_reducible exact ih2 _ _ _ _ _ _)
   | (with_reducible exact ih3 _ _ _ _ _ _ _)
   | (with_reducible exact ih4 _ _ _ _ _ _ _)
   | (with_reducible exact ih5 _ _ _ _ _ _ _ _)
   | (with_reducible exact ih6 _ _ _ _ _ _ _ _)
   | (with_reducible exact LeO.refl _)
   | (with_reducible exact LeO.none _)
   | (with_reducible refine LeO.ite ?_ ?_)
   | (with_reducible refine LeO.bind ?_ (fun _ => ?_))
   | exact ih0 _ _ _ _
   | exact ih1 _ _ _ _ _
   | exact ih2 _ _ _ _ _ _
   | exact ih3 _ _ _ _ _ _ _
   | exact ih4 _ _ _ _ _ _ _
   | exact ih5 _ _ _ _ _ _ _ _
   | exact ih6 _ _ _ _ _ _ _ _
   | exact LeO.none _
   | refine LeO.ite ?_ ?_
   | refine LeO.bind ?_ (fun _ => ?_)
  ·intro y0 y1 y2 y3 y4 y5 y6 y7
   unfold spec_ReadSegments.j6
   repeat' first
   | (with_reducible exact ih0 _ _ _ _)
   | (with_reducible exact ih1 _ _ _ _ _)
   | (with_reducible exact ih2 _ _ _ _ _ _)
   | (with_reducible exact ih3 _ _ _ _ _ _ _)
   | (with_reducible exact ih4 _ _ _ _ _ _ _)
   | (with_reducible exact ih5 _ _ _ _ _ _ _ _)
   | (with_reducible exact ih6 _ _ _ _ _ _ _ _)
   | (with_reducible exact LeO.refl _)
   | (with_reducible exact LeO.none _)
   | (with_reducible refine LeO.ite ?_ ?_)
   | (with_reducible refine LeO.bind ?_ (fun _ => ?_))
   | exact ih0 _ _ _ _
   | exact ih1 _ _ _ _ _
   | exact ih2 _ _ _ _ _ _
   | exact ih3 _ _ _ _ _ _ _
   | exact ih4 _ _ _ _ _ _ _
   | exact ih5 _ _ _ _ _ _ _ _
   | exact ih6 _ _ _ _ _ _ _ _
   | exact LeO.none _
   | refine LeO.ite ?_ ?_
   | refine LeO.bind ?_ (fun _ => ?_)
theorem spec_ReadSegments.mono : ∀ a0 k, LeO (spec_ReadSegments.f k a0) (spec_ReadSegments.f (k + 1) a0) := by
 intro a0 k
 obtain ⟨ih0, ih1, ih2, ih3, ih4, ih5, ih6⟩ := spec_ReadSegments.mono_l k
 unfold spec_ReadSegments.f
 repeat' first
   | (with_reducible exact ih0 _ _ _ _)
   | (with_reducible exact ih1 _ _ _ _ _)
   | (with_reducible exact ih2 _ _ _ _ _ _)
   | (with_reducible exact ih3 _ _ _ _ _ _ _)
   | (with_reducible exact ih4 _ _ _ _ _ _ _)
   | (with_reducible exact ih5 _ _ _ _ _ _ _ _)
   | (with_reducible exact ih6 _ _ _ _ _ _ _ _)
   | (with_reducible exact LeO.refl _)
   | (with_reducible exact LeO.none _)
   | (with_reducible refine LeO.ite ?_ ?_)
   | (with_reducible refine LeO.bind ?_ (fun _ => ?_))
   | exact ih0 _ _ _ _
   | exact ih1 _ _ _ _ _
   | exact ih2 _ _ _ _ _ _
   | exact ih3 _ _ _ _ _ _ _
   | exact ih4 _ _ _ _ _ _ _
   | exact ih5 _ _ _ _ _ _ _ _
   | exact ih6 _ _ _ _ _ _ _ _
   | exact LeO.none _
   | refine LeO.ite ?_ ?_
   | refine LeO.bind ?_ (fun _ => ?_)
set_option maxHeartbeats 8000000 in
set_option maxRecDepth 100000 in
theorem spec_ReadSegments.calls (k : Nat) (a0 : ByteArray) (r1 : List (S68)) (r2 : Int) (r3 : Int) (w : World) (h : spec_ReadSegments.f k a0 = some (r1, r2, r3)) :
  Calls Try.prog 12 #[.string a0] w fun e w' => ∃ v0_ : Value, e = .returned (.tuple #[v0_, .int .i64 r2, .int .i64 r3]) ∧ Kd.S k68 68 w' w.heap.size (fun _ => True) v0_ r1 ∧ Below w.heap.size w w' := by
 have hu68 := Try.underlying68
 have HB := Aside0.mk (Below.refl w.heap.size w)
 have H : ((some (([] : List (S68)) : List (S68))).bind fun y101 => (if (a0.size : Int) > 65536 then (some (y101, 2, 0)) else (spec_ReadSegments.l0 k a0 y101 (([] : List (S68))) 0))) = some (r1, r2, r3) := h
 clear h
 obtain ⟨y101, hy101⟩ : ∃ y_ : List (S68), y_ = (([] : List (S68))) := ⟨_, rfl⟩
 replace H : (if (a0.size : Int) > 65536 then (some (y101, 2, 0)) else (spec_ReadSegments.l0 k a0 y101 (([] : List (S68))) 0)) = some (r1, r2, r3) := by first | (rw [hy101]; with_reducible exact H) | (have H2_ := (Option.bind_some _ _).symm.trans H; rw [hy101]; with_reducible exact H2_) | (have H2_ := (Option.bind_some _ _).symm.trans H; with_reducible exact H2_) | with_reducible exact H | (rw [hy101]; exact H) | exact H
 have Ny101 := Aside0.mk hy101
 clear hy101
 by_cases c2 : (a0.size : Int) > 65536
 ·rw [if_pos c2] at H
  have c2b0 : decide (65536 < (a0.size : Int)) = true := decide_eq_true c2
  have c2b1 : decide (65536 < a0.size) = true := decide_eq_true (by omega)
  clear c2
  simp only [Option.some.injEq, Prod.mk.injEq] at H
  obtain ⟨rfl, rfl, rfl⟩ := H
  go_enter Try.func12, Try.ntmps12
  go_wp2_with (first | ((with_reducible refine gate_dst (N := 11) rfl ?_); refine Kd.S_lit k68 _ 68 ?hg (N := 11) ?hd (xs := ([] : List (S68))) (inner := []) (ok := fun _ => True) (okp := fun _ => True) ?hr ?hp (fun _ hk => hk) trivial (Below.refl _ _) (Nat.le_refl _) (by simp) ?_; (case hd => rfl); (case hg => rfl); (case hr => first | (go_simp; done) | (go_simp; rfl)); (case hp => exact (Reps.none _ _)); intro v102 w3 ho4 hb hg_ hnew_; clear hg_ hnew_; (first | rw [← Ny101.out] at ho4 | (simp only [Int.reduceToNat] at ho4; rw [← Ny101.out] at ho4)); have n0_ := Aside0.mk (Kd.S_lower ho4 (below_size bl_)); have n1_ := Aside0.mk (below_step bl_ hb); clear HB; have HO103 := n0_; have HB := n1_; clear n0_ n1_; clear hb ho4))
  go_ret3
  exact ⟨_, by first | rfl | (simp [errW_none, errW_some] <;> rfl) | (simp [*, errW_none, errW_some] <;> rfl), by (with_reducible repeat (first | apply Kd.S_alloc | apply Kd.S_drewN | apply Kd.S_drew)); exact HO103.out, by repeat (first | (with_reducible first | exact HB.out | apply below_alloc | apply pw_below_drewN | apply below_drew1) | exact HB.out)⟩
 rw [if_neg c2] at H
 have c2b0 : decide (65536 < (a0.size : Int)) = false := decide_eq_false c2
 have c2b1 : decide (65536 < a0.size) = false := decide_eq_false (by omega)
 clear c2
 obtain ⟨y104, hy104⟩ : ∃ y_ : List (S68), y_ = (([] : List (S68))) := ⟨_, rfl⟩
 replace H : (spec_ReadSegments.l0 k a0 y101 y104 0) = some (r1, r2, r3) := by first | (rw [hy104]; with_reducible exact H) | (have H2_ := (Option.bind_some _ _).symm.trans H; rw [hy104]; with_reducible exact H2_) | (have H2_ := (Option.bind_some _ _).symm.trans H; with_reducible exact H2_) | with_reducible exact H | (rw [hy104]; exact H) | exact H
 have Ny104 := Aside0.mk hy104
 clear hy104
 have H' := Aside0.mk H
 clear H
 go_enter Try.func12, Try.ntmps12
 go_wp2_with (first | ((with_reducible refine gate_dst (N := 11) rfl ?_); refine Kd.S_lit k68 _ 68 ?hg (N := 11) ?hd (xs := ([] : List (S68))) (inner := []) (ok := fun _ => True) (okp := fun _ => True) ?hr ?hp (fun _ hk => hk) trivial (Below.refl _ _) (Nat.le_refl _) (by simp) ?_; (case hd => rfl); (case hg => rfl); (case hr => first | (go_simp; done) | (go_simp; rfl)); (case hp => exact (Reps.none _ _)); intro v102 w5 ho6 hb hg_ hnew_; clear hg_ hnew_; (first | rw [← Ny101.out] at ho6 | (simp only [Int.reduceToNat] at ho6; rw [← Ny101.out] at ho6)); have n0_ := Aside0.mk (Kd.S_lower ho6 (below_size bl_)); have n1_ := Aside0.mk (below_step bl_ hb); clear HB; have HO103 := n0_; have HB := n1_; clear n0_ n1_; clear hb ho6) | ((with_reducible refine gate_dst (N := 16) rfl ?_); refine Kd.S_lit k68 _ 68 ?hg (N := 16) ?hd (xs := ([] : List (S68))) (inner := []) (ok := fun _ => True) (okp := fun _ => True) ?hr ?hp (fun _ hk => hk) trivial (Below.refl _ _) (Nat.le_refl _) (by simp) ?_; (case hd => rfl); (case hg => rfl); (case hr => first | (go_simp; done) | (go_simp; rfl)); (case hp => exact (Reps.none _ _)); intro v105 w7 ho8 hb hg_ hnew_; clear hg_ hnew_; (first | rw [← Ny104.out] at ho8 | (simp only [Int.reduceToNat] at ho8; rw [← Ny104.out] at ho8)); have n0_ := Aside0.mk (Kd.S_elder' (by (with_reducible repeat (first | apply Kd.S_alloc | apply Kd.S_drewN | apply Kd.S_drew)); exact HO103.out) (Kd.S_base ho8) hb); have n1_ := Aside0.mk (Kd.S_lower (Kd.S_new' ho8 (Kd.S_lt (by (with_reducible repeat (first | apply Kd.S_alloc | apply Kd.S_drewN | apply Kd.S_drew)); exact HO103.out))) (below_size bl_)); have n2_ := Aside0.mk (below_step bl_ hb); clear HO103; clear HB; have HO103 := n0_; have HO106 := n1_; have HB := n2_; clear n0_ n1_ n2_; clear hb ho8))
 go_loopg [6, 7] k (fun kq v6 v7 w' => ∃ (x6_1 : List (S68)) (x7_1 : Int), v7 = .int .i64 x7_1 ∧ Aside0 (spec_ReadSegments.l0 kq a0 y101 x6_1 x7_1 = some (r1, r2, r3)) ∧ Aside0 (kq ≤ k) ∧ Aside0 (Kd.S k68 68 w' w.heap.size (fun k_ => some k_ ≠ (v6 : Value).ownBlock) v102 y101) ∧ Aside0 (Kd.S k68 68 w' w.heap.size (fun k_ => some k_ ≠ (v102 : Value).ownBlock) v6 x6_1) ∧ Aside0 (Below w.heap.size w w'))
 case atStart => exact ⟨(y104), (0), (by first | rfl | (simp; done) | (simp [*]; done)), H', ⟨Nat.le_refl _⟩, ⟨by (with_reducible repeat (first | apply Kd.S_alloc | apply Kd.S_drewN | apply Kd.S_drew)); exact Kd.S_mono HO103.out (fun _ hk => hk.2)⟩, ⟨by (with_reducible repeat (first | apply Kd.S_alloc | apply Kd.S_drewN | apply Kd.S_drew)); exact Kd.S_mono HO106.out (fun _ hk => hk.2)⟩, ⟨by repeat (first | (with_reducible first | exact HB.out | apply below_alloc | apply pw_below_drewN | apply below_drew1) | exact HB.out)⟩⟩
 case round =>
  clear H'
  (try clear c1); (try clear c2); (try clear c2b0); (try clear c2b1); (try clear p2)
  obtain ⟨x6_1, x7_1, rfl, HA, HK1, HO_5, HO_6, HB⟩ := hrel
  cases gk with
  | zero => exact absurd HA.out (by simp [spec_ReadSegments.l0])
  | succ k1 =>
   have H := HA.out
   clear HA
   simp only [spec_ReadSegments.l0] at H
   by_cases c9 : x7_1 < (a0.size : Int)
   rotate_left
   ·rw [if_neg c9] at H
    have c9b0 : decide (x7_1 < (a0.size : Int)) = false := decide_eq_false c9
    clear c9
    simp only [Option.some.injEq, Prod.mk.injEq] at H
    obtain ⟨rfl, rfl, rfl⟩ := H
    go_wp2
    go_ret3
    exact ⟨_, by first | rfl | (simp [errW_none, errW_some] <;> rfl) | (simp [*, errW_none, errW_some] <;> rfl), by (with_reducible repeat (first | apply Kd.S_alloc | apply Kd.S_drewN | apply Kd.S_drew)); exact Kd.S_mono HO_6.out (fun _ hk => trivial), by repeat (first | (with_reducible first | exact HB.out | apply below_alloc | apply pw_below_drewN | apply below_drew1) | exact HB.out)⟩

   rw [if_pos c9] at H
   have c9b0 : decide (x7_1 < (a0.size : Int)) = true := decide_eq_true c9
   clear c9
   by_cases c10 : (x6_1.length : Int) = 200
   ·rw [if_pos c10] at H
    have c10b0 : ((x6_1.length : Int) == 200) = true := beq_iff_eq.mpr c10
    have c10b1 : ((x6_1.length : Int) != 200) = false := bne_eq_false_iff_eq.mpr c10
    clear c10
    simp only [Option.some.injEq, Prod.mk.injEq] at H
    obtain ⟨rfl, rfl, rfl⟩ := H
    obtain ⟨Ao11, co11, eo11⟩ := Kd.S_slice HO_6.out
    subst eo11
    go_wp2
    go_ret3
    exact ⟨_, by first | rfl | (simp [errW_none, errW_some] <;> rfl) | (simp [*, errW_none, errW_some] <;> rfl), by (with_reducible repeat (first | apply Kd.S_alloc | apply Kd.S_drewN | apply Kd.S_drew)); exact Kd.S_mono HO_5.out (fun _ hk => trivial), by repeat (first | (with_reducible first | exact HB.out | apply below_alloc | apply pw_below_drewN | apply below_drew1) | exact HB.out)⟩
   rw [if_neg c10] at H
   have c10b0 : ((x6_1.length : Int) == 200) = false := beq_eq_false_iff_ne.mpr c10
   have c10b1 : ((x6_1.length : Int) != 200) = true := bne_iff_ne.mpr c10
   have H' := Aside0.mk H
   clear H
   obtain ⟨Ao12, co12, eo12⟩ := Kd.S_slice HO_6.out
   subst eo12
   go_wp2
   go_loopg [8] k1 (fun kq v8 w' => ∃ (x8_2 : Int), v8 = .int .i64 x8_2 ∧ Aside0 (spec_ReadSegments.l1 kq a0 y101 x6_1 x7_1 x8_2 = some (r1, r2, r3)) ∧ Aside0 (kq ≤ k1) ∧ Aside0 (Kd.S k68 68 w' w.heap.size (fun k_ => some k_ ≠ ((.slice Ao12 x6_1.length co12) : Value).ownBlock) v102 y101) ∧ Aside0 (Kd.S k68 68 w' w.heap.size (fun k_ => some k_ ≠ (v102 : Value).ownBlock) (.slice Ao12 x6_1.length co12) x6_1) ∧ Aside0 (Below w.heap.size w w'))
   case atStart => exact ⟨(0), (by first | rfl | (simp; done) | (simp [*]; done)), H', ⟨Nat.le_refl _⟩, ⟨by (with_reducible repeat (first | apply Kd.S_alloc | apply Kd.S_drewN | apply Kd.S_drew)); exact HO_5.out⟩, ⟨by (with_reducible repeat (first | apply Kd.S_alloc | apply Kd.S_drewN | apply Kd.S_drew)); exact HO_6.out⟩, ⟨by repeat (first | (with_reducible first | exact HB.out | apply below_alloc | apply pw_below_drewN | apply below_drew1) | exact HB.out)⟩⟩
   case round =>
    clear H'
    (try clear c9); (try clear c9b0); (try clear c10); (try clear c10b0); (try clear c10b1); (try clear c12)
    obtain ⟨x8_2, rfl, HA, HK2, HO_5, HO_6, HB⟩ := hrel
    cases gk with
    | zero => exact absurd HA.out (by simp [spec_ReadSegments.l1])
    | succ k2 =>
     have H := HA.out
     clear HA
     simp only [spec_ReadSegments.l1] at H
     by_cases c13 : x8_2 < 3
     ·rw [if_pos c13] at H
      have c13b0 : decide (x8_2 < 3) = true := decide_eq_true c13
      clear c13
      by_cases c14 : (wrap64 (x7_1 + x8_2)) ≥ (a0.size : Int)
      ·rw [if_pos c14] at H
       have c14b0 : decide ((a0.size : Int) ≤ (wrap64 (x7_1 + x8_2))) = true := decide_eq_true c14
       clear c14
       simp only [Option.some.injEq, Prod.mk.injEq] at H
       obtain ⟨rfl, rfl, rfl⟩ := H
       go_wp2
       go_ret3
       exact ⟨_, by first | rfl | (simp [errW_none, errW_some] <;> rfl) | (simp [*, errW_none, errW_some] <;> rfl), by (with_reducible repeat (first | apply Kd.S_alloc | apply Kd.S_drewN | apply Kd.S_drew)); exact Kd.S_mono HO_5.out (fun _ hk => trivial), by repeat (first | (with_reducible first | exact HB.out | apply below_alloc | apply pw_below_drewN | apply below_drew1) | exact HB.out)⟩
      rw [if_neg c14] at H
      have c14b0 : decide ((a0.size : Int) ≤ (wrap64 (x7_1 + x8_2))) = false := decide_eq_false c14
      clear c14
      obtain ⟨ji15, hji15⟩ : ∃ j_ : Int, (wrap64 (x7_1 + x8_2)) = j_ := ⟨_, rfl⟩
      replace H : (if 0 ≤ (ji15) then (if (ji15) < (a0.size : Int) then (if (bt a0 (ji15)) < 65 then (some (y101, 4, ji15)) else (if (bt a0 (ji15)) > 90 then (some (y101, 4, ji15)) else (spec_ReadSegments.l1 k2 a0 y101 x6_1 x7_1 (wrap64 (x8_2 + 1))))) else (none)) else (none)) = some (r1, r2, r3) := by first | (rw [hji15] at H; exact H) | (simp only [hji15] at H ⊢; exact H)
      (try rw [hji15] at c14b0)
      have hji15w : (IntKind.i64.wrap (x7_1 + x8_2)) = ji15 := (i64_w _).trans hji15
      by_cases c16 : 0 ≤ (ji15)
      rotate_left
      ·rw [if_neg c16] at H
       exact absurd H (by simp)
      rw [if_pos c16] at H
      have c16b0 : decide (0 ≤ (ji15)) = true := decide_eq_true c16
      clear c16
      by_cases c17 : (ji15) < (a0.size : Int)
      rotate_left
      ·rw [if_neg c17] at H
       exact absurd H (by simp)
      rw [if_pos c17] at H
      have c17b0 : decide ((ji15) < (a0.size : Int)) = true := decide_eq_true c17
      clear c17
      by_cases c19 : (bt a0 (ji15)) < 65
      ·rw [if_pos c19] at H
       have c19b0 : decide ((bt a0 (ji15)) < 65) = true := decide_eq_true c19
       clear c19
       simp only [Option.some.injEq, Prod.mk.injEq] at H
       obtain ⟨rfl, rfl, rfl⟩ := H
       have p18 : 0 ≤ ((ji15) : Int) := od_
       have q18 : (ji15) < (a0.size : Int) := od_
       have hx18 := bt_at a0 (ji15)
       replace p18 := eq_true p18
       replace q18 := eq_true q18
       go_wp2
       go_ret3
       exact ⟨_, by first | rfl | (simp [errW_none, errW_some] <;> rfl) | (simp only [← hji15]; first | rfl | (simp [errW_none, errW_some] <;> rfl)) | (simp [*, errW_none, errW_some] <;> rfl), by (with_reducible repeat (first | apply Kd.S_alloc | apply Kd.S_drewN | apply Kd.S_drew)); exact Kd.S_mono HO_5.out (fun _ hk => trivial), by repeat (first | (with_reducible first | exact HB.out | apply below_alloc | apply pw_below_drewN | apply below_drew1) | exact HB.out)⟩
      rw [if_neg c19] at H
      have c19b0 : decide ((bt a0 (ji15)) < 65) = false := decide_eq_false c19
      clear c19
      by_cases c21 : (bt a0 (ji15)) > 90
      ·rw [if_pos c21] at H
       have c21b0 : decide (90 < (bt a0 (ji15))) = true := decide_eq_true c21
       clear c21
       simp only [Option.some.injEq, Prod.mk.injEq] at H
       obtain ⟨rfl, rfl, rfl⟩ := H
       have p18 : 0 ≤ ((ji15) : Int) := od_
       have q18 : (ji15) < (a0.size : Int) := od_
       have hx18 := bt_at a0 (ji15)
       replace p18 := eq_true p18
       replace q18 := eq_true q18
       have p20 : 0 ≤ ((ji15) : Int) := od_
       have q20 : (ji15) < (a0.size : Int) := od_
       have hx20 := bt_at a0 (ji15)
       replace p20 := eq_true p20
       replace q20 := eq_true q20
       go_wp2
       go_ret3
       exact ⟨_, by first | rfl | (simp [errW_none, errW_some] <;> rfl) | (simp only [← hji15]; first | rfl | (simp [errW_none, errW_some] <;> rfl)) | (simp [*, errW_none, errW_some] <;> rfl), by (with_reducible repeat (first | apply Kd.S_alloc | apply Kd.S_drewN | apply Kd.S_drew)); exact Kd.S_mono HO_5.out (fun _ hk => trivial), by repeat (first | (with_reducible first | exact HB.out | apply below_alloc | apply pw_below_drewN | apply below_drew1) | exact HB.out)⟩
      rw [if_neg c21] at H
      have c21b0 : decide (90 < (bt a0 (ji15))) = false := decide_eq_false c21
      clear c21
      have H' := Aside0.mk H
      clear H
      have p18 : 0 ≤ ((ji15) : Int) := od_
      have q18 : (ji15) < (a0.size : Int) := od_
      have hx18 := bt_at a0 (ji15)
      replace p18 := eq_true p18
      replace q18 := eq_true q18
      have p20 : 0 ≤ ((ji15) : Int) := od_
      have q20 : (ji15) < (a0.size : Int) := od_
      have hx20 := bt_at a0 (ji15)
      replace p20 := eq_true p20
      replace q20 := eq_true q20
      go_wp2
      go_roundg k2
      case measure => have := HK1.out; have := HK2.out; omega
      case rel => exact ⟨(wrap64 (x8_2 + 1)), (by first | rfl | (simp; done) | (simp [*]; done)), H', ⟨by have := HK1.out; have := HK2.out; omega⟩, ⟨by (with_reducible repeat (first | apply Kd.S_alloc | apply Kd.S_drewN | apply Kd.S_drew)); exact HO_5.out⟩, ⟨by (with_reducible repeat (first | apply Kd.S_alloc | apply Kd.S_drewN | apply Kd.S_drew)); exact HO_6.out⟩, ⟨by repeat (first | (with_reducible first | exact HB.out | apply below_alloc | apply pw_below_drewN | apply below_drew1) | exact HB.out)⟩⟩
     rw [if_neg c13] at H
     have c13b0 : decide (x8_2 < 3) = false := decide_eq_false c13
     clear c13
     by_cases c22 : 0 ≤ x7_1
     rotate_left
     ·rw [if_neg c22] at H
      exact absurd H (by simp)
     rw [if_pos c22] at H
     have c22b0 := eq_true c22
     have c22b1 : decide (0 ≤ x7_1) = true := decide_eq_true c22
     clear c22
     by_cases c23 : x7_1 ≤ (wrap64 (x7_1 + 3))
     rotate_left
     ·rw [if_neg c23] at H
      exact absurd H (by simp)
     rw [if_pos c23] at H
     have c23b0 := eq_true c23
     have c23b1 : decide (x7_1 ≤ (wrap64 (x7_1 + 3))) = true := decide_eq_true c23
     by_cases c24 : (wrap64 (x7_1 + 3)) ≤ (a0.size : Int)
     rotate_left
     ·rw [if_neg c24] at H
      exact absurd H (by simp)
     rw [if_pos c24] at H
     have c24b0 := eq_true c24
     have c24b1 : decide ((wrap64 (x7_1 + 3)) ≤ (a0.size : Int)) = true := decide_eq_true c24
     have H' := Aside0.mk H
     clear H
     go_wp2_with (first | ((with_reducible refine gate_dst (N := 9) rfl ?_); refine box_event ?hg (N := 9) ?hd (cs := #[.string (⟨#[]⟩ : ByteArray), .slice none 0 0]) (t := 68) ?hr ?_; (case hd => rfl); (case hg => rfl); (case hr => first | (go_simp; done) | (go_simp; rfl)); intro gb107 hg w25 hbox hb; have n0_ := Aside0.mk (Kd.S_below (Kd.S_elderB (by (with_reducible repeat (first | apply Kd.S_alloc | apply Kd.S_drewN | apply Kd.S_drew)); exact HO_5.out) gb107 (Nat.le_of_eq hg.symm)) hb); have n1_ := Aside0.mk (Kd.S_below (Kd.S_elderB (by (with_reducible repeat (first | apply Kd.S_alloc | apply Kd.S_drewN | apply Kd.S_drew)); exact HO_6.out) gb107 (Nat.le_of_eq hg.symm)) hb); have n2_ := Aside0.mk (below_step bl_ hb); have n3_ := Aside0.mk (hbox); have n4_ := Aside0.mk ((by rw [hg]; exact (below_size bl_) : w.heap.size ≤ gb107)); have n5_ := Aside0.mk ((by rw [hg]; exact (below_size bl_) : w.heap.size ≤ gb107)); clear HO_5; clear HO_6; clear HB; have HO_5 := n0_; have HO_6 := n1_; have HB := n2_; have BK107 := n3_; have GW107 := n4_; have GE107 := n5_; clear n0_ n1_ n2_ n3_ n4_ n5_; clear hb hbox hg; have hcz26_0 : w25.cell? ⟨gb107, 0, none⟩ = some (.string (⟨#[]⟩ : ByteArray)) := (blk_cell BK107.out 0).trans rfl; have hcz26_1 : w25.cell? ⟨gb107, 1, none⟩ = some (.slice none 0 0) := (blk_cell BK107.out 1).trans rfl; have hfz26_0 := blk_frozen BK107.out 0; have hfz26_1 := blk_frozen BK107.out 1))
     go_loopg [7] k2 (fun kq v7 w' => ∃ (x7_3 : Int) (x108001_3 : List ByteArray) (u108001 : Value), v7 = .int .i64 x7_3 ∧ Aside0 (spec_ReadSegments.l2 kq a0 y101 x6_1 x7_3 (a0.extract (x7_1 : Int).toNat ((wrap64 (x7_1 + 3)) : Int).toNat) x108001_3 = some (r1, r2, r3)) ∧ Aside0 (kq ≤ k2) ∧ Aside0 (Kd.S k68 68 w' w.heap.size (fun k_ => some k_ ≠ ((.slice Ao12 x6_1.length co12) : Value).ownBlock ∧ some k_ ≠ (u108001 : Value).ownBlock ∧ k_ ≠ gb107) v102 y101) ∧ Aside0 (Kd.S k68 68 w' w.heap.size (fun k_ => some k_ ≠ (v102 : Value).ownBlock ∧ some k_ ≠ (u108001 : Value).ownBlock ∧ k_ ≠ gb107) (.slice Ao12 x6_1.length co12) x6_1) ∧ Aside0 (Kd.R Kd.string 9 w' w.heap.size (fun _ => True) u108001 x108001_3) ∧ Aside0 (w'.heap[gb107]? = some (.cells #[.string (a0.extract (x7_1 : Int).toNat ((wrap64 (x7_1 + 3)) : Int).toNat), u108001] 68 (0, 0))) ∧ Aside0 (Below w.heap.size w w'))
     case atStart => exact ⟨(wrap64 (x7_1 + 3)), (([] : List ByteArray)), (.slice none 0 0), (by first | rfl | (simp; done) | (simp [*]; done)), H', ⟨Nat.le_refl _⟩, ⟨by (with_reducible repeat (first | apply Kd.S_alloc | apply Kd.S_drewN | apply Kd.S_drew)); exact Kd.S_mono (Kd.S_far (p := ⟨gb107, 1, none⟩) (Kd.S_far (p := ⟨gb107, 0, none⟩) (Kd.S_mono HO_5.out (fun k_ hk => (⟨hk, by first | exact hk.2 | exact hk⟩ : _ ∧ k_ ≠ gb107))) (fun _ hk => hk.2) (.string (a0.extract (x7_1 : Int).toNat ((wrap64 (x7_1 + 3)) : Int).toNat))) (fun _ hk => hk.2) (.slice none 0 0)) (fun _ hk => ⟨hk.1.1, ⟨(by simp [Value.ownBlock]), hk.1.2⟩⟩)⟩, ⟨by (with_reducible repeat (first | apply Kd.S_alloc | apply Kd.S_drewN | apply Kd.S_drew)); exact Kd.S_mono (Kd.S_far (p := ⟨gb107, 1, none⟩) (Kd.S_far (p := ⟨gb107, 0, none⟩) (Kd.S_mono HO_6.out (fun k_ hk => (⟨hk, by first | exact hk.2 | exact hk⟩ : _ ∧ k_ ≠ gb107))) (fun _ hk => hk.2) (.string (a0.extract (x7_1 : Int).toNat ((wrap64 (x7_1 + 3)) : Int).toNat))) (fun _ hk => hk.2) (.slice none 0 0)) (fun _ hk => ⟨hk.1.1, ⟨(by simp [Value.ownBlock]), hk.1.2⟩⟩)⟩, ⟨by first | exact Kd.R_nil _ _ _ _ _ | exact Kd.N_nil _ _ _ _ _ | exact Kd.V_nil _ _ _ _ _ | exact Kd.Q_nil _ _ _ _ _ | exact Kd.S_nil _ _ _ _ _⟩, ⟨by (with_reducible repeat (first | refine blk_drewN ?_ _ | refine blk_drew ?_ | refine blk_alloc ?_ _)); refine blk_put (cs := #[.string (a0.extract (x7_1 : Int).toNat ((wrap64 (x7_1 + 3)) : Int).toNat), .slice none 0 0]) ?_ 1 _ rfl; (with_reducible repeat (first | refine blk_drewN ?_ _ | refine blk_drew ?_ | refine blk_alloc ?_ _)); refine blk_put (cs := #[.string (⟨#[]⟩ : ByteArray), .slice none 0 0]) ?_ 0 _ rfl; (with_reducible repeat (first | refine blk_drewN ?_ _ | refine blk_drew ?_ | refine blk_alloc ?_ _)); exact BK107.out⟩, ⟨by repeat (first | (with_reducible first | exact HB.out | apply below_alloc | apply pw_below_drewN | apply below_drew1 | refine below_set ?_ GE107.out) | exact HB.out)⟩⟩
     case round =>
      clear H'
      (try clear p1); (try clear q1); (try clear hx1); (try clear q2); (try clear hx2); (try clear p6); (try clear c13); (try clear c13b0); (try clear c14); (try clear c14b0); (try clear c16); (try clear c16b0); (try clear c17); (try clear c17b0); (try clear p18); (try clear q18); (try clear hx18); (try clear c19); (try clear c19b0); (try clear p20); (try clear q20); (try clear hx20); (try clear c21); (try clear c21b0); (try clear c22); (try clear c22b0); (try clear c22b1); (try clear c23); (try clear c23b0); (try clear c23b1); (try clear c24); (try clear c24b0); (try clear c24b1); (try clear hcz26_0); (try clear hcz26_1); (try clear hfz26_0); (try clear hfz26_1)
      obtain ⟨x7_3, x108001_3, u108001, rfl, HA, HK3, HO_5, HO_6, HO_108001, BK107, HB⟩ := hrel
      cases gk with
      | zero => exact absurd HA.out (by simp [spec_ReadSegments.l2])
      | succ k3 =>
       have H := HA.out
       clear HA
       simp only [spec_ReadSegments.l2] at H
       have HC27 := Aside0.mk H
       clear H
       go_upto_region 16 with (fail)
       go_cut [73] (fun v73 wc => ∃ (kq : Nat) (x73_26 : Bool), v73 = .bool x73_26 ∧ Aside0 (spec_ReadSegments.j3 kq a0 y101 x6_1 x7_3 x73_26 (a0.extract (x7_1 : Int).toNat ((wrap64 (x7_1 + 3)) : Int).toNat) x108001_3 = some (r1, r2, r3)) ∧ Aside0 (kq ≤ k3) ∧ Aside0 (Kd.S k68 68 wc w.heap.size (fun k_ => some k_ ≠ ((.slice Ao12 x6_1.length co12) : Value).ownBlock ∧ some k_ ≠ (u108001 : Value).ownBlock ∧ k_ ≠ gb107) v102 y101) ∧ Aside0 (Kd.S k68 68 wc w.heap.size (fun k_ => some k_ ≠ (v102 : Value).ownBlock ∧ some k_ ≠ (u108001 : Value).ownBlock ∧ k_ ≠ gb107) (.slice Ao12 x6_1.length co12) x6_1) ∧ Aside0 (Kd.R Kd.string 9 wc w.heap.size (fun _ => True) u108001 x108001_3) ∧ Aside0 (wc.heap[gb107]? = some (.cells #[.string (a0.extract (x7_1 : Int).toNat ((wrap64 (x7_1 + 3)) : Int).toNat), u108001] 68 (0, 0))) ∧ Aside0 (Below w.heap.size w wc))
       case first =>
        have H := HC27.out
        clear HC27
        by_cases c28 : x7_3 < (a0.size : Int)
        rotate_left
        ·rw [if_neg c28] at H
         have c28b0 : decide (x7_3 < (a0.size : Int)) = false := decide_eq_false c28
         clear c28
         (first | rw [c28b0] | (simp only [i64_w, i32_w]; rw [c28b0]) | skip)
         have H' := Aside0.mk H
         clear H
         go_wp2
         go_meet
         case rel => exact ⟨_, (false), (by first | rfl | (simp; done) | (simp [*]; done)), H', ⟨by have := HK1.out; have := HK2.out; have := HK3.out; first | omega | exact Nat.le_refl _⟩, ⟨by (with_reducible repeat (first | apply Kd.S_alloc | apply Kd.S_drewN | apply Kd.S_drew)); exact HO_5.out⟩, ⟨by (with_reducible repeat (first | apply Kd.S_alloc | apply Kd.S_drewN | apply Kd.S_drew)); exact HO_6.out⟩, ⟨by (with_reducible repeat (first | apply Kd.R_alloc | apply Kd.R_drewN | apply Kd.R_drew)); exact HO_108001.out⟩, ⟨by (with_reducible repeat (first | refine blk_drewN ?_ _ | refine blk_drew ?_ | refine blk_alloc ?_ _)); exact BK107.out⟩, ⟨by repeat (first | (with_reducible first | exact HB.out | apply below_alloc | apply pw_below_drewN | apply below_drew1 | refine below_set ?_ GE107.out) | exact HB.out)⟩⟩
        rw [if_pos c28] at H
        have c28b0 : decide (x7_3 < (a0.size : Int)) = true := decide_eq_true c28
        clear c28
        (first | rw [c28b0] | (simp only [i64_w, i32_w]; rw [c28b0]) | skip)
        by_cases c29 : 0 ≤ x7_3
        rotate_left
        ·rw [if_neg c29] at H
         exact absurd H (by simp)
        rw [if_pos c29] at H
        have c29b0 : decide (0 ≤ x7_3) = true := decide_eq_true c29
        clear c29
        have H' := Aside0.mk H
        clear H
        have p30 : 0 ≤ (x7_3 : Int) := od_
        have q30 : x7_3 < (a0.size : Int) := od_
        have hx30 := bt_at a0 x7_3
        replace p30 := eq_true p30
        replace q30 := eq_true q30
        go_wp2
        go_meet
        case rel => exact ⟨_, (((bt a0 x7_3) == 43)), (by first | rfl | (simp; done) | (simp [*]; done)), H', ⟨by have := HK1.out; have := HK2.out; have := HK3.out; first | omega | exact Nat.le_refl _⟩, ⟨by (with_reducible repeat (first | apply Kd.S_alloc | apply Kd.S_drewN | apply Kd.S_drew)); exact HO_5.out⟩, ⟨by (with_reducible repeat (first | apply Kd.S_alloc | apply Kd.S_drewN | apply Kd.S_drew)); exact HO_6.out⟩, ⟨by (with_reducible repeat (first | apply Kd.R_alloc | apply Kd.R_drewN | apply Kd.R_drew)); exact HO_108001.out⟩, ⟨by (with_reducible repeat (first | refine blk_drewN ?_ _ | refine blk_drew ?_ | refine blk_alloc ?_ _)); exact BK107.out⟩, ⟨by repeat (first | (with_reducible first | exact HB.out | apply below_alloc | apply pw_below_drewN | apply below_drew1 | refine below_set ?_ GE107.out) | exact HB.out)⟩⟩
       case rest =>
        clear HC27
        (try clear p3); (try clear q3); (try clear hx3); (try clear c28); (try clear c28b0); (try clear c29); (try clear c29b0); (try clear p30); (try clear q30); (try clear hx30)
        obtain ⟨kq, x73_26, rfl, HA, HJ26, HO_5, HO_6, HO_108001, BK107, HB⟩ := hcut
        cases kq with
        | zero => exact absurd HA.out (by simp [spec_ReadSegments.j3])
        | succ kj26 =>
         have H := HA.out
         clear HA
         simp only [spec_ReadSegments.j3] at H
         by_cases c31 : x73_26 = true
         rotate_left
         ·replace c31 := Bool.eq_false_iff.mpr c31
          subst c31
          have H1 : (if x7_3 = (a0.size : Int) then (some (y101, 4, x7_3)) else (if 0 ≤ x7_3 then (if x7_3 < (a0.size : Int) then (if (bt a0 x7_3) = 39 then (if x6_1.length < 3518437208883 then (spec_ReadSegments.l0 kj26 a0 y101 (x6_1 ++ [(⟨(a0.extract (x7_1 : Int).toNat ((wrap64 (x7_1 + 3)) : Int).toNat), x108001_3⟩ : S68)]) (wrap64 (x7_3 + 1))) else (none)) else (some (y101, 4, x7_3))) else (none)) else (none))) = some (r1, r2, r3) := by rw [if_neg (show ¬ (false = true) by decide)] at H; exact H
          clear H
          have H := H1
          clear H1
          by_cases c79 : x7_3 = (a0.size : Int)
          ·rw [if_pos c79] at H
           have c79b0 : (x7_3 == (a0.size : Int)) = true := beq_iff_eq.mpr c79
           have c79b1 : (x7_3 != (a0.size : Int)) = false := bne_eq_false_iff_eq.mpr c79
           clear c79
           simp only [Option.some.injEq, Prod.mk.injEq] at H
           obtain ⟨rfl, rfl, rfl⟩ := H
           go_wp2
           go_ret3
           exact ⟨_, by first | rfl | (simp [errW_none, errW_some] <;> rfl) | (simp [*, errW_none, errW_some] <;> rfl), by (with_reducible repeat (first | apply Kd.S_alloc | apply Kd.S_drewN | apply Kd.S_drew)); exact Kd.S_mono HO_5.out (fun _ hk => trivial), by repeat (first | (with_reducible first | exact HB.out | apply below_alloc | apply pw_below_drewN | apply below_drew1 | refine below_set ?_ GE107.out) | exact HB.out)⟩
          rw [if_neg c79] at H
          have c79b0 : (x7_3 == (a0.size : Int)) = false := beq_eq_false_iff_ne.mpr c79
          have c79b1 : (x7_3 != (a0.size : Int)) = true := bne_iff_ne.mpr c79
          by_cases c80 : 0 ≤ x7_3
          rotate_left
          ·rw [if_neg c80] at H
           exact absurd H (by simp)
          rw [if_pos c80] at H
          have c80b0 : decide (0 ≤ x7_3) = true := decide_eq_true c80
          clear c80
          by_cases c81 : x7_3 < (a0.size : Int)
          rotate_left
          ·rw [if_neg c81] at H
           exact absurd H (by simp)
          rw [if_pos c81] at H
          have c81b0 : decide (x7_3 < (a0.size : Int)) = true := decide_eq_true c81
          clear c81
          by_cases c83 : (bt a0 x7_3) = 39
          rotate_left
          ·rw [if_neg c83] at H
           have c83b0 : ((bt a0 x7_3) == 39) = false := beq_eq_false_iff_ne.mpr c83
           have c83b1 : ((bt a0 x7_3) != 39) = true := bne_iff_ne.mpr c83
           simp only [Option.some.injEq, Prod.mk.injEq] at H
           obtain ⟨rfl, rfl, rfl⟩ := H
           have p82 : 0 ≤ (x7_3 : Int) := od_
           have q82 : x7_3 < (a0.size : Int) := od_
           have hx82 := bt_at a0 x7_3
           replace p82 := eq_true p82
           replace q82 := eq_true q82
           go_wp2
           go_ret3
           exact ⟨_, by first | rfl | (simp [errW_none, errW_some] <;> rfl) | (simp [*, errW_none, errW_some] <;> rfl), by (with_reducible repeat (first | apply Kd.S_alloc | apply Kd.S_drewN | apply Kd.S_drew)); exact Kd.S_mono HO_5.out (fun _ hk => trivial), by repeat (first | (with_reducible first | exact HB.out | apply below_alloc | apply pw_below_drewN | apply below_drew1 | refine below_set ?_ GE107.out) | exact HB.out)⟩
          rw [if_pos c83] at H
          have c83b0 : ((bt a0 x7_3) == 39) = true := beq_iff_eq.mpr c83
          have c83b1 : ((bt a0 x7_3) != 39) = false := bne_eq_false_iff_eq.mpr c83
          clear c83
          by_cases c84 : x6_1.length < 3518437208883
          rotate_left
          ·rw [if_neg c84] at H
           exact absurd H (by simp)
          rw [if_pos c84] at H
          have LMc84 := Aside0.mk c84
          clear c84
          obtain ⟨y108, hy108⟩ : ∃ y_ : List (S68), y_ = (x6_1 ++ [(⟨(a0.extract (x7_1 : Int).toNat ((wrap64 (x7_1 + 3)) : Int).toNat), x108001_3⟩ : S68)]) := ⟨_, rfl⟩
          replace H : (spec_ReadSegments.l0 kj26 a0 y101 y108 (wrap64 (x7_3 + 1))) = some (r1, r2, r3) := by first | (rw [hy108]; with_reducible exact H) | (have H2_ := (Option.bind_some _ _).symm.trans H; rw [hy108]; with_reducible exact H2_) | (have H2_ := (Option.bind_some _ _).symm.trans H; with_reducible exact H2_) | with_reducible exact H | (rw [hy108]; exact H) | exact H
          have Ny108 := Aside0.mk hy108
          clear hy108
          have H' := Aside0.mk H
          clear H
          have p82 : 0 ≤ (x7_3 : Int) := od_
          have q82 : x7_3 < (a0.size : Int) := od_
          have hx82 := bt_at a0 x7_3
          replace p82 := eq_true p82
          replace q82 := eq_true q82
          have hcz85_0 : wc.cell? ⟨gb107, 0, none⟩ = some (.string (a0.extract (x7_1 : Int).toNat ((wrap64 (x7_1 + 3)) : Int).toNat)) := (blk_cell BK107.out 0).trans rfl
          have hcz85_1 : wc.cell? ⟨gb107, 1, none⟩ = some (u108001) := (blk_cell BK107.out 1).trans rfl
          have hfz85_0 := blk_frozen BK107.out 0
          have hfz85_1 := blk_frozen BK107.out 1
          obtain ⟨Ao87, co87, eo87⟩ := Kd.R_slice HO_108001.out
          subst eo87
          go_wp2_with (first | ((with_reducible refine gate_builtin (b := .append) (xs := #[.tmp 152, .tmp 154]) rfl ?_); at_builtin; refine Kd.S_append k68 (w0 := w) w.heap.size rfl (.tmp 152) (.tmp 154) 30 68 (.agg #[(.string ⟨#[]⟩), (.slice none 0 0)]) 40 rfl Try.underlying30 info68 rfl (by decide) (by omega) (.slice Ao12 x6_1.length co12) x6_1 (⟨(a0.extract (x7_1 : Int).toNat ((wrap64 (x7_1 + 3)) : Int).toNat), x108001_3⟩ : S68) [.string (a0.extract (x7_1 : Int).toNat ((wrap64 (x7_1 + 3)) : Int).toNat), .slice Ao87 x108001_3.length co87] (fun k_ => some k_ ≠ (v102 : Value).ownBlock ∧ k_ ≠ gb107) (fun k_ => some k_ = (.slice Ao87 x108001_3.length co87 : Value).ownBlock) rfl rfl ?aP (fun k_ hk_ => ((Kd.R_mono (ok' := fun k_ => ((fun k_ => some k_ ≠ (v102 : Value).ownBlock ∧ k_ ≠ gb107)) k_ ∧ some k_ ≠ (.slice Ao12 x6_1.length co12 : Value).ownBlock) (Kd.R_types (Kd.R_apart' (Kd.R_apart' (HO_108001.out) (Kd.S_typed HO_5.out) (by decide)) (Kd.S_typed HO_6.out) (by decide)) BK107.out (by decide)) (fun k_ hk => ⟨⟨hk.1.1.2, hk.2⟩, hk.1.2⟩))).1 k_ hk_.symm) ?aF ?aO ?aB ?aS ?aL ?_; (case aP => exact k68_mkM _ _ _ (⟨(a0.extract (x7_1 : Int).toNat ((wrap64 (x7_1 + 3)) : Int).toNat), x108001_3⟩ : S68) (Kd.R_mono (Kd.R_tight rfl (Kd.R_mono (ok' := fun k_ => ((fun k_ => some k_ ≠ (v102 : Value).ownBlock ∧ k_ ≠ gb107)) k_ ∧ some k_ ≠ (.slice Ao12 x6_1.length co12 : Value).ownBlock) (Kd.R_types (Kd.R_apart' (Kd.R_apart' (HO_108001.out) (Kd.S_typed HO_5.out) (by decide)) (Kd.S_typed HO_6.out) (by decide)) BK107.out (by decide)) (fun k_ hk => ⟨⟨hk.1.1.2, hk.2⟩, hk.1.2⟩))) (fun _ h_ => h_))); (case aB => exact bl_); (case aF => exact (fun k_ hk => ⟨Kd.fresh' (Kd.S_lt (by (with_reducible repeat (first | apply Kd.S_alloc | apply Kd.S_drewN | apply Kd.S_drew)); exact HO_5.out)) k_ hk, Kd.freshB (g := gb107) (o := .cells #[.string (a0.extract (x7_1 : Int).toNat ((wrap64 (x7_1 + 3)) : Int).toNat), .slice Ao87 x108001_3.length co87] 68 (0, 0)) bk_ k_ hk⟩)); (case aO => exact (by (with_reducible repeat (first | apply Kd.S_alloc | apply Kd.S_drewN | apply Kd.S_drew)); exact Kd.S_mono HO_6.out (fun k_ hk => ⟨⟨hk.1, hk.2.2⟩, fun e_ => hk.2.1 e_⟩))); (case aS => exact (below_size bl_)); (case aL => have := LMc84.out; omega); intro v109 w86 ho hb hg hat; rw [← Ny108.out] at ho; have n0_ := Aside0.mk (Kd.S_after (ok := (fun k_ => some k_ ≠ (.slice Ao87 x108001_3.length co87 : Value).ownBlock ∧ k_ ≠ gb107)) (by (with_reducible repeat (first | apply Kd.S_alloc | apply Kd.S_drewN | apply Kd.S_drew)); exact Kd.S_mono HO_5.out (fun _ hk => ⟨⟨hk.2.1, hk.2.2⟩, hk.1⟩)) hg hat); have n1_ := Aside0.mk (blk_grown (g := gb107) (o := .cells #[.string (a0.extract (x7_1 : Int).toNat ((wrap64 (x7_1 + 3)) : Int).toNat), .slice Ao87 x108001_3.length co87] 68 (0, 0)) bk_ hg (Kd.S_away HO_6.out (fun _ hk => hk.2.2))); have n2_ := Aside0.mk (hb); have n3_ := Aside0.mk (ho); clear HO_5; clear BK107; clear HB; clear HO_6; clear HO_108001; have HO_5 := n0_; have BK107 := n1_; have HB := n2_; have HO110 := n3_; clear n0_ n1_ n2_ n3_; clear ho hb hg hat))
          go_roundg kj26
          case measure => have := HK1.out; have := HK2.out; have := HK3.out; have := HJ26.out; omega
          case rel => exact ⟨(y108), (wrap64 (x7_3 + 1)), (by first | rfl | (simp; done) | (simp [*]; done)), H', ⟨by have := HK1.out; have := HK2.out; have := HK3.out; have := HJ26.out; omega⟩, ⟨by (with_reducible repeat (first | apply Kd.S_alloc | apply Kd.S_drewN | apply Kd.S_drew)); exact Kd.S_mono HO_5.out (fun _ hk => hk.2)⟩, ⟨by (with_reducible repeat (first | apply Kd.S_alloc | apply Kd.S_drewN | apply Kd.S_drew)); exact Kd.S_mono HO110.out (fun _ hk => hk.1)⟩, ⟨by repeat (first | (with_reducible first | exact HB.out | apply below_alloc | apply pw_below_drewN | apply below_drew1 | refine below_set ?_ GE107.out) | exact HB.out)⟩⟩
         subst c31
         have H1 : (if (x108001_3.length : Int) = 20 then (some (y101, 9, x7_3)) else (spec_ReadSegments.l3 kj26 a0 y101 x6_1 (wrap64 (x7_3 + 1)) (([] : List Int)) (a0.extract (x7_1 : Int).toNat ((wrap64 (x7_1 + 3)) : Int).toNat) x108001_3)) = some (r1, r2, r3) := by rw [if_pos rfl] at H; exact H
         clear H
         have H := H1
         clear H1
         by_cases c32 : (x108001_3.length : Int) = 20
         ·rw [if_pos c32] at H
          have c32b0 : ((x108001_3.length : Int) == 20) = true := beq_iff_eq.mpr c32
          have c32b1 : ((x108001_3.length : Int) != 20) = false := bne_eq_false_iff_eq.mpr c32
          clear c32
          simp only [Option.some.injEq, Prod.mk.injEq] at H
          obtain ⟨rfl, rfl, rfl⟩ := H
          have hcz33_0 : wc.cell? ⟨gb107, 0, none⟩ = some (.string (a0.extract (x7_1 : Int).toNat ((wrap64 (x7_1 + 3)) : Int).toNat)) := (blk_cell BK107.out 0).trans rfl
          have hcz33_1 : wc.cell? ⟨gb107, 1, none⟩ = some (u108001) := (blk_cell BK107.out 1).trans rfl
          have hfz33_0 := blk_frozen BK107.out 0
          have hfz33_1 := blk_frozen BK107.out 1
          obtain ⟨Ao34, co34, eo34⟩ := Kd.R_slice HO_108001.out
          subst eo34
          go_wp2
          go_ret3
          exact ⟨_, by first | rfl | (simp [errW_none, errW_some] <;> rfl) | (simp [*, errW_none, errW_some] <;> rfl), by (with_reducible repeat (first | apply Kd.S_alloc | apply Kd.S_drewN | apply Kd.S_drew)); exact Kd.S_mono HO_5.out (fun _ hk => trivial), by repeat (first | (with_reducible first | exact HB.out | apply below_alloc | apply pw_below_drewN | apply below_drew1 | refine below_set ?_ GE107.out) | exact HB.out)⟩
         rw [if_neg c32] at H
         have c32b0 : ((x108001_3.length : Int) == 20) = false := beq_eq_false_iff_ne.mpr c32
         have c32b1 : ((x108001_3.length : Int) != 20) = true := bne_iff_ne.mpr c32
         obtain ⟨y111, hy111⟩ : ∃ y_ : List Int, y_ = (([] : List Int)) := ⟨_, rfl⟩
         replace H : (spec_ReadSegments.l3 kj26 a0 y101 x6_1 (wrap64 (x7_3 + 1)) y111 (a0.extract (x7_1 : Int).toNat ((wrap64 (x7_1 + 3)) : Int).toNat) x108001_3) = some (r1, r2, r3) := by first | (rw [hy111]; with_reducible exact H) | (have H2_ := (Option.bind_some _ _).symm.trans H; rw [hy111]; with_reducible exact H2_) | (have H2_ := (Option.bind_some _ _).symm.trans H; with_reducible exact H2_) | with_reducible exact H | (rw [hy111]; exact H) | exact H
         have Ny111 := Aside0.mk hy111
         clear hy111
         have H' := Aside0.mk H
         clear H
         have hcz35_0 : wc.cell? ⟨gb107, 0, none⟩ = some (.string (a0.extract (x7_1 : Int).toNat ((wrap64 (x7_1 + 3)) : Int).toNat)) := (blk_cell BK107.out 0).trans rfl
         have hcz35_1 : wc.cell? ⟨gb107, 1, none⟩ = some (u108001) := (blk_cell BK107.out 1).trans rfl
         have hfz35_0 := blk_frozen BK107.out 0
         have hfz35_1 := blk_frozen BK107.out 1
         obtain ⟨Ao36, co36, eo36⟩ := Kd.R_slice HO_108001.out
         subst eo36
         go_wp2_with (first | ((with_reducible refine gate_dst (N := 82) rfl ?_); refine Kd.R_lit (Kd.int .u8) _ 5 ?hg (N := 82) ?hd (xs := ([] : List Int)) (inner := []) (ok := fun _ => True) (okp := fun _ => True) ?hr ?hp (fun _ hk => hk) trivial (Below.refl _ _) (Nat.le_refl _) (by simp) ?_; (case hd => rfl); (case hg => rfl); (case hr => first | (go_simp; done) | (go_simp; rfl)); (case hp => exact (Reps.none _ _)); intro v112 w37 ho38 hb hg_ hnew_; clear hg_ hnew_; (first | rw [← Ny111.out] at ho38 | (simp only [Int.reduceToNat] at ho38; rw [← Ny111.out] at ho38)); have n0_ := Aside0.mk (Kd.S_below (by (with_reducible repeat (first | apply Kd.S_alloc | apply Kd.S_drewN | apply Kd.S_drew)); exact HO_5.out) hb); have n1_ := Aside0.mk (Kd.S_below (by (with_reducible repeat (first | apply Kd.S_alloc | apply Kd.S_drewN | apply Kd.S_drew)); exact HO_6.out) hb); have n2_ := Aside0.mk (Kd.R_below (by (with_reducible repeat (first | apply Kd.R_alloc | apply Kd.R_drewN | apply Kd.R_drew)); exact HO_108001.out) hb); have n3_ := Aside0.mk (Kd.R_lower ho38 (below_size bl_)); have n4_ := Aside0.mk (blk_below (g := gb107) (o := .cells #[.string (a0.extract (x7_1 : Int).toNat ((wrap64 (x7_1 + 3)) : Int).toNat), .slice Ao36 x108001_3.length co36] 68 (0, 0)) bk_ hb); have n5_ := Aside0.mk (below_step bl_ hb); clear HO_5; clear HO_6; clear HO_108001; clear BK107; clear HB; have HO_5 := n0_; have HO_6 := n1_; have HO_108001 := n2_; have HO113 := n3_; have BK107 := n4_; have HB := n5_; clear n0_ n1_ n2_ n3_ n4_ n5_; clear hb ho38))
         go_loopg [7, 10] kj26 (fun kq v7 v10 w' => ∃ (x7_5 : Int) (x10_5 : List Int), v7 = .int .i64 x7_5 ∧ Aside0 (spec_ReadSegments.l3 kq a0 y101 x6_1 x7_5 x10_5 (a0.extract (x7_1 : Int).toNat ((wrap64 (x7_1 + 3)) : Int).toNat) x108001_3 = some (r1, r2, r3)) ∧ Aside0 (kq ≤ kj26) ∧ Aside0 (Kd.S k68 68 w' w.heap.size (fun k_ => some k_ ≠ ((.slice Ao12 x6_1.length co12) : Value).ownBlock ∧ some k_ ≠ ((.slice Ao36 x108001_3.length co36) : Value).ownBlock ∧ k_ ≠ gb107) v102 y101) ∧ Aside0 (Kd.S k68 68 w' w.heap.size (fun k_ => some k_ ≠ (v102 : Value).ownBlock ∧ some k_ ≠ ((.slice Ao36 x108001_3.length co36) : Value).ownBlock ∧ k_ ≠ gb107) (.slice Ao12 x6_1.length co12) x6_1) ∧ Aside0 (Kd.R (Kd.int .u8) 5 w' w.heap.size (fun _ => True) v10 x10_5) ∧ Aside0 (Kd.R Kd.string 9 w' w.heap.size (fun _ => True) (.slice Ao36 x108001_3.length co36) x108001_3) ∧ Aside0 (w'.heap[gb107]? = some (.cells #[.string (a0.extract (x7_1 : Int).toNat ((wrap64 (x7_1 + 3)) : Int).toNat), (.slice Ao36 x108001_3.length co36)] 68 (0, 0))) ∧ Aside0 (Below w.heap.size w w'))
         case atStart => exact ⟨(wrap64 (x7_3 + 1)), (y111), (by first | rfl | (simp; done) | (simp [*]; done)), H', ⟨Nat.le_refl _⟩, ⟨by (with_reducible repeat (first | apply Kd.S_alloc | apply Kd.S_drewN | apply Kd.S_drew)); exact HO_5.out⟩, ⟨by (with_reducible repeat (first | apply Kd.S_alloc | apply Kd.S_drewN | apply Kd.S_drew)); exact HO_6.out⟩, ⟨by (with_reducible repeat (first | apply Kd.R_alloc | apply Kd.R_drewN | apply Kd.R_drew)); exact HO113.out⟩, ⟨by (with_reducible repeat (first | apply Kd.R_alloc | apply Kd.R_drewN | apply Kd.R_drew)); exact HO_108001.out⟩, ⟨by (with_reducible repeat (first | refine blk_drewN ?_ _ | refine blk_drew ?_ | refine blk_alloc ?_ _)); exact BK107.out⟩, ⟨by repeat (first | (with_reducible first | exact HB.out | apply below_alloc | apply pw_below_drewN | apply below_drew1 | refine below_set ?_ GE107.out) | exact HB.out)⟩⟩
         case round =>
          clear H'
          (try clear c3); (try clear c31); (try clear c32); (try clear c32b0); (try clear c32b1); (try clear hcz33_0); (try clear hcz33_1); (try clear hcz35_0); (try clear hcz35_1); (try clear hfz33_0); (try clear hfz33_1); (try clear hfz35_0); (try clear hfz35_1)
          obtain ⟨x7_5, x10_5, rfl, HA, HK5, HO_5, HO_6, HO_10, HO_108001, BK107, HB⟩ := hrel
          cases gk with
          | zero => exact absurd HA.out (by simp [spec_ReadSegments.l3])
          | succ k5 =>
           have H := HA.out
           clear HA
           simp only [spec_ReadSegments.l3] at H
           have HC39 := Aside0.mk H
           clear H
           go_upto_region 21 with (fail)
           go_cut [98] (fun v98 wc => ∃ (kq : Nat) (x98_38 : Bool), v98 = .bool x98_38 ∧ Aside0 (spec_ReadSegments.j5 kq a0 y101 x6_1 x7_5 x10_5 x98_38 (a0.extract (x7_1 : Int).toNat ((wrap64 (x7_1 + 3)) : Int).toNat) x108001_3 = some (r1, r2, r3)) ∧ Aside0 (kq ≤ k5) ∧ Aside0 (Kd.S k68 68 wc w.heap.size (fun k_ => some k_ ≠ ((.slice Ao12 x6_1.length co12) : Value).ownBlock ∧ some k_ ≠ ((.slice Ao36 x108001_3.length co36) : Value).ownBlock ∧ k_ ≠ gb107) v102 y101) ∧ Aside0 (Kd.S k68 68 wc w.heap.size (fun k_ => some k_ ≠ (v102 : Value).ownBlock ∧ some k_ ≠ ((.slice Ao36 x108001_3.length co36) : Value).ownBlock ∧ k_ ≠ gb107) (.slice Ao12 x6_1.length co12) x6_1) ∧ Aside0 (Kd.R (Kd.int .u8) 5 wc w.heap.size (fun _ => True) u10 x10_5) ∧ Aside0 (Kd.R Kd.string 9 wc w.heap.size (fun _ => True) (.slice Ao36 x108001_3.length co36) x108001_3) ∧ Aside0 (wc.heap[gb107]? = some (.cells #[.string (a0.extract (x7_1 : Int).toNat ((wrap64 (x7_1 + 3)) : Int).toNat), (.slice Ao36 x108001_3.length co36)] 68 (0, 0))) ∧ Aside0 (Below w.heap.size w wc))
           case first =>
            have H := HC39.out
            clear HC39
            by_cases c40 : x7_5 < (a0.size : Int)
            rotate_left
            ·rw [if_neg c40] at H
             have c40b0 : decide (x7_5 < (a0.size : Int)) = false := decide_eq_false c40
             clear c40
             (first | rw [c40b0] | (simp only [i64_w, i32_w]; rw [c40b0]) | skip)
             have H' := Aside0.mk H
             clear H
             go_wp2
             go_meet
             case rel => exact ⟨_, (false), (by first | rfl | (simp; done) | (simp [*]; done)), H', ⟨by have := HK1.out; have := HK2.out; have := HK3.out; have := HJ26.out; have := HK5.out; first | omega | exact Nat.le_refl _⟩, ⟨by (with_reducible repeat (first | apply Kd.S_alloc | apply Kd.S_drewN | apply Kd.S_drew)); exact HO_5.out⟩, ⟨by (with_reducible repeat (first | apply Kd.S_alloc | apply Kd.S_drewN | apply Kd.S_drew)); exact HO_6.out⟩, ⟨by (with_reducible repeat (first | apply Kd.R_alloc | apply Kd.R_drewN | apply Kd.R_drew)); exact HO_10.out⟩, ⟨by (with_reducible repeat (first | apply Kd.R_alloc | apply Kd.R_drewN | apply Kd.R_drew)); exact HO_108001.out⟩, ⟨by (with_reducible repeat (first | refine blk_drewN ?_ _ | refine blk_drew ?_ | refine blk_alloc ?_ _)); exact BK107.out⟩, ⟨by repeat (first | (with_reducible first | exact HB.out | apply below_alloc | apply pw_below_drewN | apply below_drew1 | refine below_set ?_ GE107.out) | exact HB.out)⟩⟩
            rw [if_pos c40] at H
            have c40b0 : decide (x7_5 < (a0.size : Int)) = true := decide_eq_true c40
            clear c40
            (first | rw [c40b0] | (simp only [i64_w, i32_w]; rw [c40b0]) | skip)
            by_cases c41 : 0 ≤ x7_5
            rotate_left
            ·rw [if_neg c41] at H
             exact absurd H (by simp)
            rw [if_pos c41] at H
            have c41b0 : decide (0 ≤ x7_5) = true := decide_eq_true c41
            clear c41
            by_cases c43 : (bt a0 x7_5) = 43
            ·rw [if_pos c43] at H
             have c43b0 : ((bt a0 x7_5) == 43) = true := beq_iff_eq.mpr c43
             have c43b1 : ((bt a0 x7_5) != 43) = false := bne_eq_false_iff_eq.mpr c43
             clear c43
             have H' := Aside0.mk H
             clear H
             have p42 : 0 ≤ (x7_5 : Int) := od_
             have q42 : x7_5 < (a0.size : Int) := od_
             have hx42 := bt_at a0 x7_5
             replace p42 := eq_true p42
             replace q42 := eq_true q42
             go_wp2
             go_meet
             case rel => exact ⟨_, (false), (by first | rfl | (simp; done) | (simp [*]; done)), H', ⟨by have := HK1.out; have := HK2.out; have := HK3.out; have := HJ26.out; have := HK5.out; first | omega | exact Nat.le_refl _⟩, ⟨by (with_reducible repeat (first | apply Kd.S_alloc | apply Kd.S_drewN | apply Kd.S_drew)); exact HO_5.out⟩, ⟨by (with_reducible repeat (first | apply Kd.S_alloc | apply Kd.S_drewN | apply Kd.S_drew)); exact HO_6.out⟩, ⟨by (with_reducible repeat (first | apply Kd.R_alloc | apply Kd.R_drewN | apply Kd.R_drew)); exact HO_10.out⟩, ⟨by (with_reducible repeat (first | apply Kd.R_alloc | apply Kd.R_drewN | apply Kd.R_drew)); exact HO_108001.out⟩, ⟨by (with_reducible repeat (first | refine blk_drewN ?_ _ | refine blk_drew ?_ | refine blk_alloc ?_ _)); exact BK107.out⟩, ⟨by repeat (first | (with_reducible first | exact HB.out | apply below_alloc | apply pw_below_drewN | apply below_drew1 | refine below_set ?_ GE107.out) | exact HB.out)⟩⟩
            rw [if_neg c43] at H
            have c43b0 : ((bt a0 x7_5) == 43) = false := beq_eq_false_iff_ne.mpr c43
            have c43b1 : ((bt a0 x7_5) != 43) = true := bne_iff_ne.mpr c43
            have H' := Aside0.mk H
            clear H
            have p42 : 0 ≤ (x7_5 : Int) := od_
            have q42 : x7_5 < (a0.size : Int) := od_
            have hx42 := bt_at a0 x7_5
            replace p42 := eq_true p42
            replace q42 := eq_true q42
            have p44 : 0 ≤ (x7_5 : Int) := od_
            have q44 : x7_5 < (a0.size : Int) := od_
            have hx44 := bt_at a0 x7_5
            replace p44 := eq_true p44
            replace q44 := eq_true q44
            go_wp2
            go_meet
            case rel => exact ⟨_, (((bt a0 x7_5) != 39)), (by first | rfl | (simp; done) | (simp [*]; done)), H', ⟨by have := HK1.out; have := HK2.out; have := HK3.out; have := HJ26.out; have := HK5.out; first | omega | exact Nat.le_refl _⟩, ⟨by (with_reducible repeat (first | apply Kd.S_alloc | apply Kd.S_drewN | apply Kd.S_drew)); exact HO_5.out⟩, ⟨by (with_reducible repeat (first | apply Kd.S_alloc | apply Kd.S_drewN | apply Kd.S_drew)); exact HO_6.out⟩, ⟨by (with_reducible repeat (first | apply Kd.R_alloc | apply Kd.R_drewN | apply Kd.R_drew)); exact HO_10.out⟩, ⟨by (with_reducible repeat (first | apply Kd.R_alloc | apply Kd.R_drewN | apply Kd.R_drew)); exact HO_108001.out⟩, ⟨by (with_reducible repeat (first | refine blk_drewN ?_ _ | refine blk_drew ?_ | refine blk_alloc ?_ _)); exact BK107.out⟩, ⟨by repeat (first | (with_reducible first | exact HB.out | apply below_alloc | apply pw_below_drewN | apply below_drew1 | refine below_set ?_ GE107.out) | exact HB.out)⟩⟩
           case rest =>
            clear HC39
            (try clear c4); (try clear p4); (try clear q4); (try clear hx4); (try clear c40); (try clear c40b0); (try clear c41); (try clear c41b0); (try clear p42); (try clear q42); (try clear hx42); (try clear c43); (try clear c43b0); (try clear c43b1); (try clear p44); (try clear q44); (try clear hx44)
            obtain ⟨kq, x98_38, rfl, HA, HJ38, HO_5, HO_6, HO_10, HO_108001, BK107, HB⟩ := hcut
            cases kq with
            | zero => exact absurd HA.out (by simp [spec_ReadSegments.j5])
            | succ kj38 =>
             have H := HA.out
             clear HA
             simp only [spec_ReadSegments.j5] at H
             by_cases c45 : x98_38 = true
             rotate_left
             ·replace c45 := Bool.eq_false_iff.mpr c45
              subst c45
              have H1 : (if x108001_3.length < 8796093022208 then (spec_ReadSegments.l2 kj38 a0 y101 x6_1 x7_5 (a0.extract (x7_1 : Int).toNat ((wrap64 (x7_1 + 3)) : Int).toNat) (x108001_3 ++ [strOfNums x10_5])) else (none)) = some (r1, r2, r3) := by rw [if_neg (show ¬ (false = true) by decide)] at H; exact H
              clear H
              have H := H1
              clear H1
              by_cases c73 : x108001_3.length < 8796093022208
              rotate_left
              ·rw [if_neg c73] at H
               exact absurd H (by simp)
              rw [if_pos c73] at H
              have LMc73 := Aside0.mk c73
              clear c73
              obtain ⟨y114, hy114⟩ : ∃ y_ : List ByteArray, y_ = (x108001_3 ++ [strOfNums x10_5]) := ⟨_, rfl⟩
              replace H : (spec_ReadSegments.l2 kj38 a0 y101 x6_1 x7_5 (a0.extract (x7_1 : Int).toNat ((wrap64 (x7_1 + 3)) : Int).toNat) y114) = some (r1, r2, r3) := by first | (rw [hy114]; with_reducible exact H) | (have H2_ := (Option.bind_some _ _).symm.trans H; rw [hy114]; with_reducible exact H2_) | (have H2_ := (Option.bind_some _ _).symm.trans H; with_reducible exact H2_) | with_reducible exact H | (rw [hy114]; exact H) | exact H
              have Ny114 := Aside0.mk hy114
              clear hy114
              have H' := Aside0.mk H
              clear H
              have hcz74_0 : wc.cell? ⟨gb107, 0, none⟩ = some (.string (a0.extract (x7_1 : Int).toNat ((wrap64 (x7_1 + 3)) : Int).toNat)) := (blk_cell BK107.out 0).trans rfl
              have hcz74_1 : wc.cell? ⟨gb107, 1, none⟩ = some (.slice Ao36 x108001_3.length co36) := (blk_cell BK107.out 1).trans rfl
              have hfz74_0 := blk_frozen BK107.out 0
              have hfz74_1 := blk_frozen BK107.out 1
              have hcv75 := own_string (P := Try.prog) Try.underlying42 Try.underlying5 Try.underlying9 (Kd.own_of_R HO_10.out)
              go_wp2_with (first | ((with_reducible refine gate_builtin (b := .append) (xs := #[.tmp 132, .tmp 135]) rfl ?_); at_builtin; refine Kd.R_append Kd.string (w0 := w) w.heap.size rfl (.tmp 132) (.tmp 135) 66 9 (.string ⟨#[]⟩) 16 rfl Try.underlying66 info9 rfl (by decide) (by omega) (.slice Ao36 x108001_3.length co36) x108001_3 (strOfNums x10_5) [.string (strOfNums x10_5)] (fun _ => True) (fun _ => False) rfl rfl ?aP (fun _ hk => hk.elim) ?aF ?aO ?aB ?aS ?aL ?_; (case aP => exact rfl); (case aB => exact bl_); (case aF => exact (fun _ _ => trivial)); (case aO => exact (by (with_reducible repeat (first | apply Kd.R_alloc | apply Kd.R_drewN | apply Kd.R_drew)); exact HO_108001.out)); (case aS => exact (below_size bl_)); (case aL => have := LMc73.out; omega); intro v115 w76 ho hb hg hat; rw [← Ny114.out] at ho; have n0_ := Aside0.mk (Kd.S_after (ok := (fun k_ => some k_ ≠ (.slice Ao12 x6_1.length co12 : Value).ownBlock ∧ k_ ≠ gb107)) (by (with_reducible repeat (first | apply Kd.S_alloc | apply Kd.S_drewN | apply Kd.S_drew)); exact Kd.S_mono HO_5.out (fun _ hk => ⟨⟨hk.1, hk.2.2⟩, hk.2.1⟩)) hg hat); have n1_ := Aside0.mk (Kd.S_after (ok := (fun k_ => some k_ ≠ (v102 : Value).ownBlock ∧ k_ ≠ gb107)) (by (with_reducible repeat (first | apply Kd.S_alloc | apply Kd.S_drewN | apply Kd.S_drew)); exact Kd.S_mono HO_6.out (fun _ hk => ⟨⟨hk.1, hk.2.2⟩, hk.2.1⟩)) hg hat); have n2_ := Aside0.mk (Kd.R_over' (by (with_reducible repeat (first | apply Kd.R_alloc | apply Kd.R_drewN | apply Kd.R_drew)); exact HO_10.out) (Kd.R_typed (by (with_reducible repeat (first | apply Kd.R_alloc | apply Kd.R_drewN | apply Kd.R_drew)); exact HO_108001.out)) (by decide) hg); have n3_ := Aside0.mk (blk_grown (g := gb107) (o := .cells #[.string (a0.extract (x7_1 : Int).toNat ((wrap64 (x7_1 + 3)) : Int).toNat), .slice Ao36 x108001_3.length co36] 68 (0, 0)) bk_ hg (Kd.R_ne HO_108001.out BK107.out (by decide))); have n4_ := Aside0.mk (hb); have n5_ := Aside0.mk (ho); clear HO_5; clear HO_6; clear HO_10; clear BK107; clear HB; clear HO_108001; have HO_5 := n0_; have HO_6 := n1_; have HO_10 := n2_; have BK107 := n3_; have HB := n4_; have HO116 := n5_; clear n0_ n1_ n2_ n3_ n4_ n5_; clear ho hb hg hat; obtain ⟨Ao77, co77, eo77⟩ := Kd.R_slice HO116.out; subst eo77; have hcz78_0 : w76.cell? ⟨gb107, 0, none⟩ = some (.string (a0.extract (x7_1 : Int).toNat ((wrap64 (x7_1 + 3)) : Int).toNat)) := (blk_cell BK107.out 0).trans rfl; have hcz78_1 : w76.cell? ⟨gb107, 1, none⟩ = some (.slice Ao36 x108001_3.length co36) := (blk_cell BK107.out 1).trans rfl; have hfz78_0 := blk_frozen BK107.out 0; have hfz78_1 := blk_frozen BK107.out 1))
              go_roundg kj38
              case measure => have := HK1.out; have := HK2.out; have := HK3.out; have := HJ26.out; have := HK5.out; have := HJ38.out; omega
              case rel => exact ⟨(x7_5), (y114), (.slice Ao77 y114.length co77), (by first | rfl | (simp; done) | (simp [*]; done)), H', ⟨by have := HK1.out; have := HK2.out; have := HK3.out; have := HJ26.out; have := HK5.out; have := HJ38.out; omega⟩, ⟨by (with_reducible repeat (first | apply Kd.S_alloc | apply Kd.S_drewN | apply Kd.S_drew)); exact Kd.S_mono (Kd.S_far (p := ⟨gb107, 1, none⟩) (Kd.S_mono HO_5.out (fun k_ hk => (⟨hk, hk.1.2⟩ : _ ∧ k_ ≠ gb107))) (fun _ hk => hk.2) (.slice Ao77 y114.length co77)) (fun _ hk => ⟨hk.1.1.1, ⟨hk.1.2, hk.1.1.2⟩⟩)⟩, ⟨by (with_reducible repeat (first | apply Kd.S_alloc | apply Kd.S_drewN | apply Kd.S_drew)); exact Kd.S_mono (Kd.S_far (p := ⟨gb107, 1, none⟩) (Kd.S_mono HO_6.out (fun k_ hk => (⟨hk, hk.1.2⟩ : _ ∧ k_ ≠ gb107))) (fun _ hk => hk.2) (.slice Ao77 y114.length co77)) (fun _ hk => ⟨hk.1.1.1, ⟨hk.1.2, hk.1.1.2⟩⟩)⟩, ⟨by (with_reducible repeat (first | apply Kd.R_alloc | apply Kd.R_drewN | apply Kd.R_drew)); exact Kd.R_mono (Kd.R_far (p := ⟨gb107, 1, none⟩) (Kd.R_types HO116.out BK107.out (by decide)) (fun _ hk => hk.2) (.slice Ao77 y114.length co77)) (fun _ hk => trivial)⟩, ⟨by (with_reducible repeat (first | refine blk_drewN ?_ _ | refine blk_drew ?_ | refine blk_alloc ?_ _)); refine blk_put (cs := #[.string (a0.extract (x7_1 : Int).toNat ((wrap64 (x7_1 + 3)) : Int).toNat), .slice Ao36 x108001_3.length co36]) ?_ 1 _ rfl; (with_reducible repeat (first | refine blk_drewN ?_ _ | refine blk_drew ?_ | refine blk_alloc ?_ _)); exact BK107.out⟩, ⟨by repeat (first | (with_reducible first | exact HB.out | apply below_alloc | apply pw_below_drewN | apply below_drew1 | refine below_set ?_ GE107.out) | exact HB.out)⟩⟩
             subst c45
             have H1 : (if 0 ≤ x7_5 then (if x7_5 < (a0.size : Int) then (if (bt a0 x7_5) = 63 then (if (wrap64 (x7_5 + 1)) = (a0.size : Int) then (spec_ReadSegments.j6 kj38 a0 y101 x6_1 (wrap64 (x7_5 + 1)) x10_5 true (a0.extract (x7_1 : Int).toNat ((wrap64 (x7_1 + 3)) : Int).toNat) x108001_3) else (if 0 ≤ (wrap64 (x7_5 + 1)) then (if (wrap64 (x7_5 + 1)) < (a0.size : Int) then ((spec_l18Special.f (bt a0 (wrap64 (x7_5 + 1)))).bind fun t117 => (spec_ReadSegments.j6 kj38 a0 y101 x6_1 (wrap64 (x7_5 + 1)) x10_5 (!t117) (a0.extract (x7_1 : Int).toNat ((wrap64 (x7_1 + 3)) : Int).toNat) x108001_3)) else (none)) else (none))) else (if (x10_5.length : Int) = 80 then (some (y101, 5, x7_5)) else (if x10_5.length < 140737488355328 then (spec_ReadSegments.l3 kj38 a0 y101 x6_1 (wrap64 (x7_5 + 1)) (x10_5 ++ [bt a0 x7_5]) (a0.extract (x7_1 : Int).toNat ((wrap64 (x7_1 + 3)) : Int).toNat) x108001_3) else (none)))) else (none)) else (none)) = some (r1, r2, r3) := by rw [if_pos rfl] at H; exact H
             clear H
             have H := H1
             clear H1
             by_cases c46 : 0 ≤ x7_5
             rotate_left
             ·rw [if_neg c46] at H
              exact absurd H (by simp)
             rw [if_pos c46] at H
             have c46b0 : decide (0 ≤ x7_5) = true := decide_eq_true c46
             clear c46
             by_cases c47 : x7_5 < (a0.size : Int)
             rotate_left
             ·rw [if_neg c47] at H
              exact absurd H (by simp)
             rw [if_pos c47] at H
             have c47b0 : decide (x7_5 < (a0.size : Int)) = true := decide_eq_true c47
             clear c47
             by_cases c49 : (bt a0 x7_5) = 63
             rotate_left
             ·rw [if_neg c49] at H
              have c49b0 : ((bt a0 x7_5) == 63) = false := beq_eq_false_iff_ne.mpr c49
              have c49b1 : ((bt a0 x7_5) != 63) = true := bne_iff_ne.mpr c49
              by_cases c67 : (x10_5.length : Int) = 80
              ·rw [if_pos c67] at H
               have c67b0 : ((x10_5.length : Int) == 80) = true := beq_iff_eq.mpr c67
               have c67b1 : ((x10_5.length : Int) != 80) = false := bne_eq_false_iff_eq.mpr c67
               clear c67
               simp only [Option.some.injEq, Prod.mk.injEq] at H
               obtain ⟨rfl, rfl, rfl⟩ := H
               have p48 : 0 ≤ (x7_5 : Int) := od_
               have q48 : x7_5 < (a0.size : Int) := od_
               have hx48 := bt_at a0 x7_5
               replace p48 := eq_true p48
               replace q48 := eq_true q48
               obtain ⟨Ao68, co68, eo68⟩ := Kd.R_slice HO_10.out
               subst eo68
               go_wp2
               go_ret3
               exact ⟨_, by first | rfl | (simp [errW_none, errW_some] <;> rfl) | (simp [*, errW_none, errW_some] <;> rfl), by (with_reducible repeat (first | apply Kd.S_alloc | apply Kd.S_drewN | apply Kd.S_drew)); exact Kd.S_mono HO_5.out (fun _ hk => trivial), by repeat (first | (with_reducible first | exact HB.out | apply below_alloc | apply pw_below_drewN | apply below_drew1 | refine below_set ?_ GE107.out) | exact HB.out)⟩
              rw [if_neg c67] at H
              have c67b0 : ((x10_5.length : Int) == 80) = false := beq_eq_false_iff_ne.mpr c67
              have c67b1 : ((x10_5.length : Int) != 80) = true := bne_iff_ne.mpr c67
              by_cases c70 : x10_5.length < 140737488355328
              rotate_left
              ·rw [if_neg c70] at H
               exact absurd H (by simp)
              rw [if_pos c70] at H
              have LMc70 := Aside0.mk c70
              clear c70
              obtain ⟨y121, hy121⟩ : ∃ y_ : List Int, y_ = (x10_5 ++ [bt a0 x7_5]) := ⟨_, rfl⟩
              replace H : (spec_ReadSegments.l3 kj38 a0 y101 x6_1 (wrap64 (x7_5 + 1)) y121 (a0.extract (x7_1 : Int).toNat ((wrap64 (x7_1 + 3)) : Int).toNat) x108001_3) = some (r1, r2, r3) := by first | (rw [hy121]; with_reducible exact H) | (have H2_ := (Option.bind_some _ _).symm.trans H; rw [hy121]; with_reducible exact H2_) | (have H2_ := (Option.bind_some _ _).symm.trans H; with_reducible exact H2_) | with_reducible exact H | (rw [hy121]; exact H) | exact H
              have Ny121 := Aside0.mk hy121
              clear hy121
              have H' := Aside0.mk H
              clear H
              have p48 : 0 ≤ (x7_5 : Int) := od_
              have q48 : x7_5 < (a0.size : Int) := od_
              have hx48 := bt_at a0 x7_5
              replace p48 := eq_true p48
              replace q48 := eq_true q48
              obtain ⟨Ao71, co71, eo71⟩ := Kd.R_slice HO_10.out
              subst eo71
              have p69 : 0 ≤ (x7_5 : Int) := od_
              have q69 : x7_5 < (a0.size : Int) := od_
              have hx69 := bt_at a0 x7_5
              replace p69 := eq_true p69
              replace q69 := eq_true q69
              go_wp2_with (first | ((with_reducible refine gate_builtin (b := .append) (xs := #[.tmp 123, .tmp 127]) rfl ?_); at_builtin; refine Kd.R_append (Kd.int .u8) (w0 := w) w.heap.size rfl (.tmp 123) (.tmp 127) 42 5 (.int .u8 0) 1 rfl Try.underlying42 info5 rfl (by decide) (by omega) (.slice Ao71 x10_5.length co71) x10_5 (bt a0 x7_5) [.int .u8 (bt a0 x7_5)] (fun _ => True) (fun _ => False) rfl rfl ?aP (fun _ hk => hk.elim) ?aF ?aO ?aB ?aS ?aL ?_; (case aP => exact rfl); (case aB => exact bl_); (case aF => exact (fun _ _ => trivial)); (case aO => exact (by (with_reducible repeat (first | apply Kd.R_alloc | apply Kd.R_drewN | apply Kd.R_drew)); exact HO_10.out)); (case aS => exact (below_size bl_)); (case aL => have := LMc70.out; omega); intro v122 w72 ho hb hg hat; rw [← Ny121.out] at ho; have n0_ := Aside0.mk (Kd.S_over' (by (with_reducible repeat (first | apply Kd.S_alloc | apply Kd.S_drewN | apply Kd.S_drew)); exact HO_5.out) (Kd.R_typed (by (with_reducible repeat (first | apply Kd.R_alloc | apply Kd.R_drewN | apply Kd.R_drew)); exact HO_10.out)) (by decide) hg); have n1_ := Aside0.mk (Kd.S_over' (by (with_reducible repeat (first | apply Kd.S_alloc | apply Kd.S_drewN | apply Kd.S_drew)); exact HO_6.out) (Kd.R_typed (by (with_reducible repeat (first | apply Kd.R_alloc | apply Kd.R_drewN | apply Kd.R_drew)); exact HO_10.out)) (by decide) hg); have n2_ := Aside0.mk (Kd.R_over' (by (with_reducible repeat (first | apply Kd.R_alloc | apply Kd.R_drewN | apply Kd.R_drew)); exact HO_108001.out) (Kd.R_typed (by (with_reducible repeat (first | apply Kd.R_alloc | apply Kd.R_drewN | apply Kd.R_drew)); exact HO_10.out)) (by decide) hg); have n3_ := Aside0.mk (blk_grown (g := gb107) (o := .cells #[.string (a0.extract (x7_1 : Int).toNat ((wrap64 (x7_1 + 3)) : Int).toNat), .slice Ao36 x108001_3.length co36] 68 (0, 0)) bk_ hg (Kd.R_ne HO_10.out BK107.out (by decide))); have n4_ := Aside0.mk (hb); have n5_ := Aside0.mk (ho); clear HO_5; clear HO_6; clear HO_108001; clear BK107; clear HB; clear HO_10; have HO_5 := n0_; have HO_6 := n1_; have HO_108001 := n2_; have BK107 := n3_; have HB := n4_; have HO123 := n5_; clear n0_ n1_ n2_ n3_ n4_ n5_; clear ho hb hg hat))
              go_roundg kj38
              case measure => have := HK1.out; have := HK2.out; have := HK3.out; have := HJ26.out; have := HK5.out; have := HJ38.out; omega
              case rel => exact ⟨(wrap64 (x7_5 + 1)), (y121), (by first | rfl | (simp; done) | (simp [*]; done)), H', ⟨by have := HK1.out; have := HK2.out; have := HK3.out; have := HJ26.out; have := HK5.out; have := HJ38.out; omega⟩, ⟨by (with_reducible repeat (first | apply Kd.S_alloc | apply Kd.S_drewN | apply Kd.S_drew)); exact HO_5.out⟩, ⟨by (with_reducible repeat (first | apply Kd.S_alloc | apply Kd.S_drewN | apply Kd.S_drew)); exact HO_6.out⟩, ⟨by (with_reducible repeat (first | apply Kd.R_alloc | apply Kd.R_drewN | apply Kd.R_drew)); exact HO123.out⟩, ⟨by (with_reducible repeat (first | apply Kd.R_alloc | apply Kd.R_drewN | apply Kd.R_drew)); exact HO_108001.out⟩, ⟨by (with_reducible repeat (first | refine blk_drewN ?_ _ | refine blk_drew ?_ | refine blk_alloc ?_ _)); exact BK107.out⟩, ⟨by repeat (first | (with_reducible first | exact HB.out | apply below_alloc | apply pw_below_drewN | apply below_drew1 | refine below_set ?_ GE107.out) | exact HB.out)⟩⟩
             rw [if_pos c49] at H
             have c49b0 : ((bt a0 x7_5) == 63) = true := beq_iff_eq.mpr c49
             have c49b1 : ((bt a0 x7_5) != 63) = false := bne_eq_false_iff_eq.mpr c49
             clear c49
             have HC50 := Aside0.mk H
             clear H
             have p48 : 0 ≤ (x7_5 : Int) := od_
             have q48 : x7_5 < (a0.size : Int) := od_
             have hx48 := bt_at a0 x7_5
             replace p48 := eq_true p48
             replace q48 := eq_true q48
             go_upto_region 24 with (fail)
             go_cut [115] (fun v115 wc => ∃ (kq : Nat) (x115_49 : Bool), v115 = .bool x115_49 ∧ Aside0 (spec_ReadSegments.j6 kq a0 y101 x6_1 (wrap64 (x7_5 + 1)) x10_5 x115_49 (a0.extract (x7_1 : Int).toNat ((wrap64 (x7_1 + 3)) : Int).toNat) x108001_3 = some (r1, r2, r3)) ∧ Aside0 (kq ≤ kj38) ∧ Aside0 (Kd.S k68 68 wc w.heap.size (fun k_ => some k_ ≠ ((.slice Ao12 x6_1.length co12) : Value).ownBlock ∧ some k_ ≠ ((.slice Ao36 x108001_3.length co36) : Value).ownBlock ∧ k_ ≠ gb107) v102 y101) ∧ Aside0 (Kd.S k68 68 wc w.heap.size (fun k_ => some k_ ≠ (v102 : Value).ownBlock ∧ some k_ ≠ ((.slice Ao36 x108001_3.length co36) : Value).ownBlock ∧ k_ ≠ gb107) (.slice Ao12 x6_1.length co12) x6_1) ∧ Aside0 (Kd.R (Kd.int .u8) 5 wc w.heap.size (fun _ => True) u10 x10_5) ∧ Aside0 (Kd.R Kd.string 9 wc w.heap.size (fun _ => True) (.slice Ao36 x108001_3.length co36) x108001_3) ∧ Aside0 (wc.heap[gb107]? = some (.cells #[.string (a0.extract (x7_1 : Int).toNat ((wrap64 (x7_1 + 3)) : Int).toNat), (.slice Ao36 x108001_3.length co36)] 68 (0, 0))) ∧ Aside0 (Below w.heap.size w wc))
             case first =>
              have H := HC50.out
              clear HC50
              by_cases c51 : (wrap64 (x7_5 + 1)) = (a0.size : Int)
              ·rw [if_pos c51] at H
               have c51b0 : ((wrap64 (x7_5 + 1)) == (a0.size : Int)) = true := beq_iff_eq.mpr c51
               have c51b1 : ((wrap64 (x7_5 + 1)) != (a0.size : Int)) = false := bne_eq_false_iff_eq.mpr c51
               clear c51
               (first | rw [c51b0] | (simp only [i64_w, i32_w]; rw [c51b0]) | skip)
               have H' := Aside0.mk H
               clear H
               go_wp2
               go_meet
               case rel => exact ⟨_, (true), (by first | rfl | (simp; done) | (simp [*]; done)), H', ⟨by have := HK1.out; have := HK2.out; have := HK3.out; have := HJ26.out; have := HK5.out; have := HJ38.out; first | omega | exact Nat.le_refl _⟩, ⟨by (with_reducible repeat (first | apply Kd.S_alloc | apply Kd.S_drewN | apply Kd.S_drew)); exact HO_5.out⟩, ⟨by (with_reducible repeat (first | apply Kd.S_alloc | apply Kd.S_drewN | apply Kd.S_drew)); exact HO_6.out⟩, ⟨by (with_reducible repeat (first | apply Kd.R_alloc | apply Kd.R_drewN | apply Kd.R_drew)); exact HO_10.out⟩, ⟨by (with_reducible repeat (first | apply Kd.R_alloc | apply Kd.R_drewN | apply Kd.R_drew)); exact HO_108001.out⟩, ⟨by (with_reducible repeat (first | refine blk_drewN ?_ _ | refine blk_drew ?_ | refine blk_alloc ?_ _)); exact BK107.out⟩, ⟨by repeat (first | (with_reducible first | exact HB.out | apply below_alloc | apply pw_below_drewN | apply below_drew1 | refine below_set ?_ GE107.out) | exact HB.out)⟩⟩
              rw [if_neg c51] at H
              have c51b0 : ((wrap64 (x7_5 + 1)) == (a0.size : Int)) = false := beq_eq_false_iff_ne.mpr c51
              have c51b1 : ((wrap64 (x7_5 + 1)) != (a0.size : Int)) = true := bne_iff_ne.mpr c51
              (first | rw [c51b0] | (simp only [i64_w, i32_w]; rw [c51b0]) | skip)
              obtain ⟨ji52, hji52⟩ : ∃ j_ : Int, (wrap64 (x7_5 + 1)) = j_ := ⟨_, rfl⟩
              replace H : (if 0 ≤ (ji52) then (if (ji52) < (a0.size : Int) then ((spec_l18Special.f (bt a0 (ji52))).bind fun t117 => (spec_ReadSegments.j6 kj38 a0 y101 x6_1 ji52 x10_5 (!t117) (a0.extract (x7_1 : Int).toNat ((wrap64 (x7_1 + 3)) : Int).toNat) x108001_3)) else (none)) else (none)) = some (r1, r2, r3) := by first | (rw [hji52] at H; exact H) | (simp only [hji52] at H ⊢; exact H)
              (try rw [hji52] at c51b0)
              (try rw [hji52] at c51b1)
              have hji52w : (IntKind.i64.wrap (x7_5 + 1)) = ji52 := (i64_w _).trans hji52
              by_cases c53 : 0 ≤ (ji52)
              rotate_left
              ·rw [if_neg c53] at H
               exact absurd H (by simp)
              rw [if_pos c53] at H
              have c53b0 : decide (0 ≤ (ji52)) = true := decide_eq_true c53
              clear c53
              by_cases c54 : (ji52) < (a0.size : Int)
              rotate_left
              ·rw [if_neg c54] at H
               exact absurd H (by simp)
              rw [if_pos c54] at H
              have c54b0 : decide ((ji52) < (a0.size : Int)) = true := decide_eq_true c54
              clear c54
              replace H := Option.bind_eq_some_iff.mp H
              obtain ⟨t117, A560, H⟩ := H
              replace H : (spec_ReadSegments.j6 kj38 a0 y101 x6_1 ji52 x10_5 (!t117) (a0.extract (x7_1 : Int).toNat ((wrap64 (x7_1 + 3)) : Int).toNat) x108001_3) = some (r1, r2, r3) := H
              have A56 := Aside0.mk A560
              clear A560
              have H' := Aside0.mk H
              clear H
              have p55 : 0 ≤ ((ji52) : Int) := od_
              have q55 : (ji52) < (a0.size : Int) := od_
              have hx55 := bt_at a0 (ji52)
              replace p55 := eq_true p55
              replace q55 := eq_true q55
              go_wp2_with (first | (go_at_call 32; (with_reducible refine (spec_l18Special.calls (bt a0 (ji52)) t117 _ A56.out).mono ?_); rintro e w' ⟨rfl, ⟨nd, rfl⟩⟩))
              (try subst hji52)
              go_meet
              case rel => exact ⟨_, (!t117), (by first | rfl | (simp; done) | (simp [*]; done)), H', ⟨by have := HK1.out; have := HK2.out; have := HK3.out; have := HJ26.out; have := HK5.out; have := HJ38.out; first | omega | exact Nat.le_refl _⟩, ⟨by (with_reducible repeat (first | apply Kd.S_alloc | apply Kd.S_drewN | apply Kd.S_drew)); exact HO_5.out⟩, ⟨by (with_reducible repeat (first | apply Kd.S_alloc | apply Kd.S_drewN | apply Kd.S_drew)); exact HO_6.out⟩, ⟨by (with_reducible repeat (first | apply Kd.R_alloc | apply Kd.R_drewN | apply Kd.R_drew)); exact HO_10.out⟩, ⟨by (with_reducible repeat (first | apply Kd.R_alloc | apply Kd.R_drewN | apply Kd.R_drew)); exact HO_108001.out⟩, ⟨by (with_reducible repeat (first | refine blk_drewN ?_ _ | refine blk_drew ?_ | refine blk_alloc ?_ _)); exact BK107.out⟩, ⟨by repeat (first | (with_reducible first | exact HB.out | apply below_alloc | apply pw_below_drewN | apply below_drew1 | refine below_set ?_ GE107.out) | exact HB.out)⟩⟩
             case rest =>
              clear HC50
              (try clear c5); (try clear p5); (try clear q5); (try clear hx5); (try clear c45); (try clear c46); (try clear c46b0); (try clear c47); (try clear c47b0); (try clear p48); (try clear q48); (try clear hx48); (try clear c49); (try clear c49b0); (try clear c49b1); (try clear c51); (try clear c51b0); (try clear c51b1); (try clear c53); (try clear c53b0); (try clear c54); (try clear c54b0); (try clear p55); (try clear q55); (try clear hx55)
              obtain ⟨kq, x115_49, rfl, HA, HJ49, HO_5, HO_6, HO_10, HO_108001, BK107, HB⟩ := hcut
              cases kq with
              | zero => exact absurd HA.out (by simp [spec_ReadSegments.j6])
              | succ kj49 =>
               have H := HA.out
               clear HA
               simp only [spec_ReadSegments.j6] at H
               by_cases c57 : x115_49 = true
               ·subst c57
                have H1 : (some (y101, 4, (wrap64 (x7_5 + 1)))) = some (r1, r2, r3) := by rw [if_pos rfl] at H; exact H
                clear H
                have H := H1
                clear H1
                simp only [Option.some.injEq, Prod.mk.injEq] at H
                obtain ⟨rfl, rfl, rfl⟩ := H
                go_wp2
                go_ret3
                exact ⟨_, by first | rfl | (simp [errW_none, errW_some] <;> rfl) | (simp [*, errW_none, errW_some] <;> rfl), by (with_reducible repeat (first | apply Kd.S_alloc | apply Kd.S_drewN | apply Kd.S_drew)); exact Kd.S_mono HO_5.out (fun _ hk => trivial), by repeat (first | (with_reducible first | exact HB.out | apply below_alloc | apply pw_below_drewN | apply below_drew1 | refine below_set ?_ GE107.out) | exact HB.out)⟩
               replace c57 := Bool.eq_false_iff.mpr c57
               subst c57
               have H1 : (if (x10_5.length : Int) = 80 then (some (y101, 5, (wrap64 (x7_5 + 1)))) else (if 0 ≤ (wrap64 (x7_5 + 1)) then (if (wrap64 (x7_5 + 1)) < (a0.size : Int) then (if x10_5.length < 140737488355328 then (spec_ReadSegments.l3 kj49 a0 y101 x6_1 (wrap64 ((wrap64 (x7_5 + 1)) + 1)) (x10_5 ++ [bt a0 (wrap64 (x7_5 + 1))]) (a0.extract (x7_1 : Int).toNat ((wrap64 (x7_1 + 3)) : Int).toNat) x108001_3) else (none)) else (none)) else (none))) = some (r1, r2, r3) := by rw [if_neg (show ¬ (false = true) by decide)] at H; exact H
               clear H
               have H := H1
               clear H1
               by_cases c58 : (x10_5.length : Int) = 80
               ·rw [if_pos c58] at H
                have c58b0 : ((x10_5.length : Int) == 80) = true := beq_iff_eq.mpr c58
                have c58b1 : ((x10_5.length : Int) != 80) = false := bne_eq_false_iff_eq.mpr c58
                clear c58
                simp only [Option.some.injEq, Prod.mk.injEq] at H
                obtain ⟨rfl, rfl, rfl⟩ := H
                obtain ⟨Ao59, co59, eo59⟩ := Kd.R_slice HO_10.out
                subst eo59
                go_wp2
                go_ret3
                exact ⟨_, by first | rfl | (simp [errW_none, errW_some] <;> rfl) | (simp [*, errW_none, errW_some] <;> rfl), by (with_reducible repeat (first | apply Kd.S_alloc | apply Kd.S_drewN | apply Kd.S_drew)); exact Kd.S_mono HO_5.out (fun _ hk => trivial), by repeat (first | (with_reducible first | exact HB.out | apply below_alloc | apply pw_below_drewN | apply below_drew1 | refine below_set ?_ GE107.out) | exact HB.out)⟩
               rw [if_neg c58] at H
               have c58b0 : ((x10_5.length : Int) == 80) = false := beq_eq_false_iff_ne.mpr c58
               have c58b1 : ((x10_5.length : Int) != 80) = true := bne_iff_ne.mpr c58
               obtain ⟨ji60, hji60⟩ : ∃ j_ : Int, (wrap64 (x7_5 + 1)) = j_ := ⟨_, rfl⟩
               replace H : (if 0 ≤ (ji60) then (if (ji60) < (a0.size : Int) then (if x10_5.length < 140737488355328 then (spec_ReadSegments.l3 kj49 a0 y101 x6_1 (wrap64 ((ji60) + 1)) (x10_5 ++ [bt a0 (ji60)]) (a0.extract (x7_1 : Int).toNat ((wrap64 (x7_1 + 3)) : Int).toNat) x108001_3) else (none)) else (none)) else (none)) = some (r1, r2, r3) := by first | (rw [hji60] at H; exact H) | (simp only [hji60] at H ⊢; exact H)
               have hji60w : (IntKind.i64.wrap (x7_5 + 1)) = ji60 := (i64_w _).trans hji60
               by_cases c61 : 0 ≤ (ji60)
               rotate_left
               ·rw [if_neg c61] at H
                exact absurd H (by simp)
               rw [if_pos c61] at H
               have c61b0 : decide (0 ≤ (ji60)) = true := decide_eq_true c61
               clear c61
               by_cases c62 : (ji60) < (a0.size : Int)
               rotate_left
               ·rw [if_neg c62] at H
                exact absurd H (by simp)
               rw [if_pos c62] at H
               have c62b0 : decide ((ji60) < (a0.size : Int)) = true := decide_eq_true c62
               clear c62
               by_cases c64 : x10_5.length < 140737488355328
               rotate_left
               ·rw [if_neg c64] at H
                exact absurd H (by simp)
               rw [if_pos c64] at H
               have LMc64 := Aside0.mk c64
               clear c64
               obtain ⟨y118, hy118⟩ : ∃ y_ : List Int, y_ = (x10_5 ++ [bt a0 (ji60)]) := ⟨_, rfl⟩
               replace H : (spec_ReadSegments.l3 kj49 a0 y101 x6_1 (wrap64 ((ji60) + 1)) y118 (a0.extract (x7_1 : Int).toNat ((wrap64 (x7_1 + 3)) : Int).toNat) x108001_3) = some (r1, r2, r3) := by first | (rw [hy118]; with_reducible exact H) | (have H2_ := (Option.bind_some _ _).symm.trans H; rw [hy118]; with_reducible exact H2_) | (have H2_ := (Option.bind_some _ _).symm.trans H; with_reducible exact H2_) | with_reducible exact H | (rw [hy118]; exact H) | exact H
               have Ny118 := Aside0.mk hy118
               clear hy118
               have H' := Aside0.mk H
               clear H
               obtain ⟨Ao65, co65, eo65⟩ := Kd.R_slice HO_10.out
               subst eo65
               have p63 : 0 ≤ ((ji60) : Int) := od_
               have q63 : (ji60) < (a0.size : Int) := od_
               have hx63 := bt_at a0 (ji60)
               replace p63 := eq_true p63
               replace q63 := eq_true q63
               go_wp2_with (first | ((with_reducible refine gate_builtin (b := .append) (xs := #[.tmp 123, .tmp 127]) rfl ?_); at_builtin; refine Kd.R_append (Kd.int .u8) (w0 := w) w.heap.size rfl (.tmp 123) (.tmp 127) 42 5 (.int .u8 0) 1 rfl Try.underlying42 info5 rfl (by decide) (by omega) (.slice Ao65 x10_5.length co65) x10_5 (bt a0 (ji60)) [.int .u8 (bt a0 (ji60))] (fun _ => True) (fun _ => False) rfl rfl ?aP (fun _ hk => hk.elim) ?aF ?aO ?aB ?aS ?aL ?_; (case aP => exact rfl); (case aB => exact bl_); (case aF => exact (fun _ _ => trivial)); (case aO => exact (by (with_reducible repeat (first | apply Kd.R_alloc | apply Kd.R_drewN | apply Kd.R_drew)); exact HO_10.out)); (case aS => exact (below_size bl_)); (case aL => have := LMc64.out; omega); intro v119 w66 ho hb hg hat; rw [← Ny118.out] at ho; have n0_ := Aside0.mk (Kd.S_over' (by (with_reducible repeat (first | apply Kd.S_alloc | apply Kd.S_drewN | apply Kd.S_drew)); exact HO_5.out) (Kd.R_typed (by (with_reducible repeat (first | apply Kd.R_alloc | apply Kd.R_drewN | apply Kd.R_drew)); exact HO_10.out)) (by decide) hg); have n1_ := Aside0.mk (Kd.S_over' (by (with_reducible repeat (first | apply Kd.S_alloc | apply Kd.S_drewN | apply Kd.S_drew)); exact HO_6.out) (Kd.R_typed (by (with_reducible repeat (first | apply Kd.R_alloc | apply Kd.R_drewN | apply Kd.R_drew)); exact HO_10.out)) (by decide) hg); have n2_ := Aside0.mk (Kd.R_over' (by (with_reducible repeat (first | apply Kd.R_alloc | apply Kd.R_drewN | apply Kd.R_drew)); exact HO_108001.out) (Kd.R_typed (by (with_reducible repeat (first | apply Kd.R_alloc | apply Kd.R_drewN | apply Kd.R_drew)); exact HO_10.out)) (by decide) hg); have n3_ := Aside0.mk (blk_grown (g := gb107) (o := .cells #[.string (a0.extract (x7_1 : Int).toNat ((wrap64 (x7_1 + 3)) : Int).toNat), .slice Ao36 x108001_3.length co36] 68 (0, 0)) bk_ hg (Kd.R_ne HO_10.out BK107.out (by decide))); have n4_ := Aside0.mk (hb); have n5_ := Aside0.mk (ho); clear HO_5; clear HO_6; clear HO_108001; clear BK107; clear HB; clear HO_10; have HO_5 := n0_; have HO_6 := n1_; have HO_108001 := n2_; have BK107 := n3_; have HB := n4_; have HO120 := n5_; clear n0_ n1_ n2_ n3_ n4_ n5_; clear ho hb hg hat))
               go_roundg kj49
               case measure => have := HK1.out; have := HK2.out; have := HK3.out; have := HJ26.out; have := HK5.out; have := HJ38.out; have := HJ49.out; omega
               case rel => exact ⟨(wrap64 ((ji60) + 1)), (y118), (by first | rfl | (simp; done) | (simp only [← hji60] <;> (first | rfl | simp)) | (simp [*]; done)), H', ⟨by have := HK1.out; have := HK2.out; have := HK3.out; have := HJ26.out; have := HK5.out; have := HJ38.out; have := HJ49.out; omega⟩, ⟨by (with_reducible repeat (first | apply Kd.S_alloc | apply Kd.S_drewN | apply Kd.S_drew)); exact HO_5.out⟩, ⟨by (with_reducible repeat (first | apply Kd.S_alloc | apply Kd.S_drewN | apply Kd.S_drew)); exact HO_6.out⟩, ⟨by (with_reducible repeat (first | apply Kd.R_alloc | apply Kd.R_drewN | apply Kd.R_drew)); exact HO120.out⟩, ⟨by (with_reducible repeat (first | apply Kd.R_alloc | apply Kd.R_drewN | apply Kd.R_drew)); exact HO_108001.out⟩, ⟨by (with_reducible repeat (first | refine blk_drewN ?_ _ | refine blk_drew ?_ | refine blk_alloc ?_ _)); exact BK107.out⟩, ⟨by repeat (first | (with_reducible first | exact HB.out | apply below_alloc | apply pw_below_drewN | apply below_drew1 | refine below_set ?_ GE107.out) | exact HB.out)⟩⟩
end Go.Proofs.Ytkiooiijnolocaa.XFnExactReadSegments
