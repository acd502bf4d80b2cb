-- PRINTED by xprint.py (our own program, over the kit's print.py)
import Derived.Test.YtecbcibblmknpaaXFnExactBestShelfx0
import Derived.Test.YtecbcibblmknpaaXFnExactBestShelfx5
import Derived.Test.YtecbcibblmknpaaXFnExactBestShelfx6
import Derived.Test.YtecbcibblmknpaaPu
namespace Go.Proofs.Ytecbcibblmknpaa.XFnExactBestShelf
open Go.RowKit Go.Proofs.YtecbcibblmknpaaW.PrintWords Go.Proofs.YtecbcibblmknpaaW.PrintLast Go.Proofs.YtecbcibblmknpaaW.PrintMore Go.Proofs.YtecbcibblmknpaaW.Idx
attribute [local go_sem] max2_int min2_int max_two min_two max_three min_three max_four min_four   -- for this text's walks alone
set_option linter.unusedVariables false
set_option linter.unusedSimpArgs false

/-! ### impl_bestGains: function 41 -/
mutual
def impl_bestGains.l0 : Nat → List (S50) → Int → List (List Int) → Int → Option ((List (List Int)))
 | 0, _, _, _, _ => none
 | k + 1, x0, x1, x5, x6 => if x6 ≥ 0 then (if 0 ≤ x6 then (if x6 < (x0.length : Int) then ((slices_Repeat_int_int.f (([(-1)] : List Int)) (wrap64 (x1 + 1))).bind fun t213 => (if x6 < (x5.length : Int) then ((some (x5.set (x6 : Int).toNat t213 : List (List Int))).bind fun y216 => (impl_bestGains.l1 k x0 x1 y216 x6 ((rd_L2 y216 x6).length : Int) 0 ((rd_T50 x0 x6).f0) ((rd_T50 x0 x6).f1) ((rd_T50 x0 x6).f2) ((rd_T50 x0 x6).f3))) else (none))) else (none)) else (none)) else (some x5)
def impl_bestGains.l1 : Nat → List (S50) → Int → List (List Int) → Int → Int → Int → ByteArray → Int → Int → List Int → Option ((List (List Int)))
 | 0, _, _, _, _, _, _, _, _, _, _ => none
 | k + 1, x0, x1, x5, x6, x44, x45, x210000, x210001, x210002, x210003 => if x45 < x44 then (impl_bestGains.l2 k x0 x1 x5 x6 x45 x210002 x44 x45 x210000 x210001 x210002 x210003) else (impl_bestGains.l0 k x0 x1 x5 (wrap64 (x6 - 1)))
def impl_bestGains.l2 : Nat → List (S50) → Int → List (List Int) → Int → Int → Int → Int → Int → ByteArray → Int → Int → List Int → Option ((List (List Int)))
 | 0, _, _, _, _, _, _, _, _, _, _, _, _ => none
 | k + 1, x0, x1, x5, x6, x8, x9, x44, x45, x210000, x210001, x210002, x210003 => if x9 ≤ (x210003.length : Int) then (impl_bestGains.j3 k x0 x1 x5 x6 x8 x9 x44 x45 (decide ((wrap64 (x9 * x210001)) ≤ x8)) x210000 x210001 x210002 x210003) else (impl_bestGains.j3 k x0 x1 x5 x6 x8 x9 x44 x45 false x210000 x210001 x210002 x210003)
def impl_bestGains.j3 : Nat → List (S50) → Int → List (List Int) → Int → Int → Int → Int → Int → Bool → ByteArray → Int → Int → List Int → Option ((List (List Int)))
 | 0, _, _, _, _, _, _, _, _, _, _, _, _, _ => none
 | k + 1, x0, x1, x5, x6, x8, x9, x44, x45, x62, x210000, x210001, x210002, x210003 => if x62 = true then (if 0 ≤ (wrap64 (x6 + 1)) then (if (wrap64 (x6 + 1)) < (x5.length : Int) then (if 0 ≤ (wrap64 (x8 - (wrap64 (x9 * x210001)))) then (if (wrap64 (x8 - (wrap64 (x9 * x210001)))) < ((rd_L2 x5 (wrap64 (x6 + 1))).length : Int) then (if (rd (rd_L2 x5 (wrap64 (x6 + 1))) (wrap64 (x8 - (wrap64 (x9 * x210001))))) ≥ 0 then (if 0 ≤ x6 then (if x6 < (x5.length : Int) then (if 0 ≤ x8 then (if x8 < ((rd_L2 x5 x6).length : Int) then (if 0 ≤ x9 then (if x9 ≤ (x210003.length : Int) then ((impl_sumOf.f k (x210003.take (x9 : Int).toNat)).bind fun t224 => (impl_bestGains.l2 k x0 x1 (x5.set (x6 : Int).toNat ((rd_L2 x5 x6).set (x8 : Int).toNat (mx (rd (rd_L2 x5 x6) x8) (wrap64 ((rd (rd_L2 x5 (wrap64 (x6 + 1))) (wrap64 (x8 - (wrap64 (x9 * x210001))))) + t224))))) x6 x8 (wrap64 (x9 + 1)) x44 x45 x210000 x210001 x210002 x210003)) else (none)) else (none)) else (none)) else (none)) else (none)) else (none)) else (impl_bestGains.l2 k x0 x1 x5 x6 x8 (wrap64 (x9 + 1)) x44 x45 x210000 x210001 x210002 x210003)) else (none)) else (none)) else (none)) else (none)) else (impl_bestGains.l1 k x0 x1 x5 x6 x44 (wrap64 (x45 + 1)) x210000 x210001 x210002 x210003)
end
def impl_bestGains.f (k : Nat) (l0 : List (S50)) (a1 : Int) : Option ((List (List Int))) := if 0 ≤ (wrap64 ((l0.length : Int) + 1)) then (if (wrap64 ((l0.length : Int) + 1) : Int).toNat ≤ 11728124029610 then ((some (List.replicate (wrap64 ((l0.length : Int) + 1) : Int).toNat [] : List (List Int))).bind fun y201 => (if 0 ≤ (wrap64 (a1 + 1)) then (if (wrap64 (a1 + 1) : Int).toNat ≤ 35184372088832 then (if 0 ≤ (l0.length : Int) then (if (l0.length : Int) < (y201.length : Int) then (impl_bestGains.l0 k l0 a1 (y201.set ((l0.length : Int) : Int).toNat (List.replicate (wrap64 (a1 + 1) : Int).toNat 0)) (wrap64 ((l0.length : Int) - 1))) else (none)) else (none)) else (none)) else (none))) else (none)) else (none)
theorem impl_bestGains.mono_l : ∀ k, (∀ y0 y1 y2 y3, LeO (impl_bestGains.l0 k y0 y1 y2 y3) (impl_bestGains.l0 (k + 1) y0 y1 y2 y3)) ∧ (∀ y0 y1 y2 y3 y4 y5 y6 y7 y8 y9, LeO (impl_bestGains.l1 k y0 y1 y2 y3 y4 y5 y6 y7 y8 y9) (impl_bestGains.l1 (k + 1) y0 y1 y2 y3 y4 y5 y6 y7 y8 y9)) ∧ (∀ y0 y1 y2 y3 y4 y5 y6 y7 y8 y9 y10 y11, LeO (impl_bestGains.l2 k y0 y1 y2 y3 y4 y5 y6 y7 y8 y9 y10 y11) (impl_bestGains.l2 (k + 1) y0 y1 y2 y3 y4 y5 y6 y7 y8 y9 y10 y11)) ∧ (∀ y0 y1 y2 y3 y4 y5 y6 y7 y8 y9 y10 y11 y12, LeO (impl_bestGains.j3 k y0 y1 y2 y3 y4 y5 y6 y7 y8 y9 y10 y11 y12) (impl_bestGains.j3 (k + 1) y0 y1 y2 y3 y4 y5 y6 y7 y8 y9 y10 y11 y12))
 | 0 => ⟨fun _ _ _ _ r h => by simp [impl_bestGains.l0] at h, fun _ _ _ _ _ _ _ _ _ _ r h => by simp [impl_bestGains.l1] at h, fun _ _ _ _ _ _ _ _ _ _ _ _ r h => by simp [impl_bestGains.l2] at h, fun _ _ _ _ _ _ _ _ _ _ _ _ _ r h => by simp [impl_bestGains.j3] at h⟩
 | k + 1 => by
  obtain ⟨ih0, ih1, ih2, ih3⟩ := impl_bestGains.mono_l k
  refine ⟨?_, ?_, ?_, ?_⟩
  ·intro y0 y1 y2 y3
   unfold impl_bestGains.l0
   repeat' first
   | (with_reducible exact ih0 _ _ _ _)
   | (with_reducible exact ih1 _ _ _ _ _ _ _ _ _ _)
   | (with_reducible exact ih2 _ _ _ _ _ _ _ _ _ _ _ _)
   | (with_reducible exact ih3 _ _ _ _ _ _ _ _ _ _ _ _ _)
   | (with_reducible exact impl_sumOf.mono _ _)
   | (with_reducible exact LeO.refl _)
   | (with_reducible exact LeO.none _)
   | (with_reducible refine LeO.ite ?_ ?_)
   | (with_reducible refine LeO.bind ?_ (fun _ => ?_))
   | exact ih0 _ _ _ _
   | exact ih1 _ _ _ _ _ _ _ _ _ _
   | exact ih2 _ _ _ _ _ _ _ _ _ _ _ _
   | exact ih3 _ _ _ _ _ _ _ _ _ _ _ _ _
   | exact impl_sumOf.mono _ _
   | exact LeO.none _
   | refine LeO.ite ?_ ?_
   | refine LeO.bind ?_ (fun _ => ?_)
  ·intro y0 y1 y2 y3 y4 y5 y6 y7 y8 y9
   unfold impl_bestGains.l1
   repeat' first
   | (with_reducible exact ih0 _ _ _ _)
   | (with_reducible exact ih1 _ _ _ _ _ _ _ _ _ _)
   | (with_reducible exact ih2 _ _ _ _ _ _ _ _ _ _ _ _)
   | (with_reducible exact ih3 _ _ _ _ _ _ _ _ _ _ _ _ _)
   | (with_reducible exact impl_sumOf.mono _ _)
   | (with_reducible exact LeO.refl _)
   | (with_reducible exact LeO.none _)
   | (with_reducible refine LeO.ite ?_ ?_)
   | (with_reducible refine LeO.bind ?_ (fun _ => ?_))
   | exact ih0 _ _ _ _
   | exact ih1 _ _ _ _ _ _ _ _ _ _
   | exact ih2 _ _ _ _ _ _ _ _ _ _ _ _
   | exact ih3 _ _ _ _ _ _ _ _ _ _ _ _ _
   | exact impl_sumOf.mono _ _
   | exact LeO.none _
   | refine LeO.ite ?_ ?_
   | refine LeO.bind ?_ (fun _ => ?_)
  ·intro y0 y1 y2 y3 y4 y5 y6 y7 y8 y9 y10 y11
   unfold impl_bestGains.l2
   repeat' first
   | (with_reducible exact ih0 _ _ _ _)
   | (with_reducible exact ih1 _ _ _ _ _ _ _ _ _ _)
   | (with_reducible exact ih2 _ _ _ _ _ _ _ _ _ _ _ _)
   | (with_reducible exact ih3 _ _ _ _ _ _ _ _ _ _ _ _ _)
   | (with_reducible exact impl_sumOf.mono _ _)
   | (with_reducible exact LeO.refl _)
   | (with_reducible exact LeO.none _)
   | (with_reducible refine LeO.ite ?_ ?_)
   | (with_reducible refine LeO.bind ?_ (fun _ => ?_))
   | exact ih0 _ _ _ _
   | exact ih1 _ _ _ _ _ _ _ _ _ _
   | exact ih2 _ _ _ _ _ _ _ _ _ _ _ _
   | exact ih3 _ _ _ _ _ _ _ _ _ _ _ _ _
   | exact impl_sumOf.mono _ _
   | exact LeO.none _
   | refine LeO.ite ?_ ?_
   | refine LeO.bind ?_ (fun _ => ?_)
  ·intro y0 y1 y2 y3 y4 y5 y6 y7 y8 y9 y10 y11 y12
   unfold impl_bestGains.j3
   repeat' first
   | (with_reducible exact ih0 _ _ _ _)
   | (with_reducible exact ih1 _ _ _ _ _ _ _ _ _ _)
   | (with_reducible exact ih2 _ _ _ _ _ _ _ _ _ _ _ _)
   | (with_reducible exact ih3 _ _ _ _ _ _ _ _ _ _ _ _ _)
   | (with_reducible exact impl_sumOf.mono _ _)
   | (with_reducible exact LeO.refl _)
   | (with_reducible exact LeO.none _)
   | (with_reducible refine LeO.ite ?_ ?_)
   | (with_reducible refine LeO.bind ?_ (fun _ => ?_))
   | exact ih0 _ _ _ _
   | exact ih1 _ _ _ _ _ _ _ _ _ _
   | exact ih2 _ _ _ _ _ _ _ _ _ _ _ _
   | exact ih3 _ _ _ _ _ _ _ _ _ _ _ _ _
   | exact impl_sumOf.mono _ _
   | exact LeO.none _
   | refine LeO.ite ?_ ?_
   | refine LeO.bind ?_ (fun _ => ?_)
theorem impl_bestGains.mono : ∀ a0 a1 k, LeO (impl_bestGains.f k a0 a1) (impl_bestGains.f (k + 1) a0 a1) := by
 intro a0 a1 k
 obtain ⟨ih0, ih1, ih2, ih3⟩ := impl_bestGains.mono_l k
 unfold impl_bestGains.f
 repeat' first
   | (with_reducible exact ih0 _ _ _ _)
   | (with_reducible exact ih1 _ _ _ _ _ _ _ _ _ _)
   | (with_reducible exact ih2 _ _ _ _ _ _ _ _ _ _ _ _)
   | (with_reducible exact ih3 _ _ _ _ _ _ _ _ _ _ _ _ _)
   | (with_reducible exact impl_sumOf.mono _ _)
   | (with_reducible exact LeO.refl _)
   | (with_reducible exact LeO.none _)
   | (with_reducible refine LeO.ite ?_ ?_)
   | (with_reducible refine LeO.bind ?_ (fun _ => ?_))
   | exact ih0 _ _ _ _
   | exact ih1 _ _ _ _ _ _ _ _ _ _
   | exact ih2 _ _ _ _ _ _ _ _ _ _ _ _
   | exact ih3 _ _ _ _ _ _ _ _ _ _ _ _ _
   | exact impl_sumOf.mono _ _
   | exact LeO.none _
   | refine LeO.ite ?_ ?_
   | refine LeO.bind ?_ (fun _ => ?_)
def impl_bestGains.T14 : Bool × List (List Nat × List Nat) := (true, [([], []), ([], []), ([1], [1]), ([0, 2], [0, 2]), ([3], [3]), ([], []), ([], []), ([], []), ([7], [7]), ([6, 8], [6, 8]), ([5, 9], [5, 9]), ([4, 10], [4, 10]), ([11], [11]), ([12, 0, 1, 2, 3, 4, 5, 6, 7, 8, 9, 10, 11, 12], [12])])
def impl_bestGains.B14 : List Nat := [0, 0, 2, 7, 15, 0, 0, 0, 128, 448, 992, 2047, 4095, 8191]
theorem impl_bestGains.tab14 : rtab .any (opsOf Try.f41 14) = impl_bestGains.T14 := by kernel_rfl
theorem impl_bestGains.bits14 : waitsOk impl_bestGains.T14.2 impl_bestGains.B14 = true := by kernel_rfl
def impl_bestGains.T16 : Bool × List (List Nat × List Nat) := (true, [([], []), ([], []), ([0, 1], [0, 1]), ([2], [2]), ([], []), ([], []), ([], []), ([5, 6], [5, 6]), ([7], [7]), ([], []), ([8, 9], [8, 9]), ([10], [10]), ([], []), ([], []), ([13], [13]), ([], []), ([14, 15], [14, 15]), ([16], [16]), ([12, 17], [12, 17]), ([11, 18], [11, 18]), ([3, 4, 0, 1, 2, 3, 4, 5, 6, 7, 8, 9, 10, 11, 12, 13, 14, 15, 16, 17, 18, 19], [3, 4]), ([20, 19, 17, 0, 1, 2, 3, 4, 5, 6, 7, 8, 9, 10, 11, 12, 13, 14, 15, 16, 17, 18, 19], [19, 20])])
def impl_bestGains.B16 : List Nat := [0, 0, 3, 7, 0, 0, 0, 96, 224, 0, 992, 2016, 0, 0, 8192, 0, 57344, 122880, 258048, 524256, 1048575, 2097151]
theorem impl_bestGains.tab16 : rtab .any (opsOf Try.f41 16) = impl_bestGains.T16 := by kernel_rfl
theorem impl_bestGains.bits16 : waitsOk impl_bestGains.T16.2 impl_bestGains.B16 = true := by kernel_rfl
set_option maxHeartbeats 8000000 in
set_option maxRecDepth 100000 in
theorem impl_bestGains.calls (k : Nat) (A0 : Option Addr) (c0 : Nat) (l0 : List (S50)) (a1 : Int) (r : List (List Int)) (w : World) (hr0 : Kd.C k50 w A0 l0.length l0) (hc0 : l0.length ≤ c0) (h : impl_bestGains.f k l0 a1 = some r) :
  Calls Try.prog 41 #[.slice A0 l0.length c0, .int .i64 a1] w fun e w' => ∃ v0_ : Value, e = .returned (v0_) ∧ Kd.S (Kd.slice 3 (Kd.int .i64)) 29 w' w.heap.size (fun _ => True) v0_ r ∧ Below w.heap.size w w' := by
 have hu50 := Try.underlying50
 have HR0 := Aside0.mk hr0
 have HC0 := Aside0.mk hc0
 clear hr0 hc0
 have HB := Aside0.mk (Below.refl w.heap.size w)
 have H : (if 0 ≤ (wrap64 ((l0.length : Int) + 1)) then (if (wrap64 ((l0.length : Int) + 1) : Int).toNat ≤ 11728124029610 then ((some (List.replicate (wrap64 ((l0.length : Int) + 1) : Int).toNat [] : List (List Int))).bind fun y201 => (if 0 ≤ (wrap64 (a1 + 1)) then (if (wrap64 (a1 + 1) : Int).toNat ≤ 35184372088832 then (if 0 ≤ (l0.length : Int) then (if (l0.length : Int) < (y201.length : Int) then (impl_bestGains.l0 k l0 a1 (y201.set ((l0.length : Int) : Int).toNat (List.replicate (wrap64 (a1 + 1) : Int).toNat 0)) (wrap64 ((l0.length : Int) - 1))) else (none)) else (none)) else (none)) else (none))) else (none)) else (none)) = some r := h
 clear h
 obtain ⟨ji3, hji3⟩ : ∃ j_ : Int, (wrap64 ((l0.length : Int) + 1)) = j_ := ⟨_, rfl⟩
 replace H : (if 0 ≤ (ji3) then (if (ji3 : Int).toNat ≤ 11728124029610 then ((some (List.replicate (ji3 : Int).toNat [] : List (List Int))).bind fun y201 => (if 0 ≤ (wrap64 (a1 + 1)) then (if (wrap64 (a1 + 1) : Int).toNat ≤ 35184372088832 then (if 0 ≤ (l0.length : Int) then (if (l0.length : Int) < (y201.length : Int) then (impl_bestGains.l0 k l0 a1 (y201.set ((l0.length : Int) : Int).toNat (List.replicate (wrap64 (a1 + 1) : Int).toNat 0)) (wrap64 ((l0.length : Int) - 1))) else (none)) else (none)) else (none)) else (none))) else (none)) else (none)) = some r := by first | (rw [hji3] at H; exact H) | (simp only [hji3] at H ⊢; exact H)
 have hji3w : (IntKind.i64.wrap ((l0.length : Int) + 1)) = ji3 := (i64_w _).trans hji3
 by_cases c4 : 0 ≤ (ji3)
 rotate_left
 ·rw [if_neg c4] at H
  exact absurd H (by simp)

 rw [if_pos c4] at H
 have c4b0 := eq_true c4
 have c4b1 : decide (0 ≤ (ji3)) = true := decide_eq_true c4
 clear c4
 by_cases c5 : (ji3 : Int).toNat ≤ 11728124029610
 rotate_left
 ·rw [if_neg c5] at H
  exact absurd H (by simp)
 rw [if_pos c5] at H
 have c5b0 := eq_true c5
 have c5b1 : decide ((ji3 : Int).toNat ≤ 11728124029610) = true := decide_eq_true c5
 clear c5
 obtain ⟨y201, hy201⟩ : ∃ y_ : List (List Int), y_ = (List.replicate (ji3 : Int).toNat []) := ⟨_, rfl⟩
 replace H : (if 0 ≤ (wrap64 (a1 + 1)) then (if (wrap64 (a1 + 1) : Int).toNat ≤ 35184372088832 then (if 0 ≤ (l0.length : Int) then (if (l0.length : Int) < (y201.length : Int) then (impl_bestGains.l0 k l0 a1 (y201.set ((l0.length : Int) : Int).toNat (List.replicate (wrap64 (a1 + 1) : Int).toNat 0)) (wrap64 ((l0.length : Int) - 1))) else (none)) else (none)) else (none)) else (none)) = some r := by first | (rw [hy201]; with_reducible exact H) | (have H2_ := (Option.bind_some _ _).symm.trans H; rw [hy201]; with_reducible exact H2_) | (have H2_ := (Option.bind_some _ _).symm.trans H; with_reducible exact H2_) | with_reducible exact H | (rw [hy201]; exact H) | exact H
 have Ny201 := Aside0.mk hy201
 clear hy201
 obtain ⟨ji6, hji6⟩ : ∃ j_ : Int, (wrap64 (a1 + 1)) = j_ := ⟨_, rfl⟩
 replace H : (if 0 ≤ (ji6) then (if (ji6 : Int).toNat ≤ 35184372088832 then (if 0 ≤ (l0.length : Int) then (if (l0.length : Int) < (y201.length : Int) then (impl_bestGains.l0 k l0 a1 (y201.set ((l0.length : Int) : Int).toNat (List.replicate (ji6 : Int).toNat 0)) (wrap64 ((l0.length : Int) - 1))) else (none)) else (none)) else (none)) else (none)) = some r := by first | (rw [hji6] at H; exact H) | (simp only [hji6] at H ⊢; exact H)
 have hji6w : (IntKind.i64.wrap (a1 + 1)) = ji6 := (i64_w _).trans hji6
 by_cases c7 : 0 ≤ (ji6)
 rotate_left
 ·rw [if_neg c7] at H
  exact absurd H (by simp)
 rw [if_pos c7] at H
 have c7b0 := eq_true c7
 have c7b1 : decide (0 ≤ (ji6)) = true := decide_eq_true c7
 clear c7
 by_cases c8 : (ji6 : Int).toNat ≤ 35184372088832
 rotate_left
 ·rw [if_neg c8] at H
  exact absurd H (by simp)
 rw [if_pos c8] at H
 have c8b0 := eq_true c8
 have c8b1 : decide ((ji6 : Int).toNat ≤ 35184372088832) = true := decide_eq_true c8
 clear c8
 obtain ⟨y204, hy204⟩ : ∃ y_ : List Int, y_ = (List.replicate (ji6 : Int).toNat 0) := ⟨_, rfl⟩
 replace H : (if 0 ≤ (l0.length : Int) then (if (l0.length : Int) < (y201.length : Int) then (impl_bestGains.l0 k l0 a1 (y201.set ((l0.length : Int) : Int).toNat y204) (wrap64 ((l0.length : Int) - 1))) else (none)) else (none)) = some r := by first | (rw [hy204]; with_reducible exact H) | (have H2_ := (Option.bind_some _ _).symm.trans H; rw [hy204]; with_reducible exact H2_) | (have H2_ := (Option.bind_some _ _).symm.trans H; with_reducible exact H2_) | with_reducible exact H | (rw [hy204]; exact H) | exact H
 have Ny204 := Aside0.mk hy204
 clear hy204
 by_cases c9 : 0 ≤ (l0.length : Int)
 rotate_left
 ·rw [if_neg c9] at H
  exact absurd H (by simp)
 rw [if_pos c9] at H
 have c9b0 : decide (0 ≤ (l0.length : Int)) = true := decide_eq_true c9
 have c9b1 : decide (0 ≤ l0.length) = true := decide_eq_true (by omega)
 clear c9
 by_cases c10 : (l0.length : Int) < (y201.length : Int)
 rotate_left
 ·rw [if_neg c10] at H
  exact absurd H (by simp)
 rw [if_pos c10] at H
 have c10b0 : decide ((l0.length : Int) < (y201.length : Int)) = true := decide_eq_true c10
 have c10b1 : decide (l0.length < y201.length) = true := decide_eq_true (Int.ofNat_lt.mp c10)
 clear c10
 obtain ⟨y207, hy207⟩ : ∃ y_ : List (List Int), y_ = (y201.set ((l0.length : Int) : Int).toNat y204) := ⟨_, rfl⟩
 replace H : (impl_bestGains.l0 k l0 a1 y207 (wrap64 ((l0.length : Int) - 1))) = some r := by first | (rw [hy207]; with_reducible exact H) | (have H2_ := (Option.bind_some _ _).symm.trans H; rw [hy207]; with_reducible exact H2_) | (have H2_ := (Option.bind_some _ _).symm.trans H; with_reducible exact H2_) | with_reducible exact H | (rw [hy207]; exact H) | exact H
 have Ny207 := Aside0.mk hy207
 clear hy207
 have H' := Aside0.mk H
 clear H
 go_enter Try.func41, Try.ntmps41
 go_wp2_with (first | ((with_reducible refine gate_dst (N := 14) rfl ?_); refine Kd.S_make (Kd.slice 3 (Kd.int .i64)) _ 29 rfl (N := 14) rfl 66 _ _ rfl ji3 rfl rfl Try.underlying66 (.slice none 0 0) 24 info29 rfl (by decide) (by omega) [] (ok := fun _ => True) (okp := fun _ => True) ⟨_, rfl, Kd.R_nil _ _ _ _ _⟩ (fun _ hk => hk) trivial od_ (Nat.le_trans (Nat.mul_le_mul_right _ (od_ : ji3.toNat ≤ 11728124029610)) (by omega)) (Below.refl _ _) (Nat.le_refl _) ?_; intro v202 w12 ho13 hb hg_ hnew_; clear hg_ hnew_; (first | rw [← Ny201.out] at ho13 | (simp only [Int.reduceToNat] at ho13; rw [← Ny201.out] at ho13)); have n0_ := Aside0.mk (Kd.S_lower ho13 (below_size bl_)); have n1_ := Aside0.mk (below_step bl_ hb); clear HB; have HO203 := n0_; have HB := n1_; clear n0_ n1_; clear hb ho13) | ((with_reducible refine gate_dst (N := 20) rfl ?_); refine Kd.R_make (Kd.int .i64) _ 3 rfl (N := 20) rfl 29 _ _ rfl ji6 rfl rfl Try.underlying29 (.int .i64 0) 8 info3 rfl (by decide) (by omega) 0 (ok := fun _ => True) (okp := fun _ => True) rfl (fun _ hk => hk) trivial od_ (Nat.le_trans (Nat.mul_le_mul_right _ (od_ : ji6.toNat ≤ 35184372088832)) (by omega)) (Below.refl _ _) (Nat.le_refl _) ?_; intro v205 w14 ho15 hb hg_ hnew_; clear hg_ hnew_; (first | rw [← Ny204.out] at ho15 | (simp only [Int.reduceToNat] at ho15; rw [← Ny204.out] at ho15)); have n0_ := Aside0.mk (Kd.S_elder' (by (with_reducible repeat (first | apply Kd.S_alloc | apply Kd.S_drewN | apply Kd.S_drew)); exact HO203.out) (Kd.R_base ho15) hb); have n1_ := Aside0.mk (Kd.R_lower ho15 (below_size bl_)); have n2_ := Aside0.mk (below_step bl_ hb); clear HO203; clear HB; have HO203 := n0_; have HO206 := n1_; have HB := n2_; clear n0_ n1_ n2_; clear hb ho15; have p11 : 0 ≤ ((l0.length : Int) : Int) := od_; have q11 : ((l0.length : Int) : Int) < ((y201.length : Int) : Int) := od_; obtain ⟨go11, co11, eo11, gb11, gl11, cl11, HG11⟩ := Kd.S_form HO203.out (by omega); (first | cases eo11 | (injection eo11 with ea_ en_ ec_; (first | subst ea_ | (injection ea_ with ea_; subst ea_)); subst ec_; clear en_)); have GB11 := Aside0.mk gb11; have GG11 := Aside0.mk HG11; clear gb11 gl11 HG11; obtain ⟨_, ce11, hcl11, hM11, hcc11, hfr11, _, _⟩ := Kd.S_elem HO203.out [] ((l0.length : Int) : Int) p11 q11; obtain ⟨ve11_0, rfl, ge11_0⟩ := hM11; have hx11_0 := hcc11 0 _ rfl; have hf11_0 := hfr11 0; (try simp only [show ((Kd.slice 3 (Kd.int .i64))).sz = 1 from rfl, Nat.mul_one, Nat.add_zero] at hx11_0); (try simp only [show ((Kd.slice 3 (Kd.int .i64))).sz = 1 from rfl, Nat.mul_one, Nat.add_zero] at hf11_0); clear hcl11 hcc11 hfr11; (try clear hM11); replace p11 := eq_true p11; replace q11 := eq_true q11; have n_ := Aside0.mk (Kd.S_mono (ok' := (fun k_ => some k_ ≠ (v205 : Value).ownBlock)) HO203.out (fun k_ hk => hk.2)); clear HO203; have HO203 := n_; clear n_; have HX16 := Aside0.mk (show Kd.S (Kd.slice 3 (Kd.int .i64)) 29 w14 w.heap.size (fun k_ => ((fun _ => True)) k_ ∧ ¬ ((fun k_ => some k_ = (v205 : Value).ownBlock)) k_) (.slice (some ⟨go11, 0, none⟩) y201.length co11) y201 from (by (with_reducible repeat (first | apply Kd.S_alloc | apply Kd.S_drewN | apply Kd.S_drew)); exact Kd.S_mono HO203.out (fun k_ hk => ⟨trivial, fun e_ => hk e_⟩))); obtain ⟨oki16, ce16, hcl16, hM16, hcc16, hfr16, hoki16, hH16⟩ := Kd.S_elem HX16.out [] ((l0.length : Int) : Int) od_ (by have h_ : ((l0.length : Int) : Int) < ((y201.length : Int) : Int) := od_; first | exact h_ | (have e_ := (Kd.S_reads' HO203.out).1; omega) | simpa using h_); obtain ⟨ve16_0, rfl, ge16_0⟩ := hM16; have HP16 := Kd.S_seg hH16 od_ (by have h_ : ((l0.length : Int) : Int) < ((y201.length : Int) : Int) := od_; first | exact h_ | (have e_ := (Kd.S_reads' HO203.out).1; omega) | simpa using h_) (seg := [v205]) (j := 0) (show 1 ≤ 1 from by decide) (x' := y204) (Kd.M_row (Kd.R_mono (Kd.R_tight rfl (Kd.R_mono (ok' := fun k_ => ((fun _ => True)) k_ ∧ k_ ≠ go11) (Kd.R_apart' (HO206.out) (Kd.S_typed HO203.out) (by decide)) (fun k_ hk => ⟨trivial, fun e_ => (hk.2) (by rw [e_]; rfl)⟩))) (fun _ h_ => Or.inr (h_)))) (fun _ hk => hk) (fun k_ hk_ => ((Kd.R_mono (ok' := fun k_ => ((fun _ => True)) k_ ∧ k_ ≠ go11) (Kd.R_apart' (HO206.out) (Kd.S_typed HO203.out) (by decide)) (fun k_ hk => ⟨trivial, fun e_ => (hk.2) (by rw [e_]; rfl)⟩))).1 k_ hk_.symm); have hx16_0 := hcc16 0 _ rfl; (try simp only [show ((Kd.slice 3 (Kd.int .i64))).sz = 1 from rfl, Nat.mul_one, Nat.add_zero] at hx16_0); have hf16_0 := hfr16 0; (try simp only [show ((Kd.slice 3 (Kd.int .i64))).sz = 1 from rfl, Nat.mul_one, Nat.add_zero] at hf16_0); clear hcl16 hcc16 hfr16; (try clear hM16); clear hoki16 hH16; (try simp only [show ((Kd.slice 3 (Kd.int .i64))).sz = 1 from rfl, Nat.mul_one, Nat.add_zero] at HP16)) | ((with_reducible refine gate_store (t := 29) (p := 21) rfl ?_); refine store_event (t := 29) (p := 21) (v := ?vo_w17) (w1 := (w14.setCell ⟨go11, ((l0.length : Int) : Int).toNat, none⟩ (v205))) ?hg ?ho ?hn ?hr ?_; (case ho => rfl); (case hg => rfl); (case hn => rfl); (case hr => (try simp only [Int.toNat_natCast] at hx11_0 hf11_0); first | (go_simp; done) | (go_simp; rfl) | (obtain ⟨A_, c_, e_⟩ := Kd.R_slice HO206.out; subst e_; (first | (go_simp; done) | (go_simp; rfl)))); intro w17 hw; have hg : w14.grownBy w17 (some go11) := (by rw [hw]; exact HP16.2); have hp_ : Kd.S (Kd.slice 3 (Kd.int .i64)) 29 w17 w.heap.size (fun _ => True) (.slice (some ⟨go11, 0, none⟩) y201.length co11) y207 := (by rw [hw, Ny207.out]; exact HP16.1); clear HP16; have n0_ := Aside0.mk (hp_); have n1_ := Aside0.mk ((by rw [hw]; exact below_set (HB.out) GB11.out : Below w.heap.size w w17)); clear HO203; clear HB; clear HO206; have HO203 := n0_; have HB := n1_; clear n0_ n1_; clear hg hw hp_))
 go_loopg [6] k (fun kq v6 w' => ∃ (x5_1 : List (List Int)) (x6_1 : Int), v6 = .int .i64 x6_1 ∧ Aside0 (impl_bestGains.l0 kq l0 a1 x5_1 x6_1 = some r) ∧ Aside0 (kq ≤ k) ∧ Aside0 (Kd.S (Kd.slice 3 (Kd.int .i64)) 29 w' w.heap.size (fun _ => True) (.slice (some ⟨go11, 0, none⟩) y201.length co11) x5_1) ∧ Aside0 (Below w.heap.size w w'))
 case atStart => exact ⟨(y207), (wrap64 ((l0.length : Int) - 1)), (by first | rfl | (simp; done) | (simp [*]; done)), H', ⟨Nat.le_refl _⟩, ⟨by (with_reducible repeat (first | apply Kd.S_alloc | apply Kd.S_drewN | apply Kd.S_drew)); exact HO203.out⟩, ⟨by repeat (first | (with_reducible first | exact HB.out | apply below_alloc | apply pw_below_drewN | apply below_drew1) | exact HB.out)⟩⟩
 case round =>
  clear H'
  (try clear c1); (try clear p1); (try clear q1); (try clear hx1); (try clear p2); (try clear c4); (try clear c4b0); (try clear c4b1); (try clear c5); (try clear c5b0); (try clear c5b1); (try clear p6); (try clear c7); (try clear c7b0); (try clear c7b1); (try clear c8); (try clear c8b0); (try clear c8b1); (try clear c9); (try clear c9b0); (try clear c9b1); (try clear c10); (try clear c10b0); (try clear c10b1); (try clear c11); (try clear p11); (try clear q11); (try clear hx11); (try clear hf11); (try clear c16); (try clear hx16); (try clear hf16); (try clear hx11_0); (try clear hx16_0)
  obtain ⟨x5_1, x6_1, rfl, HA, HK1, HO_5, HB⟩ := hrel
  have hl5_1 := (Kd.S_reads' HO_5.out).1
  rw [hl5_1] at HO_5
  (try simp only [hl5_1])
  cases gk with
  | zero => exact absurd HA.out (by simp [impl_bestGains.l0])
  | succ k1 =>
   have H := HA.out
   clear HA
   simp only [impl_bestGains.l0] at H
   by_cases c18 : x6_1 ≥ 0
   rotate_left
   ·rw [if_neg c18] at H
    have c18b0 : decide (0 ≤ x6_1) = false := decide_eq_false c18
    clear c18
    obtain rfl := Option.some.inj H
    go_wp2
    go_ret
    exact ⟨_, by first | rfl | (simp [errW_none, errW_some] <;> rfl) | (simp only [← hji3, ← hji6]; first | rfl | (simp [errW_none, errW_some] <;> rfl)) | (simp [*, errW_none, errW_some] <;> rfl), by (with_reducible repeat (first | apply Kd.S_alloc | apply Kd.S_drewN | apply Kd.S_drew)); exact HO_5.out, by repeat (first | (with_reducible first | exact HB.out | apply below_alloc | apply pw_below_drewN | apply below_drew1) | exact HB.out)⟩
   rw [if_pos c18] at H
   have c18b0 : decide (0 ≤ x6_1) = true := decide_eq_true c18
   clear c18
   by_cases c19 : 0 ≤ x6_1
   rotate_left
   ·rw [if_neg c19] at H
    exact absurd H (by simp)
   rw [if_pos c19] at H
   have c19b0 : decide (0 ≤ x6_1) = true := decide_eq_true c19
   clear c19
   by_cases c20 : x6_1 < (l0.length : Int)
   rotate_left
   ·rw [if_neg c20] at H
    exact absurd H (by simp)
   rw [if_pos c20] at H
   have c20b0 : decide (x6_1 < (l0.length : Int)) = true := decide_eq_true c20
   clear c20
   obtain ⟨y210, hy210⟩ : ∃ y_ : List Int, y_ = (([(-1)] : List Int)) := ⟨_, rfl⟩
   replace H : ((slices_Repeat_int_int.f y210 (wrap64 (a1 + 1))).bind fun t213 => (if x6_1 < (x5_1.length : Int) then ((some (x5_1.set (x6_1 : Int).toNat t213 : List (List Int))).bind fun y216 => (impl_bestGains.l1 k1 l0 a1 y216 x6_1 ((rd_L2 y216 x6_1).length : Int) 0 ((rd_T50 l0 x6_1).f0) ((rd_T50 l0 x6_1).f1) ((rd_T50 l0 x6_1).f2) ((rd_T50 l0 x6_1).f3))) else (none))) = some r := by first | (rw [hy210]; with_reducible exact H) | (have H2_ := (Option.bind_some _ _).symm.trans H; rw [hy210]; with_reducible exact H2_) | (have H2_ := (Option.bind_some _ _).symm.trans H; with_reducible exact H2_) | with_reducible exact H | (rw [hy210]; exact H) | exact H
   have Ny210 := Aside0.mk hy210
   clear hy210
   replace H := Option.bind_eq_some_iff.mp H
   obtain ⟨t213, A210, H⟩ := H
   replace H : (if x6_1 < (x5_1.length : Int) then ((some (x5_1.set (x6_1 : Int).toNat t213 : List (List Int))).bind fun y216 => (impl_bestGains.l1 k1 l0 a1 y216 x6_1 ((rd_L2 y216 x6_1).length : Int) 0 ((rd_T50 l0 x6_1).f0) ((rd_T50 l0 x6_1).f1) ((rd_T50 l0 x6_1).f2) ((rd_T50 l0 x6_1).f3))) else (none)) = some r := H
   have A21 := Aside0.mk A210
   clear A210
   by_cases c22 : x6_1 < (x5_1.length : Int)
   rotate_left
   ·rw [if_neg c22] at H
    exact absurd H (by simp)
   rw [if_pos c22] at H
   have c22b0 : decide (x6_1 < (x5_1.length : Int)) = true := decide_eq_true c22
   clear c22
   obtain ⟨y216, hy216⟩ : ∃ y_ : List (List Int), y_ = (x5_1.set (x6_1 : Int).toNat t213) := ⟨_, rfl⟩
   replace H : (impl_bestGains.l1 k1 l0 a1 y216 x6_1 ((rd_L2 y216 x6_1).length : Int) 0 ((rd_T50 l0 x6_1).f0) ((rd_T50 l0 x6_1).f1) ((rd_T50 l0 x6_1).f2) ((rd_T50 l0 x6_1).f3)) = some r := by first | (rw [hy216]; with_reducible exact H) | (have H2_ := (Option.bind_some _ _).symm.trans H; rw [hy216]; with_reducible exact H2_) | (have H2_ := (Option.bind_some _ _).symm.trans H; with_reducible exact H2_) | with_reducible exact H | (rw [hy216]; exact H) | exact H
   have Ny216 := Aside0.mk hy216
   clear hy216
   have H' := Aside0.mk H
   clear H
   have p208 : 0 ≤ (x6_1 : Int) := od_
   have q208 : x6_1 < (l0.length : Int) := od_
   obtain ⟨ad208, A208_3, c208_3, e208, hx208_0, hx208_1, hx208_2, hx208_3, hl208_3, hi208_3⟩ := at_T50 HR0.out x6_1 p208 q208
   cases e208
   replace hx208_0 := (HB.out.cell (World.block_lt_of_cell? w _ hx208_0)).trans hx208_0
   replace hx208_1 := (HB.out.cell (World.block_lt_of_cell? w _ hx208_1)).trans hx208_1
   replace hx208_2 := (HB.out.cell (World.block_lt_of_cell? w _ hx208_2)).trans hx208_2
   replace hx208_3 := (HB.out.cell (World.block_lt_of_cell? w _ hx208_3)).trans hx208_3
   have HR208_3 := Aside0.mk hi208_3
   have HC208_3 := Aside0.mk hl208_3
   clear hi208_3 hl208_3
   replace p208 := eq_true p208
   replace q208 := eq_true q208
   go_wp2_with (first | ((with_reducible refine gate_dst (N := 7) rfl ?_); refine box_event ?hg (N := 7) ?hd (cs := #[.string (⟨#[]⟩ : ByteArray), .int .i64 0, .int .i64 0, .slice none 0 0]) (t := 50) ?hr ?_; (case hd => rfl); (case hg => rfl); (case hr => first | (go_simp; done) | (go_simp; rfl)); intro gb209 hg w24 hbox hb; have n0_ := Aside0.mk (Kd.S_below (by (with_reducible repeat (first | apply Kd.S_alloc | apply Kd.S_drewN | apply Kd.S_drew)); exact HO_5.out) hb); have n1_ := Aside0.mk (below_step bl_ hb); have n2_ := Aside0.mk (hbox); have n3_ := Aside0.mk ((by rw [hg]; exact (below_size bl_) : w.heap.size ≤ gb209)); have n4_ := Aside0.mk ((by rw [hg]; exact (below_size bl_) : w.heap.size ≤ gb209)); clear HO_5; clear HB; have HO_5 := n0_; have HB := n1_; have BK209 := n2_; have GW209 := n3_; have GE209 := n4_; clear n0_ n1_ n2_ n3_ n4_; clear hb hbox hg; have hcz25_0 : w24.cell? ⟨gb209, 0, none⟩ = some (.string (⟨#[]⟩ : ByteArray)) := (blk_cell BK209.out 0).trans rfl; have hcz25_1 : w24.cell? ⟨gb209, 1, none⟩ = some (.int .i64 0) := (blk_cell BK209.out 1).trans rfl; have hcz25_2 : w24.cell? ⟨gb209, 2, none⟩ = some (.int .i64 0) := (blk_cell BK209.out 2).trans rfl; have hcz25_3 : w24.cell? ⟨gb209, 3, none⟩ = some (.slice none 0 0) := (blk_cell BK209.out 3).trans rfl; have hfz25_0 := blk_frozen BK209.out 0; have hfz25_1 := blk_frozen BK209.out 1; have hfz25_2 := blk_frozen BK209.out 2; have hfz25_3 := blk_frozen BK209.out 3) | ((with_reducible refine gate_dst (N := 35) rfl ?_); refine Kd.R_lit (Kd.int .i64) _ 3 ?hg (N := 35) ?hd (xs := ([(-1)] : List Int)) (inner := [.int .i64 (-1)]) (ok := fun _ => True) (okp := fun _ => True) ?hr ?hp (fun _ hk => hk) trivial (Below.refl _ _) (Nat.le_refl _) (by simp) ?_; (case hd => rfl); (case hg => rfl); (case hr => first | (go_simp; done) | (go_simp; rfl)); (case hp => exact (Reps.one (show Kd.M (Kd.int .i64) _ _ _ (-1) [.int .i64 (-1)] from rfl) (Reps.none _ _))); intro v211 w26 ho27 hb hg_ hnew_; clear hg_ hnew_; (first | rw [← Ny210.out] at ho27 | (simp only [Int.reduceToNat] at ho27; rw [← Ny210.out] at ho27)); have n0_ := Aside0.mk (Kd.S_elder' (by (with_reducible repeat (first | apply Kd.S_alloc | apply Kd.S_drewN | apply Kd.S_drew)); exact (Kd.S_mono (Kd.S_far (p := ⟨gb209, 3, none⟩) (Kd.S_far (p := ⟨gb209, 2, none⟩) (Kd.S_far (p := ⟨gb209, 1, none⟩) (Kd.S_far (p := ⟨gb209, 0, none⟩) (Kd.S_types HO_5.out BK209.out (by decide)) (fun _ hk => hk.2) (.string ((rd_T50 l0 x6_1).f0))) (fun _ hk => hk.2) (.int .i64 ((rd_T50 l0 x6_1).f1))) (fun _ hk => hk.2) (.int .i64 ((rd_T50 l0 x6_1).f2))) (fun _ hk => hk.2) (.slice A208_3 ((rd_T50 l0 x6_1).f3).length c208_3)) (fun _ h_ => h_.1))) (Kd.R_base ho27) hb); have n1_ := Aside0.mk (Kd.R_lower ho27 (below_size bl_)); have n2_ := Aside0.mk (blk_below (g := gb209) (o := .cells #[.string ((rd_T50 l0 x6_1).f0), .int .i64 ((rd_T50 l0 x6_1).f1), .int .i64 ((rd_T50 l0 x6_1).f2), .slice A208_3 ((rd_T50 l0 x6_1).f3).length c208_3] 50 (0, 0)) (by (with_reducible repeat (first | refine blk_drewN ?_ _ | refine blk_drew ?_ | refine blk_alloc ?_ _)); refine blk_put (cs := #[.string ((rd_T50 l0 x6_1).f0), .int .i64 ((rd_T50 l0 x6_1).f1), .int .i64 ((rd_T50 l0 x6_1).f2), .slice none 0 0]) ?_ 3 _ rfl; (with_reducible repeat (first | refine blk_drewN ?_ _ | refine blk_drew ?_ | refine blk_alloc ?_ _)); refine blk_put (cs := #[.string ((rd_T50 l0 x6_1).f0), .int .i64 ((rd_T50 l0 x6_1).f1), .int .i64 0, .slice none 0 0]) ?_ 2 _ rfl; (with_reducible repeat (first | refine blk_drewN ?_ _ | refine blk_drew ?_ | refine blk_alloc ?_ _)); refine blk_put (cs := #[.string ((rd_T50 l0 x6_1).f0), .int .i64 0, .int .i64 0, .slice none 0 0]) ?_ 1 _ rfl; (with_reducible repeat (first | refine blk_drewN ?_ _ | refine blk_drew ?_ | refine blk_alloc ?_ _)); refine blk_put (cs := #[.string (⟨#[]⟩ : ByteArray), .int .i64 0, .int .i64 0, .slice none 0 0]) ?_ 0 _ rfl; (with_reducible repeat (first | refine blk_drewN ?_ _ | refine blk_drew ?_ | refine blk_alloc ?_ _)); exact BK209.out) hb); have n3_ := Aside0.mk (below_step bl_ hb); clear HO_5; clear BK209; clear HB; have HO_5 := n0_; have HO212 := n1_; have BK209 := n2_; have HB := n3_; clear n0_ n1_ n2_ n3_; clear hb ho27; obtain ⟨Ao28, co28, eo28⟩ := Kd.R_slice HO212.out; subst eo28) | ((with_reducible refine gate_callee (f := 54) rfl ?_); refine goesL_ (some 38) rfl rfl Try.func54 (by kernel_rfl) rfl #[.slice Ao28 y210.length co28, .int .i64 (wrap64 (a1 + 1))] rfl (by (try simp only [List.map_toArray, List.map_cons, List.map_nil]); first | done | rfl | (simp only [List.length_drop, List.length_take]; rfl) | (simp only [hji6]; first | done | rfl)) ?_; (with_reducible refine (slices_Repeat_int_int.calls _ _ y210 (wrap64 (a1 + 1)) t213 _ ?side1 ?side2 A21.out).mono ?_); (case side1 => repeat (first | exact (Kd.R_reads' HO212.out).2.2 | (with_reducible refine Kd.C_alloc ?_ _) | (with_reducible refine Kd.C_drewN ?_ _) | (with_reducible refine Kd.C_drew ?_))); (case side2 => exact (Kd.R_reads' HO212.out).2.1); rintro e w29 ⟨v214, rfl, ho0, hb⟩; refine ⟨_, rfl, ?_⟩; have n0_ := Aside0.mk (Kd.S_elder' (by (with_reducible repeat (first | apply Kd.S_alloc | apply Kd.S_drewN | apply Kd.S_drew)); exact HO_5.out) (Kd.R_base ho0) hb); have n1_ := Aside0.mk (Kd.R_elder' (by (with_reducible repeat (first | apply Kd.R_alloc | apply Kd.R_drewN | apply Kd.R_drew)); exact HO212.out) (Kd.R_base ho0) hb); have n2_ := Aside0.mk (Kd.R_lower (Kd.R_new' ho0 (Kd.R_lt (by (with_reducible repeat (first | apply Kd.R_alloc | apply Kd.R_drewN | apply Kd.R_drew)); exact HO212.out))) (below_size bl_)); have n3_ := Aside0.mk (blk_below (g := gb209) (o := .cells #[.string ((rd_T50 l0 x6_1).f0), .int .i64 ((rd_T50 l0 x6_1).f1), .int .i64 ((rd_T50 l0 x6_1).f2), .slice A208_3 ((rd_T50 l0 x6_1).f3).length c208_3] 50 (0, 0)) bk_ hb); have n4_ := Aside0.mk (below_step bl_ hb); clear HO_5; clear HO212; clear BK209; clear HB; have HO_5 := n0_; have HO212 := n1_; have HO215 := n2_; have BK209 := n3_; have HB := n4_; clear n0_ n1_ n2_ n3_ n4_; (try clear hb); (try clear hb2); (try clear hk); (try clear hi); (try clear ho0); have p23 : 0 ≤ (x6_1 : Int) := od_; have q23 : (x6_1 : Int) < ((x5_1.length : Int) : Int) := od_; obtain ⟨_, ce23, hcl23, hM23, hcc23, hfr23, _, _⟩ := Kd.S_elem HO_5.out [] (x6_1 : Int) p23 q23; obtain ⟨ve23_0, rfl, ge23_0⟩ := hM23; have hx23_0 := hcc23 0 _ rfl; have hf23_0 := hfr23 0; (try simp only [show ((Kd.slice 3 (Kd.int .i64))).sz = 1 from rfl, Nat.mul_one, Nat.add_zero] at hx23_0); (try simp only [show ((Kd.slice 3 (Kd.int .i64))).sz = 1 from rfl, Nat.mul_one, Nat.add_zero] at hf23_0); clear hcl23 hcc23 hfr23; (try clear hM23); replace p23 := eq_true p23; replace q23 := eq_true q23; have n_ := Aside0.mk (Kd.S_mono (ok' := (fun k_ => some k_ ≠ (.slice Ao28 y210.length co28 : Value).ownBlock ∧ some k_ ≠ (v214 : Value).ownBlock)) HO_5.out (fun k_ hk => ⟨hk.1.2, hk.2⟩)); clear HO_5; have HO_5 := n_; clear n_; have HX30 := Aside0.mk (show Kd.S (Kd.slice 3 (Kd.int .i64)) 29 w29 w.heap.size (fun k_ => ((fun k_ => some k_ ≠ (.slice Ao28 y210.length co28 : Value).ownBlock)) k_ ∧ ¬ ((fun k_ => some k_ = (v214 : Value).ownBlock)) k_) (.slice (some ⟨go11, 0, none⟩) x5_1.length co11) x5_1 from (by (with_reducible repeat (first | apply Kd.S_alloc | apply Kd.S_drewN | apply Kd.S_drew)); exact Kd.S_mono HO_5.out (fun k_ hk => ⟨hk.1, fun e_ => hk.2 e_⟩))); obtain ⟨oki30, ce30, hcl30, hM30, hcc30, hfr30, hoki30, hH30⟩ := Kd.S_elem HX30.out [] (x6_1 : Int) od_ (by have h_ : (x6_1 : Int) < ((x5_1.length : Int) : Int) := od_; first | exact h_ | (have e_ := (Kd.S_reads' HO_5.out).1; omega) | simpa using h_); obtain ⟨ve30_0, rfl, ge30_0⟩ := hM30; have HP30 := Kd.S_seg hH30 od_ (by have h_ : (x6_1 : Int) < ((x5_1.length : Int) : Int) := od_; first | exact h_ | (have e_ := (Kd.S_reads' HO_5.out).1; omega) | simpa using h_) (seg := [v214]) (j := 0) (show 1 ≤ 1 from by decide) (x' := t213) (Kd.M_row (Kd.R_mono (Kd.R_tight rfl (Kd.R_mono (ok' := fun k_ => ((fun k_ => some k_ ≠ (.slice Ao28 y210.length co28 : Value).ownBlock)) k_ ∧ k_ ≠ go11) (Kd.R_apart' (HO215.out) (Kd.S_typed HO_5.out) (by decide)) (fun k_ hk => ⟨hk.1.2, fun e_ => (hk.2) (by rw [e_]; rfl)⟩))) (fun _ h_ => Or.inr (h_)))) (fun _ hk => hk) (fun k_ hk_ => ((Kd.R_mono (ok' := fun k_ => ((fun k_ => some k_ ≠ (.slice Ao28 y210.length co28 : Value).ownBlock)) k_ ∧ k_ ≠ go11) (Kd.R_apart' (HO215.out) (Kd.S_typed HO_5.out) (by decide)) (fun k_ hk => ⟨hk.1.2, fun e_ => (hk.2) (by rw [e_]; rfl)⟩))).1 k_ hk_.symm); have hx30_0 := hcc30 0 _ rfl; (try simp only [show ((Kd.slice 3 (Kd.int .i64))).sz = 1 from rfl, Nat.mul_one, Nat.add_zero] at hx30_0); have hf30_0 := hfr30 0; (try simp only [show ((Kd.slice 3 (Kd.int .i64))).sz = 1 from rfl, Nat.mul_one, Nat.add_zero] at hf30_0); clear hcl30 hcc30 hfr30; (try clear hM30); clear hoki30 hH30; (try simp only [show ((Kd.slice 3 (Kd.int .i64))).sz = 1 from rfl, Nat.mul_one, Nat.add_zero] at HP30)) | ((with_reducible refine gate_store (t := 29) (p := 39) rfl ?_); refine store_event (t := 29) (p := 39) (v := ?vo_w31) (w1 := (w29.setCell ⟨go11, (x6_1 : Int).toNat, none⟩ (v214))) ?hg ?ho ?hn ?hr ?_; (case ho => rfl); (case hg => rfl); (case hn => rfl); (case hr => first | (go_simp; done) | (go_simp; rfl) | (obtain ⟨A_, c_, e_⟩ := Kd.R_slice HO215.out; subst e_; (first | (go_simp; done) | (go_simp; rfl)))); intro w31 hw; have hg : w29.grownBy w31 (some go11) := (by rw [hw]; exact HP30.2); have hp_ : Kd.S (Kd.slice 3 (Kd.int .i64)) 29 w31 w.heap.size (fun k_ => some k_ ≠ (.slice Ao28 y210.length co28 : Value).ownBlock) (.slice (some ⟨go11, 0, none⟩) x5_1.length co11) y216 := (by rw [hw, Ny216.out]; exact HP30.1); clear HP30; have n0_ := Aside0.mk (hp_); have n1_ := Aside0.mk (blk_grown (g := gb209) (o := .cells #[.string ((rd_T50 l0 x6_1).f0), .int .i64 ((rd_T50 l0 x6_1).f1), .int .i64 ((rd_T50 l0 x6_1).f2), .slice A208_3 ((rd_T50 l0 x6_1).f3).length c208_3] 50 (0, 0)) bk_ hg (Kd.S_ne HO_5.out BK209.out (by decide))); have n2_ := Aside0.mk (Kd.R_over' (v := (.slice (some ⟨go11, 0, none⟩) x5_1.length co11)) (by (with_reducible repeat (first | apply Kd.R_alloc | apply Kd.R_drewN | apply Kd.R_drew)); exact HO212.out) (Kd.S_typed HO_5.out) (by decide) hg); have n3_ := Aside0.mk ((by rw [hw]; exact below_set (HB.out) GB11.out : Below w.heap.size w w31)); clear HO_5; clear BK209; clear HO212; clear HB; clear HO215; have HO_5 := n0_; have BK209 := n1_; have HO212 := n2_; have HB := n3_; clear n0_ n1_ n2_ n3_; clear hg hw hp_; have p217 : 0 ≤ (x6_1 : Int) := od_; have q217 : x6_1 < (y216.length : Int) := (by have h_ : (x6_1 : Int) < ((x5_1.length : Int) : Int) := od_; first | (have e_ := (Kd.S_reads' HO_5.out).1; omega) | simpa only [Ny216.out, List.length_set] using h_); have ql217 : ((x6_1 : Int) < ((x5_1.length : Int) : Int)) = True := eq_true od_; obtain ⟨ad217, A217_0, c217_0, e217, hx217_0, hl217_0, hi217_0⟩ := at_L2 (Kd.S_reads' HO_5.out).2.2 x6_1 p217 q217; obtain rfl : (⟨go11, 0, none⟩ : Addr) = ad217 := (by injection e217); obtain ⟨ce217, hce217, hMe217, hcc217⟩ := Kd.S_get HO_5.out [] x6_1 p217 (by first | exact q217 | exact od_ | (have e_ := (Kd.S_reads' HO_5.out).1; omega)); obtain ⟨ve217_0, rfl, ge217_0⟩ := hMe217; have hv217_0 := hcc217 0 _ rfl; rw [Nat.add_zero, show ((Kd.slice 3 (Kd.int .i64))).sz = 1 from rfl, Nat.mul_one] at hv217_0; replace hv217_0 := Option.some.inj (hv217_0.symm.trans hx217_0); rw [hv217_0] at ge217_0; have HL217_0 := Aside0.mk (show Kd.R (Kd.int .i64) 3 _ _ _ _ (rd_L2 y216 x6_1) from ge217_0); clear hv217_0 ge217_0; have HX217_0 := Aside0.mk hx217_0; clear hcc217 hce217; (first | simp only [add_plain] at hx217_0 | simp only [add_at] at hx217_0 | simp only [Addr.add, Nat.zero_add] at hx217_0 | skip); have HR217_0 := Aside0.mk hi217_0; have HC217_0 := Aside0.mk hl217_0; clear hi217_0 hl217_0; replace p217 := eq_true p217; replace q217 := eq_true q217))
   go_loopg [45] k1 (fun kq v45 w' => ∃ (x5_2 : List (List Int)) (x45_2 : Int), v45 = .int .i64 x45_2 ∧ Aside0 (impl_bestGains.l1 kq l0 a1 x5_2 x6_1 ((rd_L2 y216 x6_1).length : Int) x45_2 ((rd_T50 l0 x6_1).f0) ((rd_T50 l0 x6_1).f1) ((rd_T50 l0 x6_1).f2) ((rd_T50 l0 x6_1).f3) = some r) ∧ Aside0 (kq ≤ k1) ∧ Aside0 (Kd.S (Kd.slice 3 (Kd.int .i64)) 29 w' w.heap.size (fun _ => True) (.slice (some ⟨go11, 0, none⟩) x5_1.length co11) x5_2) ∧ Aside0 (w'.heap[gb209]? = some (.cells #[.string ((rd_T50 l0 x6_1).f0), .int .i64 ((rd_T50 l0 x6_1).f1), .int .i64 ((rd_T50 l0 x6_1).f2), (.slice A208_3 ((rd_T50 l0 x6_1).f3).length c208_3)] 50 (0, 0))) ∧ Aside0 (Below w.heap.size w w'))
   case atStart => exact ⟨(y216), (0), (by first | rfl | (simp; done) | (simp [*]; done)), H', ⟨Nat.le_refl _⟩, ⟨by (try simp only [hl5_1]); (with_reducible repeat (first | apply Kd.S_alloc | apply Kd.S_drewN | apply Kd.S_drew)); exact Kd.S_mono HO_5.out (fun _ hk => trivial)⟩, ⟨by (try simp only [hl5_1]); (with_reducible repeat (first | refine blk_drewN ?_ _ | refine blk_drew ?_ | refine blk_alloc ?_ _)); exact BK209.out⟩, ⟨by repeat (first | (with_reducible first | exact HB.out | apply below_alloc | apply pw_below_drewN | apply below_drew1 | refine below_set ?_ GE209.out) | exact HB.out)⟩⟩
   case round =>
    clear H'
    (try clear c2); (try clear q2); (try clear hx2); (try clear hf2); (try clear c3); (try clear hx3); (try clear hf3); (try clear c18); (try clear c18b0); (try clear c19); (try clear c19b0); (try clear c20); (try clear c20b0); (try clear p20); (try clear q20); (try clear hx20); (try clear c21); (try clear p21); (try clear q21); (try clear hx21); (try clear c22); (try clear c22b0); (try clear c23); (try clear p23); (try clear q23); (try clear hx23); (try clear hf23); (try clear c30); (try clear hx30); (try clear hf30); (try clear hcz25_0); (try clear hcz25_1); (try clear hcz25_2); (try clear hcz25_3); (try clear hfz25_0); (try clear hfz25_1); (try clear hfz25_2); (try clear hfz25_3); (try clear hx208_0); (try clear hx208_1); (try clear hx208_2); (try clear hx208_3); (try clear hx217_0); (try clear hx23_0); (try clear hx30_0); (try clear p208); (try clear p217); (try clear q208); (try clear q217)
    obtain ⟨x5_2, x45_2, rfl, HA, HK2, HO_5, BK209, HB⟩ := hrel
    have hl5_2 := (Kd.S_reads' HO_5.out).1
    rw [hl5_2] at HO_5
    (try simp only [hl5_2])
    (try simp only [hl5_2] at BK209)
    cases gk with
    | zero => exact absurd HA.out (by simp [impl_bestGains.l1])
    | succ k2 =>
     have H := HA.out
     clear HA
     simp only [impl_bestGains.l1] at H
     by_cases c32 : x45_2 < ((rd_L2 y216 x6_1).length : Int)
     rotate_left
     ·rw [if_neg c32] at H
      have c32b0 : decide (x45_2 < ((rd_L2 y216 x6_1).length : Int)) = false := decide_eq_false c32
      clear c32
      have H' := Aside0.mk H
      clear H
      go_wp2
      (try simp only [← hl5_1, ← hl5_2])
      go_roundg k2
      case measure => have := HK1.out; have := HK2.out; omega
      case rel => exact ⟨(x5_2), (wrap64 (x6_1 - 1)), (by first | rfl | (simp; done) | (simp [*]; done)), H', ⟨by have := HK1.out; have := HK2.out; omega⟩, ⟨by (try simp only [hl5_1]); (try simp only [hl5_2]); (with_reducible repeat (first | apply Kd.S_alloc | apply Kd.S_drewN | apply Kd.S_drew)); exact HO_5.out⟩, ⟨by repeat (first | (with_reducible first | exact HB.out | apply below_alloc | apply pw_below_drewN | apply below_drew1 | refine below_set ?_ GE209.out) | exact HB.out)⟩⟩
     rw [if_pos c32] at H
     have c32b0 : decide (x45_2 < ((rd_L2 y216 x6_1).length : Int)) = true := decide_eq_true c32
     clear c32
     have H' := Aside0.mk H
     clear H
     have hcz33_0 : wr.cell? ⟨gb209, 0, none⟩ = some (.string ((rd_T50 l0 x6_1).f0)) := (blk_cell BK209.out 0).trans rfl
     have hcz33_1 : wr.cell? ⟨gb209, 1, none⟩ = some (.int .i64 ((rd_T50 l0 x6_1).f1)) := (blk_cell BK209.out 1).trans rfl
     have hcz33_2 : wr.cell? ⟨gb209, 2, none⟩ = some (.int .i64 ((rd_T50 l0 x6_1).f2)) := (blk_cell BK209.out 2).trans rfl
     have hcz33_3 : wr.cell? ⟨gb209, 3, none⟩ = some (.slice A208_3 ((rd_T50 l0 x6_1).f3).length c208_3) := (blk_cell BK209.out 3).trans rfl
     have hfz33_0 := blk_frozen BK209.out 0
     have hfz33_1 := blk_frozen BK209.out 1
     have hfz33_2 := blk_frozen BK209.out 2
     have hfz33_3 := blk_frozen BK209.out 3
     go_wp2
     go_loopg [9] k2 (fun kq v9 w' => ∃ (x5_3 : List (List Int)) (x9_3 : Int), v9 = .int .i64 x9_3 ∧ Aside0 (impl_bestGains.l2 kq l0 a1 x5_3 x6_1 x45_2 x9_3 ((rd_L2 y216 x6_1).length : Int) x45_2 ((rd_T50 l0 x6_1).f0) ((rd_T50 l0 x6_1).f1) ((rd_T50 l0 x6_1).f2) ((rd_T50 l0 x6_1).f3) = some r) ∧ Aside0 (kq ≤ k2) ∧ Aside0 (Kd.S (Kd.slice 3 (Kd.int .i64)) 29 w' w.heap.size (fun _ => True) (.slice (some ⟨go11, 0, none⟩) x5_2.length co11) x5_3) ∧ Aside0 (w'.heap[gb209]? = some (.cells #[.string ((rd_T50 l0 x6_1).f0), .int .i64 ((rd_T50 l0 x6_1).f1), .int .i64 ((rd_T50 l0 x6_1).f2), (.slice A208_3 ((rd_T50 l0 x6_1).f3).length c208_3)] 50 (0, 0))) ∧ Aside0 (Below w.heap.size w w'))
     case atStart => exact ⟨(x5_2), (((rd_T50 l0 x6_1).f2)), (by first | rfl | (simp; done) | (simp [*]; done)), H', ⟨Nat.le_refl _⟩, ⟨by (try simp only [hl5_1]); (try simp only [hl5_2]); (with_reducible repeat (first | apply Kd.S_alloc | apply Kd.S_drewN | apply Kd.S_drew)); exact HO_5.out⟩, ⟨by (try simp only [hl5_1]); (try simp only [hl5_2]); (with_reducible repeat (first | refine blk_drewN ?_ _ | refine blk_drew ?_ | refine blk_alloc ?_ _)); exact BK209.out⟩, ⟨by repeat (first | (with_reducible first | exact HB.out | apply below_alloc | apply pw_below_drewN | apply below_drew1 | refine below_set ?_ GE209.out) | exact HB.out)⟩⟩
     case round =>
      clear H'
      (try clear c32); (try clear c32b0); (try clear hcz33_0); (try clear hcz33_1); (try clear hcz33_2); (try clear hcz33_3); (try clear hfz33_0); (try clear hfz33_1); (try clear hfz33_2); (try clear hfz33_3)
      obtain ⟨x5_3, x9_3, rfl, HA, HK3, HO_5, BK209, HB⟩ := hrel
      have hl5_3 := (Kd.S_reads' HO_5.out).1
      rw [hl5_3] at HO_5
      (try simp only [hl5_3])
      (try simp only [hl5_3] at BK209)
      cases gk with
      | zero => exact absurd HA.out (by simp [impl_bestGains.l2])
      | succ k3 =>
       have H := HA.out
       clear HA
       simp only [impl_bestGains.l2] at H
       have HC34 := Aside0.mk H
       clear H
       go_upto_region 12 with (fail)
       go_cut [62] (fun v62 wc => ∃ (kq : Nat) (x62_33 : Bool), v62 = .bool x62_33 ∧ Aside0 (impl_bestGains.j3 kq l0 a1 x5_3 x6_1 x45_2 x9_3 ((rd_L2 y216 x6_1).length : Int) x45_2 x62_33 ((rd_T50 l0 x6_1).f0) ((rd_T50 l0 x6_1).f1) ((rd_T50 l0 x6_1).f2) ((rd_T50 l0 x6_1).f3) = some r) ∧ Aside0 (kq ≤ k3) ∧ Aside0 (Kd.S (Kd.slice 3 (Kd.int .i64)) 29 wc w.heap.size (fun _ => True) (.slice (some ⟨go11, 0, none⟩) x5_3.length co11) x5_3) ∧ Aside0 (wc.heap[gb209]? = some (.cells #[.string ((rd_T50 l0 x6_1).f0), .int .i64 ((rd_T50 l0 x6_1).f1), .int .i64 ((rd_T50 l0 x6_1).f2), (.slice A208_3 ((rd_T50 l0 x6_1).f3).length c208_3)] 50 (0, 0))) ∧ Aside0 (Below w.heap.size w wc))
       case first =>
        have H := HC34.out
        clear HC34
        by_cases c35 : x9_3 ≤ (((rd_T50 l0 x6_1).f3).length : Int)
        rotate_left
        ·rw [if_neg c35] at H
         have c35b0 : decide (x9_3 ≤ (((rd_T50 l0 x6_1).f3).length : Int)) = false := decide_eq_false c35
         clear c35
         (first | rw [c35b0] | (simp only [i64_w, i32_w]; rw [c35b0]) | skip)
         have H' := Aside0.mk H
         clear H
         have hcz37_0 : wr.cell? ⟨gb209, 0, none⟩ = some (.string ((rd_T50 l0 x6_1).f0)) := (blk_cell BK209.out 0).trans rfl
         have hcz37_1 : wr.cell? ⟨gb209, 1, none⟩ = some (.int .i64 ((rd_T50 l0 x6_1).f1)) := (blk_cell BK209.out 1).trans rfl
         have hcz37_2 : wr.cell? ⟨gb209, 2, none⟩ = some (.int .i64 ((rd_T50 l0 x6_1).f2)) := (blk_cell BK209.out 2).trans rfl
         have hcz37_3 : wr.cell? ⟨gb209, 3, none⟩ = some (.slice A208_3 ((rd_T50 l0 x6_1).f3).length c208_3) := (blk_cell BK209.out 3).trans rfl
         have hfz37_0 := blk_frozen BK209.out 0
         have hfz37_1 := blk_frozen BK209.out 1
         have hfz37_2 := blk_frozen BK209.out 2
         have hfz37_3 := blk_frozen BK209.out 3
         go_wp2
         go_meet
         case rel => exact ⟨_, (false), (by first | rfl | (simp; done) | (simp [*]; done)), H', ⟨by have := HK1.out; have := HK2.out; have := HK3.out; first | omega | exact Nat.le_refl _⟩, ⟨by (try simp only [hl5_1]); (try simp only [hl5_2]); (try simp only [hl5_3]); (with_reducible repeat (first | apply Kd.S_alloc | apply Kd.S_drewN | apply Kd.S_drew)); exact HO_5.out⟩, ⟨by (try simp only [hl5_1]); (try simp only [hl5_2]); (try simp only [hl5_3]); (with_reducible repeat (first | refine blk_drewN ?_ _ | refine blk_drew ?_ | refine blk_alloc ?_ _)); exact BK209.out⟩, ⟨by repeat (first | (with_reducible first | exact HB.out | apply below_alloc | apply pw_below_drewN | apply below_drew1 | refine below_set ?_ GE209.out) | exact HB.out)⟩⟩
        rw [if_pos c35] at H
        have c35b0 : decide (x9_3 ≤ (((rd_T50 l0 x6_1).f3).length : Int)) = true := decide_eq_true c35
        clear c35
        (first | rw [c35b0] | (simp only [i64_w, i32_w]; rw [c35b0]) | skip)
        have H' := Aside0.mk H
        clear H
        have hcz36_0 : wr.cell? ⟨gb209, 0, none⟩ = some (.string ((rd_T50 l0 x6_1).f0)) := (blk_cell BK209.out 0).trans rfl
        have hcz36_1 : wr.cell? ⟨gb209, 1, none⟩ = some (.int .i64 ((rd_T50 l0 x6_1).f1)) := (blk_cell BK209.out 1).trans rfl
        have hcz36_2 : wr.cell? ⟨gb209, 2, none⟩ = some (.int .i64 ((rd_T50 l0 x6_1).f2)) := (blk_cell BK209.out 2).trans rfl
        have hcz36_3 : wr.cell? ⟨gb209, 3, none⟩ = some (.slice A208_3 ((rd_T50 l0 x6_1).f3).length c208_3) := (blk_cell BK209.out 3).trans rfl
        have hfz36_0 := blk_frozen BK209.out 0
        have hfz36_1 := blk_frozen BK209.out 1
        have hfz36_2 := blk_frozen BK209.out 2
        have hfz36_3 := blk_frozen BK209.out 3
        go_wp2
        go_meet
        case rel => exact ⟨_, (decide ((wrap64 (x9_3 * ((rd_T50 l0 x6_1).f1))) ≤ x45_2)), (by first | rfl | (simp; done) | (simp [*]; done)), H', ⟨by have := HK1.out; have := HK2.out; have := HK3.out; first | omega | exact Nat.le_refl _⟩, ⟨by (try simp only [hl5_1]); (try simp only [hl5_2]); (try simp only [hl5_3]); (with_reducible repeat (first | apply Kd.S_alloc | apply Kd.S_drewN | apply Kd.S_drew)); exact HO_5.out⟩, ⟨by (try simp only [hl5_1]); (try simp only [hl5_2]); (try simp only [hl5_3]); (with_reducible repeat (first | refine blk_drewN ?_ _ | refine blk_drew ?_ | refine blk_alloc ?_ _)); exact BK209.out⟩, ⟨by repeat (first | (with_reducible first | exact HB.out | apply below_alloc | apply pw_below_drewN | apply below_drew1 | refine below_set ?_ GE209.out) | exact HB.out)⟩⟩
       case rest =>
        clear HC34
        (try clear c35); (try clear c35b0); (try clear hcz36_0); (try clear hcz36_1); (try clear hcz36_2); (try clear hcz36_3); (try clear hcz37_0); (try clear hcz37_1); (try clear hcz37_2); (try clear hcz37_3); (try clear hfz36_0); (try clear hfz36_1); (try clear hfz36_2); (try clear hfz36_3); (try clear hfz37_0); (try clear hfz37_1); (try clear hfz37_2); (try clear hfz37_3)
        obtain ⟨kq, x62_33, rfl, HA, HJ33, HO_5, BK209, HB⟩ := hcut
        cases kq with
        | zero => exact absurd HA.out (by simp [impl_bestGains.j3])
        | succ kj33 =>
         have H := HA.out
         clear HA
         simp only [impl_bestGains.j3] at H
         by_cases c38 : x62_33 = true
         rotate_left
         ·replace c38 := Bool.eq_false_iff.mpr c38
          subst c38
          have H1 : (impl_bestGains.l1 kj33 l0 a1 x5_3 x6_1 ((rd_L2 y216 x6_1).length : Int) (wrap64 (x45_2 + 1)) ((rd_T50 l0 x6_1).f0) ((rd_T50 l0 x6_1).f1) ((rd_T50 l0 x6_1).f2) ((rd_T50 l0 x6_1).f3)) = some r := by rw [if_neg (show ¬ (false = true) by decide)] at H; exact H
          clear H
          have H := H1
          clear H1
          have H' := Aside0.mk H
          clear H
          go_wp2
          (try simp only [← hl5_2, ← hl5_3])
          go_roundg kj33
          case measure => have := HK1.out; have := HK2.out; have := HK3.out; have := HJ33.out; omega
          case rel => exact ⟨(x5_3), (wrap64 (x45_2 + 1)), (by first | rfl | (simp; done) | (simp [*]; done)), H', ⟨by have := HK1.out; have := HK2.out; have := HK3.out; have := HJ33.out; omega⟩, ⟨by (try simp only [hl5_1]); (try simp only [hl5_2]); (try simp only [hl5_3]); (with_reducible repeat (first | apply Kd.S_alloc | apply Kd.S_drewN | apply Kd.S_drew)); exact HO_5.out⟩, ⟨by (try simp only [hl5_1]); (try simp only [hl5_2]); (try simp only [hl5_3]); (with_reducible repeat (first | refine blk_drewN ?_ _ | refine blk_drew ?_ | refine blk_alloc ?_ _)); exact BK209.out⟩, ⟨by repeat (first | (with_reducible first | exact HB.out | apply below_alloc | apply pw_below_drewN | apply below_drew1 | refine below_set ?_ GE209.out) | exact HB.out)⟩⟩
         subst c38
         have H1 : (if 0 ≤ (wrap64 (x6_1 + 1)) then (if (wrap64 (x6_1 + 1)) < (x5_3.length : Int) then (if 0 ≤ (wrap64 (x45_2 - (wrap64 (x9_3 * ((rd_T50 l0 x6_1).f1))))) then (if (wrap64 (x45_2 - (wrap64 (x9_3 * ((rd_T50 l0 x6_1).f1))))) < ((rd_L2 x5_3 (wrap64 (x6_1 + 1))).length : Int) then (if (rd (rd_L2 x5_3 (wrap64 (x6_1 + 1))) (wrap64 (x45_2 - (wrap64 (x9_3 * ((rd_T50 l0 x6_1).f1)))))) ≥ 0 then (if 0 ≤ x6_1 then (if x6_1 < (x5_3.length : Int) then (if 0 ≤ x45_2 then (if x45_2 < ((rd_L2 x5_3 x6_1).length : Int) then (if 0 ≤ x9_3 then (if x9_3 ≤ (((rd_T50 l0 x6_1).f3).length : Int) then ((impl_sumOf.f kj33 (((rd_T50 l0 x6_1).f3).take (x9_3 : Int).toNat)).bind fun t224 => (impl_bestGains.l2 kj33 l0 a1 (x5_3.set (x6_1 : Int).toNat ((rd_L2 x5_3 x6_1).set (x45_2 : Int).toNat (mx (rd (rd_L2 x5_3 x6_1) x45_2) (wrap64 ((rd (rd_L2 x5_3 (wrap64 (x6_1 + 1))) (wrap64 (x45_2 - (wrap64 (x9_3 * ((rd_T50 l0 x6_1).f1)))))) + t224))))) x6_1 x45_2 (wrap64 (x9_3 + 1)) ((rd_L2 y216 x6_1).length : Int) x45_2 ((rd_T50 l0 x6_1).f0) ((rd_T50 l0 x6_1).f1) ((rd_T50 l0 x6_1).f2) ((rd_T50 l0 x6_1).f3))) else (none)) else (none)) else (none)) else (none)) else (none)) else (none)) else (impl_bestGains.l2 kj33 l0 a1 x5_3 x6_1 x45_2 (wrap64 (x9_3 + 1)) ((rd_L2 y216 x6_1).length : Int) x45_2 ((rd_T50 l0 x6_1).f0) ((rd_T50 l0 x6_1).f1) ((rd_T50 l0 x6_1).f2) ((rd_T50 l0 x6_1).f3))) else (none)) else (none)) else (none)) else (none)) = some r := by rw [if_pos rfl] at H; exact H
         clear H
         have H := H1
         clear H1
         obtain ⟨ji39, hji39⟩ : ∃ j_ : Int, (wrap64 (x6_1 + 1)) = j_ := ⟨_, rfl⟩
         replace H : (if 0 ≤ (ji39) then (if (ji39) < (x5_3.length : Int) then (if 0 ≤ (wrap64 (x45_2 - (wrap64 (x9_3 * ((rd_T50 l0 x6_1).f1))))) then (if (wrap64 (x45_2 - (wrap64 (x9_3 * ((rd_T50 l0 x6_1).f1))))) < ((rd_L2 x5_3 (ji39)).length : Int) then (if (rd (rd_L2 x5_3 (ji39)) (wrap64 (x45_2 - (wrap64 (x9_3 * ((rd_T50 l0 x6_1).f1)))))) ≥ 0 then (if 0 ≤ x6_1 then (if x6_1 < (x5_3.length : Int) then (if 0 ≤ x45_2 then (if x45_2 < ((rd_L2 x5_3 x6_1).length : Int) then (if 0 ≤ x9_3 then (if x9_3 ≤ (((rd_T50 l0 x6_1).f3).length : Int) then ((impl_sumOf.f kj33 (((rd_T50 l0 x6_1).f3).take (x9_3 : Int).toNat)).bind fun t224 => (impl_bestGains.l2 kj33 l0 a1 (x5_3.set (x6_1 : Int).toNat ((rd_L2 x5_3 x6_1).set (x45_2 : Int).toNat (mx (rd (rd_L2 x5_3 x6_1) x45_2) (wrap64 ((rd (rd_L2 x5_3 (ji39)) (wrap64 (x45_2 - (wrap64 (x9_3 * ((rd_T50 l0 x6_1).f1)))))) + t224))))) x6_1 x45_2 (wrap64 (x9_3 + 1)) ((rd_L2 y216 x6_1).length : Int) x45_2 ((rd_T50 l0 x6_1).f0) ((rd_T50 l0 x6_1).f1) ((rd_T50 l0 x6_1).f2) ((rd_T50 l0 x6_1).f3))) else (none)) else (none)) else (none)) else (none)) else (none)) else (none)) else (impl_bestGains.l2 kj33 l0 a1 x5_3 x6_1 x45_2 (wrap64 (x9_3 + 1)) ((rd_L2 y216 x6_1).length : Int) x45_2 ((rd_T50 l0 x6_1).f0) ((rd_T50 l0 x6_1).f1) ((rd_T50 l0 x6_1).f2) ((rd_T50 l0 x6_1).f3))) else (none)) else (none)) else (none)) else (none)) = some r := by first | (rw [hji39] at H; exact H) | (simp only [hji39] at H ⊢; exact H)
         have hji39w : (IntKind.i64.wrap (x6_1 + 1)) = ji39 := (i64_w _).trans hji39
         by_cases c40 : 0 ≤ (ji39)
         rotate_left
         ·rw [if_neg c40] at H
          exact absurd H (by simp)
         rw [if_pos c40] at H
         have c40b0 : decide (0 ≤ (ji39)) = true := decide_eq_true c40
         clear c40
         by_cases c41 : (ji39) < (x5_3.length : Int)
         rotate_left
         ·rw [if_neg c41] at H
          exact absurd H (by simp)
         rw [if_pos c41] at H
         have c41b0 : decide ((ji39) < (x5_3.length : Int)) = true := decide_eq_true c41
         clear c41
         obtain ⟨ji42, hji42⟩ : ∃ j_ : Int, (wrap64 (x45_2 - (wrap64 (x9_3 * ((rd_T50 l0 x6_1).f1))))) = j_ := ⟨_, rfl⟩
         replace H : (if 0 ≤ (ji42) then (if (ji42) < ((rd_L2 x5_3 (ji39)).length : Int) then (if (rd (rd_L2 x5_3 (ji39)) (ji42)) ≥ 0 then (if 0 ≤ x6_1 then (if x6_1 < (x5_3.length : Int) then (if 0 ≤ x45_2 then (if x45_2 < ((rd_L2 x5_3 x6_1).length : Int) then (if 0 ≤ x9_3 then (if x9_3 ≤ (((rd_T50 l0 x6_1).f3).length : Int) then ((impl_sumOf.f kj33 (((rd_T50 l0 x6_1).f3).take (x9_3 : Int).toNat)).bind fun t224 => (impl_bestGains.l2 kj33 l0 a1 (x5_3.set (x6_1 : Int).toNat ((rd_L2 x5_3 x6_1).set (x45_2 : Int).toNat (mx (rd (rd_L2 x5_3 x6_1) x45_2) (wrap64 ((rd (rd_L2 x5_3 (ji39)) (ji42)) + t224))))) x6_1 x45_2 (wrap64 (x9_3 + 1)) ((rd_L2 y216 x6_1).length : Int) x45_2 ((rd_T50 l0 x6_1).f0) ((rd_T50 l0 x6_1).f1) ((rd_T50 l0 x6_1).f2) ((rd_T50 l0 x6_1).f3))) else (none)) else (none)) else (none)) else (none)) else (none)) else (none)) else (impl_bestGains.l2 kj33 l0 a1 x5_3 x6_1 x45_2 (wrap64 (x9_3 + 1)) ((rd_L2 y216 x6_1).length : Int) x45_2 ((rd_T50 l0 x6_1).f0) ((rd_T50 l0 x6_1).f1) ((rd_T50 l0 x6_1).f2) ((rd_T50 l0 x6_1).f3))) else (none)) else (none)) = some r := by first | (rw [hji42] at H; exact H) | (simp only [hji42] at H ⊢; exact H)
         have hji42w : (IntKind.i64.wrap (x45_2 - (wrap64 (x9_3 * ((rd_T50 l0 x6_1).f1))))) = ji42 := (i64_w _).trans hji42
         by_cases c43 : 0 ≤ (ji42)
         rotate_left
         ·rw [if_neg c43] at H
          exact absurd H (by simp)
         rw [if_pos c43] at H
         have c43b0 : decide (0 ≤ (ji42)) = true := decide_eq_true c43
         clear c43
         by_cases c44 : (ji42) < ((rd_L2 x5_3 (ji39)).length : Int)
         rotate_left
         ·rw [if_neg c44] at H
          exact absurd H (by simp)
         rw [if_pos c44] at H
         have c44b0 : decide ((ji42) < ((rd_L2 x5_3 (ji39)).length : Int)) = true := decide_eq_true c44
         clear c44
         by_cases c45 : (rd (rd_L2 x5_3 (ji39)) (ji42)) ≥ 0
         rotate_left
         ·rw [if_neg c45] at H
          have c45b0 : decide (0 ≤ (rd (rd_L2 x5_3 (ji39)) (ji42))) = false := decide_eq_false c45
          clear c45
          have H' := Aside0.mk H
          clear H
          try go_wp2
          have n0_ := Aside0.mk (Kd.S_drew HO_5.out)
          have n1_ := Aside0.mk (blk_drew BK209.out)
          have n2_ := Aside0.mk (below_drew1 HB.out)
          clear HO_5
          clear BK209
          clear HB
          have HO_5 := n0_
          have BK209 := n1_
          have HB := n2_
          clear n0_ n1_ n2_
          have p218 : 0 ≤ ((ji39) : Int) := od_
          have q218 : (ji39) < (x5_3.length : Int) := od_
          obtain ⟨ad218, A218_0, c218_0, e218, hx218_0, hl218_0, hi218_0⟩ := at_L2 (Kd.S_reads' HO_5.out).2.2 (ji39) p218 q218
          obtain rfl : (⟨go11, 0, none⟩ : Addr) = ad218 := (by injection e218)
          obtain ⟨ce218, hce218, hMe218, hcc218⟩ := Kd.S_get HO_5.out [] (ji39) p218 (by first | exact q218 | exact od_ | (have e_ := (Kd.S_reads' HO_5.out).1; omega))
          obtain ⟨ve218_0, rfl, ge218_0⟩ := hMe218
          have hv218_0 := hcc218 0 _ rfl
          rw [Nat.add_zero, show ((Kd.slice 3 (Kd.int .i64))).sz = 1 from rfl, Nat.mul_one] at hv218_0
          replace hv218_0 := Option.some.inj (hv218_0.symm.trans hx218_0)
          rw [hv218_0] at ge218_0
          have HL218_0 := Aside0.mk (show Kd.R (Kd.int .i64) 3 _ _ _ _ (rd_L2 x5_3 (ji39)) from ge218_0)
          clear hv218_0 ge218_0
          have HX218_0 := Aside0.mk hx218_0
          clear hcc218 hce218
          (first | simp only [add_plain] at hx218_0 | simp only [add_at] at hx218_0 | simp only [Addr.add, Nat.zero_add] at hx218_0 | skip)
          have HR218_0 := Aside0.mk hi218_0
          have HC218_0 := Aside0.mk hl218_0
          clear hi218_0 hl218_0
          replace p218 := eq_true p218
          replace q218 := eq_true q218
          have p219 : 0 ≤ ((ji42) : Int) := od_
          have q219 : (ji42) < ((rd_L2 x5_3 (ji39)).length : Int) := od_
          obtain ⟨ad219, e219, hx219_0⟩ := Kd.at_int (by repeat (first | (with_reducible exact HR218_0.out) | (with_reducible refine Kd.C_alloc ?_ _) | (with_reducible refine Kd.C_drewN ?_ _) | (with_reducible refine Kd.C_drew ?_) | exact HR218_0.out)) (ji42) p219 q219
          cases e219
          replace p219 := eq_true p219
          replace q219 := eq_true q219
          refine start_ (n := 14) (S := fun w' => w'.cell? ⟨gb209, 0, none⟩ = some (.string ((rd_T50 l0 x6_1).f0)) ∧ w'.cell? ⟨gb209, 1, none⟩ = some (.int .i64 ((rd_T50 l0 x6_1).f1)) ∧ w'.cell? ⟨gb209, 2, none⟩ = some (.int .i64 ((rd_T50 l0 x6_1).f2)) ∧ w'.cell? ⟨gb209, 3, none⟩ = some (.slice A208_3 ((rd_T50 l0 x6_1).f3).length c208_3) ∧ w'.cell? ⟨go11, ((ji39)).toNat, none⟩ = some (.slice (some ad219) (rd_L2 x5_3 (ji39)).length c218_0) ∧ w'.cell? (ad219.add ((ji42)).toNat) = some (.int .i64 (rd (rd_L2 x5_3 (ji39)) (ji42)))) (ds := []) (msk 0 14) (by kernel_rfl) rfl rfl ⟨(blk_cell BK209.out 0).trans rfl, (blk_cell BK209.out 1).trans rfl, (blk_cell BK209.out 2).trans rfl, (blk_cell BK209.out 3).trans rfl, hx218_0, hx219_0⟩ (fun hHeld => ?_); refine with_tabW impl_bestGains.tab14 impl_bestGains.bits14 (fun HT_ HW_ => ?_)
          generalize wc.drew = w60 at HO_5 BK209 HB HL218_0 HR218_0 HX218_0 hx218_0 hx219_0 hHeld ⊢
          refine pu_ 0 65 (msk 1 13) HT_.out ?_; refine pu_ 1 66 (msk 2 12) HT_.out ?_; refine pu_ 2 67 (msk 3 11) HT_.out ?_; refine pu_ 3 68 (msk 4 10) HT_.out ?_; refine pu_ 5 70 (mskl 14 4 [5]) HT_.out ?_; refine pu_ 6 71 (mskl 14 4 [5, 6]) HT_.out ?_; refine pu_ 7 72 (mskl 14 4 [5, 6, 7]) HT_.out ?_
          refine tk_ 4 69 (msk 8 6) HT_.out HW_.out hHeld ?_ (hy := by rintro w' ⟨s0, s1, s2, s3, s4, s5⟩; go_simp; with_reducible rfl)
          refine tk_ 8 73 (msk 9 5) HT_.out HW_.out hHeld ?_ (hy := by rintro w' ⟨s0, s1, s2, s3, s4, s5⟩; go_simp; with_reducible rfl)
          refine pu_ 9 74 (msk 10 4) HT_.out ?_; refine pu_ 10 75 (msk 11 3) HT_.out ?_; refine pu_ 11 76 (msk 12 2) HT_.out ?_
          refine tk_ 12 77 (msk 13 1) HT_.out HW_.out hHeld ?_ (hy := by rintro w' ⟨s0, s1, s2, s3, s4, s5⟩; go_simp; with_reducible rfl)
          refine pu_ 13 10 (msk 14 0) HT_.out ?_
          refine done_ (done_of HT_.out (by kernel_rfl)) ?_
          try go_wp2
          (try simp only [← hl5_3])
          go_roundg kj33
          case measure => have := HK1.out; have := HK2.out; have := HK3.out; have := HJ33.out; omega
          case rel => exact ⟨(x5_3), (wrap64 (x9_3 + 1)), (by first | rfl | (simp; done) | (simp [*]; done)), H', ⟨by have := HK1.out; have := HK2.out; have := HK3.out; have := HJ33.out; omega⟩, ⟨by (try simp only [hl5_1]); (try simp only [hl5_2]); (try simp only [hl5_3]); (with_reducible repeat (first | apply Kd.S_alloc | apply Kd.S_drewN | apply Kd.S_drew)); exact HO_5.out⟩, ⟨by (try simp only [hl5_1]); (try simp only [hl5_2]); (try simp only [hl5_3]); (with_reducible repeat (first | refine blk_drewN ?_ _ | refine blk_drew ?_ | refine blk_alloc ?_ _)); exact BK209.out⟩, ⟨by repeat (first | (with_reducible first | exact HB.out | apply below_alloc | apply pw_below_drewN | apply below_drew1 | refine below_set ?_ GE209.out) | exact HB.out)⟩⟩
         rw [if_pos c45] at H
         have c45b0 : decide (0 ≤ (rd (rd_L2 x5_3 (ji39)) (ji42))) = true := decide_eq_true c45
         clear c45
         by_cases c46 : 0 ≤ x6_1
         rotate_left
         ·rw [if_neg c46] at H
          exact absurd H (by simp)
         rw [if_pos c46] at H
         have c46b0 : decide (0 ≤ x6_1) = true := decide_eq_true c46
         clear c46
         by_cases c47 : x6_1 < (x5_3.length : Int)
         rotate_left
         ·rw [if_neg c47] at H
          exact absurd H (by simp)
         rw [if_pos c47] at H
         have c47b0 : decide (x6_1 < (x5_3.length : Int)) = true := decide_eq_true c47
         clear c47
         by_cases c48 : 0 ≤ x45_2
         rotate_left
         ·rw [if_neg c48] at H
          exact absurd H (by simp)
         rw [if_pos c48] at H
         have c48b0 : decide (0 ≤ x45_2) = true := decide_eq_true c48
         clear c48
         by_cases c49 : x45_2 < ((rd_L2 x5_3 x6_1).length : Int)
         rotate_left
         ·rw [if_neg c49] at H
          exact absurd H (by simp)
         rw [if_pos c49] at H
         have c49b0 : decide (x45_2 < ((rd_L2 x5_3 x6_1).length : Int)) = true := decide_eq_true c49
         clear c49
         by_cases c50 : 0 ≤ x9_3
         rotate_left
         ·rw [if_neg c50] at H
          exact absurd H (by simp)
         rw [if_pos c50] at H
         have c50b0 := eq_true c50
         have c50b1 : decide (0 ≤ x9_3) = true := decide_eq_true c50
         clear c50
         by_cases c51 : x9_3 ≤ (((rd_T50 l0 x6_1).f3).length : Int)
         rotate_left
         ·rw [if_neg c51] at H
          exact absurd H (by simp)
         rw [if_pos c51] at H
         have c51b0 := eq_true c51
         have c51b1 : decide (x9_3 ≤ (((rd_T50 l0 x6_1).f3).length : Int)) = true := decide_eq_true c51
         clear c51
         replace H := Option.bind_eq_some_iff.mp H
         obtain ⟨t224, A520, H⟩ := H
         replace H : (impl_bestGains.l2 kj33 l0 a1 (x5_3.set (x6_1 : Int).toNat ((rd_L2 x5_3 x6_1).set (x45_2 : Int).toNat (mx (rd (rd_L2 x5_3 x6_1) x45_2) (wrap64 ((rd (rd_L2 x5_3 (ji39)) (ji42)) + t224))))) x6_1 x45_2 (wrap64 (x9_3 + 1)) ((rd_L2 y216 x6_1).length : Int) x45_2 ((rd_T50 l0 x6_1).f0) ((rd_T50 l0 x6_1).f1) ((rd_T50 l0 x6_1).f2) ((rd_T50 l0 x6_1).f3)) = some r := H
         have A52 := Aside0.mk A520
         clear A520
         obtain ⟨ji53, hji53⟩ : ∃ j_ : Int, (mx (rd (rd_L2 x5_3 x6_1) x45_2) (wrap64 ((rd (rd_L2 x5_3 (ji39)) (ji42)) + t224))) = j_ := ⟨_, rfl⟩
         replace H : (impl_bestGains.l2 kj33 l0 a1 (x5_3.set (x6_1 : Int).toNat ((rd_L2 x5_3 x6_1).set (x45_2 : Int).toNat (ji53))) x6_1 x45_2 (wrap64 (x9_3 + 1)) ((rd_L2 y216 x6_1).length : Int) x45_2 ((rd_T50 l0 x6_1).f0) ((rd_T50 l0 x6_1).f1) ((rd_T50 l0 x6_1).f2) ((rd_T50 l0 x6_1).f3)) = some r := by first | (rw [hji53] at H; exact H) | (simp only [hji53] at H ⊢; exact H)
         (try rw [hji53] at A52)
         have hji53_ : (if (rd (rd_L2 x5_3 x6_1) x45_2) < (wrap64 ((rd (rd_L2 x5_3 (ji39)) (ji42)) + t224)) then (wrap64 ((rd (rd_L2 x5_3 (ji39)) (ji42)) + t224)) else (rd (rd_L2 x5_3 x6_1) x45_2)) = ji53 := hji53
         obtain ⟨y225, hy225⟩ : ∃ y_ : List Int, y_ = ((rd_L2 x5_3 x6_1).set (x45_2 : Int).toNat (ji53)) := ⟨_, rfl⟩
         replace H : (impl_bestGains.l2 kj33 l0 a1 (x5_3.set (x6_1 : Int).toNat y225) x6_1 x45_2 (wrap64 (x9_3 + 1)) ((rd_L2 y216 x6_1).length : Int) x45_2 ((rd_T50 l0 x6_1).f0) ((rd_T50 l0 x6_1).f1) ((rd_T50 l0 x6_1).f2) ((rd_T50 l0 x6_1).f3)) = some r := by first | (rw [hy225]; with_reducible exact H) | (have H2_ := (Option.bind_some _ _).symm.trans H; rw [hy225]; with_reducible exact H2_) | (have H2_ := (Option.bind_some _ _).symm.trans H; with_reducible exact H2_) | with_reducible exact H | (rw [hy225]; exact H) | exact H
         have Ny225 := Aside0.mk hy225
         clear hy225
         obtain ⟨y227, hy227⟩ : ∃ y_ : List (List Int), y_ = (x5_3.set (x6_1 : Int).toNat y225) := ⟨_, rfl⟩
         replace H : (impl_bestGains.l2 kj33 l0 a1 y227 x6_1 x45_2 (wrap64 (x9_3 + 1)) ((rd_L2 y216 x6_1).length : Int) x45_2 ((rd_T50 l0 x6_1).f0) ((rd_T50 l0 x6_1).f1) ((rd_T50 l0 x6_1).f2) ((rd_T50 l0 x6_1).f3)) = some r := by first | (rw [hy227]; with_reducible exact H) | (have H2_ := (Option.bind_some _ _).symm.trans H; rw [hy227]; with_reducible exact H2_) | (have H2_ := (Option.bind_some _ _).symm.trans H; with_reducible exact H2_) | with_reducible exact H | (rw [hy227]; exact H) | exact H
         have Ny227 := Aside0.mk hy227
         clear hy227
         have H' := Aside0.mk H
         clear H
         try go_wp2
         have n0_ := Aside0.mk (Kd.S_drew HO_5.out)
         have n1_ := Aside0.mk (blk_drew BK209.out)
         have n2_ := Aside0.mk (below_drew1 HB.out)
         clear HO_5
         clear BK209
         clear HB
         have HO_5 := n0_
         have BK209 := n1_
         have HB := n2_
         clear n0_ n1_ n2_
         have p218 : 0 ≤ ((ji39) : Int) := od_
         have q218 : (ji39) < (x5_3.length : Int) := od_
         obtain ⟨ad218, A218_0, c218_0, e218, hx218_0, hl218_0, hi218_0⟩ := at_L2 (Kd.S_reads' HO_5.out).2.2 (ji39) p218 q218
         obtain rfl : (⟨go11, 0, none⟩ : Addr) = ad218 := (by injection e218)
         obtain ⟨ce218, hce218, hMe218, hcc218⟩ := Kd.S_get HO_5.out [] (ji39) p218 (by first | exact q218 | exact od_ | (have e_ := (Kd.S_reads' HO_5.out).1; omega))
         obtain ⟨ve218_0, rfl, ge218_0⟩ := hMe218
         have hv218_0 := hcc218 0 _ rfl
         rw [Nat.add_zero, show ((Kd.slice 3 (Kd.int .i64))).sz = 1 from rfl, Nat.mul_one] at hv218_0
         replace hv218_0 := Option.some.inj (hv218_0.symm.trans hx218_0)
         rw [hv218_0] at ge218_0
         have HL218_0 := Aside0.mk (show Kd.R (Kd.int .i64) 3 _ _ _ _ (rd_L2 x5_3 (ji39)) from ge218_0)
         clear hv218_0 ge218_0
         have HX218_0 := Aside0.mk hx218_0
         clear hcc218 hce218
         (first | simp only [add_plain] at hx218_0 | simp only [add_at] at hx218_0 | simp only [Addr.add, Nat.zero_add] at hx218_0 | skip)
         have HR218_0 := Aside0.mk hi218_0
         have HC218_0 := Aside0.mk hl218_0
         clear hi218_0 hl218_0
         replace p218 := eq_true p218
         replace q218 := eq_true q218
         have p219 : 0 ≤ ((ji42) : Int) := od_
         have q219 : (ji42) < ((rd_L2 x5_3 (ji39)).length : Int) := od_
         obtain ⟨ad219, e219, hx219_0⟩ := Kd.at_int (by repeat (first | (with_reducible exact HR218_0.out) | (with_reducible refine Kd.C_alloc ?_ _) | (with_reducible refine Kd.C_drewN ?_ _) | (with_reducible refine Kd.C_drew ?_) | exact HR218_0.out)) (ji42) p219 q219
         cases e219
         replace p219 := eq_true p219
         replace q219 := eq_true q219
         refine start_ (n := 14) (S := fun w' => w'.cell? ⟨gb209, 0, none⟩ = some (.string ((rd_T50 l0 x6_1).f0)) ∧ w'.cell? ⟨gb209, 1, none⟩ = some (.int .i64 ((rd_T50 l0 x6_1).f1)) ∧ w'.cell? ⟨gb209, 2, none⟩ = some (.int .i64 ((rd_T50 l0 x6_1).f2)) ∧ w'.cell? ⟨gb209, 3, none⟩ = some (.slice A208_3 ((rd_T50 l0 x6_1).f3).length c208_3) ∧ w'.cell? ⟨go11, ((ji39)).toNat, none⟩ = some (.slice (some ad219) (rd_L2 x5_3 (ji39)).length c218_0) ∧ w'.cell? (ad219.add ((ji42)).toNat) = some (.int .i64 (rd (rd_L2 x5_3 (ji39)) (ji42)))) (ds := []) (msk 0 14) (by kernel_rfl) rfl rfl ⟨(blk_cell BK209.out 0).trans rfl, (blk_cell BK209.out 1).trans rfl, (blk_cell BK209.out 2).trans rfl, (blk_cell BK209.out 3).trans rfl, hx218_0, hx219_0⟩ (fun hHeld => ?_); refine with_tabW impl_bestGains.tab14 impl_bestGains.bits14 (fun HT_ HW_ => ?_)
         generalize wc.drew = w55 at HO_5 BK209 HB HL218_0 HR218_0 HX218_0 hx218_0 hx219_0 hHeld ⊢
         refine pu_ 0 65 (msk 1 13) HT_.out ?_; refine pu_ 1 66 (msk 2 12) HT_.out ?_; refine pu_ 2 67 (msk 3 11) HT_.out ?_; refine pu_ 3 68 (msk 4 10) HT_.out ?_; refine pu_ 5 70 (mskl 14 4 [5]) HT_.out ?_; refine pu_ 6 71 (mskl 14 4 [5, 6]) HT_.out ?_; refine pu_ 7 72 (mskl 14 4 [5, 6, 7]) HT_.out ?_
         refine tk_ 4 69 (msk 8 6) HT_.out HW_.out hHeld ?_ (hy := by rintro w' ⟨s0, s1, s2, s3, s4, s5⟩; go_simp; with_reducible rfl)
         refine tk_ 8 73 (msk 9 5) HT_.out HW_.out hHeld ?_ (hy := by rintro w' ⟨s0, s1, s2, s3, s4, s5⟩; go_simp; with_reducible rfl)
         refine pu_ 9 74 (msk 10 4) HT_.out ?_; refine pu_ 10 75 (msk 11 3) HT_.out ?_; refine pu_ 11 76 (msk 12 2) HT_.out ?_
         refine tk_ 12 77 (msk 13 1) HT_.out HW_.out hHeld ?_ (hy := by rintro w' ⟨s0, s1, s2, s3, s4, s5⟩; go_simp; with_reducible rfl)
         refine pu_ 13 10 (msk 14 0) HT_.out ?_
         refine done_ (done_of HT_.out (by kernel_rfl)) ?_
         try go_wp2
         have n0_ := Aside0.mk (Kd.S_drew HO_5.out)
         have n1_ := Aside0.mk (Kd.R_drew HL218_0.out)
         have n2_ := Aside0.mk (blk_drew BK209.out)
         have n3_ := Aside0.mk (Kd.C_drew HR218_0.out)
         have n4_ := Aside0.mk (below_drew1 HB.out)
         clear HO_5
         clear HL218_0
         clear BK209
         clear HR218_0
         clear HB
         have HO_5 := n0_
         have HL218_0 := n1_
         have BK209 := n2_
         have HR218_0 := n3_
         have HB := n4_
         clear n0_ n1_ n2_ n3_ n4_
         have p220 : 0 ≤ (x6_1 : Int) := od_
         have q220 : x6_1 < (x5_3.length : Int) := od_
         obtain ⟨ad220, A220_0, c220_0, e220, hx220_0, hl220_0, hi220_0⟩ := at_L2 (Kd.S_reads' HO_5.out).2.2 x6_1 p220 q220
         obtain rfl : (⟨go11, 0, none⟩ : Addr) = ad220 := (by injection e220)
         obtain ⟨ce220, hce220, hMe220, hcc220⟩ := Kd.S_get HO_5.out [] x6_1 p220 (by first | exact q220 | exact od_ | (have e_ := (Kd.S_reads' HO_5.out).1; omega))
         obtain ⟨ve220_0, rfl, ge220_0⟩ := hMe220
         have hv220_0 := hcc220 0 _ rfl
         rw [Nat.add_zero, show ((Kd.slice 3 (Kd.int .i64))).sz = 1 from rfl, Nat.mul_one] at hv220_0
         replace hv220_0 := Option.some.inj (hv220_0.symm.trans hx220_0)
         rw [hv220_0] at ge220_0
         have HL220_0 := Aside0.mk (show Kd.R (Kd.int .i64) 3 _ _ _ _ (rd_L2 x5_3 x6_1) from ge220_0)
         clear hv220_0 ge220_0
         have HX220_0 := Aside0.mk hx220_0
         clear hcc220 hce220
         (first | simp only [add_plain] at hx220_0 | simp only [add_at] at hx220_0 | simp only [Addr.add, Nat.zero_add] at hx220_0 | skip)
         have HR220_0 := Aside0.mk hi220_0
         have HC220_0 := Aside0.mk hl220_0
         clear hi220_0 hl220_0
         replace p220 := eq_true p220
         replace q220 := eq_true q220
         have p221 : 0 ≤ (x6_1 : Int) := od_
         have q221 : x6_1 < (x5_3.length : Int) := od_
         obtain ⟨ad221, A221_0, c221_0, e221, hx221_0, hl221_0, hi221_0⟩ := at_L2 (Kd.S_reads' HO_5.out).2.2 x6_1 p221 q221
         obtain rfl : (⟨go11, 0, none⟩ : Addr) = ad221 := (by injection e221)
         obtain ⟨ce221, hce221, hMe221, hcc221⟩ := Kd.S_get HO_5.out [] x6_1 p221 (by first | exact q221 | exact od_ | (have e_ := (Kd.S_reads' HO_5.out).1; omega))
         obtain ⟨ve221_0, rfl, ge221_0⟩ := hMe221
         have hv221_0 := hcc221 0 _ rfl
         rw [Nat.add_zero, show ((Kd.slice 3 (Kd.int .i64))).sz = 1 from rfl, Nat.mul_one] at hv221_0
         replace hv221_0 := Option.some.inj (hv221_0.symm.trans hx221_0)
         rw [hv221_0] at ge221_0
         have HL221_0 := Aside0.mk (show Kd.R (Kd.int .i64) 3 _ _ _ _ (rd_L2 x5_3 x6_1) from ge221_0)
         clear hv221_0 ge221_0
         have HX221_0 := Aside0.mk hx221_0
         clear hcc221 hce221
         (first | simp only [add_plain] at hx221_0 | simp only [add_at] at hx221_0 | simp only [Addr.add, Nat.zero_add] at hx221_0 | skip)
         have HR221_0 := Aside0.mk hi221_0
         have HC221_0 := Aside0.mk hl221_0
         clear hi221_0 hl221_0
         replace p221 := eq_true p221
         replace q221 := eq_true q221
         have ea_ := Option.some.inj (hx220_0.symm.trans hx221_0)
         injection ea_ with ea_ en_ ec_
         subst ea_
         subst ec_
         clear en_
         have p222 : 0 ≤ (x45_2 : Int) := od_
         have q222 : x45_2 < ((rd_L2 x5_3 x6_1).length : Int) := od_
         obtain ⟨ad222, e222, hx222_0⟩ := Kd.at_int (by repeat (first | (with_reducible exact HR221_0.out) | (with_reducible refine Kd.C_alloc ?_ _) | (with_reducible refine Kd.C_drewN ?_ _) | (with_reducible refine Kd.C_drew ?_) | exact HR221_0.out)) x45_2 p222 q222
         cases e222
         replace p222 := eq_true p222
         replace q222 := eq_true q222
         obtain ⟨i057, hi057, _, hsz57, _⟩ := info_parts info3
         obtain ⟨hcut57, hA57, hC57⟩ := print_take_of (P := Try.prog) (Value.int .i64) 0 29 3 .i64 Try.underlying29 hi057 hsz57 A208_3 c208_3 ((rd_T50 l0 x6_1).f3) x9_3 od_ od_ HC208_3.out
         have HR223 := Aside0.mk (Kd.C_of_reads (h1 := fun _ => rfl) (hA57 _ (Kd.reads_of_C HR208_3.out)))
         have HC223 := Aside0.mk hC57
         clear hA57 hC57 hi057 hsz57
         refine start_ (n := 22) (S := fun w' => w'.cell? ⟨gb209, 0, none⟩ = some (.string ((rd_T50 l0 x6_1).f0)) ∧ w'.cell? ⟨gb209, 1, none⟩ = some (.int .i64 ((rd_T50 l0 x6_1).f1)) ∧ w'.cell? ⟨gb209, 2, none⟩ = some (.int .i64 ((rd_T50 l0 x6_1).f2)) ∧ w'.cell? ⟨gb209, 3, none⟩ = some (.slice A208_3 ((rd_T50 l0 x6_1).f3).length c208_3) ∧ w'.cell? ⟨go11, (x6_1).toNat, none⟩ = some (.slice (some ad222) (rd_L2 x5_3 x6_1).length c220_0) ∧ w'.cell? ⟨go11, (x6_1).toNat, none⟩ = some (.slice (some ad222) (rd_L2 x5_3 x6_1).length c220_0) ∧ w'.cell? (ad222.add (x45_2).toNat) = some (.int .i64 (rd (rd_L2 x5_3 x6_1) x45_2))) (ds := [21]) (msk 0 22) (by kernel_rfl) rfl rfl ⟨(blk_cell BK209.out 0).trans rfl, (blk_cell BK209.out 1).trans rfl, (blk_cell BK209.out 2).trans rfl, (blk_cell BK209.out 3).trans rfl, hx220_0, hx221_0, hx222_0⟩ (fun hHeld => ?_); refine with_tabW impl_bestGains.tab16 impl_bestGains.bits16 (fun HT_ HW_ => ?_)
         generalize w55.drew = w56 at HO_5 HL218_0 BK209 HR218_0 HB HL220_0 HL221_0 HR220_0 HR221_0 HR223 HX220_0 HX221_0 hx220_0 hx221_0 hx222_0 hHeld ⊢
         refine pu_ 0 80 (msk 1 21) HT_.out ?_; refine pu_ 1 81 (msk 2 20) HT_.out ?_; refine pu_ 2 82 (msk 3 19) HT_.out ?_; refine pu_ 4 84 (mskl 22 3 [4]) HT_.out ?_; refine pu_ 5 85 (mskl 22 3 [4, 5]) HT_.out ?_; refine pu_ 6 86 (mskl 22 3 [4, 5, 6]) HT_.out ?_; refine pu_ 7 87 (mskl 22 3 [4, 5, 6, 7]) HT_.out ?_; refine pu_ 9 89 (mskl 22 3 [4, 5, 6, 7, 9]) HT_.out ?_; refine pu_ 12 92 (mskl 22 3 [4, 5, 6, 7, 9, 12]) HT_.out ?_; refine pu_ 13 93 (mskl 22 3 [4, 5, 6, 7, 9, 12, 13]) HT_.out ?_; refine pu_ 15 95 (mskl 22 3 [4, 5, 6, 7, 9, 12, 13, 15]) HT_.out ?_
         refine tk_ 3 83 (mskl 22 8 [9, 12, 13, 15]) HT_.out HW_.out hHeld ?_ (hy := by rintro w' ⟨s0, s1, s2, s3, s4, s5, s6⟩; go_simp; with_reducible rfl)
         refine tk_ 8 88 (mskl 22 10 [12, 13, 15]) HT_.out HW_.out hHeld ?_ (hy := by rintro w' ⟨s0, s1, s2, s3, s4, s5, s6⟩; go_simp; with_reducible rfl)
         refine pu_ 10 90 (mskl 22 11 [12, 13, 15]) HT_.out ?_
         refine tk_ 11 91 (mskl 22 14 [15]) HT_.out HW_.out hHeld ?_ (hy := by rintro w' ⟨s0, s1, s2, s3, s4, s5, s6⟩; go_simp; with_reducible rfl)
         refine tk_ 14 94 (msk 16 6) HT_.out HW_.out hHeld ?_ (hy := by rintro w' ⟨s0, s1, s2, s3, s4, s5, s6⟩; go_simp; with_reducible rfl)
         refine pu_ 16 96 (msk 17 5) HT_.out ?_
         refine one_ (i := 17) (N := some 97) (msk 18 4) rfl rfl (one_of HT_.out (by kernel_rfl)) (by decide) (fun K hK => ?_)
         refine goes_ Try.func42 (by kernel_rfl) rfl #[.slice A208_3 (((rd_T50 l0 x6_1).f3).take (x9_3 : Int).toNat).length c208_3] (by rfl) rfl rfl (by (try simp only [List.map_toArray, List.map_cons, List.map_nil]); first | done | (rw [show (((rd_T50 l0 x6_1).f3).take (x9_3 : Int).toNat).length = x9_3.toNat from (by rw [List.length_take]; have h_ : (x9_3 : Int) ≤ (((rd_T50 l0 x6_1).f3).length : Int) := od_; omega)] <;> rfl) | rfl | (simp only [List.length_drop, List.length_take]; rfl)) ?_
         with_reducible refine (impl_sumOf.calls kj33 _ _ (((rd_T50 l0 x6_1).f3).take (x9_3 : Int).toNat) t224 _ ?side1 ?side2 A52.out).mono ?_
         (case side1 => repeat (first | exact (Kd.C_below HR223.out HB.out) | (with_reducible refine Kd.C_alloc ?_ _) | (with_reducible refine Kd.C_drewN ?_ _) | (with_reducible refine Kd.C_drew ?_)))
         (case side2 => exact HC223.out)
         rintro e w' ⟨rfl, ⟨nd, rfl⟩⟩
         refine ⟨_, rfl, ?_⟩
         have p54 : 0 ≤ (x45_2 : Int) := od_
         have q54 : (x45_2 : Int) < (((rd_L2 x5_3 x6_1).length : Int) : Int) := od_
         obtain ⟨go54, co54, eo54, gb54, gl54, cl54, HG54⟩ := Kd.R_form HL220_0.out (by omega)
         (first | cases eo54 | (injection eo54 with ea_ en_ ec_; (first | subst ea_ | (injection ea_ with ea_; subst ea_)); subst ec_; clear en_))
         have GB54 := Aside0.mk gb54
         have GG54 := Aside0.mk HG54
         clear gb54 gl54 HG54
         (first | simp only [add_plain] at hx222_0 | skip)
         obtain ⟨hx54_0, hf54_0⟩ := Kd.R_celln 0 HL220_0.out (x45_2 : Int) p54 q54
         replace p54 := eq_true p54
         replace q54 := eq_true q54
         have hq58 : (x6_1 : Int) < (x5_3.length : Int) := (by have h_ : (x6_1 : Int) < ((x5_3.length : Int) : Int) := od_; first | exact h_ | (have e_ := (Kd.S_reads' HO_5.out).1; omega) | simpa only [List.length_set, List.length_set] using h_)
         obtain ⟨oki58, ce58, hcl58, hM58, hcc58, hok58, hbk58⟩ := Kd.S_borrow HO_5.out [] (x6_1 : Int) od_ hq58
         obtain ⟨ve58_0, rfl, ge58_0⟩ := hM58
         have hv58 := hcc58 0 _ rfl
         rw [Nat.add_zero, show ((Kd.slice 3 (Kd.int .i64))).sz = 1 from rfl, Nat.mul_one] at hv58
         replace hv58 := Option.some.inj (hv58.symm.trans HX220_0.out)
         subst hv58
         clear hcc58 hcl58
         replace ge58_0 := (show Kd.R (Kd.int .i64) 3 _ _ _ _ (rd_L2 x5_3 x6_1) from ge58_0)
         have HP58 := Kd.R_putg ge58_0 (x45_2 : Int) ji53
         rw [← Ny225.out] at HP58
         have HS58 := hbk58 HP58.2 (fun k_ e_ => by injection e_ with e_; subst e_; exact ge58_0.1 _ rfl) (x' := y225) (Kd.M_row HP58.1)
         rw [← Ny227.out] at HS58
         have HQ58 := Aside0.mk HS58
         clear HP58 HS58 hbk58 hok58
         refine hK.out _ _ ⟨(blk_cell BK209.out 0).trans rfl, (blk_cell BK209.out 1).trans rfl, (blk_cell BK209.out 2).trans rfl, (blk_cell BK209.out 3).trans rfl, hHeld.2.2.2.2.1, hHeld.2.2.2.2.2.1, hHeld.2.2.2.2.2.2⟩ (fun hHeld => ?_)
         clear hK K
         refine norm_ (a' := ?_) ?_ ?_
         rotate_left
         ·show Act.put _ (some 97) _ = _
          simp only [Act.put, List.setIfInBounds_toArray, List.set_cons_zero, List.set_cons_succ, i64_w, i32_w]
          rfl
         refine pu_ 18 98 (msk 19 3) HT_.out ?_; refine pu_ 19 99 (msk 20 2) HT_.out ?_; refine pu_ 20 100 (msk 21 1) HT_.out ?_
         refine last_ (i := 21) (N := none) (msk 22 0) rfl rfl (one_of HT_.out (by kernel_rfl)) (by decide) (fun K hK => ?_)
         refine skip_ (w1 := ?_) (by rfl) rfl ?_ ?_
         rotate_left
         ·go_simp
          rfl
         refine hK.out _ _ ?_
         clear hK K
         refine done_ (done_of HT_.out (by kernel_rfl)) ?_
         try go_wp2
         (try simp only [← hl5_3])
         go_roundg kj33
         case measure => have := HK1.out; have := HK2.out; have := HK3.out; have := HJ33.out; omega
         case rel => exact ⟨(y227), (wrap64 (x9_3 + 1)), (by first | rfl | (simp; done) | (simp [*]; done)), H', ⟨by have := HK1.out; have := HK2.out; have := HK3.out; have := HJ33.out; omega⟩, ⟨by (try simp only [hl5_1]); (try simp only [hl5_2]); (try simp only [hl5_3]); (with_reducible repeat (first | apply Kd.S_alloc | apply Kd.S_drewN | apply Kd.S_drew)); exact HQ58.out⟩, ⟨by (try simp only [hl5_1]); (try simp only [hl5_2]); (try simp only [hl5_3]); (with_reducible repeat (first | refine blk_drewN ?_ _ | refine blk_drew ?_ | refine blk_alloc ?_ _)); refine blk_far ?_ (by have h_ := Kd.R_ne HL220_0.out BK209.out (by decide); intro e_; exact h_ (by rw [e_]; rfl)) _; (with_reducible repeat (first | refine blk_drewN ?_ _ | refine blk_drew ?_ | refine blk_alloc ?_ _)); exact BK209.out⟩, ⟨by repeat (first | (with_reducible first | exact HB.out | apply below_alloc | apply pw_below_drewN | apply below_drew1 | refine below_set ?_ GB54.out | refine below_set ?_ GE209.out) | exact HB.out)⟩⟩
end Go.Proofs.Ytecbcibblmknpaa.XFnExactBestShelf
