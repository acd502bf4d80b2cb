-- PRINTED by xprint.py (our own program, over the kit's print.py)
import Derived.Test.YtecbcibblmknpaaXFnShelfx0
import Derived.Test.YtecbcibblmknpaaXFnShelfx11
import Derived.Test.YtecbcibblmknpaaXFnShelfx12
import Derived.Test.YtecbcibblmknpaaXFnShelfx13
import Derived.Test.YtecbcibblmknpaaXFnShelfx14
import Derived.Test.YtecbcibblmknpaaPu
namespace Go.Proofs.Ytecbcibblmknpaa.XFnShelf
open Go.RowKit Go.Proofs.YtecbcibblmknpaaW.PrintWords Go.Proofs.YtecbcibblmknpaaW.PrintLast Go.Proofs.YtecbcibblmknpaaW.PrintMore Go.Proofs.YtecbcibblmknpaaW.Idx
attribute [local go_sem] max2_int min2_int max_two min_two max_three min_three max_four min_four   -- for this text's walks alone
set_option linter.unusedVariables false
set_option linter.unusedSimpArgs false

/-! ### spec_BestShelf: function 23 -/
mutual
def spec_BestShelf.l0 : Nat → List (S50) → Int → List (List Int) → Int → Option (List Int × Int × Int × Int)
 | 0, _, _, _, _ => none
 | k + 1, x0, x1, x6, x7 => if x7 ≥ 0 then (if 0 ≤ (wrap64 (x1 + 1)) then (if (wrap64 (x1 + 1) : Int).toNat ≤ 35184372088832 then (if 0 ≤ x7 then (if x7 < (x6.length : Int) then (spec_BestShelf.l1 k x0 x1 (x6.set (x7 : Int).toNat (List.replicate (wrap64 (x1 + 1) : Int).toNat 0)) x7 0) else (none)) else (none)) else (none)) else (none)) else (if 0 < (x6.length : Int) then (if 0 ≤ x1 then (if x1 < ((rd_L2 x6 0).length : Int) then (if (rd (rd_L2 x6 0) x1) < 0 then (some (([] : List Int), 0, 0, 8)) else (spec_BestShelf.l3 k x0 x1 x6 (([] : List Int)) x1 0)) else (none)) else (none)) else (none))
def spec_BestShelf.l1 : Nat → List (S50) → Int → List (List Int) → Int → Int → Option (List Int × Int × Int × Int)
 | 0, _, _, _, _, _ => none
 | k + 1, x0, x1, x6, x7, x8 => if x8 ≤ x1 then (if 0 ≤ x7 then (if x7 < (x6.length : Int) then (if 0 ≤ x8 then (if x8 < ((rd_L2 x6 x7).length : Int) then (if x7 < (x0.length : Int) then (spec_BestShelf.l2 k x0 x1 (x6.set (x7 : Int).toNat ((rd_L2 x6 x7).set (x8 : Int).toNat (-1))) x7 x8 ((rd_T50 x0 x7).f2)) else (none)) else (none)) else (none)) else (none)) else (none)) else (spec_BestShelf.l0 k x0 x1 x6 (wrap64 (x7 - 1)))
def spec_BestShelf.l2 : Nat → List (S50) → Int → List (List Int) → Int → Int → Int → Option (List Int × Int × Int × Int)
 | 0, _, _, _, _, _, _ => none
 | k + 1, x0, x1, x6, x7, x8, x9 => if 0 ≤ x7 then (if x7 < (x0.length : Int) then (if x9 ≤ (((rd_T50 x0 x7).f3).length : Int) then (spec_BestShelf.j3 k x0 x1 x6 x7 x8 x9 (decide ((wrap64 (x9 * ((rd_T50 x0 x7).f1))) ≤ x8))) else (spec_BestShelf.j3 k x0 x1 x6 x7 x8 x9 false)) else (none)) else (none)
def spec_BestShelf.j3 : Nat → List (S50) → Int → List (List Int) → Int → Int → Int → Bool → Option (List Int × Int × Int × Int)
 | 0, _, _, _, _, _, _, _ => none
 | k + 1, x0, x1, x6, x7, x8, x9, x85 => if x85 = true then (if 0 ≤ (wrap64 (x7 + 1)) then (if (wrap64 (x7 + 1)) < (x6.length : Int) then (if 0 ≤ x7 then (if x7 < (x0.length : Int) then (if 0 ≤ (wrap64 (x8 - (wrap64 (x9 * ((rd_T50 x0 x7).f1))))) then (if (wrap64 (x8 - (wrap64 (x9 * ((rd_T50 x0 x7).f1))))) < ((rd_L2 x6 (wrap64 (x7 + 1))).length : Int) then (if (rd (rd_L2 x6 (wrap64 (x7 + 1))) (wrap64 (x8 - (wrap64 (x9 * ((rd_T50 x0 x7).f1)))))) ≥ 0 then (if x7 < (x6.length : Int) then (if 0 ≤ x8 then (if x8 < ((rd_L2 x6 x7).length : Int) then ((spec_l13Gain.f k ((rd_T50 x0 x7).f0) ((rd_T50 x0 x7).f1) ((rd_T50 x0 x7).f2) ((rd_T50 x0 x7).f3) x9).bind fun t355 => (spec_BestShelf.l2 k x0 x1 (x6.set (x7 : Int).toNat ((rd_L2 x6 x7).set (x8 : Int).toNat (mx (rd (rd_L2 x6 x7) x8) (wrap64 ((rd (rd_L2 x6 (wrap64 (x7 + 1))) (wrap64 (x8 - (wrap64 (x9 * ((rd_T50 x0 x7).f1)))))) + t355))))) x7 x8 (wrap64 (x9 + 1)))) else (none)) else (none)) else (none)) else (spec_BestShelf.l2 k x0 x1 x6 x7 x8 (wrap64 (x9 + 1)))) else (none)) else (none)) else (none)) else (none)) else (none)) else (none)) else (spec_BestShelf.l1 k x0 x1 x6 x7 (wrap64 (x8 + 1)))
def spec_BestShelf.l3 : Nat → List (S50) → Int → List (List Int) → List Int → Int → Int → Option (List Int × Int × Int × Int)
 | 0, _, _, _, _, _, _ => none
 | k + 1, x0, x1, x6, x11, x12, x13 => if x13 < (x0.length : Int) then (if 0 ≤ x13 then (spec_BestShelf.l4 k x0 x1 x6 x11 x12 x13 (((rd_T50 x0 x13).f3).length : Int)) else (none)) else ((spec_ShelfOf.f k x0 x1 x11).bind fun bt364 => (some (bt364.1, bt364.2.1, bt364.2.2.1, bt364.2.2.2)))
def spec_BestShelf.l4 : Nat → List (S50) → Int → List (List Int) → List Int → Int → Int → Int → Option (List Int × Int × Int × Int)
 | 0, _, _, _, _, _, _, _ => none
 | k + 1, x0, x1, x6, x11, x12, x13, x14 => if 0 ≤ x13 then (if x13 < (x0.length : Int) then (if (wrap64 (x14 * ((rd_T50 x0 x13).f1))) > x12 then (spec_BestShelf.l4 k x0 x1 x6 x11 x12 x13 (wrap64 (x14 - 1))) else (if 0 ≤ (wrap64 (x13 + 1)) then (if (wrap64 (x13 + 1)) < (x6.length : Int) then (if 0 ≤ (wrap64 (x12 - (wrap64 (x14 * ((rd_T50 x0 x13).f1))))) then (if (wrap64 (x12 - (wrap64 (x14 * ((rd_T50 x0 x13).f1))))) < ((rd_L2 x6 (wrap64 (x13 + 1))).length : Int) then (if (rd (rd_L2 x6 (wrap64 (x13 + 1))) (wrap64 (x12 - (wrap64 (x14 * ((rd_T50 x0 x13).f1)))))) < 0 then (spec_BestShelf.l4 k x0 x1 x6 x11 x12 x13 (wrap64 (x14 - 1))) else ((spec_l13Gain.f k ((rd_T50 x0 x13).f0) ((rd_T50 x0 x13).f1) ((rd_T50 x0 x13).f2) ((rd_T50 x0 x13).f3) x14).bind fun t379 => (if x13 < (x6.length : Int) then (if 0 ≤ x12 then (if x12 < ((rd_L2 x6 x13).length : Int) then (if (wrap64 ((rd (rd_L2 x6 (wrap64 (x13 + 1))) (wrap64 (x12 - (wrap64 (x14 * ((rd_T50 x0 x13).f1)))))) + t379)) = (rd (rd_L2 x6 x13) x12) then (if x11.length < 17592186044416 then (spec_BestShelf.l3 k x0 x1 x6 (x11 ++ [x14]) (wrap64 (x12 - (wrap64 (x14 * ((rd_T50 x0 x13).f1))))) (wrap64 (x13 + 1))) else (none)) else (spec_BestShelf.l4 k x0 x1 x6 x11 x12 x13 (wrap64 (x14 - 1)))) else (none)) else (none)) else (none)))) else (none)) else (none)) else (none)) else (none))) else (none)) else (none)
end
def spec_BestShelf.f (k : Nat) (l0 : List (S50)) (a1 : Int) : Option (List Int × Int × Int × Int) := if (l0.length : Int) > 4096 then (some (([] : List Int), 0, 0, 2)) else ((spec_FacingsOK.f k l0).bind fun t328 => (if t328 = true then ((spec_l01In.f a1 0 2000).bind fun t329 => (if t329 = true then (if 0 ≤ (wrap64 ((l0.length : Int) + 1)) then (if (wrap64 ((l0.length : Int) + 1) : Int).toNat ≤ 11728124029610 then ((some (List.replicate (wrap64 ((l0.length : Int) + 1) : Int).toNat [] : List (List Int))).bind fun y330 => (if 0 ≤ (wrap64 (a1 + 1)) then (if (wrap64 (a1 + 1) : Int).toNat ≤ 35184372088832 then (if 0 ≤ (l0.length : Int) then (if (l0.length : Int) < (y330.length : Int) then (spec_BestShelf.l0 k l0 a1 (y330.set ((l0.length : Int) : Int).toNat (List.replicate (wrap64 (a1 + 1) : Int).toNat 0)) (wrap64 ((l0.length : Int) - 1))) else (none)) else (none)) else (none)) else (none))) else (none)) else (none)) else (some (([] : List Int), 0, 0, 5)))) else (some (([] : List Int), 0, 0, 1))))
theorem spec_BestShelf.mono_l : ∀ k, (∀ y0 y1 y2 y3, LeO (spec_BestShelf.l0 k y0 y1 y2 y3) (spec_BestShelf.l0 (k + 1) y0 y1 y2 y3)) ∧ (∀ y0 y1 y2 y3 y4, LeO (spec_BestShelf.l1 k y0 y1 y2 y3 y4) (spec_BestShelf.l1 (k + 1) y0 y1 y2 y3 y4)) ∧ (∀ y0 y1 y2 y3 y4 y5, LeO (spec_BestShelf.l2 k y0 y1 y2 y3 y4 y5) (spec_BestShelf.l2 (k + 1) y0 y1 y2 y3 y4 y5)) ∧ (∀ y0 y1 y2 y3 y4 y5 y6, LeO (spec_BestShelf.j3 k y0 y1 y2 y3 y4 y5 y6) (spec_BestShelf.j3 (k + 1) y0 y1 y2 y3 y4 y5 y6)) ∧ (∀ y0 y1 y2 y3 y4 y5, LeO (spec_BestShelf.l3 k y0 y1 y2 y3 y4 y5) (spec_BestShelf.l3 (k + 1) y0 y1 y2 y3 y4 y5)) ∧ (∀ y0 y1 y2 y3 y4 y5 y6, LeO (spec_BestShelf.l4 k y0 y1 y2 y3 y4 y5 y6) (spec_BestShelf.l4 (k + 1) y0 y1 y2 y3 y4 y5 y6))
 | 0 => ⟨fun _ _ _ _ r h => by simp [spec_BestShelf.l0] at h, fun _ _ _ _ _ r h => by simp [spec_BestShelf.l1] at h, fun _ _ _ _ _ _ r h => by simp [spec_BestShelf.l2] at h, fun _ _ _ _ _ _ _ r h => by simp [spec_BestShelf.j3] at h, fun _ _ _ _ _ _ r h => by simp [spec_BestShelf.l3] at h, fun _ _ _ _ _ _ _ r h => by simp [spec_BestShelf.l4] at h⟩
 | k + 1 => by
  obtain ⟨ih0, ih1, ih2, ih3, ih4, ih5⟩ := spec_BestShelf.mono_l k
  refine ⟨?_, ?_, ?_, ?_, ?_, ?_⟩
  ·intro y0 y1 y2 y3
   unfold spec_BestShelf.l0
   repeat' first
   | (with_reducible exact ih0 _ _ _ _)
   | (with_reducible exact ih1 _ _ _ _ _)
   | (with_reducible exact ih2 _ _ _ _ _ _)
   | (with_reducible exact ih3 _ _ _ _ _ _ _)
   | (with_reducible exact ih4 _ _ _ _ _ _)
   | (with_reducible exact ih5 _ _ _ _ _ _ _)
   | (with_reducible exact spec_FacingsOK.mono _ _)
   | (with_reducible exact spec_ShelfOf.mono _ _ _ _)
   | (with_reducible exact spec_l13Gain.mono _ _ _ _ _ _)
   | (with_reducible exact LeO.refl _)
   | (with_reducible exact LeO.none _)
   | (with_reducible refine LeO.ite ?_ ?_)
   | (with_reducible refine LeO.bind ?_ (fun _ => ?_))
   | exact ih0 _ _ _ _
   | exact ih1 _ _ _ _ _
   | exact ih2 _ _ _ _ _ _
   | exact ih3 _ _ _ _ _ _ _
   | exact ih4 _ _ _ _ _ _
   | exact ih5 _ _ _ _ _ _ _
   | exact spec_FacingsOK.mono _ _
   | exact spec_ShelfOf.mono _ _ _ _
   | exact spec_l13Gain.mono _ _ _ _ _ _
   | exact LeO.none _
   | refine LeO.ite ?_ ?_
   | refine LeO.bind ?_ (fun _ => ?_)
  ·intro y0 y1 y2 y3 y4
   unfold spec_BestShelf.l1
   repeat' first
   | (with_reducible exact ih0 _ _ _ _)
   | (with_reducible exact ih1 _ _ _ _ _)
   | (with_reducible exact ih2 _ _ _ _ _ _)
   | (with_reducible exact ih3 _ _ _ _ _ _ _)
   | (with_reducible exact ih4 _ _ _ _ _ _)
   | (with_reducible exact ih5 _ _ _ _ _ _ _)
   | (with_reducible exact spec_FacingsOK.mono _ _)
   | (with_reducible exact spec_ShelfOf.mono _ _ _ _)
   | (with_reducible exact spec_l13Gain.mono _ _ _ _ _ _)
   | (with_reducible exact LeO.refl _)
   | (with_reducible exact LeO.none _)
   | (with_reducible refine LeO.ite ?_ ?_)
   | (with_reducible refine LeO.bind ?_ (fun _ => ?_))
   | exact ih0 _ _ _ _
   | exact ih1 _ _ _ _ _
   | exact ih2 _ _ _ _ _ _
   | exact ih3 _ _ _ _ _ _ _
   | exact ih4 _ _ _ _ _ _
   | exact ih5 _ _ _ _ _ _ _
   | exact spec_FacingsOK.mono _ _
   | exact spec_ShelfOf.mono _ _ _ _
   | exact spec_l13Gain.mono _ _ _ _ _ _
   | exact LeO.none _
   | refine LeO.ite ?_ ?_
   | refine LeO.bind ?_ (fun _ => ?_)
  ·intro y0 y1 y2 y3 y4 y5
   unfold spec_BestShelf.l2
   repeat' first
   | (with_reducible exact ih0 _ _ _ _)
   | (with_reducible exact ih1 _ _ _ _ _)
   | (with_reducible exact ih2 _ _ _ _ _ _)
   | (with_reducible exact ih3 _ _ _ _ _ _ _)
   | (with_reducible exact ih4 _ _ _ _ _ _)
   | (with_reducible exact ih5 _ _ _ _ _ _ _)
   | (with_reducible exact spec_FacingsOK.mono _ _)
   | (with_reducible exact spec_ShelfOf.mono _ _ _ _)
   | (with_reducible exact spec_l13Gain.mono _ _ _ _ _ _)
   | (with_reducible exact LeO.refl _)
   | (with_reducible exact LeO.none _)
   | (with_reducible refine LeO.ite ?_ ?_)
   | (with_reducible refine LeO.bind ?_ (fun _ => ?_))
   | exact ih0 _ _ _ _
   | exact ih1 _ _ _ _ _
   | exact ih2 _ _ _ _ _ _
   | exact ih3 _ _ _ _ _ _ _
   | exact ih4 _ _ _ _ _ _
   | exact ih5 _ _ _ _ _ _ _
   | exact spec_FacingsOK.mono _ _
   | exact spec_ShelfOf.mono _ _ _ _
   | exact spec_l13Gain.mono _ _ _ _ _ _
   | exact LeO.none _
   | refine LeO.ite ?_ ?_
   | refine LeO.bind ?_ (fun _ => ?_)
  ·intro y0 y1 y2 y3 y4 y5 y6
   unfold spec_BestShelf.j3
   repeat' first
   | (with_reducible exact ih0 _ _ _ _)
   | (with_reducible exact ih1 _ _ _ _ _)
   | (with_reducible exact ih2 _ _ _ _ _ _)
   | (with_reducible exact ih3 _ _ _ _ _ _ _)
   | (with_reducible exact ih4 _ _ _ _ _ _)
   | (with_reducible exact ih5 _ _ _ _ _ _ _)
   | (with_reducible exact spec_FacingsOK.mono _ _)
   | (with_reducible exact spec_ShelfOf.mono _ _ _ _)
   | (with_reducible exact spec_l13Gain.mono _ _ _ _ _ _)
   | (with_reducible exact LeO.refl _)
   | (with_reducible exact LeO.none _)
   | (with_reducible refine LeO.ite ?_ ?_)
   | (with_reducible refine LeO.bind ?_ (fun _ => ?_))
   | exact ih0 _ _ _ _
   | exact ih1 _ _ _ _ _
   | exact ih2 _ _ _ _ _ _
   | exact ih3 _ _ _ _ _ _ _
   | exact ih4 _ _ _ _ _ _
   | exact ih5 _ _ _ _ _ _ _
   | exact spec_FacingsOK.mono _ _
   | exact spec_ShelfOf.mono _ _ _ _
   | exact spec_l13Gain.mono _ _ _ _ _ _
   | exact LeO.none _
   | refine LeO.ite ?_ ?_
   | refine LeO.bind ?_ (fun _ => ?_)
  ·intro y0 y1 y2 y3 y4 y5
   unfold spec_BestShelf.l3
   repeat' first
   | (with_reducible exact ih0 _ _ _ _)
   | (with_reducible exact ih1 _ _ _ _ _)
   | (with_reducible exact ih2 _ _ _ _ _ _)
   | (with_reducible exact ih3 _ _ _ _ _ _ _)
   | (with_reducible exact ih4 _ _ _ _ _ _)
   | (with_reducible exact ih5 _ _ _ _ _ _ _)
   | (with_reducible exact spec_FacingsOK.mono _ _)
   | (with_reducible exact spec_ShelfOf.mono _ _ _ _)
   | (with_reducible exact spec_l13Gain.mono _ _ _ _ _ _)
   | (with_reducible exact LeO.refl _)
   | (with_reducible exact LeO.none _)
   | (with_reducible refine LeO.ite ?_ ?_)
   | (with_reducible refine LeO.bind ?_ (fun _ => ?_))
   | exact ih0 _ _ _ _
   | exact ih1 _ _ _ _ _
   | exact ih2 _ _ _ _ _ _
   | exact ih3 _ _ _ _ _ _ _
   | exact ih4 _ _ _ _ _ _
   | exact ih5 _ _ _ _ _ _ _
   | exact spec_FacingsOK.mono _ _
   | exact spec_ShelfOf.mono _ _ _ _
   | exact spec_l13Gain.mono _ _ _ _ _ _
   | exact LeO.none _
   | refine LeO.ite ?_ ?_
   | refine LeO.bind ?_ (fun _ => ?_)
  ·intro y0 y1 y2 y3 y4 y5 y6
   unfold spec_BestShelf.l4
   repeat' first
   | (with_reducible exact ih0 _ _ _ _)
   | (with_reducible exact ih1 _ _ _ _ _)
   | (with_reducible exact ih2 _ _ _ _ _ _)
   | (with_reducible exact ih3 _ _ _ _ _ _ _)
   | (with_reducible exact ih4 _ _ _ _ _ _)
   | (with_reducible exact ih5 _ _ _ _ _ _ _)
   | (with_reducible exact spec_FacingsOK.mono _ _)
   | (with_reducible exact spec_ShelfOf.mono _ _ _ _)
   | (with_reducible exact spec_l13Gain.mono _ _ _ _ _ _)
   | (with_reducible exact LeO.refl _)
   | (with_reducible exact LeO.none _)
   | (with_reducible refine LeO.ite ?_ ?_)
   | (with_reducible refine LeO.bind ?_ (fun _ => ?_))
   | exact ih0 _ _ _ _
   | exact ih1 _ _ _ _ _
   | exact ih2 _ _ _ _ _ _
   | exact ih3 _ _ _ _ _ _ _
   | exact ih4 _ _ _ _ _ _
   | exact ih5 _ _ _ _ _ _ _
   | exact spec_FacingsOK.mono _ _
   | exact spec_ShelfOf.mono _ _ _ _
   | exact spec_l13Gain.mono _ _ _ _ _ _
   | exact LeO.none _
   | refine LeO.ite ?_ ?_
   | refine LeO.bind ?_ (fun _ => ?_)
theorem spec_BestShelf.mono : ∀ a0 a1 k, LeO (spec_BestShelf.f k a0 a1) (spec_BestShelf.f (k + 1) a0 a1) := by
 intro a0 a1 k
 obtain ⟨ih0, ih1, ih2, ih3, ih4, ih5⟩ := spec_BestShelf.mono_l k
 unfold spec_BestShelf.f
 repeat' first
   | (with_reducible exact ih0 _ _ _ _)
   | (with_reducible exact ih1 _ _ _ _ _)
   | (with_reducible exact ih2 _ _ _ _ _ _)
   | (with_reducible exact ih3 _ _ _ _ _ _ _)
   | (with_reducible exact ih4 _ _ _ _ _ _)
   | (with_reducible exact ih5 _ _ _ _ _ _ _)
   | (with_reducible exact spec_FacingsOK.mono _ _)
   | (with_reducible exact spec_ShelfOf.mono _ _ _ _)
   | (with_reducible exact spec_l13Gain.mono _ _ _ _ _ _)
   | (with_reducible exact LeO.refl _)
   | (with_reducible exact LeO.none _)
   | (with_reducible refine LeO.ite ?_ ?_)
   | (with_reducible refine LeO.bind ?_ (fun _ => ?_))
   | exact ih0 _ _ _ _
   | exact ih1 _ _ _ _ _
   | exact ih2 _ _ _ _ _ _
   | exact ih3 _ _ _ _ _ _ _
   | exact ih4 _ _ _ _ _ _
   | exact ih5 _ _ _ _ _ _ _
   | exact spec_FacingsOK.mono _ _
   | exact spec_ShelfOf.mono _ _ _ _
   | exact spec_l13Gain.mono _ _ _ _ _ _
   | exact LeO.none _
   | refine LeO.ite ?_ ?_
   | refine LeO.bind ?_ (fun _ => ?_)
def spec_BestShelf.T20 : Bool × List (List Nat × List Nat) := (true, [([], []), ([], []), ([1], [1]), ([0, 2], [0, 2]), ([3], [3]), ([], []), ([], []), ([], []), ([], []), ([7, 8], [7, 8]), ([9], [9]), ([10], [10]), ([6, 11], [6, 11]), ([5, 12], [5, 12]), ([4, 13], [4, 13]), ([14], [14]), ([15, 0, 1, 2, 3, 4, 5, 6, 7, 8, 9, 10, 11, 12, 13, 14, 15], [15])])
def spec_BestShelf.B20 : List Nat := [0, 0, 2, 7, 15, 0, 0, 0, 0, 384, 896, 1920, 4032, 8160, 16383, 32767, 65535]
theorem spec_BestShelf.tab20 : rtab .any (opsOf Try.f23 20) = spec_BestShelf.T20 := by kernel_rfl
theorem spec_BestShelf.bits20 : waitsOk spec_BestShelf.T20.2 spec_BestShelf.B20 = true := by kernel_rfl
def spec_BestShelf.T22 : Bool × List (List Nat × List Nat) := (true, [([], []), ([], []), ([0, 1], [0, 1]), ([2], [2]), ([], []), ([], []), ([], []), ([5, 6], [5, 6]), ([7], [7]), ([], []), ([8, 9], [8, 9]), ([10], [10]), ([], []), ([], []), ([], []), ([13, 14], [13, 14]), ([15], [15]), ([], []), ([16, 17], [16, 17]), ([12, 18], [12, 18]), ([11, 19], [11, 19]), ([3, 4, 0, 1, 2, 3, 4, 5, 6, 7, 8, 9, 10, 11, 12, 13, 14, 15, 16, 17, 18, 19, 20], [3, 4]), ([21, 20, 18, 0, 1, 2, 3, 4, 5, 6, 7, 8, 9, 10, 11, 12, 13, 14, 15, 16, 17, 18, 19, 20], [20, 21])])
def spec_BestShelf.B22 : List Nat := [0, 0, 3, 7, 0, 0, 0, 96, 224, 0, 992, 2016, 0, 0, 0, 24576, 57344, 0, 253952, 520192, 1048544, 2097151, 4194303]
theorem spec_BestShelf.tab22 : rtab .any (opsOf Try.f23 22) = spec_BestShelf.T22 := by kernel_rfl
theorem spec_BestShelf.bits22 : waitsOk spec_BestShelf.T22.2 spec_BestShelf.B22 = true := by kernel_rfl
def spec_BestShelf.T31 : Bool × List (List Nat × List Nat) := (true, [([], []), ([], []), ([], []), ([1, 2], [1, 2]), ([3], [3]), ([4], [4]), ([0, 5], [0, 5]), ([], []), ([6, 7], [6, 7]), ([8], [8]), ([9], [9]), ([9], [9]), ([11, 9], [9, 11]), ([10, 12, 9], [9, 10, 12]), ([13, 9], [9, 13]), ([9], [9]), ([9], [9]), ([9], [9]), ([9], [9]), ([17, 18, 9], [9, 17, 18]), ([19, 9], [9, 19]), ([20, 9], [9, 20]), ([16, 21, 9], [9, 16, 21]), ([15, 22, 9], [9, 15, 22]), ([14, 23, 9], [9, 14, 23]), ([24, 9], [9, 24]), ([25, 9], [9, 25]), ([9, 26], [9, 26]), ([27, 9], [27]), ([28], [28]), ([28], [28]), ([30, 28], [28, 30]), ([29, 31, 28], [28, 29, 31]), ([32, 28], [28, 32]), ([28], [28]), ([28], [28]), ([28], [28]), ([28], [28]), ([36, 37, 28], [28, 36, 37]), ([38, 28], [28, 38]), ([39, 28], [28, 39]), ([35, 40, 28], [28, 35, 40]), ([34, 41, 28], [28, 34, 41]), ([33, 42, 28], [28, 33, 42]), ([43, 28], [28, 43]), ([28], [28]), ([28], [28]), ([45, 46, 28], [28, 45, 46]), ([47, 28], [28, 47]), ([28], [28]), ([48, 49, 28, 28], [28, 48, 49]), ([44, 50, 28], [28, 44, 50]), ([28], [28]), ([28], [28]), ([52, 53, 28], [28, 52, 53]), ([54, 28], [28, 54]), ([28], [28]), ([55, 56, 28], [28, 55, 56]), ([57, 28], [28, 57]), ([51, 58, 28], [28, 51, 58]), ([28, 59], [28, 59])])
def spec_BestShelf.B31 : List Nat := [0, 0, 0, 6, 14, 30, 63, 0, 255, 511, 1023, 1023, 3071, 8191, 16383, 1023, 1023, 1023, 1023, 394239, 918527, 1967103, 4129791, 8356863, 16777215, 33554431, 67108863, 134217727, 268435455, 536870911, 536870911, 1610612735, 4294967295, 8589934591, 536870911, 536870911, 536870911, 536870911, 206695301119, 481573208063, 1031329021951, 2165200388095, 4381403512831, 8796093022207, 17592186044415, 536870911, 536870911, 105553653137407, 246291141492735, 536870911, 1090716071624703, 2251799813685247, 536870911, 536870911, 13510799418982399, 31525197928464383, 536870911, 139611588985356287, 283726777061212159, 576460752303423487, 1152921504606846975]
theorem spec_BestShelf.tab31 : rtab .any (opsOf Try.f23 31) = spec_BestShelf.T31 := by kernel_rfl
theorem spec_BestShelf.bits31 : waitsOk spec_BestShelf.T31.2 spec_BestShelf.B31 = true := by kernel_rfl
set_option maxHeartbeats 8000000 in
set_option maxRecDepth 100000 in
theorem spec_BestShelf.calls (k : Nat) (A0 : Option Addr) (c0 : Nat) (l0 : List (S50)) (a1 : Int) (r1 : List Int) (r2 : Int) (r3 : Int) (r4 : Int) (w : World) (hr0 : Kd.C k50 w A0 l0.length l0) (hc0 : l0.length ≤ c0) (h : spec_BestShelf.f k l0 a1 = some (r1, r2, r3, r4)) :
  Calls Try.prog 23 #[.slice A0 l0.length c0, .int .i64 a1] w fun e w' => ∃ v0_ : Value, e = .returned (.tuple #[.agg #[v0_, .int .i64 r2, .int .i64 r3], .int .i64 r4]) ∧ Kd.R (Kd.int .i64) 3 w' w.heap.size (fun _ => True) v0_ r1 ∧ Below w.heap.size w w' := by
 have hu31 := Try.underlying31
 have hu50 := Try.underlying50
 have HR0 := Aside0.mk hr0
 have HC0 := Aside0.mk hc0
 clear hr0 hc0
 have HB := Aside0.mk (Below.refl w.heap.size w)
 have H : (if (l0.length : Int) > 4096 then (some (([] : List Int), 0, 0, 2)) else ((spec_FacingsOK.f k l0).bind fun t328 => (if t328 = true then ((spec_l01In.f a1 0 2000).bind fun t329 => (if t329 = true then (if 0 ≤ (wrap64 ((l0.length : Int) + 1)) then (if (wrap64 ((l0.length : Int) + 1) : Int).toNat ≤ 11728124029610 then ((some (List.replicate (wrap64 ((l0.length : Int) + 1) : Int).toNat [] : List (List Int))).bind fun y330 => (if 0 ≤ (wrap64 (a1 + 1)) then (if (wrap64 (a1 + 1) : Int).toNat ≤ 35184372088832 then (if 0 ≤ (l0.length : Int) then (if (l0.length : Int) < (y330.length : Int) then (spec_BestShelf.l0 k l0 a1 (y330.set ((l0.length : Int) : Int).toNat (List.replicate (wrap64 (a1 + 1) : Int).toNat 0)) (wrap64 ((l0.length : Int) - 1))) else (none)) else (none)) else (none)) else (none))) else (none)) else (none)) else (some (([] : List Int), 0, 0, 5)))) else (some (([] : List Int), 0, 0, 1))))) = some (r1, r2, r3, r4) := h
 clear h
 by_cases c3 : (l0.length : Int) > 4096
 ·rw [if_pos c3] at H
  have c3b0 : decide (4096 < (l0.length : Int)) = true := decide_eq_true c3
  have c3b1 : decide (4096 < l0.length) = true := decide_eq_true (by omega)
  clear c3
  as_aux_lemma =>
   simp only [Option.some.injEq, Prod.mk.injEq] at H
   obtain ⟨rfl, rfl, rfl, rfl⟩ := H
   go_enter Try.func23, Try.ntmps23
   go_wp2_with (first | ((with_reducible refine gate_dst (N := 4) rfl ?_); refine box_event ?hg (N := 4) ?hd (cs := #[.slice none 0 0, .int .i64 0, .int .i64 0]) (t := 31) ?hr ?_; (case hd => rfl); (case hg => rfl); (case hr => first | (go_simp; done) | (go_simp; rfl)); intro gb327 hg w4 hbox hb; have n0_ := Aside0.mk (below_step bl_ hb); have n1_ := Aside0.mk (hbox); have n2_ := Aside0.mk ((by rw [hg]; exact (below_size bl_) : w.heap.size ≤ gb327)); have n3_ := Aside0.mk ((by rw [hg]; exact (below_size bl_) : w.heap.size ≤ gb327)); clear HB; have HB := n0_; have BK327 := n1_; have GW327 := n2_; have GE327 := n3_; clear n0_ n1_ n2_ n3_; clear hb hbox hg; have hcz5_0 : w4.cell? ⟨gb327, 0, none⟩ = some (.slice none 0 0) := (blk_cell BK327.out 0).trans rfl; have hcz5_1 : w4.cell? ⟨gb327, 1, none⟩ = some (.int .i64 0) := (blk_cell BK327.out 1).trans rfl; have hcz5_2 : w4.cell? ⟨gb327, 2, none⟩ = some (.int .i64 0) := (blk_cell BK327.out 2).trans rfl; have hfz5_0 := blk_frozen BK327.out 0; have hfz5_1 := blk_frozen BK327.out 1; have hfz5_2 := blk_frozen BK327.out 2))
   refine bodyPost_ret (results_ct rfl _ _ gb327 31 #[.slice none 0 0, .int .i64 0, .int .i64 0] (0, 0) _ rfl (by (with_reducible repeat (first | refine blk_drewN ?_ _ | refine blk_drew ?_ | refine blk_alloc ?_ _)); refine blk_put (cs := #[.slice none 0 0, .int .i64 0, .int .i64 0]) ?_ 2 _ rfl; (with_reducible repeat (first | refine blk_drewN ?_ _ | refine blk_drew ?_ | refine blk_alloc ?_ _)); refine blk_put (cs := #[.slice none 0 0, .int .i64 0, .int .i64 0]) ?_ 1 _ rfl; (with_reducible repeat (first | refine blk_drewN ?_ _ | refine blk_drew ?_ | refine blk_alloc ?_ _)); refine blk_put (cs := #[.slice none 0 0, .int .i64 0, .int .i64 0]) ?_ 0 _ rfl; (with_reducible repeat (first | refine blk_drewN ?_ _ | refine blk_drew ?_ | refine blk_alloc ?_ _)); exact BK327.out) Try.underlying31 rfl (by kernel_rfl)) rfl ?_
   exact ⟨_, by first | rfl | (simp [errW_none, errW_some] <;> rfl) | (simp [*, errW_none, errW_some] <;> rfl), by first | exact Kd.R_nil _ _ _ _ _ | exact Kd.N_nil _ _ _ _ _ | exact Kd.V_nil _ _ _ _ _ | exact Kd.Q_nil _ _ _ _ _ | exact Kd.S_nil _ _ _ _ _, by repeat (first | (with_reducible first | exact HB.out | apply below_alloc | apply pw_below_drewN | apply below_drew1 | refine below_set ?_ GE327.out) | exact HB.out)⟩
 rw [if_neg c3] at H
 have c3b0 : decide (4096 < (l0.length : Int)) = false := decide_eq_false c3
 have c3b1 : decide (4096 < l0.length) = false := decide_eq_false (by omega)
 clear c3
 replace H := Option.bind_eq_some_iff.mp H
 obtain ⟨t328, A60, H⟩ := H
 replace H : (if t328 = true then ((spec_l01In.f a1 0 2000).bind fun t329 => (if t329 = true then (if 0 ≤ (wrap64 ((l0.length : Int) + 1)) then (if (wrap64 ((l0.length : Int) + 1) : Int).toNat ≤ 11728124029610 then ((some (List.replicate (wrap64 ((l0.length : Int) + 1) : Int).toNat [] : List (List Int))).bind fun y330 => (if 0 ≤ (wrap64 (a1 + 1)) then (if (wrap64 (a1 + 1) : Int).toNat ≤ 35184372088832 then (if 0 ≤ (l0.length : Int) then (if (l0.length : Int) < (y330.length : Int) then (spec_BestShelf.l0 k l0 a1 (y330.set ((l0.length : Int) : Int).toNat (List.replicate (wrap64 (a1 + 1) : Int).toNat 0)) (wrap64 ((l0.length : Int) - 1))) else (none)) else (none)) else (none)) else (none))) else (none)) else (none)) else (some (([] : List Int), 0, 0, 5)))) else (some (([] : List Int), 0, 0, 1))) = some (r1, r2, r3, r4) := H
 have A6 := Aside0.mk A60
 clear A60
 by_cases c7 : t328 = true
 rotate_left
 ·replace c7 := Bool.eq_false_iff.mpr c7
  subst c7
  have H1 : (some (([] : List Int), 0, 0, 1)) = some (r1, r2, r3, r4) := by rw [if_neg (show ¬ (false = true) by decide)] at H; exact H
  clear H
  have H := H1
  clear H1
  as_aux_lemma =>
   simp only [Option.some.injEq, Prod.mk.injEq] at H
   obtain ⟨rfl, rfl, rfl, rfl⟩ := H
   go_enter Try.func23, Try.ntmps23
   go_wp2_with (first | ((with_reducible refine gate_dst (N := 4) rfl ?_); refine box_event ?hg (N := 4) ?hd (cs := #[.slice none 0 0, .int .i64 0, .int .i64 0]) (t := 31) ?hr ?_; (case hd => rfl); (case hg => rfl); (case hr => first | (go_simp; done) | (go_simp; rfl)); intro gb327 hg w113 hbox hb; have n0_ := Aside0.mk (below_step bl_ hb); have n1_ := Aside0.mk (hbox); have n2_ := Aside0.mk ((by rw [hg]; exact (below_size bl_) : w.heap.size ≤ gb327)); have n3_ := Aside0.mk ((by rw [hg]; exact (below_size bl_) : w.heap.size ≤ gb327)); clear HB; have HB := n0_; have BK327 := n1_; have GW327 := n2_; have GE327 := n3_; clear n0_ n1_ n2_ n3_; clear hb hbox hg) | ((with_reducible refine gate_callee (f := 8) rfl ?_); refine goesL_ (some 20) rfl rfl Try.func8 (by kernel_rfl) rfl #[.slice A0 l0.length c0] rfl (by (try simp only [List.map_toArray, List.map_cons, List.map_nil]); first | done | rfl | (simp only [List.length_drop, List.length_take]; rfl)) ?_; (with_reducible refine (spec_FacingsOK.calls k _ _ l0 false _ ?side1 ?side2 A6.out).mono ?_); (case side1 => repeat (first | exact (Kd.C_below HR0.out HB.out) | (with_reducible refine Kd.C_alloc ?_ _) | (with_reducible refine Kd.C_drewN ?_ _) | (with_reducible refine Kd.C_drew ?_))); (case side2 => exact HC0.out); rintro e w114 ⟨rfl, hb⟩; refine ⟨_, rfl, ?_⟩; have n0_ := Aside0.mk (blk_below (g := gb327) (o := .cells #[.slice none 0 0, .int .i64 0, .int .i64 0] 31 (0, 0)) bk_ hb); have n1_ := Aside0.mk (below_step bl_ hb); clear BK327; clear HB; have BK327 := n0_; have HB := n1_; clear n0_ n1_; (try clear hb); (try clear hb2); (try clear hk); (try clear hi); have hcz115_0 : w114.cell? ⟨gb327, 0, none⟩ = some (.slice none 0 0) := (blk_cell BK327.out 0).trans rfl; have hcz115_1 : w114.cell? ⟨gb327, 1, none⟩ = some (.int .i64 0) := (blk_cell BK327.out 1).trans rfl; have hcz115_2 : w114.cell? ⟨gb327, 2, none⟩ = some (.int .i64 0) := (blk_cell BK327.out 2).trans rfl; have hfz115_0 := blk_frozen BK327.out 0; have hfz115_1 := blk_frozen BK327.out 1; have hfz115_2 := blk_frozen BK327.out 2))
   refine bodyPost_ret (results_ct rfl _ _ gb327 31 #[.slice none 0 0, .int .i64 0, .int .i64 0] (0, 0) _ rfl (by (with_reducible repeat (first | refine blk_drewN ?_ _ | refine blk_drew ?_ | refine blk_alloc ?_ _)); refine blk_put (cs := #[.slice none 0 0, .int .i64 0, .int .i64 0]) ?_ 2 _ rfl; (with_reducible repeat (first | refine blk_drewN ?_ _ | refine blk_drew ?_ | refine blk_alloc ?_ _)); refine blk_put (cs := #[.slice none 0 0, .int .i64 0, .int .i64 0]) ?_ 1 _ rfl; (with_reducible repeat (first | refine blk_drewN ?_ _ | refine blk_drew ?_ | refine blk_alloc ?_ _)); refine blk_put (cs := #[.slice none 0 0, .int .i64 0, .int .i64 0]) ?_ 0 _ rfl; (with_reducible repeat (first | refine blk_drewN ?_ _ | refine blk_drew ?_ | refine blk_alloc ?_ _)); exact BK327.out) Try.underlying31 rfl (by kernel_rfl)) rfl ?_
   exact ⟨_, by first | rfl | (simp [errW_none, errW_some] <;> rfl) | (simp [*, errW_none, errW_some] <;> rfl), by first | exact Kd.R_nil _ _ _ _ _ | exact Kd.N_nil _ _ _ _ _ | exact Kd.V_nil _ _ _ _ _ | exact Kd.Q_nil _ _ _ _ _ | exact Kd.S_nil _ _ _ _ _, by repeat (first | (with_reducible first | exact HB.out | apply below_alloc | apply pw_below_drewN | apply below_drew1 | refine below_set ?_ GE327.out) | exact HB.out)⟩

 subst c7
 have H1 : ((spec_l01In.f a1 0 2000).bind fun t329 => (if t329 = true then (if 0 ≤ (wrap64 ((l0.length : Int) + 1)) then (if (wrap64 ((l0.length : Int) + 1) : Int).toNat ≤ 11728124029610 then ((some (List.replicate (wrap64 ((l0.length : Int) + 1) : Int).toNat [] : List (List Int))).bind fun y330 => (if 0 ≤ (wrap64 (a1 + 1)) then (if (wrap64 (a1 + 1) : Int).toNat ≤ 35184372088832 then (if 0 ≤ (l0.length : Int) then (if (l0.length : Int) < (y330.length : Int) then (spec_BestShelf.l0 k l0 a1 (y330.set ((l0.length : Int) : Int).toNat (List.replicate (wrap64 (a1 + 1) : Int).toNat 0)) (wrap64 ((l0.length : Int) - 1))) else (none)) else (none)) else (none)) else (none))) else (none)) else (none)) else (some (([] : List Int), 0, 0, 5)))) = some (r1, r2, r3, r4) := by rw [if_pos rfl] at H; exact H
 clear H
 have H := H1
 clear H1
 replace H := Option.bind_eq_some_iff.mp H
 obtain ⟨t329, A80, H⟩ := H
 replace H : (if t329 = true then (if 0 ≤ (wrap64 ((l0.length : Int) + 1)) then (if (wrap64 ((l0.length : Int) + 1) : Int).toNat ≤ 11728124029610 then ((some (List.replicate (wrap64 ((l0.length : Int) + 1) : Int).toNat [] : List (List Int))).bind fun y330 => (if 0 ≤ (wrap64 (a1 + 1)) then (if (wrap64 (a1 + 1) : Int).toNat ≤ 35184372088832 then (if 0 ≤ (l0.length : Int) then (if (l0.length : Int) < (y330.length : Int) then (spec_BestShelf.l0 k l0 a1 (y330.set ((l0.length : Int) : Int).toNat (List.replicate (wrap64 (a1 + 1) : Int).toNat 0)) (wrap64 ((l0.length : Int) - 1))) else (none)) else (none)) else (none)) else (none))) else (none)) else (none)) else (some (([] : List Int), 0, 0, 5))) = some (r1, r2, r3, r4) := H
 have A8 := Aside0.mk A80
 clear A80
 by_cases c9 : t329 = true
 rotate_left
 ·replace c9 := Bool.eq_false_iff.mpr c9
  subst c9
  have H1 : (some (([] : List Int), 0, 0, 5)) = some (r1, r2, r3, r4) := by rw [if_neg (show ¬ (false = true) by decide)] at H; exact H
  clear H
  have H := H1
  clear H1
  as_aux_lemma =>
   simp only [Option.some.injEq, Prod.mk.injEq] at H
   obtain ⟨rfl, rfl, rfl, rfl⟩ := H
   go_enter Try.func23, Try.ntmps23
   go_wp2_with (first | ((with_reducible refine gate_dst (N := 4) rfl ?_); refine box_event ?hg (N := 4) ?hd (cs := #[.slice none 0 0, .int .i64 0, .int .i64 0]) (t := 31) ?hr ?_; (case hd => rfl); (case hg => rfl); (case hr => first | (go_simp; done) | (go_simp; rfl)); intro gb327 hg w110 hbox hb; have n0_ := Aside0.mk (below_step bl_ hb); have n1_ := Aside0.mk (hbox); have n2_ := Aside0.mk ((by rw [hg]; exact (below_size bl_) : w.heap.size ≤ gb327)); have n3_ := Aside0.mk ((by rw [hg]; exact (below_size bl_) : w.heap.size ≤ gb327)); clear HB; have HB := n0_; have BK327 := n1_; have GW327 := n2_; have GE327 := n3_; clear n0_ n1_ n2_ n3_; clear hb hbox hg) | ((with_reducible refine gate_callee (f := 8) rfl ?_); refine goesL_ (some 20) rfl rfl Try.func8 (by kernel_rfl) rfl #[.slice A0 l0.length c0] rfl (by (try simp only [List.map_toArray, List.map_cons, List.map_nil]); first | done | rfl | (simp only [List.length_drop, List.length_take]; rfl)) ?_; (with_reducible refine (spec_FacingsOK.calls k _ _ l0 true _ ?side1 ?side2 A6.out).mono ?_); (case side1 => repeat (first | exact (Kd.C_below HR0.out HB.out) | (with_reducible refine Kd.C_alloc ?_ _) | (with_reducible refine Kd.C_drewN ?_ _) | (with_reducible refine Kd.C_drew ?_))); (case side2 => exact HC0.out); rintro e w111 ⟨rfl, hb⟩; refine ⟨_, rfl, ?_⟩; have n0_ := Aside0.mk (blk_below (g := gb327) (o := .cells #[.slice none 0 0, .int .i64 0, .int .i64 0] 31 (0, 0)) bk_ hb); have n1_ := Aside0.mk (below_step bl_ hb); clear BK327; clear HB; have BK327 := n0_; have HB := n1_; clear n0_ n1_; (try clear hb); (try clear hb2); (try clear hk); (try clear hi)) | ((with_reducible refine gate_callee (f := 26) rfl ?_); refine goesL_ (some 24) rfl rfl Try.func26 (by kernel_rfl) rfl #[.int .i64 a1, .int .i64 0, .int .i64 2000] rfl (by (try simp only [List.map_toArray, List.map_cons, List.map_nil]); first | done | rfl | (simp only [List.length_drop, List.length_take]; rfl)) ?_; (with_reducible refine (spec_l01In.calls a1 0 2000 false _ A8.out).mono ?_); rintro e w' ⟨rfl, ⟨nd, rfl⟩⟩; refine ⟨_, rfl, ?_⟩; (try (rw [drewN_self w111]; generalize hq_ : World.drewN w111 _ = w111; have n0_ : Aside0 (w111.heap[gb327]? = some (.cells #[.slice none 0 0, .int .i64 0, .int .i64 0] 31 (0, 0))) := ⟨by rw [← hq_]; exact bk_⟩; have n1_ : Aside0 (Below w.heap.size w w111) := ⟨by rw [← hq_]; exact bl_⟩; clear BK327 HB hq_; have BK327 := n0_; have HB := n1_; clear n0_ n1_)); have hcz112_0 : w111.cell? ⟨gb327, 0, none⟩ = some (.slice none 0 0) := (blk_cell BK327.out 0).trans rfl; have hcz112_1 : w111.cell? ⟨gb327, 1, none⟩ = some (.int .i64 0) := (blk_cell BK327.out 1).trans rfl; have hcz112_2 : w111.cell? ⟨gb327, 2, none⟩ = some (.int .i64 0) := (blk_cell BK327.out 2).trans rfl; have hfz112_0 := blk_frozen BK327.out 0; have hfz112_1 := blk_frozen BK327.out 1; have hfz112_2 := blk_frozen BK327.out 2))
   refine bodyPost_ret (results_ct rfl _ _ gb327 31 #[.slice none 0 0, .int .i64 0, .int .i64 0] (0, 0) _ rfl (by (with_reducible repeat (first | refine blk_drewN ?_ _ | refine blk_drew ?_ | refine blk_alloc ?_ _)); refine blk_put (cs := #[.slice none 0 0, .int .i64 0, .int .i64 0]) ?_ 2 _ rfl; (with_reducible repeat (first | refine blk_drewN ?_ _ | refine blk_drew ?_ | refine blk_alloc ?_ _)); refine blk_put (cs := #[.slice none 0 0, .int .i64 0, .int .i64 0]) ?_ 1 _ rfl; (with_reducible repeat (first | refine blk_drewN ?_ _ | refine blk_drew ?_ | refine blk_alloc ?_ _)); refine blk_put (cs := #[.slice none 0 0, .int .i64 0, .int .i64 0]) ?_ 0 _ rfl; (with_reducible repeat (first | refine blk_drewN ?_ _ | refine blk_drew ?_ | refine blk_alloc ?_ _)); exact BK327.out) Try.underlying31 rfl (by kernel_rfl)) rfl ?_
   exact ⟨_, by first | rfl | (simp [errW_none, errW_some] <;> rfl) | (simp [*, errW_none, errW_some] <;> rfl), by first | exact Kd.R_nil _ _ _ _ _ | exact Kd.N_nil _ _ _ _ _ | exact Kd.V_nil _ _ _ _ _ | exact Kd.Q_nil _ _ _ _ _ | exact Kd.S_nil _ _ _ _ _, by repeat (first | (with_reducible first | exact HB.out | apply below_alloc | apply pw_below_drewN | apply below_drew1 | refine below_set ?_ GE327.out) | exact HB.out)⟩
 subst c9
 have H1 : (if 0 ≤ (wrap64 ((l0.length : Int) + 1)) then (if (wrap64 ((l0.length : Int) + 1) : Int).toNat ≤ 11728124029610 then ((some (List.replicate (wrap64 ((l0.length : Int) + 1) : Int).toNat [] : List (List Int))).bind fun y330 => (if 0 ≤ (wrap64 (a1 + 1)) then (if (wrap64 (a1 + 1) : Int).toNat ≤ 35184372088832 then (if 0 ≤ (l0.length : Int) then (if (l0.length : Int) < (y330.length : Int) then (spec_BestShelf.l0 k l0 a1 (y330.set ((l0.length : Int) : Int).toNat (List.replicate (wrap64 (a1 + 1) : Int).toNat 0)) (wrap64 ((l0.length : Int) - 1))) else (none)) else (none)) else (none)) else (none))) else (none)) else (none)) = some (r1, r2, r3, r4) := by rw [if_pos rfl] at H; exact H
 clear H
 have H := H1
 clear H1
 obtain ⟨ji10, hji10⟩ : ∃ j_ : Int, (wrap64 ((l0.length : Int) + 1)) = j_ := ⟨_, rfl⟩
 replace H : (if 0 ≤ (ji10) then (if (ji10 : Int).toNat ≤ 11728124029610 then ((some (List.replicate (ji10 : Int).toNat [] : List (List Int))).bind fun y330 => (if 0 ≤ (wrap64 (a1 + 1)) then (if (wrap64 (a1 + 1) : Int).toNat ≤ 35184372088832 then (if 0 ≤ (l0.length : Int) then (if (l0.length : Int) < (y330.length : Int) then (spec_BestShelf.l0 k l0 a1 (y330.set ((l0.length : Int) : Int).toNat (List.replicate (wrap64 (a1 + 1) : Int).toNat 0)) (wrap64 ((l0.length : Int) - 1))) else (none)) else (none)) else (none)) else (none))) else (none)) else (none)) = some (r1, r2, r3, r4) := by first | (rw [hji10] at H; exact H) | (simp only [hji10] at H ⊢; exact H)
 (try rw [hji10] at A6)
 (try rw [hji10] at A8)
 have hji10w : (IntKind.i64.wrap ((l0.length : Int) + 1)) = ji10 := (i64_w _).trans hji10
 by_cases c11 : 0 ≤ (ji10)
 rotate_left
 ·rw [if_neg c11] at H
  exact absurd H (by simp)
 rw [if_pos c11] at H
 have c11b0 := eq_true c11
 have c11b1 : decide (0 ≤ (ji10)) = true := decide_eq_true c11
 clear c11
 by_cases c12 : (ji10 : Int).toNat ≤ 11728124029610
 rotate_left
 ·rw [if_neg c12] at H
  exact absurd H (by simp)
 rw [if_pos c12] at H
 have c12b0 := eq_true c12
 have c12b1 : decide ((ji10 : Int).toNat ≤ 11728124029610) = true := decide_eq_true c12
 clear c12
 obtain ⟨y330, hy330⟩ : ∃ y_ : List (List Int), y_ = (List.replicate (ji10 : Int).toNat []) := ⟨_, rfl⟩
 replace H : (if 0 ≤ (wrap64 (a1 + 1)) then (if (wrap64 (a1 + 1) : Int).toNat ≤ 35184372088832 then (if 0 ≤ (l0.length : Int) then (if (l0.length : Int) < (y330.length : Int) then (spec_BestShelf.l0 k l0 a1 (y330.set ((l0.length : Int) : Int).toNat (List.replicate (wrap64 (a1 + 1) : Int).toNat 0)) (wrap64 ((l0.length : Int) - 1))) else (none)) else (none)) else (none)) else (none)) = some (r1, r2, r3, r4) := by first | (rw [hy330]; with_reducible exact H) | (have H2_ := (Option.bind_some _ _).symm.trans H; rw [hy330]; with_reducible exact H2_) | (have H2_ := (Option.bind_some _ _).symm.trans H; with_reducible exact H2_) | with_reducible exact H | (rw [hy330]; exact H) | exact H
 have Ny330 := Aside0.mk hy330
 clear hy330
 obtain ⟨ji13, hji13⟩ : ∃ j_ : Int, (wrap64 (a1 + 1)) = j_ := ⟨_, rfl⟩
 replace H : (if 0 ≤ (ji13) then (if (ji13 : Int).toNat ≤ 35184372088832 then (if 0 ≤ (l0.length : Int) then (if (l0.length : Int) < (y330.length : Int) then (spec_BestShelf.l0 k l0 a1 (y330.set ((l0.length : Int) : Int).toNat (List.replicate (ji13 : Int).toNat 0)) (wrap64 ((l0.length : Int) - 1))) else (none)) else (none)) else (none)) else (none)) = some (r1, r2, r3, r4) := by first | (rw [hji13] at H; exact H) | (simp only [hji13] at H ⊢; exact H)
 (try rw [hji13] at A6)
 (try rw [hji13] at A8)
 have hji13w : (IntKind.i64.wrap (a1 + 1)) = ji13 := (i64_w _).trans hji13
 by_cases c14 : 0 ≤ (ji13)
 rotate_left
 ·rw [if_neg c14] at H
  exact absurd H (by simp)
 rw [if_pos c14] at H
 have c14b0 := eq_true c14
 have c14b1 : decide (0 ≤ (ji13)) = true := decide_eq_true c14
 clear c14
 by_cases c15 : (ji13 : Int).toNat ≤ 35184372088832
 rotate_left
 ·rw [if_neg c15] at H
  exact absurd H (by simp)
 rw [if_pos c15] at H
 have c15b0 := eq_true c15
 have c15b1 : decide ((ji13 : Int).toNat ≤ 35184372088832) = true := decide_eq_true c15
 clear c15
 obtain ⟨y333, hy333⟩ : ∃ y_ : List Int, y_ = (List.replicate (ji13 : Int).toNat 0) := ⟨_, rfl⟩
 replace H : (if 0 ≤ (l0.length : Int) then (if (l0.length : Int) < (y330.length : Int) then (spec_BestShelf.l0 k l0 a1 (y330.set ((l0.length : Int) : Int).toNat y333) (wrap64 ((l0.length : Int) - 1))) else (none)) else (none)) = some (r1, r2, r3, r4) := by first | (rw [hy333]; with_reducible exact H) | (have H2_ := (Option.bind_some _ _).symm.trans H; rw [hy333]; with_reducible exact H2_) | (have H2_ := (Option.bind_some _ _).symm.trans H; with_reducible exact H2_) | with_reducible exact H | (rw [hy333]; exact H) | exact H
 have Ny333 := Aside0.mk hy333
 clear hy333
 by_cases c16 : 0 ≤ (l0.length : Int)
 rotate_left
 ·rw [if_neg c16] at H
  exact absurd H (by simp)
 rw [if_pos c16] at H
 have c16b0 : decide (0 ≤ (l0.length : Int)) = true := decide_eq_true c16
 have c16b1 : decide (0 ≤ l0.length) = true := decide_eq_true (by omega)
 clear c16
 by_cases c17 : (l0.length : Int) < (y330.length : Int)
 rotate_left
 ·rw [if_neg c17] at H
  exact absurd H (by simp)
 rw [if_pos c17] at H
 have c17b0 : decide ((l0.length : Int) < (y330.length : Int)) = true := decide_eq_true c17
 have c17b1 : decide (l0.length < y330.length) = true := decide_eq_true (Int.ofNat_lt.mp c17)
 clear c17
 obtain ⟨y336, hy336⟩ : ∃ y_ : List (List Int), y_ = (y330.set ((l0.length : Int) : Int).toNat y333) := ⟨_, rfl⟩
 replace H : (spec_BestShelf.l0 k l0 a1 y336 (wrap64 ((l0.length : Int) - 1))) = some (r1, r2, r3, r4) := by first | (rw [hy336]; with_reducible exact H) | (have H2_ := (Option.bind_some _ _).symm.trans H; rw [hy336]; with_reducible exact H2_) | (have H2_ := (Option.bind_some _ _).symm.trans H; with_reducible exact H2_) | with_reducible exact H | (rw [hy336]; exact H) | exact H
 have Ny336 := Aside0.mk hy336
 clear hy336
 have H' := Aside0.mk H
 clear H
 go_enter Try.func23, Try.ntmps23
 go_wp2_with (first | ((with_reducible refine gate_dst (N := 4) rfl ?_); refine box_event ?hg (N := 4) ?hd (cs := #[.slice none 0 0, .int .i64 0, .int .i64 0]) (t := 31) ?hr ?_; (case hd => rfl); (case hg => rfl); (case hr => first | (go_simp; done) | (go_simp; rfl)); intro gb327 hg w19 hbox hb; have n0_ := Aside0.mk (below_step bl_ hb); have n1_ := Aside0.mk (hbox); have n2_ := Aside0.mk ((by rw [hg]; exact (below_size bl_) : w.heap.size ≤ gb327)); have n3_ := Aside0.mk ((by rw [hg]; exact (below_size bl_) : w.heap.size ≤ gb327)); clear HB; have HB := n0_; have BK327 := n1_; have GW327 := n2_; have GE327 := n3_; clear n0_ n1_ n2_ n3_; clear hb hbox hg) | ((with_reducible refine gate_callee (f := 8) rfl ?_); refine goesL_ (some 20) rfl rfl Try.func8 (by kernel_rfl) rfl #[.slice A0 l0.length c0] rfl (by (try simp only [List.map_toArray, List.map_cons, List.map_nil]); first | done | rfl | (simp only [List.length_drop, List.length_take]; rfl)) ?_; (with_reducible refine (spec_FacingsOK.calls k _ _ l0 true _ ?side1 ?side2 A6.out).mono ?_); (case side1 => repeat (first | exact (Kd.C_below HR0.out HB.out) | (with_reducible refine Kd.C_alloc ?_ _) | (with_reducible refine Kd.C_drewN ?_ _) | (with_reducible refine Kd.C_drew ?_))); (case side2 => exact HC0.out); rintro e w20 ⟨rfl, hb⟩; refine ⟨_, rfl, ?_⟩; have n0_ := Aside0.mk (blk_below (g := gb327) (o := .cells #[.slice none 0 0, .int .i64 0, .int .i64 0] 31 (0, 0)) bk_ hb); have n1_ := Aside0.mk (below_step bl_ hb); clear BK327; clear HB; have BK327 := n0_; have HB := n1_; clear n0_ n1_; (try clear hb); (try clear hb2); (try clear hk); (try clear hi)) | ((with_reducible refine gate_callee (f := 26) rfl ?_); refine goesL_ (some 24) rfl rfl Try.func26 (by kernel_rfl) rfl #[.int .i64 a1, .int .i64 0, .int .i64 2000] rfl (by (try simp only [List.map_toArray, List.map_cons, List.map_nil]); first | done | rfl | (simp only [List.length_drop, List.length_take]; rfl)) ?_; (with_reducible refine (spec_l01In.calls a1 0 2000 true _ A8.out).mono ?_); rintro e w' ⟨rfl, ⟨nd, rfl⟩⟩; refine ⟨_, rfl, ?_⟩; (try (rw [drewN_self w20]; generalize hq_ : World.drewN w20 _ = w20; have n0_ : Aside0 (w20.heap[gb327]? = some (.cells #[.slice none 0 0, .int .i64 0, .int .i64 0] 31 (0, 0))) := ⟨by rw [← hq_]; exact bk_⟩; have n1_ : Aside0 (Below w.heap.size w w20) := ⟨by rw [← hq_]; exact bl_⟩; clear BK327 HB hq_; have BK327 := n0_; have HB := n1_; clear n0_ n1_))) | ((with_reducible refine gate_dst (N := 30) rfl ?_); refine Kd.S_make (Kd.slice 3 (Kd.int .i64)) _ 29 rfl (N := 30) rfl 66 _ _ rfl ji10 rfl rfl Try.underlying66 (.slice none 0 0) 24 info29 rfl (by decide) (by omega) [] (ok := fun _ => True) (okp := fun _ => True) ⟨_, rfl, Kd.R_nil _ _ _ _ _⟩ (fun _ hk => hk) trivial od_ (Nat.le_trans (Nat.mul_le_mul_right _ (od_ : ji10.toNat ≤ 11728124029610)) (by omega)) (Below.refl _ _) (Nat.le_refl _) ?_; intro v331 w21 ho22 hb hg_ hnew_; clear hg_ hnew_; (first | rw [← Ny330.out] at ho22 | (simp only [Int.reduceToNat] at ho22; rw [← Ny330.out] at ho22)); have n0_ := Aside0.mk (Kd.S_lower ho22 (below_size bl_)); have n1_ := Aside0.mk (blk_below (g := gb327) (o := .cells #[.slice none 0 0, .int .i64 0, .int .i64 0] 31 (0, 0)) bk_ hb); have n2_ := Aside0.mk (below_step bl_ hb); clear BK327; clear HB; have HO332 := n0_; have BK327 := n1_; have HB := n2_; clear n0_ n1_ n2_; clear hb ho22) | ((with_reducible refine gate_dst (N := 36) rfl ?_); refine Kd.R_make (Kd.int .i64) _ 3 rfl (N := 36) rfl 29 _ _ rfl ji13 rfl rfl Try.underlying29 (.int .i64 0) 8 info3 rfl (by decide) (by omega) 0 (ok := fun _ => True) (okp := fun _ => True) rfl (fun _ hk => hk) trivial od_ (Nat.le_trans (Nat.mul_le_mul_right _ (od_ : ji13.toNat ≤ 35184372088832)) (by omega)) (Below.refl _ _) (Nat.le_refl _) ?_; intro v334 w23 ho24 hb hg_ hnew_; clear hg_ hnew_; (first | rw [← Ny333.out] at ho24 | (simp only [Int.reduceToNat] at ho24; rw [← Ny333.out] at ho24)); have n0_ := Aside0.mk (Kd.S_elder' (by (with_reducible repeat (first | apply Kd.S_alloc | apply Kd.S_drewN | apply Kd.S_drew)); exact HO332.out) (Kd.R_base ho24) hb); have n1_ := Aside0.mk (Kd.R_lower ho24 (below_size bl_)); have n2_ := Aside0.mk (blk_below (g := gb327) (o := .cells #[.slice none 0 0, .int .i64 0, .int .i64 0] 31 (0, 0)) bk_ hb); have n3_ := Aside0.mk (below_step bl_ hb); clear HO332; clear BK327; clear HB; have HO332 := n0_; have HO335 := n1_; have BK327 := n2_; have HB := n3_; clear n0_ n1_ n2_ n3_; clear hb ho24; have p18 : 0 ≤ ((l0.length : Int) : Int) := od_; have q18 : ((l0.length : Int) : Int) < ((y330.length : Int) : Int) := od_; obtain ⟨go18, co18, eo18, gb18, gl18, cl18, HG18⟩ := Kd.S_form HO332.out (by omega); (first | cases eo18 | (injection eo18 with ea_ en_ ec_; (first | subst ea_ | (injection ea_ with ea_; subst ea_)); subst ec_; clear en_)); have GB18 := Aside0.mk gb18; have GG18 := Aside0.mk HG18; clear gb18 gl18 HG18; obtain ⟨_, ce18, hcl18, hM18, hcc18, hfr18, _, _⟩ := Kd.S_elem HO332.out [] ((l0.length : Int) : Int) p18 q18; obtain ⟨ve18_0, rfl, ge18_0⟩ := hM18; have hx18_0 := hcc18 0 _ rfl; have hf18_0 := hfr18 0; (try simp only [show ((Kd.slice 3 (Kd.int .i64))).sz = 1 from rfl, Nat.mul_one, Nat.add_zero] at hx18_0); (try simp only [show ((Kd.slice 3 (Kd.int .i64))).sz = 1 from rfl, Nat.mul_one, Nat.add_zero] at hf18_0); clear hcl18 hcc18 hfr18; (try clear hM18); replace p18 := eq_true p18; replace q18 := eq_true q18; have n_ := Aside0.mk (Kd.S_mono (ok' := (fun k_ => some k_ ≠ (v334 : Value).ownBlock)) HO332.out (fun k_ hk => hk.2)); clear HO332; have HO332 := n_; clear n_; have HX25 := Aside0.mk (show Kd.S (Kd.slice 3 (Kd.int .i64)) 29 w23 w.heap.size (fun k_ => ((fun _ => True)) k_ ∧ ¬ ((fun k_ => some k_ = (v334 : Value).ownBlock)) k_) (.slice (some ⟨go18, 0, none⟩) y330.length co18) y330 from (by (with_reducible repeat (first | apply Kd.S_alloc | apply Kd.S_drewN | apply Kd.S_drew)); exact Kd.S_mono HO332.out (fun k_ hk => ⟨trivial, fun e_ => hk e_⟩))); obtain ⟨oki25, ce25, hcl25, hM25, hcc25, hfr25, hoki25, hH25⟩ := Kd.S_elem HX25.out [] ((l0.length : Int) : Int) od_ (by have h_ : ((l0.length : Int) : Int) < ((y330.length : Int) : Int) := od_; first | exact h_ | (have e_ := (Kd.S_reads' HO332.out).1; omega) | simpa using h_); obtain ⟨ve25_0, rfl, ge25_0⟩ := hM25; have HP25 := Kd.S_seg hH25 od_ (by have h_ : ((l0.length : Int) : Int) < ((y330.length : Int) : Int) := od_; first | exact h_ | (have e_ := (Kd.S_reads' HO332.out).1; omega) | simpa using h_) (seg := [v334]) (j := 0) (show 1 ≤ 1 from by decide) (x' := y333) (Kd.M_row (Kd.R_mono (Kd.R_tight rfl (Kd.R_mono (ok' := fun k_ => ((fun _ => True)) k_ ∧ k_ ≠ go18) (Kd.R_apart' (HO335.out) (Kd.S_typed HO332.out) (by decide)) (fun k_ hk => ⟨trivial, fun e_ => (hk.2) (by rw [e_]; rfl)⟩))) (fun _ h_ => Or.inr (h_)))) (fun _ hk => hk) (fun k_ hk_ => ((Kd.R_mono (ok' := fun k_ => ((fun _ => True)) k_ ∧ k_ ≠ go18) (Kd.R_apart' (HO335.out) (Kd.S_typed HO332.out) (by decide)) (fun k_ hk => ⟨trivial, fun e_ => (hk.2) (by rw [e_]; rfl)⟩))).1 k_ hk_.symm); have hx25_0 := hcc25 0 _ rfl; (try simp only [show ((Kd.slice 3 (Kd.int .i64))).sz = 1 from rfl, Nat.mul_one, Nat.add_zero] at hx25_0); have hf25_0 := hfr25 0; (try simp only [show ((Kd.slice 3 (Kd.int .i64))).sz = 1 from rfl, Nat.mul_one, Nat.add_zero] at hf25_0); clear hcl25 hcc25 hfr25; (try clear hM25); clear hoki25 hH25; (try simp only [show ((Kd.slice 3 (Kd.int .i64))).sz = 1 from rfl, Nat.mul_one, Nat.add_zero] at HP25)) | ((with_reducible refine gate_store (t := 29) (p := 37) rfl ?_); refine store_event (t := 29) (p := 37) (v := ?vo_w26) (w1 := (w23.setCell ⟨go18, ((l0.length : Int) : Int).toNat, none⟩ (v334))) ?hg ?ho ?hn ?hr ?_; (case ho => rfl); (case hg => rfl); (case hn => rfl); (case hr => (try simp only [Int.toNat_natCast] at hx18_0 hf18_0); first | (go_simp; done) | (go_simp; rfl) | (obtain ⟨A_, c_, e_⟩ := Kd.R_slice HO335.out; subst e_; (first | (go_simp; done) | (go_simp; rfl)))); intro w26 hw; have hg : w23.grownBy w26 (some go18) := (by rw [hw]; exact HP25.2); have hp_ : Kd.S (Kd.slice 3 (Kd.int .i64)) 29 w26 w.heap.size (fun _ => True) (.slice (some ⟨go18, 0, none⟩) y330.length co18) y336 := (by rw [hw, Ny336.out]; exact HP25.1); clear HP25; have n0_ := Aside0.mk (blk_grown (g := gb327) (o := .cells #[.slice none 0 0, .int .i64 0, .int .i64 0] 31 (0, 0)) bk_ hg (Kd.S_ne HO332.out BK327.out (by decide))); have n1_ := Aside0.mk (hp_); have n2_ := Aside0.mk ((by rw [hw]; exact below_set (HB.out) GB18.out : Below w.heap.size w w26)); clear BK327; clear HO332; clear HB; clear HO335; have BK327 := n0_; have HO332 := n1_; have HB := n2_; clear n0_ n1_ n2_; clear hg hw hp_))
 go_loopg [7] k (fun kq v7 w' => ∃ (x6_1 : List (List Int)) (x7_1 : Int), v7 = .int .i64 x7_1 ∧ Aside0 (spec_BestShelf.l0 kq l0 a1 x6_1 x7_1 = some (r1, r2, r3, r4)) ∧ Aside0 (kq ≤ k) ∧ Aside0 (Kd.S (Kd.slice 3 (Kd.int .i64)) 29 w' w.heap.size (fun _ => True) (.slice (some ⟨go18, 0, none⟩) y330.length co18) x6_1) ∧ Aside0 (w'.heap[gb327]? = some (.cells #[(.slice none 0 0), .int .i64 0, .int .i64 0] 31 (0, 0))) ∧ Aside0 (Below w.heap.size w w'))
 case atStart => exact ⟨(y336), (wrap64 ((l0.length : Int) - 1)), (by first | rfl | (simp; done) | (simp [*]; done)), H', ⟨Nat.le_refl _⟩, ⟨by (with_reducible repeat (first | apply Kd.S_alloc | apply Kd.S_drewN | apply Kd.S_drew)); exact HO332.out⟩, ⟨by (with_reducible repeat (first | refine blk_drewN ?_ _ | refine blk_drew ?_ | refine blk_alloc ?_ _)); exact BK327.out⟩, ⟨by repeat (first | (with_reducible first | exact HB.out | apply below_alloc | apply pw_below_drewN | apply below_drew1 | refine below_set ?_ GE327.out) | exact HB.out)⟩⟩
 case round =>
  clear H'
  (try clear c1); (try clear p1); (try clear q1); (try clear hx1); (try clear c2); (try clear p2); (try clear hx2); (try clear hf2); (try clear c3); (try clear c3b0); (try clear c3b1); (try clear p6); (try clear c7); (try clear c8); (try clear c9); (try clear c11); (try clear c11b0); (try clear c11b1); (try clear c12); (try clear c12b0); (try clear c12b1); (try clear c14); (try clear c14b0); (try clear c14b1); (try clear c15); (try clear c15b0); (try clear c15b1); (try clear c16); (try clear c16b0); (try clear c16b1); (try clear c17); (try clear c17b0); (try clear c17b1); (try clear c18); (try clear p18); (try clear q18); (try clear hx18); (try clear hf18); (try clear c23); (try clear c25); (try clear hx25); (try clear hf25); (try clear c26); (try clear hcz5_0); (try clear hcz5_1); (try clear hcz5_2); (try clear hfz5_0); (try clear hfz5_1); (try clear hfz5_2); (try clear hx18_0); (try clear hx25_0)
  obtain ⟨x6_1, x7_1, rfl, HA, HK1, HO_6, BK327, HB⟩ := hrel
  have hl6_1 := (Kd.S_reads' HO_6.out).1
  rw [hl6_1] at HO_6
  (try simp only [hl6_1])
  (try simp only [hl6_1] at BK327)
  cases gk with
  | zero => exact absurd HA.out (by simp [spec_BestShelf.l0])
  | succ k1 =>
   have H := HA.out
   clear HA
   simp only [spec_BestShelf.l0] at H
   by_cases c27 : x7_1 ≥ 0
   ·rw [if_pos c27] at H
    have c27b0 : decide (0 ≤ x7_1) = true := decide_eq_true c27
    clear c27
    replace H : (if 0 ≤ (ji13) then (if (ji13 : Int).toNat ≤ 35184372088832 then (if 0 ≤ x7_1 then (if x7_1 < (x6_1.length : Int) then (spec_BestShelf.l1 k1 l0 a1 (x6_1.set (x7_1 : Int).toNat (List.replicate (ji13 : Int).toNat 0)) x7_1 0) else (none)) else (none)) else (none)) else (none)) = some (r1, r2, r3, r4) := by first | (rw [hji13] at H; exact H) | (simp only [hji13] at H ⊢; exact H)

    by_cases c29 : 0 ≤ (ji13)
    rotate_left
    ·rw [if_neg c29] at H
     exact absurd H (by simp)
    rw [if_pos c29] at H
    have c29b0 := eq_true c29
    have c29b1 : decide (0 ≤ (ji13)) = true := decide_eq_true c29
    clear c29
    by_cases c30 : (ji13 : Int).toNat ≤ 35184372088832
    rotate_left
    ·rw [if_neg c30] at H
     exact absurd H (by simp)
    rw [if_pos c30] at H
    have c30b0 := eq_true c30
    have c30b1 : decide ((ji13 : Int).toNat ≤ 35184372088832) = true := decide_eq_true c30
    clear c30
    obtain ⟨y337, hy337⟩ : ∃ y_ : List Int, y_ = (List.replicate (ji13 : Int).toNat 0) := ⟨_, rfl⟩
    replace H : (if 0 ≤ x7_1 then (if x7_1 < (x6_1.length : Int) then (spec_BestShelf.l1 k1 l0 a1 (x6_1.set (x7_1 : Int).toNat y337) x7_1 0) else (none)) else (none)) = some (r1, r2, r3, r4) := by first | (rw [hy337]; with_reducible exact H) | (have H2_ := (Option.bind_some _ _).symm.trans H; rw [hy337]; with_reducible exact H2_) | (have H2_ := (Option.bind_some _ _).symm.trans H; with_reducible exact H2_) | with_reducible exact H | (rw [hy337]; exact H) | exact H
    have Ny337 := Aside0.mk hy337
    clear hy337
    by_cases c31 : 0 ≤ x7_1
    rotate_left
    ·rw [if_neg c31] at H
     exact absurd H (by simp)
    rw [if_pos c31] at H
    have c31b0 : decide (0 ≤ x7_1) = true := decide_eq_true c31
    clear c31
    by_cases c32 : x7_1 < (x6_1.length : Int)
    rotate_left
    ·rw [if_neg c32] at H
     exact absurd H (by simp)
    rw [if_pos c32] at H
    have c32b0 : decide (x7_1 < (x6_1.length : Int)) = true := decide_eq_true c32
    clear c32
    obtain ⟨y340, hy340⟩ : ∃ y_ : List (List Int), y_ = (x6_1.set (x7_1 : Int).toNat y337) := ⟨_, rfl⟩
    replace H : (spec_BestShelf.l1 k1 l0 a1 y340 x7_1 0) = some (r1, r2, r3, r4) := by first | (rw [hy340]; with_reducible exact H) | (have H2_ := (Option.bind_some _ _).symm.trans H; rw [hy340]; with_reducible exact H2_) | (have H2_ := (Option.bind_some _ _).symm.trans H; with_reducible exact H2_) | with_reducible exact H | (rw [hy340]; exact H) | exact H
    have Ny340 := Aside0.mk hy340
    clear hy340
    have H' := Aside0.mk H
    clear H
    go_wp2_with (first | ((with_reducible refine gate_dst (N := 49) rfl ?_); refine Kd.R_make (Kd.int .i64) _ 3 rfl (N := 49) rfl 29 _ _ rfl ji13 rfl rfl Try.underlying29 (.int .i64 0) 8 info3 rfl (by decide) (by omega) 0 (ok := fun _ => True) (okp := fun _ => True) rfl (fun _ hk => hk) trivial od_ (Nat.le_trans (Nat.mul_le_mul_right _ (od_ : ji13.toNat ≤ 35184372088832)) (by omega)) (Below.refl _ _) (Nat.le_refl _) ?_; intro v338 w34 ho35 hb hg_ hnew_; clear hg_ hnew_; (first | rw [← Ny337.out] at ho35 | (simp only [Int.reduceToNat] at ho35; rw [← Ny337.out] at ho35)); have n0_ := Aside0.mk (Kd.S_elder' (by (with_reducible repeat (first | apply Kd.S_alloc | apply Kd.S_drewN | apply Kd.S_drew)); exact HO_6.out) (Kd.R_base ho35) hb); have n1_ := Aside0.mk (Kd.R_lower ho35 (below_size bl_)); have n2_ := Aside0.mk (blk_below (g := gb327) (o := .cells #[.slice none 0 0, .int .i64 0, .int .i64 0] 31 (0, 0)) bk_ hb); have n3_ := Aside0.mk (below_step bl_ hb); clear HO_6; clear BK327; clear HB; have HO_6 := n0_; have HO339 := n1_; have BK327 := n2_; have HB := n3_; clear n0_ n1_ n2_ n3_; clear hb ho35; have p33 : 0 ≤ (x7_1 : Int) := od_; have q33 : (x7_1 : Int) < ((x6_1.length : Int) : Int) := od_; obtain ⟨_, ce33, hcl33, hM33, hcc33, hfr33, _, _⟩ := Kd.S_elem HO_6.out [] (x7_1 : Int) p33 q33; obtain ⟨ve33_0, rfl, ge33_0⟩ := hM33; have hx33_0 := hcc33 0 _ rfl; have hf33_0 := hfr33 0; (try simp only [show ((Kd.slice 3 (Kd.int .i64))).sz = 1 from rfl, Nat.mul_one, Nat.add_zero] at hx33_0); (try simp only [show ((Kd.slice 3 (Kd.int .i64))).sz = 1 from rfl, Nat.mul_one, Nat.add_zero] at hf33_0); clear hcl33 hcc33 hfr33; (try clear hM33); replace p33 := eq_true p33; replace q33 := eq_true q33; have n_ := Aside0.mk (Kd.S_mono (ok' := (fun k_ => some k_ ≠ (v338 : Value).ownBlock)) HO_6.out (fun k_ hk => hk.2)); clear HO_6; have HO_6 := n_; clear n_; have HX36 := Aside0.mk (show Kd.S (Kd.slice 3 (Kd.int .i64)) 29 w34 w.heap.size (fun k_ => ((fun _ => True)) k_ ∧ ¬ ((fun k_ => some k_ = (v338 : Value).ownBlock)) k_) (.slice (some ⟨go18, 0, none⟩) x6_1.length co18) x6_1 from (by (with_reducible repeat (first | apply Kd.S_alloc | apply Kd.S_drewN | apply Kd.S_drew)); exact Kd.S_mono HO_6.out (fun k_ hk => ⟨trivial, fun e_ => hk e_⟩))); obtain ⟨oki36, ce36, hcl36, hM36, hcc36, hfr36, hoki36, hH36⟩ := Kd.S_elem HX36.out [] (x7_1 : Int) od_ (by have h_ : (x7_1 : Int) < ((x6_1.length : Int) : Int) := od_; first | exact h_ | (have e_ := (Kd.S_reads' HO_6.out).1; omega) | simpa using h_); obtain ⟨ve36_0, rfl, ge36_0⟩ := hM36; have HP36 := Kd.S_seg hH36 od_ (by have h_ : (x7_1 : Int) < ((x6_1.length : Int) : Int) := od_; first | exact h_ | (have e_ := (Kd.S_reads' HO_6.out).1; omega) | simpa using h_) (seg := [v338]) (j := 0) (show 1 ≤ 1 from by decide) (x' := y337) (Kd.M_row (Kd.R_mono (Kd.R_tight rfl (Kd.R_mono (ok' := fun k_ => ((fun _ => True)) k_ ∧ k_ ≠ go18) (Kd.R_apart' (HO339.out) (Kd.S_typed HO_6.out) (by decide)) (fun k_ hk => ⟨trivial, fun e_ => (hk.2) (by rw [e_]; rfl)⟩))) (fun _ h_ => Or.inr (h_)))) (fun _ hk => hk) (fun k_ hk_ => ((Kd.R_mono (ok' := fun k_ => ((fun _ => True)) k_ ∧ k_ ≠ go18) (Kd.R_apart' (HO339.out) (Kd.S_typed HO_6.out) (by decide)) (fun k_ hk => ⟨trivial, fun e_ => (hk.2) (by rw [e_]; rfl)⟩))).1 k_ hk_.symm); have hx36_0 := hcc36 0 _ rfl; (try simp only [show ((Kd.slice 3 (Kd.int .i64))).sz = 1 from rfl, Nat.mul_one, Nat.add_zero] at hx36_0); have hf36_0 := hfr36 0; (try simp only [show ((Kd.slice 3 (Kd.int .i64))).sz = 1 from rfl, Nat.mul_one, Nat.add_zero] at hf36_0); clear hcl36 hcc36 hfr36; (try clear hM36); clear hoki36 hH36; (try simp only [show ((Kd.slice 3 (Kd.int .i64))).sz = 1 from rfl, Nat.mul_one, Nat.add_zero] at HP36)) | ((with_reducible refine gate_store (t := 29) (p := 50) rfl ?_); refine store_event (t := 29) (p := 50) (v := ?vo_w37) (w1 := (w34.setCell ⟨go18, (x7_1 : Int).toNat, none⟩ (v338))) ?hg ?ho ?hn ?hr ?_; (case ho => rfl); (case hg => rfl); (case hn => rfl); (case hr => first | (go_simp; done) | (go_simp; rfl) | (obtain ⟨A_, c_, e_⟩ := Kd.R_slice HO339.out; subst e_; (first | (go_simp; done) | (go_simp; rfl)))); intro w37 hw; have hg : w34.grownBy w37 (some go18) := (by rw [hw]; exact HP36.2); have hp_ : Kd.S (Kd.slice 3 (Kd.int .i64)) 29 w37 w.heap.size (fun _ => True) (.slice (some ⟨go18, 0, none⟩) x6_1.length co18) y340 := (by rw [hw, Ny340.out]; exact HP36.1); clear HP36; have n0_ := Aside0.mk (hp_); have n1_ := Aside0.mk (blk_grown (g := gb327) (o := .cells #[.slice none 0 0, .int .i64 0, .int .i64 0] 31 (0, 0)) bk_ hg (Kd.S_ne HO_6.out BK327.out (by decide))); have n2_ := Aside0.mk ((by rw [hw]; exact below_set (HB.out) GB18.out : Below w.heap.size w w37)); clear HO_6; clear BK327; clear HB; clear HO339; have HO_6 := n0_; have BK327 := n1_; have HB := n2_; clear n0_ n1_ n2_; clear hg hw hp_))
    go_loopg [8] k1 (fun kq v8 w' => ∃ (x6_2 : List (List Int)) (x8_2 : Int), v8 = .int .i64 x8_2 ∧ Aside0 (spec_BestShelf.l1 kq l0 a1 x6_2 x7_1 x8_2 = some (r1, r2, r3, r4)) ∧ Aside0 (kq ≤ k1) ∧ Aside0 (Kd.S (Kd.slice 3 (Kd.int .i64)) 29 w' w.heap.size (fun _ => True) (.slice (some ⟨go18, 0, none⟩) x6_1.length co18) x6_2) ∧ Aside0 (w'.heap[gb327]? = some (.cells #[(.slice none 0 0), .int .i64 0, .int .i64 0] 31 (0, 0))) ∧ Aside0 (Below w.heap.size w w'))
    case atStart => exact ⟨(y340), (0), (by first | rfl | (simp; done) | (simp [*]; done)), H', ⟨Nat.le_refl _⟩, ⟨by (try simp only [hl6_1]); (with_reducible repeat (first | apply Kd.S_alloc | apply Kd.S_drewN | apply Kd.S_drew)); exact HO_6.out⟩, ⟨by (try simp only [hl6_1]); (with_reducible repeat (first | refine blk_drewN ?_ _ | refine blk_drew ?_ | refine blk_alloc ?_ _)); exact BK327.out⟩, ⟨by repeat (first | (with_reducible first | exact HB.out | apply below_alloc | apply pw_below_drewN | apply below_drew1 | refine below_set ?_ GE327.out) | exact HB.out)⟩⟩
    case round =>
     clear H'
     (try clear p3); (try clear q3); (try clear hx3); (try clear hf3); (try clear c27); (try clear c27b0); (try clear c29); (try clear c29b0); (try clear c29b1); (try clear c30); (try clear c30b0); (try clear c30b1); (try clear c31); (try clear c31b0); (try clear c32); (try clear c32b0); (try clear c33); (try clear p33); (try clear q33); (try clear hx33); (try clear hf33); (try clear c36); (try clear hx36); (try clear hf36); (try clear hx33_0); (try clear hx36_0)
     obtain ⟨x6_2, x8_2, rfl, HA, HK2, HO_6, BK327, HB⟩ := hrel
     have hl6_2 := (Kd.S_reads' HO_6.out).1
     rw [hl6_2] at HO_6
     (try simp only [hl6_2])
     (try simp only [hl6_2] at BK327)
     cases gk with
     | zero => exact absurd HA.out (by simp [spec_BestShelf.l1])
     | succ k2 =>
      have H := HA.out
      clear HA
      simp only [spec_BestShelf.l1] at H
      by_cases c38 : x8_2 ≤ a1
      rotate_left
      ·rw [if_neg c38] at H
       have c38b0 : decide (x8_2 ≤ a1) = false := decide_eq_false c38
       clear c38
       as_aux_lemma =>
        have H' := Aside0.mk H
        clear H
        go_wp2
        (try simp only [← hl6_1, ← hl6_2])
        go_roundg k2
        case measure => have := HK1.out; have := HK2.out; omega
        case rel => exact ⟨(x6_2), (wrap64 (x7_1 - 1)), (by first | rfl | (simp; done) | (simp [*]; done)), H', ⟨by have := HK1.out; have := HK2.out; omega⟩, ⟨by (try simp only [hl6_1]); (try simp only [hl6_2]); (with_reducible repeat (first | apply Kd.S_alloc | apply Kd.S_drewN | apply Kd.S_drew)); exact HO_6.out⟩, ⟨by (try simp only [hl6_1]); (try simp only [hl6_2]); (with_reducible repeat (first | refine blk_drewN ?_ _ | refine blk_drew ?_ | refine blk_alloc ?_ _)); exact BK327.out⟩, ⟨by repeat (first | (with_reducible first | exact HB.out | apply below_alloc | apply pw_below_drewN | apply below_drew1 | refine below_set ?_ GE327.out) | exact HB.out)⟩⟩
      rw [if_pos c38] at H
      have c38b0 : decide (x8_2 ≤ a1) = true := decide_eq_true c38
      clear c38
      by_cases c39 : 0 ≤ x7_1
      rotate_left
      ·rw [if_neg c39] at H
       exact absurd H (by simp)
      rw [if_pos c39] at H
      have c39b0 : decide (0 ≤ x7_1) = true := decide_eq_true c39
      clear c39
      by_cases c40 : x7_1 < (x6_2.length : Int)
      rotate_left
      ·rw [if_neg c40] at H
       exact absurd H (by simp)
      rw [if_pos c40] at H
      have c40b0 : decide (x7_1 < (x6_2.length : Int)) = true := decide_eq_true c40
      clear c40
      by_cases c41 : 0 ≤ x8_2
      rotate_left
      ·rw [if_neg c41] at H
       exact absurd H (by simp)
      rw [if_pos c41] at H
      have c41b0 : decide (0 ≤ x8_2) = true := decide_eq_true c41
      clear c41
      by_cases c42 : x8_2 < ((rd_L2 x6_2 x7_1).length : Int)
      rotate_left
      ·rw [if_neg c42] at H
       exact absurd H (by simp)
      rw [if_pos c42] at H
      have c42b0 : decide (x8_2 < ((rd_L2 x6_2 x7_1).length : Int)) = true := decide_eq_true c42
      clear c42
      obtain ⟨y342, hy342⟩ : ∃ y_ : List Int, y_ = ((rd_L2 x6_2 x7_1).set (x8_2 : Int).toNat (-1)) := ⟨_, rfl⟩
      replace H : (if x7_1 < (l0.length : Int) then (spec_BestShelf.l2 k2 l0 a1 (x6_2.set (x7_1 : Int).toNat y342) x7_1 x8_2 ((rd_T50 l0 x7_1).f2)) else (none)) = some (r1, r2, r3, r4) := by first | (rw [hy342]; with_reducible exact H) | (have H2_ := (Option.bind_some _ _).symm.trans H; rw [hy342]; with_reducible exact H2_) | (have H2_ := (Option.bind_some _ _).symm.trans H; with_reducible exact H2_) | with_reducible exact H | (rw [hy342]; exact H) | exact H
      have Ny342 := Aside0.mk hy342
      clear hy342
      obtain ⟨y344, hy344⟩ : ∃ y_ : List (List Int), y_ = (x6_2.set (x7_1 : Int).toNat y342) := ⟨_, rfl⟩
      replace H : (if x7_1 < (l0.length : Int) then (spec_BestShelf.l2 k2 l0 a1 y344 x7_1 x8_2 ((rd_T50 l0 x7_1).f2)) else (none)) = some (r1, r2, r3, r4) := by first | (rw [hy344]; with_reducible exact H) | (have H2_ := (Option.bind_some _ _).symm.trans H; rw [hy344]; with_reducible exact H2_) | (have H2_ := (Option.bind_some _ _).symm.trans H; with_reducible exact H2_) | with_reducible exact H | (rw [hy344]; exact H) | exact H
      have Ny344 := Aside0.mk hy344
      clear hy344
      by_cases c44 : x7_1 < (l0.length : Int)
      rotate_left
      ·rw [if_neg c44] at H
       exact absurd H (by simp)
      rw [if_pos c44] at H
      have c44b0 : decide (x7_1 < (l0.length : Int)) = true := decide_eq_true c44
      clear c44
      have H' := Aside0.mk H
      clear H
      have p341 : 0 ≤ (x7_1 : Int) := od_
      have q341 : x7_1 < (x6_2.length : Int) := od_
      obtain ⟨ad341, A341_0, c341_0, e341, hx341_0, hl341_0, hi341_0⟩ := at_L2 (Kd.S_reads' HO_6.out).2.2 x7_1 p341 q341
      obtain rfl : (⟨go18, 0, none⟩ : Addr) = ad341 := (by injection e341)
      obtain ⟨ce341, hce341, hMe341, hcc341⟩ := Kd.S_get HO_6.out [] x7_1 p341 (by first | exact q341 | exact od_ | (have e_ := (Kd.S_reads' HO_6.out).1; omega))
      obtain ⟨ve341_0, rfl, ge341_0⟩ := hMe341
      have hv341_0 := hcc341 0 _ rfl
      rw [Nat.add_zero, show ((Kd.slice 3 (Kd.int .i64))).sz = 1 from rfl, Nat.mul_one] at hv341_0
      replace hv341_0 := Option.some.inj (hv341_0.symm.trans hx341_0)
      rw [hv341_0] at ge341_0
      have HL341_0 := Aside0.mk (show Kd.R (Kd.int .i64) 3 _ _ _ _ (rd_L2 x6_2 x7_1) from ge341_0)
      clear hv341_0 ge341_0
      have HX341_0 := Aside0.mk hx341_0
      clear hcc341 hce341
      (first | simp only [add_plain] at hx341_0 | simp only [add_at] at hx341_0 | simp only [Addr.add, Nat.zero_add] at hx341_0 | skip)
      have HR341_0 := Aside0.mk hi341_0
      have HC341_0 := Aside0.mk hl341_0
      clear hi341_0 hl341_0
      replace p341 := eq_true p341
      replace q341 := eq_true q341
      have p43 : 0 ≤ (x8_2 : Int) := od_
      have q43 : (x8_2 : Int) < (((rd_L2 x6_2 x7_1).length : Int) : Int) := od_
      obtain ⟨go43, co43, eo43, gb43, gl43, cl43, HG43⟩ := Kd.R_form HL341_0.out (by omega)
      (first | cases eo43 | (injection eo43 with ea_ en_ ec_; (first | subst ea_ | (injection ea_ with ea_; subst ea_)); subst ec_; clear en_))
      have GB43 := Aside0.mk gb43
      have GG43 := Aside0.mk HG43
      clear gb43 gl43 HG43
      obtain ⟨hx43_0, hf43_0⟩ := Kd.R_celln 0 HL341_0.out (x8_2 : Int) p43 q43
      replace p43 := eq_true p43
      replace q43 := eq_true q43
      have hq45 : (x7_1 : Int) < (x6_2.length : Int) := (by have h_ : (x7_1 : Int) < ((x6_2.length : Int) : Int) := od_; first | exact h_ | (have e_ := (Kd.S_reads' HO_6.out).1; omega) | simpa only [List.length_set, List.length_set] using h_)
      obtain ⟨oki45, ce45, hcl45, hM45, hcc45, hok45, hbk45⟩ := Kd.S_borrow HO_6.out [] (x7_1 : Int) od_ hq45
      obtain ⟨ve45_0, rfl, ge45_0⟩ := hM45
      have hv45 := hcc45 0 _ rfl
      rw [Nat.add_zero, show ((Kd.slice 3 (Kd.int .i64))).sz = 1 from rfl, Nat.mul_one] at hv45
      replace hv45 := Option.some.inj (hv45.symm.trans HX341_0.out)
      subst hv45
      clear hcc45 hcl45
      replace ge45_0 := (show Kd.R (Kd.int .i64) 3 _ _ _ _ (rd_L2 x6_2 x7_1) from ge45_0)
      have HP45 := Kd.R_putg ge45_0 (x8_2 : Int) (-1)
      go_wp2_with (first | ((with_reducible refine gate_store (t := 3) (p := 61) rfl ?_); refine store_event (t := 3) (p := 61) (v := ?vo_w46) (w1 := (wr.setCell ⟨go43, (x8_2 : Int).toNat, none⟩ (.int .i64 (-1)))) ?hg ?ho ?hn ?hr ?_; (case ho => rfl); (case hg => rfl); (case hn => rfl); (case hr => first | (go_simp; done) | (go_simp; rfl)); intro w46 hw; have hg : wr.grownBy w46 (some go43) := (by rw [hw]; exact HP45.2); have hz_ : Kd.R (Kd.int .i64) 3 w46 w.heap.size oki45 (.slice (some ⟨go43, 0, none⟩) (rd_L2 x6_2 x7_1).length c341_0) y342 := (by rw [hw, Ny342.out]; exact HP45.1); have hp_ : Kd.S (Kd.slice 3 (Kd.int .i64)) 29 w46 w.heap.size (fun _ => True) (.slice (some ⟨go18, 0, none⟩) x6_2.length co18) y344 := (by rw [Ny344.out]; exact hbk45 hg (fun k_ e_ => by injection e_ with e_; subst e_; exact ge45_0.1 _ rfl) (Kd.M_row hz_)); have hm_ := Kd.R_mono hz_ hok45; clear HP45 hbk45; have n0_ := Aside0.mk (hp_); have n1_ := Aside0.mk (blk_grown (g := gb327) (o := .cells #[.slice none 0 0, .int .i64 0, .int .i64 0] 31 (0, 0)) bk_ hg (Kd.R_ne HL341_0.out BK327.out (by decide))); have n2_ := Aside0.mk ((by rw [hw]; exact below_set (HB.out) GB43.out : Below w.heap.size w w46)); have n3_ := Aside0.mk (hm_); have n4_ := Aside0.mk ((Kd.R_reads' hm_).2.1); clear HO_6; clear BK327; clear HB; clear HL341_0; have HO_6 := n0_; have BK327 := n1_; have HB := n2_; have HL386 := n3_; have HC343 := n4_; clear n0_ n1_ n2_ n3_ n4_; clear hg hw hp_ hz_ hm_ hok45; have p345 : 0 ≤ (x7_1 : Int) := od_; have q345 : x7_1 < (l0.length : Int) := od_; obtain ⟨ad345, A345_3, c345_3, e345, hx345_0, hx345_1, hx345_2, hx345_3, hl345_3, hi345_3⟩ := at_T50 HR0.out x7_1 p345 q345; cases e345; replace hx345_0 := (HB.out.cell (World.block_lt_of_cell? w _ hx345_0)).trans hx345_0; replace hx345_1 := (HB.out.cell (World.block_lt_of_cell? w _ hx345_1)).trans hx345_1; replace hx345_2 := (HB.out.cell (World.block_lt_of_cell? w _ hx345_2)).trans hx345_2; replace hx345_3 := (HB.out.cell (World.block_lt_of_cell? w _ hx345_3)).trans hx345_3; have HR345_3 := Aside0.mk hi345_3; have HC345_3 := Aside0.mk hl345_3; clear hi345_3 hl345_3; replace p345 := eq_true p345; replace q345 := eq_true q345))
      go_loopg [9] k2 (fun kq v9 w' => ∃ (x6_3 : List (List Int)) (x9_3 : Int), v9 = .int .i64 x9_3 ∧ Aside0 (spec_BestShelf.l2 kq l0 a1 x6_3 x7_1 x8_2 x9_3 = some (r1, r2, r3, r4)) ∧ Aside0 (kq ≤ k2) ∧ Aside0 (Kd.S (Kd.slice 3 (Kd.int .i64)) 29 w' w.heap.size (fun _ => True) (.slice (some ⟨go18, 0, none⟩) x6_2.length co18) x6_3) ∧ Aside0 (w'.heap[gb327]? = some (.cells #[(.slice none 0 0), .int .i64 0, .int .i64 0] 31 (0, 0))) ∧ Aside0 (Below w.heap.size w w'))
      case atStart => exact ⟨(y344), ((rd_T50 l0 x7_1).f2), (by first | rfl | (simp; done) | (simp [*]; done)), H', ⟨Nat.le_refl _⟩, ⟨by (try simp only [hl6_1]); (try simp only [hl6_2]); (with_reducible repeat (first | apply Kd.S_alloc | apply Kd.S_drewN | apply Kd.S_drew)); exact HO_6.out⟩, ⟨by (try simp only [hl6_1]); (try simp only [hl6_2]); (with_reducible repeat (first | refine blk_drewN ?_ _ | refine blk_drew ?_ | refine blk_alloc ?_ _)); exact BK327.out⟩, ⟨by repeat (first | (with_reducible first | exact HB.out | apply below_alloc | apply pw_below_drewN | apply below_drew1 | refine below_set ?_ GE327.out) | exact HB.out)⟩⟩
      case round =>
       clear H'
       (try clear c4); (try clear p4); (try clear q4); (try clear hx4); (try clear hf4); (try clear c34); (try clear p34); (try clear q34); (try clear hx34); (try clear c38); (try clear c38b0); (try clear c39); (try clear c39b0); (try clear c40); (try clear c40b0); (try clear c41); (try clear c41b0); (try clear c42); (try clear c42b0); (try clear p43); (try clear q43); (try clear hx43); (try clear hf43); (try clear c44); (try clear c44b0); (try clear c45); (try clear q45); (try clear hx341_0); (try clear hx345_0); (try clear hx345_1); (try clear hx345_2); (try clear hx345_3); (try clear hx43_0); (try clear p341); (try clear p345); (try clear q341); (try clear q345)
       obtain ⟨x6_3, x9_3, rfl, HA, HK3, HO_6, BK327, HB⟩ := hrel
       have hl6_3 := (Kd.S_reads' HO_6.out).1
       rw [hl6_3] at HO_6
       (try simp only [hl6_3])
       (try simp only [hl6_3] at BK327)
       cases gk with
       | zero => exact absurd HA.out (by simp [spec_BestShelf.l2])
       | succ k3 =>
        have H := HA.out
        clear HA
        simp only [spec_BestShelf.l2] at H
        have HC47 := Aside0.mk H
        clear H
        go_upto_region 18 with (fail)
        go_cut [85] (fun v85 wc => ∃ (kq : Nat) (x85_46 : Bool), v85 = .bool x85_46 ∧ Aside0 (spec_BestShelf.j3 kq l0 a1 x6_3 x7_1 x8_2 x9_3 x85_46 = some (r1, r2, r3, r4)) ∧ Aside0 (kq ≤ k3) ∧ Aside0 (Kd.S (Kd.slice 3 (Kd.int .i64)) 29 wc w.heap.size (fun _ => True) (.slice (some ⟨go18, 0, none⟩) x6_3.length co18) x6_3) ∧ Aside0 (wc.heap[gb327]? = some (.cells #[(.slice none 0 0), .int .i64 0, .int .i64 0] 31 (0, 0))) ∧ Aside0 (Below w.heap.size w wc))
        case first =>
         have H := HC47.out
         clear HC47
         by_cases c48 : 0 ≤ x7_1
         rotate_left
         ·rw [if_neg c48] at H
          exact absurd H (by simp)
         rw [if_pos c48] at H
         have c48b0 : decide (0 ≤ x7_1) = true := decide_eq_true c48
         clear c48
         (first | rw [c48b0] | (simp only [i64_w, i32_w]; rw [c48b0]) | skip)
         by_cases c49 : x7_1 < (l0.length : Int)
         rotate_left
         ·rw [if_neg c49] at H
          exact absurd H (by simp)
         rw [if_pos c49] at H
         have c49b0 : decide (x7_1 < (l0.length : Int)) = true := decide_eq_true c49
         clear c49
         by_cases c50 : x9_3 ≤ (((rd_T50 l0 x7_1).f3).length : Int)
         rotate_left
         ·rw [if_neg c50] at H
          have c50b0 : decide (x9_3 ≤ (((rd_T50 l0 x7_1).f3).length : Int)) = false := decide_eq_false c50
          clear c50
          as_aux_lemma =>
           have H' := Aside0.mk H
           clear H
           have p346 : 0 ≤ (x7_1 : Int) := od_
           have q346 : x7_1 < (l0.length : Int) := od_
           obtain ⟨ad346, A346_3, c346_3, e346, hx346_0, hx346_1, hx346_2, hx346_3, hl346_3, hi346_3⟩ := at_T50 HR0.out x7_1 p346 q346
           obtain rfl : ad345 = ad346 := (by injection e346)
           replace hx346_0 := (HB.out.cell (World.block_lt_of_cell? w _ hx346_0)).trans hx346_0
           replace hx346_1 := (HB.out.cell (World.block_lt_of_cell? w _ hx346_1)).trans hx346_1
           replace hx346_2 := (HB.out.cell (World.block_lt_of_cell? w _ hx346_2)).trans hx346_2
           replace hx346_3 := (HB.out.cell (World.block_lt_of_cell? w _ hx346_3)).trans hx346_3
           have HR346_3 := Aside0.mk hi346_3
           have HC346_3 := Aside0.mk hl346_3
           clear hi346_3 hl346_3
           replace p346 := eq_true p346
           replace q346 := eq_true q346
           go_wp2
           go_meet
           case rel => exact ⟨_, (false), (by first | rfl | (simp; done) | (simp [*]; done)), H', ⟨by have := HK1.out; have := HK2.out; have := HK3.out; first | omega | exact Nat.le_refl _⟩, ⟨by (try simp only [hl6_1]); (try simp only [hl6_2]); (try simp only [hl6_3]); (with_reducible repeat (first | apply Kd.S_alloc | apply Kd.S_drewN | apply Kd.S_drew)); exact HO_6.out⟩, ⟨by (try simp only [hl6_1]); (try simp only [hl6_2]); (try simp only [hl6_3]); (with_reducible repeat (first | refine blk_drewN ?_ _ | refine blk_drew ?_ | refine blk_alloc ?_ _)); exact BK327.out⟩, ⟨by repeat (first | (with_reducible first | exact HB.out | apply below_alloc | apply pw_below_drewN | apply below_drew1 | refine below_set ?_ GE327.out) | exact HB.out)⟩⟩
         rw [if_pos c50] at H
         have c50b0 : decide (x9_3 ≤ (((rd_T50 l0 x7_1).f3).length : Int)) = true := decide_eq_true c50
         clear c50
         as_aux_lemma =>
          have H' := Aside0.mk H
          clear H
          have p346 : 0 ≤ (x7_1 : Int) := od_
          have q346 : x7_1 < (l0.length : Int) := od_
          obtain ⟨ad346, A346_3, c346_3, e346, hx346_0, hx346_1, hx346_2, hx346_3, hl346_3, hi346_3⟩ := at_T50 HR0.out x7_1 p346 q346
          obtain rfl : ad345 = ad346 := (by injection e346)
          replace hx346_0 := (HB.out.cell (World.block_lt_of_cell? w _ hx346_0)).trans hx346_0
          replace hx346_1 := (HB.out.cell (World.block_lt_of_cell? w _ hx346_1)).trans hx346_1
          replace hx346_2 := (HB.out.cell (World.block_lt_of_cell? w _ hx346_2)).trans hx346_2
          replace hx346_3 := (HB.out.cell (World.block_lt_of_cell? w _ hx346_3)).trans hx346_3
          have HR346_3 := Aside0.mk hi346_3
          have HC346_3 := Aside0.mk hl346_3
          clear hi346_3 hl346_3
          replace p346 := eq_true p346
          replace q346 := eq_true q346
          have p347 : 0 ≤ (x7_1 : Int) := od_
          have q347 : x7_1 < (l0.length : Int) := od_
          obtain ⟨ad347, A347_3, c347_3, e347, hx347_0, hx347_1, hx347_2, hx347_3, hl347_3, hi347_3⟩ := at_T50 HR0.out x7_1 p347 q347
          obtain rfl : ad345 = ad347 := (by injection e347)
          replace hx347_0 := (HB.out.cell (World.block_lt_of_cell? w _ hx347_0)).trans hx347_0
          replace hx347_1 := (HB.out.cell (World.block_lt_of_cell? w _ hx347_1)).trans hx347_1
          replace hx347_2 := (HB.out.cell (World.block_lt_of_cell? w _ hx347_2)).trans hx347_2
          replace hx347_3 := (HB.out.cell (World.block_lt_of_cell? w _ hx347_3)).trans hx347_3
          have HR347_3 := Aside0.mk hi347_3
          have HC347_3 := Aside0.mk hl347_3
          clear hi347_3 hl347_3
          replace p347 := eq_true p347
          replace q347 := eq_true q347
          have ea_ := Option.some.inj (hx346_3.symm.trans hx347_3)
          injection ea_ with ea_ en_ ec_
          subst ea_
          subst ec_
          clear en_
          go_wp2
          go_meet
          case rel => exact ⟨_, (decide ((wrap64 (x9_3 * ((rd_T50 l0 x7_1).f1))) ≤ x8_2)), (by first | rfl | (simp; done) | (simp [*]; done)), H', ⟨by have := HK1.out; have := HK2.out; have := HK3.out; first | omega | exact Nat.le_refl _⟩, ⟨by (try simp only [hl6_1]); (try simp only [hl6_2]); (try simp only [hl6_3]); (with_reducible repeat (first | apply Kd.S_alloc | apply Kd.S_drewN | apply Kd.S_drew)); exact HO_6.out⟩, ⟨by (try simp only [hl6_1]); (try simp only [hl6_2]); (try simp only [hl6_3]); (with_reducible repeat (first | refine blk_drewN ?_ _ | refine blk_drew ?_ | refine blk_alloc ?_ _)); exact BK327.out⟩, ⟨by repeat (first | (with_reducible first | exact HB.out | apply below_alloc | apply pw_below_drewN | apply below_drew1 | refine below_set ?_ GE327.out) | exact HB.out)⟩⟩
        case rest =>
         clear HC47
         (try clear c5); (try clear c48); (try clear c48b0); (try clear c49); (try clear c49b0); (try clear c50); (try clear c50b0); (try clear hx346_0); (try clear hx346_1); (try clear hx346_2); (try clear hx346_3); (try clear hx347_0); (try clear hx347_1); (try clear hx347_2); (try clear hx347_3); (try clear p346); (try clear p347); (try clear q346); (try clear q347)
         obtain ⟨kq, x85_46, rfl, HA, HJ46, HO_6, BK327, HB⟩ := hcut
         cases kq with
         | zero => exact absurd HA.out (by simp [spec_BestShelf.j3])
         | succ kj46 =>
          have H := HA.out
          clear HA
          simp only [spec_BestShelf.j3] at H
          by_cases c51 : x85_46 = true
          rotate_left
          ·replace c51 := Bool.eq_false_iff.mpr c51
           subst c51
           have H1 : (spec_BestShelf.l1 kj46 l0 a1 x6_3 x7_1 (wrap64 (x8_2 + 1))) = some (r1, r2, r3, r4) := by rw [if_neg (show ¬ (false = true) by decide)] at H; exact H
           clear H
           have H := H1
           clear H1
           as_aux_lemma =>
            have H' := Aside0.mk H
            clear H
            go_wp2
            (try simp only [← hl6_2, ← hl6_3])
            go_roundg kj46
            case measure => have := HK1.out; have := HK2.out; have := HK3.out; have := HJ46.out; omega
            case rel => exact ⟨(x6_3), (wrap64 (x8_2 + 1)), (by first | rfl | (simp; done) | (simp [*]; done)), H', ⟨by have := HK1.out; have := HK2.out; have := HK3.out; have := HJ46.out; omega⟩, ⟨by (try simp only [hl6_1]); (try simp only [hl6_2]); (try simp only [hl6_3]); (with_reducible repeat (first | apply Kd.S_alloc | apply Kd.S_drewN | apply Kd.S_drew)); exact HO_6.out⟩, ⟨by (try simp only [hl6_1]); (try simp only [hl6_2]); (try simp only [hl6_3]); (with_reducible repeat (first | refine blk_drewN ?_ _ | refine blk_drew ?_ | refine blk_alloc ?_ _)); exact BK327.out⟩, ⟨by repeat (first | (with_reducible first | exact HB.out | apply below_alloc | apply pw_below_drewN | apply below_drew1 | refine below_set ?_ GE327.out) | exact HB.out)⟩⟩
          subst c51
          have H1 : (if 0 ≤ (wrap64 (x7_1 + 1)) then (if (wrap64 (x7_1 + 1)) < (x6_3.length : Int) then (if 0 ≤ x7_1 then (if x7_1 < (l0.length : Int) then (if 0 ≤ (wrap64 (x8_2 - (wrap64 (x9_3 * ((rd_T50 l0 x7_1).f1))))) then (if (wrap64 (x8_2 - (wrap64 (x9_3 * ((rd_T50 l0 x7_1).f1))))) < ((rd_L2 x6_3 (wrap64 (x7_1 + 1))).length : Int) then (if (rd (rd_L2 x6_3 (wrap64 (x7_1 + 1))) (wrap64 (x8_2 - (wrap64 (x9_3 * ((rd_T50 l0 x7_1).f1)))))) ≥ 0 then (if x7_1 < (x6_3.length : Int) then (if 0 ≤ x8_2 then (if x8_2 < ((rd_L2 x6_3 x7_1).length : Int) then ((spec_l13Gain.f kj46 ((rd_T50 l0 x7_1).f0) ((rd_T50 l0 x7_1).f1) ((rd_T50 l0 x7_1).f2) ((rd_T50 l0 x7_1).f3) x9_3).bind fun t355 => (spec_BestShelf.l2 kj46 l0 a1 (x6_3.set (x7_1 : Int).toNat ((rd_L2 x6_3 x7_1).set (x8_2 : Int).toNat (mx (rd (rd_L2 x6_3 x7_1) x8_2) (wrap64 ((rd (rd_L2 x6_3 (wrap64 (x7_1 + 1))) (wrap64 (x8_2 - (wrap64 (x9_3 * ((rd_T50 l0 x7_1).f1)))))) + t355))))) x7_1 x8_2 (wrap64 (x9_3 + 1)))) else (none)) else (none)) else (none)) else (spec_BestShelf.l2 kj46 l0 a1 x6_3 x7_1 x8_2 (wrap64 (x9_3 + 1)))) else (none)) else (none)) else (none)) else (none)) else (none)) else (none)) = some (r1, r2, r3, r4) := by rw [if_pos rfl] at H; exact H
          clear H
          have H := H1
          clear H1
          obtain ⟨ji52, hji52⟩ : ∃ j_ : Int, (wrap64 (x7_1 + 1)) = j_ := ⟨_, rfl⟩
          replace H : (if 0 ≤ (ji52) then (if (ji52) < (x6_3.length : Int) then (if 0 ≤ x7_1 then (if x7_1 < (l0.length : Int) then (if 0 ≤ (wrap64 (x8_2 - (wrap64 (x9_3 * ((rd_T50 l0 x7_1).f1))))) then (if (wrap64 (x8_2 - (wrap64 (x9_3 * ((rd_T50 l0 x7_1).f1))))) < ((rd_L2 x6_3 (ji52)).length : Int) then (if (rd (rd_L2 x6_3 (ji52)) (wrap64 (x8_2 - (wrap64 (x9_3 * ((rd_T50 l0 x7_1).f1)))))) ≥ 0 then (if x7_1 < (x6_3.length : Int) then (if 0 ≤ x8_2 then (if x8_2 < ((rd_L2 x6_3 x7_1).length : Int) then ((spec_l13Gain.f kj46 ((rd_T50 l0 x7_1).f0) ((rd_T50 l0 x7_1).f1) ((rd_T50 l0 x7_1).f2) ((rd_T50 l0 x7_1).f3) x9_3).bind fun t355 => (spec_BestShelf.l2 kj46 l0 a1 (x6_3.set (x7_1 : Int).toNat ((rd_L2 x6_3 x7_1).set (x8_2 : Int).toNat (mx (rd (rd_L2 x6_3 x7_1) x8_2) (wrap64 ((rd (rd_L2 x6_3 (ji52)) (wrap64 (x8_2 - (wrap64 (x9_3 * ((rd_T50 l0 x7_1).f1)))))) + t355))))) x7_1 x8_2 (wrap64 (x9_3 + 1)))) else (none)) else (none)) else (none)) else (spec_BestShelf.l2 kj46 l0 a1 x6_3 x7_1 x8_2 (wrap64 (x9_3 + 1)))) else (none)) else (none)) else (none)) else (none)) else (none)) else (none)) = some (r1, r2, r3, r4) := by first | (rw [hji52] at H; exact H) | (simp only [hji52] at H ⊢; exact H)
          have hji52w : (IntKind.i64.wrap (x7_1 + 1)) = ji52 := (i64_w _).trans hji52
          by_cases c53 : 0 ≤ (ji52)
          rotate_left
          ·rw [if_neg c53] at H
           exact absurd H (by simp)
          rw [if_pos c53] at H
          have c53b0 : decide (0 ≤ (ji52)) = true := decide_eq_true c53
          clear c53
          by_cases c54 : (ji52) < (x6_3.length : Int)
          rotate_left
          ·rw [if_neg c54] at H
           exact absurd H (by simp)
          rw [if_pos c54] at H
          have c54b0 : decide ((ji52) < (x6_3.length : Int)) = true := decide_eq_true c54
          clear c54
          by_cases c55 : 0 ≤ x7_1
          rotate_left
          ·rw [if_neg c55] at H
           exact absurd H (by simp)
          rw [if_pos c55] at H
          have c55b0 : decide (0 ≤ x7_1) = true := decide_eq_true c55
          clear c55
          by_cases c56 : x7_1 < (l0.length : Int)
          rotate_left
          ·rw [if_neg c56] at H
           exact absurd H (by simp)
          rw [if_pos c56] at H
          have c56b0 : decide (x7_1 < (l0.length : Int)) = true := decide_eq_true c56
          clear c56
          obtain ⟨ji57, hji57⟩ : ∃ j_ : Int, (wrap64 (x8_2 - (wrap64 (x9_3 * ((rd_T50 l0 x7_1).f1))))) = j_ := ⟨_, rfl⟩
          replace H : (if 0 ≤ (ji57) then (if (ji57) < ((rd_L2 x6_3 (ji52)).length : Int) then (if (rd (rd_L2 x6_3 (ji52)) (ji57)) ≥ 0 then (if x7_1 < (x6_3.length : Int) then (if 0 ≤ x8_2 then (if x8_2 < ((rd_L2 x6_3 x7_1).length : Int) then ((spec_l13Gain.f kj46 ((rd_T50 l0 x7_1).f0) ((rd_T50 l0 x7_1).f1) ((rd_T50 l0 x7_1).f2) ((rd_T50 l0 x7_1).f3) x9_3).bind fun t355 => (spec_BestShelf.l2 kj46 l0 a1 (x6_3.set (x7_1 : Int).toNat ((rd_L2 x6_3 x7_1).set (x8_2 : Int).toNat (mx (rd (rd_L2 x6_3 x7_1) x8_2) (wrap64 ((rd (rd_L2 x6_3 (ji52)) (ji57)) + t355))))) x7_1 x8_2 (wrap64 (x9_3 + 1)))) else (none)) else (none)) else (none)) else (spec_BestShelf.l2 kj46 l0 a1 x6_3 x7_1 x8_2 (wrap64 (x9_3 + 1)))) else (none)) else (none)) = some (r1, r2, r3, r4) := by first | (rw [hji57] at H; exact H) | (simp only [hji57] at H ⊢; exact H)
          have hji57w : (IntKind.i64.wrap (x8_2 - (wrap64 (x9_3 * ((rd_T50 l0 x7_1).f1))))) = ji57 := (i64_w _).trans hji57
          by_cases c58 : 0 ≤ (ji57)
          rotate_left
          ·rw [if_neg c58] at H
           exact absurd H (by simp)
          rw [if_pos c58] at H
          have c58b0 : decide (0 ≤ (ji57)) = true := decide_eq_true c58
          clear c58
          by_cases c59 : (ji57) < ((rd_L2 x6_3 (ji52)).length : Int)
          rotate_left
          ·rw [if_neg c59] at H
           exact absurd H (by simp)
          rw [if_pos c59] at H
          have c59b0 : decide ((ji57) < ((rd_L2 x6_3 (ji52)).length : Int)) = true := decide_eq_true c59
          clear c59
          by_cases c60 : (rd (rd_L2 x6_3 (ji52)) (ji57)) ≥ 0
          rotate_left
          ·rw [if_neg c60] at H
           have c60b0 : decide (0 ≤ (rd (rd_L2 x6_3 (ji52)) (ji57))) = false := decide_eq_false c60
           clear c60
           as_aux_lemma =>
            have H' := Aside0.mk H
            clear H
            try go_wp2
            have n0_ := Aside0.mk (Kd.S_drew HO_6.out)
            have n1_ := Aside0.mk (blk_drew BK327.out)
            have n2_ := Aside0.mk (below_drew1 HB.out)
            clear HO_6
            clear BK327
            clear HB
            have HO_6 := n0_
            have BK327 := n1_
            have HB := n2_
            clear n0_ n1_ n2_
            have p348 : 0 ≤ ((ji52) : Int) := od_
            have q348 : (ji52) < (x6_3.length : Int) := od_
            obtain ⟨ad348, A348_0, c348_0, e348, hx348_0, hl348_0, hi348_0⟩ := at_L2 (Kd.S_reads' HO_6.out).2.2 (ji52) p348 q348
            obtain rfl : (⟨go18, 0, none⟩ : Addr) = ad348 := (by injection e348)
            obtain ⟨ce348, hce348, hMe348, hcc348⟩ := Kd.S_get HO_6.out [] (ji52) p348 (by first | exact q348 | exact od_ | (have e_ := (Kd.S_reads' HO_6.out).1; omega))
            obtain ⟨ve348_0, rfl, ge348_0⟩ := hMe348
            have hv348_0 := hcc348 0 _ rfl
            rw [Nat.add_zero, show ((Kd.slice 3 (Kd.int .i64))).sz = 1 from rfl, Nat.mul_one] at hv348_0
            replace hv348_0 := Option.some.inj (hv348_0.symm.trans hx348_0)
            rw [hv348_0] at ge348_0
            have HL348_0 := Aside0.mk (show Kd.R (Kd.int .i64) 3 _ _ _ _ (rd_L2 x6_3 (ji52)) from ge348_0)
            clear hv348_0 ge348_0
            have HX348_0 := Aside0.mk hx348_0
            clear hcc348 hce348
            (first | simp only [add_plain] at hx348_0 | simp only [add_at] at hx348_0 | simp only [Addr.add, Nat.zero_add] at hx348_0 | skip)
            have HR348_0 := Aside0.mk hi348_0
            have HC348_0 := Aside0.mk hl348_0
            clear hi348_0 hl348_0
            replace p348 := eq_true p348
            replace q348 := eq_true q348
            have p349 : 0 ≤ (x7_1 : Int) := od_
            have q349 : x7_1 < (l0.length : Int) := od_
            obtain ⟨ad349, A349_3, c349_3, e349, hx349_0, hx349_1, hx349_2, hx349_3, hl349_3, hi349_3⟩ := at_T50 HR0.out x7_1 p349 q349
            have hw349_3 := hx349_3
            have hw349_2 := hx349_2
            have hw349_1 := hx349_1
            have hw349_0 := hx349_0
            obtain rfl : ad345 = ad349 := (by injection e349)
            replace hx349_0 := (HB.out.cell (World.block_lt_of_cell? w _ hx349_0)).trans hx349_0
            replace hx349_1 := (HB.out.cell (World.block_lt_of_cell? w _ hx349_1)).trans hx349_1
            replace hx349_2 := (HB.out.cell (World.block_lt_of_cell? w _ hx349_2)).trans hx349_2
            replace hx349_3 := (HB.out.cell (World.block_lt_of_cell? w _ hx349_3)).trans hx349_3
            have HR349_3 := Aside0.mk hi349_3
            have HC349_3 := Aside0.mk hl349_3
            clear hi349_3 hl349_3
            replace p349 := eq_true p349
            replace q349 := eq_true q349
            have p350 : 0 ≤ ((ji57) : Int) := od_
            have q350 : (ji57) < ((rd_L2 x6_3 (ji52)).length : Int) := od_
            obtain ⟨ad350, e350, hx350_0⟩ := Kd.at_int (by repeat (first | (with_reducible exact HR348_0.out) | (with_reducible refine Kd.C_alloc ?_ _) | (with_reducible refine Kd.C_drewN ?_ _) | (with_reducible refine Kd.C_drew ?_) | exact HR348_0.out)) (ji57) p350 q350
            cases e350
            replace p350 := eq_true p350
            replace q350 := eq_true q350
            refine start_ (n := 17) (S := fun w' => w'.cell? ⟨go18, ((ji52)).toNat, none⟩ = some (.slice (some ad350) (rd_L2 x6_3 (ji52)).length c348_0) ∧ w'.cell? (ad345.add ((x7_1).toNat * 4)) = some (.string ((rd_T50 l0 x7_1).f0)) ∧ w'.cell? ⟨(ad345.add ((x7_1).toNat * 4)).block, (ad345.add ((x7_1).toNat * 4)).off + 1, none⟩ = some (.int .i64 ((rd_T50 l0 x7_1).f1)) ∧ w'.cell? ⟨(ad345.add ((x7_1).toNat * 4)).block, (ad345.add ((x7_1).toNat * 4)).off + 2, none⟩ = some (.int .i64 ((rd_T50 l0 x7_1).f2)) ∧ w'.cell? ⟨(ad345.add ((x7_1).toNat * 4)).block, (ad345.add ((x7_1).toNat * 4)).off + 3, none⟩ = some (.slice A349_3 ((rd_T50 l0 x7_1).f3).length c349_3) ∧ w'.cell? (ad350.add ((ji57)).toNat) = some (.int .i64 (rd (rd_L2 x6_3 (ji52)) (ji57)))) (ds := []) (msk 0 17) (by kernel_rfl) rfl rfl ⟨hx348_0, ((HB.out.cell (World.block_lt_of_cell? w _ hw349_0)).trans hw349_0), ((HB.out.cell (World.block_lt_of_cell? w _ hw349_1)).trans hw349_1), ((HB.out.cell (World.block_lt_of_cell? w _ hw349_2)).trans hw349_2), ((HB.out.cell (World.block_lt_of_cell? w _ hw349_3)).trans hw349_3), hx350_0⟩ (fun hHeld => ?_); refine with_tabW spec_BestShelf.tab20 spec_BestShelf.bits20 (fun HT_ HW_ => ?_)
            generalize wc.drew = w72 at HO_6 BK327 HB HL348_0 HR348_0 HR349_3 HX348_0 hx348_0 hx349_0 hx349_1 hx349_2 hx349_3 hx350_0 hHeld ⊢
            refine pu_ 0 88 (msk 1 16) HT_.out ?_; refine pu_ 1 89 (msk 2 15) HT_.out ?_; refine pu_ 2 90 (msk 3 14) HT_.out ?_; refine pu_ 3 91 (msk 4 13) HT_.out ?_; refine pu_ 5 93 (mskl 17 4 [5]) HT_.out ?_; refine pu_ 6 94 (mskl 17 4 [5, 6]) HT_.out ?_; refine pu_ 7 95 (mskl 17 4 [5, 6, 7]) HT_.out ?_; refine pu_ 8 96 (mskl 17 4 [5, 6, 7, 8]) HT_.out ?_; refine pu_ 9 97 (mskl 17 4 [5, 6, 7, 8, 9]) HT_.out ?_; refine pu_ 10 98 (mskl 17 4 [5, 6, 7, 8, 9, 10]) HT_.out ?_
            refine tk_ 4 92 (msk 11 6) HT_.out HW_.out hHeld ?_ (hy := by rintro w' ⟨s0, s1, s2, s3, s4, s5⟩; go_simp; with_reducible rfl)
            refine tk_ 11 99 (msk 12 5) HT_.out HW_.out hHeld ?_ (hy := by rintro w' ⟨s0, s1, s2, s3, s4, s5⟩; go_simp; with_reducible rfl)
            refine pu_ 12 100 (msk 13 4) HT_.out ?_; refine pu_ 13 101 (msk 14 3) HT_.out ?_; refine pu_ 14 102 (msk 15 2) HT_.out ?_
            refine tk_ 15 103 (msk 16 1) HT_.out HW_.out hHeld ?_ (hy := by rintro w' ⟨s0, s1, s2, s3, s4, s5⟩; go_simp; with_reducible rfl)
            refine pu_ 16 10 (msk 17 0) HT_.out ?_
            refine done_ (done_of HT_.out (by kernel_rfl)) ?_
            try go_wp2
            (try simp only [← hl6_3])
            go_roundg kj46
            case measure => have := HK1.out; have := HK2.out; have := HK3.out; have := HJ46.out; omega
            case rel => exact ⟨(x6_3), (wrap64 (x9_3 + 1)), (by first | rfl | (simp; done) | (simp [*]; done)), H', ⟨by have := HK1.out; have := HK2.out; have := HK3.out; have := HJ46.out; omega⟩, ⟨by (try simp only [hl6_1]); (try simp only [hl6_2]); (try simp only [hl6_3]); (with_reducible repeat (first | apply Kd.S_alloc | apply Kd.S_drewN | apply Kd.S_drew)); exact HO_6.out⟩, ⟨by (try simp only [hl6_1]); (try simp only [hl6_2]); (try simp only [hl6_3]); (with_reducible repeat (first | refine blk_drewN ?_ _ | refine blk_drew ?_ | refine blk_alloc ?_ _)); exact BK327.out⟩, ⟨by repeat (first | (with_reducible first | exact HB.out | apply below_alloc | apply pw_below_drewN | apply below_drew1 | refine below_set ?_ GE327.out) | exact HB.out)⟩⟩
          rw [if_pos c60] at H
          have c60b0 : decide (0 ≤ (rd (rd_L2 x6_3 (ji52)) (ji57))) = true := decide_eq_true c60
          clear c60
          by_cases c61 : x7_1 < (x6_3.length : Int)
          rotate_left
          ·rw [if_neg c61] at H
           exact absurd H (by simp)
          rw [if_pos c61] at H
          have c61b0 : decide (x7_1 < (x6_3.length : Int)) = true := decide_eq_true c61
          clear c61
          by_cases c62 : 0 ≤ x8_2
          rotate_left
          ·rw [if_neg c62] at H
           exact absurd H (by simp)
          rw [if_pos c62] at H
          have c62b0 : decide (0 ≤ x8_2) = true := decide_eq_true c62
          clear c62
          by_cases c63 : x8_2 < ((rd_L2 x6_3 x7_1).length : Int)
          rotate_left
          ·rw [if_neg c63] at H
           exact absurd H (by simp)
          rw [if_pos c63] at H
          have c63b0 : decide (x8_2 < ((rd_L2 x6_3 x7_1).length : Int)) = true := decide_eq_true c63
          clear c63
          replace H := Option.bind_eq_some_iff.mp H
          obtain ⟨t355, A640, H⟩ := H
          replace H : (spec_BestShelf.l2 kj46 l0 a1 (x6_3.set (x7_1 : Int).toNat ((rd_L2 x6_3 x7_1).set (x8_2 : Int).toNat (mx (rd (rd_L2 x6_3 x7_1) x8_2) (wrap64 ((rd (rd_L2 x6_3 (ji52)) (ji57)) + t355))))) x7_1 x8_2 (wrap64 (x9_3 + 1))) = some (r1, r2, r3, r4) := H
          have A64 := Aside0.mk A640
          clear A640
          obtain ⟨ji65, hji65⟩ : ∃ j_ : Int, (mx (rd (rd_L2 x6_3 x7_1) x8_2) (wrap64 ((rd (rd_L2 x6_3 (ji52)) (ji57)) + t355))) = j_ := ⟨_, rfl⟩
          replace H : (spec_BestShelf.l2 kj46 l0 a1 (x6_3.set (x7_1 : Int).toNat ((rd_L2 x6_3 x7_1).set (x8_2 : Int).toNat (ji65))) x7_1 x8_2 (wrap64 (x9_3 + 1))) = some (r1, r2, r3, r4) := by first | (rw [hji65] at H; exact H) | (simp only [hji65] at H ⊢; exact H)
          (try rw [hji65] at A64)
          have hji65_ : (if (rd (rd_L2 x6_3 x7_1) x8_2) < (wrap64 ((rd (rd_L2 x6_3 (ji52)) (ji57)) + t355)) then (wrap64 ((rd (rd_L2 x6_3 (ji52)) (ji57)) + t355)) else (rd (rd_L2 x6_3 x7_1) x8_2)) = ji65 := hji65
          obtain ⟨y356, hy356⟩ : ∃ y_ : List Int, y_ = ((rd_L2 x6_3 x7_1).set (x8_2 : Int).toNat (ji65)) := ⟨_, rfl⟩
          replace H : (spec_BestShelf.l2 kj46 l0 a1 (x6_3.set (x7_1 : Int).toNat y356) x7_1 x8_2 (wrap64 (x9_3 + 1))) = some (r1, r2, r3, r4) := by first | (rw [hy356]; with_reducible exact H) | (have H2_ := (Option.bind_some _ _).symm.trans H; rw [hy356]; with_reducible exact H2_) | (have H2_ := (Option.bind_some _ _).symm.trans H; with_reducible exact H2_) | with_reducible exact H | (rw [hy356]; exact H) | exact H
          have Ny356 := Aside0.mk hy356
          clear hy356
          obtain ⟨y358, hy358⟩ : ∃ y_ : List (List Int), y_ = (x6_3.set (x7_1 : Int).toNat y356) := ⟨_, rfl⟩
          replace H : (spec_BestShelf.l2 kj46 l0 a1 y358 x7_1 x8_2 (wrap64 (x9_3 + 1))) = some (r1, r2, r3, r4) := by first | (rw [hy358]; with_reducible exact H) | (have H2_ := (Option.bind_some _ _).symm.trans H; rw [hy358]; with_reducible exact H2_) | (have H2_ := (Option.bind_some _ _).symm.trans H; with_reducible exact H2_) | with_reducible exact H | (rw [hy358]; exact H) | exact H
          have Ny358 := Aside0.mk hy358
          clear hy358
          as_aux_lemma =>
           have H' := Aside0.mk H
           clear H
           try go_wp2
           have n0_ := Aside0.mk (Kd.S_drew HO_6.out)
           have n1_ := Aside0.mk (blk_drew BK327.out)
           have n2_ := Aside0.mk (below_drew1 HB.out)
           clear HO_6
           clear BK327
           clear HB
           have HO_6 := n0_
           have BK327 := n1_
           have HB := n2_
           clear n0_ n1_ n2_
           have p348 : 0 ≤ ((ji52) : Int) := od_
           have q348 : (ji52) < (x6_3.length : Int) := od_
           obtain ⟨ad348, A348_0, c348_0, e348, hx348_0, hl348_0, hi348_0⟩ := at_L2 (Kd.S_reads' HO_6.out).2.2 (ji52) p348 q348
           obtain rfl : (⟨go18, 0, none⟩ : Addr) = ad348 := (by injection e348)
           obtain ⟨ce348, hce348, hMe348, hcc348⟩ := Kd.S_get HO_6.out [] (ji52) p348 (by first | exact q348 | exact od_ | (have e_ := (Kd.S_reads' HO_6.out).1; omega))
           obtain ⟨ve348_0, rfl, ge348_0⟩ := hMe348
           have hv348_0 := hcc348 0 _ rfl
           rw [Nat.add_zero, show ((Kd.slice 3 (Kd.int .i64))).sz = 1 from rfl, Nat.mul_one] at hv348_0
           replace hv348_0 := Option.some.inj (hv348_0.symm.trans hx348_0)
           rw [hv348_0] at ge348_0
           have HL348_0 := Aside0.mk (show Kd.R (Kd.int .i64) 3 _ _ _ _ (rd_L2 x6_3 (ji52)) from ge348_0)
           clear hv348_0 ge348_0
           have HX348_0 := Aside0.mk hx348_0
           clear hcc348 hce348
           (first | simp only [add_plain] at hx348_0 | simp only [add_at] at hx348_0 | simp only [Addr.add, Nat.zero_add] at hx348_0 | skip)
           have HR348_0 := Aside0.mk hi348_0
           have HC348_0 := Aside0.mk hl348_0
           clear hi348_0 hl348_0
           replace p348 := eq_true p348
           replace q348 := eq_true q348
           have p349 : 0 ≤ (x7_1 : Int) := od_
           have q349 : x7_1 < (l0.length : Int) := od_
           obtain ⟨ad349, A349_3, c349_3, e349, hx349_0, hx349_1, hx349_2, hx349_3, hl349_3, hi349_3⟩ := at_T50 HR0.out x7_1 p349 q349
           have hw349_3 := hx349_3
           have hw349_2 := hx349_2
           have hw349_1 := hx349_1
           have hw349_0 := hx349_0
           obtain rfl : ad345 = ad349 := (by injection e349)
           replace hx349_0 := (HB.out.cell (World.block_lt_of_cell? w _ hx349_0)).trans hx349_0
           replace hx349_1 := (HB.out.cell (World.block_lt_of_cell? w _ hx349_1)).trans hx349_1
           replace hx349_2 := (HB.out.cell (World.block_lt_of_cell? w _ hx349_2)).trans hx349_2
           replace hx349_3 := (HB.out.cell (World.block_lt_of_cell? w _ hx349_3)).trans hx349_3
           have HR349_3 := Aside0.mk hi349_3
           have HC349_3 := Aside0.mk hl349_3
           clear hi349_3 hl349_3
           replace p349 := eq_true p349
           replace q349 := eq_true q349
           have p350 : 0 ≤ ((ji57) : Int) := od_
           have q350 : (ji57) < ((rd_L2 x6_3 (ji52)).length : Int) := od_
           obtain ⟨ad350, e350, hx350_0⟩ := Kd.at_int (by repeat (first | (with_reducible exact HR348_0.out) | (with_reducible refine Kd.C_alloc ?_ _) | (with_reducible refine Kd.C_drewN ?_ _) | (with_reducible refine Kd.C_drew ?_) | exact HR348_0.out)) (ji57) p350 q350
           cases e350
           replace p350 := eq_true p350
           replace q350 := eq_true q350
           refine start_ (n := 17) (S := fun w' => w'.cell? ⟨go18, ((ji52)).toNat, none⟩ = some (.slice (some ad350) (rd_L2 x6_3 (ji52)).length c348_0) ∧ w'.cell? (ad345.add ((x7_1).toNat * 4)) = some (.string ((rd_T50 l0 x7_1).f0)) ∧ w'.cell? ⟨(ad345.add ((x7_1).toNat * 4)).block, (ad345.add ((x7_1).toNat * 4)).off + 1, none⟩ = some (.int .i64 ((rd_T50 l0 x7_1).f1)) ∧ w'.cell? ⟨(ad345.add ((x7_1).toNat * 4)).block, (ad345.add ((x7_1).toNat * 4)).off + 2, none⟩ = some (.int .i64 ((rd_T50 l0 x7_1).f2)) ∧ w'.cell? ⟨(ad345.add ((x7_1).toNat * 4)).block, (ad345.add ((x7_1).toNat * 4)).off + 3, none⟩ = some (.slice A349_3 ((rd_T50 l0 x7_1).f3).length c349_3) ∧ w'.cell? (ad350.add ((ji57)).toNat) = some (.int .i64 (rd (rd_L2 x6_3 (ji52)) (ji57)))) (ds := []) (msk 0 17) (by kernel_rfl) rfl rfl ⟨hx348_0, ((HB.out.cell (World.block_lt_of_cell? w _ hw349_0)).trans hw349_0), ((HB.out.cell (World.block_lt_of_cell? w _ hw349_1)).trans hw349_1), ((HB.out.cell (World.block_lt_of_cell? w _ hw349_2)).trans hw349_2), ((HB.out.cell (World.block_lt_of_cell? w _ hw349_3)).trans hw349_3), hx350_0⟩ (fun hHeld => ?_); refine with_tabW spec_BestShelf.tab20 spec_BestShelf.bits20 (fun HT_ HW_ => ?_)
           generalize wc.drew = w67 at HO_6 BK327 HB HL348_0 HR348_0 HR349_3 HX348_0 hx348_0 hx349_0 hx349_1 hx349_2 hx349_3 hx350_0 hHeld ⊢
           refine pu_ 0 88 (msk 1 16) HT_.out ?_; refine pu_ 1 89 (msk 2 15) HT_.out ?_; refine pu_ 2 90 (msk 3 14) HT_.out ?_; refine pu_ 3 91 (msk 4 13) HT_.out ?_; refine pu_ 5 93 (mskl 17 4 [5]) HT_.out ?_; refine pu_ 6 94 (mskl 17 4 [5, 6]) HT_.out ?_; refine pu_ 7 95 (mskl 17 4 [5, 6, 7]) HT_.out ?_; refine pu_ 8 96 (mskl 17 4 [5, 6, 7, 8]) HT_.out ?_; refine pu_ 9 97 (mskl 17 4 [5, 6, 7, 8, 9]) HT_.out ?_; refine pu_ 10 98 (mskl 17 4 [5, 6, 7, 8, 9, 10]) HT_.out ?_
           refine tk_ 4 92 (msk 11 6) HT_.out HW_.out hHeld ?_ (hy := by rintro w' ⟨s0, s1, s2, s3, s4, s5⟩; go_simp; with_reducible rfl)
           refine tk_ 11 99 (msk 12 5) HT_.out HW_.out hHeld ?_ (hy := by rintro w' ⟨s0, s1, s2, s3, s4, s5⟩; go_simp; with_reducible rfl)
           refine pu_ 12 100 (msk 13 4) HT_.out ?_; refine pu_ 13 101 (msk 14 3) HT_.out ?_; refine pu_ 14 102 (msk 15 2) HT_.out ?_
           refine tk_ 15 103 (msk 16 1) HT_.out HW_.out hHeld ?_ (hy := by rintro w' ⟨s0, s1, s2, s3, s4, s5⟩; go_simp; with_reducible rfl)
           refine pu_ 16 10 (msk 17 0) HT_.out ?_
           refine done_ (done_of HT_.out (by kernel_rfl)) ?_
           try go_wp2
           have n0_ := Aside0.mk (Kd.S_drew HO_6.out)
           have n1_ := Aside0.mk (Kd.R_drew HL348_0.out)
           have n2_ := Aside0.mk (blk_drew BK327.out)
           have n3_ := Aside0.mk (Kd.C_drew HR348_0.out)
           have n4_ := Aside0.mk (below_drew1 HB.out)
           clear HO_6
           clear HL348_0
           clear BK327
           clear HR348_0
           clear HB
           have HO_6 := n0_
           have HL348_0 := n1_
           have BK327 := n2_
           have HR348_0 := n3_
           have HB := n4_
           clear n0_ n1_ n2_ n3_ n4_
           have p351 : 0 ≤ (x7_1 : Int) := od_
           have q351 : x7_1 < (x6_3.length : Int) := od_
           obtain ⟨ad351, A351_0, c351_0, e351, hx351_0, hl351_0, hi351_0⟩ := at_L2 (Kd.S_reads' HO_6.out).2.2 x7_1 p351 q351
           obtain rfl : (⟨go18, 0, none⟩ : Addr) = ad351 := (by injection e351)
           obtain ⟨ce351, hce351, hMe351, hcc351⟩ := Kd.S_get HO_6.out [] x7_1 p351 (by first | exact q351 | exact od_ | (have e_ := (Kd.S_reads' HO_6.out).1; omega))
           obtain ⟨ve351_0, rfl, ge351_0⟩ := hMe351
           have hv351_0 := hcc351 0 _ rfl
           rw [Nat.add_zero, show ((Kd.slice 3 (Kd.int .i64))).sz = 1 from rfl, Nat.mul_one] at hv351_0
           replace hv351_0 := Option.some.inj (hv351_0.symm.trans hx351_0)
           rw [hv351_0] at ge351_0
           have HL351_0 := Aside0.mk (show Kd.R (Kd.int .i64) 3 _ _ _ _ (rd_L2 x6_3 x7_1) from ge351_0)
           clear hv351_0 ge351_0
           have HX351_0 := Aside0.mk hx351_0
           clear hcc351 hce351
           (first | simp only [add_plain] at hx351_0 | simp only [add_at] at hx351_0 | simp only [Addr.add, Nat.zero_add] at hx351_0 | skip)
           have HR351_0 := Aside0.mk hi351_0
           have HC351_0 := Aside0.mk hl351_0
           clear hi351_0 hl351_0
           replace p351 := eq_true p351
           replace q351 := eq_true q351
           have p352 : 0 ≤ (x7_1 : Int) := od_
           have q352 : x7_1 < (x6_3.length : Int) := od_
           obtain ⟨ad352, A352_0, c352_0, e352, hx352_0, hl352_0, hi352_0⟩ := at_L2 (Kd.S_reads' HO_6.out).2.2 x7_1 p352 q352
           obtain rfl : (⟨go18, 0, none⟩ : Addr) = ad352 := (by injection e352)
           obtain ⟨ce352, hce352, hMe352, hcc352⟩ := Kd.S_get HO_6.out [] x7_1 p352 (by first | exact q352 | exact od_ | (have e_ := (Kd.S_reads' HO_6.out).1; omega))
           obtain ⟨ve352_0, rfl, ge352_0⟩ := hMe352
           have hv352_0 := hcc352 0 _ rfl
           rw [Nat.add_zero, show ((Kd.slice 3 (Kd.int .i64))).sz = 1 from rfl, Nat.mul_one] at hv352_0
           replace hv352_0 := Option.some.inj (hv352_0.symm.trans hx352_0)
           rw [hv352_0] at ge352_0
           have HL352_0 := Aside0.mk (show Kd.R (Kd.int .i64) 3 _ _ _ _ (rd_L2 x6_3 x7_1) from ge352_0)
           clear hv352_0 ge352_0
           have HX352_0 := Aside0.mk hx352_0
           clear hcc352 hce352
           (first | simp only [add_plain] at hx352_0 | simp only [add_at] at hx352_0 | simp only [Addr.add, Nat.zero_add] at hx352_0 | skip)
           have HR352_0 := Aside0.mk hi352_0
           have HC352_0 := Aside0.mk hl352_0
           clear hi352_0 hl352_0
           replace p352 := eq_true p352
           replace q352 := eq_true q352
           have ea_ := Option.some.inj (hx351_0.symm.trans hx352_0)
           injection ea_ with ea_ en_ ec_
           subst ea_
           subst ec_
           clear en_
           have p353 : 0 ≤ (x8_2 : Int) := od_
           have q353 : x8_2 < ((rd_L2 x6_3 x7_1).length : Int) := od_
           obtain ⟨ad353, e353, hx353_0⟩ := Kd.at_int (by repeat (first | (with_reducible exact HR352_0.out) | (with_reducible refine Kd.C_alloc ?_ _) | (with_reducible refine Kd.C_drewN ?_ _) | (with_reducible refine Kd.C_drew ?_) | exact HR352_0.out)) x8_2 p353 q353
           cases e353
           replace p353 := eq_true p353
           replace q353 := eq_true q353
           have p354 : 0 ≤ (x7_1 : Int) := od_
           have q354 : x7_1 < (l0.length : Int) := od_
           obtain ⟨ad354, A354_3, c354_3, e354, hx354_0, hx354_1, hx354_2, hx354_3, hl354_3, hi354_3⟩ := at_T50 HR0.out x7_1 p354 q354
           have hw354_3 := hx354_3
           have hw354_2 := hx354_2
           have hw354_1 := hx354_1
           have hw354_0 := hx354_0
           obtain rfl : ad345 = ad354 := (by injection e354)
           replace hx354_0 := (HB.out.cell (World.block_lt_of_cell? w _ hx354_0)).trans hx354_0
           replace hx354_1 := (HB.out.cell (World.block_lt_of_cell? w _ hx354_1)).trans hx354_1
           replace hx354_2 := (HB.out.cell (World.block_lt_of_cell? w _ hx354_2)).trans hx354_2
           replace hx354_3 := (HB.out.cell (World.block_lt_of_cell? w _ hx354_3)).trans hx354_3
           have HR354_3 := Aside0.mk hi354_3
           have HC354_3 := Aside0.mk hl354_3
           clear hi354_3 hl354_3
           replace p354 := eq_true p354
           replace q354 := eq_true q354
           refine start_ (n := 23) (S := fun w' => w'.cell? ⟨go18, (x7_1).toNat, none⟩ = some (.slice (some ad353) (rd_L2 x6_3 x7_1).length c351_0) ∧ w'.cell? ⟨go18, (x7_1).toNat, none⟩ = some (.slice (some ad353) (rd_L2 x6_3 x7_1).length c351_0) ∧ w'.cell? (ad353.add (x8_2).toNat) = some (.int .i64 (rd (rd_L2 x6_3 x7_1) x8_2)) ∧ w'.cell? (ad345.add ((x7_1).toNat * 4)) = some (.string ((rd_T50 l0 x7_1).f0)) ∧ w'.cell? ⟨(ad345.add ((x7_1).toNat * 4)).block, (ad345.add ((x7_1).toNat * 4)).off + 1, none⟩ = some (.int .i64 ((rd_T50 l0 x7_1).f1)) ∧ w'.cell? ⟨(ad345.add ((x7_1).toNat * 4)).block, (ad345.add ((x7_1).toNat * 4)).off + 2, none⟩ = some (.int .i64 ((rd_T50 l0 x7_1).f2)) ∧ w'.cell? ⟨(ad345.add ((x7_1).toNat * 4)).block, (ad345.add ((x7_1).toNat * 4)).off + 3, none⟩ = some (.slice A354_3 ((rd_T50 l0 x7_1).f3).length c354_3)) (ds := [22]) (msk 0 23) (by kernel_rfl) rfl rfl ⟨hx351_0, hx352_0, hx353_0, ((HB.out.cell (World.block_lt_of_cell? w _ hw354_0)).trans hw354_0), ((HB.out.cell (World.block_lt_of_cell? w _ hw354_1)).trans hw354_1), ((HB.out.cell (World.block_lt_of_cell? w _ hw354_2)).trans hw354_2), ((HB.out.cell (World.block_lt_of_cell? w _ hw354_3)).trans hw354_3)⟩ (fun hHeld => ?_); refine with_tabW spec_BestShelf.tab22 spec_BestShelf.bits22 (fun HT_ HW_ => ?_)
           generalize w67.drew = w68 at HO_6 HL348_0 BK327 HR348_0 HB HL351_0 HL352_0 HR351_0 HR352_0 HR354_3 HX351_0 HX352_0 hx351_0 hx352_0 hx353_0 hx354_0 hx354_1 hx354_2 hx354_3 hHeld ⊢
           refine pu_ 0 106 (msk 1 22) HT_.out ?_; refine pu_ 1 107 (msk 2 21) HT_.out ?_; refine pu_ 2 108 (msk 3 20) HT_.out ?_; refine pu_ 4 110 (mskl 23 3 [4]) HT_.out ?_; refine pu_ 5 111 (mskl 23 3 [4, 5]) HT_.out ?_; refine pu_ 6 112 (mskl 23 3 [4, 5, 6]) HT_.out ?_; refine pu_ 7 113 (mskl 23 3 [4, 5, 6, 7]) HT_.out ?_; refine pu_ 9 115 (mskl 23 3 [4, 5, 6, 7, 9]) HT_.out ?_; refine pu_ 12 118 (mskl 23 3 [4, 5, 6, 7, 9, 12]) HT_.out ?_; refine pu_ 13 119 (mskl 23 3 [4, 5, 6, 7, 9, 12, 13]) HT_.out ?_; refine pu_ 14 120 (mskl 23 3 [4, 5, 6, 7, 9, 12, 13, 14]) HT_.out ?_; refine pu_ 15 121 (mskl 23 3 [4, 5, 6, 7, 9, 12, 13, 14, 15]) HT_.out ?_; refine pu_ 17 123 (mskl 23 3 [4, 5, 6, 7, 9, 12, 13, 14, 15, 17]) HT_.out ?_
           refine tk_ 3 109 (mskl 23 8 [9, 12, 13, 14, 15, 17]) HT_.out HW_.out hHeld ?_ (hy := by rintro w' ⟨s0, s1, s2, s3, s4, s5, s6⟩; go_simp; with_reducible rfl)
           refine tk_ 8 114 (mskl 23 10 [12, 13, 14, 15, 17]) HT_.out HW_.out hHeld ?_ (hy := by rintro w' ⟨s0, s1, s2, s3, s4, s5, s6⟩; go_simp; with_reducible rfl)
           refine pu_ 10 116 (mskl 23 11 [12, 13, 14, 15, 17]) HT_.out ?_
           refine tk_ 11 117 (mskl 23 16 [17]) HT_.out HW_.out hHeld ?_ (hy := by rintro w' ⟨s0, s1, s2, s3, s4, s5, s6⟩; go_simp; with_reducible rfl)
           refine tk_ 16 122 (msk 18 5) HT_.out HW_.out hHeld ?_ (hy := by rintro w' ⟨s0, s1, s2, s3, s4, s5, s6⟩; go_simp; with_reducible rfl)
           refine one_ (i := 18) (N := some 124) (msk 19 4) rfl rfl (one_of HT_.out (by kernel_rfl)) (by decide) (fun K hK => ?_)
           refine goes_ Try.func31 (by kernel_rfl) rfl #[.agg #[.string ((rd_T50 l0 x7_1).f0), .int .i64 ((rd_T50 l0 x7_1).f1), .int .i64 ((rd_T50 l0 x7_1).f2), .slice A354_3 ((rd_T50 l0 x7_1).f3).length c354_3], .int .i64 x9_3] (by rfl) rfl rfl (by (try simp only [List.map_toArray, List.map_cons, List.map_nil]); first | done | rfl | (simp only [List.length_drop, List.length_take]; rfl)) ?_
           with_reducible refine (spec_l13Gain.calls kj46 ((rd_T50 l0 x7_1).f0) ((rd_T50 l0 x7_1).f1) ((rd_T50 l0 x7_1).f2) _ _ ((rd_T50 l0 x7_1).f3) x9_3 t355 _ ?side1 ?side2 A64.out).mono ?_
           (case side1 => repeat (first | exact (Kd.C_below HR354_3.out HB.out) | (with_reducible refine Kd.C_alloc ?_ _) | (with_reducible refine Kd.C_drewN ?_ _) | (with_reducible refine Kd.C_drew ?_)))
           (case side2 => exact HC354_3.out)
           rintro e w69 ⟨rfl, hb⟩
           have HS0_ := (hb.cell (World.block_lt_of_cell? _ _ (hHeld.1))).trans (hHeld.1)
           have HS1_ := (hb.cell (World.block_lt_of_cell? _ _ (hHeld.2.1))).trans (hHeld.2.1)
           have HS2_ := (hb.cell (World.block_lt_of_cell? _ _ (hHeld.2.2.1))).trans (hHeld.2.2.1)
           refine ⟨_, rfl, ?_⟩
           have n0_ := Aside0.mk (Kd.S_below (by (with_reducible repeat (first | apply Kd.S_alloc | apply Kd.S_drewN | apply Kd.S_drew)); exact HO_6.out) hb)
           have n1_ := Aside0.mk (Kd.R_below (by (with_reducible repeat (first | apply Kd.R_alloc | apply Kd.R_drewN | apply Kd.R_drew)); exact HL348_0.out) hb)
           have n2_ := Aside0.mk (Kd.R_below (by (with_reducible repeat (first | apply Kd.R_alloc | apply Kd.R_drewN | apply Kd.R_drew)); exact HL351_0.out) hb)
           have n3_ := Aside0.mk (Kd.R_below (by (with_reducible repeat (first | apply Kd.R_alloc | apply Kd.R_drewN | apply Kd.R_drew)); exact HL352_0.out) hb)
           have n4_ := Aside0.mk (blk_below (g := gb327) (o := .cells #[.slice none 0 0, .int .i64 0, .int .i64 0] 31 (0, 0)) bk_ hb)
           have n5_ := Aside0.mk (Kd.C_below (by repeat (first | (with_reducible exact HR348_0.out) | (with_reducible refine Kd.C_alloc ?_ _) | (with_reducible refine Kd.C_drewN ?_ _) | (with_reducible refine Kd.C_drew ?_) | exact HR348_0.out)) hb)
           have n6_ := Aside0.mk (Kd.C_below (by repeat (first | (with_reducible exact HR351_0.out) | (with_reducible refine Kd.C_alloc ?_ _) | (with_reducible refine Kd.C_drewN ?_ _) | (with_reducible refine Kd.C_drew ?_) | exact HR351_0.out)) hb)
           have n7_ := Aside0.mk (pw_cell_below hb HX351_0.out)
           have n8_ := Aside0.mk (Kd.C_below (by repeat (first | (with_reducible exact HR352_0.out) | (with_reducible refine Kd.C_alloc ?_ _) | (with_reducible refine Kd.C_drewN ?_ _) | (with_reducible refine Kd.C_drew ?_) | exact HR352_0.out)) hb)
           have n9_ := Aside0.mk (pw_cell_below hb HX352_0.out)
           have n10_ := Aside0.mk (below_step bl_ hb)
           clear HO_6
           clear HL348_0
           clear HL351_0
           clear HL352_0
           clear BK327
           clear HR348_0
           clear HR351_0
           clear HX351_0
           clear HR352_0
           clear HX352_0
           clear HB
           have HO_6 := n0_
           have HL348_0 := n1_
           have HL351_0 := n2_
           have HL352_0 := n3_
           have BK327 := n4_
           have HR348_0 := n5_
           have HR351_0 := n6_
           have HX351_0 := n7_
           have HR352_0 := n8_
           have HX352_0 := n9_
           have HB := n10_
           clear n0_ n1_ n2_ n3_ n4_ n5_ n6_ n7_ n8_ n9_ n10_
           (try clear hb)
           (try clear hb2)
           (try clear hk)
           (try clear hi)
           have p66 : 0 ≤ (x8_2 : Int) := od_
           have q66 : (x8_2 : Int) < (((rd_L2 x6_3 x7_1).length : Int) : Int) := od_
           obtain ⟨go66, co66, eo66, gb66, gl66, cl66, HG66⟩ := Kd.R_form HL351_0.out (by omega)
           (first | cases eo66 | (injection eo66 with ea_ en_ ec_; (first | subst ea_ | (injection ea_ with ea_; subst ea_)); subst ec_; clear en_))
           have GB66 := Aside0.mk gb66
           have GG66 := Aside0.mk HG66
           clear gb66 gl66 HG66
           (first | simp only [add_plain] at hx353_0 | skip)
           obtain ⟨hx66_0, hf66_0⟩ := Kd.R_celln 0 HL351_0.out (x8_2 : Int) p66 q66
           replace p66 := eq_true p66
           replace q66 := eq_true q66
           have hq70 : (x7_1 : Int) < (x6_3.length : Int) := (by have h_ : (x7_1 : Int) < ((x6_3.length : Int) : Int) := od_; first | exact h_ | (have e_ := (Kd.S_reads' HO_6.out).1; omega) | simpa only [List.length_set, List.length_set] using h_)
           obtain ⟨oki70, ce70, hcl70, hM70, hcc70, hok70, hbk70⟩ := Kd.S_borrow HO_6.out [] (x7_1 : Int) od_ hq70
           obtain ⟨ve70_0, rfl, ge70_0⟩ := hM70
           have hv70 := hcc70 0 _ rfl
           rw [Nat.add_zero, show ((Kd.slice 3 (Kd.int .i64))).sz = 1 from rfl, Nat.mul_one] at hv70
           replace hv70 := Option.some.inj (hv70.symm.trans HX351_0.out)
           subst hv70
           clear hcc70 hcl70
           replace ge70_0 := (show Kd.R (Kd.int .i64) 3 _ _ _ _ (rd_L2 x6_3 x7_1) from ge70_0)
           have HP70 := Kd.R_putg ge70_0 (x8_2 : Int) ji65
           rw [← Ny356.out] at HP70
           have HS70 := hbk70 HP70.2 (fun k_ e_ => by injection e_ with e_; subst e_; exact ge70_0.1 _ rfl) (x' := y356) (Kd.M_row HP70.1)
           rw [← Ny358.out] at HS70
           have HQ70 := Aside0.mk HS70
           clear HP70 HS70 hbk70 hok70
           refine hK.out _ _ ⟨HS0_, HS1_, HS2_, ((HB.out.cell (World.block_lt_of_cell? w _ hw354_0)).trans hw354_0), ((HB.out.cell (World.block_lt_of_cell? w _ hw354_1)).trans hw354_1), ((HB.out.cell (World.block_lt_of_cell? w _ hw354_2)).trans hw354_2), ((HB.out.cell (World.block_lt_of_cell? w _ hw354_3)).trans hw354_3)⟩ (fun hHeld => ?_)
           clear hK K
           refine norm_ (a' := ?_) ?_ ?_
           rotate_left
           ·show Act.put _ (some 124) _ = _
            simp only [Act.put, List.setIfInBounds_toArray, List.set_cons_zero, List.set_cons_succ, i64_w, i32_w]
            rfl
           refine pu_ 19 125 (msk 20 3) HT_.out ?_; refine pu_ 20 126 (msk 21 2) HT_.out ?_; refine pu_ 21 127 (msk 22 1) HT_.out ?_
           refine last_ (i := 22) (N := none) (msk 23 0) rfl rfl (one_of HT_.out (by kernel_rfl)) (by decide) (fun K hK => ?_)
           refine skip_ (w1 := ?_) (by rfl) rfl ?_ ?_
           rotate_left
           ·go_simp
            rfl
           refine hK.out _ _ ?_
           clear hK K
           refine done_ (done_of HT_.out (by kernel_rfl)) ?_
           try go_wp2
           (try simp only [← hl6_3])
           go_roundg kj46
           case measure => have := HK1.out; have := HK2.out; have := HK3.out; have := HJ46.out; omega
           case rel => exact ⟨(y358), (wrap64 (x9_3 + 1)), (by first | rfl | (simp; done) | (simp [*]; done)), H', ⟨by have := HK1.out; have := HK2.out; have := HK3.out; have := HJ46.out; omega⟩, ⟨by (try simp only [hl6_1]); (try simp only [hl6_2]); (try simp only [hl6_3]); (with_reducible repeat (first | apply Kd.S_alloc | apply Kd.S_drewN | apply Kd.S_drew)); exact HQ70.out⟩, ⟨by (try simp only [hl6_1]); (try simp only [hl6_2]); (try simp only [hl6_3]); (with_reducible repeat (first | refine blk_drewN ?_ _ | refine blk_drew ?_ | refine blk_alloc ?_ _)); refine blk_far ?_ (by have h_ := Kd.R_ne HL351_0.out BK327.out (by decide); intro e_; exact h_ (by rw [e_]; rfl)) _; (with_reducible repeat (first | refine blk_drewN ?_ _ | refine blk_drew ?_ | refine blk_alloc ?_ _)); exact BK327.out⟩, ⟨by repeat (first | (with_reducible first | exact HB.out | apply below_alloc | apply pw_below_drewN | apply below_drew1 | refine below_set ?_ GB66.out | refine below_set ?_ GE327.out) | exact HB.out)⟩⟩
   rw [if_neg c27] at H
   have c27b0 : decide (0 ≤ x7_1) = false := decide_eq_false c27
   clear c27
   by_cases c73 : 0 < (x6_1.length : Int)
   rotate_left
   ·rw [if_neg c73] at H
    exact absurd H (by simp)
   rw [if_pos c73] at H
   have c73b0 : decide (0 < (x6_1.length : Int)) = true := decide_eq_true c73
   have c73b1 : decide (0 < x6_1.length) = true := decide_eq_true (by omega)
   clear c73
   by_cases c74 : 0 ≤ a1
   rotate_left
   ·rw [if_neg c74] at H
    exact absurd H (by simp)
   rw [if_pos c74] at H
   have c74b0 : decide (0 ≤ a1) = true := decide_eq_true c74
   clear c74
   by_cases c75 : a1 < ((rd_L2 x6_1 0).length : Int)
   rotate_left
   ·rw [if_neg c75] at H
    exact absurd H (by simp)
   rw [if_pos c75] at H
   have c75b0 : decide (a1 < ((rd_L2 x6_1 0).length : Int)) = true := decide_eq_true c75
   clear c75
   by_cases c76 : (rd (rd_L2 x6_1 0) a1) < 0
   ·rw [if_pos c76] at H
    have c76b0 : decide ((rd (rd_L2 x6_1 0) a1) < 0) = true := decide_eq_true c76
    clear c76
    as_aux_lemma =>
     simp only [Option.some.injEq, Prod.mk.injEq] at H
     obtain ⟨rfl, rfl, rfl, rfl⟩ := H
     have p359 : 0 ≤ (0 : Int) := (by omega)
     have q359 : 0 < (x6_1.length : Int) := od_
     obtain ⟨ad359, A359_0, c359_0, e359, hx359_0, hl359_0, hi359_0⟩ := at_L2 (Kd.S_reads' HO_6.out).2.2 0 p359 q359
     obtain rfl : (⟨go18, 0, none⟩ : Addr) = ad359 := (by injection e359)
     obtain ⟨ce359, hce359, hMe359, hcc359⟩ := Kd.S_get HO_6.out [] 0 p359 (by first | exact q359 | exact od_ | (have e_ := (Kd.S_reads' HO_6.out).1; omega))
     obtain ⟨ve359_0, rfl, ge359_0⟩ := hMe359
     have hv359_0 := hcc359 0 _ rfl
     rw [Nat.add_zero, show ((Kd.slice 3 (Kd.int .i64))).sz = 1 from rfl, Nat.mul_one] at hv359_0
     replace hv359_0 := Option.some.inj (hv359_0.symm.trans hx359_0)
     rw [hv359_0] at ge359_0
     have HL359_0 := Aside0.mk (show Kd.R (Kd.int .i64) 3 _ _ _ _ (rd_L2 x6_1 0) from ge359_0)
     clear hv359_0 ge359_0
     have HX359_0 := Aside0.mk hx359_0
     clear hcc359 hce359
     (first | simp only [add_plain] at hx359_0 | simp only [add_at] at hx359_0 | simp only [Addr.add, Nat.zero_add] at hx359_0 | skip)
     have qi359 : (0 < x6_1.length) = True := eq_true (by omega)
     (try rw [show ((0 : Int)).toNat = 0 from rfl] at hx359_0)
     (try rw [Addr.add_zero'] at hx359_0)
     have HR359_0 := Aside0.mk hi359_0
     have HC359_0 := Aside0.mk hl359_0
     clear hi359_0 hl359_0
     replace p359 := eq_true p359
     replace q359 := eq_true q359
     have p360 : 0 ≤ (a1 : Int) := od_
     have q360 : a1 < ((rd_L2 x6_1 0).length : Int) := od_
     obtain ⟨ad360, e360, hx360_0⟩ := Kd.at_int (by repeat (first | (with_reducible exact HR359_0.out) | (with_reducible refine Kd.C_alloc ?_ _) | (with_reducible refine Kd.C_drewN ?_ _) | (with_reducible refine Kd.C_drew ?_) | exact HR359_0.out)) a1 p360 q360
     cases e360
     replace p360 := eq_true p360
     replace q360 := eq_true q360
     have hcz77_0 : wr.cell? ⟨gb327, 0, none⟩ = some (.slice none 0 0) := (blk_cell BK327.out 0).trans rfl
     have hcz77_1 : wr.cell? ⟨gb327, 1, none⟩ = some (.int .i64 0) := (blk_cell BK327.out 1).trans rfl
     have hcz77_2 : wr.cell? ⟨gb327, 2, none⟩ = some (.int .i64 0) := (blk_cell BK327.out 2).trans rfl
     have hfz77_0 := blk_frozen BK327.out 0
     have hfz77_1 := blk_frozen BK327.out 1
     have hfz77_2 := blk_frozen BK327.out 2
     go_wp2
     refine bodyPost_ret (results_ct rfl _ _ gb327 31 #[.slice none 0 0, .int .i64 0, .int .i64 0] (0, 0) _ rfl (by (with_reducible repeat (first | refine blk_drewN ?_ _ | refine blk_drew ?_ | refine blk_alloc ?_ _)); refine blk_put (cs := #[.slice none 0 0, .int .i64 0, .int .i64 0]) ?_ 2 _ rfl; (with_reducible repeat (first | refine blk_drewN ?_ _ | refine blk_drew ?_ | refine blk_alloc ?_ _)); refine blk_put (cs := #[.slice none 0 0, .int .i64 0, .int .i64 0]) ?_ 1 _ rfl; (with_reducible repeat (first | refine blk_drewN ?_ _ | refine blk_drew ?_ | refine blk_alloc ?_ _)); refine blk_put (cs := #[.slice none 0 0, .int .i64 0, .int .i64 0]) ?_ 0 _ rfl; (with_reducible repeat (first | refine blk_drewN ?_ _ | refine blk_drew ?_ | refine blk_alloc ?_ _)); exact BK327.out) Try.underlying31 rfl (by kernel_rfl)) rfl ?_
     exact ⟨_, by first | rfl | (simp [errW_none, errW_some] <;> rfl) | (simp only [← hji10, ← hji13]; first | rfl | (simp [errW_none, errW_some] <;> rfl)) | (simp [*, errW_none, errW_some] <;> rfl), by first | exact Kd.R_nil _ _ _ _ _ | exact Kd.N_nil _ _ _ _ _ | exact Kd.V_nil _ _ _ _ _ | exact Kd.Q_nil _ _ _ _ _ | exact Kd.S_nil _ _ _ _ _, by repeat (first | (with_reducible first | exact HB.out | apply below_alloc | apply pw_below_drewN | apply below_drew1 | refine below_set ?_ GE327.out) | exact HB.out)⟩
   rw [if_neg c76] at H
   have c76b0 : decide ((rd (rd_L2 x6_1 0) a1) < 0) = false := decide_eq_false c76
   clear c76
   obtain ⟨y361, hy361⟩ : ∃ y_ : List Int, y_ = (([] : List Int)) := ⟨_, rfl⟩
   replace H : (spec_BestShelf.l3 k1 l0 a1 x6_1 y361 a1 0) = some (r1, r2, r3, r4) := by first | (rw [hy361]; with_reducible exact H) | (have H2_ := (Option.bind_some _ _).symm.trans H; rw [hy361]; with_reducible exact H2_) | (have H2_ := (Option.bind_some _ _).symm.trans H; with_reducible exact H2_) | with_reducible exact H | (rw [hy361]; exact H) | exact H
   have Ny361 := Aside0.mk hy361
   clear hy361
   have H' := Aside0.mk H
   clear H
   have p359 : 0 ≤ (0 : Int) := (by omega)
   have q359 : 0 < (x6_1.length : Int) := od_
   obtain ⟨ad359, A359_0, c359_0, e359, hx359_0, hl359_0, hi359_0⟩ := at_L2 (Kd.S_reads' HO_6.out).2.2 0 p359 q359
   obtain rfl : (⟨go18, 0, none⟩ : Addr) = ad359 := (by injection e359)
   obtain ⟨ce359, hce359, hMe359, hcc359⟩ := Kd.S_get HO_6.out [] 0 p359 (by first | exact q359 | exact od_ | (have e_ := (Kd.S_reads' HO_6.out).1; omega))
   obtain ⟨ve359_0, rfl, ge359_0⟩ := hMe359
   have hv359_0 := hcc359 0 _ rfl
   rw [Nat.add_zero, show ((Kd.slice 3 (Kd.int .i64))).sz = 1 from rfl, Nat.mul_one] at hv359_0
   replace hv359_0 := Option.some.inj (hv359_0.symm.trans hx359_0)
   rw [hv359_0] at ge359_0
   have HL359_0 := Aside0.mk (show Kd.R (Kd.int .i64) 3 _ _ _ _ (rd_L2 x6_1 0) from ge359_0)
   clear hv359_0 ge359_0
   have HX359_0 := Aside0.mk hx359_0
   clear hcc359 hce359
   (first | simp only [add_plain] at hx359_0 | simp only [add_at] at hx359_0 | simp only [Addr.add, Nat.zero_add] at hx359_0 | skip)
   have qi359 : (0 < x6_1.length) = True := eq_true (by omega)
   (try rw [show ((0 : Int)).toNat = 0 from rfl] at hx359_0)
   (try rw [Addr.add_zero'] at hx359_0)
   have HR359_0 := Aside0.mk hi359_0
   have HC359_0 := Aside0.mk hl359_0
   clear hi359_0 hl359_0
   replace p359 := eq_true p359
   replace q359 := eq_true q359
   have p360 : 0 ≤ (a1 : Int) := od_
   have q360 : a1 < ((rd_L2 x6_1 0).length : Int) := od_
   obtain ⟨ad360, e360, hx360_0⟩ := Kd.at_int (by repeat (first | (with_reducible exact HR359_0.out) | (with_reducible refine Kd.C_alloc ?_ _) | (with_reducible refine Kd.C_drewN ?_ _) | (with_reducible refine Kd.C_drew ?_) | exact HR359_0.out)) a1 p360 q360
   cases e360
   replace p360 := eq_true p360
   replace q360 := eq_true q360
   go_wp2_with (first | ((with_reducible refine gate_dst (N := 136) rfl ?_); refine Kd.R_lit (Kd.int .i64) _ 3 ?hg (N := 136) ?hd (xs := ([] : List Int)) (inner := []) (ok := fun _ => True) (okp := fun _ => True) ?hr ?hp (fun _ hk => hk) trivial (Below.refl _ _) (Nat.le_refl _) (by simp) ?_; (case hd => rfl); (case hg => rfl); (case hr => first | (go_simp; done) | (go_simp; rfl)); (case hp => exact (Reps.none _ _)); intro v362 w78 ho79 hb hg_ hnew_; clear hg_ hnew_; (first | rw [← Ny361.out] at ho79 | (simp only [Int.reduceToNat] at ho79; rw [← Ny361.out] at ho79)); have n0_ := Aside0.mk (Kd.S_elder' (by (with_reducible repeat (first | apply Kd.S_alloc | apply Kd.S_drewN | apply Kd.S_drew)); exact HO_6.out) (Kd.R_base ho79) hb); have n1_ := Aside0.mk (Kd.R_elder' (by (with_reducible repeat (first | apply Kd.R_alloc | apply Kd.R_drewN | apply Kd.R_drew)); exact HL359_0.out) (Kd.R_base ho79) hb); have n2_ := Aside0.mk (Kd.R_lower (Kd.R_new' ho79 (Kd.R_lt (by (with_reducible repeat (first | apply Kd.R_alloc | apply Kd.R_drewN | apply Kd.R_drew)); exact HL359_0.out))) (below_size bl_)); have n3_ := Aside0.mk (blk_below (g := gb327) (o := .cells #[.slice none 0 0, .int .i64 0, .int .i64 0] 31 (0, 0)) bk_ hb); have n4_ := Aside0.mk (Kd.C_below (by repeat (first | (with_reducible exact HR359_0.out) | (with_reducible refine Kd.C_alloc ?_ _) | (with_reducible refine Kd.C_drewN ?_ _) | (with_reducible refine Kd.C_drew ?_) | exact HR359_0.out)) hb); have n5_ := Aside0.mk (pw_cell_below hb HX359_0.out); have n6_ := Aside0.mk (below_step bl_ hb); clear HO_6; clear HL359_0; clear BK327; clear HR359_0; clear HX359_0; clear HB; have HO_6 := n0_; have HL359_0 := n1_; have HO363 := n2_; have BK327 := n3_; have HR359_0 := n4_; have HX359_0 := n5_; have HB := n6_; clear n0_ n1_ n2_ n3_ n4_ n5_ n6_; clear hb ho79))
   go_loopg [11, 12, 13] k1 (fun kq v11 v12 v13 w' => ∃ (x11_2 : List Int) (x12_2 : Int) (x13_2 : Int), v12 = .int .i64 x12_2 ∧ v13 = .int .i64 x13_2 ∧ Aside0 (spec_BestShelf.l3 kq l0 a1 x6_1 x11_2 x12_2 x13_2 = some (r1, r2, r3, r4)) ∧ Aside0 (kq ≤ k1) ∧ Aside0 (Kd.S (Kd.slice 3 (Kd.int .i64)) 29 w' w.heap.size (fun k_ => some k_ ≠ (v11 : Value).ownBlock) (.slice (some ⟨go18, 0, none⟩) x6_1.length co18) x6_1) ∧ Aside0 (Kd.R (Kd.int .i64) 3 w' w.heap.size (fun _ => True) v11 x11_2) ∧ Aside0 (w'.heap[gb327]? = some (.cells #[(.slice none 0 0), .int .i64 0, .int .i64 0] 31 (0, 0))) ∧ Aside0 (Below w.heap.size w w'))
   case atStart => exact ⟨(y361), (a1), (0), (by first | rfl | (simp; done) | (simp [*]; done)), (by first | rfl | (simp; done) | (simp [*]; done)), H', ⟨Nat.le_refl _⟩, ⟨by (try simp only [hl6_1]); (with_reducible repeat (first | apply Kd.S_alloc | apply Kd.S_drewN | apply Kd.S_drew)); exact Kd.S_mono HO_6.out (fun _ hk => hk.2)⟩, ⟨by (try simp only [hl6_1]); (with_reducible repeat (first | apply Kd.R_alloc | apply Kd.R_drewN | apply Kd.R_drew)); exact Kd.R_mono HO363.out (fun _ hk => trivial)⟩, ⟨by (try simp only [hl6_1]); (with_reducible repeat (first | refine blk_drewN ?_ _ | refine blk_drew ?_ | refine blk_alloc ?_ _)); exact BK327.out⟩, ⟨by repeat (first | (with_reducible first | exact HB.out | apply below_alloc | apply pw_below_drewN | apply below_drew1 | refine below_set ?_ GE327.out) | exact HB.out)⟩⟩
   case round =>
    clear H'
    (try clear p3); (try clear q3); (try clear hx3); (try clear qi3); (try clear c4); (try clear c5); (try clear c6); (try clear q6); (try clear hx6); (try clear hf6); (try clear q7); (try clear c27); (try clear c27b0); (try clear c29); (try clear c30); (try clear c31); (try clear c32); (try clear c34); (try clear p34); (try clear q34); (try clear hx34); (try clear c35); (try clear p35); (try clear q35); (try clear hx35); (try clear qi35); (try clear p36); (try clear q36); (try clear hx36); (try clear c38); (try clear c38b0); (try clear c39); (try clear c40); (try clear c41); (try clear c42); (try clear c44); (try clear c51); (try clear c53); (try clear c54); (try clear c55); (try clear c56); (try clear c58); (try clear c59); (try clear c60); (try clear c60b0); (try clear c61); (try clear c62); (try clear c63); (try clear p64); (try clear p66); (try clear q66); (try clear hx66); (try clear hf66); (try clear c70); (try clear q70); (try clear c73); (try clear c73b0); (try clear c73b1); (try clear c74); (try clear c74b0); (try clear c75); (try clear c75b0); (try clear c76); (try clear c76b0); (try clear hcz77_0); (try clear hcz77_1); (try clear hcz77_2); (try clear hfz77_0); (try clear hfz77_1); (try clear hfz77_2); (try clear hx348_0); (try clear hx349_0); (try clear hx349_1); (try clear hx349_2); (try clear hx349_3); (try clear hx350_0); (try clear hx353_0); (try clear hx359_0); (try clear hx360_0); (try clear hx66_0); (try clear p348); (try clear p349); (try clear p350); (try clear p359); (try clear p360); (try clear q348); (try clear q349); (try clear q350); (try clear q359); (try clear q360)
    obtain ⟨x11_2, x12_2, x13_2, rfl, rfl, HA, HK2, HO_6, HO_11, BK327, HB⟩ := hrel
    cases gk with
    | zero => exact absurd HA.out (by simp [spec_BestShelf.l3])
    | succ k2 =>
     have H := HA.out
     clear HA
     simp only [spec_BestShelf.l3] at H
     by_cases c80 : x13_2 < (l0.length : Int)
     rotate_left
     ·rw [if_neg c80] at H
      have c80b0 : decide (x13_2 < (l0.length : Int)) = false := decide_eq_false c80
      clear c80
      replace H := Option.bind_eq_some_iff.mp H
      obtain ⟨⟨t364, t367, t368, t369⟩, A1050, H⟩ := H
      replace H : (some (t364, t367, t368, t369)) = some (r1, r2, r3, r4) := H
      have A105 := Aside0.mk A1050
      clear A1050
      as_aux_lemma =>
       simp only [Option.some.injEq, Prod.mk.injEq] at H
       obtain ⟨rfl, rfl, rfl, rfl⟩ := H
       obtain ⟨Ao106, co106, eo106⟩ := Kd.R_slice HO_11.out
       subst eo106
       go_wp2_with (first | ((with_reducible refine gate_callee (f := 12) rfl ?_); refine goesL_ (some 229) rfl rfl Try.func12 (by kernel_rfl) rfl #[.slice A0 l0.length c0, .int .i64 a1, .slice Ao106 x11_2.length co106] rfl (by (try simp only [List.map_toArray, List.map_cons, List.map_nil]); first | done | rfl | (simp only [List.length_drop, List.length_take]; rfl)) ?_; (with_reducible refine (spec_ShelfOf.calls k2 _ _ l0 a1 _ _ x11_2 t364 t367 t368 t369 _ ?side1 ?side2 ?side3 ?side4 A105.out).mono ?_); (case side1 => repeat (first | exact (Kd.C_below HR0.out HB.out) | (with_reducible refine Kd.C_alloc ?_ _) | (with_reducible refine Kd.C_drewN ?_ _) | (with_reducible refine Kd.C_drew ?_))); (case side2 => exact HC0.out); (case side3 => repeat (first | exact (Kd.R_reads' HO_11.out).2.2 | (with_reducible refine Kd.C_alloc ?_ _) | (with_reducible refine Kd.C_drewN ?_ _) | (with_reducible refine Kd.C_drew ?_))); (case side4 => exact (Kd.R_reads' HO_11.out).2.1); rintro e w107 ⟨v365, rfl, ho0, hb⟩; refine ⟨_, rfl, ?_⟩; have n0_ := Aside0.mk (Kd.S_elder' (by (with_reducible repeat (first | apply Kd.S_alloc | apply Kd.S_drewN | apply Kd.S_drew)); exact HO_6.out) (Kd.R_base ho0) hb); have n1_ := Aside0.mk (Kd.R_elder' (by (with_reducible repeat (first | apply Kd.R_alloc | apply Kd.R_drewN | apply Kd.R_drew)); exact HO_11.out) (Kd.R_base ho0) hb); have n2_ := Aside0.mk (Kd.R_lower (Kd.R_new' ho0 (Kd.R_lt (by (with_reducible repeat (first | apply Kd.R_alloc | apply Kd.R_drewN | apply Kd.R_drew)); exact HO_11.out))) (below_size bl_)); have n3_ := Aside0.mk (blk_below (g := gb327) (o := .cells #[.slice none 0 0, .int .i64 0, .int .i64 0] 31 (0, 0)) bk_ hb); have n4_ := Aside0.mk (below_step bl_ hb); clear HO_6; clear HO_11; clear BK327; clear HB; have HO_6 := n0_; have HO_11 := n1_; have HO366 := n2_; have BK327 := n3_; have HB := n4_; clear n0_ n1_ n2_ n3_ n4_; (try clear hb); (try clear hb2); (try clear hk); (try clear hi); (try clear ho0); obtain ⟨Ao108, co108, eo108⟩ := Kd.R_slice HO366.out; subst eo108; have hcz109_0 : w107.cell? ⟨gb327, 0, none⟩ = some (.slice none 0 0) := (blk_cell BK327.out 0).trans rfl; have hcz109_1 : w107.cell? ⟨gb327, 1, none⟩ = some (.int .i64 0) := (blk_cell BK327.out 1).trans rfl; have hcz109_2 : w107.cell? ⟨gb327, 2, none⟩ = some (.int .i64 0) := (blk_cell BK327.out 2).trans rfl; have hfz109_0 := blk_frozen BK327.out 0; have hfz109_1 := blk_frozen BK327.out 1; have hfz109_2 := blk_frozen BK327.out 2))
       refine bodyPost_ret (results_ct rfl _ _ gb327 31 #[.slice Ao108 t364.length co108, .int .i64 t367, .int .i64 t368] (0, 0) _ rfl (by (with_reducible repeat (first | refine blk_drewN ?_ _ | refine blk_drew ?_ | refine blk_alloc ?_ _)); refine blk_put (cs := #[.slice Ao108 t364.length co108, .int .i64 t367, .int .i64 0]) ?_ 2 _ rfl; (with_reducible repeat (first | refine blk_drewN ?_ _ | refine blk_drew ?_ | refine blk_alloc ?_ _)); refine blk_put (cs := #[.slice Ao108 t364.length co108, .int .i64 0, .int .i64 0]) ?_ 1 _ rfl; (with_reducible repeat (first | refine blk_drewN ?_ _ | refine blk_drew ?_ | refine blk_alloc ?_ _)); refine blk_put (cs := #[.slice none 0 0, .int .i64 0, .int .i64 0]) ?_ 0 _ rfl; (with_reducible repeat (first | refine blk_drewN ?_ _ | refine blk_drew ?_ | refine blk_alloc ?_ _)); exact BK327.out) Try.underlying31 rfl (by kernel_rfl)) rfl ?_
       exact ⟨_, by first | rfl | (simp [errW_none, errW_some] <;> rfl) | (simp only [← hji10, ← hji13]; first | rfl | (simp [errW_none, errW_some] <;> rfl)) | (simp [*, errW_none, errW_some] <;> rfl), by (with_reducible repeat (first | apply Kd.R_alloc | apply Kd.R_drewN | apply Kd.R_drew)); exact Kd.R_mono (Kd.R_far (p := ⟨gb327, 2, none⟩) (Kd.R_far (p := ⟨gb327, 1, none⟩) (Kd.R_far (p := ⟨gb327, 0, none⟩) (Kd.R_types HO366.out BK327.out (by decide)) (fun _ hk => hk.2) (.slice Ao108 t364.length co108)) (fun _ hk => hk.2) (.int .i64 t367)) (fun _ hk => hk.2) (.int .i64 t368)) (fun _ hk => trivial), by repeat (first | (with_reducible first | exact HB.out | apply below_alloc | apply pw_below_drewN | apply below_drew1 | refine below_set ?_ GE327.out) | exact HB.out)⟩
     rw [if_pos c80] at H
     have c80b0 : decide (x13_2 < (l0.length : Int)) = true := decide_eq_true c80
     clear c80
     by_cases c81 : 0 ≤ x13_2
     rotate_left
     ·rw [if_neg c81] at H
      exact absurd H (by simp)
     rw [if_pos c81] at H
     have c81b0 : decide (0 ≤ x13_2) = true := decide_eq_true c81
     clear c81
     have H' := Aside0.mk H
     clear H
     have p370 : 0 ≤ (x13_2 : Int) := od_
     have q370 : x13_2 < (l0.length : Int) := od_
     obtain ⟨ad370, A370_3, c370_3, e370, hx370_0, hx370_1, hx370_2, hx370_3, hl370_3, hi370_3⟩ := at_T50 HR0.out x13_2 p370 q370
     cases e370
     replace hx370_0 := (HB.out.cell (World.block_lt_of_cell? w _ hx370_0)).trans hx370_0
     replace hx370_1 := (HB.out.cell (World.block_lt_of_cell? w _ hx370_1)).trans hx370_1
     replace hx370_2 := (HB.out.cell (World.block_lt_of_cell? w _ hx370_2)).trans hx370_2
     replace hx370_3 := (HB.out.cell (World.block_lt_of_cell? w _ hx370_3)).trans hx370_3
     have HR370_3 := Aside0.mk hi370_3
     have HC370_3 := Aside0.mk hl370_3
     clear hi370_3 hl370_3
     replace p370 := eq_true p370
     replace q370 := eq_true q370
     go_wp2
     go_loopg [14] k2 (fun kq v14 w' => ∃ (x14_3 : Int), v14 = .int .i64 x14_3 ∧ Aside0 (spec_BestShelf.l4 kq l0 a1 x6_1 x11_2 x12_2 x13_2 x14_3 = some (r1, r2, r3, r4)) ∧ Aside0 (kq ≤ k2) ∧ Aside0 (Kd.S (Kd.slice 3 (Kd.int .i64)) 29 w' w.heap.size (fun k_ => some k_ ≠ (u11 : Value).ownBlock) (.slice (some ⟨go18, 0, none⟩) x6_1.length co18) x6_1) ∧ Aside0 (Kd.R (Kd.int .i64) 3 w' w.heap.size (fun _ => True) u11 x11_2) ∧ Aside0 (w'.heap[gb327]? = some (.cells #[(.slice none 0 0), .int .i64 0, .int .i64 0] 31 (0, 0))) ∧ Aside0 (Below w.heap.size w w'))
     case atStart => exact ⟨((((rd_T50 l0 x13_2).f3).length : Int)), (by first | rfl | (simp; done) | (simp [*]; done)), H', ⟨Nat.le_refl _⟩, ⟨by (try simp only [hl6_1]); (with_reducible repeat (first | apply Kd.S_alloc | apply Kd.S_drewN | apply Kd.S_drew)); exact HO_6.out⟩, ⟨by (try simp only [hl6_1]); (with_reducible repeat (first | apply Kd.R_alloc | apply Kd.R_drewN | apply Kd.R_drew)); exact HO_11.out⟩, ⟨by (try simp only [hl6_1]); (with_reducible repeat (first | refine blk_drewN ?_ _ | refine blk_drew ?_ | refine blk_alloc ?_ _)); exact BK327.out⟩, ⟨by repeat (first | (with_reducible first | exact HB.out | apply below_alloc | apply pw_below_drewN | apply below_drew1 | refine below_set ?_ GE327.out) | exact HB.out)⟩⟩
     case round =>
      clear H'
      (try clear c37); (try clear p37); (try clear q37); (try clear hx37); (try clear c80); (try clear c80b0); (try clear c81); (try clear c81b0); (try clear hx370_0); (try clear hx370_1); (try clear hx370_2); (try clear hx370_3); (try clear p370); (try clear q370)
      obtain ⟨x14_3, rfl, HA, HK3, HO_6, HO_11, BK327, HB⟩ := hrel
      cases gk with
      | zero => exact absurd HA.out (by simp [spec_BestShelf.l4])
      | succ k3 =>
       have H := HA.out
       clear HA
       simp only [spec_BestShelf.l4] at H
       by_cases c82 : 0 ≤ x13_2
       rotate_left
       ·rw [if_neg c82] at H
        exact absurd H (by simp)
       rw [if_pos c82] at H
       have c82b0 : decide (0 ≤ x13_2) = true := decide_eq_true c82
       clear c82
       by_cases c83 : x13_2 < (l0.length : Int)
       rotate_left
       ·rw [if_neg c83] at H
        exact absurd H (by simp)
       rw [if_pos c83] at H
       have c83b0 : decide (x13_2 < (l0.length : Int)) = true := decide_eq_true c83
       clear c83
       by_cases c84 : (wrap64 (x14_3 * ((rd_T50 l0 x13_2).f1))) > x12_2
       ·rw [if_pos c84] at H
        have c84b0 : decide (x12_2 < (wrap64 (x14_3 * ((rd_T50 l0 x13_2).f1)))) = true := decide_eq_true c84
        clear c84
        as_aux_lemma =>
         have H' := Aside0.mk H
         clear H
         try go_wp2
         have n0_ := Aside0.mk (Kd.S_drew HO_6.out)
         have n1_ := Aside0.mk (Kd.R_drew HO_11.out)
         have n2_ := Aside0.mk (blk_drew BK327.out)
         have n3_ := Aside0.mk (below_drew1 HB.out)
         clear HO_6
         clear HO_11
         clear BK327
         clear HB
         have HO_6 := n0_
         have HO_11 := n1_
         have BK327 := n2_
         have HB := n3_
         clear n0_ n1_ n2_ n3_
         have p371 : 0 ≤ (x13_2 : Int) := od_
         have q371 : x13_2 < (l0.length : Int) := od_
         obtain ⟨ad371, A371_3, c371_3, e371, hx371_0, hx371_1, hx371_2, hx371_3, hl371_3, hi371_3⟩ := at_T50 HR0.out x13_2 p371 q371
         have hw371_3 := hx371_3
         have hw371_2 := hx371_2
         have hw371_1 := hx371_1
         have hw371_0 := hx371_0
         obtain rfl : ad370 = ad371 := (by injection e371)
         replace hx371_0 := (HB.out.cell (World.block_lt_of_cell? w _ hx371_0)).trans hx371_0
         replace hx371_1 := (HB.out.cell (World.block_lt_of_cell? w _ hx371_1)).trans hx371_1
         replace hx371_2 := (HB.out.cell (World.block_lt_of_cell? w _ hx371_2)).trans hx371_2
         replace hx371_3 := (HB.out.cell (World.block_lt_of_cell? w _ hx371_3)).trans hx371_3
         have HR371_3 := Aside0.mk hi371_3
         have HC371_3 := Aside0.mk hl371_3
         clear hi371_3 hl371_3
         replace p371 := eq_true p371
         replace q371 := eq_true q371
         refine start_ (n := 61) (S := fun w' => w'.cell? (ad370.add ((x13_2).toNat * 4)) = some (.string ((rd_T50 l0 x13_2).f0)) ∧ w'.cell? ⟨(ad370.add ((x13_2).toNat * 4)).block, (ad370.add ((x13_2).toNat * 4)).off + 1, none⟩ = some (.int .i64 ((rd_T50 l0 x13_2).f1)) ∧ w'.cell? ⟨(ad370.add ((x13_2).toNat * 4)).block, (ad370.add ((x13_2).toNat * 4)).off + 2, none⟩ = some (.int .i64 ((rd_T50 l0 x13_2).f2)) ∧ w'.cell? ⟨(ad370.add ((x13_2).toNat * 4)).block, (ad370.add ((x13_2).toNat * 4)).off + 3, none⟩ = some (.slice A371_3 ((rd_T50 l0 x13_2).f3).length c371_3)) (ds := []) (msk 0 61) (by kernel_rfl) rfl rfl ⟨((HB.out.cell (World.block_lt_of_cell? w _ hw371_0)).trans hw371_0), ((HB.out.cell (World.block_lt_of_cell? w _ hw371_1)).trans hw371_1), ((HB.out.cell (World.block_lt_of_cell? w _ hw371_2)).trans hw371_2), ((HB.out.cell (World.block_lt_of_cell? w _ hw371_3)).trans hw371_3)⟩ (fun hHeld => ?_); refine with_tabW spec_BestShelf.tab31 spec_BestShelf.bits31 (fun HT_ HW_ => ?_)
         generalize wr.drew = w85 at HO_6 HO_11 BK327 HB HR371_3 hx371_0 hx371_1 hx371_2 hx371_3 hHeld ⊢
         refine pu_ 0 150 (msk 1 60) HT_.out ?_; refine pu_ 1 151 (msk 2 59) HT_.out ?_; refine pu_ 2 152 (msk 3 58) HT_.out ?_; refine pu_ 3 153 (msk 4 57) HT_.out ?_; refine pu_ 4 154 (msk 5 56) HT_.out ?_; refine pu_ 7 157 (mskl 61 5 [7]) HT_.out ?_
         refine tk_ 5 155 (mskl 61 6 [7]) HT_.out HW_.out hHeld ?_ (hy := by rintro w' ⟨s0, s1, s2, s3⟩; go_simp; with_reducible rfl)
         refine pu_ 6 156 (msk 8 53) HT_.out ?_; refine pu_ 8 158 (msk 9 52) HT_.out ?_; refine pu_ 9 159 (msk 10 51) HT_.out ?_; refine pn_ 10 160 (msk 11 50) HT_.out ?_; refine pn_ 11 161 (msk 12 49) HT_.out ?_; refine pn_ 12 162 (msk 13 48) HT_.out ?_; refine pn_ 13 163 (msk 14 47) HT_.out ?_; refine pn_ 14 164 (msk 15 46) HT_.out ?_; refine pn_ 15 165 (msk 16 45) HT_.out ?_; refine pn_ 16 166 (msk 17 44) HT_.out ?_; refine pn_ 17 167 (msk 18 43) HT_.out ?_; refine pn_ 18 168 (msk 19 42) HT_.out ?_; refine pn_ 19 169 (msk 20 41) HT_.out ?_; refine pn_ 20 170 (msk 21 40) HT_.out ?_; refine pn_ 21 171 (msk 22 39) HT_.out ?_; refine pn_ 22 172 (msk 23 38) HT_.out ?_; refine pn_ 23 173 (msk 24 37) HT_.out ?_; refine pn_ 24 174 (msk 25 36) HT_.out ?_; refine pn_ 25 175 (msk 26 35) HT_.out ?_; refine pn_ 26 176 (msk 27 34) HT_.out ?_; refine pu_ 27 177 (msk 28 33) HT_.out ?_; refine pu_ 28 178 (msk 29 32) HT_.out ?_; refine pn_ 29 179 (msk 30 31) HT_.out ?_; refine pn_ 30 180 (msk 31 30) HT_.out ?_; refine pn_ 31 181 (msk 32 29) HT_.out ?_; refine pn_ 32 182 (msk 33 28) HT_.out ?_; refine pn_ 33 183 (msk 34 27) HT_.out ?_; refine pn_ 34 184 (msk 35 26) HT_.out ?_; refine pn_ 35 185 (msk 36 25) HT_.out ?_; refine pn_ 36 186 (msk 37 24) HT_.out ?_; refine pn_ 37 187 (msk 38 23) HT_.out ?_; refine pn_ 38 188 (msk 39 22) HT_.out ?_; refine pn_ 39 189 (msk 40 21) HT_.out ?_; refine pn_ 40 190 (msk 41 20) HT_.out ?_; refine pn_ 41 191 (msk 42 19) HT_.out ?_; refine pn_ 42 192 (msk 43 18) HT_.out ?_; refine pn_ 43 193 (msk 44 17) HT_.out ?_; refine pn_ 44 194 (msk 45 16) HT_.out ?_; refine pn_ 45 195 (msk 46 15) HT_.out ?_; refine pn_ 46 196 (msk 47 14) HT_.out ?_; refine pn_ 47 197 (msk 48 13) HT_.out ?_; refine pn_ 48 198 (msk 49 12) HT_.out ?_; refine pn_ 49 199 (msk 50 11) HT_.out ?_; refine pn_ 50 200 (msk 51 10) HT_.out ?_; refine pn_ 51 201 (msk 52 9) HT_.out ?_; refine pn_ 52 202 (msk 53 8) HT_.out ?_; refine pn_ 53 203 (msk 54 7) HT_.out ?_; refine pn_ 54 204 (msk 55 6) HT_.out ?_; refine pn_ 55 205 (msk 56 5) HT_.out ?_; refine pn_ 56 206 (msk 57 4) HT_.out ?_; refine pn_ 57 207 (msk 58 3) HT_.out ?_; refine pn_ 58 208 (msk 59 2) HT_.out ?_; refine pn_ 59 209 (msk 60 1) HT_.out ?_; refine pu_ 60 210 (msk 61 0) HT_.out ?_
         refine done_ (done_of HT_.out (by kernel_rfl)) ?_
         try go_wp2
         go_roundg k3
         case measure => have := HK1.out; have := HK2.out; have := HK3.out; omega
         case rel => exact ⟨(wrap64 (x14_3 - 1)), (by first | rfl | (simp; done) | (simp [*]; done)), H', ⟨by have := HK1.out; have := HK2.out; have := HK3.out; omega⟩, ⟨by (try simp only [hl6_1]); (with_reducible repeat (first | apply Kd.S_alloc | apply Kd.S_drewN | apply Kd.S_drew)); exact HO_6.out⟩, ⟨by (try simp only [hl6_1]); (with_reducible repeat (first | apply Kd.R_alloc | apply Kd.R_drewN | apply Kd.R_drew)); exact HO_11.out⟩, ⟨by (try simp only [hl6_1]); (with_reducible repeat (first | refine blk_drewN ?_ _ | refine blk_drew ?_ | refine blk_alloc ?_ _)); exact BK327.out⟩, ⟨by repeat (first | (with_reducible first | exact HB.out | apply below_alloc | apply pw_below_drewN | apply below_drew1 | refine below_set ?_ GE327.out) | exact HB.out)⟩⟩
       rw [if_neg c84] at H
       have c84b0 : decide (x12_2 < (wrap64 (x14_3 * ((rd_T50 l0 x13_2).f1)))) = false := decide_eq_false c84
       clear c84
       obtain ⟨ji86, hji86⟩ : ∃ j_ : Int, (wrap64 (x13_2 + 1)) = j_ := ⟨_, rfl⟩
       replace H : (if 0 ≤ (ji86) then (if (ji86) < (x6_1.length : Int) then (if 0 ≤ (wrap64 (x12_2 - (wrap64 (x14_3 * ((rd_T50 l0 x13_2).f1))))) then (if (wrap64 (x12_2 - (wrap64 (x14_3 * ((rd_T50 l0 x13_2).f1))))) < ((rd_L2 x6_1 (ji86)).length : Int) then (if (rd (rd_L2 x6_1 (ji86)) (wrap64 (x12_2 - (wrap64 (x14_3 * ((rd_T50 l0 x13_2).f1)))))) < 0 then (spec_BestShelf.l4 k3 l0 a1 x6_1 x11_2 x12_2 x13_2 (wrap64 (x14_3 - 1))) else ((spec_l13Gain.f k3 ((rd_T50 l0 x13_2).f0) ((rd_T50 l0 x13_2).f1) ((rd_T50 l0 x13_2).f2) ((rd_T50 l0 x13_2).f3) x14_3).bind fun t379 => (if x13_2 < (x6_1.length : Int) then (if 0 ≤ x12_2 then (if x12_2 < ((rd_L2 x6_1 x13_2).length : Int) then (if (wrap64 ((rd (rd_L2 x6_1 (ji86)) (wrap64 (x12_2 - (wrap64 (x14_3 * ((rd_T50 l0 x13_2).f1)))))) + t379)) = (rd (rd_L2 x6_1 x13_2) x12_2) then (if x11_2.length < 17592186044416 then (spec_BestShelf.l3 k3 l0 a1 x6_1 (x11_2 ++ [x14_3]) (wrap64 (x12_2 - (wrap64 (x14_3 * ((rd_T50 l0 x13_2).f1))))) ji86) else (none)) else (spec_BestShelf.l4 k3 l0 a1 x6_1 x11_2 x12_2 x13_2 (wrap64 (x14_3 - 1)))) else (none)) else (none)) else (none)))) else (none)) else (none)) else (none)) else (none)) = some (r1, r2, r3, r4) := by first | (rw [hji86] at H; exact H) | (simp only [hji86] at H ⊢; exact H)
       have hji86w : (IntKind.i64.wrap (x13_2 + 1)) = ji86 := (i64_w _).trans hji86
       by_cases c87 : 0 ≤ (ji86)
       rotate_left
       ·rw [if_neg c87] at H
        exact absurd H (by simp)
       rw [if_pos c87] at H
       have c87b0 : decide (0 ≤ (ji86)) = true := decide_eq_true c87
       clear c87
       by_cases c88 : (ji86) < (x6_1.length : Int)
       rotate_left
       ·rw [if_neg c88] at H
        exact absurd H (by simp)
       rw [if_pos c88] at H
       have c88b0 : decide ((ji86) < (x6_1.length : Int)) = true := decide_eq_true c88
       clear c88
       obtain ⟨ji89, hji89⟩ : ∃ j_ : Int, (wrap64 (x12_2 - (wrap64 (x14_3 * ((rd_T50 l0 x13_2).f1))))) = j_ := ⟨_, rfl⟩
       replace H : (if 0 ≤ (ji89) then (if (ji89) < ((rd_L2 x6_1 (ji86)).length : Int) then (if (rd (rd_L2 x6_1 (ji86)) (ji89)) < 0 then (spec_BestShelf.l4 k3 l0 a1 x6_1 x11_2 x12_2 x13_2 (wrap64 (x14_3 - 1))) else ((spec_l13Gain.f k3 ((rd_T50 l0 x13_2).f0) ((rd_T50 l0 x13_2).f1) ((rd_T50 l0 x13_2).f2) ((rd_T50 l0 x13_2).f3) x14_3).bind fun t379 => (if x13_2 < (x6_1.length : Int) then (if 0 ≤ x12_2 then (if x12_2 < ((rd_L2 x6_1 x13_2).length : Int) then (if (wrap64 ((rd (rd_L2 x6_1 (ji86)) (ji89)) + t379)) = (rd (rd_L2 x6_1 x13_2) x12_2) then (if x11_2.length < 17592186044416 then (spec_BestShelf.l3 k3 l0 a1 x6_1 (x11_2 ++ [x14_3]) ji89 ji86) else (none)) else (spec_BestShelf.l4 k3 l0 a1 x6_1 x11_2 x12_2 x13_2 (wrap64 (x14_3 - 1)))) else (none)) else (none)) else (none)))) else (none)) else (none)) = some (r1, r2, r3, r4) := by first | (rw [hji89] at H; exact H) | (simp only [hji89] at H ⊢; exact H)
       have hji89w : (IntKind.i64.wrap (x12_2 - (wrap64 (x14_3 * ((rd_T50 l0 x13_2).f1))))) = ji89 := (i64_w _).trans hji89
       by_cases c90 : 0 ≤ (ji89)
       rotate_left
       ·rw [if_neg c90] at H
        exact absurd H (by simp)
       rw [if_pos c90] at H
       have c90b0 : decide (0 ≤ (ji89)) = true := decide_eq_true c90
       clear c90
       by_cases c91 : (ji89) < ((rd_L2 x6_1 (ji86)).length : Int)
       rotate_left
       ·rw [if_neg c91] at H
        exact absurd H (by simp)
       rw [if_pos c91] at H
       have c91b0 : decide ((ji89) < ((rd_L2 x6_1 (ji86)).length : Int)) = true := decide_eq_true c91
       clear c91
       by_cases c92 : (rd (rd_L2 x6_1 (ji86)) (ji89)) < 0
       ·rw [if_pos c92] at H
        have c92b0 : decide ((rd (rd_L2 x6_1 (ji86)) (ji89)) < 0) = true := decide_eq_true c92
        clear c92
        as_aux_lemma =>
         have H' := Aside0.mk H
         clear H
         try go_wp2
         have n0_ := Aside0.mk (Kd.S_drew HO_6.out)
         have n1_ := Aside0.mk (Kd.R_drew HO_11.out)
         have n2_ := Aside0.mk (blk_drew BK327.out)
         have n3_ := Aside0.mk (below_drew1 HB.out)
         clear HO_6
         clear HO_11
         clear BK327
         clear HB
         have HO_6 := n0_
         have HO_11 := n1_
         have BK327 := n2_
         have HB := n3_
         clear n0_ n1_ n2_ n3_
         have p371 : 0 ≤ (x13_2 : Int) := od_
         have q371 : x13_2 < (l0.length : Int) := od_
         obtain ⟨ad371, A371_3, c371_3, e371, hx371_0, hx371_1, hx371_2, hx371_3, hl371_3, hi371_3⟩ := at_T50 HR0.out x13_2 p371 q371
         have hw371_3 := hx371_3
         have hw371_2 := hx371_2
         have hw371_1 := hx371_1
         have hw371_0 := hx371_0
         obtain rfl : ad370 = ad371 := (by injection e371)
         replace hx371_0 := (HB.out.cell (World.block_lt_of_cell? w _ hx371_0)).trans hx371_0
         replace hx371_1 := (HB.out.cell (World.block_lt_of_cell? w _ hx371_1)).trans hx371_1
         replace hx371_2 := (HB.out.cell (World.block_lt_of_cell? w _ hx371_2)).trans hx371_2
         replace hx371_3 := (HB.out.cell (World.block_lt_of_cell? w _ hx371_3)).trans hx371_3
         have HR371_3 := Aside0.mk hi371_3
         have HC371_3 := Aside0.mk hl371_3
         clear hi371_3 hl371_3
         replace p371 := eq_true p371
         replace q371 := eq_true q371
         have p372 : 0 ≤ ((ji86) : Int) := od_
         have q372 : (ji86) < (x6_1.length : Int) := od_
         obtain ⟨ad372, A372_0, c372_0, e372, hx372_0, hl372_0, hi372_0⟩ := at_L2 (Kd.S_reads' HO_6.out).2.2 (ji86) p372 q372
         obtain rfl : (⟨go18, 0, none⟩ : Addr) = ad372 := (by injection e372)
         obtain ⟨ce372, hce372, hMe372, hcc372⟩ := Kd.S_get HO_6.out [] (ji86) p372 (by first | exact q372 | exact od_ | (have e_ := (Kd.S_reads' HO_6.out).1; omega))
         obtain ⟨ve372_0, rfl, ge372_0⟩ := hMe372
         have hv372_0 := hcc372 0 _ rfl
         rw [Nat.add_zero, show ((Kd.slice 3 (Kd.int .i64))).sz = 1 from rfl, Nat.mul_one] at hv372_0
         replace hv372_0 := Option.some.inj (hv372_0.symm.trans hx372_0)
         rw [hv372_0] at ge372_0
         have HL372_0 := Aside0.mk (show Kd.R (Kd.int .i64) 3 _ _ _ _ (rd_L2 x6_1 (ji86)) from ge372_0)
         clear hv372_0 ge372_0
         have HX372_0 := Aside0.mk hx372_0
         clear hcc372 hce372
         (first | simp only [add_plain] at hx372_0 | simp only [add_at] at hx372_0 | simp only [Addr.add, Nat.zero_add] at hx372_0 | skip)
         have HR372_0 := Aside0.mk hi372_0
         have HC372_0 := Aside0.mk hl372_0
         clear hi372_0 hl372_0
         replace p372 := eq_true p372
         replace q372 := eq_true q372
         have p373 : 0 ≤ (x13_2 : Int) := od_
         have q373 : x13_2 < (l0.length : Int) := od_
         obtain ⟨ad373, A373_3, c373_3, e373, hx373_0, hx373_1, hx373_2, hx373_3, hl373_3, hi373_3⟩ := at_T50 HR0.out x13_2 p373 q373
         have hw373_3 := hx373_3
         have hw373_2 := hx373_2
         have hw373_1 := hx373_1
         have hw373_0 := hx373_0
         obtain rfl : ad370 = ad373 := (by injection e373)
         replace hx373_0 := (HB.out.cell (World.block_lt_of_cell? w _ hx373_0)).trans hx373_0
         replace hx373_1 := (HB.out.cell (World.block_lt_of_cell? w _ hx373_1)).trans hx373_1
         replace hx373_2 := (HB.out.cell (World.block_lt_of_cell? w _ hx373_2)).trans hx373_2
         replace hx373_3 := (HB.out.cell (World.block_lt_of_cell? w _ hx373_3)).trans hx373_3
         have HR373_3 := Aside0.mk hi373_3
         have HC373_3 := Aside0.mk hl373_3
         clear hi373_3 hl373_3
         replace p373 := eq_true p373
         replace q373 := eq_true q373
         have ea_ := Option.some.inj (hx371_3.symm.trans hx373_3)
         injection ea_ with ea_ en_ ec_
         subst ea_
         subst ec_
         clear en_
         have p374 : 0 ≤ ((ji89) : Int) := od_
         have q374 : (ji89) < ((rd_L2 x6_1 (ji86)).length : Int) := od_
         obtain ⟨ad374, e374, hx374_0⟩ := Kd.at_int (by repeat (first | (with_reducible exact HR372_0.out) | (with_reducible refine Kd.C_alloc ?_ _) | (with_reducible refine Kd.C_drewN ?_ _) | (with_reducible refine Kd.C_drew ?_) | exact HR372_0.out)) (ji89) p374 q374
         cases e374
         replace p374 := eq_true p374
         replace q374 := eq_true q374
         refine start_ (n := 61) (S := fun w' => w'.cell? (ad370.add ((x13_2).toNat * 4)) = some (.string ((rd_T50 l0 x13_2).f0)) ∧ w'.cell? ⟨(ad370.add ((x13_2).toNat * 4)).block, (ad370.add ((x13_2).toNat * 4)).off + 1, none⟩ = some (.int .i64 ((rd_T50 l0 x13_2).f1)) ∧ w'.cell? ⟨(ad370.add ((x13_2).toNat * 4)).block, (ad370.add ((x13_2).toNat * 4)).off + 2, none⟩ = some (.int .i64 ((rd_T50 l0 x13_2).f2)) ∧ w'.cell? ⟨(ad370.add ((x13_2).toNat * 4)).block, (ad370.add ((x13_2).toNat * 4)).off + 3, none⟩ = some (.slice A371_3 ((rd_T50 l0 x13_2).f3).length c371_3) ∧ w'.cell? ⟨go18, ((ji86)).toNat, none⟩ = some (.slice (some ad374) (rd_L2 x6_1 (ji86)).length c372_0) ∧ w'.cell? (ad370.add ((x13_2).toNat * 4)) = some (.string ((rd_T50 l0 x13_2).f0)) ∧ w'.cell? ⟨(ad370.add ((x13_2).toNat * 4)).block, (ad370.add ((x13_2).toNat * 4)).off + 1, none⟩ = some (.int .i64 ((rd_T50 l0 x13_2).f1)) ∧ w'.cell? ⟨(ad370.add ((x13_2).toNat * 4)).block, (ad370.add ((x13_2).toNat * 4)).off + 2, none⟩ = some (.int .i64 ((rd_T50 l0 x13_2).f2)) ∧ w'.cell? ⟨(ad370.add ((x13_2).toNat * 4)).block, (ad370.add ((x13_2).toNat * 4)).off + 3, none⟩ = some (.slice A371_3 ((rd_T50 l0 x13_2).f3).length c371_3) ∧ w'.cell? (ad374.add ((ji89)).toNat) = some (.int .i64 (rd (rd_L2 x6_1 (ji86)) (ji89)))) (ds := []) (msk 0 61) (by kernel_rfl) rfl rfl ⟨((HB.out.cell (World.block_lt_of_cell? w _ hw371_0)).trans hw371_0), ((HB.out.cell (World.block_lt_of_cell? w _ hw371_1)).trans hw371_1), ((HB.out.cell (World.block_lt_of_cell? w _ hw371_2)).trans hw371_2), ((HB.out.cell (World.block_lt_of_cell? w _ hw371_3)).trans hw371_3), hx372_0, ((HB.out.cell (World.block_lt_of_cell? w _ hw373_0)).trans hw373_0), ((HB.out.cell (World.block_lt_of_cell? w _ hw373_1)).trans hw373_1), ((HB.out.cell (World.block_lt_of_cell? w _ hw373_2)).trans hw373_2), ((HB.out.cell (World.block_lt_of_cell? w _ hw373_3)).trans hw373_3), hx374_0⟩ (fun hHeld => ?_); refine with_tabW spec_BestShelf.tab31 spec_BestShelf.bits31 (fun HT_ HW_ => ?_)
         generalize wr.drew = w93 at HO_6 HO_11 BK327 HB HL372_0 HR371_3 HR372_0 HR373_3 HX372_0 hx371_0 hx371_1 hx371_2 hx371_3 hx372_0 hx373_0 hx373_1 hx373_2 hx373_3 hx374_0 hHeld ⊢
         refine pu_ 0 150 (msk 1 60) HT_.out ?_; refine pu_ 1 151 (msk 2 59) HT_.out ?_; refine pu_ 2 152 (msk 3 58) HT_.out ?_; refine pu_ 3 153 (msk 4 57) HT_.out ?_; refine pu_ 4 154 (msk 5 56) HT_.out ?_; refine pu_ 7 157 (mskl 61 5 [7]) HT_.out ?_
         refine tk_ 5 155 (mskl 61 6 [7]) HT_.out HW_.out hHeld ?_ (hy := by rintro w' ⟨s0, s1, s2, s3, s4, s5, s6, s7, s8, s9⟩; go_simp; with_reducible rfl)
         refine pu_ 6 156 (msk 8 53) HT_.out ?_; refine pu_ 8 158 (msk 9 52) HT_.out ?_; refine pu_ 9 159 (msk 10 51) HT_.out ?_; refine pu_ 10 160 (msk 11 50) HT_.out ?_; refine pu_ 11 161 (msk 12 49) HT_.out ?_; refine pu_ 12 162 (msk 13 48) HT_.out ?_; refine pu_ 13 163 (msk 14 47) HT_.out ?_; refine pu_ 15 165 (mskl 61 14 [15]) HT_.out ?_; refine pu_ 16 166 (mskl 61 14 [15, 16]) HT_.out ?_; refine pu_ 17 167 (mskl 61 14 [15, 16, 17]) HT_.out ?_; refine pu_ 18 168 (mskl 61 14 [15, 16, 17, 18]) HT_.out ?_; refine pu_ 19 169 (mskl 61 14 [15, 16, 17, 18, 19]) HT_.out ?_; refine pu_ 20 170 (mskl 61 14 [15, 16, 17, 18, 19, 20]) HT_.out ?_
         refine tk_ 14 164 (msk 21 40) HT_.out HW_.out hHeld ?_ (hy := by rintro w' ⟨s0, s1, s2, s3, s4, s5, s6, s7, s8, s9⟩; go_simp; with_reducible rfl)
         refine tk_ 21 171 (msk 22 39) HT_.out HW_.out hHeld ?_ (hy := by rintro w' ⟨s0, s1, s2, s3, s4, s5, s6, s7, s8, s9⟩; go_simp; with_reducible rfl)
         refine pu_ 22 172 (msk 23 38) HT_.out ?_; refine pu_ 23 173 (msk 24 37) HT_.out ?_; refine pu_ 24 174 (msk 25 36) HT_.out ?_
         refine tk_ 25 175 (msk 26 35) HT_.out HW_.out hHeld ?_ (hy := by rintro w' ⟨s0, s1, s2, s3, s4, s5, s6, s7, s8, s9⟩; go_simp; with_reducible rfl)
         refine pu_ 26 176 (msk 27 34) HT_.out ?_; refine pu_ 27 177 (msk 28 33) HT_.out ?_; refine pu_ 28 178 (msk 29 32) HT_.out ?_; refine pn_ 29 179 (msk 30 31) HT_.out ?_; refine pn_ 30 180 (msk 31 30) HT_.out ?_; refine pn_ 31 181 (msk 32 29) HT_.out ?_; refine pn_ 32 182 (msk 33 28) HT_.out ?_; refine pn_ 33 183 (msk 34 27) HT_.out ?_; refine pn_ 34 184 (msk 35 26) HT_.out ?_; refine pn_ 35 185 (msk 36 25) HT_.out ?_; refine pn_ 36 186 (msk 37 24) HT_.out ?_; refine pn_ 37 187 (msk 38 23) HT_.out ?_; refine pn_ 38 188 (msk 39 22) HT_.out ?_; refine pn_ 39 189 (msk 40 21) HT_.out ?_; refine pn_ 40 190 (msk 41 20) HT_.out ?_; refine pn_ 41 191 (msk 42 19) HT_.out ?_; refine pn_ 42 192 (msk 43 18) HT_.out ?_; refine pn_ 43 193 (msk 44 17) HT_.out ?_; refine pn_ 44 194 (msk 45 16) HT_.out ?_; refine pn_ 45 195 (msk 46 15) HT_.out ?_; refine pn_ 46 196 (msk 47 14) HT_.out ?_; refine pn_ 47 197 (msk 48 13) HT_.out ?_; refine pn_ 48 198 (msk 49 12) HT_.out ?_; refine pn_ 49 199 (msk 50 11) HT_.out ?_; refine pn_ 50 200 (msk 51 10) HT_.out ?_; refine pn_ 51 201 (msk 52 9) HT_.out ?_; refine pn_ 52 202 (msk 53 8) HT_.out ?_; refine pn_ 53 203 (msk 54 7) HT_.out ?_; refine pn_ 54 204 (msk 55 6) HT_.out ?_; refine pn_ 55 205 (msk 56 5) HT_.out ?_; refine pn_ 56 206 (msk 57 4) HT_.out ?_; refine pn_ 57 207 (msk 58 3) HT_.out ?_; refine pn_ 58 208 (msk 59 2) HT_.out ?_; refine pn_ 59 209 (msk 60 1) HT_.out ?_; refine pu_ 60 210 (msk 61 0) HT_.out ?_
         refine done_ (done_of HT_.out (by kernel_rfl)) ?_
         try go_wp2
         go_roundg k3
         case measure => have := HK1.out; have := HK2.out; have := HK3.out; omega
         case rel => exact ⟨(wrap64 (x14_3 - 1)), (by first | rfl | (simp; done) | (simp [*]; done)), H', ⟨by have := HK1.out; have := HK2.out; have := HK3.out; omega⟩, ⟨by (try simp only [hl6_1]); (with_reducible repeat (first | apply Kd.S_alloc | apply Kd.S_drewN | apply Kd.S_drew)); exact HO_6.out⟩, ⟨by (try simp only [hl6_1]); (with_reducible repeat (first | apply Kd.R_alloc | apply Kd.R_drewN | apply Kd.R_drew)); exact HO_11.out⟩, ⟨by (try simp only [hl6_1]); (with_reducible repeat (first | refine blk_drewN ?_ _ | refine blk_drew ?_ | refine blk_alloc ?_ _)); exact BK327.out⟩, ⟨by repeat (first | (with_reducible first | exact HB.out | apply below_alloc | apply pw_below_drewN | apply below_drew1 | refine below_set ?_ GE327.out) | exact HB.out)⟩⟩
       rw [if_neg c92] at H
       have c92b0 : decide ((rd (rd_L2 x6_1 (ji86)) (ji89)) < 0) = false := decide_eq_false c92
       clear c92
       replace H := Option.bind_eq_some_iff.mp H
       obtain ⟨t379, A940, H⟩ := H
       replace H : (if x13_2 < (x6_1.length : Int) then (if 0 ≤ x12_2 then (if x12_2 < ((rd_L2 x6_1 x13_2).length : Int) then (if (wrap64 ((rd (rd_L2 x6_1 (ji86)) (ji89)) + t379)) = (rd (rd_L2 x6_1 x13_2) x12_2) then (if x11_2.length < 17592186044416 then (spec_BestShelf.l3 k3 l0 a1 x6_1 (x11_2 ++ [x14_3]) ji89 ji86) else (none)) else (spec_BestShelf.l4 k3 l0 a1 x6_1 x11_2 x12_2 x13_2 (wrap64 (x14_3 - 1)))) else (none)) else (none)) else (none)) = some (r1, r2, r3, r4) := H
       have A94 := Aside0.mk A940
       clear A940
       by_cases c95 : x13_2 < (x6_1.length : Int)
       rotate_left
       ·rw [if_neg c95] at H
        exact absurd H (by simp)
       rw [if_pos c95] at H
       have c95b0 : decide (x13_2 < (x6_1.length : Int)) = true := decide_eq_true c95
       clear c95
       by_cases c96 : 0 ≤ x12_2
       rotate_left
       ·rw [if_neg c96] at H
        exact absurd H (by simp)
       rw [if_pos c96] at H
       have c96b0 : decide (0 ≤ x12_2) = true := decide_eq_true c96
       clear c96
       by_cases c97 : x12_2 < ((rd_L2 x6_1 x13_2).length : Int)
       rotate_left
       ·rw [if_neg c97] at H
        exact absurd H (by simp)
       rw [if_pos c97] at H
       have c97b0 : decide (x12_2 < ((rd_L2 x6_1 x13_2).length : Int)) = true := decide_eq_true c97
       clear c97
       by_cases c98 : (wrap64 ((rd (rd_L2 x6_1 (ji86)) (ji89)) + t379)) = (rd (rd_L2 x6_1 x13_2) x12_2)
       rotate_left
       ·rw [if_neg c98] at H
        have c98b0 : ((wrap64 ((rd (rd_L2 x6_1 (ji86)) (ji89)) + t379)) == (rd (rd_L2 x6_1 x13_2) x12_2)) = false := beq_eq_false_iff_ne.mpr c98
        have c98b1 : ((wrap64 ((rd (rd_L2 x6_1 (ji86)) (ji89)) + t379)) != (rd (rd_L2 x6_1 x13_2) x12_2)) = true := bne_iff_ne.mpr c98
        as_aux_lemma =>
         have H' := Aside0.mk H
         clear H
         try go_wp2
         have n0_ := Aside0.mk (Kd.S_drew HO_6.out)
         have n1_ := Aside0.mk (Kd.R_drew HO_11.out)
         have n2_ := Aside0.mk (blk_drew BK327.out)
         have n3_ := Aside0.mk (below_drew1 HB.out)
         clear HO_6
         clear HO_11
         clear BK327
         clear HB
         have HO_6 := n0_
         have HO_11 := n1_
         have BK327 := n2_
         have HB := n3_
         clear n0_ n1_ n2_ n3_
         have p371 : 0 ≤ (x13_2 : Int) := od_
         have q371 : x13_2 < (l0.length : Int) := od_
         obtain ⟨ad371, A371_3, c371_3, e371, hx371_0, hx371_1, hx371_2, hx371_3, hl371_3, hi371_3⟩ := at_T50 HR0.out x13_2 p371 q371
         have hw371_3 := hx371_3
         have hw371_2 := hx371_2
         have hw371_1 := hx371_1
         have hw371_0 := hx371_0
         obtain rfl : ad370 = ad371 := (by injection e371)
         replace hx371_0 := (HB.out.cell (World.block_lt_of_cell? w _ hx371_0)).trans hx371_0
         replace hx371_1 := (HB.out.cell (World.block_lt_of_cell? w _ hx371_1)).trans hx371_1
         replace hx371_2 := (HB.out.cell (World.block_lt_of_cell? w _ hx371_2)).trans hx371_2
         replace hx371_3 := (HB.out.cell (World.block_lt_of_cell? w _ hx371_3)).trans hx371_3
         have HR371_3 := Aside0.mk hi371_3
         have HC371_3 := Aside0.mk hl371_3
         clear hi371_3 hl371_3
         replace p371 := eq_true p371
         replace q371 := eq_true q371
         have p372 : 0 ≤ ((ji86) : Int) := od_
         have q372 : (ji86) < (x6_1.length : Int) := od_
         obtain ⟨ad372, A372_0, c372_0, e372, hx372_0, hl372_0, hi372_0⟩ := at_L2 (Kd.S_reads' HO_6.out).2.2 (ji86) p372 q372
         obtain rfl : (⟨go18, 0, none⟩ : Addr) = ad372 := (by injection e372)
         obtain ⟨ce372, hce372, hMe372, hcc372⟩ := Kd.S_get HO_6.out [] (ji86) p372 (by first | exact q372 | exact od_ | (have e_ := (Kd.S_reads' HO_6.out).1; omega))
         obtain ⟨ve372_0, rfl, ge372_0⟩ := hMe372
         have hv372_0 := hcc372 0 _ rfl
         rw [Nat.add_zero, show ((Kd.slice 3 (Kd.int .i64))).sz = 1 from rfl, Nat.mul_one] at hv372_0
         replace hv372_0 := Option.some.inj (hv372_0.symm.trans hx372_0)
         rw [hv372_0] at ge372_0
         have HL372_0 := Aside0.mk (show Kd.R (Kd.int .i64) 3 _ _ _ _ (rd_L2 x6_1 (ji86)) from ge372_0)
         clear hv372_0 ge372_0
         have HX372_0 := Aside0.mk hx372_0
         clear hcc372 hce372
         (first | simp only [add_plain] at hx372_0 | simp only [add_at] at hx372_0 | simp only [Addr.add, Nat.zero_add] at hx372_0 | skip)
         have HR372_0 := Aside0.mk hi372_0
         have HC372_0 := Aside0.mk hl372_0
         clear hi372_0 hl372_0
         replace p372 := eq_true p372
         replace q372 := eq_true q372
         have p373 : 0 ≤ (x13_2 : Int) := od_
         have q373 : x13_2 < (l0.length : Int) := od_
         obtain ⟨ad373, A373_3, c373_3, e373, hx373_0, hx373_1, hx373_2, hx373_3, hl373_3, hi373_3⟩ := at_T50 HR0.out x13_2 p373 q373
         have hw373_3 := hx373_3
         have hw373_2 := hx373_2
         have hw373_1 := hx373_1
         have hw373_0 := hx373_0
         obtain rfl : ad370 = ad373 := (by injection e373)
         replace hx373_0 := (HB.out.cell (World.block_lt_of_cell? w _ hx373_0)).trans hx373_0
         replace hx373_1 := (HB.out.cell (World.block_lt_of_cell? w _ hx373_1)).trans hx373_1
         replace hx373_2 := (HB.out.cell (World.block_lt_of_cell? w _ hx373_2)).trans hx373_2
         replace hx373_3 := (HB.out.cell (World.block_lt_of_cell? w _ hx373_3)).trans hx373_3
         have HR373_3 := Aside0.mk hi373_3
         have HC373_3 := Aside0.mk hl373_3
         clear hi373_3 hl373_3
         replace p373 := eq_true p373
         replace q373 := eq_true q373
         have ea_ := Option.some.inj (hx371_3.symm.trans hx373_3)
         injection ea_ with ea_ en_ ec_
         subst ea_
         subst ec_
         clear en_
         have p374 : 0 ≤ ((ji89) : Int) := od_
         have q374 : (ji89) < ((rd_L2 x6_1 (ji86)).length : Int) := od_
         obtain ⟨ad374, e374, hx374_0⟩ := Kd.at_int (by repeat (first | (with_reducible exact HR372_0.out) | (with_reducible refine Kd.C_alloc ?_ _) | (with_reducible refine Kd.C_drewN ?_ _) | (with_reducible refine Kd.C_drew ?_) | exact HR372_0.out)) (ji89) p374 q374
         cases e374
         replace p374 := eq_true p374
         replace q374 := eq_true q374
         have p375 : 0 ≤ ((ji86) : Int) := od_
         have q375 : (ji86) < (x6_1.length : Int) := od_
         obtain ⟨ad375, A375_0, c375_0, e375, hx375_0, hl375_0, hi375_0⟩ := at_L2 (Kd.S_reads' HO_6.out).2.2 (ji86) p375 q375
         obtain rfl : (⟨go18, 0, none⟩ : Addr) = ad375 := (by injection e375)
         obtain ⟨ce375, hce375, hMe375, hcc375⟩ := Kd.S_get HO_6.out [] (ji86) p375 (by first | exact q375 | exact od_ | (have e_ := (Kd.S_reads' HO_6.out).1; omega))
         obtain ⟨ve375_0, rfl, ge375_0⟩ := hMe375
         have hv375_0 := hcc375 0 _ rfl
         rw [Nat.add_zero, show ((Kd.slice 3 (Kd.int .i64))).sz = 1 from rfl, Nat.mul_one] at hv375_0
         replace hv375_0 := Option.some.inj (hv375_0.symm.trans hx375_0)
         rw [hv375_0] at ge375_0
         have HL375_0 := Aside0.mk (show Kd.R (Kd.int .i64) 3 _ _ _ _ (rd_L2 x6_1 (ji86)) from ge375_0)
         clear hv375_0 ge375_0
         have HX375_0 := Aside0.mk hx375_0
         clear hcc375 hce375
         (first | simp only [add_plain] at hx375_0 | simp only [add_at] at hx375_0 | simp only [Addr.add, Nat.zero_add] at hx375_0 | skip)
         have HR375_0 := Aside0.mk hi375_0
         have HC375_0 := Aside0.mk hl375_0
         clear hi375_0 hl375_0
         replace p375 := eq_true p375
         replace q375 := eq_true q375
         have ea_ := Option.some.inj (hx372_0.symm.trans hx375_0)
         injection ea_ with ea_ en_ ec_
         subst ea_
         subst ec_
         clear en_
         have p376 : 0 ≤ (x13_2 : Int) := od_
         have q376 : x13_2 < (l0.length : Int) := od_
         obtain ⟨ad376, A376_3, c376_3, e376, hx376_0, hx376_1, hx376_2, hx376_3, hl376_3, hi376_3⟩ := at_T50 HR0.out x13_2 p376 q376
         have hw376_3 := hx376_3
         have hw376_2 := hx376_2
         have hw376_1 := hx376_1
         have hw376_0 := hx376_0
         obtain rfl : ad370 = ad376 := (by injection e376)
         replace hx376_0 := (HB.out.cell (World.block_lt_of_cell? w _ hx376_0)).trans hx376_0
         replace hx376_1 := (HB.out.cell (World.block_lt_of_cell? w _ hx376_1)).trans hx376_1
         replace hx376_2 := (HB.out.cell (World.block_lt_of_cell? w _ hx376_2)).trans hx376_2
         replace hx376_3 := (HB.out.cell (World.block_lt_of_cell? w _ hx376_3)).trans hx376_3
         have HR376_3 := Aside0.mk hi376_3
         have HC376_3 := Aside0.mk hl376_3
         clear hi376_3 hl376_3
         replace p376 := eq_true p376
         replace q376 := eq_true q376
         have ea_ := Option.some.inj (hx371_3.symm.trans hx376_3)
         injection ea_ with ea_ en_ ec_
         subst ea_
         subst ec_
         clear en_
         have p377 : 0 ≤ ((ji89) : Int) := od_
         have q377 : (ji89) < ((rd_L2 x6_1 (ji86)).length : Int) := od_
         obtain ⟨ad377, e377, hx377_0⟩ := Kd.at_int (by repeat (first | (with_reducible exact HR375_0.out) | (with_reducible refine Kd.C_alloc ?_ _) | (with_reducible refine Kd.C_drewN ?_ _) | (with_reducible refine Kd.C_drew ?_) | exact HR375_0.out)) (ji89) p377 q377
         cases e377
         replace p377 := eq_true p377
         replace q377 := eq_true q377
         have p378 : 0 ≤ (x13_2 : Int) := od_
         have q378 : x13_2 < (l0.length : Int) := od_
         obtain ⟨ad378, A378_3, c378_3, e378, hx378_0, hx378_1, hx378_2, hx378_3, hl378_3, hi378_3⟩ := at_T50 HR0.out x13_2 p378 q378
         have hw378_3 := hx378_3
         have hw378_2 := hx378_2
         have hw378_1 := hx378_1
         have hw378_0 := hx378_0
         obtain rfl : ad370 = ad378 := (by injection e378)
         replace hx378_0 := (HB.out.cell (World.block_lt_of_cell? w _ hx378_0)).trans hx378_0
         replace hx378_1 := (HB.out.cell (World.block_lt_of_cell? w _ hx378_1)).trans hx378_1
         replace hx378_2 := (HB.out.cell (World.block_lt_of_cell? w _ hx378_2)).trans hx378_2
         replace hx378_3 := (HB.out.cell (World.block_lt_of_cell? w _ hx378_3)).trans hx378_3
         have HR378_3 := Aside0.mk hi378_3
         have HC378_3 := Aside0.mk hl378_3
         clear hi378_3 hl378_3
         replace p378 := eq_true p378
         replace q378 := eq_true q378
         have ea_ := Option.some.inj (hx371_3.symm.trans hx378_3)
         injection ea_ with ea_ en_ ec_
         subst ea_
         subst ec_
         clear en_
         have p380 : 0 ≤ (x13_2 : Int) := od_
         have q380 : x13_2 < (x6_1.length : Int) := od_
         obtain ⟨ad380, A380_0, c380_0, e380, hx380_0, hl380_0, hi380_0⟩ := at_L2 (Kd.S_reads' HO_6.out).2.2 x13_2 p380 q380
         obtain rfl : (⟨go18, 0, none⟩ : Addr) = ad380 := (by injection e380)
         obtain ⟨ce380, hce380, hMe380, hcc380⟩ := Kd.S_get HO_6.out [] x13_2 p380 (by first | exact q380 | exact od_ | (have e_ := (Kd.S_reads' HO_6.out).1; omega))
         obtain ⟨ve380_0, rfl, ge380_0⟩ := hMe380
         have hv380_0 := hcc380 0 _ rfl
         rw [Nat.add_zero, show ((Kd.slice 3 (Kd.int .i64))).sz = 1 from rfl, Nat.mul_one] at hv380_0
         replace hv380_0 := Option.some.inj (hv380_0.symm.trans hx380_0)
         rw [hv380_0] at ge380_0
         have HL380_0 := Aside0.mk (show Kd.R (Kd.int .i64) 3 _ _ _ _ (rd_L2 x6_1 x13_2) from ge380_0)
         clear hv380_0 ge380_0
         have HX380_0 := Aside0.mk hx380_0
         clear hcc380 hce380
         (first | simp only [add_plain] at hx380_0 | simp only [add_at] at hx380_0 | simp only [Addr.add, Nat.zero_add] at hx380_0 | skip)
         have HR380_0 := Aside0.mk hi380_0
         have HC380_0 := Aside0.mk hl380_0
         clear hi380_0 hl380_0
         replace p380 := eq_true p380
         replace q380 := eq_true q380
         have p381 : 0 ≤ (x12_2 : Int) := od_
         have q381 : x12_2 < ((rd_L2 x6_1 x13_2).length : Int) := od_
         obtain ⟨ad381, e381, hx381_0⟩ := Kd.at_int (by repeat (first | (with_reducible exact HR380_0.out) | (with_reducible refine Kd.C_alloc ?_ _) | (with_reducible refine Kd.C_drewN ?_ _) | (with_reducible refine Kd.C_drew ?_) | exact HR380_0.out)) x12_2 p381 q381
         cases e381
         replace p381 := eq_true p381
         replace q381 := eq_true q381
         refine start_ (n := 61) (S := fun w' => w'.cell? (ad370.add ((x13_2).toNat * 4)) = some (.string ((rd_T50 l0 x13_2).f0)) ∧ w'.cell? ⟨(ad370.add ((x13_2).toNat * 4)).block, (ad370.add ((x13_2).toNat * 4)).off + 1, none⟩ = some (.int .i64 ((rd_T50 l0 x13_2).f1)) ∧ w'.cell? ⟨(ad370.add ((x13_2).toNat * 4)).block, (ad370.add ((x13_2).toNat * 4)).off + 2, none⟩ = some (.int .i64 ((rd_T50 l0 x13_2).f2)) ∧ w'.cell? ⟨(ad370.add ((x13_2).toNat * 4)).block, (ad370.add ((x13_2).toNat * 4)).off + 3, none⟩ = some (.slice A371_3 ((rd_T50 l0 x13_2).f3).length c371_3) ∧ w'.cell? ⟨go18, ((ji86)).toNat, none⟩ = some (.slice (some ad374) (rd_L2 x6_1 (ji86)).length c372_0) ∧ w'.cell? (ad370.add ((x13_2).toNat * 4)) = some (.string ((rd_T50 l0 x13_2).f0)) ∧ w'.cell? ⟨(ad370.add ((x13_2).toNat * 4)).block, (ad370.add ((x13_2).toNat * 4)).off + 1, none⟩ = some (.int .i64 ((rd_T50 l0 x13_2).f1)) ∧ w'.cell? ⟨(ad370.add ((x13_2).toNat * 4)).block, (ad370.add ((x13_2).toNat * 4)).off + 2, none⟩ = some (.int .i64 ((rd_T50 l0 x13_2).f2)) ∧ w'.cell? ⟨(ad370.add ((x13_2).toNat * 4)).block, (ad370.add ((x13_2).toNat * 4)).off + 3, none⟩ = some (.slice A371_3 ((rd_T50 l0 x13_2).f3).length c371_3) ∧ w'.cell? (ad374.add ((ji89)).toNat) = some (.int .i64 (rd (rd_L2 x6_1 (ji86)) (ji89))) ∧ w'.cell? ⟨go18, ((ji86)).toNat, none⟩ = some (.slice (some ad374) (rd_L2 x6_1 (ji86)).length c372_0) ∧ w'.cell? (ad370.add ((x13_2).toNat * 4)) = some (.string ((rd_T50 l0 x13_2).f0)) ∧ w'.cell? ⟨(ad370.add ((x13_2).toNat * 4)).block, (ad370.add ((x13_2).toNat * 4)).off + 1, none⟩ = some (.int .i64 ((rd_T50 l0 x13_2).f1)) ∧ w'.cell? ⟨(ad370.add ((x13_2).toNat * 4)).block, (ad370.add ((x13_2).toNat * 4)).off + 2, none⟩ = some (.int .i64 ((rd_T50 l0 x13_2).f2)) ∧ w'.cell? ⟨(ad370.add ((x13_2).toNat * 4)).block, (ad370.add ((x13_2).toNat * 4)).off + 3, none⟩ = some (.slice A371_3 ((rd_T50 l0 x13_2).f3).length c371_3) ∧ w'.cell? (ad374.add ((ji89)).toNat) = some (.int .i64 (rd (rd_L2 x6_1 (ji86)) (ji89))) ∧ w'.cell? (ad370.add ((x13_2).toNat * 4)) = some (.string ((rd_T50 l0 x13_2).f0)) ∧ w'.cell? ⟨(ad370.add ((x13_2).toNat * 4)).block, (ad370.add ((x13_2).toNat * 4)).off + 1, none⟩ = some (.int .i64 ((rd_T50 l0 x13_2).f1)) ∧ w'.cell? ⟨(ad370.add ((x13_2).toNat * 4)).block, (ad370.add ((x13_2).toNat * 4)).off + 2, none⟩ = some (.int .i64 ((rd_T50 l0 x13_2).f2)) ∧ w'.cell? ⟨(ad370.add ((x13_2).toNat * 4)).block, (ad370.add ((x13_2).toNat * 4)).off + 3, none⟩ = some (.slice A371_3 ((rd_T50 l0 x13_2).f3).length c371_3) ∧ w'.cell? ⟨go18, (x13_2).toNat, none⟩ = some (.slice (some ad381) (rd_L2 x6_1 x13_2).length c380_0) ∧ w'.cell? (ad381.add (x12_2).toNat) = some (.int .i64 (rd (rd_L2 x6_1 x13_2) x12_2))) (ds := []) (msk 0 61) (by kernel_rfl) rfl rfl ⟨((HB.out.cell (World.block_lt_of_cell? w _ hw371_0)).trans hw371_0), ((HB.out.cell (World.block_lt_of_cell? w _ hw371_1)).trans hw371_1), ((HB.out.cell (World.block_lt_of_cell? w _ hw371_2)).trans hw371_2), ((HB.out.cell (World.block_lt_of_cell? w _ hw371_3)).trans hw371_3), hx372_0, ((HB.out.cell (World.block_lt_of_cell? w _ hw373_0)).trans hw373_0), ((HB.out.cell (World.block_lt_of_cell? w _ hw373_1)).trans hw373_1), ((HB.out.cell (World.block_lt_of_cell? w _ hw373_2)).trans hw373_2), ((HB.out.cell (World.block_lt_of_cell? w _ hw373_3)).trans hw373_3), hx374_0, hx375_0, ((HB.out.cell (World.block_lt_of_cell? w _ hw376_0)).trans hw376_0), ((HB.out.cell (World.block_lt_of_cell? w _ hw376_1)).trans hw376_1), ((HB.out.cell (World.block_lt_of_cell? w _ hw376_2)).trans hw376_2), ((HB.out.cell (World.block_lt_of_cell? w _ hw376_3)).trans hw376_3), hx377_0, ((HB.out.cell (World.block_lt_of_cell? w _ hw378_0)).trans hw378_0), ((HB.out.cell (World.block_lt_of_cell? w _ hw378_1)).trans hw378_1), ((HB.out.cell (World.block_lt_of_cell? w _ hw378_2)).trans hw378_2), ((HB.out.cell (World.block_lt_of_cell? w _ hw378_3)).trans hw378_3), hx380_0, hx381_0⟩ (fun hHeld => ?_); refine with_tabW spec_BestShelf.tab31 spec_BestShelf.bits31 (fun HT_ HW_ => ?_)
         generalize wr.drew = w103 at HO_6 HO_11 BK327 HB HL372_0 HL375_0 HL380_0 HR371_3 HR372_0 HR373_3 HR375_0 HR376_3 HR378_3 HR380_0 HX372_0 HX375_0 HX380_0 hx371_0 hx371_1 hx371_2 hx371_3 hx372_0 hx373_0 hx373_1 hx373_2 hx373_3 hx374_0 hx375_0 hx376_0 hx376_1 hx376_2 hx376_3 hx377_0 hx378_0 hx378_1 hx378_2 hx378_3 hx380_0 hx381_0 hHeld ⊢
         refine pu_ 0 150 (msk 1 60) HT_.out ?_; refine pu_ 1 151 (msk 2 59) HT_.out ?_; refine pu_ 2 152 (msk 3 58) HT_.out ?_; refine pu_ 3 153 (msk 4 57) HT_.out ?_; refine pu_ 4 154 (msk 5 56) HT_.out ?_; refine pu_ 7 157 (mskl 61 5 [7]) HT_.out ?_
         refine tk_ 5 155 (mskl 61 6 [7]) HT_.out HW_.out hHeld ?_ (hy := by rintro w' ⟨s0, s1, s2, s3, s4, s5, s6, s7, s8, s9, s10, s11, s12, s13, s14, s15, s16, s17, s18, s19, s20, s21⟩; go_simp; with_reducible rfl)
         refine pu_ 6 156 (msk 8 53) HT_.out ?_; refine pu_ 8 158 (msk 9 52) HT_.out ?_; refine pu_ 9 159 (msk 10 51) HT_.out ?_; refine pu_ 10 160 (msk 11 50) HT_.out ?_; refine pu_ 11 161 (msk 12 49) HT_.out ?_; refine pu_ 12 162 (msk 13 48) HT_.out ?_; refine pu_ 13 163 (msk 14 47) HT_.out ?_; refine pu_ 15 165 (mskl 61 14 [15]) HT_.out ?_; refine pu_ 16 166 (mskl 61 14 [15, 16]) HT_.out ?_; refine pu_ 17 167 (mskl 61 14 [15, 16, 17]) HT_.out ?_; refine pu_ 18 168 (mskl 61 14 [15, 16, 17, 18]) HT_.out ?_; refine pu_ 19 169 (mskl 61 14 [15, 16, 17, 18, 19]) HT_.out ?_; refine pu_ 20 170 (mskl 61 14 [15, 16, 17, 18, 19, 20]) HT_.out ?_
         refine tk_ 14 164 (msk 21 40) HT_.out HW_.out hHeld ?_ (hy := by rintro w' ⟨s0, s1, s2, s3, s4, s5, s6, s7, s8, s9, s10, s11, s12, s13, s14, s15, s16, s17, s18, s19, s20, s21⟩; go_simp; with_reducible rfl)
         refine tk_ 21 171 (msk 22 39) HT_.out HW_.out hHeld ?_ (hy := by rintro w' ⟨s0, s1, s2, s3, s4, s5, s6, s7, s8, s9, s10, s11, s12, s13, s14, s15, s16, s17, s18, s19, s20, s21⟩; go_simp; with_reducible rfl)
         refine pu_ 22 172 (msk 23 38) HT_.out ?_; refine pu_ 23 173 (msk 24 37) HT_.out ?_; refine pu_ 24 174 (msk 25 36) HT_.out ?_
         refine tk_ 25 175 (msk 26 35) HT_.out HW_.out hHeld ?_ (hy := by rintro w' ⟨s0, s1, s2, s3, s4, s5, s6, s7, s8, s9, s10, s11, s12, s13, s14, s15, s16, s17, s18, s19, s20, s21⟩; go_simp; with_reducible rfl)
         refine pu_ 26 176 (msk 27 34) HT_.out ?_; refine pu_ 27 177 (msk 28 33) HT_.out ?_; refine pu_ 28 178 (msk 29 32) HT_.out ?_; refine pu_ 29 179 (msk 30 31) HT_.out ?_; refine pu_ 30 180 (msk 31 30) HT_.out ?_; refine pu_ 31 181 (msk 32 29) HT_.out ?_; refine pu_ 32 182 (msk 33 28) HT_.out ?_; refine pu_ 34 184 (mskl 61 33 [34]) HT_.out ?_; refine pu_ 35 185 (mskl 61 33 [34, 35]) HT_.out ?_; refine pu_ 36 186 (mskl 61 33 [34, 35, 36]) HT_.out ?_; refine pu_ 37 187 (mskl 61 33 [34, 35, 36, 37]) HT_.out ?_; refine pu_ 38 188 (mskl 61 33 [34, 35, 36, 37, 38]) HT_.out ?_; refine pu_ 39 189 (mskl 61 33 [34, 35, 36, 37, 38, 39]) HT_.out ?_; refine pu_ 45 195 (mskl 61 33 [34, 35, 36, 37, 38, 39, 45]) HT_.out ?_; refine pu_ 46 196 (mskl 61 33 [34, 35, 36, 37, 38, 39, 45, 46]) HT_.out ?_; refine pu_ 47 197 (mskl 61 33 [34, 35, 36, 37, 38, 39, 45, 46, 47]) HT_.out ?_; refine pu_ 49 199 (mskl 61 33 [34, 35, 36, 37, 38, 39, 45, 46, 47, 49]) HT_.out ?_; refine pu_ 52 202 (mskl 61 33 [34, 35, 36, 37, 38, 39, 45, 46, 47, 49, 52]) HT_.out ?_; refine pu_ 53 203 (mskl 61 33 [34, 35, 36, 37, 38, 39, 45, 46, 47, 49, 52, 53]) HT_.out ?_; refine pu_ 54 204 (mskl 61 33 [34, 35, 36, 37, 38, 39, 45, 46, 47, 49, 52, 53, 54]) HT_.out ?_; refine pu_ 56 206 (mskl 61 33 [34, 35, 36, 37, 38, 39, 45, 46, 47, 49, 52, 53, 54, 56]) HT_.out ?_
         refine tk_ 33 183 (mskl 61 40 [45, 46, 47, 49, 52, 53, 54, 56]) HT_.out HW_.out hHeld ?_ (hy := by rintro w' ⟨s0, s1, s2, s3, s4, s5, s6, s7, s8, s9, s10, s11, s12, s13, s14, s15, s16, s17, s18, s19, s20, s21⟩; go_simp; with_reducible rfl)
         refine tk_ 40 190 (mskl 61 41 [45, 46, 47, 49, 52, 53, 54, 56]) HT_.out HW_.out hHeld ?_ (hy := by rintro w' ⟨s0, s1, s2, s3, s4, s5, s6, s7, s8, s9, s10, s11, s12, s13, s14, s15, s16, s17, s18, s19, s20, s21⟩; go_simp; with_reducible rfl)
         refine pu_ 41 191 (mskl 61 42 [45, 46, 47, 49, 52, 53, 54, 56]) HT_.out ?_; refine pu_ 42 192 (mskl 61 43 [45, 46, 47, 49, 52, 53, 54, 56]) HT_.out ?_; refine pu_ 43 193 (mskl 61 44 [45, 46, 47, 49, 52, 53, 54, 56]) HT_.out ?_
         refine tk_ 44 194 (mskl 61 48 [49, 52, 53, 54, 56]) HT_.out HW_.out hHeld ?_ (hy := by rintro w' ⟨s0, s1, s2, s3, s4, s5, s6, s7, s8, s9, s10, s11, s12, s13, s14, s15, s16, s17, s18, s19, s20, s21⟩; go_simp; with_reducible rfl)
         refine tk_ 48 198 (mskl 61 50 [52, 53, 54, 56]) HT_.out HW_.out hHeld ?_ (hy := by rintro w' ⟨s0, s1, s2, s3, s4, s5, s6, s7, s8, s9, s10, s11, s12, s13, s14, s15, s16, s17, s18, s19, s20, s21⟩; go_simp; with_reducible rfl)
         refine tk_ 55 205 (mskl 61 50 [52, 53, 54, 55, 56]) HT_.out HW_.out hHeld ?_ (hy := by rintro w' ⟨s0, s1, s2, s3, s4, s5, s6, s7, s8, s9, s10, s11, s12, s13, s14, s15, s16, s17, s18, s19, s20, s21⟩; go_simp; with_reducible rfl)
         refine pu_ 57 207 (mskl 61 50 [52, 53, 54, 55, 56, 57]) HT_.out ?_
         refine tk_ 58 208 (mskl 61 50 [52, 53, 54, 55, 56, 57, 58]) HT_.out HW_.out hHeld ?_ (hy := by rintro w' ⟨s0, s1, s2, s3, s4, s5, s6, s7, s8, s9, s10, s11, s12, s13, s14, s15, s16, s17, s18, s19, s20, s21⟩; go_simp; with_reducible rfl)
         refine one_ (i := 50) (N := some 200) (mskl 61 51 [52, 53, 54, 55, 56, 57, 58]) rfl rfl (one_of HT_.out (by kernel_rfl)) (by decide) (fun K hK => ?_)
         refine goes_ Try.func31 (by kernel_rfl) rfl #[.agg #[.string ((rd_T50 l0 x13_2).f0), .int .i64 ((rd_T50 l0 x13_2).f1), .int .i64 ((rd_T50 l0 x13_2).f2), .slice A371_3 ((rd_T50 l0 x13_2).f3).length c371_3], .int .i64 x14_3] (by rfl) rfl rfl (by (try simp only [List.map_toArray, List.map_cons, List.map_nil]); first | done | rfl | (simp only [List.length_drop, List.length_take]; rfl)) ?_
         with_reducible refine (spec_l13Gain.calls k3 ((rd_T50 l0 x13_2).f0) ((rd_T50 l0 x13_2).f1) ((rd_T50 l0 x13_2).f2) _ _ ((rd_T50 l0 x13_2).f3) x14_3 t379 _ ?side1 ?side2 A94.out).mono ?_
         (case side1 => repeat (first | exact (Kd.C_below HR378_3.out HB.out) | (with_reducible refine Kd.C_alloc ?_ _) | (with_reducible refine Kd.C_drewN ?_ _) | (with_reducible refine Kd.C_drew ?_)))
         (case side2 => exact HC378_3.out)
         rintro e w104 ⟨rfl, hb⟩
         have HS4_ := (hb.cell (World.block_lt_of_cell? _ _ (hHeld.2.2.2.2.1))).trans (hHeld.2.2.2.2.1)
         have HS9_ := (hb.cell (World.block_lt_of_cell? _ _ (hHeld.2.2.2.2.2.2.2.2.2.1))).trans (hHeld.2.2.2.2.2.2.2.2.2.1)
         have HS10_ := (hb.cell (World.block_lt_of_cell? _ _ (hHeld.2.2.2.2.2.2.2.2.2.2.1))).trans (hHeld.2.2.2.2.2.2.2.2.2.2.1)
         have HS15_ := (hb.cell (World.block_lt_of_cell? _ _ (hHeld.2.2.2.2.2.2.2.2.2.2.2.2.2.2.2.1))).trans (hHeld.2.2.2.2.2.2.2.2.2.2.2.2.2.2.2.1)
         have HS20_ := (hb.cell (World.block_lt_of_cell? _ _ (hHeld.2.2.2.2.2.2.2.2.2.2.2.2.2.2.2.2.2.2.2.2.1))).trans (hHeld.2.2.2.2.2.2.2.2.2.2.2.2.2.2.2.2.2.2.2.2.1)
         have HS21_ := (hb.cell (World.block_lt_of_cell? _ _ (hHeld.2.2.2.2.2.2.2.2.2.2.2.2.2.2.2.2.2.2.2.2.2))).trans (hHeld.2.2.2.2.2.2.2.2.2.2.2.2.2.2.2.2.2.2.2.2.2)
         refine ⟨_, rfl, ?_⟩
         have n0_ := Aside0.mk (Kd.S_below (by (with_reducible repeat (first | apply Kd.S_alloc | apply Kd.S_drewN | apply Kd.S_drew)); exact HO_6.out) hb)
         have n1_ := Aside0.mk (Kd.R_below (by (with_reducible repeat (first | apply Kd.R_alloc | apply Kd.R_drewN | apply Kd.R_drew)); exact HO_11.out) hb)
         have n2_ := Aside0.mk (Kd.R_below (by (with_reducible repeat (first | apply Kd.R_alloc | apply Kd.R_drewN | apply Kd.R_drew)); exact HL372_0.out) hb)
         have n3_ := Aside0.mk (Kd.R_below (by (with_reducible repeat (first | apply Kd.R_alloc | apply Kd.R_drewN | apply Kd.R_drew)); exact HL375_0.out) hb)
         have n4_ := Aside0.mk (Kd.R_below (by (with_reducible repeat (first | apply Kd.R_alloc | apply Kd.R_drewN | apply Kd.R_drew)); exact HL380_0.out) hb)
         have n5_ := Aside0.mk (blk_below (g := gb327) (o := .cells #[.slice none 0 0, .int .i64 0, .int .i64 0] 31 (0, 0)) bk_ hb)
         have n6_ := Aside0.mk (Kd.C_below (by repeat (first | (with_reducible exact HR372_0.out) | (with_reducible refine Kd.C_alloc ?_ _) | (with_reducible refine Kd.C_drewN ?_ _) | (with_reducible refine Kd.C_drew ?_) | exact HR372_0.out)) hb)
         have n7_ := Aside0.mk (pw_cell_below hb HX372_0.out)
         have n8_ := Aside0.mk (Kd.C_below (by repeat (first | (with_reducible exact HR375_0.out) | (with_reducible refine Kd.C_alloc ?_ _) | (with_reducible refine Kd.C_drewN ?_ _) | (with_reducible refine Kd.C_drew ?_) | exact HR375_0.out)) hb)
         have n9_ := Aside0.mk (pw_cell_below hb HX375_0.out)
         have n10_ := Aside0.mk (Kd.C_below (by repeat (first | (with_reducible exact HR380_0.out) | (with_reducible refine Kd.C_alloc ?_ _) | (with_reducible refine Kd.C_drewN ?_ _) | (with_reducible refine Kd.C_drew ?_) | exact HR380_0.out)) hb)
         have n11_ := Aside0.mk (pw_cell_below hb HX380_0.out)
         have n12_ := Aside0.mk (below_step bl_ hb)
         clear HO_6
         clear HO_11
         clear HL372_0
         clear HL375_0
         clear HL380_0
         clear BK327
         clear HR372_0
         clear HX372_0
         clear HR375_0
         clear HX375_0
         clear HR380_0
         clear HX380_0
         clear HB
         have HO_6 := n0_
         have HO_11 := n1_
         have HL372_0 := n2_
         have HL375_0 := n3_
         have HL380_0 := n4_
         have BK327 := n5_
         have HR372_0 := n6_
         have HX372_0 := n7_
         have HR375_0 := n8_
         have HX375_0 := n9_
         have HR380_0 := n10_
         have HX380_0 := n11_
         have HB := n12_
         clear n0_ n1_ n2_ n3_ n4_ n5_ n6_ n7_ n8_ n9_ n10_ n11_ n12_
         (try clear hb)
         (try clear hb2)
         (try clear hk)
         (try clear hi)
         refine hK.out _ _ ⟨((HB.out.cell (World.block_lt_of_cell? w _ hw371_0)).trans hw371_0), ((HB.out.cell (World.block_lt_of_cell? w _ hw371_1)).trans hw371_1), ((HB.out.cell (World.block_lt_of_cell? w _ hw371_2)).trans hw371_2), ((HB.out.cell (World.block_lt_of_cell? w _ hw371_3)).trans hw371_3), HS4_, ((HB.out.cell (World.block_lt_of_cell? w _ hw373_0)).trans hw373_0), ((HB.out.cell (World.block_lt_of_cell? w _ hw373_1)).trans hw373_1), ((HB.out.cell (World.block_lt_of_cell? w _ hw373_2)).trans hw373_2), ((HB.out.cell (World.block_lt_of_cell? w _ hw373_3)).trans hw373_3), HS9_, HS10_, ((HB.out.cell (World.block_lt_of_cell? w _ hw376_0)).trans hw376_0), ((HB.out.cell (World.block_lt_of_cell? w _ hw376_1)).trans hw376_1), ((HB.out.cell (World.block_lt_of_cell? w _ hw376_2)).trans hw376_2), ((HB.out.cell (World.block_lt_of_cell? w _ hw376_3)).trans hw376_3), HS15_, ((HB.out.cell (World.block_lt_of_cell? w _ hw378_0)).trans hw378_0), ((HB.out.cell (World.block_lt_of_cell? w _ hw378_1)).trans hw378_1), ((HB.out.cell (World.block_lt_of_cell? w _ hw378_2)).trans hw378_2), ((HB.out.cell (World.block_lt_of_cell? w _ hw378_3)).trans hw378_3), HS20_, HS21_⟩ (fun hHeld => ?_)
         clear hK K
         refine norm_ (a' := ?_) ?_ ?_
         rotate_left
         ·show Act.put _ (some 200) _ = _
          simp only [Act.put, List.setIfInBounds_toArray, List.set_cons_zero, List.set_cons_succ, i64_w, i32_w]
          rfl
         refine pu_ 51 201 (msk 59 2) HT_.out ?_; refine pu_ 59 209 (msk 60 1) HT_.out ?_; refine pu_ 60 210 (msk 61 0) HT_.out ?_
         refine done_ (done_of HT_.out (by kernel_rfl)) ?_
         try go_wp2
         go_roundg k3
         case measure => have := HK1.out; have := HK2.out; have := HK3.out; omega
         case rel => exact ⟨(wrap64 (x14_3 - 1)), (by first | rfl | (simp; done) | (simp [*]; done)), H', ⟨by have := HK1.out; have := HK2.out; have := HK3.out; omega⟩, ⟨by (try simp only [hl6_1]); (with_reducible repeat (first | apply Kd.S_alloc | apply Kd.S_drewN | apply Kd.S_drew)); exact HO_6.out⟩, ⟨by (try simp only [hl6_1]); (with_reducible repeat (first | apply Kd.R_alloc | apply Kd.R_drewN | apply Kd.R_drew)); exact HO_11.out⟩, ⟨by (try simp only [hl6_1]); (with_reducible repeat (first | refine blk_drewN ?_ _ | refine blk_drew ?_ | refine blk_alloc ?_ _)); exact BK327.out⟩, ⟨by repeat (first | (with_reducible first | exact HB.out | apply below_alloc | apply pw_below_drewN | apply below_drew1 | refine below_set ?_ GE327.out) | exact HB.out)⟩⟩
       rw [if_pos c98] at H
       have c98b0 : ((wrap64 ((rd (rd_L2 x6_1 (ji86)) (ji89)) + t379)) == (rd (rd_L2 x6_1 x13_2) x12_2)) = true := beq_iff_eq.mpr c98
       have c98b1 : ((wrap64 ((rd (rd_L2 x6_1 (ji86)) (ji89)) + t379)) != (rd (rd_L2 x6_1 x13_2) x12_2)) = false := bne_eq_false_iff_eq.mpr c98
       clear c98
       by_cases c99 : x11_2.length < 17592186044416
       rotate_left
       ·rw [if_neg c99] at H
        exact absurd H (by simp)
       rw [if_pos c99] at H
       have LMc99 := Aside0.mk c99
       clear c99
       obtain ⟨y382, hy382⟩ : ∃ y_ : List Int, y_ = (x11_2 ++ [x14_3]) := ⟨_, rfl⟩
       replace H : (spec_BestShelf.l3 k3 l0 a1 x6_1 y382 ji89 ji86) = some (r1, r2, r3, r4) := by first | (rw [hy382]; with_reducible exact H) | (have H2_ := (Option.bind_some _ _).symm.trans H; rw [hy382]; with_reducible exact H2_) | (have H2_ := (Option.bind_some _ _).symm.trans H; with_reducible exact H2_) | with_reducible exact H | (rw [hy382]; exact H) | exact H
       have Ny382 := Aside0.mk hy382
       clear hy382
       as_aux_lemma =>
        have H' := Aside0.mk H
        clear H
        try go_wp2
        have n0_ := Aside0.mk (Kd.S_drew HO_6.out)
        have n1_ := Aside0.mk (Kd.R_drew HO_11.out)
        have n2_ := Aside0.mk (blk_drew BK327.out)
        have n3_ := Aside0.mk (below_drew1 HB.out)
        clear HO_6
        clear HO_11
        clear BK327
        clear HB
        have HO_6 := n0_
        have HO_11 := n1_
        have BK327 := n2_
        have HB := n3_
        clear n0_ n1_ n2_ n3_
        have p371 : 0 ≤ (x13_2 : Int) := od_
        have q371 : x13_2 < (l0.length : Int) := od_
        obtain ⟨ad371, A371_3, c371_3, e371, hx371_0, hx371_1, hx371_2, hx371_3, hl371_3, hi371_3⟩ := at_T50 HR0.out x13_2 p371 q371
        have hw371_3 := hx371_3
        have hw371_2 := hx371_2
        have hw371_1 := hx371_1
        have hw371_0 := hx371_0
        obtain rfl : ad370 = ad371 := (by injection e371)
        replace hx371_0 := (HB.out.cell (World.block_lt_of_cell? w _ hx371_0)).trans hx371_0
        replace hx371_1 := (HB.out.cell (World.block_lt_of_cell? w _ hx371_1)).trans hx371_1
        replace hx371_2 := (HB.out.cell (World.block_lt_of_cell? w _ hx371_2)).trans hx371_2
        replace hx371_3 := (HB.out.cell (World.block_lt_of_cell? w _ hx371_3)).trans hx371_3
        have HR371_3 := Aside0.mk hi371_3
        have HC371_3 := Aside0.mk hl371_3
        clear hi371_3 hl371_3
        replace p371 := eq_true p371
        replace q371 := eq_true q371
        have p372 : 0 ≤ ((ji86) : Int) := od_
        have q372 : (ji86) < (x6_1.length : Int) := od_
        obtain ⟨ad372, A372_0, c372_0, e372, hx372_0, hl372_0, hi372_0⟩ := at_L2 (Kd.S_reads' HO_6.out).2.2 (ji86) p372 q372
        obtain rfl : (⟨go18, 0, none⟩ : Addr) = ad372 := (by injection e372)
        obtain ⟨ce372, hce372, hMe372, hcc372⟩ := Kd.S_get HO_6.out [] (ji86) p372 (by first | exact q372 | exact od_ | (have e_ := (Kd.S_reads' HO_6.out).1; omega))
        obtain ⟨ve372_0, rfl, ge372_0⟩ := hMe372
        have hv372_0 := hcc372 0 _ rfl
        rw [Nat.add_zero, show ((Kd.slice 3 (Kd.int .i64))).sz = 1 from rfl, Nat.mul_one] at hv372_0
        replace hv372_0 := Option.some.inj (hv372_0.symm.trans hx372_0)
        rw [hv372_0] at ge372_0
        have HL372_0 := Aside0.mk (show Kd.R (Kd.int .i64) 3 _ _ _ _ (rd_L2 x6_1 (ji86)) from ge372_0)
        clear hv372_0 ge372_0
        have HX372_0 := Aside0.mk hx372_0
        clear hcc372 hce372
        (first | simp only [add_plain] at hx372_0 | simp only [add_at] at hx372_0 | simp only [Addr.add, Nat.zero_add] at hx372_0 | skip)
        have HR372_0 := Aside0.mk hi372_0
        have HC372_0 := Aside0.mk hl372_0
        clear hi372_0 hl372_0
        replace p372 := eq_true p372
        replace q372 := eq_true q372
        have p373 : 0 ≤ (x13_2 : Int) := od_
        have q373 : x13_2 < (l0.length : Int) := od_
        obtain ⟨ad373, A373_3, c373_3, e373, hx373_0, hx373_1, hx373_2, hx373_3, hl373_3, hi373_3⟩ := at_T50 HR0.out x13_2 p373 q373
        have hw373_3 := hx373_3
        have hw373_2 := hx373_2
        have hw373_1 := hx373_1
        have hw373_0 := hx373_0
        obtain rfl : ad370 = ad373 := (by injection e373)
        replace hx373_0 := (HB.out.cell (World.block_lt_of_cell? w _ hx373_0)).trans hx373_0
        replace hx373_1 := (HB.out.cell (World.block_lt_of_cell? w _ hx373_1)).trans hx373_1
        replace hx373_2 := (HB.out.cell (World.block_lt_of_cell? w _ hx373_2)).trans hx373_2
        replace hx373_3 := (HB.out.cell (World.block_lt_of_cell? w _ hx373_3)).trans hx373_3
        have HR373_3 := Aside0.mk hi373_3
        have HC373_3 := Aside0.mk hl373_3
        clear hi373_3 hl373_3
        replace p373 := eq_true p373
        replace q373 := eq_true q373
        have ea_ := Option.some.inj (hx371_3.symm.trans hx373_3)
        injection ea_ with ea_ en_ ec_
        subst ea_
        subst ec_
        clear en_
        have p374 : 0 ≤ ((ji89) : Int) := od_
        have q374 : (ji89) < ((rd_L2 x6_1 (ji86)).length : Int) := od_
        obtain ⟨ad374, e374, hx374_0⟩ := Kd.at_int (by repeat (first | (with_reducible exact HR372_0.out) | (with_reducible refine Kd.C_alloc ?_ _) | (with_reducible refine Kd.C_drewN ?_ _) | (with_reducible refine Kd.C_drew ?_) | exact HR372_0.out)) (ji89) p374 q374
        cases e374
        replace p374 := eq_true p374
        replace q374 := eq_true q374
        have p375 : 0 ≤ ((ji86) : Int) := od_
        have q375 : (ji86) < (x6_1.length : Int) := od_
        obtain ⟨ad375, A375_0, c375_0, e375, hx375_0, hl375_0, hi375_0⟩ := at_L2 (Kd.S_reads' HO_6.out).2.2 (ji86) p375 q375
        obtain rfl : (⟨go18, 0, none⟩ : Addr) = ad375 := (by injection e375)
        obtain ⟨ce375, hce375, hMe375, hcc375⟩ := Kd.S_get HO_6.out [] (ji86) p375 (by first | exact q375 | exact od_ | (have e_ := (Kd.S_reads' HO_6.out).1; omega))
        obtain ⟨ve375_0, rfl, ge375_0⟩ := hMe375
        have hv375_0 := hcc375 0 _ rfl
        rw [Nat.add_zero, show ((Kd.slice 3 (Kd.int .i64))).sz = 1 from rfl, Nat.mul_one] at hv375_0
        replace hv375_0 := Option.some.inj (hv375_0.symm.trans hx375_0)
        rw [hv375_0] at ge375_0
        have HL375_0 := Aside0.mk (show Kd.R (Kd.int .i64) 3 _ _ _ _ (rd_L2 x6_1 (ji86)) from ge375_0)
        clear hv375_0 ge375_0
        have HX375_0 := Aside0.mk hx375_0
        clear hcc375 hce375
        (first | simp only [add_plain] at hx375_0 | simp only [add_at] at hx375_0 | simp only [Addr.add, Nat.zero_add] at hx375_0 | skip)
        have HR375_0 := Aside0.mk hi375_0
        have HC375_0 := Aside0.mk hl375_0
        clear hi375_0 hl375_0
        replace p375 := eq_true p375
        replace q375 := eq_true q375
        have ea_ := Option.some.inj (hx372_0.symm.trans hx375_0)
        injection ea_ with ea_ en_ ec_
        subst ea_
        subst ec_
        clear en_
        have p376 : 0 ≤ (x13_2 : Int) := od_
        have q376 : x13_2 < (l0.length : Int) := od_
        obtain ⟨ad376, A376_3, c376_3, e376, hx376_0, hx376_1, hx376_2, hx376_3, hl376_3, hi376_3⟩ := at_T50 HR0.out x13_2 p376 q376
        have hw376_3 := hx376_3
        have hw376_2 := hx376_2
        have hw376_1 := hx376_1
        have hw376_0 := hx376_0
        obtain rfl : ad370 = ad376 := (by injection e376)
        replace hx376_0 := (HB.out.cell (World.block_lt_of_cell? w _ hx376_0)).trans hx376_0
        replace hx376_1 := (HB.out.cell (World.block_lt_of_cell? w _ hx376_1)).trans hx376_1
        replace hx376_2 := (HB.out.cell (World.block_lt_of_cell? w _ hx376_2)).trans hx376_2
        replace hx376_3 := (HB.out.cell (World.block_lt_of_cell? w _ hx376_3)).trans hx376_3
        have HR376_3 := Aside0.mk hi376_3
        have HC376_3 := Aside0.mk hl376_3
        clear hi376_3 hl376_3
        replace p376 := eq_true p376
        replace q376 := eq_true q376
        have ea_ := Option.some.inj (hx371_3.symm.trans hx376_3)
        injection ea_ with ea_ en_ ec_
        subst ea_
        subst ec_
        clear en_
        have p377 : 0 ≤ ((ji89) : Int) := od_
        have q377 : (ji89) < ((rd_L2 x6_1 (ji86)).length : Int) := od_
        obtain ⟨ad377, e377, hx377_0⟩ := Kd.at_int (by repeat (first | (with_reducible exact HR375_0.out) | (with_reducible refine Kd.C_alloc ?_ _) | (with_reducible refine Kd.C_drewN ?_ _) | (with_reducible refine Kd.C_drew ?_) | exact HR375_0.out)) (ji89) p377 q377
        cases e377
        replace p377 := eq_true p377
        replace q377 := eq_true q377
        have p378 : 0 ≤ (x13_2 : Int) := od_
        have q378 : x13_2 < (l0.length : Int) := od_
        obtain ⟨ad378, A378_3, c378_3, e378, hx378_0, hx378_1, hx378_2, hx378_3, hl378_3, hi378_3⟩ := at_T50 HR0.out x13_2 p378 q378
        have hw378_3 := hx378_3
        have hw378_2 := hx378_2
        have hw378_1 := hx378_1
        have hw378_0 := hx378_0
        obtain rfl : ad370 = ad378 := (by injection e378)
        replace hx378_0 := (HB.out.cell (World.block_lt_of_cell? w _ hx378_0)).trans hx378_0
        replace hx378_1 := (HB.out.cell (World.block_lt_of_cell? w _ hx378_1)).trans hx378_1
        replace hx378_2 := (HB.out.cell (World.block_lt_of_cell? w _ hx378_2)).trans hx378_2
        replace hx378_3 := (HB.out.cell (World.block_lt_of_cell? w _ hx378_3)).trans hx378_3
        have HR378_3 := Aside0.mk hi378_3
        have HC378_3 := Aside0.mk hl378_3
        clear hi378_3 hl378_3
        replace p378 := eq_true p378
        replace q378 := eq_true q378
        have ea_ := Option.some.inj (hx371_3.symm.trans hx378_3)
        injection ea_ with ea_ en_ ec_
        subst ea_
        subst ec_
        clear en_
        have p380 : 0 ≤ (x13_2 : Int) := od_
        have q380 : x13_2 < (x6_1.length : Int) := od_
        obtain ⟨ad380, A380_0, c380_0, e380, hx380_0, hl380_0, hi380_0⟩ := at_L2 (Kd.S_reads' HO_6.out).2.2 x13_2 p380 q380
        obtain rfl : (⟨go18, 0, none⟩ : Addr) = ad380 := (by injection e380)
        obtain ⟨ce380, hce380, hMe380, hcc380⟩ := Kd.S_get HO_6.out [] x13_2 p380 (by first | exact q380 | exact od_ | (have e_ := (Kd.S_reads' HO_6.out).1; omega))
        obtain ⟨ve380_0, rfl, ge380_0⟩ := hMe380
        have hv380_0 := hcc380 0 _ rfl
        rw [Nat.add_zero, show ((Kd.slice 3 (Kd.int .i64))).sz = 1 from rfl, Nat.mul_one] at hv380_0
        replace hv380_0 := Option.some.inj (hv380_0.symm.trans hx380_0)
        rw [hv380_0] at ge380_0
        have HL380_0 := Aside0.mk (show Kd.R (Kd.int .i64) 3 _ _ _ _ (rd_L2 x6_1 x13_2) from ge380_0)
        clear hv380_0 ge380_0
        have HX380_0 := Aside0.mk hx380_0
        clear hcc380 hce380
        (first | simp only [add_plain] at hx380_0 | simp only [add_at] at hx380_0 | simp only [Addr.add, Nat.zero_add] at hx380_0 | skip)
        have HR380_0 := Aside0.mk hi380_0
        have HC380_0 := Aside0.mk hl380_0
        clear hi380_0 hl380_0
        replace p380 := eq_true p380
        replace q380 := eq_true q380
        have p381 : 0 ≤ (x12_2 : Int) := od_
        have q381 : x12_2 < ((rd_L2 x6_1 x13_2).length : Int) := od_
        obtain ⟨ad381, e381, hx381_0⟩ := Kd.at_int (by repeat (first | (with_reducible exact HR380_0.out) | (with_reducible refine Kd.C_alloc ?_ _) | (with_reducible refine Kd.C_drewN ?_ _) | (with_reducible refine Kd.C_drew ?_) | exact HR380_0.out)) x12_2 p381 q381
        cases e381
        replace p381 := eq_true p381
        replace q381 := eq_true q381
        refine start_ (n := 61) (S := fun w' => w'.cell? (ad370.add ((x13_2).toNat * 4)) = some (.string ((rd_T50 l0 x13_2).f0)) ∧ w'.cell? ⟨(ad370.add ((x13_2).toNat * 4)).block, (ad370.add ((x13_2).toNat * 4)).off + 1, none⟩ = some (.int .i64 ((rd_T50 l0 x13_2).f1)) ∧ w'.cell? ⟨(ad370.add ((x13_2).toNat * 4)).block, (ad370.add ((x13_2).toNat * 4)).off + 2, none⟩ = some (.int .i64 ((rd_T50 l0 x13_2).f2)) ∧ w'.cell? ⟨(ad370.add ((x13_2).toNat * 4)).block, (ad370.add ((x13_2).toNat * 4)).off + 3, none⟩ = some (.slice A371_3 ((rd_T50 l0 x13_2).f3).length c371_3) ∧ w'.cell? ⟨go18, ((ji86)).toNat, none⟩ = some (.slice (some ad374) (rd_L2 x6_1 (ji86)).length c372_0) ∧ w'.cell? (ad370.add ((x13_2).toNat * 4)) = some (.string ((rd_T50 l0 x13_2).f0)) ∧ w'.cell? ⟨(ad370.add ((x13_2).toNat * 4)).block, (ad370.add ((x13_2).toNat * 4)).off + 1, none⟩ = some (.int .i64 ((rd_T50 l0 x13_2).f1)) ∧ w'.cell? ⟨(ad370.add ((x13_2).toNat * 4)).block, (ad370.add ((x13_2).toNat * 4)).off + 2, none⟩ = some (.int .i64 ((rd_T50 l0 x13_2).f2)) ∧ w'.cell? ⟨(ad370.add ((x13_2).toNat * 4)).block, (ad370.add ((x13_2).toNat * 4)).off + 3, none⟩ = some (.slice A371_3 ((rd_T50 l0 x13_2).f3).length c371_3) ∧ w'.cell? (ad374.add ((ji89)).toNat) = some (.int .i64 (rd (rd_L2 x6_1 (ji86)) (ji89))) ∧ w'.cell? ⟨go18, ((ji86)).toNat, none⟩ = some (.slice (some ad374) (rd_L2 x6_1 (ji86)).length c372_0) ∧ w'.cell? (ad370.add ((x13_2).toNat * 4)) = some (.string ((rd_T50 l0 x13_2).f0)) ∧ w'.cell? ⟨(ad370.add ((x13_2).toNat * 4)).block, (ad370.add ((x13_2).toNat * 4)).off + 1, none⟩ = some (.int .i64 ((rd_T50 l0 x13_2).f1)) ∧ w'.cell? ⟨(ad370.add ((x13_2).toNat * 4)).block, (ad370.add ((x13_2).toNat * 4)).off + 2, none⟩ = some (.int .i64 ((rd_T50 l0 x13_2).f2)) ∧ w'.cell? ⟨(ad370.add ((x13_2).toNat * 4)).block, (ad370.add ((x13_2).toNat * 4)).off + 3, none⟩ = some (.slice A371_3 ((rd_T50 l0 x13_2).f3).length c371_3) ∧ w'.cell? (ad374.add ((ji89)).toNat) = some (.int .i64 (rd (rd_L2 x6_1 (ji86)) (ji89))) ∧ w'.cell? (ad370.add ((x13_2).toNat * 4)) = some (.string ((rd_T50 l0 x13_2).f0)) ∧ w'.cell? ⟨(ad370.add ((x13_2).toNat * 4)).block, (ad370.add ((x13_2).toNat * 4)).off + 1, none⟩ = some (.int .i64 ((rd_T50 l0 x13_2).f1)) ∧ w'.cell? ⟨(ad370.add ((x13_2).toNat * 4)).block, (ad370.add ((x13_2).toNat * 4)).off + 2, none⟩ = some (.int .i64 ((rd_T50 l0 x13_2).f2)) ∧ w'.cell? ⟨(ad370.add ((x13_2).toNat * 4)).block, (ad370.add ((x13_2).toNat * 4)).off + 3, none⟩ = some (.slice A371_3 ((rd_T50 l0 x13_2).f3).length c371_3) ∧ w'.cell? ⟨go18, (x13_2).toNat, none⟩ = some (.slice (some ad381) (rd_L2 x6_1 x13_2).length c380_0) ∧ w'.cell? (ad381.add (x12_2).toNat) = some (.int .i64 (rd (rd_L2 x6_1 x13_2) x12_2))) (ds := []) (msk 0 61) (by kernel_rfl) rfl rfl ⟨((HB.out.cell (World.block_lt_of_cell? w _ hw371_0)).trans hw371_0), ((HB.out.cell (World.block_lt_of_cell? w _ hw371_1)).trans hw371_1), ((HB.out.cell (World.block_lt_of_cell? w _ hw371_2)).trans hw371_2), ((HB.out.cell (World.block_lt_of_cell? w _ hw371_3)).trans hw371_3), hx372_0, ((HB.out.cell (World.block_lt_of_cell? w _ hw373_0)).trans hw373_0), ((HB.out.cell (World.block_lt_of_cell? w _ hw373_1)).trans hw373_1), ((HB.out.cell (World.block_lt_of_cell? w _ hw373_2)).trans hw373_2), ((HB.out.cell (World.block_lt_of_cell? w _ hw373_3)).trans hw373_3), hx374_0, hx375_0, ((HB.out.cell (World.block_lt_of_cell? w _ hw376_0)).trans hw376_0), ((HB.out.cell (World.block_lt_of_cell? w _ hw376_1)).trans hw376_1), ((HB.out.cell (World.block_lt_of_cell? w _ hw376_2)).trans hw376_2), ((HB.out.cell (World.block_lt_of_cell? w _ hw376_3)).trans hw376_3), hx377_0, ((HB.out.cell (World.block_lt_of_cell? w _ hw378_0)).trans hw378_0), ((HB.out.cell (World.block_lt_of_cell? w _ hw378_1)).trans hw378_1), ((HB.out.cell (World.block_lt_of_cell? w _ hw378_2)).trans hw378_2), ((HB.out.cell (World.block_lt_of_cell? w _ hw378_3)).trans hw378_3), hx380_0, hx381_0⟩ (fun hHeld => ?_); refine with_tabW spec_BestShelf.tab31 spec_BestShelf.bits31 (fun HT_ HW_ => ?_)
        generalize wr.drew = w100 at HO_6 HO_11 BK327 HB HL372_0 HL375_0 HL380_0 HR371_3 HR372_0 HR373_3 HR375_0 HR376_3 HR378_3 HR380_0 HX372_0 HX375_0 HX380_0 hx371_0 hx371_1 hx371_2 hx371_3 hx372_0 hx373_0 hx373_1 hx373_2 hx373_3 hx374_0 hx375_0 hx376_0 hx376_1 hx376_2 hx376_3 hx377_0 hx378_0 hx378_1 hx378_2 hx378_3 hx380_0 hx381_0 hHeld ⊢
        refine pu_ 0 150 (msk 1 60) HT_.out ?_; refine pu_ 1 151 (msk 2 59) HT_.out ?_; refine pu_ 2 152 (msk 3 58) HT_.out ?_; refine pu_ 3 153 (msk 4 57) HT_.out ?_; refine pu_ 4 154 (msk 5 56) HT_.out ?_; refine pu_ 7 157 (mskl 61 5 [7]) HT_.out ?_
        refine tk_ 5 155 (mskl 61 6 [7]) HT_.out HW_.out hHeld ?_ (hy := by rintro w' ⟨s0, s1, s2, s3, s4, s5, s6, s7, s8, s9, s10, s11, s12, s13, s14, s15, s16, s17, s18, s19, s20, s21⟩; go_simp; with_reducible rfl)
        refine pu_ 6 156 (msk 8 53) HT_.out ?_; refine pu_ 8 158 (msk 9 52) HT_.out ?_; refine pu_ 9 159 (msk 10 51) HT_.out ?_; refine pu_ 10 160 (msk 11 50) HT_.out ?_; refine pu_ 11 161 (msk 12 49) HT_.out ?_; refine pu_ 12 162 (msk 13 48) HT_.out ?_; refine pu_ 13 163 (msk 14 47) HT_.out ?_; refine pu_ 15 165 (mskl 61 14 [15]) HT_.out ?_; refine pu_ 16 166 (mskl 61 14 [15, 16]) HT_.out ?_; refine pu_ 17 167 (mskl 61 14 [15, 16, 17]) HT_.out ?_; refine pu_ 18 168 (mskl 61 14 [15, 16, 17, 18]) HT_.out ?_; refine pu_ 19 169 (mskl 61 14 [15, 16, 17, 18, 19]) HT_.out ?_; refine pu_ 20 170 (mskl 61 14 [15, 16, 17, 18, 19, 20]) HT_.out ?_
        refine tk_ 14 164 (msk 21 40) HT_.out HW_.out hHeld ?_ (hy := by rintro w' ⟨s0, s1, s2, s3, s4, s5, s6, s7, s8, s9, s10, s11, s12, s13, s14, s15, s16, s17, s18, s19, s20, s21⟩; go_simp; with_reducible rfl)
        refine tk_ 21 171 (msk 22 39) HT_.out HW_.out hHeld ?_ (hy := by rintro w' ⟨s0, s1, s2, s3, s4, s5, s6, s7, s8, s9, s10, s11, s12, s13, s14, s15, s16, s17, s18, s19, s20, s21⟩; go_simp; with_reducible rfl)
        refine pu_ 22 172 (msk 23 38) HT_.out ?_; refine pu_ 23 173 (msk 24 37) HT_.out ?_; refine pu_ 24 174 (msk 25 36) HT_.out ?_
        refine tk_ 25 175 (msk 26 35) HT_.out HW_.out hHeld ?_ (hy := by rintro w' ⟨s0, s1, s2, s3, s4, s5, s6, s7, s8, s9, s10, s11, s12, s13, s14, s15, s16, s17, s18, s19, s20, s21⟩; go_simp; with_reducible rfl)
        refine pu_ 26 176 (msk 27 34) HT_.out ?_; refine pu_ 27 177 (msk 28 33) HT_.out ?_; refine pu_ 28 178 (msk 29 32) HT_.out ?_; refine pu_ 29 179 (msk 30 31) HT_.out ?_; refine pu_ 30 180 (msk 31 30) HT_.out ?_; refine pu_ 31 181 (msk 32 29) HT_.out ?_; refine pu_ 32 182 (msk 33 28) HT_.out ?_; refine pu_ 34 184 (mskl 61 33 [34]) HT_.out ?_; refine pu_ 35 185 (mskl 61 33 [34, 35]) HT_.out ?_; refine pu_ 36 186 (mskl 61 33 [34, 35, 36]) HT_.out ?_; refine pu_ 37 187 (mskl 61 33 [34, 35, 36, 37]) HT_.out ?_; refine pu_ 38 188 (mskl 61 33 [34, 35, 36, 37, 38]) HT_.out ?_; refine pu_ 39 189 (mskl 61 33 [34, 35, 36, 37, 38, 39]) HT_.out ?_; refine pu_ 45 195 (mskl 61 33 [34, 35, 36, 37, 38, 39, 45]) HT_.out ?_; refine pu_ 46 196 (mskl 61 33 [34, 35, 36, 37, 38, 39, 45, 46]) HT_.out ?_; refine pu_ 47 197 (mskl 61 33 [34, 35, 36, 37, 38, 39, 45, 46, 47]) HT_.out ?_; refine pu_ 49 199 (mskl 61 33 [34, 35, 36, 37, 38, 39, 45, 46, 47, 49]) HT_.out ?_; refine pu_ 52 202 (mskl 61 33 [34, 35, 36, 37, 38, 39, 45, 46, 47, 49, 52]) HT_.out ?_; refine pu_ 53 203 (mskl 61 33 [34, 35, 36, 37, 38, 39, 45, 46, 47, 49, 52, 53]) HT_.out ?_; refine pu_ 54 204 (mskl 61 33 [34, 35, 36, 37, 38, 39, 45, 46, 47, 49, 52, 53, 54]) HT_.out ?_; refine pu_ 56 206 (mskl 61 33 [34, 35, 36, 37, 38, 39, 45, 46, 47, 49, 52, 53, 54, 56]) HT_.out ?_
        refine tk_ 33 183 (mskl 61 40 [45, 46, 47, 49, 52, 53, 54, 56]) HT_.out HW_.out hHeld ?_ (hy := by rintro w' ⟨s0, s1, s2, s3, s4, s5, s6, s7, s8, s9, s10, s11, s12, s13, s14, s15, s16, s17, s18, s19, s20, s21⟩; go_simp; with_reducible rfl)
        refine tk_ 40 190 (mskl 61 41 [45, 46, 47, 49, 52, 53, 54, 56]) HT_.out HW_.out hHeld ?_ (hy := by rintro w' ⟨s0, s1, s2, s3, s4, s5, s6, s7, s8, s9, s10, s11, s12, s13, s14, s15, s16, s17, s18, s19, s20, s21⟩; go_simp; with_reducible rfl)
        refine pu_ 41 191 (mskl 61 42 [45, 46, 47, 49, 52, 53, 54, 56]) HT_.out ?_; refine pu_ 42 192 (mskl 61 43 [45, 46, 47, 49, 52, 53, 54, 56]) HT_.out ?_; refine pu_ 43 193 (mskl 61 44 [45, 46, 47, 49, 52, 53, 54, 56]) HT_.out ?_
        refine tk_ 44 194 (mskl 61 48 [49, 52, 53, 54, 56]) HT_.out HW_.out hHeld ?_ (hy := by rintro w' ⟨s0, s1, s2, s3, s4, s5, s6, s7, s8, s9, s10, s11, s12, s13, s14, s15, s16, s17, s18, s19, s20, s21⟩; go_simp; with_reducible rfl)
        refine tk_ 48 198 (mskl 61 50 [52, 53, 54, 56]) HT_.out HW_.out hHeld ?_ (hy := by rintro w' ⟨s0, s1, s2, s3, s4, s5, s6, s7, s8, s9, s10, s11, s12, s13, s14, s15, s16, s17, s18, s19, s20, s21⟩; go_simp; with_reducible rfl)
        refine tk_ 55 205 (mskl 61 50 [52, 53, 54, 55, 56]) HT_.out HW_.out hHeld ?_ (hy := by rintro w' ⟨s0, s1, s2, s3, s4, s5, s6, s7, s8, s9, s10, s11, s12, s13, s14, s15, s16, s17, s18, s19, s20, s21⟩; go_simp; with_reducible rfl)
        refine pu_ 57 207 (mskl 61 50 [52, 53, 54, 55, 56, 57]) HT_.out ?_
        refine tk_ 58 208 (mskl 61 50 [52, 53, 54, 55, 56, 57, 58]) HT_.out HW_.out hHeld ?_ (hy := by rintro w' ⟨s0, s1, s2, s3, s4, s5, s6, s7, s8, s9, s10, s11, s12, s13, s14, s15, s16, s17, s18, s19, s20, s21⟩; go_simp; with_reducible rfl)
        refine one_ (i := 50) (N := some 200) (mskl 61 51 [52, 53, 54, 55, 56, 57, 58]) rfl rfl (one_of HT_.out (by kernel_rfl)) (by decide) (fun K hK => ?_)
        refine goes_ Try.func31 (by kernel_rfl) rfl #[.agg #[.string ((rd_T50 l0 x13_2).f0), .int .i64 ((rd_T50 l0 x13_2).f1), .int .i64 ((rd_T50 l0 x13_2).f2), .slice A371_3 ((rd_T50 l0 x13_2).f3).length c371_3], .int .i64 x14_3] (by rfl) rfl rfl (by (try simp only [List.map_toArray, List.map_cons, List.map_nil]); first | done | rfl | (simp only [List.length_drop, List.length_take]; rfl)) ?_
        with_reducible refine (spec_l13Gain.calls k3 ((rd_T50 l0 x13_2).f0) ((rd_T50 l0 x13_2).f1) ((rd_T50 l0 x13_2).f2) _ _ ((rd_T50 l0 x13_2).f3) x14_3 t379 _ ?side1 ?side2 A94.out).mono ?_
        (case side1 => repeat (first | exact (Kd.C_below HR378_3.out HB.out) | (with_reducible refine Kd.C_alloc ?_ _) | (with_reducible refine Kd.C_drewN ?_ _) | (with_reducible refine Kd.C_drew ?_)))
        (case side2 => exact HC378_3.out)
        rintro e w101 ⟨rfl, hb⟩
        have HS4_ := (hb.cell (World.block_lt_of_cell? _ _ (hHeld.2.2.2.2.1))).trans (hHeld.2.2.2.2.1)
        have HS9_ := (hb.cell (World.block_lt_of_cell? _ _ (hHeld.2.2.2.2.2.2.2.2.2.1))).trans (hHeld.2.2.2.2.2.2.2.2.2.1)
        have HS10_ := (hb.cell (World.block_lt_of_cell? _ _ (hHeld.2.2.2.2.2.2.2.2.2.2.1))).trans (hHeld.2.2.2.2.2.2.2.2.2.2.1)
        have HS15_ := (hb.cell (World.block_lt_of_cell? _ _ (hHeld.2.2.2.2.2.2.2.2.2.2.2.2.2.2.2.1))).trans (hHeld.2.2.2.2.2.2.2.2.2.2.2.2.2.2.2.1)
        have HS20_ := (hb.cell (World.block_lt_of_cell? _ _ (hHeld.2.2.2.2.2.2.2.2.2.2.2.2.2.2.2.2.2.2.2.2.1))).trans (hHeld.2.2.2.2.2.2.2.2.2.2.2.2.2.2.2.2.2.2.2.2.1)
        have HS21_ := (hb.cell (World.block_lt_of_cell? _ _ (hHeld.2.2.2.2.2.2.2.2.2.2.2.2.2.2.2.2.2.2.2.2.2))).trans (hHeld.2.2.2.2.2.2.2.2.2.2.2.2.2.2.2.2.2.2.2.2.2)
        refine ⟨_, rfl, ?_⟩
        have n0_ := Aside0.mk (Kd.S_below (by (with_reducible repeat (first | apply Kd.S_alloc | apply Kd.S_drewN | apply Kd.S_drew)); exact HO_6.out) hb)
        have n1_ := Aside0.mk (Kd.R_below (by (with_reducible repeat (first | apply Kd.R_alloc | apply Kd.R_drewN | apply Kd.R_drew)); exact HO_11.out) hb)
        have n2_ := Aside0.mk (Kd.R_below (by (with_reducible repeat (first | apply Kd.R_alloc | apply Kd.R_drewN | apply Kd.R_drew)); exact HL372_0.out) hb)
        have n3_ := Aside0.mk (Kd.R_below (by (with_reducible repeat (first | apply Kd.R_alloc | apply Kd.R_drewN | apply Kd.R_drew)); exact HL375_0.out) hb)
        have n4_ := Aside0.mk (Kd.R_below (by (with_reducible repeat (first | apply Kd.R_alloc | apply Kd.R_drewN | apply Kd.R_drew)); exact HL380_0.out) hb)
        have n5_ := Aside0.mk (blk_below (g := gb327) (o := .cells #[.slice none 0 0, .int .i64 0, .int .i64 0] 31 (0, 0)) bk_ hb)
        have n6_ := Aside0.mk (Kd.C_below (by repeat (first | (with_reducible exact HR372_0.out) | (with_reducible refine Kd.C_alloc ?_ _) | (with_reducible refine Kd.C_drewN ?_ _) | (with_reducible refine Kd.C_drew ?_) | exact HR372_0.out)) hb)
        have n7_ := Aside0.mk (pw_cell_below hb HX372_0.out)
        have n8_ := Aside0.mk (Kd.C_below (by repeat (first | (with_reducible exact HR375_0.out) | (with_reducible refine Kd.C_alloc ?_ _) | (with_reducible refine Kd.C_drewN ?_ _) | (with_reducible refine Kd.C_drew ?_) | exact HR375_0.out)) hb)
        have n9_ := Aside0.mk (pw_cell_below hb HX375_0.out)
        have n10_ := Aside0.mk (Kd.C_below (by repeat (first | (with_reducible exact HR380_0.out) | (with_reducible refine Kd.C_alloc ?_ _) | (with_reducible refine Kd.C_drewN ?_ _) | (with_reducible refine Kd.C_drew ?_) | exact HR380_0.out)) hb)
        have n11_ := Aside0.mk (pw_cell_below hb HX380_0.out)
        have n12_ := Aside0.mk (below_step bl_ hb)
        clear HO_6
        clear HO_11
        clear HL372_0
        clear HL375_0
        clear HL380_0
        clear BK327
        clear HR372_0
        clear HX372_0
        clear HR375_0
        clear HX375_0
        clear HR380_0
        clear HX380_0
        clear HB
        have HO_6 := n0_
        have HO_11 := n1_
        have HL372_0 := n2_
        have HL375_0 := n3_
        have HL380_0 := n4_
        have BK327 := n5_
        have HR372_0 := n6_
        have HX372_0 := n7_
        have HR375_0 := n8_
        have HX375_0 := n9_
        have HR380_0 := n10_
        have HX380_0 := n11_
        have HB := n12_
        clear n0_ n1_ n2_ n3_ n4_ n5_ n6_ n7_ n8_ n9_ n10_ n11_ n12_
        (try clear hb)
        (try clear hb2)
        (try clear hk)
        (try clear hi)
        refine hK.out _ _ ⟨((HB.out.cell (World.block_lt_of_cell? w _ hw371_0)).trans hw371_0), ((HB.out.cell (World.block_lt_of_cell? w _ hw371_1)).trans hw371_1), ((HB.out.cell (World.block_lt_of_cell? w _ hw371_2)).trans hw371_2), ((HB.out.cell (World.block_lt_of_cell? w _ hw371_3)).trans hw371_3), HS4_, ((HB.out.cell (World.block_lt_of_cell? w _ hw373_0)).trans hw373_0), ((HB.out.cell (World.block_lt_of_cell? w _ hw373_1)).trans hw373_1), ((HB.out.cell (World.block_lt_of_cell? w _ hw373_2)).trans hw373_2), ((HB.out.cell (World.block_lt_of_cell? w _ hw373_3)).trans hw373_3), HS9_, HS10_, ((HB.out.cell (World.block_lt_of_cell? w _ hw376_0)).trans hw376_0), ((HB.out.cell (World.block_lt_of_cell? w _ hw376_1)).trans hw376_1), ((HB.out.cell (World.block_lt_of_cell? w _ hw376_2)).trans hw376_2), ((HB.out.cell (World.block_lt_of_cell? w _ hw376_3)).trans hw376_3), HS15_, ((HB.out.cell (World.block_lt_of_cell? w _ hw378_0)).trans hw378_0), ((HB.out.cell (World.block_lt_of_cell? w _ hw378_1)).trans hw378_1), ((HB.out.cell (World.block_lt_of_cell? w _ hw378_2)).trans hw378_2), ((HB.out.cell (World.block_lt_of_cell? w _ hw378_3)).trans hw378_3), HS20_, HS21_⟩ (fun hHeld => ?_)
        clear hK K
        refine norm_ (a' := ?_) ?_ ?_
        rotate_left
        ·show Act.put _ (some 200) _ = _
         simp only [Act.put, List.setIfInBounds_toArray, List.set_cons_zero, List.set_cons_succ, i64_w, i32_w]
         rfl
        refine pu_ 51 201 (msk 59 2) HT_.out ?_; refine pu_ 59 209 (msk 60 1) HT_.out ?_; refine pu_ 60 210 (msk 61 0) HT_.out ?_
        refine done_ (done_of HT_.out (by kernel_rfl)) ?_
        try go_wp2_with (first | ((with_reducible refine gate_builtin (b := .append) (xs := #[.tmp 213, .tmp 215]) rfl ?_); at_builtin; refine Kd.R_append (Kd.int .i64) (w0 := w) w.heap.size rfl (.tmp 213) (.tmp 215) 29 3 (.int .i64 0) 8 rfl Try.underlying29 info3 rfl (by decide) (by omega) u11 x11_2 x14_3 [.int .i64 x14_3] (fun _ => True) (fun _ => False) rfl rfl ?aP (fun _ hk => hk.elim) ?aF ?aO ?aB ?aS ?aL ?_; (case aP => exact rfl); (case aB => exact bl_); (case aF => exact (fun _ _ => trivial)); (case aO => exact (by (with_reducible repeat (first | apply Kd.R_alloc | apply Kd.R_drewN | apply Kd.R_drew)); exact HO_11.out)); (case aS => exact (below_size bl_)); (case aL => have := LMc99.out; omega); intro v383 w102 ho hb hg hat; rw [← Ny382.out] at ho; have n0_ := Aside0.mk (Kd.S_after (ok := (fun _ => True)) (by (with_reducible repeat (first | apply Kd.S_alloc | apply Kd.S_drewN | apply Kd.S_drew)); exact Kd.S_mono HO_6.out (fun _ hk => ⟨trivial, hk⟩)) hg hat); have n1_ := Aside0.mk (blk_grown (g := gb327) (o := .cells #[.slice none 0 0, .int .i64 0, .int .i64 0] 31 (0, 0)) bk_ hg (Kd.R_ne HO_11.out BK327.out (by decide))); have n2_ := Aside0.mk (Kd.R_after (ok := (fun k_ => some k_ ≠ (.slice (some ⟨go18, 0, none⟩) x6_1.length co18 : Value).ownBlock)) (by (with_reducible repeat (first | apply Kd.R_alloc | apply Kd.R_drewN | apply Kd.R_drew)); exact Kd.R_mono HL372_0.out (fun _ hk => by first | exact ⟨hk.2, hk.1⟩ | exact ⟨hk.1, hk.2⟩)) hg hat); have n3_ := Aside0.mk (Kd.R_after (ok := (fun k_ => some k_ ≠ (.slice (some ⟨go18, 0, none⟩) x6_1.length co18 : Value).ownBlock)) (by (with_reducible repeat (first | apply Kd.R_alloc | apply Kd.R_drewN | apply Kd.R_drew)); exact Kd.R_mono HL375_0.out (fun _ hk => by first | exact ⟨hk.2, hk.1⟩ | exact ⟨hk.1, hk.2⟩)) hg hat); have n4_ := Aside0.mk (Kd.R_after (ok := (fun k_ => some k_ ≠ (.slice (some ⟨go18, 0, none⟩) x6_1.length co18 : Value).ownBlock)) (by (with_reducible repeat (first | apply Kd.R_alloc | apply Kd.R_drewN | apply Kd.R_drew)); exact Kd.R_mono HL380_0.out (fun _ hk => by first | exact ⟨hk.2, hk.1⟩ | exact ⟨hk.1, hk.2⟩)) hg hat); have n5_ := Aside0.mk (hb); have n6_ := Aside0.mk (ho); clear HO_6; clear BK327; clear HL372_0; clear HL375_0; clear HL380_0; clear HB; clear HO_11; have HO_6 := n0_; have BK327 := n1_; have HL372_0 := n2_; have HL375_0 := n3_; have HL380_0 := n4_; have HB := n5_; have HO384 := n6_; clear n0_ n1_ n2_ n3_ n4_ n5_ n6_; clear ho hb hg hat; have p385 : 0 ≤ (x13_2 : Int) := od_; have q385 : x13_2 < (l0.length : Int) := od_; obtain ⟨ad385, A385_3, c385_3, e385, hx385_0, hx385_1, hx385_2, hx385_3, hl385_3, hi385_3⟩ := at_T50 HR0.out x13_2 p385 q385; obtain rfl : ad370 = ad385 := (by injection e385); replace hx385_0 := (HB.out.cell (World.block_lt_of_cell? w _ hx385_0)).trans hx385_0; replace hx385_1 := (HB.out.cell (World.block_lt_of_cell? w _ hx385_1)).trans hx385_1; replace hx385_2 := (HB.out.cell (World.block_lt_of_cell? w _ hx385_2)).trans hx385_2; replace hx385_3 := (HB.out.cell (World.block_lt_of_cell? w _ hx385_3)).trans hx385_3; have HR385_3 := Aside0.mk hi385_3; have HC385_3 := Aside0.mk hl385_3; clear hi385_3 hl385_3; replace p385 := eq_true p385; replace q385 := eq_true q385))
        go_roundg k3
        case measure => have := HK1.out; have := HK2.out; have := HK3.out; omega
        case rel => exact ⟨(y382), (ji89), (ji86), (by first | rfl | (simp; done) | (simp only [← hji89] <;> (first | rfl | simp)) | (simp [*]; done)), (by first | rfl | (simp; done) | (simp only [← hji86] <;> (first | rfl | simp)) | (simp [*]; done)), H', ⟨by have := HK1.out; have := HK2.out; have := HK3.out; omega⟩, ⟨by (try simp only [hl6_1]); (with_reducible repeat (first | apply Kd.S_alloc | apply Kd.S_drewN | apply Kd.S_drew)); exact Kd.S_mono HO_6.out (fun _ hk => hk.2)⟩, ⟨by (try simp only [hl6_1]); (with_reducible repeat (first | apply Kd.R_alloc | apply Kd.R_drewN | apply Kd.R_drew)); exact HO384.out⟩, ⟨by (try simp only [hl6_1]); (with_reducible repeat (first | refine blk_drewN ?_ _ | refine blk_drew ?_ | refine blk_alloc ?_ _)); exact BK327.out⟩, ⟨by repeat (first | (with_reducible first | exact HB.out | apply below_alloc | apply pw_below_drewN | apply below_drew1 | refine below_set ?_ GE327.out) | exact HB.out)⟩⟩
end Go.Proofs.Ytecbcibblmknpaa.XFnShelf
