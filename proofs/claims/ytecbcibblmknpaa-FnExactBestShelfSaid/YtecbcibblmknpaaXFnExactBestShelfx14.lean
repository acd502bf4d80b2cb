-- PRINTED by xprint.py (our own program, over the kit's print.py)
import Derived.Test.YtecbcibblmknpaaXFnExactBestShelfx0
import Derived.Test.YtecbcibblmknpaaXFnExactBestShelfx10
import Derived.Test.YtecbcibblmknpaaXFnExactBestShelfx11
import Derived.Test.YtecbcibblmknpaaXFnExactBestShelfx12
import Derived.Test.YtecbcibblmknpaaXFnExactBestShelfx13
import Derived.Test.YtecbcibblmknpaaPu
namespace Go.Proofs.Ytecbcibblmknpaa.XFnExactBestShelf
open Go.RowKit Go.Proofs.YtecbcibblmknpaaW.PrintWords Go.Proofs.YtecbcibblmknpaaW.PrintLast Go.Proofs.YtecbcibblmknpaaW.PrintMore Go.Proofs.YtecbcibblmknpaaW.Idx
attribute [local go_sem] max2_int min2_int max_two min_two max_three min_three max_four min_four   -- for this text's walks alone
set_option linter.unusedVariables false
set_option linter.unusedSimpArgs false

/-! ### spec_BestShelf: function 23 -/
mutual
def spec_BestShelf.l0 : Nat → List (S50) → Int → List (List Int) → Int → Option (List Int × Int × Int × Int)
 | 0, _, _, _, _ => none
 | k + 1, x0, x1, x6, x7 => if x7 ≥ 0 then (if 0 ≤ (wrap64 (x1 + 1)) then (if (wrap64 (x1 + 1) : Int).toNat ≤ 35184372088832 then (if 0 ≤ x7 then (if x7 < (x6.length : Int) then (spec_BestShelf.l1 k x0 x1 (x6.set (x7 : Int).toNat (List.replicate (wrap64 (x1 + 1) : Int).toNat 0)) x7 0) else (none)) else (none)) else (none)) else (none)) else (if 0 < (x6.length : Int) then (if 0 ≤ x1 then (if x1 < ((rd_L2 x6 0).length : Int) then (if (rd (rd_L2 x6 0) x1) < 0 then (some (([] : List Int), 0, 0, 8)) else (spec_BestShelf.l3 k x0 x1 x6 (([] : List Int)) x1 0)) else (none)) else (none)) else (none))
def spec_BestShelf.l1 : Nat → List (S50) → Int → List (List Int) → Int → Int → Option (List Int × Int × Int × Int)
 | 0, _, _, _, _, _ => none
 | k + 1, x0, x1, x6, x7, x8 => if x8 ≤ x1 then (if 0 ≤ x7 then (if x7 < (x6.length : Int) then (if 0 ≤ x8 then (if x8 < ((rd_L2 x6 x7).length : Int) then (if x7 < (x0.length : Int) then (spec_BestShelf.l2 k x0 x1 (x6.set (x7 : Int).toNat ((rd_L2 x6 x7).set (x8 : Int).toNat (-1))) x7 x8 ((rd_T50 x0 x7).f2)) else (none)) else (none)) else (none)) else (none)) else (none)) else (spec_BestShelf.l0 k x0 x1 x6 (wrap64 (x7 - 1)))
def spec_BestShelf.l2 : Nat → List (S50) → Int → List (List Int) → Int → Int → Int → Option (List Int × Int × Int × Int)
 | 0, _, _, _, _, _, _ => none
 | k + 1, x0, x1, x6, x7, x8, x9 => if 0 ≤ x7 then (if x7 < (x0.length : Int) then (if x9 ≤ (((rd_T50 x0 x7).f3).length : Int) then (spec_BestShelf.j3 k x0 x1 x6 x7 x8 x9 (decide ((wrap64 (x9 * ((rd_T50 x0 x7).f1))) ≤ x8))) else (spec_BestShelf.j3 k x0 x1 x6 x7 x8 x9 false)) else (none)) else (none)
def spec_BestShelf.j3 : Nat → List (S50) → Int → List (List Int) → Int → Int → Int → Bool → Option (List Int × Int × Int × Int)
 | 0, _, _, _, _, _, _, _ => none
 | k + 1, x0, x1, x6, x7, x8, x9, x85 => if x85 = true then (if 0 ≤ (wrap64 (x7 + 1)) then (if (wrap64 (x7 + 1)) < (x6.length : Int) then (if 0 ≤ x7 then (if x7 < (x0.length : Int) then (if 0 ≤ (wrap64 (x8 - (wrap64 (x9 * ((rd_T50 x0 x7).f1))))) then (if (wrap64 (x8 - (wrap64 (x9 * ((rd_T50 x0 x7).f1))))) < ((rd_L2 x6 (wrap64 (x7 + 1))).length : Int) then (if (rd (rd_L2 x6 (wrap64 (x7 + 1))) (wrap64 (x8 - (wrap64 (x9 * ((rd_T50 x0 x7).f1)))))) ≥ 0 then (if x7 < (x6.length : Int) then (if 0 ≤ x8 then (if x8 < ((rd_L2 x6 x7).length : Int) then ((spec_l13Gain.f k ((rd_T50 x0 x7).f0) ((rd_T50 x0 x7).f1) ((rd_T50 x0 x7).f2) ((rd_T50 x0 x7).f3) x9).bind fun t313 => (spec_BestShelf.l2 k x0 x1 (x6.set (x7 : Int).toNat ((rd_L2 x6 x7).set (x8 : Int).toNat (mx (rd (rd_L2 x6 x7) x8) (wrap64 ((rd (rd_L2 x6 (wrap64 (x7 + 1))) (wrap64 (x8 - (wrap64 (x9 * ((rd_T50 x0 x7).f1)))))) + t313))))) x7 x8 (wrap64 (x9 + 1)))) else (none)) else (none)) else (none)) else (spec_BestShelf.l2 k x0 x1 x6 x7 x8 (wrap64 (x9 + 1)))) else (none)) else (none)) else (none)) else (none)) else (none)) else (none)) else (spec_BestShelf.l1 k x0 x1 x6 x7 (wrap64 (x8 + 1)))
def spec_BestShelf.l3 : Nat → List (S50) → Int → List (List Int) → List Int → Int → Int → Option (List Int × Int × Int × Int)
 | 0, _, _, _, _, _, _ => none
 | k + 1, x0, x1, x6, x11, x12, x13 => if x13 < (x0.length : Int) then (if 0 ≤ x13 then (spec_BestShelf.l4 k x0 x1 x6 x11 x12 x13 (((rd_T50 x0 x13).f3).length : Int)) else (none)) else ((spec_ShelfOf.f k x0 x1 x11).bind fun bt322 => (some (bt322.1, bt322.2.1, bt322.2.2.1, bt322.2.2.2)))
def spec_BestShelf.l4 : Nat → List (S50) → Int → List (List Int) → List Int → Int → Int → Int → Option (List Int × Int × Int × Int)
 | 0, _, _, _, _, _, _, _ => none
 | k + 1, x0, x1, x6, x11, x12, x13, x14 => if 0 ≤ x13 then (if x13 < (x0.length : Int) then (if (wrap64 (x14 * ((rd_T50 x0 x13).f1))) > x12 then (spec_BestShelf.l4 k x0 x1 x6 x11 x12 x13 (wrap64 (x14 - 1))) else (if 0 ≤ (wrap64 (x13 + 1)) then (if (wrap64 (x13 + 1)) < (x6.length : Int) then (if 0 ≤ (wrap64 (x12 - (wrap64 (x14 * ((rd_T50 x0 x13).f1))))) then (if (wrap64 (x12 - (wrap64 (x14 * ((rd_T50 x0 x13).f1))))) < ((rd_L2 x6 (wrap64 (x13 + 1))).length : Int) then (if (rd (rd_L2 x6 (wrap64 (x13 + 1))) (wrap64 (x12 - (wrap64 (x14 * ((rd_T50 x0 x13).f1)))))) < 0 then (spec_BestShelf.l4 k x0 x1 x6 x11 x12 x13 (wrap64 (x14 - 1))) else ((spec_l13Gain.f k ((rd_T50 x0 x13).f0) ((rd_T50 x0 x13).f1) ((rd_T50 x0 x13).f2) ((rd_T50 x0 x13).f3) x14).bind fun t337 => (if x13 < (x6.length : Int) then (if 0 ≤ x12 then (if x12 < ((rd_L2 x6 x13).length : Int) then (if (wrap64 ((rd (rd_L2 x6 (wrap64 (x13 + 1))) (wrap64 (x12 - (wrap64 (x14 * ((rd_T50 x0 x13).f1)))))) + t337)) = (rd (rd_L2 x6 x13) x12) then (if x11.length < 17592186044416 then (spec_BestShelf.l3 k x0 x1 x6 (x11 ++ [x14]) (wrap64 (x12 - (wrap64 (x14 * ((rd_T50 x0 x13).f1))))) (wrap64 (x13 + 1))) else (none)) else (spec_BestShelf.l4 k x0 x1 x6 x11 x12 x13 (wrap64 (x14 - 1)))) else (none)) else (none)) else (none)))) else (none)) else (none)) else (none)) else (none))) else (none)) else (none)
end
def spec_BestShelf.f (k : Nat) (l0 : List (S50)) (a1 : Int) : Option (List Int × Int × Int × Int) := if (l0.length : Int) > 4096 then (some (([] : List Int), 0, 0, 2)) else ((spec_FacingsOK.f k l0).bind fun t286 => (if t286 = true then ((spec_l01In.f a1 0 2000).bind fun t287 => (if t287 = true then (if 0 ≤ (wrap64 ((l0.length : Int) + 1)) then (if (wrap64 ((l0.length : Int) + 1) : Int).toNat ≤ 11728124029610 then ((some (List.replicate (wrap64 ((l0.length : Int) + 1) : Int).toNat [] : List (List Int))).bind fun y288 => (if 0 ≤ (wrap64 (a1 + 1)) then (if (wrap64 (a1 + 1) : Int).toNat ≤ 35184372088832 then (if 0 ≤ (l0.length : Int) then (if (l0.length : Int) < (y288.length : Int) then (spec_BestShelf.l0 k l0 a1 (y288.set ((l0.length : Int) : Int).toNat (List.replicate (wrap64 (a1 + 1) : Int).toNat 0)) (wrap64 ((l0.length : Int) - 1))) else (none)) else (none)) else (none)) else (none))) else (none)) else (none)) else (some (([] : List Int), 0, 0, 5)))) else (some (([] : List Int), 0, 0, 1))))
theorem spec_BestShelf.mono_l : ∀ k, (∀ y0 y1 y2 y3, LeO (spec_BestShelf.l0 k y0 y1 y2 y3) (spec_BestShelf.l0 (k + 1) y0 y1 y2 y3)) ∧ (∀ y0 y1 y2 y3 y4, LeO (spec_BestShelf.l1 k y0 y1 y2 y3 y4) (spec_BestShelf.l1 (k + 1) y0 y1 y2 y3 y4)) ∧ (∀ y0 y1 y2 y3 y4 y5, LeO (spec_BestShelf.l2 k y0 y1 y2 y3 y4 y5) (spec_BestShelf.l2 (k + 1) y0 y1 y2 y3 y4 y5)) ∧ (∀ y0 y1 y2 y3 y4 y5 y6, LeO (spec_BestShelf.j3 k y0 y1 y2 y3 y4 y5 y6) (spec_BestShelf.j3 (k + 1) y0 y1 y2 y3 y4 y5 y6)) ∧ (∀ y0 y1 y2 y3 y4 y5, LeO (spec_BestShelf.l3 k y0 y1 y2 y3 y4 y5) (spec_BestShelf.l3 (k + 1) y0 y1 y2 y3 y4 y5)) ∧ (∀ y0 y1 y2 y3 y4 y5 y6, LeO (spec_BestShelf.l4 k y0 y1 y2 y3 y4 y5 y6) (spec_BestShelf.l4 (k + 1) y0 y1 y2 y3 y4 y5 y6))
 | 0 => ⟨fun _ _ _ _ r h => by simp [spec_BestShelf.l0] at h, fun _ _ _ _ _ r h => by simp [spec_BestShelf.l1] at h, fun _ _ _ _ _ _ r h => by simp [spec_BestShelf.l2] at h, fun _ _ _ _ _ _ _ r h => by simp [spec_BestShelf.j3] at h, fun _ _ _ _ _ _ r h => by simp [spec_BestShelf.l3] at h, fun _ _ _ _ _ _ _ r h => by simp [spec_BestShelf.l4] at h⟩
 | k + 1 => by
  obtain ⟨ih0, ih1, ih2, ih3, ih4, ih5⟩ := spec_BestShelf.mono_l k
  refine ⟨?_, ?_, ?_, ?_, ?_, ?_⟩
  ·intro y0 y1 y2 y3
   unfold spec_BestShelf.l0
   repeat' first
   | (with_reducible exact ih0 _ _ _ _)
   | (with_reducible exact ih1 _ _ _ _ _)
   | (with_reducible exact ih2 _ _ _ _ _ _)
   | (with_reducible exact ih3 _ _ _ _ _ _ _)
   | (with_reducible exact ih4 _ _ _ _ _ _)
   | (with_reducible exact ih5 _ _ _ _ _ _ _)
   | (with_reducible exact spec_FacingsOK.mono _ _)
   | (with_reducible exact spec_ShelfOf.mono _ _ _ _)
   | (with_reducible exact spec_l13Gain.mono _ _ _ _ _ _)
   | (with_reducible exact LeO.refl _)
   | (with_reducible exact LeO.none _)
   | (with_reducible refine LeO.ite ?_ ?_)
   | (with_reducible refine LeO.bind ?_ (fun _ => ?_))
   | exact ih0 _ _ _ _
   | exact ih1 _ _ _ _ _
   | exact ih2 _ _ _ _ _ _
   | exact ih3 _ _ _ _ _ _ _
   | exact ih4 _ _ _ _ _ _
   | exact ih5 _ _ _ _ _ _ _
   | exact spec_FacingsOK.mono _ _
   | exact spec_ShelfOf.mono _ _ _ _
   | exact spec_l13Gain.mono _ _ _ _ _ _
   | exact LeO.none _
   | refine LeO.ite ?_ ?_
   | refine LeO.bind ?_ (fun _ => ?_)
  ·intro y0 y1 y2 y3 y4
   unfold spec_BestShelf.l1
   repeat' first
   | (with_reducible exact ih0 _ _ _ _)
   | (with_reducible exact ih1 _ _ _ _ _)
   | (with_reducible exact ih2 _ _ _ _ _ _)
   | (with_reducible exact ih3 _ _ _ _ _ _ _)
   | (with_reducible exact ih4 _ _ _ _ _ _)
   | (with_reducible exact ih5 _ _ _ _ _ _ _)
   | (with_reducible exact spec_FacingsOK.mono _ _)
   | (with_reducible exact spec_ShelfOf.mono _ _ _ _)
   | (with_reducible exact spec_l13Gain.mono _ _ _ _ _ _)
   | (with_reducible exact LeO.refl _)
   | (with_reducible exact LeO.none _)
   | (with_reducible refine LeO.ite ?_ ?_)
   | (with_reducible refine LeO.bind ?_ (fun _ => ?_))
   | exact ih0 _ _ _ _
   | exact ih1 _ _ _ _ _
   | exact ih2 _ _ _ _ _ _
   | exact ih3 _ _ _ _ _ _ _
   | exact ih4 _ _ _ _ _ _
   | exact ih5 _ _ _ _ _ _ _
   | exact spec_FacingsOK.mono _ _
   | exact spec_ShelfOf.mono _ _ _ _
   | exact spec_l13Gain.mono _ _ _ _ _ _
   | exact LeO.none _
   | refine LeO.ite ?_ ?_
   | refine LeO.bind ?_ (fun _ => ?_)
  ·intro y0 y1 y2 y3 y4 y5
   unfold spec_BestShelf.l2
   repeat' first
   | (with_reducible exact ih0 _ _ _ _)
   | (with_reducible exact ih1 _ _ _ _ _)
   | (with_reducible exact ih2 _ _ _ _ _ _)
   | (with_reducible exact ih3 _ _ _ _ _ _ _)
   | (with_reducible exact ih4 _ _ _ _ _ _)
   | (with_reducible exact ih5 _ _ _ _ _ _ _)
   | (with_reducible exact spec_FacingsOK.mono _ _)
   | (with_reducible exact spec_ShelfOf.mono _ _ _ _)
   | (with_reducible exact spec_l13Gain.mono _ _ _ _ _ _)
   | (with_reducible exact LeO.refl _)
   | (with_reducible exact LeO.none _)
   | (with_reducible refine LeO.ite ?_ ?_)
   | (with_reducible refine LeO.bind ?_ (fun _ => ?_))
   | exact ih0 _ _ _ _
   | exact ih1 _ _ _ _ _
   | exact ih2 _ _ _ _ _ _
   | exact ih3 _ _ _ _ _ _ _
   | exact ih4 _ _ _ _ _ _
   | exact ih5 _ _ _ _ _ _ _
   | exact spec_FacingsOK.mono _ _
   | exact spec_ShelfOf.mono _ _ _ _
   | exact spec_l13Gain.mono _ _ _ _ _ _
   | exact LeO.none _
   | refine LeO.ite ?_ ?_
   | refine LeO.bind ?_ (fun _ => ?_)
  ·intro y0 y1 y2 y3 y4 y5 y6
   unfold spec_BestShelf.j3
   repeat' first
   | (with_reducible exact ih0 _ _ _ _)
   | (with_reducible exact ih1 _ _ _ _ _)
   | (with_reducible exact ih2 _ _ _ _ _ _)
   | (with_reducible exact ih3 _ _ _ _ _ _ _)
   | (with_reducible exact ih4 _ _ _ _ _ _)
   | (with_reducible exact ih5 _ _ _ _ _ _ _)
   | (with_reducible exact spec_FacingsOK.mono _ _)
   | (with_reducible exact spec_ShelfOf.mono _ _ _ _)
   | (with_reducible exact spec_l13Gain.mono _ _ _ _ _ _)
   | (with_reducible exact LeO.refl _)
   | (with_reducible exact LeO.none _)
   | (with_reducible refine LeO.ite ?_ ?_)
   | (with_reducible refine LeO.bind ?_ (fun _ => ?_))
   | exact ih0 _ _ _ _
   | exact ih1 _ _ _ _ _
   | exact ih2 _ _ _ _ _ _
   | exact ih3 _ _ _ _ _ _ _
   | exact ih4 _ _ _ _ _ _
   | exact ih5 _ _ _ _ _ _ _
   | exact spec_FacingsOK.mono _ _
   | exact spec_ShelfOf.mono _ _ _ _
   | exact spec_l13Gain.mono _ _ _ _ _ _
   | exact LeO.none _
   | refine LeO.ite ?_ ?_
   | refine LeO.bind ?_ (fun _ => ?_)
  ·intro y0 y1 y2 y3 y4 y5
   unfold spec_BestShelf.l3
   repeat' first
   | (with_reducible exact ih0 _ _ _ _)
   | (with_reducible exact ih1 _ _ _ _ _)
   | (with_reducible exact ih2 _ _ _ _ _ _)
   | (with_reducible exact ih3 _ _ _ _ _ _ _)
   | (with_reducible exact ih4 _ _ _ _ _ _)
   | (with_reducible exact ih5 _ _ _ _ _ _ _)
   | (with_reducible exact spec_FacingsOK.mono _ _)
   | (with_reducible exact spec_ShelfOf.mono _ _ _ _)
   | (with_reducible exact spec_l13Gain.mono _ _ _ _ _ _)
   | (with_reducible exact LeO.refl _)
   | (with_reducible exact LeO.none _)
   | (with_reducible refine LeO.ite ?_ ?_)
   | (with_reducible refine LeO.bind ?_ (fun _ => ?_))
   | exact ih0 _ _ _ _
   | exact ih1 _ _ _ _ _
   | exact ih2 _ _ _ _ _ _
   | exact ih3 _ _ _ _ _ _ _
   | exact ih4 _ _ _ _ _ _
   | exact ih5 _ _ _ _ _ _ _
   | exact spec_FacingsOK.mono _ _
   | exact spec_ShelfOf.mono _ _ _ _
   | exact spec_l13Gain.mono _ _ _ _ _ _
   | exact LeO.none _
   | refine LeO.ite ?_ ?_
   | refine LeO.bind ?_ (fun _ => ?_)
  ·intro y0 y1 y2 y3 y4 y5 y6
   unfold spec_BestShelf.l4
   repeat' first
   | (with_reducible exact ih0 _ _ _ _)
   | (with_reducible exact ih1 _ _ _ _ _)
   | (with_reducible exact ih2 _ _ _ _ _ _)
   | (with_reducible exact ih3 _ _ _ _ _ _ _)
   | (with_reducible exact ih4 _ _ _ _ _ _)
   | (with_reducible exact ih5 _ _ _ _ _ _ _)
   | (with_reducible exact spec_FacingsOK.mono _ _)
   | (with_reducible exact spec_ShelfOf.mono _ _ _ _)
   | (with_reducible exact spec_l13Gain.mono _ _ _ _ _ _)
   | (with_reducible exact LeO.refl _)
   | (with_reducible exact LeO.none _)
   | (with_reducible refine LeO.ite ?_ ?_)
   | (with_reducible refine LeO.bind ?_ (fun _ => ?_))
   | exact ih0 _ _ _ _
   | exact ih1 _ _ _ _ _
   | exact ih2 _ _ _ _ _ _
   | exact ih3 _ _ _ _ _ _ _
   | exact ih4 _ _ _ _ _ _
   | exact ih5 _ _ _ _ _ _ _
   | exact spec_FacingsOK.mono _ _
   | exact spec_ShelfOf.mono _ _ _ _
   | exact spec_l13Gain.mono _ _ _ _ _ _
   | exact LeO.none _
   | refine LeO.ite ?_ ?_
   | refine LeO.bind ?_ (fun _ => ?_)
theorem spec_BestShelf.mono : ∀ a0 a1 k, LeO (spec_BestShelf.f k a0 a1) (spec_BestShelf.f (k + 1) a0 a1) := by
 intro a0 a1 k
 obtain ⟨ih0, ih1, ih2, ih3, ih4, ih5⟩ := spec_BestShelf.mono_l k
 unfold spec_BestShelf.f
 repeat' first
   | (with_reducible exact ih0 _ _ _ _)
   | (with_reducible exact ih1 _ _ _ _ _)
   | (with_reducible exact ih2 _ _ _ _ _ _)
   | (with_reducible exact ih3 _ _ _ _ _ _ _)
   | (with_reducible exact ih4 _ _ _ _ _ _)
   | (with_reducible exact ih5 _ _ _ _ _ _ _)
   | (with_reducible exact spec_FacingsOK.mono _ _)
   | (with_reducible exact spec_ShelfOf.mono _ _ _ _)
   | (with_reducible exact spec_l13Gain.mono _ _ _ _ _ _)
   | (with_reducible exact LeO.refl _)
   | (with_reducible exact LeO.none _)
   | (with_reducible refine LeO.ite ?_ ?_)
   | (with_reducible refine LeO.bind ?_ (fun _ => ?_))
   | exact ih0 _ _ _ _
   | exact ih1 _ _ _ _ _
   | exact ih2 _ _ _ _ _ _
   | exact ih3 _ _ _ _ _ _ _
   | exact ih4 _ _ _ _ _ _
   | exact ih5 _ _ _ _ _ _ _
   | exact spec_FacingsOK.mono _ _
   | exact spec_ShelfOf.mono _ _ _ _
   | exact spec_l13Gain.mono _ _ _ _ _ _
   | exact LeO.none _
   | refine LeO.ite ?_ ?_
   | refine LeO.bind ?_ (fun _ => ?_)
def spec_BestShelf.T20 : Bool × List (List Nat × List Nat) := (true, [([], []), ([], []), ([1], [1]), ([0, 2], [0, 2]), ([3], [3]), ([], []), ([], []), ([], []), ([], []), ([7, 8], [7, 8]), ([9], [9]), ([10], [10]), ([6, 11], [6, 11]), ([5, 12], [5, 12]), ([4, 13], [4, 13]), ([14], [14]), ([15, 0, 1, 2, 3, 4, 5, 6, 7, 8, 9, 10, 11, 12, 13, 14, 15], [15])])
def spec_BestShelf.B20 : List Nat := [0, 0, 2, 7, 15, 0, 0, 0, 0, 384, 896, 1920, 4032, 8160, 16383, 32767, 65535]
theorem spec_BestShelf.tab20 : rtab .any (opsOf Try.f23 20) = spec_BestShelf.T20 := by kernel_rfl
theorem spec_BestShelf.bits20 : waitsOk spec_BestShelf.T20.2 spec_BestShelf.B20 = true := by kernel_rfl
def spec_BestShelf.T22 : Bool × List (List Nat × List Nat) := (true, [([], []), ([], []), ([0, 1], [0, 1]), ([2], [2]), ([], []), ([], []), ([], []), ([5, 6], [5, 6]), ([7], [7]), ([], []), ([8, 9], [8, 9]), ([10], [10]), ([], []), ([], []), ([], []), ([13, 14], [13, 14]), ([15], [15]), ([], []), ([16, 17], [16, 17]), ([12, 18], [12, 18]), ([11, 19], [11, 19]), ([3, 4, 0, 1, 2, 3, 4, 5, 6, 7, 8, 9, 10, 11, 12, 13, 14, 15, 16, 17, 18, 19, 20], [3, 4]), ([21, 20, 18, 0, 1, 2, 3, 4, 5, 6, 7, 8, 9, 10, 11, 12, 13, 14, 15, 16, 17, 18, 19, 20], [20, 21])])
def spec_BestShelf.B22 : List Nat := [0, 0, 3, 7, 0, 0, 0, 96, 224, 0, 992, 2016, 0, 0, 0, 24576, 57344, 0, 253952, 520192, 1048544, 2097151, 4194303]
theorem spec_BestShelf.tab22 : rtab .any (opsOf Try.f23 22) = spec_BestShelf.T22 := by kernel_rfl
theorem spec_BestShelf.bits22 : waitsOk spec_BestShelf.T22.2 spec_BestShelf.B22 = true := by kernel_rfl
def spec_BestShelf.T31 : Bool × List (List Nat × List Nat) := (true, [([], []), ([], []), ([], []), ([1, 2], [1, 2]), ([3], [3]), ([4], [4]), ([0, 5], [0, 5]), ([], []), ([6, 7], [6, 7]), ([8], [8]), ([9], [9]), ([9], [9]), ([11, 9], [9, 11]), ([10, 12, 9], [9, 10, 12]), ([13, 9], [9, 13]), ([9], [9]), ([9], [9]), ([9], [9]), ([9], [9]), ([17, 18, 9], [9, 17, 18]), ([19, 9], [9, 19]), ([20, 9], [9, 20]), ([16, 21, 9], [9, 16, 21]), ([15, 22, 9], [9, 15, 22]), ([14, 23, 9], [9, 14, 23]), ([24, 9], [9, 24]), ([25, 9], [9, 25]), ([9, 26], [9, 26]), ([27, 9], [27]), ([28], [28]), ([28], [28]), ([30, 28], [28, 30]), ([29, 31, 28], [28, 29, 31]), ([32, 28], [28, 32]), ([28], [28]), ([28], [28]), ([28], [28]), ([28], [28]), ([36, 37, 28], [28, 36, 37]), ([38, 28], [28, 38]), ([39, 28], [28, 39]), ([35, 40, 28], [28, 35, 40]), ([34, 41, 28], [28, 34, 41]), ([33, 42, 28], [28, 33, 42]), ([43, 28], [28, 43]), ([28], [28]), ([28], [28]), ([45, 46, 28], [28, 45, 46]), ([47, 28], [28, 47]), ([28], [28]), ([48, 49, 28, 28], [28, 48, 49]), ([44, 50, 28], [28, 44, 50]), ([28], [28]), ([28], [28]), ([52, 53, 28], [28, 52, 53]), ([54, 28], [28, 54]), ([28], [28]), ([55, 56, 28], [28, 55, 56]), ([57, 28], [28, 57]), ([51, 58, 28], [28, 51, 58]), ([28, 59], [28, 59])])
def spec_BestShelf.B31 : List Nat := [0, 0, 0, 6, 14, 30, 63, 0, 255, 511, 1023, 1023, 3071, 8191, 16383, 1023, 1023, 1023, 1023, 394239, 918527, 1967103, 4129791, 8356863, 16777215, 33554431, 67108863, 134217727, 268435455, 536870911, 536870911, 1610612735, 4294967295, 8589934591, 536870911, 536870911, 536870911, 536870911, 206695301119, 481573208063, 1031329021951, 2165200388095, 4381403512831, 8796093022207, 17592186044415, 536870911, 536870911, 105553653137407, 246291141492735, 536870911, 1090716071624703, 2251799813685247, 536870911, 536870911, 13510799418982399, 31525197928464383, 536870911, 139611588985356287, 283726777061212159, 576460752303423487, 1152921504606846975]
theorem spec_BestShelf.tab31 : rtab .any (opsOf Try.f23 31) = spec_BestShelf.T31 := by kernel_rfl
theorem spec_BestShelf.bits31 : waitsOk spec_BestShelf.T31.2 spec_BestShelf.B31 = true := by kernel_rfl
set_option maxHeartbeats 8000000 in
set_option maxRecDepth 100000 in
theorem spec_BestShelf.calls (k : Nat) (A0 : Option Addr) (c0 : Nat) (l0 : List (S50)) (a1 : Int) (r1 : List Int) (r2 : Int) (r3 : Int) (r4 : Int) (w : World) (hr0 : Kd.C k50 w A0 l0.length l0) (hc0 : l0.length ≤ c0) (h : spec_BestShelf.f k l0 a1 = some (r1, r2, r3, r4)) :
  Calls Try.prog 23 #[.slice A0 l0.length c0, .int .i64 a1] w fun e w' => ∃ v0_ : Value, e = .returned (.tuple #[.agg #[v0_, .int .i64 r2, .int .i64 r3], .int .i64 r4]) ∧ Kd.R (Kd.int .i64) 3 w' w.heap.size (fun _ => True) v0_ r1 ∧ Below w.heap.size w w' := by
 have hu31 := Try.underlying31
 have hu50 := Try.underlying50
 have HR0 := Aside0.mk hr0
 have HC0 := Aside0.mk hc0
 clear hr0 hc0
 have HB := Aside0.mk (Below.refl w.heap.size w)
 have H : (if (l0.length : Int) > 4096 then (some (([] : List Int), 0, 0, 2)) else ((spec_FacingsOK.f k l0).bind fun t286 => (if t286 = true then ((spec_l01In.f a1 0 2000).bind fun t287 => (if t287 = true then (if 0 ≤ (wrap64 ((l0.length : Int) + 1)) then (if (wrap64 ((l0.length : Int) + 1) : Int).toNat ≤ 11728124029610 then ((some (List.replicate (wrap64 ((l0.length : Int) + 1) : Int).toNat [] : List (List Int))).bind fun y288 => (if 0 ≤ (wrap64 (a1 + 1)) then (if (wrap64 (a1 + 1) : Int).toNat ≤ 35184372088832 then (if 0 ≤ (l0.length : Int) then (if (l0.length : Int) < (y288.length : Int) then (spec_BestShelf.l0 k l0 a1 (y288.set ((l0.length : Int) : Int).toNat (List.replicate (wrap64 (a1 + 1) : Int).toNat 0)) (wrap64 ((l0.length : Int) - 1))) else (none)) else (none)) else (none)) else (none))) else (none)) else (none)) else (some (([] : List Int), 0, 0, 5)))) else (some (([] : List Int), 0, 0, 1))))) = some (r1, r2, r3, r4) := h
 clear h
 by_cases c3 : (l0.length : Int) > 4096
 ·rw [if_pos c3] at H
  have c3b0 : decide (4096 < (l0.length : Int)) = true := decide_eq_true c3
  have c3b1 : decide (4096 < l0.length) = true := decide_eq_true (by omega)
  clear c3
  as_aux_lemma =>
   simp only [Option.some.injEq, Prod.mk.injEq] at H
   obtain ⟨rfl, rfl, rfl, rfl⟩ := H
   go_enter Try.func23, Try.ntmps23
   go_wp2_with (first | ((with_reducible refine gate_dst (N := 4) rfl ?_); refine box_event ?hg (N := 4) ?hd (cs := #[.slice none 0 0, .int .i64 0, .int .i64 0]) (t := 31) ?hr ?_; (case hd => rfl); (case hg => rfl); (case hr => first | (go_simp; done) | (go_simp; rfl)); intro gb285 hg w4 hbox hb; have n0_ := Aside0.mk (below_step bl_ hb); have n1_ := Aside0.mk (hbox); have n2_ := Aside0.mk ((by rw [hg]; exact (below_size bl_) : w.heap.size ≤ gb285)); have n3_ := Aside0.mk ((by rw [hg]; exact (below_size bl_) : w.heap.size ≤ gb285)); clear HB; have HB := n0_; have BK285 := n1_; have GW285 := n2_; have GE285 := n3_; clear n0_ n1_ n2_ n3_; clear hb hbox hg; have hcz5_0 : w4.cell? ⟨gb285, 0, none⟩ = some (.slice none 0 0) := (blk_cell BK285.out 0).trans rfl; have hcz5_1 : w4.cell? ⟨gb285, 1, none⟩ = some (.int .i64 0) := (blk_cell BK285.out 1).trans rfl; have hcz5_2 : w4.cell? ⟨gb285, 2, none⟩ = some (.int .i64 0) := (blk_cell BK285.out 2).trans rfl; have hfz5_0 := blk_frozen BK285.out 0; have hfz5_1 := blk_frozen BK285.out 1; have hfz5_2 := blk_frozen BK285.out 2))
   refine bodyPost_ret (results_ct rfl _ _ gb285 31 #[.slice none 0 0, .int .i64 0, .int .i64 0] (0, 0) _ rfl (by (with_reducible repeat (first | refine blk_drewN ?_ _ | refine blk_drew ?_ | refine blk_alloc ?_ _)); refine blk_put (cs := #[.slice none 0 0, .int .i64 0, .int .i64 0]) ?_ 2 _ rfl; (with_reducible repeat (first | refine blk_drewN ?_ _ | refine blk_drew ?_ | refine blk_alloc ?_ _)); refine blk_put (cs := #[.slice none 0 0, .int .i64 0, .int .i64 0]) ?_ 1 _ rfl; (with_reducible repeat (first | refine blk_drewN ?_ _ | refine blk_drew ?_ | refine blk_alloc ?_ _)); refine blk_put (cs := #[.slice none 0 0, .int .i64 0, .int .i64 0]) ?_ 0 _ rfl; (with_reducible repeat (first | refine blk_drewN ?_ _ | refine blk_drew ?_ | refine blk_alloc ?_ _)); exact BK285.out) Try.underlying31 rfl (by kernel_rfl)) rfl ?_
   exact ⟨_, by first | rfl | (simp [errW_none, errW_some] <;> rfl) | (simp [*, errW_none, errW_some] <;> rfl), by first | exact Kd.R_nil _ _ _ _ _ | exact Kd.N_nil _ _ _ _ _ | exact Kd.V_nil _ _ _ _ _ | exact Kd.Q_nil _ _ _ _ _ | exact Kd.S_nil _ _ _ _ _, by repeat (first | (with_reducible first | exact HB.out | apply below_alloc | apply pw_below_drewN | apply below_drew1 | refine below_set ?_ GE285.out) | exact HB.out)⟩
 rw [if_neg c3] at H
 have c3b0 : decide (4096 < (l0.length : Int)) = false := decide_eq_false c3
 have c3b1 : decide (4096 < l0.length) = false := decide_eq_false (by omega)
 clear c3
 replace H := Option.bind_eq_some_iff.mp H
 obtain ⟨t286, A60, H⟩ := H
 replace H : (if t286 = true then ((spec_l01In.f a1 0 2000).bind fun t287 => (if t287 = true then (if 0 ≤ (wrap64 ((l0.length : Int) + 1)) then (if (wrap64 ((l0.length : Int) + 1) : Int).toNat ≤ 11728124029610 then ((some (List.replicate (wrap64 ((l0.length : Int) + 1) : Int).toNat [] : List (List Int))).bind fun y288 => (if 0 ≤ (wrap64 (a1 + 1)) then (if (wrap64 (a1 + 1) : Int).toNat ≤ 35184372088832 then (if 0 ≤ (l0.length : Int) then (if (l0.length : Int) < (y288.length : Int) then (spec_BestShelf.l0 k l0 a1 (y288.set ((l0.length : Int) : Int).toNat (List.replicate (wrap64 (a1 + 1) : Int).toNat 0)) (wrap64 ((l0.length : Int) - 1))) else (none)) else (none)) else (none)) else (none))) else (none)) else (none)) else (some (([] : List Int), 0, 0, 5)))) else (some (([] : List Int), 0, 0, 1))) = some (r1, r2, r3, r4) := H
 have A6 := Aside0.mk A60
 clear A60
 by_cases c7 : t286 = true
 rotate_left
 ·replace c7 := Bool.eq_false_iff.mpr c7
  subst c7
  have H1 : (some (([] : List Int), 0, 0, 1)) = some (r1, r2, r3, r4) := by rw [if_neg (show ¬ (false = true) by decide)] at H; exact H
  clear H
  have H := H1
  clear H1
  as_aux_lemma =>
   simp only [Option.some.injEq, Prod.mk.injEq] at H
   obtain ⟨rfl, rfl, rfl, rfl⟩ := H
   go_enter Try.func23, Try.ntmps23
   go_wp2_with (first | ((with_reducible refine gate_dst (N := 4) rfl ?_); refine box_event ?hg (N := 4) ?hd (cs := #[.slice none 0 0, .int .i64 0, .int .i64 0]) (t := 31) ?hr ?_; (case hd => rfl); (case hg => rfl); (case hr => first | (go_simp; done) | (go_simp; rfl)); intro gb285 hg w113 hbox hb; have n0_ := Aside0.mk (below_step bl_ hb); have n1_ := Aside0.mk (hbox); have n2_ := Aside0.mk ((by rw [hg]; exact (below_size bl_) : w.heap.size ≤ gb285)); have n3_ := Aside0.mk ((by rw [hg]; exact (below_size bl_) : w.heap.size ≤ gb285)); clear HB; have HB := n0_; have BK285 := n1_; have GW285 := n2_; have GE285 := n3_; clear n0_ n1_ n2_ n3_; clear hb hbox hg) | ((with_reducible refine gate_callee (f := 8) rfl ?_); refine goesL_ (some 20) rfl rfl Try.func8 (by kernel_rfl) rfl #[.slice A0 l0.length c0] rfl (by (try simp only [List.map_toArray, List.map_cons, List.map_nil]); first | done | rfl | (simp only [List.length_drop, List.length_take]; rfl)) ?_; (with_reducible refine (spec_FacingsOK.calls k _ _ l0 false _ ?side1 ?side2 A6.out).mono ?_); (case side1 => repeat (first | exact (Kd.C_below HR0.out HB.out) | (with_reducible refine Kd.C_alloc ?_ _) | (with_reducible refine Kd.C_drewN ?_ _) | (with_reducible refine Kd.C_drew ?_))); (case side2 => exact HC0.out); rintro e w114 ⟨rfl, hb⟩; refine ⟨_, rfl, ?_⟩; have n0_ := Aside0.mk (blk_below (g := gb285) (o := .cells #[.slice none 0 0, .int .i64 0, .int .i64 0] 31 (0, 0)) bk_ hb); have n1_ := Aside0.mk (below_step bl_ hb); clear BK285; clear HB; have BK285 := n0_; have HB := n1_; clear n0_ n1_; (try clear hb); (try clear hb2); (try clear hk); (try clear hi); have hcz115_0 : w114.cell? ⟨gb285, 0, none⟩ = some (.slice none 0 0) := (blk_cell BK285.out 0).trans rfl; have hcz115_1 : w114.cell? ⟨gb285, 1, none⟩ = some (.int .i64 0) := (blk_cell BK285.out 1).trans rfl; have hcz115_2 : w114.cell? ⟨gb285, 2, none⟩ = some (.int .i64 0) := (blk_cell BK285.out 2).trans rfl; have hfz115_0 := blk_frozen BK285.out 0; have hfz115_1 := blk_frozen BK285.out 1; have hfz115_2 := blk_frozen BK285.out 2))
   refine bodyPost_ret (results_ct rfl _ _ gb285 31 #[.slice none 0 0, .int .i64 0, .int .i64 0] (0, 0) _ rfl (by (with_reducible repeat (first | refine blk_drewN ?_ _ | refine blk_drew ?_ | refine blk_alloc ?_ _)); refine blk_put (cs := #[.slice none 0 0, .int .i64 0, .int .i64 0]) ?_ 2 _ rfl; (with_reducible repeat (first | refine blk_drewN ?_ _ | refine blk_drew ?_ | refine blk_alloc ?_ _)); refine blk_put (cs := #[.slice none 0 0, .int .i64 0, .int .i64 0]) ?_ 1 _ rfl; (with_reducible repeat (first | refine blk_drewN ?_ _ | refine blk_drew ?_ | refine blk_alloc ?_ _)); refine blk_put (cs := #[.slice none 0 0, .int .i64 0, .int .i64 0]) ?_ 0 _ rfl; (with_reducible repeat (first | refine blk_drewN ?_ _ | refine blk_drew ?_ | refine blk_alloc ?_ _)); exact BK285.out) Try.underlying31 rfl (by kernel_rfl)) rfl ?_
   exact ⟨_, by first | rfl | (simp [errW_none, errW_some] <;> rfl) | (simp [*, errW_none, errW_some] <;> rfl), by first | exact Kd.R_nil _ _ _ _ _ | exact Kd.N_nil _ _ _ _ _ | exact Kd.V_nil _ _ _ _ _ | exact Kd.Q_nil _ _ _ _ _ | exact Kd.S_nil _ _ _ _ _, by repeat (first | (with_reducible first | exact HB.out | apply below_alloc | apply pw_below_drewN | apply below_drew1 | refine below_set ?_ GE285.out) | exact HB.out)⟩

 subst c7
 have H1 : ((spec_l01In.f a1 0 2000).bind fun t287 => (if t287 = true then (if 0 ≤ (wrap64 ((l0.length : Int) + 1)) then (if (wrap64 ((l0.length : Int) + 1) : Int).toNat ≤ 11728124029610 then ((some (List.replicate (wrap64 ((l0.length : Int) + 1) : Int).toNat [] : List (List Int))).bind fun y288 => (if 0 ≤ (wrap64 (a1 + 1)) then (if (wrap64 (a1 + 1) : Int).toNat ≤ 35184372088832 then (if 0 ≤ (l0.length : Int) then (if (l0.length : Int) < (y288.length : Int) then (spec_BestShelf.l0 k l0 a1 (y288.set ((l0.length : Int) : Int).toNat (List.replicate (wrap64 (a1 + 1) : Int).toNat 0)) (wrap64 ((l0.length : Int) - 1))) else (none)) else (none)) else (none)) else (none))) else (none)) else (none)) else (some (([] : List Int), 0, 0, 5)))) = some (r1, r2, r3, r4) := by rw [if_pos rfl] at H; exact H
 clear H
 have H := H1
 clear H1
 replace H := Option.bind_eq_some_iff.mp H
 obtain ⟨t287, A80, H⟩ := H
 replace H : (if t287 = true then (if 0 ≤ (wrap64 ((l0.length : Int) + 1)) then (if (wrap64 ((l0.length : Int) + 1) : Int).toNat ≤ 11728124029610 then ((some (List.replicate (wrap64 ((l0.length : Int) + 1) : Int).toNat [] : List (List Int))).bind fun y288 => (if 0 ≤ (wrap64 (a1 + 1)) then (if (wrap64 (a1 + 1) : Int).toNat ≤ 35184372088832 then (if 0 ≤ (l0.length : Int) then (if (l0.length : Int) < (y288.length : Int) then (spec_BestShelf.l0 k l0 a1 (y288.set ((l0.length : Int) : Int).toNat (List.replicate (wrap64 (a1 + 1) : Int).toNat 0)) (wrap64 ((l0.length : Int) - 1))) else (none)) else (none)) else (none)) else (none))) else (none)) else (none)) else (some (([] : List Int), 0, 0, 5))) = some (r1, r2, r3, r4) := H
 have A8 := Aside0.mk A80
 clear A80
 by_cases c9 : t287 = true
 rotate_left
 ·replace c9 := Bool.eq_false_iff.mpr c9
  subst c9
  have H1 : (some (([] : List Int), 0, 0, 5)) = some (r1, r2, r3, r4) := by rw [if_neg (show ¬ (false = true) by decide)] at H; exact H
  clear H
  have H := H1
  clear H1
  as_aux_lemma =>
   simp only [Option.some.injEq, Prod.mk.injEq] at H
   obtain ⟨rfl, rfl, rfl, rfl⟩ := H
   go_enter Try.func23, Try.ntmps23
   go_wp2_with (first | ((with_reducible refine gate_dst (N := 4) rfl ?_); refine box_event ?hg (N := 4) ?hd (cs := #[.slice none 0 0, .int .i64 0, .int .i64 0]) (t := 31) ?hr ?_; (case hd => rfl); (case hg => rfl); (case hr => first | (go_simp; done) | (go_simp; rfl)); intro gb285 hg w110 hbox hb; have n0_ := Aside0.mk (below_step bl_ hb); have n1_ := Aside0.mk (hbox); have n2_ := Aside0.mk ((by rw [hg]; exact (below_size bl_) : w.heap.size ≤ gb285)); have n3_ := Aside0.mk ((by rw [hg]; exact (below_size bl_) : w.heap.size ≤ gb285)); clear HB; have HB := n0_; have BK285 := n1_; have GW285 := n2_; have GE285 := n3_; clear n0_ n1_ n2_ n3_; clear hb hbox hg) | ((with_reducible refine gate_callee (f := 8) rfl ?_); refine goesL_ (some 20) rfl rfl Try.func8 (by kernel_rfl) rfl #[.slice A0 l0.length c0] rfl (by (try simp only [List.map_toArray, List.map_cons, List.map_nil]); first | done | rfl | (simp only [List.length_drop, List.length_take]; rfl)) ?_; (with_reducible refine (spec_FacingsOK.calls k _ _ l0 true _ ?side1 ?side2 A6.out).mono ?_); (case side1 => repeat (first | exact (Kd.C_below HR0.out HB.out) | (with_reducible refine Kd.C_alloc ?_ _) | (with_reducible refine Kd.C_drewN ?_ _) | (with_reducible refine Kd.C_drew ?_))); (case side2 => exact HC0.out); rintro e w111 ⟨rfl, hb⟩; refine ⟨_, rfl, ?_⟩; have n0_ := Aside0.mk (blk_below (g := gb285) (o := .cells #[.slice none 0 0, .int .i64 0, .int .i64 0] 31 (0, 0)) bk_ hb); have n1_ := Aside0.mk (below_step bl_ hb); clear BK285; clear HB; have BK285 := n0_; have HB := n1_; clear n0_ n1_; (try clear hb); (try clear hb2); (try clear hk); (try clear hi)) | ((with_reducible refine gate_callee (f := 26) rfl ?_); refine goesL_ (some 24) rfl rfl Try.func26 (by kernel_rfl) rfl #[.int .i64 a1, .int .i64 0, .int .i64 2000] rfl (by (try simp only [List.map_toArray, List.map_cons, List.map_nil]); first | done | rfl | (simp only [List.length_drop, List.length_take]; rfl)) ?_; (with_reducible refine (spec_l01In.calls a1 0 2000 false _ A8.out).mono ?_); rintro e w' ⟨rfl, ⟨nd, rfl⟩⟩; refine ⟨_, rfl, ?_⟩; (try (rw [drewN_self w111]; generalize hq_ : World.drewN w111 _ = w111; have n0_ : Aside0 (w111.heap[gb285]? = some (.cells #[.slice none 0 0, .int .i64 0, .int .i64 0] 31 (0, 0))) := ⟨by rw [← hq_]; exact bk_⟩; have n1_ : Aside0 (Below w.heap.size w w111) := ⟨by rw [← hq_]; exact bl_⟩; clear BK285 HB hq_; have BK285 := n0_; have HB := n1_; clear n0_ n1_)); have hcz112_0 : w111.cell? ⟨gb285, 0, none⟩ = some (.slice none 0 0) := (blk_cell BK285.out 0).trans rfl; have hcz112_1 : w111.cell? ⟨gb285, 1, none⟩ = some (.int .i64 0) := (blk_cell BK285.out 1).trans rfl; have hcz112_2 : w111.cell? ⟨gb285, 2, none⟩ = some (.int .i64 0) := (blk_cell BK285.out 2).trans rfl; have hfz112_0 := blk_frozen BK285.out 0; have hfz112_1 := blk_frozen BK285.out 1; have hfz112_2 := blk_frozen BK285.out 2))
   refine bodyPost_ret (results_ct rfl _ _ gb285 31 #[.slice none 0 0, .int .i64 0, .int .i64 0] (0, 0) _ rfl (by (with_reducible repeat (first | refine blk_drewN ?_ _ | refine blk_drew ?_ | refine blk_alloc ?_ _)); refine blk_put (cs := #[.slice none 0 0, .int .i64 0, .int .i64 0]) ?_ 2 _ rfl; (with_reducible repeat (first | refine blk_drewN ?_ _ | refine blk_drew ?_ | refine blk_alloc ?_ _)); refine blk_put (cs := #[.slice none 0 0, .int .i64 0, .int .i64 0]) ?_ 1 _ rfl; (with_reducible repeat (first | refine blk_drewN ?_ _ | refine blk_drew ?_ | refine blk_alloc ?_ _)); refine blk_put (cs := #[.slice none 0 0, .int .i64 0, .int .i64 0]) ?_ 0 _ rfl; (with_reducible repeat (first | refine blk_drewN ?_ _ | refine blk_drew ?_ | refine blk_alloc ?_ _)); exact BK285.out) Try.underlying31 rfl (by kernel_rfl)) rfl ?_
   exact ⟨_, by first | rfl | (simp [errW_none, errW_some] <;> rfl) | (simp [*, errW_none, errW_some] <;> rfl), by first | exact Kd.R_nil _ _ _ _ _ | exact Kd.N_nil _ _ _ _ _ | exact Kd.V_nil _ _ _ _ _ | exact Kd.Q_nil _ _ _ _ _ | exact Kd.S_nil _ _ _ _ _, by repeat (first | (with_reducible first | exact HB.out | apply below_alloc | apply pw_below_drewN | apply below_drew1 | refine below_set ?_ GE285.out) | exact HB.out)⟩
 subst c9
 have H1 : (if 0 ≤ (wrap64 ((l0.length : Int) + 1)) then (if (wrap64 ((l0.length : Int) + 1) : Int).toNat ≤ 11728124029610 then ((some (List.replicate (wrap64 ((l0.length : Int) + 1) : Int).toNat [] : List (List Int))).bind fun y288 => (if 0 ≤ (wrap64 (a1 + 1)) then (if (wrap64 (a1 + 1) : Int).toNat ≤ 35184372088832 then (if 0 ≤ (l0.length : Int) then (if (l0.length : Int) < (y288.length : Int) then (spec_BestShelf.l0 k l0 a1 (y288.set ((l0.length : Int) : Int).toNat (List.replicate (wrap64 (a1 + 1) : Int).toNat 0)) (wrap64 ((l0.length : Int) - 1))) else (none)) else (none)) else (none)) else (none))) else (none)) else (none)) = some (r1, r2, r3, r4) := by rw [if_pos rfl] at H; exact H
 clear H
 have H := H1
 clear H1
 obtain ⟨ji10, hji10⟩ : ∃ j_ : Int, (wrap64 ((l0.length : Int) + 1)) = j_ := ⟨_, rfl⟩
 replace H : (if 0 ≤ (ji10) then (if (ji10 : Int).toNat ≤ 11728124029610 then ((some (List.replicate (ji10 : Int).toNat [] : List (List Int))).bind fun y288 => (if 0 ≤ (wrap64 (a1 + 1)) then (if (wrap64 (a1 + 1) : Int).toNat ≤ 35184372088832 then (if 0 ≤ (l0.length : Int) then (if (l0.length : Int) < (y288.length : Int) then (spec_BestShelf.l0 k l0 a1 (y288.set ((l0.length : Int) : Int).toNat (List.replicate (wrap64 (a1 + 1) : Int).toNat 0)) (wrap64 ((l0.length : Int) - 1))) else (none)) else (none)) else (none)) else (none))) else (none)) else (none)) = some (r1, r2, r3, r4) := by first | (rw [hji10] at H; exact H) | (simp only [hji10] at H ⊢; exact H)
 (try rw [hji10] at A6)
 (try rw [hji10] at A8)
 have hji10w : (IntKind.i64.wrap ((l0.length : Int) + 1)) = ji10 := (i64_w _).trans hji10
 by_cases c11 : 0 ≤ (ji10)
 rotate_left
 ·rw [if_neg c11] at H
  exact absurd H (by simp)
 rw [if_pos c11] at H
 have c11b0 := eq_true c11
 have c11b1 : decide (0 ≤ (ji10)) = true := decide_eq_true c11
 clear c11
 by_cases c12 : (ji10 : Int).toNat ≤ 11728124029610
 rotate_left
 ·rw [if_neg c12] at H
  exact absurd H (by simp)
 rw [if_pos c12] at H
 have c12b0 := eq_true c12
 have c12b1 : decide ((ji10 : Int).toNat ≤ 11728124029610) = true := decide_eq_true c12
 clear c12
 obtain ⟨y288, hy288⟩ : ∃ y_ : List (List Int), y_ = (List.replicate (ji10 : Int).toNat []) := ⟨_, rfl⟩
 replace H : (if 0 ≤ (wrap64 (a1 + 1)) then (if (wrap64 (a1 + 1) : Int).toNat ≤ 35184372088832 then (if 0 ≤ (l0.length : Int) then (if (l0.length : Int) < (y288.length : Int) then (spec_BestShelf.l0 k l0 a1 (y288.set ((l0.length : Int) : Int).toNat (List.replicate (wrap64 (a1 + 1) : Int).toNat 0)) (wrap64 ((l0.length : Int) - 1))) else (none)) else (none)) else (none)) else (none)) = some (r1, r2, r3, r4) := by first | (rw [hy288]; with_reducible exact H) | (have H2_ := (Option.bind_some _ _).symm.trans H; rw [hy288]; with_reducible exact H2_) | (have H2_ := (Option.bind_some _ _).symm.trans H; with_reducible exact H2_) | with_reducible exact H | (rw [hy288]; exact H) | exact H
 have Ny288 := Aside0.mk hy288
 clear hy288
 obtain ⟨ji13, hji13⟩ : ∃ j_ : Int, (wrap64 (a1 + 1)) = j_ := ⟨_, rfl⟩
 replace H : (if 0 ≤ (ji13) then (if (ji13 : Int).toNat ≤ 35184372088832 then (if 0 ≤ (l0.length : Int) then (if (l0.length : Int) < (y288.length : Int) then (spec_BestShelf.l0 k l0 a1 (y288.set ((l0.length : Int) : Int).toNat (List.replicate (ji13 : Int).toNat 0)) (wrap64 ((l0.length : Int) - 1))) else (none)) else (none)) else (none)) else (none)) = some (r1, r2, r3, r4) := by first | (rw [hji13] at H; exact H) | (simp only [hji13] at H ⊢; exact H)
 (try rw [hji13] at A6)
 (try rw [hji13] at A8)
 have hji13w : (IntKind.i64.wrap (a1 + 1)) = ji13 := (i64_w _).trans hji13
 by_cases c14 : 0 ≤ (ji13)
 rotate_left
 ·rw [if_neg c14] at H
  exact absurd H (by simp)
 rw [if_pos c14] at H
 have c14b0 := eq_true c14
 have c14b1 : decide (0 ≤ (ji13)) = true := decide_eq_true c14
 clear c14
 by_cases c15 : (ji13 : Int).toNat ≤ 35184372088832
 rotate_left
 ·rw [if_neg c15] at H
  exact absurd H (by simp)
 rw [if_pos c15] at H
 have c15b0 := eq_true c15
 have c15b1 : decide ((ji13 : Int).toNat ≤ 35184372088832) = true := decide_eq_true c15
 clear c15
 obtain ⟨y291, hy291⟩ : ∃ y_ : List Int, y_ = (List.replicate (ji13 : Int).toNat 0) := ⟨_, rfl⟩
 replace H : (if 0 ≤ (l0.length : Int) then (if (l0.length : Int) < (y288.length : Int) then (spec_BestShelf.l0 k l0 a1 (y288.set ((l0.length : Int) : Int).toNat y291) (wrap64 ((l0.length : Int) - 1))) else (none)) else (none)) = some (r1, r2, r3, r4) := by first | (rw [hy291]; with_reducible exact H) | (have H2_ := (Option.bind_some _ _).symm.trans H; rw [hy291]; with_reducible exact H2_) | (have H2_ := (Option.bind_some _ _).symm.trans H; with_reducible exact H2_) | with_reducible exact H | (rw [hy291]; exact H) | exact H
 have Ny291 := Aside0.mk hy291
 clear hy291
 by_cases c16 : 0 ≤ (l0.length : Int)
 rotate_left
 ·rw [if_neg c16] at H
  exact absurd H (by simp)
 rw [if_pos c16] at H
 have c16b0 : decide (0 ≤ (l0.length : Int)) = true := decide_eq_true c16
 have c16b1 : decide (0 ≤ l0.length) = true := decide_eq_true (by omega)
 clear c16
 by_cases c17 : (l0.length : Int) < (y288.length : Int)
 rotate_left
 ·rw [if_neg c17] at H
  exact absurd H (by simp)
 rw [if_pos c17] at H
 have c17b0 : decide ((l0.length : Int) < (y288.length : Int)) = true := decide_eq_true c17
 have c17b1 : decide (l0.length < y288.length) = true := decide_eq_true (Int.ofNat_lt.mp c17)
 clear c17
 obtain ⟨y294, hy294⟩ : ∃ y_ : List (List Int), y_ = (y288.set ((l0.length : Int) : Int).toNat y291) := ⟨_, rfl⟩
 replace H : (spec_BestShelf.l0 k l0 a1 y294 (wrap64 ((l0.length : Int) - 1))) = some (r1, r2, r3, r4) := by first | (rw [hy294]; with_reducible exact H) | (have H2_ := (Option.bind_some _ _).symm.trans H; rw [hy294]; with_reducible exact H2_) | (have H2_ := (Option.bind_some _ _).symm.trans H; with_reducible exact H2_) | with_reducible exact H | (rw [hy294]; exact H) | exact H
 have Ny294 := Aside0.mk hy294
 clear hy294
 have H' := Aside0.mk H
 clear H
 go_enter Try.func23, Try.ntmps23
 go_wp2_with (first | ((with_reducible refine gate_dst (N := 4) rfl ?_); refine box_event ?hg (N := 4) ?hd (cs := #[.slice none 0 0, .int .i64 0, .int .i64 0]) (t := 31) ?hr ?_; (case hd => rfl); (case hg => rfl); (case hr => first | (go_simp; done) | (go_simp; rfl)); intro gb285 hg w19 hbox hb; have n0_ := Aside0.mk (below_step bl_ hb); have n1_ := Aside0.mk (hbox); have n2_ := Aside0.mk ((by rw [hg]; exact (below_size bl_) : w.heap.size ≤ gb285)); have n3_ := Aside0.mk ((by rw [hg]; exact (below_size bl_) : w.heap.size ≤ gb285)); clear HB; have HB := n0_; have BK285 := n1_; have GW285 := n2_; have GE285 := n3_; clear n0_ n1_ n2_ n3_; clear hb hbox hg) | ((with_reducible refine gate_callee (f := 8) rfl ?_); refine goesL_ (some 20) rfl rfl Try.func8 (by kernel_rfl) rfl #[.slice A0 l0.length c0] rfl (by (try simp only [List.map_toArray, List.map_cons, List.map_nil]); first | done | rfl | (simp only [List.length_drop, List.length_take]; rfl)) ?_; (with_reducible refine (spec_FacingsOK.calls k _ _ l0 true _ ?side1 ?side2 A6.out).mono ?_); (case side1 => repeat (first | exact (Kd.C_below HR0.out HB.out) | (with_reducible refine Kd.C_alloc ?_ _) | (with_reducible refine Kd.C_drewN ?_ _) | (with_reducible refine Kd.C_drew ?_))); (case side2 => exact HC0.out); rintro e w20 ⟨rfl, hb⟩; refine ⟨_, rfl, ?_⟩; have n0_ := Aside0.mk (blk_below (g := gb285) (o := .cells #[.slice none 0 0, .int .i64 0, .int .i64 0] 31 (0, 0)) bk_ hb); have n1_ := Aside0.mk (below_step bl_ hb); clear BK285; clear HB; have BK285 := n0_; have HB := n1_; clear n0_ n1_; (try clear hb); (try clear hb2); (try clear hk); (try clear hi)) | ((with_reducible refine gate_callee (f := 26) rfl ?_); refine goesL_ (some 24) rfl rfl Try.func26 (by kernel_rfl) rfl #[.int .i64 a1, .int .i64 0, .int .i64 2000] rfl (by (try simp only [List.map_toArray, List.map_cons, List.map_nil]); first | done | rfl | (simp only [List.length_drop, List.length_take]; rfl)) ?_; (with_reducible refine (spec_l01In.calls a1 0 2000 true _ A8.out).mono ?_); rintro e w' ⟨rfl, ⟨nd, rfl⟩⟩; refine ⟨_, rfl, ?_⟩; (try (rw [drewN_self w20]; generalize hq_ : World.drewN w20 _ = w20; have n0_ : Aside0 (w20.heap[gb285]? = some (.cells #[.slice none 0 0, .int .i64 0, .int .i64 0] 31 (0, 0))) := ⟨by rw [← hq_]; exact bk_⟩; have n1_ : Aside0 (Below w.heap.size w w20) := ⟨by rw [← hq_]; exact bl_⟩; clear BK285 HB hq_; have BK285 := n0_; have HB := n1_; clear n0_ n1_))) | ((with_reducible refine gate_dst (N := 30) rfl ?_); refine Kd.S_make (Kd.slice 3 (Kd.int .i64)) _ 29 rfl (N := 30) rfl 66 _ _ rfl ji10 rfl rfl Try.underlying66 (.slice none 0 0) 24 info29 rfl (by decide) (by omega) [] (ok := fun _ => True) (okp := fun _ => True) ⟨_, rfl, Kd.R_nil _ _ _ _ _⟩ (fun _ hk => hk) trivial od_ (Nat.le_trans (Nat.mul_le_mul_right _ (od_ : ji10.toNat ≤ 11728124029610)) (by omega)) (Below.refl _ _) (Nat.le_refl _) ?_; intro v289 w21 ho22 hb hg_ hnew_; clear hg_ hnew_; (first | rw [← Ny288.out] at ho22 | (simp only [Int.reduceToNat] at ho22; rw [← Ny288.out] at ho22)); have n0_ := Aside0.mk (Kd.S_lower ho22 (below_size bl_)); have n1_ := Aside0.mk (blk_below (g := gb285) (o := .cells #[.slice none 0 0, .int .i64 0, .int .i64 0] 31 (0, 0)) bk_ hb); have n2_ := Aside0.mk (below_step bl_ hb); clear BK285; clear HB; have HO290 := n0_; have BK285 := n1_; have HB := n2_; clear n0_ n1_ n2_; clear hb ho22) | ((with_reducible refine gate_dst (N := 36) rfl ?_); refine Kd.R_make (Kd.int .i64) _ 3 rfl (N := 36) rfl 29 _ _ rfl ji13 rfl rfl Try.underlying29 (.int .i64 0) 8 info3 rfl (by decide) (by omega) 0 (ok := fun _ => True) (okp := fun _ => True) rfl (fun _ hk => hk) trivial od_ (Nat.le_trans (Nat.mul_le_mul_right _ (od_ : ji13.toNat ≤ 35184372088832)) (by omega)) (Below.refl _ _) (Nat.le_refl _) ?_; intro v292 w23 ho24 hb hg_ hnew_; clear hg_ hnew_; (first | rw [← Ny291.out] at ho24 | (simp only [Int.reduceToNat] at ho24; rw [← Ny291.out] at ho24)); have n0_ := Aside0.mk (Kd.S_elder' (by (with_reducible repeat (first | apply Kd.S_alloc | apply Kd.S_drewN | apply Kd.S_drew)); exact HO290.out) (Kd.R_base ho24) hb); have n1_ := Aside0.mk (Kd.R_lower ho24 (below_size bl_)); have n2_ := Aside0.mk (blk_below (g := gb285) (o := .cells #[.slice none 0 0, .int .i64 0, .int .i64 0] 31 (0, 0)) bk_ hb); have n3_ := Aside0.mk (below_step bl_ hb); clear HO290; clear BK285; clear HB; have HO290 := n0_; have HO293 := n1_; have BK285 := n2_; have HB := n3_; clear n0_ n1_ n2_ n3_; clear hb ho24; have p18 : 0 ≤ ((l0.length : Int) : Int) := od_; have q18 : ((l0.length : Int) : Int) < ((y288.length : Int) : Int) := od_; obtain ⟨go18, co18, eo18, gb18, gl18, cl18, HG18⟩ := Kd.S_form HO290.out (by omega); (first | cases eo18 | (injection eo18 with ea_ en_ ec_; (first | subst ea_ | (injection ea_ with ea_; subst ea_)); subst ec_; clear en_)); have GB18 := Aside0.mk gb18; have GG18 := Aside0.mk HG18; clear gb18 gl18 HG18; obtain ⟨_, ce18, hcl18, hM18, hcc18, hfr18, _, _⟩ := Kd.S_elem HO290.out [] ((l0.length : Int) : Int) p18 q18; obtain ⟨ve18_0, rfl, ge18_0⟩ := hM18; have hx18_0 := hcc18 0 _ rfl; have hf18_0 := hfr18 0; (try simp only [show ((Kd.slice 3 (Kd.int .i64))).sz = 1 from rfl, Nat.mul_one, Nat.add_zero] at hx18_0); (try simp only [show ((Kd.slice 3 (Kd.int .i64))).sz = 1 from rfl, Nat.mul_one, Nat.add_zero] at hf18_0); clear hcl18 hcc18 hfr18; (try clear hM18); replace p18 := eq_true p18; replace q18 := eq_true q18; have n_ := Aside0.mk (Kd.S_mono (ok' := (fun k_ => some k_ ≠ (v292 : Value).ownBlock)) HO290.out (fun k_ hk => hk.2)); clear HO290; have HO290 := n_; clear n_; have HX25 := Aside0.mk (show Kd.S (Kd.slice 3 (Kd.int .i64)) 29 w23 w.heap.size (fun k_ => ((fun _ => True)) k_ ∧ ¬ ((fun k_ => some k_ = (v292 : Value).ownBlock)) k_) (.slice (some ⟨go18, 0, none⟩) y288.length co18) y288 from (by (with_reducible repeat (first | apply Kd.S_alloc | apply Kd.S_drewN | apply Kd.S_drew)); exact Kd.S_mono HO290.out (fun k_ hk => ⟨trivial, fun e_ => hk e_⟩))); obtain ⟨oki25, ce25, hcl25, hM25, hcc25, hfr25, hoki25, hH25⟩ := Kd.S_elem HX25.out [] ((l0.length : Int) : Int) od_ (by have h_ : ((l0.length : Int) : Int) < ((y288.length : Int) : Int) := od_; first | exact h_ | (have e_ := (Kd.S_reads' HO290.out).1; omega) | simpa using h_); obtain ⟨ve25_0, rfl, ge25_0⟩ := hM25; have HP25 := Kd.S_seg hH25 od_ (by have h_ : ((l0.length : Int) : Int) < ((y288.length : Int) : Int) := od_; first | exact h_ | (have e_ := (Kd.S_reads' HO290.out).1; omega) | simpa using h_) (seg := [v292]) (j := 0) (show 1 ≤ 1 from by decide) (x' := y291) (Kd.M_row (Kd.R_mono (Kd.R_tight rfl (Kd.R_mono (ok' := fun k_ => ((fun _ => True)) k_ ∧ k_ ≠ go18) (Kd.R_apart' (HO293.out) (Kd.S_typed HO290.out) (by decide)) (fun k_ hk => ⟨trivial, fun e_ => (hk.2) (by rw [e_]; rfl)⟩))) (fun _ h_ => Or.inr (h_)))) (fun _ hk => hk) (fun k_ hk_ => ((Kd.R_mono (ok' := fun k_ => ((fun _ => True)) k_ ∧ k_ ≠ go18) (Kd.R_apart' (HO293.out) (Kd.S_typed HO290.out) (by decide)) (fun k_ hk => ⟨trivial, fun e_ => (hk.2) (by rw [e_]; rfl)⟩))).1 k_ hk_.symm); have hx25_0 := hcc25 0 _ rfl; (try simp only [show ((Kd.slice 3 (Kd.int .i64))).sz = 1 from rfl, Nat.mul_one, Nat.add_zero] at hx25_0); have hf25_0 := hfr25 0; (try simp only [show ((Kd.slice 3 (Kd.int .i64))).sz = 1 from rfl, Nat.mul_one, Nat.add_zero] at hf25_0); clear hcl25 hcc25 hfr25; (try clear hM25); clear hoki25 hH25; (try simp only [show ((Kd.slice 3 (Kd.int .i64))).sz = 1 from rfl, Nat.mul_one, Nat.add_zero] at HP25)) | ((with_reducible refine gate_store (t := 29) (p := 37) rfl ?_); refine store_event (t := 29) (p := 37) (v := ?vo_w26) (w1 := (w23.setCell ⟨go18, ((l0.length : Int) : Int).toNat, none⟩ (v292))) ?hg ?ho ?hn ?hr ?_; (case ho => rfl); (case hg => rfl); (case hn => rfl); (case hr => (try simp only [Int.toNat_natCast] at hx18_0 hf18_0); first | (go_simp; done) | (go_simp; rfl) | (obtain ⟨A_, c_, e_⟩ := Kd.R_slice HO293.out; subst e_; (first | (go_simp; done) | (go_simp; rfl)))); intro w26 hw; have hg : w23.grownBy w26 (some go18) := (by rw [hw]; exact HP25.2); have hp_ : Kd.S (Kd.slice 3 (Kd.int .i64)) 29 w26 w.heap.size (fun _ => True) (.slice (some ⟨go18, 0, none⟩) y288.length co18) y294 := (by rw [hw, Ny294.out]; exact HP25.1); clear HP25; have n0_ := Aside0.mk (blk_grown (g := gb285) (o := .cells #[.slice none 0 0, .int .i64 0, .int .i64 0] 31 (0, 0)) bk_ hg (Kd.S_ne HO290.out BK285.out (by decide))); have n1_ := Aside0.mk (hp_); have n2_ := Aside0.mk ((by rw [hw]; exact below_set (HB.out) GB18.out : Below w.heap.size w w26)); clear BK285; clear HO290; clear HB; clear HO293; have BK285 := n0_; have HO290 := n1_; have HB := n2_; clear n0_ n1_ n2_; clear hg hw hp_))
 go_loopg [7] k (fun kq v7 w' => ∃ (x6_1 : List (List Int)) (x7_1 : Int), v7 = .int .i64 x7_1 ∧ Aside0 (spec_BestShelf.l0 kq l0 a1 x6_1 x7_1 = some (r1, r2, r3, r4)) ∧ Aside0 (kq ≤ k) ∧ Aside0 (Kd.S (Kd.slice 3 (Kd.int .i64)) 29 w' w.heap.size (fun _ => True) (.slice (some ⟨go18, 0, none⟩) y288.length co18) x6_1) ∧ Aside0 (w'.heap[gb285]? = some (.cells #[(.slice none 0 0), .int .i64 0, .int .i64 0] 31 (0, 0))) ∧ Aside0 (Below w.heap.size w w'))
 case atStart => exact ⟨(y294), (wrap64 ((l0.length : Int) - 1)), (by first | rfl | (simp; done) | (simp [*]; done)), H', ⟨Nat.le_refl _⟩, ⟨by (with_reducible repeat (first | apply Kd.S_alloc | apply Kd.S_drewN | apply Kd.S_drew)); exact HO290.out⟩, ⟨by (with_reducible repeat (first | refine blk_drewN ?_ _ | refine blk_drew ?_ | refine blk_alloc ?_ _)); exact BK285.out⟩, ⟨by repeat (first | (with_reducible first | exact HB.out | apply below_alloc | apply pw_below_drewN | apply below_drew1 | refine below_set ?_ GE285.out) | exact HB.out)⟩⟩
 case round =>
  clear H'
  (try clear c1); (try clear p1); (try clear q1); (try clear hx1); (try clear c2); (try clear p2); (try clear hx2); (try clear hf2); (try clear c3); (try clear c3b0); (try clear c3b1); (try clear p6); (try clear c7); (try clear c8); (try clear c9); (try clear c11); (try clear c11b0); (try clear c11b1); (try clear c12); (try clear c12b0); (try clear c12b1); (try clear c14); (try clear c14b0); (try clear c14b1); (try clear c15); (try clear c15b0); (try clear c15b1); (try clear c16); (try clear c16b0); (try clear c16b1); (try clear c17); (try clear c17b0); (try clear c17b1); (try clear c18); (try clear p18); (try clear q18); (try clear hx18); (try clear hf18); (try clear c23); (try clear c25); (try clear hx25); (try clear hf25); (try clear c26); (try clear hcz5_0); (try clear hcz5_1); (try clear hcz5_2); (try clear hfz5_0); (try clear hfz5_1); (try clear hfz5_2); (try clear hx18_0); (try clear hx25_0)
  obtain ⟨x6_1, x7_1, rfl, HA, HK1, HO_6, BK285, HB⟩ := hrel
  have hl6_1 := (Kd.S_reads' HO_6.out).1
  rw [hl6_1] at HO_6
  (try simp only [hl6_1])
  (try simp only [hl6_1] at BK285)
  cases gk with
  | zero => exact absurd HA.out (by simp [spec_BestShelf.l0])
  | succ k1 =>
   have H := HA.out
   clear HA
   simp only [spec_BestShelf.l0] at H
   by_cases c27 : x7_1 ≥ 0
   ·rw [if_pos c27] at H
    have c27b0 : decide (0 ≤ x7_1) = true := decide_eq_true c27
    clear c27
    replace H : (if 0 ≤ (ji13) then (if (ji13 : Int).toNat ≤ 35184372088832 then (if 0 ≤ x7_1 then (if x7_1 < (x6_1.length : Int) then (spec_BestShelf.l1 k1 l0 a1 (x6_1.set (x7_1 : Int).toNat (List.replicate (ji13 : Int).toNat 0)) x7_1 0) else (none)) else (none)) else (none)) else (none)) = some (r1, r2, r3, r4) := by first | (rw [hji13] at H; exact H) | (simp only [hji13] at H ⊢; exact H)

    by_cases c29 : 0 ≤ (ji13)
    rotate_left
    ·rw [if_neg c29] at H
     exact absurd H (by simp)
    rw [if_pos c29] at H
    have c29b0 := eq_true c29
    have c29b1 : decide (0 ≤ (ji13)) = true := decide_eq_true c29
    clear c29
    by_cases c30 : (ji13 : Int).toNat ≤ 35184372088832
    rotate_left
    ·rw [if_neg c30] at H
     exact absurd H (by simp)
    rw [if_pos c30] at H
    have c30b0 := eq_true c30
    have c30b1 : decide ((ji13 : Int).toNat ≤ 35184372088832) = true := decide_eq_true c30
    clear c30
    obtain ⟨y295, hy295⟩ : ∃ y_ : List Int, y_ = (List.replicate (ji13 : Int).toNat 0) := ⟨_, rfl⟩
    replace H : (if 0 ≤ x7_1 then (if x7_1 < (x6_1.length : Int) then (spec_BestShelf.l1 k1 l0 a1 (x6_1.set (x7_1 : Int).toNat y295) x7_1 0) else (none)) else (none)) = some (r1, r2, r3, r4) := by first | (rw [hy295]; with_reducible exact H) | (have H2_ := (Option.bind_some _ _).symm.trans H; rw [hy295]; with_reducible exact H2_) | (have H2_ := (Option.bind_some _ _).symm.trans H; with_reducible exact H2_) | with_reducible exact H | (rw [hy295]; exact H) | exact H
    have Ny295 := Aside0.mk hy295
    clear hy295
    by_cases c31 : 0 ≤ x7_1
    rotate_left
    ·rw [if_neg c31] at H
     exact absurd H (by simp)
    rw [if_pos c31] at H
    have c31b0 : decide (0 ≤ x7_1) = true := decide_eq_true c31
    clear c31
    by_cases c32 : x7_1 < (x6_1.length : Int)
    rotate_left
    ·rw [if_neg c32] at H
     exact absurd H (by simp)
    rw [if_pos c32] at H
    have c32b0 : decide (x7_1 < (x6_1.length : Int)) = true := decide_eq_true c32
    clear c32
    obtain ⟨y298, hy298⟩ : ∃ y_ : List (List Int), y_ = (x6_1.set (x7_1 : Int).toNat y295) := ⟨_, rfl⟩
    replace H : (spec_BestShelf.l1 k1 l0 a1 y298 x7_1 0) = some (r1, r2, r3, r4) := by first | (rw [hy298]; with_reducible exact H) | (have H2_ := (Option.bind_some _ _).symm.trans H; rw [hy298]; with_reducible exact H2_) | (have H2_ := (Option.bind_some _ _).symm.trans H; with_reducible exact H2_) | with_reducible exact H | (rw [hy298]; exact H) | exact H
    have Ny298 := Aside0.mk hy298
    clear hy298
    have H' := Aside0.mk H
    clear H
    go_wp2_with (first | ((with_reducible refine gate_dst (N := 49) rfl ?_); refine Kd.R_make (Kd.int .i64) _ 3 rfl (N := 49) rfl 29 _ _ rfl ji13 rfl rfl Try.underlying29 (.int .i64 0) 8 info3 rfl (by decide) (by omega) 0 (ok := fun _ => True) (okp := fun _ => True) rfl (fun _ hk => hk) trivial od_ (Nat.le_trans (Nat.mul_le_mul_right _ (od_ : ji13.toNat ≤ 35184372088832)) (by omega)) (Below.refl _ _) (Nat.le_refl _) ?_; intro v296 w34 ho35 hb hg_ hnew_; clear hg_ hnew_; (first | rw [← Ny295.out] at ho35 | (simp only [Int.reduceToNat] at ho35; rw [← Ny295.out] at ho35)); have n0_ := Aside0.mk (Kd.S_elder' (by (with_reducible repeat (first | apply Kd.S_alloc | apply Kd.S_drewN | apply Kd.S_drew)); exact HO_6.out) (Kd.R_base ho35) hb); have n1_ := Aside0.mk (Kd.R_lower ho35 (below_size bl_)); have n2_ := Aside0.mk (blk_below (g := gb285) (o := .cells #[.slice none 0 0, .int .i64 0, .int .i64 0] 31 (0, 0)) bk_ hb); have n3_ := Aside0.mk (below_step bl_ hb); clear HO_6; clear BK285; clear HB; have HO_6 := n0_; have HO297 := n1_; have BK285 := n2_; have HB := n3_; clear n0_ n1_ n2_ n3_; clear hb ho35; have p33 : 0 ≤ (x7_1 : Int) := od_; have q33 : (x7_1 : Int) < ((x6_1.length : Int) : Int) := od_; obtain ⟨_, ce33, hcl33, hM33, hcc33, hfr33, _, _⟩ := Kd.S_elem HO_6.out [] (x7_1 : Int) p33 q33; obtain ⟨ve33_0, rfl, ge33_0⟩ := hM33; have hx33_0 := hcc33 0 _ rfl; have hf33_0 := hfr33 0; (try simp only [show ((Kd.slice 3 (Kd.int .i64))).sz = 1 from rfl, Nat.mul_one, Nat.add_zero] at hx33_0); (try simp only [show ((Kd.slice 3 (Kd.int .i64))).sz = 1 from rfl, Nat.mul_one, Nat.add_zero] at hf33_0); clear hcl33 hcc33 hfr33; (try clear hM33); replace p33 := eq_true p33; replace q33 := eq_true q33; have n_ := Aside0.mk (Kd.S_mono (ok' := (fun k_ => some k_ ≠ (v296 : Value).ownBlock)) HO_6.out (fun k_ hk => hk.2)); clear HO_6; have HO_6 := n_; clear n_; have HX36 := Aside0.mk (show Kd.S (Kd.slice 3 (Kd.int .i64)) 29 w34 w.heap.size (fun k_ => ((fun _ => True)) k_ ∧ ¬ ((fun k_ => some k_ = (v296 : Value).ownBlock)) k_) (.slice (some ⟨go18, 0, none⟩) x6_1.length co18) x6_1 from (by (with_reducible repeat (first | apply Kd.S_alloc | apply Kd.S_drewN | apply Kd.S_drew)); exact Kd.S_mono HO_6.out (fun k_ hk => ⟨trivial, fun e_ => hk e_⟩))); obtain ⟨oki36, ce36, hcl36, hM36, hcc36, hfr36, hoki36, hH36⟩ := Kd.S_elem HX36.out [] (x7_1 : Int) od_ (by have h_ : (x7_1 : Int) < ((x6_1.length : Int) : Int) := od_; first | exact h_ | (have e_ := (Kd.S_reads' HO_6.out).1; omega) | simpa using h_); obtain ⟨ve36_0, rfl, ge36_0⟩ := hM36; have HP36 := Kd.S_seg hH36 od_ (by have h_ : (x7_1 : Int) < ((x6_1.length : Int) : Int) := od_; first | exact h_ | (have e_ := (Kd.S_reads' HO_6.out).1; omega) | simpa using h_) (seg := [v296]) (j := 0) (show 1 ≤ 1 from by decide) (x' := y295) (Kd.M_row (Kd.R_mono (Kd.R_tight rfl (Kd.R_mono (ok' := fun k_ => ((fun _ => True)) k_ ∧ k_ ≠ go18) (Kd.R_apart' (HO297.out) (Kd.S_typed HO_6.out) (by decide)) (fun k_ hk => ⟨trivial, fun e_ => (hk.2) (by rw [e_]; rfl)⟩))) (fun _ h_ => Or.inr (h_)))) (fun _ hk => hk) (fun k_ hk_ => ((Kd.R_mono (ok' := fun k_ => ((fun _ => True)) k_ ∧ k_ ≠ go18) (Kd.R_apart' (HO297.out) (Kd.S_typed HO_6.out) (by decide)) (fun k_ hk => ⟨trivial, fun e_ => (hk.2) (by rw [e_]; rfl)⟩))).1 k_ hk_.symm); have hx36_0 := hcc36 0 _ rfl; (try simp only [show ((Kd.slice 3 (Kd.int .i64))).sz = 1 from rfl, Nat.mul_one, Nat.add_zero] at hx36_0); have hf36_0 := hfr36 0; (try simp only [show ((Kd.slice 3 (Kd.int .i64))).sz = 1 from rfl, Nat.mul_one, Nat.add_zero] at hf36_0); clear hcl36 hcc36 hfr36; (try clear hM36); clear hoki36 hH36; (try simp only [show ((Kd.slice 3 (Kd.int .i64))).sz = 1 from rfl, Nat.mul_one, Nat.add_zero] at HP36)) | ((with_reducible refine gate_store (t := 29) (p := 50) rfl ?_); refine store_event (t := 29) (p := 50) (v := ?vo_w37) (w1 := (w34.setCell ⟨go18, (x7_1 : Int).toNat, none⟩ (v296))) ?hg ?ho ?hn ?hr ?_; (case ho => rfl); (case hg => rfl); (case hn => rfl); (case hr => first | (go_simp; done) | (go_simp; rfl) | (obtain ⟨A_, c_, e_⟩ := Kd.R_slice HO297.out; subst e_; (first | (go_simp; done) | (go_simp; rfl)))); intro w37 hw; have hg : w34.grownBy w37 (some go18) := (by rw [hw]; exact HP36.2); have hp_ : Kd.S (Kd.slice 3 (Kd.int .i64)) 29 w37 w.heap.size (fun _ => True) (.slice (some ⟨go18, 0, none⟩) x6_1.length co18) y298 := (by rw [hw, Ny298.out]; exact HP36.1); clear HP36; have n0_ := Aside0.mk (hp_); have n1_ := Aside0.mk (blk_grown (g := gb285) (o := .cells #[.slice none 0 0, .int .i64 0, .int .i64 0] 31 (0, 0)) bk_ hg (Kd.S_ne HO_6.out BK285.out (by decide))); have n2_ := Aside0.mk ((by rw [hw]; exact below_set (HB.out) GB18.out : Below w.heap.size w w37)); clear HO_6; clear BK285; clear HB; clear HO297; have HO_6 := n0_; have BK285 := n1_; have HB := n2_; clear n0_ n1_ n2_; clear hg hw hp_))
    go_loopg [8] k1 (fun kq v8 w' => ∃ (x6_2 : List (List Int)) (x8_2 : Int), v8 = .int .i64 x8_2 ∧ Aside0 (spec_BestShelf.l1 kq l0 a1 x6_2 x7_1 x8_2 = some (r1, r2, r3, r4)) ∧ Aside0 (kq ≤ k1) ∧ Aside0 (Kd.S (Kd.slice 3 (Kd.int .i64)) 29 w' w.heap.size (fun _ => True) (.slice (some ⟨go18, 0, none⟩) x6_1.length co18) x6_2) ∧ Aside0 (w'.heap[gb285]? = some (.cells #[(.slice none 0 0), .int .i64 0, .int .i64 0] 31 (0, 0))) ∧ Aside0 (Below w.heap.size w w'))
    case atStart => exact ⟨(y298), (0), (by first | rfl | (simp; done) | (simp [*]; done)), H', ⟨Nat.le_refl _⟩, ⟨by (try simp only [hl6_1]); (with_reducible repeat (first | apply Kd.S_alloc | apply Kd.S_drewN | apply Kd.S_drew)); exact HO_6.out⟩, ⟨by (try simp only [hl6_1]); (with_reducible repeat (first | refine blk_drewN ?_ _ | refine blk_drew ?_ | refine blk_alloc ?_ _)); exact BK285.out⟩, ⟨by repeat (first | (with_reducible first | exact HB.out | apply below_alloc | apply pw_below_drewN | apply below_drew1 | refine below_set ?_ GE285.out) | exact HB.out)⟩⟩
    case round =>
     clear H'
     (try clear p3); (try clear q3); (try clear hx3); (try clear hf3); (try clear c27); (try clear c27b0); (try clear c29); (try clear c29b0); (try clear c29b1); (try clear c30); (try clear c30b0); (try clear c30b1); (try clear c31); (try clear c31b0); (try clear c32); (try clear c32b0); (try clear c33); (try clear p33); (try clear q33); (try clear hx33); (try clear hf33); (try clear c36); (try clear hx36); (try clear hf36); (try clear hx33_0); (try clear hx36_0)
     obtain ⟨x6_2, x8_2, rfl, HA, HK2, HO_6, BK285, HB⟩ := hrel
     have hl6_2 := (Kd.S_reads' HO_6.out).1
     rw [hl6_2] at HO_6
     (try simp only [hl6_2])
     (try simp only [hl6_2] at BK285)
     cases gk with
     | zero => exact absurd HA.out (by simp [spec_BestShelf.l1])
     | succ k2 =>
      have H := HA.out
      clear HA
      simp only [spec_BestShelf.l1] at H
      by_cases c38 : x8_2 ≤ a1
      rotate_left
      ·rw [if_neg c38] at H
       have c38b0 : decide (x8_2 ≤ a1) = false := decide_eq_false c38
       clear c38
       as_aux_lemma =>
        have H' := Aside0.mk H
        clear H
        go_wp2
        (try simp only [← hl6_1, ← hl6_2])
        go_roundg k2
        case measure => have := HK1.out; have := HK2.out; omega
        case rel => exact ⟨(x6_2), (wrap64 (x7_1 - 1)), (by first | rfl | (simp; done) | (simp [*]; done)), H', ⟨by have := HK1.out; have := HK2.out; omega⟩, ⟨by (try simp only [hl6_1]); (try simp only [hl6_2]); (with_reducible repeat (first | apply Kd.S_alloc | apply Kd.S_drewN | apply Kd.S_drew)); exact HO_6.out⟩, ⟨by (try simp only [hl6_1]); (try simp only [hl6_2]); (with_reducible repeat (first | refine blk_drewN ?_ _ | refine blk_drew ?_ | refine blk_alloc ?_ _)); exact BK285.out⟩, ⟨by repeat (first | (with_reducible first | exact HB.out | apply below_alloc | apply pw_below_drewN | apply below_drew1 | refine below_set ?_ GE285.out) | exact HB.out)⟩⟩
      rw [if_pos c38] at H
      have c38b0 : decide (x8_2 ≤ a1) = true := decide_eq_true c38
      clear c38
      by_cases c39 : 0 ≤ x7_1
      rotate_left
      ·rw [if_neg c39] at H
       exact absurd H (by simp)
      rw [if_pos c39] at H
      have c39b0 : decide (0 ≤ x7_1) = true := decide_eq_true c39
      clear c39
      by_cases c40 : x7_1 < (x6_2.length : Int)
      rotate_left
      ·rw [if_neg c40] at H
       exact absurd H (by simp)
      rw [if_pos c40] at H
      have c40b0 : decide (x7_1 < (x6_2.length : Int)) = true := decide_eq_true c40
      clear c40
      by_cases c41 : 0 ≤ x8_2
      rotate_left
      ·rw [if_neg c41] at H
       exact absurd H (by simp)
      rw [if_pos c41] at H
      have c41b0 : decide (0 ≤ x8_2) = true := decide_eq_true c41
      clear c41
      by_cases c42 : x8_2 < ((rd_L2 x6_2 x7_1).length : Int)
      rotate_left
      ·rw [if_neg c42] at H
       exact absurd H (by simp)
      rw [if_pos c42] at H
      have c42b0 : decide (x8_2 < ((rd_L2 x6_2 x7_1).length : Int)) = true := decide_eq_true c42
      clear c42
      obtain ⟨y300, hy300⟩ : ∃ y_ : List Int, y_ = ((rd_L2 x6_2 x7_1).set (x8_2 : Int).toNat (-1)) := ⟨_, rfl⟩
      replace H : (if x7_1 < (l0.length : Int) then (spec_BestShelf.l2 k2 l0 a1 (x6_2.set (x7_1 : Int).toNat y300) x7_1 x8_2 ((rd_T50 l0 x7_1).f2)) else (none)) = some (r1, r2, r3, r4) := by first | (rw [hy300]; with_reducible exact H) | (have H2_ := (Option.bind_some _ _).symm.trans H; rw [hy300]; with_reducible exact H2_) | (have H2_ := (Option.bind_some _ _).symm.trans H; with_reducible exact H2_) | with_reducible exact H | (rw [hy300]; exact H) | exact H
      have Ny300 := Aside0.mk hy300
      clear hy300
      obtain ⟨y302, hy302⟩ : ∃ y_ : List (List Int), y_ = (x6_2.set (x7_1 : Int).toNat y300) := ⟨_, rfl⟩
      replace H : (if x7_1 < (l0.length : Int) then (spec_BestShelf.l2 k2 l0 a1 y302 x7_1 x8_2 ((rd_T50 l0 x7_1).f2)) else (none)) = some (r1, r2, r3, r4) := by first | (rw [hy302]; with_reducible exact H) | (have H2_ := (Option.bind_some _ _).symm.trans H; rw [hy302]; with_reducible exact H2_) | (have H2_ := (Option.bind_some _ _).symm.trans H; with_reducible exact H2_) | with_reducible exact H | (rw [hy302]; exact H) | exact H
      have Ny302 := Aside0.mk hy302
      clear hy302
      by_cases c44 : x7_1 < (l0.length : Int)
      rotate_left
      ·rw [if_neg c44] at H
       exact absurd H (by simp)
      rw [if_pos c44] at H
      have c44b0 : decide (x7_1 < (l0.length : Int)) = true := decide_eq_true c44
      clear c44
      have H' := Aside0.mk H
      clear H
      have p299 : 0 ≤ (x7_1 : Int) := od_
      have q299 : x7_1 < (x6_2.length : Int) := od_
      obtain ⟨ad299, A299_0, c299_0, e299, hx299_0, hl299_0, hi299_0⟩ := at_L2 (Kd.S_reads' HO_6.out).2.2 x7_1 p299 q299
      obtain rfl : (⟨go18, 0, none⟩ : Addr) = ad299 := (by injection e299)
      obtain ⟨ce299, hce299, hMe299, hcc299⟩ := Kd.S_get HO_6.out [] x7_1 p299 (by first | exact q299 | exact od_ | (have e_ := (Kd.S_reads' HO_6.out).1; omega))
      obtain ⟨ve299_0, rfl, ge299_0⟩ := hMe299
      have hv299_0 := hcc299 0 _ rfl
      rw [Nat.add_zero, show ((Kd.slice 3 (Kd.int .i64))).sz = 1 from rfl, Nat.mul_one] at hv299_0
      replace hv299_0 := Option.some.inj (hv299_0.symm.trans hx299_0)
      rw [hv299_0] at ge299_0
      have HL299_0 := Aside0.mk (show Kd.R (Kd.int .i64) 3 _ _ _ _ (rd_L2 x6_2 x7_1) from ge299_0)
      clear hv299_0 ge299_0
      have HX299_0 := Aside0.mk hx299_0
      clear hcc299 hce299
      (first | simp only [add_plain] at hx299_0 | simp only [add_at] at hx299_0 | simp only [Addr.add, Nat.zero_add] at hx299_0 | skip)
      have HR299_0 := Aside0.mk hi299_0
      have HC299_0 := Aside0.mk hl299_0
      clear hi299_0 hl299_0
      replace p299 := eq_true p299
      replace q299 := eq_true q299
      have p43 : 0 ≤ (x8_2 : Int) := od_
      have q43 : (x8_2 : Int) < (((rd_L2 x6_2 x7_1).length : Int) : Int) := od_
      obtain ⟨go43, co43, eo43, gb43, gl43, cl43, HG43⟩ := Kd.R_form HL299_0.out (by omega)
      (first | cases eo43 | (injection eo43 with ea_ en_ ec_; (first | subst ea_ | (injection ea_ with ea_; subst ea_)); subst ec_; clear en_))
      have GB43 := Aside0.mk gb43
      have GG43 := Aside0.mk HG43
      clear gb43 gl43 HG43
      obtain ⟨hx43_0, hf43_0⟩ := Kd.R_celln 0 HL299_0.out (x8_2 : Int) p43 q43
      replace p43 := eq_true p43
      replace q43 := eq_true q43
      have hq45 : (x7_1 : Int) < (x6_2.length : Int) := (by have h_ : (x7_1 : Int) < ((x6_2.length : Int) : Int) := od_; first | exact h_ | (have e_ := (Kd.S_reads' HO_6.out).1; omega) | simpa only [List.length_set, List.length_set] using h_)
      obtain ⟨oki45, ce45, hcl45, hM45, hcc45, hok45, hbk45⟩ := Kd.S_borrow HO_6.out [] (x7_1 : Int) od_ hq45
      obtain ⟨ve45_0, rfl, ge45_0⟩ := hM45
      have hv45 := hcc45 0 _ rfl
      rw [Nat.add_zero, show ((Kd.slice 3 (Kd.int .i64))).sz = 1 from rfl, Nat.mul_one] at hv45
      replace hv45 := Option.some.inj (hv45.symm.trans HX299_0.out)
      subst hv45
      clear hcc45 hcl45
      replace ge45_0 := (show Kd.R (Kd.int .i64) 3 _ _ _ _ (rd_L2 x6_2 x7_1) from ge45_0)
      have HP45 := Kd.R_putg ge45_0 (x8_2 : Int) (-1)
      go_wp2_with (first | ((with_reducible refine gate_store (t := 3) (p := 61) rfl ?_); refine store_event (t := 3) (p := 61) (v := ?vo_w46) (w1 := (wr.setCell ⟨go43, (x8_2 : Int).toNat, none⟩ (.int .i64 (-1)))) ?hg ?ho ?hn ?hr ?_; (case ho => rfl); (case hg => rfl); (case hn => rfl); (case hr => first | (go_simp; done) | (go_simp; rfl)); intro w46 hw; have hg : wr.grownBy w46 (some go43) := (by rw [hw]; exact HP45.2); have hz_ : Kd.R (Kd.int .i64) 3 w46 w.heap.size oki45 (.slice (some ⟨go43, 0, none⟩) (rd_L2 x6_2 x7_1).length c299_0) y300 := (by rw [hw, Ny300.out]; exact HP45.1); have hp_ : Kd.S (Kd.slice 3 (Kd.int .i64)) 29 w46 w.heap.size (fun _ => True) (.slice (some ⟨go18, 0, none⟩) x6_2.length co18) y302 := (by rw [Ny302.out]; exact hbk45 hg (fun k_ e_ => by injection e_ with e_; subst e_; exact ge45_0.1 _ rfl) (Kd.M_row hz_)); have hm_ := Kd.R_mono hz_ hok45; clear HP45 hbk45; have n0_ := Aside0.mk (hp_); have n1_ := Aside0.mk (blk_grown (g := gb285) (o := .cells #[.slice none 0 0, .int .i64 0, .int .i64 0] 31 (0, 0)) bk_ hg (Kd.R_ne HL299_0.out BK285.out (by decide))); have n2_ := Aside0.mk ((by rw [hw]; exact below_set (HB.out) GB43.out : Below w.heap.size w w46)); have n3_ := Aside0.mk (hm_); have n4_ := Aside0.mk ((Kd.R_reads' hm_).2.1); clear HO_6; clear BK285; clear HB; clear HL299_0; have HO_6 := n0_; have BK285 := n1_; have HB := n2_; have HL344 := n3_; have HC301 := n4_; clear n0_ n1_ n2_ n3_ n4_; clear hg hw hp_ hz_ hm_ hok45; have p303 : 0 ≤ (x7_1 : Int) := od_; have q303 : x7_1 < (l0.length : Int) := od_; obtain ⟨ad303, A303_3, c303_3, e303, hx303_0, hx303_1, hx303_2, hx303_3, hl303_3, hi303_3⟩ := at_T50 HR0.out x7_1 p303 q303; cases e303; replace hx303_0 := (HB.out.cell (World.block_lt_of_cell? w _ hx303_0)).trans hx303_0; replace hx303_1 := (HB.out.cell (World.block_lt_of_cell? w _ hx303_1)).trans hx303_1; replace hx303_2 := (HB.out.cell (World.block_lt_of_cell? w _ hx303_2)).trans hx303_2; replace hx303_3 := (HB.out.cell (World.block_lt_of_cell? w _ hx303_3)).trans hx303_3; have HR303_3 := Aside0.mk hi303_3; have HC303_3 := Aside0.mk hl303_3; clear hi303_3 hl303_3; replace p303 := eq_true p303; replace q303 := eq_true q303))
      go_loopg [9] k2 (fun kq v9 w' => ∃ (x6_3 : List (List Int)) (x9_3 : Int), v9 = .int .i64 x9_3 ∧ Aside0 (spec_BestShelf.l2 kq l0 a1 x6_3 x7_1 x8_2 x9_3 = some (r1, r2, r3, r4)) ∧ Aside0 (kq ≤ k2) ∧ Aside0 (Kd.S (Kd.slice 3 (Kd.int .i64)) 29 w' w.heap.size (fun _ => True) (.slice (some ⟨go18, 0, none⟩) x6_2.length co18) x6_3) ∧ Aside0 (w'.heap[gb285]? = some (.cells #[(.slice none 0 0), .int .i64 0, .int .i64 0] 31 (0, 0))) ∧ Aside0 (Below w.heap.size w w'))
      case atStart => exact ⟨(y302), ((rd_T50 l0 x7_1).f2), (by first | rfl | (simp; done) | (simp [*]; done)), H', ⟨Nat.le_refl _⟩, ⟨by (try simp only [hl6_1]); (try simp only [hl6_2]); (with_reducible repeat (first | apply Kd.S_alloc | apply Kd.S_drewN | apply Kd.S_drew)); exact HO_6.out⟩, ⟨by (try simp only [hl6_1]); (try simp only [hl6_2]); (with_reducible repeat (first | refine blk_drewN ?_ _ | refine blk_drew ?_ | refine blk_alloc ?_ _)); exact BK285.out⟩, ⟨by repeat (first | (with_reducible first | exact HB.out | apply below_alloc | apply pw_below_drewN | apply below_drew1 | refine below_set ?_ GE285.out) | exact HB.out)⟩⟩
      case round =>
       clear H'
       (try clear q2); (try clear c4); (try clear p4); (try clear q4); (try clear hx4); (try clear hf4); (try clear p29); (try clear q29); (try clear hx29); (try clear p30); (try clear q30); (try clear hx30); (try clear c38); (try clear c38b0); (try clear c39); (try clear c39b0); (try clear c40); (try clear c40b0); (try clear c41); (try clear c41b0); (try clear c42); (try clear c42b0); (try clear p43); (try clear q43); (try clear hx43); (try clear hf43); (try clear c44); (try clear c44b0); (try clear c45); (try clear q45); (try clear hx299_0); (try clear hx303_0); (try clear hx303_1); (try clear hx303_2); (try clear hx303_3); (try clear hx43_0); (try clear p299); (try clear p303); (try clear q299); (try clear q303)
       obtain ⟨x6_3, x9_3, rfl, HA, HK3, HO_6, BK285, HB⟩ := hrel
       have hl6_3 := (Kd.S_reads' HO_6.out).1
       rw [hl6_3] at HO_6
       (try simp only [hl6_3])
       (try simp only [hl6_3] at BK285)
       cases gk with
       | zero => exact absurd HA.out (by simp [spec_BestShelf.l2])
       | succ k3 =>
        have H := HA.out
        clear HA
        simp only [spec_BestShelf.l2] at H
        have HC47 := Aside0.mk H
        clear H
        go_upto_region 18 with (fail)
        go_cut [85] (fun v85 wc => ∃ (kq : Nat) (x85_46 : Bool), v85 = .bool x85_46 ∧ Aside0 (spec_BestShelf.j3 kq l0 a1 x6_3 x7_1 x8_2 x9_3 x85_46 = some (r1, r2, r3, r4)) ∧ Aside0 (kq ≤ k3) ∧ Aside0 (Kd.S (Kd.slice 3 (Kd.int .i64)) 29 wc w.heap.size (fun _ => True) (.slice (some ⟨go18, 0, none⟩) x6_3.length co18) x6_3) ∧ Aside0 (wc.heap[gb285]? = some (.cells #[(.slice none 0 0), .int .i64 0, .int .i64 0] 31 (0, 0))) ∧ Aside0 (Below w.heap.size w wc))
        case first =>
         have H := HC47.out
         clear HC47
         by_cases c48 : 0 ≤ x7_1
         rotate_left
         ·rw [if_neg c48] at H
          exact absurd H (by simp)
         rw [if_pos c48] at H
         have c48b0 : decide (0 ≤ x7_1) = true := decide_eq_true c48
         clear c48
         (first | rw [c48b0] | (simp only [i64_w, i32_w]; rw [c48b0]) | skip)
         by_cases c49 : x7_1 < (l0.length : Int)
         rotate_left
         ·rw [if_neg c49] at H
          exact absurd H (by simp)
         rw [if_pos c49] at H
         have c49b0 : decide (x7_1 < (l0.length : Int)) = true := decide_eq_true c49
         clear c49
         by_cases c50 : x9_3 ≤ (((rd_T50 l0 x7_1).f3).length : Int)
         rotate_left
         ·rw [if_neg c50] at H
          have c50b0 : decide (x9_3 ≤ (((rd_T50 l0 x7_1).f3).length : Int)) = false := decide_eq_false c50
          clear c50
          as_aux_lemma =>
           have H' := Aside0.mk H
           clear H
           have p304 : 0 ≤ (x7_1 : Int) := od_
           have q304 : x7_1 < (l0.length : Int) := od_
           obtain ⟨ad304, A304_3, c304_3, e304, hx304_0, hx304_1, hx304_2, hx304_3, hl304_3, hi304_3⟩ := at_T50 HR0.out x7_1 p304 q304
           obtain rfl : ad303 = ad304 := (by injection e304)
           replace hx304_0 := (HB.out.cell (World.block_lt_of_cell? w _ hx304_0)).trans hx304_0
           replace hx304_1 := (HB.out.cell (World.block_lt_of_cell? w _ hx304_1)).trans hx304_1
           replace hx304_2 := (HB.out.cell (World.block_lt_of_cell? w _ hx304_2)).trans hx304_2
           replace hx304_3 := (HB.out.cell (World.block_lt_of_cell? w _ hx304_3)).trans hx304_3
           have HR304_3 := Aside0.mk hi304_3
           have HC304_3 := Aside0.mk hl304_3
           clear hi304_3 hl304_3
           replace p304 := eq_true p304
           replace q304 := eq_true q304
           go_wp2
           go_meet
           case rel => exact ⟨_, (false), (by first | rfl | (simp; done) | (simp [*]; done)), H', ⟨by have := HK1.out; have := HK2.out; have := HK3.out; first | omega | exact Nat.le_refl _⟩, ⟨by (try simp only [hl6_1]); (try simp only [hl6_2]); (try simp only [hl6_3]); (with_reducible repeat (first | apply Kd.S_alloc | apply Kd.S_drewN | apply Kd.S_drew)); exact HO_6.out⟩, ⟨by (try simp only [hl6_1]); (try simp only [hl6_2]); (try simp only [hl6_3]); (with_reducible repeat (first | refine blk_drewN ?_ _ | refine blk_drew ?_ | refine blk_alloc ?_ _)); exact BK285.out⟩, ⟨by repeat (first | (with_reducible first | exact HB.out | apply below_alloc | apply pw_below_drewN | apply below_drew1 | refine below_set ?_ GE285.out) | exact HB.out)⟩⟩
         rw [if_pos c50] at H
         have c50b0 : decide (x9_3 ≤ (((rd_T50 l0 x7_1).f3).length : Int)) = true := decide_eq_true c50
         clear c50
         as_aux_lemma =>
          have H' := Aside0.mk H
          clear H
          have p304 : 0 ≤ (x7_1 : Int) := od_
          have q304 : x7_1 < (l0.length : Int) := od_
          obtain ⟨ad304, A304_3, c304_3, e304, hx304_0, hx304_1, hx304_2, hx304_3, hl304_3, hi304_3⟩ := at_T50 HR0.out x7_1 p304 q304
          obtain rfl : ad303 = ad304 := (by injection e304)
          replace hx304_0 := (HB.out.cell (World.block_lt_of_cell? w _ hx304_0)).trans hx304_0
          replace hx304_1 := (HB.out.cell (World.block_lt_of_cell? w _ hx304_1)).trans hx304_1
          replace hx304_2 := (HB.out.cell (World.block_lt_of_cell? w _ hx304_2)).trans hx304_2
          replace hx304_3 := (HB.out.cell (World.block_lt_of_cell? w _ hx304_3)).trans hx304_3
          have HR304_3 := Aside0.mk hi304_3
          have HC304_3 := Aside0.mk hl304_3
          clear hi304_3 hl304_3
          replace p304 := eq_true p304
          replace q304 := eq_true q304
          have p305 : 0 ≤ (x7_1 : Int) := od_
          have q305 : x7_1 < (l0.length : Int) := od_
          obtain ⟨ad305, A305_3, c305_3, e305, hx305_0, hx305_1, hx305_2, hx305_3, hl305_3, hi305_3⟩ := at_T50 HR0.out x7_1 p305 q305
          obtain rfl : ad303 = ad305 := (by injection e305)
          replace hx305_0 := (HB.out.cell (World.block_lt_of_cell? w _ hx305_0)).trans hx305_0
          replace hx305_1 := (HB.out.cell (World.block_lt_of_cell? w _ hx305_1)).trans hx305_1
          replace hx305_2 := (HB.out.cell (World.block_lt_of_cell? w _ hx305_2)).trans hx305_2
          replace hx305_3 := (HB.out.cell (World.block_lt_of_cell? w _ hx305_3)).trans hx305_3
          have HR305_3 := Aside0.mk hi305_3
          have HC305_3 := Aside0.mk hl305_3
          clear hi305_3 hl305_3
          replace p305 := eq_true p305
          replace q305 := eq_true q305
          have ea_ := Option.some.inj (hx304_3.symm.trans hx305_3)
          injection ea_ with ea_ en_ ec_
          subst ea_
          subst ec_
          clear en_
          go_wp2
          go_meet
          case rel => exact ⟨_, (decide ((wrap64 (x9_3 * ((rd_T50 l0 x7_1).f1))) ≤ x8_2)), (by first | rfl | (simp; done) | (simp [*]; done)), H', ⟨by have := HK1.out; have := HK2.out; have := HK3.out; first | omega | exact Nat.le_refl _⟩, ⟨by (try simp only [hl6_1]); (try simp only [hl6_2]); (try simp only [hl6_3]); (with_reducible repeat (first | apply Kd.S_alloc | apply Kd.S_drewN | apply Kd.S_drew)); exact HO_6.out⟩, ⟨by (try simp only [hl6_1]); (try simp only [hl6_2]); (try simp only [hl6_3]); (with_reducible repeat (first | refine blk_drewN ?_ _ | refine blk_drew ?_ | refine blk_alloc ?_ _)); exact BK285.out⟩, ⟨by repeat (first | (with_reducible first | exact HB.out | apply below_alloc | apply pw_below_drewN | apply below_drew1 | refine below_set ?_ GE285.out) | exact HB.out)⟩⟩
        case rest =>
         clear HC47
         (try clear c5); (try clear c48); (try clear c48b0); (try clear c49); (try clear c49b0); (try clear c50); (try clear c50b0); (try clear hx304_0); (try clear hx304_1); (try clear hx304_2); (try clear hx304_3); (try clear hx305_0); (try clear hx305_1); (try clear hx305_2); (try clear hx305_3); (try clear p304); (try clear p305); (try clear q304); (try clear q305)
         obtain ⟨kq, x85_46, rfl, HA, HJ46, HO_6, BK285, HB⟩ := hcut
         cases kq with
         | zero => exact absurd HA.out (by simp [spec_BestShelf.j3])
         | succ kj46 =>
          have H := HA.out
          clear HA
          simp only [spec_BestShelf.j3] at H
          by_cases c51 : x85_46 = true
          rotate_left
          ·replace c51 := Bool.eq_false_iff.mpr c51
           subst c51
           have H1 : (spec_BestShelf.l1 kj46 l0 a1 x6_3 x7_1 (wrap64 (x8_2 + 1))) = some (r1, r2, r3, r4) := by rw [if_neg (show ¬ (false = true) by decide)] at H; exact H
           clear H
           have H := H1
           clear H1
           as_aux_lemma =>
            have H' := Aside0.mk H
            clear H
            go_wp2
            (try simp only [← hl6_2, ← hl6_3])
            go_roundg kj46
            case measure => have := HK1.out; have := HK2.out; have := HK3.out; have := HJ46.out; omega
            case rel => exact ⟨(x6_3), (wrap64 (x8_2 + 1)), (by first | rfl | (simp; done) | (simp [*]; done)), H', ⟨by have := HK1.out; have := HK2.out; have := HK3.out; have := HJ46.out; omega⟩, ⟨by (try simp only [hl6_1]); (try simp only [hl6_2]); (try simp only [hl6_3]); (with_reducible repeat (first | apply Kd.S_alloc | apply Kd.S_drewN | apply Kd.S_drew)); exact HO_6.out⟩, ⟨by (try simp only [hl6_1]); (try simp only [hl6_2]); (try simp only [hl6_3]); (with_reducible repeat (first | refine blk_drewN ?_ _ | refine blk_drew ?_ | refine blk_alloc ?_ _)); exact BK285.out⟩, ⟨by repeat (first | (with_reducible first | exact HB.out | apply below_alloc | apply pw_below_drewN | apply below_drew1 | refine below_set ?_ GE285.out) | exact HB.out)⟩⟩
          subst c51
          have H1 : (if 0 ≤ (wrap64 (x7_1 + 1)) then (if (wrap64 (x7_1 + 1)) < (x6_3.length : Int) then (if 0 ≤ x7_1 then (if x7_1 < (l0.length : Int) then (if 0 ≤ (wrap64 (x8_2 - (wrap64 (x9_3 * ((rd_T50 l0 x7_1).f1))))) then (if (wrap64 (x8_2 - (wrap64 (x9_3 * ((rd_T50 l0 x7_1).f1))))) < ((rd_L2 x6_3 (wrap64 (x7_1 + 1))).length : Int) then (if (rd (rd_L2 x6_3 (wrap64 (x7_1 + 1))) (wrap64 (x8_2 - (wrap64 (x9_3 * ((rd_T50 l0 x7_1).f1)))))) ≥ 0 then (if x7_1 < (x6_3.length : Int) then (if 0 ≤ x8_2 then (if x8_2 < ((rd_L2 x6_3 x7_1).length : Int) then ((spec_l13Gain.f kj46 ((rd_T50 l0 x7_1).f0) ((rd_T50 l0 x7_1).f1) ((rd_T50 l0 x7_1).f2) ((rd_T50 l0 x7_1).f3) x9_3).bind fun t313 => (spec_BestShelf.l2 kj46 l0 a1 (x6_3.set (x7_1 : Int).toNat ((rd_L2 x6_3 x7_1).set (x8_2 : Int).toNat (mx (rd (rd_L2 x6_3 x7_1) x8_2) (wrap64 ((rd (rd_L2 x6_3 (wrap64 (x7_1 + 1))) (wrap64 (x8_2 - (wrap64 (x9_3 * ((rd_T50 l0 x7_1).f1)))))) + t313))))) x7_1 x8_2 (wrap64 (x9_3 + 1)))) else (none)) else (none)) else (none)) else (spec_BestShelf.l2 kj46 l0 a1 x6_3 x7_1 x8_2 (wrap64 (x9_3 + 1)))) else (none)) else (none)) else (none)) else (none)) else (none)) else (none)) = some (r1, r2, r3, r4) := by rw [if_pos rfl] at H; exact H
          clear H
          have H := H1
          clear H1
          obtain ⟨ji52, hji52⟩ : ∃ j_ : Int, (wrap64 (x7_1 + 1)) = j_ := ⟨_, rfl⟩
          replace H : (if 0 ≤ (ji52) then (if (ji52) < (x6_3.length : Int) then (if 0 ≤ x7_1 then (if x7_1 < (l0.length : Int) then (if 0 ≤ (wrap64 (x8_2 - (wrap64 (x9_3 * ((rd_T50 l0 x7_1).f1))))) then (if (wrap64 (x8_2 - (wrap64 (x9_3 * ((rd_T50 l0 x7_1).f1))))) < ((rd_L2 x6_3 (ji52)).length : Int) then (if (rd (rd_L2 x6_3 (ji52)) (wrap64 (x8_2 - (wrap64 (x9_3 * ((rd_T50 l0 x7_1).f1)))))) ≥ 0 then (if x7_1 < (x6_3.length : Int) then (if 0 ≤ x8_2 then (if x8_2 < ((rd_L2 x6_3 x7_1).length : Int) then ((spec_l13Gain.f kj46 ((rd_T50 l0 x7_1).f0) ((rd_T50 l0 x7_1).f1) ((rd_T50 l0 x7_1).f2) ((rd_T50 l0 x7_1).f3) x9_3).bind fun t313 => (spec_BestShelf.l2 kj46 l0 a1 (x6_3.set (x7_1 : Int).toNat ((rd_L2 x6_3 x7_1).set (x8_2 : Int).toNat (mx (rd (rd_L2 x6_3 x7_1) x8_2) (wrap64 ((rd (rd_L2 x6_3 (ji52)) (wrap64 (x8_2 - (wrap64 (x9_3 * ((rd_T50 l0 x7_1).f1)))))) + t313))))) x7_1 x8_2 (wrap64 (x9_3 + 1)))) else (none)) else (none)) else (none)) else (spec_BestShelf.l2 kj46 l0 a1 x6_3 x7_1 x8_2 (wrap64 (x9_3 + 1)))) else (none)) else (none)) else (none)) else (none)) else (none)) else (none)) = some (r1, r2, r3, r4) := by first | (rw [hji52] at H; exact H) | (simp only [hji52] at H ⊢; exact H)
          have hji52w : (IntKind.i64.wrap (x7_1 + 1)) = ji52 := (i64_w _).trans hji52
          by_cases c53 : 0 ≤ (ji52)
          rotate_left
          ·rw [if_neg c53] at H
           exact absurd H (by simp)
          rw [if_pos c53] at H
          have c53b0 : decide (0 ≤ (ji52)) = true := decide_eq_true c53
          clear c53
          by_cases c54 : (ji52) < (x6_3.length : Int)
          rotate_left
          ·rw [if_neg c54] at H
           exact absurd H (by simp)
          rw [if_pos c54] at H
          have c54b0 : decide ((ji52) < (x6_3.length : Int)) = true := decide_eq_true c54
          clear c54
          by_cases c55 : 0 ≤ x7_1
          rotate_left
          ·rw [if_neg c55] at H
           exact absurd H (by simp)
          rw [if_pos c55] at H
          have c55b0 : decide (0 ≤ x7_1) = true := decide_eq_true c55
          clear c55
          by_cases c56 : x7_1 < (l0.length : Int)
          rotate_left
          ·rw [if_neg c56] at H
           exact absurd H (by simp)
          rw [if_pos c56] at H
          have c56b0 : decide (x7_1 < (l0.length : Int)) = true := decide_eq_true c56
          clear c56
          obtain ⟨ji57, hji57⟩ : ∃ j_ : Int, (wrap64 (x8_2 - (wrap64 (x9_3 * ((rd_T50 l0 x7_1).f1))))) = j_ := ⟨_, rfl⟩
          replace H : (if 0 ≤ (ji57) then (if (ji57) < ((rd_L2 x6_3 (ji52)).length : Int) then (if (rd (rd_L2 x6_3 (ji52)) (ji57)) ≥ 0 then (if x7_1 < (x6_3.length : Int) then (if 0 ≤ x8_2 then (if x8_2 < ((rd_L2 x6_3 x7_1).length : Int) then ((spec_l13Gain.f kj46 ((rd_T50 l0 x7_1).f0) ((rd_T50 l0 x7_1).f1) ((rd_T50 l0 x7_1).f2) ((rd_T50 l0 x7_1).f3) x9_3).bind fun t313 => (spec_BestShelf.l2 kj46 l0 a1 (x6_3.set (x7_1 : Int).toNat ((rd_L2 x6_3 x7_1).set (x8_2 : Int).toNat (mx (rd (rd_L2 x6_3 x7_1) x8_2) (wrap64 ((rd (rd_L2 x6_3 (ji52)) (ji57)) + t313))))) x7_1 x8_2 (wrap64 (x9_3 + 1)))) else (none)) else (none)) else (none)) else (spec_BestShelf.l2 kj46 l0 a1 x6_3 x7_1 x8_2 (wrap64 (x9_3 + 1)))) else (none)) else (none)) = some (r1, r2, r3, r4) := by first | (rw [hji57] at H; exact H) | (simp only [hji57] at H ⊢; exact H)
          have hji57w : (IntKind.i64.wrap (x8_2 - (wrap64 (x9_3 * ((rd_T50 l0 x7_1).f1))))) = ji57 := (i64_w _).trans hji57
          by_cases c58 : 0 ≤ (ji57)
          rotate_left
          ·rw [if_neg c58] at H
           exact absurd H (by simp)
          rw [if_pos c58] at H
          have c58b0 : decide (0 ≤ (ji57)) = true := decide_eq_true c58
          clear c58
          by_cases c59 : (ji57) < ((rd_L2 x6_3 (ji52)).length : Int)
          rotate_left
          ·rw [if_neg c59] at H
           exact absurd H (by simp)
          rw [if_pos c59] at H
          have c59b0 : decide ((ji57) < ((rd_L2 x6_3 (ji52)).length : Int)) = true := decide_eq_true c59
          clear c59
          by_cases c60 : (rd (rd_L2 x6_3 (ji52)) (ji57)) ≥ 0
          rotate_left
          ·rw [if_neg c60] at H
           have c60b0 : decide (0 ≤ (rd (rd_L2 x6_3 (ji52)) (ji57))) = false := decide_eq_false c60
           clear c60
           as_aux_lemma =>
            have H' := Aside0.mk H
            clear H
            try go_wp2
            have n0_ := Aside0.mk (Kd.S_drew HO_6.out)
            have n1_ := Aside0.mk (blk_drew BK285.out)
            have n2_ := Aside0.mk (below_drew1 HB.out)
            clear HO_6
            clear BK285
            clear HB
            have HO_6 := n0_
            have BK285 := n1_
            have HB := n2_
            clear n0_ n1_ n2_
            have p306 : 0 ≤ ((ji52) : Int) := od_
            have q306 : (ji52) < (x6_3.length : Int) := od_
            obtain ⟨ad306, A306_0, c306_0, e306, hx306_0, hl306_0, hi306_0⟩ := at_L2 (Kd.S_reads' HO_6.out).2.2 (ji52) p306 q306
            obtain rfl : (⟨go18, 0, none⟩ : Addr) = ad306 := (by injection e306)
            obtain ⟨ce306, hce306, hMe306, hcc306⟩ := Kd.S_get HO_6.out [] (ji52) p306 (by first | exact q306 | exact od_ | (have e_ := (Kd.S_reads' HO_6.out).1; omega))
            obtain ⟨ve306_0, rfl, ge306_0⟩ := hMe306
            have hv306_0 := hcc306 0 _ rfl
            rw [Nat.add_zero, show ((Kd.slice 3 (Kd.int .i64))).sz = 1 from rfl, Nat.mul_one] at hv306_0
            replace hv306_0 := Option.some.inj (hv306_0.symm.trans hx306_0)
            rw [hv306_0] at ge306_0
            have HL306_0 := Aside0.mk (show Kd.R (Kd.int .i64) 3 _ _ _ _ (rd_L2 x6_3 (ji52)) from ge306_0)
            clear hv306_0 ge306_0
            have HX306_0 := Aside0.mk hx306_0
            clear hcc306 hce306
            (first | simp only [add_plain] at hx306_0 | simp only [add_at] at hx306_0 | simp only [Addr.add, Nat.zero_add] at hx306_0 | skip)
            have HR306_0 := Aside0.mk hi306_0
            have HC306_0 := Aside0.mk hl306_0
            clear hi306_0 hl306_0
            replace p306 := eq_true p306
            replace q306 := eq_true q306
            have p307 : 0 ≤ (x7_1 : Int) := od_
            have q307 : x7_1 < (l0.length : Int) := od_
            obtain ⟨ad307, A307_3, c307_3, e307, hx307_0, hx307_1, hx307_2, hx307_3, hl307_3, hi307_3⟩ := at_T50 HR0.out x7_1 p307 q307
            have hw307_3 := hx307_3
            have hw307_2 := hx307_2
            have hw307_1 := hx307_1
            have hw307_0 := hx307_0
            obtain rfl : ad303 = ad307 := (by injection e307)
            replace hx307_0 := (HB.out.cell (World.block_lt_of_cell? w _ hx307_0)).trans hx307_0
            replace hx307_1 := (HB.out.cell (World.block_lt_of_cell? w _ hx307_1)).trans hx307_1
            replace hx307_2 := (HB.out.cell (World.block_lt_of_cell? w _ hx307_2)).trans hx307_2
            replace hx307_3 := (HB.out.cell (World.block_lt_of_cell? w _ hx307_3)).trans hx307_3
            have HR307_3 := Aside0.mk hi307_3
            have HC307_3 := Aside0.mk hl307_3
            clear hi307_3 hl307_3
            replace p307 := eq_true p307
            replace q307 := eq_true q307
            have p308 : 0 ≤ ((ji57) : Int) := od_
            have q308 : (ji57) < ((rd_L2 x6_3 (ji52)).length : Int) := od_
            obtain ⟨ad308, e308, hx308_0⟩ := Kd.at_int (by repeat (first | (with_reducible exact HR306_0.out) | (with_reducible refine Kd.C_alloc ?_ _) | (with_reducible refine Kd.C_drewN ?_ _) | (with_reducible refine Kd.C_drew ?_) | exact HR306_0.out)) (ji57) p308 q308
            cases e308
            replace p308 := eq_true p308
            replace q308 := eq_true q308
            refine start_ (n := 17) (S := fun w' => w'.cell? ⟨go18, ((ji52)).toNat, none⟩ = some (.slice (some ad308) (rd_L2 x6_3 (ji52)).length c306_0) ∧ w'.cell? (ad303.add ((x7_1).toNat * 4)) = some (.string ((rd_T50 l0 x7_1).f0)) ∧ w'.cell? ⟨(ad303.add ((x7_1).toNat * 4)).block, (ad303.add ((x7_1).toNat * 4)).off + 1, none⟩ = some (.int .i64 ((rd_T50 l0 x7_1).f1)) ∧ w'.cell? ⟨(ad303.add ((x7_1).toNat * 4)).block, (ad303.add ((x7_1).toNat * 4)).off + 2, none⟩ = some (.int .i64 ((rd_T50 l0 x7_1).f2)) ∧ w'.cell? ⟨(ad303.add ((x7_1).toNat * 4)).block, (ad303.add ((x7_1).toNat * 4)).off + 3, none⟩ = some (.slice A307_3 ((rd_T50 l0 x7_1).f3).length c307_3) ∧ w'.cell? (ad308.add ((ji57)).toNat) = some (.int .i64 (rd (rd_L2 x6_3 (ji52)) (ji57)))) (ds := []) (msk 0 17) (by kernel_rfl) rfl rfl ⟨hx306_0, ((HB.out.cell (World.block_lt_of_cell? w _ hw307_0)).trans hw307_0), ((HB.out.cell (World.block_lt_of_cell? w _ hw307_1)).trans hw307_1), ((HB.out.cell (World.block_lt_of_cell? w _ hw307_2)).trans hw307_2), ((HB.out.cell (World.block_lt_of_cell? w _ hw307_3)).trans hw307_3), hx308_0⟩ (fun hHeld => ?_); refine with_tabW spec_BestShelf.tab20 spec_BestShelf.bits20 (fun HT_ HW_ => ?_)
            generalize wc.drew = w72 at HO_6 BK285 HB HL306_0 HR306_0 HR307_3 HX306_0 hx306_0 hx307_0 hx307_1 hx307_2 hx307_3 hx308_0 hHeld ⊢
            refine pu_ 0 88 (msk 1 16) HT_.out ?_; refine pu_ 1 89 (msk 2 15) HT_.out ?_; refine pu_ 2 90 (msk 3 14) HT_.out ?_; refine pu_ 3 91 (msk 4 13) HT_.out ?_; refine pu_ 5 93 (mskl 17 4 [5]) HT_.out ?_; refine pu_ 6 94 (mskl 17 4 [5, 6]) HT_.out ?_; refine pu_ 7 95 (mskl 17 4 [5, 6, 7]) HT_.out ?_; refine pu_ 8 96 (mskl 17 4 [5, 6, 7, 8]) HT_.out ?_; refine pu_ 9 97 (mskl 17 4 [5, 6, 7, 8, 9]) HT_.out ?_; refine pu_ 10 98 (mskl 17 4 [5, 6, 7, 8, 9, 10]) HT_.out ?_
            refine tk_ 4 92 (msk 11 6) HT_.out HW_.out hHeld ?_ (hy := by rintro w' ⟨s0, s1, s2, s3, s4, s5⟩; go_simp; with_reducible rfl)
            refine tk_ 11 99 (msk 12 5) HT_.out HW_.out hHeld ?_ (hy := by rintro w' ⟨s0, s1, s2, s3, s4, s5⟩; go_simp; with_reducible rfl)
            refine pu_ 12 100 (msk 13 4) HT_.out ?_; refine pu_ 13 101 (msk 14 3) HT_.out ?_; refine pu_ 14 102 (msk 15 2) HT_.out ?_
            refine tk_ 15 103 (msk 16 1) HT_.out HW_.out hHeld ?_ (hy := by rintro w' ⟨s0, s1, s2, s3, s4, s5⟩; go_simp; with_reducible rfl)
            refine pu_ 16 10 (msk 17 0) HT_.out ?_
            refine done_ (done_of HT_.out (by kernel_rfl)) ?_
            try go_wp2
            (try simp only [← hl6_3])
            go_roundg kj46
            case measure => have := HK1.out; have := HK2.out; have := HK3.out; have := HJ46.out; omega
            case rel => exact ⟨(x6_3), (wrap64 (x9_3 + 1)), (by first | rfl | (simp; done) | (simp [*]; done)), H', ⟨by have := HK1.out; have := HK2.out; have := HK3.out; have := HJ46.out; omega⟩, ⟨by (try simp only [hl6_1]); (try simp only [hl6_2]); (try simp only [hl6_3]); (with_reducible repeat (first | apply Kd.S_alloc | apply Kd.S_drewN | apply Kd.S_drew)); exact HO_6.out⟩, ⟨by (try simp only [hl6_1]); (try simp only [hl6_2]); (try simp only [hl6_3]); (with_reducible repeat (first | refine blk_drewN ?_ _ | refine blk_drew ?_ | refine blk_alloc ?_ _)); exact BK285.out⟩, ⟨by repeat (first | (with_reducible first | exact HB.out | apply below_alloc | apply pw_below_drewN | apply below_drew1 | refine below_set ?_ GE285.out) | exact HB.out)⟩⟩
          rw [if_pos c60] at H
          have c60b0 : decide (0 ≤ (rd (rd_L2 x6_3 (ji52)) (ji57))) = true := decide_eq_true c60
          clear c60
          by_cases c61 : x7_1 < (x6_3.length : Int)
          rotate_left
          ·rw [if_neg c61] at H
           exact absurd H (by simp)
          rw [if_pos c61] at H
          have c61b0 : decide (x7_1 < (x6_3.length : Int)) = true := decide_eq_true c61
          clear c61
          by_cases c62 : 0 ≤ x8_2
          rotate_left
          ·rw [if_neg c62] at H
           exact absurd H (by simp)
          rw [if_pos c62] at H
          have c62b0 : decide (0 ≤ x8_2) = true := decide_eq_true c62
          clear c62
          by_cases c63 : x8_2 < ((rd_L2 x6_3 x7_1).length : Int)
          rotate_left
          ·rw [if_neg c63] at H
           exact absurd H (by simp)
          rw [if_pos c63] at H
          have c63b0 : decide (x8_2 < ((rd_L2 x6_3 x7_1).length : Int)) = true := decide_eq_true c63
          clear c63
          replace H := Option.bind_eq_some_iff.mp H
          obtain ⟨t313, A640, H⟩ := H
          replace H : (spec_BestShelf.l2 kj46 l0 a1 (x6_3.set (x7_1 : Int).toNat ((rd_L2 x6_3 x7_1).set (x8_2 : Int).toNat (mx (rd (rd_L2 x6_3 x7_1) x8_2) (wrap64 ((rd (rd_L2 x6_3 (ji52)) (ji57)) + t313))))) x7_1 x8_2 (wrap64 (x9_3 + 1))) = some (r1, r2, r3, r4) := H
          have A64 := Aside0.mk A640
          clear A640
          obtain ⟨ji65, hji65⟩ : ∃ j_ : Int, (mx (rd (rd_L2 x6_3 x7_1) x8_2) (wrap64 ((rd (rd_L2 x6_3 (ji52)) (ji57)) + t313))) = j_ := ⟨_, rfl⟩
          replace H : (spec_BestShelf.l2 kj46 l0 a1 (x6_3.set (x7_1 : Int).toNat ((rd_L2 x6_3 x7_1).set (x8_2 : Int).toNat (ji65))) x7_1 x8_2 (wrap64 (x9_3 + 1))) = some (r1, r2, r3, r4) := by first | (rw [hji65] at H; exact H) | (simp only [hji65] at H ⊢; exact H)
          (try rw [hji65] at A64)
          have hji65_ : (if (rd (rd_L2 x6_3 x7_1) x8_2) < (wrap64 ((rd (rd_L2 x6_3 (ji52)) (ji57)) + t313)) then (wrap64 ((rd (rd_L2 x6_3 (ji52)) (ji57)) + t313)) else (rd (rd_L2 x6_3 x7_1) x8_2)) = ji65 := hji65
          obtain ⟨y314, hy314⟩ : ∃ y_ : List Int, y_ = ((rd_L2 x6_3 x7_1).set (x8_2 : Int).toNat (ji65)) := ⟨_, rfl⟩
          replace H : (spec_BestShelf.l2 kj46 l0 a1 (x6_3.set (x7_1 : Int).toNat y314) x7_1 x8_2 (wrap64 (x9_3 + 1))) = some (r1, r2, r3, r4) := by first | (rw [hy314]; with_reducible exact H) | (have H2_ := (Option.bind_some _ _).symm.trans H; rw [hy314]; with_reducible exact H2_) | (have H2_ := (Option.bind_some _ _).symm.trans H; with_reducible exact H2_) | with_reducible exact H | (rw [hy314]; exact H) | exact H
          have Ny314 := Aside0.mk hy314
          clear hy314
          obtain ⟨y316, hy316⟩ : ∃ y_ : List (List Int), y_ = (x6_3.set (x7_1 : Int).toNat y314) := ⟨_, rfl⟩
          replace H : (spec_BestShelf.l2 kj46 l0 a1 y316 x7_1 x8_2 (wrap64 (x9_3 + 1))) = some (r1, r2, r3, r4) := by first | (rw [hy316]; with_reducible exact H) | (have H2_ := (Option.bind_some _ _).symm.trans H; rw [hy316]; with_reducible exact H2_) | (have H2_ := (Option.bind_some _ _).symm.trans H; with_reducible exact H2_) | with_reducible exact H | (rw [hy316]; exact H) | exact H
          have Ny316 := Aside0.mk hy316
          clear hy316
          as_aux_lemma =>
           have H' := Aside0.mk H
           clear H
           try go_wp2
           have n0_ := Aside0.mk (Kd.S_drew HO_6.out)
           have n1_ := Aside0.mk (blk_drew BK285.out)
           have n2_ := Aside0.mk (below_drew1 HB.out)
           clear HO_6
           clear BK285
           clear HB
           have HO_6 := n0_
           have BK285 := n1_
           have HB := n2_
           clear n0_ n1_ n2_
           have p306 : 0 ≤ ((ji52) : Int) := od_
           have q306 : (ji52) < (x6_3.length : Int) := od_
           obtain ⟨ad306, A306_0, c306_0, e306, hx306_0, hl306_0, hi306_0⟩ := at_L2 (Kd.S_reads' HO_6.out).2.2 (ji52) p306 q306
           obtain rfl : (⟨go18, 0, none⟩ : Addr) = ad306 := (by injection e306)
           obtain ⟨ce306, hce306, hMe306, hcc306⟩ := Kd.S_get HO_6.out [] (ji52) p306 (by first | exact q306 | exact od_ | (have e_ := (Kd.S_reads' HO_6.out).1; omega))
           obtain ⟨ve306_0, rfl, ge306_0⟩ := hMe306
           have hv306_0 := hcc306 0 _ rfl
           rw [Nat.add_zero, show ((Kd.slice 3 (Kd.int .i64))).sz = 1 from rfl, Nat.mul_one] at hv306_0
           replace hv306_0 := Option.some.inj (hv306_0.symm.trans hx306_0)
           rw [hv306_0] at ge306_0
           have HL306_0 := Aside0.mk (show Kd.R (Kd.int .i64) 3 _ _ _ _ (rd_L2 x6_3 (ji52)) from ge306_0)
           clear hv306_0 ge306_0
           have HX306_0 := Aside0.mk hx306_0
           clear hcc306 hce306
           (first | simp only [add_plain] at hx306_0 | simp only [add_at] at hx306_0 | simp only [Addr.add, Nat.zero_add] at hx306_0 | skip)
           have HR306_0 := Aside0.mk hi306_0
           have HC306_0 := Aside0.mk hl306_0
           clear hi306_0 hl306_0
           replace p306 := eq_true p306
           replace q306 := eq_true q306
           have p307 : 0 ≤ (x7_1 : Int) := od_
           have q307 : x7_1 < (l0.length : Int) := od_
           obtain ⟨ad307, A307_3, c307_3, e307, hx307_0, hx307_1, hx307_2, hx307_3, hl307_3, hi307_3⟩ := at_T50 HR0.out x7_1 p307 q307
           have hw307_3 := hx307_3
           have hw307_2 := hx307_2
           have hw307_1 := hx307_1
           have hw307_0 := hx307_0
           obtain rfl : ad303 = ad307 := (by injection e307)
           replace hx307_0 := (HB.out.cell (World.block_lt_of_cell? w _ hx307_0)).trans hx307_0
           replace hx307_1 := (HB.out.cell (World.block_lt_of_cell? w _ hx307_1)).trans hx307_1
           replace hx307_2 := (HB.out.cell (World.block_lt_of_cell? w _ hx307_2)).trans hx307_2
           replace hx307_3 := (HB.out.cell (World.block_lt_of_cell? w _ hx307_3)).trans hx307_3
           have HR307_3 := Aside0.mk hi307_3
           have HC307_3 := Aside0.mk hl307_3
           clear hi307_3 hl307_3
           replace p307 := eq_true p307
           replace q307 := eq_true q307
           have p308 : 0 ≤ ((ji57) : Int) := od_
           have q308 : (ji57) < ((rd_L2 x6_3 (ji52)).length : Int) := od_
           obtain ⟨ad308, e308, hx308_0⟩ := Kd.at_int (by repeat (first | (with_reducible exact HR306_0.out) | (with_reducible refine Kd.C_alloc ?_ _) | (with_reducible refine Kd.C_drewN ?_ _) | (with_reducible refine Kd.C_drew ?_) | exact HR306_0.out)) (ji57) p308 q308
           cases e308
           replace p308 := eq_true p308
           replace q308 := eq_true q308
           refine start_ (n := 17) (S := fun w' => w'.cell? ⟨go18, ((ji52)).toNat, none⟩ = some (.slice (some ad308) (rd_L2 x6_3 (ji52)).length c306_0) ∧ w'.cell? (ad303.add ((x7_1).toNat * 4)) = some (.string ((rd_T50 l0 x7_1).f0)) ∧ w'.cell? ⟨(ad303.add ((x7_1).toNat * 4)).block, (ad303.add ((x7_1).toNat * 4)).off + 1, none⟩ = some (.int .i64 ((rd_T50 l0 x7_1).f1)) ∧ w'.cell? ⟨(ad303.add ((x7_1).toNat * 4)).block, (ad303.add ((x7_1).toNat * 4)).off + 2, none⟩ = some (.int .i64 ((rd_T50 l0 x7_1).f2)) ∧ w'.cell? ⟨(ad303.add ((x7_1).toNat * 4)).block, (ad303.add ((x7_1).toNat * 4)).off + 3, none⟩ = some (.slice A307_3 ((rd_T50 l0 x7_1).f3).length c307_3) ∧ w'.cell? (ad308.add ((ji57)).toNat) = some (.int .i64 (rd (rd_L2 x6_3 (ji52)) (ji57)))) (ds := []) (msk 0 17) (by kernel_rfl) rfl rfl ⟨hx306_0, ((HB.out.cell (World.block_lt_of_cell? w _ hw307_0)).trans hw307_0), ((HB.out.cell (World.block_lt_of_cell? w _ hw307_1)).trans hw307_1), ((HB.out.cell (World.block_lt_of_cell? w _ hw307_2)).trans hw307_2), ((HB.out.cell (World.block_lt_of_cell? w _ hw307_3)).trans hw307_3), hx308_0⟩ (fun hHeld => ?_); refine with_tabW spec_BestShelf.tab20 spec_BestShelf.bits20 (fun HT_ HW_ => ?_)
           generalize wc.drew = w67 at HO_6 BK285 HB HL306_0 HR306_0 HR307_3 HX306_0 hx306_0 hx307_0 hx307_1 hx307_2 hx307_3 hx308_0 hHeld ⊢
           refine pu_ 0 88 (msk 1 16) HT_.out ?_; refine pu_ 1 89 (msk 2 15) HT_.out ?_; refine pu_ 2 90 (msk 3 14) HT_.out ?_; refine pu_ 3 91 (msk 4 13) HT_.out ?_; refine pu_ 5 93 (mskl 17 4 [5]) HT_.out ?_; refine pu_ 6 94 (mskl 17 4 [5, 6]) HT_.out ?_; refine pu_ 7 95 (mskl 17 4 [5, 6, 7]) HT_.out ?_; refine pu_ 8 96 (mskl 17 4 [5, 6, 7, 8]) HT_.out ?_; refine pu_ 9 97 (mskl 17 4 [5, 6, 7, 8, 9]) HT_.out ?_; refine pu_ 10 98 (mskl 17 4 [5, 6, 7, 8, 9, 10]) HT_.out ?_
           refine tk_ 4 92 (msk 11 6) HT_.out HW_.out hHeld ?_ (hy := by rintro w' ⟨s0, s1, s2, s3, s4, s5⟩; go_simp; with_reducible rfl)
           refine tk_ 11 99 (msk 12 5) HT_.out HW_.out hHeld ?_ (hy := by rintro w' ⟨s0, s1, s2, s3, s4, s5⟩; go_simp; with_reducible rfl)
           refine pu_ 12 100 (msk 13 4) HT_.out ?_; refine pu_ 13 101 (msk 14 3) HT_.out ?_; refine pu_ 14 102 (msk 15 2) HT_.out ?_
           refine tk_ 15 103 (msk 16 1) HT_.out HW_.out hHeld ?_ (hy := by rintro w' ⟨s0, s1, s2, s3, s4, s5⟩; go_simp; with_reducible rfl)
           refine pu_ 16 10 (msk 17 0) HT_.out ?_
           refine done_ (done_of HT_.out (by kernel_rfl)) ?_
           try go_wp2
           have n0_ := Aside0.mk (Kd.S_drew HO_6.out)
           have n1_ := Aside0.mk (Kd.R_drew HL306_0.out)
           have n2_ := Aside0.mk (blk_drew BK285.out)
           have n3_ := Aside0.mk (Kd.C_drew HR306_0.out)
           have n4_ := Aside0.mk (below_drew1 HB.out)
           clear HO_6
           clear HL306_0
           clear BK285
           clear HR306_0
           clear HB
           have HO_6 := n0_
           have HL306_0 := n1_
           have BK285 := n2_
           have HR306_0 := n3_
           have HB := n4_
           clear n0_ n1_ n2_ n3_ n4_
           have p309 : 0 ≤ (x7_1 : Int) := od_
           have q309 : x7_1 < (x6_3.length : Int) := od_
           obtain ⟨ad309, A309_0, c309_0, e309, hx309_0, hl309_0, hi309_0⟩ := at_L2 (Kd.S_reads' HO_6.out).2.2 x7_1 p309 q309
           obtain rfl : (⟨go18, 0, none⟩ : Addr) = ad309 := (by injection e309)
           obtain ⟨ce309, hce309, hMe309, hcc309⟩ := Kd.S_get HO_6.out [] x7_1 p309 (by first | exact q309 | exact od_ | (have e_ := (Kd.S_reads' HO_6.out).1; omega))
           obtain ⟨ve309_0, rfl, ge309_0⟩ := hMe309
           have hv309_0 := hcc309 0 _ rfl
           rw [Nat.add_zero, show ((Kd.slice 3 (Kd.int .i64))).sz = 1 from rfl, Nat.mul_one] at hv309_0
           replace hv309_0 := Option.some.inj (hv309_0.symm.trans hx309_0)
           rw [hv309_0] at ge309_0
           have HL309_0 := Aside0.mk (show Kd.R (Kd.int .i64) 3 _ _ _ _ (rd_L2 x6_3 x7_1) from ge309_0)
           clear hv309_0 ge309_0
           have HX309_0 := Aside0.mk hx309_0
           clear hcc309 hce309
           (first | simp only [add_plain] at hx309_0 | simp only [add_at] at hx309_0 | simp only [Addr.add, Nat.zero_add] at hx309_0 | skip)
           have HR309_0 := Aside0.mk hi309_0
           have HC309_0 := Aside0.mk hl309_0
           clear hi309_0 hl309_0
           replace p309 := eq_true p309
           replace q309 := eq_true q309
           have p310 : 0 ≤ (x7_1 : Int) := od_
           have q310 : x7_1 < (x6_3.length : Int) := od_
           obtain ⟨ad310, A310_0, c310_0, e310, hx310_0, hl310_0, hi310_0⟩ := at_L2 (Kd.S_reads' HO_6.out).2.2 x7_1 p310 q310
           obtain rfl : (⟨go18, 0, none⟩ : Addr) = ad310 := (by injection e310)
           obtain ⟨ce310, hce310, hMe310, hcc310⟩ := Kd.S_get HO_6.out [] x7_1 p310 (by first | exact q310 | exact od_ | (have e_ := (Kd.S_reads' HO_6.out).1; omega))
           obtain ⟨ve310_0, rfl, ge310_0⟩ := hMe310
           have hv310_0 := hcc310 0 _ rfl
           rw [Nat.add_zero, show ((Kd.slice 3 (Kd.int .i64))).sz = 1 from rfl, Nat.mul_one] at hv310_0
           replace hv310_0 := Option.some.inj (hv310_0.symm.trans hx310_0)
           rw [hv310_0] at ge310_0
           have HL310_0 := Aside0.mk (show Kd.R (Kd.int .i64) 3 _ _ _ _ (rd_L2 x6_3 x7_1) from ge310_0)
           clear hv310_0 ge310_0
           have HX310_0 := Aside0.mk hx310_0
           clear hcc310 hce310
           (first | simp only [add_plain] at hx310_0 | simp only [add_at] at hx310_0 | simp only [Addr.add, Nat.zero_add] at hx310_0 | skip)
           have HR310_0 := Aside0.mk hi310_0
           have HC310_0 := Aside0.mk hl310_0
           clear hi310_0 hl310_0
           replace p310 := eq_true p310
           replace q310 := eq_true q310
           have ea_ := Option.some.inj (hx309_0.symm.trans hx310_0)
           injection ea_ with ea_ en_ ec_
           subst ea_
           subst ec_
           clear en_
           have p311 : 0 ≤ (x8_2 : Int) := od_
           have q311 : x8_2 < ((rd_L2 x6_3 x7_1).length : Int) := od_
           obtain ⟨ad311, e311, hx311_0⟩ := Kd.at_int (by repeat (first | (with_reducible exact HR310_0.out) | (with_reducible refine Kd.C_alloc ?_ _) | (with_reducible refine Kd.C_drewN ?_ _) | (with_reducible refine Kd.C_drew ?_) | exact HR310_0.out)) x8_2 p311 q311
           cases e311
           replace p311 := eq_true p311
           replace q311 := eq_true q311
           have p312 : 0 ≤ (x7_1 : Int) := od_
           have q312 : x7_1 < (l0.length : Int) := od_
           obtain ⟨ad312, A312_3, c312_3, e312, hx312_0, hx312_1, hx312_2, hx312_3, hl312_3, hi312_3⟩ := at_T50 HR0.out x7_1 p312 q312
           have hw312_3 := hx312_3
           have hw312_2 := hx312_2
           have hw312_1 := hx312_1
           have hw312_0 := hx312_0
           obtain rfl : ad303 = ad312 := (by injection e312)
           replace hx312_0 := (HB.out.cell (World.block_lt_of_cell? w _ hx312_0)).trans hx312_0
           replace hx312_1 := (HB.out.cell (World.block_lt_of_cell? w _ hx312_1)).trans hx312_1
           replace hx312_2 := (HB.out.cell (World.block_lt_of_cell? w _ hx312_2)).trans hx312_2
           replace hx312_3 := (HB.out.cell (World.block_lt_of_cell? w _ hx312_3)).trans hx312_3
           have HR312_3 := Aside0.mk hi312_3
           have HC312_3 := Aside0.mk hl312_3
           clear hi312_3 hl312_3
           replace p312 := eq_true p312
           replace q312 := eq_true q312
           refine start_ (n := 23) (S := fun w' => w'.cell? ⟨go18, (x7_1).toNat, none⟩ = some (.slice (some ad311) (rd_L2 x6_3 x7_1).length c309_0) ∧ w'.cell? ⟨go18, (x7_1).toNat, none⟩ = some (.slice (some ad311) (rd_L2 x6_3 x7_1).length c309_0) ∧ w'.cell? (ad311.add (x8_2).toNat) = some (.int .i64 (rd (rd_L2 x6_3 x7_1) x8_2)) ∧ w'.cell? (ad303.add ((x7_1).toNat * 4)) = some (.string ((rd_T50 l0 x7_1).f0)) ∧ w'.cell? ⟨(ad303.add ((x7_1).toNat * 4)).block, (ad303.add ((x7_1).toNat * 4)).off + 1, none⟩ = some (.int .i64 ((rd_T50 l0 x7_1).f1)) ∧ w'.cell? ⟨(ad303.add ((x7_1).toNat * 4)).block, (ad303.add ((x7_1).toNat * 4)).off + 2, none⟩ = some (.int .i64 ((rd_T50 l0 x7_1).f2)) ∧ w'.cell? ⟨(ad303.add ((x7_1).toNat * 4)).block, (ad303.add ((x7_1).toNat * 4)).off + 3, none⟩ = some (.slice A312_3 ((rd_T50 l0 x7_1).f3).length c312_3)) (ds := [22]) (msk 0 23) (by kernel_rfl) rfl rfl ⟨hx309_0, hx310_0, hx311_0, ((HB.out.cell (World.block_lt_of_cell? w _ hw312_0)).trans hw312_0), ((HB.out.cell (World.block_lt_of_cell? w _ hw312_1)).trans hw312_1), ((HB.out.cell (World.block_lt_of_cell? w _ hw312_2)).trans hw312_2), ((HB.out.cell (World.block_lt_of_cell? w _ hw312_3)).trans hw312_3)⟩ (fun hHeld => ?_); refine with_tabW spec_BestShelf.tab22 spec_BestShelf.bits22 (fun HT_ HW_ => ?_)
           generalize w67.drew = w68 at HO_6 HL306_0 BK285 HR306_0 HB HL309_0 HL310_0 HR309_0 HR310_0 HR312_3 HX309_0 HX310_0 hx309_0 hx310_0 hx311_0 hx312_0 hx312_1 hx312_2 hx312_3 hHeld ⊢
           refine pu_ 0 106 (msk 1 22) HT_.out ?_; refine pu_ 1 107 (msk 2 21) HT_.out ?_; refine pu_ 2 108 (msk 3 20) HT_.out ?_; refine pu_ 4 110 (mskl 23 3 [4]) HT_.out ?_; refine pu_ 5 111 (mskl 23 3 [4, 5]) HT_.out ?_; refine pu_ 6 112 (mskl 23 3 [4, 5, 6]) HT_.out ?_; refine pu_ 7 113 (mskl 23 3 [4, 5, 6, 7]) HT_.out ?_; refine pu_ 9 115 (mskl 23 3 [4, 5, 6, 7, 9]) HT_.out ?_; refine pu_ 12 118 (mskl 23 3 [4, 5, 6, 7, 9, 12]) HT_.out ?_; refine pu_ 13 119 (mskl 23 3 [4, 5, 6, 7, 9, 12, 13]) HT_.out ?_; refine pu_ 14 120 (mskl 23 3 [4, 5, 6, 7, 9, 12, 13, 14]) HT_.out ?_; refine pu_ 15 121 (mskl 23 3 [4, 5, 6, 7, 9, 12, 13, 14, 15]) HT_.out ?_; refine pu_ 17 123 (mskl 23 3 [4, 5, 6, 7, 9, 12, 13, 14, 15, 17]) HT_.out ?_
           refine tk_ 3 109 (mskl 23 8 [9, 12, 13, 14, 15, 17]) HT_.out HW_.out hHeld ?_ (hy := by rintro w' ⟨s0, s1, s2, s3, s4, s5, s6⟩; go_simp; with_reducible rfl)
           refine tk_ 8 114 (mskl 23 10 [12, 13, 14, 15, 17]) HT_.out HW_.out hHeld ?_ (hy := by rintro w' ⟨s0, s1, s2, s3, s4, s5, s6⟩; go_simp; with_reducible rfl)
           refine pu_ 10 116 (mskl 23 11 [12, 13, 14, 15, 17]) HT_.out ?_
           refine tk_ 11 117 (mskl 23 16 [17]) HT_.out HW_.out hHeld ?_ (hy := by rintro w' ⟨s0, s1, s2, s3, s4, s5, s6⟩; go_simp; with_reducible rfl)
           refine tk_ 16 122 (msk 18 5) HT_.out HW_.out hHeld ?_ (hy := by rintro w' ⟨s0, s1, s2, s3, s4, s5, s6⟩; go_simp; with_reducible rfl)
           refine one_ (i := 18) (N := some 124) (msk 19 4) rfl rfl (one_of HT_.out (by kernel_rfl)) (by decide) (fun K hK => ?_)
           refine goes_ Try.func31 (by kernel_rfl) rfl #[.agg #[.string ((rd_T50 l0 x7_1).f0), .int .i64 ((rd_T50 l0 x7_1).f1), .int .i64 ((rd_T50 l0 x7_1).f2), .slice A312_3 ((rd_T50 l0 x7_1).f3).length c312_3], .int .i64 x9_3] (by rfl) rfl rfl (by (try simp only [List.map_toArray, List.map_cons, List.map_nil]); first | done | rfl | (simp only [List.length_drop, List.length_take]; rfl)) ?_
           with_reducible refine (spec_l13Gain.calls kj46 ((rd_T50 l0 x7_1).f0) ((rd_T50 l0 x7_1).f1) ((rd_T50 l0 x7_1).f2) _ _ ((rd_T50 l0 x7_1).f3) x9_3 t313 _ ?side1 ?side2 A64.out).mono ?_
           (case side1 => repeat (first | exact (Kd.C_below HR312_3.out HB.out) | (with_reducible refine Kd.C_alloc ?_ _) | (with_reducible refine Kd.C_drewN ?_ _) | (with_reducible refine Kd.C_drew ?_)))
           (case side2 => exact HC312_3.out)
           rintro e w69 ⟨rfl, hb⟩
           have HS0_ := (hb.cell (World.block_lt_of_cell? _ _ (hHeld.1))).trans (hHeld.1)
           have HS1_ := (hb.cell (World.block_lt_of_cell? _ _ (hHeld.2.1))).trans (hHeld.2.1)
           have HS2_ := (hb.cell (World.block_lt_of_cell? _ _ (hHeld.2.2.1))).trans (hHeld.2.2.1)
           refine ⟨_, rfl, ?_⟩
           have n0_ := Aside0.mk (Kd.S_below (by (with_reducible repeat (first | apply Kd.S_alloc | apply Kd.S_drewN | apply Kd.S_drew)); exact HO_6.out) hb)
           have n1_ := Aside0.mk (Kd.R_below (by (with_reducible repeat (first | apply Kd.R_alloc | apply Kd.R_drewN | apply Kd.R_drew)); exact HL306_0.out) hb)
           have n2_ := Aside0.mk (Kd.R_below (by (with_reducible repeat (first | apply Kd.R_alloc | apply Kd.R_drewN | apply Kd.R_drew)); exact HL309_0.out) hb)
           have n3_ := Aside0.mk (Kd.R_below (by (with_reducible repeat (first | apply Kd.R_alloc | apply Kd.R_drewN | apply Kd.R_drew)); exact HL310_0.out) hb)
           have n4_ := Aside0.mk (blk_below (g := gb285) (o := .cells #[.slice none 0 0, .int .i64 0, .int .i64 0] 31 (0, 0)) bk_ hb)
           have n5_ := Aside0.mk (Kd.C_below (by repeat (first | (with_reducible exact HR306_0.out) | (with_reducible refine Kd.C_alloc ?_ _) | (with_reducible refine Kd.C_drewN ?_ _) | (with_reducible refine Kd.C_drew ?_) | exact HR306_0.out)) hb)
           have n6_ := Aside0.mk (Kd.C_below (by repeat (first | (with_reducible exact HR309_0.out) | (with_reducible refine Kd.C_alloc ?_ _) | (with_reducible refine Kd.C_drewN ?_ _) | (with_reducible refine Kd.C_drew ?_) | exact HR309_0.out)) hb)
           have n7_ := Aside0.mk (pw_cell_below hb HX309_0.out)
           have n8_ := Aside0.mk (Kd.C_below (by repeat (first | (with_reducible exact HR310_0.out) | (with_reducible refine Kd.C_alloc ?_ _) | (with_reducible refine Kd.C_drewN ?_ _) | (with_reducible refine Kd.C_drew ?_) | exact HR310_0.out)) hb)
           have n9_ := Aside0.mk (pw_cell_below hb HX310_0.out)
           have n10_ := Aside0.mk (below_step bl_ hb)
           clear HO_6
           clear HL306_0
           clear HL309_0
           clear HL310_0
           clear BK285
           clear HR306_0
           clear HR309_0
           clear HX309_0
           clear HR310_0
           clear HX310_0
           clear HB
           have HO_6 := n0_
           have HL306_0 := n1_
           have HL309_0 := n2_
           have HL310_0 := n3_
           have BK285 := n4_
           have HR306_0 := n5_
           have HR309_0 := n6_
           have HX309_0 := n7_
           have HR310_0 := n8_
           have HX310_0 := n9_
           have HB := n10_
           clear n0_ n1_ n2_ n3_ n4_ n5_ n6_ n7_ n8_ n9_ n10_
           (try clear hb)
           (try clear hb2)
           (try clear hk)
           (try clear hi)
           have p66 : 0 ≤ (x8_2 : Int) := od_
           have q66 : (x8_2 : Int) < (((rd_L2 x6_3 x7_1).length : Int) : Int) := od_
           obtain ⟨go66, co66, eo66, gb66, gl66, cl66, HG66⟩ := Kd.R_form HL309_0.out (by omega)
           (first | cases eo66 | (injection eo66 with ea_ en_ ec_; (first | subst ea_ | (injection ea_ with ea_; subst ea_)); subst ec_; clear en_))
           have GB66 := Aside0.mk gb66
           have GG66 := Aside0.mk HG66
           clear gb66 gl66 HG66
           (first | simp only [add_plain] at hx311_0 | skip)
           obtain ⟨hx66_0, hf66_0⟩ := Kd.R_celln 0 HL309_0.out (x8_2 : Int) p66 q66
           replace p66 := eq_true p66
           replace q66 := eq_true q66
           have hq70 : (x7_1 : Int) < (x6_3.length : Int) := (by have h_ : (x7_1 : Int) < ((x6_3.length : Int) : Int) := od_; first | exact h_ | (have e_ := (Kd.S_reads' HO_6.out).1; omega) | simpa only [List.length_set, List.length_set] using h_)
           obtain ⟨oki70, ce70, hcl70, hM70, hcc70, hok70, hbk70⟩ := Kd.S_borrow HO_6.out [] (x7_1 : Int) od_ hq70
           obtain ⟨ve70_0, rfl, ge70_0⟩ := hM70
           have hv70 := hcc70 0 _ rfl
           rw [Nat.add_zero, show ((Kd.slice 3 (Kd.int .i64))).sz = 1 from rfl, Nat.mul_one] at hv70
           replace hv70 := Option.some.inj (hv70.symm.trans HX309_0.out)
           subst hv70
           clear hcc70 hcl70
           replace ge70_0 := (show Kd.R (Kd.int .i64) 3 _ _ _ _ (rd_L2 x6_3 x7_1) from ge70_0)
           have HP70 := Kd.R_putg ge70_0 (x8_2 : Int) ji65
           rw [← Ny314.out] at HP70
           have HS70 := hbk70 HP70.2 (fun k_ e_ => by injection e_ with e_; subst e_; exact ge70_0.1 _ rfl) (x' := y314) (Kd.M_row HP70.1)
           rw [← Ny316.out] at HS70
           have HQ70 := Aside0.mk HS70
           clear HP70 HS70 hbk70 hok70
           refine hK.out _ _ ⟨HS0_, HS1_, HS2_, ((HB.out.cell (World.block_lt_of_cell? w _ hw312_0)).trans hw312_0), ((HB.out.cell (World.block_lt_of_cell? w _ hw312_1)).trans hw312_1), ((HB.out.cell (World.block_lt_of_cell? w _ hw312_2)).trans hw312_2), ((HB.out.cell (World.block_lt_of_cell? w _ hw312_3)).trans hw312_3)⟩ (fun hHeld => ?_)
           clear hK K
           refine norm_ (a' := ?_) ?_ ?_
           rotate_left
           ·show Act.put _ (some 124) _ = _
            simp only [Act.put, List.setIfInBounds_toArray, List.set_cons_zero, List.set_cons_succ, i64_w, i32_w]
            rfl
           refine pu_ 19 125 (msk 20 3) HT_.out ?_; refine pu_ 20 126 (msk 21 2) HT_.out ?_; refine pu_ 21 127 (msk 22 1) HT_.out ?_
           refine last_ (i := 22) (N := none) (msk 23 0) rfl rfl (one_of HT_.out (by kernel_rfl)) (by decide) (fun K hK => ?_)
           refine skip_ (w1 := ?_) (by rfl) rfl ?_ ?_
           rotate_left
           ·go_simp
            rfl
           refine hK.out _ _ ?_
           clear hK K
           refine done_ (done_of HT_.out (by kernel_rfl)) ?_
           try go_wp2
           (try simp only [← hl6_3])
           go_roundg kj46
           case measure => have := HK1.out; have := HK2.out; have := HK3.out; have := HJ46.out; omega
           case rel => exact ⟨(y316), (wrap64 (x9_3 + 1)), (by first | rfl | (simp; done) | (simp [*]; done)), H', ⟨by have := HK1.out; have := HK2.out; have := HK3.out; have := HJ46.out; omega⟩, ⟨by (try simp only [hl6_1]); (try simp only [hl6_2]); (try simp only [hl6_3]); (with_reducible repeat (first | apply Kd.S_alloc | apply Kd.S_drewN | apply Kd.S_drew)); exact HQ70.out⟩, ⟨by (try simp only [hl6_1]); (try simp only [hl6_2]); (try simp only [hl6_3]); (with_reducible repeat (first | refine blk_drewN ?_ _ | refine blk_drew ?_ | refine blk_alloc ?_ _)); refine blk_far ?_ (by have h_ := Kd.R_ne HL309_0.out BK285.out (by decide); intro e_; exact h_ (by rw [e_]; rfl)) _; (with_reducible repeat (first | refine blk_drewN ?_ _ | refine blk_drew ?_ | refine blk_alloc ?_ _)); exact BK285.out⟩, ⟨by repeat (first | (with_reducible first | exact HB.out | apply below_alloc | apply pw_below_drewN | apply below_drew1 | refine below_set ?_ GB66.out | refine below_set ?_ GE285.out) | exact HB.out)⟩⟩
   rw [if_neg c27] at H
   have c27b0 : decide (0 ≤ x7_1) = false := decide_eq_false c27
   clear c27
   by_cases c73 : 0 < (x6_1.length : Int)
   rotate_left
   ·rw [if_neg c73] at H
    exact absurd H (by simp)
   rw [if_pos c73] at H
   have c73b0 : decide (0 < (x6_1.length : Int)) = true := decide_eq_true c73
   have c73b1 : decide (0 < x6_1.length) = true := decide_eq_true (by omega)
   clear c73
   by_cases c74 : 0 ≤ a1
   rotate_left
   ·rw [if_neg c74] at H
    exact absurd H (by simp)
   rw [if_pos c74] at H
   have c74b0 : decide (0 ≤ a1) = true := decide_eq_true c74
   clear c74
   by_cases c75 : a1 < ((rd_L2 x6_1 0).length : Int)
   rotate_left
   ·rw [if_neg c75] at H
    exact absurd H (by simp)
   rw [if_pos c75] at H
   have c75b0 : decide (a1 < ((rd_L2 x6_1 0).length : Int)) = true := decide_eq_true c75
   clear c75
   by_cases c76 : (rd (rd_L2 x6_1 0) a1) < 0
   ·rw [if_pos c76] at H
    have c76b0 : decide ((rd (rd_L2 x6_1 0) a1) < 0) = true := decide_eq_true c76
    clear c76
    as_aux_lemma =>
     simp only [Option.some.injEq, Prod.mk.injEq] at H
     obtain ⟨rfl, rfl, rfl, rfl⟩ := H
     have p317 : 0 ≤ (0 : Int) := (by omega)
     have q317 : 0 < (x6_1.length : Int) := od_
     obtain ⟨ad317, A317_0, c317_0, e317, hx317_0, hl317_0, hi317_0⟩ := at_L2 (Kd.S_reads' HO_6.out).2.2 0 p317 q317
     obtain rfl : (⟨go18, 0, none⟩ : Addr) = ad317 := (by injection e317)
     obtain ⟨ce317, hce317, hMe317, hcc317⟩ := Kd.S_get HO_6.out [] 0 p317 (by first | exact q317 | exact od_ | (have e_ := (Kd.S_reads' HO_6.out).1; omega))
     obtain ⟨ve317_0, rfl, ge317_0⟩ := hMe317
     have hv317_0 := hcc317 0 _ rfl
     rw [Nat.add_zero, show ((Kd.slice 3 (Kd.int .i64))).sz = 1 from rfl, Nat.mul_one] at hv317_0
     replace hv317_0 := Option.some.inj (hv317_0.symm.trans hx317_0)
     rw [hv317_0] at ge317_0
     have HL317_0 := Aside0.mk (show Kd.R (Kd.int .i64) 3 _ _ _ _ (rd_L2 x6_1 0) from ge317_0)
     clear hv317_0 ge317_0
     have HX317_0 := Aside0.mk hx317_0
     clear hcc317 hce317
     (first | simp only [add_plain] at hx317_0 | simp only [add_at] at hx317_0 | simp only [Addr.add, Nat.zero_add] at hx317_0 | skip)
     have qi317 : (0 < x6_1.length) = True := eq_true (by omega)
     (try rw [show ((0 : Int)).toNat = 0 from rfl] at hx317_0)
     (try rw [Addr.add_zero'] at hx317_0)
     have HR317_0 := Aside0.mk hi317_0
     have HC317_0 := Aside0.mk hl317_0
     clear hi317_0 hl317_0
     replace p317 := eq_true p317
     replace q317 := eq_true q317
     have p318 : 0 ≤ (a1 : Int) := od_
     have q318 : a1 < ((rd_L2 x6_1 0).length : Int) := od_
     obtain ⟨ad318, e318, hx318_0⟩ := Kd.at_int (by repeat (first | (with_reducible exact HR317_0.out) | (with_reducible refine Kd.C_alloc ?_ _) | (with_reducible refine Kd.C_drewN ?_ _) | (with_reducible refine Kd.C_drew ?_) | exact HR317_0.out)) a1 p318 q318
     cases e318
     replace p318 := eq_true p318
     replace q318 := eq_true q318
     have hcz77_0 : wr.cell? ⟨gb285, 0, none⟩ = some (.slice none 0 0) := (blk_cell BK285.out 0).trans rfl
     have hcz77_1 : wr.cell? ⟨gb285, 1, none⟩ = some (.int .i64 0) := (blk_cell BK285.out 1).trans rfl
     have hcz77_2 : wr.cell? ⟨gb285, 2, none⟩ = some (.int .i64 0) := (blk_cell BK285.out 2).trans rfl
     have hfz77_0 := blk_frozen BK285.out 0
     have hfz77_1 := blk_frozen BK285.out 1
     have hfz77_2 := blk_frozen BK285.out 2
     go_wp2
     refine bodyPost_ret (results_ct rfl _ _ gb285 31 #[.slice none 0 0, .int .i64 0, .int .i64 0] (0, 0) _ rfl (by (with_reducible repeat (first | refine blk_drewN ?_ _ | refine blk_drew ?_ | refine blk_alloc ?_ _)); refine blk_put (cs := #[.slice none 0 0, .int .i64 0, .int .i64 0]) ?_ 2 _ rfl; (with_reducible repeat (first | refine blk_drewN ?_ _ | refine blk_drew ?_ | refine blk_alloc ?_ _)); refine blk_put (cs := #[.slice none 0 0, .int .i64 0, .int .i64 0]) ?_ 1 _ rfl; (with_reducible repeat (first | refine blk_drewN ?_ _ | refine blk_drew ?_ | refine blk_alloc ?_ _)); refine blk_put (cs := #[.slice none 0 0, .int .i64 0, .int .i64 0]) ?_ 0 _ rfl; (with_reducible repeat (first | refine blk_drewN ?_ _ | refine blk_drew ?_ | refine blk_alloc ?_ _)); exact BK285.out) Try.underlying31 rfl (by kernel_rfl)) rfl ?_
     exact ⟨_, by first | rfl | (simp [errW_none, errW_some] <;> rfl) | (simp only [← hji10, ← hji13]; first | rfl | (simp [errW_none, errW_some] <;> rfl)) | (simp [*, errW_none, errW_some] <;> rfl), by first | exact Kd.R_nil _ _ _ _ _ | exact Kd.N_nil _ _ _ _ _ | exact Kd.V_nil _ _ _ _ _ | exact Kd.Q_nil _ _ _ _ _ | exact Kd.S_nil _ _ _ _ _, by repeat (first | (with_reducible first | exact HB.out | apply below_alloc | apply pw_below_drewN | apply below_drew1 | refine below_set ?_ GE285.out) | exact HB.out)⟩
   rw [if_neg c76] at H
   have c76b0 : decide ((rd (rd_L2 x6_1 0) a1) < 0) = false := decide_eq_false c76
   clear c76
   obtain ⟨y319, hy319⟩ : ∃ y_ : List Int, y_ = (([] : List Int)) := ⟨_, rfl⟩
   replace H : (spec_BestShelf.l3 k1 l0 a1 x6_1 y319 a1 0) = some (r1, r2, r3, r4) := by first | (rw [hy319]; with_reducible exact H) | (have H2_ := (Option.bind_some _ _).symm.trans H; rw [hy319]; with_reducible exact H2_) | (have H2_ := (Option.bind_some _ _).symm.trans H; with_reducible exact H2_) | with_reducible exact H | (rw [hy319]; exact H) | exact H
   have Ny319 := Aside0.mk hy319
   clear hy319
   have H' := Aside0.mk H
   clear H
   have p317 : 0 ≤ (0 : Int) := (by omega)
   have q317 : 0 < (x6_1.length : Int) := od_
   obtain ⟨ad317, A317_0, c317_0, e317, hx317_0, hl317_0, hi317_0⟩ := at_L2 (Kd.S_reads' HO_6.out).2.2 0 p317 q317
   obtain rfl : (⟨go18, 0, none⟩ : Addr) = ad317 := (by injection e317)
   obtain ⟨ce317, hce317, hMe317, hcc317⟩ := Kd.S_get HO_6.out [] 0 p317 (by first | exact q317 | exact od_ | (have e_ := (Kd.S_reads' HO_6.out).1; omega))
   obtain ⟨ve317_0, rfl, ge317_0⟩ := hMe317
   have hv317_0 := hcc317 0 _ rfl
   rw [Nat.add_zero, show ((Kd.slice 3 (Kd.int .i64))).sz = 1 from rfl, Nat.mul_one] at hv317_0
   replace hv317_0 := Option.some.inj (hv317_0.symm.trans hx317_0)
   rw [hv317_0] at ge317_0
   have HL317_0 := Aside0.mk (show Kd.R (Kd.int .i64) 3 _ _ _ _ (rd_L2 x6_1 0) from ge317_0)
   clear hv317_0 ge317_0
   have HX317_0 := Aside0.mk hx317_0
   clear hcc317 hce317
   (first | simp only [add_plain] at hx317_0 | simp only [add_at] at hx317_0 | simp only [Addr.add, Nat.zero_add] at hx317_0 | skip)
   have qi317 : (0 < x6_1.length) = True := eq_true (by omega)
   (try rw [show ((0 : Int)).toNat = 0 from rfl] at hx317_0)
   (try rw [Addr.add_zero'] at hx317_0)
   have HR317_0 := Aside0.mk hi317_0
   have HC317_0 := Aside0.mk hl317_0
   clear hi317_0 hl317_0
   replace p317 := eq_true p317
   replace q317 := eq_true q317
   have p318 : 0 ≤ (a1 : Int) := od_
   have q318 : a1 < ((rd_L2 x6_1 0).length : Int) := od_
   obtain ⟨ad318, e318, hx318_0⟩ := Kd.at_int (by repeat (first | (with_reducible exact HR317_0.out) | (with_reducible refine Kd.C_alloc ?_ _) | (with_reducible refine Kd.C_drewN ?_ _) | (with_reducible refine Kd.C_drew ?_) | exact HR317_0.out)) a1 p318 q318
   cases e318
   replace p318 := eq_true p318
   replace q318 := eq_true q318
   go_wp2_with (first | ((with_reducible refine gate_dst (N := 136) rfl ?_); refine Kd.R_lit (Kd.int .i64) _ 3 ?hg (N := 136) ?hd (xs := ([] : List Int)) (inner := []) (ok := fun _ => True) (okp := fun _ => True) ?hr ?hp (fun _ hk => hk) trivial (Below.refl _ _) (Nat.le_refl _) (by simp) ?_; (case hd => rfl); (case hg => rfl); (case hr => first | (go_simp; done) | (go_simp; rfl)); (case hp => exact (Reps.none _ _)); intro v320 w78 ho79 hb hg_ hnew_; clear hg_ hnew_; (first | rw [← Ny319.out] at ho79 | (simp only [Int.reduceToNat] at ho79; rw [← Ny319.out] at ho79)); have n0_ := Aside0.mk (Kd.S_elder' (by (with_reducible repeat (first | apply Kd.S_alloc | apply Kd.S_drewN | apply Kd.S_drew)); exact HO_6.out) (Kd.R_base ho79) hb); have n1_ := Aside0.mk (Kd.R_elder' (by (with_reducible repeat (first | apply Kd.R_alloc | apply Kd.R_drewN | apply Kd.R_drew)); exact HL317_0.out) (Kd.R_base ho79) hb); have n2_ := Aside0.mk (Kd.R_lower (Kd.R_new' ho79 (Kd.R_lt (by (with_reducible repeat (first | apply Kd.R_alloc | apply Kd.R_drewN | apply Kd.R_drew)); exact HL317_0.out))) (below_size bl_)); have n3_ := Aside0.mk (blk_below (g := gb285) (o := .cells #[.slice none 0 0, .int .i64 0, .int .i64 0] 31 (0, 0)) bk_ hb); have n4_ := Aside0.mk (Kd.C_below (by repeat (first | (with_reducible exact HR317_0.out) | (with_reducible refine Kd.C_alloc ?_ _) | (with_reducible refine Kd.C_drewN ?_ _) | (with_reducible refine Kd.C_drew ?_) | exact HR317_0.out)) hb); have n5_ := Aside0.mk (pw_cell_below hb HX317_0.out); have n6_ := Aside0.mk (below_step bl_ hb); clear HO_6; clear HL317_0; clear BK285; clear HR317_0; clear HX317_0; clear HB; have HO_6 := n0_; have HL317_0 := n1_; have HO321 := n2_; have BK285 := n3_; have HR317_0 := n4_; have HX317_0 := n5_; have HB := n6_; clear n0_ n1_ n2_ n3_ n4_ n5_ n6_; clear hb ho79))
   go_loopg [11, 12, 13] k1 (fun kq v11 v12 v13 w' => ∃ (x11_2 : List Int) (x12_2 : Int) (x13_2 : Int), v12 = .int .i64 x12_2 ∧ v13 = .int .i64 x13_2 ∧ Aside0 (spec_BestShelf.l3 kq l0 a1 x6_1 x11_2 x12_2 x13_2 = some (r1, r2, r3, r4)) ∧ Aside0 (kq ≤ k1) ∧ Aside0 (Kd.S (Kd.slice 3 (Kd.int .i64)) 29 w' w.heap.size (fun k_ => some k_ ≠ (v11 : Value).ownBlock) (.slice (some ⟨go18, 0, none⟩) x6_1.length co18) x6_1) ∧ Aside0 (Kd.R (Kd.int .i64) 3 w' w.heap.size (fun _ => True) v11 x11_2) ∧ Aside0 (w'.heap[gb285]? = some (.cells #[(.slice none 0 0), .int .i64 0, .int .i64 0] 31 (0, 0))) ∧ Aside0 (Below w.heap.size w w'))
   case atStart => exact ⟨(y319), (a1), (0), (by first | rfl | (simp; done) | (simp [*]; done)), (by first | rfl | (simp; done) | (simp [*]; done)), H', ⟨Nat.le_refl _⟩, ⟨by (try simp only [hl6_1]); (with_reducible repeat (first | apply Kd.S_alloc | apply Kd.S_drewN | apply Kd.S_drew)); exact Kd.S_mono HO_6.out (fun _ hk => hk.2)⟩, ⟨by (try simp only [hl6_1]); (with_reducible repeat (first | apply Kd.R_alloc | apply Kd.R_drewN | apply Kd.R_drew)); exact Kd.R_mono HO321.out (fun _ hk => trivial)⟩, ⟨by (try simp only [hl6_1]); (with_reducible repeat (first | refine blk_drewN ?_ _ | refine blk_drew ?_ | refine blk_alloc ?_ _)); exact BK285.out⟩, ⟨by repeat (first | (with_reducible first | exact HB.out | apply below_alloc | apply pw_below_drewN | apply below_drew1 | refine below_set ?_ GE285.out) | exact HB.out)⟩⟩
   case round =>
    clear H'
    (try clear p3); (try clear q3); (try clear hx3); (try clear qi3); (try clear c4); (try clear c5); (try clear c6); (try clear q6); (try clear hx6); (try clear hf6); (try clear q7); (try clear c27); (try clear c27b0); (try clear c29); (try clear c30); (try clear p30); (try clear q30); (try clear hx30); (try clear c31); (try clear p31); (try clear q31); (try clear hx31); (try clear qi31); (try clear c32); (try clear c38); (try clear c38b0); (try clear c39); (try clear c40); (try clear c41); (try clear c42); (try clear c44); (try clear c51); (try clear c53); (try clear c54); (try clear c55); (try clear c56); (try clear c58); (try clear c59); (try clear c60); (try clear c60b0); (try clear c61); (try clear c62); (try clear c63); (try clear p64); (try clear p66); (try clear q66); (try clear hx66); (try clear hf66); (try clear c70); (try clear q70); (try clear c73); (try clear c73b0); (try clear c73b1); (try clear c74); (try clear c74b0); (try clear c75); (try clear c75b0); (try clear c76); (try clear c76b0); (try clear hcz77_0); (try clear hcz77_1); (try clear hcz77_2); (try clear hfz77_0); (try clear hfz77_1); (try clear hfz77_2); (try clear hx306_0); (try clear hx307_0); (try clear hx307_1); (try clear hx307_2); (try clear hx307_3); (try clear hx308_0); (try clear hx311_0); (try clear hx317_0); (try clear hx318_0); (try clear hx66_0); (try clear p306); (try clear p307); (try clear p308); (try clear p317); (try clear p318); (try clear q306); (try clear q307); (try clear q308); (try clear q317); (try clear q318)
    obtain ⟨x11_2, x12_2, x13_2, rfl, rfl, HA, HK2, HO_6, HO_11, BK285, HB⟩ := hrel
    cases gk with
    | zero => exact absurd HA.out (by simp [spec_BestShelf.l3])
    | succ k2 =>
     have H := HA.out
     clear HA
     simp only [spec_BestShelf.l3] at H
     by_cases c80 : x13_2 < (l0.length : Int)
     rotate_left
     ·rw [if_neg c80] at H
      have c80b0 : decide (x13_2 < (l0.length : Int)) = false := decide_eq_false c80
      clear c80
      replace H := Option.bind_eq_some_iff.mp H
      obtain ⟨⟨t322, t325, t326, t327⟩, A1050, H⟩ := H
      replace H : (some (t322, t325, t326, t327)) = some (r1, r2, r3, r4) := H
      have A105 := Aside0.mk A1050
      clear A1050
      as_aux_lemma =>
       simp only [Option.some.injEq, Prod.mk.injEq] at H
       obtain ⟨rfl, rfl, rfl, rfl⟩ := H
       obtain ⟨Ao106, co106, eo106⟩ := Kd.R_slice HO_11.out
       subst eo106
       go_wp2_with (first | ((with_reducible refine gate_callee (f := 12) rfl ?_); refine goesL_ (some 229) rfl rfl Try.func12 (by kernel_rfl) rfl #[.slice A0 l0.length c0, .int .i64 a1, .slice Ao106 x11_2.length co106] rfl (by (try simp only [List.map_toArray, List.map_cons, List.map_nil]); first | done | rfl | (simp only [List.length_drop, List.length_take]; rfl)) ?_; (with_reducible refine (spec_ShelfOf.calls k2 _ _ l0 a1 _ _ x11_2 t322 t325 t326 t327 _ ?side1 ?side2 ?side3 ?side4 A105.out).mono ?_); (case side1 => repeat (first | exact (Kd.C_below HR0.out HB.out) | (with_reducible refine Kd.C_alloc ?_ _) | (with_reducible refine Kd.C_drewN ?_ _) | (with_reducible refine Kd.C_drew ?_))); (case side2 => exact HC0.out); (case side3 => repeat (first | exact (Kd.R_reads' HO_11.out).2.2 | (with_reducible refine Kd.C_alloc ?_ _) | (with_reducible refine Kd.C_drewN ?_ _) | (with_reducible refine Kd.C_drew ?_))); (case side4 => exact (Kd.R_reads' HO_11.out).2.1); rintro e w107 ⟨v323, rfl, ho0, hb⟩; refine ⟨_, rfl, ?_⟩; have n0_ := Aside0.mk (Kd.S_elder' (by (with_reducible repeat (first | apply Kd.S_alloc | apply Kd.S_drewN | apply Kd.S_drew)); exact HO_6.out) (Kd.R_base ho0) hb); have n1_ := Aside0.mk (Kd.R_elder' (by (with_reducible repeat (first | apply Kd.R_alloc | apply Kd.R_drewN | apply Kd.R_drew)); exact HO_11.out) (Kd.R_base ho0) hb); have n2_ := Aside0.mk (Kd.R_lower (Kd.R_new' ho0 (Kd.R_lt (by (with_reducible repeat (first | apply Kd.R_alloc | apply Kd.R_drewN | apply Kd.R_drew)); exact HO_11.out))) (below_size bl_)); have n3_ := Aside0.mk (blk_below (g := gb285) (o := .cells #[.slice none 0 0, .int .i64 0, .int .i64 0] 31 (0, 0)) bk_ hb); have n4_ := Aside0.mk (below_step bl_ hb); clear HO_6; clear HO_11; clear BK285; clear HB; have HO_6 := n0_; have HO_11 := n1_; have HO324 := n2_; have BK285 := n3_; have HB := n4_; clear n0_ n1_ n2_ n3_ n4_; (try clear hb); (try clear hb2); (try clear hk); (try clear hi); (try clear ho0); obtain ⟨Ao108, co108, eo108⟩ := Kd.R_slice HO324.out; subst eo108; have hcz109_0 : w107.cell? ⟨gb285, 0, none⟩ = some (.slice none 0 0) := (blk_cell BK285.out 0).trans rfl; have hcz109_1 : w107.cell? ⟨gb285, 1, none⟩ = some (.int .i64 0) := (blk_cell BK285.out 1).trans rfl; have hcz109_2 : w107.cell? ⟨gb285, 2, none⟩ = some (.int .i64 0) := (blk_cell BK285.out 2).trans rfl; have hfz109_0 := blk_frozen BK285.out 0; have hfz109_1 := blk_frozen BK285.out 1; have hfz109_2 := blk_frozen BK285.out 2))
       refine bodyPost_ret (results_ct rfl _ _ gb285 31 #[.slice Ao108 t322.length co108, .int .i64 t325, .int .i64 t326] (0, 0) _ rfl (by (with_reducible repeat (first | refine blk_drewN ?_ _ | refine blk_drew ?_ | refine blk_alloc ?_ _)); refine blk_put (cs := #[.slice Ao108 t322.length co108, .int .i64 t325, .int .i64 0]) ?_ 2 _ rfl; (with_reducible repeat (first | refine blk_drewN ?_ _ | refine blk_drew ?_ | refine blk_alloc ?_ _)); refine blk_put (cs := #[.slice Ao108 t322.length co108, .int .i64 0, .int .i64 0]) ?_ 1 _ rfl; (with_reducible repeat (first | refine blk_drewN ?_ _ | refine blk_drew ?_ | refine blk_alloc ?_ _)); refine blk_put (cs := #[.slice none 0 0, .int .i64 0, .int .i64 0]) ?_ 0 _ rfl; (with_reducible repeat (first | refine blk_drewN ?_ _ | refine blk_drew ?_ | refine blk_alloc ?_ _)); exact BK285.out) Try.underlying31 rfl (by kernel_rfl)) rfl ?_
       exact ⟨_, by first | rfl | (simp [errW_none, errW_some] <;> rfl) | (simp only [← hji10, ← hji13]; first | rfl | (simp [errW_none, errW_some] <;> rfl)) | (simp [*, errW_none, errW_some] <;> rfl), by (with_reducible repeat (first | apply Kd.R_alloc | apply Kd.R_drewN | apply Kd.R_drew)); exact Kd.R_mono (Kd.R_far (p := ⟨gb285, 2, none⟩) (Kd.R_far (p := ⟨gb285, 1, none⟩) (Kd.R_far (p := ⟨gb285, 0, none⟩) (Kd.R_types HO324.out BK285.out (by decide)) (fun _ hk => hk.2) (.slice Ao108 t322.length co108)) (fun _ hk => hk.2) (.int .i64 t325)) (fun _ hk => hk.2) (.int .i64 t326)) (fun _ hk => trivial), by repeat (first | (with_reducible first | exact HB.out | apply below_alloc | apply pw_below_drewN | apply below_drew1 | refine below_set ?_ GE285.out) | exact HB.out)⟩
     rw [if_pos c80] at H
     have c80b0 : decide (x13_2 < (l0.length : Int)) = true := decide_eq_true c80
     clear c80
     by_cases c81 : 0 ≤ x13_2
     rotate_left
     ·rw [if_neg c81] at H
      exact absurd H (by simp)
     rw [if_pos c81] at H
     have c81b0 : decide (0 ≤ x13_2) = true := decide_eq_true c81
     clear c81
     have H' := Aside0.mk H
     clear H
     have p328 : 0 ≤ (x13_2 : Int) := od_
     have q328 : x13_2 < (l0.length : Int) := od_
     obtain ⟨ad328, A328_3, c328_3, e328, hx328_0, hx328_1, hx328_2, hx328_3, hl328_3, hi328_3⟩ := at_T50 HR0.out x13_2 p328 q328
     cases e328
     replace hx328_0 := (HB.out.cell (World.block_lt_of_cell? w _ hx328_0)).trans hx328_0
     replace hx328_1 := (HB.out.cell (World.block_lt_of_cell? w _ hx328_1)).trans hx328_1
     replace hx328_2 := (HB.out.cell (World.block_lt_of_cell? w _ hx328_2)).trans hx328_2
     replace hx328_3 := (HB.out.cell (World.block_lt_of_cell? w _ hx328_3)).trans hx328_3
     have HR328_3 := Aside0.mk hi328_3
     have HC328_3 := Aside0.mk hl328_3
     clear hi328_3 hl328_3
     replace p328 := eq_true p328
     replace q328 := eq_true q328
     go_wp2
     go_loopg [14] k2 (fun kq v14 w' => ∃ (x14_3 : Int), v14 = .int .i64 x14_3 ∧ Aside0 (spec_BestShelf.l4 kq l0 a1 x6_1 x11_2 x12_2 x13_2 x14_3 = some (r1, r2, r3, r4)) ∧ Aside0 (kq ≤ k2) ∧ Aside0 (Kd.S (Kd.slice 3 (Kd.int .i64)) 29 w' w.heap.size (fun k_ => some k_ ≠ (u11 : Value).ownBlock) (.slice (some ⟨go18, 0, none⟩) x6_1.length co18) x6_1) ∧ Aside0 (Kd.R (Kd.int .i64) 3 w' w.heap.size (fun _ => True) u11 x11_2) ∧ Aside0 (w'.heap[gb285]? = some (.cells #[(.slice none 0 0), .int .i64 0, .int .i64 0] 31 (0, 0))) ∧ Aside0 (Below w.heap.size w w'))
     case atStart => exact ⟨((((rd_T50 l0 x13_2).f3).length : Int)), (by first | rfl | (simp; done) | (simp [*]; done)), H', ⟨Nat.le_refl _⟩, ⟨by (try simp only [hl6_1]); (with_reducible repeat (first | apply Kd.S_alloc | apply Kd.S_drewN | apply Kd.S_drew)); exact HO_6.out⟩, ⟨by (try simp only [hl6_1]); (with_reducible repeat (first | apply Kd.R_alloc | apply Kd.R_drewN | apply Kd.R_drew)); exact HO_11.out⟩, ⟨by (try simp only [hl6_1]); (with_reducible repeat (first | refine blk_drewN ?_ _ | refine blk_drew ?_ | refine blk_alloc ?_ _)); exact BK285.out⟩, ⟨by repeat (first | (with_reducible first | exact HB.out | apply below_alloc | apply pw_below_drewN | apply below_drew1 | refine below_set ?_ GE285.out) | exact HB.out)⟩⟩
     case round =>
      clear H'
      (try clear p32); (try clear q32); (try clear hx32); (try clear c80); (try clear c80b0); (try clear c81); (try clear c81b0); (try clear hx328_0); (try clear hx328_1); (try clear hx328_2); (try clear hx328_3); (try clear p328); (try clear q328)
      obtain ⟨x14_3, rfl, HA, HK3, HO_6, HO_11, BK285, HB⟩ := hrel
      cases gk with
      | zero => exact absurd HA.out (by simp [spec_BestShelf.l4])
      | succ k3 =>
       have H := HA.out
       clear HA
       simp only [spec_BestShelf.l4] at H
       by_cases c82 : 0 ≤ x13_2
       rotate_left
       ·rw [if_neg c82] at H
        exact absurd H (by simp)
       rw [if_pos c82] at H
       have c82b0 : decide (0 ≤ x13_2) = true := decide_eq_true c82
       clear c82
       by_cases c83 : x13_2 < (l0.length : Int)
       rotate_left
       ·rw [if_neg c83] at H
        exact absurd H (by simp)
       rw [if_pos c83] at H
       have c83b0 : decide (x13_2 < (l0.length : Int)) = true := decide_eq_true c83
       clear c83
       by_cases c84 : (wrap64 (x14_3 * ((rd_T50 l0 x13_2).f1))) > x12_2
       ·rw [if_pos c84] at H
        have c84b0 : decide (x12_2 < (wrap64 (x14_3 * ((rd_T50 l0 x13_2).f1)))) = true := decide_eq_true c84
        clear c84
        as_aux_lemma =>
         have H' := Aside0.mk H
         clear H
         try go_wp2
         have n0_ := Aside0.mk (Kd.S_drew HO_6.out)
         have n1_ := Aside0.mk (Kd.R_drew HO_11.out)
         have n2_ := Aside0.mk (blk_drew BK285.out)
         have n3_ := Aside0.mk (below_drew1 HB.out)
         clear HO_6
         clear HO_11
         clear BK285
         clear HB
         have HO_6 := n0_
         have HO_11 := n1_
         have BK285 := n2_
         have HB := n3_
         clear n0_ n1_ n2_ n3_
         have p329 : 0 ≤ (x13_2 : Int) := od_
         have q329 : x13_2 < (l0.length : Int) := od_
         obtain ⟨ad329, A329_3, c329_3, e329, hx329_0, hx329_1, hx329_2, hx329_3, hl329_3, hi329_3⟩ := at_T50 HR0.out x13_2 p329 q329
         have hw329_3 := hx329_3
         have hw329_2 := hx329_2
         have hw329_1 := hx329_1
         have hw329_0 := hx329_0
         obtain rfl : ad328 = ad329 := (by injection e329)
         replace hx329_0 := (HB.out.cell (World.block_lt_of_cell? w _ hx329_0)).trans hx329_0
         replace hx329_1 := (HB.out.cell (World.block_lt_of_cell? w _ hx329_1)).trans hx329_1
         replace hx329_2 := (HB.out.cell (World.block_lt_of_cell? w _ hx329_2)).trans hx329_2
         replace hx329_3 := (HB.out.cell (World.block_lt_of_cell? w _ hx329_3)).trans hx329_3
         have HR329_3 := Aside0.mk hi329_3
         have HC329_3 := Aside0.mk hl329_3
         clear hi329_3 hl329_3
         replace p329 := eq_true p329
         replace q329 := eq_true q329
         refine start_ (n := 61) (S := fun w' => w'.cell? (ad328.add ((x13_2).toNat * 4)) = some (.string ((rd_T50 l0 x13_2).f0)) ∧ w'.cell? ⟨(ad328.add ((x13_2).toNat * 4)).block, (ad328.add ((x13_2).toNat * 4)).off + 1, none⟩ = some (.int .i64 ((rd_T50 l0 x13_2).f1)) ∧ w'.cell? ⟨(ad328.add ((x13_2).toNat * 4)).block, (ad328.add ((x13_2).toNat * 4)).off + 2, none⟩ = some (.int .i64 ((rd_T50 l0 x13_2).f2)) ∧ w'.cell? ⟨(ad328.add ((x13_2).toNat * 4)).block, (ad328.add ((x13_2).toNat * 4)).off + 3, none⟩ = some (.slice A329_3 ((rd_T50 l0 x13_2).f3).length c329_3)) (ds := []) (msk 0 61) (by kernel_rfl) rfl rfl ⟨((HB.out.cell (World.block_lt_of_cell? w _ hw329_0)).trans hw329_0), ((HB.out.cell (World.block_lt_of_cell? w _ hw329_1)).trans hw329_1), ((HB.out.cell (World.block_lt_of_cell? w _ hw329_2)).trans hw329_2), ((HB.out.cell (World.block_lt_of_cell? w _ hw329_3)).trans hw329_3)⟩ (fun hHeld => ?_); refine with_tabW spec_BestShelf.tab31 spec_BestShelf.bits31 (fun HT_ HW_ => ?_)
         generalize wr.drew = w85 at HO_6 HO_11 BK285 HB HR329_3 hx329_0 hx329_1 hx329_2 hx329_3 hHeld ⊢
         refine pu_ 0 150 (msk 1 60) HT_.out ?_; refine pu_ 1 151 (msk 2 59) HT_.out ?_; refine pu_ 2 152 (msk 3 58) HT_.out ?_; refine pu_ 3 153 (msk 4 57) HT_.out ?_; refine pu_ 4 154 (msk 5 56) HT_.out ?_; refine pu_ 7 157 (mskl 61 5 [7]) HT_.out ?_
         refine tk_ 5 155 (mskl 61 6 [7]) HT_.out HW_.out hHeld ?_ (hy := by rintro w' ⟨s0, s1, s2, s3⟩; go_simp; with_reducible rfl)
         refine pu_ 6 156 (msk 8 53) HT_.out ?_; refine pu_ 8 158 (msk 9 52) HT_.out ?_; refine pu_ 9 159 (msk 10 51) HT_.out ?_; refine pn_ 10 160 (msk 11 50) HT_.out ?_; refine pn_ 11 161 (msk 12 49) HT_.out ?_; refine pn_ 12 162 (msk 13 48) HT_.out ?_; refine pn_ 13 163 (msk 14 47) HT_.out ?_; refine pn_ 14 164 (msk 15 46) HT_.out ?_; refine pn_ 15 165 (msk 16 45) HT_.out ?_; refine pn_ 16 166 (msk 17 44) HT_.out ?_; refine pn_ 17 167 (msk 18 43) HT_.out ?_; refine pn_ 18 168 (msk 19 42) HT_.out ?_; refine pn_ 19 169 (msk 20 41) HT_.out ?_; refine pn_ 20 170 (msk 21 40) HT_.out ?_; refine pn_ 21 171 (msk 22 39) HT_.out ?_; refine pn_ 22 172 (msk 23 38) HT_.out ?_; refine pn_ 23 173 (msk 24 37) HT_.out ?_; refine pn_ 24 174 (msk 25 36) HT_.out ?_; refine pn_ 25 175 (msk 26 35) HT_.out ?_; refine pn_ 26 176 (msk 27 34) HT_.out ?_; refine pu_ 27 177 (msk 28 33) HT_.out ?_; refine pu_ 28 178 (msk 29 32) HT_.out ?_; refine pn_ 29 179 (msk 30 31) HT_.out ?_; refine pn_ 30 180 (msk 31 30) HT_.out ?_; refine pn_ 31 181 (msk 32 29) HT_.out ?_; refine pn_ 32 182 (msk 33 28) HT_.out ?_; refine pn_ 33 183 (msk 34 27) HT_.out ?_; refine pn_ 34 184 (msk 35 26) HT_.out ?_; refine pn_ 35 185 (msk 36 25) HT_.out ?_; refine pn_ 36 186 (msk 37 24) HT_.out ?_; refine pn_ 37 187 (msk 38 23) HT_.out ?_; refine pn_ 38 188 (msk 39 22) HT_.out ?_; refine pn_ 39 189 (msk 40 21) HT_.out ?_; refine pn_ 40 190 (msk 41 20) HT_.out ?_; refine pn_ 41 191 (msk 42 19) HT_.out ?_; refine pn_ 42 192 (msk 43 18) HT_.out ?_; refine pn_ 43 193 (msk 44 17) HT_.out ?_; refine pn_ 44 194 (msk 45 16) HT_.out ?_; refine pn_ 45 195 (msk 46 15) HT_.out ?_; refine pn_ 46 196 (msk 47 14) HT_.out ?_; refine pn_ 47 197 (msk 48 13) HT_.out ?_; refine pn_ 48 198 (msk 49 12) HT_.out ?_; refine pn_ 49 199 (msk 50 11) HT_.out ?_; refine pn_ 50 200 (msk 51 10) HT_.out ?_; refine pn_ 51 201 (msk 52 9) HT_.out ?_; refine pn_ 52 202 (msk 53 8) HT_.out ?_; refine pn_ 53 203 (msk 54 7) HT_.out ?_; refine pn_ 54 204 (msk 55 6) HT_.out ?_; refine pn_ 55 205 (msk 56 5) HT_.out ?_; refine pn_ 56 206 (msk 57 4) HT_.out ?_; refine pn_ 57 207 (msk 58 3) HT_.out ?_; refine pn_ 58 208 (msk 59 2) HT_.out ?_; refine pn_ 59 209 (msk 60 1) HT_.out ?_; refine pu_ 60 210 (msk 61 0) HT_.out ?_
         refine done_ (done_of HT_.out (by kernel_rfl)) ?_
         try go_wp2
         go_roundg k3
         case measure => have := HK1.out; have := HK2.out; have := HK3.out; omega
         case rel => exact ⟨(wrap64 (x14_3 - 1)), (by first | rfl | (simp; done) | (simp [*]; done)), H', ⟨by have := HK1.out; have := HK2.out; have := HK3.out; omega⟩, ⟨by (try simp only [hl6_1]); (with_reducible repeat (first | apply Kd.S_alloc | apply Kd.S_drewN | apply Kd.S_drew)); exact HO_6.out⟩, ⟨by (try simp only [hl6_1]); (with_reducible repeat (first | apply Kd.R_alloc | apply Kd.R_drewN | apply Kd.R_drew)); exact HO_11.out⟩, ⟨by (try simp only [hl6_1]); (with_reducible repeat (first | refine blk_drewN ?_ _ | refine blk_drew ?_ | refine blk_alloc ?_ _)); exact BK285.out⟩, ⟨by repeat (first | (with_reducible first | exact HB.out | apply below_alloc | apply pw_below_drewN | apply below_drew1 | refine below_set ?_ GE285.out) | exact HB.out)⟩⟩
       rw [if_neg c84] at H
       have c84b0 : decide (x12_2 < (wrap64 (x14_3 * ((rd_T50 l0 x13_2).f1)))) = false := decide_eq_false c84
       clear c84
       obtain ⟨ji86, hji86⟩ : ∃ j_ : Int, (wrap64 (x13_2 + 1)) = j_ := ⟨_, rfl⟩
       replace H : (if 0 ≤ (ji86) then (if (ji86) < (x6_1.length : Int) then (if 0 ≤ (wrap64 (x12_2 - (wrap64 (x14_3 * ((rd_T50 l0 x13_2).f1))))) then (if (wrap64 (x12_2 - (wrap64 (x14_3 * ((rd_T50 l0 x13_2).f1))))) < ((rd_L2 x6_1 (ji86)).length : Int) then (if (rd (rd_L2 x6_1 (ji86)) (wrap64 (x12_2 - (wrap64 (x14_3 * ((rd_T50 l0 x13_2).f1)))))) < 0 then (spec_BestShelf.l4 k3 l0 a1 x6_1 x11_2 x12_2 x13_2 (wrap64 (x14_3 - 1))) else ((spec_l13Gain.f k3 ((rd_T50 l0 x13_2).f0) ((rd_T50 l0 x13_2).f1) ((rd_T50 l0 x13_2).f2) ((rd_T50 l0 x13_2).f3) x14_3).bind fun t337 => (if x13_2 < (x6_1.length : Int) then (if 0 ≤ x12_2 then (if x12_2 < ((rd_L2 x6_1 x13_2).length : Int) then (if (wrap64 ((rd (rd_L2 x6_1 (ji86)) (wrap64 (x12_2 - (wrap64 (x14_3 * ((rd_T50 l0 x13_2).f1)))))) + t337)) = (rd (rd_L2 x6_1 x13_2) x12_2) then (if x11_2.length < 17592186044416 then (spec_BestShelf.l3 k3 l0 a1 x6_1 (x11_2 ++ [x14_3]) (wrap64 (x12_2 - (wrap64 (x14_3 * ((rd_T50 l0 x13_2).f1))))) ji86) else (none)) else (spec_BestShelf.l4 k3 l0 a1 x6_1 x11_2 x12_2 x13_2 (wrap64 (x14_3 - 1)))) else (none)) else (none)) else (none)))) else (none)) else (none)) else (none)) else (none)) = some (r1, r2, r3, r4) := by first | (rw [hji86] at H; exact H) | (simp only [hji86] at H ⊢; exact H)
       have hji86w : (IntKind.i64.wrap (x13_2 + 1)) = ji86 := (i64_w _).trans hji86
       by_cases c87 : 0 ≤ (ji86)
       rotate_left
       ·rw [if_neg c87] at H
        exact absurd H (by simp)
       rw [if_pos c87] at H
       have c87b0 : decide (0 ≤ (ji86)) = true := decide_eq_true c87
       clear c87
       by_cases c88 : (ji86) < (x6_1.length : Int)
       rotate_left
       ·rw [if_neg c88] at H
        exact absurd H (by simp)
       rw [if_pos c88] at H
       have c88b0 : decide ((ji86) < (x6_1.length : Int)) = true := decide_eq_true c88
       clear c88
       obtain ⟨ji89, hji89⟩ : ∃ j_ : Int, (wrap64 (x12_2 - (wrap64 (x14_3 * ((rd_T50 l0 x13_2).f1))))) = j_ := ⟨_, rfl⟩
       replace H : (if 0 ≤ (ji89) then (if (ji89) < ((rd_L2 x6_1 (ji86)).length : Int) then (if (rd (rd_L2 x6_1 (ji86)) (ji89)) < 0 then (spec_BestShelf.l4 k3 l0 a1 x6_1 x11_2 x12_2 x13_2 (wrap64 (x14_3 - 1))) else ((spec_l13Gain.f k3 ((rd_T50 l0 x13_2).f0) ((rd_T50 l0 x13_2).f1) ((rd_T50 l0 x13_2).f2) ((rd_T50 l0 x13_2).f3) x14_3).bind fun t337 => (if x13_2 < (x6_1.length : Int) then (if 0 ≤ x12_2 then (if x12_2 < ((rd_L2 x6_1 x13_2).length : Int) then (if (wrap64 ((rd (rd_L2 x6_1 (ji86)) (ji89)) + t337)) = (rd (rd_L2 x6_1 x13_2) x12_2) then (if x11_2.length < 17592186044416 then (spec_BestShelf.l3 k3 l0 a1 x6_1 (x11_2 ++ [x14_3]) ji89 ji86) else (none)) else (spec_BestShelf.l4 k3 l0 a1 x6_1 x11_2 x12_2 x13_2 (wrap64 (x14_3 - 1)))) else (none)) else (none)) else (none)))) else (none)) else (none)) = some (r1, r2, r3, r4) := by first | (rw [hji89] at H; exact H) | (simp only [hji89] at H ⊢; exact H)
       have hji89w : (IntKind.i64.wrap (x12_2 - (wrap64 (x14_3 * ((rd_T50 l0 x13_2).f1))))) = ji89 := (i64_w _).trans hji89
       by_cases c90 : 0 ≤ (ji89)
       rotate_left
       ·rw [if_neg c90] at H
        exact absurd H (by simp)
       rw [if_pos c90] at H
       have c90b0 : decide (0 ≤ (ji89)) = true := decide_eq_true c90
       clear c90
       by_cases c91 : (ji89) < ((rd_L2 x6_1 (ji86)).length : Int)
       rotate_left
       ·rw [if_neg c91] at H
        exact absurd H (by simp)
       rw [if_pos c91] at H
       have c91b0 : decide ((ji89) < ((rd_L2 x6_1 (ji86)).length : Int)) = true := decide_eq_true c91
       clear c91
       by_cases c92 : (rd (rd_L2 x6_1 (ji86)) (ji89)) < 0
       ·rw [if_pos c92] at H
        have c92b0 : decide ((rd (rd_L2 x6_1 (ji86)) (ji89)) < 0) = true := decide_eq_true c92
        clear c92
        as_aux_lemma =>
         have H' := Aside0.mk H
         clear H
         try go_wp2
         have n0_ := Aside0.mk (Kd.S_drew HO_6.out)
         have n1_ := Aside0.mk (Kd.R_drew HO_11.out)
         have n2_ := Aside0.mk (blk_drew BK285.out)
         have n3_ := Aside0.mk (below_drew1 HB.out)
         clear HO_6
         clear HO_11
         clear BK285
         clear HB
         have HO_6 := n0_
         have HO_11 := n1_
         have BK285 := n2_
         have HB := n3_
         clear n0_ n1_ n2_ n3_
         have p329 : 0 ≤ (x13_2 : Int) := od_
         have q329 : x13_2 < (l0.length : Int) := od_
         obtain ⟨ad329, A329_3, c329_3, e329, hx329_0, hx329_1, hx329_2, hx329_3, hl329_3, hi329_3⟩ := at_T50 HR0.out x13_2 p329 q329
         have hw329_3 := hx329_3
         have hw329_2 := hx329_2
         have hw329_1 := hx329_1
         have hw329_0 := hx329_0
         obtain rfl : ad328 = ad329 := (by injection e329)
         replace hx329_0 := (HB.out.cell (World.block_lt_of_cell? w _ hx329_0)).trans hx329_0
         replace hx329_1 := (HB.out.cell (World.block_lt_of_cell? w _ hx329_1)).trans hx329_1
         replace hx329_2 := (HB.out.cell (World.block_lt_of_cell? w _ hx329_2)).trans hx329_2
         replace hx329_3 := (HB.out.cell (World.block_lt_of_cell? w _ hx329_3)).trans hx329_3
         have HR329_3 := Aside0.mk hi329_3
         have HC329_3 := Aside0.mk hl329_3
         clear hi329_3 hl329_3
         replace p329 := eq_true p329
         replace q329 := eq_true q329
         have p330 : 0 ≤ ((ji86) : Int) := od_
         have q330 : (ji86) < (x6_1.length : Int) := od_
         obtain ⟨ad330, A330_0, c330_0, e330, hx330_0, hl330_0, hi330_0⟩ := at_L2 (Kd.S_reads' HO_6.out).2.2 (ji86) p330 q330
         obtain rfl : (⟨go18, 0, none⟩ : Addr) = ad330 := (by injection e330)
         obtain ⟨ce330, hce330, hMe330, hcc330⟩ := Kd.S_get HO_6.out [] (ji86) p330 (by first | exact q330 | exact od_ | (have e_ := (Kd.S_reads' HO_6.out).1; omega))
         obtain ⟨ve330_0, rfl, ge330_0⟩ := hMe330
         have hv330_0 := hcc330 0 _ rfl
         rw [Nat.add_zero, show ((Kd.slice 3 (Kd.int .i64))).sz = 1 from rfl, Nat.mul_one] at hv330_0
         replace hv330_0 := Option.some.inj (hv330_0.symm.trans hx330_0)
         rw [hv330_0] at ge330_0
         have HL330_0 := Aside0.mk (show Kd.R (Kd.int .i64) 3 _ _ _ _ (rd_L2 x6_1 (ji86)) from ge330_0)
         clear hv330_0 ge330_0
         have HX330_0 := Aside0.mk hx330_0
         clear hcc330 hce330
         (first | simp only [add_plain] at hx330_0 | simp only [add_at] at hx330_0 | simp only [Addr.add, Nat.zero_add] at hx330_0 | skip)
         have HR330_0 := Aside0.mk hi330_0
         have HC330_0 := Aside0.mk hl330_0
         clear hi330_0 hl330_0
         replace p330 := eq_true p330
         replace q330 := eq_true q330
         have p331 : 0 ≤ (x13_2 : Int) := od_
         have q331 : x13_2 < (l0.length : Int) := od_
         obtain ⟨ad331, A331_3, c331_3, e331, hx331_0, hx331_1, hx331_2, hx331_3, hl331_3, hi331_3⟩ := at_T50 HR0.out x13_2 p331 q331
         have hw331_3 := hx331_3
         have hw331_2 := hx331_2
         have hw331_1 := hx331_1
         have hw331_0 := hx331_0
         obtain rfl : ad328 = ad331 := (by injection e331)
         replace hx331_0 := (HB.out.cell (World.block_lt_of_cell? w _ hx331_0)).trans hx331_0
         replace hx331_1 := (HB.out.cell (World.block_lt_of_cell? w _ hx331_1)).trans hx331_1
         replace hx331_2 := (HB.out.cell (World.block_lt_of_cell? w _ hx331_2)).trans hx331_2
         replace hx331_3 := (HB.out.cell (World.block_lt_of_cell? w _ hx331_3)).trans hx331_3
         have HR331_3 := Aside0.mk hi331_3
         have HC331_3 := Aside0.mk hl331_3
         clear hi331_3 hl331_3
         replace p331 := eq_true p331
         replace q331 := eq_true q331
         have ea_ := Option.some.inj (hx329_3.symm.trans hx331_3)
         injection ea_ with ea_ en_ ec_
         subst ea_
         subst ec_
         clear en_
         have p332 : 0 ≤ ((ji89) : Int) := od_
         have q332 : (ji89) < ((rd_L2 x6_1 (ji86)).length : Int) := od_
         obtain ⟨ad332, e332, hx332_0⟩ := Kd.at_int (by repeat (first | (with_reducible exact HR330_0.out) | (with_reducible refine Kd.C_alloc ?_ _) | (with_reducible refine Kd.C_drewN ?_ _) | (with_reducible refine Kd.C_drew ?_) | exact HR330_0.out)) (ji89) p332 q332
         cases e332
         replace p332 := eq_true p332
         replace q332 := eq_true q332
         refine start_ (n := 61) (S := fun w' => w'.cell? (ad328.add ((x13_2).toNat * 4)) = some (.string ((rd_T50 l0 x13_2).f0)) ∧ w'.cell? ⟨(ad328.add ((x13_2).toNat * 4)).block, (ad328.add ((x13_2).toNat * 4)).off + 1, none⟩ = some (.int .i64 ((rd_T50 l0 x13_2).f1)) ∧ w'.cell? ⟨(ad328.add ((x13_2).toNat * 4)).block, (ad328.add ((x13_2).toNat * 4)).off + 2, none⟩ = some (.int .i64 ((rd_T50 l0 x13_2).f2)) ∧ w'.cell? ⟨(ad328.add ((x13_2).toNat * 4)).block, (ad328.add ((x13_2).toNat * 4)).off + 3, none⟩ = some (.slice A329_3 ((rd_T50 l0 x13_2).f3).length c329_3) ∧ w'.cell? ⟨go18, ((ji86)).toNat, none⟩ = some (.slice (some ad332) (rd_L2 x6_1 (ji86)).length c330_0) ∧ w'.cell? (ad328.add ((x13_2).toNat * 4)) = some (.string ((rd_T50 l0 x13_2).f0)) ∧ w'.cell? ⟨(ad328.add ((x13_2).toNat * 4)).block, (ad328.add ((x13_2).toNat * 4)).off + 1, none⟩ = some (.int .i64 ((rd_T50 l0 x13_2).f1)) ∧ w'.cell? ⟨(ad328.add ((x13_2).toNat * 4)).block, (ad328.add ((x13_2).toNat * 4)).off + 2, none⟩ = some (.int .i64 ((rd_T50 l0 x13_2).f2)) ∧ w'.cell? ⟨(ad328.add ((x13_2).toNat * 4)).block, (ad328.add ((x13_2).toNat * 4)).off + 3, none⟩ = some (.slice A329_3 ((rd_T50 l0 x13_2).f3).length c329_3) ∧ w'.cell? (ad332.add ((ji89)).toNat) = some (.int .i64 (rd (rd_L2 x6_1 (ji86)) (ji89)))) (ds := []) (msk 0 61) (by kernel_rfl) rfl rfl ⟨((HB.out.cell (World.block_lt_of_cell? w _ hw329_0)).trans hw329_0), ((HB.out.cell (World.block_lt_of_cell? w _ hw329_1)).trans hw329_1), ((HB.out.cell (World.block_lt_of_cell? w _ hw329_2)).trans hw329_2), ((HB.out.cell (World.block_lt_of_cell? w _ hw329_3)).trans hw329_3), hx330_0, ((HB.out.cell (World.block_lt_of_cell? w _ hw331_0)).trans hw331_0), ((HB.out.cell (World.block_lt_of_cell? w _ hw331_1)).trans hw331_1), ((HB.out.cell (World.block_lt_of_cell? w _ hw331_2)).trans hw331_2), ((HB.out.cell (World.block_lt_of_cell? w _ hw331_3)).trans hw331_3), hx332_0⟩ (fun hHeld => ?_); refine with_tabW spec_BestShelf.tab31 spec_BestShelf.bits31 (fun HT_ HW_ => ?_)
         generalize wr.drew = w93 at HO_6 HO_11 BK285 HB HL330_0 HR329_3 HR330_0 HR331_3 HX330_0 hx329_0 hx329_1 hx329_2 hx329_3 hx330_0 hx331_0 hx331_1 hx331_2 hx331_3 hx332_0 hHeld ⊢
         refine pu_ 0 150 (msk 1 60) HT_.out ?_; refine pu_ 1 151 (msk 2 59) HT_.out ?_; refine pu_ 2 152 (msk 3 58) HT_.out ?_; refine pu_ 3 153 (msk 4 57) HT_.out ?_; refine pu_ 4 154 (msk 5 56) HT_.out ?_; refine pu_ 7 157 (mskl 61 5 [7]) HT_.out ?_
         refine tk_ 5 155 (mskl 61 6 [7]) HT_.out HW_.out hHeld ?_ (hy := by rintro w' ⟨s0, s1, s2, s3, s4, s5, s6, s7, s8, s9⟩; go_simp; with_reducible rfl)
         refine pu_ 6 156 (msk 8 53) HT_.out ?_; refine pu_ 8 158 (msk 9 52) HT_.out ?_; refine pu_ 9 159 (msk 10 51) HT_.out ?_; refine pu_ 10 160 (msk 11 50) HT_.out ?_; refine pu_ 11 161 (msk 12 49) HT_.out ?_; refine pu_ 12 162 (msk 13 48) HT_.out ?_; refine pu_ 13 163 (msk 14 47) HT_.out ?_; refine pu_ 15 165 (mskl 61 14 [15]) HT_.out ?_; refine pu_ 16 166 (mskl 61 14 [15, 16]) HT_.out ?_; refine pu_ 17 167 (mskl 61 14 [15, 16, 17]) HT_.out ?_; refine pu_ 18 168 (mskl 61 14 [15, 16, 17, 18]) HT_.out ?_; refine pu_ 19 169 (mskl 61 14 [15, 16, 17, 18, 19]) HT_.out ?_; refine pu_ 20 170 (mskl 61 14 [15, 16, 17, 18, 19, 20]) HT_.out ?_
         refine tk_ 14 164 (msk 21 40) HT_.out HW_.out hHeld ?_ (hy := by rintro w' ⟨s0, s1, s2, s3, s4, s5, s6, s7, s8, s9⟩; go_simp; with_reducible rfl)
         refine tk_ 21 171 (msk 22 39) HT_.out HW_.out hHeld ?_ (hy := by rintro w' ⟨s0, s1, s2, s3, s4, s5, s6, s7, s8, s9⟩; go_simp; with_reducible rfl)
         refine pu_ 22 172 (msk 23 38) HT_.out ?_; refine pu_ 23 173 (msk 24 37) HT_.out ?_; refine pu_ 24 174 (msk 25 36) HT_.out ?_
         refine tk_ 25 175 (msk 26 35) HT_.out HW_.out hHeld ?_ (hy := by rintro w' ⟨s0, s1, s2, s3, s4, s5, s6, s7, s8, s9⟩; go_simp; with_reducible rfl)
         refine pu_ 26 176 (msk 27 34) HT_.out ?_; refine pu_ 27 177 (msk 28 33) HT_.out ?_; refine pu_ 28 178 (msk 29 32) HT_.out ?_; refine pn_ 29 179 (msk 30 31) HT_.out ?_; refine pn_ 30 180 (msk 31 30) HT_.out ?_; refine pn_ 31 181 (msk 32 29) HT_.out ?_; refine pn_ 32 182 (msk 33 28) HT_.out ?_; refine pn_ 33 183 (msk 34 27) HT_.out ?_; refine pn_ 34 184 (msk 35 26) HT_.out ?_; refine pn_ 35 185 (msk 36 25) HT_.out ?_; refine pn_ 36 186 (msk 37 24) HT_.out ?_; refine pn_ 37 187 (msk 38 23) HT_.out ?_; refine pn_ 38 188 (msk 39 22) HT_.out ?_; refine pn_ 39 189 (msk 40 21) HT_.out ?_; refine pn_ 40 190 (msk 41 20) HT_.out ?_; refine pn_ 41 191 (msk 42 19) HT_.out ?_; refine pn_ 42 192 (msk 43 18) HT_.out ?_; refine pn_ 43 193 (msk 44 17) HT_.out ?_; refine pn_ 44 194 (msk 45 16) HT_.out ?_; refine pn_ 45 195 (msk 46 15) HT_.out ?_; refine pn_ 46 196 (msk 47 14) HT_.out ?_; refine pn_ 47 197 (msk 48 13) HT_.out ?_; refine pn_ 48 198 (msk 49 12) HT_.out ?_; refine pn_ 49 199 (msk 50 11) HT_.out ?_; refine pn_ 50 200 (msk 51 10) HT_.out ?_; refine pn_ 51 201 (msk 52 9) HT_.out ?_; refine pn_ 52 202 (msk 53 8) HT_.out ?_; refine pn_ 53 203 (msk 54 7) HT_.out ?_; refine pn_ 54 204 (msk 55 6) HT_.out ?_; refine pn_ 55 205 (msk 56 5) HT_.out ?_; refine pn_ 56 206 (msk 57 4) HT_.out ?_; refine pn_ 57 207 (msk 58 3) HT_.out ?_; refine pn_ 58 208 (msk 59 2) HT_.out ?_; refine pn_ 59 209 (msk 60 1) HT_.out ?_; refine pu_ 60 210 (msk 61 0) HT_.out ?_
         refine done_ (done_of HT_.out (by kernel_rfl)) ?_
         try go_wp2
         go_roundg k3
         case measure => have := HK1.out; have := HK2.out; have := HK3.out; omega
         case rel => exact ⟨(wrap64 (x14_3 - 1)), (by first | rfl | (simp; done) | (simp [*]; done)), H', ⟨by have := HK1.out; have := HK2.out; have := HK3.out; omega⟩, ⟨by (try simp only [hl6_1]); (with_reducible repeat (first | apply Kd.S_alloc | apply Kd.S_drewN | apply Kd.S_drew)); exact HO_6.out⟩, ⟨by (try simp only [hl6_1]); (with_reducible repeat (first | apply Kd.R_alloc | apply Kd.R_drewN | apply Kd.R_drew)); exact HO_11.out⟩, ⟨by (try simp only [hl6_1]); (with_reducible repeat (first | refine blk_drewN ?_ _ | refine blk_drew ?_ | refine blk_alloc ?_ _)); exact BK285.out⟩, ⟨by repeat (first | (with_reducible first | exact HB.out | apply below_alloc | apply pw_below_drewN | apply below_drew1 | refine below_set ?_ GE285.out) | exact HB.out)⟩⟩
       rw [if_neg c92] at H
       have c92b0 : decide ((rd (rd_L2 x6_1 (ji86)) (ji89)) < 0) = false := decide_eq_false c92
       clear c92
       replace H := Option.bind_eq_some_iff.mp H
       obtain ⟨t337, A940, H⟩ := H
       replace H : (if x13_2 < (x6_1.length : Int) then (if 0 ≤ x12_2 then (if x12_2 < ((rd_L2 x6_1 x13_2).length : Int) then (if (wrap64 ((rd (rd_L2 x6_1 (ji86)) (ji89)) + t337)) = (rd (rd_L2 x6_1 x13_2) x12_2) then (if x11_2.length < 17592186044416 then (spec_BestShelf.l3 k3 l0 a1 x6_1 (x11_2 ++ [x14_3]) ji89 ji86) else (none)) else (spec_BestShelf.l4 k3 l0 a1 x6_1 x11_2 x12_2 x13_2 (wrap64 (x14_3 - 1)))) else (none)) else (none)) else (none)) = some (r1, r2, r3, r4) := H
       have A94 := Aside0.mk A940
       clear A940
       by_cases c95 : x13_2 < (x6_1.length : Int)
       rotate_left
       ·rw [if_neg c95] at H
        exact absurd H (by simp)
       rw [if_pos c95] at H
       have c95b0 : decide (x13_2 < (x6_1.length : Int)) = true := decide_eq_true c95
       clear c95
       by_cases c96 : 0 ≤ x12_2
       rotate_left
       ·rw [if_neg c96] at H
        exact absurd H (by simp)
       rw [if_pos c96] at H
       have c96b0 : decide (0 ≤ x12_2) = true := decide_eq_true c96
       clear c96
       by_cases c97 : x12_2 < ((rd_L2 x6_1 x13_2).length : Int)
       rotate_left
       ·rw [if_neg c97] at H
        exact absurd H (by simp)
       rw [if_pos c97] at H
       have c97b0 : decide (x12_2 < ((rd_L2 x6_1 x13_2).length : Int)) = true := decide_eq_true c97
       clear c97
       by_cases c98 : (wrap64 ((rd (rd_L2 x6_1 (ji86)) (ji89)) + t337)) = (rd (rd_L2 x6_1 x13_2) x12_2)
       rotate_left
       ·rw [if_neg c98] at H
        have c98b0 : ((wrap64 ((rd (rd_L2 x6_1 (ji86)) (ji89)) + t337)) == (rd (rd_L2 x6_1 x13_2) x12_2)) = false := beq_eq_false_iff_ne.mpr c98
        have c98b1 : ((wrap64 ((rd (rd_L2 x6_1 (ji86)) (ji89)) + t337)) != (rd (rd_L2 x6_1 x13_2) x12_2)) = true := bne_iff_ne.mpr c98
        as_aux_lemma =>
         have H' := Aside0.mk H
         clear H
         try go_wp2
         have n0_ := Aside0.mk (Kd.S_drew HO_6.out)
         have n1_ := Aside0.mk (Kd.R_drew HO_11.out)
         have n2_ := Aside0.mk (blk_drew BK285.out)
         have n3_ := Aside0.mk (below_drew1 HB.out)
         clear HO_6
         clear HO_11
         clear BK285
         clear HB
         have HO_6 := n0_
         have HO_11 := n1_
         have BK285 := n2_
         have HB := n3_
         clear n0_ n1_ n2_ n3_
         have p329 : 0 ≤ (x13_2 : Int) := od_
         have q329 : x13_2 < (l0.length : Int) := od_
         obtain ⟨ad329, A329_3, c329_3, e329, hx329_0, hx329_1, hx329_2, hx329_3, hl329_3, hi329_3⟩ := at_T50 HR0.out x13_2 p329 q329
         have hw329_3 := hx329_3
         have hw329_2 := hx329_2
         have hw329_1 := hx329_1
         have hw329_0 := hx329_0
         obtain rfl : ad328 = ad329 := (by injection e329)
         replace hx329_0 := (HB.out.cell (World.block_lt_of_cell? w _ hx329_0)).trans hx329_0
         replace hx329_1 := (HB.out.cell (World.block_lt_of_cell? w _ hx329_1)).trans hx329_1
         replace hx329_2 := (HB.out.cell (World.block_lt_of_cell? w _ hx329_2)).trans hx329_2
         replace hx329_3 := (HB.out.cell (World.block_lt_of_cell? w _ hx329_3)).trans hx329_3
         have HR329_3 := Aside0.mk hi329_3
         have HC329_3 := Aside0.mk hl329_3
         clear hi329_3 hl329_3
         replace p329 := eq_true p329
         replace q329 := eq_true q329
         have p330 : 0 ≤ ((ji86) : Int) := od_
         have q330 : (ji86) < (x6_1.length : Int) := od_
         obtain ⟨ad330, A330_0, c330_0, e330, hx330_0, hl330_0, hi330_0⟩ := at_L2 (Kd.S_reads' HO_6.out).2.2 (ji86) p330 q330
         obtain rfl : (⟨go18, 0, none⟩ : Addr) = ad330 := (by injection e330)
         obtain ⟨ce330, hce330, hMe330, hcc330⟩ := Kd.S_get HO_6.out [] (ji86) p330 (by first | exact q330 | exact od_ | (have e_ := (Kd.S_reads' HO_6.out).1; omega))
         obtain ⟨ve330_0, rfl, ge330_0⟩ := hMe330
         have hv330_0 := hcc330 0 _ rfl
         rw [Nat.add_zero, show ((Kd.slice 3 (Kd.int .i64))).sz = 1 from rfl, Nat.mul_one] at hv330_0
         replace hv330_0 := Option.some.inj (hv330_0.symm.trans hx330_0)
         rw [hv330_0] at ge330_0
         have HL330_0 := Aside0.mk (show Kd.R (Kd.int .i64) 3 _ _ _ _ (rd_L2 x6_1 (ji86)) from ge330_0)
         clear hv330_0 ge330_0
         have HX330_0 := Aside0.mk hx330_0
         clear hcc330 hce330
         (first | simp only [add_plain] at hx330_0 | simp only [add_at] at hx330_0 | simp only [Addr.add, Nat.zero_add] at hx330_0 | skip)
         have HR330_0 := Aside0.mk hi330_0
         have HC330_0 := Aside0.mk hl330_0
         clear hi330_0 hl330_0
         replace p330 := eq_true p330
         replace q330 := eq_true q330
         have p331 : 0 ≤ (x13_2 : Int) := od_
         have q331 : x13_2 < (l0.length : Int) := od_
         obtain ⟨ad331, A331_3, c331_3, e331, hx331_0, hx331_1, hx331_2, hx331_3, hl331_3, hi331_3⟩ := at_T50 HR0.out x13_2 p331 q331
         have hw331_3 := hx331_3
         have hw331_2 := hx331_2
         have hw331_1 := hx331_1
         have hw331_0 := hx331_0
         obtain rfl : ad328 = ad331 := (by injection e331)
         replace hx331_0 := (HB.out.cell (World.block_lt_of_cell? w _ hx331_0)).trans hx331_0
         replace hx331_1 := (HB.out.cell (World.block_lt_of_cell? w _ hx331_1)).trans hx331_1
         replace hx331_2 := (HB.out.cell (World.block_lt_of_cell? w _ hx331_2)).trans hx331_2
         replace hx331_3 := (HB.out.cell (World.block_lt_of_cell? w _ hx331_3)).trans hx331_3
         have HR331_3 := Aside0.mk hi331_3
         have HC331_3 := Aside0.mk hl331_3
         clear hi331_3 hl331_3
         replace p331 := eq_true p331
         replace q331 := eq_true q331
         have ea_ := Option.some.inj (hx329_3.symm.trans hx331_3)
         injection ea_ with ea_ en_ ec_
         subst ea_
         subst ec_
         clear en_
         have p332 : 0 ≤ ((ji89) : Int) := od_
         have q332 : (ji89) < ((rd_L2 x6_1 (ji86)).length : Int) := od_
         obtain ⟨ad332, e332, hx332_0⟩ := Kd.at_int (by repeat (first | (with_reducible exact HR330_0.out) | (with_reducible refine Kd.C_alloc ?_ _) | (with_reducible refine Kd.C_drewN ?_ _) | (with_reducible refine Kd.C_drew ?_) | exact HR330_0.out)) (ji89) p332 q332
         cases e332
         replace p332 := eq_true p332
         replace q332 := eq_true q332
         have p333 : 0 ≤ ((ji86) : Int) := od_
         have q333 : (ji86) < (x6_1.length : Int) := od_
         obtain ⟨ad333, A333_0, c333_0, e333, hx333_0, hl333_0, hi333_0⟩ := at_L2 (Kd.S_reads' HO_6.out).2.2 (ji86) p333 q333
         obtain rfl : (⟨go18, 0, none⟩ : Addr) = ad333 := (by injection e333)
         obtain ⟨ce333, hce333, hMe333, hcc333⟩ := Kd.S_get HO_6.out [] (ji86) p333 (by first | exact q333 | exact od_ | (have e_ := (Kd.S_reads' HO_6.out).1; omega))
         obtain ⟨ve333_0, rfl, ge333_0⟩ := hMe333
         have hv333_0 := hcc333 0 _ rfl
         rw [Nat.add_zero, show ((Kd.slice 3 (Kd.int .i64))).sz = 1 from rfl, Nat.mul_one] at hv333_0
         replace hv333_0 := Option.some.inj (hv333_0.symm.trans hx333_0)
         rw [hv333_0] at ge333_0
         have HL333_0 := Aside0.mk (show Kd.R (Kd.int .i64) 3 _ _ _ _ (rd_L2 x6_1 (ji86)) from ge333_0)
         clear hv333_0 ge333_0
         have HX333_0 := Aside0.mk hx333_0
         clear hcc333 hce333
         (first | simp only [add_plain] at hx333_0 | simp only [add_at] at hx333_0 | simp only [Addr.add, Nat.zero_add] at hx333_0 | skip)
         have HR333_0 := Aside0.mk hi333_0
         have HC333_0 := Aside0.mk hl333_0
         clear hi333_0 hl333_0
         replace p333 := eq_true p333
         replace q333 := eq_true q333
         have ea_ := Option.some.inj (hx330_0.symm.trans hx333_0)
         injection ea_ with ea_ en_ ec_
         subst ea_
         subst ec_
         clear en_
         have p334 : 0 ≤ (x13_2 : Int) := od_
         have q334 : x13_2 < (l0.length : Int) := od_
         obtain ⟨ad334, A334_3, c334_3, e334, hx334_0, hx334_1, hx334_2, hx334_3, hl334_3, hi334_3⟩ := at_T50 HR0.out x13_2 p334 q334
         have hw334_3 := hx334_3
         have hw334_2 := hx334_2
         have hw334_1 := hx334_1
         have hw334_0 := hx334_0
         obtain rfl : ad328 = ad334 := (by injection e334)
         replace hx334_0 := (HB.out.cell (World.block_lt_of_cell? w _ hx334_0)).trans hx334_0
         replace hx334_1 := (HB.out.cell (World.block_lt_of_cell? w _ hx334_1)).trans hx334_1
         replace hx334_2 := (HB.out.cell (World.block_lt_of_cell? w _ hx334_2)).trans hx334_2
         replace hx334_3 := (HB.out.cell (World.block_lt_of_cell? w _ hx334_3)).trans hx334_3
         have HR334_3 := Aside0.mk hi334_3
         have HC334_3 := Aside0.mk hl334_3
         clear hi334_3 hl334_3
         replace p334 := eq_true p334
         replace q334 := eq_true q334
         have ea_ := Option.some.inj (hx329_3.symm.trans hx334_3)
         injection ea_ with ea_ en_ ec_
         subst ea_
         subst ec_
         clear en_
         have p335 : 0 ≤ ((ji89) : Int) := od_
         have q335 : (ji89) < ((rd_L2 x6_1 (ji86)).length : Int) := od_
         obtain ⟨ad335, e335, hx335_0⟩ := Kd.at_int (by repeat (first | (with_reducible exact HR333_0.out) | (with_reducible refine Kd.C_alloc ?_ _) | (with_reducible refine Kd.C_drewN ?_ _) | (with_reducible refine Kd.C_drew ?_) | exact HR333_0.out)) (ji89) p335 q335
         cases e335
         replace p335 := eq_true p335
         replace q335 := eq_true q335
         have p336 : 0 ≤ (x13_2 : Int) := od_
         have q336 : x13_2 < (l0.length : Int) := od_
         obtain ⟨ad336, A336_3, c336_3, e336, hx336_0, hx336_1, hx336_2, hx336_3, hl336_3, hi336_3⟩ := at_T50 HR0.out x13_2 p336 q336
         have hw336_3 := hx336_3
         have hw336_2 := hx336_2
         have hw336_1 := hx336_1
         have hw336_0 := hx336_0
         obtain rfl : ad328 = ad336 := (by injection e336)
         replace hx336_0 := (HB.out.cell (World.block_lt_of_cell? w _ hx336_0)).trans hx336_0
         replace hx336_1 := (HB.out.cell (World.block_lt_of_cell? w _ hx336_1)).trans hx336_1
         replace hx336_2 := (HB.out.cell (World.block_lt_of_cell? w _ hx336_2)).trans hx336_2
         replace hx336_3 := (HB.out.cell (World.block_lt_of_cell? w _ hx336_3)).trans hx336_3
         have HR336_3 := Aside0.mk hi336_3
         have HC336_3 := Aside0.mk hl336_3
         clear hi336_3 hl336_3
         replace p336 := eq_true p336
         replace q336 := eq_true q336
         have ea_ := Option.some.inj (hx329_3.symm.trans hx336_3)
         injection ea_ with ea_ en_ ec_
         subst ea_
         subst ec_
         clear en_
         have p338 : 0 ≤ (x13_2 : Int) := od_
         have q338 : x13_2 < (x6_1.length : Int) := od_
         obtain ⟨ad338, A338_0, c338_0, e338, hx338_0, hl338_0, hi338_0⟩ := at_L2 (Kd.S_reads' HO_6.out).2.2 x13_2 p338 q338
         obtain rfl : (⟨go18, 0, none⟩ : Addr) = ad338 := (by injection e338)
         obtain ⟨ce338, hce338, hMe338, hcc338⟩ := Kd.S_get HO_6.out [] x13_2 p338 (by first | exact q338 | exact od_ | (have e_ := (Kd.S_reads' HO_6.out).1; omega))
         obtain ⟨ve338_0, rfl, ge338_0⟩ := hMe338
         have hv338_0 := hcc338 0 _ rfl
         rw [Nat.add_zero, show ((Kd.slice 3 (Kd.int .i64))).sz = 1 from rfl, Nat.mul_one] at hv338_0
         replace hv338_0 := Option.some.inj (hv338_0.symm.trans hx338_0)
         rw [hv338_0] at ge338_0
         have HL338_0 := Aside0.mk (show Kd.R (Kd.int .i64) 3 _ _ _ _ (rd_L2 x6_1 x13_2) from ge338_0)
         clear hv338_0 ge338_0
         have HX338_0 := Aside0.mk hx338_0
         clear hcc338 hce338
         (first | simp only [add_plain] at hx338_0 | simp only [add_at] at hx338_0 | simp only [Addr.add, Nat.zero_add] at hx338_0 | skip)
         have HR338_0 := Aside0.mk hi338_0
         have HC338_0 := Aside0.mk hl338_0
         clear hi338_0 hl338_0
         replace p338 := eq_true p338
         replace q338 := eq_true q338
         have p339 : 0 ≤ (x12_2 : Int) := od_
         have q339 : x12_2 < ((rd_L2 x6_1 x13_2).length : Int) := od_
         obtain ⟨ad339, e339, hx339_0⟩ := Kd.at_int (by repeat (first | (with_reducible exact HR338_0.out) | (with_reducible refine Kd.C_alloc ?_ _) | (with_reducible refine Kd.C_drewN ?_ _) | (with_reducible refine Kd.C_drew ?_) | exact HR338_0.out)) x12_2 p339 q339
         cases e339
         replace p339 := eq_true p339
         replace q339 := eq_true q339
         refine start_ (n := 61) (S := fun w' => w'.cell? (ad328.add ((x13_2).toNat * 4)) = some (.string ((rd_T50 l0 x13_2).f0)) ∧ w'.cell? ⟨(ad328.add ((x13_2).toNat * 4)).block, (ad328.add ((x13_2).toNat * 4)).off + 1, none⟩ = some (.int .i64 ((rd_T50 l0 x13_2).f1)) ∧ w'.cell? ⟨(ad328.add ((x13_2).toNat * 4)).block, (ad328.add ((x13_2).toNat * 4)).off + 2, none⟩ = some (.int .i64 ((rd_T50 l0 x13_2).f2)) ∧ w'.cell? ⟨(ad328.add ((x13_2).toNat * 4)).block, (ad328.add ((x13_2).toNat * 4)).off + 3, none⟩ = some (.slice A329_3 ((rd_T50 l0 x13_2).f3).length c329_3) ∧ w'.cell? ⟨go18, ((ji86)).toNat, none⟩ = some (.slice (some ad332) (rd_L2 x6_1 (ji86)).length c330_0) ∧ w'.cell? (ad328.add ((x13_2).toNat * 4)) = some (.string ((rd_T50 l0 x13_2).f0)) ∧ w'.cell? ⟨(ad328.add ((x13_2).toNat * 4)).block, (ad328.add ((x13_2).toNat * 4)).off + 1, none⟩ = some (.int .i64 ((rd_T50 l0 x13_2).f1)) ∧ w'.cell? ⟨(ad328.add ((x13_2).toNat * 4)).block, (ad328.add ((x13_2).toNat * 4)).off + 2, none⟩ = some (.int .i64 ((rd_T50 l0 x13_2).f2)) ∧ w'.cell? ⟨(ad328.add ((x13_2).toNat * 4)).block, (ad328.add ((x13_2).toNat * 4)).off + 3, none⟩ = some (.slice A329_3 ((rd_T50 l0 x13_2).f3).length c329_3) ∧ w'.cell? (ad332.add ((ji89)).toNat) = some (.int .i64 (rd (rd_L2 x6_1 (ji86)) (ji89))) ∧ w'.cell? ⟨go18, ((ji86)).toNat, none⟩ = some (.slice (some ad332) (rd_L2 x6_1 (ji86)).length c330_0) ∧ w'.cell? (ad328.add ((x13_2).toNat * 4)) = some (.string ((rd_T50 l0 x13_2).f0)) ∧ w'.cell? ⟨(ad328.add ((x13_2).toNat * 4)).block, (ad328.add ((x13_2).toNat * 4)).off + 1, none⟩ = some (.int .i64 ((rd_T50 l0 x13_2).f1)) ∧ w'.cell? ⟨(ad328.add ((x13_2).toNat * 4)).block, (ad328.add ((x13_2).toNat * 4)).off + 2, none⟩ = some (.int .i64 ((rd_T50 l0 x13_2).f2)) ∧ w'.cell? ⟨(ad328.add ((x13_2).toNat * 4)).block, (ad328.add ((x13_2).toNat * 4)).off + 3, none⟩ = some (.slice A329_3 ((rd_T50 l0 x13_2).f3).length c329_3) ∧ w'.cell? (ad332.add ((ji89)).toNat) = some (.int .i64 (rd (rd_L2 x6_1 (ji86)) (ji89))) ∧ w'.cell? (ad328.add ((x13_2).toNat * 4)) = some (.string ((rd_T50 l0 x13_2).f0)) ∧ w'.cell? ⟨(ad328.add ((x13_2).toNat * 4)).block, (ad328.add ((x13_2).toNat * 4)).off + 1, none⟩ = some (.int .i64 ((rd_T50 l0 x13_2).f1)) ∧ w'.cell? ⟨(ad328.add ((x13_2).toNat * 4)).block, (ad328.add ((x13_2).toNat * 4)).off + 2, none⟩ = some (.int .i64 ((rd_T50 l0 x13_2).f2)) ∧ w'.cell? ⟨(ad328.add ((x13_2).toNat * 4)).block, (ad328.add ((x13_2).toNat * 4)).off + 3, none⟩ = some (.slice A329_3 ((rd_T50 l0 x13_2).f3).length c329_3) ∧ w'.cell? ⟨go18, (x13_2).toNat, none⟩ = some (.slice (some ad339) (rd_L2 x6_1 x13_2).length c338_0) ∧ w'.cell? (ad339.add (x12_2).toNat) = some (.int .i64 (rd (rd_L2 x6_1 x13_2) x12_2))) (ds := []) (msk 0 61) (by kernel_rfl) rfl rfl ⟨((HB.out.cell (World.block_lt_of_cell? w _ hw329_0)).trans hw329_0), ((HB.out.cell (World.block_lt_of_cell? w _ hw329_1)).trans hw329_1), ((HB.out.cell (World.block_lt_of_cell? w _ hw329_2)).trans hw329_2), ((HB.out.cell (World.block_lt_of_cell? w _ hw329_3)).trans hw329_3), hx330_0, ((HB.out.cell (World.block_lt_of_cell? w _ hw331_0)).trans hw331_0), ((HB.out.cell (World.block_lt_of_cell? w _ hw331_1)).trans hw331_1), ((HB.out.cell (World.block_lt_of_cell? w _ hw331_2)).trans hw331_2), ((HB.out.cell (World.block_lt_of_cell? w _ hw331_3)).trans hw331_3), hx332_0, hx333_0, ((HB.out.cell (World.block_lt_of_cell? w _ hw334_0)).trans hw334_0), ((HB.out.cell (World.block_lt_of_cell? w _ hw334_1)).trans hw334_1), ((HB.out.cell (World.block_lt_of_cell? w _ hw334_2)).trans hw334_2), ((HB.out.cell (World.block_lt_of_cell? w _ hw334_3)).trans hw334_3), hx335_0, ((HB.out.cell (World.block_lt_of_cell? w _ hw336_0)).trans hw336_0), ((HB.out.cell (World.block_lt_of_cell? w _ hw336_1)).trans hw336_1), ((HB.out.cell (World.block_lt_of_cell? w _ hw336_2)).trans hw336_2), ((HB.out.cell (World.block_lt_of_cell? w _ hw336_3)).trans hw336_3), hx338_0, hx339_0⟩ (fun hHeld => ?_); refine with_tabW spec_BestShelf.tab31 spec_BestShelf.bits31 (fun HT_ HW_ => ?_)
         generalize wr.drew = w103 at HO_6 HO_11 BK285 HB HL330_0 HL333_0 HL338_0 HR329_3 HR330_0 HR331_3 HR333_0 HR334_3 HR336_3 HR338_0 HX330_0 HX333_0 HX338_0 hx329_0 hx329_1 hx329_2 hx329_3 hx330_0 hx331_0 hx331_1 hx331_2 hx331_3 hx332_0 hx333_0 hx334_0 hx334_1 hx334_2 hx334_3 hx335_0 hx336_0 hx336_1 hx336_2 hx336_3 hx338_0 hx339_0 hHeld ⊢
         refine pu_ 0 150 (msk 1 60) HT_.out ?_; refine pu_ 1 151 (msk 2 59) HT_.out ?_; refine pu_ 2 152 (msk 3 58) HT_.out ?_; refine pu_ 3 153 (msk 4 57) HT_.out ?_; refine pu_ 4 154 (msk 5 56) HT_.out ?_; refine pu_ 7 157 (mskl 61 5 [7]) HT_.out ?_
         refine tk_ 5 155 (mskl 61 6 [7]) HT_.out HW_.out hHeld ?_ (hy := by rintro w' ⟨s0, s1, s2, s3, s4, s5, s6, s7, s8, s9, s10, s11, s12, s13, s14, s15, s16, s17, s18, s19, s20, s21⟩; go_simp; with_reducible rfl)
         refine pu_ 6 156 (msk 8 53) HT_.out ?_; refine pu_ 8 158 (msk 9 52) HT_.out ?_; refine pu_ 9 159 (msk 10 51) HT_.out ?_; refine pu_ 10 160 (msk 11 50) HT_.out ?_; refine pu_ 11 161 (msk 12 49) HT_.out ?_; refine pu_ 12 162 (msk 13 48) HT_.out ?_; refine pu_ 13 163 (msk 14 47) HT_.out ?_; refine pu_ 15 165 (mskl 61 14 [15]) HT_.out ?_; refine pu_ 16 166 (mskl 61 14 [15, 16]) HT_.out ?_; refine pu_ 17 167 (mskl 61 14 [15, 16, 17]) HT_.out ?_; refine pu_ 18 168 (mskl 61 14 [15, 16, 17, 18]) HT_.out ?_; refine pu_ 19 169 (mskl 61 14 [15, 16, 17, 18, 19]) HT_.out ?_; refine pu_ 20 170 (mskl 61 14 [15, 16, 17, 18, 19, 20]) HT_.out ?_
         refine tk_ 14 164 (msk 21 40) HT_.out HW_.out hHeld ?_ (hy := by rintro w' ⟨s0, s1, s2, s3, s4, s5, s6, s7, s8, s9, s10, s11, s12, s13, s14, s15, s16, s17, s18, s19, s20, s21⟩; go_simp; with_reducible rfl)
         refine tk_ 21 171 (msk 22 39) HT_.out HW_.out hHeld ?_ (hy := by rintro w' ⟨s0, s1, s2, s3, s4, s5, s6, s7, s8, s9, s10, s11, s12, s13, s14, s15, s16, s17, s18, s19, s20, s21⟩; go_simp; with_reducible rfl)
         refine pu_ 22 172 (msk 23 38) HT_.out ?_; refine pu_ 23 173 (msk 24 37) HT_.out ?_; refine pu_ 24 174 (msk 25 36) HT_.out ?_
         refine tk_ 25 175 (msk 26 35) HT_.out HW_.out hHeld ?_ (hy := by rintro w' ⟨s0, s1, s2, s3, s4, s5, s6, s7, s8, s9, s10, s11, s12, s13, s14, s15, s16, s17, s18, s19, s20, s21⟩; go_simp; with_reducible rfl)
         refine pu_ 26 176 (msk 27 34) HT_.out ?_; refine pu_ 27 177 (msk 28 33) HT_.out ?_; refine pu_ 28 178 (msk 29 32) HT_.out ?_; refine pu_ 29 179 (msk 30 31) HT_.out ?_; refine pu_ 30 180 (msk 31 30) HT_.out ?_; refine pu_ 31 181 (msk 32 29) HT_.out ?_; refine pu_ 32 182 (msk 33 28) HT_.out ?_; refine pu_ 34 184 (mskl 61 33 [34]) HT_.out ?_; refine pu_ 35 185 (mskl 61 33 [34, 35]) HT_.out ?_; refine pu_ 36 186 (mskl 61 33 [34, 35, 36]) HT_.out ?_; refine pu_ 37 187 (mskl 61 33 [34, 35, 36, 37]) HT_.out ?_; refine pu_ 38 188 (mskl 61 33 [34, 35, 36, 37, 38]) HT_.out ?_; refine pu_ 39 189 (mskl 61 33 [34, 35, 36, 37, 38, 39]) HT_.out ?_; refine pu_ 45 195 (mskl 61 33 [34, 35, 36, 37, 38, 39, 45]) HT_.out ?_; refine pu_ 46 196 (mskl 61 33 [34, 35, 36, 37, 38, 39, 45, 46]) HT_.out ?_; refine pu_ 47 197 (mskl 61 33 [34, 35, 36, 37, 38, 39, 45, 46, 47]) HT_.out ?_; refine pu_ 49 199 (mskl 61 33 [34, 35, 36, 37, 38, 39, 45, 46, 47, 49]) HT_.out ?_; refine pu_ 52 202 (mskl 61 33 [34, 35, 36, 37, 38, 39, 45, 46, 47, 49, 52]) HT_.out ?_; refine pu_ 53 203 (mskl 61 33 [34, 35, 36, 37, 38, 39, 45, 46, 47, 49, 52, 53]) HT_.out ?_; refine pu_ 54 204 (mskl 61 33 [34, 35, 36, 37, 38, 39, 45, 46, 47, 49, 52, 53, 54]) HT_.out ?_; refine pu_ 56 206 (mskl 61 33 [34, 35, 36, 37, 38, 39, 45, 46, 47, 49, 52, 53, 54, 56]) HT_.out ?_
         refine tk_ 33 183 (mskl 61 40 [45, 46, 47, 49, 52, 53, 54, 56]) HT_.out HW_.out hHeld ?_ (hy := by rintro w' ⟨s0, s1, s2, s3, s4, s5, s6, s7, s8, s9, s10, s11, s12, s13, s14, s15, s16, s17, s18, s19, s20, s21⟩; go_simp; with_reducible rfl)
         refine tk_ 40 190 (mskl 61 41 [45, 46, 47, 49, 52, 53, 54, 56]) HT_.out HW_.out hHeld ?_ (hy := by rintro w' ⟨s0, s1, s2, s3, s4, s5, s6, s7, s8, s9, s10, s11, s12, s13, s14, s15, s16, s17, s18, s19, s20, s21⟩; go_simp; with_reducible rfl)
         refine pu_ 41 191 (mskl 61 42 [45, 46, 47, 49, 52, 53, 54, 56]) HT_.out ?_; refine pu_ 42 192 (mskl 61 43 [45, 46, 47, 49, 52, 53, 54, 56]) HT_.out ?_; refine pu_ 43 193 (mskl 61 44 [45, 46, 47, 49, 52, 53, 54, 56]) HT_.out ?_
         refine tk_ 44 194 (mskl 61 48 [49, 52, 53, 54, 56]) HT_.out HW_.out hHeld ?_ (hy := by rintro w' ⟨s0, s1, s2, s3, s4, s5, s6, s7, s8, s9, s10, s11, s12, s13, s14, s15, s16, s17, s18, s19, s20, s21⟩; go_simp; with_reducible rfl)
         refine tk_ 48 198 (mskl 61 50 [52, 53, 54, 56]) HT_.out HW_.out hHeld ?_ (hy := by rintro w' ⟨s0, s1, s2, s3, s4, s5, s6, s7, s8, s9, s10, s11, s12, s13, s14, s15, s16, s17, s18, s19, s20, s21⟩; go_simp; with_reducible rfl)
         refine tk_ 55 205 (mskl 61 50 [52, 53, 54, 55, 56]) HT_.out HW_.out hHeld ?_ (hy := by rintro w' ⟨s0, s1, s2, s3, s4, s5, s6, s7, s8, s9, s10, s11, s12, s13, s14, s15, s16, s17, s18, s19, s20, s21⟩; go_simp; with_reducible rfl)
         refine pu_ 57 207 (mskl 61 50 [52, 53, 54, 55, 56, 57]) HT_.out ?_
         refine tk_ 58 208 (mskl 61 50 [52, 53, 54, 55, 56, 57, 58]) HT_.out HW_.out hHeld ?_ (hy := by rintro w' ⟨s0, s1, s2, s3, s4, s5, s6, s7, s8, s9, s10, s11, s12, s13, s14, s15, s16, s17, s18, s19, s20, s21⟩; go_simp; with_reducible rfl)
         refine one_ (i := 50) (N := some 200) (mskl 61 51 [52, 53, 54, 55, 56, 57, 58]) rfl rfl (one_of HT_.out (by kernel_rfl)) (by decide) (fun K hK => ?_)
         refine goes_ Try.func31 (by kernel_rfl) rfl #[.agg #[.string ((rd_T50 l0 x13_2).f0), .int .i64 ((rd_T50 l0 x13_2).f1), .int .i64 ((rd_T50 l0 x13_2).f2), .slice A329_3 ((rd_T50 l0 x13_2).f3).length c329_3], .int .i64 x14_3] (by rfl) rfl rfl (by (try simp only [List.map_toArray, List.map_cons, List.map_nil]); first | done | rfl | (simp only [List.length_drop, List.length_take]; rfl)) ?_
         with_reducible refine (spec_l13Gain.calls k3 ((rd_T50 l0 x13_2).f0) ((rd_T50 l0 x13_2).f1) ((rd_T50 l0 x13_2).f2) _ _ ((rd_T50 l0 x13_2).f3) x14_3 t337 _ ?side1 ?side2 A94.out).mono ?_
         (case side1 => repeat (first | exact (Kd.C_below HR336_3.out HB.out) | (with_reducible refine Kd.C_alloc ?_ _) | (with_reducible refine Kd.C_drewN ?_ _) | (with_reducible refine Kd.C_drew ?_)))
         (case side2 => exact HC336_3.out)
         rintro e w104 ⟨rfl, hb⟩
         have HS4_ := (hb.cell (World.block_lt_of_cell? _ _ (hHeld.2.2.2.2.1))).trans (hHeld.2.2.2.2.1)
         have HS9_ := (hb.cell (World.block_lt_of_cell? _ _ (hHeld.2.2.2.2.2.2.2.2.2.1))).trans (hHeld.2.2.2.2.2.2.2.2.2.1)
         have HS10_ := (hb.cell (World.block_lt_of_cell? _ _ (hHeld.2.2.2.2.2.2.2.2.2.2.1))).trans (hHeld.2.2.2.2.2.2.2.2.2.2.1)
         have HS15_ := (hb.cell (World.block_lt_of_cell? _ _ (hHeld.2.2.2.2.2.2.2.2.2.2.2.2.2.2.2.1))).trans (hHeld.2.2.2.2.2.2.2.2.2.2.2.2.2.2.2.1)
         have HS20_ := (hb.cell (World.block_lt_of_cell? _ _ (hHeld.2.2.2.2.2.2.2.2.2.2.2.2.2.2.2.2.2.2.2.2.1))).trans (hHeld.2.2.2.2.2.2.2.2.2.2.2.2.2.2.2.2.2.2.2.2.1)
         have HS21_ := (hb.cell (World.block_lt_of_cell? _ _ (hHeld.2.2.2.2.2.2.2.2.2.2.2.2.2.2.2.2.2.2.2.2.2))).trans (hHeld.2.2.2.2.2.2.2.2.2.2.2.2.2.2.2.2.2.2.2.2.2)
         refine ⟨_, rfl, ?_⟩
         have n0_ := Aside0.mk (Kd.S_below (by (with_reducible repeat (first | apply Kd.S_alloc | apply Kd.S_drewN | apply Kd.S_drew)); exact HO_6.out) hb)
         have n1_ := Aside0.mk (Kd.R_below (by (with_reducible repeat (first | apply Kd.R_alloc | apply Kd.R_drewN | apply Kd.R_drew)); exact HO_11.out) hb)
         have n2_ := Aside0.mk (Kd.R_below (by (with_reducible repeat (first | apply Kd.R_alloc | apply Kd.R_drewN | apply Kd.R_drew)); exact HL330_0.out) hb)
         have n3_ := Aside0.mk (Kd.R_below (by (with_reducible repeat (first | apply Kd.R_alloc | apply Kd.R_drewN | apply Kd.R_drew)); exact HL333_0.out) hb)
         have n4_ := Aside0.mk (Kd.R_below (by (with_reducible repeat (first | apply Kd.R_alloc | apply Kd.R_drewN | apply Kd.R_drew)); exact HL338_0.out) hb)
         have n5_ := Aside0.mk (blk_below (g := gb285) (o := .cells #[.slice none 0 0, .int .i64 0, .int .i64 0] 31 (0, 0)) bk_ hb)
         have n6_ := Aside0.mk (Kd.C_below (by repeat (first | (with_reducible exact HR330_0.out) | (with_reducible refine Kd.C_alloc ?_ _) | (with_reducible refine Kd.C_drewN ?_ _) | (with_reducible refine Kd.C_drew ?_) | exact HR330_0.out)) hb)
         have n7_ := Aside0.mk (pw_cell_below hb HX330_0.out)
         have n8_ := Aside0.mk (Kd.C_below (by repeat (first | (with_reducible exact HR333_0.out) | (with_reducible refine Kd.C_alloc ?_ _) | (with_reducible refine Kd.C_drewN ?_ _) | (with_reducible refine Kd.C_drew ?_) | exact HR333_0.out)) hb)
         have n9_ := Aside0.mk (pw_cell_below hb HX333_0.out)
         have n10_ := Aside0.mk (Kd.C_below (by repeat (first | (with_reducible exact HR338_0.out) | (with_reducible refine Kd.C_alloc ?_ _) | (with_reducible refine Kd.C_drewN ?_ _) | (with_reducible refine Kd.C_drew ?_) | exact HR338_0.out)) hb)
         have n11_ := Aside0.mk (pw_cell_below hb HX338_0.out)
         have n12_ := Aside0.mk (below_step bl_ hb)
         clear HO_6
         clear HO_11
         clear HL330_0
         clear HL333_0
         clear HL338_0
         clear BK285
         clear HR330_0
         clear HX330_0
         clear HR333_0
         clear HX333_0
         clear HR338_0
         clear HX338_0
         clear HB
         have HO_6 := n0_
         have HO_11 := n1_
         have HL330_0 := n2_
         have HL333_0 := n3_
         have HL338_0 := n4_
         have BK285 := n5_
         have HR330_0 := n6_
         have HX330_0 := n7_
         have HR333_0 := n8_
         have HX333_0 := n9_
         have HR338_0 := n10_
         have HX338_0 := n11_
         have HB := n12_
         clear n0_ n1_ n2_ n3_ n4_ n5_ n6_ n7_ n8_ n9_ n10_ n11_ n12_
         (try clear hb)
         (try clear hb2)
         (try clear hk)
         (try clear hi)
         refine hK.out _ _ ⟨((HB.out.cell (World.block_lt_of_cell? w _ hw329_0)).trans hw329_0), ((HB.out.cell (World.block_lt_of_cell? w _ hw329_1)).trans hw329_1), ((HB.out.cell (World.block_lt_of_cell? w _ hw329_2)).trans hw329_2), ((HB.out.cell (World.block_lt_of_cell? w _ hw329_3)).trans hw329_3), HS4_, ((HB.out.cell (World.block_lt_of_cell? w _ hw331_0)).trans hw331_0), ((HB.out.cell (World.block_lt_of_cell? w _ hw331_1)).trans hw331_1), ((HB.out.cell (World.block_lt_of_cell? w _ hw331_2)).trans hw331_2), ((HB.out.cell (World.block_lt_of_cell? w _ hw331_3)).trans hw331_3), HS9_, HS10_, ((HB.out.cell (World.block_lt_of_cell? w _ hw334_0)).trans hw334_0), ((HB.out.cell (World.block_lt_of_cell? w _ hw334_1)).trans hw334_1), ((HB.out.cell (World.block_lt_of_cell? w _ hw334_2)).trans hw334_2), ((HB.out.cell (World.block_lt_of_cell? w _ hw334_3)).trans hw334_3), HS15_, ((HB.out.cell (World.block_lt_of_cell? w _ hw336_0)).trans hw336_0), ((HB.out.cell (World.block_lt_of_cell? w _ hw336_1)).trans hw336_1), ((HB.out.cell (World.block_lt_of_cell? w _ hw336_2)).trans hw336_2), ((HB.out.cell (World.block_lt_of_cell? w _ hw336_3)).trans hw336_3), HS20_, HS21_⟩ (fun hHeld => ?_)
         clear hK K
         refine norm_ (a' := ?_) ?_ ?_
         rotate_left
         ·show Act.put _ (some 200) _ = _
          simp only [Act.put, List.setIfInBounds_toArray, List.set_cons_zero, List.set_cons_succ, i64_w, i32_w]
          rfl
         refine pu_ 51 201 (msk 59 2) HT_.out ?_; refine pu_ 59 209 (msk 60 1) HT_.out ?_; refine pu_ 60 210 (msk 61 0) HT_.out ?_
         refine done_ (done_of HT_.out (by kernel_rfl)) ?_
         try go_wp2
         go_roundg k3
         case measure => have := HK1.out; have := HK2.out; have := HK3.out; omega
         case rel => exact ⟨(wrap64 (x14_3 - 1)), (by first | rfl | (simp; done) | (simp [*]; done)), H', ⟨by have := HK1.out; have := HK2.out; have := HK3.out; omega⟩, ⟨by (try simp only [hl6_1]); (with_reducible repeat (first | apply Kd.S_alloc | apply Kd.S_drewN | apply Kd.S_drew)); exact HO_6.out⟩, ⟨by (try simp only [hl6_1]); (with_reducible repeat (first | apply Kd.R_alloc | apply Kd.R_drewN | apply Kd.R_drew)); exact HO_11.out⟩, ⟨by (try simp only [hl6_1]); (with_reducible repeat (first | refine blk_drewN ?_ _ | refine blk_drew ?_ | refine blk_alloc ?_ _)); exact BK285.out⟩, ⟨by repeat (first | (with_reducible first | exact HB.out | apply below_alloc | apply pw_below_drewN | apply below_drew1 | refine below_set ?_ GE285.out) | exact HB.out)⟩⟩
       rw [if_pos c98] at H
       have c98b0 : ((wrap64 ((rd (rd_L2 x6_1 (ji86)) (ji89)) + t337)) == (rd (rd_L2 x6_1 x13_2) x12_2)) = true := beq_iff_eq.mpr c98
       have c98b1 : ((wrap64 ((rd (rd_L2 x6_1 (ji86)) (ji89)) + t337)) != (rd (rd_L2 x6_1 x13_2) x12_2)) = false := bne_eq_false_iff_eq.mpr c98
       clear c98
       by_cases c99 : x11_2.length < 17592186044416
       rotate_left
       ·rw [if_neg c99] at H
        exact absurd H (by simp)
       rw [if_pos c99] at H
       have LMc99 := Aside0.mk c99
       clear c99
       obtain ⟨y340, hy340⟩ : ∃ y_ : List Int, y_ = (x11_2 ++ [x14_3]) := ⟨_, rfl⟩
       replace H : (spec_BestShelf.l3 k3 l0 a1 x6_1 y340 ji89 ji86) = some (r1, r2, r3, r4) := by first | (rw [hy340]; with_reducible exact H) | (have H2_ := (Option.bind_some _ _).symm.trans H; rw [hy340]; with_reducible exact H2_) | (have H2_ := (Option.bind_some _ _).symm.trans H; with_reducible exact H2_) | with_reducible exact H | (rw [hy340]; exact H) | exact H
       have Ny340 := Aside0.mk hy340
       clear hy340
       as_aux_lemma =>
        have H' := Aside0.mk H
        clear H
        try go_wp2
        have n0_ := Aside0.mk (Kd.S_drew HO_6.out)
        have n1_ := Aside0.mk (Kd.R_drew HO_11.out)
        have n2_ := Aside0.mk (blk_drew BK285.out)
        have n3_ := Aside0.mk (below_drew1 HB.out)
        clear HO_6
        clear HO_11
        clear BK285
        clear HB
        have HO_6 := n0_
        have HO_11 := n1_
        have BK285 := n2_
        have HB := n3_
        clear n0_ n1_ n2_ n3_
        have p329 : 0 ≤ (x13_2 : Int) := od_
        have q329 : x13_2 < (l0.length : Int) := od_
        obtain ⟨ad329, A329_3, c329_3, e329, hx329_0, hx329_1, hx329_2, hx329_3, hl329_3, hi329_3⟩ := at_T50 HR0.out x13_2 p329 q329
        have hw329_3 := hx329_3
        have hw329_2 := hx329_2
        have hw329_1 := hx329_1
        have hw329_0 := hx329_0
        obtain rfl : ad328 = ad329 := (by injection e329)
        replace hx329_0 := (HB.out.cell (World.block_lt_of_cell? w _ hx329_0)).trans hx329_0
        replace hx329_1 := (HB.out.cell (World.block_lt_of_cell? w _ hx329_1)).trans hx329_1
        replace hx329_2 := (HB.out.cell (World.block_lt_of_cell? w _ hx329_2)).trans hx329_2
        replace hx329_3 := (HB.out.cell (World.block_lt_of_cell? w _ hx329_3)).trans hx329_3
        have HR329_3 := Aside0.mk hi329_3
        have HC329_3 := Aside0.mk hl329_3
        clear hi329_3 hl329_3
        replace p329 := eq_true p329
        replace q329 := eq_true q329
        have p330 : 0 ≤ ((ji86) : Int) := od_
        have q330 : (ji86) < (x6_1.length : Int) := od_
        obtain ⟨ad330, A330_0, c330_0, e330, hx330_0, hl330_0, hi330_0⟩ := at_L2 (Kd.S_reads' HO_6.out).2.2 (ji86) p330 q330
        obtain rfl : (⟨go18, 0, none⟩ : Addr) = ad330 := (by injection e330)
        obtain ⟨ce330, hce330, hMe330, hcc330⟩ := Kd.S_get HO_6.out [] (ji86) p330 (by first | exact q330 | exact od_ | (have e_ := (Kd.S_reads' HO_6.out).1; omega))
        obtain ⟨ve330_0, rfl, ge330_0⟩ := hMe330
        have hv330_0 := hcc330 0 _ rfl
        rw [Nat.add_zero, show ((Kd.slice 3 (Kd.int .i64))).sz = 1 from rfl, Nat.mul_one] at hv330_0
        replace hv330_0 := Option.some.inj (hv330_0.symm.trans hx330_0)
        rw [hv330_0] at ge330_0
        have HL330_0 := Aside0.mk (show Kd.R (Kd.int .i64) 3 _ _ _ _ (rd_L2 x6_1 (ji86)) from ge330_0)
        clear hv330_0 ge330_0
        have HX330_0 := Aside0.mk hx330_0
        clear hcc330 hce330
        (first | simp only [add_plain] at hx330_0 | simp only [add_at] at hx330_0 | simp only [Addr.add, Nat.zero_add] at hx330_0 | skip)
        have HR330_0 := Aside0.mk hi330_0
        have HC330_0 := Aside0.mk hl330_0
        clear hi330_0 hl330_0
        replace p330 := eq_true p330
        replace q330 := eq_true q330
        have p331 : 0 ≤ (x13_2 : Int) := od_
        have q331 : x13_2 < (l0.length : Int) := od_
        obtain ⟨ad331, A331_3, c331_3, e331, hx331_0, hx331_1, hx331_2, hx331_3, hl331_3, hi331_3⟩ := at_T50 HR0.out x13_2 p331 q331
        have hw331_3 := hx331_3
        have hw331_2 := hx331_2
        have hw331_1 := hx331_1
        have hw331_0 := hx331_0
        obtain rfl : ad328 = ad331 := (by injection e331)
        replace hx331_0 := (HB.out.cell (World.block_lt_of_cell? w _ hx331_0)).trans hx331_0
        replace hx331_1 := (HB.out.cell (World.block_lt_of_cell? w _ hx331_1)).trans hx331_1
        replace hx331_2 := (HB.out.cell (World.block_lt_of_cell? w _ hx331_2)).trans hx331_2
        replace hx331_3 := (HB.out.cell (World.block_lt_of_cell? w _ hx331_3)).trans hx331_3
        have HR331_3 := Aside0.mk hi331_3
        have HC331_3 := Aside0.mk hl331_3
        clear hi331_3 hl331_3
        replace p331 := eq_true p331
        replace q331 := eq_true q331
        have ea_ := Option.some.inj (hx329_3.symm.trans hx331_3)
        injection ea_ with ea_ en_ ec_
        subst ea_
        subst ec_
        clear en_
        have p332 : 0 ≤ ((ji89) : Int) := od_
        have q332 : (ji89) < ((rd_L2 x6_1 (ji86)).length : Int) := od_
        obtain ⟨ad332, e332, hx332_0⟩ := Kd.at_int (by repeat (first | (with_reducible exact HR330_0.out) | (with_reducible refine Kd.C_alloc ?_ _) | (with_reducible refine Kd.C_drewN ?_ _) | (with_reducible refine Kd.C_drew ?_) | exact HR330_0.out)) (ji89) p332 q332
        cases e332
        replace p332 := eq_true p332
        replace q332 := eq_true q332
        have p333 : 0 ≤ ((ji86) : Int) := od_
        have q333 : (ji86) < (x6_1.length : Int) := od_
        obtain ⟨ad333, A333_0, c333_0, e333, hx333_0, hl333_0, hi333_0⟩ := at_L2 (Kd.S_reads' HO_6.out).2.2 (ji86) p333 q333
        obtain rfl : (⟨go18, 0, none⟩ : Addr) = ad333 := (by injection e333)
        obtain ⟨ce333, hce333, hMe333, hcc333⟩ := Kd.S_get HO_6.out [] (ji86) p333 (by first | exact q333 | exact od_ | (have e_ := (Kd.S_reads' HO_6.out).1; omega))
        obtain ⟨ve333_0, rfl, ge333_0⟩ := hMe333
        have hv333_0 := hcc333 0 _ rfl
        rw [Nat.add_zero, show ((Kd.slice 3 (Kd.int .i64))).sz = 1 from rfl, Nat.mul_one] at hv333_0
        replace hv333_0 := Option.some.inj (hv333_0.symm.trans hx333_0)
        rw [hv333_0] at ge333_0
        have HL333_0 := Aside0.mk (show Kd.R (Kd.int .i64) 3 _ _ _ _ (rd_L2 x6_1 (ji86)) from ge333_0)
        clear hv333_0 ge333_0
        have HX333_0 := Aside0.mk hx333_0
        clear hcc333 hce333
        (first | simp only [add_plain] at hx333_0 | simp only [add_at] at hx333_0 | simp only [Addr.add, Nat.zero_add] at hx333_0 | skip)
        have HR333_0 := Aside0.mk hi333_0
        have HC333_0 := Aside0.mk hl333_0
        clear hi333_0 hl333_0
        replace p333 := eq_true p333
        replace q333 := eq_true q333
        have ea_ := Option.some.inj (hx330_0.symm.trans hx333_0)
        injection ea_ with ea_ en_ ec_
        subst ea_
        subst ec_
        clear en_
        have p334 : 0 ≤ (x13_2 : Int) := od_
        have q334 : x13_2 < (l0.length : Int) := od_
        obtain ⟨ad334, A334_3, c334_3, e334, hx334_0, hx334_1, hx334_2, hx334_3, hl334_3, hi334_3⟩ := at_T50 HR0.out x13_2 p334 q334
        have hw334_3 := hx334_3
        have hw334_2 := hx334_2
        have hw334_1 := hx334_1
        have hw334_0 := hx334_0
        obtain rfl : ad328 = ad334 := (by injection e334)
        replace hx334_0 := (HB.out.cell (World.block_lt_of_cell? w _ hx334_0)).trans hx334_0
        replace hx334_1 := (HB.out.cell (World.block_lt_of_cell? w _ hx334_1)).trans hx334_1
        replace hx334_2 := (HB.out.cell (World.block_lt_of_cell? w _ hx334_2)).trans hx334_2
        replace hx334_3 := (HB.out.cell (World.block_lt_of_cell? w _ hx334_3)).trans hx334_3
        have HR334_3 := Aside0.mk hi334_3
        have HC334_3 := Aside0.mk hl334_3
        clear hi334_3 hl334_3
        replace p334 := eq_true p334
        replace q334 := eq_true q334
        have ea_ := Option.some.inj (hx329_3.symm.trans hx334_3)
        injection ea_ with ea_ en_ ec_
        subst ea_
        subst ec_
        clear en_
        have p335 : 0 ≤ ((ji89) : Int) := od_
        have q335 : (ji89) < ((rd_L2 x6_1 (ji86)).length : Int) := od_
        obtain ⟨ad335, e335, hx335_0⟩ := Kd.at_int (by repeat (first | (with_reducible exact HR333_0.out) | (with_reducible refine Kd.C_alloc ?_ _) | (with_reducible refine Kd.C_drewN ?_ _) | (with_reducible refine Kd.C_drew ?_) | exact HR333_0.out)) (ji89) p335 q335
        cases e335
        replace p335 := eq_true p335
        replace q335 := eq_true q335
        have p336 : 0 ≤ (x13_2 : Int) := od_
        have q336 : x13_2 < (l0.length : Int) := od_
        obtain ⟨ad336, A336_3, c336_3, e336, hx336_0, hx336_1, hx336_2, hx336_3, hl336_3, hi336_3⟩ := at_T50 HR0.out x13_2 p336 q336
        have hw336_3 := hx336_3
        have hw336_2 := hx336_2
        have hw336_1 := hx336_1
        have hw336_0 := hx336_0
        obtain rfl : ad328 = ad336 := (by injection e336)
        replace hx336_0 := (HB.out.cell (World.block_lt_of_cell? w _ hx336_0)).trans hx336_0
        replace hx336_1 := (HB.out.cell (World.block_lt_of_cell? w _ hx336_1)).trans hx336_1
        replace hx336_2 := (HB.out.cell (World.block_lt_of_cell? w _ hx336_2)).trans hx336_2
        replace hx336_3 := (HB.out.cell (World.block_lt_of_cell? w _ hx336_3)).trans hx336_3
        have HR336_3 := Aside0.mk hi336_3
        have HC336_3 := Aside0.mk hl336_3
        clear hi336_3 hl336_3
        replace p336 := eq_true p336
        replace q336 := eq_true q336
        have ea_ := Option.some.inj (hx329_3.symm.trans hx336_3)
        injection ea_ with ea_ en_ ec_
        subst ea_
        subst ec_
        clear en_
        have p338 : 0 ≤ (x13_2 : Int) := od_
        have q338 : x13_2 < (x6_1.length : Int) := od_
        obtain ⟨ad338, A338_0, c338_0, e338, hx338_0, hl338_0, hi338_0⟩ := at_L2 (Kd.S_reads' HO_6.out).2.2 x13_2 p338 q338
        obtain rfl : (⟨go18, 0, none⟩ : Addr) = ad338 := (by injection e338)
        obtain ⟨ce338, hce338, hMe338, hcc338⟩ := Kd.S_get HO_6.out [] x13_2 p338 (by first | exact q338 | exact od_ | (have e_ := (Kd.S_reads' HO_6.out).1; omega))
        obtain ⟨ve338_0, rfl, ge338_0⟩ := hMe338
        have hv338_0 := hcc338 0 _ rfl
        rw [Nat.add_zero, show ((Kd.slice 3 (Kd.int .i64))).sz = 1 from rfl, Nat.mul_one] at hv338_0
        replace hv338_0 := Option.some.inj (hv338_0.symm.trans hx338_0)
        rw [hv338_0] at ge338_0
        have HL338_0 := Aside0.mk (show Kd.R (Kd.int .i64) 3 _ _ _ _ (rd_L2 x6_1 x13_2) from ge338_0)
        clear hv338_0 ge338_0
        have HX338_0 := Aside0.mk hx338_0
        clear hcc338 hce338
        (first | simp only [add_plain] at hx338_0 | simp only [add_at] at hx338_0 | simp only [Addr.add, Nat.zero_add] at hx338_0 | skip)
        have HR338_0 := Aside0.mk hi338_0
        have HC338_0 := Aside0.mk hl338_0
        clear hi338_0 hl338_0
        replace p338 := eq_true p338
        replace q338 := eq_true q338
        have p339 : 0 ≤ (x12_2 : Int) := od_
        have q339 : x12_2 < ((rd_L2 x6_1 x13_2).length : Int) := od_
        obtain ⟨ad339, e339, hx339_0⟩ := Kd.at_int (by repeat (first | (with_reducible exact HR338_0.out) | (with_reducible refine Kd.C_alloc ?_ _) | (with_reducible refine Kd.C_drewN ?_ _) | (with_reducible refine Kd.C_drew ?_) | exact HR338_0.out)) x12_2 p339 q339
        cases e339
        replace p339 := eq_true p339
        replace q339 := eq_true q339
        refine start_ (n := 61) (S := fun w' => w'.cell? (ad328.add ((x13_2).toNat * 4)) = some (.string ((rd_T50 l0 x13_2).f0)) ∧ w'.cell? ⟨(ad328.add ((x13_2).toNat * 4)).block, (ad328.add ((x13_2).toNat * 4)).off + 1, none⟩ = some (.int .i64 ((rd_T50 l0 x13_2).f1)) ∧ w'.cell? ⟨(ad328.add ((x13_2).toNat * 4)).block, (ad328.add ((x13_2).toNat * 4)).off + 2, none⟩ = some (.int .i64 ((rd_T50 l0 x13_2).f2)) ∧ w'.cell? ⟨(ad328.add ((x13_2).toNat * 4)).block, (ad328.add ((x13_2).toNat * 4)).off + 3, none⟩ = some (.slice A329_3 ((rd_T50 l0 x13_2).f3).length c329_3) ∧ w'.cell? ⟨go18, ((ji86)).toNat, none⟩ = some (.slice (some ad332) (rd_L2 x6_1 (ji86)).length c330_0) ∧ w'.cell? (ad328.add ((x13_2).toNat * 4)) = some (.string ((rd_T50 l0 x13_2).f0)) ∧ w'.cell? ⟨(ad328.add ((x13_2).toNat * 4)).block, (ad328.add ((x13_2).toNat * 4)).off + 1, none⟩ = some (.int .i64 ((rd_T50 l0 x13_2).f1)) ∧ w'.cell? ⟨(ad328.add ((x13_2).toNat * 4)).block, (ad328.add ((x13_2).toNat * 4)).off + 2, none⟩ = some (.int .i64 ((rd_T50 l0 x13_2).f2)) ∧ w'.cell? ⟨(ad328.add ((x13_2).toNat * 4)).block, (ad328.add ((x13_2).toNat * 4)).off + 3, none⟩ = some (.slice A329_3 ((rd_T50 l0 x13_2).f3).length c329_3) ∧ w'.cell? (ad332.add ((ji89)).toNat) = some (.int .i64 (rd (rd_L2 x6_1 (ji86)) (ji89))) ∧ w'.cell? ⟨go18, ((ji86)).toNat, none⟩ = some (.slice (some ad332) (rd_L2 x6_1 (ji86)).length c330_0) ∧ w'.cell? (ad328.add ((x13_2).toNat * 4)) = some (.string ((rd_T50 l0 x13_2).f0)) ∧ w'.cell? ⟨(ad328.add ((x13_2).toNat * 4)).block, (ad328.add ((x13_2).toNat * 4)).off + 1, none⟩ = some (.int .i64 ((rd_T50 l0 x13_2).f1)) ∧ w'.cell? ⟨(ad328.add ((x13_2).toNat * 4)).block, (ad328.add ((x13_2).toNat * 4)).off + 2, none⟩ = some (.int .i64 ((rd_T50 l0 x13_2).f2)) ∧ w'.cell? ⟨(ad328.add ((x13_2).toNat * 4)).block, (ad328.add ((x13_2).toNat * 4)).off + 3, none⟩ = some (.slice A329_3 ((rd_T50 l0 x13_2).f3).length c329_3) ∧ w'.cell? (ad332.add ((ji89)).toNat) = some (.int .i64 (rd (rd_L2 x6_1 (ji86)) (ji89))) ∧ w'.cell? (ad328.add ((x13_2).toNat * 4)) = some (.string ((rd_T50 l0 x13_2).f0)) ∧ w'.cell? ⟨(ad328.add ((x13_2).toNat * 4)).block, (ad328.add ((x13_2).toNat * 4)).off + 1, none⟩ = some (.int .i64 ((rd_T50 l0 x13_2).f1)) ∧ w'.cell? ⟨(ad328.add ((x13_2).toNat * 4)).block, (ad328.add ((x13_2).toNat * 4)).off + 2, none⟩ = some (.int .i64 ((rd_T50 l0 x13_2).f2)) ∧ w'.cell? ⟨(ad328.add ((x13_2).toNat * 4)).block, (ad328.add ((x13_2).toNat * 4)).off + 3, none⟩ = some (.slice A329_3 ((rd_T50 l0 x13_2).f3).length c329_3) ∧ w'.cell? ⟨go18, (x13_2).toNat, none⟩ = some (.slice (some ad339) (rd_L2 x6_1 x13_2).length c338_0) ∧ w'.cell? (ad339.add (x12_2).toNat) = some (.int .i64 (rd (rd_L2 x6_1 x13_2) x12_2))) (ds := []) (msk 0 61) (by kernel_rfl) rfl rfl ⟨((HB.out.cell (World.block_lt_of_cell? w _ hw329_0)).trans hw329_0), ((HB.out.cell (World.block_lt_of_cell? w _ hw329_1)).trans hw329_1), ((HB.out.cell (World.block_lt_of_cell? w _ hw329_2)).trans hw329_2), ((HB.out.cell (World.block_lt_of_cell? w _ hw329_3)).trans hw329_3), hx330_0, ((HB.out.cell (World.block_lt_of_cell? w _ hw331_0)).trans hw331_0), ((HB.out.cell (World.block_lt_of_cell? w _ hw331_1)).trans hw331_1), ((HB.out.cell (World.block_lt_of_cell? w _ hw331_2)).trans hw331_2), ((HB.out.cell (World.block_lt_of_cell? w _ hw331_3)).trans hw331_3), hx332_0, hx333_0, ((HB.out.cell (World.block_lt_of_cell? w _ hw334_0)).trans hw334_0), ((HB.out.cell (World.block_lt_of_cell? w _ hw334_1)).trans hw334_1), ((HB.out.cell (World.block_lt_of_cell? w _ hw334_2)).trans hw334_2), ((HB.out.cell (World.block_lt_of_cell? w _ hw334_3)).trans hw334_3), hx335_0, ((HB.out.cell (World.block_lt_of_cell? w _ hw336_0)).trans hw336_0), ((HB.out.cell (World.block_lt_of_cell? w _ hw336_1)).trans hw336_1), ((HB.out.cell (World.block_lt_of_cell? w _ hw336_2)).trans hw336_2), ((HB.out.cell (World.block_lt_of_cell? w _ hw336_3)).trans hw336_3), hx338_0, hx339_0⟩ (fun hHeld => ?_); refine with_tabW spec_BestShelf.tab31 spec_BestShelf.bits31 (fun HT_ HW_ => ?_)
        generalize wr.drew = w100 at HO_6 HO_11 BK285 HB HL330_0 HL333_0 HL338_0 HR329_3 HR330_0 HR331_3 HR333_0 HR334_3 HR336_3 HR338_0 HX330_0 HX333_0 HX338_0 hx329_0 hx329_1 hx329_2 hx329_3 hx330_0 hx331_0 hx331_1 hx331_2 hx331_3 hx332_0 hx333_0 hx334_0 hx334_1 hx334_2 hx334_3 hx335_0 hx336_0 hx336_1 hx336_2 hx336_3 hx338_0 hx339_0 hHeld ⊢
        refine pu_ 0 150 (msk 1 60) HT_.out ?_; refine pu_ 1 151 (msk 2 59) HT_.out ?_; refine pu_ 2 152 (msk 3 58) HT_.out ?_; refine pu_ 3 153 (msk 4 57) HT_.out ?_; refine pu_ 4 154 (msk 5 56) HT_.out ?_; refine pu_ 7 157 (mskl 61 5 [7]) HT_.out ?_
        refine tk_ 5 155 (mskl 61 6 [7]) HT_.out HW_.out hHeld ?_ (hy := by rintro w' ⟨s0, s1, s2, s3, s4, s5, s6, s7, s8, s9, s10, s11, s12, s13, s14, s15, s16, s17, s18, s19, s20, s21⟩; go_simp; with_reducible rfl)
        refine pu_ 6 156 (msk 8 53) HT_.out ?_; refine pu_ 8 158 (msk 9 52) HT_.out ?_; refine pu_ 9 159 (msk 10 51) HT_.out ?_; refine pu_ 10 160 (msk 11 50) HT_.out ?_; refine pu_ 11 161 (msk 12 49) HT_.out ?_; refine pu_ 12 162 (msk 13 48) HT_.out ?_; refine pu_ 13 163 (msk 14 47) HT_.out ?_; refine pu_ 15 165 (mskl 61 14 [15]) HT_.out ?_; refine pu_ 16 166 (mskl 61 14 [15, 16]) HT_.out ?_; refine pu_ 17 167 (mskl 61 14 [15, 16, 17]) HT_.out ?_; refine pu_ 18 168 (mskl 61 14 [15, 16, 17, 18]) HT_.out ?_; refine pu_ 19 169 (mskl 61 14 [15, 16, 17, 18, 19]) HT_.out ?_; refine pu_ 20 170 (mskl 61 14 [15, 16, 17, 18, 19, 20]) HT_.out ?_
        refine tk_ 14 164 (msk 21 40) HT_.out HW_.out hHeld ?_ (hy := by rintro w' ⟨s0, s1, s2, s3, s4, s5, s6, s7, s8, s9, s10, s11, s12, s13, s14, s15, s16, s17, s18, s19, s20, s21⟩; go_simp; with_reducible rfl)
        refine tk_ 21 171 (msk 22 39) HT_.out HW_.out hHeld ?_ (hy := by rintro w' ⟨s0, s1, s2, s3, s4, s5, s6, s7, s8, s9, s10, s11, s12, s13, s14, s15, s16, s17, s18, s19, s20, s21⟩; go_simp; with_reducible rfl)
        refine pu_ 22 172 (msk 23 38) HT_.out ?_; refine pu_ 23 173 (msk 24 37) HT_.out ?_; refine pu_ 24 174 (msk 25 36) HT_.out ?_
        refine tk_ 25 175 (msk 26 35) HT_.out HW_.out hHeld ?_ (hy := by rintro w' ⟨s0, s1, s2, s3, s4, s5, s6, s7, s8, s9, s10, s11, s12, s13, s14, s15, s16, s17, s18, s19, s20, s21⟩; go_simp; with_reducible rfl)
        refine pu_ 26 176 (msk 27 34) HT_.out ?_; refine pu_ 27 177 (msk 28 33) HT_.out ?_; refine pu_ 28 178 (msk 29 32) HT_.out ?_; refine pu_ 29 179 (msk 30 31) HT_.out ?_; refine pu_ 30 180 (msk 31 30) HT_.out ?_; refine pu_ 31 181 (msk 32 29) HT_.out ?_; refine pu_ 32 182 (msk 33 28) HT_.out ?_; refine pu_ 34 184 (mskl 61 33 [34]) HT_.out ?_; refine pu_ 35 185 (mskl 61 33 [34, 35]) HT_.out ?_; refine pu_ 36 186 (mskl 61 33 [34, 35, 36]) HT_.out ?_; refine pu_ 37 187 (mskl 61 33 [34, 35, 36, 37]) HT_.out ?_; refine pu_ 38 188 (mskl 61 33 [34, 35, 36, 37, 38]) HT_.out ?_; refine pu_ 39 189 (mskl 61 33 [34, 35, 36, 37, 38, 39]) HT_.out ?_; refine pu_ 45 195 (mskl 61 33 [34, 35, 36, 37, 38, 39, 45]) HT_.out ?_; refine pu_ 46 196 (mskl 61 33 [34, 35, 36, 37, 38, 39, 45, 46]) HT_.out ?_; refine pu_ 47 197 (mskl 61 33 [34, 35, 36, 37, 38, 39, 45, 46, 47]) HT_.out ?_; refine pu_ 49 199 (mskl 61 33 [34, 35, 36, 37, 38, 39, 45, 46, 47, 49]) HT_.out ?_; refine pu_ 52 202 (mskl 61 33 [34, 35, 36, 37, 38, 39, 45, 46, 47, 49, 52]) HT_.out ?_; refine pu_ 53 203 (mskl 61 33 [34, 35, 36, 37, 38, 39, 45, 46, 47, 49, 52, 53]) HT_.out ?_; refine pu_ 54 204 (mskl 61 33 [34, 35, 36, 37, 38, 39, 45, 46, 47, 49, 52, 53, 54]) HT_.out ?_; refine pu_ 56 206 (mskl 61 33 [34, 35, 36, 37, 38, 39, 45, 46, 47, 49, 52, 53, 54, 56]) HT_.out ?_
        refine tk_ 33 183 (mskl 61 40 [45, 46, 47, 49, 52, 53, 54, 56]) HT_.out HW_.out hHeld ?_ (hy := by rintro w' ⟨s0, s1, s2, s3, s4, s5, s6, s7, s8, s9, s10, s11, s12, s13, s14, s15, s16, s17, s18, s19, s20, s21⟩; go_simp; with_reducible rfl)
        refine tk_ 40 190 (mskl 61 41 [45, 46, 47, 49, 52, 53, 54, 56]) HT_.out HW_.out hHeld ?_ (hy := by rintro w' ⟨s0, s1, s2, s3, s4, s5, s6, s7, s8, s9, s10, s11, s12, s13, s14, s15, s16, s17, s18, s19, s20, s21⟩; go_simp; with_reducible rfl)
        refine pu_ 41 191 (mskl 61 42 [45, 46, 47, 49, 52, 53, 54, 56]) HT_.out ?_; refine pu_ 42 192 (mskl 61 43 [45, 46, 47, 49, 52, 53, 54, 56]) HT_.out ?_; refine pu_ 43 193 (mskl 61 44 [45, 46, 47, 49, 52, 53, 54, 56]) HT_.out ?_
        refine tk_ 44 194 (mskl 61 48 [49, 52, 53, 54, 56]) HT_.out HW_.out hHeld ?_ (hy := by rintro w' ⟨s0, s1, s2, s3, s4, s5, s6, s7, s8, s9, s10, s11, s12, s13, s14, s15, s16, s17, s18, s19, s20, s21⟩; go_simp; with_reducible rfl)
        refine tk_ 48 198 (mskl 61 50 [52, 53, 54, 56]) HT_.out HW_.out hHeld ?_ (hy := by rintro w' ⟨s0, s1, s2, s3, s4, s5, s6, s7, s8, s9, s10, s11, s12, s13, s14, s15, s16, s17, s18, s19, s20, s21⟩; go_simp; with_reducible rfl)
        refine tk_ 55 205 (mskl 61 50 [52, 53, 54, 55, 56]) HT_.out HW_.out hHeld ?_ (hy := by rintro w' ⟨s0, s1, s2, s3, s4, s5, s6, s7, s8, s9, s10, s11, s12, s13, s14, s15, s16, s17, s18, s19, s20, s21⟩; go_simp; with_reducible rfl)
        refine pu_ 57 207 (mskl 61 50 [52, 53, 54, 55, 56, 57]) HT_.out ?_
        refine tk_ 58 208 (mskl 61 50 [52, 53, 54, 55, 56, 57, 58]) HT_.out HW_.out hHeld ?_ (hy := by rintro w' ⟨s0, s1, s2, s3, s4, s5, s6, s7, s8, s9, s10, s11, s12, s13, s14, s15, s16, s17, s18, s19, s20, s21⟩; go_simp; with_reducible rfl)
        refine one_ (i := 50) (N := some 200) (mskl 61 51 [52, 53, 54, 55, 56, 57, 58]) rfl rfl (one_of HT_.out (by kernel_rfl)) (by decide) (fun K hK => ?_)
        refine goes_ Try.func31 (by kernel_rfl) rfl #[.agg #[.string ((rd_T50 l0 x13_2).f0), .int .i64 ((rd_T50 l0 x13_2).f1), .int .i64 ((rd_T50 l0 x13_2).f2), .slice A329_3 ((rd_T50 l0 x13_2).f3).length c329_3], .int .i64 x14_3] (by rfl) rfl rfl (by (try simp only [List.map_toArray, List.map_cons, List.map_nil]); first | done | rfl | (simp only [List.length_drop, List.length_take]; rfl)) ?_
        with_reducible refine (spec_l13Gain.calls k3 ((rd_T50 l0 x13_2).f0) ((rd_T50 l0 x13_2).f1) ((rd_T50 l0 x13_2).f2) _ _ ((rd_T50 l0 x13_2).f3) x14_3 t337 _ ?side1 ?side2 A94.out).mono ?_
        (case side1 => repeat (first | exact (Kd.C_below HR336_3.out HB.out) | (with_reducible refine Kd.C_alloc ?_ _) | (with_reducible refine Kd.C_drewN ?_ _) | (with_reducible refine Kd.C_drew ?_)))
        (case side2 => exact HC336_3.out)
        rintro e w101 ⟨rfl, hb⟩
        have HS4_ := (hb.cell (World.block_lt_of_cell? _ _ (hHeld.2.2.2.2.1))).trans (hHeld.2.2.2.2.1)
        have HS9_ := (hb.cell (World.block_lt_of_cell? _ _ (hHeld.2.2.2.2.2.2.2.2.2.1))).trans (hHeld.2.2.2.2.2.2.2.2.2.1)
        have HS10_ := (hb.cell (World.block_lt_of_cell? _ _ (hHeld.2.2.2.2.2.2.2.2.2.2.1))).trans (hHeld.2.2.2.2.2.2.2.2.2.2.1)
        have HS15_ := (hb.cell (World.block_lt_of_cell? _ _ (hHeld.2.2.2.2.2.2.2.2.2.2.2.2.2.2.2.1))).trans (hHeld.2.2.2.2.2.2.2.2.2.2.2.2.2.2.2.1)
        have HS20_ := (hb.cell (World.block_lt_of_cell? _ _ (hHeld.2.2.2.2.2.2.2.2.2.2.2.2.2.2.2.2.2.2.2.2.1))).trans (hHeld.2.2.2.2.2.2.2.2.2.2.2.2.2.2.2.2.2.2.2.2.1)
        have HS21_ := (hb.cell (World.block_lt_of_cell? _ _ (hHeld.2.2.2.2.2.2.2.2.2.2.2.2.2.2.2.2.2.2.2.2.2))).trans (hHeld.2.2.2.2.2.2.2.2.2.2.2.2.2.2.2.2.2.2.2.2.2)
        refine ⟨_, rfl, ?_⟩
        have n0_ := Aside0.mk (Kd.S_below (by (with_reducible repeat (first | apply Kd.S_alloc | apply Kd.S_drewN | apply Kd.S_drew)); exact HO_6.out) hb)
        have n1_ := Aside0.mk (Kd.R_below (by (with_reducible repeat (first | apply Kd.R_alloc | apply Kd.R_drewN | apply Kd.R_drew)); exact HO_11.out) hb)
        have n2_ := Aside0.mk (Kd.R_below (by (with_reducible repeat (first | apply Kd.R_alloc | apply Kd.R_drewN | apply Kd.R_drew)); exact HL330_0.out) hb)
        have n3_ := Aside0.mk (Kd.R_below (by (with_reducible repeat (first | apply Kd.R_alloc | apply Kd.R_drewN | apply Kd.R_drew)); exact HL333_0.out) hb)
        have n4_ := Aside0.mk (Kd.R_below (by (with_reducible repeat (first | apply Kd.R_alloc | apply Kd.R_drewN | apply Kd.R_drew)); exact HL338_0.out) hb)
        have n5_ := Aside0.mk (blk_below (g := gb285) (o := .cells #[.slice none 0 0, .int .i64 0, .int .i64 0] 31 (0, 0)) bk_ hb)
        have n6_ := Aside0.mk (Kd.C_below (by repeat (first | (with_reducible exact HR330_0.out) | (with_reducible refine Kd.C_alloc ?_ _) | (with_reducible refine Kd.C_drewN ?_ _) | (with_reducible refine Kd.C_drew ?_) | exact HR330_0.out)) hb)
        have n7_ := Aside0.mk (pw_cell_below hb HX330_0.out)
        have n8_ := Aside0.mk (Kd.C_below (by repeat (first | (with_reducible exact HR333_0.out) | (with_reducible refine Kd.C_alloc ?_ _) | (with_reducible refine Kd.C_drewN ?_ _) | (with_reducible refine Kd.C_drew ?_) | exact HR333_0.out)) hb)
        have n9_ := Aside0.mk (pw_cell_below hb HX333_0.out)
        have n10_ := Aside0.mk (Kd.C_below (by repeat (first | (with_reducible exact HR338_0.out) | (with_reducible refine Kd.C_alloc ?_ _) | (with_reducible refine Kd.C_drewN ?_ _) | (with_reducible refine Kd.C_drew ?_) | exact HR338_0.out)) hb)
        have n11_ := Aside0.mk (pw_cell_below hb HX338_0.out)
        have n12_ := Aside0.mk (below_step bl_ hb)
        clear HO_6
        clear HO_11
        clear HL330_0
        clear HL333_0
        clear HL338_0
        clear BK285
        clear HR330_0
        clear HX330_0
        clear HR333_0
        clear HX333_0
        clear HR338_0
        clear HX338_0
        clear HB
        have HO_6 := n0_
        have HO_11 := n1_
        have HL330_0 := n2_
        have HL333_0 := n3_
        have HL338_0 := n4_
        have BK285 := n5_
        have HR330_0 := n6_
        have HX330_0 := n7_
        have HR333_0 := n8_
        have HX333_0 := n9_
        have HR338_0 := n10_
        have HX338_0 := n11_
        have HB := n12_
        clear n0_ n1_ n2_ n3_ n4_ n5_ n6_ n7_ n8_ n9_ n10_ n11_ n12_
        (try clear hb)
        (try clear hb2)
        (try clear hk)
        (try clear hi)
        refine hK.out _ _ ⟨((HB.out.cell (World.block_lt_of_cell? w _ hw329_0)).trans hw329_0), ((HB.out.cell (World.block_lt_of_cell? w _ hw329_1)).trans hw329_1), ((HB.out.cell (World.block_lt_of_cell? w _ hw329_2)).trans hw329_2), ((HB.out.cell (World.block_lt_of_cell? w _ hw329_3)).trans hw329_3), HS4_, ((HB.out.cell (World.block_lt_of_cell? w _ hw331_0)).trans hw331_0), ((HB.out.cell (World.block_lt_of_cell? w _ hw331_1)).trans hw331_1), ((HB.out.cell (World.block_lt_of_cell? w _ hw331_2)).trans hw331_2), ((HB.out.cell (World.block_lt_of_cell? w _ hw331_3)).trans hw331_3), HS9_, HS10_, ((HB.out.cell (World.block_lt_of_cell? w _ hw334_0)).trans hw334_0), ((HB.out.cell (World.block_lt_of_cell? w _ hw334_1)).trans hw334_1), ((HB.out.cell (World.block_lt_of_cell? w _ hw334_2)).trans hw334_2), ((HB.out.cell (World.block_lt_of_cell? w _ hw334_3)).trans hw334_3), HS15_, ((HB.out.cell (World.block_lt_of_cell? w _ hw336_0)).trans hw336_0), ((HB.out.cell (World.block_lt_of_cell? w _ hw336_1)).trans hw336_1), ((HB.out.cell (World.block_lt_of_cell? w _ hw336_2)).trans hw336_2), ((HB.out.cell (World.block_lt_of_cell? w _ hw336_3)).trans hw336_3), HS20_, HS21_⟩ (fun hHeld => ?_)
        clear hK K
        refine norm_ (a' := ?_) ?_ ?_
        rotate_left
        ·show Act.put _ (some 200) _ = _
         simp only [Act.put, List.setIfInBounds_toArray, List.set_cons_zero, List.set_cons_succ, i64_w, i32_w]
         rfl
        refine pu_ 51 201 (msk 59 2) HT_.out ?_; refine pu_ 59 209 (msk 60 1) HT_.out ?_; refine pu_ 60 210 (msk 61 0) HT_.out ?_
        refine done_ (done_of HT_.out (by kernel_rfl)) ?_
        try go_wp2_with (first | ((with_reducible refine gate_builtin (b := .append) (xs := #[.tmp 213, .tmp 215]) rfl ?_); at_builtin; refine Kd.R_append (Kd.int .i64) (w0 := w) w.heap.size rfl (.tmp 213) (.tmp 215) 29 3 (.int .i64 0) 8 rfl Try.underlying29 info3 rfl (by decide) (by omega) u11 x11_2 x14_3 [.int .i64 x14_3] (fun _ => True) (fun _ => False) rfl rfl ?aP (fun _ hk => hk.elim) ?aF ?aO ?aB ?aS ?aL ?_; (case aP => exact rfl); (case aB => exact bl_); (case aF => exact (fun _ _ => trivial)); (case aO => exact (by (with_reducible repeat (first | apply Kd.R_alloc | apply Kd.R_drewN | apply Kd.R_drew)); exact HO_11.out)); (case aS => exact (below_size bl_)); (case aL => have := LMc99.out; omega); intro v341 w102 ho hb hg hat; rw [← Ny340.out] at ho; have n0_ := Aside0.mk (Kd.S_after (ok := (fun _ => True)) (by (with_reducible repeat (first | apply Kd.S_alloc | apply Kd.S_drewN | apply Kd.S_drew)); exact Kd.S_mono HO_6.out (fun _ hk => ⟨trivial, hk⟩)) hg hat); have n1_ := Aside0.mk (blk_grown (g := gb285) (o := .cells #[.slice none 0 0, .int .i64 0, .int .i64 0] 31 (0, 0)) bk_ hg (Kd.R_ne HO_11.out BK285.out (by decide))); have n2_ := Aside0.mk (Kd.R_after (ok := (fun k_ => some k_ ≠ (.slice (some ⟨go18, 0, none⟩) x6_1.length co18 : Value).ownBlock)) (by (with_reducible repeat (first | apply Kd.R_alloc | apply Kd.R_drewN | apply Kd.R_drew)); exact Kd.R_mono HL330_0.out (fun _ hk => by first | exact ⟨hk.2, hk.1⟩ | exact ⟨hk.1, hk.2⟩)) hg hat); have n3_ := Aside0.mk (Kd.R_after (ok := (fun k_ => some k_ ≠ (.slice (some ⟨go18, 0, none⟩) x6_1.length co18 : Value).ownBlock)) (by (with_reducible repeat (first | apply Kd.R_alloc | apply Kd.R_drewN | apply Kd.R_drew)); exact Kd.R_mono HL333_0.out (fun _ hk => by first | exact ⟨hk.2, hk.1⟩ | exact ⟨hk.1, hk.2⟩)) hg hat); have n4_ := Aside0.mk (Kd.R_after (ok := (fun k_ => some k_ ≠ (.slice (some ⟨go18, 0, none⟩) x6_1.length co18 : Value).ownBlock)) (by (with_reducible repeat (first | apply Kd.R_alloc | apply Kd.R_drewN | apply Kd.R_drew)); exact Kd.R_mono HL338_0.out (fun _ hk => by first | exact ⟨hk.2, hk.1⟩ | exact ⟨hk.1, hk.2⟩)) hg hat); have n5_ := Aside0.mk (hb); have n6_ := Aside0.mk (ho); clear HO_6; clear BK285; clear HL330_0; clear HL333_0; clear HL338_0; clear HB; clear HO_11; have HO_6 := n0_; have BK285 := n1_; have HL330_0 := n2_; have HL333_0 := n3_; have HL338_0 := n4_; have HB := n5_; have HO342 := n6_; clear n0_ n1_ n2_ n3_ n4_ n5_ n6_; clear ho hb hg hat; have p343 : 0 ≤ (x13_2 : Int) := od_; have q343 : x13_2 < (l0.length : Int) := od_; obtain ⟨ad343, A343_3, c343_3, e343, hx343_0, hx343_1, hx343_2, hx343_3, hl343_3, hi343_3⟩ := at_T50 HR0.out x13_2 p343 q343; obtain rfl : ad328 = ad343 := (by injection e343); replace hx343_0 := (HB.out.cell (World.block_lt_of_cell? w _ hx343_0)).trans hx343_0; replace hx343_1 := (HB.out.cell (World.block_lt_of_cell? w _ hx343_1)).trans hx343_1; replace hx343_2 := (HB.out.cell (World.block_lt_of_cell? w _ hx343_2)).trans hx343_2; replace hx343_3 := (HB.out.cell (World.block_lt_of_cell? w _ hx343_3)).trans hx343_3; have HR343_3 := Aside0.mk hi343_3; have HC343_3 := Aside0.mk hl343_3; clear hi343_3 hl343_3; replace p343 := eq_true p343; replace q343 := eq_true q343))
        go_roundg k3
        case measure => have := HK1.out; have := HK2.out; have := HK3.out; omega
        case rel => exact ⟨(y340), (ji89), (ji86), (by first | rfl | (simp; done) | (simp only [← hji89] <;> (first | rfl | simp)) | (simp [*]; done)), (by first | rfl | (simp; done) | (simp only [← hji86] <;> (first | rfl | simp)) | (simp [*]; done)), H', ⟨by have := HK1.out; have := HK2.out; have := HK3.out; omega⟩, ⟨by (try simp only [hl6_1]); (with_reducible repeat (first | apply Kd.S_alloc | apply Kd.S_drewN | apply Kd.S_drew)); exact Kd.S_mono HO_6.out (fun _ hk => hk.2)⟩, ⟨by (try simp only [hl6_1]); (with_reducible repeat (first | apply Kd.R_alloc | apply Kd.R_drewN | apply Kd.R_drew)); exact HO342.out⟩, ⟨by (try simp only [hl6_1]); (with_reducible repeat (first | refine blk_drewN ?_ _ | refine blk_drew ?_ | refine blk_alloc ?_ _)); exact BK285.out⟩, ⟨by repeat (first | (with_reducible first | exact HB.out | apply below_alloc | apply pw_below_drewN | apply below_drew1 | refine below_set ?_ GE285.out) | exact HB.out)⟩⟩
end Go.Proofs.Ytecbcibblmknpaa.XFnExactBestShelf
