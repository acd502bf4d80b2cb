-- PRINTED by xprint.py (our own program, over the kit's print.py)
import Derived.Test.YtikbfbangjjfkaaXFnSettlex0
import Derived.Test.YtikbfbangjjfkaaXFnSettlex1
import Derived.Test.YtikbfbangjjfkaaXFnSettlex2
import Derived.Test.YtikbfbangjjfkaaXFnSettlex5
namespace Go.Proofs.Ytikbfbangjjfkaa.XFnSettle
open Go.RowKit Go.Proofs.YtikbfbangjjfkaaW.PrintWords Go.Proofs.YtikbfbangjjfkaaW.PrintLast Go.Proofs.YtikbfbangjjfkaaW.PrintMore Go.Proofs.YtikbfbangjjfkaaW.Idx
attribute [local go_sem] max2_int min2_int max_two min_two max_three min_three max_four min_four   -- for this text's walks alone
set_option linter.unusedVariables false
set_option linter.unusedSimpArgs false

attribute [local go_sem high] eqA33
/-! ### laws_FnSettle: function 3 -/
mutual
def laws_FnSettle.j0 : Nat → List (S33) → List (S33) → Bool → List (List Int) → List Int → List Int → Int → Option (Bool)
 | 0, _, _, _, _, _, _, _ => none
 | k + 1, x3, x4, x56, x233000, x233001, x233002, x233003 => if x56 = true then (some false) else (if 0 ≤ (x3.length : Int) then (if ((x3.length : Int) : Int).toNat ≤ 35184372088832 then (if 0 ≤ (x4.length : Int) then (if ((x4.length : Int) : Int).toNat ≤ 35184372088832 then (laws_FnSettle.l0 k x3 x4 (List.replicate ((x3.length : Int) : Int).toNat 0) (List.replicate ((x4.length : Int) : Int).toNat 0) 0 x233000 x233001 x233002 x233003) else (none)) else (none)) else (none)) else (none))
def laws_FnSettle.l0 : Nat → List (S33) → List (S33) → List Int → List Int → Int → List (List Int) → List Int → List Int → Int → Option (Bool)
 | 0, _, _, _, _, _, _, _, _, _ => none
 | k + 1, x3, x4, x7, x8, x9, x233000, x233001, x233002, x233003 => if x9 < (x233000.length : Int) then (if 0 ≤ x9 then (if ((rd_L4 x233000 x9).length : Int) = 2 then (if 0 < ((rd_L4 x233000 x9).length : Int) then (if (rd (rd_L4 x233000 x9) 0) < 0 then (some false) else (if (rd (rd_L4 x233000 x9) 0) ≥ (x3.length : Int) then (some false) else (if 1 < ((rd_L4 x233000 x9).length : Int) then (if (rd (rd_L4 x233000 x9) 1) < 0 then (some false) else (if (rd (rd_L4 x233000 x9) 1) ≥ (x4.length : Int) then (some false) else (if 0 ≤ (rd (rd_L4 x233000 x9) 0) then (if (rd (rd_L4 x233000 x9) 0) < (x3.length : Int) then (if 0 ≤ (rd (rd_L4 x233000 x9) 1) then (if (rd (rd_L4 x233000 x9) 1) < (x4.length : Int) then (if (!((((rd_T33 x3 (rd (rd_L4 x233000 x9) 0)).f0).toList) == (((rd_T33 x4 (rd (rd_L4 x233000 x9) 1)).f0).toList)) || (!(((rd_T33 x3 (rd (rd_L4 x233000 x9) 0)).f1) == ((rd_T33 x4 (rd (rd_L4 x233000 x9) 1)).f1)))) = true then (some false) else (if (rd (rd_L4 x233000 x9) 0) < (x7.length : Int) then (if (rd (rd_L4 x233000 x9) 1) < (x8.length : Int) then (laws_FnSettle.l0 k x3 x4 (x7.set ((rd (rd_L4 x233000 x9) 0) : Int).toNat (wrap64 ((rd x7 (rd (rd_L4 x233000 x9) 0)) + 1))) (x8.set ((rd (rd_L4 x233000 x9) 1) : Int).toNat (wrap64 ((rd x8 (rd (rd_L4 x233000 x9) 1)) + 1))) (wrap64 (x9 + 1)) x233000 x233001 x233002 x233003) else (none)) else (none))) else (none)) else (none)) else (none)) else (none)))) else (none)))) else (none)) else (some false)) else (none)) else (laws_FnSettle.l1 k x3 x4 x7 x8 0 0 x233000 x233001 x233002 x233003)
def laws_FnSettle.l1 : Nat → List (S33) → List (S33) → List Int → List Int → Int → Int → List (List Int) → List Int → List Int → Int → Option (Bool)
 | 0, _, _, _, _, _, _, _, _, _, _ => none
 | k + 1, x3, x4, x7, x8, x11, x12, x233000, x233001, x233002, x233003 => if x12 < (x233001.length : Int) then (if 0 ≤ x12 then (if (rd x233001 x12) < 0 then (laws_FnSettle.j3 k x3 x4 x7 x8 x11 x12 true x233000 x233001 x233002 x233003) else (laws_FnSettle.j3 k x3 x4 x7 x8 x11 x12 (decide ((rd x233001 x12) ≥ (x3.length : Int))) x233000 x233001 x233002 x233003)) else (none)) else (laws_FnSettle.l3 k x4 x7 x8 x11 0 x233000 x233001 x233002 x233003)
def laws_FnSettle.j3 : Nat → List (S33) → List (S33) → List Int → List Int → Int → Int → Bool → List (List Int) → List Int → List Int → Int → Option (Bool)
 | 0, _, _, _, _, _, _, _, _, _, _, _ => none
 | k + 1, x3, x4, x7, x8, x11, x12, x159, x233000, x233001, x233002, x233003 => if x159 = true then (some false) else (if 0 ≤ x12 then (if x12 < (x233001.length : Int) then (if 0 ≤ (rd x233001 x12) then (if (rd x233001 x12) < (x7.length : Int) then (if (rd x233001 x12) < (x3.length : Int) then (laws_FnSettle.l2 k x3 x4 (x7.set ((rd x233001 x12) : Int).toNat (wrap64 ((rd x7 (rd x233001 x12)) + 1))) x8 (wrap64 (x11 + ((rd_T33 x3 (rd x233001 x12)).f1))) x12 0 x233000 x233001 x233002 x233003) else (none)) else (none)) else (none)) else (none)) else (none))
def laws_FnSettle.l2 : Nat → List (S33) → List (S33) → List Int → List Int → Int → Int → Int → List (List Int) → List Int → List Int → Int → Option (Bool)
 | 0, _, _, _, _, _, _, _, _, _, _, _ => none
 | k + 1, x3, x4, x7, x8, x11, x12, x13, x233000, x233001, x233002, x233003 => if x13 < (x233002.length : Int) then (if 0 ≤ x13 then (if (rd x233002 x13) ≥ 0 then (if (rd x233002 x13) < (x4.length : Int) then (if 0 ≤ (rd x233002 x13) then (if 0 ≤ x12 then (if x12 < (x233001.length : Int) then (if 0 ≤ (rd x233001 x12) then (if (rd x233001 x12) < (x3.length : Int) then (if ((((rd_T33 x4 (rd x233002 x13)).f0).toList) == (((rd_T33 x3 (rd x233001 x12)).f0).toList) && (((rd_T33 x4 (rd x233002 x13)).f1) == ((rd_T33 x3 (rd x233001 x12)).f1))) = true then (some false) else (laws_FnSettle.l2 k x3 x4 x7 x8 x11 x12 (wrap64 (x13 + 1)) x233000 x233001 x233002 x233003)) else (none)) else (none)) else (none)) else (none)) else (none)) else (laws_FnSettle.l2 k x3 x4 x7 x8 x11 x12 (wrap64 (x13 + 1)) x233000 x233001 x233002 x233003)) else (laws_FnSettle.l2 k x3 x4 x7 x8 x11 x12 (wrap64 (x13 + 1)) x233000 x233001 x233002 x233003)) else (none)) else (laws_FnSettle.l1 k x3 x4 x7 x8 x11 (wrap64 (x12 + 1)) x233000 x233001 x233002 x233003)
def laws_FnSettle.l3 : Nat → List (S33) → List Int → List Int → Int → Int → List (List Int) → List Int → List Int → Int → Option (Bool)
 | 0, _, _, _, _, _, _, _, _, _ => none
 | k + 1, x4, x7, x8, x11, x14, x233000, x233001, x233002, x233003 => if x14 < (x233002.length : Int) then (if 0 ≤ x14 then (if (rd x233002 x14) < 0 then (some false) else (if (rd x233002 x14) ≥ (x4.length : Int) then (some false) else (if 0 ≤ (rd x233002 x14) then (if (rd x233002 x14) < (x8.length : Int) then (if (rd x233002 x14) < (x4.length : Int) then (laws_FnSettle.l3 k x4 x7 (x8.set ((rd x233002 x14) : Int).toNat (wrap64 ((rd x8 (rd x233002 x14)) + 1))) (wrap64 (x11 - ((rd_T33 x4 (rd x233002 x14)).f1))) (wrap64 (x14 + 1)) x233000 x233001 x233002 x233003) else (none)) else (none)) else (none)))) else (none)) else (laws_FnSettle.l4 k x7 x8 x11 0 x233000 x233001 x233002 x233003)
def laws_FnSettle.l4 : Nat → List Int → List Int → Int → Int → List (List Int) → List Int → List Int → Int → Option (Bool)
 | 0, _, _, _, _, _, _, _, _ => none
 | k + 1, x7, x8, x11, x15, x233000, x233001, x233002, x233003 => if x15 < (x7.length : Int) then (if 0 ≤ x15 then (if (rd x7 x15) = 1 then (laws_FnSettle.l4 k x7 x8 x11 (wrap64 (x15 + 1)) x233000 x233001 x233002 x233003) else (some false)) else (none)) else (laws_FnSettle.l5 k x8 x11 0 x233000 x233001 x233002 x233003)
def laws_FnSettle.l5 : Nat → List Int → Int → Int → List (List Int) → List Int → List Int → Int → Option (Bool)
 | 0, _, _, _, _, _, _, _ => none
 | k + 1, x8, x11, x16, x233000, x233001, x233002, x233003 => if x16 < (x8.length : Int) then (if 0 ≤ x16 then (if (rd x8 x16) = 1 then (laws_FnSettle.l5 k x8 x11 (wrap64 (x16 + 1)) x233000 x233001 x233002 x233003) else (some false)) else (none)) else (some (x11 == x233003))
end
def laws_FnSettle.f (k : Nat) (l0 : List Int) : Option (Bool) := if (l0.length : Int) > 1048576 then (some true) else ((spec_SettledOf.f k l0).bind fun bt215 => ((impl_Settle.f k bt215.1 bt215.2).bind fun bt221 => (if bt221.2.2.2.2 = 0 then (if (wrap64 ((bt221.1.length : Int) + (bt221.2.1.length : Int))) = (bt215.1.length : Int) then (laws_FnSettle.j0 k bt215.1 bt215.2 ((wrap64 ((bt221.1.length : Int) + (bt221.2.2.1.length : Int))) != (bt215.2.length : Int)) bt221.1 bt221.2.1 bt221.2.2.1 bt221.2.2.2.1) else (laws_FnSettle.j0 k bt215.1 bt215.2 true bt221.1 bt221.2.1 bt221.2.2.1 bt221.2.2.2.1)) else (laws_FnSettle.j0 k bt215.1 bt215.2 true bt221.1 bt221.2.1 bt221.2.2.1 bt221.2.2.2.1))))
theorem laws_FnSettle.mono_l : ∀ k, (∀ y0 y1 y2 y3 y4 y5 y6, LeO (laws_FnSettle.j0 k y0 y1 y2 y3 y4 y5 y6) (laws_FnSettle.j0 (k + 1) y0 y1 y2 y3 y4 y5 y6)) ∧ (∀ y0 y1 y2 y3 y4 y5 y6 y7 y8, LeO (laws_FnSettle.l0 k y0 y1 y2 y3 y4 y5 y6 y7 y8) (laws_FnSettle.l0 (k + 1) y0 y1 y2 y3 y4 y5 y6 y7 y8)) ∧ (∀ y0 y1 y2 y3 y4 y5 y6 y7 y8 y9, LeO (laws_FnSettle.l1 k y0 y1 y2 y3 y4 y5 y6 y7 y8 y9) (laws_FnSettle.l1 (k + 1) y0 y1 y2 y3 y4 y5 y6 y7 y8 y9)) ∧ (∀ y0 y1 y2 y3 y4 y5 y6 y7 y8 y9 y10, LeO (laws_FnSettle.j3 k y0 y1 y2 y3 y4 y5 y6 y7 y8 y9 y10) (laws_FnSettle.j3 (k + 1) y0 y1 y2 y3 y4 y5 y6 y7 y8 y9 y10)) ∧ (∀ y0 y1 y2 y3 y4 y5 y6 y7 y8 y9 y10, LeO (laws_FnSettle.l2 k y0 y1 y2 y3 y4 y5 y6 y7 y8 y9 y10) (laws_FnSettle.l2 (k + 1) y0 y1 y2 y3 y4 y5 y6 y7 y8 y9 y10)) ∧ (∀ y0 y1 y2 y3 y4 y5 y6 y7 y8, LeO (laws_FnSettle.l3 k y0 y1 y2 y3 y4 y5 y6 y7 y8) (laws_FnSettle.l3 (k + 1) y0 y1 y2 y3 y4 y5 y6 y7 y8)) ∧ (∀ y0 y1 y2 y3 y4 y5 y6 y7, LeO (laws_FnSettle.l4 k y0 y1 y2 y3 y4 y5 y6 y7) (laws_FnSettle.l4 (k + 1) y0 y1 y2 y3 y4 y5 y6 y7)) ∧ (∀ y0 y1 y2 y3 y4 y5 y6, LeO (laws_FnSettle.l5 k y0 y1 y2 y3 y4 y5 y6) (laws_FnSettle.l5 (k + 1) y0 y1 y2 y3 y4 y5 y6))
 | 0 => ⟨fun _ _ _ _ _ _ _ r h => by simp [laws_FnSettle.j0] at h, fun _ _ _ _ _ _ _ _ _ r h => by simp [laws_FnSettle.l0] at h, fun _ _ _ _ _ _ _ _ _ _ r h => by simp [laws_FnSettle.l1] at h, fun _ _ _ _ _ _ _ _ _ _ _ r h => by simp [laws_FnSettle.j3] at h, fun _ _ _ _ _ _ _ _ _ _ _ r h => by simp [laws_FnSettle.l2] at h, fun _ _ _ _ _ _ _ _ _ r h => by simp [laws_FnSettle.l3] at h, fun _ _ _ _ _ _ _ _ r h => by simp [laws_FnSettle.l4] at h, fun _ _ _ _ _ _ _ r h => by simp [laws_FnSettle.l5] at h⟩
 | k + 1 => by
  obtain ⟨ih0, ih1, ih2, ih3, ih4, ih5, ih6, ih7⟩ := laws_FnSettle.mono_l k
  refine ⟨?_, ?_, ?_, ?_, ?_, ?_, ?_, ?_⟩
  ·intro y0 y1 y2 y3 y4 y5 y6
   unfold laws_FnSettle.j0
   repeat' first
   | (with_reducible exact ih0 _ _ _ _ _ _ _)
   | (with_reducible exact ih1 _ _ _ _ _ _ _ _ _)
   | (with_reducible exact ih2 _ _ _ _ _ _ _ _ _ _)
   | (with_reducible exact ih3 _ _ _ _ _ _ _ _ _ _ _)
   | (with_reducible exact ih4 _ _ _ _ _ _ _ _ _ _ _)
   | (with_reducible exact ih5 _ _ _ _ _ _ _ _ _)
   | (with_reducible exact ih6 _ _ _ _ _ _ _ _)
   | (with_reducible exact ih7 _ _ _ _ _ _ _)
   | (with_reducible exact impl_Settle.mono _ _ _)
   | (with_reducible exact spec_SettledOf.mono _ _)
   | (with_reducible exact LeO.refl _)
   | (with_reducible exact LeO.none _)
   | (with_reducible refine LeO.ite ?_ ?_)
   | (with_reducible refine LeO.bind ?_ (fun _ => ?_))
   | exact ih0 _ _ _ _ _ _ _
   | exact ih1 _ _ _ _ _ _ _ _ _
   | exact ih2 _ _ _ _ _ _ _ _ _ _
   | exact ih3 _ _ _ _ _ _ _ _ _ _ _
   | exact ih4 _ _ _ _ _ _ _ _ _ _ _
   | exact ih5 _ _ _ _ _ _ _ _ _
   | exact ih6 _ _ _ _ _ _ _ _
   | exact ih7 _ _ _ _ _ _ _
   | exact impl_Settle.mono _ _ _
   | exact spec_SettledOf.mono _ _
   | exact LeO.none _
   | refine LeO.ite ?_ ?_
   | refine LeO.bind ?_ (fun _ => ?_)
  ·intro y0 y1 y2 y3 y4 y5 y6 y7 y8
   unfold laws_FnSettle.l0
   repeat' first
   | (with_reducible exact ih0 _ _ _ _ _ _ _)
   | (with_reducible exact ih1 _ _ _ _ _ _ _ _ _)
   | (with_reducible exact ih2 _ _ _ _ _ _ _ _ _ _)
   | (with_reducible exact ih3 _ _ _ _ _ _ _ _ _ _ _)
   | (with_reducible exact ih4 _ _ _ _ _ _ _ _ _ _ _)
   | (with_reducible exact ih5 _ _ _ _ _ _ _ _ _)
   | (with_reducible exact ih6 _ _ _ _ _ _ _ _)
   | (with_reducible exact ih7 _ _ _ _ _ _ _)
   | (with_reducible exact impl_Settle.mono _ _ _)
   | (with_reducible exact spec_SettledOf.mono _ _)
   | (with_reducible exact LeO.refl _)
   | (with_reducible exact LeO.none _)
   | (with_reducible refine LeO.ite ?_ ?_)
   | (with_reducible refine LeO.bind ?_ (fun _ => ?_))
   | exact ih0 _ _ _ _ _ _ _
   | exact ih1 _ _ _ _ _ _ _ _ _
   | exact ih2 _ _ _ _ _ _ _ _ _ _
   | exact ih3 _ _ _ _ _ _ _ _ _ _ _
   | exact ih4 _ _ _ _ _ _ _ _ _ _ _
   | exact ih5 _ _ _ _ _ _ _ _ _
   | exact ih6 _ _ _ _ _ _ _ _
   | exact ih7 _ _ _ _ _ _ _
   | exact impl_Settle.mono _ _ _
   | exact spec_SettledOf.mono _ _
   | exact LeO.none _
   | refine LeO.ite ?_ ?_
   | refine LeO.bind ?_ (fun _ => ?_)
  ·intro y0 y1 y2 y3 y4 y5 y6 y7 y8 y9
   unfold laws_FnSettle.l1
   repeat' first
   | (with_reducible exact ih0 _ _ _ _ _ _ _)
   | (with_reducible exact ih1 _ _ _ _ _ _ _ _ _)
   | (with_reducible exact ih2 _ _ _ _ _ _ _ _ _ _)
   | (with_reducible exact ih3 _ _ _ _ _ _ _ _ _ _ _)
   | (with_reducible exact ih4 _ _ _ _ _ _ _ _ _ _ _)
   | (with_reducible exact ih5 _ _ _ _ _ _ _ _ _)
   | (with_reducible exact ih6 _ _ _ _ _ _ _ _)
   | (with_reducible exact ih7 _ _ _ _ _ _ _)
   | (with_reducible exact impl_Settle.mono _ _ _)
   | (with_reducible exact spec_SettledOf.mono _ _)
   | (with_reducible exact LeO.refl _)
   | (with_reducible exact LeO.none _)
   | (with_reducible refine LeO.ite ?_ ?_)
   | (with_reducible refine LeO.bind ?_ (fun _ => ?_))
   | exact ih0 _ _ _ _ _ _ _
   | exact ih1 _ _ _ _ _ _ _ _ _
   | exact ih2 _ _ _ _ _ _ _ _ _ _
   | exact ih3 _ _ _ _ _ _ _ _ _ _ _
   | exact ih4 _ _ _ _ _ _ _ _ _ _ _
   | exact ih5 _ _ _ _ _ _ _ _ _
   | exact ih6 _ _ _ _ _ _ _ _
   | exact ih7 _ _ _ _ _ _ _
   | exact impl_Settle.mono _ _ _
   | exact spec_SettledOf.mono _ _
   | exact LeO.none _
   | refine LeO.ite ?_ ?_
   | refine LeO.bind ?_ (fun _ => ?_)
  ·intro y0 y1 y2 y3 y4 y5 y6 y7 y8 y9 y10
   unfold laws_FnSettle.j3
   repeat' first
   | (with_reducible exact ih0 _ _ _ _ _ _ _)
   | (with_reducible exact ih1 _ _ _ _ _ _ _ _ _)
   | (with_reducible exact ih2 _ _ _ _ _ _ _ _ _ _)
   | (with_reducible exact ih3 _ _ _ _ _ _ _ _ _ _ _)
   | (with_reducible exact ih4 _ _ _ _ _ _ _ _ _ _ _)
   | (with_reducible exact ih5 _ _ _ _ _ _ _ _ _)
   | (with_reducible exact ih6 _ _ _ _ _ _ _ _)
   | (with_reducible exact ih7 _ _ _ _ _ _ _)
   | (with_reducible exact impl_Settle.mono _ _ _)
   | (with_reducible exact spec_SettledOf.mono _ _)
   | (with_reducible exact LeO.refl _)
   | (with_reducible exact LeO.none _)
   | (with_reducible refine LeO.ite ?_ ?_)
   | (with_reducible refine LeO.bind ?_ (fun _ => ?_))
   | exact ih0 _ _ _ _ _ _ _
   | exact ih1 _ _ _ _ _ _ _ _ _
   | exact ih2 _ _ _ _ _ _ _ _ _ _
   | exact ih3 _ _ _ _ _ _ _ _ _ _ _
   | exact ih4 _ _ _ _ _ _ _ _ _ _ _
   | exact ih5 _ _ _ _ _ _ _ _ _
   | exact ih6 _ _ _ _ _ _ _ _
   | exact ih7 _ _ _ _ _ _ _
   | exact impl_Settle.mono _ _ _
   | exact spec_SettledOf.mono _ _
   | exact LeO.none _
   | refine LeO.ite ?_ ?_
   | refine LeO.bind ?_ (fun _ => ?_)
  ·intro y0 y1 y2 y3 y4 y5 y6 y7 y8 y9 y10
   unfold laws_FnSettle.l2
   repeat' first
   | (with_reducible exact ih0 _ _ _ _ _ _ _)
   | (with_reducible exact ih1 _ _ _ _ _ _ _ _ _)
   | (with_reducible exact ih2 _ _ _ _ _ _ _ _ _ _)
   | (with_reducible exact ih3 _ _ _ _ _ _ _ _ _ _ _)
   | (with_reducible exact ih4 _ _ _ _ _ _ _ _ _ _ _)
   | (with_reducible exact ih5 _ _ _ _ _ _ _ _ _)
   | (with_reducible exact ih6 _ _ _ _ _ _ _ _)
   | (with_reducible exact ih7 _ _ _ _ _ _ _)
   | (with_reducible exact impl_Settle.mono _ _ _)
   | (with_reducible exact spec_SettledOf.mono _ _)
   | (with_reducible exact LeO.refl _)
   | (with_reducible exact LeO.none _)
   | (with_reducible refine LeO.ite ?_ ?_)
   | (with_reducible refine LeO.bind ?_ (fun _ => ?_))
   | exact ih0 _ _ _ _ _ _ _
   | exact ih1 _ _ _ _ _ _ _ _ _
   | exact ih2 _ _ _ _ _ _ _ _ _ _
   | exact ih3 _ _ _ _ _ _ _ _ _ _ _
   | exact ih4 _ _ _ _ _ _ _ _ _ _ _
   | exact ih5 _ _ _ _ _ _ _ _ _
   | exact ih6 _ _ _ _ _ _ _ _
   | exact ih7 _ _ _ _ _ _ _
   | exact impl_Settle.mono _ _ _
   | exact spec_SettledOf.mono _ _
   | exact LeO.none _
   | refine LeO.ite ?_ ?_
   | refine LeO.bind ?_ (fun _ => ?_)
  ·intro y0 y1 y2 y3 y4 y5 y6 y7 y8
   unfold laws_FnSettle.l3
   repeat' first
   | (with_reducible exact ih0 _ _ _ _ _ _ _)
   | (with_reducible exact ih1 _ _ _ _ _ _ _ _ _)
   | (with_reducible exact ih2 _ _ _ _ _ _ _ _ _ _)
   | (with_reducible exact ih3 _ _ _ _ _ _ _ _ _ _ _)
   | (with_reducible exact ih4 _ _ _ _ _ _ _ _ _ _ _)
   | (with_reducible exact ih5 _ _ _ _ _ _ _ _ _)
   | (with_reducible exact ih6 _ _ _ _ _ _ _ _)
   | (with_reducible exact ih7 _ _ _ _ _ _ _)
   | (with_reducible exact impl_Settle.mono _ _ _)
   | (with_reducible exact spec_SettledOf.mono _ _)
   | (with_reducible exact LeO.refl _)
   | (with_reducible exact LeO.none _)
   | (with_reducible refine LeO.ite ?_ ?_)
   | (with_reducible refine LeO.bind ?_ (fun _ => ?_))
   | exact ih0 _ _ _ _ _ _ _
   | exact ih1 _ _ _ _ _ _ _ _ _
   | exact ih2 _ _ _ _ _ _ _ _ _ _
   | exact ih3 _ _ _ _ _ _ _ _ _ _ _
   | exact ih4 _ _ _ _ _ _ _ _ _ _ _
   | exact ih5 _ _ _ _ _ _ _ _ _
   | exact ih6 _ _ _ _ _ _ _ _
   | exact ih7 _ _ _ _ _ _ _
   | exact impl_Settle.mono _ _ _
   | exact spec_SettledOf.mono _ _
   | exact LeO.none _
   | refine LeO.ite ?_ ?_
   | refine LeO.bind ?_ (fun _ => ?_)
  ·intro y0 y1 y2 y3 y4 y5 y6 y7
   unfold laws_FnSettle.l4
   repeat' first
   | (with_reducible exact ih0 _ _ _ _ _ _ _)
   | (with_reducible exact ih1 _ _ _ _ _ _ _ _ _)
   | (with_reducible exact ih2 _ _ _ _ _ _ _ _ _ _)
   | (with_reducible exact ih3 _ _ _ _ _ _ _ _ _ _ _)
   | (with_reducible exact ih4 _ _ _ _ _ _ _ _ _ _ _)
   | (with_reducible exact ih5 _ _ _ _ _ _ _ _ _)
   | (with_reducible exact ih6 _ _ _ _ _ _ _ _)
   | (with_reducible exact ih7 _ _ _ _ _ _ _)
   | (with_reducible exact impl_Settle.mono _ _ _)
   | (with_reducible exact spec_SettledOf.mono _ _)
   | (with_reducible exact LeO.refl _)
   | (with_reducible exact LeO.none _)
   | (with_reducible refine LeO.ite ?_ ?_)
   | (with_reducible refine LeO.bind ?_ (fun _ => ?_))
   | exact ih0 _ _ _ _ _ _ _
   | exact ih1 _ _ _ _ _ _ _ _ _
   | exact ih2 _ _ _ _ _ _ _ _ _ _
   | exact ih3 _ _ _ _ _ _ _ _ _ _ _
   | exact ih4 _ _ _ _ _ _ _ _ _ _ _
   | exact ih5 _ _ _ _ _ _ _ _ _
   | exact ih6 _ _ _ _ _ _ _ _
   | exact ih7 _ _ _ _ _ _ _
   | exact impl_Settle.mono _ _ _
   | exact spec_SettledOf.mono _ _
   | exact LeO.none _
   | refine LeO.ite ?_ ?_
   | refine LeO.bind ?_ (fun _ => ?_)
  ·intro y0 y1 y2 y3 y4 y5 y6
   unfold laws_FnSettle.l5
   repeat' first
   | (with_reducible exact ih0 _ _ _ _ _ _ _)
   | (with_reducible exact ih1 _ _ _ _ _ _ _ _ _)
   | (with_reducible exact ih2 _ _ _ _ _ _ _ _ _ _)
   | (with_reducible exact ih3 _ _ _ _ _ _ _ _ _ _ _)
   | (with_reducible exact ih4 _ _ _ _ _ _ _ _ _ _ _)
   | (with_reducible exact ih5 _ _ _ _ _ _ _ _ _)
   | (with_reducible exact ih6 _ _ _ _ _ _ _ _)
   | (with_reducible exact ih7 _ _ _ _ _ _ _)
   | (with_reducible exact impl_Settle.mono _ _ _)
   | (with_reducible exact spec_SettledOf.mono _ _)
   | (with_reducible exact LeO.refl _)
   | (with_reducible exact LeO.none _)
   | (with_reducible refine LeO.ite ?_ ?_)
   | (with_reducible refine LeO.bind ?_ (fun _ => ?_))
   | exact ih0 _ _ _ _ _ _ _
   | exact ih1 _ _ _ _ _ _ _ _ _
   | exact ih2 _ _ _ _ _ _ _ _ _ _
   | exact ih3 _ _ _ _ _ _ _ _ _ _ _
   | exact ih4 _ _ _ _ _ _ _ _ _ _ _
   | exact ih5 _ _ _ _ _ _ _ _ _
   | exact ih6 _ _ _ _ _ _ _ _
   | exact ih7 _ _ _ _ _ _ _
   | exact impl_Settle.mono _ _ _
   | exact spec_SettledOf.mono _ _
   | exact LeO.none _
   | refine LeO.ite ?_ ?_
   | refine LeO.bind ?_ (fun _ => ?_)
theorem laws_FnSettle.mono : ∀ a0 k, LeO (laws_FnSettle.f k a0) (laws_FnSettle.f (k + 1) a0) := by
 intro a0 k
 obtain ⟨ih0, ih1, ih2, ih3, ih4, ih5, ih6, ih7⟩ := laws_FnSettle.mono_l k
 unfold laws_FnSettle.f
 repeat' first
   | (with_reducible exact ih0 _ _ _ _ _ _ _)
   | (with_reducible exact ih1 _ _ _ _ _ _ _ _ _)
   | (with_reducible exact ih2 _ _ _ _ _ _ _ _ _ _)
   | (with_reducible exact ih3 _ _ _ _ _ _ _ _ _ _ _)
   | (with_reducible exact ih4 _ _ _ _ _ _ _ _ _ _ _)
   | (with_reducible exact ih5 _ _ _ _ _ _ _ _ _)
   | (with_reducible exact ih6 _ _ _ _ _ _ _ _)
   | (with_reducible exact ih7 _ _ _ _ _ _ _)
   | (with_reducible exact impl_Settle.mono _ _ _)
   | (with_reducible exact spec_SettledOf.mono _ _)
   | (with_reducible exact LeO.refl _)
   | (with_reducible exact LeO.none _)
   | (with_reducible refine LeO.ite ?_ ?_)
   | (with_reducible refine LeO.bind ?_ (fun _ => ?_))
   | exact ih0 _ _ _ _ _ _ _
   | exact ih1 _ _ _ _ _ _ _ _ _
   | exact ih2 _ _ _ _ _ _ _ _ _ _
   | exact ih3 _ _ _ _ _ _ _ _ _ _ _
   | exact ih4 _ _ _ _ _ _ _ _ _ _ _
   | exact ih5 _ _ _ _ _ _ _ _ _
   | exact ih6 _ _ _ _ _ _ _ _
   | exact ih7 _ _ _ _ _ _ _
   | exact impl_Settle.mono _ _ _
   | exact spec_SettledOf.mono _ _
   | exact LeO.none _
   | refine LeO.ite ?_ ?_
   | refine LeO.bind ?_ (fun _ => ?_)
set_option maxHeartbeats 8000000 in
set_option maxRecDepth 100000 in
theorem laws_FnSettle.calls (k : Nat) (A0 : Option Addr) (c0 : Nat) (l0 : List Int) (r : Bool) (w : World) (hr0 : Kd.C (Kd.int .u8) w A0 l0.length l0) (hc0 : l0.length ≤ c0) (h : laws_FnSettle.f k l0 = some r) (hT0 : r = true) :
  Calls Try.prog 3 #[.slice A0 l0.length c0] w fun e w' => e = .returned (.bool r) ∧ Below w.heap.size w w' := by
 have hu29 := Try.underlying29
 have hu33 := Try.underlying33
 have HR0 := Aside0.mk hr0
 have HC0 := Aside0.mk hc0
 clear hr0 hc0
 have HB := Aside0.mk (Below.refl w.heap.size w)
 have H : (if (l0.length : Int) > 1048576 then (some true) else ((spec_SettledOf.f k l0).bind fun bt215 => ((impl_Settle.f k bt215.1 bt215.2).bind fun bt221 => (if bt221.2.2.2.2 = 0 then (if (wrap64 ((bt221.1.length : Int) + (bt221.2.1.length : Int))) = (bt215.1.length : Int) then (laws_FnSettle.j0 k bt215.1 bt215.2 ((wrap64 ((bt221.1.length : Int) + (bt221.2.2.1.length : Int))) != (bt215.2.length : Int)) bt221.1 bt221.2.1 bt221.2.2.1 bt221.2.2.2.1) else (laws_FnSettle.j0 k bt215.1 bt215.2 true bt221.1 bt221.2.1 bt221.2.2.1 bt221.2.2.2.1)) else (laws_FnSettle.j0 k bt215.1 bt215.2 true bt221.1 bt221.2.1 bt221.2.2.1 bt221.2.2.2.1))))) = some r := h
 clear h
 have hT_ := Aside0.mk hT0
 clear hT0
 by_cases c2 : (l0.length : Int) > 1048576
 ·rw [if_pos c2] at H
  have c2b0 : decide (1048576 < (l0.length : Int)) = true := decide_eq_true c2
  have c2b1 : decide (1048576 < l0.length) = true := decide_eq_true (by omega)
  clear c2
  as_aux_lemma =>
   obtain rfl := Option.some.inj H
   go_enter Try.func3, Try.ntmps3
   go_wp2
   repeat (go_quiet (fail); try go_wp2)
   go_ret
   exact ⟨by first | rfl | (simp [errW_none, errW_some] <;> rfl) | (simp [*, errW_none, errW_some] <;> rfl), by repeat (first | (with_reducible first | exact HB.out | apply below_alloc | apply pw_below_drewN | apply below_drew1) | exact HB.out)⟩
 ·rw [if_neg c2] at H
  have c2b0 : decide (1048576 < (l0.length : Int)) = false := decide_eq_false c2
  have c2b1 : decide (1048576 < l0.length) = false := decide_eq_false (by omega)
  clear c2
  replace H := Option.bind_eq_some_iff.mp H
  obtain ⟨⟨t215, t216⟩, A30, H⟩ := H
  replace H : ((impl_Settle.f k t215 t216).bind fun bt221 => (if bt221.2.2.2.2 = 0 then (if (wrap64 ((bt221.1.length : Int) + (bt221.2.1.length : Int))) = (t215.length : Int) then (laws_FnSettle.j0 k t215 t216 ((wrap64 ((bt221.1.length : Int) + (bt221.2.2.1.length : Int))) != (t216.length : Int)) bt221.1 bt221.2.1 bt221.2.2.1 bt221.2.2.2.1) else (laws_FnSettle.j0 k t215 t216 true bt221.1 bt221.2.1 bt221.2.2.1 bt221.2.2.2.1)) else (laws_FnSettle.j0 k t215 t216 true bt221.1 bt221.2.1 bt221.2.2.1 bt221.2.2.2.1))) = some r := H
  have A3 := Aside0.mk A30
  clear A30
  replace H := Option.bind_eq_some_iff.mp H
  obtain ⟨⟨t221, t224, t227, t230, t231⟩, A40, H⟩ := H
  replace H : (if t231 = 0 then (if (wrap64 ((t221.length : Int) + (t224.length : Int))) = (t215.length : Int) then (laws_FnSettle.j0 k t215 t216 ((wrap64 ((t221.length : Int) + (t227.length : Int))) != (t216.length : Int)) t221 t224 t227 t230) else (laws_FnSettle.j0 k t215 t216 true t221 t224 t227 t230)) else (laws_FnSettle.j0 k t215 t216 true t221 t224 t227 t230)) = some r := H
  have A4 := Aside0.mk A40
  clear A40
  have HC5 := Aside0.mk H
  clear H
  go_enter Try.func3, Try.ntmps3
  go_upto_region 5 with (first | (go_at_call 5; (with_reducible refine (spec_SettledOf.calls k _ _ l0 t215 t216 _ ?side1 ?side2 A3.out).mono ?_); (case side1 => repeat (first | exact HR0.out | (with_reducible refine Kd.C_alloc ?_ _) | (with_reducible refine Kd.C_drewN ?_ _) | (with_reducible refine Kd.C_drew ?_))); (case side2 => exact HC0.out); rintro e w6 ⟨v217, v219, rfl, ho0, ho1, hb⟩; have n0_ := Aside0.mk (Kd.R_lower ho0 (below_size (by repeat (first | (with_reducible first | exact HB.out | apply below_alloc | apply pw_below_drewN | apply below_drew1) | exact HB.out)))); have n1_ := Aside0.mk (Kd.R_lower ho1 (below_size (by repeat (first | (with_reducible first | exact HB.out | apply below_alloc | apply pw_below_drewN | apply below_drew1) | exact HB.out)))); have n2_ := Aside0.mk (below_step (by repeat (first | (with_reducible first | exact HB.out | apply below_alloc | apply pw_below_drewN | apply below_drew1) | exact HB.out)) hb); clear HB; have HO218 := n0_; have HO220 := n1_; have HB := n2_; clear n0_ n1_ n2_; (try clear hb); (try clear hb2); (try clear hk); (try clear hi); (try clear ho0); (try clear ho1); obtain ⟨Ao7, co7, eo7⟩ := Kd.R_slice HO218.out; subst eo7; obtain ⟨Ao8, co8, eo8⟩ := Kd.R_slice HO220.out; subst eo8) | (go_at_call 6; (with_reducible refine (impl_Settle.calls k _ _ t215 _ _ t216 t221 t224 t227 t230 t231 _ ?side1 ?side2 ?side3 ?side4 A4.out).mono ?_); (case side1 => repeat (first | exact (Kd.R_reads' HO218.out).2.2 | (with_reducible refine Kd.C_alloc ?_ _) | (with_reducible refine Kd.C_drewN ?_ _) | (with_reducible refine Kd.C_drew ?_))); (case side2 => exact (Kd.R_reads' HO218.out).2.1); (case side3 => repeat (first | exact (Kd.R_reads' HO220.out).2.2 | (with_reducible refine Kd.C_alloc ?_ _) | (with_reducible refine Kd.C_drewN ?_ _) | (with_reducible refine Kd.C_drew ?_))); (case side4 => exact (Kd.R_reads' HO220.out).2.1); rintro e w9 ⟨v222, v225, v228, rfl, ho0, ho1, ho2, hb⟩; have n0_ := Aside0.mk (Kd.R_below (by (with_reducible repeat (first | apply Kd.R_alloc | apply Kd.R_drewN | apply Kd.R_drew)); exact HO218.out) hb); have n1_ := Aside0.mk (Kd.R_below (by (with_reducible repeat (first | apply Kd.R_alloc | apply Kd.R_drewN | apply Kd.R_drew)); exact HO220.out) hb); have n2_ := Aside0.mk (Kd.S_lower ho0 (below_size (by repeat (first | (with_reducible first | exact HB.out | apply below_alloc | apply pw_below_drewN | apply below_drew1) | exact HB.out)))); have n3_ := Aside0.mk (Kd.R_lower ho1 (below_size (by repeat (first | (with_reducible first | exact HB.out | apply below_alloc | apply pw_below_drewN | apply below_drew1) | exact HB.out)))); have n4_ := Aside0.mk (Kd.R_lower ho2 (below_size (by repeat (first | (with_reducible first | exact HB.out | apply below_alloc | apply pw_below_drewN | apply below_drew1) | exact HB.out)))); have n5_ := Aside0.mk (below_step (by repeat (first | (with_reducible first | exact HB.out | apply below_alloc | apply pw_below_drewN | apply below_drew1) | exact HB.out)) hb); clear HO218; clear HO220; clear HB; have HO218 := n0_; have HO220 := n1_; have HO223 := n2_; have HO226 := n3_; have HO229 := n4_; have HB := n5_; clear n0_ n1_ n2_ n3_ n4_ n5_; (try clear hb); (try clear hb2); (try clear hk); (try clear hi); (try clear ho0); (try clear ho1); (try clear ho2)) | ((with_reducible refine gate_dst (N := 5) rfl ?_); (try (refine gate_guard (by rfl) ?_; dsimp only)); refine box_event ?hg (N := 5) ?hd (cs := #[.slice none 0 0, .slice none 0 0, .slice none 0 0, .int .i64 0]) (t := 29) ?hr ?_; (case hd => rfl); (case hg => rfl); (case hr => first | (go_simp; done) | (go_simp; rfl)); intro gb232 hg w10 hbox hb; have n0_ := Aside0.mk (Kd.R_below (by (with_reducible repeat (first | apply Kd.R_alloc | apply Kd.R_drewN | apply Kd.R_drew)); exact HO218.out) hb); have n1_ := Aside0.mk (Kd.R_below (by (with_reducible repeat (first | apply Kd.R_alloc | apply Kd.R_drewN | apply Kd.R_drew)); exact HO220.out) hb); have n2_ := Aside0.mk (Kd.S_below (by (with_reducible repeat (first | apply Kd.S_alloc | apply Kd.S_drewN | apply Kd.S_drew)); exact HO223.out) hb); have n3_ := Aside0.mk (Kd.R_below (by (with_reducible repeat (first | apply Kd.R_alloc | apply Kd.R_drewN | apply Kd.R_drew)); exact HO226.out) hb); have n4_ := Aside0.mk (Kd.R_below (by (with_reducible repeat (first | apply Kd.R_alloc | apply Kd.R_drewN | apply Kd.R_drew)); exact HO229.out) hb); have n5_ := Aside0.mk (below_step (by repeat (first | (with_reducible first | exact HB.out | apply below_alloc | apply pw_below_drewN | apply below_drew1) | exact HB.out)) hb); have n6_ := Aside0.mk (hbox); have n7_ := Aside0.mk ((by rw [hg]; exact (below_size (by repeat (first | (with_reducible first | exact HB.out | apply below_alloc | apply pw_below_drewN | apply below_drew1) | exact HB.out))) : w.heap.size ≤ gb232)); have n8_ := Aside0.mk ((by rw [hg]; exact (below_size (by repeat (first | (with_reducible first | exact HB.out | apply below_alloc | apply pw_below_drewN | apply below_drew1) | exact HB.out))) : w.heap.size ≤ gb232)); clear HO218; clear HO220; clear HO223; clear HO226; clear HO229; clear HB; have HO218 := n0_; have HO220 := n1_; have HO223 := n2_; have HO226 := n3_; have HO229 := n4_; have HB := n5_; have BK232 := n6_; have GW232 := n7_; have GE232 := n8_; clear n0_ n1_ n2_ n3_ n4_ n5_ n6_ n7_ n8_; clear hb hbox hg; obtain ⟨Ao11, co11, eo11⟩ := Kd.S_slice HO223.out; subst eo11; have hcz12_0 : w10.cell? ⟨gb232, 0, none⟩ = some (.slice none 0 0) := (blk_cell BK232.out 0).trans rfl; have hcz12_1 : w10.cell? ⟨gb232, 1, none⟩ = some (.slice none 0 0) := (blk_cell BK232.out 1).trans rfl; have hcz12_2 : w10.cell? ⟨gb232, 2, none⟩ = some (.slice none 0 0) := (blk_cell BK232.out 2).trans rfl; have hcz12_3 : w10.cell? ⟨gb232, 3, none⟩ = some (.int .i64 0) := (blk_cell BK232.out 3).trans rfl; have hfz12_0 := blk_frozen BK232.out 0; have hfz12_1 := blk_frozen BK232.out 1; have hfz12_2 := blk_frozen BK232.out 2; have hfz12_3 := blk_frozen BK232.out 3; obtain ⟨Ao13, co13, eo13⟩ := Kd.R_slice HO226.out; subst eo13; obtain ⟨Ao14, co14, eo14⟩ := Kd.R_slice HO229.out; subst eo14))
  repeat (go_quiet (first | (go_at_call 5; (with_reducible refine (spec_SettledOf.calls k _ _ l0 t215 t216 _ ?side1 ?side2 A3.out).mono ?_); (case side1 => repeat (first | exact HR0.out | (with_reducible refine Kd.C_alloc ?_ _) | (with_reducible refine Kd.C_drewN ?_ _) | (with_reducible refine Kd.C_drew ?_))); (case side2 => exact HC0.out); rintro e w6 ⟨v217, v219, rfl, ho0, ho1, hb⟩; have n0_ := Aside0.mk (Kd.R_lower ho0 (below_size (by repeat (first | (with_reducible first | exact HB.out | apply below_alloc | apply pw_below_drewN | apply below_drew1) | exact HB.out)))); have n1_ := Aside0.mk (Kd.R_lower ho1 (below_size (by repeat (first | (with_reducible first | exact HB.out | apply below_alloc | apply pw_below_drewN | apply below_drew1) | exact HB.out)))); have n2_ := Aside0.mk (below_step (by repeat (first | (with_reducible first | exact HB.out | apply below_alloc | apply pw_below_drewN | apply below_drew1) | exact HB.out)) hb); clear HB; have HO218 := n0_; have HO220 := n1_; have HB := n2_; clear n0_ n1_ n2_; (try clear hb); (try clear hb2); (try clear hk); (try clear hi); (try clear ho0); (try clear ho1); obtain ⟨Ao7, co7, eo7⟩ := Kd.R_slice HO218.out; subst eo7; obtain ⟨Ao8, co8, eo8⟩ := Kd.R_slice HO220.out; subst eo8) | (go_at_call 6; (with_reducible refine (impl_Settle.calls k _ _ t215 _ _ t216 t221 t224 t227 t230 t231 _ ?side1 ?side2 ?side3 ?side4 A4.out).mono ?_); (case side1 => repeat (first | exact (Kd.R_reads' HO218.out).2.2 | (with_reducible refine Kd.C_alloc ?_ _) | (with_reducible refine Kd.C_drewN ?_ _) | (with_reducible refine Kd.C_drew ?_))); (case side2 => exact (Kd.R_reads' HO218.out).2.1); (case side3 => repeat (first | exact (Kd.R_reads' HO220.out).2.2 | (with_reducible refine Kd.C_alloc ?_ _) | (with_reducible refine Kd.C_drewN ?_ _) | (with_reducible refine Kd.C_drew ?_))); (case side4 => exact (Kd.R_reads' HO220.out).2.1); rintro e w9 ⟨v222, v225, v228, rfl, ho0, ho1, ho2, hb⟩; have n0_ := Aside0.mk (Kd.R_below (by (with_reducible repeat (first | apply Kd.R_alloc | apply Kd.R_drewN | apply Kd.R_drew)); exact HO218.out) hb); have n1_ := Aside0.mk (Kd.R_below (by (with_reducible repeat (first | apply Kd.R_alloc | apply Kd.R_drewN | apply Kd.R_drew)); exact HO220.out) hb); have n2_ := Aside0.mk (Kd.S_lower ho0 (below_size (by repeat (first | (with_reducible first | exact HB.out | apply below_alloc | apply pw_below_drewN | apply below_drew1) | exact HB.out)))); have n3_ := Aside0.mk (Kd.R_lower ho1 (below_size (by repeat (first | (with_reducible first | exact HB.out | apply below_alloc | apply pw_below_drewN | apply below_drew1) | exact HB.out)))); have n4_ := Aside0.mk (Kd.R_lower ho2 (below_size (by repeat (first | (with_reducible first | exact HB.out | apply below_alloc | apply pw_below_drewN | apply below_drew1) | exact HB.out)))); have n5_ := Aside0.mk (below_step (by repeat (first | (with_reducible first | exact HB.out | apply below_alloc | apply pw_below_drewN | apply below_drew1) | exact HB.out)) hb); clear HO218; clear HO220; clear HB; have HO218 := n0_; have HO220 := n1_; have HO223 := n2_; have HO226 := n3_; have HO229 := n4_; have HB := n5_; clear n0_ n1_ n2_ n3_ n4_ n5_; (try clear hb); (try clear hb2); (try clear hk); (try clear hi); (try clear ho0); (try clear ho1); (try clear ho2)) | ((with_reducible refine gate_dst (N := 5) rfl ?_); (try (refine gate_guard (by rfl) ?_; dsimp only)); refine box_event ?hg (N := 5) ?hd (cs := #[.slice none 0 0, .slice none 0 0, .slice none 0 0, .int .i64 0]) (t := 29) ?hr ?_; (case hd => rfl); (case hg => rfl); (case hr => first | (go_simp; done) | (go_simp; rfl)); intro gb232 hg w10 hbox hb; have n0_ := Aside0.mk (Kd.R_below (by (with_reducible repeat (first | apply Kd.R_alloc | apply Kd.R_drewN | apply Kd.R_drew)); exact HO218.out) hb); have n1_ := Aside0.mk (Kd.R_below (by (with_reducible repeat (first | apply Kd.R_alloc | apply Kd.R_drewN | apply Kd.R_drew)); exact HO220.out) hb); have n2_ := Aside0.mk (Kd.S_below (by (with_reducible repeat (first | apply Kd.S_alloc | apply Kd.S_drewN | apply Kd.S_drew)); exact HO223.out) hb); have n3_ := Aside0.mk (Kd.R_below (by (with_reducible repeat (first | apply Kd.R_alloc | apply Kd.R_drewN | apply Kd.R_drew)); exact HO226.out) hb); have n4_ := Aside0.mk (Kd.R_below (by (with_reducible repeat (first | apply Kd.R_alloc | apply Kd.R_drewN | apply Kd.R_drew)); exact HO229.out) hb); have n5_ := Aside0.mk (below_step (by repeat (first | (with_reducible first | exact HB.out | apply below_alloc | apply pw_below_drewN | apply below_drew1) | exact HB.out)) hb); have n6_ := Aside0.mk (hbox); have n7_ := Aside0.mk ((by rw [hg]; exact (below_size (by repeat (first | (with_reducible first | exact HB.out | apply below_alloc | apply pw_below_drewN | apply below_drew1) | exact HB.out))) : w.heap.size ≤ gb232)); have n8_ := Aside0.mk ((by rw [hg]; exact (below_size (by repeat (first | (with_reducible first | exact HB.out | apply below_alloc | apply pw_below_drewN | apply below_drew1) | exact HB.out))) : w.heap.size ≤ gb232)); clear HO218; clear HO220; clear HO223; clear HO226; clear HO229; clear HB; have HO218 := n0_; have HO220 := n1_; have HO223 := n2_; have HO226 := n3_; have HO229 := n4_; have HB := n5_; have BK232 := n6_; have GW232 := n7_; have GE232 := n8_; clear n0_ n1_ n2_ n3_ n4_ n5_ n6_ n7_ n8_; clear hb hbox hg; obtain ⟨Ao11, co11, eo11⟩ := Kd.S_slice HO223.out; subst eo11; have hcz12_0 : w10.cell? ⟨gb232, 0, none⟩ = some (.slice none 0 0) := (blk_cell BK232.out 0).trans rfl; have hcz12_1 : w10.cell? ⟨gb232, 1, none⟩ = some (.slice none 0 0) := (blk_cell BK232.out 1).trans rfl; have hcz12_2 : w10.cell? ⟨gb232, 2, none⟩ = some (.slice none 0 0) := (blk_cell BK232.out 2).trans rfl; have hcz12_3 : w10.cell? ⟨gb232, 3, none⟩ = some (.int .i64 0) := (blk_cell BK232.out 3).trans rfl; have hfz12_0 := blk_frozen BK232.out 0; have hfz12_1 := blk_frozen BK232.out 1; have hfz12_2 := blk_frozen BK232.out 2; have hfz12_3 := blk_frozen BK232.out 3; obtain ⟨Ao13, co13, eo13⟩ := Kd.R_slice HO226.out; subst eo13; obtain ⟨Ao14, co14, eo14⟩ := Kd.R_slice HO229.out; subst eo14)); go_upto_region 5 with (first | (go_at_call 5; (with_reducible refine (spec_SettledOf.calls k _ _ l0 t215 t216 _ ?side1 ?side2 A3.out).mono ?_); (case side1 => repeat (first | exact HR0.out | (with_reducible refine Kd.C_alloc ?_ _) | (with_reducible refine Kd.C_drewN ?_ _) | (with_reducible refine Kd.C_drew ?_))); (case side2 => exact HC0.out); rintro e w6 ⟨v217, v219, rfl, ho0, ho1, hb⟩; have n0_ := Aside0.mk (Kd.R_lower ho0 (below_size (by repeat (first | (with_reducible first | exact HB.out | apply below_alloc | apply pw_below_drewN | apply below_drew1) | exact HB.out)))); have n1_ := Aside0.mk (Kd.R_lower ho1 (below_size (by repeat (first | (with_reducible first | exact HB.out | apply below_alloc | apply pw_below_drewN | apply below_drew1) | exact HB.out)))); have n2_ := Aside0.mk (below_step (by repeat (first | (with_reducible first | exact HB.out | apply below_alloc | apply pw_below_drewN | apply below_drew1) | exact HB.out)) hb); clear HB; have HO218 := n0_; have HO220 := n1_; have HB := n2_; clear n0_ n1_ n2_; (try clear hb); (try clear hb2); (try clear hk); (try clear hi); (try clear ho0); (try clear ho1); obtain ⟨Ao7, co7, eo7⟩ := Kd.R_slice HO218.out; subst eo7; obtain ⟨Ao8, co8, eo8⟩ := Kd.R_slice HO220.out; subst eo8) | (go_at_call 6; (with_reducible refine (impl_Settle.calls k _ _ t215 _ _ t216 t221 t224 t227 t230 t231 _ ?side1 ?side2 ?side3 ?side4 A4.out).mono ?_); (case side1 => repeat (first | exact (Kd.R_reads' HO218.out).2.2 | (with_reducible refine Kd.C_alloc ?_ _) | (with_reducible refine Kd.C_drewN ?_ _) | (with_reducible refine Kd.C_drew ?_))); (case side2 => exact (Kd.R_reads' HO218.out).2.1); (case side3 => repeat (first | exact (Kd.R_reads' HO220.out).2.2 | (with_reducible refine Kd.C_alloc ?_ _) | (with_reducible refine Kd.C_drewN ?_ _) | (with_reducible refine Kd.C_drew ?_))); (case side4 => exact (Kd.R_reads' HO220.out).2.1); rintro e w9 ⟨v222, v225, v228, rfl, ho0, ho1, ho2, hb⟩; have n0_ := Aside0.mk (Kd.R_below (by (with_reducible repeat (first | apply Kd.R_alloc | apply Kd.R_drewN | apply Kd.R_drew)); exact HO218.out) hb); have n1_ := Aside0.mk (Kd.R_below (by (with_reducible repeat (first | apply Kd.R_alloc | apply Kd.R_drewN | apply Kd.R_drew)); exact HO220.out) hb); have n2_ := Aside0.mk (Kd.S_lower ho0 (below_size (by repeat (first | (with_reducible first | exact HB.out | apply below_alloc | apply pw_below_drewN | apply below_drew1) | exact HB.out)))); have n3_ := Aside0.mk (Kd.R_lower ho1 (below_size (by repeat (first | (with_reducible first | exact HB.out | apply below_alloc | apply pw_below_drewN | apply below_drew1) | exact HB.out)))); have n4_ := Aside0.mk (Kd.R_lower ho2 (below_size (by repeat (first | (with_reducible first | exact HB.out | apply below_alloc | apply pw_below_drewN | apply below_drew1) | exact HB.out)))); have n5_ := Aside0.mk (below_step (by repeat (first | (with_reducible first | exact HB.out | apply below_alloc | apply pw_below_drewN | apply below_drew1) | exact HB.out)) hb); clear HO218; clear HO220; clear HB; have HO218 := n0_; have HO220 := n1_; have HO223 := n2_; have HO226 := n3_; have HO229 := n4_; have HB := n5_; clear n0_ n1_ n2_ n3_ n4_ n5_; (try clear hb); (try clear hb2); (try clear hk); (try clear hi); (try clear ho0); (try clear ho1); (try clear ho2)) | ((with_reducible refine gate_dst (N := 5) rfl ?_); (try (refine gate_guard (by rfl) ?_; dsimp only)); refine box_event ?hg (N := 5) ?hd (cs := #[.slice none 0 0, .slice none 0 0, .slice none 0 0, .int .i64 0]) (t := 29) ?hr ?_; (case hd => rfl); (case hg => rfl); (case hr => first | (go_simp; done) | (go_simp; rfl)); intro gb232 hg w10 hbox hb; have n0_ := Aside0.mk (Kd.R_below (by (with_reducible repeat (first | apply Kd.R_alloc | apply Kd.R_drewN | apply Kd.R_drew)); exact HO218.out) hb); have n1_ := Aside0.mk (Kd.R_below (by (with_reducible repeat (first | apply Kd.R_alloc | apply Kd.R_drewN | apply Kd.R_drew)); exact HO220.out) hb); have n2_ := Aside0.mk (Kd.S_below (by (with_reducible repeat (first | apply Kd.S_alloc | apply Kd.S_drewN | apply Kd.S_drew)); exact HO223.out) hb); have n3_ := Aside0.mk (Kd.R_below (by (with_reducible repeat (first | apply Kd.R_alloc | apply Kd.R_drewN | apply Kd.R_drew)); exact HO226.out) hb); have n4_ := Aside0.mk (Kd.R_below (by (with_reducible repeat (first | apply Kd.R_alloc | apply Kd.R_drewN | apply Kd.R_drew)); exact HO229.out) hb); have n5_ := Aside0.mk (below_step (by repeat (first | (with_reducible first | exact HB.out | apply below_alloc | apply pw_below_drewN | apply below_drew1) | exact HB.out)) hb); have n6_ := Aside0.mk (hbox); have n7_ := Aside0.mk ((by rw [hg]; exact (below_size (by repeat (first | (with_reducible first | exact HB.out | apply below_alloc | apply pw_below_drewN | apply below_drew1) | exact HB.out))) : w.heap.size ≤ gb232)); have n8_ := Aside0.mk ((by rw [hg]; exact (below_size (by repeat (first | (with_reducible first | exact HB.out | apply below_alloc | apply pw_below_drewN | apply below_drew1) | exact HB.out))) : w.heap.size ≤ gb232)); clear HO218; clear HO220; clear HO223; clear HO226; clear HO229; clear HB; have HO218 := n0_; have HO220 := n1_; have HO223 := n2_; have HO226 := n3_; have HO229 := n4_; have HB := n5_; have BK232 := n6_; have GW232 := n7_; have GE232 := n8_; clear n0_ n1_ n2_ n3_ n4_ n5_ n6_ n7_ n8_; clear hb hbox hg; obtain ⟨Ao11, co11, eo11⟩ := Kd.S_slice HO223.out; subst eo11; have hcz12_0 : w10.cell? ⟨gb232, 0, none⟩ = some (.slice none 0 0) := (blk_cell BK232.out 0).trans rfl; have hcz12_1 : w10.cell? ⟨gb232, 1, none⟩ = some (.slice none 0 0) := (blk_cell BK232.out 1).trans rfl; have hcz12_2 : w10.cell? ⟨gb232, 2, none⟩ = some (.slice none 0 0) := (blk_cell BK232.out 2).trans rfl; have hcz12_3 : w10.cell? ⟨gb232, 3, none⟩ = some (.int .i64 0) := (blk_cell BK232.out 3).trans rfl; have hfz12_0 := blk_frozen BK232.out 0; have hfz12_1 := blk_frozen BK232.out 1; have hfz12_2 := blk_frozen BK232.out 2; have hfz12_3 := blk_frozen BK232.out 3; obtain ⟨Ao13, co13, eo13⟩ := Kd.R_slice HO226.out; subst eo13; obtain ⟨Ao14, co14, eo14⟩ := Kd.R_slice HO229.out; subst eo14)))
  (try simp only [Act.put, List.setIfInBounds_toArray, List.set_cons_zero, List.set_cons_succ])
  go_cut [56] (fun v56 wc => ∃ (kq : Nat) (x56_4 : Bool), v56 = .bool x56_4 ∧ Aside0 (laws_FnSettle.j0 kq t215 t216 x56_4 t221 t224 t227 t230 = some r) ∧ Aside0 (kq ≤ k) ∧ Aside0 (Kd.R k33 33 wc w.heap.size (fun k_ => some k_ ≠ ((.slice Ao8 t216.length co8) : Value).ownBlock) (.slice Ao7 t215.length co7) t215) ∧ Aside0 (Kd.R k33 33 wc w.heap.size (fun k_ => some k_ ≠ ((.slice Ao7 t215.length co7) : Value).ownBlock) (.slice Ao8 t216.length co8) t216) ∧ Aside0 (Kd.S (Kd.slice 3 (Kd.int .i64)) 27 wc w.heap.size (fun k_ => some k_ ≠ ((.slice Ao13 t224.length co13) : Value).ownBlock ∧ some k_ ≠ ((.slice Ao14 t227.length co14) : Value).ownBlock) (.slice Ao11 t221.length co11) t221) ∧ Aside0 (Kd.R (Kd.int .i64) 3 wc w.heap.size (fun k_ => some k_ ≠ ((.slice Ao14 t227.length co14) : Value).ownBlock) (.slice Ao13 t224.length co13) t224) ∧ Aside0 (Kd.R (Kd.int .i64) 3 wc w.heap.size (fun k_ => some k_ ≠ ((.slice Ao13 t224.length co13) : Value).ownBlock) (.slice Ao14 t227.length co14) t227) ∧ Aside0 (wc.heap[gb232]? = some (.cells #[(.slice Ao11 t221.length co11), (.slice Ao13 t224.length co13), (.slice Ao14 t227.length co14), .int .i64 t230] 29 (0, 0))) ∧ Aside0 (Below w.heap.size w wc))
  case first =>
   have H := HC5.out
   clear HC5
   by_cases c15 : t231 = 0
   ·rw [if_pos c15] at H
    have c15b0 : (t231 == 0) = true := beq_iff_eq.mpr c15
    have c15b1 : (t231 != 0) = false := bne_eq_false_iff_eq.mpr c15
    clear c15
    (first | rw [c15b0] | (simp only [i64_w, i32_w]; rw [c15b0]) | skip)
    by_cases c16 : (wrap64 ((t221.length : Int) + (t224.length : Int))) = (t215.length : Int)
    ·rw [if_pos c16] at H
     have c16b0 : ((wrap64 ((t221.length : Int) + (t224.length : Int))) == (t215.length : Int)) = true := beq_iff_eq.mpr c16
     have c16b1 : ((wrap64 ((t221.length : Int) + (t224.length : Int))) != (t215.length : Int)) = false := bne_eq_false_iff_eq.mpr c16
     clear c16
     as_aux_lemma =>
      have H' := Aside0.mk H
      clear H
      have hcz17_0 : w10.cell? ⟨gb232, 0, none⟩ = some (.slice none 0 0) := (blk_cell BK232.out 0).trans rfl
      have hcz17_1 : w10.cell? ⟨gb232, 1, none⟩ = some (.slice none 0 0) := (blk_cell BK232.out 1).trans rfl
      have hcz17_2 : w10.cell? ⟨gb232, 2, none⟩ = some (.slice none 0 0) := (blk_cell BK232.out 2).trans rfl
      have hcz17_3 : w10.cell? ⟨gb232, 3, none⟩ = some (.int .i64 0) := (blk_cell BK232.out 3).trans rfl
      have hfz17_0 := blk_frozen BK232.out 0
      have hfz17_1 := blk_frozen BK232.out 1
      have hfz17_2 := blk_frozen BK232.out 2
      have hfz17_3 := blk_frozen BK232.out 3
      go_wp2
      repeat (go_quiet (fail); try go_wp2)
      go_meet
      case rel => exact ⟨_, (((wrap64 ((t221.length : Int) + (t227.length : Int))) != (t216.length : Int))), (by first | rfl | (simp; done) | (simp [*]; done)), H', ⟨by first | omega | exact Nat.le_refl _⟩, ⟨by (with_reducible repeat (first | apply Kd.R_alloc | apply Kd.R_drewN | apply Kd.R_drew)); exact Kd.R_mono (Kd.R_far (p := ⟨gb232, 3, none⟩) (Kd.R_far (p := ⟨gb232, 2, none⟩) (Kd.R_far (p := ⟨gb232, 1, none⟩) (Kd.R_far (p := ⟨gb232, 0, none⟩) (Kd.R_types HO218.out BK232.out (by decide)) (fun _ hk => hk.2) (.slice Ao11 t221.length co11)) (fun _ hk => hk.2) (.slice Ao13 t224.length co13)) (fun _ hk => hk.2) (.slice Ao14 t227.length co14)) (fun _ hk => hk.2) (.int .i64 t230)) (fun _ hk => hk.1)⟩, ⟨by (with_reducible repeat (first | apply Kd.R_alloc | apply Kd.R_drewN | apply Kd.R_drew)); exact Kd.R_mono (Kd.R_far (p := ⟨gb232, 3, none⟩) (Kd.R_far (p := ⟨gb232, 2, none⟩) (Kd.R_far (p := ⟨gb232, 1, none⟩) (Kd.R_far (p := ⟨gb232, 0, none⟩) (Kd.R_types HO220.out BK232.out (by decide)) (fun _ hk => hk.2) (.slice Ao11 t221.length co11)) (fun _ hk => hk.2) (.slice Ao13 t224.length co13)) (fun _ hk => hk.2) (.slice Ao14 t227.length co14)) (fun _ hk => hk.2) (.int .i64 t230)) (fun _ hk => hk.1)⟩, ⟨by (with_reducible repeat (first | apply Kd.S_alloc | apply Kd.S_drewN | apply Kd.S_drew)); exact Kd.S_mono (Kd.S_far (p := ⟨gb232, 3, none⟩) (Kd.S_far (p := ⟨gb232, 2, none⟩) (Kd.S_far (p := ⟨gb232, 1, none⟩) (Kd.S_far (p := ⟨gb232, 0, none⟩) (Kd.S_types HO223.out BK232.out (by decide)) (fun _ hk => hk.2) (.slice Ao11 t221.length co11)) (fun _ hk => hk.2) (.slice Ao13 t224.length co13)) (fun _ hk => hk.2) (.slice Ao14 t227.length co14)) (fun _ hk => hk.2) (.int .i64 t230)) (fun _ hk => ⟨hk.1.1, hk.1.2⟩)⟩, ⟨by (with_reducible repeat (first | apply Kd.R_alloc | apply Kd.R_drewN | apply Kd.R_drew)); exact Kd.R_mono (Kd.R_far (p := ⟨gb232, 3, none⟩) (Kd.R_far (p := ⟨gb232, 2, none⟩) (Kd.R_far (p := ⟨gb232, 1, none⟩) (Kd.R_far (p := ⟨gb232, 0, none⟩) (Kd.R_types HO226.out BK232.out (by decide)) (fun _ hk => hk.2) (.slice Ao11 t221.length co11)) (fun _ hk => hk.2) (.slice Ao13 t224.length co13)) (fun _ hk => hk.2) (.slice Ao14 t227.length co14)) (fun _ hk => hk.2) (.int .i64 t230)) (fun _ hk => hk.1)⟩, ⟨by (with_reducible repeat (first | apply Kd.R_alloc | apply Kd.R_drewN | apply Kd.R_drew)); exact Kd.R_mono (Kd.R_far (p := ⟨gb232, 3, none⟩) (Kd.R_far (p := ⟨gb232, 2, none⟩) (Kd.R_far (p := ⟨gb232, 1, none⟩) (Kd.R_far (p := ⟨gb232, 0, none⟩) (Kd.R_types HO229.out BK232.out (by decide)) (fun _ hk => hk.2) (.slice Ao11 t221.length co11)) (fun _ hk => hk.2) (.slice Ao13 t224.length co13)) (fun _ hk => hk.2) (.slice Ao14 t227.length co14)) (fun _ hk => hk.2) (.int .i64 t230)) (fun _ hk => hk.1)⟩, ⟨by (with_reducible repeat (first | refine blk_drewN ?_ _ | refine blk_drew ?_ | refine blk_alloc ?_ _)); refine blk_put (cs := #[.slice Ao11 t221.length co11, .slice Ao13 t224.length co13, .slice Ao14 t227.length co14, .int .i64 0]) ?_ 3 _ rfl; (with_reducible repeat (first | refine blk_drewN ?_ _ | refine blk_drew ?_ | refine blk_alloc ?_ _)); refine blk_put (cs := #[.slice Ao11 t221.length co11, .slice Ao13 t224.length co13, .slice none 0 0, .int .i64 0]) ?_ 2 _ rfl; (with_reducible repeat (first | refine blk_drewN ?_ _ | refine blk_drew ?_ | refine blk_alloc ?_ _)); refine blk_put (cs := #[.slice Ao11 t221.length co11, .slice none 0 0, .slice none 0 0, .int .i64 0]) ?_ 1 _ rfl; (with_reducible repeat (first | refine blk_drewN ?_ _ | refine blk_drew ?_ | refine blk_alloc ?_ _)); refine blk_put (cs := #[.slice none 0 0, .slice none 0 0, .slice none 0 0, .int .i64 0]) ?_ 0 _ rfl; (with_reducible repeat (first | refine blk_drewN ?_ _ | refine blk_drew ?_ | refine blk_alloc ?_ _)); exact BK232.out⟩, ⟨by repeat (first | (with_reducible first | exact HB.out | apply below_alloc | apply pw_below_drewN | apply below_drew1 | refine below_set ?_ GE232.out) | exact HB.out)⟩⟩
    ·rw [if_neg c16] at H
     have c16b0 : ((wrap64 ((t221.length : Int) + (t224.length : Int))) == (t215.length : Int)) = false := beq_eq_false_iff_ne.mpr c16
     have c16b1 : ((wrap64 ((t221.length : Int) + (t224.length : Int))) != (t215.length : Int)) = true := bne_iff_ne.mpr c16
     as_aux_lemma =>
      have H' := Aside0.mk H
      clear H
      have hcz18_0 : w10.cell? ⟨gb232, 0, none⟩ = some (.slice none 0 0) := (blk_cell BK232.out 0).trans rfl
      have hcz18_1 : w10.cell? ⟨gb232, 1, none⟩ = some (.slice none 0 0) := (blk_cell BK232.out 1).trans rfl
      have hcz18_2 : w10.cell? ⟨gb232, 2, none⟩ = some (.slice none 0 0) := (blk_cell BK232.out 2).trans rfl
      have hcz18_3 : w10.cell? ⟨gb232, 3, none⟩ = some (.int .i64 0) := (blk_cell BK232.out 3).trans rfl
      have hfz18_0 := blk_frozen BK232.out 0
      have hfz18_1 := blk_frozen BK232.out 1
      have hfz18_2 := blk_frozen BK232.out 2
      have hfz18_3 := blk_frozen BK232.out 3
      go_wp2
      repeat (go_quiet (fail); try go_wp2)
      go_meet
      case rel => exact ⟨_, (true), (by first | rfl | (simp; done) | (simp [*]; done)), H', ⟨by first | omega | exact Nat.le_refl _⟩, ⟨by (with_reducible repeat (first | apply Kd.R_alloc | apply Kd.R_drewN | apply Kd.R_drew)); exact Kd.R_mono (Kd.R_far (p := ⟨gb232, 3, none⟩) (Kd.R_far (p := ⟨gb232, 2, none⟩) (Kd.R_far (p := ⟨gb232, 1, none⟩) (Kd.R_far (p := ⟨gb232, 0, none⟩) (Kd.R_types HO218.out BK232.out (by decide)) (fun _ hk => hk.2) (.slice Ao11 t221.length co11)) (fun _ hk => hk.2) (.slice Ao13 t224.length co13)) (fun _ hk => hk.2) (.slice Ao14 t227.length co14)) (fun _ hk => hk.2) (.int .i64 t230)) (fun _ hk => hk.1)⟩, ⟨by (with_reducible repeat (first | apply Kd.R_alloc | apply Kd.R_drewN | apply Kd.R_drew)); exact Kd.R_mono (Kd.R_far (p := ⟨gb232, 3, none⟩) (Kd.R_far (p := ⟨gb232, 2, none⟩) (Kd.R_far (p := ⟨gb232, 1, none⟩) (Kd.R_far (p := ⟨gb232, 0, none⟩) (Kd.R_types HO220.out BK232.out (by decide)) (fun _ hk => hk.2) (.slice Ao11 t221.length co11)) (fun _ hk => hk.2) (.slice Ao13 t224.length co13)) (fun _ hk => hk.2) (.slice Ao14 t227.length co14)) (fun _ hk => hk.2) (.int .i64 t230)) (fun _ hk => hk.1)⟩, ⟨by (with_reducible repeat (first | apply Kd.S_alloc | apply Kd.S_drewN | apply Kd.S_drew)); exact Kd.S_mono (Kd.S_far (p := ⟨gb232, 3, none⟩) (Kd.S_far (p := ⟨gb232, 2, none⟩) (Kd.S_far (p := ⟨gb232, 1, none⟩) (Kd.S_far (p := ⟨gb232, 0, none⟩) (Kd.S_types HO223.out BK232.out (by decide)) (fun _ hk => hk.2) (.slice Ao11 t221.length co11)) (fun _ hk => hk.2) (.slice Ao13 t224.length co13)) (fun _ hk => hk.2) (.slice Ao14 t227.length co14)) (fun _ hk => hk.2) (.int .i64 t230)) (fun _ hk => ⟨hk.1.1, hk.1.2⟩)⟩, ⟨by (with_reducible repeat (first | apply Kd.R_alloc | apply Kd.R_drewN | apply Kd.R_drew)); exact Kd.R_mono (Kd.R_far (p := ⟨gb232, 3, none⟩) (Kd.R_far (p := ⟨gb232, 2, none⟩) (Kd.R_far (p := ⟨gb232, 1, none⟩) (Kd.R_far (p := ⟨gb232, 0, none⟩) (Kd.R_types HO226.out BK232.out (by decide)) (fun _ hk => hk.2) (.slice Ao11 t221.length co11)) (fun _ hk => hk.2) (.slice Ao13 t224.length co13)) (fun _ hk => hk.2) (.slice Ao14 t227.length co14)) (fun _ hk => hk.2) (.int .i64 t230)) (fun _ hk => hk.1)⟩, ⟨by (with_reducible repeat (first | apply Kd.R_alloc | apply Kd.R_drewN | apply Kd.R_drew)); exact Kd.R_mono (Kd.R_far (p := ⟨gb232, 3, none⟩) (Kd.R_far (p := ⟨gb232, 2, none⟩) (Kd.R_far (p := ⟨gb232, 1, none⟩) (Kd.R_far (p := ⟨gb232, 0, none⟩) (Kd.R_types HO229.out BK232.out (by decide)) (fun _ hk => hk.2) (.slice Ao11 t221.length co11)) (fun _ hk => hk.2) (.slice Ao13 t224.length co13)) (fun _ hk => hk.2) (.slice Ao14 t227.length co14)) (fun _ hk => hk.2) (.int .i64 t230)) (fun _ hk => hk.1)⟩, ⟨by (with_reducible repeat (first | refine blk_drewN ?_ _ | refine blk_drew ?_ | refine blk_alloc ?_ _)); refine blk_put (cs := #[.slice Ao11 t221.length co11, .slice Ao13 t224.length co13, .slice Ao14 t227.length co14, .int .i64 0]) ?_ 3 _ rfl; (with_reducible repeat (first | refine blk_drewN ?_ _ | refine blk_drew ?_ | refine blk_alloc ?_ _)); refine blk_put (cs := #[.slice Ao11 t221.length co11, .slice Ao13 t224.length co13, .slice none 0 0, .int .i64 0]) ?_ 2 _ rfl; (with_reducible repeat (first | refine blk_drewN ?_ _ | refine blk_drew ?_ | refine blk_alloc ?_ _)); refine blk_put (cs := #[.slice Ao11 t221.length co11, .slice none 0 0, .slice none 0 0, .int .i64 0]) ?_ 1 _ rfl; (with_reducible repeat (first | refine blk_drewN ?_ _ | refine blk_drew ?_ | refine blk_alloc ?_ _)); refine blk_put (cs := #[.slice none 0 0, .slice none 0 0, .slice none 0 0, .int .i64 0]) ?_ 0 _ rfl; (with_reducible repeat (first | refine blk_drewN ?_ _ | refine blk_drew ?_ | refine blk_alloc ?_ _)); exact BK232.out⟩, ⟨by repeat (first | (with_reducible first | exact HB.out | apply below_alloc | apply pw_below_drewN | apply below_drew1 | refine below_set ?_ GE232.out) | exact HB.out)⟩⟩
   ·rw [if_neg c15] at H
    have c15b0 : (t231 == 0) = false := beq_eq_false_iff_ne.mpr c15
    have c15b1 : (t231 != 0) = true := bne_iff_ne.mpr c15
    (first | rw [c15b0] | (simp only [i64_w, i32_w]; rw [c15b0]) | skip)
    as_aux_lemma =>
     have H' := Aside0.mk H
     clear H
     go_wp2
     repeat (go_quiet (fail); try go_wp2)
     go_meet
     case rel => exact ⟨_, (true), (by first | rfl | (simp; done) | (simp [*]; done)), H', ⟨by first | omega | exact Nat.le_refl _⟩, ⟨by (with_reducible repeat (first | apply Kd.R_alloc | apply Kd.R_drewN | apply Kd.R_drew)); exact Kd.R_mono (Kd.R_far (p := ⟨gb232, 3, none⟩) (Kd.R_far (p := ⟨gb232, 2, none⟩) (Kd.R_far (p := ⟨gb232, 1, none⟩) (Kd.R_far (p := ⟨gb232, 0, none⟩) (Kd.R_types HO218.out BK232.out (by decide)) (fun _ hk => hk.2) (.slice Ao11 t221.length co11)) (fun _ hk => hk.2) (.slice Ao13 t224.length co13)) (fun _ hk => hk.2) (.slice Ao14 t227.length co14)) (fun _ hk => hk.2) (.int .i64 t230)) (fun _ hk => hk.1)⟩, ⟨by (with_reducible repeat (first | apply Kd.R_alloc | apply Kd.R_drewN | apply Kd.R_drew)); exact Kd.R_mono (Kd.R_far (p := ⟨gb232, 3, none⟩) (Kd.R_far (p := ⟨gb232, 2, none⟩) (Kd.R_far (p := ⟨gb232, 1, none⟩) (Kd.R_far (p := ⟨gb232, 0, none⟩) (Kd.R_types HO220.out BK232.out (by decide)) (fun _ hk => hk.2) (.slice Ao11 t221.length co11)) (fun _ hk => hk.2) (.slice Ao13 t224.length co13)) (fun _ hk => hk.2) (.slice Ao14 t227.length co14)) (fun _ hk => hk.2) (.int .i64 t230)) (fun _ hk => hk.1)⟩, ⟨by (with_reducible repeat (first | apply Kd.S_alloc | apply Kd.S_drewN | apply Kd.S_drew)); exact Kd.S_mono (Kd.S_far (p := ⟨gb232, 3, none⟩) (Kd.S_far (p := ⟨gb232, 2, none⟩) (Kd.S_far (p := ⟨gb232, 1, none⟩) (Kd.S_far (p := ⟨gb232, 0, none⟩) (Kd.S_types HO223.out BK232.out (by decide)) (fun _ hk => hk.2) (.slice Ao11 t221.length co11)) (fun _ hk => hk.2) (.slice Ao13 t224.length co13)) (fun _ hk => hk.2) (.slice Ao14 t227.length co14)) (fun _ hk => hk.2) (.int .i64 t230)) (fun _ hk => ⟨hk.1.1, hk.1.2⟩)⟩, ⟨by (with_reducible repeat (first | apply Kd.R_alloc | apply Kd.R_drewN | apply Kd.R_drew)); exact Kd.R_mono (Kd.R_far (p := ⟨gb232, 3, none⟩) (Kd.R_far (p := ⟨gb232, 2, none⟩) (Kd.R_far (p := ⟨gb232, 1, none⟩) (Kd.R_far (p := ⟨gb232, 0, none⟩) (Kd.R_types HO226.out BK232.out (by decide)) (fun _ hk => hk.2) (.slice Ao11 t221.length co11)) (fun _ hk => hk.2) (.slice Ao13 t224.length co13)) (fun _ hk => hk.2) (.slice Ao14 t227.length co14)) (fun _ hk => hk.2) (.int .i64 t230)) (fun _ hk => hk.1)⟩, ⟨by (with_reducible repeat (first | apply Kd.R_alloc | apply Kd.R_drewN | apply Kd.R_drew)); exact Kd.R_mono (Kd.R_far (p := ⟨gb232, 3, none⟩) (Kd.R_far (p := ⟨gb232, 2, none⟩) (Kd.R_far (p := ⟨gb232, 1, none⟩) (Kd.R_far (p := ⟨gb232, 0, none⟩) (Kd.R_types HO229.out BK232.out (by decide)) (fun _ hk => hk.2) (.slice Ao11 t221.length co11)) (fun _ hk => hk.2) (.slice Ao13 t224.length co13)) (fun _ hk => hk.2) (.slice Ao14 t227.length co14)) (fun _ hk => hk.2) (.int .i64 t230)) (fun _ hk => hk.1)⟩, ⟨by (with_reducible repeat (first | refine blk_drewN ?_ _ | refine blk_drew ?_ | refine blk_alloc ?_ _)); refine blk_put (cs := #[.slice Ao11 t221.length co11, .slice Ao13 t224.length co13, .slice Ao14 t227.length co14, .int .i64 0]) ?_ 3 _ rfl; (with_reducible repeat (first | refine blk_drewN ?_ _ | refine blk_drew ?_ | refine blk_alloc ?_ _)); refine blk_put (cs := #[.slice Ao11 t221.length co11, .slice Ao13 t224.length co13, .slice none 0 0, .int .i64 0]) ?_ 2 _ rfl; (with_reducible repeat (first | refine blk_drewN ?_ _ | refine blk_drew ?_ | refine blk_alloc ?_ _)); refine blk_put (cs := #[.slice Ao11 t221.length co11, .slice none 0 0, .slice none 0 0, .int .i64 0]) ?_ 1 _ rfl; (with_reducible repeat (first | refine blk_drewN ?_ _ | refine blk_drew ?_ | refine blk_alloc ?_ _)); refine blk_put (cs := #[.slice none 0 0, .slice none 0 0, .slice none 0 0, .int .i64 0]) ?_ 0 _ rfl; (with_reducible repeat (first | refine blk_drewN ?_ _ | refine blk_drew ?_ | refine blk_alloc ?_ _)); exact BK232.out⟩, ⟨by repeat (first | (with_reducible first | exact HB.out | apply below_alloc | apply pw_below_drewN | apply below_drew1 | refine below_set ?_ GE232.out) | exact HB.out)⟩⟩
  case rest =>
   clear HC5
   (try clear c1); (try clear c2); (try clear c2b0); (try clear c2b1); (try clear p2); (try clear c3); (try clear p6); (try clear c15); (try clear c15b0); (try clear c15b1); (try clear c16); (try clear c16b0); (try clear c16b1); (try clear hcz12_0); (try clear hcz12_1); (try clear hcz12_2); (try clear hcz12_3); (try clear hcz17_0); (try clear hcz17_1); (try clear hcz17_2); (try clear hcz17_3); (try clear hcz18_0); (try clear hcz18_1); (try clear hcz18_2); (try clear hcz18_3); (try clear hfz12_0); (try clear hfz12_1); (try clear hfz12_2); (try clear hfz12_3); (try clear hfz17_0); (try clear hfz17_1); (try clear hfz17_2); (try clear hfz17_3); (try clear hfz18_0); (try clear hfz18_1); (try clear hfz18_2); (try clear hfz18_3)
   obtain ⟨kq, x56_4, rfl, HA, HJ4, HO_3, HO_4, HO_233000, HO_233001, HO_233002, BK232, HB⟩ := hcut
   cases kq with
   | zero => exact absurd HA.out (by simp [laws_FnSettle.j0])
   | succ kj4 =>
    have H := HA.out
    clear HA
    simp only [laws_FnSettle.j0] at H
    by_cases c19 : x56_4 = true
    ·subst c19
     have H1 : (some false) = some r := by rw [if_pos rfl] at H; exact H
     clear H
     have H := H1
     clear H1
     as_aux_lemma =>
      obtain rfl := Option.some.inj H
      exact absurd hT_.out (by decide)
    ·replace c19 := Bool.eq_false_iff.mpr c19
     subst c19
     have H1 : (if 0 ≤ (t215.length : Int) then (if ((t215.length : Int) : Int).toNat ≤ 35184372088832 then (if 0 ≤ (t216.length : Int) then (if ((t216.length : Int) : Int).toNat ≤ 35184372088832 then (laws_FnSettle.l0 kj4 t215 t216 (List.replicate ((t215.length : Int) : Int).toNat 0) (List.replicate ((t216.length : Int) : Int).toNat 0) 0 t221 t224 t227 t230) else (none)) else (none)) else (none)) else (none)) = some r := by rw [if_neg (show ¬ (false = true) by decide)] at H; exact H
     clear H
     have H := H1
     clear H1
     by_cases c20 : 0 ≤ (t215.length : Int)
     ·rw [if_pos c20] at H
      have c20b0 := eq_true c20
      have c20b1 : decide (0 ≤ (t215.length : Int)) = true := decide_eq_true c20
      clear c20
      by_cases c21 : ((t215.length : Int) : Int).toNat ≤ 35184372088832
      ·rw [if_pos c21] at H
       have c21b0 := eq_true c21
       have c21b1 : decide (((t215.length : Int) : Int).toNat ≤ 35184372088832) = true := decide_eq_true c21
       clear c21
       obtain ⟨y233, hy233⟩ : ∃ y_ : List Int, y_ = (List.replicate ((t215.length : Int) : Int).toNat 0) := ⟨_, rfl⟩
       replace H : (if 0 ≤ (t216.length : Int) then (if ((t216.length : Int) : Int).toNat ≤ 35184372088832 then (laws_FnSettle.l0 kj4 t215 t216 y233 (List.replicate ((t216.length : Int) : Int).toNat 0) 0 t221 t224 t227 t230) else (none)) else (none)) = some r := by first | (rw [hy233]; with_reducible exact H) | (have H2_ := (Option.bind_some _ _).symm.trans H; rw [hy233]; with_reducible exact H2_) | (have H2_ := (Option.bind_some _ _).symm.trans H; with_reducible exact H2_) | with_reducible exact H | (rw [hy233]; exact H) | exact H
       have Ny233 := Aside0.mk hy233
       clear hy233
       by_cases c22 : 0 ≤ (t216.length : Int)
       ·rw [if_pos c22] at H
        have c22b0 := eq_true c22
        have c22b1 : decide (0 ≤ (t216.length : Int)) = true := decide_eq_true c22
        clear c22
        by_cases c23 : ((t216.length : Int) : Int).toNat ≤ 35184372088832
        ·rw [if_pos c23] at H
         have c23b0 := eq_true c23
         have c23b1 : decide (((t216.length : Int) : Int).toNat ≤ 35184372088832) = true := decide_eq_true c23
         clear c23
         obtain ⟨y236, hy236⟩ : ∃ y_ : List Int, y_ = (List.replicate ((t216.length : Int) : Int).toNat 0) := ⟨_, rfl⟩
         replace H : (laws_FnSettle.l0 kj4 t215 t216 y233 y236 0 t221 t224 t227 t230) = some r := by first | (rw [hy236]; with_reducible exact H) | (have H2_ := (Option.bind_some _ _).symm.trans H; rw [hy236]; with_reducible exact H2_) | (have H2_ := (Option.bind_some _ _).symm.trans H; with_reducible exact H2_) | with_reducible exact H | (rw [hy236]; exact H) | exact H
         have Ny236 := Aside0.mk hy236
         clear hy236
         have H' := Aside0.mk H
         clear H
         go_wp2_with (first | ((with_reducible refine gate_dst (N := 59) rfl ?_); (try (refine gate_guard (by rfl) ?_; dsimp only)); refine Kd.R_make (Kd.int .i64) _ 3 rfl (N := 59) rfl 27 _ _ rfl (t215.length : Int) rfl rfl Try.underlying27 (.int .i64 0) 8 info3 rfl (by decide) (by omega) 0 (ok := fun _ => True) (okp := fun _ => True) rfl (fun _ hk => hk) trivial (of_decide_eq_true (by first | (with_reducible assumption) | assumption)) (Nat.le_trans (Nat.mul_le_mul_right _ (of_decide_eq_true (by first | (with_reducible assumption) | assumption) : (t215.length : Int).toNat ≤ 35184372088832)) (by omega)) (Below.refl _ _) (Nat.le_refl _) ?_; intro v234 w24 ho25 hb hg_ hnew_; clear hg_ hnew_; (first | rw [← Ny233.out] at ho25 | (simp only [Int.reduceToNat] at ho25; rw [← Ny233.out] at ho25)); have n0_ := Aside0.mk (Kd.R_below (by (with_reducible repeat (first | apply Kd.R_alloc | apply Kd.R_drewN | apply Kd.R_drew)); exact HO_3.out) hb); have n1_ := Aside0.mk (Kd.R_below (by (with_reducible repeat (first | apply Kd.R_alloc | apply Kd.R_drewN | apply Kd.R_drew)); exact HO_4.out) hb); have n2_ := Aside0.mk (Kd.S_elder' (by (with_reducible repeat (first | apply Kd.S_alloc | apply Kd.S_drewN | apply Kd.S_drew)); exact HO_233000.out) (Kd.R_base ho25) hb); have n3_ := Aside0.mk (Kd.R_elder' (by (with_reducible repeat (first | apply Kd.R_alloc | apply Kd.R_drewN | apply Kd.R_drew)); exact HO_233001.out) (Kd.R_base ho25) hb); have n4_ := Aside0.mk (Kd.R_elder' (by (with_reducible repeat (first | apply Kd.R_alloc | apply Kd.R_drewN | apply Kd.R_drew)); exact HO_233002.out) (Kd.R_base ho25) hb); have n5_ := Aside0.mk (Kd.R_lower (Kd.R_new' (Kd.R_new' ho25 (Kd.R_lt (by (with_reducible repeat (first | apply Kd.R_alloc | apply Kd.R_drewN | apply Kd.R_drew)); exact HO_233001.out))) (Kd.R_lt (by (with_reducible repeat (first | apply Kd.R_alloc | apply Kd.R_drewN | apply Kd.R_drew)); exact HO_233002.out))) (below_size (by repeat (first | (with_reducible first | exact HB.out | apply below_alloc | apply pw_below_drewN | apply below_drew1 | refine below_set ?_ GE232.out) | exact HB.out)))); have n6_ := Aside0.mk (blk_below (g := gb232) (o := .cells #[.slice Ao11 t221.length co11, .slice Ao13 t224.length co13, .slice Ao14 t227.length co14, .int .i64 t230] 29 (0, 0)) (by (with_reducible repeat (first | refine blk_drewN ?_ _ | refine blk_drew ?_ | refine blk_alloc ?_ _)); exact BK232.out) hb); have n7_ := Aside0.mk (below_step (by repeat (first | (with_reducible first | exact HB.out | apply below_alloc | apply pw_below_drewN | apply below_drew1 | refine below_set ?_ GE232.out) | exact HB.out)) hb); clear HO_3; clear HO_4; clear HO_233000; clear HO_233001; clear HO_233002; clear BK232; clear HB; have HO_3 := n0_; have HO_4 := n1_; have HO_233000 := n2_; have HO_233001 := n3_; have HO_233002 := n4_; have HO235 := n5_; have BK232 := n6_; have HB := n7_; clear n0_ n1_ n2_ n3_ n4_ n5_ n6_ n7_; clear hb ho25) | ((with_reducible refine gate_dst (N := 62) rfl ?_); (try (refine gate_guard (by rfl) ?_; dsimp only)); refine Kd.R_make (Kd.int .i64) _ 3 rfl (N := 62) rfl 27 _ _ rfl (t216.length : Int) rfl rfl Try.underlying27 (.int .i64 0) 8 info3 rfl (by decide) (by omega) 0 (ok := fun _ => True) (okp := fun _ => True) rfl (fun _ hk => hk) trivial (of_decide_eq_true (by first | (with_reducible assumption) | assumption)) (Nat.le_trans (Nat.mul_le_mul_right _ (of_decide_eq_true (by first | (with_reducible assumption) | assumption) : (t216.length : Int).toNat ≤ 35184372088832)) (by omega)) (Below.refl _ _) (Nat.le_refl _) ?_; intro v237 w26 ho27 hb hg_ hnew_; clear hg_ hnew_; (first | rw [← Ny236.out] at ho27 | (simp only [Int.reduceToNat] at ho27; rw [← Ny236.out] at ho27)); have n0_ := Aside0.mk (Kd.R_below (by (with_reducible repeat (first | apply Kd.R_alloc | apply Kd.R_drewN | apply Kd.R_drew)); exact HO_3.out) hb); have n1_ := Aside0.mk (Kd.R_below (by (with_reducible repeat (first | apply Kd.R_alloc | apply Kd.R_drewN | apply Kd.R_drew)); exact HO_4.out) hb); have n2_ := Aside0.mk (Kd.S_elder' (by (with_reducible repeat (first | apply Kd.S_alloc | apply Kd.S_drewN | apply Kd.S_drew)); exact HO_233000.out) (Kd.R_base ho27) hb); have n3_ := Aside0.mk (Kd.R_elder' (by (with_reducible repeat (first | apply Kd.R_alloc | apply Kd.R_drewN | apply Kd.R_drew)); exact HO_233001.out) (Kd.R_base ho27) hb); have n4_ := Aside0.mk (Kd.R_elder' (by (with_reducible repeat (first | apply Kd.R_alloc | apply Kd.R_drewN | apply Kd.R_drew)); exact HO_233002.out) (Kd.R_base ho27) hb); have n5_ := Aside0.mk (Kd.R_elder' (by (with_reducible repeat (first | apply Kd.R_alloc | apply Kd.R_drewN | apply Kd.R_drew)); exact HO235.out) (Kd.R_base ho27) hb); have n6_ := Aside0.mk (Kd.R_lower (Kd.R_new' (Kd.R_new' (Kd.R_new' ho27 (Kd.R_lt (by (with_reducible repeat (first | apply Kd.R_alloc | apply Kd.R_drewN | apply Kd.R_drew)); exact HO_233001.out))) (Kd.R_lt (by (with_reducible repeat (first | apply Kd.R_alloc | apply Kd.R_drewN | apply Kd.R_drew)); exact HO_233002.out))) (Kd.R_lt (by (with_reducible repeat (first | apply Kd.R_alloc | apply Kd.R_drewN | apply Kd.R_drew)); exact HO235.out))) (below_size (by repeat (first | (with_reducible first | exact HB.out | apply below_alloc | apply pw_below_drewN | apply below_drew1 | refine below_set ?_ GE232.out) | exact HB.out)))); have n7_ := Aside0.mk (blk_below (g := gb232) (o := .cells #[.slice Ao11 t221.length co11, .slice Ao13 t224.length co13, .slice Ao14 t227.length co14, .int .i64 t230] 29 (0, 0)) (by (with_reducible repeat (first | refine blk_drewN ?_ _ | refine blk_drew ?_ | refine blk_alloc ?_ _)); exact BK232.out) hb); have n8_ := Aside0.mk (below_step (by repeat (first | (with_reducible first | exact HB.out | apply below_alloc | apply pw_below_drewN | apply below_drew1 | refine below_set ?_ GE232.out) | exact HB.out)) hb); clear HO_3; clear HO_4; clear HO_233000; clear HO_233001; clear HO_233002; clear HO235; clear BK232; clear HB; have HO_3 := n0_; have HO_4 := n1_; have HO_233000 := n2_; have HO_233001 := n3_; have HO_233002 := n4_; have HO235 := n5_; have HO238 := n6_; have BK232 := n7_; have HB := n8_; clear n0_ n1_ n2_ n3_ n4_ n5_ n6_ n7_ n8_; clear hb ho27))
         repeat (go_quiet (first | ((with_reducible refine gate_dst (N := 59) rfl ?_); (try (refine gate_guard (by rfl) ?_; dsimp only)); refine Kd.R_make (Kd.int .i64) _ 3 rfl (N := 59) rfl 27 _ _ rfl (t215.length : Int) rfl rfl Try.underlying27 (.int .i64 0) 8 info3 rfl (by decide) (by omega) 0 (ok := fun _ => True) (okp := fun _ => True) rfl (fun _ hk => hk) trivial (of_decide_eq_true (by first | (with_reducible assumption) | assumption)) (Nat.le_trans (Nat.mul_le_mul_right _ (of_decide_eq_true (by first | (with_reducible assumption) | assumption) : (t215.length : Int).toNat ≤ 35184372088832)) (by omega)) (Below.refl _ _) (Nat.le_refl _) ?_; intro v234 w24 ho25 hb hg_ hnew_; clear hg_ hnew_; (first | rw [← Ny233.out] at ho25 | (simp only [Int.reduceToNat] at ho25; rw [← Ny233.out] at ho25)); have n0_ := Aside0.mk (Kd.R_below (by (with_reducible repeat (first | apply Kd.R_alloc | apply Kd.R_drewN | apply Kd.R_drew)); exact HO_3.out) hb); have n1_ := Aside0.mk (Kd.R_below (by (with_reducible repeat (first | apply Kd.R_alloc | apply Kd.R_drewN | apply Kd.R_drew)); exact HO_4.out) hb); have n2_ := Aside0.mk (Kd.S_elder' (by (with_reducible repeat (first | apply Kd.S_alloc | apply Kd.S_drewN | apply Kd.S_drew)); exact HO_233000.out) (Kd.R_base ho25) hb); have n3_ := Aside0.mk (Kd.R_elder' (by (with_reducible repeat (first | apply Kd.R_alloc | apply Kd.R_drewN | apply Kd.R_drew)); exact HO_233001.out) (Kd.R_base ho25) hb); have n4_ := Aside0.mk (Kd.R_elder' (by (with_reducible repeat (first | apply Kd.R_alloc | apply Kd.R_drewN | apply Kd.R_drew)); exact HO_233002.out) (Kd.R_base ho25) hb); have n5_ := Aside0.mk (Kd.R_lower (Kd.R_new' (Kd.R_new' ho25 (Kd.R_lt (by (with_reducible repeat (first | apply Kd.R_alloc | apply Kd.R_drewN | apply Kd.R_drew)); exact HO_233001.out))) (Kd.R_lt (by (with_reducible repeat (first | apply Kd.R_alloc | apply Kd.R_drewN | apply Kd.R_drew)); exact HO_233002.out))) (below_size (by repeat (first | (with_reducible first | exact HB.out | apply below_alloc | apply pw_below_drewN | apply below_drew1 | refine below_set ?_ GE232.out) | exact HB.out)))); have n6_ := Aside0.mk (blk_below (g := gb232) (o := .cells #[.slice Ao11 t221.length co11, .slice Ao13 t224.length co13, .slice Ao14 t227.length co14, .int .i64 t230] 29 (0, 0)) (by (with_reducible repeat (first | refine blk_drewN ?_ _ | refine blk_drew ?_ | refine blk_alloc ?_ _)); exact BK232.out) hb); have n7_ := Aside0.mk (below_step (by repeat (first | (with_reducible first | exact HB.out | apply below_alloc | apply pw_below_drewN | apply below_drew1 | refine below_set ?_ GE232.out) | exact HB.out)) hb); clear HO_3; clear HO_4; clear HO_233000; clear HO_233001; clear HO_233002; clear BK232; clear HB; have HO_3 := n0_; have HO_4 := n1_; have HO_233000 := n2_; have HO_233001 := n3_; have HO_233002 := n4_; have HO235 := n5_; have BK232 := n6_; have HB := n7_; clear n0_ n1_ n2_ n3_ n4_ n5_ n6_ n7_; clear hb ho25) | ((with_reducible refine gate_dst (N := 62) rfl ?_); (try (refine gate_guard (by rfl) ?_; dsimp only)); refine Kd.R_make (Kd.int .i64) _ 3 rfl (N := 62) rfl 27 _ _ rfl (t216.length : Int) rfl rfl Try.underlying27 (.int .i64 0) 8 info3 rfl (by decide) (by omega) 0 (ok := fun _ => True) (okp := fun _ => True) rfl (fun _ hk => hk) trivial (of_decide_eq_true (by first | (with_reducible assumption) | assumption)) (Nat.le_trans (Nat.mul_le_mul_right _ (of_decide_eq_true (by first | (with_reducible assumption) | assumption) : (t216.length : Int).toNat ≤ 35184372088832)) (by omega)) (Below.refl _ _) (Nat.le_refl _) ?_; intro v237 w26 ho27 hb hg_ hnew_; clear hg_ hnew_; (first | rw [← Ny236.out] at ho27 | (simp only [Int.reduceToNat] at ho27; rw [← Ny236.out] at ho27)); have n0_ := Aside0.mk (Kd.R_below (by (with_reducible repeat (first | apply Kd.R_alloc | apply Kd.R_drewN | apply Kd.R_drew)); exact HO_3.out) hb); have n1_ := Aside0.mk (Kd.R_below (by (with_reducible repeat (first | apply Kd.R_alloc | apply Kd.R_drewN | apply Kd.R_drew)); exact HO_4.out) hb); have n2_ := Aside0.mk (Kd.S_elder' (by (with_reducible repeat (first | apply Kd.S_alloc | apply Kd.S_drewN | apply Kd.S_drew)); exact HO_233000.out) (Kd.R_base ho27) hb); have n3_ := Aside0.mk (Kd.R_elder' (by (with_reducible repeat (first | apply Kd.R_alloc | apply Kd.R_drewN | apply Kd.R_drew)); exact HO_233001.out) (Kd.R_base ho27) hb); have n4_ := Aside0.mk (Kd.R_elder' (by (with_reducible repeat (first | apply Kd.R_alloc | apply Kd.R_drewN | apply Kd.R_drew)); exact HO_233002.out) (Kd.R_base ho27) hb); have n5_ := Aside0.mk (Kd.R_elder' (by (with_reducible repeat (first | apply Kd.R_alloc | apply Kd.R_drewN | apply Kd.R_drew)); exact HO235.out) (Kd.R_base ho27) hb); have n6_ := Aside0.mk (Kd.R_lower (Kd.R_new' (Kd.R_new' (Kd.R_new' ho27 (Kd.R_lt (by (with_reducible repeat (first | apply Kd.R_alloc | apply Kd.R_drewN | apply Kd.R_drew)); exact HO_233001.out))) (Kd.R_lt (by (with_reducible repeat (first | apply Kd.R_alloc | apply Kd.R_drewN | apply Kd.R_drew)); exact HO_233002.out))) (Kd.R_lt (by (with_reducible repeat (first | apply Kd.R_alloc | apply Kd.R_drewN | apply Kd.R_drew)); exact HO235.out))) (below_size (by repeat (first | (with_reducible first | exact HB.out | apply below_alloc | apply pw_below_drewN | apply below_drew1 | refine below_set ?_ GE232.out) | exact HB.out)))); have n7_ := Aside0.mk (blk_below (g := gb232) (o := .cells #[.slice Ao11 t221.length co11, .slice Ao13 t224.length co13, .slice Ao14 t227.length co14, .int .i64 t230] 29 (0, 0)) (by (with_reducible repeat (first | refine blk_drewN ?_ _ | refine blk_drew ?_ | refine blk_alloc ?_ _)); exact BK232.out) hb); have n8_ := Aside0.mk (below_step (by repeat (first | (with_reducible first | exact HB.out | apply below_alloc | apply pw_below_drewN | apply below_drew1 | refine below_set ?_ GE232.out) | exact HB.out)) hb); clear HO_3; clear HO_4; clear HO_233000; clear HO_233001; clear HO_233002; clear HO235; clear BK232; clear HB; have HO_3 := n0_; have HO_4 := n1_; have HO_233000 := n2_; have HO_233001 := n3_; have HO_233002 := n4_; have HO235 := n5_; have HO238 := n6_; have BK232 := n7_; have HB := n8_; clear n0_ n1_ n2_ n3_ n4_ n5_ n6_ n7_ n8_; clear hb ho27)); try go_wp2_with (first | ((with_reducible refine gate_dst (N := 59) rfl ?_); (try (refine gate_guard (by rfl) ?_; dsimp only)); refine Kd.R_make (Kd.int .i64) _ 3 rfl (N := 59) rfl 27 _ _ rfl (t215.length : Int) rfl rfl Try.underlying27 (.int .i64 0) 8 info3 rfl (by decide) (by omega) 0 (ok := fun _ => True) (okp := fun _ => True) rfl (fun _ hk => hk) trivial (of_decide_eq_true (by first | (with_reducible assumption) | assumption)) (Nat.le_trans (Nat.mul_le_mul_right _ (of_decide_eq_true (by first | (with_reducible assumption) | assumption) : (t215.length : Int).toNat ≤ 35184372088832)) (by omega)) (Below.refl _ _) (Nat.le_refl _) ?_; intro v234 w24 ho25 hb hg_ hnew_; clear hg_ hnew_; (first | rw [← Ny233.out] at ho25 | (simp only [Int.reduceToNat] at ho25; rw [← Ny233.out] at ho25)); have n0_ := Aside0.mk (Kd.R_below (by (with_reducible repeat (first | apply Kd.R_alloc | apply Kd.R_drewN | apply Kd.R_drew)); exact HO_3.out) hb); have n1_ := Aside0.mk (Kd.R_below (by (with_reducible repeat (first | apply Kd.R_alloc | apply Kd.R_drewN | apply Kd.R_drew)); exact HO_4.out) hb); have n2_ := Aside0.mk (Kd.S_elder' (by (with_reducible repeat (first | apply Kd.S_alloc | apply Kd.S_drewN | apply Kd.S_drew)); exact HO_233000.out) (Kd.R_base ho25) hb); have n3_ := Aside0.mk (Kd.R_elder' (by (with_reducible repeat (first | apply Kd.R_alloc | apply Kd.R_drewN | apply Kd.R_drew)); exact HO_233001.out) (Kd.R_base ho25) hb); have n4_ := Aside0.mk (Kd.R_elder' (by (with_reducible repeat (first | apply Kd.R_alloc | apply Kd.R_drewN | apply Kd.R_drew)); exact HO_233002.out) (Kd.R_base ho25) hb); have n5_ := Aside0.mk (Kd.R_lower (Kd.R_new' (Kd.R_new' ho25 (Kd.R_lt (by (with_reducible repeat (first | apply Kd.R_alloc | apply Kd.R_drewN | apply Kd.R_drew)); exact HO_233001.out))) (Kd.R_lt (by (with_reducible repeat (first | apply Kd.R_alloc | apply Kd.R_drewN | apply Kd.R_drew)); exact HO_233002.out))) (below_size (by repeat (first | (with_reducible first | exact HB.out | apply below_alloc | apply pw_below_drewN | apply below_drew1 | refine below_set ?_ GE232.out) | exact HB.out)))); have n6_ := Aside0.mk (blk_below (g := gb232) (o := .cells #[.slice Ao11 t221.length co11, .slice Ao13 t224.length co13, .slice Ao14 t227.length co14, .int .i64 t230] 29 (0, 0)) (by (with_reducible repeat (first | refine blk_drewN ?_ _ | refine blk_drew ?_ | refine blk_alloc ?_ _)); exact BK232.out) hb); have n7_ := Aside0.mk (below_step (by repeat (first | (with_reducible first | exact HB.out | apply below_alloc | apply pw_below_drewN | apply below_drew1 | refine below_set ?_ GE232.out) | exact HB.out)) hb); clear HO_3; clear HO_4; clear HO_233000; clear HO_233001; clear HO_233002; clear BK232; clear HB; have HO_3 := n0_; have HO_4 := n1_; have HO_233000 := n2_; have HO_233001 := n3_; have HO_233002 := n4_; have HO235 := n5_; have BK232 := n6_; have HB := n7_; clear n0_ n1_ n2_ n3_ n4_ n5_ n6_ n7_; clear hb ho25) | ((with_reducible refine gate_dst (N := 62) rfl ?_); (try (refine gate_guard (by rfl) ?_; dsimp only)); refine Kd.R_make (Kd.int .i64) _ 3 rfl (N := 62) rfl 27 _ _ rfl (t216.length : Int) rfl rfl Try.underlying27 (.int .i64 0) 8 info3 rfl (by decide) (by omega) 0 (ok := fun _ => True) (okp := fun _ => True) rfl (fun _ hk => hk) trivial (of_decide_eq_true (by first | (with_reducible assumption) | assumption)) (Nat.le_trans (Nat.mul_le_mul_right _ (of_decide_eq_true (by first | (with_reducible assumption) | assumption) : (t216.length : Int).toNat ≤ 35184372088832)) (by omega)) (Below.refl _ _) (Nat.le_refl _) ?_; intro v237 w26 ho27 hb hg_ hnew_; clear hg_ hnew_; (first | rw [← Ny236.out] at ho27 | (simp only [Int.reduceToNat] at ho27; rw [← Ny236.out] at ho27)); have n0_ := Aside0.mk (Kd.R_below (by (with_reducible repeat (first | apply Kd.R_alloc | apply Kd.R_drewN | apply Kd.R_drew)); exact HO_3.out) hb); have n1_ := Aside0.mk (Kd.R_below (by (with_reducible repeat (first | apply Kd.R_alloc | apply Kd.R_drewN | apply Kd.R_drew)); exact HO_4.out) hb); have n2_ := Aside0.mk (Kd.S_elder' (by (with_reducible repeat (first | apply Kd.S_alloc | apply Kd.S_drewN | apply Kd.S_drew)); exact HO_233000.out) (Kd.R_base ho27) hb); have n3_ := Aside0.mk (Kd.R_elder' (by (with_reducible repeat (first | apply Kd.R_alloc | apply Kd.R_drewN | apply Kd.R_drew)); exact HO_233001.out) (Kd.R_base ho27) hb); have n4_ := Aside0.mk (Kd.R_elder' (by (with_reducible repeat (first | apply Kd.R_alloc | apply Kd.R_drewN | apply Kd.R_drew)); exact HO_233002.out) (Kd.R_base ho27) hb); have n5_ := Aside0.mk (Kd.R_elder' (by (with_reducible repeat (first | apply Kd.R_alloc | apply Kd.R_drewN | apply Kd.R_drew)); exact HO235.out) (Kd.R_base ho27) hb); have n6_ := Aside0.mk (Kd.R_lower (Kd.R_new' (Kd.R_new' (Kd.R_new' ho27 (Kd.R_lt (by (with_reducible repeat (first | apply Kd.R_alloc | apply Kd.R_drewN | apply Kd.R_drew)); exact HO_233001.out))) (Kd.R_lt (by (with_reducible repeat (first | apply Kd.R_alloc | apply Kd.R_drewN | apply Kd.R_drew)); exact HO_233002.out))) (Kd.R_lt (by (with_reducible repeat (first | apply Kd.R_alloc | apply Kd.R_drewN | apply Kd.R_drew)); exact HO235.out))) (below_size (by repeat (first | (with_reducible first | exact HB.out | apply below_alloc | apply pw_below_drewN | apply below_drew1 | refine below_set ?_ GE232.out) | exact HB.out)))); have n7_ := Aside0.mk (blk_below (g := gb232) (o := .cells #[.slice Ao11 t221.length co11, .slice Ao13 t224.length co13, .slice Ao14 t227.length co14, .int .i64 t230] 29 (0, 0)) (by (with_reducible repeat (first | refine blk_drewN ?_ _ | refine blk_drew ?_ | refine blk_alloc ?_ _)); exact BK232.out) hb); have n8_ := Aside0.mk (below_step (by repeat (first | (with_reducible first | exact HB.out | apply below_alloc | apply pw_below_drewN | apply below_drew1 | refine below_set ?_ GE232.out) | exact HB.out)) hb); clear HO_3; clear HO_4; clear HO_233000; clear HO_233001; clear HO_233002; clear HO235; clear BK232; clear HB; have HO_3 := n0_; have HO_4 := n1_; have HO_233000 := n2_; have HO_233001 := n3_; have HO_233002 := n4_; have HO235 := n5_; have HO238 := n6_; have BK232 := n7_; have HB := n8_; clear n0_ n1_ n2_ n3_ n4_ n5_ n6_ n7_ n8_; clear hb ho27)))
         go_loopg [9] kj4 (fun kq v9 w' => ∃ (x7_2 : List Int) (x8_2 : List Int) (x9_2 : Int), v9 = .int .i64 x9_2 ∧ Aside0 (laws_FnSettle.l0 kq t215 t216 x7_2 x8_2 x9_2 t221 t224 t227 t230 = some r) ∧ Aside0 (kq ≤ kj4) ∧ Aside0 (Kd.R k33 33 w' w.heap.size (fun k_ => some k_ ≠ ((.slice Ao8 t216.length co8) : Value).ownBlock) (.slice Ao7 t215.length co7) t215) ∧ Aside0 (Kd.R k33 33 w' w.heap.size (fun k_ => some k_ ≠ ((.slice Ao7 t215.length co7) : Value).ownBlock) (.slice Ao8 t216.length co8) t216) ∧ Aside0 (Kd.R (Kd.int .i64) 3 w' w.heap.size (fun k_ => some k_ ≠ (v237 : Value).ownBlock ∧ some k_ ≠ ((.slice Ao13 t224.length co13) : Value).ownBlock ∧ some k_ ≠ ((.slice Ao14 t227.length co14) : Value).ownBlock) v234 x7_2) ∧ Aside0 (Kd.R (Kd.int .i64) 3 w' w.heap.size (fun k_ => some k_ ≠ (v234 : Value).ownBlock ∧ some k_ ≠ ((.slice Ao13 t224.length co13) : Value).ownBlock ∧ some k_ ≠ ((.slice Ao14 t227.length co14) : Value).ownBlock) v237 x8_2) ∧ Aside0 (Kd.S (Kd.slice 3 (Kd.int .i64)) 27 w' w.heap.size (fun k_ => some k_ ≠ (v234 : Value).ownBlock ∧ some k_ ≠ (v237 : Value).ownBlock ∧ some k_ ≠ ((.slice Ao13 t224.length co13) : Value).ownBlock ∧ some k_ ≠ ((.slice Ao14 t227.length co14) : Value).ownBlock) (.slice Ao11 t221.length co11) t221) ∧ Aside0 (Kd.R (Kd.int .i64) 3 w' w.heap.size (fun k_ => some k_ ≠ (v234 : Value).ownBlock ∧ some k_ ≠ (v237 : Value).ownBlock ∧ some k_ ≠ ((.slice Ao14 t227.length co14) : Value).ownBlock) (.slice Ao13 t224.length co13) t224) ∧ Aside0 (Kd.R (Kd.int .i64) 3 w' w.heap.size (fun k_ => some k_ ≠ (v234 : Value).ownBlock ∧ some k_ ≠ (v237 : Value).ownBlock ∧ some k_ ≠ ((.slice Ao13 t224.length co13) : Value).ownBlock) (.slice Ao14 t227.length co14) t227) ∧ Aside0 (w'.heap[gb232]? = some (.cells #[(.slice Ao11 t221.length co11), (.slice Ao13 t224.length co13), (.slice Ao14 t227.length co14), .int .i64 t230] 29 (0, 0))) ∧ Aside0 (Below w.heap.size w w'))
         case atStart => exact ⟨(y233), (y236), (0), (by first | rfl | (simp; done) | (simp [*]; done)), H', ⟨Nat.le_refl _⟩, ⟨by (with_reducible repeat (first | apply Kd.R_alloc | apply Kd.R_drewN | apply Kd.R_drew)); exact HO_3.out⟩, ⟨by (with_reducible repeat (first | apply Kd.R_alloc | apply Kd.R_drewN | apply Kd.R_drew)); exact HO_4.out⟩, ⟨by (with_reducible repeat (first | apply Kd.R_alloc | apply Kd.R_drewN | apply Kd.R_drew)); exact Kd.R_mono HO235.out (fun _ hk => ⟨hk.2, ⟨hk.1.1.2, hk.1.2⟩⟩)⟩, ⟨by (with_reducible repeat (first | apply Kd.R_alloc | apply Kd.R_drewN | apply Kd.R_drew)); exact Kd.R_mono HO238.out (fun _ hk => ⟨hk.2, ⟨hk.1.1.2, hk.1.2⟩⟩)⟩, ⟨by (with_reducible repeat (first | apply Kd.S_alloc | apply Kd.S_drewN | apply Kd.S_drew)); exact Kd.S_mono HO_233000.out (fun _ hk => ⟨hk.1.2, ⟨hk.2, ⟨hk.1.1.1, hk.1.1.2⟩⟩⟩)⟩, ⟨by (with_reducible repeat (first | apply Kd.R_alloc | apply Kd.R_drewN | apply Kd.R_drew)); exact Kd.R_mono HO_233001.out (fun _ hk => ⟨hk.1.2, ⟨hk.2, hk.1.1⟩⟩)⟩, ⟨by (with_reducible repeat (first | apply Kd.R_alloc | apply Kd.R_drewN | apply Kd.R_drew)); exact Kd.R_mono HO_233002.out (fun _ hk => ⟨hk.1.2, ⟨hk.2, hk.1.1⟩⟩)⟩, ⟨by (with_reducible repeat (first | refine blk_drewN ?_ _ | refine blk_drew ?_ | refine blk_alloc ?_ _)); exact BK232.out⟩, ⟨by repeat (first | (with_reducible first | exact HB.out | apply below_alloc | apply pw_below_drewN | apply below_drew1 | refine below_set ?_ GE232.out) | exact HB.out)⟩⟩
         case round =>
          clear H'
          (try clear c19); (try clear c20); (try clear c20b0); (try clear c20b1); (try clear c21); (try clear c21b0); (try clear c21b1); (try clear c22); (try clear c22b0); (try clear c22b1); (try clear c23); (try clear c23b0); (try clear c23b1)
          obtain ⟨x7_2, x8_2, x9_2, rfl, HA, HK2, HO_3, HO_4, HO_7, HO_8, HO_233000, HO_233001, HO_233002, BK232, HB⟩ := hrel
          cases gk with
          | zero => exact absurd HA.out (by simp [laws_FnSettle.l0])
          | succ k2 =>
           have H := HA.out
           clear HA
           simp only [laws_FnSettle.l0] at H
           by_cases c28 : x9_2 < (t221.length : Int)
           ·rw [if_pos c28] at H
            have c28b0 : decide (x9_2 < (t221.length : Int)) = true := decide_eq_true c28
            clear c28
            by_cases c29 : 0 ≤ x9_2
            ·rw [if_pos c29] at H
             have c29b0 : decide (0 ≤ x9_2) = true := decide_eq_true c29
             clear c29
             by_cases c30 : ((rd_L4 t221 x9_2).length : Int) = 2
             ·rw [if_pos c30] at H
              have c30b0 : (((rd_L4 t221 x9_2).length : Int) == 2) = true := beq_iff_eq.mpr c30
              have c30b1 : (((rd_L4 t221 x9_2).length : Int) != 2) = false := bne_eq_false_iff_eq.mpr c30
              clear c30
              by_cases c31 : 0 < ((rd_L4 t221 x9_2).length : Int)
              ·rw [if_pos c31] at H
               have c31b0 : decide (0 < ((rd_L4 t221 x9_2).length : Int)) = true := decide_eq_true c31
               have c31b1 : decide (0 < (rd_L4 t221 x9_2).length) = true := decide_eq_true (by omega)
               clear c31
               by_cases c32 : (rd (rd_L4 t221 x9_2) 0) < 0
               ·rw [if_pos c32] at H
                have c32b0 : decide ((rd (rd_L4 t221 x9_2) 0) < 0) = true := decide_eq_true c32
                clear c32
                as_aux_lemma =>
                 obtain rfl := Option.some.inj H
                 exact absurd hT_.out (by decide)
               ·rw [if_neg c32] at H
                have c32b0 : decide ((rd (rd_L4 t221 x9_2) 0) < 0) = false := decide_eq_false c32
                clear c32
                by_cases c33 : (rd (rd_L4 t221 x9_2) 0) ≥ (t215.length : Int)
                ·rw [if_pos c33] at H
                 have c33b0 : decide ((t215.length : Int) ≤ (rd (rd_L4 t221 x9_2) 0)) = true := decide_eq_true c33
                 clear c33
                 as_aux_lemma =>
                  obtain rfl := Option.some.inj H
                  exact absurd hT_.out (by decide)
                ·rw [if_neg c33] at H
                 have c33b0 : decide ((t215.length : Int) ≤ (rd (rd_L4 t221 x9_2) 0)) = false := decide_eq_false c33
                 clear c33
                 by_cases c34 : 1 < ((rd_L4 t221 x9_2).length : Int)
                 ·rw [if_pos c34] at H
                  have c34b0 : decide (1 < ((rd_L4 t221 x9_2).length : Int)) = true := decide_eq_true c34
                  have c34b1 : decide (1 < (rd_L4 t221 x9_2).length) = true := decide_eq_true (by omega)
                  clear c34
                  by_cases c35 : (rd (rd_L4 t221 x9_2) 1) < 0
                  ·rw [if_pos c35] at H
                   have c35b0 : decide ((rd (rd_L4 t221 x9_2) 1) < 0) = true := decide_eq_true c35
                   clear c35
                   as_aux_lemma =>
                    obtain rfl := Option.some.inj H
                    exact absurd hT_.out (by decide)
                  ·rw [if_neg c35] at H
                   have c35b0 : decide ((rd (rd_L4 t221 x9_2) 1) < 0) = false := decide_eq_false c35
                   clear c35
                   by_cases c36 : (rd (rd_L4 t221 x9_2) 1) ≥ (t216.length : Int)
                   ·rw [if_pos c36] at H
                    have c36b0 : decide ((t216.length : Int) ≤ (rd (rd_L4 t221 x9_2) 1)) = true := decide_eq_true c36
                    clear c36
                    as_aux_lemma =>
                     obtain rfl := Option.some.inj H
                     exact absurd hT_.out (by decide)
                   ·rw [if_neg c36] at H
                    have c36b0 : decide ((t216.length : Int) ≤ (rd (rd_L4 t221 x9_2) 1)) = false := decide_eq_false c36
                    clear c36
                    by_cases c37 : 0 ≤ (rd (rd_L4 t221 x9_2) 0)
                    ·rw [if_pos c37] at H
                     have c37b0 : decide (0 ≤ (rd (rd_L4 t221 x9_2) 0)) = true := decide_eq_true c37
                     clear c37
                     by_cases c38 : (rd (rd_L4 t221 x9_2) 0) < (t215.length : Int)
                     ·rw [if_pos c38] at H
                      have c38b0 : decide ((rd (rd_L4 t221 x9_2) 0) < (t215.length : Int)) = true := decide_eq_true c38
                      clear c38
                      by_cases c39 : 0 ≤ (rd (rd_L4 t221 x9_2) 1)
                      ·rw [if_pos c39] at H
                       have c39b0 : decide (0 ≤ (rd (rd_L4 t221 x9_2) 1)) = true := decide_eq_true c39
                       clear c39
                       by_cases c40 : (rd (rd_L4 t221 x9_2) 1) < (t216.length : Int)
                       ·rw [if_pos c40] at H
                        have c40b0 : decide ((rd (rd_L4 t221 x9_2) 1) < (t216.length : Int)) = true := decide_eq_true c40
                        clear c40
                        by_cases c41 : (!((((rd_T33 t215 (rd (rd_L4 t221 x9_2) 0)).f0).toList) == (((rd_T33 t216 (rd (rd_L4 t221 x9_2) 1)).f0).toList)) || (!(((rd_T33 t215 (rd (rd_L4 t221 x9_2) 0)).f1) == ((rd_T33 t216 (rd (rd_L4 t221 x9_2) 1)).f1)))) = true
                        ·rw [if_pos c41] at H
                         have c41b0 : (!((((rd_T33 t215 (rd (rd_L4 t221 x9_2) 0)).f0).toList) == (((rd_T33 t216 (rd (rd_L4 t221 x9_2) 1)).f0).toList)) || (!(((rd_T33 t215 (rd (rd_L4 t221 x9_2) 0)).f1) == ((rd_T33 t216 (rd (rd_L4 t221 x9_2) 1)).f1)))) = true := c41
                         clear c41
                         as_aux_lemma =>
                          obtain rfl := Option.some.inj H
                          exact absurd hT_.out (by decide)
                        ·rw [if_neg c41] at H
                         have c41b0 : (!((((rd_T33 t215 (rd (rd_L4 t221 x9_2) 0)).f0).toList) == (((rd_T33 t216 (rd (rd_L4 t221 x9_2) 1)).f0).toList)) || (!(((rd_T33 t215 (rd (rd_L4 t221 x9_2) 0)).f1) == ((rd_T33 t216 (rd (rd_L4 t221 x9_2) 1)).f1)))) = false := by simpa using c41
                         clear c41
                         by_cases c42 : (rd (rd_L4 t221 x9_2) 0) < (x7_2.length : Int)
                         ·rw [if_pos c42] at H
                          have c42b0 : decide ((rd (rd_L4 t221 x9_2) 0) < (x7_2.length : Int)) = true := decide_eq_true c42
                          clear c42
                          obtain ⟨y250, hy250⟩ : ∃ y_ : List Int, y_ = (x7_2.set ((rd (rd_L4 t221 x9_2) 0) : Int).toNat (wrap64 ((rd x7_2 (rd (rd_L4 t221 x9_2) 0)) + 1))) := ⟨_, rfl⟩
                          replace H : (if (rd (rd_L4 t221 x9_2) 1) < (x8_2.length : Int) then (laws_FnSettle.l0 k2 t215 t216 y250 (x8_2.set ((rd (rd_L4 t221 x9_2) 1) : Int).toNat (wrap64 ((rd x8_2 (rd (rd_L4 t221 x9_2) 1)) + 1))) (wrap64 (x9_2 + 1)) t221 t224 t227 t230) else (none)) = some r := by first | (rw [hy250]; with_reducible exact H) | (have H2_ := (Option.bind_some _ _).symm.trans H; rw [hy250]; with_reducible exact H2_) | (have H2_ := (Option.bind_some _ _).symm.trans H; with_reducible exact H2_) | with_reducible exact H | (rw [hy250]; exact H) | exact H
                          have Ny250 := Aside0.mk hy250
                          clear hy250
                          by_cases c44 : (rd (rd_L4 t221 x9_2) 1) < (x8_2.length : Int)
                          ·rw [if_pos c44] at H
                           have c44b0 : decide ((rd (rd_L4 t221 x9_2) 1) < (x8_2.length : Int)) = true := decide_eq_true c44
                           clear c44
                           obtain ⟨y253, hy253⟩ : ∃ y_ : List Int, y_ = (x8_2.set ((rd (rd_L4 t221 x9_2) 1) : Int).toNat (wrap64 ((rd x8_2 (rd (rd_L4 t221 x9_2) 1)) + 1))) := ⟨_, rfl⟩
                           replace H : (laws_FnSettle.l0 k2 t215 t216 y250 y253 (wrap64 (x9_2 + 1)) t221 t224 t227 t230) = some r := by first | (rw [hy253]; with_reducible exact H) | (have H2_ := (Option.bind_some _ _).symm.trans H; rw [hy253]; with_reducible exact H2_) | (have H2_ := (Option.bind_some _ _).symm.trans H; with_reducible exact H2_) | with_reducible exact H | (rw [hy253]; exact H) | exact H
                           have Ny253 := Aside0.mk hy253
                           clear hy253
                           as_aux_lemma =>
                            have H' := Aside0.mk H
                            clear H
                            have hcz46_0 : wr.cell? ⟨gb232, 0, none⟩ = some (.slice Ao11 t221.length co11) := (blk_cell BK232.out 0).trans rfl
                            have hcz46_1 : wr.cell? ⟨gb232, 1, none⟩ = some (.slice Ao13 t224.length co13) := (blk_cell BK232.out 1).trans rfl
                            have hcz46_2 : wr.cell? ⟨gb232, 2, none⟩ = some (.slice Ao14 t227.length co14) := (blk_cell BK232.out 2).trans rfl
                            have hcz46_3 : wr.cell? ⟨gb232, 3, none⟩ = some (.int .i64 t230) := (blk_cell BK232.out 3).trans rfl
                            have hfz46_0 := blk_frozen BK232.out 0
                            have hfz46_1 := blk_frozen BK232.out 1
                            have hfz46_2 := blk_frozen BK232.out 2
                            have hfz46_3 := blk_frozen BK232.out 3
                            have p239 : 0 ≤ (x9_2 : Int) := of_decide_eq_true (by first | (with_reducible assumption) | assumption)
                            have q239 : x9_2 < (t221.length : Int) := of_decide_eq_true (by first | (with_reducible assumption) | assumption)
                            obtain ⟨ad239, A239_0, c239_0, e239, hx239_0, hl239_0, hi239_0⟩ := at_L4 (Kd.S_reads' HO_233000.out).2.2 x9_2 p239 q239
                            cases e239
                            obtain ⟨ce239, hce239, hMe239, hcc239⟩ := Kd.S_get HO_233000.out [] x9_2 p239 (by first | exact q239 | exact of_decide_eq_true (by first | (with_reducible assumption) | assumption) | (have e_ := (Kd.S_reads' HO_233000.out).1; omega))
                            obtain ⟨ve239_0, rfl, ge239_0⟩ := hMe239
                            have hv239_0 := hcc239 0 _ rfl
                            rw [Nat.add_zero, show ((Kd.slice 3 (Kd.int .i64))).sz = 1 from rfl, Nat.mul_one] at hv239_0
                            replace hv239_0 := Option.some.inj (hv239_0.symm.trans hx239_0)
                            rw [hv239_0] at ge239_0
                            have HL239_0 := Aside0.mk (show Kd.R (Kd.int .i64) 3 _ _ _ _ (rd_L4 t221 x9_2) from ge239_0)
                            clear hv239_0 ge239_0
                            clear hcc239 hce239
                            have HR239_0 := Aside0.mk hi239_0
                            have HC239_0 := Aside0.mk hl239_0
                            clear hi239_0 hl239_0
                            replace p239 := eq_true p239
                            replace q239 := eq_true q239
                            have p240 : 0 ≤ (0 : Int) := (by omega)
                            have q240 : 0 < ((rd_L4 t221 x9_2).length : Int) := of_decide_eq_true (by first | (with_reducible assumption) | assumption)
                            obtain ⟨ad240, e240, hx240_0⟩ := Kd.at_int (by repeat (first | (with_reducible exact HR239_0.out) | (with_reducible refine Kd.C_alloc ?_ _) | (with_reducible refine Kd.C_drewN ?_ _) | (with_reducible refine Kd.C_drew ?_) | exact HR239_0.out)) 0 p240 q240
                            cases e240
                            have qi240 : (0 < (rd_L4 t221 x9_2).length) = True := eq_true (by omega)
                            (try rw [show ((0 : Int)).toNat = 0 from rfl] at hx240_0)
                            (try rw [Addr.add_zero'] at hx240_0)
                            replace p240 := eq_true p240
                            replace q240 := eq_true q240
                            have p241 : 0 ≤ (0 : Int) := (by omega)
                            have q241 : 0 < ((rd_L4 t221 x9_2).length : Int) := of_decide_eq_true (by first | (with_reducible assumption) | assumption)
                            obtain ⟨ad241, e241, hx241_0⟩ := Kd.at_int (by repeat (first | (with_reducible exact HR239_0.out) | (with_reducible refine Kd.C_alloc ?_ _) | (with_reducible refine Kd.C_drewN ?_ _) | (with_reducible refine Kd.C_drew ?_) | exact HR239_0.out)) 0 p241 q241
                            obtain rfl : ad240 = ad241 := (by injection e241)
                            have qi241 : (0 < (rd_L4 t221 x9_2).length) = True := eq_true (by omega)
                            (try rw [show ((0 : Int)).toNat = 0 from rfl] at hx241_0)
                            (try rw [Addr.add_zero'] at hx241_0)
                            replace p241 := eq_true p241
                            replace q241 := eq_true q241
                            have p242 : 0 ≤ (1 : Int) := (by omega)
                            have q242 : 1 < ((rd_L4 t221 x9_2).length : Int) := of_decide_eq_true (by first | (with_reducible assumption) | assumption)
                            obtain ⟨ad242, e242, hx242_0⟩ := Kd.at_int (by repeat (first | (with_reducible exact HR239_0.out) | (with_reducible refine Kd.C_alloc ?_ _) | (with_reducible refine Kd.C_drewN ?_ _) | (with_reducible refine Kd.C_drew ?_) | exact HR239_0.out)) 1 p242 q242
                            obtain rfl : ad240 = ad242 := (by injection e242)
                            (try simp only [show (1 : Int).toNat = 1 from rfl, Nat.reduceMul, Nat.reduceEqDiff, Go.Addr.add, ↓reduceIte] at hx242_0)
                            have qi242 : (1 < (rd_L4 t221 x9_2).length) = True := eq_true (by omega)
                            (try rw [show ((1 : Int)).toNat = 1 from rfl] at hx242_0)
                            replace p242 := eq_true p242
                            replace q242 := eq_true q242
                            have p243 : 0 ≤ (1 : Int) := (by omega)
                            have q243 : 1 < ((rd_L4 t221 x9_2).length : Int) := of_decide_eq_true (by first | (with_reducible assumption) | assumption)
                            obtain ⟨ad243, e243, hx243_0⟩ := Kd.at_int (by repeat (first | (with_reducible exact HR239_0.out) | (with_reducible refine Kd.C_alloc ?_ _) | (with_reducible refine Kd.C_drewN ?_ _) | (with_reducible refine Kd.C_drew ?_) | exact HR239_0.out)) 1 p243 q243
                            obtain rfl : ad240 = ad243 := (by injection e243)
                            (try simp only [show (1 : Int).toNat = 1 from rfl, Nat.reduceMul, Nat.reduceEqDiff, Go.Addr.add, ↓reduceIte] at hx243_0)
                            have qi243 : (1 < (rd_L4 t221 x9_2).length) = True := eq_true (by omega)
                            (try rw [show ((1 : Int)).toNat = 1 from rfl] at hx243_0)
                            replace p243 := eq_true p243
                            replace q243 := eq_true q243
                            have p244 : 0 ≤ (0 : Int) := (by omega)
                            have q244 : 0 < ((rd_L4 t221 x9_2).length : Int) := of_decide_eq_true (by first | (with_reducible assumption) | assumption)
                            obtain ⟨ad244, e244, hx244_0⟩ := Kd.at_int (by repeat (first | (with_reducible exact HR239_0.out) | (with_reducible refine Kd.C_alloc ?_ _) | (with_reducible refine Kd.C_drewN ?_ _) | (with_reducible refine Kd.C_drew ?_) | exact HR239_0.out)) 0 p244 q244
                            obtain rfl : ad240 = ad244 := (by injection e244)
                            have qi244 : (0 < (rd_L4 t221 x9_2).length) = True := eq_true (by omega)
                            (try rw [show ((0 : Int)).toNat = 0 from rfl] at hx244_0)
                            (try rw [Addr.add_zero'] at hx244_0)
                            replace p244 := eq_true p244
                            replace q244 := eq_true q244
                            have p245 : 0 ≤ ((rd (rd_L4 t221 x9_2) 0) : Int) := of_decide_eq_true (by first | (with_reducible assumption) | assumption)
                            have q245 : (rd (rd_L4 t221 x9_2) 0) < (t215.length : Int) := of_decide_eq_true (by first | (with_reducible assumption) | assumption)
                            obtain ⟨ad245, e245, hx245_0, hx245_1⟩ := at_T33 (Kd.R_reads' HO_3.out).2.2 (rd (rd_L4 t221 x9_2) 0) p245 q245
                            cases e245
                            replace p245 := eq_true p245
                            replace q245 := eq_true q245
                            have p246 : 0 ≤ (1 : Int) := (by omega)
                            have q246 : 1 < ((rd_L4 t221 x9_2).length : Int) := of_decide_eq_true (by first | (with_reducible assumption) | assumption)
                            obtain ⟨ad246, e246, hx246_0⟩ := Kd.at_int (by repeat (first | (with_reducible exact HR239_0.out) | (with_reducible refine Kd.C_alloc ?_ _) | (with_reducible refine Kd.C_drewN ?_ _) | (with_reducible refine Kd.C_drew ?_) | exact HR239_0.out)) 1 p246 q246
                            obtain rfl : ad240 = ad246 := (by injection e246)
                            (try simp only [show (1 : Int).toNat = 1 from rfl, Nat.reduceMul, Nat.reduceEqDiff, Go.Addr.add, ↓reduceIte] at hx246_0)
                            have qi246 : (1 < (rd_L4 t221 x9_2).length) = True := eq_true (by omega)
                            (try rw [show ((1 : Int)).toNat = 1 from rfl] at hx246_0)
                            replace p246 := eq_true p246
                            replace q246 := eq_true q246
                            have p247 : 0 ≤ ((rd (rd_L4 t221 x9_2) 1) : Int) := of_decide_eq_true (by first | (with_reducible assumption) | assumption)
                            have q247 : (rd (rd_L4 t221 x9_2) 1) < (t216.length : Int) := of_decide_eq_true (by first | (with_reducible assumption) | assumption)
                            obtain ⟨ad247, e247, hx247_0, hx247_1⟩ := at_T33 (Kd.R_reads' HO_4.out).2.2 (rd (rd_L4 t221 x9_2) 1) p247 q247
                            cases e247
                            replace p247 := eq_true p247
                            replace q247 := eq_true q247
                            have p248 : 0 ≤ (0 : Int) := (by omega)
                            have q248 : 0 < ((rd_L4 t221 x9_2).length : Int) := of_decide_eq_true (by first | (with_reducible assumption) | assumption)
                            obtain ⟨ad248, e248, hx248_0⟩ := Kd.at_int (by repeat (first | (with_reducible exact HR239_0.out) | (with_reducible refine Kd.C_alloc ?_ _) | (with_reducible refine Kd.C_drewN ?_ _) | (with_reducible refine Kd.C_drew ?_) | exact HR239_0.out)) 0 p248 q248
                            obtain rfl : ad240 = ad248 := (by injection e248)
                            have qi248 : (0 < (rd_L4 t221 x9_2).length) = True := eq_true (by omega)
                            (try rw [show ((0 : Int)).toNat = 0 from rfl] at hx248_0)
                            (try rw [Addr.add_zero'] at hx248_0)
                            replace p248 := eq_true p248
                            replace q248 := eq_true q248
                            obtain ⟨Ao47, co47, eo47⟩ := Kd.R_slice HO_7.out
                            subst eo47
                            have p249 : 0 ≤ ((rd (rd_L4 t221 x9_2) 0) : Int) := of_decide_eq_true (by first | (with_reducible assumption) | assumption)
                            have q249 : (rd (rd_L4 t221 x9_2) 0) < (x7_2.length : Int) := of_decide_eq_true (by first | (with_reducible assumption) | assumption)
                            obtain ⟨ad249, e249, hx249_0⟩ := Kd.at_int (Kd.R_reads' HO_7.out).2.2 (rd (rd_L4 t221 x9_2) 0) p249 q249
                            cases e249
                            replace p249 := eq_true p249
                            replace q249 := eq_true q249
                            have p43 : 0 ≤ ((rd (rd_L4 t221 x9_2) 0) : Int) := of_decide_eq_true (by first | (with_reducible assumption) | assumption)
                            have q43 : ((rd (rd_L4 t221 x9_2) 0) : Int) < ((x7_2.length : Int) : Int) := of_decide_eq_true (by first | (with_reducible assumption) | assumption)
                            obtain ⟨go43, co43, eo43, gb43, gl43, cl43, HG43⟩ := Kd.R_form HO_7.out (by omega)
                            (first | cases eo43 | (injection eo43 with ea_ en_ ec_; (first | subst ea_ | (injection ea_ with ea_; subst ea_)); subst ec_; clear en_))
                            have GB43 := Aside0.mk gb43
                            have GG43 := Aside0.mk HG43
                            clear gb43 gl43 HG43
                            (first | simp only [add_plain] at hx249_0 | skip)
                            obtain ⟨hx43_0, hf43_0⟩ := Kd.R_celln 0 HO_7.out ((rd (rd_L4 t221 x9_2) 0) : Int) p43 q43
                            replace p43 := eq_true p43
                            replace q43 := eq_true q43
                            have HP48 := Kd.R_putg HO_7.out ((rd (rd_L4 t221 x9_2) 0) : Int) (wrap64 ((rd x7_2 (rd (rd_L4 t221 x9_2) 0)) + 1))
                            go_wp2_with (first | ((with_reducible refine gate_store (t := 3) (p := 128) rfl ?_); (try (rw [drewN_self wr]; generalize hq_ : World.drewN wr _ = wr; have n0_ := Aside0.mk (Kd.R_at hq_ HO_3.out); have n1_ := Aside0.mk (Kd.R_at hq_ HO_4.out); have n2_ := Aside0.mk (Kd.R_at hq_ HO_7.out); have n3_ := Aside0.mk (Kd.R_at hq_ HO_8.out); have n4_ := Aside0.mk (Kd.S_at hq_ HO_233000.out); have n5_ := Aside0.mk (Kd.R_at hq_ HO_233001.out); have n6_ := Aside0.mk (Kd.R_at hq_ HO_233002.out); have n7_ := Aside0.mk (Kd.R_at hq_ HL239_0.out); have n8_ := Aside0.mk (blk_at hq_ BK232.out); have n9_ := Aside0.mk (below_at hq_ HB.out); (try have hx43_0 := cell_at hq_ hx43_0); (try have hf43_0 : World.frozen? wr ⟨go43, ((rd (rd_L4 t221 x9_2) 0) : Int).toNat, none⟩ = false := by rw [← hq_]; exact hf43_0); clear hq_ HO_3 HO_4 HO_7 HO_8 HO_233000 HO_233001 HO_233002 HL239_0 BK232 HB; have HO_3 := n0_; have HO_4 := n1_; have HO_7 := n2_; have HO_8 := n3_; have HO_233000 := n4_; have HO_233001 := n5_; have HO_233002 := n6_; have HL239_0 := n7_; have BK232 := n8_; have HB := n9_; clear n0_ n1_ n2_ n3_ n4_ n5_ n6_ n7_ n8_ n9_; (try (have HP48 := Kd.R_putg HO_7.out ((rd (rd_L4 t221 x9_2) 0) : Int) (wrap64 ((rd x7_2 (rd (rd_L4 t221 x9_2) 0)) + 1)))))); refine store_event (t := 3) (p := 128) (v := ?vo_w49) (w1 := (wr.setCell ⟨go43, ((rd (rd_L4 t221 x9_2) 0) : Int).toNat, none⟩ (.int .i64 (wrap64 ((rd x7_2 (rd (rd_L4 t221 x9_2) 0)) + 1))))) ?hg ?ho ?hn ?hr ?_; (case ho => rfl); (case hg => rfl); (case hn => rfl); (case hr => first | (go_simp; done) | (go_simp; rfl)); intro w49 hw; have hg : wr.grownBy w49 (some go43) := (by rw [hw]; exact HP48.2); have hp_ : Kd.R (Kd.int .i64) 3 w49 w.heap.size (fun k_ => some k_ ≠ (v237 : Value).ownBlock ∧ some k_ ≠ (.slice Ao13 t224.length co13 : Value).ownBlock ∧ some k_ ≠ (.slice Ao14 t227.length co14 : Value).ownBlock) (.slice (some ⟨go43, 0, none⟩) x7_2.length co47) y250 := (by rw [hw, Ny250.out]; exact HP48.1); clear HP48; have n0_ := Aside0.mk (Kd.R_over' (v := (.slice (some ⟨go43, 0, none⟩) x7_2.length co47)) (by (with_reducible repeat (first | apply Kd.R_alloc | apply Kd.R_drewN | apply Kd.R_drew)); exact HO_3.out) (Kd.R_typed HO_7.out) (by decide) hg); have n1_ := Aside0.mk (Kd.R_over' (v := (.slice (some ⟨go43, 0, none⟩) x7_2.length co47)) (by (with_reducible repeat (first | apply Kd.R_alloc | apply Kd.R_drewN | apply Kd.R_drew)); exact HO_4.out) (Kd.R_typed HO_7.out) (by decide) hg); have n2_ := Aside0.mk (hp_); have n3_ := Aside0.mk (Kd.R_after (v := (.slice (some ⟨go43, 0, none⟩) x7_2.length co47)) (v1 := (.slice (some ⟨go43, 0, none⟩) x7_2.length co47)) (ok := (fun k_ => some k_ ≠ (.slice Ao13 t224.length co13 : Value).ownBlock ∧ some k_ ≠ (.slice Ao14 t227.length co14 : Value).ownBlock)) (by (with_reducible repeat (first | apply Kd.R_alloc | apply Kd.R_drewN | apply Kd.R_drew)); exact Kd.R_mono HO_8.out (fun _ hk => ⟨⟨hk.2.1, hk.2.2⟩, hk.1⟩)) hg (.inl rfl)); have n4_ := Aside0.mk (Kd.S_after (v := (.slice (some ⟨go43, 0, none⟩) x7_2.length co47)) (v1 := (.slice (some ⟨go43, 0, none⟩) x7_2.length co47)) (ok := (fun k_ => some k_ ≠ (v237 : Value).ownBlock ∧ some k_ ≠ (.slice Ao13 t224.length co13 : Value).ownBlock ∧ some k_ ≠ (.slice Ao14 t227.length co14 : Value).ownBlock)) (by (with_reducible repeat (first | apply Kd.S_alloc | apply Kd.S_drewN | apply Kd.S_drew)); exact Kd.S_mono HO_233000.out (fun _ hk => ⟨⟨hk.2.1, ⟨hk.2.2.1, hk.2.2.2⟩⟩, hk.1⟩)) hg (.inl rfl)); have n5_ := Aside0.mk (Kd.R_after (v := (.slice (some ⟨go43, 0, none⟩) x7_2.length co47)) (v1 := (.slice (some ⟨go43, 0, none⟩) x7_2.length co47)) (ok := (fun k_ => some k_ ≠ (v237 : Value).ownBlock ∧ some k_ ≠ (.slice Ao14 t227.length co14 : Value).ownBlock)) (by (with_reducible repeat (first | apply Kd.R_alloc | apply Kd.R_drewN | apply Kd.R_drew)); exact Kd.R_mono HO_233001.out (fun _ hk => ⟨⟨hk.2.1, hk.2.2⟩, hk.1⟩)) hg (.inl rfl)); have n6_ := Aside0.mk (Kd.R_after (v := (.slice (some ⟨go43, 0, none⟩) x7_2.length co47)) (v1 := (.slice (some ⟨go43, 0, none⟩) x7_2.length co47)) (ok := (fun k_ => some k_ ≠ (v237 : Value).ownBlock ∧ some k_ ≠ (.slice Ao13 t224.length co13 : Value).ownBlock)) (by (with_reducible repeat (first | apply Kd.R_alloc | apply Kd.R_drewN | apply Kd.R_drew)); exact Kd.R_mono HO_233002.out (fun _ hk => ⟨⟨hk.2.1, hk.2.2⟩, hk.1⟩)) hg (.inl rfl)); have n7_ := Aside0.mk (blk_grown (g := gb232) (o := .cells #[.slice (some ad239) t221.length co11, .slice Ao13 t224.length co13, .slice Ao14 t227.length co14, .int .i64 t230] 29 (0, 0)) (by (with_reducible repeat (first | refine blk_drewN ?_ _ | refine blk_drew ?_ | refine blk_alloc ?_ _)); exact BK232.out) hg (Kd.R_ne HO_7.out BK232.out (by decide))); have n8_ := Aside0.mk (Kd.R_after (v := (.slice (some ⟨go43, 0, none⟩) x7_2.length co47)) (v1 := (.slice (some ⟨go43, 0, none⟩) x7_2.length co47)) (ok := (fun k_ => some k_ ≠ (v237 : Value).ownBlock ∧ some k_ ≠ (.slice (some ad239) t221.length co11 : Value).ownBlock ∧ some k_ ≠ (.slice Ao13 t224.length co13 : Value).ownBlock ∧ some k_ ≠ (.slice Ao14 t227.length co14 : Value).ownBlock)) (by (with_reducible repeat (first | apply Kd.R_alloc | apply Kd.R_drewN | apply Kd.R_drew)); exact Kd.R_mono HL239_0.out (fun _ hk => ⟨⟨hk.1.2.1, ⟨hk.2, ⟨hk.1.2.2.1, hk.1.2.2.2⟩⟩⟩, hk.1.1⟩)) hg (.inl rfl)); have n9_ := Aside0.mk ((by rw [hw]; exact below_set (HB.out) GB43.out : Below w.heap.size w w49)); clear HO_3; clear HO_4; clear HO_7; clear HO_8; clear HO_233000; clear HO_233001; clear HO_233002; clear BK232; clear HL239_0; clear HB; have HO_3 := n0_; have HO_4 := n1_; have HO_7 := n2_; have HO_8 := n3_; have HO_233000 := n4_; have HO_233001 := n5_; have HO_233002 := n6_; have BK232 := n7_; have HL239_0 := n8_; have HB := n9_; clear n0_ n1_ n2_ n3_ n4_ n5_ n6_ n7_ n8_ n9_; clear hg hw hp_; have p251 : 0 ≤ (1 : Int) := (by omega); have q251 : 1 < ((rd_L4 t221 x9_2).length : Int) := of_decide_eq_true (by first | (with_reducible assumption) | assumption); obtain ⟨ad251, e251, hx251_0⟩ := Kd.at_int ((Kd.R_reads' HL239_0.out).2.2) 1 p251 q251; obtain rfl : ad240 = ad251 := (by injection e251); (try simp only [show (1 : Int).toNat = 1 from rfl, Nat.reduceMul, Nat.reduceEqDiff, Go.Addr.add, ↓reduceIte] at hx251_0); have qi251 : (1 < (rd_L4 t221 x9_2).length) = True := eq_true (by omega); (try rw [show ((1 : Int)).toNat = 1 from rfl] at hx251_0); replace p251 := eq_true p251; replace q251 := eq_true q251; obtain ⟨Ao50, co50, eo50⟩ := Kd.R_slice HO_8.out; subst eo50; have p252 : 0 ≤ ((rd (rd_L4 t221 x9_2) 1) : Int) := of_decide_eq_true (by first | (with_reducible assumption) | assumption); have q252 : (rd (rd_L4 t221 x9_2) 1) < (x8_2.length : Int) := of_decide_eq_true (by first | (with_reducible assumption) | assumption); obtain ⟨ad252, e252, hx252_0⟩ := Kd.at_int (Kd.R_reads' HO_8.out).2.2 (rd (rd_L4 t221 x9_2) 1) p252 q252; cases e252; replace p252 := eq_true p252; replace q252 := eq_true q252; have p45 : 0 ≤ ((rd (rd_L4 t221 x9_2) 1) : Int) := of_decide_eq_true (by first | (with_reducible assumption) | assumption); have q45 : ((rd (rd_L4 t221 x9_2) 1) : Int) < ((x8_2.length : Int) : Int) := of_decide_eq_true (by first | (with_reducible assumption) | assumption); obtain ⟨go45, co45, eo45, gb45, gl45, cl45, HG45⟩ := Kd.R_form HO_8.out (by omega); (first | cases eo45 | (injection eo45 with ea_ en_ ec_; (first | subst ea_ | (injection ea_ with ea_; subst ea_)); subst ec_; clear en_)); have GB45 := Aside0.mk gb45; have GG45 := Aside0.mk HG45; clear gb45 gl45 HG45; (first | simp only [add_plain] at hx252_0 | skip); obtain ⟨hx45_0, hf45_0⟩ := Kd.R_celln 0 HO_8.out ((rd (rd_L4 t221 x9_2) 1) : Int) p45 q45; replace p45 := eq_true p45; replace q45 := eq_true q45; have n_ := Aside0.mk (Kd.R_mono (ok' := (fun k_ => some k_ ≠ (.slice (some ⟨go43, 0, none⟩) x7_2.length co47 : Value).ownBlock ∧ some k_ ≠ (.slice Ao13 t224.length co13 : Value).ownBlock ∧ some k_ ≠ (.slice Ao14 t227.length co14 : Value).ownBlock)) HO_8.out (fun k_ hk => ⟨hk.2, ⟨hk.1.1, hk.1.2⟩⟩)); clear HO_8; have HO_8 := n_; clear n_; obtain ⟨hy51_, hz51_⟩ := Kd.R_celln 0 HO_8.out ((rd (rd_L4 t221 x9_2) 1) : Int) (of_decide_eq_true (by first | (with_reducible assumption) | assumption)) (of_decide_eq_true (by first | (with_reducible assumption) | assumption)); have HP51 := Kd.R_putg HO_8.out ((rd (rd_L4 t221 x9_2) 1) : Int) (wrap64 ((rd x8_2 (rd (rd_L4 t221 x9_2) 1)) + 1))) | ((with_reducible refine gate_store (t := 3) (p := 136) rfl ?_); (try (rw [drewN_self w49]; generalize hq_ : World.drewN w49 _ = w49; have n0_ := Aside0.mk (Kd.R_at hq_ HO_3.out); have n1_ := Aside0.mk (Kd.R_at hq_ HO_4.out); have n2_ := Aside0.mk (Kd.R_at hq_ HO_7.out); have n3_ := Aside0.mk (Kd.R_at hq_ HO_8.out); have n4_ := Aside0.mk (Kd.S_at hq_ HO_233000.out); have n5_ := Aside0.mk (Kd.R_at hq_ HO_233001.out); have n6_ := Aside0.mk (Kd.R_at hq_ HO_233002.out); have n7_ := Aside0.mk (Kd.R_at hq_ HL239_0.out); have n8_ := Aside0.mk (blk_at hq_ BK232.out); have n9_ := Aside0.mk (below_at hq_ HB.out); clear hq_ HO_3 HO_4 HO_7 HO_8 HO_233000 HO_233001 HO_233002 HL239_0 BK232 HB; have HO_3 := n0_; have HO_4 := n1_; have HO_7 := n2_; have HO_8 := n3_; have HO_233000 := n4_; have HO_233001 := n5_; have HO_233002 := n6_; have HL239_0 := n7_; have BK232 := n8_; have HB := n9_; clear n0_ n1_ n2_ n3_ n4_ n5_ n6_ n7_ n8_ n9_; (try (have n_ := Aside0.mk (Kd.R_mono (ok' := (fun k_ => some k_ ≠ (.slice (some ⟨go43, 0, none⟩) x7_2.length co47 : Value).ownBlock ∧ some k_ ≠ (.slice Ao13 t224.length co13 : Value).ownBlock ∧ some k_ ≠ (.slice Ao14 t227.length co14 : Value).ownBlock)) HO_8.out (fun k_ hk => ⟨hk.2, ⟨hk.1.1, hk.1.2⟩⟩)); clear HO_8; have HO_8 := n_; clear n_)); (try (obtain ⟨hy51_, hz51_⟩ := Kd.R_celln 0 HO_8.out ((rd (rd_L4 t221 x9_2) 1) : Int) (of_decide_eq_true (by first | (with_reducible assumption) | assumption)) (of_decide_eq_true (by first | (with_reducible assumption) | assumption)))); (try (have HP51 := Kd.R_putg HO_8.out ((rd (rd_L4 t221 x9_2) 1) : Int) (wrap64 ((rd x8_2 (rd (rd_L4 t221 x9_2) 1)) + 1)))))); refine store_event (t := 3) (p := 136) (v := ?vo_w52) (w1 := (w49.setCell ⟨go45, ((rd (rd_L4 t221 x9_2) 1) : Int).toNat, none⟩ (.int .i64 (wrap64 ((rd x8_2 (rd (rd_L4 t221 x9_2) 1)) + 1))))) ?hg ?ho ?hn ?hr ?_; (case ho => rfl); (case hg => rfl); (case hn => rfl); (case hr => first | (go_simp; done) | (go_simp; rfl)); intro w52 hw; have hg : w49.grownBy w52 (some go45) := (by rw [hw]; exact HP51.2); have hp_ : Kd.R (Kd.int .i64) 3 w52 w.heap.size (fun k_ => some k_ ≠ (.slice (some ⟨go43, 0, none⟩) x7_2.length co47 : Value).ownBlock ∧ some k_ ≠ (.slice Ao13 t224.length co13 : Value).ownBlock ∧ some k_ ≠ (.slice Ao14 t227.length co14 : Value).ownBlock) (.slice (some ⟨go45, 0, none⟩) x8_2.length co50) y253 := (by rw [hw, Ny253.out]; exact HP51.1); clear HP51; have n0_ := Aside0.mk (Kd.R_over' (v := (.slice (some ⟨go45, 0, none⟩) x8_2.length co50)) (by (with_reducible repeat (first | apply Kd.R_alloc | apply Kd.R_drewN | apply Kd.R_drew)); exact HO_3.out) (Kd.R_typed HO_8.out) (by decide) hg); have n1_ := Aside0.mk (Kd.R_over' (v := (.slice (some ⟨go45, 0, none⟩) x8_2.length co50)) (by (with_reducible repeat (first | apply Kd.R_alloc | apply Kd.R_drewN | apply Kd.R_drew)); exact HO_4.out) (Kd.R_typed HO_8.out) (by decide) hg); have n2_ := Aside0.mk (Kd.R_after (v := (.slice (some ⟨go45, 0, none⟩) x8_2.length co50)) (v1 := (.slice (some ⟨go45, 0, none⟩) x8_2.length co50)) (ok := (fun k_ => some k_ ≠ (.slice Ao13 t224.length co13 : Value).ownBlock ∧ some k_ ≠ (.slice Ao14 t227.length co14 : Value).ownBlock)) (by (with_reducible repeat (first | apply Kd.R_alloc | apply Kd.R_drewN | apply Kd.R_drew)); exact Kd.R_mono HO_7.out (fun _ hk => ⟨⟨hk.2.1, hk.2.2⟩, hk.1⟩)) hg (.inl rfl)); have n3_ := Aside0.mk (hp_); have n4_ := Aside0.mk (Kd.S_after (v := (.slice (some ⟨go45, 0, none⟩) x8_2.length co50)) (v1 := (.slice (some ⟨go45, 0, none⟩) x8_2.length co50)) (ok := (fun k_ => some k_ ≠ (.slice (some ⟨go43, 0, none⟩) x7_2.length co47 : Value).ownBlock ∧ some k_ ≠ (.slice Ao13 t224.length co13 : Value).ownBlock ∧ some k_ ≠ (.slice Ao14 t227.length co14 : Value).ownBlock)) (by (with_reducible repeat (first | apply Kd.S_alloc | apply Kd.S_drewN | apply Kd.S_drew)); exact Kd.S_mono HO_233000.out (fun _ hk => ⟨⟨hk.2, ⟨hk.1.2.1, hk.1.2.2⟩⟩, hk.1.1⟩)) hg (.inl rfl)); have n5_ := Aside0.mk (Kd.R_after (v := (.slice (some ⟨go45, 0, none⟩) x8_2.length co50)) (v1 := (.slice (some ⟨go45, 0, none⟩) x8_2.length co50)) (ok := (fun k_ => some k_ ≠ (.slice (some ⟨go43, 0, none⟩) x7_2.length co47 : Value).ownBlock ∧ some k_ ≠ (.slice Ao14 t227.length co14 : Value).ownBlock)) (by (with_reducible repeat (first | apply Kd.R_alloc | apply Kd.R_drewN | apply Kd.R_drew)); exact Kd.R_mono HO_233001.out (fun _ hk => ⟨⟨hk.2, hk.1.2⟩, hk.1.1⟩)) hg (.inl rfl)); have n6_ := Aside0.mk (Kd.R_after (v := (.slice (some ⟨go45, 0, none⟩) x8_2.length co50)) (v1 := (.slice (some ⟨go45, 0, none⟩) x8_2.length co50)) (ok := (fun k_ => some k_ ≠ (.slice (some ⟨go43, 0, none⟩) x7_2.length co47 : Value).ownBlock ∧ some k_ ≠ (.slice Ao13 t224.length co13 : Value).ownBlock)) (by (with_reducible repeat (first | apply Kd.R_alloc | apply Kd.R_drewN | apply Kd.R_drew)); exact Kd.R_mono HO_233002.out (fun _ hk => ⟨⟨hk.2, hk.1.2⟩, hk.1.1⟩)) hg (.inl rfl)); have n7_ := Aside0.mk (blk_grown (g := gb232) (o := .cells #[.slice (some ad239) t221.length co11, .slice Ao13 t224.length co13, .slice Ao14 t227.length co14, .int .i64 t230] 29 (0, 0)) (by (with_reducible repeat (first | refine blk_drewN ?_ _ | refine blk_drew ?_ | refine blk_alloc ?_ _)); exact BK232.out) hg (Kd.R_ne HO_8.out BK232.out (by decide))); have n8_ := Aside0.mk (Kd.R_after (v := (.slice (some ⟨go45, 0, none⟩) x8_2.length co50)) (v1 := (.slice (some ⟨go45, 0, none⟩) x8_2.length co50)) (ok := (fun k_ => some k_ ≠ (.slice (some ⟨go43, 0, none⟩) x7_2.length co47 : Value).ownBlock ∧ some k_ ≠ (.slice (some ad239) t221.length co11 : Value).ownBlock ∧ some k_ ≠ (.slice Ao13 t224.length co13 : Value).ownBlock ∧ some k_ ≠ (.slice Ao14 t227.length co14 : Value).ownBlock)) (by (with_reducible repeat (first | apply Kd.R_alloc | apply Kd.R_drewN | apply Kd.R_drew)); exact Kd.R_mono HL239_0.out (fun _ hk => ⟨⟨hk.2, ⟨hk.1.2.1, ⟨hk.1.2.2.1, hk.1.2.2.2⟩⟩⟩, hk.1.1⟩)) hg (.inl rfl)); have n9_ := Aside0.mk ((by rw [hw]; exact below_set (HB.out) GB45.out : Below w.heap.size w w52)); clear HO_3; clear HO_4; clear HO_7; clear HO_8; clear HO_233000; clear HO_233001; clear HO_233002; clear BK232; clear HL239_0; clear HB; have HO_3 := n0_; have HO_4 := n1_; have HO_7 := n2_; have HO_8 := n3_; have HO_233000 := n4_; have HO_233001 := n5_; have HO_233002 := n6_; have BK232 := n7_; have HL239_0 := n8_; have HB := n9_; clear n0_ n1_ n2_ n3_ n4_ n5_ n6_ n7_ n8_ n9_; clear hg hw hp_))
                            repeat (go_quiet (first | ((with_reducible refine gate_store (t := 3) (p := 128) rfl ?_); (try (rw [drewN_self wr]; generalize hq_ : World.drewN wr _ = wr; have n0_ := Aside0.mk (Kd.R_at hq_ HO_3.out); have n1_ := Aside0.mk (Kd.R_at hq_ HO_4.out); have n2_ := Aside0.mk (Kd.R_at hq_ HO_7.out); have n3_ := Aside0.mk (Kd.R_at hq_ HO_8.out); have n4_ := Aside0.mk (Kd.S_at hq_ HO_233000.out); have n5_ := Aside0.mk (Kd.R_at hq_ HO_233001.out); have n6_ := Aside0.mk (Kd.R_at hq_ HO_233002.out); have n7_ := Aside0.mk (Kd.R_at hq_ HL239_0.out); have n8_ := Aside0.mk (blk_at hq_ BK232.out); have n9_ := Aside0.mk (below_at hq_ HB.out); (try have hx43_0 := cell_at hq_ hx43_0); (try have hf43_0 : World.frozen? wr ⟨go43, ((rd (rd_L4 t221 x9_2) 0) : Int).toNat, none⟩ = false := by rw [← hq_]; exact hf43_0); clear hq_ HO_3 HO_4 HO_7 HO_8 HO_233000 HO_233001 HO_233002 HL239_0 BK232 HB; have HO_3 := n0_; have HO_4 := n1_; have HO_7 := n2_; have HO_8 := n3_; have HO_233000 := n4_; have HO_233001 := n5_; have HO_233002 := n6_; have HL239_0 := n7_; have BK232 := n8_; have HB := n9_; clear n0_ n1_ n2_ n3_ n4_ n5_ n6_ n7_ n8_ n9_; (try (have HP48 := Kd.R_putg HO_7.out ((rd (rd_L4 t221 x9_2) 0) : Int) (wrap64 ((rd x7_2 (rd (rd_L4 t221 x9_2) 0)) + 1)))))); refine store_event (t := 3) (p := 128) (v := ?vo_w49) (w1 := (wr.setCell ⟨go43, ((rd (rd_L4 t221 x9_2) 0) : Int).toNat, none⟩ (.int .i64 (wrap64 ((rd x7_2 (rd (rd_L4 t221 x9_2) 0)) + 1))))) ?hg ?ho ?hn ?hr ?_; (case ho => rfl); (case hg => rfl); (case hn => rfl); (case hr => first | (go_simp; done) | (go_simp; rfl)); intro w49 hw; have hg : wr.grownBy w49 (some go43) := (by rw [hw]; exact HP48.2); have hp_ : Kd.R (Kd.int .i64) 3 w49 w.heap.size (fun k_ => some k_ ≠ (v237 : Value).ownBlock ∧ some k_ ≠ (.slice Ao13 t224.length co13 : Value).ownBlock ∧ some k_ ≠ (.slice Ao14 t227.length co14 : Value).ownBlock) (.slice (some ⟨go43, 0, none⟩) x7_2.length co47) y250 := (by rw [hw, Ny250.out]; exact HP48.1); clear HP48; have n0_ := Aside0.mk (Kd.R_over' (v := (.slice (some ⟨go43, 0, none⟩) x7_2.length co47)) (by (with_reducible repeat (first | apply Kd.R_alloc | apply Kd.R_drewN | apply Kd.R_drew)); exact HO_3.out) (Kd.R_typed HO_7.out) (by decide) hg); have n1_ := Aside0.mk (Kd.R_over' (v := (.slice (some ⟨go43, 0, none⟩) x7_2.length co47)) (by (with_reducible repeat (first | apply Kd.R_alloc | apply Kd.R_drewN | apply Kd.R_drew)); exact HO_4.out) (Kd.R_typed HO_7.out) (by decide) hg); have n2_ := Aside0.mk (hp_); have n3_ := Aside0.mk (Kd.R_after (v := (.slice (some ⟨go43, 0, none⟩) x7_2.length co47)) (v1 := (.slice (some ⟨go43, 0, none⟩) x7_2.length co47)) (ok := (fun k_ => some k_ ≠ (.slice Ao13 t224.length co13 : Value).ownBlock ∧ some k_ ≠ (.slice Ao14 t227.length co14 : Value).ownBlock)) (by (with_reducible repeat (first | apply Kd.R_alloc | apply Kd.R_drewN | apply Kd.R_drew)); exact Kd.R_mono HO_8.out (fun _ hk => ⟨⟨hk.2.1, hk.2.2⟩, hk.1⟩)) hg (.inl rfl)); have n4_ := Aside0.mk (Kd.S_after (v := (.slice (some ⟨go43, 0, none⟩) x7_2.length co47)) (v1 := (.slice (some ⟨go43, 0, none⟩) x7_2.length co47)) (ok := (fun k_ => some k_ ≠ (v237 : Value).ownBlock ∧ some k_ ≠ (.slice Ao13 t224.length co13 : Value).ownBlock ∧ some k_ ≠ (.slice Ao14 t227.length co14 : Value).ownBlock)) (by (with_reducible repeat (first | apply Kd.S_alloc | apply Kd.S_drewN | apply Kd.S_drew)); exact Kd.S_mono HO_233000.out (fun _ hk => ⟨⟨hk.2.1, ⟨hk.2.2.1, hk.2.2.2⟩⟩, hk.1⟩)) hg (.inl rfl)); have n5_ := Aside0.mk (Kd.R_after (v := (.slice (some ⟨go43, 0, none⟩) x7_2.length co47)) (v1 := (.slice (some ⟨go43, 0, none⟩) x7_2.length co47)) (ok := (fun k_ => some k_ ≠ (v237 : Value).ownBlock ∧ some k_ ≠ (.slice Ao14 t227.length co14 : Value).ownBlock)) (by (with_reducible repeat (first | apply Kd.R_alloc | apply Kd.R_drewN | apply Kd.R_drew)); exact Kd.R_mono HO_233001.out (fun _ hk => ⟨⟨hk.2.1, hk.2.2⟩, hk.1⟩)) hg (.inl rfl)); have n6_ := Aside0.mk (Kd.R_after (v := (.slice (some ⟨go43, 0, none⟩) x7_2.length co47)) (v1 := (.slice (some ⟨go43, 0, none⟩) x7_2.length co47)) (ok := (fun k_ => some k_ ≠ (v237 : Value).ownBlock ∧ some k_ ≠ (.slice Ao13 t224.length co13 : Value).ownBlock)) (by (with_reducible repeat (first | apply Kd.R_alloc | apply Kd.R_drewN | apply Kd.R_drew)); exact Kd.R_mono HO_233002.out (fun _ hk => ⟨⟨hk.2.1, hk.2.2⟩, hk.1⟩)) hg (.inl rfl)); have n7_ := Aside0.mk (blk_grown (g := gb232) (o := .cells #[.slice (some ad239) t221.length co11, .slice Ao13 t224.length co13, .slice Ao14 t227.length co14, .int .i64 t230] 29 (0, 0)) (by (with_reducible repeat (first | refine blk_drewN ?_ _ | refine blk_drew ?_ | refine blk_alloc ?_ _)); exact BK232.out) hg (Kd.R_ne HO_7.out BK232.out (by decide))); have n8_ := Aside0.mk (Kd.R_after (v := (.slice (some ⟨go43, 0, none⟩) x7_2.length co47)) (v1 := (.slice (some ⟨go43, 0, none⟩) x7_2.length co47)) (ok := (fun k_ => some k_ ≠ (v237 : Value).ownBlock ∧ some k_ ≠ (.slice (some ad239) t221.length co11 : Value).ownBlock ∧ some k_ ≠ (.slice Ao13 t224.length co13 : Value).ownBlock ∧ some k_ ≠ (.slice Ao14 t227.length co14 : Value).ownBlock)) (by (with_reducible repeat (first | apply Kd.R_alloc | apply Kd.R_drewN | apply Kd.R_drew)); exact Kd.R_mono HL239_0.out (fun _ hk => ⟨⟨hk.1.2.1, ⟨hk.2, ⟨hk.1.2.2.1, hk.1.2.2.2⟩⟩⟩, hk.1.1⟩)) hg (.inl rfl)); have n9_ := Aside0.mk ((by rw [hw]; exact below_set (HB.out) GB43.out : Below w.heap.size w w49)); clear HO_3; clear HO_4; clear HO_7; clear HO_8; clear HO_233000; clear HO_233001; clear HO_233002; clear BK232; clear HL239_0; clear HB; have HO_3 := n0_; have HO_4 := n1_; have HO_7 := n2_; have HO_8 := n3_; have HO_233000 := n4_; have HO_233001 := n5_; have HO_233002 := n6_; have BK232 := n7_; have HL239_0 := n8_; have HB := n9_; clear n0_ n1_ n2_ n3_ n4_ n5_ n6_ n7_ n8_ n9_; clear hg hw hp_; have p251 : 0 ≤ (1 : Int) := (by omega); have q251 : 1 < ((rd_L4 t221 x9_2).length : Int) := of_decide_eq_true (by first | (with_reducible assumption) | assumption); obtain ⟨ad251, e251, hx251_0⟩ := Kd.at_int ((Kd.R_reads' HL239_0.out).2.2) 1 p251 q251; obtain rfl : ad240 = ad251 := (by injection e251); (try simp only [show (1 : Int).toNat = 1 from rfl, Nat.reduceMul, Nat.reduceEqDiff, Go.Addr.add, ↓reduceIte] at hx251_0); have qi251 : (1 < (rd_L4 t221 x9_2).length) = True := eq_true (by omega); (try rw [show ((1 : Int)).toNat = 1 from rfl] at hx251_0); replace p251 := eq_true p251; replace q251 := eq_true q251; obtain ⟨Ao50, co50, eo50⟩ := Kd.R_slice HO_8.out; subst eo50; have p252 : 0 ≤ ((rd (rd_L4 t221 x9_2) 1) : Int) := of_decide_eq_true (by first | (with_reducible assumption) | assumption); have q252 : (rd (rd_L4 t221 x9_2) 1) < (x8_2.length : Int) := of_decide_eq_true (by first | (with_reducible assumption) | assumption); obtain ⟨ad252, e252, hx252_0⟩ := Kd.at_int (Kd.R_reads' HO_8.out).2.2 (rd (rd_L4 t221 x9_2) 1) p252 q252; cases e252; replace p252 := eq_true p252; replace q252 := eq_true q252; have p45 : 0 ≤ ((rd (rd_L4 t221 x9_2) 1) : Int) := of_decide_eq_true (by first | (with_reducible assumption) | assumption); have q45 : ((rd (rd_L4 t221 x9_2) 1) : Int) < ((x8_2.length : Int) : Int) := of_decide_eq_true (by first | (with_reducible assumption) | assumption); obtain ⟨go45, co45, eo45, gb45, gl45, cl45, HG45⟩ := Kd.R_form HO_8.out (by omega); (first | cases eo45 | (injection eo45 with ea_ en_ ec_; (first | subst ea_ | (injection ea_ with ea_; subst ea_)); subst ec_; clear en_)); have GB45 := Aside0.mk gb45; have GG45 := Aside0.mk HG45; clear gb45 gl45 HG45; (first | simp only [add_plain] at hx252_0 | skip); obtain ⟨hx45_0, hf45_0⟩ := Kd.R_celln 0 HO_8.out ((rd (rd_L4 t221 x9_2) 1) : Int) p45 q45; replace p45 := eq_true p45; replace q45 := eq_true q45; have n_ := Aside0.mk (Kd.R_mono (ok' := (fun k_ => some k_ ≠ (.slice (some ⟨go43, 0, none⟩) x7_2.length co47 : Value).ownBlock ∧ some k_ ≠ (.slice Ao13 t224.length co13 : Value).ownBlock ∧ some k_ ≠ (.slice Ao14 t227.length co14 : Value).ownBlock)) HO_8.out (fun k_ hk => ⟨hk.2, ⟨hk.1.1, hk.1.2⟩⟩)); clear HO_8; have HO_8 := n_; clear n_; obtain ⟨hy51_, hz51_⟩ := Kd.R_celln 0 HO_8.out ((rd (rd_L4 t221 x9_2) 1) : Int) (of_decide_eq_true (by first | (with_reducible assumption) | assumption)) (of_decide_eq_true (by first | (with_reducible assumption) | assumption)); have HP51 := Kd.R_putg HO_8.out ((rd (rd_L4 t221 x9_2) 1) : Int) (wrap64 ((rd x8_2 (rd (rd_L4 t221 x9_2) 1)) + 1))) | ((with_reducible refine gate_store (t := 3) (p := 136) rfl ?_); (try (rw [drewN_self w49]; generalize hq_ : World.drewN w49 _ = w49; have n0_ := Aside0.mk (Kd.R_at hq_ HO_3.out); have n1_ := Aside0.mk (Kd.R_at hq_ HO_4.out); have n2_ := Aside0.mk (Kd.R_at hq_ HO_7.out); have n3_ := Aside0.mk (Kd.R_at hq_ HO_8.out); have n4_ := Aside0.mk (Kd.S_at hq_ HO_233000.out); have n5_ := Aside0.mk (Kd.R_at hq_ HO_233001.out); have n6_ := Aside0.mk (Kd.R_at hq_ HO_233002.out); have n7_ := Aside0.mk (Kd.R_at hq_ HL239_0.out); have n8_ := Aside0.mk (blk_at hq_ BK232.out); have n9_ := Aside0.mk (below_at hq_ HB.out); clear hq_ HO_3 HO_4 HO_7 HO_8 HO_233000 HO_233001 HO_233002 HL239_0 BK232 HB; have HO_3 := n0_; have HO_4 := n1_; have HO_7 := n2_; have HO_8 := n3_; have HO_233000 := n4_; have HO_233001 := n5_; have HO_233002 := n6_; have HL239_0 := n7_; have BK232 := n8_; have HB := n9_; clear n0_ n1_ n2_ n3_ n4_ n5_ n6_ n7_ n8_ n9_; (try (have n_ := Aside0.mk (Kd.R_mono (ok' := (fun k_ => some k_ ≠ (.slice (some ⟨go43, 0, none⟩) x7_2.length co47 : Value).ownBlock ∧ some k_ ≠ (.slice Ao13 t224.length co13 : Value).ownBlock ∧ some k_ ≠ (.slice Ao14 t227.length co14 : Value).ownBlock)) HO_8.out (fun k_ hk => ⟨hk.2, ⟨hk.1.1, hk.1.2⟩⟩)); clear HO_8; have HO_8 := n_; clear n_)); (try (obtain ⟨hy51_, hz51_⟩ := Kd.R_celln 0 HO_8.out ((rd (rd_L4 t221 x9_2) 1) : Int) (of_decide_eq_true (by first | (with_reducible assumption) | assumption)) (of_decide_eq_true (by first | (with_reducible assumption) | assumption)))); (try (have HP51 := Kd.R_putg HO_8.out ((rd (rd_L4 t221 x9_2) 1) : Int) (wrap64 ((rd x8_2 (rd (rd_L4 t221 x9_2) 1)) + 1)))))); refine store_event (t := 3) (p := 136) (v := ?vo_w52) (w1 := (w49.setCell ⟨go45, ((rd (rd_L4 t221 x9_2) 1) : Int).toNat, none⟩ (.int .i64 (wrap64 ((rd x8_2 (rd (rd_L4 t221 x9_2) 1)) + 1))))) ?hg ?ho ?hn ?hr ?_; (case ho => rfl); (case hg => rfl); (case hn => rfl); (case hr => first | (go_simp; done) | (go_simp; rfl)); intro w52 hw; have hg : w49.grownBy w52 (some go45) := (by rw [hw]; exact HP51.2); have hp_ : Kd.R (Kd.int .i64) 3 w52 w.heap.size (fun k_ => some k_ ≠ (.slice (some ⟨go43, 0, none⟩) x7_2.length co47 : Value).ownBlock ∧ some k_ ≠ (.slice Ao13 t224.length co13 : Value).ownBlock ∧ some k_ ≠ (.slice Ao14 t227.length co14 : Value).ownBlock) (.slice (some ⟨go45, 0, none⟩) x8_2.length co50) y253 := (by rw [hw, Ny253.out]; exact HP51.1); clear HP51; have n0_ := Aside0.mk (Kd.R_over' (v := (.slice (some ⟨go45, 0, none⟩) x8_2.length co50)) (by (with_reducible repeat (first | apply Kd.R_alloc | apply Kd.R_drewN | apply Kd.R_drew)); exact HO_3.out) (Kd.R_typed HO_8.out) (by decide) hg); have n1_ := Aside0.mk (Kd.R_over' (v := (.slice (some ⟨go45, 0, none⟩) x8_2.length co50)) (by (with_reducible repeat (first | apply Kd.R_alloc | apply Kd.R_drewN | apply Kd.R_drew)); exact HO_4.out) (Kd.R_typed HO_8.out) (by decide) hg); have n2_ := Aside0.mk (Kd.R_after (v := (.slice (some ⟨go45, 0, none⟩) x8_2.length co50)) (v1 := (.slice (some ⟨go45, 0, none⟩) x8_2.length co50)) (ok := (fun k_ => some k_ ≠ (.slice Ao13 t224.length co13 : Value).ownBlock ∧ some k_ ≠ (.slice Ao14 t227.length co14 : Value).ownBlock)) (by (with_reducible repeat (first | apply Kd.R_alloc | apply Kd.R_drewN | apply Kd.R_drew)); exact Kd.R_mono HO_7.out (fun _ hk => ⟨⟨hk.2.1, hk.2.2⟩, hk.1⟩)) hg (.inl rfl)); have n3_ := Aside0.mk (hp_); have n4_ := Aside0.mk (Kd.S_after (v := (.slice (some ⟨go45, 0, none⟩) x8_2.length co50)) (v1 := (.slice (some ⟨go45, 0, none⟩) x8_2.length co50)) (ok := (fun k_ => some k_ ≠ (.slice (some ⟨go43, 0, none⟩) x7_2.length co47 : Value).ownBlock ∧ some k_ ≠ (.slice Ao13 t224.length co13 : Value).ownBlock ∧ some k_ ≠ (.slice Ao14 t227.length co14 : Value).ownBlock)) (by (with_reducible repeat (first | apply Kd.S_alloc | apply Kd.S_drewN | apply Kd.S_drew)); exact Kd.S_mono HO_233000.out (fun _ hk => ⟨⟨hk.2, ⟨hk.1.2.1, hk.1.2.2⟩⟩, hk.1.1⟩)) hg (.inl rfl)); have n5_ := Aside0.mk (Kd.R_after (v := (.slice (some ⟨go45, 0, none⟩) x8_2.length co50)) (v1 := (.slice (some ⟨go45, 0, none⟩) x8_2.length co50)) (ok := (fun k_ => some k_ ≠ (.slice (some ⟨go43, 0, none⟩) x7_2.length co47 : Value).ownBlock ∧ some k_ ≠ (.slice Ao14 t227.length co14 : Value).ownBlock)) (by (with_reducible repeat (first | apply Kd.R_alloc | apply Kd.R_drewN | apply Kd.R_drew)); exact Kd.R_mono HO_233001.out (fun _ hk => ⟨⟨hk.2, hk.1.2⟩, hk.1.1⟩)) hg (.inl rfl)); have n6_ := Aside0.mk (Kd.R_after (v := (.slice (some ⟨go45, 0, none⟩) x8_2.length co50)) (v1 := (.slice (some ⟨go45, 0, none⟩) x8_2.length co50)) (ok := (fun k_ => some k_ ≠ (.slice (some ⟨go43, 0, none⟩) x7_2.length co47 : Value).ownBlock ∧ some k_ ≠ (.slice Ao13 t224.length co13 : Value).ownBlock)) (by (with_reducible repeat (first | apply Kd.R_alloc | apply Kd.R_drewN | apply Kd.R_drew)); exact Kd.R_mono HO_233002.out (fun _ hk => ⟨⟨hk.2, hk.1.2⟩, hk.1.1⟩)) hg (.inl rfl)); have n7_ := Aside0.mk (blk_grown (g := gb232) (o := .cells #[.slice (some ad239) t221.length co11, .slice Ao13 t224.length co13, .slice Ao14 t227.length co14, .int .i64 t230] 29 (0, 0)) (by (with_reducible repeat (first | refine blk_drewN ?_ _ | refine blk_drew ?_ | refine blk_alloc ?_ _)); exact BK232.out) hg (Kd.R_ne HO_8.out BK232.out (by decide))); have n8_ := Aside0.mk (Kd.R_after (v := (.slice (some ⟨go45, 0, none⟩) x8_2.length co50)) (v1 := (.slice (some ⟨go45, 0, none⟩) x8_2.length co50)) (ok := (fun k_ => some k_ ≠ (.slice (some ⟨go43, 0, none⟩) x7_2.length co47 : Value).ownBlock ∧ some k_ ≠ (.slice (some ad239) t221.length co11 : Value).ownBlock ∧ some k_ ≠ (.slice Ao13 t224.length co13 : Value).ownBlock ∧ some k_ ≠ (.slice Ao14 t227.length co14 : Value).ownBlock)) (by (with_reducible repeat (first | apply Kd.R_alloc | apply Kd.R_drewN | apply Kd.R_drew)); exact Kd.R_mono HL239_0.out (fun _ hk => ⟨⟨hk.2, ⟨hk.1.2.1, ⟨hk.1.2.2.1, hk.1.2.2.2⟩⟩⟩, hk.1.1⟩)) hg (.inl rfl)); have n9_ := Aside0.mk ((by rw [hw]; exact below_set (HB.out) GB45.out : Below w.heap.size w w52)); clear HO_3; clear HO_4; clear HO_7; clear HO_8; clear HO_233000; clear HO_233001; clear HO_233002; clear BK232; clear HL239_0; clear HB; have HO_3 := n0_; have HO_4 := n1_; have HO_7 := n2_; have HO_8 := n3_; have HO_233000 := n4_; have HO_233001 := n5_; have HO_233002 := n6_; have BK232 := n7_; have HL239_0 := n8_; have HB := n9_; clear n0_ n1_ n2_ n3_ n4_ n5_ n6_ n7_ n8_ n9_; clear hg hw hp_)); try go_wp2_with (first | ((with_reducible refine gate_store (t := 3) (p := 128) rfl ?_); (try (rw [drewN_self wr]; generalize hq_ : World.drewN wr _ = wr; have n0_ := Aside0.mk (Kd.R_at hq_ HO_3.out); have n1_ := Aside0.mk (Kd.R_at hq_ HO_4.out); have n2_ := Aside0.mk (Kd.R_at hq_ HO_7.out); have n3_ := Aside0.mk (Kd.R_at hq_ HO_8.out); have n4_ := Aside0.mk (Kd.S_at hq_ HO_233000.out); have n5_ := Aside0.mk (Kd.R_at hq_ HO_233001.out); have n6_ := Aside0.mk (Kd.R_at hq_ HO_233002.out); have n7_ := Aside0.mk (Kd.R_at hq_ HL239_0.out); have n8_ := Aside0.mk (blk_at hq_ BK232.out); have n9_ := Aside0.mk (below_at hq_ HB.out); (try have hx43_0 := cell_at hq_ hx43_0); (try have hf43_0 : World.frozen? wr ⟨go43, ((rd (rd_L4 t221 x9_2) 0) : Int).toNat, none⟩ = false := by rw [← hq_]; exact hf43_0); clear hq_ HO_3 HO_4 HO_7 HO_8 HO_233000 HO_233001 HO_233002 HL239_0 BK232 HB; have HO_3 := n0_; have HO_4 := n1_; have HO_7 := n2_; have HO_8 := n3_; have HO_233000 := n4_; have HO_233001 := n5_; have HO_233002 := n6_; have HL239_0 := n7_; have BK232 := n8_; have HB := n9_; clear n0_ n1_ n2_ n3_ n4_ n5_ n6_ n7_ n8_ n9_; (try (have HP48 := Kd.R_putg HO_7.out ((rd (rd_L4 t221 x9_2) 0) : Int) (wrap64 ((rd x7_2 (rd (rd_L4 t221 x9_2) 0)) + 1)))))); refine store_event (t := 3) (p := 128) (v := ?vo_w49) (w1 := (wr.setCell ⟨go43, ((rd (rd_L4 t221 x9_2) 0) : Int).toNat, none⟩ (.int .i64 (wrap64 ((rd x7_2 (rd (rd_L4 t221 x9_2) 0)) + 1))))) ?hg ?ho ?hn ?hr ?_; (case ho => rfl); (case hg => rfl); (case hn => rfl); (case hr => first | (go_simp; done) | (go_simp; rfl)); intro w49 hw; have hg : wr.grownBy w49 (some go43) := (by rw [hw]; exact HP48.2); have hp_ : Kd.R (Kd.int .i64) 3 w49 w.heap.size (fun k_ => some k_ ≠ (v237 : Value).ownBlock ∧ some k_ ≠ (.slice Ao13 t224.length co13 : Value).ownBlock ∧ some k_ ≠ (.slice Ao14 t227.length co14 : Value).ownBlock) (.slice (some ⟨go43, 0, none⟩) x7_2.length co47) y250 := (by rw [hw, Ny250.out]; exact HP48.1); clear HP48; have n0_ := Aside0.mk (Kd.R_over' (v := (.slice (some ⟨go43, 0, none⟩) x7_2.length co47)) (by (with_reducible repeat (first | apply Kd.R_alloc | apply Kd.R_drewN | apply Kd.R_drew)); exact HO_3.out) (Kd.R_typed HO_7.out) (by decide) hg); have n1_ := Aside0.mk (Kd.R_over' (v := (.slice (some ⟨go43, 0, none⟩) x7_2.length co47)) (by (with_reducible repeat (first | apply Kd.R_alloc | apply Kd.R_drewN | apply Kd.R_drew)); exact HO_4.out) (Kd.R_typed HO_7.out) (by decide) hg); have n2_ := Aside0.mk (hp_); have n3_ := Aside0.mk (Kd.R_after (v := (.slice (some ⟨go43, 0, none⟩) x7_2.length co47)) (v1 := (.slice (some ⟨go43, 0, none⟩) x7_2.length co47)) (ok := (fun k_ => some k_ ≠ (.slice Ao13 t224.length co13 : Value).ownBlock ∧ some k_ ≠ (.slice Ao14 t227.length co14 : Value).ownBlock)) (by (with_reducible repeat (first | apply Kd.R_alloc | apply Kd.R_drewN | apply Kd.R_drew)); exact Kd.R_mono HO_8.out (fun _ hk => ⟨⟨hk.2.1, hk.2.2⟩, hk.1⟩)) hg (.inl rfl)); have n4_ := Aside0.mk (Kd.S_after (v := (.slice (some ⟨go43, 0, none⟩) x7_2.length co47)) (v1 := (.slice (some ⟨go43, 0, none⟩) x7_2.length co47)) (ok := (fun k_ => some k_ ≠ (v237 : Value).ownBlock ∧ some k_ ≠ (.slice Ao13 t224.length co13 : Value).ownBlock ∧ some k_ ≠ (.slice Ao14 t227.length co14 : Value).ownBlock)) (by (with_reducible repeat (first | apply Kd.S_alloc | apply Kd.S_drewN | apply Kd.S_drew)); exact Kd.S_mono HO_233000.out (fun _ hk => ⟨⟨hk.2.1, ⟨hk.2.2.1, hk.2.2.2⟩⟩, hk.1⟩)) hg (.inl rfl)); have n5_ := Aside0.mk (Kd.R_after (v := (.slice (some ⟨go43, 0, none⟩) x7_2.length co47)) (v1 := (.slice (some ⟨go43, 0, none⟩) x7_2.length co47)) (ok := (fun k_ => some k_ ≠ (v237 : Value).ownBlock ∧ some k_ ≠ (.slice Ao14 t227.length co14 : Value).ownBlock)) (by (with_reducible repeat (first | apply Kd.R_alloc | apply Kd.R_drewN | apply Kd.R_drew)); exact Kd.R_mono HO_233001.out (fun _ hk => ⟨⟨hk.2.1, hk.2.2⟩, hk.1⟩)) hg (.inl rfl)); have n6_ := Aside0.mk (Kd.R_after (v := (.slice (some ⟨go43, 0, none⟩) x7_2.length co47)) (v1 := (.slice (some ⟨go43, 0, none⟩) x7_2.length co47)) (ok := (fun k_ => some k_ ≠ (v237 : Value).ownBlock ∧ some k_ ≠ (.slice Ao13 t224.length co13 : Value).ownBlock)) (by (with_reducible repeat (first | apply Kd.R_alloc | apply Kd.R_drewN | apply Kd.R_drew)); exact Kd.R_mono HO_233002.out (fun _ hk => ⟨⟨hk.2.1, hk.2.2⟩, hk.1⟩)) hg (.inl rfl)); have n7_ := Aside0.mk (blk_grown (g := gb232) (o := .cells #[.slice (some ad239) t221.length co11, .slice Ao13 t224.length co13, .slice Ao14 t227.length co14, .int .i64 t230] 29 (0, 0)) (by (with_reducible repeat (first | refine blk_drewN ?_ _ | refine blk_drew ?_ | refine blk_alloc ?_ _)); exact BK232.out) hg (Kd.R_ne HO_7.out BK232.out (by decide))); have n8_ := Aside0.mk (Kd.R_after (v := (.slice (some ⟨go43, 0, none⟩) x7_2.length co47)) (v1 := (.slice (some ⟨go43, 0, none⟩) x7_2.length co47)) (ok := (fun k_ => some k_ ≠ (v237 : Value).ownBlock ∧ some k_ ≠ (.slice (some ad239) t221.length co11 : Value).ownBlock ∧ some k_ ≠ (.slice Ao13 t224.length co13 : Value).ownBlock ∧ some k_ ≠ (.slice Ao14 t227.length co14 : Value).ownBlock)) (by (with_reducible repeat (first | apply Kd.R_alloc | apply Kd.R_drewN | apply Kd.R_drew)); exact Kd.R_mono HL239_0.out (fun _ hk => ⟨⟨hk.1.2.1, ⟨hk.2, ⟨hk.1.2.2.1, hk.1.2.2.2⟩⟩⟩, hk.1.1⟩)) hg (.inl rfl)); have n9_ := Aside0.mk ((by rw [hw]; exact below_set (HB.out) GB43.out : Below w.heap.size w w49)); clear HO_3; clear HO_4; clear HO_7; clear HO_8; clear HO_233000; clear HO_233001; clear HO_233002; clear BK232; clear HL239_0; clear HB; have HO_3 := n0_; have HO_4 := n1_; have HO_7 := n2_; have HO_8 := n3_; have HO_233000 := n4_; have HO_233001 := n5_; have HO_233002 := n6_; have BK232 := n7_; have HL239_0 := n8_; have HB := n9_; clear n0_ n1_ n2_ n3_ n4_ n5_ n6_ n7_ n8_ n9_; clear hg hw hp_; have p251 : 0 ≤ (1 : Int) := (by omega); have q251 : 1 < ((rd_L4 t221 x9_2).length : Int) := of_decide_eq_true (by first | (with_reducible assumption) | assumption); obtain ⟨ad251, e251, hx251_0⟩ := Kd.at_int ((Kd.R_reads' HL239_0.out).2.2) 1 p251 q251; obtain rfl : ad240 = ad251 := (by injection e251); (try simp only [show (1 : Int).toNat = 1 from rfl, Nat.reduceMul, Nat.reduceEqDiff, Go.Addr.add, ↓reduceIte] at hx251_0); have qi251 : (1 < (rd_L4 t221 x9_2).length) = True := eq_true (by omega); (try rw [show ((1 : Int)).toNat = 1 from rfl] at hx251_0); replace p251 := eq_true p251; replace q251 := eq_true q251; obtain ⟨Ao50, co50, eo50⟩ := Kd.R_slice HO_8.out; subst eo50; have p252 : 0 ≤ ((rd (rd_L4 t221 x9_2) 1) : Int) := of_decide_eq_true (by first | (with_reducible assumption) | assumption); have q252 : (rd (rd_L4 t221 x9_2) 1) < (x8_2.length : Int) := of_decide_eq_true (by first | (with_reducible assumption) | assumption); obtain ⟨ad252, e252, hx252_0⟩ := Kd.at_int (Kd.R_reads' HO_8.out).2.2 (rd (rd_L4 t221 x9_2) 1) p252 q252; cases e252; replace p252 := eq_true p252; replace q252 := eq_true q252; have p45 : 0 ≤ ((rd (rd_L4 t221 x9_2) 1) : Int) := of_decide_eq_true (by first | (with_reducible assumption) | assumption); have q45 : ((rd (rd_L4 t221 x9_2) 1) : Int) < ((x8_2.length : Int) : Int) := of_decide_eq_true (by first | (with_reducible assumption) | assumption); obtain ⟨go45, co45, eo45, gb45, gl45, cl45, HG45⟩ := Kd.R_form HO_8.out (by omega); (first | cases eo45 | (injection eo45 with ea_ en_ ec_; (first | subst ea_ | (injection ea_ with ea_; subst ea_)); subst ec_; clear en_)); have GB45 := Aside0.mk gb45; have GG45 := Aside0.mk HG45; clear gb45 gl45 HG45; (first | simp only [add_plain] at hx252_0 | skip); obtain ⟨hx45_0, hf45_0⟩ := Kd.R_celln 0 HO_8.out ((rd (rd_L4 t221 x9_2) 1) : Int) p45 q45; replace p45 := eq_true p45; replace q45 := eq_true q45; have n_ := Aside0.mk (Kd.R_mono (ok' := (fun k_ => some k_ ≠ (.slice (some ⟨go43, 0, none⟩) x7_2.length co47 : Value).ownBlock ∧ some k_ ≠ (.slice Ao13 t224.length co13 : Value).ownBlock ∧ some k_ ≠ (.slice Ao14 t227.length co14 : Value).ownBlock)) HO_8.out (fun k_ hk => ⟨hk.2, ⟨hk.1.1, hk.1.2⟩⟩)); clear HO_8; have HO_8 := n_; clear n_; obtain ⟨hy51_, hz51_⟩ := Kd.R_celln 0 HO_8.out ((rd (rd_L4 t221 x9_2) 1) : Int) (of_decide_eq_true (by first | (with_reducible assumption) | assumption)) (of_decide_eq_true (by first | (with_reducible assumption) | assumption)); have HP51 := Kd.R_putg HO_8.out ((rd (rd_L4 t221 x9_2) 1) : Int) (wrap64 ((rd x8_2 (rd (rd_L4 t221 x9_2) 1)) + 1))) | ((with_reducible refine gate_store (t := 3) (p := 136) rfl ?_); (try (rw [drewN_self w49]; generalize hq_ : World.drewN w49 _ = w49; have n0_ := Aside0.mk (Kd.R_at hq_ HO_3.out); have n1_ := Aside0.mk (Kd.R_at hq_ HO_4.out); have n2_ := Aside0.mk (Kd.R_at hq_ HO_7.out); have n3_ := Aside0.mk (Kd.R_at hq_ HO_8.out); have n4_ := Aside0.mk (Kd.S_at hq_ HO_233000.out); have n5_ := Aside0.mk (Kd.R_at hq_ HO_233001.out); have n6_ := Aside0.mk (Kd.R_at hq_ HO_233002.out); have n7_ := Aside0.mk (Kd.R_at hq_ HL239_0.out); have n8_ := Aside0.mk (blk_at hq_ BK232.out); have n9_ := Aside0.mk (below_at hq_ HB.out); clear hq_ HO_3 HO_4 HO_7 HO_8 HO_233000 HO_233001 HO_233002 HL239_0 BK232 HB; have HO_3 := n0_; have HO_4 := n1_; have HO_7 := n2_; have HO_8 := n3_; have HO_233000 := n4_; have HO_233001 := n5_; have HO_233002 := n6_; have HL239_0 := n7_; have BK232 := n8_; have HB := n9_; clear n0_ n1_ n2_ n3_ n4_ n5_ n6_ n7_ n8_ n9_; (try (have n_ := Aside0.mk (Kd.R_mono (ok' := (fun k_ => some k_ ≠ (.slice (some ⟨go43, 0, none⟩) x7_2.length co47 : Value).ownBlock ∧ some k_ ≠ (.slice Ao13 t224.length co13 : Value).ownBlock ∧ some k_ ≠ (.slice Ao14 t227.length co14 : Value).ownBlock)) HO_8.out (fun k_ hk => ⟨hk.2, ⟨hk.1.1, hk.1.2⟩⟩)); clear HO_8; have HO_8 := n_; clear n_)); (try (obtain ⟨hy51_, hz51_⟩ := Kd.R_celln 0 HO_8.out ((rd (rd_L4 t221 x9_2) 1) : Int) (of_decide_eq_true (by first | (with_reducible assumption) | assumption)) (of_decide_eq_true (by first | (with_reducible assumption) | assumption)))); (try (have HP51 := Kd.R_putg HO_8.out ((rd (rd_L4 t221 x9_2) 1) : Int) (wrap64 ((rd x8_2 (rd (rd_L4 t221 x9_2) 1)) + 1)))))); refine store_event (t := 3) (p := 136) (v := ?vo_w52) (w1 := (w49.setCell ⟨go45, ((rd (rd_L4 t221 x9_2) 1) : Int).toNat, none⟩ (.int .i64 (wrap64 ((rd x8_2 (rd (rd_L4 t221 x9_2) 1)) + 1))))) ?hg ?ho ?hn ?hr ?_; (case ho => rfl); (case hg => rfl); (case hn => rfl); (case hr => first | (go_simp; done) | (go_simp; rfl)); intro w52 hw; have hg : w49.grownBy w52 (some go45) := (by rw [hw]; exact HP51.2); have hp_ : Kd.R (Kd.int .i64) 3 w52 w.heap.size (fun k_ => some k_ ≠ (.slice (some ⟨go43, 0, none⟩) x7_2.length co47 : Value).ownBlock ∧ some k_ ≠ (.slice Ao13 t224.length co13 : Value).ownBlock ∧ some k_ ≠ (.slice Ao14 t227.length co14 : Value).ownBlock) (.slice (some ⟨go45, 0, none⟩) x8_2.length co50) y253 := (by rw [hw, Ny253.out]; exact HP51.1); clear HP51; have n0_ := Aside0.mk (Kd.R_over' (v := (.slice (some ⟨go45, 0, none⟩) x8_2.length co50)) (by (with_reducible repeat (first | apply Kd.R_alloc | apply Kd.R_drewN | apply Kd.R_drew)); exact HO_3.out) (Kd.R_typed HO_8.out) (by decide) hg); have n1_ := Aside0.mk (Kd.R_over' (v := (.slice (some ⟨go45, 0, none⟩) x8_2.length co50)) (by (with_reducible repeat (first | apply Kd.R_alloc | apply Kd.R_drewN | apply Kd.R_drew)); exact HO_4.out) (Kd.R_typed HO_8.out) (by decide) hg); have n2_ := Aside0.mk (Kd.R_after (v := (.slice (some ⟨go45, 0, none⟩) x8_2.length co50)) (v1 := (.slice (some ⟨go45, 0, none⟩) x8_2.length co50)) (ok := (fun k_ => some k_ ≠ (.slice Ao13 t224.length co13 : Value).ownBlock ∧ some k_ ≠ (.slice Ao14 t227.length co14 : Value).ownBlock)) (by (with_reducible repeat (first | apply Kd.R_alloc | apply Kd.R_drewN | apply Kd.R_drew)); exact Kd.R_mono HO_7.out (fun _ hk => ⟨⟨hk.2.1, hk.2.2⟩, hk.1⟩)) hg (.inl rfl)); have n3_ := Aside0.mk (hp_); have n4_ := Aside0.mk (Kd.S_after (v := (.slice (some ⟨go45, 0, none⟩) x8_2.length co50)) (v1 := (.slice (some ⟨go45, 0, none⟩) x8_2.length co50)) (ok := (fun k_ => some k_ ≠ (.slice (some ⟨go43, 0, none⟩) x7_2.length co47 : Value).ownBlock ∧ some k_ ≠ (.slice Ao13 t224.length co13 : Value).ownBlock ∧ some k_ ≠ (.slice Ao14 t227.length co14 : Value).ownBlock)) (by (with_reducible repeat (first | apply Kd.S_alloc | apply Kd.S_drewN | apply Kd.S_drew)); exact Kd.S_mono HO_233000.out (fun _ hk => ⟨⟨hk.2, ⟨hk.1.2.1, hk.1.2.2⟩⟩, hk.1.1⟩)) hg (.inl rfl)); have n5_ := Aside0.mk (Kd.R_after (v := (.slice (some ⟨go45, 0, none⟩) x8_2.length co50)) (v1 := (.slice (some ⟨go45, 0, none⟩) x8_2.length co50)) (ok := (fun k_ => some k_ ≠ (.slice (some ⟨go43, 0, none⟩) x7_2.length co47 : Value).ownBlock ∧ some k_ ≠ (.slice Ao14 t227.length co14 : Value).ownBlock)) (by (with_reducible repeat (first | apply Kd.R_alloc | apply Kd.R_drewN | apply Kd.R_drew)); exact Kd.R_mono HO_233001.out (fun _ hk => ⟨⟨hk.2, hk.1.2⟩, hk.1.1⟩)) hg (.inl rfl)); have n6_ := Aside0.mk (Kd.R_after (v := (.slice (some ⟨go45, 0, none⟩) x8_2.length co50)) (v1 := (.slice (some ⟨go45, 0, none⟩) x8_2.length co50)) (ok := (fun k_ => some k_ ≠ (.slice (some ⟨go43, 0, none⟩) x7_2.length co47 : Value).ownBlock ∧ some k_ ≠ (.slice Ao13 t224.length co13 : Value).ownBlock)) (by (with_reducible repeat (first | apply Kd.R_alloc | apply Kd.R_drewN | apply Kd.R_drew)); exact Kd.R_mono HO_233002.out (fun _ hk => ⟨⟨hk.2, hk.1.2⟩, hk.1.1⟩)) hg (.inl rfl)); have n7_ := Aside0.mk (blk_grown (g := gb232) (o := .cells #[.slice (some ad239) t221.length co11, .slice Ao13 t224.length co13, .slice Ao14 t227.length co14, .int .i64 t230] 29 (0, 0)) (by (with_reducible repeat (first | refine blk_drewN ?_ _ | refine blk_drew ?_ | refine blk_alloc ?_ _)); exact BK232.out) hg (Kd.R_ne HO_8.out BK232.out (by decide))); have n8_ := Aside0.mk (Kd.R_after (v := (.slice (some ⟨go45, 0, none⟩) x8_2.length co50)) (v1 := (.slice (some ⟨go45, 0, none⟩) x8_2.length co50)) (ok := (fun k_ => some k_ ≠ (.slice (some ⟨go43, 0, none⟩) x7_2.length co47 : Value).ownBlock ∧ some k_ ≠ (.slice (some ad239) t221.length co11 : Value).ownBlock ∧ some k_ ≠ (.slice Ao13 t224.length co13 : Value).ownBlock ∧ some k_ ≠ (.slice Ao14 t227.length co14 : Value).ownBlock)) (by (with_reducible repeat (first | apply Kd.R_alloc | apply Kd.R_drewN | apply Kd.R_drew)); exact Kd.R_mono HL239_0.out (fun _ hk => ⟨⟨hk.2, ⟨hk.1.2.1, ⟨hk.1.2.2.1, hk.1.2.2.2⟩⟩⟩, hk.1.1⟩)) hg (.inl rfl)); have n9_ := Aside0.mk ((by rw [hw]; exact below_set (HB.out) GB45.out : Below w.heap.size w w52)); clear HO_3; clear HO_4; clear HO_7; clear HO_8; clear HO_233000; clear HO_233001; clear HO_233002; clear BK232; clear HL239_0; clear HB; have HO_3 := n0_; have HO_4 := n1_; have HO_7 := n2_; have HO_8 := n3_; have HO_233000 := n4_; have HO_233001 := n5_; have HO_233002 := n6_; have BK232 := n7_; have HL239_0 := n8_; have HB := n9_; clear n0_ n1_ n2_ n3_ n4_ n5_ n6_ n7_ n8_ n9_; clear hg hw hp_)))
                            go_roundg k2
                            case measure => have := HJ4.out; have := HK2.out; omega
                            case rel => exact ⟨(y250), (y253), (wrap64 (x9_2 + 1)), (by first | rfl | (simp; done) | (simp [*]; done)), H', ⟨by have := HJ4.out; have := HK2.out; omega⟩, ⟨by (with_reducible repeat (first | apply Kd.R_alloc | apply Kd.R_drewN | apply Kd.R_drew)); exact HO_3.out⟩, ⟨by (with_reducible repeat (first | apply Kd.R_alloc | apply Kd.R_drewN | apply Kd.R_drew)); exact HO_4.out⟩, ⟨by (with_reducible repeat (first | apply Kd.R_alloc | apply Kd.R_drewN | apply Kd.R_drew)); exact Kd.R_mono HO_7.out (fun _ hk => ⟨hk.2, ⟨hk.1.1, hk.1.2⟩⟩)⟩, ⟨by (with_reducible repeat (first | apply Kd.R_alloc | apply Kd.R_drewN | apply Kd.R_drew)); exact HO_8.out⟩, ⟨by (with_reducible repeat (first | apply Kd.S_alloc | apply Kd.S_drewN | apply Kd.S_drew)); exact Kd.S_mono HO_233000.out (fun _ hk => ⟨hk.1.1, ⟨hk.2, ⟨hk.1.2.1, hk.1.2.2⟩⟩⟩)⟩, ⟨by (with_reducible repeat (first | apply Kd.R_alloc | apply Kd.R_drewN | apply Kd.R_drew)); exact Kd.R_mono HO_233001.out (fun _ hk => ⟨hk.1.1, ⟨hk.2, hk.1.2⟩⟩)⟩, ⟨by (with_reducible repeat (first | apply Kd.R_alloc | apply Kd.R_drewN | apply Kd.R_drew)); exact Kd.R_mono HO_233002.out (fun _ hk => ⟨hk.1.1, ⟨hk.2, hk.1.2⟩⟩)⟩, ⟨by (with_reducible repeat (first | refine blk_drewN ?_ _ | refine blk_drew ?_ | refine blk_alloc ?_ _)); exact BK232.out⟩, ⟨by repeat (first | (with_reducible first | exact HB.out | apply below_alloc | apply pw_below_drewN | apply below_drew1 | refine below_set ?_ GE232.out) | exact HB.out)⟩⟩
                          ·rw [if_neg c44] at H
                           exact absurd H (by simp)
                         ·rw [if_neg c42] at H
                          exact absurd H (by simp)
                       ·rw [if_neg c40] at H
                        exact absurd H (by simp)
                      ·rw [if_neg c39] at H
                       exact absurd H (by simp)
                     ·rw [if_neg c38] at H
                      exact absurd H (by simp)
                    ·rw [if_neg c37] at H
                     exact absurd H (by simp)
                 ·rw [if_neg c34] at H
                  exact absurd H (by simp)
              ·rw [if_neg c31] at H
               exact absurd H (by simp)
             ·rw [if_neg c30] at H
              have c30b0 : (((rd_L4 t221 x9_2).length : Int) == 2) = false := beq_eq_false_iff_ne.mpr c30
              have c30b1 : (((rd_L4 t221 x9_2).length : Int) != 2) = true := bne_iff_ne.mpr c30
              as_aux_lemma =>
               obtain rfl := Option.some.inj H
               exact absurd hT_.out (by decide)
            ·rw [if_neg c29] at H
             exact absurd H (by simp)
           ·rw [if_neg c28] at H
            have c28b0 : decide (x9_2 < (t221.length : Int)) = false := decide_eq_false c28
            clear c28
            have H' := Aside0.mk H
            clear H
            have hcz53_0 : wr.cell? ⟨gb232, 0, none⟩ = some (.slice Ao11 t221.length co11) := (blk_cell BK232.out 0).trans rfl
            have hcz53_1 : wr.cell? ⟨gb232, 1, none⟩ = some (.slice Ao13 t224.length co13) := (blk_cell BK232.out 1).trans rfl
            have hcz53_2 : wr.cell? ⟨gb232, 2, none⟩ = some (.slice Ao14 t227.length co14) := (blk_cell BK232.out 2).trans rfl
            have hcz53_3 : wr.cell? ⟨gb232, 3, none⟩ = some (.int .i64 t230) := (blk_cell BK232.out 3).trans rfl
            have hfz53_0 := blk_frozen BK232.out 0
            have hfz53_1 := blk_frozen BK232.out 1
            have hfz53_2 := blk_frozen BK232.out 2
            have hfz53_3 := blk_frozen BK232.out 3
            go_wp2
            repeat (go_quiet (fail); try go_wp2)
            go_loopg [11, 12] k2 (fun kq v11 v12 w' => ∃ (x7_3 : List Int) (x11_3 : Int) (x12_3 : Int), v11 = .int .i64 x11_3 ∧ v12 = .int .i64 x12_3 ∧ Aside0 (laws_FnSettle.l1 kq t215 t216 x7_3 x8_2 x11_3 x12_3 t221 t224 t227 t230 = some r) ∧ Aside0 (kq ≤ k2) ∧ Aside0 (Kd.R k33 33 w' w.heap.size (fun k_ => some k_ ≠ ((.slice Ao8 t216.length co8) : Value).ownBlock) (.slice Ao7 t215.length co7) t215) ∧ Aside0 (Kd.R k33 33 w' w.heap.size (fun k_ => some k_ ≠ ((.slice Ao7 t215.length co7) : Value).ownBlock) (.slice Ao8 t216.length co8) t216) ∧ Aside0 (Kd.R (Kd.int .i64) 3 w' w.heap.size (fun k_ => some k_ ≠ (v237 : Value).ownBlock ∧ some k_ ≠ ((.slice Ao13 t224.length co13) : Value).ownBlock ∧ some k_ ≠ ((.slice Ao14 t227.length co14) : Value).ownBlock) v234 x7_3) ∧ Aside0 (Kd.R (Kd.int .i64) 3 w' w.heap.size (fun k_ => some k_ ≠ (v234 : Value).ownBlock ∧ some k_ ≠ ((.slice Ao13 t224.length co13) : Value).ownBlock ∧ some k_ ≠ ((.slice Ao14 t227.length co14) : Value).ownBlock) v237 x8_2) ∧ Aside0 (Kd.S (Kd.slice 3 (Kd.int .i64)) 27 w' w.heap.size (fun k_ => some k_ ≠ (v234 : Value).ownBlock ∧ some k_ ≠ (v237 : Value).ownBlock ∧ some k_ ≠ ((.slice Ao13 t224.length co13) : Value).ownBlock ∧ some k_ ≠ ((.slice Ao14 t227.length co14) : Value).ownBlock) (.slice Ao11 t221.length co11) t221) ∧ Aside0 (Kd.R (Kd.int .i64) 3 w' w.heap.size (fun k_ => some k_ ≠ (v234 : Value).ownBlock ∧ some k_ ≠ (v237 : Value).ownBlock ∧ some k_ ≠ ((.slice Ao14 t227.length co14) : Value).ownBlock) (.slice Ao13 t224.length co13) t224) ∧ Aside0 (Kd.R (Kd.int .i64) 3 w' w.heap.size (fun k_ => some k_ ≠ (v234 : Value).ownBlock ∧ some k_ ≠ (v237 : Value).ownBlock ∧ some k_ ≠ ((.slice Ao13 t224.length co13) : Value).ownBlock) (.slice Ao14 t227.length co14) t227) ∧ Aside0 (w'.heap[gb232]? = some (.cells #[(.slice Ao11 t221.length co11), (.slice Ao13 t224.length co13), (.slice Ao14 t227.length co14), .int .i64 t230] 29 (0, 0))) ∧ Aside0 (Below w.heap.size w w'))
            case atStart => exact ⟨(x7_2), (0), (0), (by first | rfl | (simp; done) | (simp [*]; done)), (by first | rfl | (simp; done) | (simp [*]; done)), H', ⟨Nat.le_refl _⟩, ⟨by (with_reducible repeat (first | apply Kd.R_alloc | apply Kd.R_drewN | apply Kd.R_drew)); exact HO_3.out⟩, ⟨by (with_reducible repeat (first | apply Kd.R_alloc | apply Kd.R_drewN | apply Kd.R_drew)); exact HO_4.out⟩, ⟨by (with_reducible repeat (first | apply Kd.R_alloc | apply Kd.R_drewN | apply Kd.R_drew)); exact HO_7.out⟩, ⟨by (with_reducible repeat (first | apply Kd.R_alloc | apply Kd.R_drewN | apply Kd.R_drew)); exact HO_8.out⟩, ⟨by (with_reducible repeat (first | apply Kd.S_alloc | apply Kd.S_drewN | apply Kd.S_drew)); exact HO_233000.out⟩, ⟨by (with_reducible repeat (first | apply Kd.R_alloc | apply Kd.R_drewN | apply Kd.R_drew)); exact HO_233001.out⟩, ⟨by (with_reducible repeat (first | apply Kd.R_alloc | apply Kd.R_drewN | apply Kd.R_drew)); exact HO_233002.out⟩, ⟨by (with_reducible repeat (first | refine blk_drewN ?_ _ | refine blk_drew ?_ | refine blk_alloc ?_ _)); exact BK232.out⟩, ⟨by repeat (first | (with_reducible first | exact HB.out | apply below_alloc | apply pw_below_drewN | apply below_drew1 | refine below_set ?_ GE232.out) | exact HB.out)⟩⟩
            case round =>
             clear H'
             (try clear q2); (try clear hx2); (try clear qi2); (try clear c4); (try clear p4); (try clear q4); (try clear hx4); (try clear hf4); (try clear p23); (try clear q23); (try clear hx23); (try clear p24); (try clear q24); (try clear hx24); (try clear qi24); (try clear p25); (try clear q25); (try clear hx25); (try clear qi25); (try clear c28); (try clear c28b0); (try clear c29); (try clear c29b0); (try clear c30); (try clear c30b0); (try clear c30b1); (try clear c31); (try clear c31b0); (try clear c31b1); (try clear c32); (try clear c32b0); (try clear c33); (try clear c33b0); (try clear c34); (try clear c34b0); (try clear c34b1); (try clear c35); (try clear c35b0); (try clear c36); (try clear c36b0); (try clear c37); (try clear c37b0); (try clear c38); (try clear c38b0); (try clear c39); (try clear c39b0); (try clear c40); (try clear c40b0); (try clear c41); (try clear c41b0); (try clear c42); (try clear c42b0); (try clear p43); (try clear q43); (try clear hx43); (try clear hf43); (try clear c44); (try clear c44b0); (try clear p45); (try clear q45); (try clear hx45); (try clear hf45); (try clear hcz46_0); (try clear hcz46_1); (try clear hcz46_2); (try clear hcz46_3); (try clear hcz53_0); (try clear hcz53_1); (try clear hcz53_2); (try clear hcz53_3); (try clear hfz46_0); (try clear hfz46_1); (try clear hfz46_2); (try clear hfz46_3); (try clear hfz53_0); (try clear hfz53_1); (try clear hfz53_2); (try clear hfz53_3); (try clear hx239_0); (try clear hx240_0); (try clear hx241_0); (try clear hx242_0); (try clear hx243_0); (try clear hx244_0); (try clear hx245_0); (try clear hx245_1); (try clear hx246_0); (try clear hx247_0); (try clear hx247_1); (try clear hx248_0); (try clear hx249_0); (try clear hx251_0); (try clear hx252_0); (try clear hx43_0); (try clear hx45_0); (try clear p239); (try clear p240); (try clear p241); (try clear p242); (try clear p243); (try clear p244); (try clear p245); (try clear p246); (try clear p247); (try clear p248); (try clear p249); (try clear p251); (try clear p252); (try clear q239); (try clear q240); (try clear q241); (try clear q242); (try clear q243); (try clear q244); (try clear q245); (try clear q246); (try clear q247); (try clear q248); (try clear q249); (try clear q251); (try clear q252)
             obtain ⟨x7_3, x11_3, x12_3, rfl, rfl, HA, HK3, HO_3, HO_4, HO_7, HO_8, HO_233000, HO_233001, HO_233002, BK232, HB⟩ := hrel
             cases gk with
             | zero => exact absurd HA.out (by simp [laws_FnSettle.l1])
             | succ k3 =>
              have H := HA.out
              clear HA
              simp only [laws_FnSettle.l1] at H
              by_cases c54 : x12_3 < (t224.length : Int)
              ·rw [if_pos c54] at H
               have c54b0 : decide (x12_3 < (t224.length : Int)) = true := decide_eq_true c54
               clear c54
               have HC55 := Aside0.mk H
               clear H
               have hcz56_0 : wr.cell? ⟨gb232, 0, none⟩ = some (.slice Ao11 t221.length co11) := (blk_cell BK232.out 0).trans rfl
               have hcz56_1 : wr.cell? ⟨gb232, 1, none⟩ = some (.slice Ao13 t224.length co13) := (blk_cell BK232.out 1).trans rfl
               have hcz56_2 : wr.cell? ⟨gb232, 2, none⟩ = some (.slice Ao14 t227.length co14) := (blk_cell BK232.out 2).trans rfl
               have hcz56_3 : wr.cell? ⟨gb232, 3, none⟩ = some (.int .i64 t230) := (blk_cell BK232.out 3).trans rfl
               have hfz56_0 := blk_frozen BK232.out 0
               have hfz56_1 := blk_frozen BK232.out 1
               have hfz56_2 := blk_frozen BK232.out 2
               have hfz56_3 := blk_frozen BK232.out 3
               go_upto_region 21 with (fail)
               repeat (go_quiet (fail); go_upto_region 21 with (fail))
               go_cut [159] (fun v159 wc => ∃ (kq : Nat) (x159_54 : Bool), v159 = .bool x159_54 ∧ Aside0 (laws_FnSettle.j3 kq t215 t216 x7_3 x8_2 x11_3 x12_3 x159_54 t221 t224 t227 t230 = some r) ∧ Aside0 (kq ≤ k3) ∧ Aside0 (Kd.R k33 33 wc w.heap.size (fun k_ => some k_ ≠ ((.slice Ao8 t216.length co8) : Value).ownBlock) (.slice Ao7 t215.length co7) t215) ∧ Aside0 (Kd.R k33 33 wc w.heap.size (fun k_ => some k_ ≠ ((.slice Ao7 t215.length co7) : Value).ownBlock) (.slice Ao8 t216.length co8) t216) ∧ Aside0 (Kd.R (Kd.int .i64) 3 wc w.heap.size (fun k_ => some k_ ≠ (v237 : Value).ownBlock ∧ some k_ ≠ ((.slice Ao13 t224.length co13) : Value).ownBlock ∧ some k_ ≠ ((.slice Ao14 t227.length co14) : Value).ownBlock) v234 x7_3) ∧ Aside0 (Kd.R (Kd.int .i64) 3 wc w.heap.size (fun k_ => some k_ ≠ (v234 : Value).ownBlock ∧ some k_ ≠ ((.slice Ao13 t224.length co13) : Value).ownBlock ∧ some k_ ≠ ((.slice Ao14 t227.length co14) : Value).ownBlock) v237 x8_2) ∧ Aside0 (Kd.S (Kd.slice 3 (Kd.int .i64)) 27 wc w.heap.size (fun k_ => some k_ ≠ (v234 : Value).ownBlock ∧ some k_ ≠ (v237 : Value).ownBlock ∧ some k_ ≠ ((.slice Ao13 t224.length co13) : Value).ownBlock ∧ some k_ ≠ ((.slice Ao14 t227.length co14) : Value).ownBlock) (.slice Ao11 t221.length co11) t221) ∧ Aside0 (Kd.R (Kd.int .i64) 3 wc w.heap.size (fun k_ => some k_ ≠ (v234 : Value).ownBlock ∧ some k_ ≠ (v237 : Value).ownBlock ∧ some k_ ≠ ((.slice Ao14 t227.length co14) : Value).ownBlock) (.slice Ao13 t224.length co13) t224) ∧ Aside0 (Kd.R (Kd.int .i64) 3 wc w.heap.size (fun k_ => some k_ ≠ (v234 : Value).ownBlock ∧ some k_ ≠ (v237 : Value).ownBlock ∧ some k_ ≠ ((.slice Ao13 t224.length co13) : Value).ownBlock) (.slice Ao14 t227.length co14) t227) ∧ Aside0 (wc.heap[gb232]? = some (.cells #[(.slice Ao11 t221.length co11), (.slice Ao13 t224.length co13), (.slice Ao14 t227.length co14), .int .i64 t230] 29 (0, 0))) ∧ Aside0 (Below w.heap.size w wc))
               case first =>
                have H := HC55.out
                clear HC55
                by_cases c57 : 0 ≤ x12_3
                ·rw [if_pos c57] at H
                 have c57b0 : decide (0 ≤ x12_3) = true := decide_eq_true c57
                 clear c57
                 (first | rw [c57b0] | (simp only [i64_w, i32_w]; rw [c57b0]) | skip)
                 by_cases c58 : (rd t224 x12_3) < 0
                 ·rw [if_pos c58] at H
                  have c58b0 : decide ((rd t224 x12_3) < 0) = true := decide_eq_true c58
                  clear c58
                  as_aux_lemma =>
                   have H' := Aside0.mk H
                   clear H
                   have hcz59_0 : wr.cell? ⟨gb232, 0, none⟩ = some (.slice Ao11 t221.length co11) := (blk_cell BK232.out 0).trans rfl
                   have hcz59_1 : wr.cell? ⟨gb232, 1, none⟩ = some (.slice Ao13 t224.length co13) := (blk_cell BK232.out 1).trans rfl
                   have hcz59_2 : wr.cell? ⟨gb232, 2, none⟩ = some (.slice Ao14 t227.length co14) := (blk_cell BK232.out 2).trans rfl
                   have hcz59_3 : wr.cell? ⟨gb232, 3, none⟩ = some (.int .i64 t230) := (blk_cell BK232.out 3).trans rfl
                   have hfz59_0 := blk_frozen BK232.out 0
                   have hfz59_1 := blk_frozen BK232.out 1
                   have hfz59_2 := blk_frozen BK232.out 2
                   have hfz59_3 := blk_frozen BK232.out 3
                   have p254 : 0 ≤ (x12_3 : Int) := of_decide_eq_true (by first | (with_reducible assumption) | assumption)
                   have q254 : x12_3 < (t224.length : Int) := of_decide_eq_true (by first | (with_reducible assumption) | assumption)
                   obtain ⟨ad254, e254, hx254_0⟩ := Kd.at_int (Kd.R_reads' HO_233001.out).2.2 x12_3 p254 q254
                   cases e254
                   replace p254 := eq_true p254
                   replace q254 := eq_true q254
                   go_wp2
                   repeat (go_quiet (fail); try go_wp2)
                   go_meet
                   case rel => exact ⟨_, (true), (by first | rfl | (simp; done) | (simp [*]; done)), H', ⟨by have := HJ4.out; have := HK2.out; have := HK3.out; first | omega | exact Nat.le_refl _⟩, ⟨by (with_reducible repeat (first | apply Kd.R_alloc | apply Kd.R_drewN | apply Kd.R_drew)); exact HO_3.out⟩, ⟨by (with_reducible repeat (first | apply Kd.R_alloc | apply Kd.R_drewN | apply Kd.R_drew)); exact HO_4.out⟩, ⟨by (with_reducible repeat (first | apply Kd.R_alloc | apply Kd.R_drewN | apply Kd.R_drew)); exact HO_7.out⟩, ⟨by (with_reducible repeat (first | apply Kd.R_alloc | apply Kd.R_drewN | apply Kd.R_drew)); exact HO_8.out⟩, ⟨by (with_reducible repeat (first | apply Kd.S_alloc | apply Kd.S_drewN | apply Kd.S_drew)); exact HO_233000.out⟩, ⟨by (with_reducible repeat (first | apply Kd.R_alloc | apply Kd.R_drewN | apply Kd.R_drew)); exact HO_233001.out⟩, ⟨by (with_reducible repeat (first | apply Kd.R_alloc | apply Kd.R_drewN | apply Kd.R_drew)); exact HO_233002.out⟩, ⟨by (with_reducible repeat (first | refine blk_drewN ?_ _ | refine blk_drew ?_ | refine blk_alloc ?_ _)); exact BK232.out⟩, ⟨by repeat (first | (with_reducible first | exact HB.out | apply below_alloc | apply pw_below_drewN | apply below_drew1 | refine below_set ?_ GE232.out) | exact HB.out)⟩⟩
                 ·rw [if_neg c58] at H
                  have c58b0 : decide ((rd t224 x12_3) < 0) = false := decide_eq_false c58
                  clear c58
                  as_aux_lemma =>
                   have H' := Aside0.mk H
                   clear H
                   have hcz60_0 : wr.cell? ⟨gb232, 0, none⟩ = some (.slice Ao11 t221.length co11) := (blk_cell BK232.out 0).trans rfl
                   have hcz60_1 : wr.cell? ⟨gb232, 1, none⟩ = some (.slice Ao13 t224.length co13) := (blk_cell BK232.out 1).trans rfl
                   have hcz60_2 : wr.cell? ⟨gb232, 2, none⟩ = some (.slice Ao14 t227.length co14) := (blk_cell BK232.out 2).trans rfl
                   have hcz60_3 : wr.cell? ⟨gb232, 3, none⟩ = some (.int .i64 t230) := (blk_cell BK232.out 3).trans rfl
                   have hfz60_0 := blk_frozen BK232.out 0
                   have hfz60_1 := blk_frozen BK232.out 1
                   have hfz60_2 := blk_frozen BK232.out 2
                   have hfz60_3 := blk_frozen BK232.out 3
                   have p254 : 0 ≤ (x12_3 : Int) := of_decide_eq_true (by first | (with_reducible assumption) | assumption)
                   have q254 : x12_3 < (t224.length : Int) := of_decide_eq_true (by first | (with_reducible assumption) | assumption)
                   obtain ⟨ad254, e254, hx254_0⟩ := Kd.at_int (Kd.R_reads' HO_233001.out).2.2 x12_3 p254 q254
                   cases e254
                   replace p254 := eq_true p254
                   replace q254 := eq_true q254
                   have p255 : 0 ≤ (x12_3 : Int) := of_decide_eq_true (by first | (with_reducible assumption) | assumption)
                   have q255 : x12_3 < (t224.length : Int) := of_decide_eq_true (by first | (with_reducible assumption) | assumption)
                   obtain ⟨ad255, e255, hx255_0⟩ := Kd.at_int (Kd.R_reads' HO_233001.out).2.2 x12_3 p255 q255
                   obtain rfl : ad254 = ad255 := (by injection e255)
                   replace p255 := eq_true p255
                   replace q255 := eq_true q255
                   go_wp2
                   repeat (go_quiet (fail); try go_wp2)
                   go_meet
                   case rel => exact ⟨_, (decide ((rd t224 x12_3) ≥ (t215.length : Int))), (by first | rfl | (simp; done) | (simp [*]; done)), H', ⟨by have := HJ4.out; have := HK2.out; have := HK3.out; first | omega | exact Nat.le_refl _⟩, ⟨by (with_reducible repeat (first | apply Kd.R_alloc | apply Kd.R_drewN | apply Kd.R_drew)); exact HO_3.out⟩, ⟨by (with_reducible repeat (first | apply Kd.R_alloc | apply Kd.R_drewN | apply Kd.R_drew)); exact HO_4.out⟩, ⟨by (with_reducible repeat (first | apply Kd.R_alloc | apply Kd.R_drewN | apply Kd.R_drew)); exact HO_7.out⟩, ⟨by (with_reducible repeat (first | apply Kd.R_alloc | apply Kd.R_drewN | apply Kd.R_drew)); exact HO_8.out⟩, ⟨by (with_reducible repeat (first | apply Kd.S_alloc | apply Kd.S_drewN | apply Kd.S_drew)); exact HO_233000.out⟩, ⟨by (with_reducible repeat (first | apply Kd.R_alloc | apply Kd.R_drewN | apply Kd.R_drew)); exact HO_233001.out⟩, ⟨by (with_reducible repeat (first | apply Kd.R_alloc | apply Kd.R_drewN | apply Kd.R_drew)); exact HO_233002.out⟩, ⟨by (with_reducible repeat (first | refine blk_drewN ?_ _ | refine blk_drew ?_ | refine blk_alloc ?_ _)); exact BK232.out⟩, ⟨by repeat (first | (with_reducible first | exact HB.out | apply below_alloc | apply pw_below_drewN | apply below_drew1 | refine below_set ?_ GE232.out) | exact HB.out)⟩⟩
                ·rw [if_neg c57] at H
                 exact absurd H (by simp)
               case rest =>
                clear HC55
                (try clear c5); (try clear c54); (try clear c54b0); (try clear c57); (try clear c57b0); (try clear c58); (try clear c58b0); (try clear hcz56_0); (try clear hcz56_1); (try clear hcz56_2); (try clear hcz56_3); (try clear hcz59_0); (try clear hcz59_1); (try clear hcz59_2); (try clear hcz59_3); (try clear hcz60_0); (try clear hcz60_1); (try clear hcz60_2); (try clear hcz60_3); (try clear hfz56_0); (try clear hfz56_1); (try clear hfz56_2); (try clear hfz56_3); (try clear hfz59_0); (try clear hfz59_1); (try clear hfz59_2); (try clear hfz59_3); (try clear hfz60_0); (try clear hfz60_1); (try clear hfz60_2); (try clear hfz60_3); (try clear hx254_0); (try clear hx255_0); (try clear p254); (try clear p255); (try clear q254); (try clear q255)
                obtain ⟨kq, x159_54, rfl, HA, HJ54, HO_3, HO_4, HO_7, HO_8, HO_233000, HO_233001, HO_233002, BK232, HB⟩ := hcut
                cases kq with
                | zero => exact absurd HA.out (by simp [laws_FnSettle.j3])
                | succ kj54 =>
                 have H := HA.out
                 clear HA
                 simp only [laws_FnSettle.j3] at H
                 by_cases c61 : x159_54 = true
                 ·subst c61
                  have H1 : (some false) = some r := by rw [if_pos rfl] at H; exact H
                  clear H
                  have H := H1
                  clear H1
                  as_aux_lemma =>
                   obtain rfl := Option.some.inj H
                   exact absurd hT_.out (by decide)
                 ·replace c61 := Bool.eq_false_iff.mpr c61
                  subst c61
                  have H1 : (if 0 ≤ x12_3 then (if x12_3 < (t224.length : Int) then (if 0 ≤ (rd t224 x12_3) then (if (rd t224 x12_3) < (x7_3.length : Int) then (if (rd t224 x12_3) < (t215.length : Int) then (laws_FnSettle.l2 kj54 t215 t216 (x7_3.set ((rd t224 x12_3) : Int).toNat (wrap64 ((rd x7_3 (rd t224 x12_3)) + 1))) x8_2 (wrap64 (x11_3 + ((rd_T33 t215 (rd t224 x12_3)).f1))) x12_3 0 t221 t224 t227 t230) else (none)) else (none)) else (none)) else (none)) else (none)) = some r := by rw [if_neg (show ¬ (false = true) by decide)] at H; exact H
                  clear H
                  have H := H1
                  clear H1
                  by_cases c62 : 0 ≤ x12_3
                  ·rw [if_pos c62] at H
                   have c62b0 : decide (0 ≤ x12_3) = true := decide_eq_true c62
                   clear c62
                   by_cases c63 : x12_3 < (t224.length : Int)
                   ·rw [if_pos c63] at H
                    have c63b0 : decide (x12_3 < (t224.length : Int)) = true := decide_eq_true c63
                    clear c63
                    by_cases c64 : 0 ≤ (rd t224 x12_3)
                    ·rw [if_pos c64] at H
                     have c64b0 : decide (0 ≤ (rd t224 x12_3)) = true := decide_eq_true c64
                     clear c64
                     by_cases c65 : (rd t224 x12_3) < (x7_3.length : Int)
                     ·rw [if_pos c65] at H
                      have c65b0 : decide ((rd t224 x12_3) < (x7_3.length : Int)) = true := decide_eq_true c65
                      clear c65
                      obtain ⟨y258, hy258⟩ : ∃ y_ : List Int, y_ = (x7_3.set ((rd t224 x12_3) : Int).toNat (wrap64 ((rd x7_3 (rd t224 x12_3)) + 1))) := ⟨_, rfl⟩
                      replace H : (if (rd t224 x12_3) < (t215.length : Int) then (laws_FnSettle.l2 kj54 t215 t216 y258 x8_2 (wrap64 (x11_3 + ((rd_T33 t215 (rd t224 x12_3)).f1))) x12_3 0 t221 t224 t227 t230) else (none)) = some r := by first | (rw [hy258]; with_reducible exact H) | (have H2_ := (Option.bind_some _ _).symm.trans H; rw [hy258]; with_reducible exact H2_) | (have H2_ := (Option.bind_some _ _).symm.trans H; with_reducible exact H2_) | with_reducible exact H | (rw [hy258]; exact H) | exact H
                      have Ny258 := Aside0.mk hy258
                      clear hy258
                      by_cases c67 : (rd t224 x12_3) < (t215.length : Int)
                      ·rw [if_pos c67] at H
                       have c67b0 : decide ((rd t224 x12_3) < (t215.length : Int)) = true := decide_eq_true c67
                       clear c67
                       have H' := Aside0.mk H
                       clear H
                       have hcz68_0 : wc.cell? ⟨gb232, 0, none⟩ = some (.slice Ao11 t221.length co11) := (blk_cell BK232.out 0).trans rfl
                       have hcz68_1 : wc.cell? ⟨gb232, 1, none⟩ = some (.slice Ao13 t224.length co13) := (blk_cell BK232.out 1).trans rfl
                       have hcz68_2 : wc.cell? ⟨gb232, 2, none⟩ = some (.slice Ao14 t227.length co14) := (blk_cell BK232.out 2).trans rfl
                       have hcz68_3 : wc.cell? ⟨gb232, 3, none⟩ = some (.int .i64 t230) := (blk_cell BK232.out 3).trans rfl
                       have hfz68_0 := blk_frozen BK232.out 0
                       have hfz68_1 := blk_frozen BK232.out 1
                       have hfz68_2 := blk_frozen BK232.out 2
                       have hfz68_3 := blk_frozen BK232.out 3
                       have p256 : 0 ≤ (x12_3 : Int) := of_decide_eq_true (by first | (with_reducible assumption) | assumption)
                       have q256 : x12_3 < (t224.length : Int) := of_decide_eq_true (by first | (with_reducible assumption) | assumption)
                       obtain ⟨ad256, e256, hx256_0⟩ := Kd.at_int (Kd.R_reads' HO_233001.out).2.2 x12_3 p256 q256
                       cases e256
                       replace p256 := eq_true p256
                       replace q256 := eq_true q256
                       obtain ⟨Ao69, co69, eo69⟩ := Kd.R_slice HO_7.out
                       subst eo69
                       have p257 : 0 ≤ ((rd t224 x12_3) : Int) := of_decide_eq_true (by first | (with_reducible assumption) | assumption)
                       have q257 : (rd t224 x12_3) < (x7_3.length : Int) := of_decide_eq_true (by first | (with_reducible assumption) | assumption)
                       obtain ⟨ad257, e257, hx257_0⟩ := Kd.at_int (Kd.R_reads' HO_7.out).2.2 (rd t224 x12_3) p257 q257
                       cases e257
                       replace p257 := eq_true p257
                       replace q257 := eq_true q257
                       have p66 : 0 ≤ ((rd t224 x12_3) : Int) := of_decide_eq_true (by first | (with_reducible assumption) | assumption)
                       have q66 : ((rd t224 x12_3) : Int) < ((x7_3.length : Int) : Int) := of_decide_eq_true (by first | (with_reducible assumption) | assumption)
                       obtain ⟨go66, co66, eo66, gb66, gl66, cl66, HG66⟩ := Kd.R_form HO_7.out (by omega)
                       (first | cases eo66 | (injection eo66 with ea_ en_ ec_; (first | subst ea_ | (injection ea_ with ea_; subst ea_)); subst ec_; clear en_))
                       have GB66 := Aside0.mk gb66
                       have GG66 := Aside0.mk HG66
                       clear gb66 gl66 HG66
                       (first | simp only [add_plain] at hx257_0 | skip)
                       obtain ⟨hx66_0, hf66_0⟩ := Kd.R_celln 0 HO_7.out ((rd t224 x12_3) : Int) p66 q66
                       replace p66 := eq_true p66
                       replace q66 := eq_true q66
                       have HP70 := Kd.R_putg HO_7.out ((rd t224 x12_3) : Int) (wrap64 ((rd x7_3 (rd t224 x12_3)) + 1))
                       go_wp2_with (first | ((with_reducible refine gate_store (t := 3) (p := 169) rfl ?_); (try (rw [drewN_self wc]; generalize hq_ : World.drewN wc _ = wc; have n0_ := Aside0.mk (Kd.R_at hq_ HO_3.out); have n1_ := Aside0.mk (Kd.R_at hq_ HO_4.out); have n2_ := Aside0.mk (Kd.R_at hq_ HO_7.out); have n3_ := Aside0.mk (Kd.R_at hq_ HO_8.out); have n4_ := Aside0.mk (Kd.S_at hq_ HO_233000.out); have n5_ := Aside0.mk (Kd.R_at hq_ HO_233001.out); have n6_ := Aside0.mk (Kd.R_at hq_ HO_233002.out); have n7_ := Aside0.mk (blk_at hq_ BK232.out); have n8_ := Aside0.mk (below_at hq_ HB.out); (try have hx66_0 := cell_at hq_ hx66_0); (try have hf66_0 : World.frozen? wc ⟨go66, ((rd t224 x12_3) : Int).toNat, none⟩ = false := by rw [← hq_]; exact hf66_0); clear hq_ HO_3 HO_4 HO_7 HO_8 HO_233000 HO_233001 HO_233002 BK232 HB; have HO_3 := n0_; have HO_4 := n1_; have HO_7 := n2_; have HO_8 := n3_; have HO_233000 := n4_; have HO_233001 := n5_; have HO_233002 := n6_; have BK232 := n7_; have HB := n8_; clear n0_ n1_ n2_ n3_ n4_ n5_ n6_ n7_ n8_; (try (have HP70 := Kd.R_putg HO_7.out ((rd t224 x12_3) : Int) (wrap64 ((rd x7_3 (rd t224 x12_3)) + 1)))))); refine store_event (t := 3) (p := 169) (v := ?vo_w71) (w1 := (wc.setCell ⟨go66, ((rd t224 x12_3) : Int).toNat, none⟩ (.int .i64 (wrap64 ((rd x7_3 (rd t224 x12_3)) + 1))))) ?hg ?ho ?hn ?hr ?_; (case ho => rfl); (case hg => rfl); (case hn => rfl); (case hr => first | (go_simp; done) | (go_simp; rfl)); intro w71 hw; have hg : wc.grownBy w71 (some go66) := (by rw [hw]; exact HP70.2); have hp_ : Kd.R (Kd.int .i64) 3 w71 w.heap.size (fun k_ => some k_ ≠ (v237 : Value).ownBlock ∧ some k_ ≠ (.slice (some ad256) t224.length co13 : Value).ownBlock ∧ some k_ ≠ (.slice Ao14 t227.length co14 : Value).ownBlock) (.slice (some ⟨go66, 0, none⟩) x7_3.length co69) y258 := (by rw [hw, Ny258.out]; exact HP70.1); clear HP70; have n0_ := Aside0.mk (Kd.R_over' (v := (.slice (some ⟨go66, 0, none⟩) x7_3.length co69)) (by (with_reducible repeat (first | apply Kd.R_alloc | apply Kd.R_drewN | apply Kd.R_drew)); exact HO_3.out) (Kd.R_typed HO_7.out) (by decide) hg); have n1_ := Aside0.mk (Kd.R_over' (v := (.slice (some ⟨go66, 0, none⟩) x7_3.length co69)) (by (with_reducible repeat (first | apply Kd.R_alloc | apply Kd.R_drewN | apply Kd.R_drew)); exact HO_4.out) (Kd.R_typed HO_7.out) (by decide) hg); have n2_ := Aside0.mk (hp_); have n3_ := Aside0.mk (Kd.R_after (v := (.slice (some ⟨go66, 0, none⟩) x7_3.length co69)) (v1 := (.slice (some ⟨go66, 0, none⟩) x7_3.length co69)) (ok := (fun k_ => some k_ ≠ (.slice (some ad256) t224.length co13 : Value).ownBlock ∧ some k_ ≠ (.slice Ao14 t227.length co14 : Value).ownBlock)) (by (with_reducible repeat (first | apply Kd.R_alloc | apply Kd.R_drewN | apply Kd.R_drew)); exact Kd.R_mono HO_8.out (fun _ hk => ⟨⟨hk.2.1, hk.2.2⟩, hk.1⟩)) hg (.inl rfl)); have n4_ := Aside0.mk (Kd.S_after (v := (.slice (some ⟨go66, 0, none⟩) x7_3.length co69)) (v1 := (.slice (some ⟨go66, 0, none⟩) x7_3.length co69)) (ok := (fun k_ => some k_ ≠ (v237 : Value).ownBlock ∧ some k_ ≠ (.slice (some ad256) t224.length co13 : Value).ownBlock ∧ some k_ ≠ (.slice Ao14 t227.length co14 : Value).ownBlock)) (by (with_reducible repeat (first | apply Kd.S_alloc | apply Kd.S_drewN | apply Kd.S_drew)); exact Kd.S_mono HO_233000.out (fun _ hk => ⟨⟨hk.2.1, ⟨hk.2.2.1, hk.2.2.2⟩⟩, hk.1⟩)) hg (.inl rfl)); have n5_ := Aside0.mk (Kd.R_after (v := (.slice (some ⟨go66, 0, none⟩) x7_3.length co69)) (v1 := (.slice (some ⟨go66, 0, none⟩) x7_3.length co69)) (ok := (fun k_ => some k_ ≠ (v237 : Value).ownBlock ∧ some k_ ≠ (.slice Ao14 t227.length co14 : Value).ownBlock)) (by (with_reducible repeat (first | apply Kd.R_alloc | apply Kd.R_drewN | apply Kd.R_drew)); exact Kd.R_mono HO_233001.out (fun _ hk => ⟨⟨hk.2.1, hk.2.2⟩, hk.1⟩)) hg (.inl rfl)); have n6_ := Aside0.mk (Kd.R_after (v := (.slice (some ⟨go66, 0, none⟩) x7_3.length co69)) (v1 := (.slice (some ⟨go66, 0, none⟩) x7_3.length co69)) (ok := (fun k_ => some k_ ≠ (v237 : Value).ownBlock ∧ some k_ ≠ (.slice (some ad256) t224.length co13 : Value).ownBlock)) (by (with_reducible repeat (first | apply Kd.R_alloc | apply Kd.R_drewN | apply Kd.R_drew)); exact Kd.R_mono HO_233002.out (fun _ hk => ⟨⟨hk.2.1, hk.2.2⟩, hk.1⟩)) hg (.inl rfl)); have n7_ := Aside0.mk (blk_grown (g := gb232) (o := .cells #[.slice Ao11 t221.length co11, .slice (some ad256) t224.length co13, .slice Ao14 t227.length co14, .int .i64 t230] 29 (0, 0)) (by (with_reducible repeat (first | refine blk_drewN ?_ _ | refine blk_drew ?_ | refine blk_alloc ?_ _)); exact BK232.out) hg (Kd.R_ne HO_7.out BK232.out (by decide))); have n8_ := Aside0.mk ((by rw [hw]; exact below_set (HB.out) GB66.out : Below w.heap.size w w71)); clear HO_3; clear HO_4; clear HO_7; clear HO_8; clear HO_233000; clear HO_233001; clear HO_233002; clear BK232; clear HB; have HO_3 := n0_; have HO_4 := n1_; have HO_7 := n2_; have HO_8 := n3_; have HO_233000 := n4_; have HO_233001 := n5_; have HO_233002 := n6_; have BK232 := n7_; have HB := n8_; clear n0_ n1_ n2_ n3_ n4_ n5_ n6_ n7_ n8_; clear hg hw hp_; have hcz72_0 : w71.cell? ⟨gb232, 0, none⟩ = some (.slice Ao11 t221.length co11) := (blk_cell BK232.out 0).trans rfl; have hcz72_1 : w71.cell? ⟨gb232, 1, none⟩ = some (.slice (some ad256) t224.length co13) := (blk_cell BK232.out 1).trans rfl; have hcz72_2 : w71.cell? ⟨gb232, 2, none⟩ = some (.slice Ao14 t227.length co14) := (blk_cell BK232.out 2).trans rfl; have hcz72_3 : w71.cell? ⟨gb232, 3, none⟩ = some (.int .i64 t230) := (blk_cell BK232.out 3).trans rfl; have hfz72_0 := blk_frozen BK232.out 0; have hfz72_1 := blk_frozen BK232.out 1; have hfz72_2 := blk_frozen BK232.out 2; have hfz72_3 := blk_frozen BK232.out 3; have p259 : 0 ≤ (x12_3 : Int) := of_decide_eq_true (by first | (with_reducible assumption) | assumption); have q259 : x12_3 < (t224.length : Int) := of_decide_eq_true (by first | (with_reducible assumption) | assumption); obtain ⟨ad259, e259, hx259_0⟩ := Kd.at_int (Kd.R_reads' HO_233001.out).2.2 x12_3 p259 q259; obtain rfl : ad256 = ad259 := (by injection e259); replace p259 := eq_true p259; replace q259 := eq_true q259; have p260 : 0 ≤ ((rd t224 x12_3) : Int) := of_decide_eq_true (by first | (with_reducible assumption) | assumption); have q260 : (rd t224 x12_3) < (t215.length : Int) := of_decide_eq_true (by first | (with_reducible assumption) | assumption); obtain ⟨ad260, e260, hx260_0, hx260_1⟩ := at_T33 (Kd.R_reads' HO_3.out).2.2 (rd t224 x12_3) p260 q260; cases e260; replace p260 := eq_true p260; replace q260 := eq_true q260))
                       repeat (go_quiet (first | ((with_reducible refine gate_store (t := 3) (p := 169) rfl ?_); (try (rw [drewN_self wc]; generalize hq_ : World.drewN wc _ = wc; have n0_ := Aside0.mk (Kd.R_at hq_ HO_3.out); have n1_ := Aside0.mk (Kd.R_at hq_ HO_4.out); have n2_ := Aside0.mk (Kd.R_at hq_ HO_7.out); have n3_ := Aside0.mk (Kd.R_at hq_ HO_8.out); have n4_ := Aside0.mk (Kd.S_at hq_ HO_233000.out); have n5_ := Aside0.mk (Kd.R_at hq_ HO_233001.out); have n6_ := Aside0.mk (Kd.R_at hq_ HO_233002.out); have n7_ := Aside0.mk (blk_at hq_ BK232.out); have n8_ := Aside0.mk (below_at hq_ HB.out); (try have hx66_0 := cell_at hq_ hx66_0); (try have hf66_0 : World.frozen? wc ⟨go66, ((rd t224 x12_3) : Int).toNat, none⟩ = false := by rw [← hq_]; exact hf66_0); clear hq_ HO_3 HO_4 HO_7 HO_8 HO_233000 HO_233001 HO_233002 BK232 HB; have HO_3 := n0_; have HO_4 := n1_; have HO_7 := n2_; have HO_8 := n3_; have HO_233000 := n4_; have HO_233001 := n5_; have HO_233002 := n6_; have BK232 := n7_; have HB := n8_; clear n0_ n1_ n2_ n3_ n4_ n5_ n6_ n7_ n8_; (try (have HP70 := Kd.R_putg HO_7.out ((rd t224 x12_3) : Int) (wrap64 ((rd x7_3 (rd t224 x12_3)) + 1)))))); refine store_event (t := 3) (p := 169) (v := ?vo_w71) (w1 := (wc.setCell ⟨go66, ((rd t224 x12_3) : Int).toNat, none⟩ (.int .i64 (wrap64 ((rd x7_3 (rd t224 x12_3)) + 1))))) ?hg ?ho ?hn ?hr ?_; (case ho => rfl); (case hg => rfl); (case hn => rfl); (case hr => first | (go_simp; done) | (go_simp; rfl)); intro w71 hw; have hg : wc.grownBy w71 (some go66) := (by rw [hw]; exact HP70.2); have hp_ : Kd.R (Kd.int .i64) 3 w71 w.heap.size (fun k_ => some k_ ≠ (v237 : Value).ownBlock ∧ some k_ ≠ (.slice (some ad256) t224.length co13 : Value).ownBlock ∧ some k_ ≠ (.slice Ao14 t227.length co14 : Value).ownBlock) (.slice (some ⟨go66, 0, none⟩) x7_3.length co69) y258 := (by rw [hw, Ny258.out]; exact HP70.1); clear HP70; have n0_ := Aside0.mk (Kd.R_over' (v := (.slice (some ⟨go66, 0, none⟩) x7_3.length co69)) (by (with_reducible repeat (first | apply Kd.R_alloc | apply Kd.R_drewN | apply Kd.R_drew)); exact HO_3.out) (Kd.R_typed HO_7.out) (by decide) hg); have n1_ := Aside0.mk (Kd.R_over' (v := (.slice (some ⟨go66, 0, none⟩) x7_3.length co69)) (by (with_reducible repeat (first | apply Kd.R_alloc | apply Kd.R_drewN | apply Kd.R_drew)); exact HO_4.out) (Kd.R_typed HO_7.out) (by decide) hg); have n2_ := Aside0.mk (hp_); have n3_ := Aside0.mk (Kd.R_after (v := (.slice (some ⟨go66, 0, none⟩) x7_3.length co69)) (v1 := (.slice (some ⟨go66, 0, none⟩) x7_3.length co69)) (ok := (fun k_ => some k_ ≠ (.slice (some ad256) t224.length co13 : Value).ownBlock ∧ some k_ ≠ (.slice Ao14 t227.length co14 : Value).ownBlock)) (by (with_reducible repeat (first | apply Kd.R_alloc | apply Kd.R_drewN | apply Kd.R_drew)); exact Kd.R_mono HO_8.out (fun _ hk => ⟨⟨hk.2.1, hk.2.2⟩, hk.1⟩)) hg (.inl rfl)); have n4_ := Aside0.mk (Kd.S_after (v := (.slice (some ⟨go66, 0, none⟩) x7_3.length co69)) (v1 := (.slice (some ⟨go66, 0, none⟩) x7_3.length co69)) (ok := (fun k_ => some k_ ≠ (v237 : Value).ownBlock ∧ some k_ ≠ (.slice (some ad256) t224.length co13 : Value).ownBlock ∧ some k_ ≠ (.slice Ao14 t227.length co14 : Value).ownBlock)) (by (with_reducible repeat (first | apply Kd.S_alloc | apply Kd.S_drewN | apply Kd.S_drew)); exact Kd.S_mono HO_233000.out (fun _ hk => ⟨⟨hk.2.1, ⟨hk.2.2.1, hk.2.2.2⟩⟩, hk.1⟩)) hg (.inl rfl)); have n5_ := Aside0.mk (Kd.R_after (v := (.slice (some ⟨go66, 0, none⟩) x7_3.length co69)) (v1 := (.slice (some ⟨go66, 0, none⟩) x7_3.length co69)) (ok := (fun k_ => some k_ ≠ (v237 : Value).ownBlock ∧ some k_ ≠ (.slice Ao14 t227.length co14 : Value).ownBlock)) (by (with_reducible repeat (first | apply Kd.R_alloc | apply Kd.R_drewN | apply Kd.R_drew)); exact Kd.R_mono HO_233001.out (fun _ hk => ⟨⟨hk.2.1, hk.2.2⟩, hk.1⟩)) hg (.inl rfl)); have n6_ := Aside0.mk (Kd.R_after (v := (.slice (some ⟨go66, 0, none⟩) x7_3.length co69)) (v1 := (.slice (some ⟨go66, 0, none⟩) x7_3.length co69)) (ok := (fun k_ => some k_ ≠ (v237 : Value).ownBlock ∧ some k_ ≠ (.slice (some ad256) t224.length co13 : Value).ownBlock)) (by (with_reducible repeat (first | apply Kd.R_alloc | apply Kd.R_drewN | apply Kd.R_drew)); exact Kd.R_mono HO_233002.out (fun _ hk => ⟨⟨hk.2.1, hk.2.2⟩, hk.1⟩)) hg (.inl rfl)); have n7_ := Aside0.mk (blk_grown (g := gb232) (o := .cells #[.slice Ao11 t221.length co11, .slice (some ad256) t224.length co13, .slice Ao14 t227.length co14, .int .i64 t230] 29 (0, 0)) (by (with_reducible repeat (first | refine blk_drewN ?_ _ | refine blk_drew ?_ | refine blk_alloc ?_ _)); exact BK232.out) hg (Kd.R_ne HO_7.out BK232.out (by decide))); have n8_ := Aside0.mk ((by rw [hw]; exact below_set (HB.out) GB66.out : Below w.heap.size w w71)); clear HO_3; clear HO_4; clear HO_7; clear HO_8; clear HO_233000; clear HO_233001; clear HO_233002; clear BK232; clear HB; have HO_3 := n0_; have HO_4 := n1_; have HO_7 := n2_; have HO_8 := n3_; have HO_233000 := n4_; have HO_233001 := n5_; have HO_233002 := n6_; have BK232 := n7_; have HB := n8_; clear n0_ n1_ n2_ n3_ n4_ n5_ n6_ n7_ n8_; clear hg hw hp_; have hcz72_0 : w71.cell? ⟨gb232, 0, none⟩ = some (.slice Ao11 t221.length co11) := (blk_cell BK232.out 0).trans rfl; have hcz72_1 : w71.cell? ⟨gb232, 1, none⟩ = some (.slice (some ad256) t224.length co13) := (blk_cell BK232.out 1).trans rfl; have hcz72_2 : w71.cell? ⟨gb232, 2, none⟩ = some (.slice Ao14 t227.length co14) := (blk_cell BK232.out 2).trans rfl; have hcz72_3 : w71.cell? ⟨gb232, 3, none⟩ = some (.int .i64 t230) := (blk_cell BK232.out 3).trans rfl; have hfz72_0 := blk_frozen BK232.out 0; have hfz72_1 := blk_frozen BK232.out 1; have hfz72_2 := blk_frozen BK232.out 2; have hfz72_3 := blk_frozen BK232.out 3; have p259 : 0 ≤ (x12_3 : Int) := of_decide_eq_true (by first | (with_reducible assumption) | assumption); have q259 : x12_3 < (t224.length : Int) := of_decide_eq_true (by first | (with_reducible assumption) | assumption); obtain ⟨ad259, e259, hx259_0⟩ := Kd.at_int (Kd.R_reads' HO_233001.out).2.2 x12_3 p259 q259; obtain rfl : ad256 = ad259 := (by injection e259); replace p259 := eq_true p259; replace q259 := eq_true q259; have p260 : 0 ≤ ((rd t224 x12_3) : Int) := of_decide_eq_true (by first | (with_reducible assumption) | assumption); have q260 : (rd t224 x12_3) < (t215.length : Int) := of_decide_eq_true (by first | (with_reducible assumption) | assumption); obtain ⟨ad260, e260, hx260_0, hx260_1⟩ := at_T33 (Kd.R_reads' HO_3.out).2.2 (rd t224 x12_3) p260 q260; cases e260; replace p260 := eq_true p260; replace q260 := eq_true q260)); try go_wp2_with (first | ((with_reducible refine gate_store (t := 3) (p := 169) rfl ?_); (try (rw [drewN_self wc]; generalize hq_ : World.drewN wc _ = wc; have n0_ := Aside0.mk (Kd.R_at hq_ HO_3.out); have n1_ := Aside0.mk (Kd.R_at hq_ HO_4.out); have n2_ := Aside0.mk (Kd.R_at hq_ HO_7.out); have n3_ := Aside0.mk (Kd.R_at hq_ HO_8.out); have n4_ := Aside0.mk (Kd.S_at hq_ HO_233000.out); have n5_ := Aside0.mk (Kd.R_at hq_ HO_233001.out); have n6_ := Aside0.mk (Kd.R_at hq_ HO_233002.out); have n7_ := Aside0.mk (blk_at hq_ BK232.out); have n8_ := Aside0.mk (below_at hq_ HB.out); (try have hx66_0 := cell_at hq_ hx66_0); (try have hf66_0 : World.frozen? wc ⟨go66, ((rd t224 x12_3) : Int).toNat, none⟩ = false := by rw [← hq_]; exact hf66_0); clear hq_ HO_3 HO_4 HO_7 HO_8 HO_233000 HO_233001 HO_233002 BK232 HB; have HO_3 := n0_; have HO_4 := n1_; have HO_7 := n2_; have HO_8 := n3_; have HO_233000 := n4_; have HO_233001 := n5_; have HO_233002 := n6_; have BK232 := n7_; have HB := n8_; clear n0_ n1_ n2_ n3_ n4_ n5_ n6_ n7_ n8_; (try (have HP70 := Kd.R_putg HO_7.out ((rd t224 x12_3) : Int) (wrap64 ((rd x7_3 (rd t224 x12_3)) + 1)))))); refine store_event (t := 3) (p := 169) (v := ?vo_w71) (w1 := (wc.setCell ⟨go66, ((rd t224 x12_3) : Int).toNat, none⟩ (.int .i64 (wrap64 ((rd x7_3 (rd t224 x12_3)) + 1))))) ?hg ?ho ?hn ?hr ?_; (case ho => rfl); (case hg => rfl); (case hn => rfl); (case hr => first | (go_simp; done) | (go_simp; rfl)); intro w71 hw; have hg : wc.grownBy w71 (some go66) := (by rw [hw]; exact HP70.2); have hp_ : Kd.R (Kd.int .i64) 3 w71 w.heap.size (fun k_ => some k_ ≠ (v237 : Value).ownBlock ∧ some k_ ≠ (.slice (some ad256) t224.length co13 : Value).ownBlock ∧ some k_ ≠ (.slice Ao14 t227.length co14 : Value).ownBlock) (.slice (some ⟨go66, 0, none⟩) x7_3.length co69) y258 := (by rw [hw, Ny258.out]; exact HP70.1); clear HP70; have n0_ := Aside0.mk (Kd.R_over' (v := (.slice (some ⟨go66, 0, none⟩) x7_3.length co69)) (by (with_reducible repeat (first | apply Kd.R_alloc | apply Kd.R_drewN | apply Kd.R_drew)); exact HO_3.out) (Kd.R_typed HO_7.out) (by decide) hg); have n1_ := Aside0.mk (Kd.R_over' (v := (.slice (some ⟨go66, 0, none⟩) x7_3.length co69)) (by (with_reducible repeat (first | apply Kd.R_alloc | apply Kd.R_drewN | apply Kd.R_drew)); exact HO_4.out) (Kd.R_typed HO_7.out) (by decide) hg); have n2_ := Aside0.mk (hp_); have n3_ := Aside0.mk (Kd.R_after (v := (.slice (some ⟨go66, 0, none⟩) x7_3.length co69)) (v1 := (.slice (some ⟨go66, 0, none⟩) x7_3.length co69)) (ok := (fun k_ => some k_ ≠ (.slice (some ad256) t224.length co13 : Value).ownBlock ∧ some k_ ≠ (.slice Ao14 t227.length co14 : Value).ownBlock)) (by (with_reducible repeat (first | apply Kd.R_alloc | apply Kd.R_drewN | apply Kd.R_drew)); exact Kd.R_mono HO_8.out (fun _ hk => ⟨⟨hk.2.1, hk.2.2⟩, hk.1⟩)) hg (.inl rfl)); have n4_ := Aside0.mk (Kd.S_after (v := (.slice (some ⟨go66, 0, none⟩) x7_3.length co69)) (v1 := (.slice (some ⟨go66, 0, none⟩) x7_3.length co69)) (ok := (fun k_ => some k_ ≠ (v237 : Value).ownBlock ∧ some k_ ≠ (.slice (some ad256) t224.length co13 : Value).ownBlock ∧ some k_ ≠ (.slice Ao14 t227.length co14 : Value).ownBlock)) (by (with_reducible repeat (first | apply Kd.S_alloc | apply Kd.S_drewN | apply Kd.S_drew)); exact Kd.S_mono HO_233000.out (fun _ hk => ⟨⟨hk.2.1, ⟨hk.2.2.1, hk.2.2.2⟩⟩, hk.1⟩)) hg (.inl rfl)); have n5_ := Aside0.mk (Kd.R_after (v := (.slice (some ⟨go66, 0, none⟩) x7_3.length co69)) (v1 := (.slice (some ⟨go66, 0, none⟩) x7_3.length co69)) (ok := (fun k_ => some k_ ≠ (v237 : Value).ownBlock ∧ some k_ ≠ (.slice Ao14 t227.length co14 : Value).ownBlock)) (by (with_reducible repeat (first | apply Kd.R_alloc | apply Kd.R_drewN | apply Kd.R_drew)); exact Kd.R_mono HO_233001.out (fun _ hk => ⟨⟨hk.2.1, hk.2.2⟩, hk.1⟩)) hg (.inl rfl)); have n6_ := Aside0.mk (Kd.R_after (v := (.slice (some ⟨go66, 0, none⟩) x7_3.length co69)) (v1 := (.slice (some ⟨go66, 0, none⟩) x7_3.length co69)) (ok := (fun k_ => some k_ ≠ (v237 : Value).ownBlock ∧ some k_ ≠ (.slice (some ad256) t224.length co13 : Value).ownBlock)) (by (with_reducible repeat (first | apply Kd.R_alloc | apply Kd.R_drewN | apply Kd.R_drew)); exact Kd.R_mono HO_233002.out (fun _ hk => ⟨⟨hk.2.1, hk.2.2⟩, hk.1⟩)) hg (.inl rfl)); have n7_ := Aside0.mk (blk_grown (g := gb232) (o := .cells #[.slice Ao11 t221.length co11, .slice (some ad256) t224.length co13, .slice Ao14 t227.length co14, .int .i64 t230] 29 (0, 0)) (by (with_reducible repeat (first | refine blk_drewN ?_ _ | refine blk_drew ?_ | refine blk_alloc ?_ _)); exact BK232.out) hg (Kd.R_ne HO_7.out BK232.out (by decide))); have n8_ := Aside0.mk ((by rw [hw]; exact below_set (HB.out) GB66.out : Below w.heap.size w w71)); clear HO_3; clear HO_4; clear HO_7; clear HO_8; clear HO_233000; clear HO_233001; clear HO_233002; clear BK232; clear HB; have HO_3 := n0_; have HO_4 := n1_; have HO_7 := n2_; have HO_8 := n3_; have HO_233000 := n4_; have HO_233001 := n5_; have HO_233002 := n6_; have BK232 := n7_; have HB := n8_; clear n0_ n1_ n2_ n3_ n4_ n5_ n6_ n7_ n8_; clear hg hw hp_; have hcz72_0 : w71.cell? ⟨gb232, 0, none⟩ = some (.slice Ao11 t221.length co11) := (blk_cell BK232.out 0).trans rfl; have hcz72_1 : w71.cell? ⟨gb232, 1, none⟩ = some (.slice (some ad256) t224.length co13) := (blk_cell BK232.out 1).trans rfl; have hcz72_2 : w71.cell? ⟨gb232, 2, none⟩ = some (.slice Ao14 t227.length co14) := (blk_cell BK232.out 2).trans rfl; have hcz72_3 : w71.cell? ⟨gb232, 3, none⟩ = some (.int .i64 t230) := (blk_cell BK232.out 3).trans rfl; have hfz72_0 := blk_frozen BK232.out 0; have hfz72_1 := blk_frozen BK232.out 1; have hfz72_2 := blk_frozen BK232.out 2; have hfz72_3 := blk_frozen BK232.out 3; have p259 : 0 ≤ (x12_3 : Int) := of_decide_eq_true (by first | (with_reducible assumption) | assumption); have q259 : x12_3 < (t224.length : Int) := of_decide_eq_true (by first | (with_reducible assumption) | assumption); obtain ⟨ad259, e259, hx259_0⟩ := Kd.at_int (Kd.R_reads' HO_233001.out).2.2 x12_3 p259 q259; obtain rfl : ad256 = ad259 := (by injection e259); replace p259 := eq_true p259; replace q259 := eq_true q259; have p260 : 0 ≤ ((rd t224 x12_3) : Int) := of_decide_eq_true (by first | (with_reducible assumption) | assumption); have q260 : (rd t224 x12_3) < (t215.length : Int) := of_decide_eq_true (by first | (with_reducible assumption) | assumption); obtain ⟨ad260, e260, hx260_0, hx260_1⟩ := at_T33 (Kd.R_reads' HO_3.out).2.2 (rd t224 x12_3) p260 q260; cases e260; replace p260 := eq_true p260; replace q260 := eq_true q260)))
                       go_loopg [13] kj54 (fun kq v13 w' => ∃ (x13_5 : Int), v13 = .int .i64 x13_5 ∧ Aside0 (laws_FnSettle.l2 kq t215 t216 y258 x8_2 (wrap64 (x11_3 + ((rd_T33 t215 (rd t224 x12_3)).f1))) x12_3 x13_5 t221 t224 t227 t230 = some r) ∧ Aside0 (kq ≤ kj54) ∧ Aside0 (Kd.R k33 33 w' w.heap.size (fun k_ => some k_ ≠ ((.slice Ao8 t216.length co8) : Value).ownBlock) (.slice (some ad260) t215.length co7) t215) ∧ Aside0 (Kd.R k33 33 w' w.heap.size (fun k_ => some k_ ≠ ((.slice (some ad260) t215.length co7) : Value).ownBlock) (.slice Ao8 t216.length co8) t216) ∧ Aside0 (Kd.R (Kd.int .i64) 3 w' w.heap.size (fun k_ => some k_ ≠ (v237 : Value).ownBlock ∧ some k_ ≠ ((.slice (some ad256) t224.length co13) : Value).ownBlock ∧ some k_ ≠ ((.slice Ao14 t227.length co14) : Value).ownBlock) (.slice (some ⟨go66, 0, none⟩) x7_3.length co69) y258) ∧ Aside0 (Kd.R (Kd.int .i64) 3 w' w.heap.size (fun k_ => some k_ ≠ ((.slice (some ⟨go66, 0, none⟩) x7_3.length co69) : Value).ownBlock ∧ some k_ ≠ ((.slice (some ad256) t224.length co13) : Value).ownBlock ∧ some k_ ≠ ((.slice Ao14 t227.length co14) : Value).ownBlock) v237 x8_2) ∧ Aside0 (Kd.S (Kd.slice 3 (Kd.int .i64)) 27 w' w.heap.size (fun k_ => some k_ ≠ ((.slice (some ⟨go66, 0, none⟩) x7_3.length co69) : Value).ownBlock ∧ some k_ ≠ (v237 : Value).ownBlock ∧ some k_ ≠ ((.slice (some ad256) t224.length co13) : Value).ownBlock ∧ some k_ ≠ ((.slice Ao14 t227.length co14) : Value).ownBlock) (.slice Ao11 t221.length co11) t221) ∧ Aside0 (Kd.R (Kd.int .i64) 3 w' w.heap.size (fun k_ => some k_ ≠ ((.slice (some ⟨go66, 0, none⟩) x7_3.length co69) : Value).ownBlock ∧ some k_ ≠ (v237 : Value).ownBlock ∧ some k_ ≠ ((.slice Ao14 t227.length co14) : Value).ownBlock) (.slice (some ad256) t224.length co13) t224) ∧ Aside0 (Kd.R (Kd.int .i64) 3 w' w.heap.size (fun k_ => some k_ ≠ ((.slice (some ⟨go66, 0, none⟩) x7_3.length co69) : Value).ownBlock ∧ some k_ ≠ (v237 : Value).ownBlock ∧ some k_ ≠ ((.slice (some ad256) t224.length co13) : Value).ownBlock) (.slice Ao14 t227.length co14) t227) ∧ Aside0 (w'.heap[gb232]? = some (.cells #[(.slice Ao11 t221.length co11), (.slice (some ad256) t224.length co13), (.slice Ao14 t227.length co14), .int .i64 t230] 29 (0, 0))) ∧ Aside0 (Below w.heap.size w w'))
                       case atStart => exact ⟨(0), (by first | rfl | (simp; done) | (simp [*]; done)), H', ⟨Nat.le_refl _⟩, ⟨by (with_reducible repeat (first | apply Kd.R_alloc | apply Kd.R_drewN | apply Kd.R_drew)); exact HO_3.out⟩, ⟨by (with_reducible repeat (first | apply Kd.R_alloc | apply Kd.R_drewN | apply Kd.R_drew)); exact HO_4.out⟩, ⟨by (with_reducible repeat (first | apply Kd.R_alloc | apply Kd.R_drewN | apply Kd.R_drew)); exact HO_7.out⟩, ⟨by (with_reducible repeat (first | apply Kd.R_alloc | apply Kd.R_drewN | apply Kd.R_drew)); exact Kd.R_mono HO_8.out (fun _ hk => ⟨hk.2, ⟨hk.1.1, hk.1.2⟩⟩)⟩, ⟨by (with_reducible repeat (first | apply Kd.S_alloc | apply Kd.S_drewN | apply Kd.S_drew)); exact Kd.S_mono HO_233000.out (fun _ hk => ⟨hk.2, ⟨hk.1.1, ⟨hk.1.2.1, hk.1.2.2⟩⟩⟩)⟩, ⟨by (with_reducible repeat (first | apply Kd.R_alloc | apply Kd.R_drewN | apply Kd.R_drew)); exact Kd.R_mono HO_233001.out (fun _ hk => ⟨hk.2, ⟨hk.1.1, hk.1.2⟩⟩)⟩, ⟨by (with_reducible repeat (first | apply Kd.R_alloc | apply Kd.R_drewN | apply Kd.R_drew)); exact Kd.R_mono HO_233002.out (fun _ hk => ⟨hk.2, ⟨hk.1.1, hk.1.2⟩⟩)⟩, ⟨by (with_reducible repeat (first | refine blk_drewN ?_ _ | refine blk_drew ?_ | refine blk_alloc ?_ _)); exact BK232.out⟩, ⟨by repeat (first | (with_reducible first | exact HB.out | apply below_alloc | apply pw_below_drewN | apply below_drew1 | refine below_set ?_ GE232.out) | exact HB.out)⟩⟩
                       case round =>
                        clear H'
                        (try clear c6); (try clear q6); (try clear hx6); (try clear hf6); (try clear p26); (try clear q26); (try clear hx26); (try clear c61); (try clear c62); (try clear c62b0); (try clear c63); (try clear c63b0); (try clear c64); (try clear c64b0); (try clear p64); (try clear c65); (try clear c65b0); (try clear p66); (try clear q66); (try clear hx66); (try clear hf66); (try clear c67); (try clear c67b0); (try clear hcz68_0); (try clear hcz68_1); (try clear hcz68_2); (try clear hcz68_3); (try clear hcz72_0); (try clear hcz72_1); (try clear hcz72_2); (try clear hcz72_3); (try clear hfz68_0); (try clear hfz68_1); (try clear hfz68_2); (try clear hfz68_3); (try clear hfz72_0); (try clear hfz72_1); (try clear hfz72_2); (try clear hfz72_3); (try clear hx256_0); (try clear hx257_0); (try clear hx259_0); (try clear hx260_0); (try clear hx260_1); (try clear hx66_0); (try clear p256); (try clear p257); (try clear p259); (try clear p260); (try clear q256); (try clear q257); (try clear q259); (try clear q260)
                        obtain ⟨x13_5, rfl, HA, HK5, HO_3, HO_4, HO_7, HO_8, HO_233000, HO_233001, HO_233002, BK232, HB⟩ := hrel
                        have hl7_5 := (Kd.R_reads' HO_7.out).1
                        rw [hl7_5] at HO_7
                        (try simp only [hl7_5])
                        (try simp only [hl7_5] at BK232)
                        (try simp only [hl7_5] at HO_3)
                        (try simp only [hl7_5] at HO_4)
                        (try simp only [hl7_5] at HO_8)
                        (try simp only [hl7_5] at HO_233000)
                        (try simp only [hl7_5] at HO_233001)
                        (try simp only [hl7_5] at HO_233002)
                        cases gk with
                        | zero => exact absurd HA.out (by simp [laws_FnSettle.l2])
                        | succ k5 =>
                         have H := HA.out
                         clear HA
                         simp only [laws_FnSettle.l2] at H
                         by_cases c73 : x13_5 < (t227.length : Int)
                         ·rw [if_pos c73] at H
                          have c73b0 : decide (x13_5 < (t227.length : Int)) = true := decide_eq_true c73
                          clear c73
                          by_cases c74 : 0 ≤ x13_5
                          ·rw [if_pos c74] at H
                           have c74b0 : decide (0 ≤ x13_5) = true := decide_eq_true c74
                           clear c74
                           by_cases c75 : (rd t227 x13_5) ≥ 0
                           ·rw [if_pos c75] at H
                            have c75b0 : decide (0 ≤ (rd t227 x13_5)) = true := decide_eq_true c75
                            clear c75
                            by_cases c76 : (rd t227 x13_5) < (t216.length : Int)
                            ·rw [if_pos c76] at H
                             have c76b0 : decide ((rd t227 x13_5) < (t216.length : Int)) = true := decide_eq_true c76
                             clear c76
                             by_cases c77 : 0 ≤ (rd t227 x13_5)
                             ·rw [if_pos c77] at H
                              have c77b0 : decide (0 ≤ (rd t227 x13_5)) = true := decide_eq_true c77
                              clear c77
                              by_cases c78 : 0 ≤ x12_3
                              ·rw [if_pos c78] at H
                               have c78b0 : decide (0 ≤ x12_3) = true := decide_eq_true c78
                               clear c78
                               by_cases c79 : x12_3 < (t224.length : Int)
                               ·rw [if_pos c79] at H
                                have c79b0 : decide (x12_3 < (t224.length : Int)) = true := decide_eq_true c79
                                clear c79
                                by_cases c80 : 0 ≤ (rd t224 x12_3)
                                ·rw [if_pos c80] at H
                                 have c80b0 : decide (0 ≤ (rd t224 x12_3)) = true := decide_eq_true c80
                                 clear c80
                                 by_cases c81 : (rd t224 x12_3) < (t215.length : Int)
                                 ·rw [if_pos c81] at H
                                  have c81b0 : decide ((rd t224 x12_3) < (t215.length : Int)) = true := decide_eq_true c81
                                  clear c81
                                  by_cases c82 : ((((rd_T33 t216 (rd t227 x13_5)).f0).toList) == (((rd_T33 t215 (rd t224 x12_3)).f0).toList) && (((rd_T33 t216 (rd t227 x13_5)).f1) == ((rd_T33 t215 (rd t224 x12_3)).f1))) = true
                                  ·rw [if_pos c82] at H
                                   have c82b0 : ((((rd_T33 t216 (rd t227 x13_5)).f0).toList) == (((rd_T33 t215 (rd t224 x12_3)).f0).toList) && (((rd_T33 t216 (rd t227 x13_5)).f1) == ((rd_T33 t215 (rd t224 x12_3)).f1))) = true := c82
                                   (try (have c82b1 : decide ((((rd_T33 t216 (rd t227 x13_5)).f0).toList) = (((rd_T33 t215 (rd t224 x12_3)).f0).toList) && (((rd_T33 t216 (rd t227 x13_5)).f1) == ((rd_T33 t215 (rd t224 x12_3)).f1))) = true := by simpa using c82))
                                   (try (have c82b2 : ((((rd_T33 t216 (rd t227 x13_5)).f0).toList) == (((rd_T33 t215 (rd t224 x12_3)).f0).toList) && (((rd_T33 t216 (rd t227 x13_5)).f1) == ((rd_T33 t215 (rd t224 x12_3)).f1))) = true := by simpa using c82))
                                   clear c82
                                   as_aux_lemma =>
                                    obtain rfl := Option.some.inj H
                                    exact absurd hT_.out (by decide)
                                  ·rw [if_neg c82] at H
                                   have c82b0 : ((((rd_T33 t216 (rd t227 x13_5)).f0).toList) == (((rd_T33 t215 (rd t224 x12_3)).f0).toList) && (((rd_T33 t216 (rd t227 x13_5)).f1) == ((rd_T33 t215 (rd t224 x12_3)).f1))) = false := by simpa using c82
                                   (try (have c82b1 : decide ((((rd_T33 t216 (rd t227 x13_5)).f0).toList) = (((rd_T33 t215 (rd t224 x12_3)).f0).toList) && (((rd_T33 t216 (rd t227 x13_5)).f1) == ((rd_T33 t215 (rd t224 x12_3)).f1))) = false := by simpa using c82))
                                   (try (have c82b2 : ((((rd_T33 t216 (rd t227 x13_5)).f0).toList) == (((rd_T33 t215 (rd t224 x12_3)).f0).toList) && (((rd_T33 t216 (rd t227 x13_5)).f1) == ((rd_T33 t215 (rd t224 x12_3)).f1))) = false := by simpa using c82))
                                   (try (have c82b3 : ¬ ((((rd_T33 t216 (rd t227 x13_5)).f0).toList) = (((rd_T33 t215 (rd t224 x12_3)).f0).toList) && (((rd_T33 t216 (rd t227 x13_5)).f1) == ((rd_T33 t215 (rd t224 x12_3)).f1))) := by simpa using c82))
                                   clear c82
                                   as_aux_lemma =>
                                    have H' := Aside0.mk H
                                    clear H
                                    have hcz83_0 : wr.cell? ⟨gb232, 0, none⟩ = some (.slice Ao11 t221.length co11) := (blk_cell BK232.out 0).trans rfl
                                    have hcz83_1 : wr.cell? ⟨gb232, 1, none⟩ = some (.slice (some ad256) t224.length co13) := (blk_cell BK232.out 1).trans rfl
                                    have hcz83_2 : wr.cell? ⟨gb232, 2, none⟩ = some (.slice Ao14 t227.length co14) := (blk_cell BK232.out 2).trans rfl
                                    have hcz83_3 : wr.cell? ⟨gb232, 3, none⟩ = some (.int .i64 t230) := (blk_cell BK232.out 3).trans rfl
                                    have hfz83_0 := blk_frozen BK232.out 0
                                    have hfz83_1 := blk_frozen BK232.out 1
                                    have hfz83_2 := blk_frozen BK232.out 2
                                    have hfz83_3 := blk_frozen BK232.out 3
                                    have p261 : 0 ≤ (x13_5 : Int) := of_decide_eq_true (by first | (with_reducible assumption) | assumption)
                                    have q261 : x13_5 < (t227.length : Int) := of_decide_eq_true (by first | (with_reducible assumption) | assumption)
                                    obtain ⟨ad261, e261, hx261_0⟩ := Kd.at_int (Kd.R_reads' HO_233002.out).2.2 x13_5 p261 q261
                                    cases e261
                                    replace p261 := eq_true p261
                                    replace q261 := eq_true q261
                                    have p262 : 0 ≤ (x13_5 : Int) := of_decide_eq_true (by first | (with_reducible assumption) | assumption)
                                    have q262 : x13_5 < (t227.length : Int) := of_decide_eq_true (by first | (with_reducible assumption) | assumption)
                                    obtain ⟨ad262, e262, hx262_0⟩ := Kd.at_int (Kd.R_reads' HO_233002.out).2.2 x13_5 p262 q262
                                    obtain rfl : ad261 = ad262 := (by injection e262)
                                    replace p262 := eq_true p262
                                    replace q262 := eq_true q262
                                    have p263 : 0 ≤ (x13_5 : Int) := of_decide_eq_true (by first | (with_reducible assumption) | assumption)
                                    have q263 : x13_5 < (t227.length : Int) := of_decide_eq_true (by first | (with_reducible assumption) | assumption)
                                    obtain ⟨ad263, e263, hx263_0⟩ := Kd.at_int (Kd.R_reads' HO_233002.out).2.2 x13_5 p263 q263
                                    obtain rfl : ad261 = ad263 := (by injection e263)
                                    replace p263 := eq_true p263
                                    replace q263 := eq_true q263
                                    have p264 : 0 ≤ ((rd t227 x13_5) : Int) := of_decide_eq_true (by first | (with_reducible assumption) | assumption)
                                    have q264 : (rd t227 x13_5) < (t216.length : Int) := of_decide_eq_true (by first | (with_reducible assumption) | assumption)
                                    obtain ⟨ad264, e264, hx264_0, hx264_1⟩ := at_T33 (Kd.R_reads' HO_4.out).2.2 (rd t227 x13_5) p264 q264
                                    cases e264
                                    replace p264 := eq_true p264
                                    replace q264 := eq_true q264
                                    have p265 : 0 ≤ (x12_3 : Int) := of_decide_eq_true (by first | (with_reducible assumption) | assumption)
                                    have q265 : x12_3 < (t224.length : Int) := of_decide_eq_true (by first | (with_reducible assumption) | assumption)
                                    obtain ⟨ad265, e265, hx265_0⟩ := Kd.at_int (Kd.R_reads' HO_233001.out).2.2 x12_3 p265 q265
                                    obtain rfl : ad256 = ad265 := (by injection e265)
                                    replace p265 := eq_true p265
                                    replace q265 := eq_true q265
                                    have p266 : 0 ≤ ((rd t224 x12_3) : Int) := of_decide_eq_true (by first | (with_reducible assumption) | assumption)
                                    have q266 : (rd t224 x12_3) < (t215.length : Int) := of_decide_eq_true (by first | (with_reducible assumption) | assumption)
                                    obtain ⟨ad266, e266, hx266_0, hx266_1⟩ := at_T33 (Kd.R_reads' HO_3.out).2.2 (rd t224 x12_3) p266 q266
                                    obtain rfl : ad260 = ad266 := (by injection e266)
                                    replace p266 := eq_true p266
                                    replace q266 := eq_true q266
                                    go_wp2
                                    repeat (go_quiet (fail); try go_wp2)
                                    (try simp only [← hl7_5])
                                    go_roundg k5
                                    case measure => have := HJ4.out; have := HK2.out; have := HK3.out; have := HJ54.out; have := HK5.out; omega
                                    case rel => exact ⟨(wrap64 (x13_5 + 1)), (by first | rfl | (simp; done) | (simp [*]; done)), H', ⟨by have := HJ4.out; have := HK2.out; have := HK3.out; have := HJ54.out; have := HK5.out; omega⟩, ⟨by (try simp only [hl7_5]); (with_reducible repeat (first | apply Kd.R_alloc | apply Kd.R_drewN | apply Kd.R_drew)); exact HO_3.out⟩, ⟨by (try simp only [hl7_5]); (with_reducible repeat (first | apply Kd.R_alloc | apply Kd.R_drewN | apply Kd.R_drew)); exact HO_4.out⟩, ⟨by (try simp only [hl7_5]); (with_reducible repeat (first | apply Kd.R_alloc | apply Kd.R_drewN | apply Kd.R_drew)); exact HO_7.out⟩, ⟨by (try simp only [hl7_5]); (with_reducible repeat (first | apply Kd.R_alloc | apply Kd.R_drewN | apply Kd.R_drew)); exact HO_8.out⟩, ⟨by (try simp only [hl7_5]); (with_reducible repeat (first | apply Kd.S_alloc | apply Kd.S_drewN | apply Kd.S_drew)); exact HO_233000.out⟩, ⟨by (try simp only [hl7_5]); (with_reducible repeat (first | apply Kd.R_alloc | apply Kd.R_drewN | apply Kd.R_drew)); exact HO_233001.out⟩, ⟨by (try simp only [hl7_5]); (with_reducible repeat (first | apply Kd.R_alloc | apply Kd.R_drewN | apply Kd.R_drew)); exact HO_233002.out⟩, ⟨by (try simp only [hl7_5]); (with_reducible repeat (first | refine blk_drewN ?_ _ | refine blk_drew ?_ | refine blk_alloc ?_ _)); exact BK232.out⟩, ⟨by repeat (first | (with_reducible first | exact HB.out | apply below_alloc | apply pw_below_drewN | apply below_drew1 | refine below_set ?_ GE232.out) | exact HB.out)⟩⟩
                                 ·rw [if_neg c81] at H
                                  exact absurd H (by simp)
                                ·rw [if_neg c80] at H
                                 exact absurd H (by simp)
                               ·rw [if_neg c79] at H
                                exact absurd H (by simp)
                              ·rw [if_neg c78] at H
                               exact absurd H (by simp)
                             ·rw [if_neg c77] at H
                              exact absurd H (by simp)
                            ·rw [if_neg c76] at H
                             have c76b0 : decide ((rd t227 x13_5) < (t216.length : Int)) = false := decide_eq_false c76
                             clear c76
                             as_aux_lemma =>
                              have H' := Aside0.mk H
                              clear H
                              have hcz84_0 : wr.cell? ⟨gb232, 0, none⟩ = some (.slice Ao11 t221.length co11) := (blk_cell BK232.out 0).trans rfl
                              have hcz84_1 : wr.cell? ⟨gb232, 1, none⟩ = some (.slice (some ad256) t224.length co13) := (blk_cell BK232.out 1).trans rfl
                              have hcz84_2 : wr.cell? ⟨gb232, 2, none⟩ = some (.slice Ao14 t227.length co14) := (blk_cell BK232.out 2).trans rfl
                              have hcz84_3 : wr.cell? ⟨gb232, 3, none⟩ = some (.int .i64 t230) := (blk_cell BK232.out 3).trans rfl
                              have hfz84_0 := blk_frozen BK232.out 0
                              have hfz84_1 := blk_frozen BK232.out 1
                              have hfz84_2 := blk_frozen BK232.out 2
                              have hfz84_3 := blk_frozen BK232.out 3
                              have p261 : 0 ≤ (x13_5 : Int) := of_decide_eq_true (by first | (with_reducible assumption) | assumption)
                              have q261 : x13_5 < (t227.length : Int) := of_decide_eq_true (by first | (with_reducible assumption) | assumption)
                              obtain ⟨ad261, e261, hx261_0⟩ := Kd.at_int (Kd.R_reads' HO_233002.out).2.2 x13_5 p261 q261
                              cases e261
                              replace p261 := eq_true p261
                              replace q261 := eq_true q261
                              have p262 : 0 ≤ (x13_5 : Int) := of_decide_eq_true (by first | (with_reducible assumption) | assumption)
                              have q262 : x13_5 < (t227.length : Int) := of_decide_eq_true (by first | (with_reducible assumption) | assumption)
                              obtain ⟨ad262, e262, hx262_0⟩ := Kd.at_int (Kd.R_reads' HO_233002.out).2.2 x13_5 p262 q262
                              obtain rfl : ad261 = ad262 := (by injection e262)
                              replace p262 := eq_true p262
                              replace q262 := eq_true q262
                              go_wp2
                              repeat (go_quiet (fail); try go_wp2)
                              (try simp only [← hl7_5])
                              go_roundg k5
                              case measure => have := HJ4.out; have := HK2.out; have := HK3.out; have := HJ54.out; have := HK5.out; omega
                              case rel => exact ⟨(wrap64 (x13_5 + 1)), (by first | rfl | (simp; done) | (simp [*]; done)), H', ⟨by have := HJ4.out; have := HK2.out; have := HK3.out; have := HJ54.out; have := HK5.out; omega⟩, ⟨by (try simp only [hl7_5]); (with_reducible repeat (first | apply Kd.R_alloc | apply Kd.R_drewN | apply Kd.R_drew)); exact HO_3.out⟩, ⟨by (try simp only [hl7_5]); (with_reducible repeat (first | apply Kd.R_alloc | apply Kd.R_drewN | apply Kd.R_drew)); exact HO_4.out⟩, ⟨by (try simp only [hl7_5]); (with_reducible repeat (first | apply Kd.R_alloc | apply Kd.R_drewN | apply Kd.R_drew)); exact HO_7.out⟩, ⟨by (try simp only [hl7_5]); (with_reducible repeat (first | apply Kd.R_alloc | apply Kd.R_drewN | apply Kd.R_drew)); exact HO_8.out⟩, ⟨by (try simp only [hl7_5]); (with_reducible repeat (first | apply Kd.S_alloc | apply Kd.S_drewN | apply Kd.S_drew)); exact HO_233000.out⟩, ⟨by (try simp only [hl7_5]); (with_reducible repeat (first | apply Kd.R_alloc | apply Kd.R_drewN | apply Kd.R_drew)); exact HO_233001.out⟩, ⟨by (try simp only [hl7_5]); (with_reducible repeat (first | apply Kd.R_alloc | apply Kd.R_drewN | apply Kd.R_drew)); exact HO_233002.out⟩, ⟨by (try simp only [hl7_5]); (with_reducible repeat (first | refine blk_drewN ?_ _ | refine blk_drew ?_ | refine blk_alloc ?_ _)); exact BK232.out⟩, ⟨by repeat (first | (with_reducible first | exact HB.out | apply below_alloc | apply pw_below_drewN | apply below_drew1 | refine below_set ?_ GE232.out) | exact HB.out)⟩⟩
                           ·rw [if_neg c75] at H
                            have c75b0 : decide (0 ≤ (rd t227 x13_5)) = false := decide_eq_false c75
                            clear c75
                            as_aux_lemma =>
                             have H' := Aside0.mk H
                             clear H
                             have hcz85_0 : wr.cell? ⟨gb232, 0, none⟩ = some (.slice Ao11 t221.length co11) := (blk_cell BK232.out 0).trans rfl
                             have hcz85_1 : wr.cell? ⟨gb232, 1, none⟩ = some (.slice (some ad256) t224.length co13) := (blk_cell BK232.out 1).trans rfl
                             have hcz85_2 : wr.cell? ⟨gb232, 2, none⟩ = some (.slice Ao14 t227.length co14) := (blk_cell BK232.out 2).trans rfl
                             have hcz85_3 : wr.cell? ⟨gb232, 3, none⟩ = some (.int .i64 t230) := (blk_cell BK232.out 3).trans rfl
                             have hfz85_0 := blk_frozen BK232.out 0
                             have hfz85_1 := blk_frozen BK232.out 1
                             have hfz85_2 := blk_frozen BK232.out 2
                             have hfz85_3 := blk_frozen BK232.out 3
                             have p261 : 0 ≤ (x13_5 : Int) := of_decide_eq_true (by first | (with_reducible assumption) | assumption)
                             have q261 : x13_5 < (t227.length : Int) := of_decide_eq_true (by first | (with_reducible assumption) | assumption)
                             obtain ⟨ad261, e261, hx261_0⟩ := Kd.at_int (Kd.R_reads' HO_233002.out).2.2 x13_5 p261 q261
                             cases e261
                             replace p261 := eq_true p261
                             replace q261 := eq_true q261
                             go_wp2
                             repeat (go_quiet (fail); try go_wp2)
                             (try simp only [← hl7_5])
                             go_roundg k5
                             case measure => have := HJ4.out; have := HK2.out; have := HK3.out; have := HJ54.out; have := HK5.out; omega
                             case rel => exact ⟨(wrap64 (x13_5 + 1)), (by first | rfl | (simp; done) | (simp [*]; done)), H', ⟨by have := HJ4.out; have := HK2.out; have := HK3.out; have := HJ54.out; have := HK5.out; omega⟩, ⟨by (try simp only [hl7_5]); (with_reducible repeat (first | apply Kd.R_alloc | apply Kd.R_drewN | apply Kd.R_drew)); exact HO_3.out⟩, ⟨by (try simp only [hl7_5]); (with_reducible repeat (first | apply Kd.R_alloc | apply Kd.R_drewN | apply Kd.R_drew)); exact HO_4.out⟩, ⟨by (try simp only [hl7_5]); (with_reducible repeat (first | apply Kd.R_alloc | apply Kd.R_drewN | apply Kd.R_drew)); exact HO_7.out⟩, ⟨by (try simp only [hl7_5]); (with_reducible repeat (first | apply Kd.R_alloc | apply Kd.R_drewN | apply Kd.R_drew)); exact HO_8.out⟩, ⟨by (try simp only [hl7_5]); (with_reducible repeat (first | apply Kd.S_alloc | apply Kd.S_drewN | apply Kd.S_drew)); exact HO_233000.out⟩, ⟨by (try simp only [hl7_5]); (with_reducible repeat (first | apply Kd.R_alloc | apply Kd.R_drewN | apply Kd.R_drew)); exact HO_233001.out⟩, ⟨by (try simp only [hl7_5]); (with_reducible repeat (first | apply Kd.R_alloc | apply Kd.R_drewN | apply Kd.R_drew)); exact HO_233002.out⟩, ⟨by (try simp only [hl7_5]); (with_reducible repeat (first | refine blk_drewN ?_ _ | refine blk_drew ?_ | refine blk_alloc ?_ _)); exact BK232.out⟩, ⟨by repeat (first | (with_reducible first | exact HB.out | apply below_alloc | apply pw_below_drewN | apply below_drew1 | refine below_set ?_ GE232.out) | exact HB.out)⟩⟩
                          ·rw [if_neg c74] at H
                           exact absurd H (by simp)
                         ·rw [if_neg c73] at H
                          have c73b0 : decide (x13_5 < (t227.length : Int)) = false := decide_eq_false c73
                          clear c73
                          as_aux_lemma =>
                           have H' := Aside0.mk H
                           clear H
                           have hcz86_0 : wr.cell? ⟨gb232, 0, none⟩ = some (.slice Ao11 t221.length co11) := (blk_cell BK232.out 0).trans rfl
                           have hcz86_1 : wr.cell? ⟨gb232, 1, none⟩ = some (.slice (some ad256) t224.length co13) := (blk_cell BK232.out 1).trans rfl
                           have hcz86_2 : wr.cell? ⟨gb232, 2, none⟩ = some (.slice Ao14 t227.length co14) := (blk_cell BK232.out 2).trans rfl
                           have hcz86_3 : wr.cell? ⟨gb232, 3, none⟩ = some (.int .i64 t230) := (blk_cell BK232.out 3).trans rfl
                           have hfz86_0 := blk_frozen BK232.out 0
                           have hfz86_1 := blk_frozen BK232.out 1
                           have hfz86_2 := blk_frozen BK232.out 2
                           have hfz86_3 := blk_frozen BK232.out 3
                           go_wp2
                           repeat (go_quiet (fail); try go_wp2)
                           (try simp only [← hl7_5])
                           go_roundg k5
                           case measure => have := HJ4.out; have := HK2.out; have := HK3.out; have := HJ54.out; have := HK5.out; omega
                           case rel => exact ⟨(y258), ((wrap64 (x11_3 + ((rd_T33 t215 (rd t224 x12_3)).f1)))), (wrap64 (x12_3 + 1)), (by first | rfl | (simp; done) | (simp [*]; done)), (by first | rfl | (simp; done) | (simp [*]; done)), H', ⟨by have := HJ4.out; have := HK2.out; have := HK3.out; have := HJ54.out; have := HK5.out; omega⟩, ⟨by (try simp only [hl7_5]); (with_reducible repeat (first | apply Kd.R_alloc | apply Kd.R_drewN | apply Kd.R_drew)); exact HO_3.out⟩, ⟨by (try simp only [hl7_5]); (with_reducible repeat (first | apply Kd.R_alloc | apply Kd.R_drewN | apply Kd.R_drew)); exact HO_4.out⟩, ⟨by (try simp only [hl7_5]); (with_reducible repeat (first | apply Kd.R_alloc | apply Kd.R_drewN | apply Kd.R_drew)); exact HO_7.out⟩, ⟨by (try simp only [hl7_5]); (with_reducible repeat (first | apply Kd.R_alloc | apply Kd.R_drewN | apply Kd.R_drew)); exact HO_8.out⟩, ⟨by (try simp only [hl7_5]); (with_reducible repeat (first | apply Kd.S_alloc | apply Kd.S_drewN | apply Kd.S_drew)); exact HO_233000.out⟩, ⟨by (try simp only [hl7_5]); (with_reducible repeat (first | apply Kd.R_alloc | apply Kd.R_drewN | apply Kd.R_drew)); exact HO_233001.out⟩, ⟨by (try simp only [hl7_5]); (with_reducible repeat (first | apply Kd.R_alloc | apply Kd.R_drewN | apply Kd.R_drew)); exact HO_233002.out⟩, ⟨by (try simp only [hl7_5]); (with_reducible repeat (first | refine blk_drewN ?_ _ | refine blk_drew ?_ | refine blk_alloc ?_ _)); exact BK232.out⟩, ⟨by repeat (first | (with_reducible first | exact HB.out | apply below_alloc | apply pw_below_drewN | apply below_drew1 | refine below_set ?_ GE232.out) | exact HB.out)⟩⟩
                      ·rw [if_neg c67] at H
                       exact absurd H (by simp)
                     ·rw [if_neg c65] at H
                      exact absurd H (by simp)
                    ·rw [if_neg c64] at H
                     exact absurd H (by simp)
                   ·rw [if_neg c63] at H
                    exact absurd H (by simp)
                  ·rw [if_neg c62] at H
                   exact absurd H (by simp)
              ·rw [if_neg c54] at H
               have c54b0 : decide (x12_3 < (t224.length : Int)) = false := decide_eq_false c54
               clear c54
               have H' := Aside0.mk H
               clear H
               have hcz87_0 : wr.cell? ⟨gb232, 0, none⟩ = some (.slice Ao11 t221.length co11) := (blk_cell BK232.out 0).trans rfl
               have hcz87_1 : wr.cell? ⟨gb232, 1, none⟩ = some (.slice Ao13 t224.length co13) := (blk_cell BK232.out 1).trans rfl
               have hcz87_2 : wr.cell? ⟨gb232, 2, none⟩ = some (.slice Ao14 t227.length co14) := (blk_cell BK232.out 2).trans rfl
               have hcz87_3 : wr.cell? ⟨gb232, 3, none⟩ = some (.int .i64 t230) := (blk_cell BK232.out 3).trans rfl
               have hfz87_0 := blk_frozen BK232.out 0
               have hfz87_1 := blk_frozen BK232.out 1
               have hfz87_2 := blk_frozen BK232.out 2
               have hfz87_3 := blk_frozen BK232.out 3
               go_wp2
               repeat (go_quiet (fail); try go_wp2)
               go_loopg [11, 14] k3 (fun kq v11 v14 w' => ∃ (x8_4 : List Int) (x11_4 : Int) (x14_4 : Int), v11 = .int .i64 x11_4 ∧ v14 = .int .i64 x14_4 ∧ Aside0 (laws_FnSettle.l3 kq t216 x7_3 x8_4 x11_4 x14_4 t221 t224 t227 t230 = some r) ∧ Aside0 (kq ≤ k3) ∧ Aside0 (Kd.R k33 33 w' w.heap.size (fun _ => True) (.slice Ao8 t216.length co8) t216) ∧ Aside0 (Kd.R (Kd.int .i64) 3 w' w.heap.size (fun k_ => some k_ ≠ (v237 : Value).ownBlock ∧ some k_ ≠ ((.slice Ao13 t224.length co13) : Value).ownBlock ∧ some k_ ≠ ((.slice Ao14 t227.length co14) : Value).ownBlock) v234 x7_3) ∧ Aside0 (Kd.R (Kd.int .i64) 3 w' w.heap.size (fun k_ => some k_ ≠ (v234 : Value).ownBlock ∧ some k_ ≠ ((.slice Ao13 t224.length co13) : Value).ownBlock ∧ some k_ ≠ ((.slice Ao14 t227.length co14) : Value).ownBlock) v237 x8_4) ∧ Aside0 (Kd.S (Kd.slice 3 (Kd.int .i64)) 27 w' w.heap.size (fun k_ => some k_ ≠ (v234 : Value).ownBlock ∧ some k_ ≠ (v237 : Value).ownBlock ∧ some k_ ≠ ((.slice Ao13 t224.length co13) : Value).ownBlock ∧ some k_ ≠ ((.slice Ao14 t227.length co14) : Value).ownBlock) (.slice Ao11 t221.length co11) t221) ∧ Aside0 (Kd.R (Kd.int .i64) 3 w' w.heap.size (fun k_ => some k_ ≠ (v234 : Value).ownBlock ∧ some k_ ≠ (v237 : Value).ownBlock ∧ some k_ ≠ ((.slice Ao14 t227.length co14) : Value).ownBlock) (.slice Ao13 t224.length co13) t224) ∧ Aside0 (Kd.R (Kd.int .i64) 3 w' w.heap.size (fun k_ => some k_ ≠ (v234 : Value).ownBlock ∧ some k_ ≠ (v237 : Value).ownBlock ∧ some k_ ≠ ((.slice Ao13 t224.length co13) : Value).ownBlock) (.slice Ao14 t227.length co14) t227) ∧ Aside0 (w'.heap[gb232]? = some (.cells #[(.slice Ao11 t221.length co11), (.slice Ao13 t224.length co13), (.slice Ao14 t227.length co14), .int .i64 t230] 29 (0, 0))) ∧ Aside0 (Below w.heap.size w w'))
               case atStart => exact ⟨(x8_2), (x11_3), (0), (by first | rfl | (simp; done) | (simp [*]; done)), (by first | rfl | (simp; done) | (simp [*]; done)), H', ⟨Nat.le_refl _⟩, ⟨by (with_reducible repeat (first | apply Kd.R_alloc | apply Kd.R_drewN | apply Kd.R_drew)); exact Kd.R_mono HO_4.out (fun _ hk => trivial)⟩, ⟨by (with_reducible repeat (first | apply Kd.R_alloc | apply Kd.R_drewN | apply Kd.R_drew)); exact HO_7.out⟩, ⟨by (with_reducible repeat (first | apply Kd.R_alloc | apply Kd.R_drewN | apply Kd.R_drew)); exact HO_8.out⟩, ⟨by (with_reducible repeat (first | apply Kd.S_alloc | apply Kd.S_drewN | apply Kd.S_drew)); exact HO_233000.out⟩, ⟨by (with_reducible repeat (first | apply Kd.R_alloc | apply Kd.R_drewN | apply Kd.R_drew)); exact HO_233001.out⟩, ⟨by (with_reducible repeat (first | apply Kd.R_alloc | apply Kd.R_drewN | apply Kd.R_drew)); exact HO_233002.out⟩, ⟨by (with_reducible repeat (first | refine blk_drewN ?_ _ | refine blk_drew ?_ | refine blk_alloc ?_ _)); exact BK232.out⟩, ⟨by repeat (first | (with_reducible first | exact HB.out | apply below_alloc | apply pw_below_drewN | apply below_drew1 | refine below_set ?_ GE232.out) | exact HB.out)⟩⟩
               case round =>
                clear H'
                (try clear c5); (try clear c6); (try clear q6); (try clear hx6); (try clear hf6); (try clear c7); (try clear c8); (try clear p26); (try clear q26); (try clear hx26); (try clear c54); (try clear c54b0); (try clear c57); (try clear c57b0); (try clear c58); (try clear c58b0); (try clear c61); (try clear c62); (try clear c62b0); (try clear c63); (try clear c63b0); (try clear c64); (try clear c64b0); (try clear p64); (try clear c65); (try clear c65b0); (try clear p66); (try clear q66); (try clear hx66); (try clear hf66); (try clear c67); (try clear c67b0); (try clear c73); (try clear c73b0); (try clear c74); (try clear c74b0); (try clear c75); (try clear c75b0); (try clear c76); (try clear c76b0); (try clear c77); (try clear c77b0); (try clear c78); (try clear c78b0); (try clear c79); (try clear c79b0); (try clear c80); (try clear c80b0); (try clear c81); (try clear c81b0); (try clear c82); (try clear c82b0); (try clear c82b1); (try clear c82b2); (try clear hcz56_0); (try clear hcz56_1); (try clear hcz56_2); (try clear hcz56_3); (try clear hcz59_0); (try clear hcz59_1); (try clear hcz59_2); (try clear hcz59_3); (try clear hcz60_0); (try clear hcz60_1); (try clear hcz60_2); (try clear hcz60_3); (try clear hcz68_0); (try clear hcz68_1); (try clear hcz68_2); (try clear hcz68_3); (try clear hcz72_0); (try clear hcz72_1); (try clear hcz72_2); (try clear hcz72_3); (try clear hcz83_0); (try clear hcz83_1); (try clear hcz83_2); (try clear hcz83_3); (try clear hcz84_0); (try clear hcz84_1); (try clear hcz84_2); (try clear hcz84_3); (try clear hcz85_0); (try clear hcz85_1); (try clear hcz85_2); (try clear hcz85_3); (try clear hcz86_0); (try clear hcz86_1); (try clear hcz86_2); (try clear hcz86_3); (try clear hcz87_0); (try clear hcz87_1); (try clear hcz87_2); (try clear hcz87_3); (try clear hfz56_0); (try clear hfz56_1); (try clear hfz56_2); (try clear hfz56_3); (try clear hfz59_0); (try clear hfz59_1); (try clear hfz59_2); (try clear hfz59_3); (try clear hfz60_0); (try clear hfz60_1); (try clear hfz60_2); (try clear hfz60_3); (try clear hfz68_0); (try clear hfz68_1); (try clear hfz68_2); (try clear hfz68_3); (try clear hfz72_0); (try clear hfz72_1); (try clear hfz72_2); (try clear hfz72_3); (try clear hfz83_0); (try clear hfz83_1); (try clear hfz83_2); (try clear hfz83_3); (try clear hfz84_0); (try clear hfz84_1); (try clear hfz84_2); (try clear hfz84_3); (try clear hfz85_0); (try clear hfz85_1); (try clear hfz85_2); (try clear hfz85_3); (try clear hfz86_0); (try clear hfz86_1); (try clear hfz86_2); (try clear hfz86_3); (try clear hfz87_0); (try clear hfz87_1); (try clear hfz87_2); (try clear hfz87_3); (try clear hx254_0); (try clear hx255_0); (try clear hx256_0); (try clear hx257_0); (try clear hx259_0); (try clear hx260_0); (try clear hx260_1); (try clear hx261_0); (try clear hx262_0); (try clear hx263_0); (try clear hx264_0); (try clear hx264_1); (try clear hx265_0); (try clear hx266_0); (try clear hx266_1); (try clear hx66_0); (try clear p254); (try clear p255); (try clear p256); (try clear p257); (try clear p259); (try clear p260); (try clear p261); (try clear p262); (try clear p263); (try clear p264); (try clear p265); (try clear p266); (try clear q254); (try clear q255); (try clear q256); (try clear q257); (try clear q259); (try clear q260); (try clear q261); (try clear q262); (try clear q263); (try clear q264); (try clear q265); (try clear q266)
                obtain ⟨x8_4, x11_4, x14_4, rfl, rfl, HA, HK4, HO_4, HO_7, HO_8, HO_233000, HO_233001, HO_233002, BK232, HB⟩ := hrel
                cases gk with
                | zero => exact absurd HA.out (by simp [laws_FnSettle.l3])
                | succ k4 =>
                 have H := HA.out
                 clear HA
                 simp only [laws_FnSettle.l3] at H
                 by_cases c88 : x14_4 < (t227.length : Int)
                 ·rw [if_pos c88] at H
                  have c88b0 : decide (x14_4 < (t227.length : Int)) = true := decide_eq_true c88
                  clear c88
                  by_cases c89 : 0 ≤ x14_4
                  ·rw [if_pos c89] at H
                   have c89b0 : decide (0 ≤ x14_4) = true := decide_eq_true c89
                   clear c89
                   by_cases c90 : (rd t227 x14_4) < 0
                   ·rw [if_pos c90] at H
                    have c90b0 : decide ((rd t227 x14_4) < 0) = true := decide_eq_true c90
                    clear c90
                    as_aux_lemma =>
                     obtain rfl := Option.some.inj H
                     exact absurd hT_.out (by decide)
                   ·rw [if_neg c90] at H
                    have c90b0 : decide ((rd t227 x14_4) < 0) = false := decide_eq_false c90
                    clear c90
                    by_cases c91 : (rd t227 x14_4) ≥ (t216.length : Int)
                    ·rw [if_pos c91] at H
                     have c91b0 : decide ((t216.length : Int) ≤ (rd t227 x14_4)) = true := decide_eq_true c91
                     clear c91
                     as_aux_lemma =>
                      obtain rfl := Option.some.inj H
                      exact absurd hT_.out (by decide)
                    ·rw [if_neg c91] at H
                     have c91b0 : decide ((t216.length : Int) ≤ (rd t227 x14_4)) = false := decide_eq_false c91
                     clear c91
                     by_cases c92 : 0 ≤ (rd t227 x14_4)
                     ·rw [if_pos c92] at H
                      have c92b0 : decide (0 ≤ (rd t227 x14_4)) = true := decide_eq_true c92
                      clear c92
                      by_cases c93 : (rd t227 x14_4) < (x8_4.length : Int)
                      ·rw [if_pos c93] at H
                       have c93b0 : decide ((rd t227 x14_4) < (x8_4.length : Int)) = true := decide_eq_true c93
                       clear c93
                       obtain ⟨y271, hy271⟩ : ∃ y_ : List Int, y_ = (x8_4.set ((rd t227 x14_4) : Int).toNat (wrap64 ((rd x8_4 (rd t227 x14_4)) + 1))) := ⟨_, rfl⟩
                       replace H : (if (rd t227 x14_4) < (t216.length : Int) then (laws_FnSettle.l3 k4 t216 x7_3 y271 (wrap64 (x11_4 - ((rd_T33 t216 (rd t227 x14_4)).f1))) (wrap64 (x14_4 + 1)) t221 t224 t227 t230) else (none)) = some r := by first | (rw [hy271]; with_reducible exact H) | (have H2_ := (Option.bind_some _ _).symm.trans H; rw [hy271]; with_reducible exact H2_) | (have H2_ := (Option.bind_some _ _).symm.trans H; with_reducible exact H2_) | with_reducible exact H | (rw [hy271]; exact H) | exact H
                       have Ny271 := Aside0.mk hy271
                       clear hy271
                       by_cases c95 : (rd t227 x14_4) < (t216.length : Int)
                       ·rw [if_pos c95] at H
                        have c95b0 : decide ((rd t227 x14_4) < (t216.length : Int)) = true := decide_eq_true c95
                        clear c95
                        as_aux_lemma =>
                         have H' := Aside0.mk H
                         clear H
                         have hcz96_0 : wr.cell? ⟨gb232, 0, none⟩ = some (.slice Ao11 t221.length co11) := (blk_cell BK232.out 0).trans rfl
                         have hcz96_1 : wr.cell? ⟨gb232, 1, none⟩ = some (.slice Ao13 t224.length co13) := (blk_cell BK232.out 1).trans rfl
                         have hcz96_2 : wr.cell? ⟨gb232, 2, none⟩ = some (.slice Ao14 t227.length co14) := (blk_cell BK232.out 2).trans rfl
                         have hcz96_3 : wr.cell? ⟨gb232, 3, none⟩ = some (.int .i64 t230) := (blk_cell BK232.out 3).trans rfl
                         have hfz96_0 := blk_frozen BK232.out 0
                         have hfz96_1 := blk_frozen BK232.out 1
                         have hfz96_2 := blk_frozen BK232.out 2
                         have hfz96_3 := blk_frozen BK232.out 3
                         have p267 : 0 ≤ (x14_4 : Int) := of_decide_eq_true (by first | (with_reducible assumption) | assumption)
                         have q267 : x14_4 < (t227.length : Int) := of_decide_eq_true (by first | (with_reducible assumption) | assumption)
                         obtain ⟨ad267, e267, hx267_0⟩ := Kd.at_int (Kd.R_reads' HO_233002.out).2.2 x14_4 p267 q267
                         cases e267
                         replace p267 := eq_true p267
                         replace q267 := eq_true q267
                         have p268 : 0 ≤ (x14_4 : Int) := of_decide_eq_true (by first | (with_reducible assumption) | assumption)
                         have q268 : x14_4 < (t227.length : Int) := of_decide_eq_true (by first | (with_reducible assumption) | assumption)
                         obtain ⟨ad268, e268, hx268_0⟩ := Kd.at_int (Kd.R_reads' HO_233002.out).2.2 x14_4 p268 q268
                         obtain rfl : ad267 = ad268 := (by injection e268)
                         replace p268 := eq_true p268
                         replace q268 := eq_true q268
                         have p269 : 0 ≤ (x14_4 : Int) := of_decide_eq_true (by first | (with_reducible assumption) | assumption)
                         have q269 : x14_4 < (t227.length : Int) := of_decide_eq_true (by first | (with_reducible assumption) | assumption)
                         obtain ⟨ad269, e269, hx269_0⟩ := Kd.at_int (Kd.R_reads' HO_233002.out).2.2 x14_4 p269 q269
                         obtain rfl : ad267 = ad269 := (by injection e269)
                         replace p269 := eq_true p269
                         replace q269 := eq_true q269
                         obtain ⟨Ao97, co97, eo97⟩ := Kd.R_slice HO_8.out
                         subst eo97
                         have p270 : 0 ≤ ((rd t227 x14_4) : Int) := of_decide_eq_true (by first | (with_reducible assumption) | assumption)
                         have q270 : (rd t227 x14_4) < (x8_4.length : Int) := of_decide_eq_true (by first | (with_reducible assumption) | assumption)
                         obtain ⟨ad270, e270, hx270_0⟩ := Kd.at_int (Kd.R_reads' HO_8.out).2.2 (rd t227 x14_4) p270 q270
                         cases e270
                         replace p270 := eq_true p270
                         replace q270 := eq_true q270
                         have p94 : 0 ≤ ((rd t227 x14_4) : Int) := of_decide_eq_true (by first | (with_reducible assumption) | assumption)
                         have q94 : ((rd t227 x14_4) : Int) < ((x8_4.length : Int) : Int) := of_decide_eq_true (by first | (with_reducible assumption) | assumption)
                         obtain ⟨go94, co94, eo94, gb94, gl94, cl94, HG94⟩ := Kd.R_form HO_8.out (by omega)
                         (first | cases eo94 | (injection eo94 with ea_ en_ ec_; (first | subst ea_ | (injection ea_ with ea_; subst ea_)); subst ec_; clear en_))
                         have GB94 := Aside0.mk gb94
                         have GG94 := Aside0.mk HG94
                         clear gb94 gl94 HG94
                         (first | simp only [add_plain] at hx270_0 | skip)
                         obtain ⟨hx94_0, hf94_0⟩ := Kd.R_celln 0 HO_8.out ((rd t227 x14_4) : Int) p94 q94
                         replace p94 := eq_true p94
                         replace q94 := eq_true q94
                         have HP98 := Kd.R_putg HO_8.out ((rd t227 x14_4) : Int) (wrap64 ((rd x8_4 (rd t227 x14_4)) + 1))
                         go_wp2_with (first | ((with_reducible refine gate_store (t := 3) (p := 255) rfl ?_); (try (rw [drewN_self wr]; generalize hq_ : World.drewN wr _ = wr; have n0_ := Aside0.mk (Kd.R_at hq_ HO_4.out); have n1_ := Aside0.mk (Kd.R_at hq_ HO_7.out); have n2_ := Aside0.mk (Kd.R_at hq_ HO_8.out); have n3_ := Aside0.mk (Kd.S_at hq_ HO_233000.out); have n4_ := Aside0.mk (Kd.R_at hq_ HO_233001.out); have n5_ := Aside0.mk (Kd.R_at hq_ HO_233002.out); have n6_ := Aside0.mk (blk_at hq_ BK232.out); have n7_ := Aside0.mk (below_at hq_ HB.out); (try have hx94_0 := cell_at hq_ hx94_0); (try have hf94_0 : World.frozen? wr ⟨go94, ((rd t227 x14_4) : Int).toNat, none⟩ = false := by rw [← hq_]; exact hf94_0); clear hq_ HO_4 HO_7 HO_8 HO_233000 HO_233001 HO_233002 BK232 HB; have HO_4 := n0_; have HO_7 := n1_; have HO_8 := n2_; have HO_233000 := n3_; have HO_233001 := n4_; have HO_233002 := n5_; have BK232 := n6_; have HB := n7_; clear n0_ n1_ n2_ n3_ n4_ n5_ n6_ n7_; (try (have HP98 := Kd.R_putg HO_8.out ((rd t227 x14_4) : Int) (wrap64 ((rd x8_4 (rd t227 x14_4)) + 1)))))); refine store_event (t := 3) (p := 255) (v := ?vo_w99) (w1 := (wr.setCell ⟨go94, ((rd t227 x14_4) : Int).toNat, none⟩ (.int .i64 (wrap64 ((rd x8_4 (rd t227 x14_4)) + 1))))) ?hg ?ho ?hn ?hr ?_; (case ho => rfl); (case hg => rfl); (case hn => rfl); (case hr => first | (go_simp; done) | (go_simp; rfl)); intro w99 hw; have hg : wr.grownBy w99 (some go94) := (by rw [hw]; exact HP98.2); have hp_ : Kd.R (Kd.int .i64) 3 w99 w.heap.size (fun k_ => some k_ ≠ (v234 : Value).ownBlock ∧ some k_ ≠ (.slice Ao13 t224.length co13 : Value).ownBlock ∧ some k_ ≠ (.slice (some ad267) t227.length co14 : Value).ownBlock) (.slice (some ⟨go94, 0, none⟩) x8_4.length co97) y271 := (by rw [hw, Ny271.out]; exact HP98.1); clear HP98; have n0_ := Aside0.mk (Kd.R_over' (v := (.slice (some ⟨go94, 0, none⟩) x8_4.length co97)) (by (with_reducible repeat (first | apply Kd.R_alloc | apply Kd.R_drewN | apply Kd.R_drew)); exact HO_4.out) (Kd.R_typed HO_8.out) (by decide) hg); have n1_ := Aside0.mk (Kd.R_after (v := (.slice (some ⟨go94, 0, none⟩) x8_4.length co97)) (v1 := (.slice (some ⟨go94, 0, none⟩) x8_4.length co97)) (ok := (fun k_ => some k_ ≠ (.slice Ao13 t224.length co13 : Value).ownBlock ∧ some k_ ≠ (.slice (some ad267) t227.length co14 : Value).ownBlock)) (by (with_reducible repeat (first | apply Kd.R_alloc | apply Kd.R_drewN | apply Kd.R_drew)); exact Kd.R_mono HO_7.out (fun _ hk => ⟨⟨hk.2.1, hk.2.2⟩, hk.1⟩)) hg (.inl rfl)); have n2_ := Aside0.mk (hp_); have n3_ := Aside0.mk (Kd.S_after (v := (.slice (some ⟨go94, 0, none⟩) x8_4.length co97)) (v1 := (.slice (some ⟨go94, 0, none⟩) x8_4.length co97)) (ok := (fun k_ => some k_ ≠ (v234 : Value).ownBlock ∧ some k_ ≠ (.slice Ao13 t224.length co13 : Value).ownBlock ∧ some k_ ≠ (.slice (some ad267) t227.length co14 : Value).ownBlock)) (by (with_reducible repeat (first | apply Kd.S_alloc | apply Kd.S_drewN | apply Kd.S_drew)); exact Kd.S_mono HO_233000.out (fun _ hk => ⟨⟨hk.1, ⟨hk.2.2.1, hk.2.2.2⟩⟩, hk.2.1⟩)) hg (.inl rfl)); have n4_ := Aside0.mk (Kd.R_after (v := (.slice (some ⟨go94, 0, none⟩) x8_4.length co97)) (v1 := (.slice (some ⟨go94, 0, none⟩) x8_4.length co97)) (ok := (fun k_ => some k_ ≠ (v234 : Value).ownBlock ∧ some k_ ≠ (.slice (some ad267) t227.length co14 : Value).ownBlock)) (by (with_reducible repeat (first | apply Kd.R_alloc | apply Kd.R_drewN | apply Kd.R_drew)); exact Kd.R_mono HO_233001.out (fun _ hk => ⟨⟨hk.1, hk.2.2⟩, hk.2.1⟩)) hg (.inl rfl)); have n5_ := Aside0.mk (Kd.R_after (v := (.slice (some ⟨go94, 0, none⟩) x8_4.length co97)) (v1 := (.slice (some ⟨go94, 0, none⟩) x8_4.length co97)) (ok := (fun k_ => some k_ ≠ (v234 : Value).ownBlock ∧ some k_ ≠ (.slice Ao13 t224.length co13 : Value).ownBlock)) (by (with_reducible repeat (first | apply Kd.R_alloc | apply Kd.R_drewN | apply Kd.R_drew)); exact Kd.R_mono HO_233002.out (fun _ hk => ⟨⟨hk.1, hk.2.2⟩, hk.2.1⟩)) hg (.inl rfl)); have n6_ := Aside0.mk (blk_grown (g := gb232) (o := .cells #[.slice Ao11 t221.length co11, .slice Ao13 t224.length co13, .slice (some ad267) t227.length co14, .int .i64 t230] 29 (0, 0)) (by (with_reducible repeat (first | refine blk_drewN ?_ _ | refine blk_drew ?_ | refine blk_alloc ?_ _)); exact BK232.out) hg (Kd.R_ne HO_8.out BK232.out (by decide))); have n7_ := Aside0.mk ((by rw [hw]; exact below_set (HB.out) GB94.out : Below w.heap.size w w99)); clear HO_4; clear HO_7; clear HO_8; clear HO_233000; clear HO_233001; clear HO_233002; clear BK232; clear HB; have HO_4 := n0_; have HO_7 := n1_; have HO_8 := n2_; have HO_233000 := n3_; have HO_233001 := n4_; have HO_233002 := n5_; have BK232 := n6_; have HB := n7_; clear n0_ n1_ n2_ n3_ n4_ n5_ n6_ n7_; clear hg hw hp_; have hcz100_0 : w99.cell? ⟨gb232, 0, none⟩ = some (.slice Ao11 t221.length co11) := (blk_cell BK232.out 0).trans rfl; have hcz100_1 : w99.cell? ⟨gb232, 1, none⟩ = some (.slice Ao13 t224.length co13) := (blk_cell BK232.out 1).trans rfl; have hcz100_2 : w99.cell? ⟨gb232, 2, none⟩ = some (.slice (some ad267) t227.length co14) := (blk_cell BK232.out 2).trans rfl; have hcz100_3 : w99.cell? ⟨gb232, 3, none⟩ = some (.int .i64 t230) := (blk_cell BK232.out 3).trans rfl; have hfz100_0 := blk_frozen BK232.out 0; have hfz100_1 := blk_frozen BK232.out 1; have hfz100_2 := blk_frozen BK232.out 2; have hfz100_3 := blk_frozen BK232.out 3; have p272 : 0 ≤ (x14_4 : Int) := of_decide_eq_true (by first | (with_reducible assumption) | assumption); have q272 : x14_4 < (t227.length : Int) := of_decide_eq_true (by first | (with_reducible assumption) | assumption); obtain ⟨ad272, e272, hx272_0⟩ := Kd.at_int (Kd.R_reads' HO_233002.out).2.2 x14_4 p272 q272; obtain rfl : ad267 = ad272 := (by injection e272); replace p272 := eq_true p272; replace q272 := eq_true q272; have p273 : 0 ≤ ((rd t227 x14_4) : Int) := of_decide_eq_true (by first | (with_reducible assumption) | assumption); have q273 : (rd t227 x14_4) < (t216.length : Int) := of_decide_eq_true (by first | (with_reducible assumption) | assumption); obtain ⟨ad273, e273, hx273_0, hx273_1⟩ := at_T33 (Kd.R_reads' HO_4.out).2.2 (rd t227 x14_4) p273 q273; cases e273; replace p273 := eq_true p273; replace q273 := eq_true q273))
                         repeat (go_quiet (first | ((with_reducible refine gate_store (t := 3) (p := 255) rfl ?_); (try (rw [drewN_self wr]; generalize hq_ : World.drewN wr _ = wr; have n0_ := Aside0.mk (Kd.R_at hq_ HO_4.out); have n1_ := Aside0.mk (Kd.R_at hq_ HO_7.out); have n2_ := Aside0.mk (Kd.R_at hq_ HO_8.out); have n3_ := Aside0.mk (Kd.S_at hq_ HO_233000.out); have n4_ := Aside0.mk (Kd.R_at hq_ HO_233001.out); have n5_ := Aside0.mk (Kd.R_at hq_ HO_233002.out); have n6_ := Aside0.mk (blk_at hq_ BK232.out); have n7_ := Aside0.mk (below_at hq_ HB.out); (try have hx94_0 := cell_at hq_ hx94_0); (try have hf94_0 : World.frozen? wr ⟨go94, ((rd t227 x14_4) : Int).toNat, none⟩ = false := by rw [← hq_]; exact hf94_0); clear hq_ HO_4 HO_7 HO_8 HO_233000 HO_233001 HO_233002 BK232 HB; have HO_4 := n0_; have HO_7 := n1_; have HO_8 := n2_; have HO_233000 := n3_; have HO_233001 := n4_; have HO_233002 := n5_; have BK232 := n6_; have HB := n7_; clear n0_ n1_ n2_ n3_ n4_ n5_ n6_ n7_; (try (have HP98 := Kd.R_putg HO_8.out ((rd t227 x14_4) : Int) (wrap64 ((rd x8_4 (rd t227 x14_4)) + 1)))))); refine store_event (t := 3) (p := 255) (v := ?vo_w99) (w1 := (wr.setCell ⟨go94, ((rd t227 x14_4) : Int).toNat, none⟩ (.int .i64 (wrap64 ((rd x8_4 (rd t227 x14_4)) + 1))))) ?hg ?ho ?hn ?hr ?_; (case ho => rfl); (case hg => rfl); (case hn => rfl); (case hr => first | (go_simp; done) | (go_simp; rfl)); intro w99 hw; have hg : wr.grownBy w99 (some go94) := (by rw [hw]; exact HP98.2); have hp_ : Kd.R (Kd.int .i64) 3 w99 w.heap.size (fun k_ => some k_ ≠ (v234 : Value).ownBlock ∧ some k_ ≠ (.slice Ao13 t224.length co13 : Value).ownBlock ∧ some k_ ≠ (.slice (some ad267) t227.length co14 : Value).ownBlock) (.slice (some ⟨go94, 0, none⟩) x8_4.length co97) y271 := (by rw [hw, Ny271.out]; exact HP98.1); clear HP98; have n0_ := Aside0.mk (Kd.R_over' (v := (.slice (some ⟨go94, 0, none⟩) x8_4.length co97)) (by (with_reducible repeat (first | apply Kd.R_alloc | apply Kd.R_drewN | apply Kd.R_drew)); exact HO_4.out) (Kd.R_typed HO_8.out) (by decide) hg); have n1_ := Aside0.mk (Kd.R_after (v := (.slice (some ⟨go94, 0, none⟩) x8_4.length co97)) (v1 := (.slice (some ⟨go94, 0, none⟩) x8_4.length co97)) (ok := (fun k_ => some k_ ≠ (.slice Ao13 t224.length co13 : Value).ownBlock ∧ some k_ ≠ (.slice (some ad267) t227.length co14 : Value).ownBlock)) (by (with_reducible repeat (first | apply Kd.R_alloc | apply Kd.R_drewN | apply Kd.R_drew)); exact Kd.R_mono HO_7.out (fun _ hk => ⟨⟨hk.2.1, hk.2.2⟩, hk.1⟩)) hg (.inl rfl)); have n2_ := Aside0.mk (hp_); have n3_ := Aside0.mk (Kd.S_after (v := (.slice (some ⟨go94, 0, none⟩) x8_4.length co97)) (v1 := (.slice (some ⟨go94, 0, none⟩) x8_4.length co97)) (ok := (fun k_ => some k_ ≠ (v234 : Value).ownBlock ∧ some k_ ≠ (.slice Ao13 t224.length co13 : Value).ownBlock ∧ some k_ ≠ (.slice (some ad267) t227.length co14 : Value).ownBlock)) (by (with_reducible repeat (first | apply Kd.S_alloc | apply Kd.S_drewN | apply Kd.S_drew)); exact Kd.S_mono HO_233000.out (fun _ hk => ⟨⟨hk.1, ⟨hk.2.2.1, hk.2.2.2⟩⟩, hk.2.1⟩)) hg (.inl rfl)); have n4_ := Aside0.mk (Kd.R_after (v := (.slice (some ⟨go94, 0, none⟩) x8_4.length co97)) (v1 := (.slice (some ⟨go94, 0, none⟩) x8_4.length co97)) (ok := (fun k_ => some k_ ≠ (v234 : Value).ownBlock ∧ some k_ ≠ (.slice (some ad267) t227.length co14 : Value).ownBlock)) (by (with_reducible repeat (first | apply Kd.R_alloc | apply Kd.R_drewN | apply Kd.R_drew)); exact Kd.R_mono HO_233001.out (fun _ hk => ⟨⟨hk.1, hk.2.2⟩, hk.2.1⟩)) hg (.inl rfl)); have n5_ := Aside0.mk (Kd.R_after (v := (.slice (some ⟨go94, 0, none⟩) x8_4.length co97)) (v1 := (.slice (some ⟨go94, 0, none⟩) x8_4.length co97)) (ok := (fun k_ => some k_ ≠ (v234 : Value).ownBlock ∧ some k_ ≠ (.slice Ao13 t224.length co13 : Value).ownBlock)) (by (with_reducible repeat (first | apply Kd.R_alloc | apply Kd.R_drewN | apply Kd.R_drew)); exact Kd.R_mono HO_233002.out (fun _ hk => ⟨⟨hk.1, hk.2.2⟩, hk.2.1⟩)) hg (.inl rfl)); have n6_ := Aside0.mk (blk_grown (g := gb232) (o := .cells #[.slice Ao11 t221.length co11, .slice Ao13 t224.length co13, .slice (some ad267) t227.length co14, .int .i64 t230] 29 (0, 0)) (by (with_reducible repeat (first | refine blk_drewN ?_ _ | refine blk_drew ?_ | refine blk_alloc ?_ _)); exact BK232.out) hg (Kd.R_ne HO_8.out BK232.out (by decide))); have n7_ := Aside0.mk ((by rw [hw]; exact below_set (HB.out) GB94.out : Below w.heap.size w w99)); clear HO_4; clear HO_7; clear HO_8; clear HO_233000; clear HO_233001; clear HO_233002; clear BK232; clear HB; have HO_4 := n0_; have HO_7 := n1_; have HO_8 := n2_; have HO_233000 := n3_; have HO_233001 := n4_; have HO_233002 := n5_; have BK232 := n6_; have HB := n7_; clear n0_ n1_ n2_ n3_ n4_ n5_ n6_ n7_; clear hg hw hp_; have hcz100_0 : w99.cell? ⟨gb232, 0, none⟩ = some (.slice Ao11 t221.length co11) := (blk_cell BK232.out 0).trans rfl; have hcz100_1 : w99.cell? ⟨gb232, 1, none⟩ = some (.slice Ao13 t224.length co13) := (blk_cell BK232.out 1).trans rfl; have hcz100_2 : w99.cell? ⟨gb232, 2, none⟩ = some (.slice (some ad267) t227.length co14) := (blk_cell BK232.out 2).trans rfl; have hcz100_3 : w99.cell? ⟨gb232, 3, none⟩ = some (.int .i64 t230) := (blk_cell BK232.out 3).trans rfl; have hfz100_0 := blk_frozen BK232.out 0; have hfz100_1 := blk_frozen BK232.out 1; have hfz100_2 := blk_frozen BK232.out 2; have hfz100_3 := blk_frozen BK232.out 3; have p272 : 0 ≤ (x14_4 : Int) := of_decide_eq_true (by first | (with_reducible assumption) | assumption); have q272 : x14_4 < (t227.length : Int) := of_decide_eq_true (by first | (with_reducible assumption) | assumption); obtain ⟨ad272, e272, hx272_0⟩ := Kd.at_int (Kd.R_reads' HO_233002.out).2.2 x14_4 p272 q272; obtain rfl : ad267 = ad272 := (by injection e272); replace p272 := eq_true p272; replace q272 := eq_true q272; have p273 : 0 ≤ ((rd t227 x14_4) : Int) := of_decide_eq_true (by first | (with_reducible assumption) | assumption); have q273 : (rd t227 x14_4) < (t216.length : Int) := of_decide_eq_true (by first | (with_reducible assumption) | assumption); obtain ⟨ad273, e273, hx273_0, hx273_1⟩ := at_T33 (Kd.R_reads' HO_4.out).2.2 (rd t227 x14_4) p273 q273; cases e273; replace p273 := eq_true p273; replace q273 := eq_true q273)); try go_wp2_with (first | ((with_reducible refine gate_store (t := 3) (p := 255) rfl ?_); (try (rw [drewN_self wr]; generalize hq_ : World.drewN wr _ = wr; have n0_ := Aside0.mk (Kd.R_at hq_ HO_4.out); have n1_ := Aside0.mk (Kd.R_at hq_ HO_7.out); have n2_ := Aside0.mk (Kd.R_at hq_ HO_8.out); have n3_ := Aside0.mk (Kd.S_at hq_ HO_233000.out); have n4_ := Aside0.mk (Kd.R_at hq_ HO_233001.out); have n5_ := Aside0.mk (Kd.R_at hq_ HO_233002.out); have n6_ := Aside0.mk (blk_at hq_ BK232.out); have n7_ := Aside0.mk (below_at hq_ HB.out); (try have hx94_0 := cell_at hq_ hx94_0); (try have hf94_0 : World.frozen? wr ⟨go94, ((rd t227 x14_4) : Int).toNat, none⟩ = false := by rw [← hq_]; exact hf94_0); clear hq_ HO_4 HO_7 HO_8 HO_233000 HO_233001 HO_233002 BK232 HB; have HO_4 := n0_; have HO_7 := n1_; have HO_8 := n2_; have HO_233000 := n3_; have HO_233001 := n4_; have HO_233002 := n5_; have BK232 := n6_; have HB := n7_; clear n0_ n1_ n2_ n3_ n4_ n5_ n6_ n7_; (try (have HP98 := Kd.R_putg HO_8.out ((rd t227 x14_4) : Int) (wrap64 ((rd x8_4 (rd t227 x14_4)) + 1)))))); refine store_event (t := 3) (p := 255) (v := ?vo_w99) (w1 := (wr.setCell ⟨go94, ((rd t227 x14_4) : Int).toNat, none⟩ (.int .i64 (wrap64 ((rd x8_4 (rd t227 x14_4)) + 1))))) ?hg ?ho ?hn ?hr ?_; (case ho => rfl); (case hg => rfl); (case hn => rfl); (case hr => first | (go_simp; done) | (go_simp; rfl)); intro w99 hw; have hg : wr.grownBy w99 (some go94) := (by rw [hw]; exact HP98.2); have hp_ : Kd.R (Kd.int .i64) 3 w99 w.heap.size (fun k_ => some k_ ≠ (v234 : Value).ownBlock ∧ some k_ ≠ (.slice Ao13 t224.length co13 : Value).ownBlock ∧ some k_ ≠ (.slice (some ad267) t227.length co14 : Value).ownBlock) (.slice (some ⟨go94, 0, none⟩) x8_4.length co97) y271 := (by rw [hw, Ny271.out]; exact HP98.1); clear HP98; have n0_ := Aside0.mk (Kd.R_over' (v := (.slice (some ⟨go94, 0, none⟩) x8_4.length co97)) (by (with_reducible repeat (first | apply Kd.R_alloc | apply Kd.R_drewN | apply Kd.R_drew)); exact HO_4.out) (Kd.R_typed HO_8.out) (by decide) hg); have n1_ := Aside0.mk (Kd.R_after (v := (.slice (some ⟨go94, 0, none⟩) x8_4.length co97)) (v1 := (.slice (some ⟨go94, 0, none⟩) x8_4.length co97)) (ok := (fun k_ => some k_ ≠ (.slice Ao13 t224.length co13 : Value).ownBlock ∧ some k_ ≠ (.slice (some ad267) t227.length co14 : Value).ownBlock)) (by (with_reducible repeat (first | apply Kd.R_alloc | apply Kd.R_drewN | apply Kd.R_drew)); exact Kd.R_mono HO_7.out (fun _ hk => ⟨⟨hk.2.1, hk.2.2⟩, hk.1⟩)) hg (.inl rfl)); have n2_ := Aside0.mk (hp_); have n3_ := Aside0.mk (Kd.S_after (v := (.slice (some ⟨go94, 0, none⟩) x8_4.length co97)) (v1 := (.slice (some ⟨go94, 0, none⟩) x8_4.length co97)) (ok := (fun k_ => some k_ ≠ (v234 : Value).ownBlock ∧ some k_ ≠ (.slice Ao13 t224.length co13 : Value).ownBlock ∧ some k_ ≠ (.slice (some ad267) t227.length co14 : Value).ownBlock)) (by (with_reducible repeat (first | apply Kd.S_alloc | apply Kd.S_drewN | apply Kd.S_drew)); exact Kd.S_mono HO_233000.out (fun _ hk => ⟨⟨hk.1, ⟨hk.2.2.1, hk.2.2.2⟩⟩, hk.2.1⟩)) hg (.inl rfl)); have n4_ := Aside0.mk (Kd.R_after (v := (.slice (some ⟨go94, 0, none⟩) x8_4.length co97)) (v1 := (.slice (some ⟨go94, 0, none⟩) x8_4.length co97)) (ok := (fun k_ => some k_ ≠ (v234 : Value).ownBlock ∧ some k_ ≠ (.slice (some ad267) t227.length co14 : Value).ownBlock)) (by (with_reducible repeat (first | apply Kd.R_alloc | apply Kd.R_drewN | apply Kd.R_drew)); exact Kd.R_mono HO_233001.out (fun _ hk => ⟨⟨hk.1, hk.2.2⟩, hk.2.1⟩)) hg (.inl rfl)); have n5_ := Aside0.mk (Kd.R_after (v := (.slice (some ⟨go94, 0, none⟩) x8_4.length co97)) (v1 := (.slice (some ⟨go94, 0, none⟩) x8_4.length co97)) (ok := (fun k_ => some k_ ≠ (v234 : Value).ownBlock ∧ some k_ ≠ (.slice Ao13 t224.length co13 : Value).ownBlock)) (by (with_reducible repeat (first | apply Kd.R_alloc | apply Kd.R_drewN | apply Kd.R_drew)); exact Kd.R_mono HO_233002.out (fun _ hk => ⟨⟨hk.1, hk.2.2⟩, hk.2.1⟩)) hg (.inl rfl)); have n6_ := Aside0.mk (blk_grown (g := gb232) (o := .cells #[.slice Ao11 t221.length co11, .slice Ao13 t224.length co13, .slice (some ad267) t227.length co14, .int .i64 t230] 29 (0, 0)) (by (with_reducible repeat (first | refine blk_drewN ?_ _ | refine blk_drew ?_ | refine blk_alloc ?_ _)); exact BK232.out) hg (Kd.R_ne HO_8.out BK232.out (by decide))); have n7_ := Aside0.mk ((by rw [hw]; exact below_set (HB.out) GB94.out : Below w.heap.size w w99)); clear HO_4; clear HO_7; clear HO_8; clear HO_233000; clear HO_233001; clear HO_233002; clear BK232; clear HB; have HO_4 := n0_; have HO_7 := n1_; have HO_8 := n2_; have HO_233000 := n3_; have HO_233001 := n4_; have HO_233002 := n5_; have BK232 := n6_; have HB := n7_; clear n0_ n1_ n2_ n3_ n4_ n5_ n6_ n7_; clear hg hw hp_; have hcz100_0 : w99.cell? ⟨gb232, 0, none⟩ = some (.slice Ao11 t221.length co11) := (blk_cell BK232.out 0).trans rfl; have hcz100_1 : w99.cell? ⟨gb232, 1, none⟩ = some (.slice Ao13 t224.length co13) := (blk_cell BK232.out 1).trans rfl; have hcz100_2 : w99.cell? ⟨gb232, 2, none⟩ = some (.slice (some ad267) t227.length co14) := (blk_cell BK232.out 2).trans rfl; have hcz100_3 : w99.cell? ⟨gb232, 3, none⟩ = some (.int .i64 t230) := (blk_cell BK232.out 3).trans rfl; have hfz100_0 := blk_frozen BK232.out 0; have hfz100_1 := blk_frozen BK232.out 1; have hfz100_2 := blk_frozen BK232.out 2; have hfz100_3 := blk_frozen BK232.out 3; have p272 : 0 ≤ (x14_4 : Int) := of_decide_eq_true (by first | (with_reducible assumption) | assumption); have q272 : x14_4 < (t227.length : Int) := of_decide_eq_true (by first | (with_reducible assumption) | assumption); obtain ⟨ad272, e272, hx272_0⟩ := Kd.at_int (Kd.R_reads' HO_233002.out).2.2 x14_4 p272 q272; obtain rfl : ad267 = ad272 := (by injection e272); replace p272 := eq_true p272; replace q272 := eq_true q272; have p273 : 0 ≤ ((rd t227 x14_4) : Int) := of_decide_eq_true (by first | (with_reducible assumption) | assumption); have q273 : (rd t227 x14_4) < (t216.length : Int) := of_decide_eq_true (by first | (with_reducible assumption) | assumption); obtain ⟨ad273, e273, hx273_0, hx273_1⟩ := at_T33 (Kd.R_reads' HO_4.out).2.2 (rd t227 x14_4) p273 q273; cases e273; replace p273 := eq_true p273; replace q273 := eq_true q273)))
                         go_roundg k4
                         case measure => have := HJ4.out; have := HK2.out; have := HK3.out; have := HK4.out; omega
                         case rel => exact ⟨(y271), (wrap64 (x11_4 - ((rd_T33 t216 (rd t227 x14_4)).f1))), (wrap64 (x14_4 + 1)), (by first | rfl | (simp; done) | (simp [*]; done)), (by first | rfl | (simp; done) | (simp [*]; done)), H', ⟨by have := HJ4.out; have := HK2.out; have := HK3.out; have := HK4.out; omega⟩, ⟨by (with_reducible repeat (first | apply Kd.R_alloc | apply Kd.R_drewN | apply Kd.R_drew)); exact HO_4.out⟩, ⟨by (with_reducible repeat (first | apply Kd.R_alloc | apply Kd.R_drewN | apply Kd.R_drew)); exact Kd.R_mono HO_7.out (fun _ hk => ⟨hk.2, ⟨hk.1.1, hk.1.2⟩⟩)⟩, ⟨by (with_reducible repeat (first | apply Kd.R_alloc | apply Kd.R_drewN | apply Kd.R_drew)); exact HO_8.out⟩, ⟨by (with_reducible repeat (first | apply Kd.S_alloc | apply Kd.S_drewN | apply Kd.S_drew)); exact Kd.S_mono HO_233000.out (fun _ hk => ⟨hk.1.1, ⟨hk.2, ⟨hk.1.2.1, hk.1.2.2⟩⟩⟩)⟩, ⟨by (with_reducible repeat (first | apply Kd.R_alloc | apply Kd.R_drewN | apply Kd.R_drew)); exact Kd.R_mono HO_233001.out (fun _ hk => ⟨hk.1.1, ⟨hk.2, hk.1.2⟩⟩)⟩, ⟨by (with_reducible repeat (first | apply Kd.R_alloc | apply Kd.R_drewN | apply Kd.R_drew)); exact Kd.R_mono HO_233002.out (fun _ hk => ⟨hk.1.1, ⟨hk.2, hk.1.2⟩⟩)⟩, ⟨by (with_reducible repeat (first | refine blk_drewN ?_ _ | refine blk_drew ?_ | refine blk_alloc ?_ _)); exact BK232.out⟩, ⟨by repeat (first | (with_reducible first | exact HB.out | apply below_alloc | apply pw_below_drewN | apply below_drew1 | refine below_set ?_ GE232.out) | exact HB.out)⟩⟩
                       ·rw [if_neg c95] at H
                        exact absurd H (by simp)
                      ·rw [if_neg c93] at H
                       exact absurd H (by simp)
                     ·rw [if_neg c92] at H
                      exact absurd H (by simp)
                  ·rw [if_neg c89] at H
                   exact absurd H (by simp)
                 ·rw [if_neg c88] at H
                  have c88b0 : decide (x14_4 < (t227.length : Int)) = false := decide_eq_false c88
                  clear c88
                  have H' := Aside0.mk H
                  clear H
                  have hcz101_0 : wr.cell? ⟨gb232, 0, none⟩ = some (.slice Ao11 t221.length co11) := (blk_cell BK232.out 0).trans rfl
                  have hcz101_1 : wr.cell? ⟨gb232, 1, none⟩ = some (.slice Ao13 t224.length co13) := (blk_cell BK232.out 1).trans rfl
                  have hcz101_2 : wr.cell? ⟨gb232, 2, none⟩ = some (.slice Ao14 t227.length co14) := (blk_cell BK232.out 2).trans rfl
                  have hcz101_3 : wr.cell? ⟨gb232, 3, none⟩ = some (.int .i64 t230) := (blk_cell BK232.out 3).trans rfl
                  have hfz101_0 := blk_frozen BK232.out 0
                  have hfz101_1 := blk_frozen BK232.out 1
                  have hfz101_2 := blk_frozen BK232.out 2
                  have hfz101_3 := blk_frozen BK232.out 3
                  go_wp2
                  repeat (go_quiet (fail); try go_wp2)
                  go_loopg [15] k4 (fun kq v15 w' => ∃ (x15_5 : Int), v15 = .int .i64 x15_5 ∧ Aside0 (laws_FnSettle.l4 kq x7_3 x8_4 x11_4 x15_5 t221 t224 t227 t230 = some r) ∧ Aside0 (kq ≤ k4) ∧ Aside0 (Kd.R (Kd.int .i64) 3 w' w.heap.size (fun k_ => some k_ ≠ (v237 : Value).ownBlock ∧ some k_ ≠ ((.slice Ao13 t224.length co13) : Value).ownBlock ∧ some k_ ≠ ((.slice Ao14 t227.length co14) : Value).ownBlock) v234 x7_3) ∧ Aside0 (Kd.R (Kd.int .i64) 3 w' w.heap.size (fun k_ => some k_ ≠ (v234 : Value).ownBlock ∧ some k_ ≠ ((.slice Ao13 t224.length co13) : Value).ownBlock ∧ some k_ ≠ ((.slice Ao14 t227.length co14) : Value).ownBlock) v237 x8_4) ∧ Aside0 (Kd.S (Kd.slice 3 (Kd.int .i64)) 27 w' w.heap.size (fun k_ => some k_ ≠ (v234 : Value).ownBlock ∧ some k_ ≠ (v237 : Value).ownBlock ∧ some k_ ≠ ((.slice Ao13 t224.length co13) : Value).ownBlock ∧ some k_ ≠ ((.slice Ao14 t227.length co14) : Value).ownBlock) (.slice Ao11 t221.length co11) t221) ∧ Aside0 (Kd.R (Kd.int .i64) 3 w' w.heap.size (fun k_ => some k_ ≠ (v234 : Value).ownBlock ∧ some k_ ≠ (v237 : Value).ownBlock ∧ some k_ ≠ ((.slice Ao14 t227.length co14) : Value).ownBlock) (.slice Ao13 t224.length co13) t224) ∧ Aside0 (Kd.R (Kd.int .i64) 3 w' w.heap.size (fun k_ => some k_ ≠ (v234 : Value).ownBlock ∧ some k_ ≠ (v237 : Value).ownBlock ∧ some k_ ≠ ((.slice Ao13 t224.length co13) : Value).ownBlock) (.slice Ao14 t227.length co14) t227) ∧ Aside0 (w'.heap[gb232]? = some (.cells #[(.slice Ao11 t221.length co11), (.slice Ao13 t224.length co13), (.slice Ao14 t227.length co14), .int .i64 t230] 29 (0, 0))) ∧ Aside0 (Below w.heap.size w w'))
                  case atStart => exact ⟨(0), (by first | rfl | (simp; done) | (simp [*]; done)), H', ⟨Nat.le_refl _⟩, ⟨by (with_reducible repeat (first | apply Kd.R_alloc | apply Kd.R_drewN | apply Kd.R_drew)); exact HO_7.out⟩, ⟨by (with_reducible repeat (first | apply Kd.R_alloc | apply Kd.R_drewN | apply Kd.R_drew)); exact HO_8.out⟩, ⟨by (with_reducible repeat (first | apply Kd.S_alloc | apply Kd.S_drewN | apply Kd.S_drew)); exact HO_233000.out⟩, ⟨by (with_reducible repeat (first | apply Kd.R_alloc | apply Kd.R_drewN | apply Kd.R_drew)); exact HO_233001.out⟩, ⟨by (with_reducible repeat (first | apply Kd.R_alloc | apply Kd.R_drewN | apply Kd.R_drew)); exact HO_233002.out⟩, ⟨by (with_reducible repeat (first | refine blk_drewN ?_ _ | refine blk_drew ?_ | refine blk_alloc ?_ _)); exact BK232.out⟩, ⟨by repeat (first | (with_reducible first | exact HB.out | apply below_alloc | apply pw_below_drewN | apply below_drew1 | refine below_set ?_ GE232.out) | exact HB.out)⟩⟩
                  case round =>
                   clear H'
                   (try clear c9); (try clear p9); (try clear q9); (try clear hx9); (try clear hf9); (try clear p27); (try clear q27); (try clear hx27); (try clear c88); (try clear c88b0); (try clear c89); (try clear c89b0); (try clear c90); (try clear c90b0); (try clear c91); (try clear c91b0); (try clear c92); (try clear c92b0); (try clear c93); (try clear c93b0); (try clear p94); (try clear q94); (try clear hx94); (try clear hf94); (try clear c95); (try clear c95b0); (try clear hcz100_0); (try clear hcz100_1); (try clear hcz100_2); (try clear hcz100_3); (try clear hcz101_0); (try clear hcz101_1); (try clear hcz101_2); (try clear hcz101_3); (try clear hcz96_0); (try clear hcz96_1); (try clear hcz96_2); (try clear hcz96_3); (try clear hfz100_0); (try clear hfz100_1); (try clear hfz100_2); (try clear hfz100_3); (try clear hfz101_0); (try clear hfz101_1); (try clear hfz101_2); (try clear hfz101_3); (try clear hfz96_0); (try clear hfz96_1); (try clear hfz96_2); (try clear hfz96_3); (try clear hx267_0); (try clear hx268_0); (try clear hx269_0); (try clear hx270_0); (try clear hx272_0); (try clear hx273_0); (try clear hx273_1); (try clear hx94_0); (try clear p267); (try clear p268); (try clear p269); (try clear p270); (try clear p272); (try clear p273); (try clear q267); (try clear q268); (try clear q269); (try clear q270); (try clear q272); (try clear q273)
                   obtain ⟨x15_5, rfl, HA, HK5, HO_7, HO_8, HO_233000, HO_233001, HO_233002, BK232, HB⟩ := hrel
                   cases gk with
                   | zero => exact absurd HA.out (by simp [laws_FnSettle.l4])
                   | succ k5 =>
                    have H := HA.out
                    clear HA
                    simp only [laws_FnSettle.l4] at H
                    by_cases c102 : x15_5 < (x7_3.length : Int)
                    ·rw [if_pos c102] at H
                     have c102b0 : decide (x15_5 < (x7_3.length : Int)) = true := decide_eq_true c102
                     clear c102
                     by_cases c103 : 0 ≤ x15_5
                     ·rw [if_pos c103] at H
                      have c103b0 : decide (0 ≤ x15_5) = true := decide_eq_true c103
                      clear c103
                      by_cases c104 : (rd x7_3 x15_5) = 1
                      ·rw [if_pos c104] at H
                       have c104b0 : ((rd x7_3 x15_5) == 1) = true := beq_iff_eq.mpr c104
                       have c104b1 : ((rd x7_3 x15_5) != 1) = false := bne_eq_false_iff_eq.mpr c104
                       clear c104
                       as_aux_lemma =>
                        have H' := Aside0.mk H
                        clear H
                        obtain ⟨Ao105, co105, eo105⟩ := Kd.R_slice HO_7.out
                        subst eo105
                        have p274 : 0 ≤ (x15_5 : Int) := of_decide_eq_true (by first | (with_reducible assumption) | assumption)
                        have q274 : x15_5 < (x7_3.length : Int) := of_decide_eq_true (by first | (with_reducible assumption) | assumption)
                        obtain ⟨ad274, e274, hx274_0⟩ := Kd.at_int (Kd.R_reads' HO_7.out).2.2 x15_5 p274 q274
                        cases e274
                        replace p274 := eq_true p274
                        replace q274 := eq_true q274
                        go_wp2
                        repeat (go_quiet (fail); try go_wp2)
                        go_roundg k5
                        case measure => have := HJ4.out; have := HK2.out; have := HK3.out; have := HK4.out; have := HK5.out; omega
                        case rel => exact ⟨(wrap64 (x15_5 + 1)), (by first | rfl | (simp; done) | (simp [*]; done)), H', ⟨by have := HJ4.out; have := HK2.out; have := HK3.out; have := HK4.out; have := HK5.out; omega⟩, ⟨by (with_reducible repeat (first | apply Kd.R_alloc | apply Kd.R_drewN | apply Kd.R_drew)); exact HO_7.out⟩, ⟨by (with_reducible repeat (first | apply Kd.R_alloc | apply Kd.R_drewN | apply Kd.R_drew)); exact HO_8.out⟩, ⟨by (with_reducible repeat (first | apply Kd.S_alloc | apply Kd.S_drewN | apply Kd.S_drew)); exact HO_233000.out⟩, ⟨by (with_reducible repeat (first | apply Kd.R_alloc | apply Kd.R_drewN | apply Kd.R_drew)); exact HO_233001.out⟩, ⟨by (with_reducible repeat (first | apply Kd.R_alloc | apply Kd.R_drewN | apply Kd.R_drew)); exact HO_233002.out⟩, ⟨by (with_reducible repeat (first | refine blk_drewN ?_ _ | refine blk_drew ?_ | refine blk_alloc ?_ _)); exact BK232.out⟩, ⟨by repeat (first | (with_reducible first | exact HB.out | apply below_alloc | apply pw_below_drewN | apply below_drew1 | refine below_set ?_ GE232.out) | exact HB.out)⟩⟩
                      ·rw [if_neg c104] at H
                       have c104b0 : ((rd x7_3 x15_5) == 1) = false := beq_eq_false_iff_ne.mpr c104
                       have c104b1 : ((rd x7_3 x15_5) != 1) = true := bne_iff_ne.mpr c104
                       as_aux_lemma =>
                        obtain rfl := Option.some.inj H
                        exact absurd hT_.out (by decide)
                     ·rw [if_neg c103] at H
                      exact absurd H (by simp)
                    ·rw [if_neg c102] at H
                     have c102b0 : decide (x15_5 < (x7_3.length : Int)) = false := decide_eq_false c102
                     clear c102
                     have H' := Aside0.mk H
                     clear H
                     obtain ⟨Ao106, co106, eo106⟩ := Kd.R_slice HO_7.out
                     subst eo106
                     go_wp2
                     repeat (go_quiet (fail); try go_wp2)
                     go_loopg [16] k5 (fun kq v16 w' => ∃ (x16_6 : Int), v16 = .int .i64 x16_6 ∧ Aside0 (laws_FnSettle.l5 kq x8_4 x11_4 x16_6 t221 t224 t227 t230 = some r) ∧ Aside0 (kq ≤ k5) ∧ Aside0 (Kd.R (Kd.int .i64) 3 w' w.heap.size (fun k_ => some k_ ≠ ((.slice Ao13 t224.length co13) : Value).ownBlock ∧ some k_ ≠ ((.slice Ao14 t227.length co14) : Value).ownBlock) v237 x8_4) ∧ Aside0 (Kd.S (Kd.slice 3 (Kd.int .i64)) 27 w' w.heap.size (fun k_ => some k_ ≠ (v237 : Value).ownBlock ∧ some k_ ≠ ((.slice Ao13 t224.length co13) : Value).ownBlock ∧ some k_ ≠ ((.slice Ao14 t227.length co14) : Value).ownBlock) (.slice Ao11 t221.length co11) t221) ∧ Aside0 (Kd.R (Kd.int .i64) 3 w' w.heap.size (fun k_ => some k_ ≠ (v237 : Value).ownBlock ∧ some k_ ≠ ((.slice Ao14 t227.length co14) : Value).ownBlock) (.slice Ao13 t224.length co13) t224) ∧ Aside0 (Kd.R (Kd.int .i64) 3 w' w.heap.size (fun k_ => some k_ ≠ (v237 : Value).ownBlock ∧ some k_ ≠ ((.slice Ao13 t224.length co13) : Value).ownBlock) (.slice Ao14 t227.length co14) t227) ∧ Aside0 (w'.heap[gb232]? = some (.cells #[(.slice Ao11 t221.length co11), (.slice Ao13 t224.length co13), (.slice Ao14 t227.length co14), .int .i64 t230] 29 (0, 0))) ∧ Aside0 (Below w.heap.size w w'))
                     case atStart => exact ⟨(0), (by first | rfl | (simp; done) | (simp [*]; done)), H', ⟨Nat.le_refl _⟩, ⟨by (with_reducible repeat (first | apply Kd.R_alloc | apply Kd.R_drewN | apply Kd.R_drew)); exact Kd.R_mono HO_8.out (fun _ hk => ⟨hk.2.1, hk.2.2⟩)⟩, ⟨by (with_reducible repeat (first | apply Kd.S_alloc | apply Kd.S_drewN | apply Kd.S_drew)); exact Kd.S_mono HO_233000.out (fun _ hk => ⟨hk.2.1, ⟨hk.2.2.1, hk.2.2.2⟩⟩)⟩, ⟨by (with_reducible repeat (first | apply Kd.R_alloc | apply Kd.R_drewN | apply Kd.R_drew)); exact Kd.R_mono HO_233001.out (fun _ hk => ⟨hk.2.1, hk.2.2⟩)⟩, ⟨by (with_reducible repeat (first | apply Kd.R_alloc | apply Kd.R_drewN | apply Kd.R_drew)); exact Kd.R_mono HO_233002.out (fun _ hk => ⟨hk.2.1, hk.2.2⟩)⟩, ⟨by (with_reducible repeat (first | refine blk_drewN ?_ _ | refine blk_drew ?_ | refine blk_alloc ?_ _)); exact BK232.out⟩, ⟨by repeat (first | (with_reducible first | exact HB.out | apply below_alloc | apply pw_below_drewN | apply below_drew1 | refine below_set ?_ GE232.out) | exact HB.out)⟩⟩
                     case round =>
                      clear H'
                      (try clear c10); (try clear c102); (try clear c102b0); (try clear c103); (try clear c103b0); (try clear c104); (try clear c104b0); (try clear c104b1); (try clear hx274_0); (try clear p274); (try clear q274)
                      obtain ⟨x16_6, rfl, HA, HK6, HO_8, HO_233000, HO_233001, HO_233002, BK232, HB⟩ := hrel
                      cases gk with
                      | zero => exact absurd HA.out (by simp [laws_FnSettle.l5])
                      | succ k6 =>
                       have H := HA.out
                       clear HA
                       simp only [laws_FnSettle.l5] at H
                       by_cases c107 : x16_6 < (x8_4.length : Int)
                       ·rw [if_pos c107] at H
                        have c107b0 : decide (x16_6 < (x8_4.length : Int)) = true := decide_eq_true c107
                        clear c107
                        by_cases c108 : 0 ≤ x16_6
                        ·rw [if_pos c108] at H
                         have c108b0 : decide (0 ≤ x16_6) = true := decide_eq_true c108
                         clear c108
                         by_cases c109 : (rd x8_4 x16_6) = 1
                         ·rw [if_pos c109] at H
                          have c109b0 : ((rd x8_4 x16_6) == 1) = true := beq_iff_eq.mpr c109
                          have c109b1 : ((rd x8_4 x16_6) != 1) = false := bne_eq_false_iff_eq.mpr c109
                          clear c109
                          as_aux_lemma =>
                           have H' := Aside0.mk H
                           clear H
                           obtain ⟨Ao110, co110, eo110⟩ := Kd.R_slice HO_8.out
                           subst eo110
                           have p275 : 0 ≤ (x16_6 : Int) := of_decide_eq_true (by first | (with_reducible assumption) | assumption)
                           have q275 : x16_6 < (x8_4.length : Int) := of_decide_eq_true (by first | (with_reducible assumption) | assumption)
                           obtain ⟨ad275, e275, hx275_0⟩ := Kd.at_int (Kd.R_reads' HO_8.out).2.2 x16_6 p275 q275
                           cases e275
                           replace p275 := eq_true p275
                           replace q275 := eq_true q275
                           go_wp2
                           repeat (go_quiet (fail); try go_wp2)
                           go_roundg k6
                           case measure => have := HJ4.out; have := HK2.out; have := HK3.out; have := HK4.out; have := HK5.out; have := HK6.out; omega
                           case rel => exact ⟨(wrap64 (x16_6 + 1)), (by first | rfl | (simp; done) | (simp [*]; done)), H', ⟨by have := HJ4.out; have := HK2.out; have := HK3.out; have := HK4.out; have := HK5.out; have := HK6.out; omega⟩, ⟨by (with_reducible repeat (first | apply Kd.R_alloc | apply Kd.R_drewN | apply Kd.R_drew)); exact HO_8.out⟩, ⟨by (with_reducible repeat (first | apply Kd.S_alloc | apply Kd.S_drewN | apply Kd.S_drew)); exact HO_233000.out⟩, ⟨by (with_reducible repeat (first | apply Kd.R_alloc | apply Kd.R_drewN | apply Kd.R_drew)); exact HO_233001.out⟩, ⟨by (with_reducible repeat (first | apply Kd.R_alloc | apply Kd.R_drewN | apply Kd.R_drew)); exact HO_233002.out⟩, ⟨by (with_reducible repeat (first | refine blk_drewN ?_ _ | refine blk_drew ?_ | refine blk_alloc ?_ _)); exact BK232.out⟩, ⟨by repeat (first | (with_reducible first | exact HB.out | apply below_alloc | apply pw_below_drewN | apply below_drew1 | refine below_set ?_ GE232.out) | exact HB.out)⟩⟩
                         ·rw [if_neg c109] at H
                          have c109b0 : ((rd x8_4 x16_6) == 1) = false := beq_eq_false_iff_ne.mpr c109
                          have c109b1 : ((rd x8_4 x16_6) != 1) = true := bne_iff_ne.mpr c109
                          as_aux_lemma =>
                           obtain rfl := Option.some.inj H
                           exact absurd hT_.out (by decide)
                        ·rw [if_neg c108] at H
                         exact absurd H (by simp)
                       ·rw [if_neg c107] at H
                        have c107b0 : decide (x16_6 < (x8_4.length : Int)) = false := decide_eq_false c107
                        clear c107
                        as_aux_lemma =>
                         obtain rfl := Option.some.inj H
                         obtain ⟨Ao111, co111, eo111⟩ := Kd.R_slice HO_8.out
                         subst eo111
                         have hcz112_0 : wr.cell? ⟨gb232, 0, none⟩ = some (.slice Ao11 t221.length co11) := (blk_cell BK232.out 0).trans rfl
                         have hcz112_1 : wr.cell? ⟨gb232, 1, none⟩ = some (.slice Ao13 t224.length co13) := (blk_cell BK232.out 1).trans rfl
                         have hcz112_2 : wr.cell? ⟨gb232, 2, none⟩ = some (.slice Ao14 t227.length co14) := (blk_cell BK232.out 2).trans rfl
                         have hcz112_3 : wr.cell? ⟨gb232, 3, none⟩ = some (.int .i64 t230) := (blk_cell BK232.out 3).trans rfl
                         have hfz112_0 := blk_frozen BK232.out 0
                         have hfz112_1 := blk_frozen BK232.out 1
                         have hfz112_2 := blk_frozen BK232.out 2
                         have hfz112_3 := blk_frozen BK232.out 3
                         go_wp2
                         repeat (go_quiet (fail); try go_wp2)
                         go_ret
                         exact ⟨by first | rfl | (simp [errW_none, errW_some] <;> rfl) | (simp [*, errW_none, errW_some] <;> rfl), by repeat (first | (with_reducible first | exact HB.out | apply below_alloc | apply pw_below_drewN | apply below_drew1 | refine below_set ?_ GE232.out) | exact HB.out)⟩
        ·rw [if_neg c23] at H
         exact absurd H (by simp)
       ·rw [if_neg c22] at H
        exact absurd H (by simp)
      ·rw [if_neg c21] at H
       exact absurd H (by simp)
     ·rw [if_neg c20] at H
      exact absurd H (by simp)


/-- THE ONE PURE STATEMENT of laws_FnSettle. -/
def laws_FnSettle.Pure : Prop := ∀ (l0 : List Int), (l0.length ≤ 9223372036854775807 ∧ ∀ x ∈ l0, (Lit.int .u8 x).wf = true) → ∃ k, laws_FnSettle.f k l0 = some true
theorem laws_FnSettle.walk (P : laws_FnSettle.Pure) (A0 : Option Addr) (c0 : Nat) (l0 : List Int) (w : World) (hr0 : Kd.C (Kd.int .u8) w A0 l0.length l0) (hc0 : l0.length ≤ c0) (hw0 : (l0.length ≤ 9223372036854775807 ∧ ∀ x ∈ l0, (Lit.int .u8 x).wf = true)) :
  Calls Try.prog 3 #[.slice A0 l0.length c0] w fun e w' => e = .returned (.bool true) ∧ Below w.heap.size w w' := by
 obtain ⟨k, h⟩ := P l0 hw0
 refine (laws_FnSettle.calls k A0 c0 l0 true w hr0 hc0 h rfl).mono ?_
 rintro e w' ⟨rfl, hd⟩
 exact ⟨rfl, hd⟩

end Go.Proofs.Ytikbfbangjjfkaa.XFnSettle
