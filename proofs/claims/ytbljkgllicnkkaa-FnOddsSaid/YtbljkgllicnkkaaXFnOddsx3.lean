-- PRINTED by xprint.py (our own program, over the kit's print.py)
import Derived.Test.YtbljkgllicnkkaaXFnOddsx0
import Derived.Test.YtbljkgllicnkkaaXFnOddsx1
import Derived.Test.YtbljkgllicnkkaaXFnOddsx2
namespace Go.Proofs.Ytbljkgllicnkkaa.XFnOdds
open Go.RowKit Go.Proofs.YtbljkgllicnkkaaW.PrintWords Go.Proofs.YtbljkgllicnkkaaW.PrintLast Go.Proofs.YtbljkgllicnkkaaW.PrintMore Go.Proofs.YtbljkgllicnkkaaW.Idx
attribute [local go_sem] max2_int min2_int max_two min_two max_three min_three max_four min_four   -- for this text's walks alone
set_option linter.unusedVariables false
set_option linter.unusedSimpArgs false

/-! ### laws_FnOdds: function 4 -/
mutual
def laws_FnOdds.j0 : Nat → List Int → Int → Int → Int → List Int → Bool → Option (Bool)
  | 0, _, _, _, _, _, _ => none
  | k + 1, x3, x4, x5, x6, x7, x46 => if x46 = true then (some false) else ((laws_sum.f k x3).bind fun t187 => (laws_FnOdds.l0 k x3 x4 x5 x6 x7 t187 1 0))
def laws_FnOdds.l0 : Nat → List Int → Int → Int → Int → List Int → Int → Int → Int → Option (Bool)
  | 0, _, _, _, _, _, _, _, _ => none
  | k + 1, x3, x4, x5, x6, x7, x9, x10, x11 => if x11 < x4 then (laws_FnOdds.l0 k x3 x4 x5 x6 x7 x9 (wrap64 (x10 * x9)) (wrap64 (x11 + 1))) else (laws_FnOdds.l1 k x3 x4 x5 x6 x7 x9 x10 0 0)
def laws_FnOdds.l1 : Nat → List Int → Int → Int → Int → List Int → Int → Int → Int → Int → Option (Bool)
  | 0, _, _, _, _, _, _, _, _, _ => none
  | k + 1, x3, x4, x5, x6, x7, x9, x10, x12, x13 => if x13 < (x3.length : Int) then (if 0 ≤ x13 then (laws_FnOdds.l1 k x3 x4 x5 x6 x7 x9 x10 (wrap64 (x12 + (wrap64 (x13 * (rd x3 x13))))) (wrap64 (x13 + 1))) else (none)) else (laws_FnOdds.l2 k x3 x4 x5 x6 x7 x9 x10 x12 0 0)
def laws_FnOdds.l2 : Nat → List Int → Int → Int → Int → List Int → Int → Int → Int → Int → Int → Option (Bool)
  | 0, _, _, _, _, _, _, _, _, _, _ => none
  | k + 1, x3, x4, x5, x6, x7, x9, x10, x12, x14, x15 => if x15 < (x7.length : Int) then (if 0 ≤ x15 then (if (rd x7 x15) < 0 then (some false) else (laws_FnOdds.l2 k x3 x4 x5 x6 x7 x9 x10 x12 (wrap64 (x14 + (wrap64 (x15 * (rd x7 x15))))) (wrap64 (x15 + 1)))) else (none)) else ((laws_sum.f k x7).bind fun t191 => (if t191 = x10 then (laws_FnOdds.j4 k x3 x4 x5 x6 x7 x10 ((wrap64 (x14 * x9)) != (wrap64 ((wrap64 (x4 * x12)) * x10)))) else (laws_FnOdds.j4 k x3 x4 x5 x6 x7 x10 true)))
def laws_FnOdds.j4 : Nat → List Int → Int → Int → Int → List Int → Int → Bool → Option (Bool)
  | 0, _, _, _, _, _, _, _ => none
  | k + 1, x3, x4, x5, x6, x7, x10, x104 => if x104 = true then (some false) else ((impl_SafeLevel.f k x3 x4 x5 x6).bind fun bt192 => (if bt192.2 = 0 then (if bt192.1 < 0 then (laws_FnOdds.j5 k x5 x6 x7 x10 bt192.1 true) else (laws_FnOdds.j5 k x5 x6 x7 x10 bt192.1 (decide (bt192.1 ≥ (x7.length : Int))))) else (laws_FnOdds.j5 k x5 x6 x7 x10 bt192.1 true)))
def laws_FnOdds.j5 : Nat → Int → Int → List Int → Int → Int → Bool → Option (Bool)
  | 0, _, _, _, _, _, _ => none
  | k + 1, x5, x6, x7, x10, x16, x124 => if x124 = true then (some false) else (if 0 ≤ (wrap64 (x16 + 1)) then (if (wrap64 (x16 + 1)) ≤ (x7.length : Int) then ((laws_sum.f k (x7.take ((wrap64 (x16 + 1)) : Int).toNat)).bind fun t198 => (if (wrap64 (t198 * x6)) ≥ (wrap64 (x5 * x10)) then (if 0 ≤ x16 then (if x16 ≤ (x7.length : Int) then ((laws_sum.f k (x7.take (x16 : Int).toNat)).bind fun t203 => (some (decide ((wrap64 (t203 * x6)) < (wrap64 (x5 * x10)))))) else (none)) else (none)) else (some false))) else (none)) else (none))
end
def laws_FnOdds.f (k : Nat) (l0 : List Int) : Option (Bool) := if (l0.length : Int) > 1048576 then (some true) else ((spec_TableOf.f k l0).bind fun bt177 => ((impl_Odds.f k bt177.1 bt177.2.1).bind fun bt183 => (if bt183.2 = 0 then (laws_FnOdds.j0 k bt177.1 bt177.2.1 bt177.2.2.1 bt177.2.2.2 bt183.1 ((bt183.1.length : Int) != (wrap64 ((wrap64 (bt177.2.1 * (wrap64 ((bt177.1.length : Int) - 1)))) + 1)))) else (laws_FnOdds.j0 k bt177.1 bt177.2.1 bt177.2.2.1 bt177.2.2.2 bt183.1 true))))
theorem laws_FnOdds.mono_l : ∀ k, (∀ y0 y1 y2 y3 y4 y5, LeO (laws_FnOdds.j0 k y0 y1 y2 y3 y4 y5) (laws_FnOdds.j0 (k + 1) y0 y1 y2 y3 y4 y5)) ∧ (∀ y0 y1 y2 y3 y4 y5 y6 y7, LeO (laws_FnOdds.l0 k y0 y1 y2 y3 y4 y5 y6 y7) (laws_FnOdds.l0 (k + 1) y0 y1 y2 y3 y4 y5 y6 y7)) ∧ (∀ y0 y1 y2 y3 y4 y5 y6 y7 y8, LeO (laws_FnOdds.l1 k y0 y1 y2 y3 y4 y5 y6 y7 y8) (laws_FnOdds.l1 (k + 1) y0 y1 y2 y3 y4 y5 y6 y7 y8)) ∧ (∀ y0 y1 y2 y3 y4 y5 y6 y7 y8 y9, LeO (laws_FnOdds.l2 k y0 y1 y2 y3 y4 y5 y6 y7 y8 y9) (laws_FnOdds.l2 (k + 1) y0 y1 y2 y3 y4 y5 y6 y7 y8 y9)) ∧ (∀ y0 y1 y2 y3 y4 y5 y6, LeO (laws_FnOdds.j4 k y0 y1 y2 y3 y4 y5 y6) (laws_FnOdds.j4 (k + 1) y0 y1 y2 y3 y4 y5 y6)) ∧ (∀ y0 y1 y2 y3 y4 y5, LeO (laws_FnOdds.j5 k y0 y1 y2 y3 y4 y5) (laws_FnOdds.j5 (k + 1) y0 y1 y2 y3 y4 y5))
  | 0 => ⟨fun _ _ _ _ _ _ r h => by simp [laws_FnOdds.j0] at h, fun _ _ _ _ _ _ _ _ r h => by simp [laws_FnOdds.l0] at h, fun _ _ _ _ _ _ _ _ _ r h => by simp [laws_FnOdds.l1] at h, fun _ _ _ _ _ _ _ _ _ _ r h => by simp [laws_FnOdds.l2] at h, fun _ _ _ _ _ _ _ r h => by simp [laws_FnOdds.j4] at h, fun _ _ _ _ _ _ r h => by simp [laws_FnOdds.j5] at h⟩
  | k + 1 => by
    obtain ⟨ih0, ih1, ih2, ih3, ih4, ih5⟩ := laws_FnOdds.mono_l k
    refine ⟨?_, ?_, ?_, ?_, ?_, ?_⟩
    · intro y0 y1 y2 y3 y4 y5
      unfold laws_FnOdds.j0
      repeat' first
      | (with_reducible exact ih0 _ _ _ _ _ _)
      | (with_reducible exact ih1 _ _ _ _ _ _ _ _)
      | (with_reducible exact ih2 _ _ _ _ _ _ _ _ _)
      | (with_reducible exact ih3 _ _ _ _ _ _ _ _ _ _)
      | (with_reducible exact ih4 _ _ _ _ _ _ _)
      | (with_reducible exact ih5 _ _ _ _ _ _)
      | (with_reducible exact impl_Odds.mono _ _ _)
      | (with_reducible exact impl_SafeLevel.mono _ _ _ _ _)
      | (with_reducible exact laws_sum.mono _ _)
      | (with_reducible exact spec_TableOf.mono _ _)
      | (with_reducible exact LeO.refl _)
      | (with_reducible exact LeO.none _)
      | (with_reducible refine LeO.ite ?_ ?_)
      | (with_reducible refine LeO.bind ?_ (fun _ => ?_))
      | exact ih0 _ _ _ _ _ _
      | exact ih1 _ _ _ _ _ _ _ _
      | exact ih2 _ _ _ _ _ _ _ _ _
      | exact ih3 _ _ _ _ _ _ _ _ _ _
      | exact ih4 _ _ _ _ _ _ _
      | exact ih5 _ _ _ _ _ _
      | exact impl_Odds.mono _ _ _
      | exact impl_SafeLevel.mono _ _ _ _ _
      | exact laws_sum.mono _ _
      | exact spec_TableOf.mono _ _
      | exact LeO.none _
      | refine LeO.ite ?_ ?_
      | refine LeO.bind ?_ (fun _ => ?_)
    · intro y0 y1 y2 y3 y4 y5 y6 y7
      unfold laws_FnOdds.l0
      repeat' first
      | (with_reducible exact ih0 _ _ _ _ _ _)
      | (with_reducible exact ih1 _ _ _ _ _ _ _ _)
      | (with_reducible exact ih2 _ _ _ _ _ _ _ _ _)
      | (with_reducible exact ih3 _ _ _ _ _ _ _ _ _ _)
      | (with_reducible exact ih4 _ _ _ _ _ _ _)
      | (with_reducible exact ih5 _ _ _ _ _ _)
      | (with_reducible exact impl_Odds.mono _ _ _)
      | (with_reducible exact impl_SafeLevel.mono _ _ _ _ _)
      | (with_reducible exact laws_sum.mono _ _)
      | (with_reducible exact spec_TableOf.mono _ _)
      | (with_reducible exact LeO.refl _)
      | (with_reducible exact LeO.none _)
      | (with_reducible refine LeO.ite ?_ ?_)
      | (with_reducible refine LeO.bind ?_ (fun _ => ?_))
      | exact ih0 _ _ _ _ _ _
      | exact ih1 _ _ _ _ _ _ _ _
      | exact ih2 _ _ _ _ _ _ _ _ _
      | exact ih3 _ _ _ _ _ _ _ _ _ _
      | exact ih4 _ _ _ _ _ _ _
      | exact ih5 _ _ _ _ _ _
      | exact impl_Odds.mono _ _ _
      | exact impl_SafeLevel.mono _ _ _ _ _
      | exact laws_sum.mono _ _
      | exact spec_TableOf.mono _ _
      | exact LeO.none _
      | refine LeO.ite ?_ ?_
      | refine LeO.bind ?_ (fun _ => ?_)
    · intro y0 y1 y2 y3 y4 y5 y6 y7 y8
      unfold laws_FnOdds.l1
      repeat' first
      | (with_reducible exact ih0 _ _ _ _ _ _)
      | (with_reducible exact ih1 _ _ _ _ _ _ _ _)
      | (with_reducible exact ih2 _ _ _ _ _ _ _ _ _)
      | (with_reducible exact ih3 _ _ _ _ _ _ _ _ _ _)
      | (with_reducible exact ih4 _ _ _ _ _ _ _)
      | (with_reducible exact ih5 _ _ _ _ _ _)
      | (with_reducible exact impl_Odds.mono _ _ _)
      | (with_reducible exact impl_SafeLevel.mono _ _ _ _ _)
      | (with_reducible exact laws_sum.mono _ _)
      | (with_reducible exact spec_TableOf.mono _ _)
      | (with_reducible exact LeO.refl _)
      | (with_reducible exact LeO.none _)
      | (with_reducible refine LeO.ite ?_ ?_)
      | (with_reducible refine LeO.bind ?_ (fun _ => ?_))
      | exact ih0 _ _ _ _ _ _
      | exact ih1 _ _ _ _ _ _ _ _
      | exact ih2 _ _ _ _ _ _ _ _ _
      | exact ih3 _ _ _ _ _ _ _ _ _ _
      | exact ih4 _ _ _ _ _ _ _
      | exact ih5 _ _ _ _ _ _
      | exact impl_Odds.mono _ _ _
      | exact impl_SafeLevel.mono _ _ _ _ _
      | exact laws_sum.mono _ _
      | exact spec_TableOf.mono _ _
      | exact LeO.none _
      | refine LeO.ite ?_ ?_
      | refine LeO.bind ?_ (fun _ => ?_)
    · intro y0 y1 y2 y3 y4 y5 y6 y7 y8 y9
      unfold laws_FnOdds.l2
      repeat' first
      | (with_reducible exact ih0 _ _ _ _ _ _)
      | (with_reducible exact ih1 _ _ _ _ _ _ _ _)
      | (with_reducible exact ih2 _ _ _ _ _ _ _ _ _)
      | (with_reducible exact ih3 _ _ _ _ _ _ _ _ _ _)
      | (with_reducible exact ih4 _ _ _ _ _ _ _)
      | (with_reducible exact ih5 _ _ _ _ _ _)
      | (with_reducible exact impl_Odds.mono _ _ _)
      | (with_reducible exact impl_SafeLevel.mono _ _ _ _ _)
      | (with_reducible exact laws_sum.mono _ _)
      | (with_reducible exact spec_TableOf.mono _ _)
      | (with_reducible exact LeO.refl _)
      | (with_reducible exact LeO.none _)
      | (with_reducible refine LeO.ite ?_ ?_)
      | (with_reducible refine LeO.bind ?_ (fun _ => ?_))
      | exact ih0 _ _ _ _ _ _
      | exact ih1 _ _ _ _ _ _ _ _
      | exact ih2 _ _ _ _ _ _ _ _ _
      | exact ih3 _ _ _ _ _ _ _ _ _ _
      | exact ih4 _ _ _ _ _ _ _
      | exact ih5 _ _ _ _ _ _
      | exact impl_Odds.mono _ _ _
      | exact impl_SafeLevel.mono _ _ _ _ _
      | exact laws_sum.mono _ _
      | exact spec_TableOf.mono _ _
      | exact LeO.none _
      | refine LeO.ite ?_ ?_
      | refine LeO.bind ?_ (fun _ => ?_)
    · intro y0 y1 y2 y3 y4 y5 y6
      unfold laws_FnOdds.j4
      repeat' first
      | (with_reducible exact ih0 _ _ _ _ _ _)
      | (with_reducible exact ih1 _ _ _ _ _ _ _ _)
      | (with_reducible exact ih2 _ _ _ _ _ _ _ _ _)
      | (with_reducible exact ih3 _ _ _ _ _ _ _ _ _ _)
      | (with_reducible exact ih4 _ _ _ _ _ _ _)
      | (with_reducible exact ih5 _ _ _ _ _ _)
      | (with_reducible exact impl_Odds.mono _ _ _)
      | (with_reducible exact impl_SafeLevel.mono _ _ _ _ _)
      | (with_reducible exact laws_sum.mono _ _)
      | (with_reducible exact spec_TableOf.mono _ _)
      | (with_reducible exact LeO.refl _)
      | (with_reducible exact LeO.none _)
      | (with_reducible refine LeO.ite ?_ ?_)
      | (with_reducible refine LeO.bind ?_ (fun _ => ?_))
      | exact ih0 _ _ _ _ _ _
      | exact ih1 _ _ _ _ _ _ _ _
      | exact ih2 _ _ _ _ _ _ _ _ _
      | exact ih3 _ _ _ _ _ _ _ _ _ _
      | exact ih4 _ _ _ _ _ _ _
      | exact ih5 _ _ _ _ _ _
      | exact impl_Odds.mono _ _ _
      | exact impl_SafeLevel.mono _ _ _ _ _
      | exact laws_sum.mono _ _
      | exact spec_TableOf.mono _ _
      | exact LeO.none _
      | refine LeO.ite ?_ ?_
      | refine LeO.bind ?_ (fun _ => ?_)
    · intro y0 y1 y2 y3 y4 y5
      unfold laws_FnOdds.j5
      repeat' first
      | (with_reducible exact ih0 _ _ _ _ _ _)
      | (with_reducible exact ih1 _ _ _ _ _ _ _ _)
      | (with_reducible exact ih2 _ _ _ _ _ _ _ _ _)
      | (with_reducible exact ih3 _ _ _ _ _ _ _ _ _ _)
      | (with_reducible exact ih4 _ _ _ _ _ _ _)
      | (with_reducible exact ih5 _ _ _ _ _ _)
      | (with_reducible exact impl_Odds.mono _ _ _)
      | (with_reducible exact impl_SafeLevel.mono _ _ _ _ _)
      | (with_reducible exact laws_sum.mono _ _)
      | (with_reducible exact spec_TableOf.mono _ _)
      | (with_reducible exact LeO.refl _)
      | (with_reducible exact LeO.none _)
      | (with_reducible refine LeO.ite ?_ ?_)
      | (with_reducible refine LeO.bind ?_ (fun _ => ?_))
      | exact ih0 _ _ _ _ _ _
      | exact ih1 _ _ _ _ _ _ _ _
      | exact ih2 _ _ _ _ _ _ _ _ _
      | exact ih3 _ _ _ _ _ _ _ _ _ _
      | exact ih4 _ _ _ _ _ _ _
      | exact ih5 _ _ _ _ _ _
      | exact impl_Odds.mono _ _ _
      | exact impl_SafeLevel.mono _ _ _ _ _
      | exact laws_sum.mono _ _
      | exact spec_TableOf.mono _ _
      | exact LeO.none _
      | refine LeO.ite ?_ ?_
      | refine LeO.bind ?_ (fun _ => ?_)
theorem laws_FnOdds.mono : ∀ a0 k, LeO (laws_FnOdds.f k a0) (laws_FnOdds.f (k + 1) a0) := by
  intro a0 k
  obtain ⟨ih0, ih1, ih2, ih3, ih4, ih5⟩ := laws_FnOdds.mono_l k
  unfold laws_FnOdds.f
  repeat' first
      | (with_reducible exact ih0 _ _ _ _ _ _)
      | (with_reducible exact ih1 _ _ _ _ _ _ _ _)
      | (with_reducible exact ih2 _ _ _ _ _ _ _ _ _)
      | (with_reducible exact ih3 _ _ _ _ _ _ _ _ _ _)
      | (with_reducible exact ih4 _ _ _ _ _ _ _)
      | (with_reducible exact ih5 _ _ _ _ _ _)
      | (with_reducible exact impl_Odds.mono _ _ _)
      | (with_reducible exact impl_SafeLevel.mono _ _ _ _ _)
      | (with_reducible exact laws_sum.mono _ _)
      | (with_reducible exact spec_TableOf.mono _ _)
      | (with_reducible exact LeO.refl _)
      | (with_reducible exact LeO.none _)
      | (with_reducible refine LeO.ite ?_ ?_)
      | (with_reducible refine LeO.bind ?_ (fun _ => ?_))
      | exact ih0 _ _ _ _ _ _
      | exact ih1 _ _ _ _ _ _ _ _
      | exact ih2 _ _ _ _ _ _ _ _ _
      | exact ih3 _ _ _ _ _ _ _ _ _ _
      | exact ih4 _ _ _ _ _ _ _
      | exact ih5 _ _ _ _ _ _
      | exact impl_Odds.mono _ _ _
      | exact impl_SafeLevel.mono _ _ _ _ _
      | exact laws_sum.mono _ _
      | exact spec_TableOf.mono _ _
      | exact LeO.none _
      | refine LeO.ite ?_ ?_
      | refine LeO.bind ?_ (fun _ => ?_)
set_option maxHeartbeats 8000000 in
set_option maxRecDepth 100000 in
theorem laws_FnOdds.calls (k : Nat) (A0 : Option Addr) (c0 : Nat) (l0 : List Int) (r : Bool) (w : World) (hr0 : Kd.C (Kd.int .u8) w A0 l0.length l0) (hc0 : l0.length ≤ c0) (h : laws_FnOdds.f k l0 = some r) :
    Calls Try.prog 4 #[.slice A0 l0.length c0] w fun e w' => e = .returned (.bool r) ∧ Below w.heap.size w w' := by
  have HR0 := Aside0.mk hr0
  have HC0 := Aside0.mk hc0
  clear hr0 hc0
  have HB := Aside0.mk (Below.refl w.heap.size w)
  have H : (if (l0.length : Int) > 1048576 then (some true) else ((spec_TableOf.f k l0).bind fun bt177 => ((impl_Odds.f k bt177.1 bt177.2.1).bind fun bt183 => (if bt183.2 = 0 then (laws_FnOdds.j0 k bt177.1 bt177.2.1 bt177.2.2.1 bt177.2.2.2 bt183.1 ((bt183.1.length : Int) != (wrap64 ((wrap64 (bt177.2.1 * (wrap64 ((bt177.1.length : Int) - 1)))) + 1)))) else (laws_FnOdds.j0 k bt177.1 bt177.2.1 bt177.2.2.1 bt177.2.2.2 bt183.1 true))))) = some r := h
  clear h
  by_cases c2 : (l0.length : Int) > 1048576
  · rw [if_pos c2] at H
    have c2b0 : decide (1048576 < (l0.length : Int)) = true := decide_eq_true c2
    have c2b1 : decide (1048576 < l0.length) = true := decide_eq_true (by omega)
    clear c2
    obtain rfl := Option.some.inj H
    go_enter Try.func4, Try.ntmps4
    go_wp2
    go_ret
    exact ⟨by first | rfl | (simp [errW_none, errW_some] <;> rfl) | (simp [*, errW_none, errW_some] <;> rfl), by repeat (first | (with_reducible first | exact HB.out | apply below_alloc | apply pw_below_drewN | apply below_drew1) | exact HB.out)⟩
  · rw [if_neg c2] at H
    have c2b0 : decide (1048576 < (l0.length : Int)) = false := decide_eq_false c2
    have c2b1 : decide (1048576 < l0.length) = false := decide_eq_false (by omega)
    clear c2
    replace H := Option.bind_eq_some_iff.mp H
    obtain ⟨⟨t177, t178, t179, t180⟩, A30, H⟩ := H
    replace H : ((impl_Odds.f k t177 t178).bind fun bt183 => (if bt183.2 = 0 then (laws_FnOdds.j0 k t177 t178 t179 t180 bt183.1 ((bt183.1.length : Int) != (wrap64 ((wrap64 (t178 * (wrap64 ((t177.length : Int) - 1)))) + 1)))) else (laws_FnOdds.j0 k t177 t178 t179 t180 bt183.1 true))) = some r := H
    have A3 := Aside0.mk A30
    clear A30
    replace H := Option.bind_eq_some_iff.mp H
    obtain ⟨⟨t183, t184⟩, A40, H⟩ := H
    replace H : (if t184 = 0 then (laws_FnOdds.j0 k t177 t178 t179 t180 t183 ((t183.length : Int) != (wrap64 ((wrap64 (t178 * (wrap64 ((t177.length : Int) - 1)))) + 1)))) else (laws_FnOdds.j0 k t177 t178 t179 t180 t183 true)) = some r := H
    have A4 := Aside0.mk A40
    clear A40
    have HC5 := Aside0.mk H
    clear H
    go_enter Try.func4, Try.ntmps4
    go_upto_region 5 with (first | ((with_reducible refine gate_callee (f := 14) rfl ?_); refine goesL_ (some 23) rfl rfl Try.func14 (by kernel_rfl) rfl #[.slice A0 l0.length c0] rfl (by (try simp only [List.map_toArray, List.map_cons, List.map_nil]); first | done | rfl | (simp only [List.length_drop, List.length_take]; rfl)) ?_; (with_reducible refine (spec_TableOf.calls k _ _ l0 t177 t178 t179 t180 _ ?side1 ?side2 A3.out).mono ?_); (case side1 => repeat (first | exact HR0.out | (with_reducible refine Kd.C_alloc ?_ _) | (with_reducible refine Kd.C_drewN ?_ _) | (with_reducible refine Kd.C_drew ?_))); (case side2 => exact HC0.out); rintro e w6 ⟨v181, rfl, ho0, hb⟩; refine ⟨_, rfl, ?_⟩; have n0_ := Aside0.mk (Kd.R_lower ho0 (below_size (by repeat (first | (with_reducible first | exact HB.out | apply below_alloc | apply pw_below_drewN | apply below_drew1) | exact HB.out)))); have n1_ := Aside0.mk (below_step (by repeat (first | (with_reducible first | exact HB.out | apply below_alloc | apply pw_below_drewN | apply below_drew1) | exact HB.out)) hb); clear HB; have HO182 := n0_; have HB := n1_; clear n0_ n1_; (try clear hb); (try clear hb2); (try clear hk); (try clear hi); (try clear ho0); obtain ⟨Ao7, co7, eo7⟩ := Kd.R_slice HO182.out; subst eo7) | ((with_reducible refine gate_callee (f := 15) rfl ?_); refine goesL_ (some 31) rfl rfl Try.func15 (by kernel_rfl) rfl #[.slice Ao7 t177.length co7, .int .i64 t178] rfl (by (try simp only [List.map_toArray, List.map_cons, List.map_nil]); first | done | rfl | (simp only [List.length_drop, List.length_take]; rfl)) ?_; (with_reducible refine (impl_Odds.calls k _ _ t177 t178 t183 t184 _ ?side1 ?side2 A4.out).mono ?_); (case side1 => repeat (first | exact (Kd.R_reads' HO182.out).2.2 | (with_reducible refine Kd.C_alloc ?_ _) | (with_reducible refine Kd.C_drewN ?_ _) | (with_reducible refine Kd.C_drew ?_))); (case side2 => exact (Kd.R_reads' HO182.out).2.1); rintro e w8 ⟨v185, rfl, ho0, hb⟩; refine ⟨_, rfl, ?_⟩; have n0_ := Aside0.mk (Kd.R_elder' (by (with_reducible repeat (first | apply Kd.R_alloc | apply Kd.R_drewN | apply Kd.R_drew)); exact HO182.out) (Kd.R_base ho0) hb); have n1_ := Aside0.mk (Kd.R_lower (Kd.R_new' ho0 (Kd.R_lt (by (with_reducible repeat (first | apply Kd.R_alloc | apply Kd.R_drewN | apply Kd.R_drew)); exact HO182.out))) (below_size (by repeat (first | (with_reducible first | exact HB.out | apply below_alloc | apply pw_below_drewN | apply below_drew1) | exact HB.out)))); have n2_ := Aside0.mk (below_step (by repeat (first | (with_reducible first | exact HB.out | apply below_alloc | apply pw_below_drewN | apply below_drew1) | exact HB.out)) hb); clear HO182; clear HB; have HO182 := n0_; have HO186 := n1_; have HB := n2_; clear n0_ n1_ n2_; (try clear hb); (try clear hb2); (try clear hk); (try clear hi); (try clear ho0)))
    (try simp only [Act.put, List.setIfInBounds_toArray, List.set_cons_zero, List.set_cons_succ])
    go_cut [46] (fun v46 wc => ∃ (kq : Nat) (x46_4 : Bool), v46 = .bool x46_4 ∧ Aside0 (laws_FnOdds.j0 kq t177 t178 t179 t180 t183 x46_4 = some r) ∧ Aside0 (kq ≤ k) ∧ Aside0 (Kd.R (Kd.int .i64) 3 wc w.heap.size (fun k_ => some k_ ≠ (v185 : Value).ownBlock) (.slice Ao7 t177.length co7) t177) ∧ Aside0 (Kd.R (Kd.int .i64) 3 wc w.heap.size (fun k_ => some k_ ≠ ((.slice Ao7 t177.length co7) : Value).ownBlock) v185 t183) ∧ Aside0 (Below w.heap.size w wc))
    case first =>
      have H := HC5.out
      clear HC5
      by_cases c9 : t184 = 0
      · rw [if_pos c9] at H
        have c9b0 : (t184 == 0) = true := beq_iff_eq.mpr c9
        have c9b1 : (t184 != 0) = false := bne_eq_false_iff_eq.mpr c9
        clear c9
        (first | rw [c9b0] | (simp only [i64_w, i32_w]; rw [c9b0]) | skip)
        have H' := Aside0.mk H
        clear H
        obtain ⟨Ao10, co10, eo10⟩ := Kd.R_slice HO186.out
        subst eo10
        go_wp2
        go_meet
        case rel => exact ⟨_, (((t183.length : Int) != (wrap64 ((wrap64 (t178 * (wrap64 ((t177.length : Int) - 1)))) + 1)))), (by first | rfl | (simp; done) | (simp [*]; done)), H', ⟨by first | omega | exact Nat.le_refl _⟩, ⟨by (with_reducible repeat (first | apply Kd.R_alloc | apply Kd.R_drewN | apply Kd.R_drew)); exact Kd.R_mono HO182.out (fun _ hk => hk.2)⟩, ⟨by (with_reducible repeat (first | apply Kd.R_alloc | apply Kd.R_drewN | apply Kd.R_drew)); exact Kd.R_mono HO186.out (fun _ hk => hk.2)⟩, ⟨by repeat (first | (with_reducible first | exact HB.out | apply below_alloc | apply pw_below_drewN | apply below_drew1) | exact HB.out)⟩⟩
      · rw [if_neg c9] at H
        have c9b0 : (t184 == 0) = false := beq_eq_false_iff_ne.mpr c9
        have c9b1 : (t184 != 0) = true := bne_iff_ne.mpr c9
        (first | rw [c9b0] | (simp only [i64_w, i32_w]; rw [c9b0]) | skip)
        have H' := Aside0.mk H
        clear H
        go_wp2
        go_meet
        case rel => exact ⟨_, (true), (by first | rfl | (simp; done) | (simp [*]; done)), H', ⟨by first | omega | exact Nat.le_refl _⟩, ⟨by (with_reducible repeat (first | apply Kd.R_alloc | apply Kd.R_drewN | apply Kd.R_drew)); exact Kd.R_mono HO182.out (fun _ hk => hk.2)⟩, ⟨by (with_reducible repeat (first | apply Kd.R_alloc | apply Kd.R_drewN | apply Kd.R_drew)); exact Kd.R_mono HO186.out (fun _ hk => hk.2)⟩, ⟨by repeat (first | (with_reducible first | exact HB.out | apply below_alloc | apply pw_below_drewN | apply below_drew1) | exact HB.out)⟩⟩
    case rest =>
      clear HC5
      try clear c1
      try clear c2
      try clear c2b0
      try clear c2b1
      try clear p2
      try clear c4
      try clear p6
      try clear c9
      try clear c9b0
      try clear c9b1
      obtain ⟨kq, x46_4, rfl, HA, HJ4, HO_3, HO_7, HB⟩ := hcut
      cases kq with
      | zero => exact absurd HA.out (by simp [laws_FnOdds.j0])
      | succ kj4 =>
        have H := HA.out
        clear HA
        simp only [laws_FnOdds.j0] at H
        by_cases c11 : x46_4 = true
        · subst c11
          have H1 : (some false) = some r := by rw [if_pos rfl] at H; exact H
          clear H
          have H := H1
          clear H1
          obtain rfl := Option.some.inj H
          go_wp2
          go_ret
          exact ⟨by first | rfl | (simp [errW_none, errW_some] <;> rfl) | (simp [*, errW_none, errW_some] <;> rfl), by repeat (first | (with_reducible first | exact HB.out | apply below_alloc | apply pw_below_drewN | apply below_drew1) | exact HB.out)⟩
        · replace c11 := Bool.eq_false_iff.mpr c11
          subst c11
          have H1 : ((laws_sum.f kj4 t177).bind fun t187 => (laws_FnOdds.l0 kj4 t177 t178 t179 t180 t183 t187 1 0)) = some r := by rw [if_neg (show ¬ (false = true) by decide)] at H; exact H
          clear H
          have H := H1
          clear H1
          replace H := Option.bind_eq_some_iff.mp H
          obtain ⟨t187, A120, H⟩ := H
          replace H : (laws_FnOdds.l0 kj4 t177 t178 t179 t180 t183 t187 1 0) = some r := H
          have A12 := Aside0.mk A120
          clear A120
          have H' := Aside0.mk H
          clear H
          go_wp2_with (first | ((with_reducible refine gate_callee (f := 16) rfl ?_); refine goesL_ (some 48) rfl rfl Try.func16 (by kernel_rfl) rfl #[.slice Ao7 t177.length co7] rfl (by (try simp only [List.map_toArray, List.map_cons, List.map_nil]); first | done | rfl | (simp only [List.length_drop, List.length_take]; rfl)) ?_; (with_reducible refine (laws_sum.calls kj4 _ _ t177 t187 _ ?side1 ?side2 A12.out).mono ?_); (case side1 => repeat (first | exact (Kd.R_reads' HO_3.out).2.2 | (with_reducible refine Kd.C_alloc ?_ _) | (with_reducible refine Kd.C_drewN ?_ _) | (with_reducible refine Kd.C_drew ?_))); (case side2 => exact (Kd.R_reads' HO_3.out).2.1); rintro e w' ⟨rfl, ⟨nd, rfl⟩⟩; refine ⟨_, rfl, ?_⟩))
          go_loopg [10, 11] kj4 (fun kq v10 v11 w' => ∃ (x10_2 : Int) (x11_2 : Int), v10 = .int .i64 x10_2 ∧ v11 = .int .i64 x11_2 ∧ Aside0 (laws_FnOdds.l0 kq t177 t178 t179 t180 t183 t187 x10_2 x11_2 = some r) ∧ Aside0 (kq ≤ kj4) ∧ Aside0 (Kd.R (Kd.int .i64) 3 w' w.heap.size (fun k_ => some k_ ≠ (v185 : Value).ownBlock) (.slice Ao7 t177.length co7) t177) ∧ Aside0 (Kd.R (Kd.int .i64) 3 w' w.heap.size (fun k_ => some k_ ≠ ((.slice Ao7 t177.length co7) : Value).ownBlock) v185 t183) ∧ Aside0 (Below w.heap.size w w'))
          case atStart => exact ⟨(1), (0), (by first | rfl | (simp; done) | (simp [*]; done)), (by first | rfl | (simp; done) | (simp [*]; done)), H', ⟨Nat.le_refl _⟩, ⟨by (with_reducible repeat (first | apply Kd.R_alloc | apply Kd.R_drewN | apply Kd.R_drew)); exact HO_3.out⟩, ⟨by (with_reducible repeat (first | apply Kd.R_alloc | apply Kd.R_drewN | apply Kd.R_drew)); exact HO_7.out⟩, ⟨by repeat (first | (with_reducible first | exact HB.out | apply below_alloc | apply pw_below_drewN | apply below_drew1) | exact HB.out)⟩⟩
          case round =>
            clear H'
            try clear c1
            try clear c2
            try clear c2b0
            try clear c2b1
            try clear p2
            try clear c4
            try clear p6
            try clear c9
            try clear c9b0
            try clear c9b1
            try clear c11
            try clear p2
            try clear p6
            obtain ⟨x10_2, x11_2, rfl, rfl, HA, HK2, HO_3, HO_7, HB⟩ := hrel
            cases gk with
            | zero => exact absurd HA.out (by simp [laws_FnOdds.l0])
            | succ k2 =>
              have H := HA.out
              clear HA
              simp only [laws_FnOdds.l0] at H
              by_cases c13 : x11_2 < t178
              · rw [if_pos c13] at H
                have c13b0 : decide (x11_2 < t178) = true := decide_eq_true c13
                clear c13
                have H' := Aside0.mk H
                clear H
                go_wp2
                go_roundg k2
                case measure => have := HJ4.out; have := HK2.out; omega
                case rel => exact ⟨(wrap64 (x10_2 * t187)), (wrap64 (x11_2 + 1)), (by first | rfl | (simp; done) | (simp [*]; done)), (by first | rfl | (simp; done) | (simp [*]; done)), H', ⟨by have := HJ4.out; have := HK2.out; omega⟩, ⟨by (with_reducible repeat (first | apply Kd.R_alloc | apply Kd.R_drewN | apply Kd.R_drew)); exact HO_3.out⟩, ⟨by (with_reducible repeat (first | apply Kd.R_alloc | apply Kd.R_drewN | apply Kd.R_drew)); exact HO_7.out⟩, ⟨by repeat (first | (with_reducible first | exact HB.out | apply below_alloc | apply pw_below_drewN | apply below_drew1) | exact HB.out)⟩⟩
              · rw [if_neg c13] at H
                have c13b0 : decide (x11_2 < t178) = false := decide_eq_false c13
                clear c13
                have H' := Aside0.mk H
                clear H
                go_wp2
                go_loopg [12, 13] k2 (fun kq v12 v13 w' => ∃ (x12_3 : Int) (x13_3 : Int), v12 = .int .i64 x12_3 ∧ v13 = .int .i64 x13_3 ∧ Aside0 (laws_FnOdds.l1 kq t177 t178 t179 t180 t183 t187 x10_2 x12_3 x13_3 = some r) ∧ Aside0 (kq ≤ k2) ∧ Aside0 (Kd.R (Kd.int .i64) 3 w' w.heap.size (fun k_ => some k_ ≠ (v185 : Value).ownBlock) (.slice Ao7 t177.length co7) t177) ∧ Aside0 (Kd.R (Kd.int .i64) 3 w' w.heap.size (fun k_ => some k_ ≠ ((.slice Ao7 t177.length co7) : Value).ownBlock) v185 t183) ∧ Aside0 (Below w.heap.size w w'))
                case atStart => exact ⟨(0), (0), (by first | rfl | (simp; done) | (simp [*]; done)), (by first | rfl | (simp; done) | (simp [*]; done)), H', ⟨Nat.le_refl _⟩, ⟨by (with_reducible repeat (first | apply Kd.R_alloc | apply Kd.R_drewN | apply Kd.R_drew)); exact HO_3.out⟩, ⟨by (with_reducible repeat (first | apply Kd.R_alloc | apply Kd.R_drewN | apply Kd.R_drew)); exact HO_7.out⟩, ⟨by repeat (first | (with_reducible first | exact HB.out | apply below_alloc | apply pw_below_drewN | apply below_drew1) | exact HB.out)⟩⟩
                case round =>
                  clear H'
                  try clear c1
                  try clear c2
                  try clear c2b0
                  try clear c2b1
                  try clear p2
                  try clear c4
                  try clear p6
                  try clear c9
                  try clear c9b0
                  try clear c9b1
                  try clear c11
                  try clear c13
                  try clear c13b0
                  try clear p2
                  try clear p6
                  obtain ⟨x12_3, x13_3, rfl, rfl, HA, HK3, HO_3, HO_7, HB⟩ := hrel
                  cases gk with
                  | zero => exact absurd HA.out (by simp [laws_FnOdds.l1])
                  | succ k3 =>
                    have H := HA.out
                    clear HA
                    simp only [laws_FnOdds.l1] at H
                    by_cases c14 : x13_3 < (t177.length : Int)
                    · rw [if_pos c14] at H
                      have c14b0 : decide (x13_3 < (t177.length : Int)) = true := decide_eq_true c14
                      clear c14
                      by_cases c15 : 0 ≤ x13_3
                      · rw [if_pos c15] at H
                        have c15b0 : decide (0 ≤ x13_3) = true := decide_eq_true c15
                        clear c15
                        have H' := Aside0.mk H
                        clear H
                        have p188 : 0 ≤ (x13_3 : Int) := of_decide_eq_true (by first | (with_reducible assumption) | assumption)
                        have q188 : x13_3 < (t177.length : Int) := of_decide_eq_true (by first | (with_reducible assumption) | assumption)
                        obtain ⟨ad188, e188, hx188_0⟩ := Kd.at_int (Kd.R_reads' HO_3.out).2.2 x13_3 p188 q188
                        cases e188
                        replace p188 := eq_true p188
                        replace q188 := eq_true q188
                        go_wp2
                        go_roundg k3
                        case measure => have := HJ4.out; have := HK2.out; have := HK3.out; omega
                        case rel => exact ⟨(wrap64 (x12_3 + (wrap64 (x13_3 * (rd t177 x13_3))))), (wrap64 (x13_3 + 1)), (by first | rfl | (simp; done) | (simp [*]; done)), (by first | rfl | (simp; done) | (simp [*]; done)), H', ⟨by have := HJ4.out; have := HK2.out; have := HK3.out; omega⟩, ⟨by (with_reducible repeat (first | apply Kd.R_alloc | apply Kd.R_drewN | apply Kd.R_drew)); exact HO_3.out⟩, ⟨by (with_reducible repeat (first | apply Kd.R_alloc | apply Kd.R_drewN | apply Kd.R_drew)); exact HO_7.out⟩, ⟨by repeat (first | (with_reducible first | exact HB.out | apply below_alloc | apply pw_below_drewN | apply below_drew1) | exact HB.out)⟩⟩
                      · rw [if_neg c15] at H
                        exact absurd H (by simp)
                    · rw [if_neg c14] at H
                      have c14b0 : decide (x13_3 < (t177.length : Int)) = false := decide_eq_false c14
                      clear c14
                      have H' := Aside0.mk H
                      clear H
                      go_wp2
                      go_loopg [14, 15] k3 (fun kq v14 v15 w' => ∃ (x14_4 : Int) (x15_4 : Int), v14 = .int .i64 x14_4 ∧ v15 = .int .i64 x15_4 ∧ Aside0 (laws_FnOdds.l2 kq t177 t178 t179 t180 t183 t187 x10_2 x12_3 x14_4 x15_4 = some r) ∧ Aside0 (kq ≤ k3) ∧ Aside0 (Kd.R (Kd.int .i64) 3 w' w.heap.size (fun k_ => some k_ ≠ (v185 : Value).ownBlock) (.slice Ao7 t177.length co7) t177) ∧ Aside0 (Kd.R (Kd.int .i64) 3 w' w.heap.size (fun k_ => some k_ ≠ ((.slice Ao7 t177.length co7) : Value).ownBlock) v185 t183) ∧ Aside0 (Below w.heap.size w w'))
                      case atStart => exact ⟨(0), (0), (by first | rfl | (simp; done) | (simp [*]; done)), (by first | rfl | (simp; done) | (simp [*]; done)), H', ⟨Nat.le_refl _⟩, ⟨by (with_reducible repeat (first | apply Kd.R_alloc | apply Kd.R_drewN | apply Kd.R_drew)); exact HO_3.out⟩, ⟨by (with_reducible repeat (first | apply Kd.R_alloc | apply Kd.R_drewN | apply Kd.R_drew)); exact HO_7.out⟩, ⟨by repeat (first | (with_reducible first | exact HB.out | apply below_alloc | apply pw_below_drewN | apply below_drew1) | exact HB.out)⟩⟩
                      case round =>
                        clear H'
                        try clear c1
                        try clear p1
                        try clear q1
                        try clear hx1
                        try clear c2
                        try clear c2b0
                        try clear c2b1
                        try clear p2
                        try clear c4
                        try clear p6
                        try clear c9
                        try clear c9b0
                        try clear c9b1
                        try clear c11
                        try clear c13
                        try clear c13b0
                        try clear c14
                        try clear c14b0
                        try clear c15
                        try clear c15b0
                        try clear hx188_0
                        try clear p188
                        try clear p2
                        try clear p6
                        try clear q188
                        obtain ⟨x14_4, x15_4, rfl, rfl, HA, HK4, HO_3, HO_7, HB⟩ := hrel
                        cases gk with
                        | zero => exact absurd HA.out (by simp [laws_FnOdds.l2])
                        | succ k4 =>
                          have H := HA.out
                          clear HA
                          simp only [laws_FnOdds.l2] at H
                          by_cases c16 : x15_4 < (t183.length : Int)
                          · rw [if_pos c16] at H
                            have c16b0 : decide (x15_4 < (t183.length : Int)) = true := decide_eq_true c16
                            clear c16
                            by_cases c17 : 0 ≤ x15_4
                            · rw [if_pos c17] at H
                              have c17b0 : decide (0 ≤ x15_4) = true := decide_eq_true c17
                              clear c17
                              by_cases c18 : (rd t183 x15_4) < 0
                              · rw [if_pos c18] at H
                                have c18b0 : decide ((rd t183 x15_4) < 0) = true := decide_eq_true c18
                                clear c18
                                obtain rfl := Option.some.inj H
                                obtain ⟨Ao19, co19, eo19⟩ := Kd.R_slice HO_7.out
                                subst eo19
                                have p189 : 0 ≤ (x15_4 : Int) := of_decide_eq_true (by first | (with_reducible assumption) | assumption)
                                have q189 : x15_4 < (t183.length : Int) := of_decide_eq_true (by first | (with_reducible assumption) | assumption)
                                obtain ⟨ad189, e189, hx189_0⟩ := Kd.at_int (Kd.R_reads' HO_7.out).2.2 x15_4 p189 q189
                                cases e189
                                replace p189 := eq_true p189
                                replace q189 := eq_true q189
                                go_wp2
                                go_ret
                                exact ⟨by first | rfl | (simp [errW_none, errW_some] <;> rfl) | (simp [*, errW_none, errW_some] <;> rfl), by repeat (first | (with_reducible first | exact HB.out | apply below_alloc | apply pw_below_drewN | apply below_drew1) | exact HB.out)⟩
                              · rw [if_neg c18] at H
                                have c18b0 : decide ((rd t183 x15_4) < 0) = false := decide_eq_false c18
                                clear c18
                                have H' := Aside0.mk H
                                clear H
                                obtain ⟨Ao20, co20, eo20⟩ := Kd.R_slice HO_7.out
                                subst eo20
                                have p189 : 0 ≤ (x15_4 : Int) := of_decide_eq_true (by first | (with_reducible assumption) | assumption)
                                have q189 : x15_4 < (t183.length : Int) := of_decide_eq_true (by first | (with_reducible assumption) | assumption)
                                obtain ⟨ad189, e189, hx189_0⟩ := Kd.at_int (Kd.R_reads' HO_7.out).2.2 x15_4 p189 q189
                                cases e189
                                replace p189 := eq_true p189
                                replace q189 := eq_true q189
                                have p190 : 0 ≤ (x15_4 : Int) := of_decide_eq_true (by first | (with_reducible assumption) | assumption)
                                have q190 : x15_4 < (t183.length : Int) := of_decide_eq_true (by first | (with_reducible assumption) | assumption)
                                obtain ⟨ad190, e190, hx190_0⟩ := Kd.at_int (Kd.R_reads' HO_7.out).2.2 x15_4 p190 q190
                                obtain rfl : ad189 = ad190 := (by injection e190)
                                replace p190 := eq_true p190
                                replace q190 := eq_true q190
                                go_wp2
                                go_roundg k4
                                case measure => have := HJ4.out; have := HK2.out; have := HK3.out; have := HK4.out; omega
                                case rel => exact ⟨(wrap64 (x14_4 + (wrap64 (x15_4 * (rd t183 x15_4))))), (wrap64 (x15_4 + 1)), (by first | rfl | (simp; done) | (simp [*]; done)), (by first | rfl | (simp; done) | (simp [*]; done)), H', ⟨by have := HJ4.out; have := HK2.out; have := HK3.out; have := HK4.out; omega⟩, ⟨by (with_reducible repeat (first | apply Kd.R_alloc | apply Kd.R_drewN | apply Kd.R_drew)); exact HO_3.out⟩, ⟨by (with_reducible repeat (first | apply Kd.R_alloc | apply Kd.R_drewN | apply Kd.R_drew)); exact HO_7.out⟩, ⟨by repeat (first | (with_reducible first | exact HB.out | apply below_alloc | apply pw_below_drewN | apply below_drew1) | exact HB.out)⟩⟩
                            · rw [if_neg c17] at H
                              exact absurd H (by simp)
                          · rw [if_neg c16] at H
                            have c16b0 : decide (x15_4 < (t183.length : Int)) = false := decide_eq_false c16
                            clear c16
                            have HC21 := Aside0.mk H
                            clear H
                            obtain ⟨Ao22, co22, eo22⟩ := Kd.R_slice HO_7.out
                            subst eo22
                            go_upto_region 25 with (fail)
                            go_cut [104] (fun v104 wc => ∃ (kq : Nat) (x104_20 : Bool), v104 = .bool x104_20 ∧ Aside0 (laws_FnOdds.j4 kq t177 t178 t179 t180 t183 x10_2 x104_20 = some r) ∧ Aside0 (kq ≤ k4) ∧ Aside0 (Kd.R (Kd.int .i64) 3 wc w.heap.size (fun k_ => some k_ ≠ ((.slice Ao22 t183.length co22) : Value).ownBlock) (.slice Ao7 t177.length co7) t177) ∧ Aside0 (Kd.R (Kd.int .i64) 3 wc w.heap.size (fun k_ => some k_ ≠ ((.slice Ao7 t177.length co7) : Value).ownBlock) (.slice Ao22 t183.length co22) t183) ∧ Aside0 (Below w.heap.size w wc))
                            case first =>
                              have H := HC21.out
                              clear HC21
                              replace H := Option.bind_eq_some_iff.mp H
                              obtain ⟨t191, A230, H⟩ := H
                              replace H : (if t191 = x10_2 then (laws_FnOdds.j4 k4 t177 t178 t179 t180 t183 x10_2 ((wrap64 (x14_4 * t187)) != (wrap64 ((wrap64 (t178 * x12_3)) * x10_2)))) else (laws_FnOdds.j4 k4 t177 t178 t179 t180 t183 x10_2 true)) = some r := H
                              have A23 := Aside0.mk A230
                              clear A230
                              by_cases c24 : t191 = x10_2
                              · rw [if_pos c24] at H
                                have c24b0 : (t191 == x10_2) = true := beq_iff_eq.mpr c24
                                have c24b1 : (t191 != x10_2) = false := bne_eq_false_iff_eq.mpr c24
                                clear c24
                                (first | rw [c24b0] | (simp only [i64_w, i32_w]; rw [c24b0]) | skip)
                                have H' := Aside0.mk H
                                clear H
                                go_wp2_with (first | ((with_reducible refine gate_callee (f := 16) rfl ?_); refine goesL_ (some 91) rfl rfl Try.func16 (by kernel_rfl) rfl #[.slice Ao22 t183.length co22] rfl (by (try simp only [List.map_toArray, List.map_cons, List.map_nil]); first | done | rfl | (simp only [List.length_drop, List.length_take]; rfl)) ?_; (with_reducible refine (laws_sum.calls k4 _ _ t183 t191 _ ?side1 ?side2 A23.out).mono ?_); (case side1 => repeat (first | exact (Kd.R_reads' HO_7.out).2.2 | (with_reducible refine Kd.C_alloc ?_ _) | (with_reducible refine Kd.C_drewN ?_ _) | (with_reducible refine Kd.C_drew ?_))); (case side2 => exact (Kd.R_reads' HO_7.out).2.1); rintro e w' ⟨rfl, ⟨nd, rfl⟩⟩; refine ⟨_, rfl, ?_⟩))
                                go_meet
                                case rel => exact ⟨_, (((wrap64 (x14_4 * t187)) != (wrap64 ((wrap64 (t178 * x12_3)) * x10_2)))), (by first | rfl | (simp; done) | (simp [*]; done)), H', ⟨by have := HJ4.out; have := HK2.out; have := HK3.out; have := HK4.out; first | omega | exact Nat.le_refl _⟩, ⟨by (with_reducible repeat (first | apply Kd.R_alloc | apply Kd.R_drewN | apply Kd.R_drew)); exact HO_3.out⟩, ⟨by (with_reducible repeat (first | apply Kd.R_alloc | apply Kd.R_drewN | apply Kd.R_drew)); exact HO_7.out⟩, ⟨by repeat (first | (with_reducible first | exact HB.out | apply below_alloc | apply pw_below_drewN | apply below_drew1) | exact HB.out)⟩⟩
                              · rw [if_neg c24] at H
                                have c24b0 : (t191 == x10_2) = false := beq_eq_false_iff_ne.mpr c24
                                have c24b1 : (t191 != x10_2) = true := bne_iff_ne.mpr c24
                                (first | rw [c24b0] | (simp only [i64_w, i32_w]; rw [c24b0]) | skip)
                                have H' := Aside0.mk H
                                clear H
                                go_wp2_with (first | ((with_reducible refine gate_callee (f := 16) rfl ?_); refine goesL_ (some 91) rfl rfl Try.func16 (by kernel_rfl) rfl #[.slice Ao22 t183.length co22] rfl (by (try simp only [List.map_toArray, List.map_cons, List.map_nil]); first | done | rfl | (simp only [List.length_drop, List.length_take]; rfl)) ?_; (with_reducible refine (laws_sum.calls k4 _ _ t183 t191 _ ?side1 ?side2 A23.out).mono ?_); (case side1 => repeat (first | exact (Kd.R_reads' HO_7.out).2.2 | (with_reducible refine Kd.C_alloc ?_ _) | (with_reducible refine Kd.C_drewN ?_ _) | (with_reducible refine Kd.C_drew ?_))); (case side2 => exact (Kd.R_reads' HO_7.out).2.1); rintro e w' ⟨rfl, ⟨nd, rfl⟩⟩; refine ⟨_, rfl, ?_⟩))
                                go_meet
                                case rel => exact ⟨_, (true), (by first | rfl | (simp; done) | (simp [*]; done)), H', ⟨by have := HJ4.out; have := HK2.out; have := HK3.out; have := HK4.out; first | omega | exact Nat.le_refl _⟩, ⟨by (with_reducible repeat (first | apply Kd.R_alloc | apply Kd.R_drewN | apply Kd.R_drew)); exact HO_3.out⟩, ⟨by (with_reducible repeat (first | apply Kd.R_alloc | apply Kd.R_drewN | apply Kd.R_drew)); exact HO_7.out⟩, ⟨by repeat (first | (with_reducible first | exact HB.out | apply below_alloc | apply pw_below_drewN | apply below_drew1) | exact HB.out)⟩⟩
                            case rest =>
                              clear HC21
                              try clear c1
                              try clear p1
                              try clear q1
                              try clear hx1
                              try clear c2
                              try clear c2b0
                              try clear c2b1
                              try clear p2
                              try clear c4
                              try clear p6
                              try clear c9
                              try clear c9b0
                              try clear c9b1
                              try clear c11
                              try clear c13
                              try clear c13b0
                              try clear c14
                              try clear c14b0
                              try clear c15
                              try clear c15b0
                              try clear c16
                              try clear c16b0
                              try clear c17
                              try clear c17b0
                              try clear c18
                              try clear c18b0
                              try clear p18
                              try clear q18
                              try clear hx18
                              try clear p19
                              try clear q19
                              try clear hx19
                              try clear c24
                              try clear c24b0
                              try clear c24b1
                              try clear hx188_0
                              try clear hx189_0
                              try clear hx190_0
                              try clear p1
                              try clear p188
                              try clear p189
                              try clear p190
                              try clear p2
                              try clear p6
                              try clear q1
                              try clear q188
                              try clear q189
                              try clear q190
                              obtain ⟨kq, x104_20, rfl, HA, HJ20, HO_3, HO_7, HB⟩ := hcut
                              cases kq with
                              | zero => exact absurd HA.out (by simp [laws_FnOdds.j4])
                              | succ kj20 =>
                                have H := HA.out
                                clear HA
                                simp only [laws_FnOdds.j4] at H
                                by_cases c25 : x104_20 = true
                                · subst c25
                                  have H1 : (some false) = some r := by rw [if_pos rfl] at H; exact H
                                  clear H
                                  have H := H1
                                  clear H1
                                  obtain rfl := Option.some.inj H
                                  go_wp2
                                  go_ret
                                  exact ⟨by first | rfl | (simp [errW_none, errW_some] <;> rfl) | (simp [*, errW_none, errW_some] <;> rfl), by repeat (first | (with_reducible first | exact HB.out | apply below_alloc | apply pw_below_drewN | apply below_drew1) | exact HB.out)⟩
                                · replace c25 := Bool.eq_false_iff.mpr c25
                                  subst c25
                                  have H1 : ((impl_SafeLevel.f kj20 t177 t178 t179 t180).bind fun bt192 => (if bt192.2 = 0 then (if bt192.1 < 0 then (laws_FnOdds.j5 kj20 t179 t180 t183 x10_2 bt192.1 true) else (laws_FnOdds.j5 kj20 t179 t180 t183 x10_2 bt192.1 (decide (bt192.1 ≥ (t183.length : Int))))) else (laws_FnOdds.j5 kj20 t179 t180 t183 x10_2 bt192.1 true))) = some r := by rw [if_neg (show ¬ (false = true) by decide)] at H; exact H
                                  clear H
                                  have H := H1
                                  clear H1
                                  replace H := Option.bind_eq_some_iff.mp H
                                  obtain ⟨⟨t192, t193⟩, A260, H⟩ := H
                                  replace H : (if t193 = 0 then (if t192 < 0 then (laws_FnOdds.j5 kj20 t179 t180 t183 x10_2 t192 true) else (laws_FnOdds.j5 kj20 t179 t180 t183 x10_2 t192 (decide (t192 ≥ (t183.length : Int))))) else (laws_FnOdds.j5 kj20 t179 t180 t183 x10_2 t192 true)) = some r := H
                                  have A26 := Aside0.mk A260
                                  clear A260
                                  have HC27 := Aside0.mk H
                                  clear H
                                  go_upto_region 28 with (first | ((with_reducible refine gate_callee (f := 17) rfl ?_); refine goesL_ (some 110) rfl rfl Try.func17 (by kernel_rfl) rfl #[.slice Ao7 t177.length co7, .int .i64 t178, .int .i64 t179, .int .i64 t180] rfl (by (try simp only [List.map_toArray, List.map_cons, List.map_nil]); first | done | rfl | (simp only [List.length_drop, List.length_take]; rfl)) ?_; (with_reducible refine (impl_SafeLevel.calls kj20 _ _ t177 t178 t179 t180 t192 t193 _ ?side1 ?side2 A26.out).mono ?_); (case side1 => repeat (first | exact (Kd.R_reads' HO_3.out).2.2 | (with_reducible refine Kd.C_alloc ?_ _) | (with_reducible refine Kd.C_drewN ?_ _) | (with_reducible refine Kd.C_drew ?_))); (case side2 => exact (Kd.R_reads' HO_3.out).2.1); rintro e w28 ⟨rfl, hb⟩; refine ⟨_, rfl, ?_⟩; have n0_ := Aside0.mk (Kd.R_below (by (with_reducible repeat (first | apply Kd.R_alloc | apply Kd.R_drewN | apply Kd.R_drew)); exact HO_3.out) hb); have n1_ := Aside0.mk (Kd.R_below (by (with_reducible repeat (first | apply Kd.R_alloc | apply Kd.R_drewN | apply Kd.R_drew)); exact HO_7.out) hb); have n2_ := Aside0.mk (below_step (by repeat (first | (with_reducible first | exact HB.out | apply below_alloc | apply pw_below_drewN | apply below_drew1) | exact HB.out)) hb); clear HO_3; clear HO_7; clear HB; have HO_3 := n0_; have HO_7 := n1_; have HB := n2_; clear n0_ n1_ n2_; (try clear hb); (try clear hb2); (try clear hk); (try clear hi)))
                                  (try simp only [Act.put, List.setIfInBounds_toArray, List.set_cons_zero, List.set_cons_succ])
                                  go_cut [124] (fun v124 wc => ∃ (kq : Nat) (x124_26 : Bool), v124 = .bool x124_26 ∧ Aside0 (laws_FnOdds.j5 kq t179 t180 t183 x10_2 t192 x124_26 = some r) ∧ Aside0 (kq ≤ kj20) ∧ Aside0 (Kd.R (Kd.int .i64) 3 wc w.heap.size (fun _ => True) (.slice Ao22 t183.length co22) t183) ∧ Aside0 (Below w.heap.size w wc))
                                  case first =>
                                    have H := HC27.out
                                    clear HC27
                                    by_cases c29 : t193 = 0
                                    · rw [if_pos c29] at H
                                      have c29b0 : (t193 == 0) = true := beq_iff_eq.mpr c29
                                      have c29b1 : (t193 != 0) = false := bne_eq_false_iff_eq.mpr c29
                                      clear c29
                                      (first | rw [c29b0] | (simp only [i64_w, i32_w]; rw [c29b0]) | skip)
                                      by_cases c30 : t192 < 0
                                      · rw [if_pos c30] at H
                                        have c30b0 : decide (t192 < 0) = true := decide_eq_true c30
                                        clear c30
                                        have H' := Aside0.mk H
                                        clear H
                                        go_wp2
                                        go_meet
                                        case rel => exact ⟨_, (true), (by first | rfl | (simp; done) | (simp [*]; done)), H', ⟨by have := HJ4.out; have := HK2.out; have := HK3.out; have := HK4.out; have := HJ20.out; first | omega | exact Nat.le_refl _⟩, ⟨by (with_reducible repeat (first | apply Kd.R_alloc | apply Kd.R_drewN | apply Kd.R_drew)); exact Kd.R_mono HO_7.out (fun _ hk => trivial)⟩, ⟨by repeat (first | (with_reducible first | exact HB.out | apply below_alloc | apply pw_below_drewN | apply below_drew1) | exact HB.out)⟩⟩
                                      · rw [if_neg c30] at H
                                        have c30b0 : decide (t192 < 0) = false := decide_eq_false c30
                                        clear c30
                                        have H' := Aside0.mk H
                                        clear H
                                        go_wp2
                                        go_meet
                                        case rel => exact ⟨_, (decide (t192 ≥ (t183.length : Int))), (by first | rfl | (simp; done) | (simp [*]; done)), H', ⟨by have := HJ4.out; have := HK2.out; have := HK3.out; have := HK4.out; have := HJ20.out; first | omega | exact Nat.le_refl _⟩, ⟨by (with_reducible repeat (first | apply Kd.R_alloc | apply Kd.R_drewN | apply Kd.R_drew)); exact Kd.R_mono HO_7.out (fun _ hk => trivial)⟩, ⟨by repeat (first | (with_reducible first | exact HB.out | apply below_alloc | apply pw_below_drewN | apply below_drew1) | exact HB.out)⟩⟩
                                    · rw [if_neg c29] at H
                                      have c29b0 : (t193 == 0) = false := beq_eq_false_iff_ne.mpr c29
                                      have c29b1 : (t193 != 0) = true := bne_iff_ne.mpr c29
                                      (first | rw [c29b0] | (simp only [i64_w, i32_w]; rw [c29b0]) | skip)
                                      have H' := Aside0.mk H
                                      clear H
                                      go_wp2
                                      go_meet
                                      case rel => exact ⟨_, (true), (by first | rfl | (simp; done) | (simp [*]; done)), H', ⟨by have := HJ4.out; have := HK2.out; have := HK3.out; have := HK4.out; have := HJ20.out; first | omega | exact Nat.le_refl _⟩, ⟨by (with_reducible repeat (first | apply Kd.R_alloc | apply Kd.R_drewN | apply Kd.R_drew)); exact Kd.R_mono HO_7.out (fun _ hk => trivial)⟩, ⟨by repeat (first | (with_reducible first | exact HB.out | apply below_alloc | apply pw_below_drewN | apply below_drew1) | exact HB.out)⟩⟩
                                  case rest =>
                                    clear HC27
                                    try clear c1
                                    try clear p1
                                    try clear q1
                                    try clear hx1
                                    try clear c2
                                    try clear c2b0
                                    try clear c2b1
                                    try clear p2
                                    try clear c3
                                    try clear c4
                                    try clear p6
                                    try clear c9
                                    try clear c9b0
                                    try clear c9b1
                                    try clear c11
                                    try clear c13
                                    try clear c13b0
                                    try clear c14
                                    try clear c14b0
                                    try clear c15
                                    try clear c15b0
                                    try clear c16
                                    try clear c16b0
                                    try clear c17
                                    try clear c17b0
                                    try clear c18
                                    try clear c18b0
                                    try clear p18
                                    try clear q18
                                    try clear hx18
                                    try clear p19
                                    try clear q19
                                    try clear hx19
                                    try clear c24
                                    try clear c24b0
                                    try clear c24b1
                                    try clear c25
                                    try clear c29
                                    try clear c29b0
                                    try clear c29b1
                                    try clear c30
                                    try clear c30b0
                                    try clear hx188_0
                                    try clear hx189_0
                                    try clear hx190_0
                                    try clear p1
                                    try clear p18
                                    try clear p188
                                    try clear p189
                                    try clear p19
                                    try clear p190
                                    try clear p2
                                    try clear p6
                                    try clear q1
                                    try clear q18
                                    try clear q188
                                    try clear q189
                                    try clear q19
                                    try clear q190
                                    obtain ⟨kq, x124_26, rfl, HA, HJ26, HO_7, HB⟩ := hcut
                                    cases kq with
                                    | zero => exact absurd HA.out (by simp [laws_FnOdds.j5])
                                    | succ kj26 =>
                                      have H := HA.out
                                      clear HA
                                      simp only [laws_FnOdds.j5] at H
                                      by_cases c31 : x124_26 = true
                                      · subst c31
                                        have H1 : (some false) = some r := by rw [if_pos rfl] at H; exact H
                                        clear H
                                        have H := H1
                                        clear H1
                                        obtain rfl := Option.some.inj H
                                        go_wp2
                                        go_ret
                                        exact ⟨by first | rfl | (simp [errW_none, errW_some] <;> rfl) | (simp [*, errW_none, errW_some] <;> rfl), by repeat (first | (with_reducible first | exact HB.out | apply below_alloc | apply pw_below_drewN | apply below_drew1) | exact HB.out)⟩
                                      · replace c31 := Bool.eq_false_iff.mpr c31
                                        subst c31
                                        have H1 : (if 0 ≤ (wrap64 (t192 + 1)) then (if (wrap64 (t192 + 1)) ≤ (t183.length : Int) then ((laws_sum.f kj26 (t183.take ((wrap64 (t192 + 1)) : Int).toNat)).bind fun t198 => (if (wrap64 (t198 * t180)) ≥ (wrap64 (t179 * x10_2)) then (if 0 ≤ t192 then (if t192 ≤ (t183.length : Int) then ((laws_sum.f kj26 (t183.take (t192 : Int).toNat)).bind fun t203 => (some (decide ((wrap64 (t203 * t180)) < (wrap64 (t179 * x10_2)))))) else (none)) else (none)) else (some false))) else (none)) else (none)) = some r := by rw [if_neg (show ¬ (false = true) by decide)] at H; exact H
                                        clear H
                                        have H := H1
                                        clear H1
                                        obtain ⟨ji32, hji32⟩ : ∃ j_ : Int, (wrap64 (t192 + 1)) = j_ := ⟨_, rfl⟩
                                        replace H : (if 0 ≤ (ji32) then (if (ji32) ≤ (t183.length : Int) then ((laws_sum.f kj26 (t183.take ((ji32) : Int).toNat)).bind fun t198 => (if (wrap64 (t198 * t180)) ≥ (wrap64 (t179 * x10_2)) then (if 0 ≤ t192 then (if t192 ≤ (t183.length : Int) then ((laws_sum.f kj26 (t183.take (t192 : Int).toNat)).bind fun t203 => (some (decide ((wrap64 (t203 * t180)) < (wrap64 (t179 * x10_2)))))) else (none)) else (none)) else (some false))) else (none)) else (none)) = some r := by first | (rw [hji32] at H; exact H) | (simp only [hji32] at H ⊢; exact H)
                                        have hji32w : (IntKind.i64.wrap (t192 + 1)) = ji32 := (i64_w _).trans hji32
                                        by_cases c33 : 0 ≤ (ji32)
                                        · rw [if_pos c33] at H
                                          have c33b0 := eq_true c33
                                          have c33b1 : decide (0 ≤ (ji32)) = true := decide_eq_true c33
                                          clear c33
                                          by_cases c34 : (ji32) ≤ (t183.length : Int)
                                          · rw [if_pos c34] at H
                                            have c34b0 := eq_true c34
                                            have c34b1 : decide ((ji32) ≤ (t183.length : Int)) = true := decide_eq_true c34
                                            clear c34
                                            obtain ⟨y194, hy194⟩ : ∃ y_ : List Int, y_ = (t183.take ((ji32) : Int).toNat) := ⟨_, rfl⟩
                                            replace H : ((laws_sum.f kj26 y194).bind fun t198 => (if (wrap64 (t198 * t180)) ≥ (wrap64 (t179 * x10_2)) then (if 0 ≤ t192 then (if t192 ≤ (t183.length : Int) then ((laws_sum.f kj26 (t183.take (t192 : Int).toNat)).bind fun t203 => (some (decide ((wrap64 (t203 * t180)) < (wrap64 (t179 * x10_2)))))) else (none)) else (none)) else (some false))) = some r := by first | (rw [hy194]; with_reducible exact H) | (have H2_ := (Option.bind_some _ _).symm.trans H; rw [hy194]; with_reducible exact H2_) | (have H2_ := (Option.bind_some _ _).symm.trans H; with_reducible exact H2_) | with_reducible exact H | (rw [hy194]; exact H) | exact H
                                            have Ny194 := Aside0.mk hy194
                                            clear hy194
                                            replace H := Option.bind_eq_some_iff.mp H
                                            obtain ⟨t198, A350, H⟩ := H
                                            replace H : (if (wrap64 (t198 * t180)) ≥ (wrap64 (t179 * x10_2)) then (if 0 ≤ t192 then (if t192 ≤ (t183.length : Int) then ((laws_sum.f kj26 (t183.take (t192 : Int).toNat)).bind fun t203 => (some (decide ((wrap64 (t203 * t180)) < (wrap64 (t179 * x10_2)))))) else (none)) else (none)) else (some false)) = some r := H
                                            have A35 := Aside0.mk A350
                                            clear A350
                                            by_cases c36 : (wrap64 (t198 * t180)) ≥ (wrap64 (t179 * x10_2))
                                            · rw [if_pos c36] at H
                                              have c36b0 : decide ((wrap64 (t179 * x10_2)) ≤ (wrap64 (t198 * t180))) = true := decide_eq_true c36
                                              clear c36
                                              by_cases c37 : 0 ≤ t192
                                              · rw [if_pos c37] at H
                                                have c37b0 := eq_true c37
                                                have c37b1 : decide (0 ≤ t192) = true := decide_eq_true c37
                                                clear c37
                                                by_cases c38 : t192 ≤ (t183.length : Int)
                                                · rw [if_pos c38] at H
                                                  have c38b0 := eq_true c38
                                                  have c38b1 : decide (t192 ≤ (t183.length : Int)) = true := decide_eq_true c38
                                                  clear c38
                                                  obtain ⟨y199, hy199⟩ : ∃ y_ : List Int, y_ = (t183.take (t192 : Int).toNat) := ⟨_, rfl⟩
                                                  replace H : ((laws_sum.f kj26 y199).bind fun t203 => (some (decide ((wrap64 (t203 * t180)) < (wrap64 (t179 * x10_2)))))) = some r := by first | (rw [hy199]; with_reducible exact H) | (have H2_ := (Option.bind_some _ _).symm.trans H; rw [hy199]; with_reducible exact H2_) | (have H2_ := (Option.bind_some _ _).symm.trans H; with_reducible exact H2_) | with_reducible exact H | (rw [hy199]; exact H) | exact H
                                                  have Ny199 := Aside0.mk hy199
                                                  clear hy199
                                                  replace H := Option.bind_eq_some_iff.mp H
                                                  obtain ⟨t203, A390, H⟩ := H
                                                  replace H : (some (decide ((wrap64 (t203 * t180)) < (wrap64 (t179 * x10_2))))) = some r := H
                                                  have A39 := Aside0.mk A390
                                                  clear A390
                                                  obtain rfl := Option.some.inj H
                                                  have q40 : ((ji32) : Int) ≤ ((t183.length : Int) : Int) := of_decide_eq_true (by first | (with_reducible assumption) | assumption)
                                                  obtain ⟨i040, hi040, _, hsz40, _⟩ := info_parts info3
                                                  have hroom40 : t183.length ≤ co22 := (Kd.R_reads' HO_7.out).2.1
                                                  have hC40 : Kd.C (Kd.int .i64) _ Ao22 t183.length t183 := (Kd.R_reads' HO_7.out).2.2
                                                  have hcut40 := cut_to (P := Try.prog) 23 3 .i64 Try.underlying23 hi040 Ao22 t183.length co22 (ji32) (of_decide_eq_true (by first | (with_reducible assumption) | assumption)) q40 hroom40
                                                  have hr40 := Kd.C_take (m := ((ji32) : Int).toNat) hC40 (by omega)
                                                  have hy40 : y194.length = ((ji32) : Int).toNat := (by rw [Ny194.out, List.length_take]; omega)
                                                  rw [← Ny194.out] at hr40
                                                  rw [← hy40] at hcut40
                                                  have HR197 := Aside0.mk hr40
                                                  have HC197 := Aside0.mk (show y194.length ≤ co22 from by omega)
                                                  clear hr40 hC40 hroom40 hi040 hsz40
                                                  have KY40 := Aside0.mk hy40
                                                  clear hy40
                                                  have KL40 := Aside0.mk (show ((ji32) : Int).toNat ≤ t183.length from by omega)
                                                  replace q40 := eq_true q40
                                                  go_wp2_with (first | ((with_reducible refine gate_callee (f := 16) rfl ?_); refine goesL_ (some 129) rfl rfl Try.func16 (by kernel_rfl) rfl #[.slice Ao22 y194.length co22] rfl (by (try simp only [List.map_toArray, List.map_cons, List.map_nil]); first | done | rfl | (simp only [List.length_drop, List.length_take]; rfl)) ?_; (with_reducible refine (laws_sum.calls kj26 _ _ y194 t198 _ ?side1 ?side2 A35.out).mono ?_); (case side1 => repeat (first | exact (by repeat (first | (with_reducible exact HR197.out) | (with_reducible refine Kd.C_alloc ?_ _) | (with_reducible refine Kd.C_drewN ?_ _) | (with_reducible refine Kd.C_drew ?_) | exact HR197.out)) | (with_reducible refine Kd.C_alloc ?_ _) | (with_reducible refine Kd.C_drewN ?_ _) | (with_reducible refine Kd.C_drew ?_))); (case side2 => exact HC197.out); rintro e w' ⟨rfl, ⟨nd, rfl⟩⟩; refine ⟨_, rfl, ?_⟩; have q41 : (t192 : Int) ≤ ((t183.length : Int) : Int) := of_decide_eq_true (by first | (with_reducible assumption) | assumption); obtain ⟨i041, hi041, _, hsz41, _⟩ := info_parts info3; have hroom41 : t183.length ≤ co22 := (Kd.R_reads' HO_7.out).2.1; have hC41 : Kd.C (Kd.int .i64) _ Ao22 t183.length t183 := (Kd.R_reads' HO_7.out).2.2; have hcut41 := cut_to (P := Try.prog) 23 3 .i64 Try.underlying23 hi041 Ao22 t183.length co22 t192 (of_decide_eq_true (by first | (with_reducible assumption) | assumption)) q41 hroom41; have hr41 := Kd.C_take (m := (t192 : Int).toNat) hC41 (by omega); have hy41 : y199.length = (t192 : Int).toNat := (by rw [Ny199.out, List.length_take]; omega); rw [← Ny199.out] at hr41; rw [← hy41] at hcut41; have HR202 := Aside0.mk hr41; have HC202 := Aside0.mk (show y199.length ≤ co22 from by omega); clear hr41 hC41 hroom41 hi041 hsz41; have KY41 := Aside0.mk hy41; clear hy41; have KL41 := Aside0.mk (show (t192 : Int).toNat ≤ t183.length from by omega); replace q41 := eq_true q41) | (go_at_call 16; (with_reducible refine (laws_sum.calls kj26 _ _ y199 t203 _ ?side1 ?side2 A39.out).mono ?_); (case side1 => repeat (first | exact (by repeat (first | (with_reducible exact HR202.out) | (with_reducible refine Kd.C_alloc ?_ _) | (with_reducible refine Kd.C_drewN ?_ _) | (with_reducible refine Kd.C_drew ?_) | exact HR202.out)) | (with_reducible refine Kd.C_alloc ?_ _) | (with_reducible refine Kd.C_drewN ?_ _) | (with_reducible refine Kd.C_drew ?_))); (case side2 => exact HC202.out); rintro e w' ⟨rfl, ⟨nd, rfl⟩⟩))
                                                  go_ret
                                                  exact ⟨by first | rfl | (simp [errW_none, errW_some] <;> rfl) | (simp only [← hji32]; first | rfl | (simp [errW_none, errW_some] <;> rfl)) | (simp [*, errW_none, errW_some] <;> rfl), by repeat (first | (with_reducible first | exact HB.out | apply below_alloc | apply pw_below_drewN | apply below_drew1) | exact HB.out)⟩
                                                · rw [if_neg c38] at H
                                                  exact absurd H (by simp)
                                              · rw [if_neg c37] at H
                                                exact absurd H (by simp)
                                            · rw [if_neg c36] at H
                                              have c36b0 : decide ((wrap64 (t179 * x10_2)) ≤ (wrap64 (t198 * t180))) = false := decide_eq_false c36
                                              clear c36
                                              obtain rfl := Option.some.inj H
                                              have q42 : ((ji32) : Int) ≤ ((t183.length : Int) : Int) := of_decide_eq_true (by first | (with_reducible assumption) | assumption)
                                              obtain ⟨i042, hi042, _, hsz42, _⟩ := info_parts info3
                                              have hroom42 : t183.length ≤ co22 := (Kd.R_reads' HO_7.out).2.1
                                              have hC42 : Kd.C (Kd.int .i64) _ Ao22 t183.length t183 := (Kd.R_reads' HO_7.out).2.2
                                              have hcut42 := cut_to (P := Try.prog) 23 3 .i64 Try.underlying23 hi042 Ao22 t183.length co22 (ji32) (of_decide_eq_true (by first | (with_reducible assumption) | assumption)) q42 hroom42
                                              have hr42 := Kd.C_take (m := ((ji32) : Int).toNat) hC42 (by omega)
                                              have hy42 : y194.length = ((ji32) : Int).toNat := (by rw [Ny194.out, List.length_take]; omega)
                                              rw [← Ny194.out] at hr42
                                              rw [← hy42] at hcut42
                                              have HR197 := Aside0.mk hr42
                                              have HC197 := Aside0.mk (show y194.length ≤ co22 from by omega)
                                              clear hr42 hC42 hroom42 hi042 hsz42
                                              have KY42 := Aside0.mk hy42
                                              clear hy42
                                              have KL42 := Aside0.mk (show ((ji32) : Int).toNat ≤ t183.length from by omega)
                                              replace q42 := eq_true q42
                                              go_wp2_with (first | ((with_reducible refine gate_callee (f := 16) rfl ?_); refine goesL_ (some 129) rfl rfl Try.func16 (by kernel_rfl) rfl #[.slice Ao22 y194.length co22] rfl (by (try simp only [List.map_toArray, List.map_cons, List.map_nil]); first | done | rfl | (simp only [List.length_drop, List.length_take]; rfl)) ?_; (with_reducible refine (laws_sum.calls kj26 _ _ y194 t198 _ ?side1 ?side2 A35.out).mono ?_); (case side1 => repeat (first | exact (by repeat (first | (with_reducible exact HR197.out) | (with_reducible refine Kd.C_alloc ?_ _) | (with_reducible refine Kd.C_drewN ?_ _) | (with_reducible refine Kd.C_drew ?_) | exact HR197.out)) | (with_reducible refine Kd.C_alloc ?_ _) | (with_reducible refine Kd.C_drewN ?_ _) | (with_reducible refine Kd.C_drew ?_))); (case side2 => exact HC197.out); rintro e w' ⟨rfl, ⟨nd, rfl⟩⟩; refine ⟨_, rfl, ?_⟩))
                                              go_ret
                                              exact ⟨by first | rfl | (simp [errW_none, errW_some] <;> rfl) | (simp only [← hji32]; first | rfl | (simp [errW_none, errW_some] <;> rfl)) | (simp [*, errW_none, errW_some] <;> rfl), by repeat (first | (with_reducible first | exact HB.out | apply below_alloc | apply pw_below_drewN | apply below_drew1) | exact HB.out)⟩
                                          · rw [if_neg c34] at H
                                            exact absurd H (by simp)
                                        · rw [if_neg c33] at H
                                          exact absurd H (by simp)


/-- THE ONE PURE STATEMENT of laws_FnOdds. -/
def laws_FnOdds.Pure : Prop := ∀ (l0 : List Int), (l0.length ≤ 9223372036854775807 ∧ ∀ x ∈ l0, (Lit.int .u8 x).wf = true) → ∃ k, laws_FnOdds.f k l0 = some true
theorem laws_FnOdds.walk (P : laws_FnOdds.Pure) (A0 : Option Addr) (c0 : Nat) (l0 : List Int) (w : World) (hr0 : Kd.C (Kd.int .u8) w A0 l0.length l0) (hc0 : l0.length ≤ c0) (hw0 : (l0.length ≤ 9223372036854775807 ∧ ∀ x ∈ l0, (Lit.int .u8 x).wf = true)) :
    Calls Try.prog 4 #[.slice A0 l0.length c0] w fun e w' => e = .returned (.bool true) ∧ Below w.heap.size w w' := by
  obtain ⟨k, h⟩ := P l0 hw0
  refine (laws_FnOdds.calls k A0 c0 l0 true w hr0 hc0 h).mono ?_
  rintro e w' ⟨rfl, hd⟩
  exact ⟨rfl, hd⟩

end Go.Proofs.Ytbljkgllicnkkaa.XFnOdds
