-- PRINTED by xprint.py (our own program, over the kit's print.py)
import Derived.Test.YtecbcibblmknpaaXFnExactBestShelfx0
import Derived.Test.YtecbcibblmknpaaXFnExactBestShelfx1
import Derived.Test.YtecbcibblmknpaaXFnExactBestShelfx2
import Derived.Test.YtecbcibblmknpaaXFnExactBestShelfx3
import Derived.Test.YtecbcibblmknpaaXFnExactBestShelfx8
import Derived.Test.YtecbcibblmknpaaXFnExactBestShelfx14
import Derived.Test.YtecbcibblmknpaaPu
namespace Go.Proofs.Ytecbcibblmknpaa.XFnExactBestShelf
open Go.RowKit Go.Proofs.YtecbcibblmknpaaW.PrintWords Go.Proofs.YtecbcibblmknpaaW.PrintLast Go.Proofs.YtecbcibblmknpaaW.PrintMore Go.Proofs.YtecbcibblmknpaaW.Idx
attribute [local go_sem] max2_int min2_int max_two min_two max_three min_three max_four min_four   -- for this text's walks alone
set_option linter.unusedVariables false
set_option linter.unusedSimpArgs false

/-! ### laws_FnExactBestShelf: function 6 -/
mutual
def laws_FnExactBestShelf.j0 : Nat → List (S49) → Int → Int → List (S50) → Int → Bool → List Int → Int → Int → List Int → Int → Int → Option (Bool)
 | 0, _, _, _, _, _, _, _, _, _, _, _, _ => none
 | k + 1, x0, x1, x7, x8, x10, x44, x356000, x356001, x356002, x366000, x366001, x366002 => if x44 = true then (some false) else ((laws_toFacingS.f k x0).bind fun t367 => ((laws_eqFacingS.f k x8 t367).bind fun t370 => (if t370 = true then ((laws_markFacingS.f k x8 1).bind fun t371 => (if t371 < 0 then (laws_FnExactBestShelf.j1 k x0 x1 x7 true x356000 x356001 x356002 x366000 x366001 x366002) else ((laws_eqShelfPlan.f k x366000 x366001 x366002 x356000 x356001 x356002).bind fun t372 => (if t372 = true then (laws_FnExactBestShelf.j1 k x0 x1 x7 (x10 != x7) x356000 x356001 x356002 x366000 x366001 x366002) else (laws_FnExactBestShelf.j1 k x0 x1 x7 true x356000 x356001 x356002 x366000 x366001 x366002))))) else (some false))))
def laws_FnExactBestShelf.j1 : Nat → List (S49) → Int → Int → Bool → List Int → Int → Int → List Int → Int → Int → Option (Bool)
 | 0, _, _, _, _, _, _, _, _, _, _ => none
 | k + 1, x0, x1, x7, x65, x356000, x356001, x356002, x366000, x366001, x366002 => if x65 = true then (some false) else ((laws_markShelfPlan.f k x366000 x366001 x366002 1).bind fun bt373 => ((laws_heldShelfPlan.f k bt373.2 x366001 x366002 1).bind fun t375 => (if t375 < 0 then (some false) else (if t375 = bt373.1 then ((laws_toFacingS.f k x0).bind fun t376 => ((impl_BestShelf.f k t376 x1).bind fun bt379 => ((laws_eqShelfPlan.f k bt379.1 bt379.2.1 bt379.2.2.1 x356000 x356001 x356002).bind fun t386 => (if t386 = true then (laws_FnExactBestShelf.j2 k bt373.1 (bt379.2.2.2 != x7) bt373.2 x366001 x366002) else (laws_FnExactBestShelf.j2 k bt373.1 true bt373.2 x366001 x366002))))) else (some false)))))
def laws_FnExactBestShelf.j2 : Nat → Int → Bool → List Int → Int → Int → Option (Bool)
 | 0, _, _, _, _, _ => none
 | k + 1, x12, x92, x366000, x366001, x366002 => if x92 = true then (some false) else ((laws_heldShelfPlan.f k x366000 x366001 x366002 1).bind fun t387 => (if t387 < 0 then (some false) else (if t387 = x12 then (some true) else (some false))))
end
def laws_FnExactBestShelf.f (k : Nat) (l0 : List (S49)) (a1 : Int) : Option (Bool) := (laws_szFacingS.f k l0 1048576).bind fun t345 => (if t345 < 0 then (some true) else ((laws_toFacingS.f k l0).bind fun t346 => ((spec_BestShelf.f k t346 a1).bind fun bt349 => ((laws_toFacingS.f k l0).bind fun t356 => ((impl_BestShelf.f k t356 a1).bind fun bt359 => ((laws_eqShelfPlan.f k bt359.1 bt359.2.1 bt359.2.2.1 bt349.1 bt349.2.1 bt349.2.2.1).bind fun t366 => (if t366 = true then (laws_FnExactBestShelf.j0 k l0 a1 bt349.2.2.2 t356 bt359.2.2.2 (bt359.2.2.2 != bt349.2.2.2) bt349.1 bt349.2.1 bt349.2.2.1 bt359.1 bt359.2.1 bt359.2.2.1) else (laws_FnExactBestShelf.j0 k l0 a1 bt349.2.2.2 t356 bt359.2.2.2 true bt349.1 bt349.2.1 bt349.2.2.1 bt359.1 bt359.2.1 bt359.2.2.1))))))))
theorem laws_FnExactBestShelf.mono_l : ∀ k, (∀ y0 y1 y2 y3 y4 y5 y6 y7 y8 y9 y10 y11, LeO (laws_FnExactBestShelf.j0 k y0 y1 y2 y3 y4 y5 y6 y7 y8 y9 y10 y11) (laws_FnExactBestShelf.j0 (k + 1) y0 y1 y2 y3 y4 y5 y6 y7 y8 y9 y10 y11)) ∧ (∀ y0 y1 y2 y3 y4 y5 y6 y7 y8 y9, LeO (laws_FnExactBestShelf.j1 k y0 y1 y2 y3 y4 y5 y6 y7 y8 y9) (laws_FnExactBestShelf.j1 (k + 1) y0 y1 y2 y3 y4 y5 y6 y7 y8 y9)) ∧ (∀ y0 y1 y2 y3 y4, LeO (laws_FnExactBestShelf.j2 k y0 y1 y2 y3 y4) (laws_FnExactBestShelf.j2 (k + 1) y0 y1 y2 y3 y4))
 | 0 => ⟨fun _ _ _ _ _ _ _ _ _ _ _ _ r h => by simp [laws_FnExactBestShelf.j0] at h, fun _ _ _ _ _ _ _ _ _ _ r h => by simp [laws_FnExactBestShelf.j1] at h, fun _ _ _ _ _ r h => by simp [laws_FnExactBestShelf.j2] at h⟩
 | k + 1 => by
  obtain ⟨ih0, ih1, ih2⟩ := laws_FnExactBestShelf.mono_l k
  refine ⟨?_, ?_, ?_⟩
  ·intro y0 y1 y2 y3 y4 y5 y6 y7 y8 y9 y10 y11
   unfold laws_FnExactBestShelf.j0
   repeat' first
   | (with_reducible exact ih0 _ _ _ _ _ _ _ _ _ _ _ _)
   | (with_reducible exact ih1 _ _ _ _ _ _ _ _ _ _)
   | (with_reducible exact ih2 _ _ _ _ _)
   | (with_reducible exact impl_BestShelf.mono _ _ _)
   | (with_reducible exact laws_eqFacingS.mono _ _ _)
   | (with_reducible exact laws_eqShelfPlan.mono _ _ _ _ _ _ _)
   | (with_reducible exact laws_heldShelfPlan.mono _ _ _ _ _)
   | (with_reducible exact laws_markFacingS.mono _ _ _)
   | (with_reducible exact laws_markShelfPlan.mono _ _ _ _ _)
   | (with_reducible exact laws_szFacingS.mono _ _ _)
   | (with_reducible exact laws_toFacingS.mono _ _)
   | (with_reducible exact spec_BestShelf.mono _ _ _)
   | (with_reducible exact LeO.refl _)
   | (with_reducible exact LeO.none _)
   | (with_reducible refine LeO.ite ?_ ?_)
   | (with_reducible refine LeO.bind ?_ (fun _ => ?_))
   | exact ih0 _ _ _ _ _ _ _ _ _ _ _ _
   | exact ih1 _ _ _ _ _ _ _ _ _ _
   | exact ih2 _ _ _ _ _
   | exact impl_BestShelf.mono _ _ _
   | exact laws_eqFacingS.mono _ _ _
   | exact laws_eqShelfPlan.mono _ _ _ _ _ _ _
   | exact laws_heldShelfPlan.mono _ _ _ _ _
   | exact laws_markFacingS.mono _ _ _
   | exact laws_markShelfPlan.mono _ _ _ _ _
   | exact laws_szFacingS.mono _ _ _
   | exact laws_toFacingS.mono _ _
   | exact spec_BestShelf.mono _ _ _
   | exact LeO.none _
   | refine LeO.ite ?_ ?_
   | refine LeO.bind ?_ (fun _ => ?_)
  ·intro y0 y1 y2 y3 y4 y5 y6 y7 y8 y9
   unfold laws_FnExactBestShelf.j1
   repeat' first
   | (with_reducible exact ih0 _ _ _ _ _ _ _ _ _ _ _ _)
   | (with_reducible exact ih1 _ _ _ _ _ _ _ _ _ _)
   | (with_reducible exact ih2 _ _ _ _ _)
   | (with_reducible exact impl_BestShelf.mono _ _ _)
   | (with_reducible exact laws_eqFacingS.mono _ _ _)
   | (with_reducible exact laws_eqShelfPlan.mono _ _ _ _ _ _ _)
   | (with_reducible exact laws_heldShelfPlan.mono _ _ _ _ _)
   | (with_reducible exact laws_markFacingS.mono _ _ _)
   | (with_reducible exact laws_markShelfPlan.mono _ _ _ _ _)
   | (with_reducible exact laws_szFacingS.mono _ _ _)
   | (with_reducible exact laws_toFacingS.mono _ _)
   | (with_reducible exact spec_BestShelf.mono _ _ _)
   | (with_reducible exact LeO.refl _)
   | (with_reducible exact LeO.none _)
   | (with_reducible refine LeO.ite ?_ ?_)
   | (with_reducible refine LeO.bind ?_ (fun _ => ?_))
   | exact ih0 _ _ _ _ _ _ _ _ _ _ _ _
   | exact ih1 _ _ _ _ _ _ _ _ _ _
   | exact ih2 _ _ _ _ _
   | exact impl_BestShelf.mono _ _ _
   | exact laws_eqFacingS.mono _ _ _
   | exact laws_eqShelfPlan.mono _ _ _ _ _ _ _
   | exact laws_heldShelfPlan.mono _ _ _ _ _
   | exact laws_markFacingS.mono _ _ _
   | exact laws_markShelfPlan.mono _ _ _ _ _
   | exact laws_szFacingS.mono _ _ _
   | exact laws_toFacingS.mono _ _
   | exact spec_BestShelf.mono _ _ _
   | exact LeO.none _
   | refine LeO.ite ?_ ?_
   | refine LeO.bind ?_ (fun _ => ?_)
  ·intro y0 y1 y2 y3 y4
   unfold laws_FnExactBestShelf.j2
   repeat' first
   | (with_reducible exact ih0 _ _ _ _ _ _ _ _ _ _ _ _)
   | (with_reducible exact ih1 _ _ _ _ _ _ _ _ _ _)
   | (with_reducible exact ih2 _ _ _ _ _)
   | (with_reducible exact impl_BestShelf.mono _ _ _)
   | (with_reducible exact laws_eqFacingS.mono _ _ _)
   | (with_reducible exact laws_eqShelfPlan.mono _ _ _ _ _ _ _)
   | (with_reducible exact laws_heldShelfPlan.mono _ _ _ _ _)
   | (with_reducible exact laws_markFacingS.mono _ _ _)
   | (with_reducible exact laws_markShelfPlan.mono _ _ _ _ _)
   | (with_reducible exact laws_szFacingS.mono _ _ _)
   | (with_reducible exact laws_toFacingS.mono _ _)
   | (with_reducible exact spec_BestShelf.mono _ _ _)
   | (with_reducible exact LeO.refl _)
   | (with_reducible exact LeO.none _)
   | (with_reducible refine LeO.ite ?_ ?_)
   | (with_reducible refine LeO.bind ?_ (fun _ => ?_))
   | exact ih0 _ _ _ _ _ _ _ _ _ _ _ _
   | exact ih1 _ _ _ _ _ _ _ _ _ _
   | exact ih2 _ _ _ _ _
   | exact impl_BestShelf.mono _ _ _
   | exact laws_eqFacingS.mono _ _ _
   | exact laws_eqShelfPlan.mono _ _ _ _ _ _ _
   | exact laws_heldShelfPlan.mono _ _ _ _ _
   | exact laws_markFacingS.mono _ _ _
   | exact laws_markShelfPlan.mono _ _ _ _ _
   | exact laws_szFacingS.mono _ _ _
   | exact laws_toFacingS.mono _ _
   | exact spec_BestShelf.mono _ _ _
   | exact LeO.none _
   | refine LeO.ite ?_ ?_
   | refine LeO.bind ?_ (fun _ => ?_)
theorem laws_FnExactBestShelf.mono : ∀ a0 a1 k, LeO (laws_FnExactBestShelf.f k a0 a1) (laws_FnExactBestShelf.f (k + 1) a0 a1) := by
 intro a0 a1 k
 obtain ⟨ih0, ih1, ih2⟩ := laws_FnExactBestShelf.mono_l k
 unfold laws_FnExactBestShelf.f
 repeat' first
   | (with_reducible exact ih0 _ _ _ _ _ _ _ _ _ _ _ _)
   | (with_reducible exact ih1 _ _ _ _ _ _ _ _ _ _)
   | (with_reducible exact ih2 _ _ _ _ _)
   | (with_reducible exact impl_BestShelf.mono _ _ _)
   | (with_reducible exact laws_eqFacingS.mono _ _ _)
   | (with_reducible exact laws_eqShelfPlan.mono _ _ _ _ _ _ _)
   | (with_reducible exact laws_heldShelfPlan.mono _ _ _ _ _)
   | (with_reducible exact laws_markFacingS.mono _ _ _)
   | (with_reducible exact laws_markShelfPlan.mono _ _ _ _ _)
   | (with_reducible exact laws_szFacingS.mono _ _ _)
   | (with_reducible exact laws_toFacingS.mono _ _)
   | (with_reducible exact spec_BestShelf.mono _ _ _)
   | (with_reducible exact LeO.refl _)
   | (with_reducible exact LeO.none _)
   | (with_reducible refine LeO.ite ?_ ?_)
   | (with_reducible refine LeO.bind ?_ (fun _ => ?_))
   | exact ih0 _ _ _ _ _ _ _ _ _ _ _ _
   | exact ih1 _ _ _ _ _ _ _ _ _ _
   | exact ih2 _ _ _ _ _
   | exact impl_BestShelf.mono _ _ _
   | exact laws_eqFacingS.mono _ _ _
   | exact laws_eqShelfPlan.mono _ _ _ _ _ _ _
   | exact laws_heldShelfPlan.mono _ _ _ _ _
   | exact laws_markFacingS.mono _ _ _
   | exact laws_markShelfPlan.mono _ _ _ _ _
   | exact laws_szFacingS.mono _ _ _
   | exact laws_toFacingS.mono _ _
   | exact spec_BestShelf.mono _ _ _
   | exact LeO.none _
   | refine LeO.ite ?_ ?_
   | refine LeO.bind ?_ (fun _ => ?_)
set_option maxHeartbeats 8000000 in
set_option maxRecDepth 100000 in
theorem laws_FnExactBestShelf.calls (k : Nat) (A0 : Option Addr) (c0 : Nat) (l0 : List (S49)) (a1 : Int) (r : Bool) (w : World) (hr0 : Kd.C k49 w A0 l0.length l0) (hc0 : l0.length ≤ c0) (h : laws_FnExactBestShelf.f k l0 a1 = some r) (hT0 : r = true) :
  Calls Try.prog 6 #[.slice A0 l0.length c0, .int .i64 a1] w fun e w' => e = .returned (.bool r) ∧ Below w.heap.size w w' := by
 have hu31 := Try.underlying31
 have HR0 := Aside0.mk hr0
 have HC0 := Aside0.mk hc0
 clear hr0 hc0
 have HB := Aside0.mk (Below.refl w.heap.size w)
 have H : ((laws_szFacingS.f k l0 1048576).bind fun t345 => (if t345 < 0 then (some true) else ((laws_toFacingS.f k l0).bind fun t346 => ((spec_BestShelf.f k t346 a1).bind fun bt349 => ((laws_toFacingS.f k l0).bind fun t356 => ((impl_BestShelf.f k t356 a1).bind fun bt359 => ((laws_eqShelfPlan.f k bt359.1 bt359.2.1 bt359.2.2.1 bt349.1 bt349.2.1 bt349.2.2.1).bind fun t366 => (if t366 = true then (laws_FnExactBestShelf.j0 k l0 a1 bt349.2.2.2 t356 bt359.2.2.2 (bt359.2.2.2 != bt349.2.2.2) bt349.1 bt349.2.1 bt349.2.2.1 bt359.1 bt359.2.1 bt359.2.2.1) else (laws_FnExactBestShelf.j0 k l0 a1 bt349.2.2.2 t356 bt359.2.2.2 true bt349.1 bt349.2.1 bt349.2.2.1 bt359.1 bt359.2.1 bt359.2.2.1))))))))) = some r := h
 clear h
 have hT_ := Aside0.mk hT0
 clear hT0
 replace H := Option.bind_eq_some_iff.mp H
 obtain ⟨t345, A30, H⟩ := H
 replace H : (if t345 < 0 then (some true) else ((laws_toFacingS.f k l0).bind fun t346 => ((spec_BestShelf.f k t346 a1).bind fun bt349 => ((laws_toFacingS.f k l0).bind fun t356 => ((impl_BestShelf.f k t356 a1).bind fun bt359 => ((laws_eqShelfPlan.f k bt359.1 bt359.2.1 bt359.2.2.1 bt349.1 bt349.2.1 bt349.2.2.1).bind fun t366 => (if t366 = true then (laws_FnExactBestShelf.j0 k l0 a1 bt349.2.2.2 t356 bt359.2.2.2 (bt359.2.2.2 != bt349.2.2.2) bt349.1 bt349.2.1 bt349.2.2.1 bt359.1 bt359.2.1 bt359.2.2.1) else (laws_FnExactBestShelf.j0 k l0 a1 bt349.2.2.2 t356 bt359.2.2.2 true bt349.1 bt349.2.1 bt349.2.2.1 bt359.1 bt359.2.1 bt359.2.2.1)))))))) = some r := H
 have A3 := Aside0.mk A30
 clear A30
 by_cases c4 : t345 < 0
 ·rw [if_pos c4] at H
  have c4b0 : decide (t345 < 0) = true := decide_eq_true c4
  clear c4
  obtain rfl := Option.some.inj H
  go_enter Try.func6, Try.ntmps6
  go_wp2_with (first | ((with_reducible refine gate_callee (f := 7) rfl ?_); refine goesL_ (some 18) rfl rfl Try.func7 (by kernel_rfl) rfl #[.slice A0 l0.length c0, .int .i64 1048576] rfl (by (try simp only [List.map_toArray, List.map_cons, List.map_nil]); first | done | rfl | (simp only [List.length_drop, List.length_take]; rfl)) ?_; (with_reducible refine (laws_szFacingS.calls k _ _ l0 1048576 t345 _ ?side1 ?side2 A3.out).mono ?_); (case side1 => repeat (first | exact HR0.out | (with_reducible refine Kd.C_alloc ?_ _) | (with_reducible refine Kd.C_drewN ?_ _) | (with_reducible refine Kd.C_drew ?_))); (case side2 => exact HC0.out); rintro e w5 ⟨rfl, hb⟩; refine ⟨_, rfl, ?_⟩; have n0_ := Aside0.mk (below_step bl_ hb); clear HB; have HB := n0_; clear n0_; (try clear hb); (try clear hb2); (try clear hk); (try clear hi)))
  go_ret
  exact ⟨by first | rfl | (simp [errW_none, errW_some] <;> rfl) | (simp [*, errW_none, errW_some] <;> rfl), by repeat (first | (with_reducible first | exact HB.out | apply below_alloc | apply pw_below_drewN | apply below_drew1) | exact HB.out)⟩
 rw [if_neg c4] at H
 have c4b0 : decide (t345 < 0) = false := decide_eq_false c4
 clear c4
 replace H := Option.bind_eq_some_iff.mp H
 obtain ⟨t346, A60, H⟩ := H
 replace H : ((spec_BestShelf.f k t346 a1).bind fun bt349 => ((laws_toFacingS.f k l0).bind fun t356 => ((impl_BestShelf.f k t356 a1).bind fun bt359 => ((laws_eqShelfPlan.f k bt359.1 bt359.2.1 bt359.2.2.1 bt349.1 bt349.2.1 bt349.2.2.1).bind fun t366 => (if t366 = true then (laws_FnExactBestShelf.j0 k l0 a1 bt349.2.2.2 t356 bt359.2.2.2 (bt359.2.2.2 != bt349.2.2.2) bt349.1 bt349.2.1 bt349.2.2.1 bt359.1 bt359.2.1 bt359.2.2.1) else (laws_FnExactBestShelf.j0 k l0 a1 bt349.2.2.2 t356 bt359.2.2.2 true bt349.1 bt349.2.1 bt349.2.2.1 bt359.1 bt359.2.1 bt359.2.2.1)))))) = some r := H
 have A6 := Aside0.mk A60
 clear A60
 replace H := Option.bind_eq_some_iff.mp H
 obtain ⟨⟨t349, t352, t353, t354⟩, A70, H⟩ := H
 replace H : ((laws_toFacingS.f k l0).bind fun t356 => ((impl_BestShelf.f k t356 a1).bind fun bt359 => ((laws_eqShelfPlan.f k bt359.1 bt359.2.1 bt359.2.2.1 t349 t352 t353).bind fun t366 => (if t366 = true then (laws_FnExactBestShelf.j0 k l0 a1 t354 t356 bt359.2.2.2 (bt359.2.2.2 != t354) t349 t352 t353 bt359.1 bt359.2.1 bt359.2.2.1) else (laws_FnExactBestShelf.j0 k l0 a1 t354 t356 bt359.2.2.2 true t349 t352 t353 bt359.1 bt359.2.1 bt359.2.2.1))))) = some r := H
 have A7 := Aside0.mk A70
 clear A70
 replace H := Option.bind_eq_some_iff.mp H
 obtain ⟨t356, A80, H⟩ := H
 replace H : ((impl_BestShelf.f k t356 a1).bind fun bt359 => ((laws_eqShelfPlan.f k bt359.1 bt359.2.1 bt359.2.2.1 t349 t352 t353).bind fun t366 => (if t366 = true then (laws_FnExactBestShelf.j0 k l0 a1 t354 t356 bt359.2.2.2 (bt359.2.2.2 != t354) t349 t352 t353 bt359.1 bt359.2.1 bt359.2.2.1) else (laws_FnExactBestShelf.j0 k l0 a1 t354 t356 bt359.2.2.2 true t349 t352 t353 bt359.1 bt359.2.1 bt359.2.2.1)))) = some r := H
 have A8 := Aside0.mk A80
 clear A80
 replace H := Option.bind_eq_some_iff.mp H
 obtain ⟨⟨t359, t362, t363, t364⟩, A90, H⟩ := H
 replace H : ((laws_eqShelfPlan.f k t359 t362 t363 t349 t352 t353).bind fun t366 => (if t366 = true then (laws_FnExactBestShelf.j0 k l0 a1 t354 t356 t364 (t364 != t354) t349 t352 t353 t359 t362 t363) else (laws_FnExactBestShelf.j0 k l0 a1 t354 t356 t364 true t349 t352 t353 t359 t362 t363))) = some r := H
 have A9 := Aside0.mk A90
 clear A90
 have HC10 := Aside0.mk H
 clear H
 go_enter Try.func6, Try.ntmps6
 go_upto_region 8 with (first | ((with_reducible refine gate_callee (f := 7) rfl ?_); refine goesL_ (some 18) rfl rfl Try.func7 (by kernel_rfl) rfl #[.slice A0 l0.length c0, .int .i64 1048576] rfl (by (try simp only [List.map_toArray, List.map_cons, List.map_nil]); first | done | rfl | (simp only [List.length_drop, List.length_take]; rfl)) ?_; (with_reducible refine (laws_szFacingS.calls k _ _ l0 1048576 t345 _ ?side1 ?side2 A3.out).mono ?_); (case side1 => repeat (first | exact HR0.out | (with_reducible refine Kd.C_alloc ?_ _) | (with_reducible refine Kd.C_drewN ?_ _) | (with_reducible refine Kd.C_drew ?_))); (case side2 => exact HC0.out); rintro e w11 ⟨rfl, hb⟩; refine ⟨_, rfl, ?_⟩; have n0_ := Aside0.mk (below_step bl_ hb); clear HB; have HB := n0_; clear n0_; (try clear hb); (try clear hb2); (try clear hk); (try clear hi)) | ((with_reducible refine gate_callee (f := 9) rfl ?_); refine goesL_ (some 23) rfl rfl Try.func9 (by kernel_rfl) rfl #[.slice A0 l0.length c0] rfl (by (try simp only [List.map_toArray, List.map_cons, List.map_nil]); first | done | rfl | (simp only [List.length_drop, List.length_take]; rfl)) ?_; (with_reducible refine (laws_toFacingS.calls k _ _ l0 t346 _ ?side1 ?side2 A6.out).mono ?_); (case side1 => repeat (first | exact (Kd.C_below HR0.out HB.out) | (with_reducible refine Kd.C_alloc ?_ _) | (with_reducible refine Kd.C_drewN ?_ _) | (with_reducible refine Kd.C_drew ?_))); (case side2 => exact HC0.out); rintro e w12 ⟨v347, rfl, ho0, hb⟩; refine ⟨_, rfl, ?_⟩; have n0_ := Aside0.mk (Kd.S_lower ho0 (below_size bl_)); have n1_ := Aside0.mk (below_step bl_ hb); clear HB; have HO348 := n0_; have HB := n1_; clear n0_ n1_; (try clear hb); (try clear hb2); (try clear hk); (try clear hi); (try clear ho0); obtain ⟨Ao13, co13, eo13⟩ := Kd.S_slice HO348.out; subst eo13) | ((with_reducible refine gate_callee (f := 23) rfl ?_); refine goesL_ (some 25) rfl rfl Try.func23 (by kernel_rfl) rfl #[.slice Ao13 t346.length co13, .int .i64 a1] rfl (by (try simp only [List.map_toArray, List.map_cons, List.map_nil]); first | done | rfl | (simp only [List.length_drop, List.length_take]; rfl)) ?_; (with_reducible refine (spec_BestShelf.calls k _ _ t346 a1 t349 t352 t353 t354 _ ?side1 ?side2 A7.out).mono ?_); (case side1 => repeat (first | exact (Kd.S_reads' HO348.out).2.2 | (with_reducible refine Kd.C_alloc ?_ _) | (with_reducible refine Kd.C_drewN ?_ _) | (with_reducible refine Kd.C_drew ?_))); (case side2 => exact (Kd.S_reads' HO348.out).2.1); rintro e w14 ⟨v350, rfl, ho0, hb⟩; refine ⟨_, rfl, ?_⟩; have n0_ := Aside0.mk (Kd.S_elder' (by (with_reducible repeat (first | apply Kd.S_alloc | apply Kd.S_drewN | apply Kd.S_drew)); exact HO348.out) (Kd.R_base ho0) hb); have n1_ := Aside0.mk (Kd.R_lower ho0 (below_size bl_)); have n2_ := Aside0.mk (below_step bl_ hb); clear HO348; clear HB; have HO348 := n0_; have HO351 := n1_; have HB := n2_; clear n0_ n1_ n2_; (try clear hb); (try clear hb2); (try clear hk); (try clear hi); (try clear ho0)) | ((with_reducible refine gate_dst (N := 6) rfl ?_); refine box_event ?hg (N := 6) ?hd (cs := #[.slice none 0 0, .int .i64 0, .int .i64 0]) (t := 31) ?hr ?_; (case hd => rfl); (case hg => rfl); (case hr => first | (go_simp; done) | (go_simp; rfl)); intro gb355 hg w15 hbox hb; have n0_ := Aside0.mk (Kd.S_below (by (with_reducible repeat (first | apply Kd.S_alloc | apply Kd.S_drewN | apply Kd.S_drew)); exact HO348.out) hb); have n1_ := Aside0.mk (Kd.R_below (by (with_reducible repeat (first | apply Kd.R_alloc | apply Kd.R_drewN | apply Kd.R_drew)); exact HO351.out) hb); have n2_ := Aside0.mk (below_step bl_ hb); have n3_ := Aside0.mk (hbox); have n4_ := Aside0.mk ((by rw [hg]; exact (below_size bl_) : w.heap.size ≤ gb355)); have n5_ := Aside0.mk ((by rw [hg]; exact (below_size bl_) : w.heap.size ≤ gb355)); clear HO348; clear HO351; clear HB; have HO348 := n0_; have HO351 := n1_; have HB := n2_; have BK355 := n3_; have GW355 := n4_; have GE355 := n5_; clear n0_ n1_ n2_ n3_ n4_ n5_; clear hb hbox hg; obtain ⟨Ao16, co16, eo16⟩ := Kd.R_slice HO351.out; subst eo16; have hcz17_0 : w15.cell? ⟨gb355, 0, none⟩ = some (.slice none 0 0) := (blk_cell BK355.out 0).trans rfl; have hcz17_1 : w15.cell? ⟨gb355, 1, none⟩ = some (.int .i64 0) := (blk_cell BK355.out 1).trans rfl; have hcz17_2 : w15.cell? ⟨gb355, 2, none⟩ = some (.int .i64 0) := (blk_cell BK355.out 2).trans rfl; have hfz17_0 := blk_frozen BK355.out 0; have hfz17_1 := blk_frozen BK355.out 1; have hfz17_2 := blk_frozen BK355.out 2) | ((with_reducible refine gate_callee (f := 9) rfl ?_); refine goesL_ (some 29) rfl rfl Try.func9 (by kernel_rfl) rfl #[.slice A0 l0.length c0] rfl (by (try simp only [List.map_toArray, List.map_cons, List.map_nil]); first | done | rfl | (simp only [List.length_drop, List.length_take]; rfl)) ?_; (with_reducible refine (laws_toFacingS.calls k _ _ l0 t356 _ ?side1 ?side2 A8.out).mono ?_); (case side1 => exact Kd.C_below HR0.out bl_); (case side2 => exact HC0.out); rintro e w18 ⟨v357, rfl, ho0, hb⟩; refine ⟨_, rfl, ?_⟩; have n0_ := Aside0.mk (Kd.S_elder' (by (with_reducible repeat (first | apply Kd.S_alloc | apply Kd.S_drewN | apply Kd.S_drew)); exact (Kd.S_mono (Kd.S_far (p := ⟨gb355, 2, none⟩) (Kd.S_far (p := ⟨gb355, 1, none⟩) (Kd.S_far (p := ⟨gb355, 0, none⟩) (Kd.S_types HO348.out BK355.out (by decide)) (fun _ hk => hk.2) (.slice Ao16 t349.length co16)) (fun _ hk => hk.2) (.int .i64 t352)) (fun _ hk => hk.2) (.int .i64 t353)) (fun _ h_ => h_.1))) (Kd.S_base ho0) hb); have n1_ := Aside0.mk (Kd.R_below (by (with_reducible repeat (first | apply Kd.R_alloc | apply Kd.R_drewN | apply Kd.R_drew)); exact (Kd.R_mono (Kd.R_far (p := ⟨gb355, 2, none⟩) (Kd.R_far (p := ⟨gb355, 1, none⟩) (Kd.R_far (p := ⟨gb355, 0, none⟩) (Kd.R_types HO351.out BK355.out (by decide)) (fun _ hk => hk.2) (.slice Ao16 t349.length co16)) (fun _ hk => hk.2) (.int .i64 t352)) (fun _ hk => hk.2) (.int .i64 t353)) (fun _ h_ => h_.1))) hb); have n2_ := Aside0.mk (Kd.S_lower (Kd.S_new' (Kd.S_new' ho0 (Kd.S_lt (by (with_reducible repeat (first | apply Kd.S_alloc | apply Kd.S_drewN | apply Kd.S_drew)); exact (Kd.S_mono (Kd.S_far (p := ⟨gb355, 2, none⟩) (Kd.S_far (p := ⟨gb355, 1, none⟩) (Kd.S_far (p := ⟨gb355, 0, none⟩) (Kd.S_types HO348.out BK355.out (by decide)) (fun _ hk => hk.2) (.slice Ao16 t349.length co16)) (fun _ hk => hk.2) (.int .i64 t352)) (fun _ hk => hk.2) (.int .i64 t353)) (fun _ h_ => h_.1))))) (Kd.R_lt (by (with_reducible repeat (first | apply Kd.R_alloc | apply Kd.R_drewN | apply Kd.R_drew)); exact (Kd.R_mono (Kd.R_far (p := ⟨gb355, 2, none⟩) (Kd.R_far (p := ⟨gb355, 1, none⟩) (Kd.R_far (p := ⟨gb355, 0, none⟩) (Kd.R_types HO351.out BK355.out (by decide)) (fun _ hk => hk.2) (.slice Ao16 t349.length co16)) (fun _ hk => hk.2) (.int .i64 t352)) (fun _ hk => hk.2) (.int .i64 t353)) (fun _ h_ => h_.1))))) (below_size bl_)); have n3_ := Aside0.mk (blk_below (g := gb355) (o := .cells #[.slice Ao16 t349.length co16, .int .i64 t352, .int .i64 t353] 31 (0, 0)) (by (with_reducible repeat (first | refine blk_drewN ?_ _ | refine blk_drew ?_ | refine blk_alloc ?_ _)); refine blk_put (cs := #[.slice Ao16 t349.length co16, .int .i64 t352, .int .i64 0]) ?_ 2 _ rfl; (with_reducible repeat (first | refine blk_drewN ?_ _ | refine blk_drew ?_ | refine blk_alloc ?_ _)); refine blk_put (cs := #[.slice Ao16 t349.length co16, .int .i64 0, .int .i64 0]) ?_ 1 _ rfl; (with_reducible repeat (first | refine blk_drewN ?_ _ | refine blk_drew ?_ | refine blk_alloc ?_ _)); refine blk_put (cs := #[.slice none 0 0, .int .i64 0, .int .i64 0]) ?_ 0 _ rfl; (with_reducible repeat (first | refine blk_drewN ?_ _ | refine blk_drew ?_ | refine blk_alloc ?_ _)); exact BK355.out) hb); have n4_ := Aside0.mk (below_step bl_ hb); clear HO348; clear HO351; clear BK355; clear HB; have HO348 := n0_; have HO351 := n1_; have HO358 := n2_; have BK355 := n3_; have HB := n4_; clear n0_ n1_ n2_ n3_ n4_; (try clear hb); (try clear hb2); (try clear hk); (try clear hi); (try clear ho0); obtain ⟨Ao19, co19, eo19⟩ := Kd.S_slice HO358.out; subst eo19) | ((with_reducible refine gate_callee (f := 22) rfl ?_); refine goesL_ (some 33) rfl rfl Try.func22 (by kernel_rfl) rfl #[.slice Ao19 t356.length co19, .int .i64 a1] rfl (by (try simp only [List.map_toArray, List.map_cons, List.map_nil]); first | done | rfl | (simp only [List.length_drop, List.length_take]; rfl)) ?_; (with_reducible refine (impl_BestShelf.calls k _ _ t356 a1 t359 t362 t363 t364 _ ?side1 ?side2 A9.out).mono ?_); (case side1 => repeat (first | exact (Kd.S_reads' HO358.out).2.2 | (with_reducible refine Kd.C_alloc ?_ _) | (with_reducible refine Kd.C_drewN ?_ _) | (with_reducible refine Kd.C_drew ?_))); (case side2 => exact (Kd.S_reads' HO358.out).2.1); rintro e w20 ⟨v360, rfl, ho0, hb⟩; refine ⟨_, rfl, ?_⟩; have n0_ := Aside0.mk (Kd.S_elder' (by (with_reducible repeat (first | apply Kd.S_alloc | apply Kd.S_drewN | apply Kd.S_drew)); exact HO348.out) (Kd.R_base ho0) hb); have n1_ := Aside0.mk (Kd.R_elder' (by (with_reducible repeat (first | apply Kd.R_alloc | apply Kd.R_drewN | apply Kd.R_drew)); exact HO351.out) (Kd.R_base ho0) hb); have n2_ := Aside0.mk (Kd.S_elder' (by (with_reducible repeat (first | apply Kd.S_alloc | apply Kd.S_drewN | apply Kd.S_drew)); exact HO358.out) (Kd.R_base ho0) hb); have n3_ := Aside0.mk (Kd.R_lower (Kd.R_new' ho0 (Kd.R_lt (by (with_reducible repeat (first | apply Kd.R_alloc | apply Kd.R_drewN | apply Kd.R_drew)); exact HO351.out))) (below_size bl_)); have n4_ := Aside0.mk (blk_below (g := gb355) (o := .cells #[.slice Ao16 t349.length co16, .int .i64 t352, .int .i64 t353] 31 (0, 0)) bk_ hb); have n5_ := Aside0.mk (below_step bl_ hb); clear HO348; clear HO351; clear HO358; clear BK355; clear HB; have HO348 := n0_; have HO351 := n1_; have HO358 := n2_; have HO361 := n3_; have BK355 := n4_; have HB := n5_; clear n0_ n1_ n2_ n3_ n4_ n5_; (try clear hb); (try clear hb2); (try clear hk); (try clear hi); (try clear ho0)) | ((with_reducible refine gate_dst (N := 9) rfl ?_); refine box_event ?hg (N := 9) ?hd (cs := #[.slice none 0 0, .int .i64 0, .int .i64 0]) (t := 31) ?hr ?_; (case hd => rfl); (case hg => rfl); (case hr => first | (go_simp; done) | (go_simp; rfl)); intro gb365 hg w21 hbox hb; have n0_ := Aside0.mk (Kd.S_below (by (with_reducible repeat (first | apply Kd.S_alloc | apply Kd.S_drewN | apply Kd.S_drew)); exact HO348.out) hb); have n1_ := Aside0.mk (Kd.R_below (by (with_reducible repeat (first | apply Kd.R_alloc | apply Kd.R_drewN | apply Kd.R_drew)); exact HO351.out) hb); have n2_ := Aside0.mk (Kd.S_below (by (with_reducible repeat (first | apply Kd.S_alloc | apply Kd.S_drewN | apply Kd.S_drew)); exact HO358.out) hb); have n3_ := Aside0.mk (Kd.R_below (by (with_reducible repeat (first | apply Kd.R_alloc | apply Kd.R_drewN | apply Kd.R_drew)); exact HO361.out) hb); have n4_ := Aside0.mk (blk_below (g := gb355) (o := .cells #[.slice Ao16 t349.length co16, .int .i64 t352, .int .i64 t353] 31 (0, 0)) bk_ hb); have n5_ := Aside0.mk (below_step bl_ hb); have n6_ := Aside0.mk (hbox); have n7_ := Aside0.mk ((by rw [hg]; exact (below_size bl_) : w.heap.size ≤ gb365)); have n8_ := Aside0.mk ((by rw [hg]; exact (below_size bl_) : w.heap.size ≤ gb365)); have n9_ := Aside0.mk ((by rw [hg]; exact Nat.ne_of_lt (blk_lt (g := gb355) (o := .cells #[.slice Ao16 t349.length co16, .int .i64 t352, .int .i64 t353] 31 (0, 0)) bk_) : gb355 ≠ gb365)); have n10_ := Aside0.mk ((by rw [hg]; exact Nat.ne_of_gt (blk_lt (g := gb355) (o := .cells #[.slice Ao16 t349.length co16, .int .i64 t352, .int .i64 t353] 31 (0, 0)) bk_) : gb365 ≠ gb355)); clear HO348; clear HO351; clear HO358; clear HO361; clear BK355; clear HB; have HO348 := n0_; have HO351 := n1_; have HO358 := n2_; have HO361 := n3_; have BK355 := n4_; have HB := n5_; have BK365 := n6_; have GW365 := n7_; have GE365 := n8_; have NB355_365 := n9_; have NB365_355 := n10_; clear n0_ n1_ n2_ n3_ n4_ n5_ n6_ n7_ n8_ n9_ n10_; clear hb hbox hg; obtain ⟨Ao22, co22, eo22⟩ := Kd.R_slice HO361.out; subst eo22; have hnb23 := NB365_355.out; have hnc23 := NB355_365.out; have hcz24_0 : w21.cell? ⟨gb365, 0, none⟩ = some (.slice none 0 0) := (blk_cell BK365.out 0).trans rfl; have hcz24_1 : w21.cell? ⟨gb365, 1, none⟩ = some (.int .i64 0) := (blk_cell BK365.out 1).trans rfl; have hcz24_2 : w21.cell? ⟨gb365, 2, none⟩ = some (.int .i64 0) := (blk_cell BK365.out 2).trans rfl; have hfz24_0 := blk_frozen BK365.out 0; have hfz24_1 := blk_frozen BK365.out 1; have hfz24_2 := blk_frozen BK365.out 2))
 (try simp only [Act.put, List.setIfInBounds_toArray, List.set_cons_zero, List.set_cons_succ])
 go_cut [44] (fun v44 wc => ∃ (kq : Nat) (x44_9 : Bool), v44 = .bool x44_9 ∧ Aside0 (laws_FnExactBestShelf.j0 kq l0 a1 t354 t356 t364 x44_9 t349 t352 t353 t359 t362 t363 = some r) ∧ Aside0 (kq ≤ k) ∧ Aside0 (Kd.S k50 50 wc w.heap.size (fun k_ => some k_ ≠ ((.slice Ao16 t349.length co16) : Value).ownBlock ∧ some k_ ≠ ((.slice Ao22 t359.length co22) : Value).ownBlock) (.slice Ao19 t356.length co19) t356) ∧ Aside0 (Kd.R (Kd.int .i64) 3 wc w.heap.size (fun k_ => some k_ ≠ ((.slice Ao22 t359.length co22) : Value).ownBlock) (.slice Ao16 t349.length co16) t349) ∧ Aside0 (Kd.R (Kd.int .i64) 3 wc w.heap.size (fun k_ => some k_ ≠ ((.slice Ao16 t349.length co16) : Value).ownBlock) (.slice Ao22 t359.length co22) t359) ∧ Aside0 (wc.heap[gb355]? = some (.cells #[(.slice Ao16 t349.length co16), .int .i64 t352, .int .i64 t353] 31 (0, 0))) ∧ Aside0 (wc.heap[gb365]? = some (.cells #[(.slice Ao22 t359.length co22), .int .i64 t362, .int .i64 t363] 31 (0, 0))) ∧ Aside0 (Below w.heap.size w wc))
 case first =>
  have H := HC10.out
  clear HC10
  replace H := Option.bind_eq_some_iff.mp H
  obtain ⟨t366, A250, H⟩ := H
  replace H : (if t366 = true then (laws_FnExactBestShelf.j0 k l0 a1 t354 t356 t364 (t364 != t354) t349 t352 t353 t359 t362 t363) else (laws_FnExactBestShelf.j0 k l0 a1 t354 t356 t364 true t349 t352 t353 t359 t362 t363)) = some r := H
  have A25 := Aside0.mk A250
  clear A250
  by_cases c26 : t366 = true
  ·subst c26
   have H1 : (laws_FnExactBestShelf.j0 k l0 a1 t354 t356 t364 (t364 != t354) t349 t352 t353 t359 t362 t363) = some r := by rw [if_pos rfl] at H; exact H
   clear H
   have H := H1
   clear H1
   have H' := Aside0.mk H
   clear H
   have hnb27 := NB365_355.out
   have hnc27 := NB355_365.out
   have hcz28_0 : w21.cell? ⟨gb365, 0, none⟩ = some (.slice none 0 0) := (blk_cell BK365.out 0).trans rfl
   have hcz28_1 : w21.cell? ⟨gb365, 1, none⟩ = some (.int .i64 0) := (blk_cell BK365.out 1).trans rfl
   have hcz28_2 : w21.cell? ⟨gb365, 2, none⟩ = some (.int .i64 0) := (blk_cell BK365.out 2).trans rfl
   have hfz28_0 := blk_frozen BK365.out 0
   have hfz28_1 := blk_frozen BK365.out 1
   have hfz28_2 := blk_frozen BK365.out 2
   have hcz29_0 : w21.cell? ⟨gb355, 0, none⟩ = some (.slice Ao16 t349.length co16) := (blk_cell BK355.out 0).trans rfl
   have hcz29_1 : w21.cell? ⟨gb355, 1, none⟩ = some (.int .i64 t352) := (blk_cell BK355.out 1).trans rfl
   have hcz29_2 : w21.cell? ⟨gb355, 2, none⟩ = some (.int .i64 t353) := (blk_cell BK355.out 2).trans rfl
   have hfz29_0 := blk_frozen BK355.out 0
   have hfz29_1 := blk_frozen BK355.out 1
   have hfz29_2 := blk_frozen BK355.out 2
   go_wp2_with (first | ((with_reducible refine gate_callee (f := 15) rfl ?_); refine goesL_ (some 38) rfl rfl Try.func15 (by kernel_rfl) rfl #[.agg #[.slice Ao22 t359.length co22, .int .i64 t362, .int .i64 t363], .agg #[.slice Ao16 t349.length co16, .int .i64 t352, .int .i64 t353]] rfl (by (try simp only [List.map_toArray, List.map_cons, List.map_nil]); first | done | rfl | (simp only [List.length_drop, List.length_take]; rfl)) ?_; (with_reducible refine (laws_eqShelfPlan.calls k _ _ t359 t362 t363 _ _ t349 t352 t353 true _ ?side1 ?side2 ?side3 ?side4 A25.out).mono ?_); (case side1 => refine (Kd.R_reads' (e := 3) (base := w.heap.size) (ok := fun k_ => (True ∧ some k_ ≠ (.slice Ao16 t349.length co16 : Value).ownBlock)) (n := t359.length) (c := co22) ?_).2.2; exact (by (with_reducible repeat (first | apply Kd.R_alloc | apply Kd.R_drewN | apply Kd.R_drew)); exact (Kd.R_mono (Kd.R_far (p := ⟨gb365, 2, none⟩) (Kd.R_far (p := ⟨gb365, 1, none⟩) (Kd.R_far (p := ⟨gb365, 0, none⟩) (Kd.R_types HO361.out BK365.out (by decide)) (fun _ hk => hk.2) (.slice Ao22 t359.length co22)) (fun _ hk => hk.2) (.int .i64 t362)) (fun _ hk => hk.2) (.int .i64 t363)) (fun _ h_ => h_.1)))); (case side2 => exact (Kd.R_reads' HO361.out).2.1); (case side3 => refine (Kd.R_reads' (e := 3) (base := w.heap.size) (ok := fun k_ => (True ∧ some k_ ≠ (.slice Ao22 t359.length co22 : Value).ownBlock)) (n := t349.length) (c := co16) ?_).2.2; exact (by (with_reducible repeat (first | apply Kd.R_alloc | apply Kd.R_drewN | apply Kd.R_drew)); exact (Kd.R_mono (Kd.R_far (p := ⟨gb365, 2, none⟩) (Kd.R_far (p := ⟨gb365, 1, none⟩) (Kd.R_far (p := ⟨gb365, 0, none⟩) (Kd.R_types HO351.out BK365.out (by decide)) (fun _ hk => hk.2) (.slice Ao22 t359.length co22)) (fun _ hk => hk.2) (.int .i64 t362)) (fun _ hk => hk.2) (.int .i64 t363)) (fun _ h_ => h_.1)))); (case side4 => exact (Kd.R_reads' HO351.out).2.1); rintro e w30 ⟨rfl, hb⟩; refine ⟨_, rfl, ?_⟩; have n0_ := Aside0.mk (Kd.S_below (by (with_reducible repeat (first | apply Kd.S_alloc | apply Kd.S_drewN | apply Kd.S_drew)); exact (Kd.S_mono (Kd.S_far (p := ⟨gb365, 2, none⟩) (Kd.S_far (p := ⟨gb365, 1, none⟩) (Kd.S_far (p := ⟨gb365, 0, none⟩) (Kd.S_types HO348.out BK365.out (by decide)) (fun _ hk => hk.2) (.slice Ao22 t359.length co22)) (fun _ hk => hk.2) (.int .i64 t362)) (fun _ hk => hk.2) (.int .i64 t363)) (fun _ h_ => h_.1))) hb); have n1_ := Aside0.mk (Kd.R_below (by (with_reducible repeat (first | apply Kd.R_alloc | apply Kd.R_drewN | apply Kd.R_drew)); exact (Kd.R_mono (Kd.R_far (p := ⟨gb365, 2, none⟩) (Kd.R_far (p := ⟨gb365, 1, none⟩) (Kd.R_far (p := ⟨gb365, 0, none⟩) (Kd.R_types HO351.out BK365.out (by decide)) (fun _ hk => hk.2) (.slice Ao22 t359.length co22)) (fun _ hk => hk.2) (.int .i64 t362)) (fun _ hk => hk.2) (.int .i64 t363)) (fun _ h_ => h_.1))) hb); have n2_ := Aside0.mk (Kd.S_below (by (with_reducible repeat (first | apply Kd.S_alloc | apply Kd.S_drewN | apply Kd.S_drew)); exact (Kd.S_mono (Kd.S_far (p := ⟨gb365, 2, none⟩) (Kd.S_far (p := ⟨gb365, 1, none⟩) (Kd.S_far (p := ⟨gb365, 0, none⟩) (Kd.S_types HO358.out BK365.out (by decide)) (fun _ hk => hk.2) (.slice Ao22 t359.length co22)) (fun _ hk => hk.2) (.int .i64 t362)) (fun _ hk => hk.2) (.int .i64 t363)) (fun _ h_ => h_.1))) hb); have n3_ := Aside0.mk (Kd.R_below (by (with_reducible repeat (first | apply Kd.R_alloc | apply Kd.R_drewN | apply Kd.R_drew)); exact (Kd.R_mono (Kd.R_far (p := ⟨gb365, 2, none⟩) (Kd.R_far (p := ⟨gb365, 1, none⟩) (Kd.R_far (p := ⟨gb365, 0, none⟩) (Kd.R_types HO361.out BK365.out (by decide)) (fun _ hk => hk.2) (.slice Ao22 t359.length co22)) (fun _ hk => hk.2) (.int .i64 t362)) (fun _ hk => hk.2) (.int .i64 t363)) (fun _ h_ => h_.1))) hb); have n4_ := Aside0.mk (blk_below (g := gb355) (o := .cells #[.slice Ao16 t349.length co16, .int .i64 t352, .int .i64 t353] 31 (0, 0)) (by (with_reducible repeat (first | refine blk_drewN ?_ _ | refine blk_drew ?_ | refine blk_alloc ?_ _)); refine blk_far ?_ NB355_365.out _; (with_reducible repeat (first | refine blk_drewN ?_ _ | refine blk_drew ?_ | refine blk_alloc ?_ _)); refine blk_far ?_ NB355_365.out _; (with_reducible repeat (first | refine blk_drewN ?_ _ | refine blk_drew ?_ | refine blk_alloc ?_ _)); exact blk_far bk_ NB355_365.out _) hb); have n5_ := Aside0.mk (blk_below (g := gb365) (o := .cells #[.slice Ao22 t359.length co22, .int .i64 t362, .int .i64 t363] 31 (0, 0)) (by (with_reducible repeat (first | refine blk_drewN ?_ _ | refine blk_drew ?_ | refine blk_alloc ?_ _)); refine blk_put (cs := #[.slice Ao22 t359.length co22, .int .i64 t362, .int .i64 0]) ?_ 2 _ rfl; (with_reducible repeat (first | refine blk_drewN ?_ _ | refine blk_drew ?_ | refine blk_alloc ?_ _)); refine blk_put (cs := #[.slice Ao22 t359.length co22, .int .i64 0, .int .i64 0]) ?_ 1 _ rfl; (with_reducible repeat (first | refine blk_drewN ?_ _ | refine blk_drew ?_ | refine blk_alloc ?_ _)); refine blk_put (cs := #[.slice none 0 0, .int .i64 0, .int .i64 0]) ?_ 0 _ rfl; (with_reducible repeat (first | refine blk_drewN ?_ _ | refine blk_drew ?_ | refine blk_alloc ?_ _)); exact BK365.out) hb); have n6_ := Aside0.mk (below_step bl_ hb); clear HO348; clear HO351; clear HO358; clear HO361; clear BK355; clear BK365; clear HB; have HO348 := n0_; have HO351 := n1_; have HO358 := n2_; have HO361 := n3_; have BK355 := n4_; have BK365 := n5_; have HB := n6_; clear n0_ n1_ n2_ n3_ n4_ n5_ n6_; (try clear hb); (try clear hb2); (try clear hk); (try clear hi)))
   go_meet
   case rel => exact ⟨_, ((t364 != t354)), (by first | rfl | (simp; done) | (simp [*]; done)), H', ⟨by first | omega | exact Nat.le_refl _⟩, ⟨by (with_reducible repeat (first | apply Kd.S_alloc | apply Kd.S_drewN | apply Kd.S_drew)); exact Kd.S_mono HO358.out (fun _ hk => ⟨hk.1.2, hk.2⟩)⟩, ⟨by (with_reducible repeat (first | apply Kd.R_alloc | apply Kd.R_drewN | apply Kd.R_drew)); exact Kd.R_mono HO351.out (fun _ hk => hk.2)⟩, ⟨by (with_reducible repeat (first | apply Kd.R_alloc | apply Kd.R_drewN | apply Kd.R_drew)); exact Kd.R_mono HO361.out (fun _ hk => hk.2)⟩, ⟨by (with_reducible repeat (first | refine blk_drewN ?_ _ | refine blk_drew ?_ | refine blk_alloc ?_ _)); exact BK355.out⟩, ⟨by (with_reducible repeat (first | refine blk_drewN ?_ _ | refine blk_drew ?_ | refine blk_alloc ?_ _)); exact BK365.out⟩, ⟨by repeat (first | (with_reducible first | exact HB.out | apply below_alloc | apply pw_below_drewN | apply below_drew1 | refine below_set ?_ GE355.out | refine below_set ?_ GE365.out) | exact HB.out)⟩⟩
  replace c26 := Bool.eq_false_iff.mpr c26
  subst c26
  have H1 : (laws_FnExactBestShelf.j0 k l0 a1 t354 t356 t364 true t349 t352 t353 t359 t362 t363) = some r := by rw [if_neg (show ¬ (false = true) by decide)] at H; exact H
  clear H
  have H := H1
  clear H1
  have H' := Aside0.mk H
  clear H
  have hnb31 := NB365_355.out
  have hnc31 := NB355_365.out
  have hcz32_0 : w21.cell? ⟨gb365, 0, none⟩ = some (.slice none 0 0) := (blk_cell BK365.out 0).trans rfl
  have hcz32_1 : w21.cell? ⟨gb365, 1, none⟩ = some (.int .i64 0) := (blk_cell BK365.out 1).trans rfl
  have hcz32_2 : w21.cell? ⟨gb365, 2, none⟩ = some (.int .i64 0) := (blk_cell BK365.out 2).trans rfl
  have hfz32_0 := blk_frozen BK365.out 0
  have hfz32_1 := blk_frozen BK365.out 1
  have hfz32_2 := blk_frozen BK365.out 2
  have hcz33_0 : w21.cell? ⟨gb355, 0, none⟩ = some (.slice Ao16 t349.length co16) := (blk_cell BK355.out 0).trans rfl
  have hcz33_1 : w21.cell? ⟨gb355, 1, none⟩ = some (.int .i64 t352) := (blk_cell BK355.out 1).trans rfl
  have hcz33_2 : w21.cell? ⟨gb355, 2, none⟩ = some (.int .i64 t353) := (blk_cell BK355.out 2).trans rfl
  have hfz33_0 := blk_frozen BK355.out 0
  have hfz33_1 := blk_frozen BK355.out 1
  have hfz33_2 := blk_frozen BK355.out 2
  go_wp2_with (first | ((with_reducible refine gate_callee (f := 15) rfl ?_); refine goesL_ (some 38) rfl rfl Try.func15 (by kernel_rfl) rfl #[.agg #[.slice Ao22 t359.length co22, .int .i64 t362, .int .i64 t363], .agg #[.slice Ao16 t349.length co16, .int .i64 t352, .int .i64 t353]] rfl (by (try simp only [List.map_toArray, List.map_cons, List.map_nil]); first | done | rfl | (simp only [List.length_drop, List.length_take]; rfl)) ?_; (with_reducible refine (laws_eqShelfPlan.calls k _ _ t359 t362 t363 _ _ t349 t352 t353 false _ ?side1 ?side2 ?side3 ?side4 A25.out).mono ?_); (case side1 => refine (Kd.R_reads' (e := 3) (base := w.heap.size) (ok := fun k_ => (True ∧ some k_ ≠ (.slice Ao16 t349.length co16 : Value).ownBlock)) (n := t359.length) (c := co22) ?_).2.2; exact (by (with_reducible repeat (first | apply Kd.R_alloc | apply Kd.R_drewN | apply Kd.R_drew)); exact (Kd.R_mono (Kd.R_far (p := ⟨gb365, 2, none⟩) (Kd.R_far (p := ⟨gb365, 1, none⟩) (Kd.R_far (p := ⟨gb365, 0, none⟩) (Kd.R_types HO361.out BK365.out (by decide)) (fun _ hk => hk.2) (.slice Ao22 t359.length co22)) (fun _ hk => hk.2) (.int .i64 t362)) (fun _ hk => hk.2) (.int .i64 t363)) (fun _ h_ => h_.1)))); (case side2 => exact (Kd.R_reads' HO361.out).2.1); (case side3 => refine (Kd.R_reads' (e := 3) (base := w.heap.size) (ok := fun k_ => (True ∧ some k_ ≠ (.slice Ao22 t359.length co22 : Value).ownBlock)) (n := t349.length) (c := co16) ?_).2.2; exact (by (with_reducible repeat (first | apply Kd.R_alloc | apply Kd.R_drewN | apply Kd.R_drew)); exact (Kd.R_mono (Kd.R_far (p := ⟨gb365, 2, none⟩) (Kd.R_far (p := ⟨gb365, 1, none⟩) (Kd.R_far (p := ⟨gb365, 0, none⟩) (Kd.R_types HO351.out BK365.out (by decide)) (fun _ hk => hk.2) (.slice Ao22 t359.length co22)) (fun _ hk => hk.2) (.int .i64 t362)) (fun _ hk => hk.2) (.int .i64 t363)) (fun _ h_ => h_.1)))); (case side4 => exact (Kd.R_reads' HO351.out).2.1); rintro e w34 ⟨rfl, hb⟩; refine ⟨_, rfl, ?_⟩; have n0_ := Aside0.mk (Kd.S_below (by (with_reducible repeat (first | apply Kd.S_alloc | apply Kd.S_drewN | apply Kd.S_drew)); exact (Kd.S_mono (Kd.S_far (p := ⟨gb365, 2, none⟩) (Kd.S_far (p := ⟨gb365, 1, none⟩) (Kd.S_far (p := ⟨gb365, 0, none⟩) (Kd.S_types HO348.out BK365.out (by decide)) (fun _ hk => hk.2) (.slice Ao22 t359.length co22)) (fun _ hk => hk.2) (.int .i64 t362)) (fun _ hk => hk.2) (.int .i64 t363)) (fun _ h_ => h_.1))) hb); have n1_ := Aside0.mk (Kd.R_below (by (with_reducible repeat (first | apply Kd.R_alloc | apply Kd.R_drewN | apply Kd.R_drew)); exact (Kd.R_mono (Kd.R_far (p := ⟨gb365, 2, none⟩) (Kd.R_far (p := ⟨gb365, 1, none⟩) (Kd.R_far (p := ⟨gb365, 0, none⟩) (Kd.R_types HO351.out BK365.out (by decide)) (fun _ hk => hk.2) (.slice Ao22 t359.length co22)) (fun _ hk => hk.2) (.int .i64 t362)) (fun _ hk => hk.2) (.int .i64 t363)) (fun _ h_ => h_.1))) hb); have n2_ := Aside0.mk (Kd.S_below (by (with_reducible repeat (first | apply Kd.S_alloc | apply Kd.S_drewN | apply Kd.S_drew)); exact (Kd.S_mono (Kd.S_far (p := ⟨gb365, 2, none⟩) (Kd.S_far (p := ⟨gb365, 1, none⟩) (Kd.S_far (p := ⟨gb365, 0, none⟩) (Kd.S_types HO358.out BK365.out (by decide)) (fun _ hk => hk.2) (.slice Ao22 t359.length co22)) (fun _ hk => hk.2) (.int .i64 t362)) (fun _ hk => hk.2) (.int .i64 t363)) (fun _ h_ => h_.1))) hb); have n3_ := Aside0.mk (Kd.R_below (by (with_reducible repeat (first | apply Kd.R_alloc | apply Kd.R_drewN | apply Kd.R_drew)); exact (Kd.R_mono (Kd.R_far (p := ⟨gb365, 2, none⟩) (Kd.R_far (p := ⟨gb365, 1, none⟩) (Kd.R_far (p := ⟨gb365, 0, none⟩) (Kd.R_types HO361.out BK365.out (by decide)) (fun _ hk => hk.2) (.slice Ao22 t359.length co22)) (fun _ hk => hk.2) (.int .i64 t362)) (fun _ hk => hk.2) (.int .i64 t363)) (fun _ h_ => h_.1))) hb); have n4_ := Aside0.mk (blk_below (g := gb355) (o := .cells #[.slice Ao16 t349.length co16, .int .i64 t352, .int .i64 t353] 31 (0, 0)) (by (with_reducible repeat (first | refine blk_drewN ?_ _ | refine blk_drew ?_ | refine blk_alloc ?_ _)); refine blk_far ?_ NB355_365.out _; (with_reducible repeat (first | refine blk_drewN ?_ _ | refine blk_drew ?_ | refine blk_alloc ?_ _)); refine blk_far ?_ NB355_365.out _; (with_reducible repeat (first | refine blk_drewN ?_ _ | refine blk_drew ?_ | refine blk_alloc ?_ _)); exact blk_far bk_ NB355_365.out _) hb); have n5_ := Aside0.mk (blk_below (g := gb365) (o := .cells #[.slice Ao22 t359.length co22, .int .i64 t362, .int .i64 t363] 31 (0, 0)) (by (with_reducible repeat (first | refine blk_drewN ?_ _ | refine blk_drew ?_ | refine blk_alloc ?_ _)); refine blk_put (cs := #[.slice Ao22 t359.length co22, .int .i64 t362, .int .i64 0]) ?_ 2 _ rfl; (with_reducible repeat (first | refine blk_drewN ?_ _ | refine blk_drew ?_ | refine blk_alloc ?_ _)); refine blk_put (cs := #[.slice Ao22 t359.length co22, .int .i64 0, .int .i64 0]) ?_ 1 _ rfl; (with_reducible repeat (first | refine blk_drewN ?_ _ | refine blk_drew ?_ | refine blk_alloc ?_ _)); refine blk_put (cs := #[.slice none 0 0, .int .i64 0, .int .i64 0]) ?_ 0 _ rfl; (with_reducible repeat (first | refine blk_drewN ?_ _ | refine blk_drew ?_ | refine blk_alloc ?_ _)); exact BK365.out) hb); have n6_ := Aside0.mk (below_step bl_ hb); clear HO348; clear HO351; clear HO358; clear HO361; clear BK355; clear BK365; clear HB; have HO348 := n0_; have HO351 := n1_; have HO358 := n2_; have HO361 := n3_; have BK355 := n4_; have BK365 := n5_; have HB := n6_; clear n0_ n1_ n2_ n3_ n4_ n5_ n6_; (try clear hb); (try clear hb2); (try clear hk); (try clear hi)))
  go_meet
  case rel => exact ⟨_, (true), (by first | rfl | (simp; done) | (simp [*]; done)), H', ⟨by first | omega | exact Nat.le_refl _⟩, ⟨by (with_reducible repeat (first | apply Kd.S_alloc | apply Kd.S_drewN | apply Kd.S_drew)); exact Kd.S_mono HO358.out (fun _ hk => ⟨hk.1.2, hk.2⟩)⟩, ⟨by (with_reducible repeat (first | apply Kd.R_alloc | apply Kd.R_drewN | apply Kd.R_drew)); exact Kd.R_mono HO351.out (fun _ hk => hk.2)⟩, ⟨by (with_reducible repeat (first | apply Kd.R_alloc | apply Kd.R_drewN | apply Kd.R_drew)); exact Kd.R_mono HO361.out (fun _ hk => hk.2)⟩, ⟨by (with_reducible repeat (first | refine blk_drewN ?_ _ | refine blk_drew ?_ | refine blk_alloc ?_ _)); exact BK355.out⟩, ⟨by (with_reducible repeat (first | refine blk_drewN ?_ _ | refine blk_drew ?_ | refine blk_alloc ?_ _)); exact BK365.out⟩, ⟨by repeat (first | (with_reducible first | exact HB.out | apply below_alloc | apply pw_below_drewN | apply below_drew1 | refine below_set ?_ GE355.out | refine below_set ?_ GE365.out) | exact HB.out)⟩⟩
 case rest =>
  clear HC10
  (try clear c1); (try clear c2); (try clear p2); (try clear c3); (try clear c4); (try clear c4b0); (try clear c6); (try clear c7); (try clear c9); (try clear c15); (try clear c22); (try clear c23); (try clear c26); (try clear c27); (try clear c31); (try clear hcz17_0); (try clear hcz17_1); (try clear hcz17_2); (try clear hcz24_0); (try clear hcz24_1); (try clear hcz24_2); (try clear hcz28_0); (try clear hcz28_1); (try clear hcz28_2); (try clear hcz29_0); (try clear hcz29_1); (try clear hcz29_2); (try clear hcz32_0); (try clear hcz32_1); (try clear hcz32_2); (try clear hcz33_0); (try clear hcz33_1); (try clear hcz33_2); (try clear hfz17_0); (try clear hfz17_1); (try clear hfz17_2); (try clear hfz24_0); (try clear hfz24_1); (try clear hfz24_2); (try clear hfz28_0); (try clear hfz28_1); (try clear hfz28_2); (try clear hfz29_0); (try clear hfz29_1); (try clear hfz29_2); (try clear hfz32_0); (try clear hfz32_1); (try clear hfz32_2); (try clear hfz33_0); (try clear hfz33_1); (try clear hfz33_2)
  obtain ⟨kq, x44_9, rfl, HA, HJ9, HO_8, HO_356000, HO_366000, BK355, BK365, HB⟩ := hcut
  cases kq with
  | zero => exact absurd HA.out (by simp [laws_FnExactBestShelf.j0])
  | succ kj9 =>
   have H := HA.out
   clear HA
   simp only [laws_FnExactBestShelf.j0] at H
   by_cases c35 : x44_9 = true
   ·subst c35
    have H1 : (some false) = some r := by rw [if_pos rfl] at H; exact H
    clear H
    have H := H1
    clear H1
    obtain rfl := Option.some.inj H
    exact absurd hT_.out (by decide)
   replace c35 := Bool.eq_false_iff.mpr c35
   subst c35
   have H1 : ((laws_toFacingS.f kj9 l0).bind fun t367 => ((laws_eqFacingS.f kj9 t356 t367).bind fun t370 => (if t370 = true then ((laws_markFacingS.f kj9 t356 1).bind fun t371 => (if t371 < 0 then (laws_FnExactBestShelf.j1 kj9 l0 a1 t354 true t349 t352 t353 t359 t362 t363) else ((laws_eqShelfPlan.f kj9 t359 t362 t363 t349 t352 t353).bind fun t372 => (if t372 = true then (laws_FnExactBestShelf.j1 kj9 l0 a1 t354 (t364 != t354) t349 t352 t353 t359 t362 t363) else (laws_FnExactBestShelf.j1 kj9 l0 a1 t354 true t349 t352 t353 t359 t362 t363))))) else (some false)))) = some r := by rw [if_neg (show ¬ (false = true) by decide)] at H; exact H
   clear H
   have H := H1
   clear H1
   replace H := Option.bind_eq_some_iff.mp H
   obtain ⟨t367, A360, H⟩ := H
   replace H : ((laws_eqFacingS.f kj9 t356 t367).bind fun t370 => (if t370 = true then ((laws_markFacingS.f kj9 t356 1).bind fun t371 => (if t371 < 0 then (laws_FnExactBestShelf.j1 kj9 l0 a1 t354 true t349 t352 t353 t359 t362 t363) else ((laws_eqShelfPlan.f kj9 t359 t362 t363 t349 t352 t353).bind fun t372 => (if t372 = true then (laws_FnExactBestShelf.j1 kj9 l0 a1 t354 (t364 != t354) t349 t352 t353 t359 t362 t363) else (laws_FnExactBestShelf.j1 kj9 l0 a1 t354 true t349 t352 t353 t359 t362 t363))))) else (some false))) = some r := H
   have A36 := Aside0.mk A360
   clear A360
   replace H := Option.bind_eq_some_iff.mp H
   obtain ⟨t370, A370, H⟩ := H
   replace H : (if t370 = true then ((laws_markFacingS.f kj9 t356 1).bind fun t371 => (if t371 < 0 then (laws_FnExactBestShelf.j1 kj9 l0 a1 t354 true t349 t352 t353 t359 t362 t363) else ((laws_eqShelfPlan.f kj9 t359 t362 t363 t349 t352 t353).bind fun t372 => (if t372 = true then (laws_FnExactBestShelf.j1 kj9 l0 a1 t354 (t364 != t354) t349 t352 t353 t359 t362 t363) else (laws_FnExactBestShelf.j1 kj9 l0 a1 t354 true t349 t352 t353 t359 t362 t363))))) else (some false)) = some r := H
   have A37 := Aside0.mk A370
   clear A370
   by_cases c38 : t370 = true
   rotate_left
   ·replace c38 := Bool.eq_false_iff.mpr c38
    subst c38
    have H1 : (some false) = some r := by rw [if_neg (show ¬ (false = true) by decide)] at H; exact H
    clear H
    have H := H1
    clear H1
    obtain rfl := Option.some.inj H
    exact absurd hT_.out (by decide)

   subst c38
   have H1 : ((laws_markFacingS.f kj9 t356 1).bind fun t371 => (if t371 < 0 then (laws_FnExactBestShelf.j1 kj9 l0 a1 t354 true t349 t352 t353 t359 t362 t363) else ((laws_eqShelfPlan.f kj9 t359 t362 t363 t349 t352 t353).bind fun t372 => (if t372 = true then (laws_FnExactBestShelf.j1 kj9 l0 a1 t354 (t364 != t354) t349 t352 t353 t359 t362 t363) else (laws_FnExactBestShelf.j1 kj9 l0 a1 t354 true t349 t352 t353 t359 t362 t363))))) = some r := by rw [if_pos rfl] at H; exact H
   clear H
   have H := H1
   clear H1
   replace H := Option.bind_eq_some_iff.mp H
   obtain ⟨t371, A390, H⟩ := H
   replace H : (if t371 < 0 then (laws_FnExactBestShelf.j1 kj9 l0 a1 t354 true t349 t352 t353 t359 t362 t363) else ((laws_eqShelfPlan.f kj9 t359 t362 t363 t349 t352 t353).bind fun t372 => (if t372 = true then (laws_FnExactBestShelf.j1 kj9 l0 a1 t354 (t364 != t354) t349 t352 t353 t359 t362 t363) else (laws_FnExactBestShelf.j1 kj9 l0 a1 t354 true t349 t352 t353 t359 t362 t363)))) = some r := H
   have A39 := Aside0.mk A390
   clear A390
   have HC40 := Aside0.mk H
   clear H
   go_upto_region 14 with (first | ((with_reducible refine gate_callee (f := 9) rfl ?_); refine goesL_ (some 47) rfl rfl Try.func9 (by kernel_rfl) rfl #[.slice A0 l0.length c0] rfl (by (try simp only [List.map_toArray, List.map_cons, List.map_nil]); first | done | rfl | (simp only [List.length_drop, List.length_take]; rfl)) ?_; (with_reducible refine (laws_toFacingS.calls kj9 _ _ l0 t367 _ ?side1 ?side2 A36.out).mono ?_); (case side1 => repeat (first | exact (Kd.C_below HR0.out HB.out) | (with_reducible refine Kd.C_alloc ?_ _) | (with_reducible refine Kd.C_drewN ?_ _) | (with_reducible refine Kd.C_drew ?_))); (case side2 => exact HC0.out); rintro e w41 ⟨v368, rfl, ho0, hb⟩; refine ⟨_, rfl, ?_⟩; have n0_ := Aside0.mk (Kd.S_elder' (by (with_reducible repeat (first | apply Kd.S_alloc | apply Kd.S_drewN | apply Kd.S_drew)); exact HO_8.out) (Kd.S_base ho0) hb); have n1_ := Aside0.mk (Kd.R_below (by (with_reducible repeat (first | apply Kd.R_alloc | apply Kd.R_drewN | apply Kd.R_drew)); exact HO_356000.out) hb); have n2_ := Aside0.mk (Kd.R_below (by (with_reducible repeat (first | apply Kd.R_alloc | apply Kd.R_drewN | apply Kd.R_drew)); exact HO_366000.out) hb); have n3_ := Aside0.mk (Kd.S_lower (Kd.S_new' (Kd.S_new' (Kd.S_new' ho0 (Kd.S_lt (by (with_reducible repeat (first | apply Kd.S_alloc | apply Kd.S_drewN | apply Kd.S_drew)); exact HO_8.out))) (Kd.R_lt (by (with_reducible repeat (first | apply Kd.R_alloc | apply Kd.R_drewN | apply Kd.R_drew)); exact HO_356000.out))) (Kd.R_lt (by (with_reducible repeat (first | apply Kd.R_alloc | apply Kd.R_drewN | apply Kd.R_drew)); exact HO_366000.out))) (below_size bl_)); have n4_ := Aside0.mk (blk_below (g := gb355) (o := .cells #[.slice Ao16 t349.length co16, .int .i64 t352, .int .i64 t353] 31 (0, 0)) bk_ hb); have n5_ := Aside0.mk (blk_below (g := gb365) (o := .cells #[.slice Ao22 t359.length co22, .int .i64 t362, .int .i64 t363] 31 (0, 0)) bk_ hb); have n6_ := Aside0.mk (below_step bl_ hb); clear HO_8; clear HO_356000; clear HO_366000; clear BK355; clear BK365; clear HB; have HO_8 := n0_; have HO_356000 := n1_; have HO_366000 := n2_; have HO369 := n3_; have BK355 := n4_; have BK365 := n5_; have HB := n6_; clear n0_ n1_ n2_ n3_ n4_ n5_ n6_; (try clear hb); (try clear hb2); (try clear hk); (try clear hi); (try clear ho0); obtain ⟨Ao42, co42, eo42⟩ := Kd.S_slice HO369.out; subst eo42) | ((with_reducible refine gate_callee (f := 11) rfl ?_); refine goesL_ (some 48) rfl rfl Try.func11 (by kernel_rfl) rfl #[.slice Ao19 t356.length co19, .slice Ao42 t367.length co42] rfl (by (try simp only [List.map_toArray, List.map_cons, List.map_nil]); first | done | rfl | (simp only [List.length_drop, List.length_take]; rfl)) ?_; (with_reducible refine (laws_eqFacingS.calls kj9 _ _ t356 _ _ t367 true _ ?side1 ?side2 ?side3 ?side4 A37.out).mono ?_); (case side1 => repeat (first | exact (Kd.S_reads' HO_8.out).2.2 | (with_reducible refine Kd.C_alloc ?_ _) | (with_reducible refine Kd.C_drewN ?_ _) | (with_reducible refine Kd.C_drew ?_))); (case side2 => exact (Kd.S_reads' HO_8.out).2.1); (case side3 => repeat (first | exact (Kd.S_reads' HO369.out).2.2 | (with_reducible refine Kd.C_alloc ?_ _) | (with_reducible refine Kd.C_drewN ?_ _) | (with_reducible refine Kd.C_drew ?_))); (case side4 => exact (Kd.S_reads' HO369.out).2.1); rintro e w43 ⟨rfl, hb⟩; refine ⟨_, rfl, ?_⟩; have n0_ := Aside0.mk (Kd.S_below (by (with_reducible repeat (first | apply Kd.S_alloc | apply Kd.S_drewN | apply Kd.S_drew)); exact HO_8.out) hb); have n1_ := Aside0.mk (Kd.R_below (by (with_reducible repeat (first | apply Kd.R_alloc | apply Kd.R_drewN | apply Kd.R_drew)); exact HO_356000.out) hb); have n2_ := Aside0.mk (Kd.R_below (by (with_reducible repeat (first | apply Kd.R_alloc | apply Kd.R_drewN | apply Kd.R_drew)); exact HO_366000.out) hb); have n3_ := Aside0.mk (Kd.S_below (by (with_reducible repeat (first | apply Kd.S_alloc | apply Kd.S_drewN | apply Kd.S_drew)); exact HO369.out) hb); have n4_ := Aside0.mk (blk_below (g := gb355) (o := .cells #[.slice Ao16 t349.length co16, .int .i64 t352, .int .i64 t353] 31 (0, 0)) bk_ hb); have n5_ := Aside0.mk (blk_below (g := gb365) (o := .cells #[.slice Ao22 t359.length co22, .int .i64 t362, .int .i64 t363] 31 (0, 0)) bk_ hb); have n6_ := Aside0.mk (below_step bl_ hb); clear HO_8; clear HO_356000; clear HO_366000; clear HO369; clear BK355; clear BK365; clear HB; have HO_8 := n0_; have HO_356000 := n1_; have HO_366000 := n2_; have HO369 := n3_; have BK355 := n4_; have BK365 := n5_; have HB := n6_; clear n0_ n1_ n2_ n3_ n4_ n5_ n6_; (try clear hb); (try clear hb2); (try clear hk); (try clear hi)) | ((with_reducible refine gate_callee (f := 17) rfl ?_); refine goesL_ (some 52) rfl rfl Try.func17 (by kernel_rfl) rfl #[.slice Ao19 t356.length co19, .int .i64 1] rfl (by (try simp only [List.map_toArray, List.map_cons, List.map_nil]); first | done | rfl | (simp only [List.length_drop, List.length_take]; rfl)) ?_; (with_reducible refine (laws_markFacingS.calls kj9 (fun k_ => ((((some k_ ≠ (.slice Ao16 t349.length co16 : Value).ownBlock ∧ some k_ ≠ (.slice Ao22 t359.length co22 : Value).ownBlock) ∧ some k_ ≠ (.slice Ao42 t367.length co42 : Value).ownBlock) ∧ k_ ≠ gb355) ∧ k_ ≠ gb365) ∧ w.heap.size ≤ k_) (.slice Ao19 t356.length co19) t356 1 t371 w _ ?side1 ?side2 A39.out).mono ?_); (case side1 => repeat (first | (with_reducible first | exact HB.out | apply below_alloc | apply pw_below_drewN | apply below_drew1 | refine below_set ?_ GE355.out | refine below_set ?_ GE365.out) | exact HB.out)); (case side2 => exact Kd.S_mono (Kd.S_bound ((Kd.S_types (Kd.S_types HO_8.out BK355.out (by decide)) BK365.out (by decide)))) (fun k_ hk_ => ⟨hk_.1, hk_.2.1⟩)); rintro e w44 ⟨rfl, hb, hkp⟩; refine ⟨_, rfl, ?_⟩; have n0_ := Aside0.mk (Kd.R_mono (ok' := fun k_ => some k_ ≠ (.slice Ao22 t359.length co22 : Value).ownBlock) (Kd.R_keptB ((Kd.R_mono (ok' := fun k_ => some k_ ≠ (.slice Ao22 t359.length co22 : Value).ownBlock ∧ ¬ (((((some k_ ≠ (.slice Ao16 t349.length co16 : Value).ownBlock ∧ some k_ ≠ (.slice Ao22 t359.length co22 : Value).ownBlock) ∧ some k_ ≠ (.slice Ao42 t367.length co42 : Value).ownBlock) ∧ k_ ≠ gb355) ∧ k_ ≠ gb365) ∧ w.heap.size ≤ k_)) (Kd.R_tight2 rfl HO_356000.out) (fun k_ hk => ⟨hk.2, fun e_ => (e_.1.1.1.1.1) hk.1⟩))) hkp (fun k_ hk_ hs_ => (hk_.2) hs_)) (fun k_ hk_ => hk_.1.1)); have n1_ := Aside0.mk (Kd.R_mono (ok' := fun k_ => some k_ ≠ (.slice Ao16 t349.length co16 : Value).ownBlock) (Kd.R_keptB ((Kd.R_mono (ok' := fun k_ => some k_ ≠ (.slice Ao16 t349.length co16 : Value).ownBlock ∧ ¬ (((((some k_ ≠ (.slice Ao16 t349.length co16 : Value).ownBlock ∧ some k_ ≠ (.slice Ao22 t359.length co22 : Value).ownBlock) ∧ some k_ ≠ (.slice Ao42 t367.length co42 : Value).ownBlock) ∧ k_ ≠ gb355) ∧ k_ ≠ gb365) ∧ w.heap.size ≤ k_)) (Kd.R_tight2 rfl HO_366000.out) (fun k_ hk => ⟨hk.2, fun e_ => (e_.1.1.1.1.2) hk.1⟩))) hkp (fun k_ hk_ hs_ => (hk_.2) hs_)) (fun k_ hk_ => hk_.1.1)); have n2_ := Aside0.mk (blk_kept bk_ hkp (fun hs_ => (fun e_ => (e_.1.1.2) rfl) hs_)); have n3_ := Aside0.mk (blk_kept bk_ hkp (fun hs_ => (fun e_ => (e_.1.2) rfl) hs_)); have n4_ := Aside0.mk (hb); clear HO_356000; clear HO_366000; clear BK355; clear BK365; clear HB; clear HO_8; clear HO369; have HO_356000 := n0_; have HO_366000 := n1_; have BK355 := n2_; have BK365 := n3_; have HB := n4_; clear n0_ n1_ n2_ n3_ n4_; (try clear hb); (try clear hkp)))
   (try simp only [Act.put, List.setIfInBounds_toArray, List.set_cons_zero, List.set_cons_succ])
   go_cut [65] (fun v65 wc => ∃ (kq : Nat) (x65_39 : Bool), v65 = .bool x65_39 ∧ Aside0 (laws_FnExactBestShelf.j1 kq l0 a1 t354 x65_39 t349 t352 t353 t359 t362 t363 = some r) ∧ Aside0 (kq ≤ kj9) ∧ Aside0 (Kd.R (Kd.int .i64) 3 wc w.heap.size (fun k_ => some k_ ≠ ((.slice Ao22 t359.length co22) : Value).ownBlock) (.slice Ao16 t349.length co16) t349) ∧ Aside0 (Kd.R (Kd.int .i64) 3 wc w.heap.size (fun k_ => some k_ ≠ ((.slice Ao16 t349.length co16) : Value).ownBlock) (.slice Ao22 t359.length co22) t359) ∧ Aside0 (wc.heap[gb355]? = some (.cells #[(.slice Ao16 t349.length co16), .int .i64 t352, .int .i64 t353] 31 (0, 0))) ∧ Aside0 (wc.heap[gb365]? = some (.cells #[(.slice Ao22 t359.length co22), .int .i64 t362, .int .i64 t363] 31 (0, 0))) ∧ Aside0 (Below w.heap.size w wc))
   case first =>
    have H := HC40.out
    clear HC40
    by_cases c45 : t371 < 0
    ·rw [if_pos c45] at H
     have c45b0 : decide (t371 < 0) = true := decide_eq_true c45
     clear c45
     (first | rw [c45b0] | (simp only [i64_w, i32_w]; rw [c45b0]) | skip)
     have H' := Aside0.mk H
     clear H
     go_wp2
     go_meet
     case rel => exact ⟨_, (true), (by first | rfl | (simp; done) | (simp [*]; done)), H', ⟨by have := HJ9.out; first | omega | exact Nat.le_refl _⟩, ⟨by (with_reducible repeat (first | apply Kd.R_alloc | apply Kd.R_drewN | apply Kd.R_drew)); exact HO_356000.out⟩, ⟨by (with_reducible repeat (first | apply Kd.R_alloc | apply Kd.R_drewN | apply Kd.R_drew)); exact HO_366000.out⟩, ⟨by (with_reducible repeat (first | refine blk_drewN ?_ _ | refine blk_drew ?_ | refine blk_alloc ?_ _)); exact BK355.out⟩, ⟨by (with_reducible repeat (first | refine blk_drewN ?_ _ | refine blk_drew ?_ | refine blk_alloc ?_ _)); exact BK365.out⟩, ⟨by repeat (first | (with_reducible first | exact HB.out | apply below_alloc | apply pw_below_drewN | apply below_drew1 | refine below_set ?_ GE355.out | refine below_set ?_ GE365.out) | exact HB.out)⟩⟩
    rw [if_neg c45] at H
    have c45b0 : decide (t371 < 0) = false := decide_eq_false c45
    clear c45
    (first | rw [c45b0] | (simp only [i64_w, i32_w]; rw [c45b0]) | skip)
    replace H := Option.bind_eq_some_iff.mp H
    obtain ⟨t372, A460, H⟩ := H
    replace H : (if t372 = true then (laws_FnExactBestShelf.j1 kj9 l0 a1 t354 (t364 != t354) t349 t352 t353 t359 t362 t363) else (laws_FnExactBestShelf.j1 kj9 l0 a1 t354 true t349 t352 t353 t359 t362 t363)) = some r := H
    have A46 := Aside0.mk A460
    clear A460
    by_cases c47 : t372 = true
    ·subst c47
     have H1 : (laws_FnExactBestShelf.j1 kj9 l0 a1 t354 (t364 != t354) t349 t352 t353 t359 t362 t363) = some r := by rw [if_pos rfl] at H; exact H
     clear H
     have H := H1
     clear H1
     have H' := Aside0.mk H
     clear H
     have hnb48 := NB365_355.out
     have hnc48 := NB355_365.out
     have hcz49_0 : w44.cell? ⟨gb365, 0, none⟩ = some (.slice Ao22 t359.length co22) := (blk_cell BK365.out 0).trans rfl
     have hcz49_1 : w44.cell? ⟨gb365, 1, none⟩ = some (.int .i64 t362) := (blk_cell BK365.out 1).trans rfl
     have hcz49_2 : w44.cell? ⟨gb365, 2, none⟩ = some (.int .i64 t363) := (blk_cell BK365.out 2).trans rfl
     have hfz49_0 := blk_frozen BK365.out 0
     have hfz49_1 := blk_frozen BK365.out 1
     have hfz49_2 := blk_frozen BK365.out 2
     have hcz50_0 : w44.cell? ⟨gb355, 0, none⟩ = some (.slice Ao16 t349.length co16) := (blk_cell BK355.out 0).trans rfl
     have hcz50_1 : w44.cell? ⟨gb355, 1, none⟩ = some (.int .i64 t352) := (blk_cell BK355.out 1).trans rfl
     have hcz50_2 : w44.cell? ⟨gb355, 2, none⟩ = some (.int .i64 t353) := (blk_cell BK355.out 2).trans rfl
     have hfz50_0 := blk_frozen BK355.out 0
     have hfz50_1 := blk_frozen BK355.out 1
     have hfz50_2 := blk_frozen BK355.out 2
     go_wp2_with (first | (go_at_call 15; (with_reducible refine (laws_eqShelfPlan.calls kj9 _ _ t359 t362 t363 _ _ t349 t352 t353 true _ ?side1 ?side2 ?side3 ?side4 A46.out).mono ?_); (case side1 => repeat (first | exact (Kd.R_reads' HO_366000.out).2.2 | (with_reducible refine Kd.C_alloc ?_ _) | (with_reducible refine Kd.C_drewN ?_ _) | (with_reducible refine Kd.C_drew ?_))); (case side2 => exact (Kd.R_reads' HO_366000.out).2.1); (case side3 => repeat (first | exact (Kd.R_reads' HO_356000.out).2.2 | (with_reducible refine Kd.C_alloc ?_ _) | (with_reducible refine Kd.C_drewN ?_ _) | (with_reducible refine Kd.C_drew ?_))); (case side4 => exact (Kd.R_reads' HO_356000.out).2.1); rintro e w51 ⟨rfl, hb⟩; have n0_ := Aside0.mk (Kd.R_below (by (with_reducible repeat (first | apply Kd.R_alloc | apply Kd.R_drewN | apply Kd.R_drew)); exact HO_356000.out) hb); have n1_ := Aside0.mk (Kd.R_below (by (with_reducible repeat (first | apply Kd.R_alloc | apply Kd.R_drewN | apply Kd.R_drew)); exact HO_366000.out) hb); have n2_ := Aside0.mk (blk_below (g := gb355) (o := .cells #[.slice Ao16 t349.length co16, .int .i64 t352, .int .i64 t353] 31 (0, 0)) bk_ hb); have n3_ := Aside0.mk (blk_below (g := gb365) (o := .cells #[.slice Ao22 t359.length co22, .int .i64 t362, .int .i64 t363] 31 (0, 0)) bk_ hb); have n4_ := Aside0.mk (below_step bl_ hb); clear HO_356000; clear HO_366000; clear BK355; clear BK365; clear HB; have HO_356000 := n0_; have HO_366000 := n1_; have BK355 := n2_; have BK365 := n3_; have HB := n4_; clear n0_ n1_ n2_ n3_ n4_; (try clear hb); (try clear hb2); (try clear hk); (try clear hi)))
     go_meet
     case rel => exact ⟨_, ((t364 != t354)), (by first | rfl | (simp; done) | (simp [*]; done)), H', ⟨by have := HJ9.out; first | omega | exact Nat.le_refl _⟩, ⟨by (with_reducible repeat (first | apply Kd.R_alloc | apply Kd.R_drewN | apply Kd.R_drew)); exact HO_356000.out⟩, ⟨by (with_reducible repeat (first | apply Kd.R_alloc | apply Kd.R_drewN | apply Kd.R_drew)); exact HO_366000.out⟩, ⟨by (with_reducible repeat (first | refine blk_drewN ?_ _ | refine blk_drew ?_ | refine blk_alloc ?_ _)); exact BK355.out⟩, ⟨by (with_reducible repeat (first | refine blk_drewN ?_ _ | refine blk_drew ?_ | refine blk_alloc ?_ _)); exact BK365.out⟩, ⟨by repeat (first | (with_reducible first | exact HB.out | apply below_alloc | apply pw_below_drewN | apply below_drew1 | refine below_set ?_ GE355.out | refine below_set ?_ GE365.out) | exact HB.out)⟩⟩
    replace c47 := Bool.eq_false_iff.mpr c47
    subst c47
    have H1 : (laws_FnExactBestShelf.j1 kj9 l0 a1 t354 true t349 t352 t353 t359 t362 t363) = some r := by rw [if_neg (show ¬ (false = true) by decide)] at H; exact H
    clear H
    have H := H1
    clear H1
    have H' := Aside0.mk H
    clear H
    have hnb52 := NB365_355.out
    have hnc52 := NB355_365.out
    have hcz53_0 : w44.cell? ⟨gb365, 0, none⟩ = some (.slice Ao22 t359.length co22) := (blk_cell BK365.out 0).trans rfl
    have hcz53_1 : w44.cell? ⟨gb365, 1, none⟩ = some (.int .i64 t362) := (blk_cell BK365.out 1).trans rfl
    have hcz53_2 : w44.cell? ⟨gb365, 2, none⟩ = some (.int .i64 t363) := (blk_cell BK365.out 2).trans rfl
    have hfz53_0 := blk_frozen BK365.out 0
    have hfz53_1 := blk_frozen BK365.out 1
    have hfz53_2 := blk_frozen BK365.out 2
    have hcz54_0 : w44.cell? ⟨gb355, 0, none⟩ = some (.slice Ao16 t349.length co16) := (blk_cell BK355.out 0).trans rfl
    have hcz54_1 : w44.cell? ⟨gb355, 1, none⟩ = some (.int .i64 t352) := (blk_cell BK355.out 1).trans rfl
    have hcz54_2 : w44.cell? ⟨gb355, 2, none⟩ = some (.int .i64 t353) := (blk_cell BK355.out 2).trans rfl
    have hfz54_0 := blk_frozen BK355.out 0
    have hfz54_1 := blk_frozen BK355.out 1
    have hfz54_2 := blk_frozen BK355.out 2
    go_wp2_with (first | (go_at_call 15; (with_reducible refine (laws_eqShelfPlan.calls kj9 _ _ t359 t362 t363 _ _ t349 t352 t353 false _ ?side1 ?side2 ?side3 ?side4 A46.out).mono ?_); (case side1 => repeat (first | exact (Kd.R_reads' HO_366000.out).2.2 | (with_reducible refine Kd.C_alloc ?_ _) | (with_reducible refine Kd.C_drewN ?_ _) | (with_reducible refine Kd.C_drew ?_))); (case side2 => exact (Kd.R_reads' HO_366000.out).2.1); (case side3 => repeat (first | exact (Kd.R_reads' HO_356000.out).2.2 | (with_reducible refine Kd.C_alloc ?_ _) | (with_reducible refine Kd.C_drewN ?_ _) | (with_reducible refine Kd.C_drew ?_))); (case side4 => exact (Kd.R_reads' HO_356000.out).2.1); rintro e w55 ⟨rfl, hb⟩; have n0_ := Aside0.mk (Kd.R_below (by (with_reducible repeat (first | apply Kd.R_alloc | apply Kd.R_drewN | apply Kd.R_drew)); exact HO_356000.out) hb); have n1_ := Aside0.mk (Kd.R_below (by (with_reducible repeat (first | apply Kd.R_alloc | apply Kd.R_drewN | apply Kd.R_drew)); exact HO_366000.out) hb); have n2_ := Aside0.mk (blk_below (g := gb355) (o := .cells #[.slice Ao16 t349.length co16, .int .i64 t352, .int .i64 t353] 31 (0, 0)) bk_ hb); have n3_ := Aside0.mk (blk_below (g := gb365) (o := .cells #[.slice Ao22 t359.length co22, .int .i64 t362, .int .i64 t363] 31 (0, 0)) bk_ hb); have n4_ := Aside0.mk (below_step bl_ hb); clear HO_356000; clear HO_366000; clear BK355; clear BK365; clear HB; have HO_356000 := n0_; have HO_366000 := n1_; have BK355 := n2_; have BK365 := n3_; have HB := n4_; clear n0_ n1_ n2_ n3_ n4_; (try clear hb); (try clear hb2); (try clear hk); (try clear hi)))
    go_meet
    case rel => exact ⟨_, (true), (by first | rfl | (simp; done) | (simp [*]; done)), H', ⟨by have := HJ9.out; first | omega | exact Nat.le_refl _⟩, ⟨by (with_reducible repeat (first | apply Kd.R_alloc | apply Kd.R_drewN | apply Kd.R_drew)); exact HO_356000.out⟩, ⟨by (with_reducible repeat (first | apply Kd.R_alloc | apply Kd.R_drewN | apply Kd.R_drew)); exact HO_366000.out⟩, ⟨by (with_reducible repeat (first | refine blk_drewN ?_ _ | refine blk_drew ?_ | refine blk_alloc ?_ _)); exact BK355.out⟩, ⟨by (with_reducible repeat (first | refine blk_drewN ?_ _ | refine blk_drew ?_ | refine blk_alloc ?_ _)); exact BK365.out⟩, ⟨by repeat (first | (with_reducible first | exact HB.out | apply below_alloc | apply pw_below_drewN | apply below_drew1 | refine below_set ?_ GE355.out | refine below_set ?_ GE365.out) | exact HB.out)⟩⟩
   case rest =>
    clear HC40
    (try clear c5); (try clear c11); (try clear c17); (try clear c35); (try clear c38); (try clear c45); (try clear c45b0); (try clear c47); (try clear c48); (try clear c52); (try clear hcz49_0); (try clear hcz49_1); (try clear hcz49_2); (try clear hcz50_0); (try clear hcz50_1); (try clear hcz50_2); (try clear hcz53_0); (try clear hcz53_1); (try clear hcz53_2); (try clear hcz54_0); (try clear hcz54_1); (try clear hcz54_2); (try clear hfz49_0); (try clear hfz49_1); (try clear hfz49_2); (try clear hfz50_0); (try clear hfz50_1); (try clear hfz50_2); (try clear hfz53_0); (try clear hfz53_1); (try clear hfz53_2); (try clear hfz54_0); (try clear hfz54_1); (try clear hfz54_2)
    obtain ⟨kq, x65_39, rfl, HA, HJ39, HO_356000, HO_366000, BK355, BK365, HB⟩ := hcut
    cases kq with
    | zero => exact absurd HA.out (by simp [laws_FnExactBestShelf.j1])
    | succ kj39 =>
     have H := HA.out
     clear HA
     simp only [laws_FnExactBestShelf.j1] at H
     by_cases c56 : x65_39 = true
     ·subst c56
      have H1 : (some false) = some r := by rw [if_pos rfl] at H; exact H
      clear H
      have H := H1
      clear H1
      obtain rfl := Option.some.inj H
      exact absurd hT_.out (by decide)
     replace c56 := Bool.eq_false_iff.mpr c56
     subst c56
     have H1 : ((laws_markShelfPlan.f kj39 t359 t362 t363 1).bind fun bt373 => ((laws_heldShelfPlan.f kj39 bt373.2 t362 t363 1).bind fun t375 => (if t375 < 0 then (some false) else (if t375 = bt373.1 then ((laws_toFacingS.f kj39 l0).bind fun t376 => ((impl_BestShelf.f kj39 t376 a1).bind fun bt379 => ((laws_eqShelfPlan.f kj39 bt379.1 bt379.2.1 bt379.2.2.1 t349 t352 t353).bind fun t386 => (if t386 = true then (laws_FnExactBestShelf.j2 kj39 bt373.1 (bt379.2.2.2 != t354) bt373.2 t362 t363) else (laws_FnExactBestShelf.j2 kj39 bt373.1 true bt373.2 t362 t363))))) else (some false))))) = some r := by rw [if_neg (show ¬ (false = true) by decide)] at H; exact H
     clear H
     have H := H1
     clear H1
     replace H := Option.bind_eq_some_iff.mp H
     obtain ⟨⟨t373, t374⟩, A570, H⟩ := H
     replace H : ((laws_heldShelfPlan.f kj39 t374 t362 t363 1).bind fun t375 => (if t375 < 0 then (some false) else (if t375 = t373 then ((laws_toFacingS.f kj39 l0).bind fun t376 => ((impl_BestShelf.f kj39 t376 a1).bind fun bt379 => ((laws_eqShelfPlan.f kj39 bt379.1 bt379.2.1 bt379.2.2.1 t349 t352 t353).bind fun t386 => (if t386 = true then (laws_FnExactBestShelf.j2 kj39 t373 (bt379.2.2.2 != t354) t374 t362 t363) else (laws_FnExactBestShelf.j2 kj39 t373 true t374 t362 t363))))) else (some false)))) = some r := H
     have A57 := Aside0.mk A570
     clear A570
     replace H := Option.bind_eq_some_iff.mp H
     obtain ⟨t375, A580, H⟩ := H
     replace H : (if t375 < 0 then (some false) else (if t375 = t373 then ((laws_toFacingS.f kj39 l0).bind fun t376 => ((impl_BestShelf.f kj39 t376 a1).bind fun bt379 => ((laws_eqShelfPlan.f kj39 bt379.1 bt379.2.1 bt379.2.2.1 t349 t352 t353).bind fun t386 => (if t386 = true then (laws_FnExactBestShelf.j2 kj39 t373 (bt379.2.2.2 != t354) t374 t362 t363) else (laws_FnExactBestShelf.j2 kj39 t373 true t374 t362 t363))))) else (some false))) = some r := H
     have A58 := Aside0.mk A580
     clear A580
     by_cases c59 : t375 < 0
     ·rw [if_pos c59] at H
      have c59b0 : decide (t375 < 0) = true := decide_eq_true c59
      clear c59
      obtain rfl := Option.some.inj H
      exact absurd hT_.out (by decide)
     rw [if_neg c59] at H
     have c59b0 : decide (t375 < 0) = false := decide_eq_false c59
     clear c59
     by_cases c60 : t375 = t373
     rotate_left
     ·rw [if_neg c60] at H
      have c60b0 : (t375 == t373) = false := beq_eq_false_iff_ne.mpr c60
      have c60b1 : (t375 != t373) = true := bne_iff_ne.mpr c60
      obtain rfl := Option.some.inj H
      exact absurd hT_.out (by decide)
     rw [if_pos c60] at H
     have c60b0 : (t375 == t373) = true := beq_iff_eq.mpr c60
     have c60b1 : (t375 != t373) = false := bne_eq_false_iff_eq.mpr c60
     clear c60
     replace H := Option.bind_eq_some_iff.mp H
     obtain ⟨t376, A610, H⟩ := H
     replace H : ((impl_BestShelf.f kj39 t376 a1).bind fun bt379 => ((laws_eqShelfPlan.f kj39 bt379.1 bt379.2.1 bt379.2.2.1 t349 t352 t353).bind fun t386 => (if t386 = true then (laws_FnExactBestShelf.j2 kj39 t373 (bt379.2.2.2 != t354) t374 t362 t363) else (laws_FnExactBestShelf.j2 kj39 t373 true t374 t362 t363)))) = some r := H
     have A61 := Aside0.mk A610
     clear A610
     replace H := Option.bind_eq_some_iff.mp H
     obtain ⟨⟨t379, t382, t383, t384⟩, A620, H⟩ := H
     replace H : ((laws_eqShelfPlan.f kj39 t379 t382 t383 t349 t352 t353).bind fun t386 => (if t386 = true then (laws_FnExactBestShelf.j2 kj39 t373 (t384 != t354) t374 t362 t363) else (laws_FnExactBestShelf.j2 kj39 t373 true t374 t362 t363))) = some r := H
     have A62 := Aside0.mk A620
     clear A620
     have HC63 := Aside0.mk H
     clear H
     have hnb64 := NB365_355.out
     have hnc64 := NB355_365.out
     have hcz65_0 : wc.cell? ⟨gb365, 0, none⟩ = some (.slice Ao22 t359.length co22) := (blk_cell BK365.out 0).trans rfl
     have hcz65_1 : wc.cell? ⟨gb365, 1, none⟩ = some (.int .i64 t362) := (blk_cell BK365.out 1).trans rfl
     have hcz65_2 : wc.cell? ⟨gb365, 2, none⟩ = some (.int .i64 t363) := (blk_cell BK365.out 2).trans rfl
     have hfz65_0 := blk_frozen BK365.out 0
     have hfz65_1 := blk_frozen BK365.out 1
     have hfz65_2 := blk_frozen BK365.out 2
     go_upto_region 25 with (first | ((with_reducible refine gate_callee (f := 19) rfl ?_); refine goesL_ (some 68) rfl rfl Try.func19 (by kernel_rfl) rfl #[.agg #[.slice Ao22 t359.length co22, .int .i64 t362, .int .i64 t363], .int .i64 1] rfl (by (try simp only [List.map_toArray, List.map_cons, List.map_nil]); first | done | rfl | (simp only [List.length_drop, List.length_take]; rfl)) ?_; (with_reducible refine (laws_markShelfPlan.calls kj39 (fun k_ => some k_ = (.slice Ao22 t359.length co22 : Value).ownBlock) (.slice Ao22 t359.length co22) t359 t362 t363 1 t373 t374 w _ ?side1 ?side2 A57.out).mono ?_); (case side1 => repeat (first | (with_reducible first | exact HB.out | apply below_alloc | apply pw_below_drewN | apply below_drew1 | refine below_set ?_ GE355.out | refine below_set ?_ GE365.out) | exact HB.out)); (case side2 => exact Kd.R_tight rfl HO_366000.out); rintro e w66 ⟨rfl, hy0, hb, hkp⟩; refine ⟨_, rfl, ?_⟩; have n0_ := Aside0.mk (Kd.R_mono (ok' := fun k_ => some k_ ≠ (.slice Ao22 t359.length co22 : Value).ownBlock) (Kd.R_keptB (HO_356000.out) hkp (fun k_ hk_ hs_ => (hk_) hs_)) (fun k_ hk_ => hk_.1)); have n1_ := Aside0.mk (Kd.R_reok rfl hy0 (fun k_ e_ => HO_366000.out.1 k_ e_)); have n2_ := Aside0.mk (blk_kept bk_ hkp (fun hs_ => (fun e_ => (Kd.R_ne HO_366000.out BK355.out (by decide)) e_) hs_)); have n3_ := Aside0.mk (blk_kept bk_ hkp (fun hs_ => (fun e_ => (Kd.R_ne HO_366000.out BK365.out (by decide)) e_) hs_)); have n4_ := Aside0.mk (hb); clear HO_356000; clear HO_366000; clear BK355; clear BK365; clear HB; have HO_356000 := n0_; have HO_366000 := n1_; have BK355 := n2_; have BK365 := n3_; have HB := n4_; clear n0_ n1_ n2_ n3_ n4_; (try clear hb); (try clear hkp); (try clear hy0); have hcz67_0 : w66.cell? ⟨gb365, 0, none⟩ = some (.slice Ao22 t359.length co22) := (blk_cell BK365.out 0).trans rfl; have hcz67_1 : w66.cell? ⟨gb365, 1, none⟩ = some (.int .i64 t362) := (blk_cell BK365.out 1).trans rfl; have hcz67_2 : w66.cell? ⟨gb365, 2, none⟩ = some (.int .i64 t363) := (blk_cell BK365.out 2).trans rfl; have hfz67_0 := blk_frozen BK365.out 0; have hfz67_1 := blk_frozen BK365.out 1; have hfz67_2 := blk_frozen BK365.out 2) | ((with_reducible refine gate_callee (f := 20) rfl ?_); refine goesL_ (some 71) rfl rfl Try.func20 (by kernel_rfl) rfl #[.agg #[.slice Ao22 t374.length co22, .int .i64 t362, .int .i64 t363], .int .i64 1] rfl (by (try simp only [List.map_toArray, List.map_cons, List.map_nil]); first | done | (rw [show t374.length = t359.length from (Kd.R_reads' HO_366000.out).1.symm] <;> rfl) | rfl | (simp only [List.length_drop, List.length_take]; rfl)) ?_; (with_reducible refine (laws_heldShelfPlan.calls kj39 _ _ t374 t362 t363 1 t375 _ ?side1 ?side2 A58.out).mono ?_); (case side1 => repeat (first | exact (Kd.R_reads' HO_366000.out).2.2 | (with_reducible refine Kd.C_alloc ?_ _) | (with_reducible refine Kd.C_drewN ?_ _) | (with_reducible refine Kd.C_drew ?_))); (case side2 => rw [show t374.length = t359.length from (Kd.R_reads' HO_366000.out).1.symm]; exact (Kd.R_reads' HO_366000.out).2.1); rintro e w68 ⟨rfl, hb⟩; refine ⟨_, rfl, ?_⟩; have n0_ := Aside0.mk (Kd.R_below (by (with_reducible repeat (first | apply Kd.R_alloc | apply Kd.R_drewN | apply Kd.R_drew)); exact HO_356000.out) hb); have n1_ := Aside0.mk (Kd.R_below (by (with_reducible repeat (first | apply Kd.R_alloc | apply Kd.R_drewN | apply Kd.R_drew)); exact HO_366000.out) hb); have n2_ := Aside0.mk (blk_below (g := gb355) (o := .cells #[.slice Ao16 t349.length co16, .int .i64 t352, .int .i64 t353] 31 (0, 0)) bk_ hb); have n3_ := Aside0.mk (blk_below (g := gb365) (o := .cells #[.slice Ao22 t359.length co22, .int .i64 t362, .int .i64 t363] 31 (0, 0)) bk_ hb); have n4_ := Aside0.mk (below_step bl_ hb); clear HO_356000; clear HO_366000; clear BK355; clear BK365; clear HB; have HO_356000 := n0_; have HO_366000 := n1_; have BK355 := n2_; have BK365 := n3_; have HB := n4_; clear n0_ n1_ n2_ n3_ n4_; (try clear hb); (try clear hb2); (try clear hk); (try clear hi)) | ((with_reducible refine gate_callee (f := 9) rfl ?_); refine goesL_ (some 79) rfl rfl Try.func9 (by kernel_rfl) rfl #[.slice A0 l0.length c0] rfl (by (try simp only [List.map_toArray, List.map_cons, List.map_nil]); first | done | rfl | (simp only [List.length_drop, List.length_take]; rfl)) ?_; (with_reducible refine (laws_toFacingS.calls kj39 _ _ l0 t376 _ ?side1 ?side2 A61.out).mono ?_); (case side1 => repeat (first | exact (Kd.C_below HR0.out HB.out) | (with_reducible refine Kd.C_alloc ?_ _) | (with_reducible refine Kd.C_drewN ?_ _) | (with_reducible refine Kd.C_drew ?_))); (case side2 => exact HC0.out); rintro e w69 ⟨v377, rfl, ho0, hb⟩; refine ⟨_, rfl, ?_⟩; have n0_ := Aside0.mk (Kd.R_below (by (with_reducible repeat (first | apply Kd.R_alloc | apply Kd.R_drewN | apply Kd.R_drew)); exact HO_356000.out) hb); have n1_ := Aside0.mk (Kd.R_below (by (with_reducible repeat (first | apply Kd.R_alloc | apply Kd.R_drewN | apply Kd.R_drew)); exact HO_366000.out) hb); have n2_ := Aside0.mk (Kd.S_lower (Kd.S_new' (Kd.S_new' ho0 (Kd.R_lt (by (with_reducible repeat (first | apply Kd.R_alloc | apply Kd.R_drewN | apply Kd.R_drew)); exact HO_356000.out))) (Kd.R_lt (by (with_reducible repeat (first | apply Kd.R_alloc | apply Kd.R_drewN | apply Kd.R_drew)); exact HO_366000.out))) (below_size bl_)); have n3_ := Aside0.mk (blk_below (g := gb355) (o := .cells #[.slice Ao16 t349.length co16, .int .i64 t352, .int .i64 t353] 31 (0, 0)) bk_ hb); have n4_ := Aside0.mk (blk_below (g := gb365) (o := .cells #[.slice Ao22 t359.length co22, .int .i64 t362, .int .i64 t363] 31 (0, 0)) bk_ hb); have n5_ := Aside0.mk (below_step bl_ hb); clear HO_356000; clear HO_366000; clear BK355; clear BK365; clear HB; have HO_356000 := n0_; have HO_366000 := n1_; have HO378 := n2_; have BK355 := n3_; have BK365 := n4_; have HB := n5_; clear n0_ n1_ n2_ n3_ n4_ n5_; (try clear hb); (try clear hb2); (try clear hk); (try clear hi); (try clear ho0); obtain ⟨Ao70, co70, eo70⟩ := Kd.S_slice HO378.out; subst eo70) | ((with_reducible refine gate_callee (f := 22) rfl ?_); refine goesL_ (some 81) rfl rfl Try.func22 (by kernel_rfl) rfl #[.slice Ao70 t376.length co70, .int .i64 a1] rfl (by (try simp only [List.map_toArray, List.map_cons, List.map_nil]); first | done | rfl | (simp only [List.length_drop, List.length_take]; rfl)) ?_; (with_reducible refine (impl_BestShelf.calls kj39 _ _ t376 a1 t379 t382 t383 t384 _ ?side1 ?side2 A62.out).mono ?_); (case side1 => repeat (first | exact (Kd.S_reads' HO378.out).2.2 | (with_reducible refine Kd.C_alloc ?_ _) | (with_reducible refine Kd.C_drewN ?_ _) | (with_reducible refine Kd.C_drew ?_))); (case side2 => exact (Kd.S_reads' HO378.out).2.1); rintro e w71 ⟨v380, rfl, ho0, hb⟩; refine ⟨_, rfl, ?_⟩; have n0_ := Aside0.mk (Kd.R_elder' (by (with_reducible repeat (first | apply Kd.R_alloc | apply Kd.R_drewN | apply Kd.R_drew)); exact HO_356000.out) (Kd.R_base ho0) hb); have n1_ := Aside0.mk (Kd.R_elder' (by (with_reducible repeat (first | apply Kd.R_alloc | apply Kd.R_drewN | apply Kd.R_drew)); exact HO_366000.out) (Kd.R_base ho0) hb); have n2_ := Aside0.mk (Kd.S_elder' (by (with_reducible repeat (first | apply Kd.S_alloc | apply Kd.S_drewN | apply Kd.S_drew)); exact HO378.out) (Kd.R_base ho0) hb); have n3_ := Aside0.mk (Kd.R_lower (Kd.R_new' (Kd.R_new' ho0 (Kd.R_lt (by (with_reducible repeat (first | apply Kd.R_alloc | apply Kd.R_drewN | apply Kd.R_drew)); exact HO_356000.out))) (Kd.R_lt (by (with_reducible repeat (first | apply Kd.R_alloc | apply Kd.R_drewN | apply Kd.R_drew)); exact HO_366000.out))) (below_size bl_)); have n4_ := Aside0.mk (blk_below (g := gb355) (o := .cells #[.slice Ao16 t349.length co16, .int .i64 t352, .int .i64 t353] 31 (0, 0)) bk_ hb); have n5_ := Aside0.mk (blk_below (g := gb365) (o := .cells #[.slice Ao22 t359.length co22, .int .i64 t362, .int .i64 t363] 31 (0, 0)) bk_ hb); have n6_ := Aside0.mk (below_step bl_ hb); clear HO_356000; clear HO_366000; clear HO378; clear BK355; clear BK365; clear HB; have HO_356000 := n0_; have HO_366000 := n1_; have HO378 := n2_; have HO381 := n3_; have BK355 := n4_; have BK365 := n5_; have HB := n6_; clear n0_ n1_ n2_ n3_ n4_ n5_ n6_; (try clear hb); (try clear hb2); (try clear hk); (try clear hi); (try clear ho0)) | ((with_reducible refine gate_dst (N := 14) rfl ?_); refine box_event ?hg (N := 14) ?hd (cs := #[.slice none 0 0, .int .i64 0, .int .i64 0]) (t := 31) ?hr ?_; (case hd => rfl); (case hg => rfl); (case hr => first | (go_simp; done) | (go_simp; rfl)); intro gb385 hg w72 hbox hb; have n0_ := Aside0.mk (Kd.R_below (by (with_reducible repeat (first | apply Kd.R_alloc | apply Kd.R_drewN | apply Kd.R_drew)); exact HO_356000.out) hb); have n1_ := Aside0.mk (Kd.R_below (by (with_reducible repeat (first | apply Kd.R_alloc | apply Kd.R_drewN | apply Kd.R_drew)); exact HO_366000.out) hb); have n2_ := Aside0.mk (Kd.S_below (by (with_reducible repeat (first | apply Kd.S_alloc | apply Kd.S_drewN | apply Kd.S_drew)); exact HO378.out) hb); have n3_ := Aside0.mk (Kd.R_below (by (with_reducible repeat (first | apply Kd.R_alloc | apply Kd.R_drewN | apply Kd.R_drew)); exact HO381.out) hb); have n4_ := Aside0.mk (blk_below (g := gb355) (o := .cells #[.slice Ao16 t349.length co16, .int .i64 t352, .int .i64 t353] 31 (0, 0)) bk_ hb); have n5_ := Aside0.mk (blk_below (g := gb365) (o := .cells #[.slice Ao22 t359.length co22, .int .i64 t362, .int .i64 t363] 31 (0, 0)) bk_ hb); have n6_ := Aside0.mk (below_step bl_ hb); have n7_ := Aside0.mk (hbox); have n8_ := Aside0.mk ((by rw [hg]; exact (below_size bl_) : w.heap.size ≤ gb385)); have n9_ := Aside0.mk ((by rw [hg]; exact (below_size bl_) : w.heap.size ≤ gb385)); have n10_ := Aside0.mk ((by rw [hg]; exact Nat.ne_of_lt (blk_lt (g := gb355) (o := .cells #[.slice Ao16 t349.length co16, .int .i64 t352, .int .i64 t353] 31 (0, 0)) bk_) : gb355 ≠ gb385)); have n11_ := Aside0.mk ((by rw [hg]; exact Nat.ne_of_gt (blk_lt (g := gb355) (o := .cells #[.slice Ao16 t349.length co16, .int .i64 t352, .int .i64 t353] 31 (0, 0)) bk_) : gb385 ≠ gb355)); have n12_ := Aside0.mk ((by rw [hg]; exact Nat.ne_of_lt (blk_lt (g := gb365) (o := .cells #[.slice Ao22 t359.length co22, .int .i64 t362, .int .i64 t363] 31 (0, 0)) bk_) : gb365 ≠ gb385)); have n13_ := Aside0.mk ((by rw [hg]; exact Nat.ne_of_gt (blk_lt (g := gb365) (o := .cells #[.slice Ao22 t359.length co22, .int .i64 t362, .int .i64 t363] 31 (0, 0)) bk_) : gb385 ≠ gb365)); clear HO_356000; clear HO_366000; clear HO378; clear HO381; clear BK355; clear BK365; clear HB; have HO_356000 := n0_; have HO_366000 := n1_; have HO378 := n2_; have HO381 := n3_; have BK355 := n4_; have BK365 := n5_; have HB := n6_; have BK385 := n7_; have GW385 := n8_; have GE385 := n9_; have NB355_385 := n10_; have NB385_355 := n11_; have NB365_385 := n12_; have NB385_365 := n13_; clear n0_ n1_ n2_ n3_ n4_ n5_ n6_ n7_ n8_ n9_ n10_ n11_ n12_ n13_; clear hb hbox hg; obtain ⟨Ao73, co73, eo73⟩ := Kd.R_slice HO381.out; subst eo73; have hnb74 := NB385_355.out; have hnc74 := NB355_385.out; have hnb75 := NB385_365.out; have hnc75 := NB365_385.out; have hcz76_0 : w72.cell? ⟨gb385, 0, none⟩ = some (.slice none 0 0) := (blk_cell BK385.out 0).trans rfl; have hcz76_1 : w72.cell? ⟨gb385, 1, none⟩ = some (.int .i64 0) := (blk_cell BK385.out 1).trans rfl; have hcz76_2 : w72.cell? ⟨gb385, 2, none⟩ = some (.int .i64 0) := (blk_cell BK385.out 2).trans rfl; have hfz76_0 := blk_frozen BK385.out 0; have hfz76_1 := blk_frozen BK385.out 1; have hfz76_2 := blk_frozen BK385.out 2))
     (try simp only [Act.put, List.setIfInBounds_toArray, List.set_cons_zero, List.set_cons_succ])
     go_cut [92] (fun v92 wc => ∃ (kq : Nat) (x92_62 : Bool), v92 = .bool x92_62 ∧ Aside0 (laws_FnExactBestShelf.j2 kq t373 x92_62 t374 t362 t363 = some r) ∧ Aside0 (kq ≤ kj39) ∧ Aside0 (Kd.R (Kd.int .i64) 3 wc w.heap.size (fun k_ => some k_ ≠ ((.slice Ao22 t359.length co22) : Value).ownBlock ∧ some k_ ≠ ((.slice Ao73 t379.length co73) : Value).ownBlock) (.slice Ao16 t349.length co16) t349) ∧ Aside0 (Kd.R (Kd.int .i64) 3 wc w.heap.size (fun k_ => some k_ ≠ ((.slice Ao16 t349.length co16) : Value).ownBlock ∧ some k_ ≠ ((.slice Ao73 t379.length co73) : Value).ownBlock) (.slice Ao22 t359.length co22) t374) ∧ Aside0 (Kd.R (Kd.int .i64) 3 wc w.heap.size (fun k_ => some k_ ≠ ((.slice Ao16 t349.length co16) : Value).ownBlock ∧ some k_ ≠ ((.slice Ao22 t359.length co22) : Value).ownBlock) (.slice Ao73 t379.length co73) t379) ∧ Aside0 (wc.heap[gb355]? = some (.cells #[(.slice Ao16 t349.length co16), .int .i64 t352, .int .i64 t353] 31 (0, 0))) ∧ Aside0 (wc.heap[gb365]? = some (.cells #[(.slice Ao22 t359.length co22), .int .i64 t362, .int .i64 t363] 31 (0, 0))) ∧ Aside0 (wc.heap[gb385]? = some (.cells #[(.slice Ao73 t379.length co73), .int .i64 t382, .int .i64 t383] 31 (0, 0))) ∧ Aside0 (Below w.heap.size w wc))
     case first =>
      have H := HC63.out
      clear HC63
      replace H := Option.bind_eq_some_iff.mp H
      obtain ⟨t386, A770, H⟩ := H
      replace H : (if t386 = true then (laws_FnExactBestShelf.j2 kj39 t373 (t384 != t354) t374 t362 t363) else (laws_FnExactBestShelf.j2 kj39 t373 true t374 t362 t363)) = some r := H
      have A77 := Aside0.mk A770
      clear A770
      by_cases c78 : t386 = true
      ·subst c78
       have H1 : (laws_FnExactBestShelf.j2 kj39 t373 (t384 != t354) t374 t362 t363) = some r := by rw [if_pos rfl] at H; exact H
       clear H
       have H := H1
       clear H1
       have H' := Aside0.mk H
       clear H
       have hnb79 := NB385_355.out
       have hnc79 := NB355_385.out
       have hnb80 := NB385_365.out
       have hnc80 := NB365_385.out
       have hcz81_0 : w72.cell? ⟨gb385, 0, none⟩ = some (.slice none 0 0) := (blk_cell BK385.out 0).trans rfl
       have hcz81_1 : w72.cell? ⟨gb385, 1, none⟩ = some (.int .i64 0) := (blk_cell BK385.out 1).trans rfl
       have hcz81_2 : w72.cell? ⟨gb385, 2, none⟩ = some (.int .i64 0) := (blk_cell BK385.out 2).trans rfl
       have hfz81_0 := blk_frozen BK385.out 0
       have hfz81_1 := blk_frozen BK385.out 1
       have hfz81_2 := blk_frozen BK385.out 2
       have hnb82 := NB355_365.out
       have hnc82 := NB365_355.out
       have hcz83_0 : w72.cell? ⟨gb355, 0, none⟩ = some (.slice Ao16 t349.length co16) := (blk_cell BK355.out 0).trans rfl
       have hcz83_1 : w72.cell? ⟨gb355, 1, none⟩ = some (.int .i64 t352) := (blk_cell BK355.out 1).trans rfl
       have hcz83_2 : w72.cell? ⟨gb355, 2, none⟩ = some (.int .i64 t353) := (blk_cell BK355.out 2).trans rfl
       have hfz83_0 := blk_frozen BK355.out 0
       have hfz83_1 := blk_frozen BK355.out 1
       have hfz83_2 := blk_frozen BK355.out 2
       go_wp2_with (first | ((with_reducible refine gate_callee (f := 15) rfl ?_); refine goesL_ (some 86) rfl rfl Try.func15 (by kernel_rfl) rfl #[.agg #[.slice Ao73 t379.length co73, .int .i64 t382, .int .i64 t383], .agg #[.slice Ao16 t349.length co16, .int .i64 t352, .int .i64 t353]] rfl (by (try simp only [List.map_toArray, List.map_cons, List.map_nil]); first | done | rfl | (simp only [List.length_drop, List.length_take]; rfl)) ?_; (with_reducible refine (laws_eqShelfPlan.calls kj39 _ _ t379 t382 t383 _ _ t349 t352 t353 true _ ?side1 ?side2 ?side3 ?side4 A77.out).mono ?_); (case side1 => refine (Kd.R_reads' (e := 3) (base := w.heap.size) (ok := fun k_ => ((True ∧ some k_ ≠ (.slice Ao16 t349.length co16 : Value).ownBlock) ∧ some k_ ≠ (.slice Ao22 t359.length co22 : Value).ownBlock)) (n := t379.length) (c := co73) ?_).2.2; exact (by (with_reducible repeat (first | apply Kd.R_alloc | apply Kd.R_drewN | apply Kd.R_drew)); exact (Kd.R_mono (Kd.R_far (p := ⟨gb385, 2, none⟩) (Kd.R_far (p := ⟨gb385, 1, none⟩) (Kd.R_far (p := ⟨gb385, 0, none⟩) (Kd.R_types HO381.out BK385.out (by decide)) (fun _ hk => hk.2) (.slice Ao73 t379.length co73)) (fun _ hk => hk.2) (.int .i64 t382)) (fun _ hk => hk.2) (.int .i64 t383)) (fun _ h_ => h_.1)))); (case side2 => exact (Kd.R_reads' HO381.out).2.1); (case side3 => refine (Kd.R_reads' (e := 3) (base := w.heap.size) (ok := fun k_ => (some k_ ≠ (.slice Ao22 t359.length co22 : Value).ownBlock ∧ some k_ ≠ (.slice Ao73 t379.length co73 : Value).ownBlock)) (n := t349.length) (c := co16) ?_).2.2; exact (by (with_reducible repeat (first | apply Kd.R_alloc | apply Kd.R_drewN | apply Kd.R_drew)); exact (Kd.R_mono (Kd.R_far (p := ⟨gb385, 2, none⟩) (Kd.R_far (p := ⟨gb385, 1, none⟩) (Kd.R_far (p := ⟨gb385, 0, none⟩) (Kd.R_types HO_356000.out BK385.out (by decide)) (fun _ hk => hk.2) (.slice Ao73 t379.length co73)) (fun _ hk => hk.2) (.int .i64 t382)) (fun _ hk => hk.2) (.int .i64 t383)) (fun _ h_ => h_.1)))); (case side4 => exact (Kd.R_reads' HO_356000.out).2.1); rintro e w84 ⟨rfl, hb⟩; refine ⟨_, rfl, ?_⟩; have n0_ := Aside0.mk (Kd.R_below (by (with_reducible repeat (first | apply Kd.R_alloc | apply Kd.R_drewN | apply Kd.R_drew)); exact (Kd.R_mono (Kd.R_far (p := ⟨gb385, 2, none⟩) (Kd.R_far (p := ⟨gb385, 1, none⟩) (Kd.R_far (p := ⟨gb385, 0, none⟩) (Kd.R_types HO_356000.out BK385.out (by decide)) (fun _ hk => hk.2) (.slice Ao73 t379.length co73)) (fun _ hk => hk.2) (.int .i64 t382)) (fun _ hk => hk.2) (.int .i64 t383)) (fun _ h_ => h_.1))) hb); have n1_ := Aside0.mk (Kd.R_below (by (with_reducible repeat (first | apply Kd.R_alloc | apply Kd.R_drewN | apply Kd.R_drew)); exact (Kd.R_mono (Kd.R_far (p := ⟨gb385, 2, none⟩) (Kd.R_far (p := ⟨gb385, 1, none⟩) (Kd.R_far (p := ⟨gb385, 0, none⟩) (Kd.R_types HO_366000.out BK385.out (by decide)) (fun _ hk => hk.2) (.slice Ao73 t379.length co73)) (fun _ hk => hk.2) (.int .i64 t382)) (fun _ hk => hk.2) (.int .i64 t383)) (fun _ h_ => h_.1))) hb); have n2_ := Aside0.mk (Kd.S_below (by (with_reducible repeat (first | apply Kd.S_alloc | apply Kd.S_drewN | apply Kd.S_drew)); exact (Kd.S_mono (Kd.S_far (p := ⟨gb385, 2, none⟩) (Kd.S_far (p := ⟨gb385, 1, none⟩) (Kd.S_far (p := ⟨gb385, 0, none⟩) (Kd.S_types HO378.out BK385.out (by decide)) (fun _ hk => hk.2) (.slice Ao73 t379.length co73)) (fun _ hk => hk.2) (.int .i64 t382)) (fun _ hk => hk.2) (.int .i64 t383)) (fun _ h_ => h_.1))) hb); have n3_ := Aside0.mk (Kd.R_below (by (with_reducible repeat (first | apply Kd.R_alloc | apply Kd.R_drewN | apply Kd.R_drew)); exact (Kd.R_mono (Kd.R_far (p := ⟨gb385, 2, none⟩) (Kd.R_far (p := ⟨gb385, 1, none⟩) (Kd.R_far (p := ⟨gb385, 0, none⟩) (Kd.R_types HO381.out BK385.out (by decide)) (fun _ hk => hk.2) (.slice Ao73 t379.length co73)) (fun _ hk => hk.2) (.int .i64 t382)) (fun _ hk => hk.2) (.int .i64 t383)) (fun _ h_ => h_.1))) hb); have n4_ := Aside0.mk (blk_below (g := gb355) (o := .cells #[.slice Ao16 t349.length co16, .int .i64 t352, .int .i64 t353] 31 (0, 0)) (by (with_reducible repeat (first | refine blk_drewN ?_ _ | refine blk_drew ?_ | refine blk_alloc ?_ _)); refine blk_far ?_ NB355_385.out _; (with_reducible repeat (first | refine blk_drewN ?_ _ | refine blk_drew ?_ | refine blk_alloc ?_ _)); refine blk_far ?_ NB355_385.out _; (with_reducible repeat (first | refine blk_drewN ?_ _ | refine blk_drew ?_ | refine blk_alloc ?_ _)); exact blk_far bk_ NB355_385.out _) hb); have n5_ := Aside0.mk (blk_below (g := gb365) (o := .cells #[.slice Ao22 t359.length co22, .int .i64 t362, .int .i64 t363] 31 (0, 0)) (by (with_reducible repeat (first | refine blk_drewN ?_ _ | refine blk_drew ?_ | refine blk_alloc ?_ _)); refine blk_far ?_ NB365_385.out _; (with_reducible repeat (first | refine blk_drewN ?_ _ | refine blk_drew ?_ | refine blk_alloc ?_ _)); refine blk_far ?_ NB365_385.out _; (with_reducible repeat (first | refine blk_drewN ?_ _ | refine blk_drew ?_ | refine blk_alloc ?_ _)); exact blk_far bk_ NB365_385.out _) hb); have n6_ := Aside0.mk (blk_below (g := gb385) (o := .cells #[.slice Ao73 t379.length co73, .int .i64 t382, .int .i64 t383] 31 (0, 0)) (by (with_reducible repeat (first | refine blk_drewN ?_ _ | refine blk_drew ?_ | refine blk_alloc ?_ _)); refine blk_put (cs := #[.slice Ao73 t379.length co73, .int .i64 t382, .int .i64 0]) ?_ 2 _ rfl; (with_reducible repeat (first | refine blk_drewN ?_ _ | refine blk_drew ?_ | refine blk_alloc ?_ _)); refine blk_put (cs := #[.slice Ao73 t379.length co73, .int .i64 0, .int .i64 0]) ?_ 1 _ rfl; (with_reducible repeat (first | refine blk_drewN ?_ _ | refine blk_drew ?_ | refine blk_alloc ?_ _)); refine blk_put (cs := #[.slice none 0 0, .int .i64 0, .int .i64 0]) ?_ 0 _ rfl; (with_reducible repeat (first | refine blk_drewN ?_ _ | refine blk_drew ?_ | refine blk_alloc ?_ _)); exact BK385.out) hb); have n7_ := Aside0.mk (below_step bl_ hb); clear HO_356000; clear HO_366000; clear HO378; clear HO381; clear BK355; clear BK365; clear BK385; clear HB; have HO_356000 := n0_; have HO_366000 := n1_; have HO378 := n2_; have HO381 := n3_; have BK355 := n4_; have BK365 := n5_; have BK385 := n6_; have HB := n7_; clear n0_ n1_ n2_ n3_ n4_ n5_ n6_ n7_; (try clear hb); (try clear hb2); (try clear hk); (try clear hi)))
       go_meet
       case rel => exact ⟨_, ((t384 != t354)), (by first | rfl | (simp; done) | (simp [*]; done)), H', ⟨by have := HJ9.out; have := HJ39.out; first | omega | exact Nat.le_refl _⟩, ⟨by (with_reducible repeat (first | apply Kd.R_alloc | apply Kd.R_drewN | apply Kd.R_drew)); exact HO_356000.out⟩, ⟨by (with_reducible repeat (first | apply Kd.R_alloc | apply Kd.R_drewN | apply Kd.R_drew)); exact HO_366000.out⟩, ⟨by (with_reducible repeat (first | apply Kd.R_alloc | apply Kd.R_drewN | apply Kd.R_drew)); exact Kd.R_mono HO381.out (fun _ hk => ⟨hk.1.2, hk.2⟩)⟩, ⟨by (with_reducible repeat (first | refine blk_drewN ?_ _ | refine blk_drew ?_ | refine blk_alloc ?_ _)); exact BK355.out⟩, ⟨by (with_reducible repeat (first | refine blk_drewN ?_ _ | refine blk_drew ?_ | refine blk_alloc ?_ _)); exact BK365.out⟩, ⟨by (with_reducible repeat (first | refine blk_drewN ?_ _ | refine blk_drew ?_ | refine blk_alloc ?_ _)); exact BK385.out⟩, ⟨by repeat (first | (with_reducible first | exact HB.out | apply below_alloc | apply pw_below_drewN | apply below_drew1 | refine below_set ?_ GE355.out | refine below_set ?_ GE365.out | refine below_set ?_ GE385.out) | exact HB.out)⟩⟩
      replace c78 := Bool.eq_false_iff.mpr c78
      subst c78
      have H1 : (laws_FnExactBestShelf.j2 kj39 t373 true t374 t362 t363) = some r := by rw [if_neg (show ¬ (false = true) by decide)] at H; exact H
      clear H
      have H := H1
      clear H1
      have H' := Aside0.mk H
      clear H
      have hnb85 := NB385_355.out
      have hnc85 := NB355_385.out
      have hnb86 := NB385_365.out
      have hnc86 := NB365_385.out
      have hcz87_0 : w72.cell? ⟨gb385, 0, none⟩ = some (.slice none 0 0) := (blk_cell BK385.out 0).trans rfl
      have hcz87_1 : w72.cell? ⟨gb385, 1, none⟩ = some (.int .i64 0) := (blk_cell BK385.out 1).trans rfl
      have hcz87_2 : w72.cell? ⟨gb385, 2, none⟩ = some (.int .i64 0) := (blk_cell BK385.out 2).trans rfl
      have hfz87_0 := blk_frozen BK385.out 0
      have hfz87_1 := blk_frozen BK385.out 1
      have hfz87_2 := blk_frozen BK385.out 2
      have hnb88 := NB355_365.out
      have hnc88 := NB365_355.out
      have hcz89_0 : w72.cell? ⟨gb355, 0, none⟩ = some (.slice Ao16 t349.length co16) := (blk_cell BK355.out 0).trans rfl
      have hcz89_1 : w72.cell? ⟨gb355, 1, none⟩ = some (.int .i64 t352) := (blk_cell BK355.out 1).trans rfl
      have hcz89_2 : w72.cell? ⟨gb355, 2, none⟩ = some (.int .i64 t353) := (blk_cell BK355.out 2).trans rfl
      have hfz89_0 := blk_frozen BK355.out 0
      have hfz89_1 := blk_frozen BK355.out 1
      have hfz89_2 := blk_frozen BK355.out 2
      go_wp2_with (first | ((with_reducible refine gate_callee (f := 15) rfl ?_); refine goesL_ (some 86) rfl rfl Try.func15 (by kernel_rfl) rfl #[.agg #[.slice Ao73 t379.length co73, .int .i64 t382, .int .i64 t383], .agg #[.slice Ao16 t349.length co16, .int .i64 t352, .int .i64 t353]] rfl (by (try simp only [List.map_toArray, List.map_cons, List.map_nil]); first | done | rfl | (simp only [List.length_drop, List.length_take]; rfl)) ?_; (with_reducible refine (laws_eqShelfPlan.calls kj39 _ _ t379 t382 t383 _ _ t349 t352 t353 false _ ?side1 ?side2 ?side3 ?side4 A77.out).mono ?_); (case side1 => refine (Kd.R_reads' (e := 3) (base := w.heap.size) (ok := fun k_ => ((True ∧ some k_ ≠ (.slice Ao16 t349.length co16 : Value).ownBlock) ∧ some k_ ≠ (.slice Ao22 t359.length co22 : Value).ownBlock)) (n := t379.length) (c := co73) ?_).2.2; exact (by (with_reducible repeat (first | apply Kd.R_alloc | apply Kd.R_drewN | apply Kd.R_drew)); exact (Kd.R_mono (Kd.R_far (p := ⟨gb385, 2, none⟩) (Kd.R_far (p := ⟨gb385, 1, none⟩) (Kd.R_far (p := ⟨gb385, 0, none⟩) (Kd.R_types HO381.out BK385.out (by decide)) (fun _ hk => hk.2) (.slice Ao73 t379.length co73)) (fun _ hk => hk.2) (.int .i64 t382)) (fun _ hk => hk.2) (.int .i64 t383)) (fun _ h_ => h_.1)))); (case side2 => exact (Kd.R_reads' HO381.out).2.1); (case side3 => refine (Kd.R_reads' (e := 3) (base := w.heap.size) (ok := fun k_ => (some k_ ≠ (.slice Ao22 t359.length co22 : Value).ownBlock ∧ some k_ ≠ (.slice Ao73 t379.length co73 : Value).ownBlock)) (n := t349.length) (c := co16) ?_).2.2; exact (by (with_reducible repeat (first | apply Kd.R_alloc | apply Kd.R_drewN | apply Kd.R_drew)); exact (Kd.R_mono (Kd.R_far (p := ⟨gb385, 2, none⟩) (Kd.R_far (p := ⟨gb385, 1, none⟩) (Kd.R_far (p := ⟨gb385, 0, none⟩) (Kd.R_types HO_356000.out BK385.out (by decide)) (fun _ hk => hk.2) (.slice Ao73 t379.length co73)) (fun _ hk => hk.2) (.int .i64 t382)) (fun _ hk => hk.2) (.int .i64 t383)) (fun _ h_ => h_.1)))); (case side4 => exact (Kd.R_reads' HO_356000.out).2.1); rintro e w90 ⟨rfl, hb⟩; refine ⟨_, rfl, ?_⟩; have n0_ := Aside0.mk (Kd.R_below (by (with_reducible repeat (first | apply Kd.R_alloc | apply Kd.R_drewN | apply Kd.R_drew)); exact (Kd.R_mono (Kd.R_far (p := ⟨gb385, 2, none⟩) (Kd.R_far (p := ⟨gb385, 1, none⟩) (Kd.R_far (p := ⟨gb385, 0, none⟩) (Kd.R_types HO_356000.out BK385.out (by decide)) (fun _ hk => hk.2) (.slice Ao73 t379.length co73)) (fun _ hk => hk.2) (.int .i64 t382)) (fun _ hk => hk.2) (.int .i64 t383)) (fun _ h_ => h_.1))) hb); have n1_ := Aside0.mk (Kd.R_below (by (with_reducible repeat (first | apply Kd.R_alloc | apply Kd.R_drewN | apply Kd.R_drew)); exact (Kd.R_mono (Kd.R_far (p := ⟨gb385, 2, none⟩) (Kd.R_far (p := ⟨gb385, 1, none⟩) (Kd.R_far (p := ⟨gb385, 0, none⟩) (Kd.R_types HO_366000.out BK385.out (by decide)) (fun _ hk => hk.2) (.slice Ao73 t379.length co73)) (fun _ hk => hk.2) (.int .i64 t382)) (fun _ hk => hk.2) (.int .i64 t383)) (fun _ h_ => h_.1))) hb); have n2_ := Aside0.mk (Kd.S_below (by (with_reducible repeat (first | apply Kd.S_alloc | apply Kd.S_drewN | apply Kd.S_drew)); exact (Kd.S_mono (Kd.S_far (p := ⟨gb385, 2, none⟩) (Kd.S_far (p := ⟨gb385, 1, none⟩) (Kd.S_far (p := ⟨gb385, 0, none⟩) (Kd.S_types HO378.out BK385.out (by decide)) (fun _ hk => hk.2) (.slice Ao73 t379.length co73)) (fun _ hk => hk.2) (.int .i64 t382)) (fun _ hk => hk.2) (.int .i64 t383)) (fun _ h_ => h_.1))) hb); have n3_ := Aside0.mk (Kd.R_below (by (with_reducible repeat (first | apply Kd.R_alloc | apply Kd.R_drewN | apply Kd.R_drew)); exact (Kd.R_mono (Kd.R_far (p := ⟨gb385, 2, none⟩) (Kd.R_far (p := ⟨gb385, 1, none⟩) (Kd.R_far (p := ⟨gb385, 0, none⟩) (Kd.R_types HO381.out BK385.out (by decide)) (fun _ hk => hk.2) (.slice Ao73 t379.length co73)) (fun _ hk => hk.2) (.int .i64 t382)) (fun _ hk => hk.2) (.int .i64 t383)) (fun _ h_ => h_.1))) hb); have n4_ := Aside0.mk (blk_below (g := gb355) (o := .cells #[.slice Ao16 t349.length co16, .int .i64 t352, .int .i64 t353] 31 (0, 0)) (by (with_reducible repeat (first | refine blk_drewN ?_ _ | refine blk_drew ?_ | refine blk_alloc ?_ _)); refine blk_far ?_ NB355_385.out _; (with_reducible repeat (first | refine blk_drewN ?_ _ | refine blk_drew ?_ | refine blk_alloc ?_ _)); refine blk_far ?_ NB355_385.out _; (with_reducible repeat (first | refine blk_drewN ?_ _ | refine blk_drew ?_ | refine blk_alloc ?_ _)); exact blk_far bk_ NB355_385.out _) hb); have n5_ := Aside0.mk (blk_below (g := gb365) (o := .cells #[.slice Ao22 t359.length co22, .int .i64 t362, .int .i64 t363] 31 (0, 0)) (by (with_reducible repeat (first | refine blk_drewN ?_ _ | refine blk_drew ?_ | refine blk_alloc ?_ _)); refine blk_far ?_ NB365_385.out _; (with_reducible repeat (first | refine blk_drewN ?_ _ | refine blk_drew ?_ | refine blk_alloc ?_ _)); refine blk_far ?_ NB365_385.out _; (with_reducible repeat (first | refine blk_drewN ?_ _ | refine blk_drew ?_ | refine blk_alloc ?_ _)); exact blk_far bk_ NB365_385.out _) hb); have n6_ := Aside0.mk (blk_below (g := gb385) (o := .cells #[.slice Ao73 t379.length co73, .int .i64 t382, .int .i64 t383] 31 (0, 0)) (by (with_reducible repeat (first | refine blk_drewN ?_ _ | refine blk_drew ?_ | refine blk_alloc ?_ _)); refine blk_put (cs := #[.slice Ao73 t379.length co73, .int .i64 t382, .int .i64 0]) ?_ 2 _ rfl; (with_reducible repeat (first | refine blk_drewN ?_ _ | refine blk_drew ?_ | refine blk_alloc ?_ _)); refine blk_put (cs := #[.slice Ao73 t379.length co73, .int .i64 0, .int .i64 0]) ?_ 1 _ rfl; (with_reducible repeat (first | refine blk_drewN ?_ _ | refine blk_drew ?_ | refine blk_alloc ?_ _)); refine blk_put (cs := #[.slice none 0 0, .int .i64 0, .int .i64 0]) ?_ 0 _ rfl; (with_reducible repeat (first | refine blk_drewN ?_ _ | refine blk_drew ?_ | refine blk_alloc ?_ _)); exact BK385.out) hb); have n7_ := Aside0.mk (below_step bl_ hb); clear HO_356000; clear HO_366000; clear HO378; clear HO381; clear BK355; clear BK365; clear BK385; clear HB; have HO_356000 := n0_; have HO_366000 := n1_; have HO378 := n2_; have HO381 := n3_; have BK355 := n4_; have BK365 := n5_; have BK385 := n6_; have HB := n7_; clear n0_ n1_ n2_ n3_ n4_ n5_ n6_ n7_; (try clear hb); (try clear hb2); (try clear hk); (try clear hi)))
      go_meet
      case rel => exact ⟨_, (true), (by first | rfl | (simp; done) | (simp [*]; done)), H', ⟨by have := HJ9.out; have := HJ39.out; first | omega | exact Nat.le_refl _⟩, ⟨by (with_reducible repeat (first | apply Kd.R_alloc | apply Kd.R_drewN | apply Kd.R_drew)); exact HO_356000.out⟩, ⟨by (with_reducible repeat (first | apply Kd.R_alloc | apply Kd.R_drewN | apply Kd.R_drew)); exact HO_366000.out⟩, ⟨by (with_reducible repeat (first | apply Kd.R_alloc | apply Kd.R_drewN | apply Kd.R_drew)); exact Kd.R_mono HO381.out (fun _ hk => ⟨hk.1.2, hk.2⟩)⟩, ⟨by (with_reducible repeat (first | refine blk_drewN ?_ _ | refine blk_drew ?_ | refine blk_alloc ?_ _)); exact BK355.out⟩, ⟨by (with_reducible repeat (first | refine blk_drewN ?_ _ | refine blk_drew ?_ | refine blk_alloc ?_ _)); exact BK365.out⟩, ⟨by (with_reducible repeat (first | refine blk_drewN ?_ _ | refine blk_drew ?_ | refine blk_alloc ?_ _)); exact BK385.out⟩, ⟨by repeat (first | (with_reducible first | exact HB.out | apply below_alloc | apply pw_below_drewN | apply below_drew1 | refine below_set ?_ GE355.out | refine below_set ?_ GE365.out | refine below_set ?_ GE385.out) | exact HB.out)⟩⟩
     case rest =>
      clear HC63
      (try clear c8); (try clear c19); (try clear c20); (try clear c56); (try clear c59); (try clear c59b0); (try clear c60); (try clear c60b0); (try clear c60b1); (try clear c64); (try clear c74); (try clear c75); (try clear c78); (try clear c79); (try clear c80); (try clear c82); (try clear c85); (try clear c86); (try clear c88); (try clear hcz65_0); (try clear hcz65_1); (try clear hcz65_2); (try clear hcz67_0); (try clear hcz67_1); (try clear hcz67_2); (try clear hcz76_0); (try clear hcz76_1); (try clear hcz76_2); (try clear hcz81_0); (try clear hcz81_1); (try clear hcz81_2); (try clear hcz83_0); (try clear hcz83_1); (try clear hcz83_2); (try clear hcz87_0); (try clear hcz87_1); (try clear hcz87_2); (try clear hcz89_0); (try clear hcz89_1); (try clear hcz89_2); (try clear hfz65_0); (try clear hfz65_1); (try clear hfz65_2); (try clear hfz67_0); (try clear hfz67_1); (try clear hfz67_2); (try clear hfz76_0); (try clear hfz76_1); (try clear hfz76_2); (try clear hfz81_0); (try clear hfz81_1); (try clear hfz81_2); (try clear hfz83_0); (try clear hfz83_1); (try clear hfz83_2); (try clear hfz87_0); (try clear hfz87_1); (try clear hfz87_2); (try clear hfz89_0); (try clear hfz89_1); (try clear hfz89_2)
      obtain ⟨kq, x92_62, rfl, HA, HJ62, HO_356000, HO_366000, HO_386000, BK355, BK365, BK385, HB⟩ := hcut
      have hl366000_62 := (Kd.R_reads' HO_366000.out).1
      rw [hl366000_62] at HO_366000
      (try simp only [hl366000_62])
      (try simp only [hl366000_62] at BK355)
      (try simp only [hl366000_62] at BK365)
      (try simp only [hl366000_62] at BK385)
      (try simp only [hl366000_62] at HO_356000)
      (try simp only [hl366000_62] at HO_386000)
      cases kq with
      | zero => exact absurd HA.out (by simp [laws_FnExactBestShelf.j2])
      | succ kj62 =>
       have H := HA.out
       clear HA
       simp only [laws_FnExactBestShelf.j2] at H
       by_cases c91 : x92_62 = true
       ·subst c91
        have H1 : (some false) = some r := by rw [if_pos rfl] at H; exact H
        clear H
        have H := H1
        clear H1
        obtain rfl := Option.some.inj H
        exact absurd hT_.out (by decide)
       replace c91 := Bool.eq_false_iff.mpr c91
       subst c91
       have H1 : ((laws_heldShelfPlan.f kj62 t374 t362 t363 1).bind fun t387 => (if t387 < 0 then (some false) else (if t387 = t373 then (some true) else (some false)))) = some r := by rw [if_neg (show ¬ (false = true) by decide)] at H; exact H
       clear H
       have H := H1
       clear H1
       replace H := Option.bind_eq_some_iff.mp H
       obtain ⟨t387, A920, H⟩ := H
       replace H : (if t387 < 0 then (some false) else (if t387 = t373 then (some true) else (some false))) = some r := H
       have A92 := Aside0.mk A920
       clear A920
       by_cases c93 : t387 < 0
       ·rw [if_pos c93] at H
        have c93b0 : decide (t387 < 0) = true := decide_eq_true c93
        clear c93
        obtain rfl := Option.some.inj H
        exact absurd hT_.out (by decide)
       rw [if_neg c93] at H
       have c93b0 : decide (t387 < 0) = false := decide_eq_false c93
       clear c93
       by_cases c94 : t387 = t373
       rotate_left
       ·rw [if_neg c94] at H
        have c94b0 : (t387 == t373) = false := beq_eq_false_iff_ne.mpr c94
        have c94b1 : (t387 != t373) = true := bne_iff_ne.mpr c94
        obtain rfl := Option.some.inj H
        exact absurd hT_.out (by decide)
       rw [if_pos c94] at H
       have c94b0 : (t387 == t373) = true := beq_iff_eq.mpr c94
       have c94b1 : (t387 != t373) = false := bne_eq_false_iff_eq.mpr c94
       clear c94
       obtain rfl := Option.some.inj H
       have hnb95 := NB365_355.out
       have hnc95 := NB355_365.out
       have hnb96 := NB365_385.out
       have hnc96 := NB385_365.out
       have hcz97_0 : wc.cell? ⟨gb365, 0, none⟩ = some (.slice Ao22 t374.length co22) := (blk_cell BK365.out 0).trans rfl
       have hcz97_1 : wc.cell? ⟨gb365, 1, none⟩ = some (.int .i64 t362) := (blk_cell BK365.out 1).trans rfl
       have hcz97_2 : wc.cell? ⟨gb365, 2, none⟩ = some (.int .i64 t363) := (blk_cell BK365.out 2).trans rfl
       have hfz97_0 := blk_frozen BK365.out 0
       have hfz97_1 := blk_frozen BK365.out 1
       have hfz97_2 := blk_frozen BK365.out 2
       go_wp2_with (first | ((with_reducible refine gate_callee (f := 20) rfl ?_); refine goesL_ (some 95) rfl rfl Try.func20 (by kernel_rfl) rfl #[.agg #[.slice Ao22 t374.length co22, .int .i64 t362, .int .i64 t363], .int .i64 1] rfl (by (try simp only [List.map_toArray, List.map_cons, List.map_nil]); first | done | rfl | (simp only [List.length_drop, List.length_take]; rfl)) ?_; (with_reducible refine (laws_heldShelfPlan.calls kj62 _ _ t374 t362 t363 1 t387 _ ?side1 ?side2 A92.out).mono ?_); (case side1 => repeat (first | exact (Kd.R_reads' HO_366000.out).2.2 | (with_reducible refine Kd.C_alloc ?_ _) | (with_reducible refine Kd.C_drewN ?_ _) | (with_reducible refine Kd.C_drew ?_))); (case side2 => exact (Kd.R_reads' HO_366000.out).2.1); rintro e w98 ⟨rfl, hb⟩; refine ⟨_, rfl, ?_⟩; have n0_ := Aside0.mk (Kd.R_below (by (with_reducible repeat (first | apply Kd.R_alloc | apply Kd.R_drewN | apply Kd.R_drew)); exact HO_356000.out) hb); have n1_ := Aside0.mk (Kd.R_below (by (with_reducible repeat (first | apply Kd.R_alloc | apply Kd.R_drewN | apply Kd.R_drew)); exact HO_366000.out) hb); have n2_ := Aside0.mk (Kd.R_below (by (with_reducible repeat (first | apply Kd.R_alloc | apply Kd.R_drewN | apply Kd.R_drew)); exact HO_386000.out) hb); have n3_ := Aside0.mk (blk_below (g := gb355) (o := .cells #[.slice Ao16 t349.length co16, .int .i64 t352, .int .i64 t353] 31 (0, 0)) bk_ hb); have n4_ := Aside0.mk (blk_below (g := gb365) (o := .cells #[.slice Ao22 t374.length co22, .int .i64 t362, .int .i64 t363] 31 (0, 0)) bk_ hb); have n5_ := Aside0.mk (blk_below (g := gb385) (o := .cells #[.slice Ao73 t379.length co73, .int .i64 t382, .int .i64 t383] 31 (0, 0)) bk_ hb); have n6_ := Aside0.mk (below_step bl_ hb); clear HO_356000; clear HO_366000; clear HO_386000; clear BK355; clear BK365; clear BK385; clear HB; have HO_356000 := n0_; have HO_366000 := n1_; have HO_386000 := n2_; have BK355 := n3_; have BK365 := n4_; have BK385 := n5_; have HB := n6_; clear n0_ n1_ n2_ n3_ n4_ n5_ n6_; (try clear hb); (try clear hb2); (try clear hk); (try clear hi)))
       go_ret
       exact ⟨by first | rfl | (simp [errW_none, errW_some] <;> rfl) | (simp [*, errW_none, errW_some] <;> rfl), by repeat (first | (with_reducible first | exact HB.out | apply below_alloc | apply pw_below_drewN | apply below_drew1 | refine below_set ?_ GE355.out | refine below_set ?_ GE365.out | refine below_set ?_ GE385.out) | exact HB.out)⟩
def wfT49 (x : S49) : Prop := (fun s_ => s_.size ≤ 9223372036854775807) x.f0 ∧ (fun n_ => (Lit.int .i64 n_).wf = true) x.f1 ∧ (fun n_ => (Lit.int .i64 n_).wf = true) x.f2 ∧ (fun l_ => l_.length ≤ 9223372036854775807 ∧ ∀ x ∈ l_, (fun n_ => (Lit.int .i64 n_).wf = true) x) x.f3

/-- THE ONE PURE STATEMENT of laws_FnExactBestShelf. -/
def laws_FnExactBestShelf.Pure : Prop := ∀ (l0 : List (S49)) (a1 : Int), (l0.length ≤ 9223372036854775807 ∧ ∀ x ∈ l0, wfT49 x) → (Lit.int .i64 a1).wf = true → ∃ k, laws_FnExactBestShelf.f k l0 a1 = some true
theorem laws_FnExactBestShelf.walk (P : laws_FnExactBestShelf.Pure) (A0 : Option Addr) (c0 : Nat) (l0 : List (S49)) (a1 : Int) (w : World) (hr0 : Kd.C k49 w A0 l0.length l0) (hc0 : l0.length ≤ c0) (hw0 : (l0.length ≤ 9223372036854775807 ∧ ∀ x ∈ l0, wfT49 x)) (hw1 : (Lit.int .i64 a1).wf = true) :
  Calls Try.prog 6 #[.slice A0 l0.length c0, .int .i64 a1] w fun e w' => e = .returned (.bool true) ∧ Below w.heap.size w w' := by
 obtain ⟨k, h⟩ := P l0 a1 hw0 hw1
 refine (laws_FnExactBestShelf.calls k A0 c0 l0 a1 true w hr0 hc0 h rfl).mono ?_
 rintro e w' ⟨rfl, hd⟩
 exact ⟨rfl, hd⟩

end Go.Proofs.Ytecbcibblmknpaa.XFnExactBestShelf
