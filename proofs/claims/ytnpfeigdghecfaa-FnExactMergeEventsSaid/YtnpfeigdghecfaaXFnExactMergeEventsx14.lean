-- PRINTED by xprint.py (our own program, over the kit's print.py)
import Derived.Test.YtnpfeigdghecfaaXFnExactMergeEventsx0
import Derived.Test.YtnpfeigdghecfaaXFnExactMergeEventsx2
import Derived.Test.YtnpfeigdghecfaaXFnExactMergeEventsx6
import Derived.Test.YtnpfeigdghecfaaXFnExactMergeEventsx11
import Derived.Test.YtnpfeigdghecfaaXFnExactMergeEventsx12
import Derived.Test.YtnpfeigdghecfaaXFnExactMergeEventsx13
import Derived.Test.YtnpfeigdghecfaaPu
namespace Go.Proofs.Ytnpfeigdghecfaa.XFnExactMergeEvents
open Go.RowKit Go.Proofs.YtnpfeigdghecfaaW.PrintWords Go.Proofs.YtnpfeigdghecfaaW.PrintLast Go.Proofs.YtnpfeigdghecfaaW.PrintMore Go.Proofs.YtnpfeigdghecfaaW.Idx
attribute [local go_sem] max2_int min2_int max_two min_two max_three min_three max_four min_four   -- for this text's walks alone
set_option linter.unusedVariables false
set_option linter.unusedSimpArgs false

/-! ### laws_FnExactMergeEvents: function 5 -/
mutual
def laws_FnExactMergeEvents.j0 : Nat → List (S38) → List (S38) → List (S40) → Int → List (S40) → List (S40) → List (S40) → Int → Bool → Option (Bool)
 | 0, _, _, _, _, _, _, _, _, _ => none
 | k + 1, x0, x1, x6, x7, x8, x9, x10, x11, x53 => if x53 = true then (some false) else ((laws_toEventS.f k x0).bind fun t269 => ((laws_eqEventS.f k x8 t269).bind fun t272 => (if t272 = true then ((laws_toEventS.f k x1).bind fun t273 => ((laws_eqEventS.f k x9 t273).bind fun t276 => (if t276 = true then ((laws_markEventS.f k x8 1).bind fun bt277 => ((laws_markEventS.f k x9 bt277.1).bind fun bt279 => (if bt279.1 < 0 then (laws_FnExactMergeEvents.j1 k x0 x1 x6 x7 x10 true) else ((laws_eqEventS.f k x10 x6).bind fun t281 => (if t281 = true then (laws_FnExactMergeEvents.j1 k x0 x1 x6 x7 x10 (x11 != x7)) else (laws_FnExactMergeEvents.j1 k x0 x1 x6 x7 x10 true)))))) else (some false)))) else (some false))))
def laws_FnExactMergeEvents.j1 : Nat → List (S38) → List (S38) → List (S40) → Int → List (S40) → Bool → Option (Bool)
 | 0, _, _, _, _, _, _ => none
 | k + 1, x0, x1, x6, x7, x10, x82 => if x82 = true then (some false) else ((laws_markEventS.f k x10 1).bind fun bt282 => ((laws_heldEventS.f k bt282.2 1).bind fun t284 => (if t284 < 0 then (some false) else (if t284 = bt282.1 then ((laws_toEventS.f k x0).bind fun t285 => ((laws_toEventS.f k x1).bind fun t288 => ((impl_MergeEvents.f k t285 t288).bind fun bt291 => ((laws_eqEventS.f k bt291.1 x6).bind fun t295 => (if t295 = true then (laws_FnExactMergeEvents.j2 k bt282.2 bt282.1 (bt291.2 != x7)) else (laws_FnExactMergeEvents.j2 k bt282.2 bt282.1 true)))))) else (some false)))))
def laws_FnExactMergeEvents.j2 : Nat → List (S40) → Int → Bool → Option (Bool)
 | 0, _, _, _ => none
 | k + 1, x10, x13, x110 => if x110 = true then (some false) else ((laws_heldEventS.f k x10 1).bind fun t296 => (if t296 < 0 then (some false) else (if t296 = x13 then (some true) else (some false))))
end
def laws_FnExactMergeEvents.f (k : Nat) (l0 : List (S38)) (l1 : List (S38)) : Option (Bool) := (laws_szEventS.f k l0 1048576).bind fun t246 => (if t246 < 0 then (some true) else ((laws_szEventS.f k l1 t246).bind fun t247 => (if t247 < 0 then (some true) else ((laws_toEventS.f k l0).bind fun t248 => ((laws_toEventS.f k l1).bind fun t251 => ((spec_MergeEvents.f k t248 t251).bind fun bt254 => ((laws_toEventS.f k l0).bind fun t258 => ((laws_toEventS.f k l1).bind fun t261 => ((impl_MergeEvents.f k t258 t261).bind fun bt264 => ((laws_eqEventS.f k bt264.1 bt254.1).bind fun t268 => (if t268 = true then (laws_FnExactMergeEvents.j0 k l0 l1 bt254.1 bt254.2 t258 t261 bt264.1 bt264.2 (bt264.2 != bt254.2)) else (laws_FnExactMergeEvents.j0 k l0 l1 bt254.1 bt254.2 t258 t261 bt264.1 bt264.2 true))))))))))))
theorem laws_FnExactMergeEvents.mono_l : ∀ k, (∀ y0 y1 y2 y3 y4 y5 y6 y7 y8, LeO (laws_FnExactMergeEvents.j0 k y0 y1 y2 y3 y4 y5 y6 y7 y8) (laws_FnExactMergeEvents.j0 (k + 1) y0 y1 y2 y3 y4 y5 y6 y7 y8)) ∧ (∀ y0 y1 y2 y3 y4 y5, LeO (laws_FnExactMergeEvents.j1 k y0 y1 y2 y3 y4 y5) (laws_FnExactMergeEvents.j1 (k + 1) y0 y1 y2 y3 y4 y5)) ∧ (∀ y0 y1 y2, LeO (laws_FnExactMergeEvents.j2 k y0 y1 y2) (laws_FnExactMergeEvents.j2 (k + 1) y0 y1 y2))
 | 0 => ⟨fun _ _ _ _ _ _ _ _ _ r h => by simp [laws_FnExactMergeEvents.j0] at h, fun _ _ _ _ _ _ r h => by simp [laws_FnExactMergeEvents.j1] at h, fun _ _ _ r h => by simp [laws_FnExactMergeEvents.j2] at h⟩
 | k + 1 => by
  obtain ⟨ih0, ih1, ih2⟩ := laws_FnExactMergeEvents.mono_l k
  refine ⟨?_, ?_, ?_⟩
  ·intro y0 y1 y2 y3 y4 y5 y6 y7 y8
   unfold laws_FnExactMergeEvents.j0
   repeat' first
   | (with_reducible exact ih0 _ _ _ _ _ _ _ _ _)
   | (with_reducible exact ih1 _ _ _ _ _ _)
   | (with_reducible exact ih2 _ _ _)
   | (with_reducible exact impl_MergeEvents.mono _ _ _)
   | (with_reducible exact laws_eqEventS.mono _ _ _)
   | (with_reducible exact laws_heldEventS.mono _ _ _)
   | (with_reducible exact laws_markEventS.mono _ _ _)
   | (with_reducible exact laws_szEventS.mono _ _ _)
   | (with_reducible exact laws_toEventS.mono _ _)
   | (with_reducible exact spec_MergeEvents.mono _ _ _)
   | (with_reducible exact LeO.refl _)
   | (with_reducible exact LeO.none _)
   | (with_reducible refine LeO.ite ?_ ?_)
   | (with_reducible refine LeO.bind ?_ (fun _ => ?_))
   | exact ih0 _ _ _ _ _ _ _ _ _
   | exact ih1 _ _ _ _ _ _
   | exact ih2 _ _ _
   | exact impl_MergeEvents.mono _ _ _
   | exact laws_eqEventS.mono _ _ _
   | exact laws_heldEventS.mono _ _ _
   | exact laws_markEventS.mono _ _ _
   | exact laws_szEventS.mono _ _ _
   | exact laws_toEventS.mono _ _
   | exact spec_MergeEvents.mono _ _ _
   | exact LeO.none _
   | refine LeO.ite ?_ ?_
   | refine LeO.bind ?_ (fun _ => ?_)
  ·intro y0 y1 y2 y3 y4 y5
   unfold laws_FnExactMergeEvents.j1
   repeat' first
   | (with_reducible exact ih0 _ _ _ _ _ _ _ _ _)
   | (with_reducible exact ih1 _ _ _ _ _ _)
   | (with_reducible exact ih2 _ _ _)
   | (with_reducible exact impl_MergeEvents.mono _ _ _)
   | (with_reducible exact laws_eqEventS.mono _ _ _)
   | (with_reducible exact laws_heldEventS.mono _ _ _)
   | (with_reducible exact laws_markEventS.mono _ _ _)
   | (with_reducible exact laws_szEventS.mono _ _ _)
   | (with_reducible exact laws_toEventS.mono _ _)
   | (with_reducible exact spec_MergeEvents.mono _ _ _)
   | (with_reducible exact LeO.refl _)
   | (with_reducible exact LeO.none _)
   | (with_reducible refine LeO.ite ?_ ?_)
   | (with_reducible refine LeO.bind ?_ (fun _ => ?_))
   | exact ih0 _ _ _ _ _ _ _ _ _
   | exact ih1 _ _ _ _ _ _
   | exact ih2 _ _ _
   | exact impl_MergeEvents.mono _ _ _
   | exact laws_eqEventS.mono _ _ _
   | exact laws_heldEventS.mono _ _ _
   | exact laws_markEventS.mono _ _ _
   | exact laws_szEventS.mono _ _ _
   | exact laws_toEventS.mono _ _
   | exact spec_MergeEvents.mono _ _ _
   | exact LeO.none _
   | refine LeO.ite ?_ ?_
   | refine LeO.bind ?_ (fun _ => ?_)
  ·intro y0 y1 y2
   unfold laws_FnExactMergeEvents.j2
   repeat' first
   | (with_reducible exact ih0 _ _ _ _ _ _ _ _ _)
   | (with_reducible exact ih1 _ _ _ _ _ _)
   | (with_reducible exact ih2 _ _ _)
   | (with_reducible exact impl_MergeEvents.mono _ _ _)
   | (with_reducible exact laws_eqEventS.mono _ _ _)
   | (with_reducible exact laws_heldEventS.mono _ _ _)
   | (with_reducible exact laws_markEventS.mono _ _ _)
   | (with_reducible exact laws_szEventS.mono _ _ _)
   | (with_reducible exact laws_toEventS.mono _ _)
   | (with_reducible exact spec_MergeEvents.mono _ _ _)
   | (with_reducible exact LeO.refl _)
   | (with_reducible exact LeO.none _)
   | (with_reducible refine LeO.ite ?_ ?_)
   | (with_reducible refine LeO.bind ?_ (fun _ => ?_))
   | exact ih0 _ _ _ _ _ _ _ _ _
   | exact ih1 _ _ _ _ _ _
   | exact ih2 _ _ _
   | exact impl_MergeEvents.mono _ _ _
   | exact laws_eqEventS.mono _ _ _
   | exact laws_heldEventS.mono _ _ _
   | exact laws_markEventS.mono _ _ _
   | exact laws_szEventS.mono _ _ _
   | exact laws_toEventS.mono _ _
   | exact spec_MergeEvents.mono _ _ _
   | exact LeO.none _
   | refine LeO.ite ?_ ?_
   | refine LeO.bind ?_ (fun _ => ?_)
theorem laws_FnExactMergeEvents.mono : ∀ a0 a1 k, LeO (laws_FnExactMergeEvents.f k a0 a1) (laws_FnExactMergeEvents.f (k + 1) a0 a1) := by
 intro a0 a1 k
 obtain ⟨ih0, ih1, ih2⟩ := laws_FnExactMergeEvents.mono_l k
 unfold laws_FnExactMergeEvents.f
 repeat' first
   | (with_reducible exact ih0 _ _ _ _ _ _ _ _ _)
   | (with_reducible exact ih1 _ _ _ _ _ _)
   | (with_reducible exact ih2 _ _ _)
   | (with_reducible exact impl_MergeEvents.mono _ _ _)
   | (with_reducible exact laws_eqEventS.mono _ _ _)
   | (with_reducible exact laws_heldEventS.mono _ _ _)
   | (with_reducible exact laws_markEventS.mono _ _ _)
   | (with_reducible exact laws_szEventS.mono _ _ _)
   | (with_reducible exact laws_toEventS.mono _ _)
   | (with_reducible exact spec_MergeEvents.mono _ _ _)
   | (with_reducible exact LeO.refl _)
   | (with_reducible exact LeO.none _)
   | (with_reducible refine LeO.ite ?_ ?_)
   | (with_reducible refine LeO.bind ?_ (fun _ => ?_))
   | exact ih0 _ _ _ _ _ _ _ _ _
   | exact ih1 _ _ _ _ _ _
   | exact ih2 _ _ _
   | exact impl_MergeEvents.mono _ _ _
   | exact laws_eqEventS.mono _ _ _
   | exact laws_heldEventS.mono _ _ _
   | exact laws_markEventS.mono _ _ _
   | exact laws_szEventS.mono _ _ _
   | exact laws_toEventS.mono _ _
   | exact spec_MergeEvents.mono _ _ _
   | exact LeO.none _
   | refine LeO.ite ?_ ?_
   | refine LeO.bind ?_ (fun _ => ?_)
set_option maxHeartbeats 8000000 in
set_option maxRecDepth 100000 in
theorem laws_FnExactMergeEvents.calls (k : Nat) (A0 : Option Addr) (c0 : Nat) (l0 : List (S38)) (A1 : Option Addr) (c1 : Nat) (l1 : List (S38)) (r : Bool) (w : World) (hr0 : Kd.C k38 w A0 l0.length l0) (hc0 : l0.length ≤ c0) (hr1 : Kd.C k38 w A1 l1.length l1) (hc1 : l1.length ≤ c1) (h : laws_FnExactMergeEvents.f k l0 l1 = some r) (hT0 : r = true) :
  Calls Try.prog 5 #[.slice A0 l0.length c0, .slice A1 l1.length c1] w fun e w' => e = .returned (.bool r) ∧ Below w.heap.size w w' := by
 have HR0 := Aside0.mk hr0
 have HC0 := Aside0.mk hc0
 clear hr0 hc0
 have HR1 := Aside0.mk hr1
 have HC1 := Aside0.mk hc1
 clear hr1 hc1
 have HB := Aside0.mk (Below.refl w.heap.size w)
 have H : ((laws_szEventS.f k l0 1048576).bind fun t246 => (if t246 < 0 then (some true) else ((laws_szEventS.f k l1 t246).bind fun t247 => (if t247 < 0 then (some true) else ((laws_toEventS.f k l0).bind fun t248 => ((laws_toEventS.f k l1).bind fun t251 => ((spec_MergeEvents.f k t248 t251).bind fun bt254 => ((laws_toEventS.f k l0).bind fun t258 => ((laws_toEventS.f k l1).bind fun t261 => ((impl_MergeEvents.f k t258 t261).bind fun bt264 => ((laws_eqEventS.f k bt264.1 bt254.1).bind fun t268 => (if t268 = true then (laws_FnExactMergeEvents.j0 k l0 l1 bt254.1 bt254.2 t258 t261 bt264.1 bt264.2 (bt264.2 != bt254.2)) else (laws_FnExactMergeEvents.j0 k l0 l1 bt254.1 bt254.2 t258 t261 bt264.1 bt264.2 true))))))))))))) = some r := h
 clear h
 have hT_ := Aside0.mk hT0
 clear hT0
 replace H := Option.bind_eq_some_iff.mp H
 obtain ⟨t246, A30, H⟩ := H
 replace H : (if t246 < 0 then (some true) else ((laws_szEventS.f k l1 t246).bind fun t247 => (if t247 < 0 then (some true) else ((laws_toEventS.f k l0).bind fun t248 => ((laws_toEventS.f k l1).bind fun t251 => ((spec_MergeEvents.f k t248 t251).bind fun bt254 => ((laws_toEventS.f k l0).bind fun t258 => ((laws_toEventS.f k l1).bind fun t261 => ((impl_MergeEvents.f k t258 t261).bind fun bt264 => ((laws_eqEventS.f k bt264.1 bt254.1).bind fun t268 => (if t268 = true then (laws_FnExactMergeEvents.j0 k l0 l1 bt254.1 bt254.2 t258 t261 bt264.1 bt264.2 (bt264.2 != bt254.2)) else (laws_FnExactMergeEvents.j0 k l0 l1 bt254.1 bt254.2 t258 t261 bt264.1 bt264.2 true)))))))))))) = some r := H
 have A3 := Aside0.mk A30
 clear A30
 by_cases c4 : t246 < 0
 ·rw [if_pos c4] at H
  have c4b0 : decide (t246 < 0) = true := decide_eq_true c4
  clear c4
  obtain rfl := Option.some.inj H
  go_enter Try.func5, Try.ntmps5
  go_wp2_with (first | ((with_reducible refine gate_callee (f := 6) rfl ?_); refine goesL_ (some 19) rfl rfl Try.func6 (by kernel_rfl) rfl #[.slice A0 l0.length c0, .int .i64 1048576] rfl (by (try simp only [List.map_toArray, List.map_cons, List.map_nil]); first | done | rfl | (simp only [List.length_drop, List.length_take]; rfl)) ?_; (with_reducible refine (laws_szEventS.calls k _ _ l0 1048576 t246 _ ?side1 ?side2 A3.out).mono ?_); (case side1 => repeat (first | exact HR0.out | (with_reducible refine Kd.C_alloc ?_ _) | (with_reducible refine Kd.C_drewN ?_ _) | (with_reducible refine Kd.C_drew ?_))); (case side2 => exact HC0.out); rintro e w5 ⟨rfl, hb⟩; refine ⟨_, rfl, ?_⟩; have n0_ := Aside0.mk (below_step bl_ hb); clear HB; have HB := n0_; clear n0_; (try clear hb); (try clear hb2); (try clear hk); (try clear hi)))
  go_ret
  exact ⟨by first | rfl | (simp [errW_none, errW_some] <;> rfl) | (simp [*, errW_none, errW_some] <;> rfl), by repeat (first | (with_reducible first | exact HB.out | apply below_alloc | apply pw_below_drewN | apply below_drew1) | exact HB.out)⟩
 rw [if_neg c4] at H
 have c4b0 : decide (t246 < 0) = false := decide_eq_false c4
 clear c4
 replace H := Option.bind_eq_some_iff.mp H
 obtain ⟨t247, A60, H⟩ := H
 replace H : (if t247 < 0 then (some true) else ((laws_toEventS.f k l0).bind fun t248 => ((laws_toEventS.f k l1).bind fun t251 => ((spec_MergeEvents.f k t248 t251).bind fun bt254 => ((laws_toEventS.f k l0).bind fun t258 => ((laws_toEventS.f k l1).bind fun t261 => ((impl_MergeEvents.f k t258 t261).bind fun bt264 => ((laws_eqEventS.f k bt264.1 bt254.1).bind fun t268 => (if t268 = true then (laws_FnExactMergeEvents.j0 k l0 l1 bt254.1 bt254.2 t258 t261 bt264.1 bt264.2 (bt264.2 != bt254.2)) else (laws_FnExactMergeEvents.j0 k l0 l1 bt254.1 bt254.2 t258 t261 bt264.1 bt264.2 true)))))))))) = some r := H
 have A6 := Aside0.mk A60
 clear A60
 by_cases c7 : t247 < 0
 ·rw [if_pos c7] at H
  have c7b0 : decide (t247 < 0) = true := decide_eq_true c7
  clear c7
  obtain rfl := Option.some.inj H
  go_enter Try.func5, Try.ntmps5
  go_wp2_with (first | ((with_reducible refine gate_callee (f := 6) rfl ?_); refine goesL_ (some 19) rfl rfl Try.func6 (by kernel_rfl) rfl #[.slice A0 l0.length c0, .int .i64 1048576] rfl (by (try simp only [List.map_toArray, List.map_cons, List.map_nil]); first | done | rfl | (simp only [List.length_drop, List.length_take]; rfl)) ?_; (with_reducible refine (laws_szEventS.calls k _ _ l0 1048576 t246 _ ?side1 ?side2 A3.out).mono ?_); (case side1 => repeat (first | exact HR0.out | (with_reducible refine Kd.C_alloc ?_ _) | (with_reducible refine Kd.C_drewN ?_ _) | (with_reducible refine Kd.C_drew ?_))); (case side2 => exact HC0.out); rintro e w8 ⟨rfl, hb⟩; refine ⟨_, rfl, ?_⟩; have n0_ := Aside0.mk (below_step bl_ hb); clear HB; have HB := n0_; clear n0_; (try clear hb); (try clear hb2); (try clear hk); (try clear hi)) | ((with_reducible refine gate_callee (f := 6) rfl ?_); refine goesL_ (some 24) rfl rfl Try.func6 (by kernel_rfl) rfl #[.slice A1 l1.length c1, .int .i64 t246] rfl (by (try simp only [List.map_toArray, List.map_cons, List.map_nil]); first | done | rfl | (simp only [List.length_drop, List.length_take]; rfl)) ?_; (with_reducible refine (laws_szEventS.calls k _ _ l1 t246 t247 _ ?side1 ?side2 A6.out).mono ?_); (case side1 => repeat (first | exact (Kd.C_below HR1.out HB.out) | (with_reducible refine Kd.C_alloc ?_ _) | (with_reducible refine Kd.C_drewN ?_ _) | (with_reducible refine Kd.C_drew ?_))); (case side2 => exact HC1.out); rintro e w9 ⟨rfl, hb⟩; refine ⟨_, rfl, ?_⟩; have n0_ := Aside0.mk (below_step bl_ hb); clear HB; have HB := n0_; clear n0_; (try clear hb); (try clear hb2); (try clear hk); (try clear hi)))
  go_ret
  exact ⟨by first | rfl | (simp [errW_none, errW_some] <;> rfl) | (simp [*, errW_none, errW_some] <;> rfl), by repeat (first | (with_reducible first | exact HB.out | apply below_alloc | apply pw_below_drewN | apply below_drew1) | exact HB.out)⟩
 rw [if_neg c7] at H
 have c7b0 : decide (t247 < 0) = false := decide_eq_false c7
 clear c7
 replace H := Option.bind_eq_some_iff.mp H
 obtain ⟨t248, A100, H⟩ := H
 replace H : ((laws_toEventS.f k l1).bind fun t251 => ((spec_MergeEvents.f k t248 t251).bind fun bt254 => ((laws_toEventS.f k l0).bind fun t258 => ((laws_toEventS.f k l1).bind fun t261 => ((impl_MergeEvents.f k t258 t261).bind fun bt264 => ((laws_eqEventS.f k bt264.1 bt254.1).bind fun t268 => (if t268 = true then (laws_FnExactMergeEvents.j0 k l0 l1 bt254.1 bt254.2 t258 t261 bt264.1 bt264.2 (bt264.2 != bt254.2)) else (laws_FnExactMergeEvents.j0 k l0 l1 bt254.1 bt254.2 t258 t261 bt264.1 bt264.2 true)))))))) = some r := H
 have A10 := Aside0.mk A100
 clear A100
 replace H := Option.bind_eq_some_iff.mp H
 obtain ⟨t251, A110, H⟩ := H
 replace H : ((spec_MergeEvents.f k t248 t251).bind fun bt254 => ((laws_toEventS.f k l0).bind fun t258 => ((laws_toEventS.f k l1).bind fun t261 => ((impl_MergeEvents.f k t258 t261).bind fun bt264 => ((laws_eqEventS.f k bt264.1 bt254.1).bind fun t268 => (if t268 = true then (laws_FnExactMergeEvents.j0 k l0 l1 bt254.1 bt254.2 t258 t261 bt264.1 bt264.2 (bt264.2 != bt254.2)) else (laws_FnExactMergeEvents.j0 k l0 l1 bt254.1 bt254.2 t258 t261 bt264.1 bt264.2 true))))))) = some r := H
 have A11 := Aside0.mk A110
 clear A110
 replace H := Option.bind_eq_some_iff.mp H
 obtain ⟨⟨t254, t255⟩, A120, H⟩ := H
 replace H : ((laws_toEventS.f k l0).bind fun t258 => ((laws_toEventS.f k l1).bind fun t261 => ((impl_MergeEvents.f k t258 t261).bind fun bt264 => ((laws_eqEventS.f k bt264.1 t254).bind fun t268 => (if t268 = true then (laws_FnExactMergeEvents.j0 k l0 l1 t254 t255 t258 t261 bt264.1 bt264.2 (bt264.2 != t255)) else (laws_FnExactMergeEvents.j0 k l0 l1 t254 t255 t258 t261 bt264.1 bt264.2 true)))))) = some r := H
 have A12 := Aside0.mk A120
 clear A120
 replace H := Option.bind_eq_some_iff.mp H
 obtain ⟨t258, A130, H⟩ := H
 replace H : ((laws_toEventS.f k l1).bind fun t261 => ((impl_MergeEvents.f k t258 t261).bind fun bt264 => ((laws_eqEventS.f k bt264.1 t254).bind fun t268 => (if t268 = true then (laws_FnExactMergeEvents.j0 k l0 l1 t254 t255 t258 t261 bt264.1 bt264.2 (bt264.2 != t255)) else (laws_FnExactMergeEvents.j0 k l0 l1 t254 t255 t258 t261 bt264.1 bt264.2 true))))) = some r := H
 have A13 := Aside0.mk A130
 clear A130
 replace H := Option.bind_eq_some_iff.mp H
 obtain ⟨t261, A140, H⟩ := H
 replace H : ((impl_MergeEvents.f k t258 t261).bind fun bt264 => ((laws_eqEventS.f k bt264.1 t254).bind fun t268 => (if t268 = true then (laws_FnExactMergeEvents.j0 k l0 l1 t254 t255 t258 t261 bt264.1 bt264.2 (bt264.2 != t255)) else (laws_FnExactMergeEvents.j0 k l0 l1 t254 t255 t258 t261 bt264.1 bt264.2 true)))) = some r := H
 have A14 := Aside0.mk A140
 clear A140
 replace H := Option.bind_eq_some_iff.mp H
 obtain ⟨⟨t264, t265⟩, A150, H⟩ := H
 replace H : ((laws_eqEventS.f k t264 t254).bind fun t268 => (if t268 = true then (laws_FnExactMergeEvents.j0 k l0 l1 t254 t255 t258 t261 t264 t265 (t265 != t255)) else (laws_FnExactMergeEvents.j0 k l0 l1 t254 t255 t258 t261 t264 t265 true))) = some r := H
 have A15 := Aside0.mk A150
 clear A150
 have HC16 := Aside0.mk H
 clear H
 go_enter Try.func5, Try.ntmps5
 go_upto_region 12 with (first | ((with_reducible refine gate_callee (f := 6) rfl ?_); refine goesL_ (some 19) rfl rfl Try.func6 (by kernel_rfl) rfl #[.slice A0 l0.length c0, .int .i64 1048576] rfl (by (try simp only [List.map_toArray, List.map_cons, List.map_nil]); first | done | rfl | (simp only [List.length_drop, List.length_take]; rfl)) ?_; (with_reducible refine (laws_szEventS.calls k _ _ l0 1048576 t246 _ ?side1 ?side2 A3.out).mono ?_); (case side1 => repeat (first | exact HR0.out | (with_reducible refine Kd.C_alloc ?_ _) | (with_reducible refine Kd.C_drewN ?_ _) | (with_reducible refine Kd.C_drew ?_))); (case side2 => exact HC0.out); rintro e w17 ⟨rfl, hb⟩; refine ⟨_, rfl, ?_⟩; have n0_ := Aside0.mk (below_step bl_ hb); clear HB; have HB := n0_; clear n0_; (try clear hb); (try clear hb2); (try clear hk); (try clear hi)) | ((with_reducible refine gate_callee (f := 6) rfl ?_); refine goesL_ (some 24) rfl rfl Try.func6 (by kernel_rfl) rfl #[.slice A1 l1.length c1, .int .i64 t246] rfl (by (try simp only [List.map_toArray, List.map_cons, List.map_nil]); first | done | rfl | (simp only [List.length_drop, List.length_take]; rfl)) ?_; (with_reducible refine (laws_szEventS.calls k _ _ l1 t246 t247 _ ?side1 ?side2 A6.out).mono ?_); (case side1 => repeat (first | exact (Kd.C_below HR1.out HB.out) | (with_reducible refine Kd.C_alloc ?_ _) | (with_reducible refine Kd.C_drewN ?_ _) | (with_reducible refine Kd.C_drew ?_))); (case side2 => exact HC1.out); rintro e w18 ⟨rfl, hb⟩; refine ⟨_, rfl, ?_⟩; have n0_ := Aside0.mk (below_step bl_ hb); clear HB; have HB := n0_; clear n0_; (try clear hb); (try clear hb2); (try clear hk); (try clear hi)) | ((with_reducible refine gate_callee (f := 8) rfl ?_); refine goesL_ (some 29) rfl rfl Try.func8 (by kernel_rfl) rfl #[.slice A0 l0.length c0] rfl (by (try simp only [List.map_toArray, List.map_cons, List.map_nil]); first | done | rfl | (simp only [List.length_drop, List.length_take]; rfl)) ?_; (with_reducible refine (laws_toEventS.calls k _ _ l0 t248 _ ?side1 ?side2 A10.out).mono ?_); (case side1 => repeat (first | exact (Kd.C_below HR0.out HB.out) | (with_reducible refine Kd.C_alloc ?_ _) | (with_reducible refine Kd.C_drewN ?_ _) | (with_reducible refine Kd.C_drew ?_))); (case side2 => exact HC0.out); rintro e w19 ⟨v249, rfl, ho0, hb⟩; refine ⟨_, rfl, ?_⟩; have n0_ := Aside0.mk (Kd.R_lower ho0 (below_size bl_)); have n1_ := Aside0.mk (below_step bl_ hb); clear HB; have HO250 := n0_; have HB := n1_; clear n0_ n1_; (try clear hb); (try clear hb2); (try clear hk); (try clear hi); (try clear ho0)) | ((with_reducible refine gate_callee (f := 8) rfl ?_); refine goesL_ (some 31) rfl rfl Try.func8 (by kernel_rfl) rfl #[.slice A1 l1.length c1] rfl (by (try simp only [List.map_toArray, List.map_cons, List.map_nil]); first | done | rfl | (simp only [List.length_drop, List.length_take]; rfl)) ?_; (with_reducible refine (laws_toEventS.calls k _ _ l1 t251 _ ?side1 ?side2 A11.out).mono ?_); (case side1 => repeat (first | exact (Kd.C_below HR1.out HB.out) | (with_reducible refine Kd.C_alloc ?_ _) | (with_reducible refine Kd.C_drewN ?_ _) | (with_reducible refine Kd.C_drew ?_))); (case side2 => exact HC1.out); rintro e w20 ⟨v252, rfl, ho0, hb⟩; refine ⟨_, rfl, ?_⟩; have n0_ := Aside0.mk (Kd.R_elder' (by (with_reducible repeat (first | apply Kd.R_alloc | apply Kd.R_drewN | apply Kd.R_drew)); exact HO250.out) (Kd.R_base ho0) hb); have n1_ := Aside0.mk (Kd.R_lower (Kd.R_new' ho0 (Kd.R_lt (by (with_reducible repeat (first | apply Kd.R_alloc | apply Kd.R_drewN | apply Kd.R_drew)); exact HO250.out))) (below_size bl_)); have n2_ := Aside0.mk (below_step bl_ hb); clear HO250; clear HB; have HO250 := n0_; have HO253 := n1_; have HB := n2_; clear n0_ n1_ n2_; (try clear hb); (try clear hb2); (try clear hk); (try clear hi); (try clear ho0); obtain ⟨Ao21, co21, eo21⟩ := Kd.R_slice HO250.out; subst eo21; obtain ⟨Ao22, co22, eo22⟩ := Kd.R_slice HO253.out; subst eo22) | ((with_reducible refine gate_callee (f := 13) rfl ?_); refine goesL_ (some 32) rfl rfl Try.func13 (by kernel_rfl) rfl #[.slice Ao21 t248.length co21, .slice Ao22 t251.length co22] rfl (by (try simp only [List.map_toArray, List.map_cons, List.map_nil]); first | done | rfl | (simp only [List.length_drop, List.length_take]; rfl)) ?_; (with_reducible refine (spec_MergeEvents.calls k _ _ t248 _ _ t251 t254 t255 _ ?side1 ?side2 ?side3 ?side4 A12.out).mono ?_); (case side1 => repeat (first | exact (Kd.R_reads' HO250.out).2.2 | (with_reducible refine Kd.C_alloc ?_ _) | (with_reducible refine Kd.C_drewN ?_ _) | (with_reducible refine Kd.C_drew ?_))); (case side2 => exact (Kd.R_reads' HO250.out).2.1); (case side3 => repeat (first | exact (Kd.R_reads' HO253.out).2.2 | (with_reducible refine Kd.C_alloc ?_ _) | (with_reducible refine Kd.C_drewN ?_ _) | (with_reducible refine Kd.C_drew ?_))); (case side4 => exact (Kd.R_reads' HO253.out).2.1); rintro e w23 ⟨v256, rfl, ho0, hb⟩; refine ⟨_, rfl, ?_⟩; have n0_ := Aside0.mk (Kd.R_elder' (by (with_reducible repeat (first | apply Kd.R_alloc | apply Kd.R_drewN | apply Kd.R_drew)); exact HO250.out) (Kd.R_base ho0) hb); have n1_ := Aside0.mk (Kd.R_elder' (by (with_reducible repeat (first | apply Kd.R_alloc | apply Kd.R_drewN | apply Kd.R_drew)); exact HO253.out) (Kd.R_base ho0) hb); have n2_ := Aside0.mk (Kd.R_lower (Kd.R_new' (Kd.R_new' ho0 (Kd.R_lt (by (with_reducible repeat (first | apply Kd.R_alloc | apply Kd.R_drewN | apply Kd.R_drew)); exact HO250.out))) (Kd.R_lt (by (with_reducible repeat (first | apply Kd.R_alloc | apply Kd.R_drewN | apply Kd.R_drew)); exact HO253.out))) (below_size bl_)); have n3_ := Aside0.mk (below_step bl_ hb); clear HO250; clear HO253; clear HB; have HO250 := n0_; have HO253 := n1_; have HO257 := n2_; have HB := n3_; clear n0_ n1_ n2_ n3_; (try clear hb); (try clear hb2); (try clear hk); (try clear hi); (try clear ho0)) | ((with_reducible refine gate_callee (f := 8) rfl ?_); refine goesL_ (some 36) rfl rfl Try.func8 (by kernel_rfl) rfl #[.slice A0 l0.length c0] rfl (by (try simp only [List.map_toArray, List.map_cons, List.map_nil]); first | done | rfl | (simp only [List.length_drop, List.length_take]; rfl)) ?_; (with_reducible refine (laws_toEventS.calls k _ _ l0 t258 _ ?side1 ?side2 A13.out).mono ?_); (case side1 => repeat (first | exact (Kd.C_below HR0.out HB.out) | (with_reducible refine Kd.C_alloc ?_ _) | (with_reducible refine Kd.C_drewN ?_ _) | (with_reducible refine Kd.C_drew ?_))); (case side2 => exact HC0.out); rintro e w24 ⟨v259, rfl, ho0, hb⟩; refine ⟨_, rfl, ?_⟩; have n0_ := Aside0.mk (Kd.R_elder' (by (with_reducible repeat (first | apply Kd.R_alloc | apply Kd.R_drewN | apply Kd.R_drew)); exact HO250.out) (Kd.R_base ho0) hb); have n1_ := Aside0.mk (Kd.R_elder' (by (with_reducible repeat (first | apply Kd.R_alloc | apply Kd.R_drewN | apply Kd.R_drew)); exact HO253.out) (Kd.R_base ho0) hb); have n2_ := Aside0.mk (Kd.R_elder' (by (with_reducible repeat (first | apply Kd.R_alloc | apply Kd.R_drewN | apply Kd.R_drew)); exact HO257.out) (Kd.R_base ho0) hb); have n3_ := Aside0.mk (Kd.R_lower (Kd.R_new' (Kd.R_new' (Kd.R_new' ho0 (Kd.R_lt (by (with_reducible repeat (first | apply Kd.R_alloc | apply Kd.R_drewN | apply Kd.R_drew)); exact HO250.out))) (Kd.R_lt (by (with_reducible repeat (first | apply Kd.R_alloc | apply Kd.R_drewN | apply Kd.R_drew)); exact HO253.out))) (Kd.R_lt (by (with_reducible repeat (first | apply Kd.R_alloc | apply Kd.R_drewN | apply Kd.R_drew)); exact HO257.out))) (below_size bl_)); have n4_ := Aside0.mk (below_step bl_ hb); clear HO250; clear HO253; clear HO257; clear HB; have HO250 := n0_; have HO253 := n1_; have HO257 := n2_; have HO260 := n3_; have HB := n4_; clear n0_ n1_ n2_ n3_ n4_; (try clear hb); (try clear hb2); (try clear hk); (try clear hi); (try clear ho0)) | ((with_reducible refine gate_callee (f := 8) rfl ?_); refine goesL_ (some 38) rfl rfl Try.func8 (by kernel_rfl) rfl #[.slice A1 l1.length c1] rfl (by (try simp only [List.map_toArray, List.map_cons, List.map_nil]); first | done | rfl | (simp only [List.length_drop, List.length_take]; rfl)) ?_; (with_reducible refine (laws_toEventS.calls k _ _ l1 t261 _ ?side1 ?side2 A14.out).mono ?_); (case side1 => repeat (first | exact (Kd.C_below HR1.out HB.out) | (with_reducible refine Kd.C_alloc ?_ _) | (with_reducible refine Kd.C_drewN ?_ _) | (with_reducible refine Kd.C_drew ?_))); (case side2 => exact HC1.out); rintro e w25 ⟨v262, rfl, ho0, hb⟩; refine ⟨_, rfl, ?_⟩; have n0_ := Aside0.mk (Kd.R_elder' (by (with_reducible repeat (first | apply Kd.R_alloc | apply Kd.R_drewN | apply Kd.R_drew)); exact HO250.out) (Kd.R_base ho0) hb); have n1_ := Aside0.mk (Kd.R_elder' (by (with_reducible repeat (first | apply Kd.R_alloc | apply Kd.R_drewN | apply Kd.R_drew)); exact HO253.out) (Kd.R_base ho0) hb); have n2_ := Aside0.mk (Kd.R_elder' (by (with_reducible repeat (first | apply Kd.R_alloc | apply Kd.R_drewN | apply Kd.R_drew)); exact HO257.out) (Kd.R_base ho0) hb); have n3_ := Aside0.mk (Kd.R_elder' (by (with_reducible repeat (first | apply Kd.R_alloc | apply Kd.R_drewN | apply Kd.R_drew)); exact HO260.out) (Kd.R_base ho0) hb); have n4_ := Aside0.mk (Kd.R_lower (Kd.R_new' (Kd.R_new' (Kd.R_new' (Kd.R_new' ho0 (Kd.R_lt (by (with_reducible repeat (first | apply Kd.R_alloc | apply Kd.R_drewN | apply Kd.R_drew)); exact HO250.out))) (Kd.R_lt (by (with_reducible repeat (first | apply Kd.R_alloc | apply Kd.R_drewN | apply Kd.R_drew)); exact HO253.out))) (Kd.R_lt (by (with_reducible repeat (first | apply Kd.R_alloc | apply Kd.R_drewN | apply Kd.R_drew)); exact HO257.out))) (Kd.R_lt (by (with_reducible repeat (first | apply Kd.R_alloc | apply Kd.R_drewN | apply Kd.R_drew)); exact HO260.out))) (below_size bl_)); have n5_ := Aside0.mk (below_step bl_ hb); clear HO250; clear HO253; clear HO257; clear HO260; clear HB; have HO250 := n0_; have HO253 := n1_; have HO257 := n2_; have HO260 := n3_; have HO263 := n4_; have HB := n5_; clear n0_ n1_ n2_ n3_ n4_ n5_; (try clear hb); (try clear hb2); (try clear hk); (try clear hi); (try clear ho0); obtain ⟨Ao26, co26, eo26⟩ := Kd.R_slice HO260.out; subst eo26; obtain ⟨Ao27, co27, eo27⟩ := Kd.R_slice HO263.out; subst eo27) | ((with_reducible refine gate_callee (f := 14) rfl ?_); refine goesL_ (some 42) rfl rfl Try.func14 (by kernel_rfl) rfl #[.slice Ao26 t258.length co26, .slice Ao27 t261.length co27] rfl (by (try simp only [List.map_toArray, List.map_cons, List.map_nil]); first | done | rfl | (simp only [List.length_drop, List.length_take]; rfl)) ?_; (with_reducible refine (impl_MergeEvents.calls k _ _ t258 _ _ t261 t264 t265 _ ?side1 ?side2 ?side3 ?side4 A15.out).mono ?_); (case side1 => repeat (first | exact (Kd.R_reads' HO260.out).2.2 | (with_reducible refine Kd.C_alloc ?_ _) | (with_reducible refine Kd.C_drewN ?_ _) | (with_reducible refine Kd.C_drew ?_))); (case side2 => exact (Kd.R_reads' HO260.out).2.1); (case side3 => repeat (first | exact (Kd.R_reads' HO263.out).2.2 | (with_reducible refine Kd.C_alloc ?_ _) | (with_reducible refine Kd.C_drewN ?_ _) | (with_reducible refine Kd.C_drew ?_))); (case side4 => exact (Kd.R_reads' HO263.out).2.1); rintro e w28 ⟨v266, rfl, ho0, hb⟩; refine ⟨_, rfl, ?_⟩; have n0_ := Aside0.mk (Kd.R_elder' (by (with_reducible repeat (first | apply Kd.R_alloc | apply Kd.R_drewN | apply Kd.R_drew)); exact HO250.out) (Kd.R_base ho0) hb); have n1_ := Aside0.mk (Kd.R_elder' (by (with_reducible repeat (first | apply Kd.R_alloc | apply Kd.R_drewN | apply Kd.R_drew)); exact HO253.out) (Kd.R_base ho0) hb); have n2_ := Aside0.mk (Kd.R_elder' (by (with_reducible repeat (first | apply Kd.R_alloc | apply Kd.R_drewN | apply Kd.R_drew)); exact HO257.out) (Kd.R_base ho0) hb); have n3_ := Aside0.mk (Kd.R_elder' (by (with_reducible repeat (first | apply Kd.R_alloc | apply Kd.R_drewN | apply Kd.R_drew)); exact HO260.out) (Kd.R_base ho0) hb); have n4_ := Aside0.mk (Kd.R_elder' (by (with_reducible repeat (first | apply Kd.R_alloc | apply Kd.R_drewN | apply Kd.R_drew)); exact HO263.out) (Kd.R_base ho0) hb); have n5_ := Aside0.mk (Kd.R_lower (Kd.R_new' (Kd.R_new' (Kd.R_new' (Kd.R_new' (Kd.R_new' ho0 (Kd.R_lt (by (with_reducible repeat (first | apply Kd.R_alloc | apply Kd.R_drewN | apply Kd.R_drew)); exact HO250.out))) (Kd.R_lt (by (with_reducible repeat (first | apply Kd.R_alloc | apply Kd.R_drewN | apply Kd.R_drew)); exact HO253.out))) (Kd.R_lt (by (with_reducible repeat (first | apply Kd.R_alloc | apply Kd.R_drewN | apply Kd.R_drew)); exact HO257.out))) (Kd.R_lt (by (with_reducible repeat (first | apply Kd.R_alloc | apply Kd.R_drewN | apply Kd.R_drew)); exact HO260.out))) (Kd.R_lt (by (with_reducible repeat (first | apply Kd.R_alloc | apply Kd.R_drewN | apply Kd.R_drew)); exact HO263.out))) (below_size bl_)); have n6_ := Aside0.mk (below_step bl_ hb); clear HO250; clear HO253; clear HO257; clear HO260; clear HO263; clear HB; have HO250 := n0_; have HO253 := n1_; have HO257 := n2_; have HO260 := n3_; have HO263 := n4_; have HO267 := n5_; have HB := n6_; clear n0_ n1_ n2_ n3_ n4_ n5_ n6_; (try clear hb); (try clear hb2); (try clear hk); (try clear hi); (try clear ho0)))
 (try simp only [Act.put, List.setIfInBounds_toArray, List.set_cons_zero, List.set_cons_succ])
 go_cut [53] (fun v53 wc => ∃ (kq : Nat) (x53_15 : Bool), v53 = .bool x53_15 ∧ Aside0 (laws_FnExactMergeEvents.j0 kq l0 l1 t254 t255 t258 t261 t264 t265 x53_15 = some r) ∧ Aside0 (kq ≤ k) ∧ Aside0 (Kd.R k40 40 wc w.heap.size (fun k_ => some k_ ≠ ((.slice Ao26 t258.length co26) : Value).ownBlock ∧ some k_ ≠ ((.slice Ao27 t261.length co27) : Value).ownBlock ∧ some k_ ≠ (v266 : Value).ownBlock) v256 t254) ∧ Aside0 (Kd.R k40 40 wc w.heap.size (fun k_ => some k_ ≠ (v256 : Value).ownBlock ∧ some k_ ≠ ((.slice Ao27 t261.length co27) : Value).ownBlock ∧ some k_ ≠ (v266 : Value).ownBlock) (.slice Ao26 t258.length co26) t258) ∧ Aside0 (Kd.R k40 40 wc w.heap.size (fun k_ => some k_ ≠ (v256 : Value).ownBlock ∧ some k_ ≠ ((.slice Ao26 t258.length co26) : Value).ownBlock ∧ some k_ ≠ (v266 : Value).ownBlock) (.slice Ao27 t261.length co27) t261) ∧ Aside0 (Kd.R k40 40 wc w.heap.size (fun k_ => some k_ ≠ (v256 : Value).ownBlock ∧ some k_ ≠ ((.slice Ao26 t258.length co26) : Value).ownBlock ∧ some k_ ≠ ((.slice Ao27 t261.length co27) : Value).ownBlock) v266 t264) ∧ Aside0 (Below w.heap.size w wc))
 case first =>
  have H := HC16.out
  clear HC16
  replace H := Option.bind_eq_some_iff.mp H
  obtain ⟨t268, A290, H⟩ := H
  replace H : (if t268 = true then (laws_FnExactMergeEvents.j0 k l0 l1 t254 t255 t258 t261 t264 t265 (t265 != t255)) else (laws_FnExactMergeEvents.j0 k l0 l1 t254 t255 t258 t261 t264 t265 true)) = some r := H
  have A29 := Aside0.mk A290
  clear A290
  by_cases c30 : t268 = true
  ·subst c30
   have H1 : (laws_FnExactMergeEvents.j0 k l0 l1 t254 t255 t258 t261 t264 t265 (t265 != t255)) = some r := by rw [if_pos rfl] at H; exact H
   clear H
   have H := H1
   clear H1
   have H' := Aside0.mk H
   clear H
   obtain ⟨Ao31, co31, eo31⟩ := Kd.R_slice HO267.out
   subst eo31
   obtain ⟨Ao32, co32, eo32⟩ := Kd.R_slice HO257.out
   subst eo32
   go_wp2_with (first | ((with_reducible refine gate_callee (f := 10) rfl ?_); refine goesL_ (some 47) rfl rfl Try.func10 (by kernel_rfl) rfl #[.slice Ao31 t264.length co31, .slice Ao32 t254.length co32] rfl (by (try simp only [List.map_toArray, List.map_cons, List.map_nil]); first | done | rfl | (simp only [List.length_drop, List.length_take]; rfl)) ?_; (with_reducible refine (laws_eqEventS.calls k _ _ t264 _ _ t254 true _ ?side1 ?side2 ?side3 ?side4 A29.out).mono ?_); (case side1 => repeat (first | exact (Kd.R_reads' HO267.out).2.2 | (with_reducible refine Kd.C_alloc ?_ _) | (with_reducible refine Kd.C_drewN ?_ _) | (with_reducible refine Kd.C_drew ?_))); (case side2 => exact (Kd.R_reads' HO267.out).2.1); (case side3 => repeat (first | exact (Kd.R_reads' HO257.out).2.2 | (with_reducible refine Kd.C_alloc ?_ _) | (with_reducible refine Kd.C_drewN ?_ _) | (with_reducible refine Kd.C_drew ?_))); (case side4 => exact (Kd.R_reads' HO257.out).2.1); rintro e w33 ⟨rfl, hb⟩; refine ⟨_, rfl, ?_⟩; have n0_ := Aside0.mk (Kd.R_below (by (with_reducible repeat (first | apply Kd.R_alloc | apply Kd.R_drewN | apply Kd.R_drew)); exact HO250.out) hb); have n1_ := Aside0.mk (Kd.R_below (by (with_reducible repeat (first | apply Kd.R_alloc | apply Kd.R_drewN | apply Kd.R_drew)); exact HO253.out) hb); have n2_ := Aside0.mk (Kd.R_below (by (with_reducible repeat (first | apply Kd.R_alloc | apply Kd.R_drewN | apply Kd.R_drew)); exact HO257.out) hb); have n3_ := Aside0.mk (Kd.R_below (by (with_reducible repeat (first | apply Kd.R_alloc | apply Kd.R_drewN | apply Kd.R_drew)); exact HO260.out) hb); have n4_ := Aside0.mk (Kd.R_below (by (with_reducible repeat (first | apply Kd.R_alloc | apply Kd.R_drewN | apply Kd.R_drew)); exact HO263.out) hb); have n5_ := Aside0.mk (Kd.R_below (by (with_reducible repeat (first | apply Kd.R_alloc | apply Kd.R_drewN | apply Kd.R_drew)); exact HO267.out) hb); have n6_ := Aside0.mk (below_step bl_ hb); clear HO250; clear HO253; clear HO257; clear HO260; clear HO263; clear HO267; clear HB; have HO250 := n0_; have HO253 := n1_; have HO257 := n2_; have HO260 := n3_; have HO263 := n4_; have HO267 := n5_; have HB := n6_; clear n0_ n1_ n2_ n3_ n4_ n5_ n6_; (try clear hb); (try clear hb2); (try clear hk); (try clear hi)))
   go_meet
   case rel => exact ⟨_, ((t265 != t255)), (by first | rfl | (simp; done) | (simp [*]; done)), H', ⟨by first | omega | exact Nat.le_refl _⟩, ⟨by (with_reducible repeat (first | apply Kd.R_alloc | apply Kd.R_drewN | apply Kd.R_drew)); exact Kd.R_mono HO257.out (fun _ hk => ⟨hk.1.1.2, ⟨hk.1.2, hk.2⟩⟩)⟩, ⟨by (with_reducible repeat (first | apply Kd.R_alloc | apply Kd.R_drewN | apply Kd.R_drew)); exact Kd.R_mono HO260.out (fun _ hk => ⟨hk.1.1.2, ⟨hk.1.2, hk.2⟩⟩)⟩, ⟨by (with_reducible repeat (first | apply Kd.R_alloc | apply Kd.R_drewN | apply Kd.R_drew)); exact Kd.R_mono HO263.out (fun _ hk => ⟨hk.1.1.2, ⟨hk.1.2, hk.2⟩⟩)⟩, ⟨by (with_reducible repeat (first | apply Kd.R_alloc | apply Kd.R_drewN | apply Kd.R_drew)); exact Kd.R_mono HO267.out (fun _ hk => ⟨hk.1.1.2, ⟨hk.1.2, hk.2⟩⟩)⟩, ⟨by repeat (first | (with_reducible first | exact HB.out | apply below_alloc | apply pw_below_drewN | apply below_drew1) | exact HB.out)⟩⟩
  replace c30 := Bool.eq_false_iff.mpr c30
  subst c30
  have H1 : (laws_FnExactMergeEvents.j0 k l0 l1 t254 t255 t258 t261 t264 t265 true) = some r := by rw [if_neg (show ¬ (false = true) by decide)] at H; exact H
  clear H
  have H := H1
  clear H1
  have H' := Aside0.mk H
  clear H
  obtain ⟨Ao34, co34, eo34⟩ := Kd.R_slice HO267.out
  subst eo34
  obtain ⟨Ao35, co35, eo35⟩ := Kd.R_slice HO257.out
  subst eo35
  go_wp2_with (first | ((with_reducible refine gate_callee (f := 10) rfl ?_); refine goesL_ (some 47) rfl rfl Try.func10 (by kernel_rfl) rfl #[.slice Ao34 t264.length co34, .slice Ao35 t254.length co35] rfl (by (try simp only [List.map_toArray, List.map_cons, List.map_nil]); first | done | rfl | (simp only [List.length_drop, List.length_take]; rfl)) ?_; (with_reducible refine (laws_eqEventS.calls k _ _ t264 _ _ t254 false _ ?side1 ?side2 ?side3 ?side4 A29.out).mono ?_); (case side1 => repeat (first | exact (Kd.R_reads' HO267.out).2.2 | (with_reducible refine Kd.C_alloc ?_ _) | (with_reducible refine Kd.C_drewN ?_ _) | (with_reducible refine Kd.C_drew ?_))); (case side2 => exact (Kd.R_reads' HO267.out).2.1); (case side3 => repeat (first | exact (Kd.R_reads' HO257.out).2.2 | (with_reducible refine Kd.C_alloc ?_ _) | (with_reducible refine Kd.C_drewN ?_ _) | (with_reducible refine Kd.C_drew ?_))); (case side4 => exact (Kd.R_reads' HO257.out).2.1); rintro e w36 ⟨rfl, hb⟩; refine ⟨_, rfl, ?_⟩; have n0_ := Aside0.mk (Kd.R_below (by (with_reducible repeat (first | apply Kd.R_alloc | apply Kd.R_drewN | apply Kd.R_drew)); exact HO250.out) hb); have n1_ := Aside0.mk (Kd.R_below (by (with_reducible repeat (first | apply Kd.R_alloc | apply Kd.R_drewN | apply Kd.R_drew)); exact HO253.out) hb); have n2_ := Aside0.mk (Kd.R_below (by (with_reducible repeat (first | apply Kd.R_alloc | apply Kd.R_drewN | apply Kd.R_drew)); exact HO257.out) hb); have n3_ := Aside0.mk (Kd.R_below (by (with_reducible repeat (first | apply Kd.R_alloc | apply Kd.R_drewN | apply Kd.R_drew)); exact HO260.out) hb); have n4_ := Aside0.mk (Kd.R_below (by (with_reducible repeat (first | apply Kd.R_alloc | apply Kd.R_drewN | apply Kd.R_drew)); exact HO263.out) hb); have n5_ := Aside0.mk (Kd.R_below (by (with_reducible repeat (first | apply Kd.R_alloc | apply Kd.R_drewN | apply Kd.R_drew)); exact HO267.out) hb); have n6_ := Aside0.mk (below_step bl_ hb); clear HO250; clear HO253; clear HO257; clear HO260; clear HO263; clear HO267; clear HB; have HO250 := n0_; have HO253 := n1_; have HO257 := n2_; have HO260 := n3_; have HO263 := n4_; have HO267 := n5_; have HB := n6_; clear n0_ n1_ n2_ n3_ n4_ n5_ n6_; (try clear hb); (try clear hb2); (try clear hk); (try clear hi)))
  go_meet
  case rel => exact ⟨_, (true), (by first | rfl | (simp; done) | (simp [*]; done)), H', ⟨by first | omega | exact Nat.le_refl _⟩, ⟨by (with_reducible repeat (first | apply Kd.R_alloc | apply Kd.R_drewN | apply Kd.R_drew)); exact Kd.R_mono HO257.out (fun _ hk => ⟨hk.1.1.2, ⟨hk.1.2, hk.2⟩⟩)⟩, ⟨by (with_reducible repeat (first | apply Kd.R_alloc | apply Kd.R_drewN | apply Kd.R_drew)); exact Kd.R_mono HO260.out (fun _ hk => ⟨hk.1.1.2, ⟨hk.1.2, hk.2⟩⟩)⟩, ⟨by (with_reducible repeat (first | apply Kd.R_alloc | apply Kd.R_drewN | apply Kd.R_drew)); exact Kd.R_mono HO263.out (fun _ hk => ⟨hk.1.1.2, ⟨hk.1.2, hk.2⟩⟩)⟩, ⟨by (with_reducible repeat (first | apply Kd.R_alloc | apply Kd.R_drewN | apply Kd.R_drew)); exact Kd.R_mono HO267.out (fun _ hk => ⟨hk.1.1.2, ⟨hk.1.2, hk.2⟩⟩)⟩, ⟨by repeat (first | (with_reducible first | exact HB.out | apply below_alloc | apply pw_below_drewN | apply below_drew1) | exact HB.out)⟩⟩
 case rest =>
  clear HC16
  (try clear c1); (try clear p2); (try clear c3); (try clear c4); (try clear c4b0); (try clear c5); (try clear c6); (try clear c7); (try clear c7b0); (try clear c8); (try clear c10); (try clear c13); (try clear c14); (try clear c30)
  obtain ⟨kq, x53_15, rfl, HA, HJ15, HO_6, HO_8, HO_9, HO_10, HB⟩ := hcut
  cases kq with
  | zero => exact absurd HA.out (by simp [laws_FnExactMergeEvents.j0])
  | succ kj15 =>
   have H := HA.out
   clear HA
   simp only [laws_FnExactMergeEvents.j0] at H
   by_cases c37 : x53_15 = true
   ·subst c37
    have H1 : (some false) = some r := by rw [if_pos rfl] at H; exact H
    clear H
    have H := H1
    clear H1
    obtain rfl := Option.some.inj H
    exact absurd hT_.out (by decide)
   replace c37 := Bool.eq_false_iff.mpr c37
   subst c37
   have H1 : ((laws_toEventS.f kj15 l0).bind fun t269 => ((laws_eqEventS.f kj15 t258 t269).bind fun t272 => (if t272 = true then ((laws_toEventS.f kj15 l1).bind fun t273 => ((laws_eqEventS.f kj15 t261 t273).bind fun t276 => (if t276 = true then ((laws_markEventS.f kj15 t258 1).bind fun bt277 => ((laws_markEventS.f kj15 t261 bt277.1).bind fun bt279 => (if bt279.1 < 0 then (laws_FnExactMergeEvents.j1 kj15 l0 l1 t254 t255 t264 true) else ((laws_eqEventS.f kj15 t264 t254).bind fun t281 => (if t281 = true then (laws_FnExactMergeEvents.j1 kj15 l0 l1 t254 t255 t264 (t265 != t255)) else (laws_FnExactMergeEvents.j1 kj15 l0 l1 t254 t255 t264 true)))))) else (some false)))) else (some false)))) = some r := by rw [if_neg (show ¬ (false = true) by decide)] at H; exact H
   clear H
   have H := H1
   clear H1
   replace H := Option.bind_eq_some_iff.mp H
   obtain ⟨t269, A380, H⟩ := H
   replace H : ((laws_eqEventS.f kj15 t258 t269).bind fun t272 => (if t272 = true then ((laws_toEventS.f kj15 l1).bind fun t273 => ((laws_eqEventS.f kj15 t261 t273).bind fun t276 => (if t276 = true then ((laws_markEventS.f kj15 t258 1).bind fun bt277 => ((laws_markEventS.f kj15 t261 bt277.1).bind fun bt279 => (if bt279.1 < 0 then (laws_FnExactMergeEvents.j1 kj15 l0 l1 t254 t255 t264 true) else ((laws_eqEventS.f kj15 t264 t254).bind fun t281 => (if t281 = true then (laws_FnExactMergeEvents.j1 kj15 l0 l1 t254 t255 t264 (t265 != t255)) else (laws_FnExactMergeEvents.j1 kj15 l0 l1 t254 t255 t264 true)))))) else (some false)))) else (some false))) = some r := H
   have A38 := Aside0.mk A380
   clear A380
   replace H := Option.bind_eq_some_iff.mp H
   obtain ⟨t272, A390, H⟩ := H
   replace H : (if t272 = true then ((laws_toEventS.f kj15 l1).bind fun t273 => ((laws_eqEventS.f kj15 t261 t273).bind fun t276 => (if t276 = true then ((laws_markEventS.f kj15 t258 1).bind fun bt277 => ((laws_markEventS.f kj15 t261 bt277.1).bind fun bt279 => (if bt279.1 < 0 then (laws_FnExactMergeEvents.j1 kj15 l0 l1 t254 t255 t264 true) else ((laws_eqEventS.f kj15 t264 t254).bind fun t281 => (if t281 = true then (laws_FnExactMergeEvents.j1 kj15 l0 l1 t254 t255 t264 (t265 != t255)) else (laws_FnExactMergeEvents.j1 kj15 l0 l1 t254 t255 t264 true)))))) else (some false)))) else (some false)) = some r := H
   have A39 := Aside0.mk A390
   clear A390
   by_cases c40 : t272 = true
   rotate_left
   ·replace c40 := Bool.eq_false_iff.mpr c40
    subst c40
    have H1 : (some false) = some r := by rw [if_neg (show ¬ (false = true) by decide)] at H; exact H
    clear H
    have H := H1
    clear H1
    obtain rfl := Option.some.inj H
    exact absurd hT_.out (by decide)

   subst c40
   have H1 : ((laws_toEventS.f kj15 l1).bind fun t273 => ((laws_eqEventS.f kj15 t261 t273).bind fun t276 => (if t276 = true then ((laws_markEventS.f kj15 t258 1).bind fun bt277 => ((laws_markEventS.f kj15 t261 bt277.1).bind fun bt279 => (if bt279.1 < 0 then (laws_FnExactMergeEvents.j1 kj15 l0 l1 t254 t255 t264 true) else ((laws_eqEventS.f kj15 t264 t254).bind fun t281 => (if t281 = true then (laws_FnExactMergeEvents.j1 kj15 l0 l1 t254 t255 t264 (t265 != t255)) else (laws_FnExactMergeEvents.j1 kj15 l0 l1 t254 t255 t264 true)))))) else (some false)))) = some r := by rw [if_pos rfl] at H; exact H
   clear H
   have H := H1
   clear H1
   replace H := Option.bind_eq_some_iff.mp H
   obtain ⟨t273, A410, H⟩ := H
   replace H : ((laws_eqEventS.f kj15 t261 t273).bind fun t276 => (if t276 = true then ((laws_markEventS.f kj15 t258 1).bind fun bt277 => ((laws_markEventS.f kj15 t261 bt277.1).bind fun bt279 => (if bt279.1 < 0 then (laws_FnExactMergeEvents.j1 kj15 l0 l1 t254 t255 t264 true) else ((laws_eqEventS.f kj15 t264 t254).bind fun t281 => (if t281 = true then (laws_FnExactMergeEvents.j1 kj15 l0 l1 t254 t255 t264 (t265 != t255)) else (laws_FnExactMergeEvents.j1 kj15 l0 l1 t254 t255 t264 true)))))) else (some false))) = some r := H
   have A41 := Aside0.mk A410
   clear A410
   replace H := Option.bind_eq_some_iff.mp H
   obtain ⟨t276, A420, H⟩ := H
   replace H : (if t276 = true then ((laws_markEventS.f kj15 t258 1).bind fun bt277 => ((laws_markEventS.f kj15 t261 bt277.1).bind fun bt279 => (if bt279.1 < 0 then (laws_FnExactMergeEvents.j1 kj15 l0 l1 t254 t255 t264 true) else ((laws_eqEventS.f kj15 t264 t254).bind fun t281 => (if t281 = true then (laws_FnExactMergeEvents.j1 kj15 l0 l1 t254 t255 t264 (t265 != t255)) else (laws_FnExactMergeEvents.j1 kj15 l0 l1 t254 t255 t264 true)))))) else (some false)) = some r := H
   have A42 := Aside0.mk A420
   clear A420
   by_cases c43 : t276 = true
   rotate_left
   ·replace c43 := Bool.eq_false_iff.mpr c43
    subst c43
    have H1 : (some false) = some r := by rw [if_neg (show ¬ (false = true) by decide)] at H; exact H
    clear H
    have H := H1
    clear H1
    obtain rfl := Option.some.inj H
    exact absurd hT_.out (by decide)
   subst c43
   have H1 : ((laws_markEventS.f kj15 t258 1).bind fun bt277 => ((laws_markEventS.f kj15 t261 bt277.1).bind fun bt279 => (if bt279.1 < 0 then (laws_FnExactMergeEvents.j1 kj15 l0 l1 t254 t255 t264 true) else ((laws_eqEventS.f kj15 t264 t254).bind fun t281 => (if t281 = true then (laws_FnExactMergeEvents.j1 kj15 l0 l1 t254 t255 t264 (t265 != t255)) else (laws_FnExactMergeEvents.j1 kj15 l0 l1 t254 t255 t264 true)))))) = some r := by rw [if_pos rfl] at H; exact H
   clear H
   have H := H1
   clear H1
   replace H := Option.bind_eq_some_iff.mp H
   obtain ⟨⟨t277, t278⟩, A440, H⟩ := H
   replace H : ((laws_markEventS.f kj15 t261 t277).bind fun bt279 => (if bt279.1 < 0 then (laws_FnExactMergeEvents.j1 kj15 l0 l1 t254 t255 t264 true) else ((laws_eqEventS.f kj15 t264 t254).bind fun t281 => (if t281 = true then (laws_FnExactMergeEvents.j1 kj15 l0 l1 t254 t255 t264 (t265 != t255)) else (laws_FnExactMergeEvents.j1 kj15 l0 l1 t254 t255 t264 true))))) = some r := H
   have A44 := Aside0.mk A440
   clear A440
   replace H := Option.bind_eq_some_iff.mp H
   obtain ⟨⟨t279, t280⟩, A450, H⟩ := H
   replace H : (if t279 < 0 then (laws_FnExactMergeEvents.j1 kj15 l0 l1 t254 t255 t264 true) else ((laws_eqEventS.f kj15 t264 t254).bind fun t281 => (if t281 = true then (laws_FnExactMergeEvents.j1 kj15 l0 l1 t254 t255 t264 (t265 != t255)) else (laws_FnExactMergeEvents.j1 kj15 l0 l1 t254 t255 t264 true)))) = some r := H
   have A45 := Aside0.mk A450
   clear A450
   have HC46 := Aside0.mk H
   clear H
   go_upto_region 21 with (first | ((with_reducible refine gate_callee (f := 8) rfl ?_); refine goesL_ (some 56) rfl rfl Try.func8 (by kernel_rfl) rfl #[.slice A0 l0.length c0] rfl (by (try simp only [List.map_toArray, List.map_cons, List.map_nil]); first | done | rfl | (simp only [List.length_drop, List.length_take]; rfl)) ?_; (with_reducible refine (laws_toEventS.calls kj15 _ _ l0 t269 _ ?side1 ?side2 A38.out).mono ?_); (case side1 => repeat (first | exact (Kd.C_below HR0.out HB.out) | (with_reducible refine Kd.C_alloc ?_ _) | (with_reducible refine Kd.C_drewN ?_ _) | (with_reducible refine Kd.C_drew ?_))); (case side2 => exact HC0.out); rintro e w47 ⟨v270, rfl, ho0, hb⟩; refine ⟨_, rfl, ?_⟩; have n0_ := Aside0.mk (Kd.R_elder' (by (with_reducible repeat (first | apply Kd.R_alloc | apply Kd.R_drewN | apply Kd.R_drew)); exact HO_6.out) (Kd.R_base ho0) hb); have n1_ := Aside0.mk (Kd.R_elder' (by (with_reducible repeat (first | apply Kd.R_alloc | apply Kd.R_drewN | apply Kd.R_drew)); exact HO_8.out) (Kd.R_base ho0) hb); have n2_ := Aside0.mk (Kd.R_elder' (by (with_reducible repeat (first | apply Kd.R_alloc | apply Kd.R_drewN | apply Kd.R_drew)); exact HO_9.out) (Kd.R_base ho0) hb); have n3_ := Aside0.mk (Kd.R_elder' (by (with_reducible repeat (first | apply Kd.R_alloc | apply Kd.R_drewN | apply Kd.R_drew)); exact HO_10.out) (Kd.R_base ho0) hb); have n4_ := Aside0.mk (Kd.R_lower (Kd.R_new' (Kd.R_new' (Kd.R_new' (Kd.R_new' ho0 (Kd.R_lt (by (with_reducible repeat (first | apply Kd.R_alloc | apply Kd.R_drewN | apply Kd.R_drew)); exact HO_6.out))) (Kd.R_lt (by (with_reducible repeat (first | apply Kd.R_alloc | apply Kd.R_drewN | apply Kd.R_drew)); exact HO_8.out))) (Kd.R_lt (by (with_reducible repeat (first | apply Kd.R_alloc | apply Kd.R_drewN | apply Kd.R_drew)); exact HO_9.out))) (Kd.R_lt (by (with_reducible repeat (first | apply Kd.R_alloc | apply Kd.R_drewN | apply Kd.R_drew)); exact HO_10.out))) (below_size bl_)); have n5_ := Aside0.mk (below_step bl_ hb); clear HO_6; clear HO_8; clear HO_9; clear HO_10; clear HB; have HO_6 := n0_; have HO_8 := n1_; have HO_9 := n2_; have HO_10 := n3_; have HO271 := n4_; have HB := n5_; clear n0_ n1_ n2_ n3_ n4_ n5_; (try clear hb); (try clear hb2); (try clear hk); (try clear hi); (try clear ho0); obtain ⟨Ao48, co48, eo48⟩ := Kd.R_slice HO271.out; subst eo48) | ((with_reducible refine gate_callee (f := 10) rfl ?_); refine goesL_ (some 57) rfl rfl Try.func10 (by kernel_rfl) rfl #[.slice Ao26 t258.length co26, .slice Ao48 t269.length co48] rfl (by (try simp only [List.map_toArray, List.map_cons, List.map_nil]); first | done | rfl | (simp only [List.length_drop, List.length_take]; rfl)) ?_; (with_reducible refine (laws_eqEventS.calls kj15 _ _ t258 _ _ t269 true _ ?side1 ?side2 ?side3 ?side4 A39.out).mono ?_); (case side1 => repeat (first | exact (Kd.R_reads' HO_8.out).2.2 | (with_reducible refine Kd.C_alloc ?_ _) | (with_reducible refine Kd.C_drewN ?_ _) | (with_reducible refine Kd.C_drew ?_))); (case side2 => exact (Kd.R_reads' HO_8.out).2.1); (case side3 => repeat (first | exact (Kd.R_reads' HO271.out).2.2 | (with_reducible refine Kd.C_alloc ?_ _) | (with_reducible refine Kd.C_drewN ?_ _) | (with_reducible refine Kd.C_drew ?_))); (case side4 => exact (Kd.R_reads' HO271.out).2.1); rintro e w49 ⟨rfl, hb⟩; refine ⟨_, rfl, ?_⟩; have n0_ := Aside0.mk (Kd.R_below (by (with_reducible repeat (first | apply Kd.R_alloc | apply Kd.R_drewN | apply Kd.R_drew)); exact HO_6.out) hb); have n1_ := Aside0.mk (Kd.R_below (by (with_reducible repeat (first | apply Kd.R_alloc | apply Kd.R_drewN | apply Kd.R_drew)); exact HO_8.out) hb); have n2_ := Aside0.mk (Kd.R_below (by (with_reducible repeat (first | apply Kd.R_alloc | apply Kd.R_drewN | apply Kd.R_drew)); exact HO_9.out) hb); have n3_ := Aside0.mk (Kd.R_below (by (with_reducible repeat (first | apply Kd.R_alloc | apply Kd.R_drewN | apply Kd.R_drew)); exact HO_10.out) hb); have n4_ := Aside0.mk (Kd.R_below (by (with_reducible repeat (first | apply Kd.R_alloc | apply Kd.R_drewN | apply Kd.R_drew)); exact HO271.out) hb); have n5_ := Aside0.mk (below_step bl_ hb); clear HO_6; clear HO_8; clear HO_9; clear HO_10; clear HO271; clear HB; have HO_6 := n0_; have HO_8 := n1_; have HO_9 := n2_; have HO_10 := n3_; have HO271 := n4_; have HB := n5_; clear n0_ n1_ n2_ n3_ n4_ n5_; (try clear hb); (try clear hb2); (try clear hk); (try clear hi)) | ((with_reducible refine gate_callee (f := 8) rfl ?_); refine goesL_ (some 61) rfl rfl Try.func8 (by kernel_rfl) rfl #[.slice A1 l1.length c1] rfl (by (try simp only [List.map_toArray, List.map_cons, List.map_nil]); first | done | rfl | (simp only [List.length_drop, List.length_take]; rfl)) ?_; (with_reducible refine (laws_toEventS.calls kj15 _ _ l1 t273 _ ?side1 ?side2 A41.out).mono ?_); (case side1 => repeat (first | exact (Kd.C_below HR1.out HB.out) | (with_reducible refine Kd.C_alloc ?_ _) | (with_reducible refine Kd.C_drewN ?_ _) | (with_reducible refine Kd.C_drew ?_))); (case side2 => exact HC1.out); rintro e w50 ⟨v274, rfl, ho0, hb⟩; refine ⟨_, rfl, ?_⟩; have n0_ := Aside0.mk (Kd.R_elder' (by (with_reducible repeat (first | apply Kd.R_alloc | apply Kd.R_drewN | apply Kd.R_drew)); exact HO_6.out) (Kd.R_base ho0) hb); have n1_ := Aside0.mk (Kd.R_elder' (by (with_reducible repeat (first | apply Kd.R_alloc | apply Kd.R_drewN | apply Kd.R_drew)); exact HO_8.out) (Kd.R_base ho0) hb); have n2_ := Aside0.mk (Kd.R_elder' (by (with_reducible repeat (first | apply Kd.R_alloc | apply Kd.R_drewN | apply Kd.R_drew)); exact HO_9.out) (Kd.R_base ho0) hb); have n3_ := Aside0.mk (Kd.R_elder' (by (with_reducible repeat (first | apply Kd.R_alloc | apply Kd.R_drewN | apply Kd.R_drew)); exact HO_10.out) (Kd.R_base ho0) hb); have n4_ := Aside0.mk (Kd.R_elder' (by (with_reducible repeat (first | apply Kd.R_alloc | apply Kd.R_drewN | apply Kd.R_drew)); exact HO271.out) (Kd.R_base ho0) hb); have n5_ := Aside0.mk (Kd.R_lower (Kd.R_new' (Kd.R_new' (Kd.R_new' (Kd.R_new' (Kd.R_new' ho0 (Kd.R_lt (by (with_reducible repeat (first | apply Kd.R_alloc | apply Kd.R_drewN | apply Kd.R_drew)); exact HO_6.out))) (Kd.R_lt (by (with_reducible repeat (first | apply Kd.R_alloc | apply Kd.R_drewN | apply Kd.R_drew)); exact HO_8.out))) (Kd.R_lt (by (with_reducible repeat (first | apply Kd.R_alloc | apply Kd.R_drewN | apply Kd.R_drew)); exact HO_9.out))) (Kd.R_lt (by (with_reducible repeat (first | apply Kd.R_alloc | apply Kd.R_drewN | apply Kd.R_drew)); exact HO_10.out))) (Kd.R_lt (by (with_reducible repeat (first | apply Kd.R_alloc | apply Kd.R_drewN | apply Kd.R_drew)); exact HO271.out))) (below_size bl_)); have n6_ := Aside0.mk (below_step bl_ hb); clear HO_6; clear HO_8; clear HO_9; clear HO_10; clear HO271; clear HB; have HO_6 := n0_; have HO_8 := n1_; have HO_9 := n2_; have HO_10 := n3_; have HO271 := n4_; have HO275 := n5_; have HB := n6_; clear n0_ n1_ n2_ n3_ n4_ n5_ n6_; (try clear hb); (try clear hb2); (try clear hk); (try clear hi); (try clear ho0); obtain ⟨Ao51, co51, eo51⟩ := Kd.R_slice HO275.out; subst eo51) | ((with_reducible refine gate_callee (f := 10) rfl ?_); refine goesL_ (some 62) rfl rfl Try.func10 (by kernel_rfl) rfl #[.slice Ao27 t261.length co27, .slice Ao51 t273.length co51] rfl (by (try simp only [List.map_toArray, List.map_cons, List.map_nil]); first | done | rfl | (simp only [List.length_drop, List.length_take]; rfl)) ?_; (with_reducible refine (laws_eqEventS.calls kj15 _ _ t261 _ _ t273 true _ ?side1 ?side2 ?side3 ?side4 A42.out).mono ?_); (case side1 => repeat (first | exact (Kd.R_reads' HO_9.out).2.2 | (with_reducible refine Kd.C_alloc ?_ _) | (with_reducible refine Kd.C_drewN ?_ _) | (with_reducible refine Kd.C_drew ?_))); (case side2 => exact (Kd.R_reads' HO_9.out).2.1); (case side3 => repeat (first | exact (Kd.R_reads' HO275.out).2.2 | (with_reducible refine Kd.C_alloc ?_ _) | (with_reducible refine Kd.C_drewN ?_ _) | (with_reducible refine Kd.C_drew ?_))); (case side4 => exact (Kd.R_reads' HO275.out).2.1); rintro e w52 ⟨rfl, hb⟩; refine ⟨_, rfl, ?_⟩; have n0_ := Aside0.mk (Kd.R_below (by (with_reducible repeat (first | apply Kd.R_alloc | apply Kd.R_drewN | apply Kd.R_drew)); exact HO_6.out) hb); have n1_ := Aside0.mk (Kd.R_below (by (with_reducible repeat (first | apply Kd.R_alloc | apply Kd.R_drewN | apply Kd.R_drew)); exact HO_8.out) hb); have n2_ := Aside0.mk (Kd.R_below (by (with_reducible repeat (first | apply Kd.R_alloc | apply Kd.R_drewN | apply Kd.R_drew)); exact HO_9.out) hb); have n3_ := Aside0.mk (Kd.R_below (by (with_reducible repeat (first | apply Kd.R_alloc | apply Kd.R_drewN | apply Kd.R_drew)); exact HO_10.out) hb); have n4_ := Aside0.mk (Kd.R_below (by (with_reducible repeat (first | apply Kd.R_alloc | apply Kd.R_drewN | apply Kd.R_drew)); exact HO271.out) hb); have n5_ := Aside0.mk (Kd.R_below (by (with_reducible repeat (first | apply Kd.R_alloc | apply Kd.R_drewN | apply Kd.R_drew)); exact HO275.out) hb); have n6_ := Aside0.mk (below_step bl_ hb); clear HO_6; clear HO_8; clear HO_9; clear HO_10; clear HO271; clear HO275; clear HB; have HO_6 := n0_; have HO_8 := n1_; have HO_9 := n2_; have HO_10 := n3_; have HO271 := n4_; have HO275 := n5_; have HB := n6_; clear n0_ n1_ n2_ n3_ n4_ n5_ n6_; (try clear hb); (try clear hb2); (try clear hk); (try clear hi)) | ((with_reducible refine gate_callee (f := 15) rfl ?_); refine goesL_ (some 66) rfl rfl Try.func15 (by kernel_rfl) rfl #[.slice Ao26 t258.length co26, .int .i64 1] rfl (by (try simp only [List.map_toArray, List.map_cons, List.map_nil]); first | done | rfl | (simp only [List.length_drop, List.length_take]; rfl)) ?_; (with_reducible refine (laws_markEventS.calls kj15 (fun k_ => some k_ = (.slice Ao26 t258.length co26 : Value).ownBlock) (.slice Ao26 t258.length co26) t258 1 t277 t278 w _ ?side1 ?side2 A44.out).mono ?_); (case side1 => repeat (first | (with_reducible first | exact HB.out | apply below_alloc | apply pw_below_drewN | apply below_drew1) | exact HB.out)); (case side2 => exact Kd.R_tight rfl HO_8.out); rintro e w53 ⟨rfl, hy0, hb, hkp⟩; refine ⟨_, rfl, ?_⟩; have n0_ := Aside0.mk (Kd.R_mono (ok' := fun k_ => some k_ ≠ (.slice Ao26 t258.length co26 : Value).ownBlock ∧ some k_ ≠ (.slice Ao27 t261.length co27 : Value).ownBlock ∧ some k_ ≠ (v266 : Value).ownBlock ∧ some k_ ≠ (.slice Ao48 t269.length co48 : Value).ownBlock ∧ some k_ ≠ (.slice Ao51 t273.length co51 : Value).ownBlock) (Kd.R_keptB (HO_6.out) hkp (fun k_ hk_ hs_ => (hk_.1.1.1) hs_)) (fun k_ hk_ => ⟨hk_.1.1.1.1, hk_.1.1.1.2.1, hk_.1.1.1.2.2, hk_.1.1.2, hk_.1.2⟩)); have n1_ := Aside0.mk (Kd.R_reok rfl hy0 (fun k_ e_ => HO_8.out.1 k_ e_)); have n2_ := Aside0.mk (Kd.R_mono (ok' := fun k_ => some k_ ≠ (v256 : Value).ownBlock ∧ some k_ ≠ (.slice Ao26 t258.length co26 : Value).ownBlock ∧ some k_ ≠ (v266 : Value).ownBlock ∧ some k_ ≠ (.slice Ao48 t269.length co48 : Value).ownBlock ∧ some k_ ≠ (.slice Ao51 t273.length co51 : Value).ownBlock) (Kd.R_keptB (HO_9.out) hkp (fun k_ hk_ hs_ => (hk_.1.1.2.1) hs_)) (fun k_ hk_ => ⟨hk_.1.1.1.1, hk_.1.1.1.2.1, hk_.1.1.1.2.2, hk_.1.1.2, hk_.1.2⟩)); have n3_ := Aside0.mk (Kd.R_mono (ok' := fun k_ => some k_ ≠ (v256 : Value).ownBlock ∧ some k_ ≠ (.slice Ao26 t258.length co26 : Value).ownBlock ∧ some k_ ≠ (.slice Ao27 t261.length co27 : Value).ownBlock ∧ some k_ ≠ (.slice Ao48 t269.length co48 : Value).ownBlock ∧ some k_ ≠ (.slice Ao51 t273.length co51 : Value).ownBlock) (Kd.R_keptB (HO_10.out) hkp (fun k_ hk_ hs_ => (hk_.1.1.2.1) hs_)) (fun k_ hk_ => ⟨hk_.1.1.1.1, hk_.1.1.1.2.1, hk_.1.1.1.2.2, hk_.1.1.2, hk_.1.2⟩)); have n4_ := Aside0.mk (Kd.R_mono (ok' := fun k_ => some k_ ≠ (v256 : Value).ownBlock ∧ some k_ ≠ (.slice Ao26 t258.length co26 : Value).ownBlock ∧ some k_ ≠ (.slice Ao27 t261.length co27 : Value).ownBlock ∧ some k_ ≠ (v266 : Value).ownBlock ∧ some k_ ≠ (.slice Ao51 t273.length co51 : Value).ownBlock) (Kd.R_keptB (HO271.out) hkp (fun k_ hk_ hs_ => (hk_.1.1.1.2) hs_)) (fun k_ hk_ => ⟨hk_.1.1.1.1.1.2, hk_.1.1.1.1.2, hk_.1.1.1.2, hk_.1.1.2, hk_.1.2⟩)); have n5_ := Aside0.mk (Kd.R_mono (ok' := fun k_ => some k_ ≠ (v256 : Value).ownBlock ∧ some k_ ≠ (.slice Ao26 t258.length co26 : Value).ownBlock ∧ some k_ ≠ (.slice Ao27 t261.length co27 : Value).ownBlock ∧ some k_ ≠ (v266 : Value).ownBlock ∧ some k_ ≠ (.slice Ao48 t269.length co48 : Value).ownBlock) (Kd.R_keptB (HO275.out) hkp (fun k_ hk_ hs_ => (hk_.1.1.1.2) hs_)) (fun k_ hk_ => ⟨hk_.1.1.1.1.1.2, hk_.1.1.1.1.2, hk_.1.1.1.2, hk_.1.1.2, hk_.1.2⟩)); have n6_ := Aside0.mk (hb); clear HO_6; clear HO_8; clear HO_9; clear HO_10; clear HO271; clear HO275; clear HB; have HO_6 := n0_; have HO_8 := n1_; have HO_9 := n2_; have HO_10 := n3_; have HO271 := n4_; have HO275 := n5_; have HB := n6_; clear n0_ n1_ n2_ n3_ n4_ n5_ n6_; (try clear hb); (try clear hkp); (try clear hy0)) | ((with_reducible refine gate_callee (f := 15) rfl ?_); refine goesL_ (some 69) rfl rfl Try.func15 (by kernel_rfl) rfl #[.slice Ao27 t261.length co27, .int .i64 t277] rfl (by (try simp only [List.map_toArray, List.map_cons, List.map_nil]); first | done | rfl | (simp only [List.length_drop, List.length_take]; rfl)) ?_; (with_reducible refine (laws_markEventS.calls kj15 (fun k_ => some k_ = (.slice Ao27 t261.length co27 : Value).ownBlock) (.slice Ao27 t261.length co27) t261 t277 t279 t280 w _ ?side1 ?side2 A45.out).mono ?_); (case side1 => repeat (first | (with_reducible first | exact HB.out | apply below_alloc | apply pw_below_drewN | apply below_drew1) | exact HB.out)); (case side2 => exact Kd.R_tight rfl HO_9.out); rintro e w54 ⟨rfl, hy0, hb, hkp⟩; refine ⟨_, rfl, ?_⟩; have n0_ := Aside0.mk (Kd.R_mono (ok' := fun k_ => some k_ ≠ (.slice Ao26 t258.length co26 : Value).ownBlock ∧ some k_ ≠ (.slice Ao27 t261.length co27 : Value).ownBlock ∧ some k_ ≠ (v266 : Value).ownBlock ∧ some k_ ≠ (.slice Ao48 t269.length co48 : Value).ownBlock ∧ some k_ ≠ (.slice Ao51 t273.length co51 : Value).ownBlock) (Kd.R_keptB (HO_6.out) hkp (fun k_ hk_ hs_ => (hk_.2.1) hs_)) (fun k_ hk_ => ⟨hk_.1.1, hk_.1.2.1, hk_.1.2.2.1, hk_.1.2.2.2.1, hk_.1.2.2.2.2⟩)); have n1_ := Aside0.mk (Kd.R_mono (ok' := fun k_ => some k_ ≠ (v256 : Value).ownBlock ∧ some k_ ≠ (.slice Ao27 t261.length co27 : Value).ownBlock ∧ some k_ ≠ (v266 : Value).ownBlock ∧ some k_ ≠ (.slice Ao48 t269.length co48 : Value).ownBlock ∧ some k_ ≠ (.slice Ao51 t273.length co51 : Value).ownBlock) (Kd.R_keptB (HO_8.out) hkp (fun k_ hk_ hs_ => (hk_.1.1.2.1) hs_)) (fun k_ hk_ => ⟨hk_.1.1.1.1, hk_.1.1.1.2.1, hk_.1.1.1.2.2, hk_.1.1.2, hk_.1.2⟩)); have n2_ := Aside0.mk (Kd.R_reok rfl hy0 (fun k_ e_ => HO_9.out.1 k_ e_)); have n3_ := Aside0.mk (Kd.R_mono (ok' := fun k_ => some k_ ≠ (v256 : Value).ownBlock ∧ some k_ ≠ (.slice Ao26 t258.length co26 : Value).ownBlock ∧ some k_ ≠ (.slice Ao27 t261.length co27 : Value).ownBlock ∧ some k_ ≠ (.slice Ao48 t269.length co48 : Value).ownBlock ∧ some k_ ≠ (.slice Ao51 t273.length co51 : Value).ownBlock) (Kd.R_keptB (HO_10.out) hkp (fun k_ hk_ hs_ => (hk_.2.2.1) hs_)) (fun k_ hk_ => ⟨hk_.1.1, hk_.1.2.1, hk_.1.2.2.1, hk_.1.2.2.2.1, hk_.1.2.2.2.2⟩)); have n4_ := Aside0.mk (Kd.R_mono (ok' := fun k_ => some k_ ≠ (v256 : Value).ownBlock ∧ some k_ ≠ (.slice Ao26 t258.length co26 : Value).ownBlock ∧ some k_ ≠ (.slice Ao27 t261.length co27 : Value).ownBlock ∧ some k_ ≠ (v266 : Value).ownBlock ∧ some k_ ≠ (.slice Ao51 t273.length co51 : Value).ownBlock) (Kd.R_keptB (HO271.out) hkp (fun k_ hk_ hs_ => (hk_.2.2.1) hs_)) (fun k_ hk_ => ⟨hk_.1.1, hk_.1.2.1, hk_.1.2.2.1, hk_.1.2.2.2.1, hk_.1.2.2.2.2⟩)); have n5_ := Aside0.mk (Kd.R_mono (ok' := fun k_ => some k_ ≠ (v256 : Value).ownBlock ∧ some k_ ≠ (.slice Ao26 t258.length co26 : Value).ownBlock ∧ some k_ ≠ (.slice Ao27 t261.length co27 : Value).ownBlock ∧ some k_ ≠ (v266 : Value).ownBlock ∧ some k_ ≠ (.slice Ao48 t269.length co48 : Value).ownBlock) (Kd.R_keptB (HO275.out) hkp (fun k_ hk_ hs_ => (hk_.2.2.1) hs_)) (fun k_ hk_ => ⟨hk_.1.1, hk_.1.2.1, hk_.1.2.2.1, hk_.1.2.2.2.1, hk_.1.2.2.2.2⟩)); have n6_ := Aside0.mk (hb); clear HO_6; clear HO_8; clear HO_9; clear HO_10; clear HO271; clear HO275; clear HB; have HO_6 := n0_; have HO_8 := n1_; have HO_9 := n2_; have HO_10 := n3_; have HO271 := n4_; have HO275 := n5_; have HB := n6_; clear n0_ n1_ n2_ n3_ n4_ n5_ n6_; (try clear hb); (try clear hkp); (try clear hy0)))
   (try simp only [Act.put, List.setIfInBounds_toArray, List.set_cons_zero, List.set_cons_succ])
   go_cut [82] (fun v82 wc => ∃ (kq : Nat) (x82_45 : Bool), v82 = .bool x82_45 ∧ Aside0 (laws_FnExactMergeEvents.j1 kq l0 l1 t254 t255 t264 x82_45 = some r) ∧ Aside0 (kq ≤ kj15) ∧ Aside0 (Kd.R k40 40 wc w.heap.size (fun k_ => some k_ ≠ (v266 : Value).ownBlock) v256 t254) ∧ Aside0 (Kd.R k40 40 wc w.heap.size (fun k_ => some k_ ≠ (v256 : Value).ownBlock) v266 t264) ∧ Aside0 (Below w.heap.size w wc))
   case first =>
    have H := HC46.out
    clear HC46
    by_cases c55 : t279 < 0
    ·rw [if_pos c55] at H
     have c55b0 : decide (t279 < 0) = true := decide_eq_true c55
     clear c55
     (first | rw [c55b0] | (simp only [i64_w, i32_w]; rw [c55b0]) | skip)
     have H' := Aside0.mk H
     clear H
     go_wp2
     go_meet
     case rel => exact ⟨_, (true), (by first | rfl | (simp; done) | (simp [*]; done)), H', ⟨by have := HJ15.out; first | omega | exact Nat.le_refl _⟩, ⟨by (with_reducible repeat (first | apply Kd.R_alloc | apply Kd.R_drewN | apply Kd.R_drew)); exact Kd.R_mono HO_6.out (fun _ hk => hk.2.2.1)⟩, ⟨by (with_reducible repeat (first | apply Kd.R_alloc | apply Kd.R_drewN | apply Kd.R_drew)); exact Kd.R_mono HO_10.out (fun _ hk => hk.1)⟩, ⟨by repeat (first | (with_reducible first | exact HB.out | apply below_alloc | apply pw_below_drewN | apply below_drew1) | exact HB.out)⟩⟩
    rw [if_neg c55] at H
    have c55b0 : decide (t279 < 0) = false := decide_eq_false c55
    clear c55
    (first | rw [c55b0] | (simp only [i64_w, i32_w]; rw [c55b0]) | skip)
    replace H := Option.bind_eq_some_iff.mp H
    obtain ⟨t281, A560, H⟩ := H
    replace H : (if t281 = true then (laws_FnExactMergeEvents.j1 kj15 l0 l1 t254 t255 t264 (t265 != t255)) else (laws_FnExactMergeEvents.j1 kj15 l0 l1 t254 t255 t264 true)) = some r := H
    have A56 := Aside0.mk A560
    clear A560
    by_cases c57 : t281 = true
    ·subst c57
     have H1 : (laws_FnExactMergeEvents.j1 kj15 l0 l1 t254 t255 t264 (t265 != t255)) = some r := by rw [if_pos rfl] at H; exact H
     clear H
     have H := H1
     clear H1
     have H' := Aside0.mk H
     clear H
     obtain ⟨Ao58, co58, eo58⟩ := Kd.R_slice HO_10.out
     subst eo58
     obtain ⟨Ao59, co59, eo59⟩ := Kd.R_slice HO_6.out
     subst eo59
     go_wp2_with (first | (go_at_call 10; (with_reducible refine (laws_eqEventS.calls kj15 _ _ t264 _ _ t254 true _ ?side1 ?side2 ?side3 ?side4 A56.out).mono ?_); (case side1 => repeat (first | exact (Kd.R_reads' HO_10.out).2.2 | (with_reducible refine Kd.C_alloc ?_ _) | (with_reducible refine Kd.C_drewN ?_ _) | (with_reducible refine Kd.C_drew ?_))); (case side2 => exact (Kd.R_reads' HO_10.out).2.1); (case side3 => repeat (first | exact (Kd.R_reads' HO_6.out).2.2 | (with_reducible refine Kd.C_alloc ?_ _) | (with_reducible refine Kd.C_drewN ?_ _) | (with_reducible refine Kd.C_drew ?_))); (case side4 => exact (Kd.R_reads' HO_6.out).2.1); rintro e w60 ⟨rfl, hb⟩; have n0_ := Aside0.mk (Kd.R_below (by (with_reducible repeat (first | apply Kd.R_alloc | apply Kd.R_drewN | apply Kd.R_drew)); exact HO_6.out) hb); have n1_ := Aside0.mk (Kd.R_below (by (with_reducible repeat (first | apply Kd.R_alloc | apply Kd.R_drewN | apply Kd.R_drew)); exact HO_8.out) hb); have n2_ := Aside0.mk (Kd.R_below (by (with_reducible repeat (first | apply Kd.R_alloc | apply Kd.R_drewN | apply Kd.R_drew)); exact HO_9.out) hb); have n3_ := Aside0.mk (Kd.R_below (by (with_reducible repeat (first | apply Kd.R_alloc | apply Kd.R_drewN | apply Kd.R_drew)); exact HO_10.out) hb); have n4_ := Aside0.mk (Kd.R_below (by (with_reducible repeat (first | apply Kd.R_alloc | apply Kd.R_drewN | apply Kd.R_drew)); exact HO271.out) hb); have n5_ := Aside0.mk (Kd.R_below (by (with_reducible repeat (first | apply Kd.R_alloc | apply Kd.R_drewN | apply Kd.R_drew)); exact HO275.out) hb); have n6_ := Aside0.mk (below_step bl_ hb); clear HO_6; clear HO_8; clear HO_9; clear HO_10; clear HO271; clear HO275; clear HB; have HO_6 := n0_; have HO_8 := n1_; have HO_9 := n2_; have HO_10 := n3_; have HO271 := n4_; have HO275 := n5_; have HB := n6_; clear n0_ n1_ n2_ n3_ n4_ n5_ n6_; (try clear hb); (try clear hb2); (try clear hk); (try clear hi)))
     go_meet
     case rel => exact ⟨_, ((t265 != t255)), (by first | rfl | (simp; done) | (simp [*]; done)), H', ⟨by have := HJ15.out; first | omega | exact Nat.le_refl _⟩, ⟨by (with_reducible repeat (first | apply Kd.R_alloc | apply Kd.R_drewN | apply Kd.R_drew)); exact Kd.R_mono HO_6.out (fun _ hk => hk.2.2.1)⟩, ⟨by (with_reducible repeat (first | apply Kd.R_alloc | apply Kd.R_drewN | apply Kd.R_drew)); exact Kd.R_mono HO_10.out (fun _ hk => hk.1)⟩, ⟨by repeat (first | (with_reducible first | exact HB.out | apply below_alloc | apply pw_below_drewN | apply below_drew1) | exact HB.out)⟩⟩
    replace c57 := Bool.eq_false_iff.mpr c57
    subst c57
    have H1 : (laws_FnExactMergeEvents.j1 kj15 l0 l1 t254 t255 t264 true) = some r := by rw [if_neg (show ¬ (false = true) by decide)] at H; exact H
    clear H
    have H := H1
    clear H1
    have H' := Aside0.mk H
    clear H
    obtain ⟨Ao61, co61, eo61⟩ := Kd.R_slice HO_10.out
    subst eo61
    obtain ⟨Ao62, co62, eo62⟩ := Kd.R_slice HO_6.out
    subst eo62
    go_wp2_with (first | (go_at_call 10; (with_reducible refine (laws_eqEventS.calls kj15 _ _ t264 _ _ t254 false _ ?side1 ?side2 ?side3 ?side4 A56.out).mono ?_); (case side1 => repeat (first | exact (Kd.R_reads' HO_10.out).2.2 | (with_reducible refine Kd.C_alloc ?_ _) | (with_reducible refine Kd.C_drewN ?_ _) | (with_reducible refine Kd.C_drew ?_))); (case side2 => exact (Kd.R_reads' HO_10.out).2.1); (case side3 => repeat (first | exact (Kd.R_reads' HO_6.out).2.2 | (with_reducible refine Kd.C_alloc ?_ _) | (with_reducible refine Kd.C_drewN ?_ _) | (with_reducible refine Kd.C_drew ?_))); (case side4 => exact (Kd.R_reads' HO_6.out).2.1); rintro e w63 ⟨rfl, hb⟩; have n0_ := Aside0.mk (Kd.R_below (by (with_reducible repeat (first | apply Kd.R_alloc | apply Kd.R_drewN | apply Kd.R_drew)); exact HO_6.out) hb); have n1_ := Aside0.mk (Kd.R_below (by (with_reducible repeat (first | apply Kd.R_alloc | apply Kd.R_drewN | apply Kd.R_drew)); exact HO_8.out) hb); have n2_ := Aside0.mk (Kd.R_below (by (with_reducible repeat (first | apply Kd.R_alloc | apply Kd.R_drewN | apply Kd.R_drew)); exact HO_9.out) hb); have n3_ := Aside0.mk (Kd.R_below (by (with_reducible repeat (first | apply Kd.R_alloc | apply Kd.R_drewN | apply Kd.R_drew)); exact HO_10.out) hb); have n4_ := Aside0.mk (Kd.R_below (by (with_reducible repeat (first | apply Kd.R_alloc | apply Kd.R_drewN | apply Kd.R_drew)); exact HO271.out) hb); have n5_ := Aside0.mk (Kd.R_below (by (with_reducible repeat (first | apply Kd.R_alloc | apply Kd.R_drewN | apply Kd.R_drew)); exact HO275.out) hb); have n6_ := Aside0.mk (below_step bl_ hb); clear HO_6; clear HO_8; clear HO_9; clear HO_10; clear HO271; clear HO275; clear HB; have HO_6 := n0_; have HO_8 := n1_; have HO_9 := n2_; have HO_10 := n3_; have HO271 := n4_; have HO275 := n5_; have HB := n6_; clear n0_ n1_ n2_ n3_ n4_ n5_ n6_; (try clear hb); (try clear hb2); (try clear hk); (try clear hi)))
    go_meet
    case rel => exact ⟨_, (true), (by first | rfl | (simp; done) | (simp [*]; done)), H', ⟨by have := HJ15.out; first | omega | exact Nat.le_refl _⟩, ⟨by (with_reducible repeat (first | apply Kd.R_alloc | apply Kd.R_drewN | apply Kd.R_drew)); exact Kd.R_mono HO_6.out (fun _ hk => hk.2.2.1)⟩, ⟨by (with_reducible repeat (first | apply Kd.R_alloc | apply Kd.R_drewN | apply Kd.R_drew)); exact Kd.R_mono HO_10.out (fun _ hk => hk.1)⟩, ⟨by repeat (first | (with_reducible first | exact HB.out | apply below_alloc | apply pw_below_drewN | apply below_drew1) | exact HB.out)⟩⟩
   case rest =>
    clear HC46
    (try clear c15); (try clear c37); (try clear c40); (try clear c43); (try clear c55); (try clear c55b0); (try clear c57)
    obtain ⟨kq, x82_45, rfl, HA, HJ45, HO_6, HO_10, HB⟩ := hcut
    cases kq with
    | zero => exact absurd HA.out (by simp [laws_FnExactMergeEvents.j1])
    | succ kj45 =>
     have H := HA.out
     clear HA
     simp only [laws_FnExactMergeEvents.j1] at H
     by_cases c64 : x82_45 = true
     ·subst c64
      have H1 : (some false) = some r := by rw [if_pos rfl] at H; exact H
      clear H
      have H := H1
      clear H1
      obtain rfl := Option.some.inj H
      exact absurd hT_.out (by decide)
     replace c64 := Bool.eq_false_iff.mpr c64
     subst c64
     have H1 : ((laws_markEventS.f kj45 t264 1).bind fun bt282 => ((laws_heldEventS.f kj45 bt282.2 1).bind fun t284 => (if t284 < 0 then (some false) else (if t284 = bt282.1 then ((laws_toEventS.f kj45 l0).bind fun t285 => ((laws_toEventS.f kj45 l1).bind fun t288 => ((impl_MergeEvents.f kj45 t285 t288).bind fun bt291 => ((laws_eqEventS.f kj45 bt291.1 t254).bind fun t295 => (if t295 = true then (laws_FnExactMergeEvents.j2 kj45 bt282.2 bt282.1 (bt291.2 != t255)) else (laws_FnExactMergeEvents.j2 kj45 bt282.2 bt282.1 true)))))) else (some false))))) = some r := by rw [if_neg (show ¬ (false = true) by decide)] at H; exact H
     clear H
     have H := H1
     clear H1
     replace H := Option.bind_eq_some_iff.mp H
     obtain ⟨⟨t282, t283⟩, A650, H⟩ := H
     replace H : ((laws_heldEventS.f kj45 t283 1).bind fun t284 => (if t284 < 0 then (some false) else (if t284 = t282 then ((laws_toEventS.f kj45 l0).bind fun t285 => ((laws_toEventS.f kj45 l1).bind fun t288 => ((impl_MergeEvents.f kj45 t285 t288).bind fun bt291 => ((laws_eqEventS.f kj45 bt291.1 t254).bind fun t295 => (if t295 = true then (laws_FnExactMergeEvents.j2 kj45 t283 t282 (bt291.2 != t255)) else (laws_FnExactMergeEvents.j2 kj45 t283 t282 true)))))) else (some false)))) = some r := H
     have A65 := Aside0.mk A650
     clear A650
     replace H := Option.bind_eq_some_iff.mp H
     obtain ⟨t284, A660, H⟩ := H
     replace H : (if t284 < 0 then (some false) else (if t284 = t282 then ((laws_toEventS.f kj45 l0).bind fun t285 => ((laws_toEventS.f kj45 l1).bind fun t288 => ((impl_MergeEvents.f kj45 t285 t288).bind fun bt291 => ((laws_eqEventS.f kj45 bt291.1 t254).bind fun t295 => (if t295 = true then (laws_FnExactMergeEvents.j2 kj45 t283 t282 (bt291.2 != t255)) else (laws_FnExactMergeEvents.j2 kj45 t283 t282 true)))))) else (some false))) = some r := H
     have A66 := Aside0.mk A660
     clear A660
     by_cases c67 : t284 < 0
     ·rw [if_pos c67] at H
      have c67b0 : decide (t284 < 0) = true := decide_eq_true c67
      clear c67
      obtain rfl := Option.some.inj H
      exact absurd hT_.out (by decide)
     rw [if_neg c67] at H
     have c67b0 : decide (t284 < 0) = false := decide_eq_false c67
     clear c67
     by_cases c68 : t284 = t282
     rotate_left
     ·rw [if_neg c68] at H
      have c68b0 : (t284 == t282) = false := beq_eq_false_iff_ne.mpr c68
      have c68b1 : (t284 != t282) = true := bne_iff_ne.mpr c68
      obtain rfl := Option.some.inj H
      exact absurd hT_.out (by decide)
     rw [if_pos c68] at H
     have c68b0 : (t284 == t282) = true := beq_iff_eq.mpr c68
     have c68b1 : (t284 != t282) = false := bne_eq_false_iff_eq.mpr c68
     clear c68
     replace H := Option.bind_eq_some_iff.mp H
     obtain ⟨t285, A690, H⟩ := H
     replace H : ((laws_toEventS.f kj45 l1).bind fun t288 => ((impl_MergeEvents.f kj45 t285 t288).bind fun bt291 => ((laws_eqEventS.f kj45 bt291.1 t254).bind fun t295 => (if t295 = true then (laws_FnExactMergeEvents.j2 kj45 t283 t282 (bt291.2 != t255)) else (laws_FnExactMergeEvents.j2 kj45 t283 t282 true))))) = some r := H
     have A69 := Aside0.mk A690
     clear A690
     replace H := Option.bind_eq_some_iff.mp H
     obtain ⟨t288, A700, H⟩ := H
     replace H : ((impl_MergeEvents.f kj45 t285 t288).bind fun bt291 => ((laws_eqEventS.f kj45 bt291.1 t254).bind fun t295 => (if t295 = true then (laws_FnExactMergeEvents.j2 kj45 t283 t282 (bt291.2 != t255)) else (laws_FnExactMergeEvents.j2 kj45 t283 t282 true)))) = some r := H
     have A70 := Aside0.mk A700
     clear A700
     replace H := Option.bind_eq_some_iff.mp H
     obtain ⟨⟨t291, t292⟩, A710, H⟩ := H
     replace H : ((laws_eqEventS.f kj45 t291 t254).bind fun t295 => (if t295 = true then (laws_FnExactMergeEvents.j2 kj45 t283 t282 (t292 != t255)) else (laws_FnExactMergeEvents.j2 kj45 t283 t282 true))) = some r := H
     have A71 := Aside0.mk A710
     clear A710
     have HC72 := Aside0.mk H
     clear H
     obtain ⟨Ao73, co73, eo73⟩ := Kd.R_slice HO_10.out
     subst eo73
     go_upto_region 32 with (first | ((with_reducible refine gate_callee (f := 15) rfl ?_); refine goesL_ (some 85) rfl rfl Try.func15 (by kernel_rfl) rfl #[.slice Ao73 t264.length co73, .int .i64 1] rfl (by (try simp only [List.map_toArray, List.map_cons, List.map_nil]); first | done | rfl | (simp only [List.length_drop, List.length_take]; rfl)) ?_; (with_reducible refine (laws_markEventS.calls kj45 (fun k_ => some k_ = (.slice Ao73 t264.length co73 : Value).ownBlock) (.slice Ao73 t264.length co73) t264 1 t282 t283 w _ ?side1 ?side2 A65.out).mono ?_); (case side1 => repeat (first | (with_reducible first | exact HB.out | apply below_alloc | apply pw_below_drewN | apply below_drew1) | exact HB.out)); (case side2 => exact Kd.R_tight rfl HO_10.out); rintro e w74 ⟨rfl, hy0, hb, hkp⟩; refine ⟨_, rfl, ?_⟩; have n0_ := Aside0.mk (Kd.R_mono (ok' := fun k_ => some k_ ≠ (.slice Ao73 t264.length co73 : Value).ownBlock) (Kd.R_keptB (HO_6.out) hkp (fun k_ hk_ hs_ => (hk_) hs_)) (fun k_ hk_ => hk_.1)); have n1_ := Aside0.mk (Kd.R_reok rfl hy0 (fun k_ e_ => HO_10.out.1 k_ e_)); have n2_ := Aside0.mk (hb); clear HO_6; clear HO_10; clear HB; have HO_6 := n0_; have HO_10 := n1_; have HB := n2_; clear n0_ n1_ n2_; (try clear hb); (try clear hkp); (try clear hy0)) | ((with_reducible refine gate_callee (f := 16) rfl ?_); refine goesL_ (some 88) rfl rfl Try.func16 (by kernel_rfl) rfl #[.slice Ao73 t283.length co73, .int .i64 1] rfl (by (try simp only [List.map_toArray, List.map_cons, List.map_nil]); first | done | (rw [show t283.length = t264.length from (Kd.R_reads' HO_10.out).1.symm] <;> rfl) | rfl | (simp only [List.length_drop, List.length_take]; rfl)) ?_; (with_reducible refine (laws_heldEventS.calls kj45 _ _ t283 1 t284 _ ?side1 ?side2 A66.out).mono ?_); (case side1 => repeat (first | exact (Kd.R_reads' HO_10.out).2.2 | (with_reducible refine Kd.C_alloc ?_ _) | (with_reducible refine Kd.C_drewN ?_ _) | (with_reducible refine Kd.C_drew ?_))); (case side2 => rw [show t283.length = t264.length from (Kd.R_reads' HO_10.out).1.symm]; exact (Kd.R_reads' HO_10.out).2.1); rintro e w75 ⟨rfl, hb⟩; refine ⟨_, rfl, ?_⟩; have n0_ := Aside0.mk (Kd.R_below (by (with_reducible repeat (first | apply Kd.R_alloc | apply Kd.R_drewN | apply Kd.R_drew)); exact HO_6.out) hb); have n1_ := Aside0.mk (Kd.R_below (by (with_reducible repeat (first | apply Kd.R_alloc | apply Kd.R_drewN | apply Kd.R_drew)); exact HO_10.out) hb); have n2_ := Aside0.mk (below_step bl_ hb); clear HO_6; clear HO_10; clear HB; have HO_6 := n0_; have HO_10 := n1_; have HB := n2_; clear n0_ n1_ n2_; (try clear hb); (try clear hb2); (try clear hk); (try clear hi)) | ((with_reducible refine gate_callee (f := 8) rfl ?_); refine goesL_ (some 96) rfl rfl Try.func8 (by kernel_rfl) rfl #[.slice A0 l0.length c0] rfl (by (try simp only [List.map_toArray, List.map_cons, List.map_nil]); first | done | rfl | (simp only [List.length_drop, List.length_take]; rfl)) ?_; (with_reducible refine (laws_toEventS.calls kj45 _ _ l0 t285 _ ?side1 ?side2 A69.out).mono ?_); (case side1 => repeat (first | exact (Kd.C_below HR0.out HB.out) | (with_reducible refine Kd.C_alloc ?_ _) | (with_reducible refine Kd.C_drewN ?_ _) | (with_reducible refine Kd.C_drew ?_))); (case side2 => exact HC0.out); rintro e w76 ⟨v286, rfl, ho0, hb⟩; refine ⟨_, rfl, ?_⟩; have n0_ := Aside0.mk (Kd.R_elder' (by (with_reducible repeat (first | apply Kd.R_alloc | apply Kd.R_drewN | apply Kd.R_drew)); exact HO_6.out) (Kd.R_base ho0) hb); have n1_ := Aside0.mk (Kd.R_elder' (by (with_reducible repeat (first | apply Kd.R_alloc | apply Kd.R_drewN | apply Kd.R_drew)); exact HO_10.out) (Kd.R_base ho0) hb); have n2_ := Aside0.mk (Kd.R_lower (Kd.R_new' (Kd.R_new' ho0 (Kd.R_lt (by (with_reducible repeat (first | apply Kd.R_alloc | apply Kd.R_drewN | apply Kd.R_drew)); exact HO_6.out))) (Kd.R_lt (by (with_reducible repeat (first | apply Kd.R_alloc | apply Kd.R_drewN | apply Kd.R_drew)); exact HO_10.out))) (below_size bl_)); have n3_ := Aside0.mk (below_step bl_ hb); clear HO_6; clear HO_10; clear HB; have HO_6 := n0_; have HO_10 := n1_; have HO287 := n2_; have HB := n3_; clear n0_ n1_ n2_ n3_; (try clear hb); (try clear hb2); (try clear hk); (try clear hi); (try clear ho0)) | ((with_reducible refine gate_callee (f := 8) rfl ?_); refine goesL_ (some 98) rfl rfl Try.func8 (by kernel_rfl) rfl #[.slice A1 l1.length c1] rfl (by (try simp only [List.map_toArray, List.map_cons, List.map_nil]); first | done | rfl | (simp only [List.length_drop, List.length_take]; rfl)) ?_; (with_reducible refine (laws_toEventS.calls kj45 _ _ l1 t288 _ ?side1 ?side2 A70.out).mono ?_); (case side1 => repeat (first | exact (Kd.C_below HR1.out HB.out) | (with_reducible refine Kd.C_alloc ?_ _) | (with_reducible refine Kd.C_drewN ?_ _) | (with_reducible refine Kd.C_drew ?_))); (case side2 => exact HC1.out); rintro e w77 ⟨v289, rfl, ho0, hb⟩; refine ⟨_, rfl, ?_⟩; have n0_ := Aside0.mk (Kd.R_elder' (by (with_reducible repeat (first | apply Kd.R_alloc | apply Kd.R_drewN | apply Kd.R_drew)); exact HO_6.out) (Kd.R_base ho0) hb); have n1_ := Aside0.mk (Kd.R_elder' (by (with_reducible repeat (first | apply Kd.R_alloc | apply Kd.R_drewN | apply Kd.R_drew)); exact HO_10.out) (Kd.R_base ho0) hb); have n2_ := Aside0.mk (Kd.R_elder' (by (with_reducible repeat (first | apply Kd.R_alloc | apply Kd.R_drewN | apply Kd.R_drew)); exact HO287.out) (Kd.R_base ho0) hb); have n3_ := Aside0.mk (Kd.R_lower (Kd.R_new' (Kd.R_new' (Kd.R_new' ho0 (Kd.R_lt (by (with_reducible repeat (first | apply Kd.R_alloc | apply Kd.R_drewN | apply Kd.R_drew)); exact HO_6.out))) (Kd.R_lt (by (with_reducible repeat (first | apply Kd.R_alloc | apply Kd.R_drewN | apply Kd.R_drew)); exact HO_10.out))) (Kd.R_lt (by (with_reducible repeat (first | apply Kd.R_alloc | apply Kd.R_drewN | apply Kd.R_drew)); exact HO287.out))) (below_size bl_)); have n4_ := Aside0.mk (below_step bl_ hb); clear HO_6; clear HO_10; clear HO287; clear HB; have HO_6 := n0_; have HO_10 := n1_; have HO287 := n2_; have HO290 := n3_; have HB := n4_; clear n0_ n1_ n2_ n3_ n4_; (try clear hb); (try clear hb2); (try clear hk); (try clear hi); (try clear ho0); obtain ⟨Ao78, co78, eo78⟩ := Kd.R_slice HO287.out; subst eo78; obtain ⟨Ao79, co79, eo79⟩ := Kd.R_slice HO290.out; subst eo79) | ((with_reducible refine gate_callee (f := 14) rfl ?_); refine goesL_ (some 99) rfl rfl Try.func14 (by kernel_rfl) rfl #[.slice Ao78 t285.length co78, .slice Ao79 t288.length co79] rfl (by (try simp only [List.map_toArray, List.map_cons, List.map_nil]); first | done | rfl | (simp only [List.length_drop, List.length_take]; rfl)) ?_; (with_reducible refine (impl_MergeEvents.calls kj45 _ _ t285 _ _ t288 t291 t292 _ ?side1 ?side2 ?side3 ?side4 A71.out).mono ?_); (case side1 => repeat (first | exact (Kd.R_reads' HO287.out).2.2 | (with_reducible refine Kd.C_alloc ?_ _) | (with_reducible refine Kd.C_drewN ?_ _) | (with_reducible refine Kd.C_drew ?_))); (case side2 => exact (Kd.R_reads' HO287.out).2.1); (case side3 => repeat (first | exact (Kd.R_reads' HO290.out).2.2 | (with_reducible refine Kd.C_alloc ?_ _) | (with_reducible refine Kd.C_drewN ?_ _) | (with_reducible refine Kd.C_drew ?_))); (case side4 => exact (Kd.R_reads' HO290.out).2.1); rintro e w80 ⟨v293, rfl, ho0, hb⟩; refine ⟨_, rfl, ?_⟩; have n0_ := Aside0.mk (Kd.R_elder' (by (with_reducible repeat (first | apply Kd.R_alloc | apply Kd.R_drewN | apply Kd.R_drew)); exact HO_6.out) (Kd.R_base ho0) hb); have n1_ := Aside0.mk (Kd.R_elder' (by (with_reducible repeat (first | apply Kd.R_alloc | apply Kd.R_drewN | apply Kd.R_drew)); exact HO_10.out) (Kd.R_base ho0) hb); have n2_ := Aside0.mk (Kd.R_elder' (by (with_reducible repeat (first | apply Kd.R_alloc | apply Kd.R_drewN | apply Kd.R_drew)); exact HO287.out) (Kd.R_base ho0) hb); have n3_ := Aside0.mk (Kd.R_elder' (by (with_reducible repeat (first | apply Kd.R_alloc | apply Kd.R_drewN | apply Kd.R_drew)); exact HO290.out) (Kd.R_base ho0) hb); have n4_ := Aside0.mk (Kd.R_lower (Kd.R_new' (Kd.R_new' (Kd.R_new' (Kd.R_new' ho0 (Kd.R_lt (by (with_reducible repeat (first | apply Kd.R_alloc | apply Kd.R_drewN | apply Kd.R_drew)); exact HO_6.out))) (Kd.R_lt (by (with_reducible repeat (first | apply Kd.R_alloc | apply Kd.R_drewN | apply Kd.R_drew)); exact HO_10.out))) (Kd.R_lt (by (with_reducible repeat (first | apply Kd.R_alloc | apply Kd.R_drewN | apply Kd.R_drew)); exact HO287.out))) (Kd.R_lt (by (with_reducible repeat (first | apply Kd.R_alloc | apply Kd.R_drewN | apply Kd.R_drew)); exact HO290.out))) (below_size bl_)); have n5_ := Aside0.mk (below_step bl_ hb); clear HO_6; clear HO_10; clear HO287; clear HO290; clear HB; have HO_6 := n0_; have HO_10 := n1_; have HO287 := n2_; have HO290 := n3_; have HO294 := n4_; have HB := n5_; clear n0_ n1_ n2_ n3_ n4_ n5_; (try clear hb); (try clear hb2); (try clear hk); (try clear hi); (try clear ho0)))
     (try simp only [Act.put, List.setIfInBounds_toArray, List.set_cons_zero, List.set_cons_succ])
     go_cut [110] (fun v110 wc => ∃ (kq : Nat) (x110_71 : Bool), v110 = .bool x110_71 ∧ Aside0 (laws_FnExactMergeEvents.j2 kq t283 t282 x110_71 = some r) ∧ Aside0 (kq ≤ kj45) ∧ Aside0 (Kd.R k40 40 wc w.heap.size (fun _ => True) (.slice Ao73 t264.length co73) t283) ∧ Aside0 (Below w.heap.size w wc))
     case first =>
      have H := HC72.out
      clear HC72
      replace H := Option.bind_eq_some_iff.mp H
      obtain ⟨t295, A810, H⟩ := H
      replace H : (if t295 = true then (laws_FnExactMergeEvents.j2 kj45 t283 t282 (t292 != t255)) else (laws_FnExactMergeEvents.j2 kj45 t283 t282 true)) = some r := H
      have A81 := Aside0.mk A810
      clear A810
      by_cases c82 : t295 = true
      ·subst c82
       have H1 : (laws_FnExactMergeEvents.j2 kj45 t283 t282 (t292 != t255)) = some r := by rw [if_pos rfl] at H; exact H
       clear H
       have H := H1
       clear H1
       have H' := Aside0.mk H
       clear H
       obtain ⟨Ao83, co83, eo83⟩ := Kd.R_slice HO294.out
       subst eo83
       obtain ⟨Ao84, co84, eo84⟩ := Kd.R_slice HO_6.out
       subst eo84
       go_wp2_with (first | ((with_reducible refine gate_callee (f := 10) rfl ?_); refine goesL_ (some 104) rfl rfl Try.func10 (by kernel_rfl) rfl #[.slice Ao83 t291.length co83, .slice Ao84 t254.length co84] rfl (by (try simp only [List.map_toArray, List.map_cons, List.map_nil]); first | done | rfl | (simp only [List.length_drop, List.length_take]; rfl)) ?_; (with_reducible refine (laws_eqEventS.calls kj45 _ _ t291 _ _ t254 true _ ?side1 ?side2 ?side3 ?side4 A81.out).mono ?_); (case side1 => repeat (first | exact (Kd.R_reads' HO294.out).2.2 | (with_reducible refine Kd.C_alloc ?_ _) | (with_reducible refine Kd.C_drewN ?_ _) | (with_reducible refine Kd.C_drew ?_))); (case side2 => exact (Kd.R_reads' HO294.out).2.1); (case side3 => repeat (first | exact (Kd.R_reads' HO_6.out).2.2 | (with_reducible refine Kd.C_alloc ?_ _) | (with_reducible refine Kd.C_drewN ?_ _) | (with_reducible refine Kd.C_drew ?_))); (case side4 => exact (Kd.R_reads' HO_6.out).2.1); rintro e w85 ⟨rfl, hb⟩; refine ⟨_, rfl, ?_⟩; have n0_ := Aside0.mk (Kd.R_below (by (with_reducible repeat (first | apply Kd.R_alloc | apply Kd.R_drewN | apply Kd.R_drew)); exact HO_6.out) hb); have n1_ := Aside0.mk (Kd.R_below (by (with_reducible repeat (first | apply Kd.R_alloc | apply Kd.R_drewN | apply Kd.R_drew)); exact HO_10.out) hb); have n2_ := Aside0.mk (Kd.R_below (by (with_reducible repeat (first | apply Kd.R_alloc | apply Kd.R_drewN | apply Kd.R_drew)); exact HO287.out) hb); have n3_ := Aside0.mk (Kd.R_below (by (with_reducible repeat (first | apply Kd.R_alloc | apply Kd.R_drewN | apply Kd.R_drew)); exact HO290.out) hb); have n4_ := Aside0.mk (Kd.R_below (by (with_reducible repeat (first | apply Kd.R_alloc | apply Kd.R_drewN | apply Kd.R_drew)); exact HO294.out) hb); have n5_ := Aside0.mk (below_step bl_ hb); clear HO_6; clear HO_10; clear HO287; clear HO290; clear HO294; clear HB; have HO_6 := n0_; have HO_10 := n1_; have HO287 := n2_; have HO290 := n3_; have HO294 := n4_; have HB := n5_; clear n0_ n1_ n2_ n3_ n4_ n5_; (try clear hb); (try clear hb2); (try clear hk); (try clear hi)))
       go_meet
       case rel => exact ⟨_, ((t292 != t255)), (by first | rfl | (simp; done) | (simp [*]; done)), H', ⟨by have := HJ15.out; have := HJ45.out; first | omega | exact Nat.le_refl _⟩, ⟨by (with_reducible repeat (first | apply Kd.R_alloc | apply Kd.R_drewN | apply Kd.R_drew)); exact Kd.R_mono HO_10.out (fun _ hk => trivial)⟩, ⟨by repeat (first | (with_reducible first | exact HB.out | apply below_alloc | apply pw_below_drewN | apply below_drew1) | exact HB.out)⟩⟩
      replace c82 := Bool.eq_false_iff.mpr c82
      subst c82
      have H1 : (laws_FnExactMergeEvents.j2 kj45 t283 t282 true) = some r := by rw [if_neg (show ¬ (false = true) by decide)] at H; exact H
      clear H
      have H := H1
      clear H1
      have H' := Aside0.mk H
      clear H
      obtain ⟨Ao86, co86, eo86⟩ := Kd.R_slice HO294.out
      subst eo86
      obtain ⟨Ao87, co87, eo87⟩ := Kd.R_slice HO_6.out
      subst eo87
      go_wp2_with (first | ((with_reducible refine gate_callee (f := 10) rfl ?_); refine goesL_ (some 104) rfl rfl Try.func10 (by kernel_rfl) rfl #[.slice Ao86 t291.length co86, .slice Ao87 t254.length co87] rfl (by (try simp only [List.map_toArray, List.map_cons, List.map_nil]); first | done | rfl | (simp only [List.length_drop, List.length_take]; rfl)) ?_; (with_reducible refine (laws_eqEventS.calls kj45 _ _ t291 _ _ t254 false _ ?side1 ?side2 ?side3 ?side4 A81.out).mono ?_); (case side1 => repeat (first | exact (Kd.R_reads' HO294.out).2.2 | (with_reducible refine Kd.C_alloc ?_ _) | (with_reducible refine Kd.C_drewN ?_ _) | (with_reducible refine Kd.C_drew ?_))); (case side2 => exact (Kd.R_reads' HO294.out).2.1); (case side3 => repeat (first | exact (Kd.R_reads' HO_6.out).2.2 | (with_reducible refine Kd.C_alloc ?_ _) | (with_reducible refine Kd.C_drewN ?_ _) | (with_reducible refine Kd.C_drew ?_))); (case side4 => exact (Kd.R_reads' HO_6.out).2.1); rintro e w88 ⟨rfl, hb⟩; refine ⟨_, rfl, ?_⟩; have n0_ := Aside0.mk (Kd.R_below (by (with_reducible repeat (first | apply Kd.R_alloc | apply Kd.R_drewN | apply Kd.R_drew)); exact HO_6.out) hb); have n1_ := Aside0.mk (Kd.R_below (by (with_reducible repeat (first | apply Kd.R_alloc | apply Kd.R_drewN | apply Kd.R_drew)); exact HO_10.out) hb); have n2_ := Aside0.mk (Kd.R_below (by (with_reducible repeat (first | apply Kd.R_alloc | apply Kd.R_drewN | apply Kd.R_drew)); exact HO287.out) hb); have n3_ := Aside0.mk (Kd.R_below (by (with_reducible repeat (first | apply Kd.R_alloc | apply Kd.R_drewN | apply Kd.R_drew)); exact HO290.out) hb); have n4_ := Aside0.mk (Kd.R_below (by (with_reducible repeat (first | apply Kd.R_alloc | apply Kd.R_drewN | apply Kd.R_drew)); exact HO294.out) hb); have n5_ := Aside0.mk (below_step bl_ hb); clear HO_6; clear HO_10; clear HO287; clear HO290; clear HO294; clear HB; have HO_6 := n0_; have HO_10 := n1_; have HO287 := n2_; have HO290 := n3_; have HO294 := n4_; have HB := n5_; clear n0_ n1_ n2_ n3_ n4_ n5_; (try clear hb); (try clear hb2); (try clear hk); (try clear hi)))
      go_meet
      case rel => exact ⟨_, (true), (by first | rfl | (simp; done) | (simp [*]; done)), H', ⟨by have := HJ15.out; have := HJ45.out; first | omega | exact Nat.le_refl _⟩, ⟨by (with_reducible repeat (first | apply Kd.R_alloc | apply Kd.R_drewN | apply Kd.R_drew)); exact Kd.R_mono HO_10.out (fun _ hk => trivial)⟩, ⟨by repeat (first | (with_reducible first | exact HB.out | apply below_alloc | apply pw_below_drewN | apply below_drew1) | exact HB.out)⟩⟩
     case rest =>
      clear HC72
      (try clear c16); (try clear c64); (try clear c67); (try clear c67b0); (try clear c68); (try clear c68b0); (try clear c68b1); (try clear c82)
      obtain ⟨kq, x110_71, rfl, HA, HJ71, HO_10, HB⟩ := hcut
      have hl10_71 := (Kd.R_reads' HO_10.out).1
      rw [hl10_71] at HO_10
      (try simp only [hl10_71])
      cases kq with
      | zero => exact absurd HA.out (by simp [laws_FnExactMergeEvents.j2])
      | succ kj71 =>
       have H := HA.out
       clear HA
       simp only [laws_FnExactMergeEvents.j2] at H
       by_cases c89 : x110_71 = true
       ·subst c89
        have H1 : (some false) = some r := by rw [if_pos rfl] at H; exact H
        clear H
        have H := H1
        clear H1
        obtain rfl := Option.some.inj H
        exact absurd hT_.out (by decide)
       replace c89 := Bool.eq_false_iff.mpr c89
       subst c89
       have H1 : ((laws_heldEventS.f kj71 t283 1).bind fun t296 => (if t296 < 0 then (some false) else (if t296 = t282 then (some true) else (some false)))) = some r := by rw [if_neg (show ¬ (false = true) by decide)] at H; exact H
       clear H
       have H := H1
       clear H1
       replace H := Option.bind_eq_some_iff.mp H
       obtain ⟨t296, A900, H⟩ := H
       replace H : (if t296 < 0 then (some false) else (if t296 = t282 then (some true) else (some false))) = some r := H
       have A90 := Aside0.mk A900
       clear A900
       by_cases c91 : t296 < 0
       ·rw [if_pos c91] at H
        have c91b0 : decide (t296 < 0) = true := decide_eq_true c91
        clear c91
        obtain rfl := Option.some.inj H
        exact absurd hT_.out (by decide)
       rw [if_neg c91] at H
       have c91b0 : decide (t296 < 0) = false := decide_eq_false c91
       clear c91
       by_cases c92 : t296 = t282
       rotate_left
       ·rw [if_neg c92] at H
        have c92b0 : (t296 == t282) = false := beq_eq_false_iff_ne.mpr c92
        have c92b1 : (t296 != t282) = true := bne_iff_ne.mpr c92
        obtain rfl := Option.some.inj H
        exact absurd hT_.out (by decide)
       rw [if_pos c92] at H
       have c92b0 : (t296 == t282) = true := beq_iff_eq.mpr c92
       have c92b1 : (t296 != t282) = false := bne_eq_false_iff_eq.mpr c92
       clear c92
       obtain rfl := Option.some.inj H
       go_wp2_with (first | ((with_reducible refine gate_callee (f := 16) rfl ?_); refine goesL_ (some 113) rfl rfl Try.func16 (by kernel_rfl) rfl #[.slice Ao73 t283.length co73, .int .i64 1] rfl (by (try simp only [List.map_toArray, List.map_cons, List.map_nil]); first | done | rfl | (simp only [List.length_drop, List.length_take]; rfl)) ?_; (with_reducible refine (laws_heldEventS.calls kj71 _ _ t283 1 t296 _ ?side1 ?side2 A90.out).mono ?_); (case side1 => repeat (first | exact (Kd.R_reads' HO_10.out).2.2 | (with_reducible refine Kd.C_alloc ?_ _) | (with_reducible refine Kd.C_drewN ?_ _) | (with_reducible refine Kd.C_drew ?_))); (case side2 => exact (Kd.R_reads' HO_10.out).2.1); rintro e w93 ⟨rfl, hb⟩; refine ⟨_, rfl, ?_⟩; have n0_ := Aside0.mk (Kd.R_below (by (with_reducible repeat (first | apply Kd.R_alloc | apply Kd.R_drewN | apply Kd.R_drew)); exact HO_10.out) hb); have n1_ := Aside0.mk (below_step bl_ hb); clear HO_10; clear HB; have HO_10 := n0_; have HB := n1_; clear n0_ n1_; (try clear hb); (try clear hb2); (try clear hk); (try clear hi)))
       go_ret
       exact ⟨by first | rfl | (simp [errW_none, errW_some] <;> rfl) | (simp [*, errW_none, errW_some] <;> rfl), by repeat (first | (with_reducible first | exact HB.out | apply below_alloc | apply pw_below_drewN | apply below_drew1) | exact HB.out)⟩
def wfT38 (x : S38) : Prop := (fun n_ => (Lit.int .i64 n_).wf = true) x.f0 ∧ (fun n_ => (Lit.int .i64 n_).wf = true) x.f1 ∧ (fun n_ => (Lit.int .i64 n_).wf = true) x.f2 ∧ (fun n_ => (Lit.int .i64 n_).wf = true) x.f3 ∧ (fun s_ => s_.size ≤ 9223372036854775807) x.f4 ∧ (fun n_ => (Lit.int .i64 n_).wf = true) x.f5

/-- THE ONE PURE STATEMENT of laws_FnExactMergeEvents. -/
def laws_FnExactMergeEvents.Pure : Prop := ∀ (l0 : List (S38)) (l1 : List (S38)), (l0.length ≤ 9223372036854775807 ∧ ∀ x ∈ l0, wfT38 x) → (l1.length ≤ 9223372036854775807 ∧ ∀ x ∈ l1, wfT38 x) → ∃ k, laws_FnExactMergeEvents.f k l0 l1 = some true
theorem laws_FnExactMergeEvents.walk (P : laws_FnExactMergeEvents.Pure) (A0 : Option Addr) (c0 : Nat) (l0 : List (S38)) (A1 : Option Addr) (c1 : Nat) (l1 : List (S38)) (w : World) (hr0 : Kd.C k38 w A0 l0.length l0) (hc0 : l0.length ≤ c0) (hr1 : Kd.C k38 w A1 l1.length l1) (hc1 : l1.length ≤ c1) (hw0 : (l0.length ≤ 9223372036854775807 ∧ ∀ x ∈ l0, wfT38 x)) (hw1 : (l1.length ≤ 9223372036854775807 ∧ ∀ x ∈ l1, wfT38 x)) :
  Calls Try.prog 5 #[.slice A0 l0.length c0, .slice A1 l1.length c1] w fun e w' => e = .returned (.bool true) ∧ Below w.heap.size w w' := by
 obtain ⟨k, h⟩ := P l0 l1 hw0 hw1
 refine (laws_FnExactMergeEvents.calls k A0 c0 l0 A1 c1 l1 true w hr0 hc0 hr1 hc1 h rfl).mono ?_
 rintro e w' ⟨rfl, hd⟩
 exact ⟨rfl, hd⟩

end Go.Proofs.Ytnpfeigdghecfaa.XFnExactMergeEvents
