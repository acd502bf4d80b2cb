-- PRINTED by xprint.py (our own program, over the kit's print.py)
import Derived.Laws.Cover1
import Derived.Test.YtkiooiijnolocaaXFnThreeWayx0
import Derived.Test.YtkiooiijnolocaaXFnThreeWayx1
import Derived.Test.YtkiooiijnolocaaXFnThreeWayx2
import Derived.Test.YtkiooiijnolocaaXFnThreeWayx6
import Derived.Test.YtkiooiijnolocaaPu
namespace Go.Proofs.Ytkiooiijnolocaa.XFnThreeWay
open Go.RowKit Go.Proofs.YtkiooiijnolocaaW.PrintWords Go.Proofs.YtkiooiijnolocaaW.PrintLast Go.Proofs.YtkiooiijnolocaaW.PrintMore Go.Proofs.YtkiooiijnolocaaW.Idx
attribute [local go_sem] max2_int min2_int max_two min_two max_three min_three max_four min_four   -- for this text's walks alone
set_option linter.unusedVariables false
set_option linter.unusedSimpArgs false

attribute [local go_sem high] eqA51
/-! ### laws_FnThreeWay: function 6 -/
mutual
def laws_FnThreeWay.j0 : Nat → List (S102) → List (S51) → List (S51) → Bool → Option (Bool)
 | 0, _, _, _, _ => none
 | k + 1, x3, x6, x8, x52 => if x52 = true then (some false) else (laws_FnThreeWay.l0 k x3 x6 x8 0)
def laws_FnThreeWay.l0 : Nat → List (S102) → List (S51) → List (S51) → Int → Option (Bool)
 | 0, _, _, _, _ => none
 | k + 1, x3, x6, x8, x10 => if x10 < (x6.length : Int) then (if 0 ≤ x10 then (if x10 < (x8.length : Int) then (if (!((((rd_T51 x6 x10).f0).toList) == (((rd_T51 x8 x10).f0).toList)) || (!(((rd_T51 x6 x10).f1) == ((rd_T51 x8 x10).f1)))) = true then (some false) else (if x10 > 0 then (if 0 ≤ (wrap64 (x10 - 1)) then (if (wrap64 (x10 - 1)) < (x6.length : Int) then (if ((Op.bytesLess (((rd_T51 x6 (wrap64 (x10 - 1))).f0).toList) (((rd_T51 x6 x10).f0).toList)) = true) then (laws_FnThreeWay.l0 k x3 x6 x8 (wrap64 (x10 + 1))) else (some false)) else (none)) else (none)) else (laws_FnThreeWay.l0 k x3 x6 x8 (wrap64 (x10 + 1))))) else (none)) else (none)) else ((impl_ThreeWay.f k x3 x3 x3).bind fun bt263 => (if bt263.2 = 0 then (laws_FnThreeWay.j2 k bt263.1 ((bt263.1.length : Int) != (x3.length : Int))) else (laws_FnThreeWay.j2 k bt263.1 true)))
def laws_FnThreeWay.j2 : Nat → List (S51) → Bool → Option (Bool)
 | 0, _, _ => none
 | k + 1, x11, x101 => if x101 = true then (some false) else (laws_FnThreeWay.l1 k x11 0)
def laws_FnThreeWay.l1 : Nat → List (S51) → Int → Option (Bool)
 | 0, _, _ => none
 | k + 1, x11, x13 => if x13 < (x11.length : Int) then (if 0 ≤ x13 then (if ((rd_T51 x11 x13).f1) = 0 then (laws_FnThreeWay.l1 k x11 (wrap64 (x13 + 1))) else (some false)) else (none)) else (some true)
end
def laws_FnThreeWay.g (k : Nat) (l0 : List (S102)) (l1 : List (S102)) (l2 : List (S102)) : Option (Bool) := (impl_ThreeWay.f k l0 l1 l2).bind fun bt242 => ((laws_turned.f k l0).bind fun t246 => ((laws_turned.f k l1).bind fun t249 => ((laws_turned.f k l2).bind fun t252 => ((impl_ThreeWay.f k t246 t249 t252).bind fun bt255 => (if bt242.2 = 0 then (if bt255.2 = 0 then (laws_FnThreeWay.j0 k l0 bt242.1 bt255.1 ((bt242.1.length : Int) != (bt255.1.length : Int))) else (laws_FnThreeWay.j0 k l0 bt242.1 bt255.1 true)) else (laws_FnThreeWay.j0 k l0 bt242.1 bt255.1 true))))))
theorem laws_FnThreeWay.gmono_l : ∀ k, (∀ y0 y1 y2 y3, LeO (laws_FnThreeWay.j0 k y0 y1 y2 y3) (laws_FnThreeWay.j0 (k + 1) y0 y1 y2 y3)) ∧ (∀ y0 y1 y2 y3, LeO (laws_FnThreeWay.l0 k y0 y1 y2 y3) (laws_FnThreeWay.l0 (k + 1) y0 y1 y2 y3)) ∧ (∀ y0 y1, LeO (laws_FnThreeWay.j2 k y0 y1) (laws_FnThreeWay.j2 (k + 1) y0 y1)) ∧ (∀ y0 y1, LeO (laws_FnThreeWay.l1 k y0 y1) (laws_FnThreeWay.l1 (k + 1) y0 y1))
 | 0 => ⟨fun _ _ _ _ r h => by simp [laws_FnThreeWay.j0] at h, fun _ _ _ _ r h => by simp [laws_FnThreeWay.l0] at h, fun _ _ r h => by simp [laws_FnThreeWay.j2] at h, fun _ _ r h => by simp [laws_FnThreeWay.l1] at h⟩
 | k + 1 => by
  obtain ⟨ih0, ih1, ih2, ih3⟩ := laws_FnThreeWay.gmono_l k
  refine ⟨?_, ?_, ?_, ?_⟩
  ·intro y0 y1 y2 y3
   unfold laws_FnThreeWay.j0
   repeat' first
   | (with_reducible exact ih0 _ _ _ _)
   | (with_reducible exact ih1 _ _ _ _)
   | (with_reducible exact ih2 _ _)
   | (with_reducible exact ih3 _ _)
   | (with_reducible exact impl_ThreeWay.mono _ _ _ _)
   | (with_reducible exact laws_turned.mono _ _)
   | (with_reducible exact LeO.refl _)
   | (with_reducible exact LeO.none _)
   | (with_reducible refine LeO.ite ?_ ?_)
   | (with_reducible refine LeO.bind ?_ (fun _ => ?_))
   | exact ih0 _ _ _ _
   | exact ih1 _ _ _ _
   | exact ih2 _ _
   | exact ih3 _ _
   | exact impl_ThreeWay.mono _ _ _ _
   | exact laws_turned.mono _ _
   | exact LeO.none _
   | refine LeO.ite ?_ ?_
   | refine LeO.bind ?_ (fun _ => ?_)
  ·intro y0 y1 y2 y3
   unfold laws_FnThreeWay.l0
   repeat' first
   | (with_reducible exact ih0 _ _ _ _)
   | (with_reducible exact ih1 _ _ _ _)
   | (with_reducible exact ih2 _ _)
   | (with_reducible exact ih3 _ _)
   | (with_reducible exact impl_ThreeWay.mono _ _ _ _)
   | (with_reducible exact laws_turned.mono _ _)
   | (with_reducible exact LeO.refl _)
   | (with_reducible exact LeO.none _)
   | (with_reducible refine LeO.ite ?_ ?_)
   | (with_reducible refine LeO.bind ?_ (fun _ => ?_))
   | exact ih0 _ _ _ _
   | exact ih1 _ _ _ _
   | exact ih2 _ _
   | exact ih3 _ _
   | exact impl_ThreeWay.mono _ _ _ _
   | exact laws_turned.mono _ _
   | exact LeO.none _
   | refine LeO.ite ?_ ?_
   | refine LeO.bind ?_ (fun _ => ?_)
  ·intro y0 y1
   unfold laws_FnThreeWay.j2
   repeat' first
   | (with_reducible exact ih0 _ _ _ _)
   | (with_reducible exact ih1 _ _ _ _)
   | (with_reducible exact ih2 _ _)
   | (with_reducible exact ih3 _ _)
   | (with_reducible exact impl_ThreeWay.mono _ _ _ _)
   | (with_reducible exact laws_turned.mono _ _)
   | (with_reducible exact LeO.refl _)
   | (with_reducible exact LeO.none _)
   | (with_reducible refine LeO.ite ?_ ?_)
   | (with_reducible refine LeO.bind ?_ (fun _ => ?_))
   | exact ih0 _ _ _ _
   | exact ih1 _ _ _ _
   | exact ih2 _ _
   | exact ih3 _ _
   | exact impl_ThreeWay.mono _ _ _ _
   | exact laws_turned.mono _ _
   | exact LeO.none _
   | refine LeO.ite ?_ ?_
   | refine LeO.bind ?_ (fun _ => ?_)
  ·intro y0 y1
   unfold laws_FnThreeWay.l1
   repeat' first
   | (with_reducible exact ih0 _ _ _ _)
   | (with_reducible exact ih1 _ _ _ _)
   | (with_reducible exact ih2 _ _)
   | (with_reducible exact ih3 _ _)
   | (with_reducible exact impl_ThreeWay.mono _ _ _ _)
   | (with_reducible exact laws_turned.mono _ _)
   | (with_reducible exact LeO.refl _)
   | (with_reducible exact LeO.none _)
   | (with_reducible refine LeO.ite ?_ ?_)
   | (with_reducible refine LeO.bind ?_ (fun _ => ?_))
   | exact ih0 _ _ _ _
   | exact ih1 _ _ _ _
   | exact ih2 _ _
   | exact ih3 _ _
   | exact impl_ThreeWay.mono _ _ _ _
   | exact laws_turned.mono _ _
   | exact LeO.none _
   | refine LeO.ite ?_ ?_
   | refine LeO.bind ?_ (fun _ => ?_)
theorem laws_FnThreeWay.gmono : ∀ a0 a1 a2 k, LeO (laws_FnThreeWay.g k a0 a1 a2) (laws_FnThreeWay.g (k + 1) a0 a1 a2) := by
 intro a0 a1 a2 k
 obtain ⟨ih0, ih1, ih2, ih3⟩ := laws_FnThreeWay.gmono_l k
 unfold laws_FnThreeWay.g
 repeat' first
   | (with_reducible exact ih0 _ _ _ _)
   | (with_reducible exact ih1 _ _ _ _)
   | (with_reducible exact ih2 _ _)
   | (with_reducible exact ih3 _ _)
   | (with_reducible exact impl_ThreeWay.mono _ _ _ _)
   | (with_reducible exact laws_turned.mono _ _)
   | (with_reducible exact LeO.refl _)
   | (with_reducible exact LeO.none _)
   | (with_reducible refine LeO.ite ?_ ?_)
   | (with_reducible refine LeO.bind ?_ (fun _ => ?_))
   | exact ih0 _ _ _ _
   | exact ih1 _ _ _ _
   | exact ih2 _ _
   | exact ih3 _ _
   | exact impl_ThreeWay.mono _ _ _ _
   | exact laws_turned.mono _ _
   | exact LeO.none _
   | refine LeO.ite ?_ ?_
   | refine LeO.bind ?_ (fun _ => ?_)
def laws_FnThreeWay.f (k : Nat) (l0 : List Int) : Option (Bool) := if (l0.length : Int) > 1048576 then (some true) else ((spec_DocsOf.f k l0).bind fun v => (if v.length = 3 then (laws_FnThreeWay.g k (rd_L4 v 0) (rd_L4 v 1) (rd_L4 v 2)) else none))
theorem laws_FnThreeWay.mono : ∀ a0 k, LeO (laws_FnThreeWay.f k a0) (laws_FnThreeWay.f (k + 1) a0) := by
 intro a0 k
 unfold laws_FnThreeWay.f
 repeat' first
   | (with_reducible exact spec_DocsOf.mono _ _)
   | (with_reducible exact laws_FnThreeWay.gmono _ _ _ _)
   | (with_reducible exact LeO.refl _)
   | (with_reducible exact LeO.none _)
   | (with_reducible refine LeO.ite ?_ ?_)
   | (with_reducible refine LeO.bind ?_ (fun _ => ?_))
set_option maxHeartbeats 8000000 in
set_option maxRecDepth 100000 in
theorem laws_FnThreeWay.calls (k : Nat) (AZ : Option Addr) (cZ : Nat) (lZ : List Int) (r : Bool) (wz : World) (hrz : Kd.C (Kd.int .u8) wz AZ lZ.length lZ) (hcz : lZ.length ≤ cZ) (h : laws_FnThreeWay.f k lZ = some r) (hT0 : r = true) :
  Calls Try.prog 6 #[.slice AZ lZ.length cZ] wz fun e w' => e = .returned (.bool r) ∧ Below wz.heap.size wz w' := by
 have hu51 := Try.underlying51
 have HRZ := Aside0.mk hrz
 have HCZ := Aside0.mk hcz
 have HBY := Aside0.mk (Below.refl wz.heap.size wz)
 clear hrz hcz
 unfold laws_FnThreeWay.f at h
 by_cases cz1 : (lZ.length : Int) > 1048576
 ·rw [if_pos cz1] at h
  have bz1 : decide ((1048576 : Int) < (lZ.length : Int)) = true := decide_eq_true cz1
  clear cz1
  obtain rfl := Option.some.inj h
  go_enter Try.func6, Try.ntmps6
  go_wp2
  go_ret
  exact ⟨by first | rfl | (simp; done), HBY.out⟩
 rw [if_neg cz1] at h
 have bz1 : decide ((1048576 : Int) < (lZ.length : Int)) = false := decide_eq_false cz1
 clear cz1
 obtain ⟨vz, AZ0, h⟩ := Option.bind_eq_some_iff.mp h
 by_cases cz2 : vz.length = 3
 rotate_left
 ·rw [if_neg cz2] at h
  cases h
 rw [if_pos cz2] at h
 have FZ := Aside0.mk AZ0
 have LZ3 := Aside0.mk cz2
 clear AZ0 cz2
 obtain ⟨l0, hl0⟩ : ∃ z_, z_ = rd_L4 vz 0 := ⟨_, rfl⟩
 obtain ⟨l1, hl1⟩ : ∃ z_, z_ = rd_L4 vz 1 := ⟨_, rfl⟩
 obtain ⟨l2, hl2⟩ : ∃ z_, z_ = rd_L4 vz 2 := ⟨_, rfl⟩
 rw [← hl0, ← hl1, ← hl2] at h
 have EL0 := Aside0.mk hl0
 have EL1 := Aside0.mk hl1
 have EL2 := Aside0.mk hl2
 have hh := Aside0.mk h
 have hT_ := Aside0.mk hT0
 clear hl0 hl1 hl2 h hT0
 go_enter Try.func6, Try.ntmps6
 go_upto_region 4 with (first | (go_at_call 21; (with_reducible refine (spec_DocsOf.calls k _ _ lZ vz _ ?s1 ?s2 FZ.out LZ3.out).mono ?_); (case s1 => exact HRZ.out); (case s2 => exact HCZ.out); rintro e w ⟨A0, c0, A1, c1, A2, c2, rfl, hr0, hc0, hr1, hc1, hr2, hc2, hb⟩; rw [← EL0.out] at hr0 hc0; rw [← EL1.out] at hr1 hc1; rw [← EL2.out] at hr2 hc2; rw [← EL0.out, ← EL1.out, ← EL2.out]; have HBZ := Aside0.mk (below_step HBY.out hb); have HR0 := Aside0.mk hr0; have HC0 := Aside0.mk hc0; have HR1 := Aside0.mk hr1; have HC1 := Aside0.mk hc1; have HR2 := Aside0.mk hr2; have HC2 := Aside0.mk hc2; clear hb hr0 hc0 hr1 hc1 hr2 hc2))
 (try simp only [Act.put, List.setIfInBounds_toArray, List.set_cons_zero, List.set_cons_succ])
 have HB := Aside0.mk (Below.refl w.heap.size w)
 have H : ((impl_ThreeWay.f k l0 l1 l2).bind fun bt242 => ((laws_turned.f k l0).bind fun t246 => ((laws_turned.f k l1).bind fun t249 => ((laws_turned.f k l2).bind fun t252 => ((impl_ThreeWay.f k t246 t249 t252).bind fun bt255 => (if bt242.2 = 0 then (if bt255.2 = 0 then (laws_FnThreeWay.j0 k l0 bt242.1 bt255.1 ((bt242.1.length : Int) != (bt255.1.length : Int))) else (laws_FnThreeWay.j0 k l0 bt242.1 bt255.1 true)) else (laws_FnThreeWay.j0 k l0 bt242.1 bt255.1 true))))))) = some r := hh.out
 replace H := Option.bind_eq_some_iff.mp H
 obtain ⟨⟨t242, t245⟩, A40, H⟩ := H
 replace H : ((laws_turned.f k l0).bind fun t246 => ((laws_turned.f k l1).bind fun t249 => ((laws_turned.f k l2).bind fun t252 => ((impl_ThreeWay.f k t246 t249 t252).bind fun bt255 => (if t245 = 0 then (if bt255.2 = 0 then (laws_FnThreeWay.j0 k l0 t242 bt255.1 ((t242.length : Int) != (bt255.1.length : Int))) else (laws_FnThreeWay.j0 k l0 t242 bt255.1 true)) else (laws_FnThreeWay.j0 k l0 t242 bt255.1 true)))))) = some r := H
 have A4 := Aside0.mk A40
 clear A40
 replace H := Option.bind_eq_some_iff.mp H
 obtain ⟨t246, A50, H⟩ := H
 replace H : ((laws_turned.f k l1).bind fun t249 => ((laws_turned.f k l2).bind fun t252 => ((impl_ThreeWay.f k t246 t249 t252).bind fun bt255 => (if t245 = 0 then (if bt255.2 = 0 then (laws_FnThreeWay.j0 k l0 t242 bt255.1 ((t242.length : Int) != (bt255.1.length : Int))) else (laws_FnThreeWay.j0 k l0 t242 bt255.1 true)) else (laws_FnThreeWay.j0 k l0 t242 bt255.1 true))))) = some r := H
 have A5 := Aside0.mk A50
 clear A50
 replace H := Option.bind_eq_some_iff.mp H
 obtain ⟨t249, A60, H⟩ := H
 replace H : ((laws_turned.f k l2).bind fun t252 => ((impl_ThreeWay.f k t246 t249 t252).bind fun bt255 => (if t245 = 0 then (if bt255.2 = 0 then (laws_FnThreeWay.j0 k l0 t242 bt255.1 ((t242.length : Int) != (bt255.1.length : Int))) else (laws_FnThreeWay.j0 k l0 t242 bt255.1 true)) else (laws_FnThreeWay.j0 k l0 t242 bt255.1 true)))) = some r := H
 have A6 := Aside0.mk A60
 clear A60
 replace H := Option.bind_eq_some_iff.mp H
 obtain ⟨t252, A70, H⟩ := H
 replace H : ((impl_ThreeWay.f k t246 t249 t252).bind fun bt255 => (if t245 = 0 then (if bt255.2 = 0 then (laws_FnThreeWay.j0 k l0 t242 bt255.1 ((t242.length : Int) != (bt255.1.length : Int))) else (laws_FnThreeWay.j0 k l0 t242 bt255.1 true)) else (laws_FnThreeWay.j0 k l0 t242 bt255.1 true))) = some r := H
 have A7 := Aside0.mk A70
 clear A70
 replace H := Option.bind_eq_some_iff.mp H
 obtain ⟨⟨t255, t258⟩, A80, H⟩ := H
 replace H : (if t245 = 0 then (if t258 = 0 then (laws_FnThreeWay.j0 k l0 t242 t255 ((t242.length : Int) != (t255.length : Int))) else (laws_FnThreeWay.j0 k l0 t242 t255 true)) else (laws_FnThreeWay.j0 k l0 t242 t255 true)) = some r := H
 have A8 := Aside0.mk A80
 clear A80
 have HC9 := Aside0.mk H
 clear H
 go_upto_region 6 with (first | (go_at_call 22; (with_reducible refine (impl_ThreeWay.calls k (fun k_ => k_ < w.heap.size) _ _ l0 (fun k_ => k_ < w.heap.size) _ _ l1 (fun k_ => k_ < w.heap.size) _ _ l2 t242 t245 _ ?side1 ?side2 ?side3 A4.out).mono ?_); (case side1 => exact Kd.V_mk HC0.out (Kd.F_below (Kd.C_F k102_heap HR0.out) bl_)); (case side2 => exact Kd.V_mk HC1.out (Kd.F_below (Kd.C_F k102_heap HR1.out) bl_)); (case side3 => exact Kd.V_mk HC2.out (Kd.F_below (Kd.C_F k102_heap HR2.out) bl_)); rintro e w10 ⟨v243, rfl, ho0, hb⟩; have n0_ := Aside0.mk (Kd.R_lower (Kd.R_mono (ok' := fun k_ => True) ho0 (fun _ hk_ => trivial)) (below_size bl_)); have n1_ := Aside0.mk (below_step bl_ hb); clear HB; have HO244 := n0_; have HB := n1_; clear n0_ n1_; (try clear hb); (try clear hb2); (try clear hk); (try clear hi); (try clear ho0)) | (go_at_call 23; (with_reducible refine (laws_turned.calls k _ _ l0 t246 _ ?side1 ?side2 A5.out).mono ?_); (case side1 => repeat (first | exact (Kd.C_below HR0.out HB.out) | (with_reducible refine Kd.C_alloc ?_ _) | (with_reducible refine Kd.C_drewN ?_ _) | (with_reducible refine Kd.C_drew ?_))); (case side2 => exact HC0.out); rintro e w11 ⟨v247, rfl, ho0, hb⟩; have n0_ := Aside0.mk (Kd.R_below (by (with_reducible repeat (first | apply Kd.R_alloc | apply Kd.R_drewN | apply Kd.R_drew)); exact HO244.out) hb); have n1_ := Aside0.mk (Kd.R_lower ho0 (below_size bl_)); have n2_ := Aside0.mk (below_step bl_ hb); clear HO244; clear HB; have HO244 := n0_; have HO248 := n1_; have HB := n2_; clear n0_ n1_ n2_; (try clear hb); (try clear hb2); (try clear hk); (try clear hi); (try clear ho0)) | (go_at_call 23; (with_reducible refine (laws_turned.calls k _ _ l1 t249 _ ?side1 ?side2 A6.out).mono ?_); (case side1 => repeat (first | exact (Kd.C_below HR1.out HB.out) | (with_reducible refine Kd.C_alloc ?_ _) | (with_reducible refine Kd.C_drewN ?_ _) | (with_reducible refine Kd.C_drew ?_))); (case side2 => exact HC1.out); rintro e w12 ⟨v250, rfl, ho0, hb⟩; have n0_ := Aside0.mk (Kd.R_below (by (with_reducible repeat (first | apply Kd.R_alloc | apply Kd.R_drewN | apply Kd.R_drew)); exact HO244.out) hb); have n1_ := Aside0.mk (Kd.R_elder' (by (with_reducible repeat (first | apply Kd.R_alloc | apply Kd.R_drewN | apply Kd.R_drew)); exact HO248.out) (Kd.R_base ho0) hb); have n2_ := Aside0.mk (Kd.R_lower (Kd.R_new' ho0 (Kd.R_lt (by (with_reducible repeat (first | apply Kd.R_alloc | apply Kd.R_drewN | apply Kd.R_drew)); exact HO248.out))) (below_size bl_)); have n3_ := Aside0.mk (below_step bl_ hb); clear HO244; clear HO248; clear HB; have HO244 := n0_; have HO248 := n1_; have HO251 := n2_; have HB := n3_; clear n0_ n1_ n2_ n3_; (try clear hb); (try clear hb2); (try clear hk); (try clear hi); (try clear ho0)) | (go_at_call 23; (with_reducible refine (laws_turned.calls k _ _ l2 t252 _ ?side1 ?side2 A7.out).mono ?_); (case side1 => repeat (first | exact (Kd.C_below HR2.out HB.out) | (with_reducible refine Kd.C_alloc ?_ _) | (with_reducible refine Kd.C_drewN ?_ _) | (with_reducible refine Kd.C_drew ?_))); (case side2 => exact HC2.out); rintro e w13 ⟨v253, rfl, ho0, hb⟩; have n0_ := Aside0.mk (Kd.R_below (by (with_reducible repeat (first | apply Kd.R_alloc | apply Kd.R_drewN | apply Kd.R_drew)); exact HO244.out) hb); have n1_ := Aside0.mk (Kd.R_elder' (by (with_reducible repeat (first | apply Kd.R_alloc | apply Kd.R_drewN | apply Kd.R_drew)); exact HO248.out) (Kd.R_base ho0) hb); have n2_ := Aside0.mk (Kd.R_elder' (by (with_reducible repeat (first | apply Kd.R_alloc | apply Kd.R_drewN | apply Kd.R_drew)); exact HO251.out) (Kd.R_base ho0) hb); have n3_ := Aside0.mk (Kd.R_lower (Kd.R_new' (Kd.R_new' ho0 (Kd.R_lt (by (with_reducible repeat (first | apply Kd.R_alloc | apply Kd.R_drewN | apply Kd.R_drew)); exact HO248.out))) (Kd.R_lt (by (with_reducible repeat (first | apply Kd.R_alloc | apply Kd.R_drewN | apply Kd.R_drew)); exact HO251.out))) (below_size bl_)); have n4_ := Aside0.mk (below_step bl_ hb); clear HO244; clear HO248; clear HO251; clear HB; have HO244 := n0_; have HO248 := n1_; have HO251 := n2_; have HO254 := n3_; have HB := n4_; clear n0_ n1_ n2_ n3_ n4_; (try clear hb); (try clear hb2); (try clear hk); (try clear hi); (try clear ho0); obtain ⟨Ao14, co14, eo14⟩ := Kd.R_slice HO248.out; subst eo14; obtain ⟨Ao15, co15, eo15⟩ := Kd.R_slice HO251.out; subst eo15; obtain ⟨Ao16, co16, eo16⟩ := Kd.R_slice HO254.out; subst eo16) | (go_at_call 22; (with_reducible refine (impl_ThreeWay.calls k (fun k_ => some k_ = (.slice Ao14 t246.length co14 : Value).ownBlock) _ _ t246 (fun k_ => some k_ = (.slice Ao15 t249.length co15 : Value).ownBlock) _ _ t249 (fun k_ => some k_ = (.slice Ao16 t252.length co16 : Value).ownBlock) _ _ t252 t255 t258 _ ?side1 ?side2 ?side3 A8.out).mono ?_); (case side1 => exact Kd.R_V (Kd.R_tight rfl (Kd.R_apart' (HO248.out) (Kd.R_typed HO244.out) (by decide)))); (case side2 => exact Kd.R_V (Kd.R_tight rfl (Kd.R_apart' (HO251.out) (Kd.R_typed HO244.out) (by decide)))); (case side3 => exact Kd.R_V (Kd.R_tight rfl (Kd.R_apart' (HO254.out) (Kd.R_typed HO244.out) (by decide)))); rintro e w17 ⟨v256, rfl, ho0, hb⟩; have n0_ := Aside0.mk (Kd.R_elder' (by (with_reducible repeat (first | apply Kd.R_alloc | apply Kd.R_drewN | apply Kd.R_drew)); exact HO244.out) (Kd.R_base ho0) hb); have n1_ := Aside0.mk (Kd.R_below (by (with_reducible repeat (first | apply Kd.R_alloc | apply Kd.R_drewN | apply Kd.R_drew)); exact HO248.out) hb); have n2_ := Aside0.mk (Kd.R_below (by (with_reducible repeat (first | apply Kd.R_alloc | apply Kd.R_drewN | apply Kd.R_drew)); exact HO251.out) hb); have n3_ := Aside0.mk (Kd.R_below (by (with_reducible repeat (first | apply Kd.R_alloc | apply Kd.R_drewN | apply Kd.R_drew)); exact HO254.out) hb); have n4_ := Aside0.mk (Kd.R_lower (Kd.R_new' (Kd.R_mono (ok' := fun k_ => True) ho0 (fun _ hk_ => trivial)) (Kd.R_lt (by (with_reducible repeat (first | apply Kd.R_alloc | apply Kd.R_drewN | apply Kd.R_drew)); exact HO244.out))) (below_size bl_)); have n5_ := Aside0.mk (below_step bl_ hb); clear HO244; clear HO248; clear HO251; clear HO254; clear HB; have HO244 := n0_; have HO248 := n1_; have HO251 := n2_; have HO254 := n3_; have HO257 := n4_; have HB := n5_; clear n0_ n1_ n2_ n3_ n4_ n5_; (try clear hb); (try clear hb2); (try clear hk); (try clear hi); (try clear ho0)))
 repeat (go_quiet (first | (go_at_call 22; (with_reducible refine (impl_ThreeWay.calls k (fun k_ => k_ < w.heap.size) _ _ l0 (fun k_ => k_ < w.heap.size) _ _ l1 (fun k_ => k_ < w.heap.size) _ _ l2 t242 t245 _ ?side1 ?side2 ?side3 A4.out).mono ?_); (case side1 => exact Kd.V_mk HC0.out (Kd.F_below (Kd.C_F k102_heap HR0.out) bl_)); (case side2 => exact Kd.V_mk HC1.out (Kd.F_below (Kd.C_F k102_heap HR1.out) bl_)); (case side3 => exact Kd.V_mk HC2.out (Kd.F_below (Kd.C_F k102_heap HR2.out) bl_)); rintro e w10 ⟨v243, rfl, ho0, hb⟩; have n0_ := Aside0.mk (Kd.R_lower (Kd.R_mono (ok' := fun k_ => True) ho0 (fun _ hk_ => trivial)) (below_size bl_)); have n1_ := Aside0.mk (below_step bl_ hb); clear HB; have HO244 := n0_; have HB := n1_; clear n0_ n1_; (try clear hb); (try clear hb2); (try clear hk); (try clear hi); (try clear ho0)) | (go_at_call 23; (with_reducible refine (laws_turned.calls k _ _ l0 t246 _ ?side1 ?side2 A5.out).mono ?_); (case side1 => repeat (first | exact (Kd.C_below HR0.out HB.out) | (with_reducible refine Kd.C_alloc ?_ _) | (with_reducible refine Kd.C_drewN ?_ _) | (with_reducible refine Kd.C_drew ?_))); (case side2 => exact HC0.out); rintro e w11 ⟨v247, rfl, ho0, hb⟩; have n0_ := Aside0.mk (Kd.R_below (by (with_reducible repeat (first | apply Kd.R_alloc | apply Kd.R_drewN | apply Kd.R_drew)); exact HO244.out) hb); have n1_ := Aside0.mk (Kd.R_lower ho0 (below_size bl_)); have n2_ := Aside0.mk (below_step bl_ hb); clear HO244; clear HB; have HO244 := n0_; have HO248 := n1_; have HB := n2_; clear n0_ n1_ n2_; (try clear hb); (try clear hb2); (try clear hk); (try clear hi); (try clear ho0)) | (go_at_call 23; (with_reducible refine (laws_turned.calls k _ _ l1 t249 _ ?side1 ?side2 A6.out).mono ?_); (case side1 => repeat (first | exact (Kd.C_below HR1.out HB.out) | (with_reducible refine Kd.C_alloc ?_ _) | (with_reducible refine Kd.C_drewN ?_ _) | (with_reducible refine Kd.C_drew ?_))); (case side2 => exact HC1.out); rintro e w12 ⟨v250, rfl, ho0, hb⟩; have n0_ := Aside0.mk (Kd.R_below (by (with_reducible repeat (first | apply Kd.R_alloc | apply Kd.R_drewN | apply Kd.R_drew)); exact HO244.out) hb); have n1_ := Aside0.mk (Kd.R_elder' (by (with_reducible repeat (first | apply Kd.R_alloc | apply Kd.R_drewN | apply Kd.R_drew)); exact HO248.out) (Kd.R_base ho0) hb); have n2_ := Aside0.mk (Kd.R_lower (Kd.R_new' ho0 (Kd.R_lt (by (with_reducible repeat (first | apply Kd.R_alloc | apply Kd.R_drewN | apply Kd.R_drew)); exact HO248.out))) (below_size bl_)); have n3_ := Aside0.mk (below_step bl_ hb); clear HO244; clear HO248; clear HB; have HO244 := n0_; have HO248 := n1_; have HO251 := n2_; have HB := n3_; clear n0_ n1_ n2_ n3_; (try clear hb); (try clear hb2); (try clear hk); (try clear hi); (try clear ho0)) | (go_at_call 23; (with_reducible refine (laws_turned.calls k _ _ l2 t252 _ ?side1 ?side2 A7.out).mono ?_); (case side1 => repeat (first | exact (Kd.C_below HR2.out HB.out) | (with_reducible refine Kd.C_alloc ?_ _) | (with_reducible refine Kd.C_drewN ?_ _) | (with_reducible refine Kd.C_drew ?_))); (case side2 => exact HC2.out); rintro e w13 ⟨v253, rfl, ho0, hb⟩; have n0_ := Aside0.mk (Kd.R_below (by (with_reducible repeat (first | apply Kd.R_alloc | apply Kd.R_drewN | apply Kd.R_drew)); exact HO244.out) hb); have n1_ := Aside0.mk (Kd.R_elder' (by (with_reducible repeat (first | apply Kd.R_alloc | apply Kd.R_drewN | apply Kd.R_drew)); exact HO248.out) (Kd.R_base ho0) hb); have n2_ := Aside0.mk (Kd.R_elder' (by (with_reducible repeat (first | apply Kd.R_alloc | apply Kd.R_drewN | apply Kd.R_drew)); exact HO251.out) (Kd.R_base ho0) hb); have n3_ := Aside0.mk (Kd.R_lower (Kd.R_new' (Kd.R_new' ho0 (Kd.R_lt (by (with_reducible repeat (first | apply Kd.R_alloc | apply Kd.R_drewN | apply Kd.R_drew)); exact HO248.out))) (Kd.R_lt (by (with_reducible repeat (first | apply Kd.R_alloc | apply Kd.R_drewN | apply Kd.R_drew)); exact HO251.out))) (below_size bl_)); have n4_ := Aside0.mk (below_step bl_ hb); clear HO244; clear HO248; clear HO251; clear HB; have HO244 := n0_; have HO248 := n1_; have HO251 := n2_; have HO254 := n3_; have HB := n4_; clear n0_ n1_ n2_ n3_ n4_; (try clear hb); (try clear hb2); (try clear hk); (try clear hi); (try clear ho0); obtain ⟨Ao14, co14, eo14⟩ := Kd.R_slice HO248.out; subst eo14; obtain ⟨Ao15, co15, eo15⟩ := Kd.R_slice HO251.out; subst eo15; obtain ⟨Ao16, co16, eo16⟩ := Kd.R_slice HO254.out; subst eo16) | (go_at_call 22; (with_reducible refine (impl_ThreeWay.calls k (fun k_ => some k_ = (.slice Ao14 t246.length co14 : Value).ownBlock) _ _ t246 (fun k_ => some k_ = (.slice Ao15 t249.length co15 : Value).ownBlock) _ _ t249 (fun k_ => some k_ = (.slice Ao16 t252.length co16 : Value).ownBlock) _ _ t252 t255 t258 _ ?side1 ?side2 ?side3 A8.out).mono ?_); (case side1 => exact Kd.R_V (Kd.R_tight rfl (Kd.R_apart' (HO248.out) (Kd.R_typed HO244.out) (by decide)))); (case side2 => exact Kd.R_V (Kd.R_tight rfl (Kd.R_apart' (HO251.out) (Kd.R_typed HO244.out) (by decide)))); (case side3 => exact Kd.R_V (Kd.R_tight rfl (Kd.R_apart' (HO254.out) (Kd.R_typed HO244.out) (by decide)))); rintro e w17 ⟨v256, rfl, ho0, hb⟩; have n0_ := Aside0.mk (Kd.R_elder' (by (with_reducible repeat (first | apply Kd.R_alloc | apply Kd.R_drewN | apply Kd.R_drew)); exact HO244.out) (Kd.R_base ho0) hb); have n1_ := Aside0.mk (Kd.R_below (by (with_reducible repeat (first | apply Kd.R_alloc | apply Kd.R_drewN | apply Kd.R_drew)); exact HO248.out) hb); have n2_ := Aside0.mk (Kd.R_below (by (with_reducible repeat (first | apply Kd.R_alloc | apply Kd.R_drewN | apply Kd.R_drew)); exact HO251.out) hb); have n3_ := Aside0.mk (Kd.R_below (by (with_reducible repeat (first | apply Kd.R_alloc | apply Kd.R_drewN | apply Kd.R_drew)); exact HO254.out) hb); have n4_ := Aside0.mk (Kd.R_lower (Kd.R_new' (Kd.R_mono (ok' := fun k_ => True) ho0 (fun _ hk_ => trivial)) (Kd.R_lt (by (with_reducible repeat (first | apply Kd.R_alloc | apply Kd.R_drewN | apply Kd.R_drew)); exact HO244.out))) (below_size bl_)); have n5_ := Aside0.mk (below_step bl_ hb); clear HO244; clear HO248; clear HO251; clear HO254; clear HB; have HO244 := n0_; have HO248 := n1_; have HO251 := n2_; have HO254 := n3_; have HO257 := n4_; have HB := n5_; clear n0_ n1_ n2_ n3_ n4_ n5_; (try clear hb); (try clear hb2); (try clear hk); (try clear hi); (try clear ho0))); go_upto_region 6 with (first | (go_at_call 22; (with_reducible refine (impl_ThreeWay.calls k (fun k_ => k_ < w.heap.size) _ _ l0 (fun k_ => k_ < w.heap.size) _ _ l1 (fun k_ => k_ < w.heap.size) _ _ l2 t242 t245 _ ?side1 ?side2 ?side3 A4.out).mono ?_); (case side1 => exact Kd.V_mk HC0.out (Kd.F_below (Kd.C_F k102_heap HR0.out) bl_)); (case side2 => exact Kd.V_mk HC1.out (Kd.F_below (Kd.C_F k102_heap HR1.out) bl_)); (case side3 => exact Kd.V_mk HC2.out (Kd.F_below (Kd.C_F k102_heap HR2.out) bl_)); rintro e w10 ⟨v243, rfl, ho0, hb⟩; have n0_ := Aside0.mk (Kd.R_lower (Kd.R_mono (ok' := fun k_ => True) ho0 (fun _ hk_ => trivial)) (below_size bl_)); have n1_ := Aside0.mk (below_step bl_ hb); clear HB; have HO244 := n0_; have HB := n1_; clear n0_ n1_; (try clear hb); (try clear hb2); (try clear hk); (try clear hi); (try clear ho0)) | (go_at_call 23; (with_reducible refine (laws_turned.calls k _ _ l0 t246 _ ?side1 ?side2 A5.out).mono ?_); (case side1 => repeat (first | exact (Kd.C_below HR0.out HB.out) | (with_reducible refine Kd.C_alloc ?_ _) | (with_reducible refine Kd.C_drewN ?_ _) | (with_reducible refine Kd.C_drew ?_))); (case side2 => exact HC0.out); rintro e w11 ⟨v247, rfl, ho0, hb⟩; have n0_ := Aside0.mk (Kd.R_below (by (with_reducible repeat (first | apply Kd.R_alloc | apply Kd.R_drewN | apply Kd.R_drew)); exact HO244.out) hb); have n1_ := Aside0.mk (Kd.R_lower ho0 (below_size bl_)); have n2_ := Aside0.mk (below_step bl_ hb); clear HO244; clear HB; have HO244 := n0_; have HO248 := n1_; have HB := n2_; clear n0_ n1_ n2_; (try clear hb); (try clear hb2); (try clear hk); (try clear hi); (try clear ho0)) | (go_at_call 23; (with_reducible refine (laws_turned.calls k _ _ l1 t249 _ ?side1 ?side2 A6.out).mono ?_); (case side1 => repeat (first | exact (Kd.C_below HR1.out HB.out) | (with_reducible refine Kd.C_alloc ?_ _) | (with_reducible refine Kd.C_drewN ?_ _) | (with_reducible refine Kd.C_drew ?_))); (case side2 => exact HC1.out); rintro e w12 ⟨v250, rfl, ho0, hb⟩; have n0_ := Aside0.mk (Kd.R_below (by (with_reducible repeat (first | apply Kd.R_alloc | apply Kd.R_drewN | apply Kd.R_drew)); exact HO244.out) hb); have n1_ := Aside0.mk (Kd.R_elder' (by (with_reducible repeat (first | apply Kd.R_alloc | apply Kd.R_drewN | apply Kd.R_drew)); exact HO248.out) (Kd.R_base ho0) hb); have n2_ := Aside0.mk (Kd.R_lower (Kd.R_new' ho0 (Kd.R_lt (by (with_reducible repeat (first | apply Kd.R_alloc | apply Kd.R_drewN | apply Kd.R_drew)); exact HO248.out))) (below_size bl_)); have n3_ := Aside0.mk (below_step bl_ hb); clear HO244; clear HO248; clear HB; have HO244 := n0_; have HO248 := n1_; have HO251 := n2_; have HB := n3_; clear n0_ n1_ n2_ n3_; (try clear hb); (try clear hb2); (try clear hk); (try clear hi); (try clear ho0)) | (go_at_call 23; (with_reducible refine (laws_turned.calls k _ _ l2 t252 _ ?side1 ?side2 A7.out).mono ?_); (case side1 => repeat (first | exact (Kd.C_below HR2.out HB.out) | (with_reducible refine Kd.C_alloc ?_ _) | (with_reducible refine Kd.C_drewN ?_ _) | (with_reducible refine Kd.C_drew ?_))); (case side2 => exact HC2.out); rintro e w13 ⟨v253, rfl, ho0, hb⟩; have n0_ := Aside0.mk (Kd.R_below (by (with_reducible repeat (first | apply Kd.R_alloc | apply Kd.R_drewN | apply Kd.R_drew)); exact HO244.out) hb); have n1_ := Aside0.mk (Kd.R_elder' (by (with_reducible repeat (first | apply Kd.R_alloc | apply Kd.R_drewN | apply Kd.R_drew)); exact HO248.out) (Kd.R_base ho0) hb); have n2_ := Aside0.mk (Kd.R_elder' (by (with_reducible repeat (first | apply Kd.R_alloc | apply Kd.R_drewN | apply Kd.R_drew)); exact HO251.out) (Kd.R_base ho0) hb); have n3_ := Aside0.mk (Kd.R_lower (Kd.R_new' (Kd.R_new' ho0 (Kd.R_lt (by (with_reducible repeat (first | apply Kd.R_alloc | apply Kd.R_drewN | apply Kd.R_drew)); exact HO248.out))) (Kd.R_lt (by (with_reducible repeat (first | apply Kd.R_alloc | apply Kd.R_drewN | apply Kd.R_drew)); exact HO251.out))) (below_size bl_)); have n4_ := Aside0.mk (below_step bl_ hb); clear HO244; clear HO248; clear HO251; clear HB; have HO244 := n0_; have HO248 := n1_; have HO251 := n2_; have HO254 := n3_; have HB := n4_; clear n0_ n1_ n2_ n3_ n4_; (try clear hb); (try clear hb2); (try clear hk); (try clear hi); (try clear ho0); obtain ⟨Ao14, co14, eo14⟩ := Kd.R_slice HO248.out; subst eo14; obtain ⟨Ao15, co15, eo15⟩ := Kd.R_slice HO251.out; subst eo15; obtain ⟨Ao16, co16, eo16⟩ := Kd.R_slice HO254.out; subst eo16) | (go_at_call 22; (with_reducible refine (impl_ThreeWay.calls k (fun k_ => some k_ = (.slice Ao14 t246.length co14 : Value).ownBlock) _ _ t246 (fun k_ => some k_ = (.slice Ao15 t249.length co15 : Value).ownBlock) _ _ t249 (fun k_ => some k_ = (.slice Ao16 t252.length co16 : Value).ownBlock) _ _ t252 t255 t258 _ ?side1 ?side2 ?side3 A8.out).mono ?_); (case side1 => exact Kd.R_V (Kd.R_tight rfl (Kd.R_apart' (HO248.out) (Kd.R_typed HO244.out) (by decide)))); (case side2 => exact Kd.R_V (Kd.R_tight rfl (Kd.R_apart' (HO251.out) (Kd.R_typed HO244.out) (by decide)))); (case side3 => exact Kd.R_V (Kd.R_tight rfl (Kd.R_apart' (HO254.out) (Kd.R_typed HO244.out) (by decide)))); rintro e w17 ⟨v256, rfl, ho0, hb⟩; have n0_ := Aside0.mk (Kd.R_elder' (by (with_reducible repeat (first | apply Kd.R_alloc | apply Kd.R_drewN | apply Kd.R_drew)); exact HO244.out) (Kd.R_base ho0) hb); have n1_ := Aside0.mk (Kd.R_below (by (with_reducible repeat (first | apply Kd.R_alloc | apply Kd.R_drewN | apply Kd.R_drew)); exact HO248.out) hb); have n2_ := Aside0.mk (Kd.R_below (by (with_reducible repeat (first | apply Kd.R_alloc | apply Kd.R_drewN | apply Kd.R_drew)); exact HO251.out) hb); have n3_ := Aside0.mk (Kd.R_below (by (with_reducible repeat (first | apply Kd.R_alloc | apply Kd.R_drewN | apply Kd.R_drew)); exact HO254.out) hb); have n4_ := Aside0.mk (Kd.R_lower (Kd.R_new' (Kd.R_mono (ok' := fun k_ => True) ho0 (fun _ hk_ => trivial)) (Kd.R_lt (by (with_reducible repeat (first | apply Kd.R_alloc | apply Kd.R_drewN | apply Kd.R_drew)); exact HO244.out))) (below_size bl_)); have n5_ := Aside0.mk (below_step bl_ hb); clear HO244; clear HO248; clear HO251; clear HO254; clear HB; have HO244 := n0_; have HO248 := n1_; have HO251 := n2_; have HO254 := n3_; have HO257 := n4_; have HB := n5_; clear n0_ n1_ n2_ n3_ n4_ n5_; (try clear hb); (try clear hb2); (try clear hk); (try clear hi); (try clear ho0))))
 (try simp only [Act.put, List.setIfInBounds_toArray, List.set_cons_zero, List.set_cons_succ])
 go_cut [52] (fun v52 wc => ∃ (kq : Nat) (x52_8 : Bool), v52 = .bool x52_8 ∧ Aside0 (laws_FnThreeWay.j0 kq l0 t242 t255 x52_8 = some r) ∧ Aside0 (kq ≤ k) ∧ Aside0 (Kd.R k51 51 wc w.heap.size (fun k_ => some k_ ≠ (v256 : Value).ownBlock) v243 t242) ∧ Aside0 (Kd.R k51 51 wc w.heap.size (fun k_ => some k_ ≠ (v243 : Value).ownBlock) v256 t255) ∧ Aside0 (Below w.heap.size w wc))
 case first =>
  have H := HC9.out
  clear HC9
  by_cases c18 : t245 = 0
  rotate_left
  ·rw [if_neg c18] at H
   have c18b0 : (t245 == 0) = false := beq_eq_false_iff_ne.mpr c18
   have c18b1 : (t245 != 0) = true := bne_iff_ne.mpr c18
   (first | rw [c18b0] | (simp only [i64_w, i32_w]; rw [c18b0]) | skip)
   have H' := Aside0.mk H
   clear H
   go_wp2
   repeat (go_quiet (fail); try go_wp2)
   go_meet
   case rel => exact ⟨_, (true), (by first | rfl | (simp; done) | (simp [*]; done)), H', ⟨by first | omega | exact Nat.le_refl _⟩, ⟨by (with_reducible repeat (first | apply Kd.R_alloc | apply Kd.R_drewN | apply Kd.R_drew)); exact Kd.R_mono HO244.out (fun _ hk => hk.2)⟩, ⟨by (with_reducible repeat (first | apply Kd.R_alloc | apply Kd.R_drewN | apply Kd.R_drew)); exact Kd.R_mono HO257.out (fun _ hk => hk.2)⟩, ⟨by repeat (first | (with_reducible first | exact HB.out | apply below_alloc | apply pw_below_drewN | apply below_drew1) | exact HB.out)⟩⟩
  rw [if_pos c18] at H
  have c18b0 : (t245 == 0) = true := beq_iff_eq.mpr c18
  have c18b1 : (t245 != 0) = false := bne_eq_false_iff_eq.mpr c18
  clear c18
  (first | rw [c18b0] | (simp only [i64_w, i32_w]; rw [c18b0]) | skip)
  by_cases c19 : t258 = 0
  rotate_left
  ·rw [if_neg c19] at H
   have c19b0 : (t258 == 0) = false := beq_eq_false_iff_ne.mpr c19
   have c19b1 : (t258 != 0) = true := bne_iff_ne.mpr c19
   have H' := Aside0.mk H
   clear H
   go_wp2
   repeat (go_quiet (fail); try go_wp2)
   go_meet
   case rel => exact ⟨_, (true), (by first | rfl | (simp; done) | (simp [*]; done)), H', ⟨by first | omega | exact Nat.le_refl _⟩, ⟨by (with_reducible repeat (first | apply Kd.R_alloc | apply Kd.R_drewN | apply Kd.R_drew)); exact Kd.R_mono HO244.out (fun _ hk => hk.2)⟩, ⟨by (with_reducible repeat (first | apply Kd.R_alloc | apply Kd.R_drewN | apply Kd.R_drew)); exact Kd.R_mono HO257.out (fun _ hk => hk.2)⟩, ⟨by repeat (first | (with_reducible first | exact HB.out | apply below_alloc | apply pw_below_drewN | apply below_drew1) | exact HB.out)⟩⟩
  rw [if_pos c19] at H
  have c19b0 : (t258 == 0) = true := beq_iff_eq.mpr c19
  have c19b1 : (t258 != 0) = false := bne_eq_false_iff_eq.mpr c19
  clear c19
  have H' := Aside0.mk H
  clear H
  obtain ⟨Ao20, co20, eo20⟩ := Kd.R_slice HO244.out
  subst eo20
  obtain ⟨Ao21, co21, eo21⟩ := Kd.R_slice HO257.out
  subst eo21
  go_wp2
  repeat (go_quiet (fail); try go_wp2)
  go_meet
  case rel => exact ⟨_, (((t242.length : Int) != (t255.length : Int))), (by first | rfl | (simp; done) | (simp [*]; done)), H', ⟨by first | omega | exact Nat.le_refl _⟩, ⟨by (with_reducible repeat (first | apply Kd.R_alloc | apply Kd.R_drewN | apply Kd.R_drew)); exact Kd.R_mono HO244.out (fun _ hk => hk.2)⟩, ⟨by (with_reducible repeat (first | apply Kd.R_alloc | apply Kd.R_drewN | apply Kd.R_drew)); exact Kd.R_mono HO257.out (fun _ hk => hk.2)⟩, ⟨by repeat (first | (with_reducible first | exact HB.out | apply below_alloc | apply pw_below_drewN | apply below_drew1) | exact HB.out)⟩⟩
 case rest =>
  clear HC9
  (try clear c1); (try clear c2); (try clear p2); (try clear c6); (try clear c18); (try clear c18b0); (try clear c18b1); (try clear c19); (try clear c19b0); (try clear c19b1)
  obtain ⟨kq, x52_8, rfl, HA, HJ8, HO_6, HO_8, HB⟩ := hcut
  cases kq with
  | zero => exact absurd HA.out (by simp [laws_FnThreeWay.j0])
  | succ kj8 =>
   have H := HA.out
   clear HA
   simp only [laws_FnThreeWay.j0] at H
   by_cases c22 : x52_8 = true
   ·subst c22
    have H1 : (some false) = some r := by rw [if_pos rfl] at H; exact H
    clear H
    have H := H1
    clear H1
    obtain rfl := Option.some.inj H
    exact absurd hT_.out (by decide)
   replace c22 := Bool.eq_false_iff.mpr c22
   subst c22
   have H1 : (laws_FnThreeWay.l0 kj8 l0 t242 t255 0) = some r := by rw [if_neg (show ¬ (false = true) by decide)] at H; exact H
   clear H
   have H := H1
   clear H1
   have H' := Aside0.mk H
   clear H
   go_wp2
   repeat (go_quiet (fail); try go_wp2)
   go_loopg [10] kj8 (fun kq v10 w' => ∃ (x10_2 : Int), v10 = .int .i64 x10_2 ∧ Aside0 (laws_FnThreeWay.l0 kq l0 t242 t255 x10_2 = some r) ∧ Aside0 (kq ≤ kj8) ∧ Aside0 (Kd.R k51 51 w' w.heap.size (fun k_ => some k_ ≠ (v256 : Value).ownBlock) v243 t242) ∧ Aside0 (Kd.R k51 51 w' w.heap.size (fun k_ => some k_ ≠ (v243 : Value).ownBlock) v256 t255) ∧ Aside0 (Below w.heap.size w w'))
   case atStart => exact ⟨(0), (by first | rfl | (simp; done) | (simp [*]; done)), H', ⟨Nat.le_refl _⟩, ⟨by (with_reducible repeat (first | apply Kd.R_alloc | apply Kd.R_drewN | apply Kd.R_drew)); exact HO_6.out⟩, ⟨by (with_reducible repeat (first | apply Kd.R_alloc | apply Kd.R_drewN | apply Kd.R_drew)); exact HO_8.out⟩, ⟨by repeat (first | (with_reducible first | exact HB.out | apply below_alloc | apply pw_below_drewN | apply below_drew1) | exact HB.out)⟩⟩
   case round =>
    clear H'
    try clear c22
    obtain ⟨x10_2, rfl, HA, HK2, HO_6, HO_8, HB⟩ := hrel
    cases gk with
    | zero => exact absurd HA.out (by simp [laws_FnThreeWay.l0])
    | succ k2 =>
     have H := HA.out
     clear HA
     simp only [laws_FnThreeWay.l0] at H
     by_cases c23 : x10_2 < (t242.length : Int)
     ·rw [if_pos c23] at H
      have c23b0 : decide (x10_2 < (t242.length : Int)) = true := decide_eq_true c23
      clear c23
      by_cases c24 : 0 ≤ x10_2
      rotate_left
      ·rw [if_neg c24] at H
       exact absurd H (by simp)
      rw [if_pos c24] at H
      have c24b0 : decide (0 ≤ x10_2) = true := decide_eq_true c24
      clear c24
      by_cases c25 : x10_2 < (t255.length : Int)
      rotate_left
      ·rw [if_neg c25] at H
       exact absurd H (by simp)
      rw [if_pos c25] at H
      have c25b0 : decide (x10_2 < (t255.length : Int)) = true := decide_eq_true c25
      clear c25
      by_cases c26 : (!((((rd_T51 t242 x10_2).f0).toList) == (((rd_T51 t255 x10_2).f0).toList)) || (!(((rd_T51 t242 x10_2).f1) == ((rd_T51 t255 x10_2).f1)))) = true
      ·rw [if_pos c26] at H
       have c26b0 : (!((((rd_T51 t242 x10_2).f0).toList) == (((rd_T51 t255 x10_2).f0).toList)) || (!(((rd_T51 t242 x10_2).f1) == ((rd_T51 t255 x10_2).f1)))) = true := c26
       clear c26
       obtain rfl := Option.some.inj H
       exact absurd hT_.out (by decide)
      rw [if_neg c26] at H
      have c26b0 : (!((((rd_T51 t242 x10_2).f0).toList) == (((rd_T51 t255 x10_2).f0).toList)) || (!(((rd_T51 t242 x10_2).f1) == ((rd_T51 t255 x10_2).f1)))) = false := by simpa using c26
      clear c26
      by_cases c27 : x10_2 > 0
      rotate_left
      ·rw [if_neg c27] at H
       have c27b0 : decide (0 < x10_2) = false := decide_eq_false c27
       clear c27
       have H' := Aside0.mk H
       clear H
       obtain ⟨Ao34, co34, eo34⟩ := Kd.R_slice HO_6.out
       subst eo34
       have p259 : 0 ≤ (x10_2 : Int) := od_
       have q259 : x10_2 < (t242.length : Int) := od_
       obtain ⟨ad259, e259, hx259_0, hx259_1⟩ := at_T51 (Kd.R_reads' HO_6.out).2.2 x10_2 p259 q259
       cases e259
       replace p259 := eq_true p259
       replace q259 := eq_true q259
       obtain ⟨Ao35, co35, eo35⟩ := Kd.R_slice HO_8.out
       subst eo35
       have p260 : 0 ≤ (x10_2 : Int) := od_
       have q260 : x10_2 < (t255.length : Int) := od_
       obtain ⟨ad260, e260, hx260_0, hx260_1⟩ := at_T51 (Kd.R_reads' HO_8.out).2.2 x10_2 p260 q260
       cases e260
       replace p260 := eq_true p260
       replace q260 := eq_true q260
       go_wp2
       repeat (go_quiet (fail); try go_wp2)
       go_roundg k2
       case measure => have := HJ8.out; have := HK2.out; omega
       case rel => exact ⟨(wrap64 (x10_2 + 1)), (by first | rfl | (simp; done) | (simp [*]; done)), H', ⟨by have := HJ8.out; have := HK2.out; omega⟩, ⟨by (with_reducible repeat (first | apply Kd.R_alloc | apply Kd.R_drewN | apply Kd.R_drew)); exact HO_6.out⟩, ⟨by (with_reducible repeat (first | apply Kd.R_alloc | apply Kd.R_drewN | apply Kd.R_drew)); exact HO_8.out⟩, ⟨by repeat (first | (with_reducible first | exact HB.out | apply below_alloc | apply pw_below_drewN | apply below_drew1) | exact HB.out)⟩⟩
      rw [if_pos c27] at H
      have c27b0 : decide (0 < x10_2) = true := decide_eq_true c27
      clear c27
      obtain ⟨ji28, hji28⟩ : ∃ j_ : Int, (wrap64 (x10_2 - 1)) = j_ := ⟨_, rfl⟩
      replace H : (if 0 ≤ (ji28) then (if (ji28) < (t242.length : Int) then (if ((Op.bytesLess (((rd_T51 t242 (ji28)).f0).toList) (((rd_T51 t242 x10_2).f0).toList)) = true) then (laws_FnThreeWay.l0 k2 l0 t242 t255 (wrap64 (x10_2 + 1))) else (some false)) else (none)) else (none)) = some r := by first | (rw [hji28] at H; exact H) | (simp only [hji28] at H ⊢; exact H)
      have hji28w : (IntKind.i64.wrap (x10_2 - 1)) = ji28 := (i64_w _).trans hji28
      by_cases c29 : 0 ≤ (ji28)
      rotate_left
      ·rw [if_neg c29] at H
       exact absurd H (by simp)
      rw [if_pos c29] at H
      have c29b0 : decide (0 ≤ (ji28)) = true := decide_eq_true c29
      clear c29
      by_cases c30 : (ji28) < (t242.length : Int)
      rotate_left
      ·rw [if_neg c30] at H
       exact absurd H (by simp)
      rw [if_pos c30] at H
      have c30b0 : decide ((ji28) < (t242.length : Int)) = true := decide_eq_true c30
      clear c30
      by_cases c31 : ((Op.bytesLess (((rd_T51 t242 (ji28)).f0).toList) (((rd_T51 t242 x10_2).f0).toList)) = true)
      rotate_left
      ·rw [if_neg c31] at H
       have c31b0 : (Op.bytesLess (((rd_T51 t242 (ji28)).f0).toList) (((rd_T51 t242 x10_2).f0).toList)) = false := by simpa using c31
       clear c31
       obtain rfl := Option.some.inj H
       exact absurd hT_.out (by decide)
      rw [if_pos c31] at H
      have c31b0 : (Op.bytesLess (((rd_T51 t242 (ji28)).f0).toList) (((rd_T51 t242 x10_2).f0).toList)) = true := c31
      clear c31
      have H' := Aside0.mk H
      clear H
      obtain ⟨Ao32, co32, eo32⟩ := Kd.R_slice HO_6.out
      subst eo32
      have p259 : 0 ≤ (x10_2 : Int) := od_
      have q259 : x10_2 < (t242.length : Int) := od_
      obtain ⟨ad259, e259, hx259_0, hx259_1⟩ := at_T51 (Kd.R_reads' HO_6.out).2.2 x10_2 p259 q259
      cases e259
      replace p259 := eq_true p259
      replace q259 := eq_true q259
      obtain ⟨Ao33, co33, eo33⟩ := Kd.R_slice HO_8.out
      subst eo33
      have p260 : 0 ≤ (x10_2 : Int) := od_
      have q260 : x10_2 < (t255.length : Int) := od_
      obtain ⟨ad260, e260, hx260_0, hx260_1⟩ := at_T51 (Kd.R_reads' HO_8.out).2.2 x10_2 p260 q260
      cases e260
      replace p260 := eq_true p260
      replace q260 := eq_true q260
      have p261 : 0 ≤ ((ji28) : Int) := od_
      have q261 : (ji28) < (t242.length : Int) := od_
      obtain ⟨ad261, e261, hx261_0, hx261_1⟩ := at_T51 (Kd.R_reads' HO_6.out).2.2 (ji28) p261 q261
      obtain rfl : ad259 = ad261 := (by injection e261)
      replace p261 := eq_true p261
      replace q261 := eq_true q261
      have p262 : 0 ≤ (x10_2 : Int) := od_
      have q262 : x10_2 < (t242.length : Int) := od_
      obtain ⟨ad262, e262, hx262_0, hx262_1⟩ := at_T51 (Kd.R_reads' HO_6.out).2.2 x10_2 p262 q262
      obtain rfl : ad259 = ad262 := (by injection e262)
      replace p262 := eq_true p262
      replace q262 := eq_true q262
      go_wp2
      repeat (go_quiet (fail); try go_wp2)
      go_roundg k2
      case measure => have := HJ8.out; have := HK2.out; omega
      case rel => exact ⟨(wrap64 (x10_2 + 1)), (by first | rfl | (simp; done) | (simp [*]; done)), H', ⟨by have := HJ8.out; have := HK2.out; omega⟩, ⟨by (with_reducible repeat (first | apply Kd.R_alloc | apply Kd.R_drewN | apply Kd.R_drew)); exact HO_6.out⟩, ⟨by (with_reducible repeat (first | apply Kd.R_alloc | apply Kd.R_drewN | apply Kd.R_drew)); exact HO_8.out⟩, ⟨by repeat (first | (with_reducible first | exact HB.out | apply below_alloc | apply pw_below_drewN | apply below_drew1) | exact HB.out)⟩⟩
     rw [if_neg c23] at H
     have c23b0 : decide (x10_2 < (t242.length : Int)) = false := decide_eq_false c23
     clear c23
     replace H := Option.bind_eq_some_iff.mp H
     obtain ⟨⟨t263, t266⟩, A360, H⟩ := H
     replace H : (if t266 = 0 then (laws_FnThreeWay.j2 k2 t263 ((t263.length : Int) != (l0.length : Int))) else (laws_FnThreeWay.j2 k2 t263 true)) = some r := H
     have A36 := Aside0.mk A360
     clear A360
     have HC37 := Aside0.mk H
     clear H
     obtain ⟨Ao38, co38, eo38⟩ := Kd.R_slice HO_6.out
     subst eo38
     go_upto_region 14 with (first | (go_at_call 22; (with_reducible refine (impl_ThreeWay.calls k2 (fun k_ => k_ < w.heap.size) _ _ l0 (fun k_ => k_ < w.heap.size) _ _ l0 (fun k_ => k_ < w.heap.size) _ _ l0 t263 t266 _ ?side1 ?side2 ?side3 A36.out).mono ?_); (case side1 => exact Kd.V_mk HC0.out (Kd.F_below (Kd.C_F k102_heap HR0.out) bl_)); (case side2 => exact Kd.V_mk HC0.out (Kd.F_below (Kd.C_F k102_heap HR0.out) bl_)); (case side3 => exact Kd.V_mk HC0.out (Kd.F_below (Kd.C_F k102_heap HR0.out) bl_)); rintro e w39 ⟨v264, rfl, ho0, hb⟩; have n0_ := Aside0.mk (Kd.R_elder' (by (with_reducible repeat (first | apply Kd.R_alloc | apply Kd.R_drewN | apply Kd.R_drew)); exact HO_6.out) (Kd.R_base ho0) hb); have n1_ := Aside0.mk (Kd.R_elder' (by (with_reducible repeat (first | apply Kd.R_alloc | apply Kd.R_drewN | apply Kd.R_drew)); exact HO_8.out) (Kd.R_base ho0) hb); have n2_ := Aside0.mk (Kd.R_lower (Kd.R_new' (Kd.R_new' (Kd.R_mono (ok' := fun k_ => True) ho0 (fun _ hk_ => trivial)) (Kd.R_lt (by (with_reducible repeat (first | apply Kd.R_alloc | apply Kd.R_drewN | apply Kd.R_drew)); exact HO_6.out))) (Kd.R_lt (by (with_reducible repeat (first | apply Kd.R_alloc | apply Kd.R_drewN | apply Kd.R_drew)); exact HO_8.out))) (below_size bl_)); have n3_ := Aside0.mk (below_step bl_ hb); clear HO_6; clear HO_8; clear HB; have HO_6 := n0_; have HO_8 := n1_; have HO265 := n2_; have HB := n3_; clear n0_ n1_ n2_ n3_; (try clear hb); (try clear hb2); (try clear hk); (try clear hi); (try clear ho0)))
     repeat (go_quiet (fail); go_upto_region 14 with (first | (go_at_call 22; (with_reducible refine (impl_ThreeWay.calls k2 (fun k_ => k_ < w.heap.size) _ _ l0 (fun k_ => k_ < w.heap.size) _ _ l0 (fun k_ => k_ < w.heap.size) _ _ l0 t263 t266 _ ?side1 ?side2 ?side3 A36.out).mono ?_); (case side1 => exact Kd.V_mk HC0.out (Kd.F_below (Kd.C_F k102_heap HR0.out) bl_)); (case side2 => exact Kd.V_mk HC0.out (Kd.F_below (Kd.C_F k102_heap HR0.out) bl_)); (case side3 => exact Kd.V_mk HC0.out (Kd.F_below (Kd.C_F k102_heap HR0.out) bl_)); rintro e w39 ⟨v264, rfl, ho0, hb⟩; have n0_ := Aside0.mk (Kd.R_elder' (by (with_reducible repeat (first | apply Kd.R_alloc | apply Kd.R_drewN | apply Kd.R_drew)); exact HO_6.out) (Kd.R_base ho0) hb); have n1_ := Aside0.mk (Kd.R_elder' (by (with_reducible repeat (first | apply Kd.R_alloc | apply Kd.R_drewN | apply Kd.R_drew)); exact HO_8.out) (Kd.R_base ho0) hb); have n2_ := Aside0.mk (Kd.R_lower (Kd.R_new' (Kd.R_new' (Kd.R_mono (ok' := fun k_ => True) ho0 (fun _ hk_ => trivial)) (Kd.R_lt (by (with_reducible repeat (first | apply Kd.R_alloc | apply Kd.R_drewN | apply Kd.R_drew)); exact HO_6.out))) (Kd.R_lt (by (with_reducible repeat (first | apply Kd.R_alloc | apply Kd.R_drewN | apply Kd.R_drew)); exact HO_8.out))) (below_size bl_)); have n3_ := Aside0.mk (below_step bl_ hb); clear HO_6; clear HO_8; clear HB; have HO_6 := n0_; have HO_8 := n1_; have HO265 := n2_; have HB := n3_; clear n0_ n1_ n2_ n3_; (try clear hb); (try clear hb2); (try clear hk); (try clear hi); (try clear ho0))))
     (try simp only [Act.put, List.setIfInBounds_toArray, List.set_cons_zero, List.set_cons_succ])
     go_cut [101] (fun v101 wc => ∃ (kq : Nat) (x101_36 : Bool), v101 = .bool x101_36 ∧ Aside0 (laws_FnThreeWay.j2 kq t263 x101_36 = some r) ∧ Aside0 (kq ≤ k2) ∧ Aside0 (Kd.R k51 51 wc w.heap.size (fun _ => True) v264 t263) ∧ Aside0 (Below w.heap.size w wc))
     case first =>
      have H := HC37.out
      clear HC37
      by_cases c40 : t266 = 0
      rotate_left
      ·rw [if_neg c40] at H
       have c40b0 : (t266 == 0) = false := beq_eq_false_iff_ne.mpr c40
       have c40b1 : (t266 != 0) = true := bne_iff_ne.mpr c40
       (first | rw [c40b0] | (simp only [i64_w, i32_w]; rw [c40b0]) | skip)
       have H' := Aside0.mk H
       clear H
       go_wp2
       repeat (go_quiet (fail); try go_wp2)
       go_meet
       case rel => exact ⟨_, (true), (by first | rfl | (simp; done) | (simp [*]; done)), H', ⟨by have := HJ8.out; have := HK2.out; first | omega | exact Nat.le_refl _⟩, ⟨by (with_reducible repeat (first | apply Kd.R_alloc | apply Kd.R_drewN | apply Kd.R_drew)); exact Kd.R_mono HO265.out (fun _ hk => trivial)⟩, ⟨by repeat (first | (with_reducible first | exact HB.out | apply below_alloc | apply pw_below_drewN | apply below_drew1) | exact HB.out)⟩⟩
      rw [if_pos c40] at H
      have c40b0 : (t266 == 0) = true := beq_iff_eq.mpr c40
      have c40b1 : (t266 != 0) = false := bne_eq_false_iff_eq.mpr c40
      clear c40
      (first | rw [c40b0] | (simp only [i64_w, i32_w]; rw [c40b0]) | skip)
      have H' := Aside0.mk H
      clear H
      obtain ⟨Ao41, co41, eo41⟩ := Kd.R_slice HO265.out
      subst eo41
      go_wp2
      repeat (go_quiet (fail); try go_wp2)
      go_meet
      case rel => exact ⟨_, (((t263.length : Int) != (l0.length : Int))), (by first | rfl | (simp; done) | (simp [*]; done)), H', ⟨by have := HJ8.out; have := HK2.out; first | omega | exact Nat.le_refl _⟩, ⟨by (with_reducible repeat (first | apply Kd.R_alloc | apply Kd.R_drewN | apply Kd.R_drew)); exact Kd.R_mono HO265.out (fun _ hk => trivial)⟩, ⟨by repeat (first | (with_reducible first | exact HB.out | apply below_alloc | apply pw_below_drewN | apply below_drew1) | exact HB.out)⟩⟩
     case rest =>
      clear HC37
      (try clear q2); (try clear hx2); (try clear c3); (try clear c4); (try clear p6); (try clear c23); (try clear c23b0); (try clear c24); (try clear c24b0); (try clear c25); (try clear c25b0); (try clear p25); (try clear q25); (try clear hx25); (try clear c26); (try clear c26b0); (try clear p26); (try clear q26); (try clear hx26); (try clear c27); (try clear c27b0); (try clear c29); (try clear c29b0); (try clear c30); (try clear c30b0); (try clear c31); (try clear c31b0); (try clear c40); (try clear c40b0); (try clear c40b1); (try clear hx259_0); (try clear hx259_1); (try clear hx260_0); (try clear hx260_1); (try clear hx261_0); (try clear hx261_1); (try clear hx262_0); (try clear hx262_1); (try clear p259); (try clear p260); (try clear p261); (try clear p262); (try clear q259); (try clear q260); (try clear q261); (try clear q262)
      obtain ⟨kq, x101_36, rfl, HA, HJ36, HO_11, HB⟩ := hcut
      cases kq with
      | zero => exact absurd HA.out (by simp [laws_FnThreeWay.j2])
      | succ kj36 =>
       have H := HA.out
       clear HA
       simp only [laws_FnThreeWay.j2] at H
       by_cases c42 : x101_36 = true
       ·subst c42
        have H1 : (some false) = some r := by rw [if_pos rfl] at H; exact H
        clear H
        have H := H1
        clear H1
        obtain rfl := Option.some.inj H
        exact absurd hT_.out (by decide)
       replace c42 := Bool.eq_false_iff.mpr c42
       subst c42
       have H1 : (laws_FnThreeWay.l1 kj36 t263 0) = some r := by rw [if_neg (show ¬ (false = true) by decide)] at H; exact H
       clear H
       have H := H1
       clear H1
       have H' := Aside0.mk H
       clear H
       go_wp2
       repeat (go_quiet (fail); try go_wp2)
       go_loopg [13] kj36 (fun kq v13 w' => ∃ (x13_4 : Int), v13 = .int .i64 x13_4 ∧ Aside0 (laws_FnThreeWay.l1 kq t263 x13_4 = some r) ∧ Aside0 (kq ≤ kj36) ∧ Aside0 (Kd.R k51 51 w' w.heap.size (fun _ => True) v264 t263) ∧ Aside0 (Below w.heap.size w w'))
       case atStart => exact ⟨(0), (by first | rfl | (simp; done) | (simp [*]; done)), H', ⟨Nat.le_refl _⟩, ⟨by (with_reducible repeat (first | apply Kd.R_alloc | apply Kd.R_drewN | apply Kd.R_drew)); exact HO_11.out⟩, ⟨by repeat (first | (with_reducible first | exact HB.out | apply below_alloc | apply pw_below_drewN | apply below_drew1) | exact HB.out)⟩⟩
       case round =>
        clear H'
        try clear c42
        obtain ⟨x13_4, rfl, HA, HK4, HO_11, HB⟩ := hrel
        cases gk with
        | zero => exact absurd HA.out (by simp [laws_FnThreeWay.l1])
        | succ k4 =>
         have H := HA.out
         clear HA
         simp only [laws_FnThreeWay.l1] at H
         by_cases c43 : x13_4 < (t263.length : Int)
         rotate_left
         ·rw [if_neg c43] at H
          have c43b0 : decide (x13_4 < (t263.length : Int)) = false := decide_eq_false c43
          clear c43
          obtain rfl := Option.some.inj H
          obtain ⟨Ao47, co47, eo47⟩ := Kd.R_slice HO_11.out
          subst eo47
          go_wp2
          repeat (go_quiet (fail); try go_wp2)
          go_ret
          exact ⟨by first | rfl | (simp [errW_none, errW_some] <;> rfl) | (simp [*, errW_none, errW_some] <;> rfl), below_step HBZ.out bl_⟩


         rw [if_pos c43] at H
         have c43b0 : decide (x13_4 < (t263.length : Int)) = true := decide_eq_true c43
         clear c43
         by_cases c44 : 0 ≤ x13_4
         rotate_left
         ·rw [if_neg c44] at H
          exact absurd H (by simp)
         rw [if_pos c44] at H
         have c44b0 : decide (0 ≤ x13_4) = true := decide_eq_true c44
         clear c44
         by_cases c45 : ((rd_T51 t263 x13_4).f1) = 0
         rotate_left
         ·rw [if_neg c45] at H
          have c45b0 : (((rd_T51 t263 x13_4).f1) == 0) = false := beq_eq_false_iff_ne.mpr c45
          have c45b1 : (((rd_T51 t263 x13_4).f1) != 0) = true := bne_iff_ne.mpr c45
          obtain rfl := Option.some.inj H
          exact absurd hT_.out (by decide)
         rw [if_pos c45] at H
         have c45b0 : (((rd_T51 t263 x13_4).f1) == 0) = true := beq_iff_eq.mpr c45
         have c45b1 : (((rd_T51 t263 x13_4).f1) != 0) = false := bne_eq_false_iff_eq.mpr c45
         clear c45
         have H' := Aside0.mk H
         clear H
         obtain ⟨Ao46, co46, eo46⟩ := Kd.R_slice HO_11.out
         subst eo46
         have p267 : 0 ≤ (x13_4 : Int) := od_
         have q267 : x13_4 < (t263.length : Int) := od_
         obtain ⟨ad267, e267, hx267_0, hx267_1⟩ := at_T51 (Kd.R_reads' HO_11.out).2.2 x13_4 p267 q267
         cases e267
         replace p267 := eq_true p267
         replace q267 := eq_true q267
         go_wp2
         repeat (go_quiet (fail); try go_wp2)
         go_roundg k4
         case measure => have := HJ8.out; have := HK2.out; have := HJ36.out; have := HK4.out; omega
         case rel => exact ⟨(wrap64 (x13_4 + 1)), (by first | rfl | (simp; done) | (simp [*]; done)), H', ⟨by have := HJ8.out; have := HK2.out; have := HJ36.out; have := HK4.out; omega⟩, ⟨by (with_reducible repeat (first | apply Kd.R_alloc | apply Kd.R_drewN | apply Kd.R_drew)); exact HO_11.out⟩, ⟨by repeat (first | (with_reducible first | exact HB.out | apply below_alloc | apply pw_below_drewN | apply below_drew1) | exact HB.out)⟩⟩
/-- THE ONE PURE STATEMENT of laws_FnThreeWay. -/
def laws_FnThreeWay.Pure : Prop := ∀ (l0 : List Int), (l0.length ≤ 9223372036854775807 ∧ ∀ x ∈ l0, (Lit.int .u8 x).wf = true) → ∃ k, laws_FnThreeWay.f k l0 = some true
theorem laws_FnThreeWay.walk (P : laws_FnThreeWay.Pure) (A0 : Option Addr) (c0 : Nat) (l0 : List Int) (w : World) (hr0 : Kd.C (Kd.int .u8) w A0 l0.length l0) (hc0 : l0.length ≤ c0) (hw0 : (l0.length ≤ 9223372036854775807 ∧ ∀ x ∈ l0, (Lit.int .u8 x).wf = true)) :
  Calls Try.prog 6 #[.slice A0 l0.length c0] w fun e w' => e = .returned (.bool true) ∧ Below w.heap.size w w' := by
 obtain ⟨k, h⟩ := P l0 hw0
 refine (laws_FnThreeWay.calls k A0 c0 l0 true w hr0 hc0 h rfl).mono ?_
 rintro e w' ⟨rfl, hd⟩
 exact ⟨rfl, hd⟩

end Go.Proofs.Ytkiooiijnolocaa.XFnThreeWay
