-- PRINTED by xprint.py (our own program, over the kit's print.py)
import Derived.Test.YtbljkgllicnkkaaXFnSeasonsx0
import Derived.Test.YtbljkgllicnkkaaXFnSeasonsx1
import Derived.Test.YtbljkgllicnkkaaXFnSeasonsx2
import Derived.Test.YtbljkgllicnkkaaXFnSeasonsx3
namespace Go.Proofs.Ytbljkgllicnkkaa.XFnSeasons
open Go.RowKit Go.Proofs.YtbljkgllicnkkaaW.PrintWords Go.Proofs.YtbljkgllicnkkaaW.PrintLast Go.Proofs.YtbljkgllicnkkaaW.PrintMore Go.Proofs.YtbljkgllicnkkaaW.Idx
attribute [local go_sem] max2_int min2_int max_two min_two max_three min_three max_four min_four   -- for this text's walks alone
set_option linter.unusedVariables false
set_option linter.unusedSimpArgs false

attribute [local go_sem high] eqA46
/-! ### laws_FnSeasons: function 7 -/
mutual
def laws_FnSeasons.j0 : Nat → List Int → List Int → Bool → Option (Bool)
  | 0, _, _, _ => none
  | k + 1, x0, x1, x29 => if x29 = true then (some true) else ((spec_SalesOf.f k x0).bind fun bt161 => ((laws_at.f x1 0 (bt161.1.length : Int)).bind fun t166 => ((impl_Seasons.f k bt161.1 (wrap64 (1 + t166))).bind fun bt167 => (if bt167.2 = 0 then (laws_FnSeasons.j1 k bt161.1 (wrap64 (1 + t166)) bt167.1 ((bt167.1.length : Int) != (wrap64 (1 + t166)))) else (laws_FnSeasons.j1 k bt161.1 (wrap64 (1 + t166)) bt167.1 true)))))
def laws_FnSeasons.j1 : Nat → List Int → Int → List (S46) → Bool → Option (Bool)
  | 0, _, _, _, _ => none
  | k + 1, x5, x8, x9, x54 => if x54 = true then (some false) else ((laws_sum.f k x5).bind fun t171 => (laws_FnSeasons.l0 k x5 x8 x9 t171 0))
def laws_FnSeasons.l0 : Nat → List Int → Int → List (S46) → Int → Int → Option (Bool)
  | 0, _, _, _, _, _ => none
  | k + 1, x5, x8, x9, x11, x12 => if x12 < x8 then (laws_FnSeasons.l1 k x5 x8 x9 x11 x12 0 0 x12) else (if 0 ≤ (x5.length : Int) then (if ((x5.length : Int) : Int).toNat ≤ 35184372088832 then (laws_FnSeasons.l2 k x5 x8 (List.replicate ((x5.length : Int) : Int).toNat 0) 0) else (none)) else (none))
def laws_FnSeasons.l1 : Nat → List Int → Int → List (S46) → Int → Int → Int → Int → Int → Option (Bool)
  | 0, _, _, _, _, _, _, _, _ => none
  | k + 1, x5, x8, x9, x11, x12, x13, x14, x15 => if x15 < (x5.length : Int) then (if 0 ≤ x15 then (laws_FnSeasons.l1 k x5 x8 x9 x11 x12 (wrap64 (x13 + (rd x5 x15))) (wrap64 (x14 + 1)) (wrap64 (x15 + x8))) else (none)) else (if 0 ≤ x12 then (if x12 < (x9.length : Int) then (if ((rd_T46 x9 x12).f1) < 1 then (some false) else (if ((rd_T46 x9 x12).f0) < 0 then (some false) else (if (wrap64 ((wrap64 (((rd_T46 x9 x12).f0) * x14)) * x11)) = (wrap64 ((wrap64 (((rd_T46 x9 x12).f1) * x13)) * (x5.length : Int))) then ((laws_common.f k ((rd_T46 x9 x12).f0) ((rd_T46 x9 x12).f1)).bind fun t175 => (if t175 = 1 then (laws_FnSeasons.l0 k x5 x8 x9 x11 (wrap64 (x12 + 1))) else (some false))) else (some false)))) else (none)) else (none))
def laws_FnSeasons.l2 : Nat → List Int → Int → List Int → Int → Option (Bool)
  | 0, _, _, _, _ => none
  | k + 1, x5, x8, x17, x18 => if x18 < (x17.length : Int) then (if 0 < (x5.length : Int) then (if 0 ≤ x18 then (laws_FnSeasons.l2 k x5 x8 (x17.set (x18 : Int).toNat (rd x5 0)) (wrap64 (x18 + 1))) else (none)) else (none)) else ((impl_Seasons.f k x17 x8).bind fun bt181 => (if bt181.2 = 0 then (laws_FnSeasons.j5 k x8 bt181.1 ((bt181.1.length : Int) != x8)) else (laws_FnSeasons.j5 k x8 bt181.1 true)))
def laws_FnSeasons.j5 : Nat → Int → List (S46) → Bool → Option (Bool)
  | 0, _, _, _ => none
  | k + 1, x8, x19, x142 => if x142 = true then (some false) else (laws_FnSeasons.l3 k x8 x19 0)
def laws_FnSeasons.l3 : Nat → Int → List (S46) → Int → Option (Bool)
  | 0, _, _, _ => none
  | k + 1, x8, x19, x21 => if x21 < x8 then (if 0 ≤ x21 then (if x21 < (x19.length : Int) then (if (!(((rd_T46 x19 x21).f0) == 1) || (!(((rd_T46 x19 x21).f1) == 1))) = true then (some false) else (laws_FnSeasons.l3 k x8 x19 (wrap64 (x21 + 1)))) else (none)) else (none)) else (some true)
end
def laws_FnSeasons.f (k : Nat) (l0 : List Int) (l1 : List Int) : Option (Bool) := if (l0.length : Int) > 1048576 then (laws_FnSeasons.j0 k l0 l1 true) else (laws_FnSeasons.j0 k l0 l1 (decide ((l1.length : Int) > 1048576)))
theorem laws_FnSeasons.mono_l : ∀ k, (∀ y0 y1 y2, LeO (laws_FnSeasons.j0 k y0 y1 y2) (laws_FnSeasons.j0 (k + 1) y0 y1 y2)) ∧ (∀ y0 y1 y2 y3, LeO (laws_FnSeasons.j1 k y0 y1 y2 y3) (laws_FnSeasons.j1 (k + 1) y0 y1 y2 y3)) ∧ (∀ y0 y1 y2 y3 y4, LeO (laws_FnSeasons.l0 k y0 y1 y2 y3 y4) (laws_FnSeasons.l0 (k + 1) y0 y1 y2 y3 y4)) ∧ (∀ y0 y1 y2 y3 y4 y5 y6 y7, LeO (laws_FnSeasons.l1 k y0 y1 y2 y3 y4 y5 y6 y7) (laws_FnSeasons.l1 (k + 1) y0 y1 y2 y3 y4 y5 y6 y7)) ∧ (∀ y0 y1 y2 y3, LeO (laws_FnSeasons.l2 k y0 y1 y2 y3) (laws_FnSeasons.l2 (k + 1) y0 y1 y2 y3)) ∧ (∀ y0 y1 y2, LeO (laws_FnSeasons.j5 k y0 y1 y2) (laws_FnSeasons.j5 (k + 1) y0 y1 y2)) ∧ (∀ y0 y1 y2, LeO (laws_FnSeasons.l3 k y0 y1 y2) (laws_FnSeasons.l3 (k + 1) y0 y1 y2))
  | 0 => ⟨fun _ _ _ r h => by simp [laws_FnSeasons.j0] at h, fun _ _ _ _ r h => by simp [laws_FnSeasons.j1] at h, fun _ _ _ _ _ r h => by simp [laws_FnSeasons.l0] at h, fun _ _ _ _ _ _ _ _ r h => by simp [laws_FnSeasons.l1] at h, fun _ _ _ _ r h => by simp [laws_FnSeasons.l2] at h, fun _ _ _ r h => by simp [laws_FnSeasons.j5] at h, fun _ _ _ r h => by simp [laws_FnSeasons.l3] at h⟩
  | k + 1 => by
    obtain ⟨ih0, ih1, ih2, ih3, ih4, ih5, ih6⟩ := laws_FnSeasons.mono_l k
    refine ⟨?_, ?_, ?_, ?_, ?_, ?_, ?_⟩
    · intro y0 y1 y2
      unfold laws_FnSeasons.j0
      repeat' first
      | (with_reducible exact ih0 _ _ _)
      | (with_reducible exact ih1 _ _ _ _)
      | (with_reducible exact ih2 _ _ _ _ _)
      | (with_reducible exact ih3 _ _ _ _ _ _ _ _)
      | (with_reducible exact ih4 _ _ _ _)
      | (with_reducible exact ih5 _ _ _)
      | (with_reducible exact ih6 _ _ _)
      | (with_reducible exact impl_Seasons.mono _ _ _)
      | (with_reducible exact laws_common.mono _ _ _)
      | (with_reducible exact laws_sum.mono _ _)
      | (with_reducible exact spec_SalesOf.mono _ _)
      | (with_reducible exact LeO.refl _)
      | (with_reducible exact LeO.none _)
      | (with_reducible refine LeO.ite ?_ ?_)
      | (with_reducible refine LeO.bind ?_ (fun _ => ?_))
      | exact ih0 _ _ _
      | exact ih1 _ _ _ _
      | exact ih2 _ _ _ _ _
      | exact ih3 _ _ _ _ _ _ _ _
      | exact ih4 _ _ _ _
      | exact ih5 _ _ _
      | exact ih6 _ _ _
      | exact impl_Seasons.mono _ _ _
      | exact laws_common.mono _ _ _
      | exact laws_sum.mono _ _
      | exact spec_SalesOf.mono _ _
      | exact LeO.none _
      | refine LeO.ite ?_ ?_
      | refine LeO.bind ?_ (fun _ => ?_)
    · intro y0 y1 y2 y3
      unfold laws_FnSeasons.j1
      repeat' first
      | (with_reducible exact ih0 _ _ _)
      | (with_reducible exact ih1 _ _ _ _)
      | (with_reducible exact ih2 _ _ _ _ _)
      | (with_reducible exact ih3 _ _ _ _ _ _ _ _)
      | (with_reducible exact ih4 _ _ _ _)
      | (with_reducible exact ih5 _ _ _)
      | (with_reducible exact ih6 _ _ _)
      | (with_reducible exact impl_Seasons.mono _ _ _)
      | (with_reducible exact laws_common.mono _ _ _)
      | (with_reducible exact laws_sum.mono _ _)
      | (with_reducible exact spec_SalesOf.mono _ _)
      | (with_reducible exact LeO.refl _)
      | (with_reducible exact LeO.none _)
      | (with_reducible refine LeO.ite ?_ ?_)
      | (with_reducible refine LeO.bind ?_ (fun _ => ?_))
      | exact ih0 _ _ _
      | exact ih1 _ _ _ _
      | exact ih2 _ _ _ _ _
      | exact ih3 _ _ _ _ _ _ _ _
      | exact ih4 _ _ _ _
      | exact ih5 _ _ _
      | exact ih6 _ _ _
      | exact impl_Seasons.mono _ _ _
      | exact laws_common.mono _ _ _
      | exact laws_sum.mono _ _
      | exact spec_SalesOf.mono _ _
      | exact LeO.none _
      | refine LeO.ite ?_ ?_
      | refine LeO.bind ?_ (fun _ => ?_)
    · intro y0 y1 y2 y3 y4
      unfold laws_FnSeasons.l0
      repeat' first
      | (with_reducible exact ih0 _ _ _)
      | (with_reducible exact ih1 _ _ _ _)
      | (with_reducible exact ih2 _ _ _ _ _)
      | (with_reducible exact ih3 _ _ _ _ _ _ _ _)
      | (with_reducible exact ih4 _ _ _ _)
      | (with_reducible exact ih5 _ _ _)
      | (with_reducible exact ih6 _ _ _)
      | (with_reducible exact impl_Seasons.mono _ _ _)
      | (with_reducible exact laws_common.mono _ _ _)
      | (with_reducible exact laws_sum.mono _ _)
      | (with_reducible exact spec_SalesOf.mono _ _)
      | (with_reducible exact LeO.refl _)
      | (with_reducible exact LeO.none _)
      | (with_reducible refine LeO.ite ?_ ?_)
      | (with_reducible refine LeO.bind ?_ (fun _ => ?_))
      | exact ih0 _ _ _
      | exact ih1 _ _ _ _
      | exact ih2 _ _ _ _ _
      | exact ih3 _ _ _ _ _ _ _ _
      | exact ih4 _ _ _ _
      | exact ih5 _ _ _
      | exact ih6 _ _ _
      | exact impl_Seasons.mono _ _ _
      | exact laws_common.mono _ _ _
      | exact laws_sum.mono _ _
      | exact spec_SalesOf.mono _ _
      | exact LeO.none _
      | refine LeO.ite ?_ ?_
      | refine LeO.bind ?_ (fun _ => ?_)
    · intro y0 y1 y2 y3 y4 y5 y6 y7
      unfold laws_FnSeasons.l1
      repeat' first
      | (with_reducible exact ih0 _ _ _)
      | (with_reducible exact ih1 _ _ _ _)
      | (with_reducible exact ih2 _ _ _ _ _)
      | (with_reducible exact ih3 _ _ _ _ _ _ _ _)
      | (with_reducible exact ih4 _ _ _ _)
      | (with_reducible exact ih5 _ _ _)
      | (with_reducible exact ih6 _ _ _)
      | (with_reducible exact impl_Seasons.mono _ _ _)
      | (with_reducible exact laws_common.mono _ _ _)
      | (with_reducible exact laws_sum.mono _ _)
      | (with_reducible exact spec_SalesOf.mono _ _)
      | (with_reducible exact LeO.refl _)
      | (with_reducible exact LeO.none _)
      | (with_reducible refine LeO.ite ?_ ?_)
      | (with_reducible refine LeO.bind ?_ (fun _ => ?_))
      | exact ih0 _ _ _
      | exact ih1 _ _ _ _
      | exact ih2 _ _ _ _ _
      | exact ih3 _ _ _ _ _ _ _ _
      | exact ih4 _ _ _ _
      | exact ih5 _ _ _
      | exact ih6 _ _ _
      | exact impl_Seasons.mono _ _ _
      | exact laws_common.mono _ _ _
      | exact laws_sum.mono _ _
      | exact spec_SalesOf.mono _ _
      | exact LeO.none _
      | refine LeO.ite ?_ ?_
      | refine LeO.bind ?_ (fun _ => ?_)
    · intro y0 y1 y2 y3
      unfold laws_FnSeasons.l2
      repeat' first
      | (with_reducible exact ih0 _ _ _)
      | (with_reducible exact ih1 _ _ _ _)
      | (with_reducible exact ih2 _ _ _ _ _)
      | (with_reducible exact ih3 _ _ _ _ _ _ _ _)
      | (with_reducible exact ih4 _ _ _ _)
      | (with_reducible exact ih5 _ _ _)
      | (with_reducible exact ih6 _ _ _)
      | (with_reducible exact impl_Seasons.mono _ _ _)
      | (with_reducible exact laws_common.mono _ _ _)
      | (with_reducible exact laws_sum.mono _ _)
      | (with_reducible exact spec_SalesOf.mono _ _)
      | (with_reducible exact LeO.refl _)
      | (with_reducible exact LeO.none _)
      | (with_reducible refine LeO.ite ?_ ?_)
      | (with_reducible refine LeO.bind ?_ (fun _ => ?_))
      | exact ih0 _ _ _
      | exact ih1 _ _ _ _
      | exact ih2 _ _ _ _ _
      | exact ih3 _ _ _ _ _ _ _ _
      | exact ih4 _ _ _ _
      | exact ih5 _ _ _
      | exact ih6 _ _ _
      | exact impl_Seasons.mono _ _ _
      | exact laws_common.mono _ _ _
      | exact laws_sum.mono _ _
      | exact spec_SalesOf.mono _ _
      | exact LeO.none _
      | refine LeO.ite ?_ ?_
      | refine LeO.bind ?_ (fun _ => ?_)
    · intro y0 y1 y2
      unfold laws_FnSeasons.j5
      repeat' first
      | (with_reducible exact ih0 _ _ _)
      | (with_reducible exact ih1 _ _ _ _)
      | (with_reducible exact ih2 _ _ _ _ _)
      | (with_reducible exact ih3 _ _ _ _ _ _ _ _)
      | (with_reducible exact ih4 _ _ _ _)
      | (with_reducible exact ih5 _ _ _)
      | (with_reducible exact ih6 _ _ _)
      | (with_reducible exact impl_Seasons.mono _ _ _)
      | (with_reducible exact laws_common.mono _ _ _)
      | (with_reducible exact laws_sum.mono _ _)
      | (with_reducible exact spec_SalesOf.mono _ _)
      | (with_reducible exact LeO.refl _)
      | (with_reducible exact LeO.none _)
      | (with_reducible refine LeO.ite ?_ ?_)
      | (with_reducible refine LeO.bind ?_ (fun _ => ?_))
      | exact ih0 _ _ _
      | exact ih1 _ _ _ _
      | exact ih2 _ _ _ _ _
      | exact ih3 _ _ _ _ _ _ _ _
      | exact ih4 _ _ _ _
      | exact ih5 _ _ _
      | exact ih6 _ _ _
      | exact impl_Seasons.mono _ _ _
      | exact laws_common.mono _ _ _
      | exact laws_sum.mono _ _
      | exact spec_SalesOf.mono _ _
      | exact LeO.none _
      | refine LeO.ite ?_ ?_
      | refine LeO.bind ?_ (fun _ => ?_)
    · intro y0 y1 y2
      unfold laws_FnSeasons.l3
      repeat' first
      | (with_reducible exact ih0 _ _ _)
      | (with_reducible exact ih1 _ _ _ _)
      | (with_reducible exact ih2 _ _ _ _ _)
      | (with_reducible exact ih3 _ _ _ _ _ _ _ _)
      | (with_reducible exact ih4 _ _ _ _)
      | (with_reducible exact ih5 _ _ _)
      | (with_reducible exact ih6 _ _ _)
      | (with_reducible exact impl_Seasons.mono _ _ _)
      | (with_reducible exact laws_common.mono _ _ _)
      | (with_reducible exact laws_sum.mono _ _)
      | (with_reducible exact spec_SalesOf.mono _ _)
      | (with_reducible exact LeO.refl _)
      | (with_reducible exact LeO.none _)
      | (with_reducible refine LeO.ite ?_ ?_)
      | (with_reducible refine LeO.bind ?_ (fun _ => ?_))
      | exact ih0 _ _ _
      | exact ih1 _ _ _ _
      | exact ih2 _ _ _ _ _
      | exact ih3 _ _ _ _ _ _ _ _
      | exact ih4 _ _ _ _
      | exact ih5 _ _ _
      | exact ih6 _ _ _
      | exact impl_Seasons.mono _ _ _
      | exact laws_common.mono _ _ _
      | exact laws_sum.mono _ _
      | exact spec_SalesOf.mono _ _
      | exact LeO.none _
      | refine LeO.ite ?_ ?_
      | refine LeO.bind ?_ (fun _ => ?_)
theorem laws_FnSeasons.mono : ∀ a0 a1 k, LeO (laws_FnSeasons.f k a0 a1) (laws_FnSeasons.f (k + 1) a0 a1) := by
  intro a0 a1 k
  obtain ⟨ih0, ih1, ih2, ih3, ih4, ih5, ih6⟩ := laws_FnSeasons.mono_l k
  unfold laws_FnSeasons.f
  repeat' first
      | (with_reducible exact ih0 _ _ _)
      | (with_reducible exact ih1 _ _ _ _)
      | (with_reducible exact ih2 _ _ _ _ _)
      | (with_reducible exact ih3 _ _ _ _ _ _ _ _)
      | (with_reducible exact ih4 _ _ _ _)
      | (with_reducible exact ih5 _ _ _)
      | (with_reducible exact ih6 _ _ _)
      | (with_reducible exact impl_Seasons.mono _ _ _)
      | (with_reducible exact laws_common.mono _ _ _)
      | (with_reducible exact laws_sum.mono _ _)
      | (with_reducible exact spec_SalesOf.mono _ _)
      | (with_reducible exact LeO.refl _)
      | (with_reducible exact LeO.none _)
      | (with_reducible refine LeO.ite ?_ ?_)
      | (with_reducible refine LeO.bind ?_ (fun _ => ?_))
      | exact ih0 _ _ _
      | exact ih1 _ _ _ _
      | exact ih2 _ _ _ _ _
      | exact ih3 _ _ _ _ _ _ _ _
      | exact ih4 _ _ _ _
      | exact ih5 _ _ _
      | exact ih6 _ _ _
      | exact impl_Seasons.mono _ _ _
      | exact laws_common.mono _ _ _
      | exact laws_sum.mono _ _
      | exact spec_SalesOf.mono _ _
      | exact LeO.none _
      | refine LeO.ite ?_ ?_
      | refine LeO.bind ?_ (fun _ => ?_)
set_option maxHeartbeats 8000000 in
set_option maxRecDepth 100000 in
theorem laws_FnSeasons.calls (k : Nat) (A0 : Option Addr) (c0 : Nat) (l0 : List Int) (A1 : Option Addr) (c1 : Nat) (l1 : List Int) (r : Bool) (w : World) (hr0 : Kd.C (Kd.int .u8) w A0 l0.length l0) (hc0 : l0.length ≤ c0) (hr1 : Kd.C (Kd.int .u8) w A1 l1.length l1) (hc1 : l1.length ≤ c1) (h : laws_FnSeasons.f k l0 l1 = some r) :
    Calls Try.prog 7 #[.slice A0 l0.length c0, .slice A1 l1.length c1] w fun e w' => e = .returned (.bool r) ∧ Below w.heap.size w w' := by
  have hu46 := Try.underlying46
  have HR0 := Aside0.mk hr0
  have HC0 := Aside0.mk hc0
  clear hr0 hc0
  have HR1 := Aside0.mk hr1
  have HC1 := Aside0.mk hc1
  clear hr1 hc1
  have HB := Aside0.mk (Below.refl w.heap.size w)
  have H : (if (l0.length : Int) > 1048576 then (laws_FnSeasons.j0 k l0 l1 true) else (laws_FnSeasons.j0 k l0 l1 (decide ((l1.length : Int) > 1048576)))) = some r := h
  clear h
  have HC3 := Aside0.mk H
  clear H
  go_enter Try.func7, Try.ntmps7
  go_upto_region 1 with (fail)
  go_cut [29] (fun v29 wc => ∃ (kq : Nat) (x29_2 : Bool), v29 = .bool x29_2 ∧ Aside0 (laws_FnSeasons.j0 kq l0 l1 x29_2 = some r) ∧ Aside0 (kq ≤ k) ∧ Aside0 (Below w.heap.size w wc))
  case first =>
    have H := HC3.out
    clear HC3
    by_cases c4 : (l0.length : Int) > 1048576
    · rw [if_pos c4] at H
      have c4b0 : decide (1048576 < (l0.length : Int)) = true := decide_eq_true c4
      have c4b1 : decide (1048576 < l0.length) = true := decide_eq_true (by omega)
      clear c4
      (first | rw [c4b0] | (simp only [i64_w, i32_w]; rw [c4b0]) | skip)
      have H' := Aside0.mk H
      clear H
      go_wp2
      go_meet
      case rel => exact ⟨_, (true), (by first | rfl | (simp; done) | (simp [*]; done)), H', ⟨by first | omega | exact Nat.le_refl _⟩, ⟨by repeat (first | (with_reducible first | exact HB.out | apply below_alloc | apply pw_below_drewN | apply below_drew1) | exact HB.out)⟩⟩
    · rw [if_neg c4] at H
      have c4b0 : decide (1048576 < (l0.length : Int)) = false := decide_eq_false c4
      have c4b1 : decide (1048576 < l0.length) = false := decide_eq_false (by omega)
      clear c4
      (first | rw [c4b0] | (simp only [i64_w, i32_w]; rw [c4b0]) | skip)
      have H' := Aside0.mk H
      clear H
      go_wp2
      go_meet
      case rel => exact ⟨_, (decide ((l1.length : Int) > 1048576)), (by first | rfl | (simp; done) | (simp [*]; done)), H', ⟨by first | omega | exact Nat.le_refl _⟩, ⟨by repeat (first | (with_reducible first | exact HB.out | apply below_alloc | apply pw_below_drewN | apply below_drew1) | exact HB.out)⟩⟩
  case rest =>
    clear HC3
    try clear c1
    try clear p2
    try clear c4
    try clear c4b0
    try clear c4b1
    obtain ⟨kq, x29_2, rfl, HA, HJ2, HB⟩ := hcut
    cases kq with
    | zero => exact absurd HA.out (by simp [laws_FnSeasons.j0])
    | succ kj2 =>
      have H := HA.out
      clear HA
      simp only [laws_FnSeasons.j0] at H
      by_cases c5 : x29_2 = true
      · subst c5
        have H1 : (some true) = some r := by rw [if_pos rfl] at H; exact H
        clear H
        have H := H1
        clear H1
        obtain rfl := Option.some.inj H
        go_wp2
        go_ret
        exact ⟨by first | rfl | (simp [errW_none, errW_some] <;> rfl) | (simp [*, errW_none, errW_some] <;> rfl), by repeat (first | (with_reducible first | exact HB.out | apply below_alloc | apply pw_below_drewN | apply below_drew1) | exact HB.out)⟩
      · replace c5 := Bool.eq_false_iff.mpr c5
        subst c5
        have H1 : ((spec_SalesOf.f kj2 l0).bind fun bt161 => ((laws_at.f l1 0 (bt161.1.length : Int)).bind fun t166 => ((impl_Seasons.f kj2 bt161.1 (wrap64 (1 + t166))).bind fun bt167 => (if bt167.2 = 0 then (laws_FnSeasons.j1 kj2 bt161.1 (wrap64 (1 + t166)) bt167.1 ((bt167.1.length : Int) != (wrap64 (1 + t166)))) else (laws_FnSeasons.j1 kj2 bt161.1 (wrap64 (1 + t166)) bt167.1 true))))) = some r := by rw [if_neg (show ¬ (false = true) by decide)] at H; exact H
        clear H
        have H := H1
        clear H1
        replace H := Option.bind_eq_some_iff.mp H
        obtain ⟨⟨t161, t162, t163⟩, A60, H⟩ := H
        replace H : ((laws_at.f l1 0 (t161.length : Int)).bind fun t166 => ((impl_Seasons.f kj2 t161 (wrap64 (1 + t166))).bind fun bt167 => (if bt167.2 = 0 then (laws_FnSeasons.j1 kj2 t161 (wrap64 (1 + t166)) bt167.1 ((bt167.1.length : Int) != (wrap64 (1 + t166)))) else (laws_FnSeasons.j1 kj2 t161 (wrap64 (1 + t166)) bt167.1 true)))) = some r := H
        have A6 := Aside0.mk A60
        clear A60
        replace H := Option.bind_eq_some_iff.mp H
        obtain ⟨t166, A70, H⟩ := H
        replace H : ((impl_Seasons.f kj2 t161 (wrap64 (1 + t166))).bind fun bt167 => (if bt167.2 = 0 then (laws_FnSeasons.j1 kj2 t161 (wrap64 (1 + t166)) bt167.1 ((bt167.1.length : Int) != (wrap64 (1 + t166)))) else (laws_FnSeasons.j1 kj2 t161 (wrap64 (1 + t166)) bt167.1 true))) = some r := H
        have A7 := Aside0.mk A70
        clear A70
        replace H := Option.bind_eq_some_iff.mp H
        obtain ⟨⟨t167, t168⟩, A80, H⟩ := H
        replace H : (if t168 = 0 then (laws_FnSeasons.j1 kj2 t161 (wrap64 (1 + t166)) t167 ((t167.length : Int) != (wrap64 (1 + t166)))) else (laws_FnSeasons.j1 kj2 t161 (wrap64 (1 + t166)) t167 true)) = some r := H
        have A8 := Aside0.mk A80
        clear A80
        have HC9 := Aside0.mk H
        clear H
        go_upto_region 6 with (first | ((with_reducible refine gate_callee (f := 10) rfl ?_); refine goesL_ (some 32) rfl rfl Try.func10 (by kernel_rfl) rfl #[.slice A0 l0.length c0] rfl (by (try simp only [List.map_toArray, List.map_cons, List.map_nil]); first | done | rfl | (simp only [List.length_drop, List.length_take]; rfl)) ?_; (with_reducible refine (spec_SalesOf.calls kj2 _ _ l0 t161 t162 t163 _ ?side1 ?side2 A6.out).mono ?_); (case side1 => repeat (first | exact (Kd.C_below HR0.out HB.out) | (with_reducible refine Kd.C_alloc ?_ _) | (with_reducible refine Kd.C_drewN ?_ _) | (with_reducible refine Kd.C_drew ?_))); (case side2 => exact HC0.out); rintro e w10 ⟨v164, rfl, ho0, hb⟩; refine ⟨_, rfl, ?_⟩; have n0_ := Aside0.mk (Kd.R_lower ho0 (below_size (by repeat (first | (with_reducible first | exact HB.out | apply below_alloc | apply pw_below_drewN | apply below_drew1) | exact HB.out)))); have n1_ := Aside0.mk (below_step (by repeat (first | (with_reducible first | exact HB.out | apply below_alloc | apply pw_below_drewN | apply below_drew1) | exact HB.out)) hb); clear HB; have HO165 := n0_; have HB := n1_; clear n0_ n1_; (try clear hb); (try clear hb2); (try clear hk); (try clear hi); (try clear ho0); obtain ⟨Ao11, co11, eo11⟩ := Kd.R_slice HO165.out; subst eo11) | ((with_reducible refine gate_callee (f := 12) rfl ?_); refine goesL_ (some 39) rfl rfl Try.func12 (by kernel_rfl) rfl #[.slice A1 l1.length c1, .int .i64 0, .int .i64 (t161.length : Int)] rfl (by (try simp only [List.map_toArray, List.map_cons, List.map_nil]); first | done | rfl | (simp only [List.length_drop, List.length_take]; rfl)) ?_; (with_reducible refine (laws_at.calls _ _ l1 0 (t161.length : Int) t166 _ ?side1 ?side2 A7.out).mono ?_); (case side1 => repeat (first | exact (Kd.C_below HR1.out HB.out) | (with_reducible refine Kd.C_alloc ?_ _) | (with_reducible refine Kd.C_drewN ?_ _) | (with_reducible refine Kd.C_drew ?_))); (case side2 => exact HC1.out); rintro e w' ⟨rfl, ⟨nd, rfl⟩⟩; refine ⟨_, rfl, ?_⟩) | ((with_reducible refine gate_callee (f := 24) rfl ?_); refine goesL_ (some 44) rfl rfl Try.func24 (by kernel_rfl) rfl #[.slice Ao11 t161.length co11, .int .i64 (wrap64 (1 + t166))] rfl (by (try simp only [List.map_toArray, List.map_cons, List.map_nil]); first | done | rfl | (simp only [List.length_drop, List.length_take]; rfl)) ?_; (with_reducible refine (impl_Seasons.calls kj2 _ _ t161 (wrap64 (1 + t166)) t167 t168 _ ?side1 ?side2 A8.out).mono ?_); (case side1 => repeat (first | exact (Kd.R_reads' HO165.out).2.2 | (with_reducible refine Kd.C_alloc ?_ _) | (with_reducible refine Kd.C_drewN ?_ _) | (with_reducible refine Kd.C_drew ?_))); (case side2 => exact (Kd.R_reads' HO165.out).2.1); rintro e w12 ⟨v169, rfl, ho0, hb⟩; refine ⟨_, rfl, ?_⟩; have n0_ := Aside0.mk (Kd.R_below (by (with_reducible repeat (first | apply Kd.R_alloc | apply Kd.R_drewN | apply Kd.R_drew)); exact HO165.out) hb); have n1_ := Aside0.mk (Kd.R_lower ho0 (below_size (by repeat (first | (with_reducible first | exact HB.out | apply below_alloc | apply pw_below_drewN | apply below_drew1) | exact HB.out)))); have n2_ := Aside0.mk (below_step (by repeat (first | (with_reducible first | exact HB.out | apply below_alloc | apply pw_below_drewN | apply below_drew1) | exact HB.out)) hb); clear HO165; clear HB; have HO165 := n0_; have HO170 := n1_; have HB := n2_; clear n0_ n1_ n2_; (try clear hb); (try clear hb2); (try clear hk); (try clear hi); (try clear ho0)))
        (try simp only [Act.put, List.setIfInBounds_toArray, List.set_cons_zero, List.set_cons_succ])
        go_cut [54] (fun v54 wc => ∃ (kq : Nat) (x54_8 : Bool), v54 = .bool x54_8 ∧ Aside0 (laws_FnSeasons.j1 kq t161 (wrap64 (1 + t166)) t167 x54_8 = some r) ∧ Aside0 (kq ≤ kj2) ∧ Aside0 (Kd.R (Kd.int .i64) 3 wc w.heap.size (fun _ => True) (.slice Ao11 t161.length co11) t161) ∧ Aside0 (Kd.R k46 46 wc w.heap.size (fun _ => True) v169 t167) ∧ Aside0 (Below w.heap.size w wc))
        case first =>
          have H := HC9.out
          clear HC9
          by_cases c13 : t168 = 0
          · rw [if_pos c13] at H
            have c13b0 : (t168 == 0) = true := beq_iff_eq.mpr c13
            have c13b1 : (t168 != 0) = false := bne_eq_false_iff_eq.mpr c13
            clear c13
            (first | rw [c13b0] | (simp only [i64_w, i32_w]; rw [c13b0]) | skip)
            have H' := Aside0.mk H
            clear H
            obtain ⟨Ao14, co14, eo14⟩ := Kd.R_slice HO170.out
            subst eo14
            go_wp2
            go_meet
            case rel => exact ⟨_, (((t167.length : Int) != (wrap64 (1 + t166)))), (by first | rfl | (simp; done) | (simp [*]; done)), H', ⟨by have := HJ2.out; first | omega | exact Nat.le_refl _⟩, ⟨by (with_reducible repeat (first | apply Kd.R_alloc | apply Kd.R_drewN | apply Kd.R_drew)); exact HO165.out⟩, ⟨by (with_reducible repeat (first | apply Kd.R_alloc | apply Kd.R_drewN | apply Kd.R_drew)); exact HO170.out⟩, ⟨by repeat (first | (with_reducible first | exact HB.out | apply below_alloc | apply pw_below_drewN | apply below_drew1) | exact HB.out)⟩⟩
          · rw [if_neg c13] at H
            have c13b0 : (t168 == 0) = false := beq_eq_false_iff_ne.mpr c13
            have c13b1 : (t168 != 0) = true := bne_iff_ne.mpr c13
            (first | rw [c13b0] | (simp only [i64_w, i32_w]; rw [c13b0]) | skip)
            have H' := Aside0.mk H
            clear H
            go_wp2
            go_meet
            case rel => exact ⟨_, (true), (by first | rfl | (simp; done) | (simp [*]; done)), H', ⟨by have := HJ2.out; first | omega | exact Nat.le_refl _⟩, ⟨by (with_reducible repeat (first | apply Kd.R_alloc | apply Kd.R_drewN | apply Kd.R_drew)); exact HO165.out⟩, ⟨by (with_reducible repeat (first | apply Kd.R_alloc | apply Kd.R_drewN | apply Kd.R_drew)); exact HO170.out⟩, ⟨by repeat (first | (with_reducible first | exact HB.out | apply below_alloc | apply pw_below_drewN | apply below_drew1) | exact HB.out)⟩⟩
        case rest =>
          clear HC9
          try clear c1
          try clear c2
          try clear p2
          try clear c4
          try clear c4b0
          try clear c4b1
          try clear c5
          try clear p6
          try clear c7
          try clear c10
          try clear c12
          try clear c13
          try clear c13b0
          try clear c13b1
          try clear p2
          obtain ⟨kq, x54_8, rfl, HA, HJ8, HO_5, HO_9, HB⟩ := hcut
          cases kq with
          | zero => exact absurd HA.out (by simp [laws_FnSeasons.j1])
          | succ kj8 =>
            have H := HA.out
            clear HA
            simp only [laws_FnSeasons.j1] at H
            by_cases c15 : x54_8 = true
            · subst c15
              have H1 : (some false) = some r := by rw [if_pos rfl] at H; exact H
              clear H
              have H := H1
              clear H1
              obtain rfl := Option.some.inj H
              go_wp2
              go_ret
              exact ⟨by first | rfl | (simp [errW_none, errW_some] <;> rfl) | (simp [*, errW_none, errW_some] <;> rfl), by repeat (first | (with_reducible first | exact HB.out | apply below_alloc | apply pw_below_drewN | apply below_drew1) | exact HB.out)⟩
            · replace c15 := Bool.eq_false_iff.mpr c15
              subst c15
              have H1 : ((laws_sum.f kj8 t161).bind fun t171 => (laws_FnSeasons.l0 kj8 t161 (wrap64 (1 + t166)) t167 t171 0)) = some r := by rw [if_neg (show ¬ (false = true) by decide)] at H; exact H
              clear H
              have H := H1
              clear H1
              replace H := Option.bind_eq_some_iff.mp H
              obtain ⟨t171, A160, H⟩ := H
              replace H : (laws_FnSeasons.l0 kj8 t161 (wrap64 (1 + t166)) t167 t171 0) = some r := H
              have A16 := Aside0.mk A160
              clear A160
              have H' := Aside0.mk H
              clear H
              go_wp2_with (first | ((with_reducible refine gate_callee (f := 16) rfl ?_); refine goesL_ (some 56) rfl rfl Try.func16 (by kernel_rfl) rfl #[.slice Ao11 t161.length co11] rfl (by (try simp only [List.map_toArray, List.map_cons, List.map_nil]); first | done | rfl | (simp only [List.length_drop, List.length_take]; rfl)) ?_; (with_reducible refine (laws_sum.calls kj8 _ _ t161 t171 _ ?side1 ?side2 A16.out).mono ?_); (case side1 => repeat (first | exact (Kd.R_reads' HO_5.out).2.2 | (with_reducible refine Kd.C_alloc ?_ _) | (with_reducible refine Kd.C_drewN ?_ _) | (with_reducible refine Kd.C_drew ?_))); (case side2 => exact (Kd.R_reads' HO_5.out).2.1); rintro e w' ⟨rfl, ⟨nd, rfl⟩⟩; refine ⟨_, rfl, ?_⟩))
              go_loopg [12] kj8 (fun kq v12 w' => ∃ (x12_3 : Int), v12 = .int .i64 x12_3 ∧ Aside0 (laws_FnSeasons.l0 kq t161 (wrap64 (1 + t166)) t167 t171 x12_3 = some r) ∧ Aside0 (kq ≤ kj8) ∧ Aside0 (Kd.R (Kd.int .i64) 3 w' w.heap.size (fun _ => True) (.slice Ao11 t161.length co11) t161) ∧ Aside0 (Kd.R k46 46 w' w.heap.size (fun _ => True) v169 t167) ∧ Aside0 (Below w.heap.size w w'))
              case atStart => exact ⟨(0), (by first | rfl | (simp; done) | (simp [*]; done)), H', ⟨Nat.le_refl _⟩, ⟨by (with_reducible repeat (first | apply Kd.R_alloc | apply Kd.R_drewN | apply Kd.R_drew)); exact HO_5.out⟩, ⟨by (with_reducible repeat (first | apply Kd.R_alloc | apply Kd.R_drewN | apply Kd.R_drew)); exact HO_9.out⟩, ⟨by repeat (first | (with_reducible first | exact HB.out | apply below_alloc | apply pw_below_drewN | apply below_drew1) | exact HB.out)⟩⟩
              case round =>
                clear H'
                try clear c1
                try clear c2
                try clear p2
                try clear c4
                try clear c4b0
                try clear c4b1
                try clear c5
                try clear p6
                try clear c7
                try clear c10
                try clear c12
                try clear c13
                try clear c13b0
                try clear c13b1
                try clear c15
                try clear c16
                try clear p2
                try clear p6
                obtain ⟨x12_3, rfl, HA, HK3, HO_5, HO_9, HB⟩ := hrel
                cases gk with
                | zero => exact absurd HA.out (by simp [laws_FnSeasons.l0])
                | succ k3 =>
                  have H := HA.out
                  clear HA
                  simp only [laws_FnSeasons.l0] at H
                  by_cases c17 : x12_3 < (wrap64 (1 + t166))
                  · rw [if_pos c17] at H
                    have c17b0 : decide (x12_3 < (wrap64 (1 + t166))) = true := decide_eq_true c17
                    clear c17
                    have H' := Aside0.mk H
                    clear H
                    go_wp2
                    go_loopg [13, 14, 15] k3 (fun kq v13 v14 v15 w' => ∃ (x13_4 : Int) (x14_4 : Int) (x15_4 : Int), v13 = .int .i64 x13_4 ∧ v14 = .int .i64 x14_4 ∧ v15 = .int .i64 x15_4 ∧ Aside0 (laws_FnSeasons.l1 kq t161 (wrap64 (1 + t166)) t167 t171 x12_3 x13_4 x14_4 x15_4 = some r) ∧ Aside0 (kq ≤ k3) ∧ Aside0 (Kd.R (Kd.int .i64) 3 w' w.heap.size (fun _ => True) (.slice Ao11 t161.length co11) t161) ∧ Aside0 (Kd.R k46 46 w' w.heap.size (fun _ => True) v169 t167) ∧ Aside0 (Below w.heap.size w w'))
                    case atStart => exact ⟨(0), (0), (x12_3), (by first | rfl | (simp; done) | (simp [*]; done)), (by first | rfl | (simp; done) | (simp [*]; done)), (by first | rfl | (simp; done) | (simp [*]; done)), H', ⟨Nat.le_refl _⟩, ⟨by (with_reducible repeat (first | apply Kd.R_alloc | apply Kd.R_drewN | apply Kd.R_drew)); exact HO_5.out⟩, ⟨by (with_reducible repeat (first | apply Kd.R_alloc | apply Kd.R_drewN | apply Kd.R_drew)); exact HO_9.out⟩, ⟨by repeat (first | (with_reducible first | exact HB.out | apply below_alloc | apply pw_below_drewN | apply below_drew1) | exact HB.out)⟩⟩
                    case round =>
                      clear H'
                      try clear c1
                      try clear c2
                      try clear p2
                      try clear c4
                      try clear c4b0
                      try clear c4b1
                      try clear c5
                      try clear p6
                      try clear c7
                      try clear c10
                      try clear c12
                      try clear c13
                      try clear c13b0
                      try clear c13b1
                      try clear c15
                      try clear c16
                      try clear c17
                      try clear c17b0
                      try clear p2
                      try clear p6
                      obtain ⟨x13_4, x14_4, x15_4, rfl, rfl, rfl, HA, HK4, HO_5, HO_9, HB⟩ := hrel
                      cases gk with
                      | zero => exact absurd HA.out (by simp [laws_FnSeasons.l1])
                      | succ k4 =>
                        have H := HA.out
                        clear HA
                        simp only [laws_FnSeasons.l1] at H
                        by_cases c18 : x15_4 < (t161.length : Int)
                        · rw [if_pos c18] at H
                          have c18b0 : decide (x15_4 < (t161.length : Int)) = true := decide_eq_true c18
                          clear c18
                          by_cases c19 : 0 ≤ x15_4
                          · rw [if_pos c19] at H
                            have c19b0 : decide (0 ≤ x15_4) = true := decide_eq_true c19
                            clear c19
                            have H' := Aside0.mk H
                            clear H
                            have p172 : 0 ≤ (x15_4 : Int) := of_decide_eq_true (by first | (with_reducible assumption) | assumption)
                            have q172 : x15_4 < (t161.length : Int) := of_decide_eq_true (by first | (with_reducible assumption) | assumption)
                            obtain ⟨ad172, e172, hx172_0⟩ := Kd.at_int (Kd.R_reads' HO_5.out).2.2 x15_4 p172 q172
                            cases e172
                            replace p172 := eq_true p172
                            replace q172 := eq_true q172
                            go_wp2
                            go_roundg k4
                            case measure => have := HJ2.out; have := HJ8.out; have := HK3.out; have := HK4.out; omega
                            case rel => exact ⟨(wrap64 (x13_4 + (rd t161 x15_4))), (wrap64 (x14_4 + 1)), (wrap64 (x15_4 + (wrap64 (1 + t166)))), (by first | rfl | (simp; done) | (simp [*]; done)), (by first | rfl | (simp; done) | (simp [*]; done)), (by first | rfl | (simp; done) | (simp [*]; done)), H', ⟨by have := HJ2.out; have := HJ8.out; have := HK3.out; have := HK4.out; omega⟩, ⟨by (with_reducible repeat (first | apply Kd.R_alloc | apply Kd.R_drewN | apply Kd.R_drew)); exact HO_5.out⟩, ⟨by (with_reducible repeat (first | apply Kd.R_alloc | apply Kd.R_drewN | apply Kd.R_drew)); exact HO_9.out⟩, ⟨by repeat (first | (with_reducible first | exact HB.out | apply below_alloc | apply pw_below_drewN | apply below_drew1) | exact HB.out)⟩⟩
                          · rw [if_neg c19] at H
                            exact absurd H (by simp)
                        · rw [if_neg c18] at H
                          have c18b0 : decide (x15_4 < (t161.length : Int)) = false := decide_eq_false c18
                          clear c18
                          by_cases c20 : 0 ≤ x12_3
                          · rw [if_pos c20] at H
                            have c20b0 : decide (0 ≤ x12_3) = true := decide_eq_true c20
                            clear c20
                            by_cases c21 : x12_3 < (t167.length : Int)
                            · rw [if_pos c21] at H
                              have c21b0 : decide (x12_3 < (t167.length : Int)) = true := decide_eq_true c21
                              clear c21
                              by_cases c22 : ((rd_T46 t167 x12_3).f1) < 1
                              · rw [if_pos c22] at H
                                have c22b0 : decide (((rd_T46 t167 x12_3).f1) < 1) = true := decide_eq_true c22
                                clear c22
                                obtain rfl := Option.some.inj H
                                obtain ⟨Ao23, co23, eo23⟩ := Kd.R_slice HO_9.out
                                subst eo23
                                have p173 : 0 ≤ (x12_3 : Int) := of_decide_eq_true (by first | (with_reducible assumption) | assumption)
                                have q173 : x12_3 < (t167.length : Int) := of_decide_eq_true (by first | (with_reducible assumption) | assumption)
                                obtain ⟨ad173, e173, hx173_0, hx173_1⟩ := at_T46 (Kd.R_reads' HO_9.out).2.2 x12_3 p173 q173
                                cases e173
                                replace p173 := eq_true p173
                                replace q173 := eq_true q173
                                go_wp2_with (first | ((with_reducible refine gate_dst (N := 16) rfl ?_); (try (refine gate_guard (by rfl) ?_; dsimp only)); refine box_event ?hg (N := 16) ?hd (cs := #[.int .i64 0, .int .i64 0]) (t := 46) ?hr ?_; (case hd => rfl); (case hg => rfl); (case hr => first | (go_simp; done) | (go_simp; rfl)); intro gb174 hg w24 hbox hb; have n0_ := Aside0.mk (Kd.R_below (by (with_reducible repeat (first | apply Kd.R_alloc | apply Kd.R_drewN | apply Kd.R_drew)); exact HO_5.out) hb); have n1_ := Aside0.mk (Kd.R_below (Kd.R_elderB (by (with_reducible repeat (first | apply Kd.R_alloc | apply Kd.R_drewN | apply Kd.R_drew)); exact HO_9.out) gb174 (Nat.le_of_eq hg.symm)) hb); have n2_ := Aside0.mk (below_step (by repeat (first | (with_reducible first | exact HB.out | apply below_alloc | apply pw_below_drewN | apply below_drew1) | exact HB.out)) hb); have n3_ := Aside0.mk (hbox); have n4_ := Aside0.mk ((by rw [hg]; exact (below_size (by repeat (first | (with_reducible first | exact HB.out | apply below_alloc | apply pw_below_drewN | apply below_drew1) | exact HB.out))) : w.heap.size ≤ gb174)); have n5_ := Aside0.mk ((by rw [hg]; exact (below_size (by repeat (first | (with_reducible first | exact HB.out | apply below_alloc | apply pw_below_drewN | apply below_drew1) | exact HB.out))) : w.heap.size ≤ gb174)); clear HO_5; clear HO_9; clear HB; have HO_5 := n0_; have HO_9 := n1_; have HB := n2_; have BK174 := n3_; have GW174 := n4_; have GE174 := n5_; clear n0_ n1_ n2_ n3_ n4_ n5_; clear hb hbox hg; have hcz25_0 : w24.cell? ⟨gb174, 0, none⟩ = some (.int .i64 0) := (blk_cell BK174.out 0).trans rfl; have hcz25_1 : w24.cell? ⟨gb174, 1, none⟩ = some (.int .i64 0) := (blk_cell BK174.out 1).trans rfl; have hfz25_0 := blk_frozen BK174.out 0; have hfz25_1 := blk_frozen BK174.out 1))
                                go_ret
                                exact ⟨by first | rfl | (simp [errW_none, errW_some] <;> rfl) | (simp [*, errW_none, errW_some] <;> rfl), by repeat (first | (with_reducible first | exact HB.out | apply below_alloc | apply pw_below_drewN | apply below_drew1 | refine below_set ?_ GE174.out) | exact HB.out)⟩
                              · rw [if_neg c22] at H
                                have c22b0 : decide (((rd_T46 t167 x12_3).f1) < 1) = false := decide_eq_false c22
                                clear c22
                                by_cases c26 : ((rd_T46 t167 x12_3).f0) < 0
                                · rw [if_pos c26] at H
                                  have c26b0 : decide (((rd_T46 t167 x12_3).f0) < 0) = true := decide_eq_true c26
                                  clear c26
                                  obtain rfl := Option.some.inj H
                                  obtain ⟨Ao27, co27, eo27⟩ := Kd.R_slice HO_9.out
                                  subst eo27
                                  have p173 : 0 ≤ (x12_3 : Int) := of_decide_eq_true (by first | (with_reducible assumption) | assumption)
                                  have q173 : x12_3 < (t167.length : Int) := of_decide_eq_true (by first | (with_reducible assumption) | assumption)
                                  obtain ⟨ad173, e173, hx173_0, hx173_1⟩ := at_T46 (Kd.R_reads' HO_9.out).2.2 x12_3 p173 q173
                                  cases e173
                                  replace p173 := eq_true p173
                                  replace q173 := eq_true q173
                                  go_wp2_with (first | ((with_reducible refine gate_dst (N := 16) rfl ?_); (try (refine gate_guard (by rfl) ?_; dsimp only)); refine box_event ?hg (N := 16) ?hd (cs := #[.int .i64 0, .int .i64 0]) (t := 46) ?hr ?_; (case hd => rfl); (case hg => rfl); (case hr => first | (go_simp; done) | (go_simp; rfl)); intro gb174 hg w28 hbox hb; have n0_ := Aside0.mk (Kd.R_below (by (with_reducible repeat (first | apply Kd.R_alloc | apply Kd.R_drewN | apply Kd.R_drew)); exact HO_5.out) hb); have n1_ := Aside0.mk (Kd.R_below (Kd.R_elderB (by (with_reducible repeat (first | apply Kd.R_alloc | apply Kd.R_drewN | apply Kd.R_drew)); exact HO_9.out) gb174 (Nat.le_of_eq hg.symm)) hb); have n2_ := Aside0.mk (below_step (by repeat (first | (with_reducible first | exact HB.out | apply below_alloc | apply pw_below_drewN | apply below_drew1) | exact HB.out)) hb); have n3_ := Aside0.mk (hbox); have n4_ := Aside0.mk ((by rw [hg]; exact (below_size (by repeat (first | (with_reducible first | exact HB.out | apply below_alloc | apply pw_below_drewN | apply below_drew1) | exact HB.out))) : w.heap.size ≤ gb174)); have n5_ := Aside0.mk ((by rw [hg]; exact (below_size (by repeat (first | (with_reducible first | exact HB.out | apply below_alloc | apply pw_below_drewN | apply below_drew1) | exact HB.out))) : w.heap.size ≤ gb174)); clear HO_5; clear HO_9; clear HB; have HO_5 := n0_; have HO_9 := n1_; have HB := n2_; have BK174 := n3_; have GW174 := n4_; have GE174 := n5_; clear n0_ n1_ n2_ n3_ n4_ n5_; clear hb hbox hg; have hcz29_0 : w28.cell? ⟨gb174, 0, none⟩ = some (.int .i64 0) := (blk_cell BK174.out 0).trans rfl; have hcz29_1 : w28.cell? ⟨gb174, 1, none⟩ = some (.int .i64 0) := (blk_cell BK174.out 1).trans rfl; have hfz29_0 := blk_frozen BK174.out 0; have hfz29_1 := blk_frozen BK174.out 1))
                                  go_ret
                                  exact ⟨by first | rfl | (simp [errW_none, errW_some] <;> rfl) | (simp [*, errW_none, errW_some] <;> rfl), by repeat (first | (with_reducible first | exact HB.out | apply below_alloc | apply pw_below_drewN | apply below_drew1 | refine below_set ?_ GE174.out) | exact HB.out)⟩
                                · rw [if_neg c26] at H
                                  have c26b0 : decide (((rd_T46 t167 x12_3).f0) < 0) = false := decide_eq_false c26
                                  clear c26
                                  by_cases c30 : (wrap64 ((wrap64 (((rd_T46 t167 x12_3).f0) * x14_4)) * t171)) = (wrap64 ((wrap64 (((rd_T46 t167 x12_3).f1) * x13_4)) * (t161.length : Int)))
                                  · rw [if_pos c30] at H
                                    have c30b0 : ((wrap64 ((wrap64 (((rd_T46 t167 x12_3).f0) * x14_4)) * t171)) == (wrap64 ((wrap64 (((rd_T46 t167 x12_3).f1) * x13_4)) * (t161.length : Int)))) = true := beq_iff_eq.mpr c30
                                    have c30b1 : ((wrap64 ((wrap64 (((rd_T46 t167 x12_3).f0) * x14_4)) * t171)) != (wrap64 ((wrap64 (((rd_T46 t167 x12_3).f1) * x13_4)) * (t161.length : Int)))) = false := bne_eq_false_iff_eq.mpr c30
                                    clear c30
                                    replace H := Option.bind_eq_some_iff.mp H
                                    obtain ⟨t175, A310, H⟩ := H
                                    replace H : (if t175 = 1 then (laws_FnSeasons.l0 k4 t161 (wrap64 (1 + t166)) t167 t171 (wrap64 (x12_3 + 1))) else (some false)) = some r := H
                                    have A31 := Aside0.mk A310
                                    clear A310
                                    by_cases c32 : t175 = 1
                                    · rw [if_pos c32] at H
                                      have c32b0 : (t175 == 1) = true := beq_iff_eq.mpr c32
                                      have c32b1 : (t175 != 1) = false := bne_eq_false_iff_eq.mpr c32
                                      clear c32
                                      have H' := Aside0.mk H
                                      clear H
                                      obtain ⟨Ao33, co33, eo33⟩ := Kd.R_slice HO_9.out
                                      subst eo33
                                      have p173 : 0 ≤ (x12_3 : Int) := of_decide_eq_true (by first | (with_reducible assumption) | assumption)
                                      have q173 : x12_3 < (t167.length : Int) := of_decide_eq_true (by first | (with_reducible assumption) | assumption)
                                      obtain ⟨ad173, e173, hx173_0, hx173_1⟩ := at_T46 (Kd.R_reads' HO_9.out).2.2 x12_3 p173 q173
                                      cases e173
                                      replace p173 := eq_true p173
                                      replace q173 := eq_true q173
                                      go_wp2_with (first | ((with_reducible refine gate_dst (N := 16) rfl ?_); (try (refine gate_guard (by rfl) ?_; dsimp only)); refine box_event ?hg (N := 16) ?hd (cs := #[.int .i64 0, .int .i64 0]) (t := 46) ?hr ?_; (case hd => rfl); (case hg => rfl); (case hr => first | (go_simp; done) | (go_simp; rfl)); intro gb174 hg w34 hbox hb; have n0_ := Aside0.mk (Kd.R_below (by (with_reducible repeat (first | apply Kd.R_alloc | apply Kd.R_drewN | apply Kd.R_drew)); exact HO_5.out) hb); have n1_ := Aside0.mk (Kd.R_below (Kd.R_elderB (by (with_reducible repeat (first | apply Kd.R_alloc | apply Kd.R_drewN | apply Kd.R_drew)); exact HO_9.out) gb174 (Nat.le_of_eq hg.symm)) hb); have n2_ := Aside0.mk (below_step (by repeat (first | (with_reducible first | exact HB.out | apply below_alloc | apply pw_below_drewN | apply below_drew1) | exact HB.out)) hb); have n3_ := Aside0.mk (hbox); have n4_ := Aside0.mk ((by rw [hg]; exact (below_size (by repeat (first | (with_reducible first | exact HB.out | apply below_alloc | apply pw_below_drewN | apply below_drew1) | exact HB.out))) : w.heap.size ≤ gb174)); have n5_ := Aside0.mk ((by rw [hg]; exact (below_size (by repeat (first | (with_reducible first | exact HB.out | apply below_alloc | apply pw_below_drewN | apply below_drew1) | exact HB.out))) : w.heap.size ≤ gb174)); clear HO_5; clear HO_9; clear HB; have HO_5 := n0_; have HO_9 := n1_; have HB := n2_; have BK174 := n3_; have GW174 := n4_; have GE174 := n5_; clear n0_ n1_ n2_ n3_ n4_ n5_; clear hb hbox hg; have hcz35_0 : w34.cell? ⟨gb174, 0, none⟩ = some (.int .i64 0) := (blk_cell BK174.out 0).trans rfl; have hcz35_1 : w34.cell? ⟨gb174, 1, none⟩ = some (.int .i64 0) := (blk_cell BK174.out 1).trans rfl; have hfz35_0 := blk_frozen BK174.out 0; have hfz35_1 := blk_frozen BK174.out 1) | (go_at_call 25; (with_reducible refine (laws_common.calls k4 ((rd_T46 t167 x12_3).f0) ((rd_T46 t167 x12_3).f1) t175 _ A31.out).mono ?_); rintro e w' ⟨rfl, ⟨nd, rfl⟩⟩))
                                      go_roundg k4
                                      case measure => have := HJ2.out; have := HJ8.out; have := HK3.out; have := HK4.out; omega
                                      case rel => exact ⟨(wrap64 (x12_3 + 1)), (by first | rfl | (simp; done) | (simp [*]; done)), H', ⟨by have := HJ2.out; have := HJ8.out; have := HK3.out; have := HK4.out; omega⟩, ⟨by (with_reducible repeat (first | apply Kd.R_alloc | apply Kd.R_drewN | apply Kd.R_drew)); exact Kd.R_mono (Kd.R_far (p := ⟨gb174, 1, none⟩) (Kd.R_far (p := ⟨gb174, 0, none⟩) (Kd.R_types HO_5.out BK174.out (by decide)) (fun _ hk => hk.2) (.int .i64 ((rd_T46 t167 x12_3).f0))) (fun _ hk => hk.2) (.int .i64 ((rd_T46 t167 x12_3).f1))) (fun _ hk => trivial)⟩, ⟨by (with_reducible repeat (first | apply Kd.R_alloc | apply Kd.R_drewN | apply Kd.R_drew)); exact Kd.R_mono (Kd.R_far (p := ⟨gb174, 1, none⟩) (Kd.R_far (p := ⟨gb174, 0, none⟩) (Kd.R_mono HO_9.out (fun k_ hk => (⟨hk, hk.2⟩ : _ ∧ k_ ≠ gb174))) (fun _ hk => hk.2) (.int .i64 ((rd_T46 t167 x12_3).f0))) (fun _ hk => hk.2) (.int .i64 ((rd_T46 t167 x12_3).f1))) (fun _ hk => trivial)⟩, ⟨by repeat (first | (with_reducible first | exact HB.out | apply below_alloc | apply pw_below_drewN | apply below_drew1 | refine below_set ?_ GE174.out) | exact HB.out)⟩⟩
                                    · rw [if_neg c32] at H
                                      have c32b0 : (t175 == 1) = false := beq_eq_false_iff_ne.mpr c32
                                      have c32b1 : (t175 != 1) = true := bne_iff_ne.mpr c32
                                      obtain rfl := Option.some.inj H
                                      obtain ⟨Ao36, co36, eo36⟩ := Kd.R_slice HO_9.out
                                      subst eo36
                                      have p173 : 0 ≤ (x12_3 : Int) := of_decide_eq_true (by first | (with_reducible assumption) | assumption)
                                      have q173 : x12_3 < (t167.length : Int) := of_decide_eq_true (by first | (with_reducible assumption) | assumption)
                                      obtain ⟨ad173, e173, hx173_0, hx173_1⟩ := at_T46 (Kd.R_reads' HO_9.out).2.2 x12_3 p173 q173
                                      cases e173
                                      replace p173 := eq_true p173
                                      replace q173 := eq_true q173
                                      go_wp2_with (first | ((with_reducible refine gate_dst (N := 16) rfl ?_); (try (refine gate_guard (by rfl) ?_; dsimp only)); refine box_event ?hg (N := 16) ?hd (cs := #[.int .i64 0, .int .i64 0]) (t := 46) ?hr ?_; (case hd => rfl); (case hg => rfl); (case hr => first | (go_simp; done) | (go_simp; rfl)); intro gb174 hg w37 hbox hb; have n0_ := Aside0.mk (Kd.R_below (by (with_reducible repeat (first | apply Kd.R_alloc | apply Kd.R_drewN | apply Kd.R_drew)); exact HO_5.out) hb); have n1_ := Aside0.mk (Kd.R_below (Kd.R_elderB (by (with_reducible repeat (first | apply Kd.R_alloc | apply Kd.R_drewN | apply Kd.R_drew)); exact HO_9.out) gb174 (Nat.le_of_eq hg.symm)) hb); have n2_ := Aside0.mk (below_step (by repeat (first | (with_reducible first | exact HB.out | apply below_alloc | apply pw_below_drewN | apply below_drew1) | exact HB.out)) hb); have n3_ := Aside0.mk (hbox); have n4_ := Aside0.mk ((by rw [hg]; exact (below_size (by repeat (first | (with_reducible first | exact HB.out | apply below_alloc | apply pw_below_drewN | apply below_drew1) | exact HB.out))) : w.heap.size ≤ gb174)); have n5_ := Aside0.mk ((by rw [hg]; exact (below_size (by repeat (first | (with_reducible first | exact HB.out | apply below_alloc | apply pw_below_drewN | apply below_drew1) | exact HB.out))) : w.heap.size ≤ gb174)); clear HO_5; clear HO_9; clear HB; have HO_5 := n0_; have HO_9 := n1_; have HB := n2_; have BK174 := n3_; have GW174 := n4_; have GE174 := n5_; clear n0_ n1_ n2_ n3_ n4_ n5_; clear hb hbox hg; have hcz38_0 : w37.cell? ⟨gb174, 0, none⟩ = some (.int .i64 0) := (blk_cell BK174.out 0).trans rfl; have hcz38_1 : w37.cell? ⟨gb174, 1, none⟩ = some (.int .i64 0) := (blk_cell BK174.out 1).trans rfl; have hfz38_0 := blk_frozen BK174.out 0; have hfz38_1 := blk_frozen BK174.out 1) | (go_at_call 25; (with_reducible refine (laws_common.calls k4 ((rd_T46 t167 x12_3).f0) ((rd_T46 t167 x12_3).f1) t175 _ A31.out).mono ?_); rintro e w' ⟨rfl, ⟨nd, rfl⟩⟩))
                                      go_ret
                                      exact ⟨by first | rfl | (simp [errW_none, errW_some] <;> rfl) | (simp [*, errW_none, errW_some] <;> rfl), by repeat (first | (with_reducible first | exact HB.out | apply below_alloc | apply pw_below_drewN | apply below_drew1 | refine below_set ?_ GE174.out) | exact HB.out)⟩
                                  · rw [if_neg c30] at H
                                    have c30b0 : ((wrap64 ((wrap64 (((rd_T46 t167 x12_3).f0) * x14_4)) * t171)) == (wrap64 ((wrap64 (((rd_T46 t167 x12_3).f1) * x13_4)) * (t161.length : Int)))) = false := beq_eq_false_iff_ne.mpr c30
                                    have c30b1 : ((wrap64 ((wrap64 (((rd_T46 t167 x12_3).f0) * x14_4)) * t171)) != (wrap64 ((wrap64 (((rd_T46 t167 x12_3).f1) * x13_4)) * (t161.length : Int)))) = true := bne_iff_ne.mpr c30
                                    obtain rfl := Option.some.inj H
                                    obtain ⟨Ao39, co39, eo39⟩ := Kd.R_slice HO_9.out
                                    subst eo39
                                    have p173 : 0 ≤ (x12_3 : Int) := of_decide_eq_true (by first | (with_reducible assumption) | assumption)
                                    have q173 : x12_3 < (t167.length : Int) := of_decide_eq_true (by first | (with_reducible assumption) | assumption)
                                    obtain ⟨ad173, e173, hx173_0, hx173_1⟩ := at_T46 (Kd.R_reads' HO_9.out).2.2 x12_3 p173 q173
                                    cases e173
                                    replace p173 := eq_true p173
                                    replace q173 := eq_true q173
                                    go_wp2_with (first | ((with_reducible refine gate_dst (N := 16) rfl ?_); (try (refine gate_guard (by rfl) ?_; dsimp only)); refine box_event ?hg (N := 16) ?hd (cs := #[.int .i64 0, .int .i64 0]) (t := 46) ?hr ?_; (case hd => rfl); (case hg => rfl); (case hr => first | (go_simp; done) | (go_simp; rfl)); intro gb174 hg w40 hbox hb; have n0_ := Aside0.mk (Kd.R_below (by (with_reducible repeat (first | apply Kd.R_alloc | apply Kd.R_drewN | apply Kd.R_drew)); exact HO_5.out) hb); have n1_ := Aside0.mk (Kd.R_below (Kd.R_elderB (by (with_reducible repeat (first | apply Kd.R_alloc | apply Kd.R_drewN | apply Kd.R_drew)); exact HO_9.out) gb174 (Nat.le_of_eq hg.symm)) hb); have n2_ := Aside0.mk (below_step (by repeat (first | (with_reducible first | exact HB.out | apply below_alloc | apply pw_below_drewN | apply below_drew1) | exact HB.out)) hb); have n3_ := Aside0.mk (hbox); have n4_ := Aside0.mk ((by rw [hg]; exact (below_size (by repeat (first | (with_reducible first | exact HB.out | apply below_alloc | apply pw_below_drewN | apply below_drew1) | exact HB.out))) : w.heap.size ≤ gb174)); have n5_ := Aside0.mk ((by rw [hg]; exact (below_size (by repeat (first | (with_reducible first | exact HB.out | apply below_alloc | apply pw_below_drewN | apply below_drew1) | exact HB.out))) : w.heap.size ≤ gb174)); clear HO_5; clear HO_9; clear HB; have HO_5 := n0_; have HO_9 := n1_; have HB := n2_; have BK174 := n3_; have GW174 := n4_; have GE174 := n5_; clear n0_ n1_ n2_ n3_ n4_ n5_; clear hb hbox hg; have hcz41_0 : w40.cell? ⟨gb174, 0, none⟩ = some (.int .i64 0) := (blk_cell BK174.out 0).trans rfl; have hcz41_1 : w40.cell? ⟨gb174, 1, none⟩ = some (.int .i64 0) := (blk_cell BK174.out 1).trans rfl; have hfz41_0 := blk_frozen BK174.out 0; have hfz41_1 := blk_frozen BK174.out 1))
                                    go_ret
                                    exact ⟨by first | rfl | (simp [errW_none, errW_some] <;> rfl) | (simp [*, errW_none, errW_some] <;> rfl), by repeat (first | (with_reducible first | exact HB.out | apply below_alloc | apply pw_below_drewN | apply below_drew1 | refine below_set ?_ GE174.out) | exact HB.out)⟩
                            · rw [if_neg c21] at H
                              exact absurd H (by simp)
                          · rw [if_neg c20] at H
                            exact absurd H (by simp)
                  · rw [if_neg c17] at H
                    have c17b0 : decide (x12_3 < (wrap64 (1 + t166))) = false := decide_eq_false c17
                    clear c17
                    by_cases c42 : 0 ≤ (t161.length : Int)
                    · rw [if_pos c42] at H
                      have c42b0 := eq_true c42
                      have c42b1 : decide (0 ≤ (t161.length : Int)) = true := decide_eq_true c42
                      clear c42
                      by_cases c43 : ((t161.length : Int) : Int).toNat ≤ 35184372088832
                      · rw [if_pos c43] at H
                        have c43b0 := eq_true c43
                        have c43b1 : decide (((t161.length : Int) : Int).toNat ≤ 35184372088832) = true := decide_eq_true c43
                        clear c43
                        obtain ⟨y176, hy176⟩ : ∃ y_ : List Int, y_ = (List.replicate ((t161.length : Int) : Int).toNat 0) := ⟨_, rfl⟩
                        replace H : (laws_FnSeasons.l2 k3 t161 (wrap64 (1 + t166)) y176 0) = some r := by first | (rw [hy176]; with_reducible exact H) | (have H2_ := (Option.bind_some _ _).symm.trans H; rw [hy176]; with_reducible exact H2_) | (have H2_ := (Option.bind_some _ _).symm.trans H; with_reducible exact H2_) | with_reducible exact H | (rw [hy176]; exact H) | exact H
                        have Ny176 := Aside0.mk hy176
                        clear hy176
                        have H' := Aside0.mk H
                        clear H
                        go_wp2_with (first | ((with_reducible refine gate_dst (N := 116) rfl ?_); (try (refine gate_guard (by rfl) ?_; dsimp only)); refine Kd.R_make (Kd.int .i64) _ 3 rfl (N := 116) rfl 23 _ _ rfl (t161.length : Int) rfl rfl Try.underlying23 (.int .i64 0) 8 info3 rfl (by decide) (by omega) 0 (ok := fun _ => True) (okp := fun _ => True) rfl (fun _ hk => hk) trivial (of_decide_eq_true (by first | (with_reducible assumption) | assumption)) (Nat.le_trans (Nat.mul_le_mul_right _ (of_decide_eq_true (by first | (with_reducible assumption) | assumption) : (t161.length : Int).toNat ≤ 35184372088832)) (by omega)) (Below.refl _ _) (Nat.le_refl _) ?_; intro v177 w44 ho45 hb hg_ hnew_; clear hg_ hnew_; (first | rw [← Ny176.out] at ho45 | (simp only [Int.reduceToNat] at ho45; rw [← Ny176.out] at ho45)); have n0_ := Aside0.mk (Kd.R_elder' (by (with_reducible repeat (first | apply Kd.R_alloc | apply Kd.R_drewN | apply Kd.R_drew)); exact HO_5.out) (Kd.R_base ho45) hb); have n1_ := Aside0.mk (Kd.R_below (by (with_reducible repeat (first | apply Kd.R_alloc | apply Kd.R_drewN | apply Kd.R_drew)); exact HO_9.out) hb); have n2_ := Aside0.mk (Kd.R_lower (Kd.R_new' ho45 (Kd.R_lt (by (with_reducible repeat (first | apply Kd.R_alloc | apply Kd.R_drewN | apply Kd.R_drew)); exact HO_5.out))) (below_size (by repeat (first | (with_reducible first | exact HB.out | apply below_alloc | apply pw_below_drewN | apply below_drew1) | exact HB.out)))); have n3_ := Aside0.mk (below_step (by repeat (first | (with_reducible first | exact HB.out | apply below_alloc | apply pw_below_drewN | apply below_drew1) | exact HB.out)) hb); clear HO_5; clear HO_9; clear HB; have HO_5 := n0_; have HO_9 := n1_; have HO178 := n2_; have HB := n3_; clear n0_ n1_ n2_ n3_; clear hb ho45))
                        go_loopg [18] k3 (fun kq v18 w' => ∃ (x17_4 : List Int) (x18_4 : Int), v18 = .int .i64 x18_4 ∧ Aside0 (laws_FnSeasons.l2 kq t161 (wrap64 (1 + t166)) x17_4 x18_4 = some r) ∧ Aside0 (kq ≤ k3) ∧ Aside0 (Kd.R (Kd.int .i64) 3 w' w.heap.size (fun k_ => some k_ ≠ (v177 : Value).ownBlock) (.slice Ao11 t161.length co11) t161) ∧ Aside0 (Kd.R (Kd.int .i64) 3 w' w.heap.size (fun k_ => some k_ ≠ ((.slice Ao11 t161.length co11) : Value).ownBlock) v177 x17_4) ∧ Aside0 (Below w.heap.size w w'))
                        case atStart => exact ⟨(y176), (0), (by first | rfl | (simp; done) | (simp [*]; done)), H', ⟨Nat.le_refl _⟩, ⟨by (with_reducible repeat (first | apply Kd.R_alloc | apply Kd.R_drewN | apply Kd.R_drew)); exact Kd.R_mono HO_5.out (fun _ hk => hk.2)⟩, ⟨by (with_reducible repeat (first | apply Kd.R_alloc | apply Kd.R_drewN | apply Kd.R_drew)); exact Kd.R_mono HO178.out (fun _ hk => hk.2)⟩, ⟨by repeat (first | (with_reducible first | exact HB.out | apply below_alloc | apply pw_below_drewN | apply below_drew1) | exact HB.out)⟩⟩
                        case round =>
                          clear H'
                          try clear c1
                          try clear p1
                          try clear q1
                          try clear hx1
                          try clear c2
                          try clear p2
                          try clear c3
                          try clear c4
                          try clear c4b0
                          try clear c4b1
                          try clear c5
                          try clear p6
                          try clear c7
                          try clear c10
                          try clear c12
                          try clear c13
                          try clear c13b0
                          try clear c13b1
                          try clear c15
                          try clear c16
                          try clear c17
                          try clear c17b0
                          try clear p17
                          try clear q17
                          try clear hx17
                          try clear c18
                          try clear c18b0
                          try clear c19
                          try clear c19b0
                          try clear c20
                          try clear c20b0
                          try clear c21
                          try clear c21b0
                          try clear c22
                          try clear c22b0
                          try clear c24
                          try clear c26
                          try clear c26b0
                          try clear c30
                          try clear c30b0
                          try clear c30b1
                          try clear c32
                          try clear c32b0
                          try clear c32b1
                          try clear c42
                          try clear c42b0
                          try clear c42b1
                          try clear c43
                          try clear c43b0
                          try clear c43b1
                          try clear hcz25_0
                          try clear hcz25_1
                          try clear hcz29_0
                          try clear hcz29_1
                          try clear hcz35_0
                          try clear hcz35_1
                          try clear hcz38_0
                          try clear hcz38_1
                          try clear hcz41_0
                          try clear hcz41_1
                          try clear hfz25_0
                          try clear hfz25_1
                          try clear hfz29_0
                          try clear hfz29_1
                          try clear hfz35_0
                          try clear hfz35_1
                          try clear hfz38_0
                          try clear hfz38_1
                          try clear hfz41_0
                          try clear hfz41_1
                          try clear hx172_0
                          try clear hx173_0
                          try clear hx173_1
                          try clear p172
                          try clear p173
                          try clear p2
                          try clear p6
                          try clear q172
                          try clear q173
                          obtain ⟨x17_4, x18_4, rfl, HA, HK4, HO_5, HO_17, HB⟩ := hrel
                          cases gk with
                          | zero => exact absurd HA.out (by simp [laws_FnSeasons.l2])
                          | succ k4 =>
                            have H := HA.out
                            clear HA
                            simp only [laws_FnSeasons.l2] at H
                            by_cases c46 : x18_4 < (x17_4.length : Int)
                            · rw [if_pos c46] at H
                              have c46b0 : decide (x18_4 < (x17_4.length : Int)) = true := decide_eq_true c46
                              clear c46
                              by_cases c47 : 0 < (t161.length : Int)
                              · rw [if_pos c47] at H
                                have c47b0 : decide (0 < (t161.length : Int)) = true := decide_eq_true c47
                                have c47b1 : decide (0 < t161.length) = true := decide_eq_true (by omega)
                                clear c47
                                by_cases c48 : 0 ≤ x18_4
                                · rw [if_pos c48] at H
                                  have c48b0 : decide (0 ≤ x18_4) = true := decide_eq_true c48
                                  clear c48
                                  obtain ⟨y180, hy180⟩ : ∃ y_ : List Int, y_ = (x17_4.set (x18_4 : Int).toNat (rd t161 0)) := ⟨_, rfl⟩
                                  replace H : (laws_FnSeasons.l2 k4 t161 (wrap64 (1 + t166)) y180 (wrap64 (x18_4 + 1))) = some r := by first | (rw [hy180]; with_reducible exact H) | (have H2_ := (Option.bind_some _ _).symm.trans H; rw [hy180]; with_reducible exact H2_) | (have H2_ := (Option.bind_some _ _).symm.trans H; with_reducible exact H2_) | with_reducible exact H | (rw [hy180]; exact H) | exact H
                                  have Ny180 := Aside0.mk hy180
                                  clear hy180
                                  have H' := Aside0.mk H
                                  clear H
                                  obtain ⟨Ao50, co50, eo50⟩ := Kd.R_slice HO_17.out
                                  subst eo50
                                  have p179 : 0 ≤ (0 : Int) := (by omega)
                                  have q179 : 0 < (t161.length : Int) := of_decide_eq_true (by first | (with_reducible assumption) | assumption)
                                  obtain ⟨ad179, e179, hx179_0⟩ := Kd.at_int (Kd.R_reads' HO_5.out).2.2 0 p179 q179
                                  cases e179
                                  have qi179 : (0 < t161.length) = True := eq_true (by omega)
                                  (try rw [show ((0 : Int)).toNat = 0 from rfl] at hx179_0)
                                  (try rw [Addr.add_zero'] at hx179_0)
                                  replace p179 := eq_true p179
                                  replace q179 := eq_true q179
                                  have p49 : 0 ≤ (x18_4 : Int) := of_decide_eq_true (by first | (with_reducible assumption) | assumption)
                                  have q49 : (x18_4 : Int) < ((x17_4.length : Int) : Int) := of_decide_eq_true (by first | (with_reducible assumption) | assumption)
                                  obtain ⟨go49, co49, eo49, gb49, gl49, cl49, HG49⟩ := Kd.R_form HO_17.out (by omega)
                                  (first | cases eo49 | (injection eo49 with ea_ en_ ec_; (first | subst ea_ | (injection ea_ with ea_; subst ea_)); subst ec_; clear en_))
                                  have GB49 := Aside0.mk gb49
                                  have GG49 := Aside0.mk HG49
                                  clear gb49 gl49 HG49
                                  obtain ⟨hx49_0, hf49_0⟩ := Kd.R_celln 0 HO_17.out (x18_4 : Int) p49 q49
                                  replace p49 := eq_true p49
                                  replace q49 := eq_true q49
                                  have HP51 := Kd.R_putg HO_17.out (x18_4 : Int) (rd t161 0)
                                  go_wp2_with (first | ((with_reducible refine gate_store (t := 3) (p := 128) rfl ?_); refine store_event (t := 3) (p := 128) (v := ?vo_w52) (w1 := (wr.setCell ⟨go49, (x18_4 : Int).toNat, none⟩ (.int .i64 (rd t161 0)))) ?hg ?ho ?hn ?hr ?_; (case ho => rfl); (case hg => rfl); (case hn => rfl); (case hr => first | (go_simp; done) | (go_simp; rfl)); intro w52 hw; have hg : wr.grownBy w52 (some go49) := (by rw [hw]; exact HP51.2); have hp_ : Kd.R (Kd.int .i64) 3 w52 w.heap.size (fun k_ => some k_ ≠ (.slice (some ad179) t161.length co11 : Value).ownBlock) (.slice (some ⟨go49, 0, none⟩) x17_4.length co50) y180 := (by rw [hw, Ny180.out]; exact HP51.1); clear HP51; have n0_ := Aside0.mk (Kd.R_after (v := (.slice (some ⟨go49, 0, none⟩) x17_4.length co50)) (v1 := (.slice (some ⟨go49, 0, none⟩) x17_4.length co50)) (ok := (fun _ => True)) (by (with_reducible repeat (first | apply Kd.R_alloc | apply Kd.R_drewN | apply Kd.R_drew)); exact Kd.R_mono HO_5.out (fun _ hk => ⟨trivial, hk⟩)) hg (.inl rfl)); have n1_ := Aside0.mk (hp_); have n2_ := Aside0.mk ((by rw [hw]; exact below_set (HB.out) GB49.out : Below w.heap.size w w52)); clear HO_5; clear HO_17; clear HB; have HO_5 := n0_; have HO_17 := n1_; have HB := n2_; clear n0_ n1_ n2_; clear hg hw hp_))
                                  go_roundg k4
                                  case measure => have := HJ2.out; have := HJ8.out; have := HK3.out; have := HK4.out; omega
                                  case rel => exact ⟨(y180), (wrap64 (x18_4 + 1)), (by first | rfl | (simp; done) | (simp [*]; done)), H', ⟨by have := HJ2.out; have := HJ8.out; have := HK3.out; have := HK4.out; omega⟩, ⟨by (with_reducible repeat (first | apply Kd.R_alloc | apply Kd.R_drewN | apply Kd.R_drew)); exact Kd.R_mono HO_5.out (fun _ hk => hk.2)⟩, ⟨by (with_reducible repeat (first | apply Kd.R_alloc | apply Kd.R_drewN | apply Kd.R_drew)); exact HO_17.out⟩, ⟨by repeat (first | (with_reducible first | exact HB.out | apply below_alloc | apply pw_below_drewN | apply below_drew1) | exact HB.out)⟩⟩
                                · rw [if_neg c48] at H
                                  exact absurd H (by simp)
                              · rw [if_neg c47] at H
                                exact absurd H (by simp)
                            · rw [if_neg c46] at H
                              have c46b0 : decide (x18_4 < (x17_4.length : Int)) = false := decide_eq_false c46
                              clear c46
                              replace H := Option.bind_eq_some_iff.mp H
                              obtain ⟨⟨t181, t182⟩, A530, H⟩ := H
                              replace H : (if t182 = 0 then (laws_FnSeasons.j5 k4 (wrap64 (1 + t166)) t181 ((t181.length : Int) != (wrap64 (1 + t166)))) else (laws_FnSeasons.j5 k4 (wrap64 (1 + t166)) t181 true)) = some r := H
                              have A53 := Aside0.mk A530
                              clear A530
                              have HC54 := Aside0.mk H
                              clear H
                              obtain ⟨Ao55, co55, eo55⟩ := Kd.R_slice HO_17.out
                              subst eo55
                              go_upto_region 28 with (first | ((with_reducible refine gate_callee (f := 24) rfl ?_); refine goesL_ (some 132) rfl rfl Try.func24 (by kernel_rfl) rfl #[.slice Ao55 x17_4.length co55, .int .i64 (wrap64 (1 + t166))] rfl (by (try simp only [List.map_toArray, List.map_cons, List.map_nil]); first | done | rfl | (simp only [List.length_drop, List.length_take]; rfl)) ?_; (with_reducible refine (impl_Seasons.calls k4 _ _ x17_4 (wrap64 (1 + t166)) t181 t182 _ ?side1 ?side2 A53.out).mono ?_); (case side1 => repeat (first | exact (Kd.R_reads' HO_17.out).2.2 | (with_reducible refine Kd.C_alloc ?_ _) | (with_reducible refine Kd.C_drewN ?_ _) | (with_reducible refine Kd.C_drew ?_))); (case side2 => exact (Kd.R_reads' HO_17.out).2.1); rintro e w56 ⟨v183, rfl, ho0, hb⟩; refine ⟨_, rfl, ?_⟩; have n0_ := Aside0.mk (Kd.R_below (by (with_reducible repeat (first | apply Kd.R_alloc | apply Kd.R_drewN | apply Kd.R_drew)); exact HO_5.out) hb); have n1_ := Aside0.mk (Kd.R_below (by (with_reducible repeat (first | apply Kd.R_alloc | apply Kd.R_drewN | apply Kd.R_drew)); exact HO_17.out) hb); have n2_ := Aside0.mk (Kd.R_lower ho0 (below_size (by repeat (first | (with_reducible first | exact HB.out | apply below_alloc | apply pw_below_drewN | apply below_drew1) | exact HB.out)))); have n3_ := Aside0.mk (below_step (by repeat (first | (with_reducible first | exact HB.out | apply below_alloc | apply pw_below_drewN | apply below_drew1) | exact HB.out)) hb); clear HO_5; clear HO_17; clear HB; have HO_5 := n0_; have HO_17 := n1_; have HO184 := n2_; have HB := n3_; clear n0_ n1_ n2_ n3_; (try clear hb); (try clear hb2); (try clear hk); (try clear hi); (try clear ho0)))
                              (try simp only [Act.put, List.setIfInBounds_toArray, List.set_cons_zero, List.set_cons_succ])
                              go_cut [142] (fun v142 wc => ∃ (kq : Nat) (x142_53 : Bool), v142 = .bool x142_53 ∧ Aside0 (laws_FnSeasons.j5 kq (wrap64 (1 + t166)) t181 x142_53 = some r) ∧ Aside0 (kq ≤ k4) ∧ Aside0 (Kd.R k46 46 wc w.heap.size (fun _ => True) v183 t181) ∧ Aside0 (Below w.heap.size w wc))
                              case first =>
                                have H := HC54.out
                                clear HC54
                                by_cases c57 : t182 = 0
                                · rw [if_pos c57] at H
                                  have c57b0 : (t182 == 0) = true := beq_iff_eq.mpr c57
                                  have c57b1 : (t182 != 0) = false := bne_eq_false_iff_eq.mpr c57
                                  clear c57
                                  (first | rw [c57b0] | (simp only [i64_w, i32_w]; rw [c57b0]) | skip)
                                  have H' := Aside0.mk H
                                  clear H
                                  obtain ⟨Ao58, co58, eo58⟩ := Kd.R_slice HO184.out
                                  subst eo58
                                  go_wp2
                                  go_meet
                                  case rel => exact ⟨_, (((t181.length : Int) != (wrap64 (1 + t166)))), (by first | rfl | (simp; done) | (simp [*]; done)), H', ⟨by have := HJ2.out; have := HJ8.out; have := HK3.out; have := HK4.out; first | omega | exact Nat.le_refl _⟩, ⟨by (with_reducible repeat (first | apply Kd.R_alloc | apply Kd.R_drewN | apply Kd.R_drew)); exact HO184.out⟩, ⟨by repeat (first | (with_reducible first | exact HB.out | apply below_alloc | apply pw_below_drewN | apply below_drew1) | exact HB.out)⟩⟩
                                · rw [if_neg c57] at H
                                  have c57b0 : (t182 == 0) = false := beq_eq_false_iff_ne.mpr c57
                                  have c57b1 : (t182 != 0) = true := bne_iff_ne.mpr c57
                                  (first | rw [c57b0] | (simp only [i64_w, i32_w]; rw [c57b0]) | skip)
                                  have H' := Aside0.mk H
                                  clear H
                                  go_wp2
                                  go_meet
                                  case rel => exact ⟨_, (true), (by first | rfl | (simp; done) | (simp [*]; done)), H', ⟨by have := HJ2.out; have := HJ8.out; have := HK3.out; have := HK4.out; first | omega | exact Nat.le_refl _⟩, ⟨by (with_reducible repeat (first | apply Kd.R_alloc | apply Kd.R_drewN | apply Kd.R_drew)); exact HO184.out⟩, ⟨by repeat (first | (with_reducible first | exact HB.out | apply below_alloc | apply pw_below_drewN | apply below_drew1) | exact HB.out)⟩⟩
                              case rest =>
                                clear HC54
                                try clear c1
                                try clear p1
                                try clear q1
                                try clear hx1
                                try clear qi1
                                try clear c2
                                try clear p2
                                try clear c3
                                try clear c4
                                try clear c4b0
                                try clear c4b1
                                try clear p4
                                try clear q4
                                try clear hx4
                                try clear hf4
                                try clear c5
                                try clear p6
                                try clear c7
                                try clear c10
                                try clear c12
                                try clear c13
                                try clear c13b0
                                try clear c13b1
                                try clear c15
                                try clear c16
                                try clear c17
                                try clear c17b0
                                try clear p17
                                try clear q17
                                try clear hx17
                                try clear qi17
                                try clear c18
                                try clear c18b0
                                try clear c19
                                try clear c19b0
                                try clear c20
                                try clear c20b0
                                try clear c21
                                try clear c21b0
                                try clear c22
                                try clear c22b0
                                try clear c24
                                try clear c26
                                try clear c26b0
                                try clear c30
                                try clear c30b0
                                try clear c30b1
                                try clear c32
                                try clear c32b0
                                try clear c32b1
                                try clear c42
                                try clear c42b0
                                try clear c42b1
                                try clear c43
                                try clear c43b0
                                try clear c43b1
                                try clear c46
                                try clear c46b0
                                try clear c47
                                try clear c47b0
                                try clear c47b1
                                try clear c48
                                try clear c48b0
                                try clear p49
                                try clear q49
                                try clear hx49
                                try clear hf49
                                try clear c57
                                try clear c57b0
                                try clear c57b1
                                try clear hcz25_0
                                try clear hcz25_1
                                try clear hcz29_0
                                try clear hcz29_1
                                try clear hcz35_0
                                try clear hcz35_1
                                try clear hcz38_0
                                try clear hcz38_1
                                try clear hcz41_0
                                try clear hcz41_1
                                try clear hfz25_0
                                try clear hfz25_1
                                try clear hfz29_0
                                try clear hfz29_1
                                try clear hfz35_0
                                try clear hfz35_1
                                try clear hfz38_0
                                try clear hfz38_1
                                try clear hfz41_0
                                try clear hfz41_1
                                try clear hx172_0
                                try clear hx173_0
                                try clear hx173_1
                                try clear hx179_0
                                try clear hx49_0
                                try clear p1
                                try clear p17
                                try clear p172
                                try clear p173
                                try clear p179
                                try clear p2
                                try clear p49
                                try clear p6
                                try clear q1
                                try clear q17
                                try clear q172
                                try clear q173
                                try clear q179
                                try clear q49
                                obtain ⟨kq, x142_53, rfl, HA, HJ53, HO_19, HB⟩ := hcut
                                cases kq with
                                | zero => exact absurd HA.out (by simp [laws_FnSeasons.j5])
                                | succ kj53 =>
                                  have H := HA.out
                                  clear HA
                                  simp only [laws_FnSeasons.j5] at H
                                  by_cases c59 : x142_53 = true
                                  · subst c59
                                    have H1 : (some false) = some r := by rw [if_pos rfl] at H; exact H
                                    clear H
                                    have H := H1
                                    clear H1
                                    obtain rfl := Option.some.inj H
                                    go_wp2
                                    go_ret
                                    exact ⟨by first | rfl | (simp [errW_none, errW_some] <;> rfl) | (simp [*, errW_none, errW_some] <;> rfl), by repeat (first | (with_reducible first | exact HB.out | apply below_alloc | apply pw_below_drewN | apply below_drew1) | exact HB.out)⟩
                                  · replace c59 := Bool.eq_false_iff.mpr c59
                                    subst c59
                                    have H1 : (laws_FnSeasons.l3 kj53 (wrap64 (1 + t166)) t181 0) = some r := by rw [if_neg (show ¬ (false = true) by decide)] at H; exact H
                                    clear H
                                    have H := H1
                                    clear H1
                                    have H' := Aside0.mk H
                                    clear H
                                    go_wp2
                                    go_loopg [21] kj53 (fun kq v21 w' => ∃ (x21_6 : Int), v21 = .int .i64 x21_6 ∧ Aside0 (laws_FnSeasons.l3 kq (wrap64 (1 + t166)) t181 x21_6 = some r) ∧ Aside0 (kq ≤ kj53) ∧ Aside0 (Kd.R k46 46 w' w.heap.size (fun _ => True) v183 t181) ∧ Aside0 (Below w.heap.size w w'))
                                    case atStart => exact ⟨(0), (by first | rfl | (simp; done) | (simp [*]; done)), H', ⟨Nat.le_refl _⟩, ⟨by (with_reducible repeat (first | apply Kd.R_alloc | apply Kd.R_drewN | apply Kd.R_drew)); exact HO_19.out⟩, ⟨by repeat (first | (with_reducible first | exact HB.out | apply below_alloc | apply pw_below_drewN | apply below_drew1) | exact HB.out)⟩⟩
                                    case round =>
                                      clear H'
                                      try clear c1
                                      try clear p1
                                      try clear q1
                                      try clear hx1
                                      try clear qi1
                                      try clear c2
                                      try clear p2
                                      try clear c3
                                      try clear c4
                                      try clear c4b0
                                      try clear c4b1
                                      try clear p4
                                      try clear q4
                                      try clear hx4
                                      try clear hf4
                                      try clear c5
                                      try clear p6
                                      try clear c7
                                      try clear c10
                                      try clear c12
                                      try clear c13
                                      try clear c13b0
                                      try clear c13b1
                                      try clear c15
                                      try clear c16
                                      try clear c17
                                      try clear c17b0
                                      try clear p17
                                      try clear q17
                                      try clear hx17
                                      try clear qi17
                                      try clear c18
                                      try clear c18b0
                                      try clear c19
                                      try clear c19b0
                                      try clear c20
                                      try clear c20b0
                                      try clear c21
                                      try clear c21b0
                                      try clear c22
                                      try clear c22b0
                                      try clear c24
                                      try clear c26
                                      try clear c26b0
                                      try clear c30
                                      try clear c30b0
                                      try clear c30b1
                                      try clear c32
                                      try clear c32b0
                                      try clear c32b1
                                      try clear c42
                                      try clear c42b0
                                      try clear c42b1
                                      try clear c43
                                      try clear c43b0
                                      try clear c43b1
                                      try clear c46
                                      try clear c46b0
                                      try clear c47
                                      try clear c47b0
                                      try clear c47b1
                                      try clear c48
                                      try clear c48b0
                                      try clear p49
                                      try clear q49
                                      try clear hx49
                                      try clear hf49
                                      try clear c57
                                      try clear c57b0
                                      try clear c57b1
                                      try clear c59
                                      try clear hcz25_0
                                      try clear hcz25_1
                                      try clear hcz29_0
                                      try clear hcz29_1
                                      try clear hcz35_0
                                      try clear hcz35_1
                                      try clear hcz38_0
                                      try clear hcz38_1
                                      try clear hcz41_0
                                      try clear hcz41_1
                                      try clear hfz25_0
                                      try clear hfz25_1
                                      try clear hfz29_0
                                      try clear hfz29_1
                                      try clear hfz35_0
                                      try clear hfz35_1
                                      try clear hfz38_0
                                      try clear hfz38_1
                                      try clear hfz41_0
                                      try clear hfz41_1
                                      try clear hx172_0
                                      try clear hx173_0
                                      try clear hx173_1
                                      try clear hx179_0
                                      try clear hx49_0
                                      try clear p1
                                      try clear p17
                                      try clear p172
                                      try clear p173
                                      try clear p179
                                      try clear p2
                                      try clear p4
                                      try clear p49
                                      try clear p6
                                      try clear q1
                                      try clear q17
                                      try clear q172
                                      try clear q173
                                      try clear q179
                                      try clear q4
                                      try clear q49
                                      obtain ⟨x21_6, rfl, HA, HK6, HO_19, HB⟩ := hrel
                                      cases gk with
                                      | zero => exact absurd HA.out (by simp [laws_FnSeasons.l3])
                                      | succ k6 =>
                                        have H := HA.out
                                        clear HA
                                        simp only [laws_FnSeasons.l3] at H
                                        by_cases c60 : x21_6 < (wrap64 (1 + t166))
                                        · rw [if_pos c60] at H
                                          have c60b0 : decide (x21_6 < (wrap64 (1 + t166))) = true := decide_eq_true c60
                                          clear c60
                                          by_cases c61 : 0 ≤ x21_6
                                          · rw [if_pos c61] at H
                                            have c61b0 : decide (0 ≤ x21_6) = true := decide_eq_true c61
                                            clear c61
                                            by_cases c62 : x21_6 < (t181.length : Int)
                                            · rw [if_pos c62] at H
                                              have c62b0 : decide (x21_6 < (t181.length : Int)) = true := decide_eq_true c62
                                              clear c62
                                              by_cases c63 : (!(((rd_T46 t181 x21_6).f0) == 1) || (!(((rd_T46 t181 x21_6).f1) == 1))) = true
                                              · rw [if_pos c63] at H
                                                have c63b0 : (!(((rd_T46 t181 x21_6).f0) == 1) || (!(((rd_T46 t181 x21_6).f1) == 1))) = true := c63
                                                clear c63
                                                obtain rfl := Option.some.inj H
                                                obtain ⟨Ao64, co64, eo64⟩ := Kd.R_slice HO_19.out
                                                subst eo64
                                                have p185 : 0 ≤ (x21_6 : Int) := of_decide_eq_true (by first | (with_reducible assumption) | assumption)
                                                have q185 : x21_6 < (t181.length : Int) := of_decide_eq_true (by first | (with_reducible assumption) | assumption)
                                                obtain ⟨ad185, e185, hx185_0, hx185_1⟩ := at_T46 (Kd.R_reads' HO_19.out).2.2 x21_6 p185 q185
                                                cases e185
                                                replace p185 := eq_true p185
                                                replace q185 := eq_true q185
                                                go_wp2
                                                go_ret
                                                exact ⟨by first | rfl | (simp [errW_none, errW_some] <;> rfl) | (simp [*, errW_none, errW_some] <;> rfl), by repeat (first | (with_reducible first | exact HB.out | apply below_alloc | apply pw_below_drewN | apply below_drew1) | exact HB.out)⟩
                                              · rw [if_neg c63] at H
                                                have c63b0 : (!(((rd_T46 t181 x21_6).f0) == 1) || (!(((rd_T46 t181 x21_6).f1) == 1))) = false := by simpa using c63
                                                clear c63
                                                have H' := Aside0.mk H
                                                clear H
                                                obtain ⟨Ao65, co65, eo65⟩ := Kd.R_slice HO_19.out
                                                subst eo65
                                                have p185 : 0 ≤ (x21_6 : Int) := of_decide_eq_true (by first | (with_reducible assumption) | assumption)
                                                have q185 : x21_6 < (t181.length : Int) := of_decide_eq_true (by first | (with_reducible assumption) | assumption)
                                                obtain ⟨ad185, e185, hx185_0, hx185_1⟩ := at_T46 (Kd.R_reads' HO_19.out).2.2 x21_6 p185 q185
                                                cases e185
                                                replace p185 := eq_true p185
                                                replace q185 := eq_true q185
                                                go_wp2
                                                go_roundg k6
                                                case measure => have := HJ2.out; have := HJ8.out; have := HK3.out; have := HK4.out; have := HJ53.out; have := HK6.out; omega
                                                case rel => exact ⟨(wrap64 (x21_6 + 1)), (by first | rfl | (simp; done) | (simp [*]; done)), H', ⟨by have := HJ2.out; have := HJ8.out; have := HK3.out; have := HK4.out; have := HJ53.out; have := HK6.out; omega⟩, ⟨by (with_reducible repeat (first | apply Kd.R_alloc | apply Kd.R_drewN | apply Kd.R_drew)); exact HO_19.out⟩, ⟨by repeat (first | (with_reducible first | exact HB.out | apply below_alloc | apply pw_below_drewN | apply below_drew1) | exact HB.out)⟩⟩
                                            · rw [if_neg c62] at H
                                              exact absurd H (by simp)
                                          · rw [if_neg c61] at H
                                            exact absurd H (by simp)
                                        · rw [if_neg c60] at H
                                          have c60b0 : decide (x21_6 < (wrap64 (1 + t166))) = false := decide_eq_false c60
                                          clear c60
                                          obtain rfl := Option.some.inj H
                                          go_wp2
                                          go_ret
                                          exact ⟨by first | rfl | (simp [errW_none, errW_some] <;> rfl) | (simp [*, errW_none, errW_some] <;> rfl), by repeat (first | (with_reducible first | exact HB.out | apply below_alloc | apply pw_below_drewN | apply below_drew1) | exact HB.out)⟩
                      · rw [if_neg c43] at H
                        exact absurd H (by simp)
                    · rw [if_neg c42] at H
                      exact absurd H (by simp)


/-- THE ONE PURE STATEMENT of laws_FnSeasons. -/
def laws_FnSeasons.Pure : Prop := ∀ (l0 : List Int) (l1 : List Int), (l0.length ≤ 9223372036854775807 ∧ ∀ x ∈ l0, (Lit.int .u8 x).wf = true) → (l1.length ≤ 9223372036854775807 ∧ ∀ x ∈ l1, (Lit.int .u8 x).wf = true) → ∃ k, laws_FnSeasons.f k l0 l1 = some true
theorem laws_FnSeasons.walk (P : laws_FnSeasons.Pure) (A0 : Option Addr) (c0 : Nat) (l0 : List Int) (A1 : Option Addr) (c1 : Nat) (l1 : List Int) (w : World) (hr0 : Kd.C (Kd.int .u8) w A0 l0.length l0) (hc0 : l0.length ≤ c0) (hr1 : Kd.C (Kd.int .u8) w A1 l1.length l1) (hc1 : l1.length ≤ c1) (hw0 : (l0.length ≤ 9223372036854775807 ∧ ∀ x ∈ l0, (Lit.int .u8 x).wf = true)) (hw1 : (l1.length ≤ 9223372036854775807 ∧ ∀ x ∈ l1, (Lit.int .u8 x).wf = true)) :
    Calls Try.prog 7 #[.slice A0 l0.length c0, .slice A1 l1.length c1] w fun e w' => e = .returned (.bool true) ∧ Below w.heap.size w w' := by
  obtain ⟨k, h⟩ := P l0 l1 hw0 hw1
  refine (laws_FnSeasons.calls k A0 c0 l0 A1 c1 l1 true w hr0 hc0 hr1 hc1 h).mono ?_
  rintro e w' ⟨rfl, hd⟩
  exact ⟨rfl, hd⟩

end Go.Proofs.Ytbljkgllicnkkaa.XFnSeasons
