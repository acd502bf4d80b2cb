-- PRINTED by xprint.py (our own program, over the kit's print.py)
import Derived.Test.YtnpfeigdghecfaaXFnExactMergeEventsx0
import Derived.Test.YtnpfeigdghecfaaXFnExactMergeEventsx4
import Derived.Test.YtnpfeigdghecfaaPu
namespace Go.Proofs.Ytnpfeigdghecfaa.XFnExactMergeEvents
open Go.RowKit Go.Proofs.YtnpfeigdghecfaaW.PrintWords Go.Proofs.YtnpfeigdghecfaaW.PrintLast Go.Proofs.YtnpfeigdghecfaaW.PrintMore Go.Proofs.YtnpfeigdghecfaaW.Idx
attribute [local go_sem] max2_int min2_int max_two min_two max_three min_three max_four min_four   -- for this text's walks alone
set_option linter.unusedVariables false
set_option linter.unusedSimpArgs false

/-! ### spec_EventsOK: function 7 -/
mutual
def spec_EventsOK.l0 : Nat → List (S40) → Int → Option (Bool)
 | 0, _, _ => none
 | k + 1, x0, x3 => if x3 < (x0.length : Int) then (if 0 ≤ x3 then ((spec_l12Right.f k ((rd_T40 x0 x3).f0) ((rd_T40 x0 x3).f1) ((rd_T40 x0 x3).f2) ((rd_T40 x0 x3).f3) ((rd_T40 x0 x3).f4) ((rd_T40 x0 x3).f5)).bind fun t135 => (if t135 = true then (if x3 > 0 then (if 0 ≤ (wrap64 (x3 - 1)) then (if (wrap64 (x3 - 1)) < (x0.length : Int) then ((spec_l12Ahead.f ((rd_T40 x0 (wrap64 (x3 - 1))).f0) ((rd_T40 x0 (wrap64 (x3 - 1))).f1) ((rd_T40 x0 (wrap64 (x3 - 1))).f2) ((rd_T40 x0 (wrap64 (x3 - 1))).f3) ((rd_T40 x0 (wrap64 (x3 - 1))).f4) ((rd_T40 x0 (wrap64 (x3 - 1))).f5) ((rd_T40 x0 x3).f0) ((rd_T40 x0 x3).f1) ((rd_T40 x0 x3).f2) ((rd_T40 x0 x3).f3) ((rd_T40 x0 x3).f4) ((rd_T40 x0 x3).f5)).bind fun t138 => (spec_EventsOK.j1 k x0 x3 (!t138))) else (none)) else (none)) else (spec_EventsOK.j1 k x0 x3 false)) else (spec_EventsOK.j1 k x0 x3 true))) else (none)) else (some true)
def spec_EventsOK.j1 : Nat → List (S40) → Int → Bool → Option (Bool)
 | 0, _, _, _ => none
 | k + 1, x0, x3, x36 => if x36 = true then (some false) else (spec_EventsOK.l1 k x0 x3 0)
def spec_EventsOK.l1 : Nat → List (S40) → Int → Int → Option (Bool)
 | 0, _, _, _ => none
 | k + 1, x0, x3, x4 => if x4 < x3 then (if 0 ≤ x4 then (if x4 < (x0.length : Int) then (if 0 ≤ x3 then (if x3 < (x0.length : Int) then (if ((rd_T40 x0 x4).f0) = ((rd_T40 x0 x3).f0) then (if ((rd_T40 x0 x4).f1) ≥ ((rd_T40 x0 x3).f1) then (some false) else (spec_EventsOK.l1 k x0 x3 (wrap64 (x4 + 1)))) else (spec_EventsOK.l1 k x0 x3 (wrap64 (x4 + 1)))) else (none)) else (none)) else (none)) else (none)) else (spec_EventsOK.l0 k x0 (wrap64 (x3 + 1)))
end
def spec_EventsOK.f (k : Nat) (l0 : List (S40)) : Option (Bool) := if (l0.length : Int) > 120 then (some false) else (spec_EventsOK.l0 k l0 0)
theorem spec_EventsOK.mono_l : ∀ k, (∀ y0 y1, LeO (spec_EventsOK.l0 k y0 y1) (spec_EventsOK.l0 (k + 1) y0 y1)) ∧ (∀ y0 y1 y2, LeO (spec_EventsOK.j1 k y0 y1 y2) (spec_EventsOK.j1 (k + 1) y0 y1 y2)) ∧ (∀ y0 y1 y2, LeO (spec_EventsOK.l1 k y0 y1 y2) (spec_EventsOK.l1 (k + 1) y0 y1 y2))
 | 0 => ⟨fun _ _ r h => by simp [spec_EventsOK.l0] at h, fun _ _ _ r h => by simp [spec_EventsOK.j1] at h, fun _ _ _ r h => by simp [spec_EventsOK.l1] at h⟩
 | k + 1 => by
  obtain ⟨ih0, ih1, ih2⟩ := spec_EventsOK.mono_l k
  refine ⟨?_, ?_, ?_⟩
  ·intro y0 y1
   unfold spec_EventsOK.l0
   repeat' first
   | (with_reducible exact ih0 _ _)
   | (with_reducible exact ih1 _ _ _)
   | (with_reducible exact ih2 _ _ _)
   | (with_reducible exact spec_l12Right.mono _ _ _ _ _ _ _)
   | (with_reducible exact LeO.refl _)
   | (with_reducible exact LeO.none _)
   | (with_reducible refine LeO.ite ?_ ?_)
   | (with_reducible refine LeO.bind ?_ (fun _ => ?_))
   | exact ih0 _ _
   | exact ih1 _ _ _
   | exact ih2 _ _ _
   | exact spec_l12Right.mono _ _ _ _ _ _ _
   | exact LeO.none _
   | refine LeO.ite ?_ ?_
   | refine LeO.bind ?_ (fun _ => ?_)
  ·intro y0 y1 y2
   unfold spec_EventsOK.j1
   repeat' first
   | (with_reducible exact ih0 _ _)
   | (with_reducible exact ih1 _ _ _)
   | (with_reducible exact ih2 _ _ _)
   | (with_reducible exact spec_l12Right.mono _ _ _ _ _ _ _)
   | (with_reducible exact LeO.refl _)
   | (with_reducible exact LeO.none _)
   | (with_reducible refine LeO.ite ?_ ?_)
   | (with_reducible refine LeO.bind ?_ (fun _ => ?_))
   | exact ih0 _ _
   | exact ih1 _ _ _
   | exact ih2 _ _ _
   | exact spec_l12Right.mono _ _ _ _ _ _ _
   | exact LeO.none _
   | refine LeO.ite ?_ ?_
   | refine LeO.bind ?_ (fun _ => ?_)
  ·intro y0 y1 y2
   unfold spec_EventsOK.l1
   repeat' first
   | (with_reducible exact ih0 _ _)
   | (with_reducible exact ih1 _ _ _)
   | (with_reducible exact ih2 _ _ _)
   | (with_reducible exact spec_l12Right.mono _ _ _ _ _ _ _)
   | (with_reducible exact LeO.refl _)
   | (with_reducible exact LeO.none _)
   | (with_reducible refine LeO.ite ?_ ?_)
   | (with_reducible refine LeO.bind ?_ (fun _ => ?_))
   | exact ih0 _ _
   | exact ih1 _ _ _
   | exact ih2 _ _ _
   | exact spec_l12Right.mono _ _ _ _ _ _ _
   | exact LeO.none _
   | refine LeO.ite ?_ ?_
   | refine LeO.bind ?_ (fun _ => ?_)
theorem spec_EventsOK.mono : ∀ a0 k, LeO (spec_EventsOK.f k a0) (spec_EventsOK.f (k + 1) a0) := by
 intro a0 k
 obtain ⟨ih0, ih1, ih2⟩ := spec_EventsOK.mono_l k
 unfold spec_EventsOK.f
 repeat' first
   | (with_reducible exact ih0 _ _)
   | (with_reducible exact ih1 _ _ _)
   | (with_reducible exact ih2 _ _ _)
   | (with_reducible exact spec_l12Right.mono _ _ _ _ _ _ _)
   | (with_reducible exact LeO.refl _)
   | (with_reducible exact LeO.none _)
   | (with_reducible refine LeO.ite ?_ ?_)
   | (with_reducible refine LeO.bind ?_ (fun _ => ?_))
   | exact ih0 _ _
   | exact ih1 _ _ _
   | exact ih2 _ _ _
   | exact spec_l12Right.mono _ _ _ _ _ _ _
   | exact LeO.none _
   | refine LeO.ite ?_ ?_
   | refine LeO.bind ?_ (fun _ => ?_)
def spec_EventsOK.T6 : Bool × List (List Nat × List Nat) := (true, [([], []), ([], []), ([0, 1], [0, 1]), ([2], [2]), ([3], [3]), ([4], [4]), ([5, 4], [5]), ([6], [6]), ([7, 6], [6, 7]), ([8, 6, 6], [6, 8]), ([9], [9]), ([9], [9]), ([11, 9], [9, 11]), ([10, 12, 9], [9, 10, 12]), ([13, 9], [9, 13]), ([9], [9]), ([9], [9]), ([15, 16, 9], [9, 15, 16]), ([17, 9], [9, 17]), ([14, 18, 9, 9], [9, 14, 18]), ([19, 9], [9, 19]), ([9, 20, 6], [6, 9, 20]), ([6, 21], [6, 21])])
def spec_EventsOK.B6 : List Nat := [0, 0, 3, 7, 15, 31, 63, 127, 255, 511, 1023, 1023, 3071, 8191, 16383, 1023, 1023, 99327, 230399, 524287, 1048575, 2097151, 4194303]
theorem spec_EventsOK.tab6 : rtab .any (opsOf Try.f7 6) = spec_EventsOK.T6 := by kernel_rfl
theorem spec_EventsOK.bits6 : waitsOk spec_EventsOK.T6.2 spec_EventsOK.B6 = true := by kernel_rfl
def spec_EventsOK.T11 : Bool × List (List Nat × List Nat) := (true, [([], []), ([], []), ([0, 1], [0, 1]), ([2], [2]), ([3], [3]), ([], []), ([], []), ([5, 6], [5, 6]), ([7], [7]), ([8], [8]), ([4, 9], [4, 9]), ([10], [10]), ([11], [11]), ([11], [11]), ([12, 13, 11], [11, 12, 13]), ([14, 11], [11, 14]), ([15, 11], [11, 15]), ([11], [11]), ([11], [11]), ([17, 18, 11], [11, 17, 18]), ([19, 11], [11, 19]), ([20, 11], [11, 20]), ([16, 21, 11], [11, 16, 21]), ([11, 22], [11, 22])])
def spec_EventsOK.B11 : List Nat := [0, 0, 3, 7, 15, 0, 0, 96, 224, 480, 1023, 2047, 4095, 4095, 16383, 32767, 65535, 4095, 4095, 397311, 921599, 1970175, 4194303, 8388607]
theorem spec_EventsOK.tab11 : rtab .any (opsOf Try.f7 11) = spec_EventsOK.T11 := by kernel_rfl
theorem spec_EventsOK.bits11 : waitsOk spec_EventsOK.T11.2 spec_EventsOK.B11 = true := by kernel_rfl
set_option maxHeartbeats 8000000 in
set_option maxRecDepth 100000 in
theorem spec_EventsOK.calls (k : Nat) (A0 : Option Addr) (c0 : Nat) (l0 : List (S40)) (r : Bool) (w : World) (hr0 : Kd.C k40 w A0 l0.length l0) (hc0 : l0.length ≤ c0) (h : spec_EventsOK.f k l0 = some r) :
  Calls Try.prog 7 #[.slice A0 l0.length c0] w fun e w' => e = .returned (.bool r) ∧ Below w.heap.size w w' := by
 have hu40 := Try.underlying40
 have HR0 := Aside0.mk hr0
 have HC0 := Aside0.mk hc0
 clear hr0 hc0
 have HB := Aside0.mk (Below.refl w.heap.size w)
 have H : (if (l0.length : Int) > 120 then (some false) else (spec_EventsOK.l0 k l0 0)) = some r := h
 clear h
 by_cases c2 : (l0.length : Int) > 120
 ·rw [if_pos c2] at H
  have c2b0 : decide (120 < (l0.length : Int)) = true := decide_eq_true c2
  have c2b1 : decide (120 < l0.length) = true := decide_eq_true (by omega)
  clear c2
  obtain rfl := Option.some.inj H
  go_enter Try.func7, Try.ntmps7
  go_wp2
  go_ret
  exact ⟨by first | rfl | (simp [errW_none, errW_some] <;> rfl) | (simp [*, errW_none, errW_some] <;> rfl), by repeat (first | (with_reducible first | exact HB.out | apply below_alloc | apply pw_below_drewN | apply below_drew1) | exact HB.out)⟩
 rw [if_neg c2] at H
 have c2b0 : decide (120 < (l0.length : Int)) = false := decide_eq_false c2
 have c2b1 : decide (120 < l0.length) = false := decide_eq_false (by omega)
 clear c2
 have H' := Aside0.mk H
 clear H
 go_enter Try.func7, Try.ntmps7
 go_wp2
 go_loopg [3] k (fun kq v3 w' => ∃ (x3_1 : Int), v3 = .int .i64 x3_1 ∧ Aside0 (spec_EventsOK.l0 kq l0 x3_1 = some r) ∧ Aside0 (kq ≤ k) ∧ Aside0 (Below w.heap.size w w'))
 case atStart => exact ⟨(0), (by first | rfl | (simp; done) | (simp [*]; done)), H', ⟨Nat.le_refl _⟩, ⟨by repeat (first | (with_reducible first | exact HB.out | apply below_alloc | apply pw_below_drewN | apply below_drew1) | exact HB.out)⟩⟩
 case round =>
  clear H'
  (try clear c2); (try clear c2b0); (try clear c2b1); (try clear p2)
  obtain ⟨x3_1, rfl, HA, HK1, HB⟩ := hrel
  cases gk with
  | zero => exact absurd HA.out (by simp [spec_EventsOK.l0])
  | succ k1 =>
   have H := HA.out
   clear HA
   simp only [spec_EventsOK.l0] at H
   by_cases c3 : x3_1 < (l0.length : Int)
   rotate_left
   ·rw [if_neg c3] at H
    have c3b0 : decide (x3_1 < (l0.length : Int)) = false := decide_eq_false c3
    clear c3
    obtain rfl := Option.some.inj H
    go_wp2
    go_ret
    exact ⟨by first | rfl | (simp [errW_none, errW_some] <;> rfl) | (simp [*, errW_none, errW_some] <;> rfl), by repeat (first | (with_reducible first | exact HB.out | apply below_alloc | apply pw_below_drewN | apply below_drew1) | exact HB.out)⟩

   rw [if_pos c3] at H
   have c3b0 : decide (x3_1 < (l0.length : Int)) = true := decide_eq_true c3
   clear c3
   have HC4 := Aside0.mk H
   clear H
   go_upto_region 6 with (fail)
   go_cut [36] (fun v36 wc => ∃ (kq : Nat) (x36_3 : Bool), v36 = .bool x36_3 ∧ Aside0 (spec_EventsOK.j1 kq l0 x3_1 x36_3 = some r) ∧ Aside0 (kq ≤ k1) ∧ Aside0 (Below w.heap.size w wc))
   case first =>
    have H := HC4.out
    clear HC4
    by_cases c5 : 0 ≤ x3_1
    rotate_left
    ·rw [if_neg c5] at H
     exact absurd H (by simp)
    rw [if_pos c5] at H
    have c5b0 : decide (0 ≤ x3_1) = true := decide_eq_true c5
    clear c5
    (first | rw [c5b0] | (simp only [i64_w, i32_w]; rw [c5b0]) | skip)
    replace H := Option.bind_eq_some_iff.mp H
    obtain ⟨t135, A60, H⟩ := H
    replace H : (if t135 = true then (if x3_1 > 0 then (if 0 ≤ (wrap64 (x3_1 - 1)) then (if (wrap64 (x3_1 - 1)) < (l0.length : Int) then ((spec_l12Ahead.f ((rd_T40 l0 (wrap64 (x3_1 - 1))).f0) ((rd_T40 l0 (wrap64 (x3_1 - 1))).f1) ((rd_T40 l0 (wrap64 (x3_1 - 1))).f2) ((rd_T40 l0 (wrap64 (x3_1 - 1))).f3) ((rd_T40 l0 (wrap64 (x3_1 - 1))).f4) ((rd_T40 l0 (wrap64 (x3_1 - 1))).f5) ((rd_T40 l0 x3_1).f0) ((rd_T40 l0 x3_1).f1) ((rd_T40 l0 x3_1).f2) ((rd_T40 l0 x3_1).f3) ((rd_T40 l0 x3_1).f4) ((rd_T40 l0 x3_1).f5)).bind fun t138 => (spec_EventsOK.j1 k1 l0 x3_1 (!t138))) else (none)) else (none)) else (spec_EventsOK.j1 k1 l0 x3_1 false)) else (spec_EventsOK.j1 k1 l0 x3_1 true)) = some r := H
    have A6 := Aside0.mk A60
    clear A60
    by_cases c7 : t135 = true
    rotate_left
    ·replace c7 := Bool.eq_false_iff.mpr c7
     subst c7
     have H1 : (spec_EventsOK.j1 k1 l0 x3_1 true) = some r := by rw [if_neg (show ¬ (false = true) by decide)] at H; exact H
     clear H
     have H := H1
     clear H1
     have H' := Aside0.mk H
     clear H
     try go_wp2
     have n0_ := Aside0.mk (below_drew1 HB.out)
     clear HB
     have HB := n0_
     clear n0_
     have p134 : 0 ≤ (x3_1 : Int) := od_
     have q134 : x3_1 < (l0.length : Int) := od_
     obtain ⟨ad134, e134, hx134_0, hx134_1, hx134_2, hx134_3, hx134_4, hx134_5⟩ := at_T40 HR0.out x3_1 p134 q134
     have hw134_5 := hx134_5
     have hw134_4 := hx134_4
     have hw134_3 := hx134_3
     have hw134_2 := hx134_2
     have hw134_1 := hx134_1
     have hw134_0 := hx134_0
     cases e134
     replace hx134_0 := (HB.out.cell (World.block_lt_of_cell? w _ hx134_0)).trans hx134_0
     replace hx134_1 := (HB.out.cell (World.block_lt_of_cell? w _ hx134_1)).trans hx134_1
     replace hx134_2 := (HB.out.cell (World.block_lt_of_cell? w _ hx134_2)).trans hx134_2
     replace hx134_3 := (HB.out.cell (World.block_lt_of_cell? w _ hx134_3)).trans hx134_3
     replace hx134_4 := (HB.out.cell (World.block_lt_of_cell? w _ hx134_4)).trans hx134_4
     replace hx134_5 := (HB.out.cell (World.block_lt_of_cell? w _ hx134_5)).trans hx134_5
     replace p134 := eq_true p134
     replace q134 := eq_true q134
     refine start_ (n := 23) (S := fun w' => w'.cell? (ad134.add ((x3_1).toNat * 6)) = some (.int .i64 ((rd_T40 l0 x3_1).f0)) ∧ w'.cell? ⟨(ad134.add ((x3_1).toNat * 6)).block, (ad134.add ((x3_1).toNat * 6)).off + 1, none⟩ = some (.int .i64 ((rd_T40 l0 x3_1).f1)) ∧ w'.cell? ⟨(ad134.add ((x3_1).toNat * 6)).block, (ad134.add ((x3_1).toNat * 6)).off + 2, none⟩ = some (.int .i64 ((rd_T40 l0 x3_1).f2)) ∧ w'.cell? ⟨(ad134.add ((x3_1).toNat * 6)).block, (ad134.add ((x3_1).toNat * 6)).off + 3, none⟩ = some (.int .i64 ((rd_T40 l0 x3_1).f3)) ∧ w'.cell? ⟨(ad134.add ((x3_1).toNat * 6)).block, (ad134.add ((x3_1).toNat * 6)).off + 4, none⟩ = some (.string ((rd_T40 l0 x3_1).f4)) ∧ w'.cell? ⟨(ad134.add ((x3_1).toNat * 6)).block, (ad134.add ((x3_1).toNat * 6)).off + 5, none⟩ = some (.int .i64 ((rd_T40 l0 x3_1).f5))) (ds := []) (msk 0 23) (by kernel_rfl) rfl rfl ⟨((HB.out.cell (World.block_lt_of_cell? w _ hw134_0)).trans hw134_0), ((HB.out.cell (World.block_lt_of_cell? w _ hw134_1)).trans hw134_1), ((HB.out.cell (World.block_lt_of_cell? w _ hw134_2)).trans hw134_2), ((HB.out.cell (World.block_lt_of_cell? w _ hw134_3)).trans hw134_3), ((HB.out.cell (World.block_lt_of_cell? w _ hw134_4)).trans hw134_4), ((HB.out.cell (World.block_lt_of_cell? w _ hw134_5)).trans hw134_5)⟩ (fun hHeld => ?_); refine with_tabW spec_EventsOK.tab6 spec_EventsOK.bits6 (fun HT_ HW_ => ?_)
     generalize wr.drew = w18 at HB hx134_0 hx134_1 hx134_2 hx134_3 hx134_4 hx134_5 hHeld ⊢
     refine pu_ 0 14 (msk 1 22) HT_.out ?_; refine pu_ 1 15 (msk 2 21) HT_.out ?_; refine pu_ 2 16 (msk 3 20) HT_.out ?_
     refine tk_ 3 17 (msk 4 19) HT_.out HW_.out hHeld ?_ (hy := by rintro w' ⟨s0, s1, s2, s3, s4, s5⟩; go_simp; with_reducible rfl)
     refine one_ (i := 4) (N := some 18) (msk 5 18) rfl rfl (one_of HT_.out (by kernel_rfl)) (by decide) (fun K hK => ?_)
     refine goes_ Try.func18 (by kernel_rfl) rfl #[.agg #[.int .i64 ((rd_T40 l0 x3_1).f0), .int .i64 ((rd_T40 l0 x3_1).f1), .int .i64 ((rd_T40 l0 x3_1).f2), .int .i64 ((rd_T40 l0 x3_1).f3), .string ((rd_T40 l0 x3_1).f4), .int .i64 ((rd_T40 l0 x3_1).f5)]] (by rfl) rfl rfl (by (try simp only [List.map_toArray, List.map_cons, List.map_nil]); first | done | rfl | (simp only [List.length_drop, List.length_take]; rfl)) ?_
     with_reducible refine (spec_l12Right.calls k1 ((rd_T40 l0 x3_1).f0) ((rd_T40 l0 x3_1).f1) ((rd_T40 l0 x3_1).f2) ((rd_T40 l0 x3_1).f3) ((rd_T40 l0 x3_1).f4) ((rd_T40 l0 x3_1).f5) false _ A6.out).mono ?_
     rintro e w19 ⟨rfl, hb⟩
     refine ⟨_, rfl, ?_⟩
     have n0_ := Aside0.mk (below_step bl_ hb)
     clear HB
     have HB := n0_
     clear n0_
     (try clear hb)
     (try clear hb2)
     (try clear hk)
     (try clear hi)
     refine hK.out _ _ ⟨((HB.out.cell (World.block_lt_of_cell? w _ hw134_0)).trans hw134_0), ((HB.out.cell (World.block_lt_of_cell? w _ hw134_1)).trans hw134_1), ((HB.out.cell (World.block_lt_of_cell? w _ hw134_2)).trans hw134_2), ((HB.out.cell (World.block_lt_of_cell? w _ hw134_3)).trans hw134_3), ((HB.out.cell (World.block_lt_of_cell? w _ hw134_4)).trans hw134_4), ((HB.out.cell (World.block_lt_of_cell? w _ hw134_5)).trans hw134_5)⟩ (fun hHeld => ?_)
     clear hK K
     refine norm_ (a' := ?_) ?_ ?_
     rotate_left
     ·show Act.put _ (some 18) _ = _
      simp only [Act.put, List.setIfInBounds_toArray, List.set_cons_zero, List.set_cons_succ, i64_w, i32_w]
      rfl
     refine pu_ 5 19 (msk 6 17) HT_.out ?_; refine pu_ 6 20 (msk 7 16) HT_.out ?_; refine pn_ 7 21 (msk 8 15) HT_.out ?_; refine pn_ 8 22 (msk 9 14) HT_.out ?_; refine pn_ 9 23 (msk 10 13) HT_.out ?_; refine pn_ 10 24 (msk 11 12) HT_.out ?_; refine pn_ 11 25 (msk 12 11) HT_.out ?_; refine pn_ 12 26 (msk 13 10) HT_.out ?_; refine pn_ 13 27 (msk 14 9) HT_.out ?_; refine pn_ 14 28 (msk 15 8) HT_.out ?_; refine pn_ 15 29 (msk 16 7) HT_.out ?_; refine pn_ 16 30 (msk 17 6) HT_.out ?_; refine pn_ 17 31 (msk 18 5) HT_.out ?_; refine pn_ 18 32 (msk 19 4) HT_.out ?_; refine pn_ 19 33 (msk 20 3) HT_.out ?_; refine pn_ 20 34 (msk 21 2) HT_.out ?_; refine pn_ 21 35 (msk 22 1) HT_.out ?_; refine pu_ 22 36 (msk 23 0) HT_.out ?_
     refine done_ (done_of HT_.out (by kernel_rfl)) ?_
     try go_wp2
     go_meet
     case rel => exact ⟨_, (true), (by first | rfl | (simp; done) | (simp [*]; done)), H', ⟨by have := HK1.out; first | omega | exact Nat.le_refl _⟩, ⟨by repeat (first | (with_reducible first | exact HB.out | apply below_alloc | apply pw_below_drewN | apply below_drew1) | exact HB.out)⟩⟩
    subst c7
    have H1 : (if x3_1 > 0 then (if 0 ≤ (wrap64 (x3_1 - 1)) then (if (wrap64 (x3_1 - 1)) < (l0.length : Int) then ((spec_l12Ahead.f ((rd_T40 l0 (wrap64 (x3_1 - 1))).f0) ((rd_T40 l0 (wrap64 (x3_1 - 1))).f1) ((rd_T40 l0 (wrap64 (x3_1 - 1))).f2) ((rd_T40 l0 (wrap64 (x3_1 - 1))).f3) ((rd_T40 l0 (wrap64 (x3_1 - 1))).f4) ((rd_T40 l0 (wrap64 (x3_1 - 1))).f5) ((rd_T40 l0 x3_1).f0) ((rd_T40 l0 x3_1).f1) ((rd_T40 l0 x3_1).f2) ((rd_T40 l0 x3_1).f3) ((rd_T40 l0 x3_1).f4) ((rd_T40 l0 x3_1).f5)).bind fun t138 => (spec_EventsOK.j1 k1 l0 x3_1 (!t138))) else (none)) else (none)) else (spec_EventsOK.j1 k1 l0 x3_1 false)) = some r := by rw [if_pos rfl] at H; exact H
    clear H
    have H := H1
    clear H1
    by_cases c8 : x3_1 > 0
    rotate_left
    ·rw [if_neg c8] at H
     have c8b0 : decide (0 < x3_1) = false := decide_eq_false c8
     clear c8
     have H' := Aside0.mk H
     clear H
     try go_wp2
     have n0_ := Aside0.mk (below_drew1 HB.out)
     clear HB
     have HB := n0_
     clear n0_
     have p134 : 0 ≤ (x3_1 : Int) := od_
     have q134 : x3_1 < (l0.length : Int) := od_
     obtain ⟨ad134, e134, hx134_0, hx134_1, hx134_2, hx134_3, hx134_4, hx134_5⟩ := at_T40 HR0.out x3_1 p134 q134
     have hw134_5 := hx134_5
     have hw134_4 := hx134_4
     have hw134_3 := hx134_3
     have hw134_2 := hx134_2
     have hw134_1 := hx134_1
     have hw134_0 := hx134_0
     cases e134
     replace hx134_0 := (HB.out.cell (World.block_lt_of_cell? w _ hx134_0)).trans hx134_0
     replace hx134_1 := (HB.out.cell (World.block_lt_of_cell? w _ hx134_1)).trans hx134_1
     replace hx134_2 := (HB.out.cell (World.block_lt_of_cell? w _ hx134_2)).trans hx134_2
     replace hx134_3 := (HB.out.cell (World.block_lt_of_cell? w _ hx134_3)).trans hx134_3
     replace hx134_4 := (HB.out.cell (World.block_lt_of_cell? w _ hx134_4)).trans hx134_4
     replace hx134_5 := (HB.out.cell (World.block_lt_of_cell? w _ hx134_5)).trans hx134_5
     replace p134 := eq_true p134
     replace q134 := eq_true q134
     refine start_ (n := 23) (S := fun w' => w'.cell? (ad134.add ((x3_1).toNat * 6)) = some (.int .i64 ((rd_T40 l0 x3_1).f0)) ∧ w'.cell? ⟨(ad134.add ((x3_1).toNat * 6)).block, (ad134.add ((x3_1).toNat * 6)).off + 1, none⟩ = some (.int .i64 ((rd_T40 l0 x3_1).f1)) ∧ w'.cell? ⟨(ad134.add ((x3_1).toNat * 6)).block, (ad134.add ((x3_1).toNat * 6)).off + 2, none⟩ = some (.int .i64 ((rd_T40 l0 x3_1).f2)) ∧ w'.cell? ⟨(ad134.add ((x3_1).toNat * 6)).block, (ad134.add ((x3_1).toNat * 6)).off + 3, none⟩ = some (.int .i64 ((rd_T40 l0 x3_1).f3)) ∧ w'.cell? ⟨(ad134.add ((x3_1).toNat * 6)).block, (ad134.add ((x3_1).toNat * 6)).off + 4, none⟩ = some (.string ((rd_T40 l0 x3_1).f4)) ∧ w'.cell? ⟨(ad134.add ((x3_1).toNat * 6)).block, (ad134.add ((x3_1).toNat * 6)).off + 5, none⟩ = some (.int .i64 ((rd_T40 l0 x3_1).f5))) (ds := []) (msk 0 23) (by kernel_rfl) rfl rfl ⟨((HB.out.cell (World.block_lt_of_cell? w _ hw134_0)).trans hw134_0), ((HB.out.cell (World.block_lt_of_cell? w _ hw134_1)).trans hw134_1), ((HB.out.cell (World.block_lt_of_cell? w _ hw134_2)).trans hw134_2), ((HB.out.cell (World.block_lt_of_cell? w _ hw134_3)).trans hw134_3), ((HB.out.cell (World.block_lt_of_cell? w _ hw134_4)).trans hw134_4), ((HB.out.cell (World.block_lt_of_cell? w _ hw134_5)).trans hw134_5)⟩ (fun hHeld => ?_); refine with_tabW spec_EventsOK.tab6 spec_EventsOK.bits6 (fun HT_ HW_ => ?_)
     generalize wr.drew = w16 at HB hx134_0 hx134_1 hx134_2 hx134_3 hx134_4 hx134_5 hHeld ⊢
     refine pu_ 0 14 (msk 1 22) HT_.out ?_; refine pu_ 1 15 (msk 2 21) HT_.out ?_; refine pu_ 2 16 (msk 3 20) HT_.out ?_
     refine tk_ 3 17 (msk 4 19) HT_.out HW_.out hHeld ?_ (hy := by rintro w' ⟨s0, s1, s2, s3, s4, s5⟩; go_simp; with_reducible rfl)
     refine one_ (i := 4) (N := some 18) (msk 5 18) rfl rfl (one_of HT_.out (by kernel_rfl)) (by decide) (fun K hK => ?_)
     refine goes_ Try.func18 (by kernel_rfl) rfl #[.agg #[.int .i64 ((rd_T40 l0 x3_1).f0), .int .i64 ((rd_T40 l0 x3_1).f1), .int .i64 ((rd_T40 l0 x3_1).f2), .int .i64 ((rd_T40 l0 x3_1).f3), .string ((rd_T40 l0 x3_1).f4), .int .i64 ((rd_T40 l0 x3_1).f5)]] (by rfl) rfl rfl (by (try simp only [List.map_toArray, List.map_cons, List.map_nil]); first | done | rfl | (simp only [List.length_drop, List.length_take]; rfl)) ?_
     with_reducible refine (spec_l12Right.calls k1 ((rd_T40 l0 x3_1).f0) ((rd_T40 l0 x3_1).f1) ((rd_T40 l0 x3_1).f2) ((rd_T40 l0 x3_1).f3) ((rd_T40 l0 x3_1).f4) ((rd_T40 l0 x3_1).f5) true _ A6.out).mono ?_
     rintro e w17 ⟨rfl, hb⟩
     refine ⟨_, rfl, ?_⟩
     have n0_ := Aside0.mk (below_step bl_ hb)
     clear HB
     have HB := n0_
     clear n0_
     (try clear hb)
     (try clear hb2)
     (try clear hk)
     (try clear hi)
     refine hK.out _ _ ⟨((HB.out.cell (World.block_lt_of_cell? w _ hw134_0)).trans hw134_0), ((HB.out.cell (World.block_lt_of_cell? w _ hw134_1)).trans hw134_1), ((HB.out.cell (World.block_lt_of_cell? w _ hw134_2)).trans hw134_2), ((HB.out.cell (World.block_lt_of_cell? w _ hw134_3)).trans hw134_3), ((HB.out.cell (World.block_lt_of_cell? w _ hw134_4)).trans hw134_4), ((HB.out.cell (World.block_lt_of_cell? w _ hw134_5)).trans hw134_5)⟩ (fun hHeld => ?_)
     clear hK K
     refine norm_ (a' := ?_) ?_ ?_
     rotate_left
     ·show Act.put _ (some 18) _ = _
      simp only [Act.put, List.setIfInBounds_toArray, List.set_cons_zero, List.set_cons_succ, i64_w, i32_w]
      rfl
     refine pu_ 5 19 (msk 6 17) HT_.out ?_; refine pu_ 6 20 (msk 7 16) HT_.out ?_; refine pu_ 7 21 (msk 8 15) HT_.out ?_; refine pu_ 8 22 (msk 9 14) HT_.out ?_; refine pu_ 9 23 (msk 10 13) HT_.out ?_; refine pn_ 10 24 (msk 11 12) HT_.out ?_; refine pn_ 11 25 (msk 12 11) HT_.out ?_; refine pn_ 12 26 (msk 13 10) HT_.out ?_; refine pn_ 13 27 (msk 14 9) HT_.out ?_; refine pn_ 14 28 (msk 15 8) HT_.out ?_; refine pn_ 15 29 (msk 16 7) HT_.out ?_; refine pn_ 16 30 (msk 17 6) HT_.out ?_; refine pn_ 17 31 (msk 18 5) HT_.out ?_; refine pn_ 18 32 (msk 19 4) HT_.out ?_; refine pn_ 19 33 (msk 20 3) HT_.out ?_; refine pn_ 20 34 (msk 21 2) HT_.out ?_; refine pu_ 21 35 (msk 22 1) HT_.out ?_; refine pu_ 22 36 (msk 23 0) HT_.out ?_
     refine done_ (done_of HT_.out (by kernel_rfl)) ?_
     try go_wp2
     go_meet
     case rel => exact ⟨_, (false), (by first | rfl | (simp; done) | (simp [*]; done)), H', ⟨by have := HK1.out; first | omega | exact Nat.le_refl _⟩, ⟨by repeat (first | (with_reducible first | exact HB.out | apply below_alloc | apply pw_below_drewN | apply below_drew1) | exact HB.out)⟩⟩
    rw [if_pos c8] at H
    have c8b0 : decide (0 < x3_1) = true := decide_eq_true c8
    clear c8
    obtain ⟨ji9, hji9⟩ : ∃ j_ : Int, (wrap64 (x3_1 - 1)) = j_ := ⟨_, rfl⟩
    replace H : (if 0 ≤ (ji9) then (if (ji9) < (l0.length : Int) then ((spec_l12Ahead.f ((rd_T40 l0 (ji9)).f0) ((rd_T40 l0 (ji9)).f1) ((rd_T40 l0 (ji9)).f2) ((rd_T40 l0 (ji9)).f3) ((rd_T40 l0 (ji9)).f4) ((rd_T40 l0 (ji9)).f5) ((rd_T40 l0 x3_1).f0) ((rd_T40 l0 x3_1).f1) ((rd_T40 l0 x3_1).f2) ((rd_T40 l0 x3_1).f3) ((rd_T40 l0 x3_1).f4) ((rd_T40 l0 x3_1).f5)).bind fun t138 => (spec_EventsOK.j1 k1 l0 x3_1 (!t138))) else (none)) else (none)) = some r := by first | (rw [hji9] at H; exact H) | (simp only [hji9] at H ⊢; exact H)
    (try rw [hji9] at A6)
    have hji9w : (IntKind.i64.wrap (x3_1 - 1)) = ji9 := (i64_w _).trans hji9
    by_cases c10 : 0 ≤ (ji9)
    rotate_left
    ·rw [if_neg c10] at H
     exact absurd H (by simp)
    rw [if_pos c10] at H
    have c10b0 : decide (0 ≤ (ji9)) = true := decide_eq_true c10
    clear c10
    by_cases c11 : (ji9) < (l0.length : Int)
    rotate_left
    ·rw [if_neg c11] at H
     exact absurd H (by simp)
    rw [if_pos c11] at H
    have c11b0 : decide ((ji9) < (l0.length : Int)) = true := decide_eq_true c11
    clear c11
    replace H := Option.bind_eq_some_iff.mp H
    obtain ⟨t138, A120, H⟩ := H
    replace H : (spec_EventsOK.j1 k1 l0 x3_1 (!t138)) = some r := H
    have A12 := Aside0.mk A120
    clear A120
    have H' := Aside0.mk H
    clear H
    try go_wp2
    have n0_ := Aside0.mk (below_drew1 HB.out)
    clear HB
    have HB := n0_
    clear n0_
    have p134 : 0 ≤ (x3_1 : Int) := od_
    have q134 : x3_1 < (l0.length : Int) := od_
    obtain ⟨ad134, e134, hx134_0, hx134_1, hx134_2, hx134_3, hx134_4, hx134_5⟩ := at_T40 HR0.out x3_1 p134 q134
    have hw134_5 := hx134_5
    have hw134_4 := hx134_4
    have hw134_3 := hx134_3
    have hw134_2 := hx134_2
    have hw134_1 := hx134_1
    have hw134_0 := hx134_0
    cases e134
    replace hx134_0 := (HB.out.cell (World.block_lt_of_cell? w _ hx134_0)).trans hx134_0
    replace hx134_1 := (HB.out.cell (World.block_lt_of_cell? w _ hx134_1)).trans hx134_1
    replace hx134_2 := (HB.out.cell (World.block_lt_of_cell? w _ hx134_2)).trans hx134_2
    replace hx134_3 := (HB.out.cell (World.block_lt_of_cell? w _ hx134_3)).trans hx134_3
    replace hx134_4 := (HB.out.cell (World.block_lt_of_cell? w _ hx134_4)).trans hx134_4
    replace hx134_5 := (HB.out.cell (World.block_lt_of_cell? w _ hx134_5)).trans hx134_5
    replace p134 := eq_true p134
    replace q134 := eq_true q134
    have p136 : 0 ≤ ((ji9) : Int) := od_
    have q136 : (ji9) < (l0.length : Int) := od_
    obtain ⟨ad136, e136, hx136_0, hx136_1, hx136_2, hx136_3, hx136_4, hx136_5⟩ := at_T40 HR0.out (ji9) p136 q136
    have hw136_5 := hx136_5
    have hw136_4 := hx136_4
    have hw136_3 := hx136_3
    have hw136_2 := hx136_2
    have hw136_1 := hx136_1
    have hw136_0 := hx136_0
    obtain rfl : ad134 = ad136 := (by injection e136)
    replace hx136_0 := (HB.out.cell (World.block_lt_of_cell? w _ hx136_0)).trans hx136_0
    replace hx136_1 := (HB.out.cell (World.block_lt_of_cell? w _ hx136_1)).trans hx136_1
    replace hx136_2 := (HB.out.cell (World.block_lt_of_cell? w _ hx136_2)).trans hx136_2
    replace hx136_3 := (HB.out.cell (World.block_lt_of_cell? w _ hx136_3)).trans hx136_3
    replace hx136_4 := (HB.out.cell (World.block_lt_of_cell? w _ hx136_4)).trans hx136_4
    replace hx136_5 := (HB.out.cell (World.block_lt_of_cell? w _ hx136_5)).trans hx136_5
    replace p136 := eq_true p136
    replace q136 := eq_true q136
    have p137 : 0 ≤ (x3_1 : Int) := od_
    have q137 : x3_1 < (l0.length : Int) := od_
    obtain ⟨ad137, e137, hx137_0, hx137_1, hx137_2, hx137_3, hx137_4, hx137_5⟩ := at_T40 HR0.out x3_1 p137 q137
    have hw137_5 := hx137_5
    have hw137_4 := hx137_4
    have hw137_3 := hx137_3
    have hw137_2 := hx137_2
    have hw137_1 := hx137_1
    have hw137_0 := hx137_0
    obtain rfl : ad134 = ad137 := (by injection e137)
    replace hx137_0 := (HB.out.cell (World.block_lt_of_cell? w _ hx137_0)).trans hx137_0
    replace hx137_1 := (HB.out.cell (World.block_lt_of_cell? w _ hx137_1)).trans hx137_1
    replace hx137_2 := (HB.out.cell (World.block_lt_of_cell? w _ hx137_2)).trans hx137_2
    replace hx137_3 := (HB.out.cell (World.block_lt_of_cell? w _ hx137_3)).trans hx137_3
    replace hx137_4 := (HB.out.cell (World.block_lt_of_cell? w _ hx137_4)).trans hx137_4
    replace hx137_5 := (HB.out.cell (World.block_lt_of_cell? w _ hx137_5)).trans hx137_5
    replace p137 := eq_true p137
    replace q137 := eq_true q137
    refine start_ (n := 23) (S := fun w' => w'.cell? (ad134.add ((x3_1).toNat * 6)) = some (.int .i64 ((rd_T40 l0 x3_1).f0)) ∧ w'.cell? ⟨(ad134.add ((x3_1).toNat * 6)).block, (ad134.add ((x3_1).toNat * 6)).off + 1, none⟩ = some (.int .i64 ((rd_T40 l0 x3_1).f1)) ∧ w'.cell? ⟨(ad134.add ((x3_1).toNat * 6)).block, (ad134.add ((x3_1).toNat * 6)).off + 2, none⟩ = some (.int .i64 ((rd_T40 l0 x3_1).f2)) ∧ w'.cell? ⟨(ad134.add ((x3_1).toNat * 6)).block, (ad134.add ((x3_1).toNat * 6)).off + 3, none⟩ = some (.int .i64 ((rd_T40 l0 x3_1).f3)) ∧ w'.cell? ⟨(ad134.add ((x3_1).toNat * 6)).block, (ad134.add ((x3_1).toNat * 6)).off + 4, none⟩ = some (.string ((rd_T40 l0 x3_1).f4)) ∧ w'.cell? ⟨(ad134.add ((x3_1).toNat * 6)).block, (ad134.add ((x3_1).toNat * 6)).off + 5, none⟩ = some (.int .i64 ((rd_T40 l0 x3_1).f5)) ∧ w'.cell? (ad134.add (((ji9)).toNat * 6)) = some (.int .i64 ((rd_T40 l0 (ji9)).f0)) ∧ w'.cell? ⟨(ad134.add (((ji9)).toNat * 6)).block, (ad134.add (((ji9)).toNat * 6)).off + 1, none⟩ = some (.int .i64 ((rd_T40 l0 (ji9)).f1)) ∧ w'.cell? ⟨(ad134.add (((ji9)).toNat * 6)).block, (ad134.add (((ji9)).toNat * 6)).off + 2, none⟩ = some (.int .i64 ((rd_T40 l0 (ji9)).f2)) ∧ w'.cell? ⟨(ad134.add (((ji9)).toNat * 6)).block, (ad134.add (((ji9)).toNat * 6)).off + 3, none⟩ = some (.int .i64 ((rd_T40 l0 (ji9)).f3)) ∧ w'.cell? ⟨(ad134.add (((ji9)).toNat * 6)).block, (ad134.add (((ji9)).toNat * 6)).off + 4, none⟩ = some (.string ((rd_T40 l0 (ji9)).f4)) ∧ w'.cell? ⟨(ad134.add (((ji9)).toNat * 6)).block, (ad134.add (((ji9)).toNat * 6)).off + 5, none⟩ = some (.int .i64 ((rd_T40 l0 (ji9)).f5)) ∧ w'.cell? (ad134.add ((x3_1).toNat * 6)) = some (.int .i64 ((rd_T40 l0 x3_1).f0)) ∧ w'.cell? ⟨(ad134.add ((x3_1).toNat * 6)).block, (ad134.add ((x3_1).toNat * 6)).off + 1, none⟩ = some (.int .i64 ((rd_T40 l0 x3_1).f1)) ∧ w'.cell? ⟨(ad134.add ((x3_1).toNat * 6)).block, (ad134.add ((x3_1).toNat * 6)).off + 2, none⟩ = some (.int .i64 ((rd_T40 l0 x3_1).f2)) ∧ w'.cell? ⟨(ad134.add ((x3_1).toNat * 6)).block, (ad134.add ((x3_1).toNat * 6)).off + 3, none⟩ = some (.int .i64 ((rd_T40 l0 x3_1).f3)) ∧ w'.cell? ⟨(ad134.add ((x3_1).toNat * 6)).block, (ad134.add ((x3_1).toNat * 6)).off + 4, none⟩ = some (.string ((rd_T40 l0 x3_1).f4)) ∧ w'.cell? ⟨(ad134.add ((x3_1).toNat * 6)).block, (ad134.add ((x3_1).toNat * 6)).off + 5, none⟩ = some (.int .i64 ((rd_T40 l0 x3_1).f5))) (ds := []) (msk 0 23) (by kernel_rfl) rfl rfl ⟨((HB.out.cell (World.block_lt_of_cell? w _ hw134_0)).trans hw134_0), ((HB.out.cell (World.block_lt_of_cell? w _ hw134_1)).trans hw134_1), ((HB.out.cell (World.block_lt_of_cell? w _ hw134_2)).trans hw134_2), ((HB.out.cell (World.block_lt_of_cell? w _ hw134_3)).trans hw134_3), ((HB.out.cell (World.block_lt_of_cell? w _ hw134_4)).trans hw134_4), ((HB.out.cell (World.block_lt_of_cell? w _ hw134_5)).trans hw134_5), ((HB.out.cell (World.block_lt_of_cell? w _ hw136_0)).trans hw136_0), ((HB.out.cell (World.block_lt_of_cell? w _ hw136_1)).trans hw136_1), ((HB.out.cell (World.block_lt_of_cell? w _ hw136_2)).trans hw136_2), ((HB.out.cell (World.block_lt_of_cell? w _ hw136_3)).trans hw136_3), ((HB.out.cell (World.block_lt_of_cell? w _ hw136_4)).trans hw136_4), ((HB.out.cell (World.block_lt_of_cell? w _ hw136_5)).trans hw136_5), ((HB.out.cell (World.block_lt_of_cell? w _ hw137_0)).trans hw137_0), ((HB.out.cell (World.block_lt_of_cell? w _ hw137_1)).trans hw137_1), ((HB.out.cell (World.block_lt_of_cell? w _ hw137_2)).trans hw137_2), ((HB.out.cell (World.block_lt_of_cell? w _ hw137_3)).trans hw137_3), ((HB.out.cell (World.block_lt_of_cell? w _ hw137_4)).trans hw137_4), ((HB.out.cell (World.block_lt_of_cell? w _ hw137_5)).trans hw137_5)⟩ (fun hHeld => ?_); refine with_tabW spec_EventsOK.tab6 spec_EventsOK.bits6 (fun HT_ HW_ => ?_)
    generalize wr.drew = w13 at HB hx134_0 hx134_1 hx134_2 hx134_3 hx134_4 hx134_5 hx136_0 hx136_1 hx136_2 hx136_3 hx136_4 hx136_5 hx137_0 hx137_1 hx137_2 hx137_3 hx137_4 hx137_5 hHeld ⊢
    refine pu_ 0 14 (msk 1 22) HT_.out ?_; refine pu_ 1 15 (msk 2 21) HT_.out ?_; refine pu_ 2 16 (msk 3 20) HT_.out ?_
    refine tk_ 3 17 (msk 4 19) HT_.out HW_.out hHeld ?_ (hy := by rintro w' ⟨s0, s1, s2, s3, s4, s5, s6, s7, s8, s9, s10, s11, s12, s13, s14, s15, s16, s17⟩; go_simp; with_reducible rfl)
    refine one_ (i := 4) (N := some 18) (msk 5 18) rfl rfl (one_of HT_.out (by kernel_rfl)) (by decide) (fun K hK => ?_)
    refine goes_ Try.func18 (by kernel_rfl) rfl #[.agg #[.int .i64 ((rd_T40 l0 x3_1).f0), .int .i64 ((rd_T40 l0 x3_1).f1), .int .i64 ((rd_T40 l0 x3_1).f2), .int .i64 ((rd_T40 l0 x3_1).f3), .string ((rd_T40 l0 x3_1).f4), .int .i64 ((rd_T40 l0 x3_1).f5)]] (by rfl) rfl rfl (by (try simp only [List.map_toArray, List.map_cons, List.map_nil]); first | done | rfl | (simp only [List.length_drop, List.length_take]; rfl)) ?_
    with_reducible refine (spec_l12Right.calls k1 ((rd_T40 l0 x3_1).f0) ((rd_T40 l0 x3_1).f1) ((rd_T40 l0 x3_1).f2) ((rd_T40 l0 x3_1).f3) ((rd_T40 l0 x3_1).f4) ((rd_T40 l0 x3_1).f5) true _ A6.out).mono ?_
    rintro e w14 ⟨rfl, hb⟩
    refine ⟨_, rfl, ?_⟩
    have n0_ := Aside0.mk (below_step bl_ hb)
    clear HB
    have HB := n0_
    clear n0_
    (try clear hb)
    (try clear hb2)
    (try clear hk)
    (try clear hi)
    refine hK.out _ _ ⟨((HB.out.cell (World.block_lt_of_cell? w _ hw134_0)).trans hw134_0), ((HB.out.cell (World.block_lt_of_cell? w _ hw134_1)).trans hw134_1), ((HB.out.cell (World.block_lt_of_cell? w _ hw134_2)).trans hw134_2), ((HB.out.cell (World.block_lt_of_cell? w _ hw134_3)).trans hw134_3), ((HB.out.cell (World.block_lt_of_cell? w _ hw134_4)).trans hw134_4), ((HB.out.cell (World.block_lt_of_cell? w _ hw134_5)).trans hw134_5), ((HB.out.cell (World.block_lt_of_cell? w _ hw136_0)).trans hw136_0), ((HB.out.cell (World.block_lt_of_cell? w _ hw136_1)).trans hw136_1), ((HB.out.cell (World.block_lt_of_cell? w _ hw136_2)).trans hw136_2), ((HB.out.cell (World.block_lt_of_cell? w _ hw136_3)).trans hw136_3), ((HB.out.cell (World.block_lt_of_cell? w _ hw136_4)).trans hw136_4), ((HB.out.cell (World.block_lt_of_cell? w _ hw136_5)).trans hw136_5), ((HB.out.cell (World.block_lt_of_cell? w _ hw137_0)).trans hw137_0), ((HB.out.cell (World.block_lt_of_cell? w _ hw137_1)).trans hw137_1), ((HB.out.cell (World.block_lt_of_cell? w _ hw137_2)).trans hw137_2), ((HB.out.cell (World.block_lt_of_cell? w _ hw137_3)).trans hw137_3), ((HB.out.cell (World.block_lt_of_cell? w _ hw137_4)).trans hw137_4), ((HB.out.cell (World.block_lt_of_cell? w _ hw137_5)).trans hw137_5)⟩ (fun hHeld => ?_)
    clear hK K
    refine norm_ (a' := ?_) ?_ ?_
    rotate_left
    ·show Act.put _ (some 18) _ = _
     simp only [Act.put, List.setIfInBounds_toArray, List.set_cons_zero, List.set_cons_succ, i64_w, i32_w]
     rfl
    refine pu_ 5 19 (msk 6 17) HT_.out ?_; refine pu_ 6 20 (msk 7 16) HT_.out ?_; refine pu_ 7 21 (msk 8 15) HT_.out ?_; refine pu_ 8 22 (msk 9 14) HT_.out ?_; refine pu_ 9 23 (msk 10 13) HT_.out ?_; refine pu_ 10 24 (msk 11 12) HT_.out ?_; refine pu_ 11 25 (msk 12 11) HT_.out ?_; refine pu_ 12 26 (msk 13 10) HT_.out ?_; refine pu_ 13 27 (msk 14 9) HT_.out ?_; refine pu_ 15 29 (mskl 23 14 [15]) HT_.out ?_; refine pu_ 16 30 (mskl 23 14 [15, 16]) HT_.out ?_; refine pu_ 17 31 (mskl 23 14 [15, 16, 17]) HT_.out ?_
    refine tk_ 14 28 (msk 18 5) HT_.out HW_.out hHeld ?_ (hy := by rintro w' ⟨s0, s1, s2, s3, s4, s5, s6, s7, s8, s9, s10, s11, s12, s13, s14, s15, s16, s17⟩; go_simp; with_reducible rfl)
    refine tk_ 18 32 (msk 19 4) HT_.out HW_.out hHeld ?_ (hy := by rintro w' ⟨s0, s1, s2, s3, s4, s5, s6, s7, s8, s9, s10, s11, s12, s13, s14, s15, s16, s17⟩; go_simp; with_reducible rfl)
    refine one_ (i := 19) (N := some 33) (msk 20 3) rfl rfl (one_of HT_.out (by kernel_rfl)) (by decide) (fun K hK => ?_)
    refine goes_ Try.func19 (by kernel_rfl) rfl #[.agg #[.int .i64 ((rd_T40 l0 (ji9)).f0), .int .i64 ((rd_T40 l0 (ji9)).f1), .int .i64 ((rd_T40 l0 (ji9)).f2), .int .i64 ((rd_T40 l0 (ji9)).f3), .string ((rd_T40 l0 (ji9)).f4), .int .i64 ((rd_T40 l0 (ji9)).f5)], .agg #[.int .i64 ((rd_T40 l0 x3_1).f0), .int .i64 ((rd_T40 l0 x3_1).f1), .int .i64 ((rd_T40 l0 x3_1).f2), .int .i64 ((rd_T40 l0 x3_1).f3), .string ((rd_T40 l0 x3_1).f4), .int .i64 ((rd_T40 l0 x3_1).f5)]] (by rfl) rfl rfl (by (try simp only [List.map_toArray, List.map_cons, List.map_nil]); first | done | (simp only [hji9]; rfl) | rfl | (simp only [List.length_drop, List.length_take]; rfl)) ?_
    with_reducible refine (spec_l12Ahead.calls ((rd_T40 l0 (ji9)).f0) ((rd_T40 l0 (ji9)).f1) ((rd_T40 l0 (ji9)).f2) ((rd_T40 l0 (ji9)).f3) ((rd_T40 l0 (ji9)).f4) ((rd_T40 l0 (ji9)).f5) ((rd_T40 l0 x3_1).f0) ((rd_T40 l0 x3_1).f1) ((rd_T40 l0 x3_1).f2) ((rd_T40 l0 x3_1).f3) ((rd_T40 l0 x3_1).f4) ((rd_T40 l0 x3_1).f5) t138 _ A12.out).mono ?_
    rintro e w15 ⟨rfl, hb⟩
    refine ⟨_, rfl, ?_⟩
    have n0_ := Aside0.mk (below_step bl_ hb)
    clear HB
    have HB := n0_
    clear n0_
    (try clear hb)
    (try clear hb2)
    (try clear hk)
    (try clear hi)
    refine hK.out _ _ ⟨((HB.out.cell (World.block_lt_of_cell? w _ hw134_0)).trans hw134_0), ((HB.out.cell (World.block_lt_of_cell? w _ hw134_1)).trans hw134_1), ((HB.out.cell (World.block_lt_of_cell? w _ hw134_2)).trans hw134_2), ((HB.out.cell (World.block_lt_of_cell? w _ hw134_3)).trans hw134_3), ((HB.out.cell (World.block_lt_of_cell? w _ hw134_4)).trans hw134_4), ((HB.out.cell (World.block_lt_of_cell? w _ hw134_5)).trans hw134_5), ((HB.out.cell (World.block_lt_of_cell? w _ hw136_0)).trans hw136_0), ((HB.out.cell (World.block_lt_of_cell? w _ hw136_1)).trans hw136_1), ((HB.out.cell (World.block_lt_of_cell? w _ hw136_2)).trans hw136_2), ((HB.out.cell (World.block_lt_of_cell? w _ hw136_3)).trans hw136_3), ((HB.out.cell (World.block_lt_of_cell? w _ hw136_4)).trans hw136_4), ((HB.out.cell (World.block_lt_of_cell? w _ hw136_5)).trans hw136_5), ((HB.out.cell (World.block_lt_of_cell? w _ hw137_0)).trans hw137_0), ((HB.out.cell (World.block_lt_of_cell? w _ hw137_1)).trans hw137_1), ((HB.out.cell (World.block_lt_of_cell? w _ hw137_2)).trans hw137_2), ((HB.out.cell (World.block_lt_of_cell? w _ hw137_3)).trans hw137_3), ((HB.out.cell (World.block_lt_of_cell? w _ hw137_4)).trans hw137_4), ((HB.out.cell (World.block_lt_of_cell? w _ hw137_5)).trans hw137_5)⟩ (fun hHeld => ?_)
    clear hK K
    refine norm_ (a' := ?_) ?_ ?_
    rotate_left
    ·show Act.put _ (some 33) _ = _
     simp only [Act.put, List.setIfInBounds_toArray, List.set_cons_zero, List.set_cons_succ, i64_w, i32_w]
     rfl
    refine pu_ 20 34 (msk 21 2) HT_.out ?_; refine pu_ 21 35 (msk 22 1) HT_.out ?_; refine pu_ 22 36 (msk 23 0) HT_.out ?_
    refine done_ (done_of HT_.out (by kernel_rfl)) ?_
    try go_wp2
    go_meet
    case rel => exact ⟨_, (!t138), (by first | rfl | (simp; done) | (simp [*]; done)), H', ⟨by have := HK1.out; first | omega | exact Nat.le_refl _⟩, ⟨by repeat (first | (with_reducible first | exact HB.out | apply below_alloc | apply pw_below_drewN | apply below_drew1) | exact HB.out)⟩⟩
   case rest =>
    clear HC4
    (try clear c1); (try clear p1); (try clear q1); (try clear hx1); (try clear c5); (try clear c7); (try clear c8); (try clear c8b0); (try clear c10); (try clear c11); (try clear p13); (try clear q13); (try clear hx13); (try clear c18); (try clear c19); (try clear hx134_0); (try clear hx134_1); (try clear hx134_2); (try clear hx134_3); (try clear hx134_4); (try clear hx134_5); (try clear hx136_0); (try clear hx136_1); (try clear hx136_2); (try clear hx136_3); (try clear hx136_4); (try clear hx136_5); (try clear hx137_0); (try clear hx137_1); (try clear hx137_2); (try clear hx137_3); (try clear hx137_4); (try clear hx137_5); (try clear p134); (try clear p137); (try clear q134); (try clear q136); (try clear q137)
    obtain ⟨kq, x36_3, rfl, HA, HJ3, HB⟩ := hcut
    cases kq with
    | zero => exact absurd HA.out (by simp [spec_EventsOK.j1])
    | succ kj3 =>
     have H := HA.out
     clear HA
     simp only [spec_EventsOK.j1] at H
     by_cases c20 : x36_3 = true
     ·subst c20
      have H1 : (some false) = some r := by rw [if_pos rfl] at H; exact H
      clear H
      have H := H1
      clear H1
      obtain rfl := Option.some.inj H
      go_wp2
      go_ret
      exact ⟨by first | rfl | (simp [errW_none, errW_some] <;> rfl) | (simp [*, errW_none, errW_some] <;> rfl), by repeat (first | (with_reducible first | exact HB.out | apply below_alloc | apply pw_below_drewN | apply below_drew1) | exact HB.out)⟩
     replace c20 := Bool.eq_false_iff.mpr c20
     subst c20
     have H1 : (spec_EventsOK.l1 kj3 l0 x3_1 0) = some r := by rw [if_neg (show ¬ (false = true) by decide)] at H; exact H
     clear H
     have H := H1
     clear H1
     have H' := Aside0.mk H
     clear H
     go_wp2
     go_loopg [4] kj3 (fun kq v4 w' => ∃ (x4_3 : Int), v4 = .int .i64 x4_3 ∧ Aside0 (spec_EventsOK.l1 kq l0 x3_1 x4_3 = some r) ∧ Aside0 (kq ≤ kj3) ∧ Aside0 (Below w.heap.size w w'))
     case atStart => exact ⟨(0), (by first | rfl | (simp; done) | (simp [*]; done)), H', ⟨Nat.le_refl _⟩, ⟨by repeat (first | (with_reducible first | exact HB.out | apply below_alloc | apply pw_below_drewN | apply below_drew1) | exact HB.out)⟩⟩
     case round =>
      clear H'
      try clear c20
      obtain ⟨x4_3, rfl, HA, HK3, HB⟩ := hrel
      cases gk with
      | zero => exact absurd HA.out (by simp [spec_EventsOK.l1])
      | succ k3 =>
       have H := HA.out
       clear HA
       simp only [spec_EventsOK.l1] at H
       by_cases c21 : x4_3 < x3_1
       rotate_left
       ·rw [if_neg c21] at H
        have c21b0 : decide (x4_3 < x3_1) = false := decide_eq_false c21
        clear c21
        have H' := Aside0.mk H
        clear H
        go_wp2
        go_roundg k3
        case measure => have := HK1.out; have := HJ3.out; have := HK3.out; omega
        case rel => exact ⟨(wrap64 (x3_1 + 1)), (by first | rfl | (simp; done) | (simp [*]; done)), H', ⟨by have := HK1.out; have := HJ3.out; have := HK3.out; omega⟩, ⟨by repeat (first | (with_reducible first | exact HB.out | apply below_alloc | apply pw_below_drewN | apply below_drew1) | exact HB.out)⟩⟩
       rw [if_pos c21] at H
       have c21b0 : decide (x4_3 < x3_1) = true := decide_eq_true c21
       clear c21
       by_cases c22 : 0 ≤ x4_3
       rotate_left
       ·rw [if_neg c22] at H
        exact absurd H (by simp)
       rw [if_pos c22] at H
       have c22b0 : decide (0 ≤ x4_3) = true := decide_eq_true c22
       clear c22
       by_cases c23 : x4_3 < (l0.length : Int)
       rotate_left
       ·rw [if_neg c23] at H
        exact absurd H (by simp)
       rw [if_pos c23] at H
       have c23b0 : decide (x4_3 < (l0.length : Int)) = true := decide_eq_true c23
       clear c23
       by_cases c24 : 0 ≤ x3_1
       rotate_left
       ·rw [if_neg c24] at H
        exact absurd H (by simp)
       rw [if_pos c24] at H
       have c24b0 : decide (0 ≤ x3_1) = true := decide_eq_true c24
       clear c24
       by_cases c25 : x3_1 < (l0.length : Int)
       rotate_left
       ·rw [if_neg c25] at H
        exact absurd H (by simp)
       rw [if_pos c25] at H
       have c25b0 : decide (x3_1 < (l0.length : Int)) = true := decide_eq_true c25
       clear c25
       by_cases c26 : ((rd_T40 l0 x4_3).f0) = ((rd_T40 l0 x3_1).f0)
       rotate_left
       ·rw [if_neg c26] at H
        have c26b0 : (((rd_T40 l0 x4_3).f0) == ((rd_T40 l0 x3_1).f0)) = false := beq_eq_false_iff_ne.mpr c26
        have c26b1 : (((rd_T40 l0 x4_3).f0) != ((rd_T40 l0 x3_1).f0)) = true := bne_iff_ne.mpr c26
        have H' := Aside0.mk H
        clear H
        try go_wp2
        have n0_ := Aside0.mk (below_drew1 HB.out)
        clear HB
        have HB := n0_
        clear n0_
        have p139 : 0 ≤ (x4_3 : Int) := od_
        have q139 : x4_3 < (l0.length : Int) := od_
        obtain ⟨ad139, e139, hx139_0, hx139_1, hx139_2, hx139_3, hx139_4, hx139_5⟩ := at_T40 HR0.out x4_3 p139 q139
        have hw139_5 := hx139_5
        have hw139_4 := hx139_4
        have hw139_3 := hx139_3
        have hw139_2 := hx139_2
        have hw139_1 := hx139_1
        have hw139_0 := hx139_0
        cases e139
        replace hx139_0 := (HB.out.cell (World.block_lt_of_cell? w _ hx139_0)).trans hx139_0
        replace hx139_1 := (HB.out.cell (World.block_lt_of_cell? w _ hx139_1)).trans hx139_1
        replace hx139_2 := (HB.out.cell (World.block_lt_of_cell? w _ hx139_2)).trans hx139_2
        replace hx139_3 := (HB.out.cell (World.block_lt_of_cell? w _ hx139_3)).trans hx139_3
        replace hx139_4 := (HB.out.cell (World.block_lt_of_cell? w _ hx139_4)).trans hx139_4
        replace hx139_5 := (HB.out.cell (World.block_lt_of_cell? w _ hx139_5)).trans hx139_5
        replace p139 := eq_true p139
        replace q139 := eq_true q139
        have p140 : 0 ≤ (x3_1 : Int) := od_
        have q140 : x3_1 < (l0.length : Int) := od_
        obtain ⟨ad140, e140, hx140_0, hx140_1, hx140_2, hx140_3, hx140_4, hx140_5⟩ := at_T40 HR0.out x3_1 p140 q140
        have hw140_5 := hx140_5
        have hw140_4 := hx140_4
        have hw140_3 := hx140_3
        have hw140_2 := hx140_2
        have hw140_1 := hx140_1
        have hw140_0 := hx140_0
        obtain rfl : ad139 = ad140 := (by injection e140)
        replace hx140_0 := (HB.out.cell (World.block_lt_of_cell? w _ hx140_0)).trans hx140_0
        replace hx140_1 := (HB.out.cell (World.block_lt_of_cell? w _ hx140_1)).trans hx140_1
        replace hx140_2 := (HB.out.cell (World.block_lt_of_cell? w _ hx140_2)).trans hx140_2
        replace hx140_3 := (HB.out.cell (World.block_lt_of_cell? w _ hx140_3)).trans hx140_3
        replace hx140_4 := (HB.out.cell (World.block_lt_of_cell? w _ hx140_4)).trans hx140_4
        replace hx140_5 := (HB.out.cell (World.block_lt_of_cell? w _ hx140_5)).trans hx140_5
        replace p140 := eq_true p140
        replace q140 := eq_true q140
        refine start_ (n := 24) (S := fun w' => w'.cell? (ad139.add ((x4_3).toNat * 6)) = some (.int .i64 ((rd_T40 l0 x4_3).f0)) ∧ w'.cell? ⟨(ad139.add ((x4_3).toNat * 6)).block, (ad139.add ((x4_3).toNat * 6)).off + 1, none⟩ = some (.int .i64 ((rd_T40 l0 x4_3).f1)) ∧ w'.cell? ⟨(ad139.add ((x4_3).toNat * 6)).block, (ad139.add ((x4_3).toNat * 6)).off + 2, none⟩ = some (.int .i64 ((rd_T40 l0 x4_3).f2)) ∧ w'.cell? ⟨(ad139.add ((x4_3).toNat * 6)).block, (ad139.add ((x4_3).toNat * 6)).off + 3, none⟩ = some (.int .i64 ((rd_T40 l0 x4_3).f3)) ∧ w'.cell? ⟨(ad139.add ((x4_3).toNat * 6)).block, (ad139.add ((x4_3).toNat * 6)).off + 4, none⟩ = some (.string ((rd_T40 l0 x4_3).f4)) ∧ w'.cell? ⟨(ad139.add ((x4_3).toNat * 6)).block, (ad139.add ((x4_3).toNat * 6)).off + 5, none⟩ = some (.int .i64 ((rd_T40 l0 x4_3).f5)) ∧ w'.cell? (ad139.add ((x3_1).toNat * 6)) = some (.int .i64 ((rd_T40 l0 x3_1).f0)) ∧ w'.cell? ⟨(ad139.add ((x3_1).toNat * 6)).block, (ad139.add ((x3_1).toNat * 6)).off + 1, none⟩ = some (.int .i64 ((rd_T40 l0 x3_1).f1)) ∧ w'.cell? ⟨(ad139.add ((x3_1).toNat * 6)).block, (ad139.add ((x3_1).toNat * 6)).off + 2, none⟩ = some (.int .i64 ((rd_T40 l0 x3_1).f2)) ∧ w'.cell? ⟨(ad139.add ((x3_1).toNat * 6)).block, (ad139.add ((x3_1).toNat * 6)).off + 3, none⟩ = some (.int .i64 ((rd_T40 l0 x3_1).f3)) ∧ w'.cell? ⟨(ad139.add ((x3_1).toNat * 6)).block, (ad139.add ((x3_1).toNat * 6)).off + 4, none⟩ = some (.string ((rd_T40 l0 x3_1).f4)) ∧ w'.cell? ⟨(ad139.add ((x3_1).toNat * 6)).block, (ad139.add ((x3_1).toNat * 6)).off + 5, none⟩ = some (.int .i64 ((rd_T40 l0 x3_1).f5))) (ds := []) (msk 0 24) (by kernel_rfl) rfl rfl ⟨((HB.out.cell (World.block_lt_of_cell? w _ hw139_0)).trans hw139_0), ((HB.out.cell (World.block_lt_of_cell? w _ hw139_1)).trans hw139_1), ((HB.out.cell (World.block_lt_of_cell? w _ hw139_2)).trans hw139_2), ((HB.out.cell (World.block_lt_of_cell? w _ hw139_3)).trans hw139_3), ((HB.out.cell (World.block_lt_of_cell? w _ hw139_4)).trans hw139_4), ((HB.out.cell (World.block_lt_of_cell? w _ hw139_5)).trans hw139_5), ((HB.out.cell (World.block_lt_of_cell? w _ hw140_0)).trans hw140_0), ((HB.out.cell (World.block_lt_of_cell? w _ hw140_1)).trans hw140_1), ((HB.out.cell (World.block_lt_of_cell? w _ hw140_2)).trans hw140_2), ((HB.out.cell (World.block_lt_of_cell? w _ hw140_3)).trans hw140_3), ((HB.out.cell (World.block_lt_of_cell? w _ hw140_4)).trans hw140_4), ((HB.out.cell (World.block_lt_of_cell? w _ hw140_5)).trans hw140_5)⟩ (fun hHeld => ?_); refine with_tabW spec_EventsOK.tab11 spec_EventsOK.bits11 (fun HT_ HW_ => ?_)
        generalize wr.drew = w30 at HB hx139_0 hx139_1 hx139_2 hx139_3 hx139_4 hx139_5 hx140_0 hx140_1 hx140_2 hx140_3 hx140_4 hx140_5 hHeld ⊢
        refine pu_ 0 42 (msk 1 23) HT_.out ?_; refine pu_ 1 43 (msk 2 22) HT_.out ?_; refine pu_ 2 44 (msk 3 21) HT_.out ?_; refine pu_ 3 45 (msk 4 20) HT_.out ?_; refine pu_ 5 47 (mskl 24 4 [5]) HT_.out ?_; refine pu_ 6 48 (mskl 24 4 [5, 6]) HT_.out ?_; refine pu_ 7 49 (mskl 24 4 [5, 6, 7]) HT_.out ?_; refine pu_ 8 50 (mskl 24 4 [5, 6, 7, 8]) HT_.out ?_
        refine tk_ 4 46 (msk 9 15) HT_.out HW_.out hHeld ?_ (hy := by rintro w' ⟨s0, s1, s2, s3, s4, s5, s6, s7, s8, s9, s10, s11⟩; go_simp; with_reducible rfl)
        refine tk_ 9 51 (msk 10 14) HT_.out HW_.out hHeld ?_ (hy := by rintro w' ⟨s0, s1, s2, s3, s4, s5, s6, s7, s8, s9, s10, s11⟩; go_simp; with_reducible rfl)
        refine pu_ 10 52 (msk 11 13) HT_.out ?_; refine pu_ 11 53 (msk 12 12) HT_.out ?_; refine pn_ 12 54 (msk 13 11) HT_.out ?_; refine pn_ 13 55 (msk 14 10) HT_.out ?_; refine pn_ 14 56 (msk 15 9) HT_.out ?_; refine pn_ 15 57 (msk 16 8) HT_.out ?_; refine pn_ 16 58 (msk 17 7) HT_.out ?_; refine pn_ 17 59 (msk 18 6) HT_.out ?_; refine pn_ 18 60 (msk 19 5) HT_.out ?_; refine pn_ 19 61 (msk 20 4) HT_.out ?_; refine pn_ 20 62 (msk 21 3) HT_.out ?_; refine pn_ 21 63 (msk 22 2) HT_.out ?_; refine pn_ 22 64 (msk 23 1) HT_.out ?_; refine pu_ 23 65 (msk 24 0) HT_.out ?_
        refine done_ (done_of HT_.out (by kernel_rfl)) ?_
        try go_wp2
        go_roundg k3
        case measure => have := HK1.out; have := HJ3.out; have := HK3.out; omega
        case rel => exact ⟨(wrap64 (x4_3 + 1)), (by first | rfl | (simp; done) | (simp [*]; done)), H', ⟨by have := HK1.out; have := HJ3.out; have := HK3.out; omega⟩, ⟨by repeat (first | (with_reducible first | exact HB.out | apply below_alloc | apply pw_below_drewN | apply below_drew1) | exact HB.out)⟩⟩
       rw [if_pos c26] at H
       have c26b0 : (((rd_T40 l0 x4_3).f0) == ((rd_T40 l0 x3_1).f0)) = true := beq_iff_eq.mpr c26
       have c26b1 : (((rd_T40 l0 x4_3).f0) != ((rd_T40 l0 x3_1).f0)) = false := bne_eq_false_iff_eq.mpr c26
       clear c26
       by_cases c27 : ((rd_T40 l0 x4_3).f1) ≥ ((rd_T40 l0 x3_1).f1)
       ·rw [if_pos c27] at H
        have c27b0 : decide (((rd_T40 l0 x3_1).f1) ≤ ((rd_T40 l0 x4_3).f1)) = true := decide_eq_true c27
        clear c27
        obtain rfl := Option.some.inj H
        try go_wp2
        have n0_ := Aside0.mk (below_drew1 HB.out)
        clear HB
        have HB := n0_
        clear n0_
        have p139 : 0 ≤ (x4_3 : Int) := od_
        have q139 : x4_3 < (l0.length : Int) := od_
        obtain ⟨ad139, e139, hx139_0, hx139_1, hx139_2, hx139_3, hx139_4, hx139_5⟩ := at_T40 HR0.out x4_3 p139 q139
        have hw139_5 := hx139_5
        have hw139_4 := hx139_4
        have hw139_3 := hx139_3
        have hw139_2 := hx139_2
        have hw139_1 := hx139_1
        have hw139_0 := hx139_0
        cases e139
        replace hx139_0 := (HB.out.cell (World.block_lt_of_cell? w _ hx139_0)).trans hx139_0
        replace hx139_1 := (HB.out.cell (World.block_lt_of_cell? w _ hx139_1)).trans hx139_1
        replace hx139_2 := (HB.out.cell (World.block_lt_of_cell? w _ hx139_2)).trans hx139_2
        replace hx139_3 := (HB.out.cell (World.block_lt_of_cell? w _ hx139_3)).trans hx139_3
        replace hx139_4 := (HB.out.cell (World.block_lt_of_cell? w _ hx139_4)).trans hx139_4
        replace hx139_5 := (HB.out.cell (World.block_lt_of_cell? w _ hx139_5)).trans hx139_5
        replace p139 := eq_true p139
        replace q139 := eq_true q139
        have p140 : 0 ≤ (x3_1 : Int) := od_
        have q140 : x3_1 < (l0.length : Int) := od_
        obtain ⟨ad140, e140, hx140_0, hx140_1, hx140_2, hx140_3, hx140_4, hx140_5⟩ := at_T40 HR0.out x3_1 p140 q140
        have hw140_5 := hx140_5
        have hw140_4 := hx140_4
        have hw140_3 := hx140_3
        have hw140_2 := hx140_2
        have hw140_1 := hx140_1
        have hw140_0 := hx140_0
        obtain rfl : ad139 = ad140 := (by injection e140)
        replace hx140_0 := (HB.out.cell (World.block_lt_of_cell? w _ hx140_0)).trans hx140_0
        replace hx140_1 := (HB.out.cell (World.block_lt_of_cell? w _ hx140_1)).trans hx140_1
        replace hx140_2 := (HB.out.cell (World.block_lt_of_cell? w _ hx140_2)).trans hx140_2
        replace hx140_3 := (HB.out.cell (World.block_lt_of_cell? w _ hx140_3)).trans hx140_3
        replace hx140_4 := (HB.out.cell (World.block_lt_of_cell? w _ hx140_4)).trans hx140_4
        replace hx140_5 := (HB.out.cell (World.block_lt_of_cell? w _ hx140_5)).trans hx140_5
        replace p140 := eq_true p140
        replace q140 := eq_true q140
        have p141 : 0 ≤ (x4_3 : Int) := od_
        have q141 : x4_3 < (l0.length : Int) := od_
        obtain ⟨ad141, e141, hx141_0, hx141_1, hx141_2, hx141_3, hx141_4, hx141_5⟩ := at_T40 HR0.out x4_3 p141 q141
        have hw141_5 := hx141_5
        have hw141_4 := hx141_4
        have hw141_3 := hx141_3
        have hw141_2 := hx141_2
        have hw141_1 := hx141_1
        have hw141_0 := hx141_0
        obtain rfl : ad139 = ad141 := (by injection e141)
        replace hx141_0 := (HB.out.cell (World.block_lt_of_cell? w _ hx141_0)).trans hx141_0
        replace hx141_1 := (HB.out.cell (World.block_lt_of_cell? w _ hx141_1)).trans hx141_1
        replace hx141_2 := (HB.out.cell (World.block_lt_of_cell? w _ hx141_2)).trans hx141_2
        replace hx141_3 := (HB.out.cell (World.block_lt_of_cell? w _ hx141_3)).trans hx141_3
        replace hx141_4 := (HB.out.cell (World.block_lt_of_cell? w _ hx141_4)).trans hx141_4
        replace hx141_5 := (HB.out.cell (World.block_lt_of_cell? w _ hx141_5)).trans hx141_5
        replace p141 := eq_true p141
        replace q141 := eq_true q141
        have p142 : 0 ≤ (x3_1 : Int) := od_
        have q142 : x3_1 < (l0.length : Int) := od_
        obtain ⟨ad142, e142, hx142_0, hx142_1, hx142_2, hx142_3, hx142_4, hx142_5⟩ := at_T40 HR0.out x3_1 p142 q142
        have hw142_5 := hx142_5
        have hw142_4 := hx142_4
        have hw142_3 := hx142_3
        have hw142_2 := hx142_2
        have hw142_1 := hx142_1
        have hw142_0 := hx142_0
        obtain rfl : ad139 = ad142 := (by injection e142)
        replace hx142_0 := (HB.out.cell (World.block_lt_of_cell? w _ hx142_0)).trans hx142_0
        replace hx142_1 := (HB.out.cell (World.block_lt_of_cell? w _ hx142_1)).trans hx142_1
        replace hx142_2 := (HB.out.cell (World.block_lt_of_cell? w _ hx142_2)).trans hx142_2
        replace hx142_3 := (HB.out.cell (World.block_lt_of_cell? w _ hx142_3)).trans hx142_3
        replace hx142_4 := (HB.out.cell (World.block_lt_of_cell? w _ hx142_4)).trans hx142_4
        replace hx142_5 := (HB.out.cell (World.block_lt_of_cell? w _ hx142_5)).trans hx142_5
        replace p142 := eq_true p142
        replace q142 := eq_true q142
        refine start_ (n := 24) (S := fun w' => w'.cell? (ad139.add ((x4_3).toNat * 6)) = some (.int .i64 ((rd_T40 l0 x4_3).f0)) ∧ w'.cell? ⟨(ad139.add ((x4_3).toNat * 6)).block, (ad139.add ((x4_3).toNat * 6)).off + 1, none⟩ = some (.int .i64 ((rd_T40 l0 x4_3).f1)) ∧ w'.cell? ⟨(ad139.add ((x4_3).toNat * 6)).block, (ad139.add ((x4_3).toNat * 6)).off + 2, none⟩ = some (.int .i64 ((rd_T40 l0 x4_3).f2)) ∧ w'.cell? ⟨(ad139.add ((x4_3).toNat * 6)).block, (ad139.add ((x4_3).toNat * 6)).off + 3, none⟩ = some (.int .i64 ((rd_T40 l0 x4_3).f3)) ∧ w'.cell? ⟨(ad139.add ((x4_3).toNat * 6)).block, (ad139.add ((x4_3).toNat * 6)).off + 4, none⟩ = some (.string ((rd_T40 l0 x4_3).f4)) ∧ w'.cell? ⟨(ad139.add ((x4_3).toNat * 6)).block, (ad139.add ((x4_3).toNat * 6)).off + 5, none⟩ = some (.int .i64 ((rd_T40 l0 x4_3).f5)) ∧ w'.cell? (ad139.add ((x3_1).toNat * 6)) = some (.int .i64 ((rd_T40 l0 x3_1).f0)) ∧ w'.cell? ⟨(ad139.add ((x3_1).toNat * 6)).block, (ad139.add ((x3_1).toNat * 6)).off + 1, none⟩ = some (.int .i64 ((rd_T40 l0 x3_1).f1)) ∧ w'.cell? ⟨(ad139.add ((x3_1).toNat * 6)).block, (ad139.add ((x3_1).toNat * 6)).off + 2, none⟩ = some (.int .i64 ((rd_T40 l0 x3_1).f2)) ∧ w'.cell? ⟨(ad139.add ((x3_1).toNat * 6)).block, (ad139.add ((x3_1).toNat * 6)).off + 3, none⟩ = some (.int .i64 ((rd_T40 l0 x3_1).f3)) ∧ w'.cell? ⟨(ad139.add ((x3_1).toNat * 6)).block, (ad139.add ((x3_1).toNat * 6)).off + 4, none⟩ = some (.string ((rd_T40 l0 x3_1).f4)) ∧ w'.cell? ⟨(ad139.add ((x3_1).toNat * 6)).block, (ad139.add ((x3_1).toNat * 6)).off + 5, none⟩ = some (.int .i64 ((rd_T40 l0 x3_1).f5)) ∧ w'.cell? (ad139.add ((x4_3).toNat * 6)) = some (.int .i64 ((rd_T40 l0 x4_3).f0)) ∧ w'.cell? ⟨(ad139.add ((x4_3).toNat * 6)).block, (ad139.add ((x4_3).toNat * 6)).off + 1, none⟩ = some (.int .i64 ((rd_T40 l0 x4_3).f1)) ∧ w'.cell? ⟨(ad139.add ((x4_3).toNat * 6)).block, (ad139.add ((x4_3).toNat * 6)).off + 2, none⟩ = some (.int .i64 ((rd_T40 l0 x4_3).f2)) ∧ w'.cell? ⟨(ad139.add ((x4_3).toNat * 6)).block, (ad139.add ((x4_3).toNat * 6)).off + 3, none⟩ = some (.int .i64 ((rd_T40 l0 x4_3).f3)) ∧ w'.cell? ⟨(ad139.add ((x4_3).toNat * 6)).block, (ad139.add ((x4_3).toNat * 6)).off + 4, none⟩ = some (.string ((rd_T40 l0 x4_3).f4)) ∧ w'.cell? ⟨(ad139.add ((x4_3).toNat * 6)).block, (ad139.add ((x4_3).toNat * 6)).off + 5, none⟩ = some (.int .i64 ((rd_T40 l0 x4_3).f5)) ∧ w'.cell? (ad139.add ((x3_1).toNat * 6)) = some (.int .i64 ((rd_T40 l0 x3_1).f0)) ∧ w'.cell? ⟨(ad139.add ((x3_1).toNat * 6)).block, (ad139.add ((x3_1).toNat * 6)).off + 1, none⟩ = some (.int .i64 ((rd_T40 l0 x3_1).f1)) ∧ w'.cell? ⟨(ad139.add ((x3_1).toNat * 6)).block, (ad139.add ((x3_1).toNat * 6)).off + 2, none⟩ = some (.int .i64 ((rd_T40 l0 x3_1).f2)) ∧ w'.cell? ⟨(ad139.add ((x3_1).toNat * 6)).block, (ad139.add ((x3_1).toNat * 6)).off + 3, none⟩ = some (.int .i64 ((rd_T40 l0 x3_1).f3)) ∧ w'.cell? ⟨(ad139.add ((x3_1).toNat * 6)).block, (ad139.add ((x3_1).toNat * 6)).off + 4, none⟩ = some (.string ((rd_T40 l0 x3_1).f4)) ∧ w'.cell? ⟨(ad139.add ((x3_1).toNat * 6)).block, (ad139.add ((x3_1).toNat * 6)).off + 5, none⟩ = some (.int .i64 ((rd_T40 l0 x3_1).f5))) (ds := []) (msk 0 24) (by kernel_rfl) rfl rfl ⟨((HB.out.cell (World.block_lt_of_cell? w _ hw139_0)).trans hw139_0), ((HB.out.cell (World.block_lt_of_cell? w _ hw139_1)).trans hw139_1), ((HB.out.cell (World.block_lt_of_cell? w _ hw139_2)).trans hw139_2), ((HB.out.cell (World.block_lt_of_cell? w _ hw139_3)).trans hw139_3), ((HB.out.cell (World.block_lt_of_cell? w _ hw139_4)).trans hw139_4), ((HB.out.cell (World.block_lt_of_cell? w _ hw139_5)).trans hw139_5), ((HB.out.cell (World.block_lt_of_cell? w _ hw140_0)).trans hw140_0), ((HB.out.cell (World.block_lt_of_cell? w _ hw140_1)).trans hw140_1), ((HB.out.cell (World.block_lt_of_cell? w _ hw140_2)).trans hw140_2), ((HB.out.cell (World.block_lt_of_cell? w _ hw140_3)).trans hw140_3), ((HB.out.cell (World.block_lt_of_cell? w _ hw140_4)).trans hw140_4), ((HB.out.cell (World.block_lt_of_cell? w _ hw140_5)).trans hw140_5), ((HB.out.cell (World.block_lt_of_cell? w _ hw141_0)).trans hw141_0), ((HB.out.cell (World.block_lt_of_cell? w _ hw141_1)).trans hw141_1), ((HB.out.cell (World.block_lt_of_cell? w _ hw141_2)).trans hw141_2), ((HB.out.cell (World.block_lt_of_cell? w _ hw141_3)).trans hw141_3), ((HB.out.cell (World.block_lt_of_cell? w _ hw141_4)).trans hw141_4), ((HB.out.cell (World.block_lt_of_cell? w _ hw141_5)).trans hw141_5), ((HB.out.cell (World.block_lt_of_cell? w _ hw142_0)).trans hw142_0), ((HB.out.cell (World.block_lt_of_cell? w _ hw142_1)).trans hw142_1), ((HB.out.cell (World.block_lt_of_cell? w _ hw142_2)).trans hw142_2), ((HB.out.cell (World.block_lt_of_cell? w _ hw142_3)).trans hw142_3), ((HB.out.cell (World.block_lt_of_cell? w _ hw142_4)).trans hw142_4), ((HB.out.cell (World.block_lt_of_cell? w _ hw142_5)).trans hw142_5)⟩ (fun hHeld => ?_); refine with_tabW spec_EventsOK.tab11 spec_EventsOK.bits11 (fun HT_ HW_ => ?_)
        generalize wr.drew = w28 at HB hx139_0 hx139_1 hx139_2 hx139_3 hx139_4 hx139_5 hx140_0 hx140_1 hx140_2 hx140_3 hx140_4 hx140_5 hx141_0 hx141_1 hx141_2 hx141_3 hx141_4 hx141_5 hx142_0 hx142_1 hx142_2 hx142_3 hx142_4 hx142_5 hHeld ⊢
        refine pu_ 0 42 (msk 1 23) HT_.out ?_; refine pu_ 1 43 (msk 2 22) HT_.out ?_; refine pu_ 2 44 (msk 3 21) HT_.out ?_; refine pu_ 3 45 (msk 4 20) HT_.out ?_; refine pu_ 5 47 (mskl 24 4 [5]) HT_.out ?_; refine pu_ 6 48 (mskl 24 4 [5, 6]) HT_.out ?_; refine pu_ 7 49 (mskl 24 4 [5, 6, 7]) HT_.out ?_; refine pu_ 8 50 (mskl 24 4 [5, 6, 7, 8]) HT_.out ?_
        refine tk_ 4 46 (msk 9 15) HT_.out HW_.out hHeld ?_ (hy := by rintro w' ⟨s0, s1, s2, s3, s4, s5, s6, s7, s8, s9, s10, s11, s12, s13, s14, s15, s16, s17, s18, s19, s20, s21, s22, s23⟩; go_simp; with_reducible rfl)
        refine tk_ 9 51 (msk 10 14) HT_.out HW_.out hHeld ?_ (hy := by rintro w' ⟨s0, s1, s2, s3, s4, s5, s6, s7, s8, s9, s10, s11, s12, s13, s14, s15, s16, s17, s18, s19, s20, s21, s22, s23⟩; go_simp; with_reducible rfl)
        refine pu_ 10 52 (msk 11 13) HT_.out ?_; refine pu_ 11 53 (msk 12 12) HT_.out ?_; refine pu_ 12 54 (msk 13 11) HT_.out ?_; refine pu_ 13 55 (msk 14 10) HT_.out ?_; refine pu_ 14 56 (msk 15 9) HT_.out ?_; refine pu_ 15 57 (msk 16 8) HT_.out ?_; refine pu_ 17 59 (mskl 24 16 [17]) HT_.out ?_; refine pu_ 18 60 (mskl 24 16 [17, 18]) HT_.out ?_; refine pu_ 19 61 (mskl 24 16 [17, 18, 19]) HT_.out ?_; refine pu_ 20 62 (mskl 24 16 [17, 18, 19, 20]) HT_.out ?_
        refine tk_ 16 58 (msk 21 3) HT_.out HW_.out hHeld ?_ (hy := by rintro w' ⟨s0, s1, s2, s3, s4, s5, s6, s7, s8, s9, s10, s11, s12, s13, s14, s15, s16, s17, s18, s19, s20, s21, s22, s23⟩; go_simp; with_reducible rfl)
        refine tk_ 21 63 (msk 22 2) HT_.out HW_.out hHeld ?_ (hy := by rintro w' ⟨s0, s1, s2, s3, s4, s5, s6, s7, s8, s9, s10, s11, s12, s13, s14, s15, s16, s17, s18, s19, s20, s21, s22, s23⟩; go_simp; with_reducible rfl)
        refine pu_ 22 64 (msk 23 1) HT_.out ?_; refine pu_ 23 65 (msk 24 0) HT_.out ?_
        refine done_ (done_of HT_.out (by kernel_rfl)) ?_
        try go_wp2
        go_ret
        exact ⟨by first | rfl | (simp [errW_none, errW_some] <;> rfl) | (simp [*, errW_none, errW_some] <;> rfl), by repeat (first | (with_reducible first | exact HB.out | apply below_alloc | apply pw_below_drewN | apply below_drew1) | exact HB.out)⟩
       rw [if_neg c27] at H
       have c27b0 : decide (((rd_T40 l0 x3_1).f1) ≤ ((rd_T40 l0 x4_3).f1)) = false := decide_eq_false c27
       clear c27
       have H' := Aside0.mk H
       clear H
       try go_wp2
       have n0_ := Aside0.mk (below_drew1 HB.out)
       clear HB
       have HB := n0_
       clear n0_
       have p139 : 0 ≤ (x4_3 : Int) := od_
       have q139 : x4_3 < (l0.length : Int) := od_
       obtain ⟨ad139, e139, hx139_0, hx139_1, hx139_2, hx139_3, hx139_4, hx139_5⟩ := at_T40 HR0.out x4_3 p139 q139
       have hw139_5 := hx139_5
       have hw139_4 := hx139_4
       have hw139_3 := hx139_3
       have hw139_2 := hx139_2
       have hw139_1 := hx139_1
       have hw139_0 := hx139_0
       cases e139
       replace hx139_0 := (HB.out.cell (World.block_lt_of_cell? w _ hx139_0)).trans hx139_0
       replace hx139_1 := (HB.out.cell (World.block_lt_of_cell? w _ hx139_1)).trans hx139_1
       replace hx139_2 := (HB.out.cell (World.block_lt_of_cell? w _ hx139_2)).trans hx139_2
       replace hx139_3 := (HB.out.cell (World.block_lt_of_cell? w _ hx139_3)).trans hx139_3
       replace hx139_4 := (HB.out.cell (World.block_lt_of_cell? w _ hx139_4)).trans hx139_4
       replace hx139_5 := (HB.out.cell (World.block_lt_of_cell? w _ hx139_5)).trans hx139_5
       replace p139 := eq_true p139
       replace q139 := eq_true q139
       have p140 : 0 ≤ (x3_1 : Int) := od_
       have q140 : x3_1 < (l0.length : Int) := od_
       obtain ⟨ad140, e140, hx140_0, hx140_1, hx140_2, hx140_3, hx140_4, hx140_5⟩ := at_T40 HR0.out x3_1 p140 q140
       have hw140_5 := hx140_5
       have hw140_4 := hx140_4
       have hw140_3 := hx140_3
       have hw140_2 := hx140_2
       have hw140_1 := hx140_1
       have hw140_0 := hx140_0
       obtain rfl : ad139 = ad140 := (by injection e140)
       replace hx140_0 := (HB.out.cell (World.block_lt_of_cell? w _ hx140_0)).trans hx140_0
       replace hx140_1 := (HB.out.cell (World.block_lt_of_cell? w _ hx140_1)).trans hx140_1
       replace hx140_2 := (HB.out.cell (World.block_lt_of_cell? w _ hx140_2)).trans hx140_2
       replace hx140_3 := (HB.out.cell (World.block_lt_of_cell? w _ hx140_3)).trans hx140_3
       replace hx140_4 := (HB.out.cell (World.block_lt_of_cell? w _ hx140_4)).trans hx140_4
       replace hx140_5 := (HB.out.cell (World.block_lt_of_cell? w _ hx140_5)).trans hx140_5
       replace p140 := eq_true p140
       replace q140 := eq_true q140
       have p141 : 0 ≤ (x4_3 : Int) := od_
       have q141 : x4_3 < (l0.length : Int) := od_
       obtain ⟨ad141, e141, hx141_0, hx141_1, hx141_2, hx141_3, hx141_4, hx141_5⟩ := at_T40 HR0.out x4_3 p141 q141
       have hw141_5 := hx141_5
       have hw141_4 := hx141_4
       have hw141_3 := hx141_3
       have hw141_2 := hx141_2
       have hw141_1 := hx141_1
       have hw141_0 := hx141_0
       obtain rfl : ad139 = ad141 := (by injection e141)
       replace hx141_0 := (HB.out.cell (World.block_lt_of_cell? w _ hx141_0)).trans hx141_0
       replace hx141_1 := (HB.out.cell (World.block_lt_of_cell? w _ hx141_1)).trans hx141_1
       replace hx141_2 := (HB.out.cell (World.block_lt_of_cell? w _ hx141_2)).trans hx141_2
       replace hx141_3 := (HB.out.cell (World.block_lt_of_cell? w _ hx141_3)).trans hx141_3
       replace hx141_4 := (HB.out.cell (World.block_lt_of_cell? w _ hx141_4)).trans hx141_4
       replace hx141_5 := (HB.out.cell (World.block_lt_of_cell? w _ hx141_5)).trans hx141_5
       replace p141 := eq_true p141
       replace q141 := eq_true q141
       have p142 : 0 ≤ (x3_1 : Int) := od_
       have q142 : x3_1 < (l0.length : Int) := od_
       obtain ⟨ad142, e142, hx142_0, hx142_1, hx142_2, hx142_3, hx142_4, hx142_5⟩ := at_T40 HR0.out x3_1 p142 q142
       have hw142_5 := hx142_5
       have hw142_4 := hx142_4
       have hw142_3 := hx142_3
       have hw142_2 := hx142_2
       have hw142_1 := hx142_1
       have hw142_0 := hx142_0
       obtain rfl : ad139 = ad142 := (by injection e142)
       replace hx142_0 := (HB.out.cell (World.block_lt_of_cell? w _ hx142_0)).trans hx142_0
       replace hx142_1 := (HB.out.cell (World.block_lt_of_cell? w _ hx142_1)).trans hx142_1
       replace hx142_2 := (HB.out.cell (World.block_lt_of_cell? w _ hx142_2)).trans hx142_2
       replace hx142_3 := (HB.out.cell (World.block_lt_of_cell? w _ hx142_3)).trans hx142_3
       replace hx142_4 := (HB.out.cell (World.block_lt_of_cell? w _ hx142_4)).trans hx142_4
       replace hx142_5 := (HB.out.cell (World.block_lt_of_cell? w _ hx142_5)).trans hx142_5
       replace p142 := eq_true p142
       replace q142 := eq_true q142
       refine start_ (n := 24) (S := fun w' => w'.cell? (ad139.add ((x4_3).toNat * 6)) = some (.int .i64 ((rd_T40 l0 x4_3).f0)) ∧ w'.cell? ⟨(ad139.add ((x4_3).toNat * 6)).block, (ad139.add ((x4_3).toNat * 6)).off + 1, none⟩ = some (.int .i64 ((rd_T40 l0 x4_3).f1)) ∧ w'.cell? ⟨(ad139.add ((x4_3).toNat * 6)).block, (ad139.add ((x4_3).toNat * 6)).off + 2, none⟩ = some (.int .i64 ((rd_T40 l0 x4_3).f2)) ∧ w'.cell? ⟨(ad139.add ((x4_3).toNat * 6)).block, (ad139.add ((x4_3).toNat * 6)).off + 3, none⟩ = some (.int .i64 ((rd_T40 l0 x4_3).f3)) ∧ w'.cell? ⟨(ad139.add ((x4_3).toNat * 6)).block, (ad139.add ((x4_3).toNat * 6)).off + 4, none⟩ = some (.string ((rd_T40 l0 x4_3).f4)) ∧ w'.cell? ⟨(ad139.add ((x4_3).toNat * 6)).block, (ad139.add ((x4_3).toNat * 6)).off + 5, none⟩ = some (.int .i64 ((rd_T40 l0 x4_3).f5)) ∧ w'.cell? (ad139.add ((x3_1).toNat * 6)) = some (.int .i64 ((rd_T40 l0 x3_1).f0)) ∧ w'.cell? ⟨(ad139.add ((x3_1).toNat * 6)).block, (ad139.add ((x3_1).toNat * 6)).off + 1, none⟩ = some (.int .i64 ((rd_T40 l0 x3_1).f1)) ∧ w'.cell? ⟨(ad139.add ((x3_1).toNat * 6)).block, (ad139.add ((x3_1).toNat * 6)).off + 2, none⟩ = some (.int .i64 ((rd_T40 l0 x3_1).f2)) ∧ w'.cell? ⟨(ad139.add ((x3_1).toNat * 6)).block, (ad139.add ((x3_1).toNat * 6)).off + 3, none⟩ = some (.int .i64 ((rd_T40 l0 x3_1).f3)) ∧ w'.cell? ⟨(ad139.add ((x3_1).toNat * 6)).block, (ad139.add ((x3_1).toNat * 6)).off + 4, none⟩ = some (.string ((rd_T40 l0 x3_1).f4)) ∧ w'.cell? ⟨(ad139.add ((x3_1).toNat * 6)).block, (ad139.add ((x3_1).toNat * 6)).off + 5, none⟩ = some (.int .i64 ((rd_T40 l0 x3_1).f5)) ∧ w'.cell? (ad139.add ((x4_3).toNat * 6)) = some (.int .i64 ((rd_T40 l0 x4_3).f0)) ∧ w'.cell? ⟨(ad139.add ((x4_3).toNat * 6)).block, (ad139.add ((x4_3).toNat * 6)).off + 1, none⟩ = some (.int .i64 ((rd_T40 l0 x4_3).f1)) ∧ w'.cell? ⟨(ad139.add ((x4_3).toNat * 6)).block, (ad139.add ((x4_3).toNat * 6)).off + 2, none⟩ = some (.int .i64 ((rd_T40 l0 x4_3).f2)) ∧ w'.cell? ⟨(ad139.add ((x4_3).toNat * 6)).block, (ad139.add ((x4_3).toNat * 6)).off + 3, none⟩ = some (.int .i64 ((rd_T40 l0 x4_3).f3)) ∧ w'.cell? ⟨(ad139.add ((x4_3).toNat * 6)).block, (ad139.add ((x4_3).toNat * 6)).off + 4, none⟩ = some (.string ((rd_T40 l0 x4_3).f4)) ∧ w'.cell? ⟨(ad139.add ((x4_3).toNat * 6)).block, (ad139.add ((x4_3).toNat * 6)).off + 5, none⟩ = some (.int .i64 ((rd_T40 l0 x4_3).f5)) ∧ w'.cell? (ad139.add ((x3_1).toNat * 6)) = some (.int .i64 ((rd_T40 l0 x3_1).f0)) ∧ w'.cell? ⟨(ad139.add ((x3_1).toNat * 6)).block, (ad139.add ((x3_1).toNat * 6)).off + 1, none⟩ = some (.int .i64 ((rd_T40 l0 x3_1).f1)) ∧ w'.cell? ⟨(ad139.add ((x3_1).toNat * 6)).block, (ad139.add ((x3_1).toNat * 6)).off + 2, none⟩ = some (.int .i64 ((rd_T40 l0 x3_1).f2)) ∧ w'.cell? ⟨(ad139.add ((x3_1).toNat * 6)).block, (ad139.add ((x3_1).toNat * 6)).off + 3, none⟩ = some (.int .i64 ((rd_T40 l0 x3_1).f3)) ∧ w'.cell? ⟨(ad139.add ((x3_1).toNat * 6)).block, (ad139.add ((x3_1).toNat * 6)).off + 4, none⟩ = some (.string ((rd_T40 l0 x3_1).f4)) ∧ w'.cell? ⟨(ad139.add ((x3_1).toNat * 6)).block, (ad139.add ((x3_1).toNat * 6)).off + 5, none⟩ = some (.int .i64 ((rd_T40 l0 x3_1).f5))) (ds := []) (msk 0 24) (by kernel_rfl) rfl rfl ⟨((HB.out.cell (World.block_lt_of_cell? w _ hw139_0)).trans hw139_0), ((HB.out.cell (World.block_lt_of_cell? w _ hw139_1)).trans hw139_1), ((HB.out.cell (World.block_lt_of_cell? w _ hw139_2)).trans hw139_2), ((HB.out.cell (World.block_lt_of_cell? w _ hw139_3)).trans hw139_3), ((HB.out.cell (World.block_lt_of_cell? w _ hw139_4)).trans hw139_4), ((HB.out.cell (World.block_lt_of_cell? w _ hw139_5)).trans hw139_5), ((HB.out.cell (World.block_lt_of_cell? w _ hw140_0)).trans hw140_0), ((HB.out.cell (World.block_lt_of_cell? w _ hw140_1)).trans hw140_1), ((HB.out.cell (World.block_lt_of_cell? w _ hw140_2)).trans hw140_2), ((HB.out.cell (World.block_lt_of_cell? w _ hw140_3)).trans hw140_3), ((HB.out.cell (World.block_lt_of_cell? w _ hw140_4)).trans hw140_4), ((HB.out.cell (World.block_lt_of_cell? w _ hw140_5)).trans hw140_5), ((HB.out.cell (World.block_lt_of_cell? w _ hw141_0)).trans hw141_0), ((HB.out.cell (World.block_lt_of_cell? w _ hw141_1)).trans hw141_1), ((HB.out.cell (World.block_lt_of_cell? w _ hw141_2)).trans hw141_2), ((HB.out.cell (World.block_lt_of_cell? w _ hw141_3)).trans hw141_3), ((HB.out.cell (World.block_lt_of_cell? w _ hw141_4)).trans hw141_4), ((HB.out.cell (World.block_lt_of_cell? w _ hw141_5)).trans hw141_5), ((HB.out.cell (World.block_lt_of_cell? w _ hw142_0)).trans hw142_0), ((HB.out.cell (World.block_lt_of_cell? w _ hw142_1)).trans hw142_1), ((HB.out.cell (World.block_lt_of_cell? w _ hw142_2)).trans hw142_2), ((HB.out.cell (World.block_lt_of_cell? w _ hw142_3)).trans hw142_3), ((HB.out.cell (World.block_lt_of_cell? w _ hw142_4)).trans hw142_4), ((HB.out.cell (World.block_lt_of_cell? w _ hw142_5)).trans hw142_5)⟩ (fun hHeld => ?_); refine with_tabW spec_EventsOK.tab11 spec_EventsOK.bits11 (fun HT_ HW_ => ?_)
       generalize wr.drew = w29 at HB hx139_0 hx139_1 hx139_2 hx139_3 hx139_4 hx139_5 hx140_0 hx140_1 hx140_2 hx140_3 hx140_4 hx140_5 hx141_0 hx141_1 hx141_2 hx141_3 hx141_4 hx141_5 hx142_0 hx142_1 hx142_2 hx142_3 hx142_4 hx142_5 hHeld ⊢
       refine pu_ 0 42 (msk 1 23) HT_.out ?_; refine pu_ 1 43 (msk 2 22) HT_.out ?_; refine pu_ 2 44 (msk 3 21) HT_.out ?_; refine pu_ 3 45 (msk 4 20) HT_.out ?_; refine pu_ 5 47 (mskl 24 4 [5]) HT_.out ?_; refine pu_ 6 48 (mskl 24 4 [5, 6]) HT_.out ?_; refine pu_ 7 49 (mskl 24 4 [5, 6, 7]) HT_.out ?_; refine pu_ 8 50 (mskl 24 4 [5, 6, 7, 8]) HT_.out ?_
       refine tk_ 4 46 (msk 9 15) HT_.out HW_.out hHeld ?_ (hy := by rintro w' ⟨s0, s1, s2, s3, s4, s5, s6, s7, s8, s9, s10, s11, s12, s13, s14, s15, s16, s17, s18, s19, s20, s21, s22, s23⟩; go_simp; with_reducible rfl)
       refine tk_ 9 51 (msk 10 14) HT_.out HW_.out hHeld ?_ (hy := by rintro w' ⟨s0, s1, s2, s3, s4, s5, s6, s7, s8, s9, s10, s11, s12, s13, s14, s15, s16, s17, s18, s19, s20, s21, s22, s23⟩; go_simp; with_reducible rfl)
       refine pu_ 10 52 (msk 11 13) HT_.out ?_; refine pu_ 11 53 (msk 12 12) HT_.out ?_; refine pu_ 12 54 (msk 13 11) HT_.out ?_; refine pu_ 13 55 (msk 14 10) HT_.out ?_; refine pu_ 14 56 (msk 15 9) HT_.out ?_; refine pu_ 15 57 (msk 16 8) HT_.out ?_; refine pu_ 17 59 (mskl 24 16 [17]) HT_.out ?_; refine pu_ 18 60 (mskl 24 16 [17, 18]) HT_.out ?_; refine pu_ 19 61 (mskl 24 16 [17, 18, 19]) HT_.out ?_; refine pu_ 20 62 (mskl 24 16 [17, 18, 19, 20]) HT_.out ?_
       refine tk_ 16 58 (msk 21 3) HT_.out HW_.out hHeld ?_ (hy := by rintro w' ⟨s0, s1, s2, s3, s4, s5, s6, s7, s8, s9, s10, s11, s12, s13, s14, s15, s16, s17, s18, s19, s20, s21, s22, s23⟩; go_simp; with_reducible rfl)
       refine tk_ 21 63 (msk 22 2) HT_.out HW_.out hHeld ?_ (hy := by rintro w' ⟨s0, s1, s2, s3, s4, s5, s6, s7, s8, s9, s10, s11, s12, s13, s14, s15, s16, s17, s18, s19, s20, s21, s22, s23⟩; go_simp; with_reducible rfl)
       refine pu_ 22 64 (msk 23 1) HT_.out ?_; refine pu_ 23 65 (msk 24 0) HT_.out ?_
       refine done_ (done_of HT_.out (by kernel_rfl)) ?_
       try go_wp2
       go_roundg k3
       case measure => have := HK1.out; have := HJ3.out; have := HK3.out; omega
       case rel => exact ⟨(wrap64 (x4_3 + 1)), (by first | rfl | (simp; done) | (simp [*]; done)), H', ⟨by have := HK1.out; have := HJ3.out; have := HK3.out; omega⟩, ⟨by repeat (first | (with_reducible first | exact HB.out | apply below_alloc | apply pw_below_drewN | apply below_drew1) | exact HB.out)⟩⟩
end Go.Proofs.Ytnpfeigdghecfaa.XFnExactMergeEvents
