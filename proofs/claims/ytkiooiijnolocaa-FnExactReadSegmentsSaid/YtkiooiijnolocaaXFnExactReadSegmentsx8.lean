-- PRINTED by xprint.py (our own program, over the kit's print.py)
import Derived.Test.YtkiooiijnolocaaXFnExactReadSegmentsx0
import Derived.Test.YtkiooiijnolocaaXFnExactReadSegmentsx2
import Derived.Test.YtkiooiijnolocaaXFnExactReadSegmentsx6
import Derived.Test.YtkiooiijnolocaaXFnExactReadSegmentsx7
import Derived.Test.YtkiooiijnolocaaPu
namespace Go.Proofs.Ytkiooiijnolocaa.XFnExactReadSegments
open Go.RowKit Go.Proofs.YtkiooiijnolocaaW.PrintWords Go.Proofs.YtkiooiijnolocaaW.PrintLast Go.Proofs.YtkiooiijnolocaaW.PrintMore Go.Proofs.YtkiooiijnolocaaW.Idx
attribute [local go_sem] max2_int min2_int max_two min_two max_three min_three max_four min_four   -- for this text's walks alone
set_option linter.unusedVariables false
set_option linter.unusedSimpArgs false

/-! ### laws_heldSegmentS: function 16 -/
def laws_heldSegmentS.l0 : Nat → List (S68) → Int → Int → Option (Int)
 | 0, _, _, _ => none
 | k + 1, x0, x1, x5 => if x5 < (x0.length : Int) then (if 0 ≤ x5 then ((laws_markText.f k x1).bind fun t203 => (if ((rd_T68 x0 x5).f0).toList = t203.toList then ((laws_heldStringS.f k ((rd_T68 x0 x5).f1) (wrap64 (x1 + 1))).bind fun t205 => (if t205 < 0 then (some (-1)) else (laws_heldSegmentS.l0 k x0 t205 (wrap64 (x5 + 1))))) else (some (-1)))) else (none)) else (some x1)
def laws_heldSegmentS.f (k : Nat) (l0 : List (S68)) (a1 : Int) : Option (Int) := laws_heldSegmentS.l0 k l0 a1 0
theorem laws_heldSegmentS.mono_l : ∀ k, (∀ y0 y1 y2, LeO (laws_heldSegmentS.l0 k y0 y1 y2) (laws_heldSegmentS.l0 (k + 1) y0 y1 y2))
 | 0 => fun _ _ _ r h => by simp [laws_heldSegmentS.l0] at h
 | k + 1 => by
  have ih0 := laws_heldSegmentS.mono_l k
  ·intro y0 y1 y2
   unfold laws_heldSegmentS.l0
   repeat' first
   | (with_reducible exact ih0 _ _ _)
   | (with_reducible exact laws_heldStringS.mono _ _ _)
   | (with_reducible exact laws_markText.mono _ _)
   | (with_reducible exact LeO.refl _)
   | (with_reducible exact LeO.none _)
   | (with_reducible refine LeO.ite ?_ ?_)
   | (with_reducible refine LeO.bind ?_ (fun _ => ?_))
   | exact ih0 _ _ _
   | exact laws_heldStringS.mono _ _ _
   | exact laws_markText.mono _ _
   | exact LeO.none _
   | refine LeO.ite ?_ ?_
   | refine LeO.bind ?_ (fun _ => ?_)
theorem laws_heldSegmentS.mono : ∀ a0 a1 k, LeO (laws_heldSegmentS.f k a0 a1) (laws_heldSegmentS.f (k + 1) a0 a1) := by
 intro a0 a1 k
 have ih0 := laws_heldSegmentS.mono_l k
 unfold laws_heldSegmentS.f
 repeat' first
   | (with_reducible exact ih0 _ _ _)
   | (with_reducible exact laws_heldStringS.mono _ _ _)
   | (with_reducible exact laws_markText.mono _ _)
   | (with_reducible exact LeO.refl _)
   | (with_reducible exact LeO.none _)
   | (with_reducible refine LeO.ite ?_ ?_)
   | (with_reducible refine LeO.bind ?_ (fun _ => ?_))
   | exact ih0 _ _ _
   | exact laws_heldStringS.mono _ _ _
   | exact laws_markText.mono _ _
   | exact LeO.none _
   | refine LeO.ite ?_ ?_
   | refine LeO.bind ?_ (fun _ => ?_)
def laws_heldSegmentS.T4 : Bool × List (List Nat × List Nat) := (true, [([], []), ([], []), ([0, 1], [0, 1]), ([2], [2]), ([3], [3]), ([], []), ([5], [5]), ([4, 6], [4, 6])])
def laws_heldSegmentS.B4 : List Nat := [0, 0, 3, 7, 15, 0, 32, 127]
theorem laws_heldSegmentS.tab4 : rtab .any (opsOf Try.f16 4) = laws_heldSegmentS.T4 := by kernel_rfl
theorem laws_heldSegmentS.bits4 : waitsOk laws_heldSegmentS.T4.2 laws_heldSegmentS.B4 = true := by kernel_rfl
set_option maxHeartbeats 8000000 in
set_option maxRecDepth 100000 in
theorem laws_heldSegmentS.calls (k : Nat) (A0 : Option Addr) (c0 : Nat) (l0 : List (S68)) (a1 : Int) (r : Int) (w : World) (hr0 : Kd.C k68 w A0 l0.length l0) (hc0 : l0.length ≤ c0) (h : laws_heldSegmentS.f k l0 a1 = some r) :
  Calls Try.prog 16 #[.slice A0 l0.length c0, .int .i64 a1] w fun e w' => e = .returned (.int .i64 r) ∧ Below w.heap.size w w' := by
 have HR0 := Aside0.mk hr0
 have HC0 := Aside0.mk hc0
 clear hr0 hc0
 have HB := Aside0.mk (Below.refl w.heap.size w)
 have H : (laws_heldSegmentS.l0 k l0 a1 0) = some r := h
 clear h
 have H' := Aside0.mk H
 clear H
 go_enter Try.func16, Try.ntmps16
 go_wp2
 go_loopg [1, 5] k (fun kq v1 v5 w' => ∃ (x1_1 : Int) (x5_1 : Int), v1 = .int .i64 x1_1 ∧ v5 = .int .i64 x5_1 ∧ Aside0 (laws_heldSegmentS.l0 kq l0 x1_1 x5_1 = some r) ∧ Aside0 (kq ≤ k) ∧ Aside0 (Below w.heap.size w w'))
 case atStart => exact ⟨(a1), (0), (by first | rfl | (simp; done) | (simp [*]; done)), (by first | rfl | (simp; done) | (simp [*]; done)), H', ⟨Nat.le_refl _⟩, ⟨by repeat (first | (with_reducible first | exact HB.out | apply below_alloc | apply pw_below_drewN | apply below_drew1) | exact HB.out)⟩⟩
 case round =>
  clear H'
  (try clear c1); (try clear p2)
  obtain ⟨x1_1, x5_1, rfl, rfl, HA, HK1, HB⟩ := hrel
  cases gk with
  | zero => exact absurd HA.out (by simp [laws_heldSegmentS.l0])
  | succ k1 =>
   have H := HA.out
   clear HA
   simp only [laws_heldSegmentS.l0] at H
   by_cases c3 : x5_1 < (l0.length : Int)
   rotate_left
   ·rw [if_neg c3] at H
    have c3b0 : decide (x5_1 < (l0.length : Int)) = false := decide_eq_false c3
    clear c3
    obtain rfl := Option.some.inj H
    go_wp2
    go_ret
    exact ⟨by first | rfl | (simp [errW_none, errW_some] <;> rfl) | (simp [*, errW_none, errW_some] <;> rfl), by repeat (first | (with_reducible first | exact HB.out | apply below_alloc | apply pw_below_drewN | apply below_drew1) | exact HB.out)⟩

   rw [if_pos c3] at H
   have c3b0 : decide (x5_1 < (l0.length : Int)) = true := decide_eq_true c3
   clear c3
   by_cases c4 : 0 ≤ x5_1
   rotate_left
   ·rw [if_neg c4] at H
    exact absurd H (by simp)
   rw [if_pos c4] at H
   have c4b0 : decide (0 ≤ x5_1) = true := decide_eq_true c4
   clear c4
   replace H := Option.bind_eq_some_iff.mp H
   obtain ⟨t203, A50, H⟩ := H
   replace H : (if ((rd_T68 l0 x5_1).f0).toList = t203.toList then ((laws_heldStringS.f k1 ((rd_T68 l0 x5_1).f1) (wrap64 (x1_1 + 1))).bind fun t205 => (if t205 < 0 then (some (-1)) else (laws_heldSegmentS.l0 k1 l0 t205 (wrap64 (x5_1 + 1))))) else (some (-1))) = some r := H
   have A5 := Aside0.mk A50
   clear A50
   by_cases c6 : ((rd_T68 l0 x5_1).f0).toList = t203.toList
   rotate_left
   ·rw [if_neg c6] at H
    have c6b0 : (((rd_T68 l0 x5_1).f0).toList == t203.toList) = false := beq_eq_false_iff_ne.mpr c6
    have c6b1 : (((rd_T68 l0 x5_1).f0).toList != t203.toList) = true := bne_iff_ne.mpr c6
    obtain rfl := Option.some.inj H
    try go_wp2
    have n0_ := Aside0.mk (below_drew1 HB.out)
    clear HB
    have HB := n0_
    clear n0_
    have p202 : 0 ≤ (x5_1 : Int) := od_
    have q202 : x5_1 < (l0.length : Int) := od_
    obtain ⟨ad202, A202_1, c202_1, e202, hx202_0, hx202_1, hl202_1, hi202_1⟩ := at_T68 HR0.out x5_1 p202 q202
    have hw202_1 := hx202_1
    have hw202_0 := hx202_0
    cases e202
    replace hx202_0 := (HB.out.cell (World.block_lt_of_cell? w _ hx202_0)).trans hx202_0
    replace hx202_1 := (HB.out.cell (World.block_lt_of_cell? w _ hx202_1)).trans hx202_1
    have HR202_1 := Aside0.mk hi202_1
    have HC202_1 := Aside0.mk hl202_1
    clear hi202_1 hl202_1
    replace p202 := eq_true p202
    replace q202 := eq_true q202
    refine start_ (n := 8) (S := fun w' => w'.cell? (ad202.add ((x5_1).toNat * 2)) = some (.string ((rd_T68 l0 x5_1).f0)) ∧ w'.cell? ⟨(ad202.add ((x5_1).toNat * 2)).block, (ad202.add ((x5_1).toNat * 2)).off + 1, none⟩ = some (.slice A202_1 ((rd_T68 l0 x5_1).f1).length c202_1)) (ds := []) (msk 0 8) (by kernel_rfl) rfl rfl ⟨((HB.out.cell (World.block_lt_of_cell? w _ hw202_0)).trans hw202_0), ((HB.out.cell (World.block_lt_of_cell? w _ hw202_1)).trans hw202_1)⟩ (fun hHeld => ?_); refine with_tabW laws_heldSegmentS.tab4 laws_heldSegmentS.bits4 (fun HT_ HW_ => ?_)
    generalize wr.drew = w15 at HB HR202_1 hx202_0 hx202_1 hHeld ⊢
    refine pu_ 0 12 (msk 1 7) HT_.out ?_; refine pu_ 1 13 (msk 2 6) HT_.out ?_; refine pu_ 2 14 (msk 3 5) HT_.out ?_; refine pu_ 3 15 (msk 4 4) HT_.out ?_; refine pu_ 5 17 (mskl 8 4 [5]) HT_.out ?_
    refine tk_ 4 16 (msk 6 2) HT_.out HW_.out hHeld ?_ (hy := by rintro w' ⟨s0, s1⟩; go_simp; with_reducible rfl)
    refine one_ (i := 6) (N := some 18) (msk 7 1) rfl rfl (one_of HT_.out (by kernel_rfl)) (by decide) (fun K hK => ?_)
    refine goes_ Try.func36 (by kernel_rfl) rfl #[.int .i64 x1_1] (by rfl) rfl rfl (by (try simp only [List.map_toArray, List.map_cons, List.map_nil]); first | done | rfl | (simp only [List.length_drop, List.length_take]; rfl)) ?_
    with_reducible refine (laws_markText.calls k1 x1_1 t203 _ A5.out).mono ?_
    rintro e w16 ⟨rfl, hb⟩
    refine ⟨_, rfl, ?_⟩
    have n0_ := Aside0.mk (below_step bl_ hb)
    clear HB
    have HB := n0_
    clear n0_
    (try clear hb)
    (try clear hb2)
    (try clear hk)
    (try clear hi)
    refine hK.out _ _ ⟨((HB.out.cell (World.block_lt_of_cell? w _ hw202_0)).trans hw202_0), ((HB.out.cell (World.block_lt_of_cell? w _ hw202_1)).trans hw202_1)⟩ (fun hHeld => ?_)
    clear hK K
    refine norm_ (a' := ?_) ?_ ?_
    rotate_left
    ·show Act.put _ (some 18) _ = _
     simp only [Act.put, List.setIfInBounds_toArray, List.set_cons_zero, List.set_cons_succ, i64_w, i32_w]
     rfl
    refine pu_ 7 19 (msk 8 0) HT_.out ?_
    refine done_ (done_of HT_.out (by kernel_rfl)) ?_
    try go_wp2
    go_ret
    exact ⟨by first | rfl | (simp [errW_none, errW_some] <;> rfl) | (simp [*, errW_none, errW_some] <;> rfl), by repeat (first | (with_reducible first | exact HB.out | apply below_alloc | apply pw_below_drewN | apply below_drew1) | exact HB.out)⟩
   rw [if_pos c6] at H
   have c6b0 : (((rd_T68 l0 x5_1).f0).toList == t203.toList) = true := beq_iff_eq.mpr c6
   have c6b1 : (((rd_T68 l0 x5_1).f0).toList != t203.toList) = false := bne_eq_false_iff_eq.mpr c6
   clear c6
   replace H := Option.bind_eq_some_iff.mp H
   obtain ⟨t205, A70, H⟩ := H
   replace H : (if t205 < 0 then (some (-1)) else (laws_heldSegmentS.l0 k1 l0 t205 (wrap64 (x5_1 + 1)))) = some r := H
   have A7 := Aside0.mk A70
   clear A70
   by_cases c8 : t205 < 0
   ·rw [if_pos c8] at H
    have c8b0 : decide (t205 < 0) = true := decide_eq_true c8
    clear c8
    obtain rfl := Option.some.inj H
    try go_wp2
    have n0_ := Aside0.mk (below_drew1 HB.out)
    clear HB
    have HB := n0_
    clear n0_
    have p202 : 0 ≤ (x5_1 : Int) := od_
    have q202 : x5_1 < (l0.length : Int) := od_
    obtain ⟨ad202, A202_1, c202_1, e202, hx202_0, hx202_1, hl202_1, hi202_1⟩ := at_T68 HR0.out x5_1 p202 q202
    have hw202_1 := hx202_1
    have hw202_0 := hx202_0
    cases e202
    replace hx202_0 := (HB.out.cell (World.block_lt_of_cell? w _ hx202_0)).trans hx202_0
    replace hx202_1 := (HB.out.cell (World.block_lt_of_cell? w _ hx202_1)).trans hx202_1
    have HR202_1 := Aside0.mk hi202_1
    have HC202_1 := Aside0.mk hl202_1
    clear hi202_1 hl202_1
    replace p202 := eq_true p202
    replace q202 := eq_true q202
    refine start_ (n := 8) (S := fun w' => w'.cell? (ad202.add ((x5_1).toNat * 2)) = some (.string ((rd_T68 l0 x5_1).f0)) ∧ w'.cell? ⟨(ad202.add ((x5_1).toNat * 2)).block, (ad202.add ((x5_1).toNat * 2)).off + 1, none⟩ = some (.slice A202_1 ((rd_T68 l0 x5_1).f1).length c202_1)) (ds := []) (msk 0 8) (by kernel_rfl) rfl rfl ⟨((HB.out.cell (World.block_lt_of_cell? w _ hw202_0)).trans hw202_0), ((HB.out.cell (World.block_lt_of_cell? w _ hw202_1)).trans hw202_1)⟩ (fun hHeld => ?_); refine with_tabW laws_heldSegmentS.tab4 laws_heldSegmentS.bits4 (fun HT_ HW_ => ?_)
    generalize wr.drew = w9 at HB HR202_1 hx202_0 hx202_1 hHeld ⊢
    refine pu_ 0 12 (msk 1 7) HT_.out ?_; refine pu_ 1 13 (msk 2 6) HT_.out ?_; refine pu_ 2 14 (msk 3 5) HT_.out ?_; refine pu_ 3 15 (msk 4 4) HT_.out ?_; refine pu_ 5 17 (mskl 8 4 [5]) HT_.out ?_
    refine tk_ 4 16 (msk 6 2) HT_.out HW_.out hHeld ?_ (hy := by rintro w' ⟨s0, s1⟩; go_simp; with_reducible rfl)
    refine one_ (i := 6) (N := some 18) (msk 7 1) rfl rfl (one_of HT_.out (by kernel_rfl)) (by decide) (fun K hK => ?_)
    refine goes_ Try.func36 (by kernel_rfl) rfl #[.int .i64 x1_1] (by rfl) rfl rfl (by (try simp only [List.map_toArray, List.map_cons, List.map_nil]); first | done | rfl | (simp only [List.length_drop, List.length_take]; rfl)) ?_
    with_reducible refine (laws_markText.calls k1 x1_1 t203 _ A5.out).mono ?_
    rintro e w10 ⟨rfl, hb⟩
    refine ⟨_, rfl, ?_⟩
    have n0_ := Aside0.mk (below_step bl_ hb)
    clear HB
    have HB := n0_
    clear n0_
    (try clear hb)
    (try clear hb2)
    (try clear hk)
    (try clear hi)
    refine hK.out _ _ ⟨((HB.out.cell (World.block_lt_of_cell? w _ hw202_0)).trans hw202_0), ((HB.out.cell (World.block_lt_of_cell? w _ hw202_1)).trans hw202_1)⟩ (fun hHeld => ?_)
    clear hK K
    refine norm_ (a' := ?_) ?_ ?_
    rotate_left
    ·show Act.put _ (some 18) _ = _
     simp only [Act.put, List.setIfInBounds_toArray, List.set_cons_zero, List.set_cons_succ, i64_w, i32_w]
     rfl
    refine pu_ 7 19 (msk 8 0) HT_.out ?_
    refine done_ (done_of HT_.out (by kernel_rfl)) ?_
    have p204 : 0 ≤ (x5_1 : Int) := od_
    have q204 : x5_1 < (l0.length : Int) := od_
    obtain ⟨ad204, A204_1, c204_1, e204, hx204_0, hx204_1, hl204_1, hi204_1⟩ := at_T68 HR0.out x5_1 p204 q204
    obtain rfl : ad202 = ad204 := (by injection e204)
    obtain ⟨rfl, rfl⟩ : A204_1 = A202_1 ∧ c204_1 = c202_1 := (by first | (have h_ := hx204_1.symm.trans hw202_1; simp only [Option.some.injEq, Value.slice.injEq] at h_; exact ⟨h_.1, h_.2.2⟩) | (have h_ := hx204_1.symm.trans hx202_1; simp only [Option.some.injEq, Value.slice.injEq] at h_; exact ⟨h_.1, h_.2.2⟩))
    replace hx204_0 := (HB.out.cell (World.block_lt_of_cell? w _ hx204_0)).trans hx204_0
    replace hx204_1 := (HB.out.cell (World.block_lt_of_cell? w _ hx204_1)).trans hx204_1
    have HR204_1 := Aside0.mk hi204_1
    have HC204_1 := Aside0.mk hl204_1
    clear hi204_1 hl204_1
    replace p204 := eq_true p204
    replace q204 := eq_true q204
    try go_wp2_with (first | ((with_reducible refine gate_callee (f := 38) rfl ?_); refine goesL_ (some 28) rfl rfl Try.func38 (by kernel_rfl) rfl #[.slice A204_1 ((rd_T68 l0 x5_1).f1).length c204_1, .int .i64 (wrap64 (x1_1 + 1))] rfl (by (try simp only [List.map_toArray, List.map_cons, List.map_nil]); first | done | rfl | (simp only [List.length_drop, List.length_take]; rfl)) ?_; (with_reducible refine (laws_heldStringS.calls k1 _ _ ((rd_T68 l0 x5_1).f1) (wrap64 (x1_1 + 1)) t205 _ ?side1 ?side2 A7.out).mono ?_); (case side1 => repeat (first | exact (Kd.C_below HR204_1.out HB.out) | (with_reducible refine Kd.C_alloc ?_ _) | (with_reducible refine Kd.C_drewN ?_ _) | (with_reducible refine Kd.C_drew ?_))); (case side2 => exact HC204_1.out); rintro e w11 ⟨rfl, hb⟩; refine ⟨_, rfl, ?_⟩; have n0_ := Aside0.mk (below_step bl_ hb); clear HB; have HB := n0_; clear n0_; (try clear hb); (try clear hb2); (try clear hk); (try clear hi)))
    go_ret
    exact ⟨by first | rfl | (simp [errW_none, errW_some] <;> rfl) | (simp [*, errW_none, errW_some] <;> rfl), by repeat (first | (with_reducible first | exact HB.out | apply below_alloc | apply pw_below_drewN | apply below_drew1) | exact HB.out)⟩
   rw [if_neg c8] at H
   have c8b0 : decide (t205 < 0) = false := decide_eq_false c8
   clear c8
   have H' := Aside0.mk H
   clear H
   try go_wp2
   have n0_ := Aside0.mk (below_drew1 HB.out)
   clear HB
   have HB := n0_
   clear n0_
   have p202 : 0 ≤ (x5_1 : Int) := od_
   have q202 : x5_1 < (l0.length : Int) := od_
   obtain ⟨ad202, A202_1, c202_1, e202, hx202_0, hx202_1, hl202_1, hi202_1⟩ := at_T68 HR0.out x5_1 p202 q202
   have hw202_1 := hx202_1
   have hw202_0 := hx202_0
   cases e202
   replace hx202_0 := (HB.out.cell (World.block_lt_of_cell? w _ hx202_0)).trans hx202_0
   replace hx202_1 := (HB.out.cell (World.block_lt_of_cell? w _ hx202_1)).trans hx202_1
   have HR202_1 := Aside0.mk hi202_1
   have HC202_1 := Aside0.mk hl202_1
   clear hi202_1 hl202_1
   replace p202 := eq_true p202
   replace q202 := eq_true q202
   refine start_ (n := 8) (S := fun w' => w'.cell? (ad202.add ((x5_1).toNat * 2)) = some (.string ((rd_T68 l0 x5_1).f0)) ∧ w'.cell? ⟨(ad202.add ((x5_1).toNat * 2)).block, (ad202.add ((x5_1).toNat * 2)).off + 1, none⟩ = some (.slice A202_1 ((rd_T68 l0 x5_1).f1).length c202_1)) (ds := []) (msk 0 8) (by kernel_rfl) rfl rfl ⟨((HB.out.cell (World.block_lt_of_cell? w _ hw202_0)).trans hw202_0), ((HB.out.cell (World.block_lt_of_cell? w _ hw202_1)).trans hw202_1)⟩ (fun hHeld => ?_); refine with_tabW laws_heldSegmentS.tab4 laws_heldSegmentS.bits4 (fun HT_ HW_ => ?_)
   generalize wr.drew = w12 at HB HR202_1 hx202_0 hx202_1 hHeld ⊢
   refine pu_ 0 12 (msk 1 7) HT_.out ?_; refine pu_ 1 13 (msk 2 6) HT_.out ?_; refine pu_ 2 14 (msk 3 5) HT_.out ?_; refine pu_ 3 15 (msk 4 4) HT_.out ?_; refine pu_ 5 17 (mskl 8 4 [5]) HT_.out ?_
   refine tk_ 4 16 (msk 6 2) HT_.out HW_.out hHeld ?_ (hy := by rintro w' ⟨s0, s1⟩; go_simp; with_reducible rfl)
   refine one_ (i := 6) (N := some 18) (msk 7 1) rfl rfl (one_of HT_.out (by kernel_rfl)) (by decide) (fun K hK => ?_)
   refine goes_ Try.func36 (by kernel_rfl) rfl #[.int .i64 x1_1] (by rfl) rfl rfl (by (try simp only [List.map_toArray, List.map_cons, List.map_nil]); first | done | rfl | (simp only [List.length_drop, List.length_take]; rfl)) ?_
   with_reducible refine (laws_markText.calls k1 x1_1 t203 _ A5.out).mono ?_
   rintro e w13 ⟨rfl, hb⟩
   refine ⟨_, rfl, ?_⟩
   have n0_ := Aside0.mk (below_step bl_ hb)
   clear HB
   have HB := n0_
   clear n0_
   (try clear hb)
   (try clear hb2)
   (try clear hk)
   (try clear hi)
   refine hK.out _ _ ⟨((HB.out.cell (World.block_lt_of_cell? w _ hw202_0)).trans hw202_0), ((HB.out.cell (World.block_lt_of_cell? w _ hw202_1)).trans hw202_1)⟩ (fun hHeld => ?_)
   clear hK K
   refine norm_ (a' := ?_) ?_ ?_
   rotate_left
   ·show Act.put _ (some 18) _ = _
    simp only [Act.put, List.setIfInBounds_toArray, List.set_cons_zero, List.set_cons_succ, i64_w, i32_w]
    rfl
   refine pu_ 7 19 (msk 8 0) HT_.out ?_
   refine done_ (done_of HT_.out (by kernel_rfl)) ?_
   have p204 : 0 ≤ (x5_1 : Int) := od_
   have q204 : x5_1 < (l0.length : Int) := od_
   obtain ⟨ad204, A204_1, c204_1, e204, hx204_0, hx204_1, hl204_1, hi204_1⟩ := at_T68 HR0.out x5_1 p204 q204
   obtain rfl : ad202 = ad204 := (by injection e204)
   obtain ⟨rfl, rfl⟩ : A204_1 = A202_1 ∧ c204_1 = c202_1 := (by first | (have h_ := hx204_1.symm.trans hw202_1; simp only [Option.some.injEq, Value.slice.injEq] at h_; exact ⟨h_.1, h_.2.2⟩) | (have h_ := hx204_1.symm.trans hx202_1; simp only [Option.some.injEq, Value.slice.injEq] at h_; exact ⟨h_.1, h_.2.2⟩))
   replace hx204_0 := (HB.out.cell (World.block_lt_of_cell? w _ hx204_0)).trans hx204_0
   replace hx204_1 := (HB.out.cell (World.block_lt_of_cell? w _ hx204_1)).trans hx204_1
   have HR204_1 := Aside0.mk hi204_1
   have HC204_1 := Aside0.mk hl204_1
   clear hi204_1 hl204_1
   replace p204 := eq_true p204
   replace q204 := eq_true q204
   try go_wp2_with (first | ((with_reducible refine gate_callee (f := 38) rfl ?_); refine goesL_ (some 28) rfl rfl Try.func38 (by kernel_rfl) rfl #[.slice A204_1 ((rd_T68 l0 x5_1).f1).length c204_1, .int .i64 (wrap64 (x1_1 + 1))] rfl (by (try simp only [List.map_toArray, List.map_cons, List.map_nil]); first | done | rfl | (simp only [List.length_drop, List.length_take]; rfl)) ?_; (with_reducible refine (laws_heldStringS.calls k1 _ _ ((rd_T68 l0 x5_1).f1) (wrap64 (x1_1 + 1)) t205 _ ?side1 ?side2 A7.out).mono ?_); (case side1 => repeat (first | exact (Kd.C_below HR204_1.out HB.out) | (with_reducible refine Kd.C_alloc ?_ _) | (with_reducible refine Kd.C_drewN ?_ _) | (with_reducible refine Kd.C_drew ?_))); (case side2 => exact HC204_1.out); rintro e w14 ⟨rfl, hb⟩; refine ⟨_, rfl, ?_⟩; have n0_ := Aside0.mk (below_step bl_ hb); clear HB; have HB := n0_; clear n0_; (try clear hb); (try clear hb2); (try clear hk); (try clear hi)))
   go_roundg k1
   case measure => have := HK1.out; omega
   case rel => exact ⟨(t205), (wrap64 (x5_1 + 1)), (by first | rfl | (simp; done) | (simp [*]; done)), (by first | rfl | (simp; done) | (simp [*]; done)), H', ⟨by have := HK1.out; omega⟩, ⟨by repeat (first | (with_reducible first | exact HB.out | apply below_alloc | apply pw_below_drewN | apply below_drew1) | exact HB.out)⟩⟩
/-! ### laws_markStringS: function 37 -/
def laws_markStringS.l0 : Nat → List ByteArray → Int → Int → Option (Int × List ByteArray)
 | 0, _, _, _ => none
 | k + 1, x0, x1, x5 => if x5 < (x0.length : Int) then ((laws_markText.f k x1).bind fun t206 => (if 0 ≤ x5 then (laws_markStringS.l0 k (x0.set (x5 : Int).toNat t206) (wrap64 (x1 + 1)) (wrap64 (x5 + 1))) else (none))) else (some (x1, x0))
def laws_markStringS.f (k : Nat) (l0 : List ByteArray) (a1 : Int) : Option (Int × List ByteArray) := laws_markStringS.l0 k l0 a1 0
theorem laws_markStringS.mono_l : ∀ k, (∀ y0 y1 y2, LeO (laws_markStringS.l0 k y0 y1 y2) (laws_markStringS.l0 (k + 1) y0 y1 y2))
 | 0 => fun _ _ _ r h => by simp [laws_markStringS.l0] at h
 | k + 1 => by
  have ih0 := laws_markStringS.mono_l k
  ·intro y0 y1 y2
   unfold laws_markStringS.l0
   repeat' first
   | (with_reducible exact ih0 _ _ _)
   | (with_reducible exact laws_markText.mono _ _)
   | (with_reducible exact LeO.refl _)
   | (with_reducible exact LeO.none _)
   | (with_reducible refine LeO.ite ?_ ?_)
   | (with_reducible refine LeO.bind ?_ (fun _ => ?_))
   | exact ih0 _ _ _
   | exact laws_markText.mono _ _
   | exact LeO.none _
   | refine LeO.ite ?_ ?_
   | refine LeO.bind ?_ (fun _ => ?_)
theorem laws_markStringS.mono : ∀ a0 a1 k, LeO (laws_markStringS.f k a0 a1) (laws_markStringS.f (k + 1) a0 a1) := by
 intro a0 a1 k
 have ih0 := laws_markStringS.mono_l k
 unfold laws_markStringS.f
 repeat' first
   | (with_reducible exact ih0 _ _ _)
   | (with_reducible exact laws_markText.mono _ _)
   | (with_reducible exact LeO.refl _)
   | (with_reducible exact LeO.none _)
   | (with_reducible refine LeO.ite ?_ ?_)
   | (with_reducible refine LeO.bind ?_ (fun _ => ?_))
   | exact ih0 _ _ _
   | exact laws_markText.mono _ _
   | exact LeO.none _
   | refine LeO.ite ?_ ?_
   | refine LeO.bind ?_ (fun _ => ?_)
set_option maxHeartbeats 8000000 in
set_option maxRecDepth 100000 in
theorem laws_markStringS.calls (k : Nat) (P0_ : Nat → Prop) (u9000_ : Value) (l0 : List ByteArray) (a1 : Int) (r1 : Int) (r2 : List ByteArray) (w0 w : World) (hB : Below w0.heap.size w0 w) (ho0 : Kd.R Kd.string 9 w w0.heap.size P0_ u9000_ l0) (h : laws_markStringS.f k l0 a1 = some (r1, r2)) :
  Calls Try.prog 37 #[u9000_, .int .i64 a1] w fun e w' => e = .returned (.int .i64 r1) ∧ Kd.R Kd.string 9 w' w0.heap.size (fun k_ => (P0_ k_ ∨ w.heap.size ≤ k_)) u9000_ r2 ∧ Below w0.heap.size w0 w' ∧ Kept w w' (fun k_ => P0_ k_) := by
 have HO0 := Aside0.mk (show Kd.R Kd.string 9 w w0.heap.size (fun k_ => (P0_ k_ ∨ w.heap.size ≤ k_)) u9000_ l0 from Kd.R_mono ho0 (fun k_ hk => (.inl hk)))
 have HK := Aside0.mk (Kept.refl w (fun k_ => P0_ k_))
 have HW0 := Aside0.mk hB.size
 have HB := Aside0.mk hB
 clear hB
 have H : (laws_markStringS.l0 k l0 a1 0) = some (r1, r2) := h
 clear h
 have H' := Aside0.mk H
 clear H
 go_enter Try.func37, Try.ntmps37
 go_wp2
 go_loopg [1, 5] k (fun kq v1 v5 w' => ∃ (x0_1 : List ByteArray) (x1_1 : Int) (x5_1 : Int), v1 = .int .i64 x1_1 ∧ v5 = .int .i64 x5_1 ∧ Aside0 (laws_markStringS.l0 kq x0_1 x1_1 x5_1 = some (r1, r2)) ∧ Aside0 (kq ≤ k) ∧ Aside0 (Kd.R Kd.string 9 w' w0.heap.size (fun k_ => (P0_ k_ ∨ w.heap.size ≤ k_)) u9000_ x0_1) ∧ Aside0 (Kept w w' (fun k_ => P0_ k_)) ∧ Aside0 (Below w0.heap.size w0 w'))
 case atStart => exact ⟨(l0), (a1), (0), (by first | rfl | (simp; done) | (simp [*]; done)), (by first | rfl | (simp; done) | (simp [*]; done)), H', ⟨Nat.le_refl _⟩, ⟨by (with_reducible repeat (first | apply Kd.R_alloc | apply Kd.R_drewN | apply Kd.R_drew)); exact HO0.out⟩, ⟨by repeat (first | (with_reducible first | exact HK.out | apply Kept.alloc | apply Kept.drewN | apply Kept.drew) | exact HK.out)⟩, ⟨by repeat (first | (with_reducible first | exact HB.out | apply below_alloc | apply pw_below_drewN | apply below_drew1) | exact HB.out)⟩⟩
 case round =>
  clear H'
  try clear p2
  obtain ⟨x0_1, x1_1, x5_1, rfl, rfl, HA, HK1, HO_0, HK, HB⟩ := hrel
  cases gk with
  | zero => exact absurd HA.out (by simp [laws_markStringS.l0])
  | succ k1 =>
   have H := HA.out
   clear HA
   simp only [laws_markStringS.l0] at H
   by_cases c3 : x5_1 < (x0_1.length : Int)
   rotate_left
   ·rw [if_neg c3] at H
    have c3b0 : decide (x5_1 < (x0_1.length : Int)) = false := decide_eq_false c3
    clear c3
    simp only [Option.some.injEq, Prod.mk.injEq] at H
    obtain ⟨rfl, rfl⟩ := H
    obtain ⟨Ao11, co11, eo11⟩ := Kd.R_slice HO_0.out
    subst eo11
    go_wp2
    go_ret
    exact ⟨by first | rfl | (simp [errW_none, errW_some] <;> rfl) | (simp [*, errW_none, errW_some] <;> rfl), by (with_reducible repeat (first | apply Kd.R_alloc | apply Kd.R_drewN | apply Kd.R_drew)); exact HO_0.out, by repeat (first | (with_reducible first | exact HB.out | apply below_alloc | apply pw_below_drewN | apply below_drew1) | exact HB.out), by repeat (first | (with_reducible first | exact HK.out | apply Kept.alloc | apply Kept.drewN | apply Kept.drew) | exact HK.out)⟩

   rw [if_pos c3] at H
   have c3b0 : decide (x5_1 < (x0_1.length : Int)) = true := decide_eq_true c3
   clear c3
   replace H := Option.bind_eq_some_iff.mp H
   obtain ⟨t206, A40, H⟩ := H
   replace H : (if 0 ≤ x5_1 then (laws_markStringS.l0 k1 (x0_1.set (x5_1 : Int).toNat t206) (wrap64 (x1_1 + 1)) (wrap64 (x5_1 + 1))) else (none)) = some (r1, r2) := H
   have A4 := Aside0.mk A40
   clear A40
   by_cases c5 : 0 ≤ x5_1
   rotate_left
   ·rw [if_neg c5] at H
    exact absurd H (by simp)
   rw [if_pos c5] at H
   have c5b0 : decide (0 ≤ x5_1) = true := decide_eq_true c5
   clear c5
   obtain ⟨y207, hy207⟩ : ∃ y_ : List ByteArray, y_ = (x0_1.set (x5_1 : Int).toNat t206) := ⟨_, rfl⟩
   replace H : (laws_markStringS.l0 k1 y207 (wrap64 (x1_1 + 1)) (wrap64 (x5_1 + 1))) = some (r1, r2) := by first | (rw [hy207]; with_reducible exact H) | (have H2_ := (Option.bind_some _ _).symm.trans H; rw [hy207]; with_reducible exact H2_) | (have H2_ := (Option.bind_some _ _).symm.trans H; with_reducible exact H2_) | with_reducible exact H | (rw [hy207]; exact H) | exact H
   have Ny207 := Aside0.mk hy207
   clear hy207
   have H' := Aside0.mk H
   clear H
   obtain ⟨Ao7, co7, eo7⟩ := Kd.R_slice HO_0.out
   subst eo7
   go_wp2_with (first | ((with_reducible refine gate_callee (f := 36) rfl ?_); refine goesL_ (some 15) rfl rfl Try.func36 (by kernel_rfl) rfl #[.int .i64 x1_1] rfl (by (try simp only [List.map_toArray, List.map_cons, List.map_nil]); first | done | rfl | (simp only [List.length_drop, List.length_take]; rfl)) ?_; (with_reducible refine (laws_markText.calls k1 x1_1 t206 _ A4.out).mono ?_); rintro e w8 ⟨rfl, hb⟩; refine ⟨_, rfl, ?_⟩; have n0_ := Aside0.mk (Kd.R_below (by (with_reducible repeat (first | apply Kd.R_alloc | apply Kd.R_drewN | apply Kd.R_drew)); exact HO_0.out) hb); have n1_ := Aside0.mk (Kept.below (S := (fun k_ => P0_ k_)) (by repeat (first | (with_reducible first | exact HK.out | apply Kept.alloc | apply Kept.drewN | apply Kept.drew) | exact HK.out)) hb); have n2_ := Aside0.mk (below_step bl_ hb); clear HO_0; clear HK; clear HB; have HO_0 := n0_; have HK := n1_; have HB := n2_; clear n0_ n1_ n2_; (try clear hb); (try clear hb2); (try clear hk); (try clear hi); have p6 : 0 ≤ (x5_1 : Int) := od_; have q6 : (x5_1 : Int) < ((x0_1.length : Int) : Int) := od_; obtain ⟨go6, co6, eo6, gb6, gl6, cl6, HG6⟩ := Kd.R_form HO_0.out (by omega); (first | cases eo6 | (injection eo6 with ea_ en_ ec_; (first | subst ea_ | (injection ea_ with ea_; subst ea_)); subst ec_; clear en_)); have GB6 := Aside0.mk gb6; have GG6 := Aside0.mk HG6; clear gb6 gl6 HG6; have HMgo6 := Aside0.mk (show (P0_ go6 ∨ w.heap.size ≤ go6) from (HO_0.out.1 _ rfl)); obtain ⟨hx6_0, hf6_0⟩ := Kd.R_celln (⟨#[]⟩ : ByteArray) HO_0.out (x5_1 : Int) p6 q6; replace p6 := eq_true p6; replace q6 := eq_true q6; obtain ⟨hy9_, hz9_⟩ := Kd.R_celln (⟨#[]⟩ : ByteArray) HO_0.out (x5_1 : Int) od_ od_; have HP9 := Kd.R_putg HO_0.out (x5_1 : Int) t206) | ((with_reducible refine gate_store (t := 9) (p := 16) rfl ?_); refine store_event (t := 9) (p := 16) (v := ?vo_w10) (w1 := (w8.setCell ⟨go6, (x5_1 : Int).toNat, none⟩ (.string t206))) ?hg ?ho ?hn ?hr ?_; (case ho => rfl); (case hg => rfl); (case hn => rfl); (case hr => first | (go_simp; done) | (go_simp; rfl)); intro w10 hw; have hg : w8.grownBy w10 (some go6) := (by rw [hw]; exact HP9.2); have hp_ : Kd.R Kd.string 9 w10 w0.heap.size (fun k_ => (P0_ k_ ∨ w.heap.size ≤ k_)) (.slice (some ⟨go6, 0, none⟩) x0_1.length co7) y207 := (by rw [hw, Ny207.out]; exact HP9.1); clear HP9; have n0_ := Aside0.mk (hp_); have n1_ := Aside0.mk ((by rw [hw]; exact below_set (HB.out) GB6.out : Below w0.heap.size w0 w10)); have n2_ := Aside0.mk (Kept.of_grown (S := (fun k_ => P0_ k_)) hg (by repeat (first | (with_reducible first | exact HK.out | apply Kept.alloc | apply Kept.drewN | apply Kept.drew) | exact HK.out)) (fun k_ e_ => (HO_0.out.1 k_ e_))); clear HO_0; clear HB; clear HK; have HO_0 := n0_; have HB := n1_; have HK := n2_; clear n0_ n1_ n2_; clear hg hw hp_))
   go_roundg k1
   case measure => have := HK1.out; omega
   case rel => exact ⟨(y207), (wrap64 (x1_1 + 1)), (wrap64 (x5_1 + 1)), (by first | rfl | (simp; done) | (simp [*]; done)), (by first | rfl | (simp; done) | (simp [*]; done)), H', ⟨by have := HK1.out; omega⟩, ⟨by (with_reducible repeat (first | apply Kd.R_alloc | apply Kd.R_drewN | apply Kd.R_drew)); exact HO_0.out⟩, ⟨by repeat (first | (with_reducible first | exact HK.out | apply Kept.alloc | apply Kept.drewN | apply Kept.drew) | exact HK.out)⟩, ⟨by repeat (first | (with_reducible first | exact HB.out | apply below_alloc | apply pw_below_drewN | apply below_drew1) | exact HB.out)⟩⟩
/-! ### laws_FnExactReadSegments: function 4 -/
/-! ### a row of segments, marked -/
def laws_FnExactReadSegments.ms : Nat → List S68 → Int → Int → Option (Int × List S68)
 | 0, _, _, _ => none
 | k + 1, l, a, i => if i < (l.length : Int) then ((laws_markText.f k a).bind fun s => ((laws_markStringS.f k (rd_T68 l i).f1 (wrap64 (a + 1))).bind fun bt => (laws_FnExactReadSegments.ms k (l.set i.toNat (⟨s, bt.2⟩ : S68)) bt.1 (wrap64 (i + 1))))) else (some (a, l))
def laws_FnExactReadSegments.f (k : Nat) (a0 : ByteArray) : Option Bool := if (a0.size : Int) > 1048576 then some true else ((spec_ReadSegments.f k a0).bind fun v => ((impl_ReadSegments.f k a0).bind fun g => ((laws_eqSegmentS.f k g.1 v.1).bind fun e => ((laws_FnExactReadSegments.ms k g.1 1 0).bind fun m => ((laws_heldSegmentS.f k m.2 1).bind fun q => some (e && (decide (g.2.1 = v.2.1) && (decide (g.2.2 = v.2.2) && (decide (0 ≤ q) && decide (q = m.1)))))))))) 
theorem laws_FnExactReadSegments.set_eq {α : Type} (xs : List α) (n : Nat) (x z : α) (h : n < xs.length) : (xs.set n x).getD n z = x := by
 rw [List.getD_eq_getElem?_getD, List.getElem?_set_self h]; rfl
theorem laws_FnExactReadSegments.put0 {W : World} {base g n cap : Nat} {ok : Nat → Prop} {xs : List S68} (h : Kd.S k68 68 W base ok (.slice (some ⟨g, 0, none⟩) n cap) xs) (i : Int) (h0 : 0 ≤ i) (h1 : i < n) (v : ByteArray) :
  W.cell? ⟨g, i.toNat * 2, none⟩ = some (.string (rd_T68 xs i).f0) ∧ W.frozen? ⟨g, i.toNat * 2, none⟩ = false ∧ Kd.S k68 68 (W.setCell ⟨g, i.toNat * 2, none⟩ (.string v)) base ok (.slice (some ⟨g, 0, none⟩) n cap) (xs.set i.toNat (⟨v, (rd_T68 xs i).f1⟩ : S68)) ∧ W.grownBy (W.setCell ⟨g, i.toNat * 2, none⟩ (.string v)) (some g) := by
 have hn := (Kd.S_reads' h).1
 obtain ⟨oki, ce, hcl, hM, hcc, hfr, hoki, hH⟩ := Kd.S_elem (Kd.S_mono (ok' := fun k => ok k ∧ ¬ (fun _ => False) k) h (fun k hk => ⟨hk, id⟩)) z68 i h0 h1
 obtain ⟨v1, rfl, ge⟩ := k68_openM hM
 have HP := Kd.S_seg hH h0 h1 (seg := [.string v]) (j := 0) (show 0 + 1 ≤ 2 from by decide) (x' := (⟨v, (rd_T68 xs i).f1⟩ : S68)) (k68_mkM _ _ _ (⟨v, (rd_T68 xs i).f1⟩ : S68) ge) (fun _ hk => Or.inl hk) (fun _ hk => hk.elim)
 exact ⟨hcc 0 _ rfl, hfr 0, HP.1, HP.2⟩
theorem laws_FnExactReadSegments.row {W : World} {base g n cap : Nat} {ok : Nat → Prop} {xs : List S68} (h : Kd.S k68 68 W base ok (.slice (some ⟨g, 0, none⟩) n cap) xs) (i : Int) (h0 : 0 ≤ i) (h1 : i < n) :
  ∃ (oki : Nat → Prop) (v1 : Value), W.cell? ⟨g, i.toNat * 2 + 1, none⟩ = some v1 ∧ Kd.R Kd.string 9 W base oki v1 (rd_T68 xs i).f1 ∧ (∀ k, oki k → ok k) ∧
   ∀ (w1 : World) (l1 : List ByteArray), Kept W w1 oki → Kd.R Kd.string 9 w1 base (fun k => oki k ∨ W.heap.size ≤ k) v1 l1 → Kd.S k68 68 w1 base ok (.slice (some ⟨g, 0, none⟩) n cap) (xs.set i.toNat (⟨(rd_T68 xs i).f0, l1⟩ : S68)) := by
 obtain ⟨oki, ce, hcl, hM, hcc, hfr, hoki, hH⟩ := Kd.S_elem h z68 i h0 h1
 obtain ⟨v1, rfl, ge⟩ := k68_openM hM
 exact ⟨oki, v1, hcc 1 _ rfl, ge, fun k hk => (hoki k hk).1, fun w1 l1 hk hr => Kd.H_back (okp := fun k => some k = v1.ownBlock) (x' := (⟨(rd_T68 xs i).f0, l1⟩ : S68)) (Kd.H_kept hH hk (fun k _ hn hs => hn hs)) (k68_mkM _ _ _ (⟨(rd_T68 xs i).f0, l1⟩ : S68) (Kd.R_tight rfl hr)) (fun k e_ => ge.1 k e_.symm)⟩
theorem laws_FnExactReadSegments.wz {i : Int} {n : Nat} (h0 : 0 ≤ i) (h1 : i < n) (h2 : n ≤ 9223372036854775807) : wrap64 (i + 1) = i + 1 := by
 unfold wrap64
 omega
theorem laws_FnExactReadSegments.ms_calls (k : Nat) (P0_ : Nat → Prop) (u : Value) (l0 : List S68) (a1 : Int) (r1 : Int) (r2 : List S68) (w0 w : World) (hB : Below w0.heap.size w0 w) (ho0 : Kd.S k68 68 w w0.heap.size P0_ u l0) (h : laws_FnExactReadSegments.ms k l0 a1 0 = some (r1, r2)) :
  Calls Try.prog 15 #[u, .int .i64 a1] w fun e w' => e = .returned (.int .i64 r1) ∧ Kd.S k68 68 w' w0.heap.size P0_ u r2 ∧ Below w0.heap.size w0 w' ∧ Kept w w' (fun k_ => P0_ k_) := by
 have HK := Aside0.mk (Kept.refl w (fun k_ => P0_ k_))
 have HO0 := Aside0.mk ho0
 have HB := Aside0.mk hB
 clear hB ho0
 have H' := Aside0.mk h
 clear h
 go_enter Try.func15, Try.ntmps15
 go_wp2
 go_loopg [1, 5] k (fun kq v1 v5 w' => ∃ (x : List S68) (a : Int) (i : Int), v1 = .int .i64 a ∧ v5 = .int .i64 i ∧ Aside0 (laws_FnExactReadSegments.ms kq x a i = some (r1, r2)) ∧ Aside0 (kq ≤ k) ∧ Aside0 (x.length = l0.length) ∧ Aside0 (0 ≤ i) ∧ Aside0 (Kd.S k68 68 w' w0.heap.size P0_ u x) ∧ Aside0 (Kept w w' (fun k_ => P0_ k_)) ∧ Aside0 (Below w0.heap.size w0 w'))
 case atStart => exact ⟨l0, a1, 0, (by first | rfl | (simp; done) | (simp [*]; done)), (by first | rfl | (simp; done) | (simp [*]; done)), H', ⟨Nat.le_refl _⟩, ⟨rfl⟩, ⟨Int.le_refl _⟩, HO0, HK, HB⟩
 case round =>
  clear H' HO0
  obtain ⟨x, a, i, rfl, rfl, HA, HK1, XL, I0, HO, HK, HB⟩ := hrel
  cases gk with
  | zero => exact absurd HA.out (by simp [laws_FnExactReadSegments.ms])
  | succ k1 =>
   have H := HA.out
   clear HA
   simp only [laws_FnExactReadSegments.ms] at H
   have hxl := XL.out
   by_cases c3 : i < (x.length : Int)
   rotate_left
   ·rw [if_neg c3] at H
    have c3b0 : decide (i < (x.length : Int)) = false := decide_eq_false c3
    clear c3 hxl
    obtain ⟨rfl, rfl⟩ := Prod.mk.inj (Option.some.inj H)
    obtain ⟨A9, c9, e9⟩ := Kd.S_slice HO.out
    subst e9
    go_wp2
    go_ret
    exact ⟨by first | rfl | (simp; done) | (simp [*]; done), HO.out, HB.out, HK.out⟩
   rw [if_pos c3] at H
   have c3b0 : decide (i < (x.length : Int)) = true := decide_eq_true c3
   replace H := Option.bind_eq_some_iff.mp H
   obtain ⟨s, A1, H⟩ := H
   replace H := Option.bind_eq_some_iff.mp H
   obtain ⟨⟨q1, q2⟩, A2, H⟩ := H
   have A1 := Aside0.mk A1
   have A2 := Aside0.mk A2
   have H2 := Aside0.mk H
   clear H
   have hi0 := I0.out
   obtain ⟨g, cap, hu, gb, gl, hg⟩ := Kd.S_form HO.out (by omega)
   subst hu
   have GB := Aside0.mk gb
   clear gb gl hg
   have hmx := Kd.C_max (Kd.S_reads' HO.out).2.2
   have WZ := Aside0.mk (laws_FnExactReadSegments.wz I0.out c3 hmx)
   have hil : i.toNat < x.length := by omega
   have e1 : rd_T68 (x.set i.toNat (⟨s, (rd_T68 x i).f1⟩ : S68)) i = ⟨s, (rd_T68 x i).f1⟩ := by
    unfold rd_T68
    exact laws_FnExactReadSegments.set_eq _ _ _ _ hil
   have E1 := Aside0.mk e1
   have p : (0 ≤ i) = True := eq_true I0.out
   have q : (i < (x.length : Int)) = True := eq_true c3
   clear hmx e1 c3 hxl hi0 hil
   go_wp2_with (first
    | (go_at_call 36; refine (laws_markText.calls k1 a s _ A1.out).mono ?_; rintro e w1 ⟨rfl, hb⟩; have n0_ := Aside0.mk (Kd.S_below HO.out hb); have n1_ := Aside0.mk (below_step HB.out hb); have n2_ := Aside0.mk (Kept.below (S := (fun k_ => P0_ k_)) HK.out hb); clear HO HB HK hb; have HO := n0_; have HB := n1_; have HK := n2_; clear n0_ n1_ n2_; (try clear hx); (try clear hf); obtain ⟨hx, hf, hp0⟩ := laws_FnExactReadSegments.put0 HO.out i (of_eq_true p) (of_eq_true q) s; (try simp only [Nat.add_zero] at hx hf); have HP0 := Aside0.mk hp0; clear hp0)
    | ((with_reducible refine gate_store (t := 9) (p := 17) rfl ?_); refine store_event (t := 9) (p := 17) (v := ?vo_w2) (w1 := (w1.setCell ⟨g, (i : Int).toNat * 2, none⟩ (.string s))) ?hg ?ho ?hn ?hr ?_; (case ho => rfl); (case hg => rfl); (case hn => rfl); (case hr => first | (go_simp; done) | (go_simp; rfl)); intro w2 hw; have ho_ : Kd.S k68 68 w2 w0.heap.size P0_ (.slice (some ⟨g, 0, none⟩) x.length cap) (x.set i.toNat (⟨s, (rd_T68 x i).f1⟩ : S68)) := (by rw [hw]; exact HP0.out.1); have hg_ : w1.grownBy w2 (some g) := (by rw [hw]; exact HP0.out.2); have n0_ := Aside0.mk (Kept.of_grown (S := (fun k_ => P0_ k_)) hg_ HK.out (fun k_ e_ => .inl ((Kd.S_R HO.out).1 k_ e_))); have n1_ := Aside0.mk ((by rw [hw]; exact below_set HB.out GB.out : Below w0.heap.size w0 w2)); clear HK HB HO HP0; have HK := n0_; have HB := n1_; have HO := Aside0.mk ho_; clear n0_ n1_ hg_ ho_ hw; (try clear hx); (try clear hf); obtain ⟨oki, v3, hx, hr, hok, hq⟩ := laws_FnExactReadSegments.row HO.out i (of_eq_true p) (of_eq_true q); have HR := Aside0.mk hr; have OKI := Aside0.mk hok; have HQ := Aside0.mk hq; clear hr hok hq)
    | (go_at_call 37; refine (laws_markStringS.calls k1 oki v3 _ _ q1 q2 w0 _ HB.out HR.out (by rw [E1.out]; exact A2.out)).mono ?_; rintro e w5 ⟨rfl, hy, hb, hk⟩; have ho3 := HQ.out w5 q2 hk hy; rw [E1.out, List.set_set] at ho3; have n0_ := Aside0.mk ho3; have n1_ := Aside0.mk hb; have n2_ := Aside0.mk (Kept.then_ (S := (fun k_ => P0_ k_)) HK.out hk (fun k_ hk_ => .inl (OKI.out k_ hk_))); clear HO HB HK; have HO := n0_; have HB := n1_; have HK := n2_; clear n0_ n1_ n2_ ho3 hy hb hk; (try clear hx)))
   go_roundg k1
   case measure => have := HK1.out; omega
   case rel =>
    have hi := I0.out
    exact ⟨x.set i.toNat (⟨s, q2⟩ : S68), q1, wrap64 (i + 1), (by first | rfl | (simp; done) | (simp [*]; done)), (by first | rfl | (simp; done) | (simp [*]; done)), H2, ⟨by have := HK1.out; omega⟩, ⟨by rw [List.length_set]; exact XL.out⟩, ⟨by rw [WZ.out]; omega⟩, HO, HK, HB⟩
/-! ### a row of segments in a stretch of the heap -/
def laws_FnExactReadSegments.XS (w0 : World) (lo hi : Nat) (W : World) (v : Value) (l : List S68) : Prop := w0.heap.size ≤ lo ∧ Kd.S k68 68 W w0.heap.size (fun k_ => lo ≤ k_ ∧ k_ < hi) v l
section
variable {w0 W W1 : World} {lo hi : Nat} {v : Value} {l : List S68} {S : Nat → Prop}
theorem laws_FnExactReadSegments.XS.kept (h : laws_FnExactReadSegments.XS w0 lo hi W v l) (hk : Kept W W1 S) (hn : ∀ k, lo ≤ k → k < hi → ¬ S k) : laws_FnExactReadSegments.XS w0 lo hi W1 v l := ⟨h.1, Kd.S_kept h.2 hk (fun k hk_ => hn k hk_.1 hk_.2)⟩
theorem laws_FnExactReadSegments.XS.below (h : laws_FnExactReadSegments.XS w0 lo hi W v l) (hb : Below W.heap.size W W1) : laws_FnExactReadSegments.XS w0 lo hi W1 v l := h.kept (Kept.of_below hb (fun _ => False)) (fun _ _ _ h => h)
theorem laws_FnExactReadSegments.XS.made (h : Kd.S k68 68 W1 W.heap.size (fun _ => True) v l) (hb : Below w0.heap.size w0 W) : laws_FnExactReadSegments.XS w0 W.heap.size W1.heap.size W1 v l :=
 ⟨below_size hb, Kd.S_lower (Kd.S_mono (Kd.S_bound h) (fun k hk => ⟨hk.2.1, hk.2.2.1⟩)) (below_size hb)⟩
end
theorem laws_FnExactReadSegments.ms_mono : ∀ k, (∀ y0 y1 y2, LeO (laws_FnExactReadSegments.ms k y0 y1 y2) (laws_FnExactReadSegments.ms (k + 1) y0 y1 y2))
 | 0 => fun _ _ _ r h => by simp [laws_FnExactReadSegments.ms] at h
 | k + 1 => by
  have ih0 := laws_FnExactReadSegments.ms_mono k
  ·intro y0 y1 y2
   unfold laws_FnExactReadSegments.ms
   repeat' first
   | (with_reducible exact ih0 _ _ _)
   | (with_reducible exact laws_markText.mono _ _)
   | (with_reducible exact laws_markStringS.mono _ _ _)
   | (with_reducible exact LeO.refl _)
   | (with_reducible exact LeO.none _)
   | (with_reducible refine LeO.ite ?_ ?_)
   | (with_reducible refine LeO.bind ?_ (fun _ => ?_))
theorem laws_FnExactReadSegments.mono : ∀ a0 k, LeO (laws_FnExactReadSegments.f k a0) (laws_FnExactReadSegments.f (k + 1) a0) := by
 intro a0 k
 unfold laws_FnExactReadSegments.f
 repeat' first
   | (with_reducible exact spec_ReadSegments.mono _ _)
   | (with_reducible exact impl_ReadSegments.mono _ _)
   | (with_reducible exact laws_eqSegmentS.mono _ _ _)
   | (with_reducible exact laws_FnExactReadSegments.ms_mono _ _ _ _)
   | (with_reducible exact laws_heldSegmentS.mono _ _ _)
   | (with_reducible exact LeO.refl _)
   | (with_reducible exact LeO.none _)
   | (with_reducible refine LeO.ite ?_ ?_)
   | (with_reducible refine LeO.bind ?_ (fun _ => ?_))

set_option maxHeartbeats 8000000 in
set_option maxRecDepth 100000 in
theorem laws_FnExactReadSegments.calls (k : Nat) (a0 : ByteArray) (r : Bool) (w : World) (h : laws_FnExactReadSegments.f k a0 = some r) (hT0 : r = true) :
  Calls Try.prog 4 #[.string a0] w fun e w' => e = .returned (.bool r) ∧ Below w.heap.size w w' := by
 unfold laws_FnExactReadSegments.f at h
 have HB := Aside0.mk (Below.refl w.heap.size w)
 subst hT0
 by_cases d1 : (a0.size : Int) > 1048576
 ·have b1 : decide ((1048576 : Int) < (a0.size : Int)) = true := decide_eq_true d1
  clear d1 h
  go_enter Try.func4, Try.ntmps4
  go_wp2
  go_ret
  exact ⟨by first | rfl | (simp; done), HB.out⟩
 have b1 : decide ((1048576 : Int) < (a0.size : Int)) = false := decide_eq_false d1
 rw [if_neg d1] at h
 clear d1
 obtain ⟨⟨v0, v1, v2⟩, F1, h⟩ := Option.bind_eq_some_iff.mp h
 obtain ⟨⟨g0, g1, g2⟩, F2, h⟩ := Option.bind_eq_some_iff.mp h
 obtain ⟨e_, AE, h⟩ := Option.bind_eq_some_iff.mp h
 obtain ⟨⟨m1, m2⟩, AM, h⟩ := Option.bind_eq_some_iff.mp h
 obtain ⟨q_, AQ, h⟩ := Option.bind_eq_some_iff.mp h
 have h := Option.some.inj h
 simp only [Bool.and_eq_true, decide_eq_true_eq] at h
 obtain ⟨rfl, rfl, rfl, hq0, rfl⟩ := h
 have F1 := Aside0.mk F1
 have F2 := Aside0.mk F2
 have AE := Aside0.mk AE
 have AM := Aside0.mk AM
 have AQ := Aside0.mk AQ
 have bq : decide (q_ < 0) = false := decide_eq_false (by omega)
 have bg : (g1 != g1) = false := by simp
 have bh : (g2 != g2) = false := by simp
 have bqq : (q_ != q_) = false := by simp
 clear hq0
 go_enter Try.func4, Try.ntmps4
 go_upto_region 4 with (first | (go_at_call 12; (with_reducible refine (spec_ReadSegments.calls k a0 v0 g1 g2 _ F1.out).mono ?_); rintro e w2 ⟨uV, rfl, hr, hb⟩; have V := Aside0.mk (laws_FnExactReadSegments.XS.made hr HB.out); skip; have n_B := Aside0.mk (below_step HB.out hb); clear HB; have HB := n_B; clear n_B; obtain ⟨AV, cV, eV⟩ := Kd.S_slice V.out.2; subst eV; clear hr hb))
 (try simp only [Act.put, List.setIfInBounds_toArray, List.set_cons_zero, List.set_cons_succ])
 go_upto_region 5 with (first | (go_at_call 13; (with_reducible refine (impl_ReadSegments.calls k a0 g0 g1 g2 _ F2.out).mono ?_); rintro e w3 ⟨uG, rfl, hr, hb⟩; have G := Aside0.mk (laws_FnExactReadSegments.XS.made hr HB.out); have n_V := Aside0.mk (V.out.below hb); clear V; have V := n_V; clear n_V; have n_B := Aside0.mk (below_step HB.out hb); clear HB; have HB := n_B; clear n_B; obtain ⟨AG, cG, eG⟩ := Kd.S_slice G.out.2; subst eG; clear hr hb))
 (try simp only [Act.put, List.setIfInBounds_toArray, List.set_cons_zero, List.set_cons_succ])
 go_upto_region 8 with (first | (go_at_call 14; (with_reducible refine (laws_eqSegmentS.calls k _ _ g0 _ _ v0 true _ ?s1 ?s2 ?s3 ?s4 AE.out).mono ?_); (case s1 => exact (Kd.S_reads' G.out.2).2.2); (case s2 => exact (Kd.S_reads' G.out.2).2.1); (case s3 => exact (Kd.S_reads' V.out.2).2.2); (case s4 => exact (Kd.S_reads' V.out.2).2.1); rintro e w4 ⟨rfl, hb⟩; have n_V := Aside0.mk (V.out.below hb); clear V; have V := n_V; clear n_V; have n_G := Aside0.mk (G.out.below hb); clear G; have G := n_G; clear n_G; have n_B := Aside0.mk (below_step HB.out hb); clear HB; have HB := n_B; clear n_B; clear hb))
 (try simp only [Act.put, List.setIfInBounds_toArray, List.set_cons_zero, List.set_cons_succ])
 go_upto_region 9 with (first | (go_at_call 15; refine (laws_FnExactReadSegments.ms_calls k _ _ g0 1 q_ m2 w _ HB.out G.out.2 AM.out).mono ?_; rintro e w6 ⟨rfl, ho, hb, hk⟩; have n_V := Aside0.mk (V.out.kept hk (fun k_ a_ b_ e_ => by have := e_.1; have := e_.2; omega)); have HL := Aside0.mk (Kd.S_reads' ho).1; rw [HL.out] at ho; have n_G := Aside0.mk (show laws_FnExactReadSegments.XS w _ _ _ _ m2 from ⟨G.out.1, ho⟩); clear V G HB; have V := n_V; have G := n_G; have HB := Aside0.mk hb; clear n_V n_G ho hb hk))
 (try simp only [Act.put, List.setIfInBounds_toArray, List.set_cons_zero, List.set_cons_succ])
 go_upto_region 15 with (first | (go_at_call 16; (try rw [HL.out]); (with_reducible refine (laws_heldSegmentS.calls k _ _ m2 1 q_ _ ?s1 ?s2 AQ.out).mono ?_); (case s1 => exact (Kd.S_reads' G.out.2).2.2); (case s2 => exact (Kd.S_reads' G.out.2).2.1); rintro e w7 ⟨rfl, hb⟩; have n_V := Aside0.mk (V.out.below hb); clear V; have V := n_V; clear n_V; have n_G := Aside0.mk (G.out.below hb); clear G; have G := n_G; clear n_G; have n_B := Aside0.mk (below_step HB.out hb); clear HB; have HB := n_B; clear n_B; clear hb))
 (try simp only [Act.put, List.setIfInBounds_toArray, List.set_cons_zero, List.set_cons_succ])
 go_upto_region 16 with (first | (go_at_call 13; (with_reducible refine (impl_ReadSegments.calls k a0 g0 g1 g2 _ F2.out).mono ?_); rintro e w8 ⟨uH, rfl, hr, hb⟩; have H := Aside0.mk (laws_FnExactReadSegments.XS.made hr HB.out); have n_V := Aside0.mk (V.out.below hb); clear V; have V := n_V; clear n_V; have n_G := Aside0.mk (G.out.below hb); clear G; have G := n_G; clear n_G; have n_B := Aside0.mk (below_step HB.out hb); clear HB; have HB := n_B; clear n_B; obtain ⟨AH, cH, eH⟩ := Kd.S_slice H.out.2; subst eH; clear hr hb))
 (try simp only [Act.put, List.setIfInBounds_toArray, List.set_cons_zero, List.set_cons_succ])
 go_upto_region 19 with (first | (go_at_call 14; (with_reducible refine (laws_eqSegmentS.calls k _ _ g0 _ _ v0 true _ ?s1 ?s2 ?s3 ?s4 AE.out).mono ?_); (case s1 => exact (Kd.S_reads' H.out.2).2.2); (case s2 => exact (Kd.S_reads' H.out.2).2.1); (case s3 => exact (Kd.S_reads' V.out.2).2.2); (case s4 => exact (Kd.S_reads' V.out.2).2.1); rintro e w9 ⟨rfl, hb⟩; have n_V := Aside0.mk (V.out.below hb); clear V; have V := n_V; clear n_V; have n_G := Aside0.mk (G.out.below hb); clear G; have G := n_G; clear n_G; have n_B := Aside0.mk (below_step HB.out hb); clear HB; have HB := n_B; clear n_B; clear hb))
 (try simp only [Act.put, List.setIfInBounds_toArray, List.set_cons_zero, List.set_cons_succ])
 go_wp2_with (first | (go_at_call 16; (try rw [HL.out]); (with_reducible refine (laws_heldSegmentS.calls k _ _ m2 1 q_ _ ?s1 ?s2 AQ.out).mono ?_); (case s1 => exact (Kd.S_reads' G.out.2).2.2); (case s2 => exact (Kd.S_reads' G.out.2).2.1); rintro e w10 ⟨rfl, hb⟩; have n_G := Aside0.mk (G.out.below hb); clear G; have G := n_G; clear n_G; have n_B := Aside0.mk (below_step HB.out hb); clear HB; have HB := n_B; clear n_B; clear hb))
 go_ret
 exact ⟨by first | rfl | (simp; done), HB.out⟩


/-- THE ONE PURE STATEMENT of laws_FnExactReadSegments. -/
def laws_FnExactReadSegments.Pure : Prop := ∀ (a0 : ByteArray), a0.size ≤ 9223372036854775807 → ∃ k, laws_FnExactReadSegments.f k a0 = some true
theorem laws_FnExactReadSegments.walk (P : laws_FnExactReadSegments.Pure) (a0 : ByteArray) (w : World) (hw0 : a0.size ≤ 9223372036854775807) :
  Calls Try.prog 4 #[.string a0] w fun e w' => e = .returned (.bool true) ∧ Below w.heap.size w w' := by
 obtain ⟨k, h⟩ := P a0 hw0
 refine (laws_FnExactReadSegments.calls k a0 true w h rfl).mono ?_
 rintro e w' ⟨rfl, hd⟩
 exact ⟨rfl, hd⟩


end Go.Proofs.Ytkiooiijnolocaa.XFnExactReadSegments
