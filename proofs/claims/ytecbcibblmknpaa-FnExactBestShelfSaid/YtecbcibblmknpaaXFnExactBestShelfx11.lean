-- PRINTED by xprint.py (our own program, over the kit's print.py)
import Derived.Test.YtecbcibblmknpaaXFnExactBestShelfx0
import Derived.Test.YtecbcibblmknpaaXFnExactBestShelfx10
import Derived.Test.YtecbcibblmknpaaPu
namespace Go.Proofs.Ytecbcibblmknpaa.XFnExactBestShelf
open Go.RowKit Go.Proofs.YtecbcibblmknpaaW.PrintWords Go.Proofs.YtecbcibblmknpaaW.PrintLast Go.Proofs.YtecbcibblmknpaaW.PrintMore Go.Proofs.YtecbcibblmknpaaW.Idx
attribute [local go_sem] max2_int min2_int max_two min_two max_three min_three max_four min_four   -- for this text's walks alone
set_option linter.unusedVariables false
set_option linter.unusedSimpArgs false

/-! ### spec_FacingsOK: function 8 -/
mutual
def spec_FacingsOK.l0 : Nat → List (S50) → Int → Option (Bool)
 | 0, _, _ => none
 | k + 1, x0, x3 => if x3 < (x0.length : Int) then (if 0 ≤ x3 then ((spec_NameOK.f k ((rd_T50 x0 x3).f0)).bind fun t260 => (if t260 = true then ((spec_l01In.f ((rd_T50 x0 x3).f1) 1 2000).bind fun t261 => (if t261 = true then (if (((rd_T50 x0 x3).f3).length : Int) < 1 then (spec_FacingsOK.j1 k x0 x3 true ((rd_T50 x0 x3).f0) ((rd_T50 x0 x3).f1) ((rd_T50 x0 x3).f2) ((rd_T50 x0 x3).f3)) else (if (((rd_T50 x0 x3).f3).length : Int) > 6 then (spec_FacingsOK.j1 k x0 x3 true ((rd_T50 x0 x3).f0) ((rd_T50 x0 x3).f1) ((rd_T50 x0 x3).f2) ((rd_T50 x0 x3).f3)) else ((spec_l01In.f ((rd_T50 x0 x3).f2) 0 (((rd_T50 x0 x3).f3).length : Int)).bind fun t262 => (spec_FacingsOK.j1 k x0 x3 (!t262) ((rd_T50 x0 x3).f0) ((rd_T50 x0 x3).f1) ((rd_T50 x0 x3).f2) ((rd_T50 x0 x3).f3))))) else (spec_FacingsOK.j1 k x0 x3 true ((rd_T50 x0 x3).f0) ((rd_T50 x0 x3).f1) ((rd_T50 x0 x3).f2) ((rd_T50 x0 x3).f3)))) else (spec_FacingsOK.j1 k x0 x3 true ((rd_T50 x0 x3).f0) ((rd_T50 x0 x3).f1) ((rd_T50 x0 x3).f2) ((rd_T50 x0 x3).f3)))) else (none)) else (some true)
def spec_FacingsOK.j1 : Nat → List (S50) → Int → Bool → ByteArray → Int → Int → List Int → Option (Bool)
 | 0, _, _, _, _, _, _, _ => none
 | k + 1, x0, x3, x50, x260000, x260001, x260002, x260003 => if x50 = true then (some false) else (spec_FacingsOK.l1 k x0 x3 0 x260000 x260001 x260002 x260003)
def spec_FacingsOK.l1 : Nat → List (S50) → Int → Int → ByteArray → Int → Int → List Int → Option (Bool)
 | 0, _, _, _, _, _, _, _ => none
 | k + 1, x0, x3, x5, x260000, x260001, x260002, x260003 => if x5 < (x260003.length : Int) then (if 0 ≤ x5 then ((spec_l01In.f (rd x260003 x5) 0 100000).bind fun t264 => (if t264 = true then (spec_FacingsOK.l1 k x0 x3 (wrap64 (x5 + 1)) x260000 x260001 x260002 x260003) else (some false))) else (none)) else (spec_FacingsOK.l2 k x0 x3 0 x260000 x260001 x260002 x260003)
def spec_FacingsOK.l2 : Nat → List (S50) → Int → Int → ByteArray → Int → Int → List Int → Option (Bool)
 | 0, _, _, _, _, _, _, _ => none
 | k + 1, x0, x3, x6, x260000, x260001, x260002, x260003 => if x6 < x3 then (if 0 ≤ x6 then (if x6 < (x0.length : Int) then (if ((rd_T50 x0 x6).f0).toList = x260000.toList then (some false) else (spec_FacingsOK.l2 k x0 x3 (wrap64 (x6 + 1)) x260000 x260001 x260002 x260003)) else (none)) else (none)) else (spec_FacingsOK.l0 k x0 (wrap64 (x3 + 1)))
end
def spec_FacingsOK.f (k : Nat) (l0 : List (S50)) : Option (Bool) := if (l0.length : Int) > 12 then (some false) else (spec_FacingsOK.l0 k l0 0)
theorem spec_FacingsOK.mono_l : ∀ k, (∀ y0 y1, LeO (spec_FacingsOK.l0 k y0 y1) (spec_FacingsOK.l0 (k + 1) y0 y1)) ∧ (∀ y0 y1 y2 y3 y4 y5 y6, LeO (spec_FacingsOK.j1 k y0 y1 y2 y3 y4 y5 y6) (spec_FacingsOK.j1 (k + 1) y0 y1 y2 y3 y4 y5 y6)) ∧ (∀ y0 y1 y2 y3 y4 y5 y6, LeO (spec_FacingsOK.l1 k y0 y1 y2 y3 y4 y5 y6) (spec_FacingsOK.l1 (k + 1) y0 y1 y2 y3 y4 y5 y6)) ∧ (∀ y0 y1 y2 y3 y4 y5 y6, LeO (spec_FacingsOK.l2 k y0 y1 y2 y3 y4 y5 y6) (spec_FacingsOK.l2 (k + 1) y0 y1 y2 y3 y4 y5 y6))
 | 0 => ⟨fun _ _ r h => by simp [spec_FacingsOK.l0] at h, fun _ _ _ _ _ _ _ r h => by simp [spec_FacingsOK.j1] at h, fun _ _ _ _ _ _ _ r h => by simp [spec_FacingsOK.l1] at h, fun _ _ _ _ _ _ _ r h => by simp [spec_FacingsOK.l2] at h⟩
 | k + 1 => by
  obtain ⟨ih0, ih1, ih2, ih3⟩ := spec_FacingsOK.mono_l k
  refine ⟨?_, ?_, ?_, ?_⟩
  ·intro y0 y1
   unfold spec_FacingsOK.l0
   repeat' first
   | (with_reducible exact ih0 _ _)
   | (with_reducible exact ih1 _ _ _ _ _ _ _)
   | (with_reducible exact ih2 _ _ _ _ _ _ _)
   | (with_reducible exact ih3 _ _ _ _ _ _ _)
   | (with_reducible exact spec_NameOK.mono _ _)
   | (with_reducible exact LeO.refl _)
   | (with_reducible exact LeO.none _)
   | (with_reducible refine LeO.ite ?_ ?_)
   | (with_reducible refine LeO.bind ?_ (fun _ => ?_))
   | exact ih0 _ _
   | exact ih1 _ _ _ _ _ _ _
   | exact ih2 _ _ _ _ _ _ _
   | exact ih3 _ _ _ _ _ _ _
   | exact spec_NameOK.mono _ _
   | exact LeO.none _
   | refine LeO.ite ?_ ?_
   | refine LeO.bind ?_ (fun _ => ?_)
  ·intro y0 y1 y2 y3 y4 y5 y6
   unfold spec_FacingsOK.j1
   repeat' first
   | (with_reducible exact ih0 _ _)
   | (with_reducible exact ih1 _ _ _ _ _ _ _)
   | (with_reducible exact ih2 _ _ _ _ _ _ _)
   | (with_reducible exact ih3 _ _ _ _ _ _ _)
   | (with_reducible exact spec_NameOK.mono _ _)
   | (with_reducible exact LeO.refl _)
   | (with_reducible exact LeO.none _)
   | (with_reducible refine LeO.ite ?_ ?_)
   | (with_reducible refine LeO.bind ?_ (fun _ => ?_))
   | exact ih0 _ _
   | exact ih1 _ _ _ _ _ _ _
   | exact ih2 _ _ _ _ _ _ _
   | exact ih3 _ _ _ _ _ _ _
   | exact spec_NameOK.mono _ _
   | exact LeO.none _
   | refine LeO.ite ?_ ?_
   | refine LeO.bind ?_ (fun _ => ?_)
  ·intro y0 y1 y2 y3 y4 y5 y6
   unfold spec_FacingsOK.l1
   repeat' first
   | (with_reducible exact ih0 _ _)
   | (with_reducible exact ih1 _ _ _ _ _ _ _)
   | (with_reducible exact ih2 _ _ _ _ _ _ _)
   | (with_reducible exact ih3 _ _ _ _ _ _ _)
   | (with_reducible exact spec_NameOK.mono _ _)
   | (with_reducible exact LeO.refl _)
   | (with_reducible exact LeO.none _)
   | (with_reducible refine LeO.ite ?_ ?_)
   | (with_reducible refine LeO.bind ?_ (fun _ => ?_))
   | exact ih0 _ _
   | exact ih1 _ _ _ _ _ _ _
   | exact ih2 _ _ _ _ _ _ _
   | exact ih3 _ _ _ _ _ _ _
   | exact spec_NameOK.mono _ _
   | exact LeO.none _
   | refine LeO.ite ?_ ?_
   | refine LeO.bind ?_ (fun _ => ?_)
  ·intro y0 y1 y2 y3 y4 y5 y6
   unfold spec_FacingsOK.l2
   repeat' first
   | (with_reducible exact ih0 _ _)
   | (with_reducible exact ih1 _ _ _ _ _ _ _)
   | (with_reducible exact ih2 _ _ _ _ _ _ _)
   | (with_reducible exact ih3 _ _ _ _ _ _ _)
   | (with_reducible exact spec_NameOK.mono _ _)
   | (with_reducible exact LeO.refl _)
   | (with_reducible exact LeO.none _)
   | (with_reducible refine LeO.ite ?_ ?_)
   | (with_reducible refine LeO.bind ?_ (fun _ => ?_))
   | exact ih0 _ _
   | exact ih1 _ _ _ _ _ _ _
   | exact ih2 _ _ _ _ _ _ _
   | exact ih3 _ _ _ _ _ _ _
   | exact spec_NameOK.mono _ _
   | exact LeO.none _
   | refine LeO.ite ?_ ?_
   | refine LeO.bind ?_ (fun _ => ?_)
theorem spec_FacingsOK.mono : ∀ a0 k, LeO (spec_FacingsOK.f k a0) (spec_FacingsOK.f (k + 1) a0) := by
 intro a0 k
 obtain ⟨ih0, ih1, ih2, ih3⟩ := spec_FacingsOK.mono_l k
 unfold spec_FacingsOK.f
 repeat' first
   | (with_reducible exact ih0 _ _)
   | (with_reducible exact ih1 _ _ _ _ _ _ _)
   | (with_reducible exact ih2 _ _ _ _ _ _ _)
   | (with_reducible exact ih3 _ _ _ _ _ _ _)
   | (with_reducible exact spec_NameOK.mono _ _)
   | (with_reducible exact LeO.refl _)
   | (with_reducible exact LeO.none _)
   | (with_reducible refine LeO.ite ?_ ?_)
   | (with_reducible refine LeO.bind ?_ (fun _ => ?_))
   | exact ih0 _ _
   | exact ih1 _ _ _ _ _ _ _
   | exact ih2 _ _ _ _ _ _ _
   | exact ih3 _ _ _ _ _ _ _
   | exact spec_NameOK.mono _ _
   | exact LeO.none _
   | refine LeO.ite ?_ ?_
   | refine LeO.bind ?_ (fun _ => ?_)
set_option maxHeartbeats 8000000 in
set_option maxRecDepth 100000 in
theorem spec_FacingsOK.calls (k : Nat) (A0 : Option Addr) (c0 : Nat) (l0 : List (S50)) (r : Bool) (w : World) (hr0 : Kd.C k50 w A0 l0.length l0) (hc0 : l0.length ≤ c0) (h : spec_FacingsOK.f k l0 = some r) :
  Calls Try.prog 8 #[.slice A0 l0.length c0] w fun e w' => e = .returned (.bool r) ∧ Below w.heap.size w w' := by
 have hu50 := Try.underlying50
 have HR0 := Aside0.mk hr0
 have HC0 := Aside0.mk hc0
 clear hr0 hc0
 have HB := Aside0.mk (Below.refl w.heap.size w)
 have H : (if (l0.length : Int) > 12 then (some false) else (spec_FacingsOK.l0 k l0 0)) = some r := h
 clear h
 by_cases c2 : (l0.length : Int) > 12
 ·rw [if_pos c2] at H
  have c2b0 : decide (12 < (l0.length : Int)) = true := decide_eq_true c2
  have c2b1 : decide (12 < l0.length) = true := decide_eq_true (by omega)
  clear c2
  obtain rfl := Option.some.inj H
  go_enter Try.func8, Try.ntmps8
  go_wp2
  repeat (go_quiet (fail); try go_wp2)
  go_ret
  exact ⟨by first | rfl | (simp [errW_none, errW_some] <;> rfl) | (simp [*, errW_none, errW_some] <;> rfl), by repeat (first | (with_reducible first | exact HB.out | apply below_alloc | apply pw_below_drewN | apply below_drew1) | exact HB.out)⟩
 rw [if_neg c2] at H
 have c2b0 : decide (12 < (l0.length : Int)) = false := decide_eq_false c2
 have c2b1 : decide (12 < l0.length) = false := decide_eq_false (by omega)
 clear c2
 have H' := Aside0.mk H
 clear H
 go_enter Try.func8, Try.ntmps8
 go_wp2
 repeat (go_quiet (fail); try go_wp2)
 go_loopg [3] k (fun kq v3 w' => ∃ (x3_1 : Int), v3 = .int .i64 x3_1 ∧ Aside0 (spec_FacingsOK.l0 kq l0 x3_1 = some r) ∧ Aside0 (kq ≤ k) ∧ Aside0 (Below w.heap.size w w'))
 case atStart => exact ⟨(0), (by first | rfl | (simp; done) | (simp [*]; done)), H', ⟨Nat.le_refl _⟩, ⟨by repeat (first | (with_reducible first | exact HB.out | apply below_alloc | apply pw_below_drewN | apply below_drew1) | exact HB.out)⟩⟩
 case round =>
  clear H'
  (try clear c2); (try clear c2b0); (try clear c2b1); (try clear p2)
  obtain ⟨x3_1, rfl, HA, HK1, HB⟩ := hrel
  cases gk with
  | zero => exact absurd HA.out (by simp [spec_FacingsOK.l0])
  | succ k1 =>
   have H := HA.out
   clear HA
   simp only [spec_FacingsOK.l0] at H
   by_cases c3 : x3_1 < (l0.length : Int)
   rotate_left
   ·rw [if_neg c3] at H
    have c3b0 : decide (x3_1 < (l0.length : Int)) = false := decide_eq_false c3
    clear c3
    obtain rfl := Option.some.inj H
    go_wp2
    repeat (go_quiet (fail); try go_wp2)
    go_ret
    exact ⟨by first | rfl | (simp [errW_none, errW_some] <;> rfl) | (simp [*, errW_none, errW_some] <;> rfl), by repeat (first | (with_reducible first | exact HB.out | apply below_alloc | apply pw_below_drewN | apply below_drew1) | exact HB.out)⟩

   rw [if_pos c3] at H
   have c3b0 : decide (x3_1 < (l0.length : Int)) = true := decide_eq_true c3
   clear c3
   by_cases c4 : 0 ≤ x3_1
   rotate_left
   ·rw [if_neg c4] at H
    exact absurd H (by simp)
   rw [if_pos c4] at H
   have c4b0 : decide (0 ≤ x3_1) = true := decide_eq_true c4
   clear c4
   have HC5 := Aside0.mk H
   clear H
   have p258 : 0 ≤ (x3_1 : Int) := od_
   have q258 : x3_1 < (l0.length : Int) := od_
   obtain ⟨ad258, A258_3, c258_3, e258, hx258_0, hx258_1, hx258_2, hx258_3, hl258_3, hi258_3⟩ := at_T50 HR0.out x3_1 p258 q258
   cases e258
   replace hx258_0 := (HB.out.cell (World.block_lt_of_cell? w _ hx258_0)).trans hx258_0
   replace hx258_1 := (HB.out.cell (World.block_lt_of_cell? w _ hx258_1)).trans hx258_1
   replace hx258_2 := (HB.out.cell (World.block_lt_of_cell? w _ hx258_2)).trans hx258_2
   replace hx258_3 := (HB.out.cell (World.block_lt_of_cell? w _ hx258_3)).trans hx258_3
   have HR258_3 := Aside0.mk hi258_3
   have HC258_3 := Aside0.mk hl258_3
   clear hi258_3 hl258_3
   replace p258 := eq_true p258
   replace q258 := eq_true q258
   go_upto_region 7 with (first | ((with_reducible refine gate_dst (N := 4) rfl ?_); (try (refine gate_guard (by rfl) ?_; dsimp only)); refine box_event ?hg (N := 4) ?hd (cs := #[.string (⟨#[]⟩ : ByteArray), .int .i64 0, .int .i64 0, .slice none 0 0]) (t := 50) ?hr ?_; (case hd => rfl); (case hg => rfl); (case hr => first | (go_simp; done) | (go_simp; rfl)); intro gb259 hg w6 hbox hb; have n0_ := Aside0.mk (below_step bl_ hb); have n1_ := Aside0.mk (hbox); have n2_ := Aside0.mk ((by rw [hg]; exact (below_size bl_) : w.heap.size ≤ gb259)); have n3_ := Aside0.mk ((by rw [hg]; exact (below_size bl_) : w.heap.size ≤ gb259)); clear HB; have HB := n0_; have BK259 := n1_; have GW259 := n2_; have GE259 := n3_; clear n0_ n1_ n2_ n3_; clear hb hbox hg; have hcz7_0 : w6.cell? ⟨gb259, 0, none⟩ = some (.string (⟨#[]⟩ : ByteArray)) := (blk_cell BK259.out 0).trans rfl; have hcz7_1 : w6.cell? ⟨gb259, 1, none⟩ = some (.int .i64 0) := (blk_cell BK259.out 1).trans rfl; have hcz7_2 : w6.cell? ⟨gb259, 2, none⟩ = some (.int .i64 0) := (blk_cell BK259.out 2).trans rfl; have hcz7_3 : w6.cell? ⟨gb259, 3, none⟩ = some (.slice none 0 0) := (blk_cell BK259.out 3).trans rfl; have hfz7_0 := blk_frozen BK259.out 0; have hfz7_1 := blk_frozen BK259.out 1; have hfz7_2 := blk_frozen BK259.out 2; have hfz7_3 := blk_frozen BK259.out 3))
   repeat (go_quiet (fail); go_upto_region 7 with (first | ((with_reducible refine gate_dst (N := 4) rfl ?_); (try (refine gate_guard (by rfl) ?_; dsimp only)); refine box_event ?hg (N := 4) ?hd (cs := #[.string (⟨#[]⟩ : ByteArray), .int .i64 0, .int .i64 0, .slice none 0 0]) (t := 50) ?hr ?_; (case hd => rfl); (case hg => rfl); (case hr => first | (go_simp; done) | (go_simp; rfl)); intro gb259 hg w6 hbox hb; have n0_ := Aside0.mk (below_step bl_ hb); have n1_ := Aside0.mk (hbox); have n2_ := Aside0.mk ((by rw [hg]; exact (below_size bl_) : w.heap.size ≤ gb259)); have n3_ := Aside0.mk ((by rw [hg]; exact (below_size bl_) : w.heap.size ≤ gb259)); clear HB; have HB := n0_; have BK259 := n1_; have GW259 := n2_; have GE259 := n3_; clear n0_ n1_ n2_ n3_; clear hb hbox hg; have hcz7_0 : w6.cell? ⟨gb259, 0, none⟩ = some (.string (⟨#[]⟩ : ByteArray)) := (blk_cell BK259.out 0).trans rfl; have hcz7_1 : w6.cell? ⟨gb259, 1, none⟩ = some (.int .i64 0) := (blk_cell BK259.out 1).trans rfl; have hcz7_2 : w6.cell? ⟨gb259, 2, none⟩ = some (.int .i64 0) := (blk_cell BK259.out 2).trans rfl; have hcz7_3 : w6.cell? ⟨gb259, 3, none⟩ = some (.slice none 0 0) := (blk_cell BK259.out 3).trans rfl; have hfz7_0 := blk_frozen BK259.out 0; have hfz7_1 := blk_frozen BK259.out 1; have hfz7_2 := blk_frozen BK259.out 2; have hfz7_3 := blk_frozen BK259.out 3)))
   (try simp only [Act.put, List.setIfInBounds_toArray, List.set_cons_zero, List.set_cons_succ])
   go_cut [50] (fun v50 wc => ∃ (kq : Nat) (x50_4 : Bool), v50 = .bool x50_4 ∧ Aside0 (spec_FacingsOK.j1 kq l0 x3_1 x50_4 ((rd_T50 l0 x3_1).f0) ((rd_T50 l0 x3_1).f1) ((rd_T50 l0 x3_1).f2) ((rd_T50 l0 x3_1).f3) = some r) ∧ Aside0 (kq ≤ k1) ∧ Aside0 (wc.heap[gb259]? = some (.cells #[.string ((rd_T50 l0 x3_1).f0), .int .i64 ((rd_T50 l0 x3_1).f1), .int .i64 ((rd_T50 l0 x3_1).f2), (.slice A258_3 ((rd_T50 l0 x3_1).f3).length c258_3)] 50 (0, 0))) ∧ Aside0 (Below w.heap.size w wc))
   case first =>
    have H := HC5.out
    clear HC5
    replace H := Option.bind_eq_some_iff.mp H
    obtain ⟨t260, A80, H⟩ := H
    replace H : (if t260 = true then ((spec_l01In.f ((rd_T50 l0 x3_1).f1) 1 2000).bind fun t261 => (if t261 = true then (if (((rd_T50 l0 x3_1).f3).length : Int) < 1 then (spec_FacingsOK.j1 k1 l0 x3_1 true ((rd_T50 l0 x3_1).f0) ((rd_T50 l0 x3_1).f1) ((rd_T50 l0 x3_1).f2) ((rd_T50 l0 x3_1).f3)) else (if (((rd_T50 l0 x3_1).f3).length : Int) > 6 then (spec_FacingsOK.j1 k1 l0 x3_1 true ((rd_T50 l0 x3_1).f0) ((rd_T50 l0 x3_1).f1) ((rd_T50 l0 x3_1).f2) ((rd_T50 l0 x3_1).f3)) else ((spec_l01In.f ((rd_T50 l0 x3_1).f2) 0 (((rd_T50 l0 x3_1).f3).length : Int)).bind fun t262 => (spec_FacingsOK.j1 k1 l0 x3_1 (!t262) ((rd_T50 l0 x3_1).f0) ((rd_T50 l0 x3_1).f1) ((rd_T50 l0 x3_1).f2) ((rd_T50 l0 x3_1).f3))))) else (spec_FacingsOK.j1 k1 l0 x3_1 true ((rd_T50 l0 x3_1).f0) ((rd_T50 l0 x3_1).f1) ((rd_T50 l0 x3_1).f2) ((rd_T50 l0 x3_1).f3)))) else (spec_FacingsOK.j1 k1 l0 x3_1 true ((rd_T50 l0 x3_1).f0) ((rd_T50 l0 x3_1).f1) ((rd_T50 l0 x3_1).f2) ((rd_T50 l0 x3_1).f3))) = some r := H
    have A8 := Aside0.mk A80
    clear A80
    by_cases c9 : t260 = true
    rotate_left
    ·replace c9 := Bool.eq_false_iff.mpr c9
     subst c9
     have H1 : (spec_FacingsOK.j1 k1 l0 x3_1 true ((rd_T50 l0 x3_1).f0) ((rd_T50 l0 x3_1).f1) ((rd_T50 l0 x3_1).f2) ((rd_T50 l0 x3_1).f3)) = some r := by rw [if_neg (show ¬ (false = true) by decide)] at H; exact H
     clear H
     have H := H1
     clear H1
     have H' := Aside0.mk H
     clear H
     have hcz19_0 : w6.cell? ⟨gb259, 0, none⟩ = some (.string (⟨#[]⟩ : ByteArray)) := (blk_cell BK259.out 0).trans rfl
     have hcz19_1 : w6.cell? ⟨gb259, 1, none⟩ = some (.int .i64 0) := (blk_cell BK259.out 1).trans rfl
     have hcz19_2 : w6.cell? ⟨gb259, 2, none⟩ = some (.int .i64 0) := (blk_cell BK259.out 2).trans rfl
     have hcz19_3 : w6.cell? ⟨gb259, 3, none⟩ = some (.slice none 0 0) := (blk_cell BK259.out 3).trans rfl
     have hfz19_0 := blk_frozen BK259.out 0
     have hfz19_1 := blk_frozen BK259.out 1
     have hfz19_2 := blk_frozen BK259.out 2
     have hfz19_3 := blk_frozen BK259.out 3
     go_wp2_with (first | (go_at_call 25; (with_reducible refine (spec_NameOK.calls k1 ((rd_T50 l0 x3_1).f0) false _ A8.out).mono ?_); rintro e w' ⟨rfl, ⟨nd, rfl⟩⟩; (try exact dr_)))
     repeat (go_quiet (fail); try go_wp2_with (first | (go_at_call 25; (with_reducible refine (spec_NameOK.calls k1 ((rd_T50 l0 x3_1).f0) false _ A8.out).mono ?_); rintro e w' ⟨rfl, ⟨nd, rfl⟩⟩; (try exact dr_))))
     go_meet
     case rel => exact ⟨_, (true), (by first | rfl | (simp; done) | (simp [*]; done)), H', ⟨by have := HK1.out; first | omega | exact Nat.le_refl _⟩, ⟨by (with_reducible repeat (first | refine blk_drewN ?_ _ | refine blk_drew ?_ | refine blk_alloc ?_ _)); refine blk_put (cs := #[.string ((rd_T50 l0 x3_1).f0), .int .i64 ((rd_T50 l0 x3_1).f1), .int .i64 ((rd_T50 l0 x3_1).f2), .slice none 0 0]) ?_ 3 _ rfl; (with_reducible repeat (first | refine blk_drewN ?_ _ | refine blk_drew ?_ | refine blk_alloc ?_ _)); refine blk_put (cs := #[.string ((rd_T50 l0 x3_1).f0), .int .i64 ((rd_T50 l0 x3_1).f1), .int .i64 0, .slice none 0 0]) ?_ 2 _ rfl; (with_reducible repeat (first | refine blk_drewN ?_ _ | refine blk_drew ?_ | refine blk_alloc ?_ _)); refine blk_put (cs := #[.string ((rd_T50 l0 x3_1).f0), .int .i64 0, .int .i64 0, .slice none 0 0]) ?_ 1 _ rfl; (with_reducible repeat (first | refine blk_drewN ?_ _ | refine blk_drew ?_ | refine blk_alloc ?_ _)); refine blk_put (cs := #[.string (⟨#[]⟩ : ByteArray), .int .i64 0, .int .i64 0, .slice none 0 0]) ?_ 0 _ rfl; (with_reducible repeat (first | refine blk_drewN ?_ _ | refine blk_drew ?_ | refine blk_alloc ?_ _)); exact BK259.out⟩, ⟨by repeat (first | (with_reducible first | exact HB.out | apply below_alloc | apply pw_below_drewN | apply below_drew1 | refine below_set ?_ GE259.out) | exact HB.out)⟩⟩
    subst c9
    have H1 : ((spec_l01In.f ((rd_T50 l0 x3_1).f1) 1 2000).bind fun t261 => (if t261 = true then (if (((rd_T50 l0 x3_1).f3).length : Int) < 1 then (spec_FacingsOK.j1 k1 l0 x3_1 true ((rd_T50 l0 x3_1).f0) ((rd_T50 l0 x3_1).f1) ((rd_T50 l0 x3_1).f2) ((rd_T50 l0 x3_1).f3)) else (if (((rd_T50 l0 x3_1).f3).length : Int) > 6 then (spec_FacingsOK.j1 k1 l0 x3_1 true ((rd_T50 l0 x3_1).f0) ((rd_T50 l0 x3_1).f1) ((rd_T50 l0 x3_1).f2) ((rd_T50 l0 x3_1).f3)) else ((spec_l01In.f ((rd_T50 l0 x3_1).f2) 0 (((rd_T50 l0 x3_1).f3).length : Int)).bind fun t262 => (spec_FacingsOK.j1 k1 l0 x3_1 (!t262) ((rd_T50 l0 x3_1).f0) ((rd_T50 l0 x3_1).f1) ((rd_T50 l0 x3_1).f2) ((rd_T50 l0 x3_1).f3))))) else (spec_FacingsOK.j1 k1 l0 x3_1 true ((rd_T50 l0 x3_1).f0) ((rd_T50 l0 x3_1).f1) ((rd_T50 l0 x3_1).f2) ((rd_T50 l0 x3_1).f3)))) = some r := by rw [if_pos rfl] at H; exact H
    clear H
    have H := H1
    clear H1
    replace H := Option.bind_eq_some_iff.mp H
    obtain ⟨t261, A100, H⟩ := H
    replace H : (if t261 = true then (if (((rd_T50 l0 x3_1).f3).length : Int) < 1 then (spec_FacingsOK.j1 k1 l0 x3_1 true ((rd_T50 l0 x3_1).f0) ((rd_T50 l0 x3_1).f1) ((rd_T50 l0 x3_1).f2) ((rd_T50 l0 x3_1).f3)) else (if (((rd_T50 l0 x3_1).f3).length : Int) > 6 then (spec_FacingsOK.j1 k1 l0 x3_1 true ((rd_T50 l0 x3_1).f0) ((rd_T50 l0 x3_1).f1) ((rd_T50 l0 x3_1).f2) ((rd_T50 l0 x3_1).f3)) else ((spec_l01In.f ((rd_T50 l0 x3_1).f2) 0 (((rd_T50 l0 x3_1).f3).length : Int)).bind fun t262 => (spec_FacingsOK.j1 k1 l0 x3_1 (!t262) ((rd_T50 l0 x3_1).f0) ((rd_T50 l0 x3_1).f1) ((rd_T50 l0 x3_1).f2) ((rd_T50 l0 x3_1).f3))))) else (spec_FacingsOK.j1 k1 l0 x3_1 true ((rd_T50 l0 x3_1).f0) ((rd_T50 l0 x3_1).f1) ((rd_T50 l0 x3_1).f2) ((rd_T50 l0 x3_1).f3))) = some r := H
    have A10 := Aside0.mk A100
    clear A100
    by_cases c11 : t261 = true
    rotate_left
    ·replace c11 := Bool.eq_false_iff.mpr c11
     subst c11
     have H1 : (spec_FacingsOK.j1 k1 l0 x3_1 true ((rd_T50 l0 x3_1).f0) ((rd_T50 l0 x3_1).f1) ((rd_T50 l0 x3_1).f2) ((rd_T50 l0 x3_1).f3)) = some r := by rw [if_neg (show ¬ (false = true) by decide)] at H; exact H
     clear H
     have H := H1
     clear H1
     have H' := Aside0.mk H
     clear H
     have hcz18_0 : w6.cell? ⟨gb259, 0, none⟩ = some (.string (⟨#[]⟩ : ByteArray)) := (blk_cell BK259.out 0).trans rfl
     have hcz18_1 : w6.cell? ⟨gb259, 1, none⟩ = some (.int .i64 0) := (blk_cell BK259.out 1).trans rfl
     have hcz18_2 : w6.cell? ⟨gb259, 2, none⟩ = some (.int .i64 0) := (blk_cell BK259.out 2).trans rfl
     have hcz18_3 : w6.cell? ⟨gb259, 3, none⟩ = some (.slice none 0 0) := (blk_cell BK259.out 3).trans rfl
     have hfz18_0 := blk_frozen BK259.out 0
     have hfz18_1 := blk_frozen BK259.out 1
     have hfz18_2 := blk_frozen BK259.out 2
     have hfz18_3 := blk_frozen BK259.out 3
     go_wp2_with (first | (go_at_call 25; (with_reducible refine (spec_NameOK.calls k1 ((rd_T50 l0 x3_1).f0) true _ A8.out).mono ?_); rintro e w' ⟨rfl, ⟨nd, rfl⟩⟩; (try exact dr_)) | (go_at_call 26; (with_reducible refine (spec_l01In.calls ((rd_T50 l0 x3_1).f1) 1 2000 false _ A10.out).mono ?_); rintro e w' ⟨rfl, ⟨nd, rfl⟩⟩; (try exact dr_)))
     repeat (go_quiet (fail); try go_wp2_with (first | (go_at_call 25; (with_reducible refine (spec_NameOK.calls k1 ((rd_T50 l0 x3_1).f0) true _ A8.out).mono ?_); rintro e w' ⟨rfl, ⟨nd, rfl⟩⟩; (try exact dr_)) | (go_at_call 26; (with_reducible refine (spec_l01In.calls ((rd_T50 l0 x3_1).f1) 1 2000 false _ A10.out).mono ?_); rintro e w' ⟨rfl, ⟨nd, rfl⟩⟩; (try exact dr_))))
     go_meet
     case rel => exact ⟨_, (true), (by first | rfl | (simp; done) | (simp [*]; done)), H', ⟨by have := HK1.out; first | omega | exact Nat.le_refl _⟩, ⟨by (with_reducible repeat (first | refine blk_drewN ?_ _ | refine blk_drew ?_ | refine blk_alloc ?_ _)); refine blk_put (cs := #[.string ((rd_T50 l0 x3_1).f0), .int .i64 ((rd_T50 l0 x3_1).f1), .int .i64 ((rd_T50 l0 x3_1).f2), .slice none 0 0]) ?_ 3 _ rfl; (with_reducible repeat (first | refine blk_drewN ?_ _ | refine blk_drew ?_ | refine blk_alloc ?_ _)); refine blk_put (cs := #[.string ((rd_T50 l0 x3_1).f0), .int .i64 ((rd_T50 l0 x3_1).f1), .int .i64 0, .slice none 0 0]) ?_ 2 _ rfl; (with_reducible repeat (first | refine blk_drewN ?_ _ | refine blk_drew ?_ | refine blk_alloc ?_ _)); refine blk_put (cs := #[.string ((rd_T50 l0 x3_1).f0), .int .i64 0, .int .i64 0, .slice none 0 0]) ?_ 1 _ rfl; (with_reducible repeat (first | refine blk_drewN ?_ _ | refine blk_drew ?_ | refine blk_alloc ?_ _)); refine blk_put (cs := #[.string (⟨#[]⟩ : ByteArray), .int .i64 0, .int .i64 0, .slice none 0 0]) ?_ 0 _ rfl; (with_reducible repeat (first | refine blk_drewN ?_ _ | refine blk_drew ?_ | refine blk_alloc ?_ _)); exact BK259.out⟩, ⟨by repeat (first | (with_reducible first | exact HB.out | apply below_alloc | apply pw_below_drewN | apply below_drew1 | refine below_set ?_ GE259.out) | exact HB.out)⟩⟩
    subst c11
    have H1 : (if (((rd_T50 l0 x3_1).f3).length : Int) < 1 then (spec_FacingsOK.j1 k1 l0 x3_1 true ((rd_T50 l0 x3_1).f0) ((rd_T50 l0 x3_1).f1) ((rd_T50 l0 x3_1).f2) ((rd_T50 l0 x3_1).f3)) else (if (((rd_T50 l0 x3_1).f3).length : Int) > 6 then (spec_FacingsOK.j1 k1 l0 x3_1 true ((rd_T50 l0 x3_1).f0) ((rd_T50 l0 x3_1).f1) ((rd_T50 l0 x3_1).f2) ((rd_T50 l0 x3_1).f3)) else ((spec_l01In.f ((rd_T50 l0 x3_1).f2) 0 (((rd_T50 l0 x3_1).f3).length : Int)).bind fun t262 => (spec_FacingsOK.j1 k1 l0 x3_1 (!t262) ((rd_T50 l0 x3_1).f0) ((rd_T50 l0 x3_1).f1) ((rd_T50 l0 x3_1).f2) ((rd_T50 l0 x3_1).f3))))) = some r := by rw [if_pos rfl] at H; exact H
    clear H
    have H := H1
    clear H1
    by_cases c12 : (((rd_T50 l0 x3_1).f3).length : Int) < 1
    ·rw [if_pos c12] at H
     have c12b0 : decide ((((rd_T50 l0 x3_1).f3).length : Int) < 1) = true := decide_eq_true c12
     have c12b1 : decide (((rd_T50 l0 x3_1).f3).length < 1) = true := decide_eq_true (by omega)
     clear c12
     (first | rw [c12b0] | (simp only [i64_w, i32_w]; rw [c12b0]) | skip)
     have H' := Aside0.mk H
     clear H
     have hcz13_0 : w6.cell? ⟨gb259, 0, none⟩ = some (.string (⟨#[]⟩ : ByteArray)) := (blk_cell BK259.out 0).trans rfl
     have hcz13_1 : w6.cell? ⟨gb259, 1, none⟩ = some (.int .i64 0) := (blk_cell BK259.out 1).trans rfl
     have hcz13_2 : w6.cell? ⟨gb259, 2, none⟩ = some (.int .i64 0) := (blk_cell BK259.out 2).trans rfl
     have hcz13_3 : w6.cell? ⟨gb259, 3, none⟩ = some (.slice none 0 0) := (blk_cell BK259.out 3).trans rfl
     have hfz13_0 := blk_frozen BK259.out 0
     have hfz13_1 := blk_frozen BK259.out 1
     have hfz13_2 := blk_frozen BK259.out 2
     have hfz13_3 := blk_frozen BK259.out 3
     go_wp2_with (first | (go_at_call 25; (with_reducible refine (spec_NameOK.calls k1 ((rd_T50 l0 x3_1).f0) true _ A8.out).mono ?_); rintro e w' ⟨rfl, ⟨nd, rfl⟩⟩; (try exact dr_)) | (go_at_call 26; (with_reducible refine (spec_l01In.calls ((rd_T50 l0 x3_1).f1) 1 2000 true _ A10.out).mono ?_); rintro e w' ⟨rfl, ⟨nd, rfl⟩⟩; (try exact dr_)))
     repeat (go_quiet (fail); try go_wp2_with (first | (go_at_call 25; (with_reducible refine (spec_NameOK.calls k1 ((rd_T50 l0 x3_1).f0) true _ A8.out).mono ?_); rintro e w' ⟨rfl, ⟨nd, rfl⟩⟩; (try exact dr_)) | (go_at_call 26; (with_reducible refine (spec_l01In.calls ((rd_T50 l0 x3_1).f1) 1 2000 true _ A10.out).mono ?_); rintro e w' ⟨rfl, ⟨nd, rfl⟩⟩; (try exact dr_))))
     go_meet
     case rel => exact ⟨_, (true), (by first | rfl | (simp; done) | (simp [*]; done)), H', ⟨by have := HK1.out; first | omega | exact Nat.le_refl _⟩, ⟨by (with_reducible repeat (first | refine blk_drewN ?_ _ | refine blk_drew ?_ | refine blk_alloc ?_ _)); refine blk_put (cs := #[.string ((rd_T50 l0 x3_1).f0), .int .i64 ((rd_T50 l0 x3_1).f1), .int .i64 ((rd_T50 l0 x3_1).f2), .slice none 0 0]) ?_ 3 _ rfl; (with_reducible repeat (first | refine blk_drewN ?_ _ | refine blk_drew ?_ | refine blk_alloc ?_ _)); refine blk_put (cs := #[.string ((rd_T50 l0 x3_1).f0), .int .i64 ((rd_T50 l0 x3_1).f1), .int .i64 0, .slice none 0 0]) ?_ 2 _ rfl; (with_reducible repeat (first | refine blk_drewN ?_ _ | refine blk_drew ?_ | refine blk_alloc ?_ _)); refine blk_put (cs := #[.string ((rd_T50 l0 x3_1).f0), .int .i64 0, .int .i64 0, .slice none 0 0]) ?_ 1 _ rfl; (with_reducible repeat (first | refine blk_drewN ?_ _ | refine blk_drew ?_ | refine blk_alloc ?_ _)); refine blk_put (cs := #[.string (⟨#[]⟩ : ByteArray), .int .i64 0, .int .i64 0, .slice none 0 0]) ?_ 0 _ rfl; (with_reducible repeat (first | refine blk_drewN ?_ _ | refine blk_drew ?_ | refine blk_alloc ?_ _)); exact BK259.out⟩, ⟨by repeat (first | (with_reducible first | exact HB.out | apply below_alloc | apply pw_below_drewN | apply below_drew1 | refine below_set ?_ GE259.out) | exact HB.out)⟩⟩
    rw [if_neg c12] at H
    have c12b0 : decide ((((rd_T50 l0 x3_1).f3).length : Int) < 1) = false := decide_eq_false c12
    have c12b1 : decide (((rd_T50 l0 x3_1).f3).length < 1) = false := decide_eq_false (by omega)
    clear c12
    (first | rw [c12b0] | (simp only [i64_w, i32_w]; rw [c12b0]) | skip)
    by_cases c14 : (((rd_T50 l0 x3_1).f3).length : Int) > 6
    ·rw [if_pos c14] at H
     have c14b0 : decide (6 < (((rd_T50 l0 x3_1).f3).length : Int)) = true := decide_eq_true c14
     have c14b1 : decide (6 < ((rd_T50 l0 x3_1).f3).length) = true := decide_eq_true (by omega)
     clear c14
     have H' := Aside0.mk H
     clear H
     have hcz15_0 : w6.cell? ⟨gb259, 0, none⟩ = some (.string (⟨#[]⟩ : ByteArray)) := (blk_cell BK259.out 0).trans rfl
     have hcz15_1 : w6.cell? ⟨gb259, 1, none⟩ = some (.int .i64 0) := (blk_cell BK259.out 1).trans rfl
     have hcz15_2 : w6.cell? ⟨gb259, 2, none⟩ = some (.int .i64 0) := (blk_cell BK259.out 2).trans rfl
     have hcz15_3 : w6.cell? ⟨gb259, 3, none⟩ = some (.slice none 0 0) := (blk_cell BK259.out 3).trans rfl
     have hfz15_0 := blk_frozen BK259.out 0
     have hfz15_1 := blk_frozen BK259.out 1
     have hfz15_2 := blk_frozen BK259.out 2
     have hfz15_3 := blk_frozen BK259.out 3
     go_wp2_with (first | (go_at_call 25; (with_reducible refine (spec_NameOK.calls k1 ((rd_T50 l0 x3_1).f0) true _ A8.out).mono ?_); rintro e w' ⟨rfl, ⟨nd, rfl⟩⟩; (try exact dr_)) | (go_at_call 26; (with_reducible refine (spec_l01In.calls ((rd_T50 l0 x3_1).f1) 1 2000 true _ A10.out).mono ?_); rintro e w' ⟨rfl, ⟨nd, rfl⟩⟩; (try exact dr_)))
     repeat (go_quiet (fail); try go_wp2_with (first | (go_at_call 25; (with_reducible refine (spec_NameOK.calls k1 ((rd_T50 l0 x3_1).f0) true _ A8.out).mono ?_); rintro e w' ⟨rfl, ⟨nd, rfl⟩⟩; (try exact dr_)) | (go_at_call 26; (with_reducible refine (spec_l01In.calls ((rd_T50 l0 x3_1).f1) 1 2000 true _ A10.out).mono ?_); rintro e w' ⟨rfl, ⟨nd, rfl⟩⟩; (try exact dr_))))
     go_meet
     case rel => exact ⟨_, (true), (by first | rfl | (simp; done) | (simp [*]; done)), H', ⟨by have := HK1.out; first | omega | exact Nat.le_refl _⟩, ⟨by (with_reducible repeat (first | refine blk_drewN ?_ _ | refine blk_drew ?_ | refine blk_alloc ?_ _)); refine blk_put (cs := #[.string ((rd_T50 l0 x3_1).f0), .int .i64 ((rd_T50 l0 x3_1).f1), .int .i64 ((rd_T50 l0 x3_1).f2), .slice none 0 0]) ?_ 3 _ rfl; (with_reducible repeat (first | refine blk_drewN ?_ _ | refine blk_drew ?_ | refine blk_alloc ?_ _)); refine blk_put (cs := #[.string ((rd_T50 l0 x3_1).f0), .int .i64 ((rd_T50 l0 x3_1).f1), .int .i64 0, .slice none 0 0]) ?_ 2 _ rfl; (with_reducible repeat (first | refine blk_drewN ?_ _ | refine blk_drew ?_ | refine blk_alloc ?_ _)); refine blk_put (cs := #[.string ((rd_T50 l0 x3_1).f0), .int .i64 0, .int .i64 0, .slice none 0 0]) ?_ 1 _ rfl; (with_reducible repeat (first | refine blk_drewN ?_ _ | refine blk_drew ?_ | refine blk_alloc ?_ _)); refine blk_put (cs := #[.string (⟨#[]⟩ : ByteArray), .int .i64 0, .int .i64 0, .slice none 0 0]) ?_ 0 _ rfl; (with_reducible repeat (first | refine blk_drewN ?_ _ | refine blk_drew ?_ | refine blk_alloc ?_ _)); exact BK259.out⟩, ⟨by repeat (first | (with_reducible first | exact HB.out | apply below_alloc | apply pw_below_drewN | apply below_drew1 | refine below_set ?_ GE259.out) | exact HB.out)⟩⟩
    rw [if_neg c14] at H
    have c14b0 : decide (6 < (((rd_T50 l0 x3_1).f3).length : Int)) = false := decide_eq_false c14
    have c14b1 : decide (6 < ((rd_T50 l0 x3_1).f3).length) = false := decide_eq_false (by omega)
    clear c14
    replace H := Option.bind_eq_some_iff.mp H
    obtain ⟨t262, A160, H⟩ := H
    replace H : (spec_FacingsOK.j1 k1 l0 x3_1 (!t262) ((rd_T50 l0 x3_1).f0) ((rd_T50 l0 x3_1).f1) ((rd_T50 l0 x3_1).f2) ((rd_T50 l0 x3_1).f3)) = some r := H
    have A16 := Aside0.mk A160
    clear A160
    have H' := Aside0.mk H
    clear H
    have hcz17_0 : w6.cell? ⟨gb259, 0, none⟩ = some (.string (⟨#[]⟩ : ByteArray)) := (blk_cell BK259.out 0).trans rfl
    have hcz17_1 : w6.cell? ⟨gb259, 1, none⟩ = some (.int .i64 0) := (blk_cell BK259.out 1).trans rfl
    have hcz17_2 : w6.cell? ⟨gb259, 2, none⟩ = some (.int .i64 0) := (blk_cell BK259.out 2).trans rfl
    have hcz17_3 : w6.cell? ⟨gb259, 3, none⟩ = some (.slice none 0 0) := (blk_cell BK259.out 3).trans rfl
    have hfz17_0 := blk_frozen BK259.out 0
    have hfz17_1 := blk_frozen BK259.out 1
    have hfz17_2 := blk_frozen BK259.out 2
    have hfz17_3 := blk_frozen BK259.out 3
    go_wp2_with (first | (go_at_call 25; (with_reducible refine (spec_NameOK.calls k1 ((rd_T50 l0 x3_1).f0) true _ A8.out).mono ?_); rintro e w' ⟨rfl, ⟨nd, rfl⟩⟩; (try exact dr_)) | (go_at_call 26; (with_reducible refine (spec_l01In.calls ((rd_T50 l0 x3_1).f1) 1 2000 true _ A10.out).mono ?_); rintro e w' ⟨rfl, ⟨nd, rfl⟩⟩; (try exact dr_)) | (go_at_call 26; (with_reducible refine (spec_l01In.calls ((rd_T50 l0 x3_1).f2) 0 (((rd_T50 l0 x3_1).f3).length : Int) t262 _ A16.out).mono ?_); rintro e w' ⟨rfl, ⟨nd, rfl⟩⟩; (try exact dr_)))
    repeat (go_quiet (fail); try go_wp2_with (first | (go_at_call 25; (with_reducible refine (spec_NameOK.calls k1 ((rd_T50 l0 x3_1).f0) true _ A8.out).mono ?_); rintro e w' ⟨rfl, ⟨nd, rfl⟩⟩; (try exact dr_)) | (go_at_call 26; (with_reducible refine (spec_l01In.calls ((rd_T50 l0 x3_1).f1) 1 2000 true _ A10.out).mono ?_); rintro e w' ⟨rfl, ⟨nd, rfl⟩⟩; (try exact dr_)) | (go_at_call 26; (with_reducible refine (spec_l01In.calls ((rd_T50 l0 x3_1).f2) 0 (((rd_T50 l0 x3_1).f3).length : Int) t262 _ A16.out).mono ?_); rintro e w' ⟨rfl, ⟨nd, rfl⟩⟩; (try exact dr_))))
    go_meet
    case rel => exact ⟨_, (!t262), (by first | rfl | (simp; done) | (simp [*]; done)), H', ⟨by have := HK1.out; first | omega | exact Nat.le_refl _⟩, ⟨by (with_reducible repeat (first | refine blk_drewN ?_ _ | refine blk_drew ?_ | refine blk_alloc ?_ _)); refine blk_put (cs := #[.string ((rd_T50 l0 x3_1).f0), .int .i64 ((rd_T50 l0 x3_1).f1), .int .i64 ((rd_T50 l0 x3_1).f2), .slice none 0 0]) ?_ 3 _ rfl; (with_reducible repeat (first | refine blk_drewN ?_ _ | refine blk_drew ?_ | refine blk_alloc ?_ _)); refine blk_put (cs := #[.string ((rd_T50 l0 x3_1).f0), .int .i64 ((rd_T50 l0 x3_1).f1), .int .i64 0, .slice none 0 0]) ?_ 2 _ rfl; (with_reducible repeat (first | refine blk_drewN ?_ _ | refine blk_drew ?_ | refine blk_alloc ?_ _)); refine blk_put (cs := #[.string ((rd_T50 l0 x3_1).f0), .int .i64 0, .int .i64 0, .slice none 0 0]) ?_ 1 _ rfl; (with_reducible repeat (first | refine blk_drewN ?_ _ | refine blk_drew ?_ | refine blk_alloc ?_ _)); refine blk_put (cs := #[.string (⟨#[]⟩ : ByteArray), .int .i64 0, .int .i64 0, .slice none 0 0]) ?_ 0 _ rfl; (with_reducible repeat (first | refine blk_drewN ?_ _ | refine blk_drew ?_ | refine blk_alloc ?_ _)); exact BK259.out⟩, ⟨by repeat (first | (with_reducible first | exact HB.out | apply below_alloc | apply pw_below_drewN | apply below_drew1 | refine below_set ?_ GE259.out) | exact HB.out)⟩⟩
   case rest =>
    clear HC5
    (try clear c1); (try clear q2); (try clear hx2); (try clear c3); (try clear c3b0); (try clear c4); (try clear c4b0); (try clear c8); (try clear c9); (try clear c11); (try clear c12); (try clear c12b0); (try clear c12b1); (try clear c14); (try clear c14b0); (try clear c14b1); (try clear hcz13_0); (try clear hcz13_1); (try clear hcz13_2); (try clear hcz13_3); (try clear hcz15_0); (try clear hcz15_1); (try clear hcz15_2); (try clear hcz15_3); (try clear hcz17_0); (try clear hcz17_1); (try clear hcz17_2); (try clear hcz17_3); (try clear hcz18_0); (try clear hcz18_1); (try clear hcz18_2); (try clear hcz18_3); (try clear hcz19_0); (try clear hcz19_1); (try clear hcz19_2); (try clear hcz19_3); (try clear hcz7_0); (try clear hcz7_1); (try clear hcz7_2); (try clear hcz7_3); (try clear hfz13_0); (try clear hfz13_1); (try clear hfz13_2); (try clear hfz13_3); (try clear hfz15_0); (try clear hfz15_1); (try clear hfz15_2); (try clear hfz15_3); (try clear hfz17_0); (try clear hfz17_1); (try clear hfz17_2); (try clear hfz17_3); (try clear hfz18_0); (try clear hfz18_1); (try clear hfz18_2); (try clear hfz18_3); (try clear hfz19_0); (try clear hfz19_1); (try clear hfz19_2); (try clear hfz19_3); (try clear hfz7_0); (try clear hfz7_1); (try clear hfz7_2); (try clear hfz7_3); (try clear hx258_0); (try clear hx258_1); (try clear hx258_2); (try clear hx258_3); (try clear p258); (try clear q258)
    obtain ⟨kq, x50_4, rfl, HA, HJ4, BK259, HB⟩ := hcut
    cases kq with
    | zero => exact absurd HA.out (by simp [spec_FacingsOK.j1])
    | succ kj4 =>
     have H := HA.out
     clear HA
     simp only [spec_FacingsOK.j1] at H
     by_cases c20 : x50_4 = true
     ·subst c20
      have H1 : (some false) = some r := by rw [if_pos rfl] at H; exact H
      clear H
      have H := H1
      clear H1
      obtain rfl := Option.some.inj H
      go_wp2
      repeat (go_quiet (fail); try go_wp2)
      go_ret
      exact ⟨by first | rfl | (simp [errW_none, errW_some] <;> rfl) | (simp [*, errW_none, errW_some] <;> rfl), by repeat (first | (with_reducible first | exact HB.out | apply below_alloc | apply pw_below_drewN | apply below_drew1 | refine below_set ?_ GE259.out) | exact HB.out)⟩
     replace c20 := Bool.eq_false_iff.mpr c20
     subst c20
     have H1 : (spec_FacingsOK.l1 kj4 l0 x3_1 0 ((rd_T50 l0 x3_1).f0) ((rd_T50 l0 x3_1).f1) ((rd_T50 l0 x3_1).f2) ((rd_T50 l0 x3_1).f3)) = some r := by rw [if_neg (show ¬ (false = true) by decide)] at H; exact H
     clear H
     have H := H1
     clear H1
     have H' := Aside0.mk H
     clear H
     go_wp2
     repeat (go_quiet (fail); try go_wp2)
     go_loopg [5] kj4 (fun kq v5 w' => ∃ (x5_3 : Int), v5 = .int .i64 x5_3 ∧ Aside0 (spec_FacingsOK.l1 kq l0 x3_1 x5_3 ((rd_T50 l0 x3_1).f0) ((rd_T50 l0 x3_1).f1) ((rd_T50 l0 x3_1).f2) ((rd_T50 l0 x3_1).f3) = some r) ∧ Aside0 (kq ≤ kj4) ∧ Aside0 (w'.heap[gb259]? = some (.cells #[.string ((rd_T50 l0 x3_1).f0), .int .i64 ((rd_T50 l0 x3_1).f1), .int .i64 ((rd_T50 l0 x3_1).f2), (.slice A258_3 ((rd_T50 l0 x3_1).f3).length c258_3)] 50 (0, 0))) ∧ Aside0 (Below w.heap.size w w'))
     case atStart => exact ⟨(0), (by first | rfl | (simp; done) | (simp [*]; done)), H', ⟨Nat.le_refl _⟩, ⟨by (with_reducible repeat (first | refine blk_drewN ?_ _ | refine blk_drew ?_ | refine blk_alloc ?_ _)); exact BK259.out⟩, ⟨by repeat (first | (with_reducible first | exact HB.out | apply below_alloc | apply pw_below_drewN | apply below_drew1 | refine below_set ?_ GE259.out) | exact HB.out)⟩⟩
     case round =>
      clear H'
      try clear c20
      obtain ⟨x5_3, rfl, HA, HK3, BK259, HB⟩ := hrel
      cases gk with
      | zero => exact absurd HA.out (by simp [spec_FacingsOK.l1])
      | succ k3 =>
       have H := HA.out
       clear HA
       simp only [spec_FacingsOK.l1] at H
       by_cases c21 : x5_3 < (((rd_T50 l0 x3_1).f3).length : Int)
       ·rw [if_pos c21] at H
        have c21b0 : decide (x5_3 < (((rd_T50 l0 x3_1).f3).length : Int)) = true := decide_eq_true c21
        clear c21
        by_cases c22 : 0 ≤ x5_3
        rotate_left
        ·rw [if_neg c22] at H
         exact absurd H (by simp)
        rw [if_pos c22] at H
        have c22b0 : decide (0 ≤ x5_3) = true := decide_eq_true c22
        clear c22
        replace H := Option.bind_eq_some_iff.mp H
        obtain ⟨t264, A230, H⟩ := H
        replace H : (if t264 = true then (spec_FacingsOK.l1 k3 l0 x3_1 (wrap64 (x5_3 + 1)) ((rd_T50 l0 x3_1).f0) ((rd_T50 l0 x3_1).f1) ((rd_T50 l0 x3_1).f2) ((rd_T50 l0 x3_1).f3)) else (some false)) = some r := H
        have A23 := Aside0.mk A230
        clear A230
        by_cases c24 : t264 = true
        rotate_left
        ·replace c24 := Bool.eq_false_iff.mpr c24
         subst c24
         have H1 : (some false) = some r := by rw [if_neg (show ¬ (false = true) by decide)] at H; exact H
         clear H
         have H := H1
         clear H1
         obtain rfl := Option.some.inj H
         have hcz26_0 : wr.cell? ⟨gb259, 0, none⟩ = some (.string ((rd_T50 l0 x3_1).f0)) := (blk_cell BK259.out 0).trans rfl
         have hcz26_1 : wr.cell? ⟨gb259, 1, none⟩ = some (.int .i64 ((rd_T50 l0 x3_1).f1)) := (blk_cell BK259.out 1).trans rfl
         have hcz26_2 : wr.cell? ⟨gb259, 2, none⟩ = some (.int .i64 ((rd_T50 l0 x3_1).f2)) := (blk_cell BK259.out 2).trans rfl
         have hcz26_3 : wr.cell? ⟨gb259, 3, none⟩ = some (.slice A258_3 ((rd_T50 l0 x3_1).f3).length c258_3) := (blk_cell BK259.out 3).trans rfl
         have hfz26_0 := blk_frozen BK259.out 0
         have hfz26_1 := blk_frozen BK259.out 1
         have hfz26_2 := blk_frozen BK259.out 2
         have hfz26_3 := blk_frozen BK259.out 3
         have p263 : 0 ≤ (x5_3 : Int) := od_
         have q263 : x5_3 < (((rd_T50 l0 x3_1).f3).length : Int) := od_
         obtain ⟨ad263, e263, hx263_0⟩ := Kd.at_int HR258_3.out x5_3 p263 q263
         cases e263
         replace hx263_0 := (HB.out.cell (World.block_lt_of_cell? w _ hx263_0)).trans hx263_0
         replace p263 := eq_true p263
         replace q263 := eq_true q263
         go_wp2_with (first | (go_at_call 26; (with_reducible refine (spec_l01In.calls (rd ((rd_T50 l0 x3_1).f3) x5_3) 0 100000 false _ A23.out).mono ?_); rintro e w' ⟨rfl, ⟨nd, rfl⟩⟩; (try exact dr_)))
         repeat (go_quiet (fail); try go_wp2_with (first | (go_at_call 26; (with_reducible refine (spec_l01In.calls (rd ((rd_T50 l0 x3_1).f3) x5_3) 0 100000 false _ A23.out).mono ?_); rintro e w' ⟨rfl, ⟨nd, rfl⟩⟩; (try exact dr_))))
         go_ret
         exact ⟨by first | rfl | (simp [errW_none, errW_some] <;> rfl) | (simp [*, errW_none, errW_some] <;> rfl), by repeat (first | (with_reducible first | exact HB.out | apply below_alloc | apply pw_below_drewN | apply below_drew1 | refine below_set ?_ GE259.out) | exact HB.out)⟩
        subst c24
        have H1 : (spec_FacingsOK.l1 k3 l0 x3_1 (wrap64 (x5_3 + 1)) ((rd_T50 l0 x3_1).f0) ((rd_T50 l0 x3_1).f1) ((rd_T50 l0 x3_1).f2) ((rd_T50 l0 x3_1).f3)) = some r := by rw [if_pos rfl] at H; exact H
        clear H
        have H := H1
        clear H1
        have H' := Aside0.mk H
        clear H
        have hcz25_0 : wr.cell? ⟨gb259, 0, none⟩ = some (.string ((rd_T50 l0 x3_1).f0)) := (blk_cell BK259.out 0).trans rfl
        have hcz25_1 : wr.cell? ⟨gb259, 1, none⟩ = some (.int .i64 ((rd_T50 l0 x3_1).f1)) := (blk_cell BK259.out 1).trans rfl
        have hcz25_2 : wr.cell? ⟨gb259, 2, none⟩ = some (.int .i64 ((rd_T50 l0 x3_1).f2)) := (blk_cell BK259.out 2).trans rfl
        have hcz25_3 : wr.cell? ⟨gb259, 3, none⟩ = some (.slice A258_3 ((rd_T50 l0 x3_1).f3).length c258_3) := (blk_cell BK259.out 3).trans rfl
        have hfz25_0 := blk_frozen BK259.out 0
        have hfz25_1 := blk_frozen BK259.out 1
        have hfz25_2 := blk_frozen BK259.out 2
        have hfz25_3 := blk_frozen BK259.out 3
        have p263 : 0 ≤ (x5_3 : Int) := od_
        have q263 : x5_3 < (((rd_T50 l0 x3_1).f3).length : Int) := od_
        obtain ⟨ad263, e263, hx263_0⟩ := Kd.at_int HR258_3.out x5_3 p263 q263
        cases e263
        replace hx263_0 := (HB.out.cell (World.block_lt_of_cell? w _ hx263_0)).trans hx263_0
        replace p263 := eq_true p263
        replace q263 := eq_true q263
        go_wp2_with (first | (go_at_call 26; (with_reducible refine (spec_l01In.calls (rd ((rd_T50 l0 x3_1).f3) x5_3) 0 100000 true _ A23.out).mono ?_); rintro e w' ⟨rfl, ⟨nd, rfl⟩⟩; (try exact dr_)))
        repeat (go_quiet (fail); try go_wp2_with (first | (go_at_call 26; (with_reducible refine (spec_l01In.calls (rd ((rd_T50 l0 x3_1).f3) x5_3) 0 100000 true _ A23.out).mono ?_); rintro e w' ⟨rfl, ⟨nd, rfl⟩⟩; (try exact dr_))))
        go_roundg k3
        case measure => have := HK1.out; have := HJ4.out; have := HK3.out; omega
        case rel => exact ⟨(wrap64 (x5_3 + 1)), (by first | rfl | (simp; done) | (simp [*]; done)), H', ⟨by have := HK1.out; have := HJ4.out; have := HK3.out; omega⟩, ⟨by (with_reducible repeat (first | refine blk_drewN ?_ _ | refine blk_drew ?_ | refine blk_alloc ?_ _)); exact BK259.out⟩, ⟨by repeat (first | (with_reducible first | exact HB.out | apply below_alloc | apply pw_below_drewN | apply below_drew1 | refine below_set ?_ GE259.out) | exact HB.out)⟩⟩
       rw [if_neg c21] at H
       have c21b0 : decide (x5_3 < (((rd_T50 l0 x3_1).f3).length : Int)) = false := decide_eq_false c21
       clear c21
       have H' := Aside0.mk H
       clear H
       have hcz27_0 : wr.cell? ⟨gb259, 0, none⟩ = some (.string ((rd_T50 l0 x3_1).f0)) := (blk_cell BK259.out 0).trans rfl
       have hcz27_1 : wr.cell? ⟨gb259, 1, none⟩ = some (.int .i64 ((rd_T50 l0 x3_1).f1)) := (blk_cell BK259.out 1).trans rfl
       have hcz27_2 : wr.cell? ⟨gb259, 2, none⟩ = some (.int .i64 ((rd_T50 l0 x3_1).f2)) := (blk_cell BK259.out 2).trans rfl
       have hcz27_3 : wr.cell? ⟨gb259, 3, none⟩ = some (.slice A258_3 ((rd_T50 l0 x3_1).f3).length c258_3) := (blk_cell BK259.out 3).trans rfl
       have hfz27_0 := blk_frozen BK259.out 0
       have hfz27_1 := blk_frozen BK259.out 1
       have hfz27_2 := blk_frozen BK259.out 2
       have hfz27_3 := blk_frozen BK259.out 3
       go_wp2
       repeat (go_quiet (fail); try go_wp2)
       go_loopg [6] k3 (fun kq v6 w' => ∃ (x6_4 : Int), v6 = .int .i64 x6_4 ∧ Aside0 (spec_FacingsOK.l2 kq l0 x3_1 x6_4 ((rd_T50 l0 x3_1).f0) ((rd_T50 l0 x3_1).f1) ((rd_T50 l0 x3_1).f2) ((rd_T50 l0 x3_1).f3) = some r) ∧ Aside0 (kq ≤ k3) ∧ Aside0 (w'.heap[gb259]? = some (.cells #[.string ((rd_T50 l0 x3_1).f0), .int .i64 ((rd_T50 l0 x3_1).f1), .int .i64 ((rd_T50 l0 x3_1).f2), (.slice A258_3 ((rd_T50 l0 x3_1).f3).length c258_3)] 50 (0, 0))) ∧ Aside0 (Below w.heap.size w w'))
       case atStart => exact ⟨(0), (by first | rfl | (simp; done) | (simp [*]; done)), H', ⟨Nat.le_refl _⟩, ⟨by (with_reducible repeat (first | refine blk_drewN ?_ _ | refine blk_drew ?_ | refine blk_alloc ?_ _)); exact BK259.out⟩, ⟨by repeat (first | (with_reducible first | exact HB.out | apply below_alloc | apply pw_below_drewN | apply below_drew1 | refine below_set ?_ GE259.out) | exact HB.out)⟩⟩
       case round =>
        clear H'
        (try clear p6); (try clear c21); (try clear c21b0); (try clear c22); (try clear c22b0); (try clear c24); (try clear c25); (try clear p25); (try clear q25); (try clear hx25); (try clear p26); (try clear q26); (try clear hx26); (try clear hcz25_0); (try clear hcz25_1); (try clear hcz25_2); (try clear hcz25_3); (try clear hcz26_0); (try clear hcz26_1); (try clear hcz26_2); (try clear hcz26_3); (try clear hcz27_0); (try clear hcz27_1); (try clear hcz27_2); (try clear hcz27_3); (try clear hfz25_0); (try clear hfz25_1); (try clear hfz25_2); (try clear hfz25_3); (try clear hfz26_0); (try clear hfz26_1); (try clear hfz26_2); (try clear hfz26_3); (try clear hfz27_0); (try clear hfz27_1); (try clear hfz27_2); (try clear hfz27_3); (try clear hx263_0); (try clear p263); (try clear q263)
        obtain ⟨x6_4, rfl, HA, HK4, BK259, HB⟩ := hrel
        cases gk with
        | zero => exact absurd HA.out (by simp [spec_FacingsOK.l2])
        | succ k4 =>
         have H := HA.out
         clear HA
         simp only [spec_FacingsOK.l2] at H
         by_cases c28 : x6_4 < x3_1
         rotate_left
         ·rw [if_neg c28] at H
          have c28b0 : decide (x6_4 < x3_1) = false := decide_eq_false c28
          clear c28
          have H' := Aside0.mk H
          clear H
          go_wp2
          repeat (go_quiet (fail); try go_wp2)
          go_roundg k4
          case measure => have := HK1.out; have := HJ4.out; have := HK3.out; have := HK4.out; omega
          case rel => exact ⟨(wrap64 (x3_1 + 1)), (by first | rfl | (simp; done) | (simp [*]; done)), H', ⟨by have := HK1.out; have := HJ4.out; have := HK3.out; have := HK4.out; omega⟩, ⟨by repeat (first | (with_reducible first | exact HB.out | apply below_alloc | apply pw_below_drewN | apply below_drew1 | refine below_set ?_ GE259.out) | exact HB.out)⟩⟩
         rw [if_pos c28] at H
         have c28b0 : decide (x6_4 < x3_1) = true := decide_eq_true c28
         clear c28
         by_cases c29 : 0 ≤ x6_4
         rotate_left
         ·rw [if_neg c29] at H
          exact absurd H (by simp)
         rw [if_pos c29] at H
         have c29b0 : decide (0 ≤ x6_4) = true := decide_eq_true c29
         clear c29
         by_cases c30 : x6_4 < (l0.length : Int)
         rotate_left
         ·rw [if_neg c30] at H
          exact absurd H (by simp)
         rw [if_pos c30] at H
         have c30b0 : decide (x6_4 < (l0.length : Int)) = true := decide_eq_true c30
         clear c30
         by_cases c31 : ((rd_T50 l0 x6_4).f0).toList = ((rd_T50 l0 x3_1).f0).toList
         ·rw [if_pos c31] at H
          have c31b0 : (((rd_T50 l0 x6_4).f0).toList == ((rd_T50 l0 x3_1).f0).toList) = true := beq_iff_eq.mpr c31
          have c31b1 : (((rd_T50 l0 x6_4).f0).toList != ((rd_T50 l0 x3_1).f0).toList) = false := bne_eq_false_iff_eq.mpr c31
          clear c31
          obtain rfl := Option.some.inj H
          have p265 : 0 ≤ (x6_4 : Int) := od_
          have q265 : x6_4 < (l0.length : Int) := od_
          obtain ⟨ad265, A265_3, c265_3, e265, hx265_0, hx265_1, hx265_2, hx265_3, hl265_3, hi265_3⟩ := at_T50 HR0.out x6_4 p265 q265
          obtain rfl : ad258 = ad265 := (by injection e265)
          replace hx265_0 := (HB.out.cell (World.block_lt_of_cell? w _ hx265_0)).trans hx265_0
          replace hx265_1 := (HB.out.cell (World.block_lt_of_cell? w _ hx265_1)).trans hx265_1
          replace hx265_2 := (HB.out.cell (World.block_lt_of_cell? w _ hx265_2)).trans hx265_2
          replace hx265_3 := (HB.out.cell (World.block_lt_of_cell? w _ hx265_3)).trans hx265_3
          have HR265_3 := Aside0.mk hi265_3
          have HC265_3 := Aside0.mk hl265_3
          clear hi265_3 hl265_3
          replace p265 := eq_true p265
          replace q265 := eq_true q265
          have hcz32_0 : wr.cell? ⟨gb259, 0, none⟩ = some (.string ((rd_T50 l0 x3_1).f0)) := (blk_cell BK259.out 0).trans rfl
          have hcz32_1 : wr.cell? ⟨gb259, 1, none⟩ = some (.int .i64 ((rd_T50 l0 x3_1).f1)) := (blk_cell BK259.out 1).trans rfl
          have hcz32_2 : wr.cell? ⟨gb259, 2, none⟩ = some (.int .i64 ((rd_T50 l0 x3_1).f2)) := (blk_cell BK259.out 2).trans rfl
          have hcz32_3 : wr.cell? ⟨gb259, 3, none⟩ = some (.slice A258_3 ((rd_T50 l0 x3_1).f3).length c258_3) := (blk_cell BK259.out 3).trans rfl
          have hfz32_0 := blk_frozen BK259.out 0
          have hfz32_1 := blk_frozen BK259.out 1
          have hfz32_2 := blk_frozen BK259.out 2
          have hfz32_3 := blk_frozen BK259.out 3
          go_wp2
          repeat (go_quiet (fail); try go_wp2)
          go_ret
          exact ⟨by first | rfl | (simp [errW_none, errW_some] <;> rfl) | (simp [*, errW_none, errW_some] <;> rfl), by repeat (first | (with_reducible first | exact HB.out | apply below_alloc | apply pw_below_drewN | apply below_drew1 | refine below_set ?_ GE259.out) | exact HB.out)⟩
         rw [if_neg c31] at H
         have c31b0 : (((rd_T50 l0 x6_4).f0).toList == ((rd_T50 l0 x3_1).f0).toList) = false := beq_eq_false_iff_ne.mpr c31
         have c31b1 : (((rd_T50 l0 x6_4).f0).toList != ((rd_T50 l0 x3_1).f0).toList) = true := bne_iff_ne.mpr c31
         have H' := Aside0.mk H
         clear H
         have p265 : 0 ≤ (x6_4 : Int) := od_
         have q265 : x6_4 < (l0.length : Int) := od_
         obtain ⟨ad265, A265_3, c265_3, e265, hx265_0, hx265_1, hx265_2, hx265_3, hl265_3, hi265_3⟩ := at_T50 HR0.out x6_4 p265 q265
         obtain rfl : ad258 = ad265 := (by injection e265)
         replace hx265_0 := (HB.out.cell (World.block_lt_of_cell? w _ hx265_0)).trans hx265_0
         replace hx265_1 := (HB.out.cell (World.block_lt_of_cell? w _ hx265_1)).trans hx265_1
         replace hx265_2 := (HB.out.cell (World.block_lt_of_cell? w _ hx265_2)).trans hx265_2
         replace hx265_3 := (HB.out.cell (World.block_lt_of_cell? w _ hx265_3)).trans hx265_3
         have HR265_3 := Aside0.mk hi265_3
         have HC265_3 := Aside0.mk hl265_3
         clear hi265_3 hl265_3
         replace p265 := eq_true p265
         replace q265 := eq_true q265
         have hcz33_0 : wr.cell? ⟨gb259, 0, none⟩ = some (.string ((rd_T50 l0 x3_1).f0)) := (blk_cell BK259.out 0).trans rfl
         have hcz33_1 : wr.cell? ⟨gb259, 1, none⟩ = some (.int .i64 ((rd_T50 l0 x3_1).f1)) := (blk_cell BK259.out 1).trans rfl
         have hcz33_2 : wr.cell? ⟨gb259, 2, none⟩ = some (.int .i64 ((rd_T50 l0 x3_1).f2)) := (blk_cell BK259.out 2).trans rfl
         have hcz33_3 : wr.cell? ⟨gb259, 3, none⟩ = some (.slice A258_3 ((rd_T50 l0 x3_1).f3).length c258_3) := (blk_cell BK259.out 3).trans rfl
         have hfz33_0 := blk_frozen BK259.out 0
         have hfz33_1 := blk_frozen BK259.out 1
         have hfz33_2 := blk_frozen BK259.out 2
         have hfz33_3 := blk_frozen BK259.out 3
         go_wp2
         repeat (go_quiet (fail); try go_wp2)
         go_roundg k4
         case measure => have := HK1.out; have := HJ4.out; have := HK3.out; have := HK4.out; omega
         case rel => exact ⟨(wrap64 (x6_4 + 1)), (by first | rfl | (simp; done) | (simp [*]; done)), H', ⟨by have := HK1.out; have := HJ4.out; have := HK3.out; have := HK4.out; omega⟩, ⟨by (with_reducible repeat (first | refine blk_drewN ?_ _ | refine blk_drew ?_ | refine blk_alloc ?_ _)); exact BK259.out⟩, ⟨by repeat (first | (with_reducible first | exact HB.out | apply below_alloc | apply pw_below_drewN | apply below_drew1 | refine below_set ?_ GE259.out) | exact HB.out)⟩⟩
end Go.Proofs.Ytecbcibblmknpaa.XFnExactBestShelf
