-- PRINTED by xprint.py (our own program, over the kit's print.py)
import Derived.Test.YthlphmnplfnmnaaXFnPaidx0
import Derived.Test.YthlphmnplfnmnaaXFnPaidx1
import Derived.Test.YthlphmnplfnmnaaXFnPaidx3
import Derived.Test.YthlphmnplfnmnaaXFnPaidx4
import Derived.Test.YthlphmnplfnmnaaXFnPaidx5
namespace Go.Proofs.Ythlphmnplfnmnaa.XFnPaid
open Go.RowKit Go.Proofs.YthlphmnplfnmnaaW.PrintWords Go.Proofs.YthlphmnplfnmnaaW.PrintLast Go.Proofs.YthlphmnplfnmnaaW.PrintMore Go.Proofs.YthlphmnplfnmnaaW.Idx
attribute [local go_sem] max2_int min2_int max_two min_two max_three min_three max_four min_four   -- for this text's walks alone
set_option linter.unusedVariables false
set_option linter.unusedSimpArgs false

attribute [local go_sem high] eqA34
/-! ### laws_FnPaid: function 4 -/
mutual
def laws_FnPaid.l0 : Nat → List (S40) → Int → Int → Int → List (S40) → Int → Int → Int → Int → Int → Int → Int → Int → Int → Int → Int → Int → Int → Option (Bool)
  | 0, _, _, _, _, _, _, _, _, _, _, _, _, _, _, _, _, _, _ => none
  | k + 1, x3, x4, x6, x8, x9, x10, x207000, x207001, x207002, x207003, x207004, x207005, x215000, x215001, x215002, x215003, x215004, x215005 => if x10 ≥ 0 then (if 0 ≤ x10 then (if x10 < (x3.length : Int) then (if x9.length < 4398046511104 then (laws_FnPaid.l0 k x3 x4 x6 x8 (x9 ++ [(⟨(rd_T40 x3 x10).f0, (rd_T40 x3 x10).f1, (⟨(rd_T40 x3 x10).f2.f0, (rd_T40 x3 x10).f2.f1⟩ : S38)⟩ : S40)]) (wrap64 (x10 - 1)) x207000 x207001 x207002 x207003 x207004 x207005 x215000 x215001 x215002 x215003 x215004 x215005) else (none)) else (none)) else (none)) else ((impl_PayMix.f k x4 x9).bind fun bt222 => (if x6 = x8 then (if bt222.2.2.2.2.2.2 = x6 then (if (!(x207000 == x215000) || (!(x207001 == x215001) || (!(x207002 == x215002) || (!(x207003 == x215003) || (!(x207004 == x215004) || (!(x207005 == x215005))))))) = true then (laws_FnPaid.j1 k x4 x6 true x207000 x207001 x207002 x207003 x207004 x207005) else (laws_FnPaid.j1 k x4 x6 (!(bt222.1 == x207000) || (!(bt222.2.1 == x207001) || (!(bt222.2.2.1 == x207002) || (!(bt222.2.2.2.1 == x207003) || (!(bt222.2.2.2.2.1 == x207004) || (!(bt222.2.2.2.2.2.1 == x207005))))))) x207000 x207001 x207002 x207003 x207004 x207005)) else (laws_FnPaid.j1 k x4 x6 true x207000 x207001 x207002 x207003 x207004 x207005)) else (laws_FnPaid.j1 k x4 x6 true x207000 x207001 x207002 x207003 x207004 x207005)))
def laws_FnPaid.j1 : Nat → Int → Int → Bool → Int → Int → Int → Int → Int → Int → Option (Bool)
  | 0, _, _, _, _, _, _, _, _, _ => none
  | k + 1, x4, x6, x71, x207000, x207001, x207002, x207003, x207004, x207005 => if x71 = true then (some false) else (if x6 = 0 then (if (wrap64 ((wrap64 ((wrap64 (x207000 + x207001)) + x207002)) + x207005)) = x4 then (if x207004 > 0 then (if x207005 > 0 then (some false) else (if x207003 > 0 then (if x207000 = x4 then (if x207000 ≥ 0 then (if x207001 ≥ 0 then (if x207002 ≥ 0 then (if x207003 ≥ 0 then (if x207004 ≥ 0 then (some (decide (x207005 ≥ 0))) else (some false)) else (some false)) else (some false)) else (some false)) else (some false)) else (some false)) else (if x207000 ≥ 0 then (if x207001 ≥ 0 then (if x207002 ≥ 0 then (if x207003 ≥ 0 then (if x207004 ≥ 0 then (some (decide (x207005 ≥ 0))) else (some false)) else (some false)) else (some false)) else (some false)) else (some false)))) else (if x207003 > 0 then (if x207000 = x4 then (if x207000 ≥ 0 then (if x207001 ≥ 0 then (if x207002 ≥ 0 then (if x207003 ≥ 0 then (if x207004 ≥ 0 then (some (decide (x207005 ≥ 0))) else (some false)) else (some false)) else (some false)) else (some false)) else (some false)) else (some false)) else (if x207000 ≥ 0 then (if x207001 ≥ 0 then (if x207002 ≥ 0 then (if x207003 ≥ 0 then (if x207004 ≥ 0 then (some (decide (x207005 ≥ 0))) else (some false)) else (some false)) else (some false)) else (some false)) else (some false)))) else (some false)) else (some true))
end
def laws_FnPaid.f (k : Nat) (l0 : List Int) : Option (Bool) := if (l0.length : Int) > 1048576 then (some true) else ((spec_TendersOf.f k l0).bind fun bt195 => ((impl_PayMix.f k bt195.2 bt195.1).bind fun bt199 => ((spec_PayMix.f k bt195.2 bt195.1).bind fun bt207 => (laws_FnPaid.l0 k bt195.1 bt195.2 bt199.2.2.2.2.2.2 bt207.2.2.2.2.2.2 (([] : List (S40))) (wrap64 ((bt195.1.length : Int) - 1)) bt199.1 bt199.2.1 bt199.2.2.1 bt199.2.2.2.1 bt199.2.2.2.2.1 bt199.2.2.2.2.2.1 bt207.1 bt207.2.1 bt207.2.2.1 bt207.2.2.2.1 bt207.2.2.2.2.1 bt207.2.2.2.2.2.1))))
theorem laws_FnPaid.mono_l : ∀ k, (∀ y0 y1 y2 y3 y4 y5 y6 y7 y8 y9 y10 y11 y12 y13 y14 y15 y16 y17, LeO (laws_FnPaid.l0 k y0 y1 y2 y3 y4 y5 y6 y7 y8 y9 y10 y11 y12 y13 y14 y15 y16 y17) (laws_FnPaid.l0 (k + 1) y0 y1 y2 y3 y4 y5 y6 y7 y8 y9 y10 y11 y12 y13 y14 y15 y16 y17)) ∧ (∀ y0 y1 y2 y3 y4 y5 y6 y7 y8, LeO (laws_FnPaid.j1 k y0 y1 y2 y3 y4 y5 y6 y7 y8) (laws_FnPaid.j1 (k + 1) y0 y1 y2 y3 y4 y5 y6 y7 y8))
  | 0 => ⟨fun _ _ _ _ _ _ _ _ _ _ _ _ _ _ _ _ _ _ r h => by simp [laws_FnPaid.l0] at h, fun _ _ _ _ _ _ _ _ _ r h => by simp [laws_FnPaid.j1] at h⟩
  | k + 1 => by
    obtain ⟨ih0, ih1⟩ := laws_FnPaid.mono_l k
    refine ⟨?_, ?_⟩
    · intro y0 y1 y2 y3 y4 y5 y6 y7 y8 y9 y10 y11 y12 y13 y14 y15 y16 y17
      unfold laws_FnPaid.l0
      repeat' first
      | (with_reducible exact ih0 _ _ _ _ _ _ _ _ _ _ _ _ _ _ _ _ _ _)
      | (with_reducible exact ih1 _ _ _ _ _ _ _ _ _)
      | (with_reducible exact impl_PayMix.mono _ _ _)
      | (with_reducible exact spec_PayMix.mono _ _ _)
      | (with_reducible exact spec_TendersOf.mono _ _)
      | (with_reducible exact LeO.refl _)
      | (with_reducible exact LeO.none _)
      | (with_reducible refine LeO.ite ?_ ?_)
      | (with_reducible refine LeO.bind ?_ (fun _ => ?_))
      | exact ih0 _ _ _ _ _ _ _ _ _ _ _ _ _ _ _ _ _ _
      | exact ih1 _ _ _ _ _ _ _ _ _
      | exact impl_PayMix.mono _ _ _
      | exact spec_PayMix.mono _ _ _
      | exact spec_TendersOf.mono _ _
      | exact LeO.none _
      | refine LeO.ite ?_ ?_
      | refine LeO.bind ?_ (fun _ => ?_)
    · intro y0 y1 y2 y3 y4 y5 y6 y7 y8
      unfold laws_FnPaid.j1
      repeat' first
      | (with_reducible exact ih0 _ _ _ _ _ _ _ _ _ _ _ _ _ _ _ _ _ _)
      | (with_reducible exact ih1 _ _ _ _ _ _ _ _ _)
      | (with_reducible exact impl_PayMix.mono _ _ _)
      | (with_reducible exact spec_PayMix.mono _ _ _)
      | (with_reducible exact spec_TendersOf.mono _ _)
      | (with_reducible exact LeO.refl _)
      | (with_reducible exact LeO.none _)
      | (with_reducible refine LeO.ite ?_ ?_)
      | (with_reducible refine LeO.bind ?_ (fun _ => ?_))
      | exact ih0 _ _ _ _ _ _ _ _ _ _ _ _ _ _ _ _ _ _
      | exact ih1 _ _ _ _ _ _ _ _ _
      | exact impl_PayMix.mono _ _ _
      | exact spec_PayMix.mono _ _ _
      | exact spec_TendersOf.mono _ _
      | exact LeO.none _
      | refine LeO.ite ?_ ?_
      | refine LeO.bind ?_ (fun _ => ?_)
theorem laws_FnPaid.mono : ∀ a0 k, LeO (laws_FnPaid.f k a0) (laws_FnPaid.f (k + 1) a0) := by
  intro a0 k
  obtain ⟨ih0, ih1⟩ := laws_FnPaid.mono_l k
  unfold laws_FnPaid.f
  repeat' first
      | (with_reducible exact ih0 _ _ _ _ _ _ _ _ _ _ _ _ _ _ _ _ _ _)
      | (with_reducible exact ih1 _ _ _ _ _ _ _ _ _)
      | (with_reducible exact impl_PayMix.mono _ _ _)
      | (with_reducible exact spec_PayMix.mono _ _ _)
      | (with_reducible exact spec_TendersOf.mono _ _)
      | (with_reducible exact LeO.refl _)
      | (with_reducible exact LeO.none _)
      | (with_reducible refine LeO.ite ?_ ?_)
      | (with_reducible refine LeO.bind ?_ (fun _ => ?_))
      | exact ih0 _ _ _ _ _ _ _ _ _ _ _ _ _ _ _ _ _ _
      | exact ih1 _ _ _ _ _ _ _ _ _
      | exact impl_PayMix.mono _ _ _
      | exact spec_PayMix.mono _ _ _
      | exact spec_TendersOf.mono _ _
      | exact LeO.none _
      | refine LeO.ite ?_ ?_
      | refine LeO.bind ?_ (fun _ => ?_)
set_option maxHeartbeats 8000000 in
set_option maxRecDepth 100000 in
theorem laws_FnPaid.calls (k : Nat) (A0 : Option Addr) (c0 : Nat) (l0 : List Int) (r : Bool) (w : World) (hr0 : Kd.C (Kd.int .u8) w A0 l0.length l0) (hc0 : l0.length ≤ c0) (h : laws_FnPaid.f k l0 = some r) (hT0 : r = true) :
    Calls Try.prog 4 #[.slice A0 l0.length c0] w fun e w' => e = .returned (.bool r) ∧ Below w.heap.size w w' := by
  have hu34 := Try.underlying34
  have hu40 := Try.underlying40
  have HR0 := Aside0.mk hr0
  have HC0 := Aside0.mk hc0
  clear hr0 hc0
  have HB := Aside0.mk (Below.refl w.heap.size w)
  have H : (if (l0.length : Int) > 1048576 then (some true) else ((spec_TendersOf.f k l0).bind fun bt195 => ((impl_PayMix.f k bt195.2 bt195.1).bind fun bt199 => ((spec_PayMix.f k bt195.2 bt195.1).bind fun bt207 => (laws_FnPaid.l0 k bt195.1 bt195.2 bt199.2.2.2.2.2.2 bt207.2.2.2.2.2.2 (([] : List (S40))) (wrap64 ((bt195.1.length : Int) - 1)) bt199.1 bt199.2.1 bt199.2.2.1 bt199.2.2.2.1 bt199.2.2.2.2.1 bt199.2.2.2.2.2.1 bt207.1 bt207.2.1 bt207.2.2.1 bt207.2.2.2.1 bt207.2.2.2.2.1 bt207.2.2.2.2.2.1))))) = some r := h
  clear h
  have hT_ := Aside0.mk hT0
  clear hT0
  by_cases c2 : (l0.length : Int) > 1048576
  · rw [if_pos c2] at H
    have c2b0 : decide (1048576 < (l0.length : Int)) = true := decide_eq_true c2
    have c2b1 : decide (1048576 < l0.length) = true := decide_eq_true (by omega)
    clear c2
    obtain rfl := Option.some.inj H
    go_enter Try.func4, Try.ntmps4
    go_wp2
    go_ret
    exact ⟨by first | rfl | (simp [errW_none, errW_some] <;> rfl) | (simp [*, errW_none, errW_some] <;> rfl), by repeat (first | (with_reducible first | exact HB.out | apply below_alloc | apply pw_below_drewN | apply below_drew1) | exact HB.out)⟩
  · rw [if_neg c2] at H
    have c2b0 : decide (1048576 < (l0.length : Int)) = false := decide_eq_false c2
    have c2b1 : decide (1048576 < l0.length) = false := decide_eq_false (by omega)
    clear c2
    replace H := Option.bind_eq_some_iff.mp H
    obtain ⟨⟨t195, t196⟩, A30, H⟩ := H
    replace H : ((impl_PayMix.f k t196 t195).bind fun bt199 => ((spec_PayMix.f k t196 t195).bind fun bt207 => (laws_FnPaid.l0 k t195 t196 bt199.2.2.2.2.2.2 bt207.2.2.2.2.2.2 (([] : List (S40))) (wrap64 ((t195.length : Int) - 1)) bt199.1 bt199.2.1 bt199.2.2.1 bt199.2.2.2.1 bt199.2.2.2.2.1 bt199.2.2.2.2.2.1 bt207.1 bt207.2.1 bt207.2.2.1 bt207.2.2.2.1 bt207.2.2.2.2.1 bt207.2.2.2.2.2.1))) = some r := H
    have A3 := Aside0.mk A30
    clear A30
    replace H := Option.bind_eq_some_iff.mp H
    obtain ⟨⟨t199, t200, t201, t202, t203, t204, t205⟩, A40, H⟩ := H
    replace H : ((spec_PayMix.f k t196 t195).bind fun bt207 => (laws_FnPaid.l0 k t195 t196 t205 bt207.2.2.2.2.2.2 (([] : List (S40))) (wrap64 ((t195.length : Int) - 1)) t199 t200 t201 t202 t203 t204 bt207.1 bt207.2.1 bt207.2.2.1 bt207.2.2.2.1 bt207.2.2.2.2.1 bt207.2.2.2.2.2.1)) = some r := H
    have A4 := Aside0.mk A40
    clear A40
    replace H := Option.bind_eq_some_iff.mp H
    obtain ⟨⟨t207, t208, t209, t210, t211, t212, t213⟩, A50, H⟩ := H
    replace H : (laws_FnPaid.l0 k t195 t196 t205 t213 (([] : List (S40))) (wrap64 ((t195.length : Int) - 1)) t199 t200 t201 t202 t203 t204 t207 t208 t209 t210 t211 t212) = some r := H
    have A5 := Aside0.mk A50
    clear A50
    obtain ⟨y215, hy215⟩ : ∃ y_ : List (S40), y_ = (([] : List (S40))) := ⟨_, rfl⟩
    replace H : (laws_FnPaid.l0 k t195 t196 t205 t213 y215 (wrap64 ((t195.length : Int) - 1)) t199 t200 t201 t202 t203 t204 t207 t208 t209 t210 t211 t212) = some r := by first | (rw [hy215]; with_reducible exact H) | (have H2_ := (Option.bind_some _ _).symm.trans H; rw [hy215]; with_reducible exact H2_) | (have H2_ := (Option.bind_some _ _).symm.trans H; with_reducible exact H2_) | with_reducible exact H | (rw [hy215]; exact H) | exact H
    have Ny215 := Aside0.mk hy215
    clear hy215
    have H' := Aside0.mk H
    clear H
    go_enter Try.func4, Try.ntmps4
    go_wp2_with (first | ((with_reducible refine gate_callee (f := 13) rfl ?_); refine goesL_ (some 18) rfl rfl Try.func13 (by kernel_rfl) rfl #[.slice A0 l0.length c0] rfl (by (try simp only [List.map_toArray, List.map_cons, List.map_nil]); first | done | rfl | (simp only [List.length_drop, List.length_take]; rfl)) ?_; (with_reducible refine (spec_TendersOf.calls k _ _ l0 t195 t196 _ ?side1 ?side2 A3.out).mono ?_); (case side1 => repeat (first | exact HR0.out | (with_reducible refine Kd.C_alloc ?_ _) | (with_reducible refine Kd.C_drewN ?_ _) | (with_reducible refine Kd.C_drew ?_))); (case side2 => exact HC0.out); rintro e w6 ⟨v197, rfl, ho0, hb⟩; refine ⟨_, rfl, ?_⟩; have n0_ := Aside0.mk (Kd.R_lower ho0 (below_size (by repeat (first | (with_reducible first | exact HB.out | apply below_alloc | apply pw_below_drewN | apply below_drew1) | exact HB.out)))); have n1_ := Aside0.mk (below_step (by repeat (first | (with_reducible first | exact HB.out | apply below_alloc | apply pw_below_drewN | apply below_drew1) | exact HB.out)) hb); clear HB; have HO198 := n0_; have HB := n1_; clear n0_ n1_; (try clear hb); (try clear hb2); (try clear hk); (try clear hi); (try clear ho0); obtain ⟨Ao7, co7, eo7⟩ := Kd.R_slice HO198.out; subst eo7) | ((with_reducible refine gate_callee (f := 14) rfl ?_); refine goesL_ (some 24) rfl rfl Try.func14 (by kernel_rfl) rfl #[.int .i64 t196, .slice Ao7 t195.length co7] rfl (by (try simp only [List.map_toArray, List.map_cons, List.map_nil]); first | done | rfl | (simp only [List.length_drop, List.length_take]; rfl)) ?_; (with_reducible refine (impl_PayMix.calls k t196 _ _ t195 t199 t200 t201 t202 t203 t204 t205 _ ?side1 ?side2 A4.out).mono ?_); (case side1 => repeat (first | exact (Kd.R_reads' HO198.out).2.2 | (with_reducible refine Kd.C_alloc ?_ _) | (with_reducible refine Kd.C_drewN ?_ _) | (with_reducible refine Kd.C_drew ?_))); (case side2 => exact (Kd.R_reads' HO198.out).2.1); rintro e w8 ⟨rfl, hb⟩; refine ⟨_, rfl, ?_⟩; have n0_ := Aside0.mk (Kd.R_below (by (with_reducible repeat (first | apply Kd.R_alloc | apply Kd.R_drewN | apply Kd.R_drew)); exact HO198.out) hb); have n1_ := Aside0.mk (below_step (by repeat (first | (with_reducible first | exact HB.out | apply below_alloc | apply pw_below_drewN | apply below_drew1) | exact HB.out)) hb); clear HO198; clear HB; have HO198 := n0_; have HB := n1_; clear n0_ n1_; (try clear hb); (try clear hb2); (try clear hk); (try clear hi)) | ((with_reducible refine gate_dst (N := 5) rfl ?_); refine box_event ?hg (N := 5) ?hd (cs := #[.int .i64 0, .int .i64 0, .int .i64 0, .int .i64 0, .int .i64 0, .int .i64 0]) (t := 34) ?hr ?_; (case hd => rfl); (case hg => rfl); (case hr => first | (go_simp; done) | (go_simp; rfl)); intro gb206 hg w9 hbox hb; have n0_ := Aside0.mk (Kd.R_below (by (with_reducible repeat (first | apply Kd.R_alloc | apply Kd.R_drewN | apply Kd.R_drew)); exact HO198.out) hb); have n1_ := Aside0.mk (below_step (by repeat (first | (with_reducible first | exact HB.out | apply below_alloc | apply pw_below_drewN | apply below_drew1) | exact HB.out)) hb); have n2_ := Aside0.mk (hbox); have n3_ := Aside0.mk ((by rw [hg]; exact (below_size (by repeat (first | (with_reducible first | exact HB.out | apply below_alloc | apply pw_below_drewN | apply below_drew1) | exact HB.out))) : w.heap.size ≤ gb206)); have n4_ := Aside0.mk ((by rw [hg]; exact (below_size (by repeat (first | (with_reducible first | exact HB.out | apply below_alloc | apply pw_below_drewN | apply below_drew1) | exact HB.out))) : w.heap.size ≤ gb206)); clear HO198; clear HB; have HO198 := n0_; have HB := n1_; have BK206 := n2_; have GW206 := n3_; have GE206 := n4_; clear n0_ n1_ n2_ n3_ n4_; clear hb hbox hg; have hcz10_0 : w9.cell? ⟨gb206, 0, none⟩ = some (.int .i64 0) := (blk_cell BK206.out 0).trans rfl; have hcz10_1 : w9.cell? ⟨gb206, 1, none⟩ = some (.int .i64 0) := (blk_cell BK206.out 1).trans rfl; have hcz10_2 : w9.cell? ⟨gb206, 2, none⟩ = some (.int .i64 0) := (blk_cell BK206.out 2).trans rfl; have hcz10_3 : w9.cell? ⟨gb206, 3, none⟩ = some (.int .i64 0) := (blk_cell BK206.out 3).trans rfl; have hcz10_4 : w9.cell? ⟨gb206, 4, none⟩ = some (.int .i64 0) := (blk_cell BK206.out 4).trans rfl; have hcz10_5 : w9.cell? ⟨gb206, 5, none⟩ = some (.int .i64 0) := (blk_cell BK206.out 5).trans rfl; have hfz10_0 := blk_frozen BK206.out 0; have hfz10_1 := blk_frozen BK206.out 1; have hfz10_2 := blk_frozen BK206.out 2; have hfz10_3 := blk_frozen BK206.out 3; have hfz10_4 := blk_frozen BK206.out 4; have hfz10_5 := blk_frozen BK206.out 5) | ((with_reducible refine gate_callee (f := 15) rfl ?_); refine goesL_ (some 30) rfl rfl Try.func15 (by kernel_rfl) rfl #[.int .i64 t196, .slice Ao7 t195.length co7] rfl (by (try simp only [List.map_toArray, List.map_cons, List.map_nil]); first | done | rfl | (simp only [List.length_drop, List.length_take]; rfl)) ?_; (with_reducible refine (spec_PayMix.calls k t196 _ _ t195 t207 t208 t209 t210 t211 t212 t213 _ ?side1 ?side2 A5.out).mono ?_); (case side1 => refine (Kd.R_reads' (e := 40) (base := w.heap.size) (ok := fun k_ => True) (n := t195.length) (c := co7) ?_).2.2; exact (by (with_reducible repeat (first | apply Kd.R_alloc | apply Kd.R_drewN | apply Kd.R_drew)); exact (Kd.R_mono (Kd.R_far (p := ⟨gb206, 5, none⟩) (Kd.R_far (p := ⟨gb206, 4, none⟩) (Kd.R_far (p := ⟨gb206, 3, none⟩) (Kd.R_far (p := ⟨gb206, 2, none⟩) (Kd.R_far (p := ⟨gb206, 1, none⟩) (Kd.R_far (p := ⟨gb206, 0, none⟩) (Kd.R_types HO198.out BK206.out (by decide)) (fun _ hk => hk.2) (.int .i64 t199)) (fun _ hk => hk.2) (.int .i64 t200)) (fun _ hk => hk.2) (.int .i64 t201)) (fun _ hk => hk.2) (.int .i64 t202)) (fun _ hk => hk.2) (.int .i64 t203)) (fun _ hk => hk.2) (.int .i64 t204)) (fun _ h_ => h_.1)))); (case side2 => exact (Kd.R_reads' HO198.out).2.1); rintro e w11 ⟨rfl, hb⟩; refine ⟨_, rfl, ?_⟩; have n0_ := Aside0.mk (Kd.R_below (by (with_reducible repeat (first | apply Kd.R_alloc | apply Kd.R_drewN | apply Kd.R_drew)); exact (Kd.R_mono (Kd.R_far (p := ⟨gb206, 5, none⟩) (Kd.R_far (p := ⟨gb206, 4, none⟩) (Kd.R_far (p := ⟨gb206, 3, none⟩) (Kd.R_far (p := ⟨gb206, 2, none⟩) (Kd.R_far (p := ⟨gb206, 1, none⟩) (Kd.R_far (p := ⟨gb206, 0, none⟩) (Kd.R_types HO198.out BK206.out (by decide)) (fun _ hk => hk.2) (.int .i64 t199)) (fun _ hk => hk.2) (.int .i64 t200)) (fun _ hk => hk.2) (.int .i64 t201)) (fun _ hk => hk.2) (.int .i64 t202)) (fun _ hk => hk.2) (.int .i64 t203)) (fun _ hk => hk.2) (.int .i64 t204)) (fun _ h_ => h_.1))) hb); have n1_ := Aside0.mk (blk_below (g := gb206) (o := .cells #[.int .i64 t199, .int .i64 t200, .int .i64 t201, .int .i64 t202, .int .i64 t203, .int .i64 t204] 34 (0, 0)) (by (with_reducible repeat (first | refine blk_drewN ?_ _ | refine blk_drew ?_ | refine blk_alloc ?_ _)); refine blk_put (cs := #[.int .i64 t199, .int .i64 t200, .int .i64 t201, .int .i64 t202, .int .i64 t203, .int .i64 0]) ?_ 5 _ rfl; (with_reducible repeat (first | refine blk_drewN ?_ _ | refine blk_drew ?_ | refine blk_alloc ?_ _)); refine blk_put (cs := #[.int .i64 t199, .int .i64 t200, .int .i64 t201, .int .i64 t202, .int .i64 0, .int .i64 0]) ?_ 4 _ rfl; (with_reducible repeat (first | refine blk_drewN ?_ _ | refine blk_drew ?_ | refine blk_alloc ?_ _)); refine blk_put (cs := #[.int .i64 t199, .int .i64 t200, .int .i64 t201, .int .i64 0, .int .i64 0, .int .i64 0]) ?_ 3 _ rfl; (with_reducible repeat (first | refine blk_drewN ?_ _ | refine blk_drew ?_ | refine blk_alloc ?_ _)); refine blk_put (cs := #[.int .i64 t199, .int .i64 t200, .int .i64 0, .int .i64 0, .int .i64 0, .int .i64 0]) ?_ 2 _ rfl; (with_reducible repeat (first | refine blk_drewN ?_ _ | refine blk_drew ?_ | refine blk_alloc ?_ _)); refine blk_put (cs := #[.int .i64 t199, .int .i64 0, .int .i64 0, .int .i64 0, .int .i64 0, .int .i64 0]) ?_ 1 _ rfl; (with_reducible repeat (first | refine blk_drewN ?_ _ | refine blk_drew ?_ | refine blk_alloc ?_ _)); refine blk_put (cs := #[.int .i64 0, .int .i64 0, .int .i64 0, .int .i64 0, .int .i64 0, .int .i64 0]) ?_ 0 _ rfl; (with_reducible repeat (first | refine blk_drewN ?_ _ | refine blk_drew ?_ | refine blk_alloc ?_ _)); exact BK206.out) hb); have n2_ := Aside0.mk (below_step (by repeat (first | (with_reducible first | exact HB.out | apply below_alloc | apply pw_below_drewN | apply below_drew1 | refine below_set ?_ GE206.out) | exact HB.out)) hb); clear HO198; clear BK206; clear HB; have HO198 := n0_; have BK206 := n1_; have HB := n2_; clear n0_ n1_ n2_; (try clear hb); (try clear hb2); (try clear hk); (try clear hi)) | ((with_reducible refine gate_dst (N := 7) rfl ?_); refine box_event ?hg (N := 7) ?hd (cs := #[.int .i64 0, .int .i64 0, .int .i64 0, .int .i64 0, .int .i64 0, .int .i64 0]) (t := 34) ?hr ?_; (case hd => rfl); (case hg => rfl); (case hr => first | (go_simp; done) | (go_simp; rfl)); intro gb214 hg w12 hbox hb; have n0_ := Aside0.mk (Kd.R_below (by (with_reducible repeat (first | apply Kd.R_alloc | apply Kd.R_drewN | apply Kd.R_drew)); exact HO198.out) hb); have n1_ := Aside0.mk (blk_below (g := gb206) (o := .cells #[.int .i64 t199, .int .i64 t200, .int .i64 t201, .int .i64 t202, .int .i64 t203, .int .i64 t204] 34 (0, 0)) (by (with_reducible repeat (first | refine blk_drewN ?_ _ | refine blk_drew ?_ | refine blk_alloc ?_ _)); exact BK206.out) hb); have n2_ := Aside0.mk (below_step (by repeat (first | (with_reducible first | exact HB.out | apply below_alloc | apply pw_below_drewN | apply below_drew1 | refine below_set ?_ GE206.out) | exact HB.out)) hb); have n3_ := Aside0.mk (hbox); have n4_ := Aside0.mk ((by rw [hg]; exact (below_size (by repeat (first | (with_reducible first | exact HB.out | apply below_alloc | apply pw_below_drewN | apply below_drew1 | refine below_set ?_ GE206.out) | exact HB.out))) : w.heap.size ≤ gb214)); have n5_ := Aside0.mk ((by rw [hg]; exact (below_size (by repeat (first | (with_reducible first | exact HB.out | apply below_alloc | apply pw_below_drewN | apply below_drew1 | refine below_set ?_ GE206.out) | exact HB.out))) : w.heap.size ≤ gb214)); have n6_ := Aside0.mk ((by rw [hg]; exact Nat.ne_of_lt (blk_lt (g := gb206) (o := .cells #[.int .i64 t199, .int .i64 t200, .int .i64 t201, .int .i64 t202, .int .i64 t203, .int .i64 t204] 34 (0, 0)) (by (with_reducible repeat (first | refine blk_drewN ?_ _ | refine blk_drew ?_ | refine blk_alloc ?_ _)); exact BK206.out)) : gb206 ≠ gb214)); have n7_ := Aside0.mk ((by rw [hg]; exact Nat.ne_of_gt (blk_lt (g := gb206) (o := .cells #[.int .i64 t199, .int .i64 t200, .int .i64 t201, .int .i64 t202, .int .i64 t203, .int .i64 t204] 34 (0, 0)) (by (with_reducible repeat (first | refine blk_drewN ?_ _ | refine blk_drew ?_ | refine blk_alloc ?_ _)); exact BK206.out)) : gb214 ≠ gb206)); clear HO198; clear BK206; clear HB; have HO198 := n0_; have BK206 := n1_; have HB := n2_; have BK214 := n3_; have GW214 := n4_; have GE214 := n5_; have NB206_214 := n6_; have NB214_206 := n7_; clear n0_ n1_ n2_ n3_ n4_ n5_ n6_ n7_; clear hb hbox hg; have hnb13 := NB214_206.out; have hnc13 := NB206_214.out; have hcz14_0 : w12.cell? ⟨gb214, 0, none⟩ = some (.int .i64 0) := (blk_cell BK214.out 0).trans rfl; have hcz14_1 : w12.cell? ⟨gb214, 1, none⟩ = some (.int .i64 0) := (blk_cell BK214.out 1).trans rfl; have hcz14_2 : w12.cell? ⟨gb214, 2, none⟩ = some (.int .i64 0) := (blk_cell BK214.out 2).trans rfl; have hcz14_3 : w12.cell? ⟨gb214, 3, none⟩ = some (.int .i64 0) := (blk_cell BK214.out 3).trans rfl; have hcz14_4 : w12.cell? ⟨gb214, 4, none⟩ = some (.int .i64 0) := (blk_cell BK214.out 4).trans rfl; have hcz14_5 : w12.cell? ⟨gb214, 5, none⟩ = some (.int .i64 0) := (blk_cell BK214.out 5).trans rfl; have hfz14_0 := blk_frozen BK214.out 0; have hfz14_1 := blk_frozen BK214.out 1; have hfz14_2 := blk_frozen BK214.out 2; have hfz14_3 := blk_frozen BK214.out 3; have hfz14_4 := blk_frozen BK214.out 4; have hfz14_5 := blk_frozen BK214.out 5) | ((with_reducible refine gate_dst (N := 33) rfl ?_); refine Kd.R_lit k40 _ 40 ?hg (N := 33) ?hd (xs := ([] : List (S40))) (inner := []) (ok := fun _ => True) (okp := fun _ => True) ?hr ?hp (fun _ hk => hk) trivial (Below.refl _ _) (Nat.le_refl _) (by simp) ?_; (case hd => rfl); (case hg => rfl); (case hr => first | (go_simp; done) | (go_simp; rfl)); (case hp => exact (Reps.none _ _)); intro v216 w15 ho16 hb hg_ hnew_; clear hg_ hnew_; (first | rw [← Ny215.out] at ho16 | (simp only [Int.reduceToNat] at ho16; rw [← Ny215.out] at ho16)); have n0_ := Aside0.mk (Kd.R_elder' (by (with_reducible repeat (first | apply Kd.R_alloc | apply Kd.R_drewN | apply Kd.R_drew)); exact (Kd.R_mono (Kd.R_far (p := ⟨gb214, 5, none⟩) (Kd.R_far (p := ⟨gb214, 4, none⟩) (Kd.R_far (p := ⟨gb214, 3, none⟩) (Kd.R_far (p := ⟨gb214, 2, none⟩) (Kd.R_far (p := ⟨gb214, 1, none⟩) (Kd.R_far (p := ⟨gb214, 0, none⟩) (Kd.R_types HO198.out BK214.out (by decide)) (fun _ hk => hk.2) (.int .i64 t207)) (fun _ hk => hk.2) (.int .i64 t208)) (fun _ hk => hk.2) (.int .i64 t209)) (fun _ hk => hk.2) (.int .i64 t210)) (fun _ hk => hk.2) (.int .i64 t211)) (fun _ hk => hk.2) (.int .i64 t212)) (fun _ h_ => h_.1))) (Kd.R_base ho16) hb); have n1_ := Aside0.mk (Kd.R_lower (Kd.R_new' ho16 (Kd.R_lt (by (with_reducible repeat (first | apply Kd.R_alloc | apply Kd.R_drewN | apply Kd.R_drew)); exact (Kd.R_mono (Kd.R_far (p := ⟨gb214, 5, none⟩) (Kd.R_far (p := ⟨gb214, 4, none⟩) (Kd.R_far (p := ⟨gb214, 3, none⟩) (Kd.R_far (p := ⟨gb214, 2, none⟩) (Kd.R_far (p := ⟨gb214, 1, none⟩) (Kd.R_far (p := ⟨gb214, 0, none⟩) (Kd.R_types HO198.out BK214.out (by decide)) (fun _ hk => hk.2) (.int .i64 t207)) (fun _ hk => hk.2) (.int .i64 t208)) (fun _ hk => hk.2) (.int .i64 t209)) (fun _ hk => hk.2) (.int .i64 t210)) (fun _ hk => hk.2) (.int .i64 t211)) (fun _ hk => hk.2) (.int .i64 t212)) (fun _ h_ => h_.1))))) (below_size (by repeat (first | (with_reducible first | exact HB.out | apply below_alloc | apply pw_below_drewN | apply below_drew1 | refine below_set ?_ GE206.out | refine below_set ?_ GE214.out) | exact HB.out)))); have n2_ := Aside0.mk (blk_below (g := gb206) (o := .cells #[.int .i64 t199, .int .i64 t200, .int .i64 t201, .int .i64 t202, .int .i64 t203, .int .i64 t204] 34 (0, 0)) (by (with_reducible repeat (first | refine blk_drewN ?_ _ | refine blk_drew ?_ | refine blk_alloc ?_ _)); refine blk_far ?_ NB206_214.out _; (with_reducible repeat (first | refine blk_drewN ?_ _ | refine blk_drew ?_ | refine blk_alloc ?_ _)); refine blk_far ?_ NB206_214.out _; (with_reducible repeat (first | refine blk_drewN ?_ _ | refine blk_drew ?_ | refine blk_alloc ?_ _)); refine blk_far ?_ NB206_214.out _; (with_reducible repeat (first | refine blk_drewN ?_ _ | refine blk_drew ?_ | refine blk_alloc ?_ _)); refine blk_far ?_ NB206_214.out _; (with_reducible repeat (first | refine blk_drewN ?_ _ | refine blk_drew ?_ | refine blk_alloc ?_ _)); refine blk_far ?_ NB206_214.out _; (with_reducible repeat (first | refine blk_drewN ?_ _ | refine blk_drew ?_ | refine blk_alloc ?_ _)); refine blk_far ?_ NB206_214.out _; (with_reducible repeat (first | refine blk_drewN ?_ _ | refine blk_drew ?_ | refine blk_alloc ?_ _)); exact BK206.out) hb); have n3_ := Aside0.mk (blk_below (g := gb214) (o := .cells #[.int .i64 t207, .int .i64 t208, .int .i64 t209, .int .i64 t210, .int .i64 t211, .int .i64 t212] 34 (0, 0)) (by (with_reducible repeat (first | refine blk_drewN ?_ _ | refine blk_drew ?_ | refine blk_alloc ?_ _)); refine blk_put (cs := #[.int .i64 t207, .int .i64 t208, .int .i64 t209, .int .i64 t210, .int .i64 t211, .int .i64 0]) ?_ 5 _ rfl; (with_reducible repeat (first | refine blk_drewN ?_ _ | refine blk_drew ?_ | refine blk_alloc ?_ _)); refine blk_put (cs := #[.int .i64 t207, .int .i64 t208, .int .i64 t209, .int .i64 t210, .int .i64 0, .int .i64 0]) ?_ 4 _ rfl; (with_reducible repeat (first | refine blk_drewN ?_ _ | refine blk_drew ?_ | refine blk_alloc ?_ _)); refine blk_put (cs := #[.int .i64 t207, .int .i64 t208, .int .i64 t209, .int .i64 0, .int .i64 0, .int .i64 0]) ?_ 3 _ rfl; (with_reducible repeat (first | refine blk_drewN ?_ _ | refine blk_drew ?_ | refine blk_alloc ?_ _)); refine blk_put (cs := #[.int .i64 t207, .int .i64 t208, .int .i64 0, .int .i64 0, .int .i64 0, .int .i64 0]) ?_ 2 _ rfl; (with_reducible repeat (first | refine blk_drewN ?_ _ | refine blk_drew ?_ | refine blk_alloc ?_ _)); refine blk_put (cs := #[.int .i64 t207, .int .i64 0, .int .i64 0, .int .i64 0, .int .i64 0, .int .i64 0]) ?_ 1 _ rfl; (with_reducible repeat (first | refine blk_drewN ?_ _ | refine blk_drew ?_ | refine blk_alloc ?_ _)); refine blk_put (cs := #[.int .i64 0, .int .i64 0, .int .i64 0, .int .i64 0, .int .i64 0, .int .i64 0]) ?_ 0 _ rfl; (with_reducible repeat (first | refine blk_drewN ?_ _ | refine blk_drew ?_ | refine blk_alloc ?_ _)); exact BK214.out) hb); have n4_ := Aside0.mk (below_step (by repeat (first | (with_reducible first | exact HB.out | apply below_alloc | apply pw_below_drewN | apply below_drew1 | refine below_set ?_ GE206.out | refine below_set ?_ GE214.out) | exact HB.out)) hb); clear HO198; clear BK206; clear BK214; clear HB; have HO198 := n0_; have HO217 := n1_; have BK206 := n2_; have BK214 := n3_; have HB := n4_; clear n0_ n1_ n2_ n3_ n4_; clear hb ho16))
    go_loopg [9, 10] k (fun kq v9 v10 w' => ∃ (x9_1 : List (S40)) (x10_1 : Int), v10 = .int .i64 x10_1 ∧ Aside0 (laws_FnPaid.l0 kq t195 t196 t205 t213 x9_1 x10_1 t199 t200 t201 t202 t203 t204 t207 t208 t209 t210 t211 t212 = some r) ∧ Aside0 (kq ≤ k) ∧ Aside0 (Kd.R k40 40 w' w.heap.size (fun k_ => some k_ ≠ (v9 : Value).ownBlock) (.slice Ao7 t195.length co7) t195) ∧ Aside0 (Kd.R k40 40 w' w.heap.size (fun k_ => some k_ ≠ ((.slice Ao7 t195.length co7) : Value).ownBlock) v9 x9_1) ∧ Aside0 (w'.heap[gb206]? = some (.cells #[.int .i64 t199, .int .i64 t200, .int .i64 t201, .int .i64 t202, .int .i64 t203, .int .i64 t204] 34 (0, 0))) ∧ Aside0 (w'.heap[gb214]? = some (.cells #[.int .i64 t207, .int .i64 t208, .int .i64 t209, .int .i64 t210, .int .i64 t211, .int .i64 t212] 34 (0, 0))) ∧ Aside0 (Below w.heap.size w w'))
    case atStart => exact ⟨(y215), (wrap64 ((t195.length : Int) - 1)), (by first | rfl | (simp; done) | (simp [*]; done)), H', ⟨Nat.le_refl _⟩, ⟨by (with_reducible repeat (first | apply Kd.R_alloc | apply Kd.R_drewN | apply Kd.R_drew)); exact Kd.R_mono HO198.out (fun _ hk => hk.2)⟩, ⟨by (with_reducible repeat (first | apply Kd.R_alloc | apply Kd.R_drewN | apply Kd.R_drew)); exact Kd.R_mono HO217.out (fun _ hk => hk.2)⟩, ⟨by (with_reducible repeat (first | refine blk_drewN ?_ _ | refine blk_drew ?_ | refine blk_alloc ?_ _)); exact BK206.out⟩, ⟨by (with_reducible repeat (first | refine blk_drewN ?_ _ | refine blk_drew ?_ | refine blk_alloc ?_ _)); exact BK214.out⟩, ⟨by repeat (first | (with_reducible first | exact HB.out | apply below_alloc | apply pw_below_drewN | apply below_drew1 | refine below_set ?_ GE206.out | refine below_set ?_ GE214.out) | exact HB.out)⟩⟩
    case round =>
      clear H'
      try clear c1
      try clear c2
      try clear c2b0
      try clear c2b1
      try clear p2
      try clear c4
      try clear p6
      try clear c13
      try clear c14
      try clear c15
      try clear hcz10_0
      try clear hcz10_1
      try clear hcz10_2
      try clear hcz10_3
      try clear hcz10_4
      try clear hcz10_5
      try clear hcz14_0
      try clear hcz14_1
      try clear hcz14_2
      try clear hcz14_3
      try clear hcz14_4
      try clear hcz14_5
      try clear hfz10_0
      try clear hfz10_1
      try clear hfz10_2
      try clear hfz10_3
      try clear hfz10_4
      try clear hfz10_5
      try clear hfz14_0
      try clear hfz14_1
      try clear hfz14_2
      try clear hfz14_3
      try clear hfz14_4
      try clear hfz14_5
      obtain ⟨x9_1, x10_1, rfl, HA, HK1, HO_3, HO_9, BK206, BK214, HB⟩ := hrel
      cases gk with
      | zero => exact absurd HA.out (by simp [laws_FnPaid.l0])
      | succ k1 =>
        have H := HA.out
        clear HA
        simp only [laws_FnPaid.l0] at H
        by_cases c17 : x10_1 ≥ 0
        · rw [if_pos c17] at H
          have c17b0 : decide (0 ≤ x10_1) = true := decide_eq_true c17
          clear c17
          by_cases c18 : 0 ≤ x10_1
          · rw [if_pos c18] at H
            have c18b0 : decide (0 ≤ x10_1) = true := decide_eq_true c18
            clear c18
            by_cases c19 : x10_1 < (t195.length : Int)
            · rw [if_pos c19] at H
              have c19b0 : decide (x10_1 < (t195.length : Int)) = true := decide_eq_true c19
              clear c19
              by_cases c20 : x9_1.length < 4398046511104
              · rw [if_pos c20] at H
                have LMc20 := Aside0.mk c20
                clear c20
                obtain ⟨y219, hy219⟩ : ∃ y_ : List (S40), y_ = (x9_1 ++ [(⟨(rd_T40 t195 x10_1).f0, (rd_T40 t195 x10_1).f1, (⟨(rd_T40 t195 x10_1).f2.f0, (rd_T40 t195 x10_1).f2.f1⟩ : S38)⟩ : S40)]) := ⟨_, rfl⟩
                replace H : (laws_FnPaid.l0 k1 t195 t196 t205 t213 y219 (wrap64 (x10_1 - 1)) t199 t200 t201 t202 t203 t204 t207 t208 t209 t210 t211 t212) = some r := by first | (rw [hy219]; with_reducible exact H) | (have H2_ := (Option.bind_some _ _).symm.trans H; rw [hy219]; with_reducible exact H2_) | (have H2_ := (Option.bind_some _ _).symm.trans H; with_reducible exact H2_) | with_reducible exact H | (rw [hy219]; exact H) | exact H
                have Ny219 := Aside0.mk hy219
                clear hy219
                have H' := Aside0.mk H
                clear H
                have p218 : 0 ≤ (x10_1 : Int) := of_decide_eq_true (by first | (with_reducible assumption) | assumption)
                have q218 : x10_1 < (t195.length : Int) := of_decide_eq_true (by first | (with_reducible assumption) | assumption)
                obtain ⟨ad218, e218, hx218_0, hx218_1, hx218_2, hx218_3⟩ := at_T40 (Kd.R_reads' HO_3.out).2.2 x10_1 p218 q218
                cases e218
                replace p218 := eq_true p218
                replace q218 := eq_true q218
                go_wp2_with (first | ((with_reducible refine gate_builtin (b := .append) (xs := #[.tmp 41, .tmp 46]) rfl ?_); at_builtin; refine Kd.R_append k40 (w0 := w) w.heap.size rfl (.tmp 41) (.tmp 46) 30 40 (.agg #[(.int .i64 0), (.int .i64 0), (.int .i64 0), (.int .i64 0)]) 32 rfl Try.underlying30 info40 rfl (by decide) (by omega) u9 x9_1 (⟨(rd_T40 t195 x10_1).f0, (rd_T40 t195 x10_1).f1, (⟨(rd_T40 t195 x10_1).f2.f0, (rd_T40 t195 x10_1).f2.f1⟩ : S38)⟩ : S40) [.int .i64 ((rd_T40 t195 x10_1).f0), .int .i64 ((rd_T40 t195 x10_1).f1), .int .i64 ((rd_T40 t195 x10_1).f2.f0), .int .i64 ((rd_T40 t195 x10_1).f2.f1)] (fun k_ => some k_ ≠ (.slice (some ad218) t195.length co7 : Value).ownBlock) (fun _ => False) rfl rfl ?aP (fun _ hk => hk.elim) ?aF ?aO ?aB ?aS ?aL ?_; (case aP => exact k40_mkM _ _ _ (⟨(rd_T40 t195 x10_1).f0, (rd_T40 t195 x10_1).f1, (⟨(rd_T40 t195 x10_1).f2.f0, (rd_T40 t195 x10_1).f2.f1⟩ : S38)⟩ : S40)); (case aB => exact (by repeat (first | (with_reducible first | exact HB.out | apply below_alloc | apply pw_below_drewN | apply below_drew1 | refine below_set ?_ GE206.out | refine below_set ?_ GE214.out) | exact HB.out))); (case aF => exact (fun k_ hk => Kd.fresh' (Kd.R_lt (by (with_reducible repeat (first | apply Kd.R_alloc | apply Kd.R_drewN | apply Kd.R_drew)); exact HO_3.out)) k_ hk)); (case aO => exact (by (with_reducible repeat (first | apply Kd.R_alloc | apply Kd.R_drewN | apply Kd.R_drew)); exact HO_9.out)); (case aS => exact (below_size (by repeat (first | (with_reducible first | exact HB.out | apply below_alloc | apply pw_below_drewN | apply below_drew1 | refine below_set ?_ GE206.out | refine below_set ?_ GE214.out) | exact HB.out)))); (case aL => have := LMc20.out; omega); intro v220 w21 ho hb hg hat; rw [← Ny219.out] at ho; have n0_ := Aside0.mk (Kd.R_after (ok := (fun _ => True)) (by (with_reducible repeat (first | apply Kd.R_alloc | apply Kd.R_drewN | apply Kd.R_drew)); exact Kd.R_mono HO_3.out (fun _ hk => ⟨trivial, hk⟩)) hg hat); have n1_ := Aside0.mk (blk_grown (g := gb206) (o := .cells #[.int .i64 t199, .int .i64 t200, .int .i64 t201, .int .i64 t202, .int .i64 t203, .int .i64 t204] 34 (0, 0)) (by (with_reducible repeat (first | refine blk_drewN ?_ _ | refine blk_drew ?_ | refine blk_alloc ?_ _)); exact BK206.out) hg (Kd.R_ne HO_9.out BK206.out (by decide))); have n2_ := Aside0.mk (blk_grown (g := gb214) (o := .cells #[.int .i64 t207, .int .i64 t208, .int .i64 t209, .int .i64 t210, .int .i64 t211, .int .i64 t212] 34 (0, 0)) (by (with_reducible repeat (first | refine blk_drewN ?_ _ | refine blk_drew ?_ | refine blk_alloc ?_ _)); exact BK214.out) hg (Kd.R_ne HO_9.out BK214.out (by decide))); have n3_ := Aside0.mk (hb); have n4_ := Aside0.mk (ho); clear HO_3; clear BK206; clear BK214; clear HB; clear HO_9; have HO_3 := n0_; have BK206 := n1_; have BK214 := n2_; have HB := n3_; have HO221 := n4_; clear n0_ n1_ n2_ n3_ n4_; clear ho hb hg hat))
                go_roundg k1
                case measure => have := HK1.out; omega
                case rel => exact ⟨(y219), (wrap64 (x10_1 - 1)), (by first | rfl | (simp; done) | (simp [*]; done)), H', ⟨by have := HK1.out; omega⟩, ⟨by (with_reducible repeat (first | apply Kd.R_alloc | apply Kd.R_drewN | apply Kd.R_drew)); exact Kd.R_mono HO_3.out (fun _ hk => hk.2)⟩, ⟨by (with_reducible repeat (first | apply Kd.R_alloc | apply Kd.R_drewN | apply Kd.R_drew)); exact HO221.out⟩, ⟨by (with_reducible repeat (first | refine blk_drewN ?_ _ | refine blk_drew ?_ | refine blk_alloc ?_ _)); exact BK206.out⟩, ⟨by (with_reducible repeat (first | refine blk_drewN ?_ _ | refine blk_drew ?_ | refine blk_alloc ?_ _)); exact BK214.out⟩, ⟨by repeat (first | (with_reducible first | exact HB.out | apply below_alloc | apply pw_below_drewN | apply below_drew1 | refine below_set ?_ GE206.out | refine below_set ?_ GE214.out) | exact HB.out)⟩⟩
              · rw [if_neg c20] at H
                exact absurd H (by simp)
            · rw [if_neg c19] at H
              exact absurd H (by simp)
          · rw [if_neg c18] at H
            exact absurd H (by simp)
        · rw [if_neg c17] at H
          have c17b0 : decide (0 ≤ x10_1) = false := decide_eq_false c17
          clear c17
          replace H := Option.bind_eq_some_iff.mp H
          obtain ⟨⟨t222, t223, t224, t225, t226, t227, t228⟩, A220, H⟩ := H
          replace H : (if t205 = t213 then (if t228 = t205 then (if (!(t199 == t207) || (!(t200 == t208) || (!(t201 == t209) || (!(t202 == t210) || (!(t203 == t211) || (!(t204 == t212))))))) = true then (laws_FnPaid.j1 k1 t196 t205 true t199 t200 t201 t202 t203 t204) else (laws_FnPaid.j1 k1 t196 t205 (!(t222 == t199) || (!(t223 == t200) || (!(t224 == t201) || (!(t225 == t202) || (!(t226 == t203) || (!(t227 == t204))))))) t199 t200 t201 t202 t203 t204)) else (laws_FnPaid.j1 k1 t196 t205 true t199 t200 t201 t202 t203 t204)) else (laws_FnPaid.j1 k1 t196 t205 true t199 t200 t201 t202 t203 t204)) = some r := H
          have A22 := Aside0.mk A220
          clear A220
          have HC23 := Aside0.mk H
          clear H
          obtain ⟨Ao24, co24, eo24⟩ := Kd.R_slice HO_9.out
          subst eo24
          go_upto_region 12 with (first | ((with_reducible refine gate_callee (f := 14) rfl ?_); refine goesL_ (some 51) rfl rfl Try.func14 (by kernel_rfl) rfl #[.int .i64 t196, .slice Ao24 x9_1.length co24] rfl (by (try simp only [List.map_toArray, List.map_cons, List.map_nil]); first | done | rfl | (simp only [List.length_drop, List.length_take]; rfl)) ?_; (with_reducible refine (impl_PayMix.calls k1 t196 _ _ x9_1 t222 t223 t224 t225 t226 t227 t228 _ ?side1 ?side2 A22.out).mono ?_); (case side1 => repeat (first | exact (Kd.R_reads' HO_9.out).2.2 | (with_reducible refine Kd.C_alloc ?_ _) | (with_reducible refine Kd.C_drewN ?_ _) | (with_reducible refine Kd.C_drew ?_))); (case side2 => exact (Kd.R_reads' HO_9.out).2.1); rintro e w25 ⟨rfl, hb⟩; refine ⟨_, rfl, ?_⟩; have n0_ := Aside0.mk (Kd.R_below (by (with_reducible repeat (first | apply Kd.R_alloc | apply Kd.R_drewN | apply Kd.R_drew)); exact HO_3.out) hb); have n1_ := Aside0.mk (Kd.R_below (by (with_reducible repeat (first | apply Kd.R_alloc | apply Kd.R_drewN | apply Kd.R_drew)); exact HO_9.out) hb); have n2_ := Aside0.mk (blk_below (g := gb206) (o := .cells #[.int .i64 t199, .int .i64 t200, .int .i64 t201, .int .i64 t202, .int .i64 t203, .int .i64 t204] 34 (0, 0)) (by (with_reducible repeat (first | refine blk_drewN ?_ _ | refine blk_drew ?_ | refine blk_alloc ?_ _)); exact BK206.out) hb); have n3_ := Aside0.mk (blk_below (g := gb214) (o := .cells #[.int .i64 t207, .int .i64 t208, .int .i64 t209, .int .i64 t210, .int .i64 t211, .int .i64 t212] 34 (0, 0)) (by (with_reducible repeat (first | refine blk_drewN ?_ _ | refine blk_drew ?_ | refine blk_alloc ?_ _)); exact BK214.out) hb); have n4_ := Aside0.mk (below_step (by repeat (first | (with_reducible first | exact HB.out | apply below_alloc | apply pw_below_drewN | apply below_drew1 | refine below_set ?_ GE206.out | refine below_set ?_ GE214.out) | exact HB.out)) hb); clear HO_3; clear HO_9; clear BK206; clear BK214; clear HB; have HO_3 := n0_; have HO_9 := n1_; have BK206 := n2_; have BK214 := n3_; have HB := n4_; clear n0_ n1_ n2_ n3_ n4_; (try clear hb); (try clear hb2); (try clear hk); (try clear hi)) | ((with_reducible refine gate_dst (N := 11) rfl ?_); refine box_event ?hg (N := 11) ?hd (cs := #[.int .i64 0, .int .i64 0, .int .i64 0, .int .i64 0, .int .i64 0, .int .i64 0]) (t := 34) ?hr ?_; (case hd => rfl); (case hg => rfl); (case hr => first | (go_simp; done) | (go_simp; rfl)); intro gb229 hg w26 hbox hb; have n0_ := Aside0.mk (Kd.R_below (by (with_reducible repeat (first | apply Kd.R_alloc | apply Kd.R_drewN | apply Kd.R_drew)); exact HO_3.out) hb); have n1_ := Aside0.mk (Kd.R_below (by (with_reducible repeat (first | apply Kd.R_alloc | apply Kd.R_drewN | apply Kd.R_drew)); exact HO_9.out) hb); have n2_ := Aside0.mk (blk_below (g := gb206) (o := .cells #[.int .i64 t199, .int .i64 t200, .int .i64 t201, .int .i64 t202, .int .i64 t203, .int .i64 t204] 34 (0, 0)) (by (with_reducible repeat (first | refine blk_drewN ?_ _ | refine blk_drew ?_ | refine blk_alloc ?_ _)); exact BK206.out) hb); have n3_ := Aside0.mk (blk_below (g := gb214) (o := .cells #[.int .i64 t207, .int .i64 t208, .int .i64 t209, .int .i64 t210, .int .i64 t211, .int .i64 t212] 34 (0, 0)) (by (with_reducible repeat (first | refine blk_drewN ?_ _ | refine blk_drew ?_ | refine blk_alloc ?_ _)); exact BK214.out) hb); have n4_ := Aside0.mk (below_step (by repeat (first | (with_reducible first | exact HB.out | apply below_alloc | apply pw_below_drewN | apply below_drew1 | refine below_set ?_ GE206.out | refine below_set ?_ GE214.out) | exact HB.out)) hb); have n5_ := Aside0.mk (hbox); have n6_ := Aside0.mk ((by rw [hg]; exact (below_size (by repeat (first | (with_reducible first | exact HB.out | apply below_alloc | apply pw_below_drewN | apply below_drew1 | refine below_set ?_ GE206.out | refine below_set ?_ GE214.out) | exact HB.out))) : w.heap.size ≤ gb229)); have n7_ := Aside0.mk ((by rw [hg]; exact (below_size (by repeat (first | (with_reducible first | exact HB.out | apply below_alloc | apply pw_below_drewN | apply below_drew1 | refine below_set ?_ GE206.out | refine below_set ?_ GE214.out) | exact HB.out))) : w.heap.size ≤ gb229)); have n8_ := Aside0.mk ((by rw [hg]; exact Nat.ne_of_lt (blk_lt (g := gb206) (o := .cells #[.int .i64 t199, .int .i64 t200, .int .i64 t201, .int .i64 t202, .int .i64 t203, .int .i64 t204] 34 (0, 0)) (by (with_reducible repeat (first | refine blk_drewN ?_ _ | refine blk_drew ?_ | refine blk_alloc ?_ _)); exact BK206.out)) : gb206 ≠ gb229)); have n9_ := Aside0.mk ((by rw [hg]; exact Nat.ne_of_gt (blk_lt (g := gb206) (o := .cells #[.int .i64 t199, .int .i64 t200, .int .i64 t201, .int .i64 t202, .int .i64 t203, .int .i64 t204] 34 (0, 0)) (by (with_reducible repeat (first | refine blk_drewN ?_ _ | refine blk_drew ?_ | refine blk_alloc ?_ _)); exact BK206.out)) : gb229 ≠ gb206)); have n10_ := Aside0.mk ((by rw [hg]; exact Nat.ne_of_lt (blk_lt (g := gb214) (o := .cells #[.int .i64 t207, .int .i64 t208, .int .i64 t209, .int .i64 t210, .int .i64 t211, .int .i64 t212] 34 (0, 0)) (by (with_reducible repeat (first | refine blk_drewN ?_ _ | refine blk_drew ?_ | refine blk_alloc ?_ _)); exact BK214.out)) : gb214 ≠ gb229)); have n11_ := Aside0.mk ((by rw [hg]; exact Nat.ne_of_gt (blk_lt (g := gb214) (o := .cells #[.int .i64 t207, .int .i64 t208, .int .i64 t209, .int .i64 t210, .int .i64 t211, .int .i64 t212] 34 (0, 0)) (by (with_reducible repeat (first | refine blk_drewN ?_ _ | refine blk_drew ?_ | refine blk_alloc ?_ _)); exact BK214.out)) : gb229 ≠ gb214)); clear HO_3; clear HO_9; clear BK206; clear BK214; clear HB; have HO_3 := n0_; have HO_9 := n1_; have BK206 := n2_; have BK214 := n3_; have HB := n4_; have BK229 := n5_; have GW229 := n6_; have GE229 := n7_; have NB206_229 := n8_; have NB229_206 := n9_; have NB214_229 := n10_; have NB229_214 := n11_; clear n0_ n1_ n2_ n3_ n4_ n5_ n6_ n7_ n8_ n9_ n10_ n11_; clear hb hbox hg; have hnb27 := NB229_206.out; have hnc27 := NB206_229.out; have hnb28 := NB229_214.out; have hnc28 := NB214_229.out; have hcz29_0 : w26.cell? ⟨gb229, 0, none⟩ = some (.int .i64 0) := (blk_cell BK229.out 0).trans rfl; have hcz29_1 : w26.cell? ⟨gb229, 1, none⟩ = some (.int .i64 0) := (blk_cell BK229.out 1).trans rfl; have hcz29_2 : w26.cell? ⟨gb229, 2, none⟩ = some (.int .i64 0) := (blk_cell BK229.out 2).trans rfl; have hcz29_3 : w26.cell? ⟨gb229, 3, none⟩ = some (.int .i64 0) := (blk_cell BK229.out 3).trans rfl; have hcz29_4 : w26.cell? ⟨gb229, 4, none⟩ = some (.int .i64 0) := (blk_cell BK229.out 4).trans rfl; have hcz29_5 : w26.cell? ⟨gb229, 5, none⟩ = some (.int .i64 0) := (blk_cell BK229.out 5).trans rfl; have hfz29_0 := blk_frozen BK229.out 0; have hfz29_1 := blk_frozen BK229.out 1; have hfz29_2 := blk_frozen BK229.out 2; have hfz29_3 := blk_frozen BK229.out 3; have hfz29_4 := blk_frozen BK229.out 4; have hfz29_5 := blk_frozen BK229.out 5))
          (try simp only [Act.put, List.setIfInBounds_toArray, List.set_cons_zero, List.set_cons_succ])
          go_cut [71] (fun v71 wc => ∃ (kq : Nat) (x71_22 : Bool), v71 = .bool x71_22 ∧ Aside0 (laws_FnPaid.j1 kq t196 t205 x71_22 t199 t200 t201 t202 t203 t204 = some r) ∧ Aside0 (kq ≤ k1) ∧ Aside0 (wc.heap[gb206]? = some (.cells #[.int .i64 t199, .int .i64 t200, .int .i64 t201, .int .i64 t202, .int .i64 t203, .int .i64 t204] 34 (0, 0))) ∧ Aside0 (wc.heap[gb214]? = some (.cells #[.int .i64 t207, .int .i64 t208, .int .i64 t209, .int .i64 t210, .int .i64 t211, .int .i64 t212] 34 (0, 0))) ∧ Aside0 (wc.heap[gb229]? = some (.cells #[.int .i64 t222, .int .i64 t223, .int .i64 t224, .int .i64 t225, .int .i64 t226, .int .i64 t227] 34 (0, 0))) ∧ Aside0 (Below w.heap.size w wc))
          case first =>
            have H := HC23.out
            clear HC23
            by_cases c30 : t205 = t213
            · rw [if_pos c30] at H
              have c30b0 : (t205 == t213) = true := beq_iff_eq.mpr c30
              have c30b1 : (t205 != t213) = false := bne_eq_false_iff_eq.mpr c30
              clear c30
              (first | rw [c30b0] | (simp only [i64_w, i32_w]; rw [c30b0]) | skip)
              by_cases c31 : t228 = t205
              · rw [if_pos c31] at H
                have c31b0 : (t228 == t205) = true := beq_iff_eq.mpr c31
                have c31b1 : (t228 != t205) = false := bne_eq_false_iff_eq.mpr c31
                clear c31
                by_cases c32 : (!(t199 == t207) || (!(t200 == t208) || (!(t201 == t209) || (!(t202 == t210) || (!(t203 == t211) || (!(t204 == t212))))))) = true
                · rw [if_pos c32] at H
                  have c32b0 : (!(t199 == t207) || (!(t200 == t208) || (!(t201 == t209) || (!(t202 == t210) || (!(t203 == t211) || (!(t204 == t212))))))) = true := c32
                  clear c32
                  have H' := Aside0.mk H
                  clear H
                  have hnb33 := NB206_214.out
                  have hnc33 := NB214_206.out
                  have hnb34 := NB206_229.out
                  have hnc34 := NB229_206.out
                  have hcz35_0 : w26.cell? ⟨gb206, 0, none⟩ = some (.int .i64 t199) := (blk_cell BK206.out 0).trans rfl
                  have hcz35_1 : w26.cell? ⟨gb206, 1, none⟩ = some (.int .i64 t200) := (blk_cell BK206.out 1).trans rfl
                  have hcz35_2 : w26.cell? ⟨gb206, 2, none⟩ = some (.int .i64 t201) := (blk_cell BK206.out 2).trans rfl
                  have hcz35_3 : w26.cell? ⟨gb206, 3, none⟩ = some (.int .i64 t202) := (blk_cell BK206.out 3).trans rfl
                  have hcz35_4 : w26.cell? ⟨gb206, 4, none⟩ = some (.int .i64 t203) := (blk_cell BK206.out 4).trans rfl
                  have hcz35_5 : w26.cell? ⟨gb206, 5, none⟩ = some (.int .i64 t204) := (blk_cell BK206.out 5).trans rfl
                  have hfz35_0 := blk_frozen BK206.out 0
                  have hfz35_1 := blk_frozen BK206.out 1
                  have hfz35_2 := blk_frozen BK206.out 2
                  have hfz35_3 := blk_frozen BK206.out 3
                  have hfz35_4 := blk_frozen BK206.out 4
                  have hfz35_5 := blk_frozen BK206.out 5
                  have hnb36 := NB214_229.out
                  have hnc36 := NB229_214.out
                  have hcz37_0 : w26.cell? ⟨gb214, 0, none⟩ = some (.int .i64 t207) := (blk_cell BK214.out 0).trans rfl
                  have hcz37_1 : w26.cell? ⟨gb214, 1, none⟩ = some (.int .i64 t208) := (blk_cell BK214.out 1).trans rfl
                  have hcz37_2 : w26.cell? ⟨gb214, 2, none⟩ = some (.int .i64 t209) := (blk_cell BK214.out 2).trans rfl
                  have hcz37_3 : w26.cell? ⟨gb214, 3, none⟩ = some (.int .i64 t210) := (blk_cell BK214.out 3).trans rfl
                  have hcz37_4 : w26.cell? ⟨gb214, 4, none⟩ = some (.int .i64 t211) := (blk_cell BK214.out 4).trans rfl
                  have hcz37_5 : w26.cell? ⟨gb214, 5, none⟩ = some (.int .i64 t212) := (blk_cell BK214.out 5).trans rfl
                  have hfz37_0 := blk_frozen BK214.out 0
                  have hfz37_1 := blk_frozen BK214.out 1
                  have hfz37_2 := blk_frozen BK214.out 2
                  have hfz37_3 := blk_frozen BK214.out 3
                  have hfz37_4 := blk_frozen BK214.out 4
                  have hfz37_5 := blk_frozen BK214.out 5
                  go_wp2
                  go_meet
                  case rel => exact ⟨_, (true), (by first | rfl | (simp; done) | (simp [*]; done)), H', ⟨by have := HK1.out; first | omega | exact Nat.le_refl _⟩, ⟨by (with_reducible repeat (first | refine blk_drewN ?_ _ | refine blk_drew ?_ | refine blk_alloc ?_ _)); refine blk_far ?_ NB206_229.out _; (with_reducible repeat (first | refine blk_drewN ?_ _ | refine blk_drew ?_ | refine blk_alloc ?_ _)); refine blk_far ?_ NB206_229.out _; (with_reducible repeat (first | refine blk_drewN ?_ _ | refine blk_drew ?_ | refine blk_alloc ?_ _)); refine blk_far ?_ NB206_229.out _; (with_reducible repeat (first | refine blk_drewN ?_ _ | refine blk_drew ?_ | refine blk_alloc ?_ _)); refine blk_far ?_ NB206_229.out _; (with_reducible repeat (first | refine blk_drewN ?_ _ | refine blk_drew ?_ | refine blk_alloc ?_ _)); refine blk_far ?_ NB206_229.out _; (with_reducible repeat (first | refine blk_drewN ?_ _ | refine blk_drew ?_ | refine blk_alloc ?_ _)); refine blk_far ?_ NB206_229.out _; (with_reducible repeat (first | refine blk_drewN ?_ _ | refine blk_drew ?_ | refine blk_alloc ?_ _)); exact BK206.out⟩, ⟨by (with_reducible repeat (first | refine blk_drewN ?_ _ | refine blk_drew ?_ | refine blk_alloc ?_ _)); refine blk_far ?_ NB214_229.out _; (with_reducible repeat (first | refine blk_drewN ?_ _ | refine blk_drew ?_ | refine blk_alloc ?_ _)); refine blk_far ?_ NB214_229.out _; (with_reducible repeat (first | refine blk_drewN ?_ _ | refine blk_drew ?_ | refine blk_alloc ?_ _)); refine blk_far ?_ NB214_229.out _; (with_reducible repeat (first | refine blk_drewN ?_ _ | refine blk_drew ?_ | refine blk_alloc ?_ _)); refine blk_far ?_ NB214_229.out _; (with_reducible repeat (first | refine blk_drewN ?_ _ | refine blk_drew ?_ | refine blk_alloc ?_ _)); refine blk_far ?_ NB214_229.out _; (with_reducible repeat (first | refine blk_drewN ?_ _ | refine blk_drew ?_ | refine blk_alloc ?_ _)); refine blk_far ?_ NB214_229.out _; (with_reducible repeat (first | refine blk_drewN ?_ _ | refine blk_drew ?_ | refine blk_alloc ?_ _)); exact BK214.out⟩, ⟨by (with_reducible repeat (first | refine blk_drewN ?_ _ | refine blk_drew ?_ | refine blk_alloc ?_ _)); refine blk_put (cs := #[.int .i64 t222, .int .i64 t223, .int .i64 t224, .int .i64 t225, .int .i64 t226, .int .i64 0]) ?_ 5 _ rfl; (with_reducible repeat (first | refine blk_drewN ?_ _ | refine blk_drew ?_ | refine blk_alloc ?_ _)); refine blk_put (cs := #[.int .i64 t222, .int .i64 t223, .int .i64 t224, .int .i64 t225, .int .i64 0, .int .i64 0]) ?_ 4 _ rfl; (with_reducible repeat (first | refine blk_drewN ?_ _ | refine blk_drew ?_ | refine blk_alloc ?_ _)); refine blk_put (cs := #[.int .i64 t222, .int .i64 t223, .int .i64 t224, .int .i64 0, .int .i64 0, .int .i64 0]) ?_ 3 _ rfl; (with_reducible repeat (first | refine blk_drewN ?_ _ | refine blk_drew ?_ | refine blk_alloc ?_ _)); refine blk_put (cs := #[.int .i64 t222, .int .i64 t223, .int .i64 0, .int .i64 0, .int .i64 0, .int .i64 0]) ?_ 2 _ rfl; (with_reducible repeat (first | refine blk_drewN ?_ _ | refine blk_drew ?_ | refine blk_alloc ?_ _)); refine blk_put (cs := #[.int .i64 t222, .int .i64 0, .int .i64 0, .int .i64 0, .int .i64 0, .int .i64 0]) ?_ 1 _ rfl; (with_reducible repeat (first | refine blk_drewN ?_ _ | refine blk_drew ?_ | refine blk_alloc ?_ _)); refine blk_put (cs := #[.int .i64 0, .int .i64 0, .int .i64 0, .int .i64 0, .int .i64 0, .int .i64 0]) ?_ 0 _ rfl; (with_reducible repeat (first | refine blk_drewN ?_ _ | refine blk_drew ?_ | refine blk_alloc ?_ _)); exact BK229.out⟩, ⟨by repeat (first | (with_reducible first | exact HB.out | apply below_alloc | apply pw_below_drewN | apply below_drew1 | refine below_set ?_ GE206.out | refine below_set ?_ GE214.out | refine below_set ?_ GE229.out) | exact HB.out)⟩⟩
                · rw [if_neg c32] at H
                  have c32b0 : (!(t199 == t207) || (!(t200 == t208) || (!(t201 == t209) || (!(t202 == t210) || (!(t203 == t211) || (!(t204 == t212))))))) = false := by simpa using c32
                  clear c32
                  have H' := Aside0.mk H
                  clear H
                  have hnb38 := NB206_214.out
                  have hnc38 := NB214_206.out
                  have hnb39 := NB206_229.out
                  have hnc39 := NB229_206.out
                  have hcz40_0 : w26.cell? ⟨gb206, 0, none⟩ = some (.int .i64 t199) := (blk_cell BK206.out 0).trans rfl
                  have hcz40_1 : w26.cell? ⟨gb206, 1, none⟩ = some (.int .i64 t200) := (blk_cell BK206.out 1).trans rfl
                  have hcz40_2 : w26.cell? ⟨gb206, 2, none⟩ = some (.int .i64 t201) := (blk_cell BK206.out 2).trans rfl
                  have hcz40_3 : w26.cell? ⟨gb206, 3, none⟩ = some (.int .i64 t202) := (blk_cell BK206.out 3).trans rfl
                  have hcz40_4 : w26.cell? ⟨gb206, 4, none⟩ = some (.int .i64 t203) := (blk_cell BK206.out 4).trans rfl
                  have hcz40_5 : w26.cell? ⟨gb206, 5, none⟩ = some (.int .i64 t204) := (blk_cell BK206.out 5).trans rfl
                  have hfz40_0 := blk_frozen BK206.out 0
                  have hfz40_1 := blk_frozen BK206.out 1
                  have hfz40_2 := blk_frozen BK206.out 2
                  have hfz40_3 := blk_frozen BK206.out 3
                  have hfz40_4 := blk_frozen BK206.out 4
                  have hfz40_5 := blk_frozen BK206.out 5
                  have hnb41 := NB214_229.out
                  have hnc41 := NB229_214.out
                  have hcz42_0 : w26.cell? ⟨gb214, 0, none⟩ = some (.int .i64 t207) := (blk_cell BK214.out 0).trans rfl
                  have hcz42_1 : w26.cell? ⟨gb214, 1, none⟩ = some (.int .i64 t208) := (blk_cell BK214.out 1).trans rfl
                  have hcz42_2 : w26.cell? ⟨gb214, 2, none⟩ = some (.int .i64 t209) := (blk_cell BK214.out 2).trans rfl
                  have hcz42_3 : w26.cell? ⟨gb214, 3, none⟩ = some (.int .i64 t210) := (blk_cell BK214.out 3).trans rfl
                  have hcz42_4 : w26.cell? ⟨gb214, 4, none⟩ = some (.int .i64 t211) := (blk_cell BK214.out 4).trans rfl
                  have hcz42_5 : w26.cell? ⟨gb214, 5, none⟩ = some (.int .i64 t212) := (blk_cell BK214.out 5).trans rfl
                  have hfz42_0 := blk_frozen BK214.out 0
                  have hfz42_1 := blk_frozen BK214.out 1
                  have hfz42_2 := blk_frozen BK214.out 2
                  have hfz42_3 := blk_frozen BK214.out 3
                  have hfz42_4 := blk_frozen BK214.out 4
                  have hfz42_5 := blk_frozen BK214.out 5
                  have hcz43_0 : w26.cell? ⟨gb229, 0, none⟩ = some (.int .i64 0) := (blk_cell BK229.out 0).trans rfl
                  have hcz43_1 : w26.cell? ⟨gb229, 1, none⟩ = some (.int .i64 0) := (blk_cell BK229.out 1).trans rfl
                  have hcz43_2 : w26.cell? ⟨gb229, 2, none⟩ = some (.int .i64 0) := (blk_cell BK229.out 2).trans rfl
                  have hcz43_3 : w26.cell? ⟨gb229, 3, none⟩ = some (.int .i64 0) := (blk_cell BK229.out 3).trans rfl
                  have hcz43_4 : w26.cell? ⟨gb229, 4, none⟩ = some (.int .i64 0) := (blk_cell BK229.out 4).trans rfl
                  have hcz43_5 : w26.cell? ⟨gb229, 5, none⟩ = some (.int .i64 0) := (blk_cell BK229.out 5).trans rfl
                  have hfz43_0 := blk_frozen BK229.out 0
                  have hfz43_1 := blk_frozen BK229.out 1
                  have hfz43_2 := blk_frozen BK229.out 2
                  have hfz43_3 := blk_frozen BK229.out 3
                  have hfz43_4 := blk_frozen BK229.out 4
                  have hfz43_5 := blk_frozen BK229.out 5
                  go_wp2
                  go_meet
                  case rel => exact ⟨_, ((!(t222 == t199) || (!(t223 == t200) || (!(t224 == t201) || (!(t225 == t202) || (!(t226 == t203) || (!(t227 == t204)))))))), (by first | rfl | (simp; done) | (simp [*]; done)), H', ⟨by have := HK1.out; first | omega | exact Nat.le_refl _⟩, ⟨by (with_reducible repeat (first | refine blk_drewN ?_ _ | refine blk_drew ?_ | refine blk_alloc ?_ _)); refine blk_far ?_ NB206_229.out _; (with_reducible repeat (first | refine blk_drewN ?_ _ | refine blk_drew ?_ | refine blk_alloc ?_ _)); refine blk_far ?_ NB206_229.out _; (with_reducible repeat (first | refine blk_drewN ?_ _ | refine blk_drew ?_ | refine blk_alloc ?_ _)); refine blk_far ?_ NB206_229.out _; (with_reducible repeat (first | refine blk_drewN ?_ _ | refine blk_drew ?_ | refine blk_alloc ?_ _)); refine blk_far ?_ NB206_229.out _; (with_reducible repeat (first | refine blk_drewN ?_ _ | refine blk_drew ?_ | refine blk_alloc ?_ _)); refine blk_far ?_ NB206_229.out _; (with_reducible repeat (first | refine blk_drewN ?_ _ | refine blk_drew ?_ | refine blk_alloc ?_ _)); refine blk_far ?_ NB206_229.out _; (with_reducible repeat (first | refine blk_drewN ?_ _ | refine blk_drew ?_ | refine blk_alloc ?_ _)); exact BK206.out⟩, ⟨by (with_reducible repeat (first | refine blk_drewN ?_ _ | refine blk_drew ?_ | refine blk_alloc ?_ _)); refine blk_far ?_ NB214_229.out _; (with_reducible repeat (first | refine blk_drewN ?_ _ | refine blk_drew ?_ | refine blk_alloc ?_ _)); refine blk_far ?_ NB214_229.out _; (with_reducible repeat (first | refine blk_drewN ?_ _ | refine blk_drew ?_ | refine blk_alloc ?_ _)); refine blk_far ?_ NB214_229.out _; (with_reducible repeat (first | refine blk_drewN ?_ _ | refine blk_drew ?_ | refine blk_alloc ?_ _)); refine blk_far ?_ NB214_229.out _; (with_reducible repeat (first | refine blk_drewN ?_ _ | refine blk_drew ?_ | refine blk_alloc ?_ _)); refine blk_far ?_ NB214_229.out _; (with_reducible repeat (first | refine blk_drewN ?_ _ | refine blk_drew ?_ | refine blk_alloc ?_ _)); refine blk_far ?_ NB214_229.out _; (with_reducible repeat (first | refine blk_drewN ?_ _ | refine blk_drew ?_ | refine blk_alloc ?_ _)); exact BK214.out⟩, ⟨by (with_reducible repeat (first | refine blk_drewN ?_ _ | refine blk_drew ?_ | refine blk_alloc ?_ _)); refine blk_put (cs := #[.int .i64 t222, .int .i64 t223, .int .i64 t224, .int .i64 t225, .int .i64 t226, .int .i64 0]) ?_ 5 _ rfl; (with_reducible repeat (first | refine blk_drewN ?_ _ | refine blk_drew ?_ | refine blk_alloc ?_ _)); refine blk_put (cs := #[.int .i64 t222, .int .i64 t223, .int .i64 t224, .int .i64 t225, .int .i64 0, .int .i64 0]) ?_ 4 _ rfl; (with_reducible repeat (first | refine blk_drewN ?_ _ | refine blk_drew ?_ | refine blk_alloc ?_ _)); refine blk_put (cs := #[.int .i64 t222, .int .i64 t223, .int .i64 t224, .int .i64 0, .int .i64 0, .int .i64 0]) ?_ 3 _ rfl; (with_reducible repeat (first | refine blk_drewN ?_ _ | refine blk_drew ?_ | refine blk_alloc ?_ _)); refine blk_put (cs := #[.int .i64 t222, .int .i64 t223, .int .i64 0, .int .i64 0, .int .i64 0, .int .i64 0]) ?_ 2 _ rfl; (with_reducible repeat (first | refine blk_drewN ?_ _ | refine blk_drew ?_ | refine blk_alloc ?_ _)); refine blk_put (cs := #[.int .i64 t222, .int .i64 0, .int .i64 0, .int .i64 0, .int .i64 0, .int .i64 0]) ?_ 1 _ rfl; (with_reducible repeat (first | refine blk_drewN ?_ _ | refine blk_drew ?_ | refine blk_alloc ?_ _)); refine blk_put (cs := #[.int .i64 0, .int .i64 0, .int .i64 0, .int .i64 0, .int .i64 0, .int .i64 0]) ?_ 0 _ rfl; (with_reducible repeat (first | refine blk_drewN ?_ _ | refine blk_drew ?_ | refine blk_alloc ?_ _)); exact BK229.out⟩, ⟨by repeat (first | (with_reducible first | exact HB.out | apply below_alloc | apply pw_below_drewN | apply below_drew1 | refine below_set ?_ GE206.out | refine below_set ?_ GE214.out | refine below_set ?_ GE229.out) | exact HB.out)⟩⟩
              · rw [if_neg c31] at H
                have c31b0 : (t228 == t205) = false := beq_eq_false_iff_ne.mpr c31
                have c31b1 : (t228 != t205) = true := bne_iff_ne.mpr c31
                have H' := Aside0.mk H
                clear H
                go_wp2
                go_meet
                case rel => exact ⟨_, (true), (by first | rfl | (simp; done) | (simp [*]; done)), H', ⟨by have := HK1.out; first | omega | exact Nat.le_refl _⟩, ⟨by (with_reducible repeat (first | refine blk_drewN ?_ _ | refine blk_drew ?_ | refine blk_alloc ?_ _)); refine blk_far ?_ NB206_229.out _; (with_reducible repeat (first | refine blk_drewN ?_ _ | refine blk_drew ?_ | refine blk_alloc ?_ _)); refine blk_far ?_ NB206_229.out _; (with_reducible repeat (first | refine blk_drewN ?_ _ | refine blk_drew ?_ | refine blk_alloc ?_ _)); refine blk_far ?_ NB206_229.out _; (with_reducible repeat (first | refine blk_drewN ?_ _ | refine blk_drew ?_ | refine blk_alloc ?_ _)); refine blk_far ?_ NB206_229.out _; (with_reducible repeat (first | refine blk_drewN ?_ _ | refine blk_drew ?_ | refine blk_alloc ?_ _)); refine blk_far ?_ NB206_229.out _; (with_reducible repeat (first | refine blk_drewN ?_ _ | refine blk_drew ?_ | refine blk_alloc ?_ _)); refine blk_far ?_ NB206_229.out _; (with_reducible repeat (first | refine blk_drewN ?_ _ | refine blk_drew ?_ | refine blk_alloc ?_ _)); exact BK206.out⟩, ⟨by (with_reducible repeat (first | refine blk_drewN ?_ _ | refine blk_drew ?_ | refine blk_alloc ?_ _)); refine blk_far ?_ NB214_229.out _; (with_reducible repeat (first | refine blk_drewN ?_ _ | refine blk_drew ?_ | refine blk_alloc ?_ _)); refine blk_far ?_ NB214_229.out _; (with_reducible repeat (first | refine blk_drewN ?_ _ | refine blk_drew ?_ | refine blk_alloc ?_ _)); refine blk_far ?_ NB214_229.out _; (with_reducible repeat (first | refine blk_drewN ?_ _ | refine blk_drew ?_ | refine blk_alloc ?_ _)); refine blk_far ?_ NB214_229.out _; (with_reducible repeat (first | refine blk_drewN ?_ _ | refine blk_drew ?_ | refine blk_alloc ?_ _)); refine blk_far ?_ NB214_229.out _; (with_reducible repeat (first | refine blk_drewN ?_ _ | refine blk_drew ?_ | refine blk_alloc ?_ _)); refine blk_far ?_ NB214_229.out _; (with_reducible repeat (first | refine blk_drewN ?_ _ | refine blk_drew ?_ | refine blk_alloc ?_ _)); exact BK214.out⟩, ⟨by (with_reducible repeat (first | refine blk_drewN ?_ _ | refine blk_drew ?_ | refine blk_alloc ?_ _)); refine blk_put (cs := #[.int .i64 t222, .int .i64 t223, .int .i64 t224, .int .i64 t225, .int .i64 t226, .int .i64 0]) ?_ 5 _ rfl; (with_reducible repeat (first | refine blk_drewN ?_ _ | refine blk_drew ?_ | refine blk_alloc ?_ _)); refine blk_put (cs := #[.int .i64 t222, .int .i64 t223, .int .i64 t224, .int .i64 t225, .int .i64 0, .int .i64 0]) ?_ 4 _ rfl; (with_reducible repeat (first | refine blk_drewN ?_ _ | refine blk_drew ?_ | refine blk_alloc ?_ _)); refine blk_put (cs := #[.int .i64 t222, .int .i64 t223, .int .i64 t224, .int .i64 0, .int .i64 0, .int .i64 0]) ?_ 3 _ rfl; (with_reducible repeat (first | refine blk_drewN ?_ _ | refine blk_drew ?_ | refine blk_alloc ?_ _)); refine blk_put (cs := #[.int .i64 t222, .int .i64 t223, .int .i64 0, .int .i64 0, .int .i64 0, .int .i64 0]) ?_ 2 _ rfl; (with_reducible repeat (first | refine blk_drewN ?_ _ | refine blk_drew ?_ | refine blk_alloc ?_ _)); refine blk_put (cs := #[.int .i64 t222, .int .i64 0, .int .i64 0, .int .i64 0, .int .i64 0, .int .i64 0]) ?_ 1 _ rfl; (with_reducible repeat (first | refine blk_drewN ?_ _ | refine blk_drew ?_ | refine blk_alloc ?_ _)); refine blk_put (cs := #[.int .i64 0, .int .i64 0, .int .i64 0, .int .i64 0, .int .i64 0, .int .i64 0]) ?_ 0 _ rfl; (with_reducible repeat (first | refine blk_drewN ?_ _ | refine blk_drew ?_ | refine blk_alloc ?_ _)); exact BK229.out⟩, ⟨by repeat (first | (with_reducible first | exact HB.out | apply below_alloc | apply pw_below_drewN | apply below_drew1 | refine below_set ?_ GE206.out | refine below_set ?_ GE214.out | refine below_set ?_ GE229.out) | exact HB.out)⟩⟩
            · rw [if_neg c30] at H
              have c30b0 : (t205 == t213) = false := beq_eq_false_iff_ne.mpr c30
              have c30b1 : (t205 != t213) = true := bne_iff_ne.mpr c30
              (first | rw [c30b0] | (simp only [i64_w, i32_w]; rw [c30b0]) | skip)
              have H' := Aside0.mk H
              clear H
              go_wp2
              go_meet
              case rel => exact ⟨_, (true), (by first | rfl | (simp; done) | (simp [*]; done)), H', ⟨by have := HK1.out; first | omega | exact Nat.le_refl _⟩, ⟨by (with_reducible repeat (first | refine blk_drewN ?_ _ | refine blk_drew ?_ | refine blk_alloc ?_ _)); refine blk_far ?_ NB206_229.out _; (with_reducible repeat (first | refine blk_drewN ?_ _ | refine blk_drew ?_ | refine blk_alloc ?_ _)); refine blk_far ?_ NB206_229.out _; (with_reducible repeat (first | refine blk_drewN ?_ _ | refine blk_drew ?_ | refine blk_alloc ?_ _)); refine blk_far ?_ NB206_229.out _; (with_reducible repeat (first | refine blk_drewN ?_ _ | refine blk_drew ?_ | refine blk_alloc ?_ _)); refine blk_far ?_ NB206_229.out _; (with_reducible repeat (first | refine blk_drewN ?_ _ | refine blk_drew ?_ | refine blk_alloc ?_ _)); refine blk_far ?_ NB206_229.out _; (with_reducible repeat (first | refine blk_drewN ?_ _ | refine blk_drew ?_ | refine blk_alloc ?_ _)); refine blk_far ?_ NB206_229.out _; (with_reducible repeat (first | refine blk_drewN ?_ _ | refine blk_drew ?_ | refine blk_alloc ?_ _)); exact BK206.out⟩, ⟨by (with_reducible repeat (first | refine blk_drewN ?_ _ | refine blk_drew ?_ | refine blk_alloc ?_ _)); refine blk_far ?_ NB214_229.out _; (with_reducible repeat (first | refine blk_drewN ?_ _ | refine blk_drew ?_ | refine blk_alloc ?_ _)); refine blk_far ?_ NB214_229.out _; (with_reducible repeat (first | refine blk_drewN ?_ _ | refine blk_drew ?_ | refine blk_alloc ?_ _)); refine blk_far ?_ NB214_229.out _; (with_reducible repeat (first | refine blk_drewN ?_ _ | refine blk_drew ?_ | refine blk_alloc ?_ _)); refine blk_far ?_ NB214_229.out _; (with_reducible repeat (first | refine blk_drewN ?_ _ | refine blk_drew ?_ | refine blk_alloc ?_ _)); refine blk_far ?_ NB214_229.out _; (with_reducible repeat (first | refine blk_drewN ?_ _ | refine blk_drew ?_ | refine blk_alloc ?_ _)); refine blk_far ?_ NB214_229.out _; (with_reducible repeat (first | refine blk_drewN ?_ _ | refine blk_drew ?_ | refine blk_alloc ?_ _)); exact BK214.out⟩, ⟨by (with_reducible repeat (first | refine blk_drewN ?_ _ | refine blk_drew ?_ | refine blk_alloc ?_ _)); refine blk_put (cs := #[.int .i64 t222, .int .i64 t223, .int .i64 t224, .int .i64 t225, .int .i64 t226, .int .i64 0]) ?_ 5 _ rfl; (with_reducible repeat (first | refine blk_drewN ?_ _ | refine blk_drew ?_ | refine blk_alloc ?_ _)); refine blk_put (cs := #[.int .i64 t222, .int .i64 t223, .int .i64 t224, .int .i64 t225, .int .i64 0, .int .i64 0]) ?_ 4 _ rfl; (with_reducible repeat (first | refine blk_drewN ?_ _ | refine blk_drew ?_ | refine blk_alloc ?_ _)); refine blk_put (cs := #[.int .i64 t222, .int .i64 t223, .int .i64 t224, .int .i64 0, .int .i64 0, .int .i64 0]) ?_ 3 _ rfl; (with_reducible repeat (first | refine blk_drewN ?_ _ | refine blk_drew ?_ | refine blk_alloc ?_ _)); refine blk_put (cs := #[.int .i64 t222, .int .i64 t223, .int .i64 0, .int .i64 0, .int .i64 0, .int .i64 0]) ?_ 2 _ rfl; (with_reducible repeat (first | refine blk_drewN ?_ _ | refine blk_drew ?_ | refine blk_alloc ?_ _)); refine blk_put (cs := #[.int .i64 t222, .int .i64 0, .int .i64 0, .int .i64 0, .int .i64 0, .int .i64 0]) ?_ 1 _ rfl; (with_reducible repeat (first | refine blk_drewN ?_ _ | refine blk_drew ?_ | refine blk_alloc ?_ _)); refine blk_put (cs := #[.int .i64 0, .int .i64 0, .int .i64 0, .int .i64 0, .int .i64 0, .int .i64 0]) ?_ 0 _ rfl; (with_reducible repeat (first | refine blk_drewN ?_ _ | refine blk_drew ?_ | refine blk_alloc ?_ _)); exact BK229.out⟩, ⟨by repeat (first | (with_reducible first | exact HB.out | apply below_alloc | apply pw_below_drewN | apply below_drew1 | refine below_set ?_ GE206.out | refine below_set ?_ GE214.out | refine below_set ?_ GE229.out) | exact HB.out)⟩⟩
          case rest =>
            clear HC23
            try clear c1
            try clear c2
            try clear c2b0
            try clear c2b1
            try clear p2
            try clear q2
            try clear hx2
            try clear c3
            try clear c4
            try clear p6
            try clear c13
            try clear c14
            try clear c15
            try clear c17
            try clear c17b0
            try clear c18
            try clear c18b0
            try clear c19
            try clear c19b0
            try clear c20
            try clear p21
            try clear q21
            try clear hx21
            try clear c27
            try clear c28
            try clear c30
            try clear c30b0
            try clear c30b1
            try clear c31
            try clear c31b0
            try clear c31b1
            try clear c32
            try clear c32b0
            try clear c33
            try clear c34
            try clear c36
            try clear c38
            try clear c39
            try clear c41
            try clear hcz10_0
            try clear hcz10_1
            try clear hcz10_2
            try clear hcz10_3
            try clear hcz10_4
            try clear hcz10_5
            try clear hcz14_0
            try clear hcz14_1
            try clear hcz14_2
            try clear hcz14_3
            try clear hcz14_4
            try clear hcz14_5
            try clear hcz29_0
            try clear hcz29_1
            try clear hcz29_2
            try clear hcz29_3
            try clear hcz29_4
            try clear hcz29_5
            try clear hcz35_0
            try clear hcz35_1
            try clear hcz35_2
            try clear hcz35_3
            try clear hcz35_4
            try clear hcz35_5
            try clear hcz37_0
            try clear hcz37_1
            try clear hcz37_2
            try clear hcz37_3
            try clear hcz37_4
            try clear hcz37_5
            try clear hcz40_0
            try clear hcz40_1
            try clear hcz40_2
            try clear hcz40_3
            try clear hcz40_4
            try clear hcz40_5
            try clear hcz42_0
            try clear hcz42_1
            try clear hcz42_2
            try clear hcz42_3
            try clear hcz42_4
            try clear hcz42_5
            try clear hcz43_0
            try clear hcz43_1
            try clear hcz43_2
            try clear hcz43_3
            try clear hcz43_4
            try clear hcz43_5
            try clear hfz10_0
            try clear hfz10_1
            try clear hfz10_2
            try clear hfz10_3
            try clear hfz10_4
            try clear hfz10_5
            try clear hfz14_0
            try clear hfz14_1
            try clear hfz14_2
            try clear hfz14_3
            try clear hfz14_4
            try clear hfz14_5
            try clear hfz29_0
            try clear hfz29_1
            try clear hfz29_2
            try clear hfz29_3
            try clear hfz29_4
            try clear hfz29_5
            try clear hfz35_0
            try clear hfz35_1
            try clear hfz35_2
            try clear hfz35_3
            try clear hfz35_4
            try clear hfz35_5
            try clear hfz37_0
            try clear hfz37_1
            try clear hfz37_2
            try clear hfz37_3
            try clear hfz37_4
            try clear hfz37_5
            try clear hfz40_0
            try clear hfz40_1
            try clear hfz40_2
            try clear hfz40_3
            try clear hfz40_4
            try clear hfz40_5
            try clear hfz42_0
            try clear hfz42_1
            try clear hfz42_2
            try clear hfz42_3
            try clear hfz42_4
            try clear hfz42_5
            try clear hfz43_0
            try clear hfz43_1
            try clear hfz43_2
            try clear hfz43_3
            try clear hfz43_4
            try clear hfz43_5
            try clear hx218_0
            try clear hx218_1
            try clear hx218_2
            try clear hx218_3
            try clear p2
            try clear p218
            try clear p6
            try clear q218
            obtain ⟨kq, x71_22, rfl, HA, HJ22, BK206, BK214, BK229, HB⟩ := hcut
            cases kq with
            | zero => exact absurd HA.out (by simp [laws_FnPaid.j1])
            | succ kj22 =>
              have H := HA.out
              clear HA
              simp only [laws_FnPaid.j1] at H
              by_cases c44 : x71_22 = true
              · subst c44
                have H1 : (some false) = some r := by rw [if_pos rfl] at H; exact H
                clear H
                have H := H1
                clear H1
                obtain rfl := Option.some.inj H
                exact absurd hT_.out (by decide)
              · replace c44 := Bool.eq_false_iff.mpr c44
                subst c44
                have H1 : (if t205 = 0 then (if (wrap64 ((wrap64 ((wrap64 (t199 + t200)) + t201)) + t204)) = t196 then (if t203 > 0 then (if t204 > 0 then (some false) else (if t202 > 0 then (if t199 = t196 then (if t199 ≥ 0 then (if t200 ≥ 0 then (if t201 ≥ 0 then (if t202 ≥ 0 then (if t203 ≥ 0 then (some (decide (t204 ≥ 0))) else (some false)) else (some false)) else (some false)) else (some false)) else (some false)) else (some false)) else (if t199 ≥ 0 then (if t200 ≥ 0 then (if t201 ≥ 0 then (if t202 ≥ 0 then (if t203 ≥ 0 then (some (decide (t204 ≥ 0))) else (some false)) else (some false)) else (some false)) else (some false)) else (some false)))) else (if t202 > 0 then (if t199 = t196 then (if t199 ≥ 0 then (if t200 ≥ 0 then (if t201 ≥ 0 then (if t202 ≥ 0 then (if t203 ≥ 0 then (some (decide (t204 ≥ 0))) else (some false)) else (some false)) else (some false)) else (some false)) else (some false)) else (some false)) else (if t199 ≥ 0 then (if t200 ≥ 0 then (if t201 ≥ 0 then (if t202 ≥ 0 then (if t203 ≥ 0 then (some (decide (t204 ≥ 0))) else (some false)) else (some false)) else (some false)) else (some false)) else (some false)))) else (some false)) else (some true)) = some r := by rw [if_neg (show ¬ (false = true) by decide)] at H; exact H
                clear H
                have H := H1
                clear H1
                by_cases c45 : t205 = 0
                · rw [if_pos c45] at H
                  have c45b0 : (t205 == 0) = true := beq_iff_eq.mpr c45
                  have c45b1 : (t205 != 0) = false := bne_eq_false_iff_eq.mpr c45
                  clear c45
                  by_cases c46 : (wrap64 ((wrap64 ((wrap64 (t199 + t200)) + t201)) + t204)) = t196
                  · rw [if_pos c46] at H
                    have c46b0 : ((wrap64 ((wrap64 ((wrap64 (t199 + t200)) + t201)) + t204)) == t196) = true := beq_iff_eq.mpr c46
                    have c46b1 : ((wrap64 ((wrap64 ((wrap64 (t199 + t200)) + t201)) + t204)) != t196) = false := bne_eq_false_iff_eq.mpr c46
                    clear c46
                    by_cases c47 : t203 > 0
                    · rw [if_pos c47] at H
                      have c47b0 : decide (0 < t203) = true := decide_eq_true c47
                      clear c47
                      by_cases c48 : t204 > 0
                      · rw [if_pos c48] at H
                        have c48b0 : decide (0 < t204) = true := decide_eq_true c48
                        clear c48
                        obtain rfl := Option.some.inj H
                        exact absurd hT_.out (by decide)
                      · rw [if_neg c48] at H
                        have c48b0 : decide (0 < t204) = false := decide_eq_false c48
                        clear c48
                        by_cases c49 : t202 > 0
                        · rw [if_pos c49] at H
                          have c49b0 : decide (0 < t202) = true := decide_eq_true c49
                          clear c49
                          by_cases c50 : t199 = t196
                          · rw [if_pos c50] at H
                            have c50b0 : (t199 == t196) = true := beq_iff_eq.mpr c50
                            have c50b1 : (t199 != t196) = false := bne_eq_false_iff_eq.mpr c50
                            clear c50
                            by_cases c51 : t199 ≥ 0
                            · rw [if_pos c51] at H
                              have c51b0 : decide (0 ≤ t199) = true := decide_eq_true c51
                              clear c51
                              by_cases c52 : t200 ≥ 0
                              · rw [if_pos c52] at H
                                have c52b0 : decide (0 ≤ t200) = true := decide_eq_true c52
                                clear c52
                                by_cases c53 : t201 ≥ 0
                                · rw [if_pos c53] at H
                                  have c53b0 : decide (0 ≤ t201) = true := decide_eq_true c53
                                  clear c53
                                  by_cases c54 : t202 ≥ 0
                                  · rw [if_pos c54] at H
                                    have c54b0 : decide (0 ≤ t202) = true := decide_eq_true c54
                                    clear c54
                                    by_cases c55 : t203 ≥ 0
                                    · rw [if_pos c55] at H
                                      have c55b0 : decide (0 ≤ t203) = true := decide_eq_true c55
                                      clear c55
                                      obtain rfl := Option.some.inj H
                                      have hnb56 := NB206_214.out
                                      have hnc56 := NB214_206.out
                                      have hnb57 := NB206_229.out
                                      have hnc57 := NB229_206.out
                                      have hcz58_0 : wc.cell? ⟨gb206, 0, none⟩ = some (.int .i64 t199) := (blk_cell BK206.out 0).trans rfl
                                      have hcz58_1 : wc.cell? ⟨gb206, 1, none⟩ = some (.int .i64 t200) := (blk_cell BK206.out 1).trans rfl
                                      have hcz58_2 : wc.cell? ⟨gb206, 2, none⟩ = some (.int .i64 t201) := (blk_cell BK206.out 2).trans rfl
                                      have hcz58_3 : wc.cell? ⟨gb206, 3, none⟩ = some (.int .i64 t202) := (blk_cell BK206.out 3).trans rfl
                                      have hcz58_4 : wc.cell? ⟨gb206, 4, none⟩ = some (.int .i64 t203) := (blk_cell BK206.out 4).trans rfl
                                      have hcz58_5 : wc.cell? ⟨gb206, 5, none⟩ = some (.int .i64 t204) := (blk_cell BK206.out 5).trans rfl
                                      have hfz58_0 := blk_frozen BK206.out 0
                                      have hfz58_1 := blk_frozen BK206.out 1
                                      have hfz58_2 := blk_frozen BK206.out 2
                                      have hfz58_3 := blk_frozen BK206.out 3
                                      have hfz58_4 := blk_frozen BK206.out 4
                                      have hfz58_5 := blk_frozen BK206.out 5
                                      go_wp2
                                      go_ret
                                      exact ⟨by first | rfl | (simp [errW_none, errW_some] <;> rfl) | (simp [*, errW_none, errW_some] <;> rfl), by repeat (first | (with_reducible first | exact HB.out | apply below_alloc | apply pw_below_drewN | apply below_drew1 | refine below_set ?_ GE206.out | refine below_set ?_ GE214.out | refine below_set ?_ GE229.out) | exact HB.out)⟩
                                    · rw [if_neg c55] at H
                                      have c55b0 : decide (0 ≤ t203) = false := decide_eq_false c55
                                      clear c55
                                      obtain rfl := Option.some.inj H
                                      exact absurd hT_.out (by decide)
                                  · rw [if_neg c54] at H
                                    have c54b0 : decide (0 ≤ t202) = false := decide_eq_false c54
                                    clear c54
                                    obtain rfl := Option.some.inj H
                                    exact absurd hT_.out (by decide)
                                · rw [if_neg c53] at H
                                  have c53b0 : decide (0 ≤ t201) = false := decide_eq_false c53
                                  clear c53
                                  obtain rfl := Option.some.inj H
                                  exact absurd hT_.out (by decide)
                              · rw [if_neg c52] at H
                                have c52b0 : decide (0 ≤ t200) = false := decide_eq_false c52
                                clear c52
                                obtain rfl := Option.some.inj H
                                exact absurd hT_.out (by decide)
                            · rw [if_neg c51] at H
                              have c51b0 : decide (0 ≤ t199) = false := decide_eq_false c51
                              clear c51
                              obtain rfl := Option.some.inj H
                              exact absurd hT_.out (by decide)
                          · rw [if_neg c50] at H
                            have c50b0 : (t199 == t196) = false := beq_eq_false_iff_ne.mpr c50
                            have c50b1 : (t199 != t196) = true := bne_iff_ne.mpr c50
                            obtain rfl := Option.some.inj H
                            exact absurd hT_.out (by decide)
                        · rw [if_neg c49] at H
                          have c49b0 : decide (0 < t202) = false := decide_eq_false c49
                          clear c49
                          by_cases c59 : t199 ≥ 0
                          · rw [if_pos c59] at H
                            have c59b0 : decide (0 ≤ t199) = true := decide_eq_true c59
                            clear c59
                            by_cases c60 : t200 ≥ 0
                            · rw [if_pos c60] at H
                              have c60b0 : decide (0 ≤ t200) = true := decide_eq_true c60
                              clear c60
                              by_cases c61 : t201 ≥ 0
                              · rw [if_pos c61] at H
                                have c61b0 : decide (0 ≤ t201) = true := decide_eq_true c61
                                clear c61
                                by_cases c62 : t202 ≥ 0
                                · rw [if_pos c62] at H
                                  have c62b0 : decide (0 ≤ t202) = true := decide_eq_true c62
                                  clear c62
                                  by_cases c63 : t203 ≥ 0
                                  · rw [if_pos c63] at H
                                    have c63b0 : decide (0 ≤ t203) = true := decide_eq_true c63
                                    clear c63
                                    obtain rfl := Option.some.inj H
                                    have hnb64 := NB206_214.out
                                    have hnc64 := NB214_206.out
                                    have hnb65 := NB206_229.out
                                    have hnc65 := NB229_206.out
                                    have hcz66_0 : wc.cell? ⟨gb206, 0, none⟩ = some (.int .i64 t199) := (blk_cell BK206.out 0).trans rfl
                                    have hcz66_1 : wc.cell? ⟨gb206, 1, none⟩ = some (.int .i64 t200) := (blk_cell BK206.out 1).trans rfl
                                    have hcz66_2 : wc.cell? ⟨gb206, 2, none⟩ = some (.int .i64 t201) := (blk_cell BK206.out 2).trans rfl
                                    have hcz66_3 : wc.cell? ⟨gb206, 3, none⟩ = some (.int .i64 t202) := (blk_cell BK206.out 3).trans rfl
                                    have hcz66_4 : wc.cell? ⟨gb206, 4, none⟩ = some (.int .i64 t203) := (blk_cell BK206.out 4).trans rfl
                                    have hcz66_5 : wc.cell? ⟨gb206, 5, none⟩ = some (.int .i64 t204) := (blk_cell BK206.out 5).trans rfl
                                    have hfz66_0 := blk_frozen BK206.out 0
                                    have hfz66_1 := blk_frozen BK206.out 1
                                    have hfz66_2 := blk_frozen BK206.out 2
                                    have hfz66_3 := blk_frozen BK206.out 3
                                    have hfz66_4 := blk_frozen BK206.out 4
                                    have hfz66_5 := blk_frozen BK206.out 5
                                    go_wp2
                                    go_ret
                                    exact ⟨by first | rfl | (simp [errW_none, errW_some] <;> rfl) | (simp [*, errW_none, errW_some] <;> rfl), by repeat (first | (with_reducible first | exact HB.out | apply below_alloc | apply pw_below_drewN | apply below_drew1 | refine below_set ?_ GE206.out | refine below_set ?_ GE214.out | refine below_set ?_ GE229.out) | exact HB.out)⟩
                                  · rw [if_neg c63] at H
                                    have c63b0 : decide (0 ≤ t203) = false := decide_eq_false c63
                                    clear c63
                                    obtain rfl := Option.some.inj H
                                    exact absurd hT_.out (by decide)
                                · rw [if_neg c62] at H
                                  have c62b0 : decide (0 ≤ t202) = false := decide_eq_false c62
                                  clear c62
                                  obtain rfl := Option.some.inj H
                                  exact absurd hT_.out (by decide)
                              · rw [if_neg c61] at H
                                have c61b0 : decide (0 ≤ t201) = false := decide_eq_false c61
                                clear c61
                                obtain rfl := Option.some.inj H
                                exact absurd hT_.out (by decide)
                            · rw [if_neg c60] at H
                              have c60b0 : decide (0 ≤ t200) = false := decide_eq_false c60
                              clear c60
                              obtain rfl := Option.some.inj H
                              exact absurd hT_.out (by decide)
                          · rw [if_neg c59] at H
                            have c59b0 : decide (0 ≤ t199) = false := decide_eq_false c59
                            clear c59
                            obtain rfl := Option.some.inj H
                            exact absurd hT_.out (by decide)
                    · rw [if_neg c47] at H
                      have c47b0 : decide (0 < t203) = false := decide_eq_false c47
                      clear c47
                      by_cases c67 : t202 > 0
                      · rw [if_pos c67] at H
                        have c67b0 : decide (0 < t202) = true := decide_eq_true c67
                        clear c67
                        by_cases c68 : t199 = t196
                        · rw [if_pos c68] at H
                          have c68b0 : (t199 == t196) = true := beq_iff_eq.mpr c68
                          have c68b1 : (t199 != t196) = false := bne_eq_false_iff_eq.mpr c68
                          clear c68
                          by_cases c69 : t199 ≥ 0
                          · rw [if_pos c69] at H
                            have c69b0 : decide (0 ≤ t199) = true := decide_eq_true c69
                            clear c69
                            by_cases c70 : t200 ≥ 0
                            · rw [if_pos c70] at H
                              have c70b0 : decide (0 ≤ t200) = true := decide_eq_true c70
                              clear c70
                              by_cases c71 : t201 ≥ 0
                              · rw [if_pos c71] at H
                                have c71b0 : decide (0 ≤ t201) = true := decide_eq_true c71
                                clear c71
                                by_cases c72 : t202 ≥ 0
                                · rw [if_pos c72] at H
                                  have c72b0 : decide (0 ≤ t202) = true := decide_eq_true c72
                                  clear c72
                                  by_cases c73 : t203 ≥ 0
                                  · rw [if_pos c73] at H
                                    have c73b0 : decide (0 ≤ t203) = true := decide_eq_true c73
                                    clear c73
                                    obtain rfl := Option.some.inj H
                                    have hnb74 := NB206_214.out
                                    have hnc74 := NB214_206.out
                                    have hnb75 := NB206_229.out
                                    have hnc75 := NB229_206.out
                                    have hcz76_0 : wc.cell? ⟨gb206, 0, none⟩ = some (.int .i64 t199) := (blk_cell BK206.out 0).trans rfl
                                    have hcz76_1 : wc.cell? ⟨gb206, 1, none⟩ = some (.int .i64 t200) := (blk_cell BK206.out 1).trans rfl
                                    have hcz76_2 : wc.cell? ⟨gb206, 2, none⟩ = some (.int .i64 t201) := (blk_cell BK206.out 2).trans rfl
                                    have hcz76_3 : wc.cell? ⟨gb206, 3, none⟩ = some (.int .i64 t202) := (blk_cell BK206.out 3).trans rfl
                                    have hcz76_4 : wc.cell? ⟨gb206, 4, none⟩ = some (.int .i64 t203) := (blk_cell BK206.out 4).trans rfl
                                    have hcz76_5 : wc.cell? ⟨gb206, 5, none⟩ = some (.int .i64 t204) := (blk_cell BK206.out 5).trans rfl
                                    have hfz76_0 := blk_frozen BK206.out 0
                                    have hfz76_1 := blk_frozen BK206.out 1
                                    have hfz76_2 := blk_frozen BK206.out 2
                                    have hfz76_3 := blk_frozen BK206.out 3
                                    have hfz76_4 := blk_frozen BK206.out 4
                                    have hfz76_5 := blk_frozen BK206.out 5
                                    go_wp2
                                    go_ret
                                    exact ⟨by first | rfl | (simp [errW_none, errW_some] <;> rfl) | (simp [*, errW_none, errW_some] <;> rfl), by repeat (first | (with_reducible first | exact HB.out | apply below_alloc | apply pw_below_drewN | apply below_drew1 | refine below_set ?_ GE206.out | refine below_set ?_ GE214.out | refine below_set ?_ GE229.out) | exact HB.out)⟩
                                  · rw [if_neg c73] at H
                                    have c73b0 : decide (0 ≤ t203) = false := decide_eq_false c73
                                    clear c73
                                    obtain rfl := Option.some.inj H
                                    exact absurd hT_.out (by decide)
                                · rw [if_neg c72] at H
                                  have c72b0 : decide (0 ≤ t202) = false := decide_eq_false c72
                                  clear c72
                                  obtain rfl := Option.some.inj H
                                  exact absurd hT_.out (by decide)
                              · rw [if_neg c71] at H
                                have c71b0 : decide (0 ≤ t201) = false := decide_eq_false c71
                                clear c71
                                obtain rfl := Option.some.inj H
                                exact absurd hT_.out (by decide)
                            · rw [if_neg c70] at H
                              have c70b0 : decide (0 ≤ t200) = false := decide_eq_false c70
                              clear c70
                              obtain rfl := Option.some.inj H
                              exact absurd hT_.out (by decide)
                          · rw [if_neg c69] at H
                            have c69b0 : decide (0 ≤ t199) = false := decide_eq_false c69
                            clear c69
                            obtain rfl := Option.some.inj H
                            exact absurd hT_.out (by decide)
                        · rw [if_neg c68] at H
                          have c68b0 : (t199 == t196) = false := beq_eq_false_iff_ne.mpr c68
                          have c68b1 : (t199 != t196) = true := bne_iff_ne.mpr c68
                          obtain rfl := Option.some.inj H
                          exact absurd hT_.out (by decide)
                      · rw [if_neg c67] at H
                        have c67b0 : decide (0 < t202) = false := decide_eq_false c67
                        clear c67
                        by_cases c77 : t199 ≥ 0
                        · rw [if_pos c77] at H
                          have c77b0 : decide (0 ≤ t199) = true := decide_eq_true c77
                          clear c77
                          by_cases c78 : t200 ≥ 0
                          · rw [if_pos c78] at H
                            have c78b0 : decide (0 ≤ t200) = true := decide_eq_true c78
                            clear c78
                            by_cases c79 : t201 ≥ 0
                            · rw [if_pos c79] at H
                              have c79b0 : decide (0 ≤ t201) = true := decide_eq_true c79
                              clear c79
                              by_cases c80 : t202 ≥ 0
                              · rw [if_pos c80] at H
                                have c80b0 : decide (0 ≤ t202) = true := decide_eq_true c80
                                clear c80
                                by_cases c81 : t203 ≥ 0
                                · rw [if_pos c81] at H
                                  have c81b0 : decide (0 ≤ t203) = true := decide_eq_true c81
                                  clear c81
                                  obtain rfl := Option.some.inj H
                                  have hnb82 := NB206_214.out
                                  have hnc82 := NB214_206.out
                                  have hnb83 := NB206_229.out
                                  have hnc83 := NB229_206.out
                                  have hcz84_0 : wc.cell? ⟨gb206, 0, none⟩ = some (.int .i64 t199) := (blk_cell BK206.out 0).trans rfl
                                  have hcz84_1 : wc.cell? ⟨gb206, 1, none⟩ = some (.int .i64 t200) := (blk_cell BK206.out 1).trans rfl
                                  have hcz84_2 : wc.cell? ⟨gb206, 2, none⟩ = some (.int .i64 t201) := (blk_cell BK206.out 2).trans rfl
                                  have hcz84_3 : wc.cell? ⟨gb206, 3, none⟩ = some (.int .i64 t202) := (blk_cell BK206.out 3).trans rfl
                                  have hcz84_4 : wc.cell? ⟨gb206, 4, none⟩ = some (.int .i64 t203) := (blk_cell BK206.out 4).trans rfl
                                  have hcz84_5 : wc.cell? ⟨gb206, 5, none⟩ = some (.int .i64 t204) := (blk_cell BK206.out 5).trans rfl
                                  have hfz84_0 := blk_frozen BK206.out 0
                                  have hfz84_1 := blk_frozen BK206.out 1
                                  have hfz84_2 := blk_frozen BK206.out 2
                                  have hfz84_3 := blk_frozen BK206.out 3
                                  have hfz84_4 := blk_frozen BK206.out 4
                                  have hfz84_5 := blk_frozen BK206.out 5
                                  go_wp2
                                  go_ret
                                  exact ⟨by first | rfl | (simp [errW_none, errW_some] <;> rfl) | (simp [*, errW_none, errW_some] <;> rfl), by repeat (first | (with_reducible first | exact HB.out | apply below_alloc | apply pw_below_drewN | apply below_drew1 | refine below_set ?_ GE206.out | refine below_set ?_ GE214.out | refine below_set ?_ GE229.out) | exact HB.out)⟩
                                · rw [if_neg c81] at H
                                  have c81b0 : decide (0 ≤ t203) = false := decide_eq_false c81
                                  clear c81
                                  obtain rfl := Option.some.inj H
                                  exact absurd hT_.out (by decide)
                              · rw [if_neg c80] at H
                                have c80b0 : decide (0 ≤ t202) = false := decide_eq_false c80
                                clear c80
                                obtain rfl := Option.some.inj H
                                exact absurd hT_.out (by decide)
                            · rw [if_neg c79] at H
                              have c79b0 : decide (0 ≤ t201) = false := decide_eq_false c79
                              clear c79
                              obtain rfl := Option.some.inj H
                              exact absurd hT_.out (by decide)
                          · rw [if_neg c78] at H
                            have c78b0 : decide (0 ≤ t200) = false := decide_eq_false c78
                            clear c78
                            obtain rfl := Option.some.inj H
                            exact absurd hT_.out (by decide)
                        · rw [if_neg c77] at H
                          have c77b0 : decide (0 ≤ t199) = false := decide_eq_false c77
                          clear c77
                          obtain rfl := Option.some.inj H
                          exact absurd hT_.out (by decide)
                  · rw [if_neg c46] at H
                    have c46b0 : ((wrap64 ((wrap64 ((wrap64 (t199 + t200)) + t201)) + t204)) == t196) = false := beq_eq_false_iff_ne.mpr c46
                    have c46b1 : ((wrap64 ((wrap64 ((wrap64 (t199 + t200)) + t201)) + t204)) != t196) = true := bne_iff_ne.mpr c46
                    obtain rfl := Option.some.inj H
                    exact absurd hT_.out (by decide)
                · rw [if_neg c45] at H
                  have c45b0 : (t205 == 0) = false := beq_eq_false_iff_ne.mpr c45
                  have c45b1 : (t205 != 0) = true := bne_iff_ne.mpr c45
                  obtain rfl := Option.some.inj H
                  go_wp2
                  go_ret
                  exact ⟨by first | rfl | (simp [errW_none, errW_some] <;> rfl) | (simp [*, errW_none, errW_some] <;> rfl), by repeat (first | (with_reducible first | exact HB.out | apply below_alloc | apply pw_below_drewN | apply below_drew1 | refine below_set ?_ GE206.out | refine below_set ?_ GE214.out | refine below_set ?_ GE229.out) | exact HB.out)⟩


/-- THE ONE PURE STATEMENT of laws_FnPaid. -/
def laws_FnPaid.Pure : Prop := ∀ (l0 : List Int), (l0.length ≤ 9223372036854775807 ∧ ∀ x ∈ l0, (Lit.int .u8 x).wf = true) → ∃ k, laws_FnPaid.f k l0 = some true
theorem laws_FnPaid.walk (P : laws_FnPaid.Pure) (A0 : Option Addr) (c0 : Nat) (l0 : List Int) (w : World) (hr0 : Kd.C (Kd.int .u8) w A0 l0.length l0) (hc0 : l0.length ≤ c0) (hw0 : (l0.length ≤ 9223372036854775807 ∧ ∀ x ∈ l0, (Lit.int .u8 x).wf = true)) :
    Calls Try.prog 4 #[.slice A0 l0.length c0] w fun e w' => e = .returned (.bool true) ∧ Below w.heap.size w w' := by
  obtain ⟨k, h⟩ := P l0 hw0
  refine (laws_FnPaid.calls k A0 c0 l0 true w hr0 hc0 h rfl).mono ?_
  rintro e w' ⟨rfl, hd⟩
  exact ⟨rfl, hd⟩

end Go.Proofs.Ythlphmnplfnmnaa.XFnPaid
