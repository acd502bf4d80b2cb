-- PRINTED by xprint.py (our own program, over the kit's print.py)
import Derived.Test.YtkiooiijnolocaaXFnExactReadSegmentsx0
import Derived.Test.YtkiooiijnolocaaXFnExactReadSegmentsx3
import Derived.Test.YtkiooiijnolocaaXFnExactReadSegmentsx4
import Derived.Test.YtkiooiijnolocaaPu
namespace Go.Proofs.Ytkiooiijnolocaa.XFnExactReadSegments
open Go.RowKit Go.Proofs.YtkiooiijnolocaaW.PrintWords Go.Proofs.YtkiooiijnolocaaW.PrintLast Go.Proofs.YtkiooiijnolocaaW.PrintMore Go.Proofs.YtkiooiijnolocaaW.Idx
attribute [local go_sem] max2_int min2_int max_two min_two max_three min_three max_four min_four   -- for this text's walks alone
set_option linter.unusedVariables false
set_option linter.unusedSimpArgs false

/-! ### impl_docReader_segment: function 34 -/
mutual
def impl_docReader_segment.l0 : Nat → ByteArray → Int → Int → ByteArray → List ByteArray → Option (ByteArray × List ByteArray × ByteArray × Int × Int)
 | 0, _, _, _, _, _ => none
 | k + 1, x1000, x1001, x1002, x157000, x157001 => (impl_docReader_end.f x1000 x1001 x1002).bind fun bt157 => (if bt157.1 = true then (impl_docReader_segment.j1 k false bt157.2.1 bt157.2.2.1 bt157.2.2.2 x157000 x157001) else (if 0 ≤ bt157.2.2.1 then (if bt157.2.2.1 < (bt157.2.1.size : Int) then (impl_docReader_segment.j1 k ((bt bt157.2.1 bt157.2.2.1) != 39) bt157.2.1 bt157.2.2.1 bt157.2.2.2 x157000 x157001) else (none)) else (none)))
def impl_docReader_segment.j1 : Nat → Bool → ByteArray → Int → Int → ByteArray → List ByteArray → Option (ByteArray × List ByteArray × ByteArray × Int × Int)
 | 0, _, _, _, _, _, _ => none
 | k + 1, x21, x1000, x1001, x1002, x157000, x157001 => if x21 = true then (if 0 ≤ x1001 then (if x1001 < (x1000.size : Int) then (if (bt x1000 x1001) = 43 then (if (x157001.length : Int) = 20 then (impl_docReader_segment.l0 k x1000 x1001 9 x157000 x157001) else ((impl_docReader_part.f k x1000 (wrap64 (x1001 + 1)) x1002).bind fun bt161 => (if x157001.length < 8796093022208 then (impl_docReader_segment.l0 k bt161.2.1 bt161.2.2.1 bt161.2.2.2 x157000 (x157001 ++ [bt161.1])) else (none)))) else (impl_docReader_segment.l0 k x1000 x1001 4 x157000 x157001)) else (none)) else (none)) else (if x1002 = 0 then (some (x157000, x157001, x1000, wrap64 (x1001 + 1), x1002)) else (some (x157000, x157001, x1000, x1001, x1002)))
end
def impl_docReader_segment.f (k : Nat) (s0_0 : ByteArray) (s0_1 : Int) (s0_2 : Int) : Option (ByteArray × List ByteArray × ByteArray × Int × Int) := (impl_docReader_tag.f k s0_0 s0_1 s0_2).bind fun bt152 => (impl_docReader_segment.l0 k bt152.2.1 bt152.2.2.1 bt152.2.2.2 bt152.1 ([] : List ByteArray))
theorem impl_docReader_segment.mono_l : ∀ k, (∀ y0 y1 y2 y3 y4, LeO (impl_docReader_segment.l0 k y0 y1 y2 y3 y4) (impl_docReader_segment.l0 (k + 1) y0 y1 y2 y3 y4)) ∧ (∀ y0 y1 y2 y3 y4 y5, LeO (impl_docReader_segment.j1 k y0 y1 y2 y3 y4 y5) (impl_docReader_segment.j1 (k + 1) y0 y1 y2 y3 y4 y5))
 | 0 => ⟨fun _ _ _ _ _ r h => by simp [impl_docReader_segment.l0] at h, fun _ _ _ _ _ _ r h => by simp [impl_docReader_segment.j1] at h⟩
 | k + 1 => by
  obtain ⟨ih0, ih1⟩ := impl_docReader_segment.mono_l k
  refine ⟨?_, ?_⟩
  ·intro y0 y1 y2 y3 y4
   unfold impl_docReader_segment.l0
   repeat' first
   | (with_reducible exact ih0 _ _ _ _ _)
   | (with_reducible exact ih1 _ _ _ _ _ _)
   | (with_reducible exact impl_docReader_part.mono _ _ _ _)
   | (with_reducible exact impl_docReader_tag.mono _ _ _ _)
   | (with_reducible exact LeO.refl _)
   | (with_reducible exact LeO.none _)
   | (with_reducible refine LeO.ite ?_ ?_)
   | (with_reducible refine LeO.bind ?_ (fun _ => ?_))
   | exact ih0 _ _ _ _ _
   | exact ih1 _ _ _ _ _ _
   | exact impl_docReader_part.mono _ _ _ _
   | exact impl_docReader_tag.mono _ _ _ _
   | exact LeO.none _
   | refine LeO.ite ?_ ?_
   | refine LeO.bind ?_ (fun _ => ?_)
  ·intro y0 y1 y2 y3 y4 y5
   unfold impl_docReader_segment.j1
   repeat' first
   | (with_reducible exact ih0 _ _ _ _ _)
   | (with_reducible exact ih1 _ _ _ _ _ _)
   | (with_reducible exact impl_docReader_part.mono _ _ _ _)
   | (with_reducible exact impl_docReader_tag.mono _ _ _ _)
   | (with_reducible exact LeO.refl _)
   | (with_reducible exact LeO.none _)
   | (with_reducible refine LeO.ite ?_ ?_)
   | (with_reducible refine LeO.bind ?_ (fun _ => ?_))
   | exact ih0 _ _ _ _ _
   | exact ih1 _ _ _ _ _ _
   | exact impl_docReader_part.mono _ _ _ _
   | exact impl_docReader_tag.mono _ _ _ _
   | exact LeO.none _
   | refine LeO.ite ?_ ?_
   | refine LeO.bind ?_ (fun _ => ?_)
theorem impl_docReader_segment.mono : ∀ a0 a1 a2 k, LeO (impl_docReader_segment.f k a0 a1 a2) (impl_docReader_segment.f (k + 1) a0 a1 a2) := by
 intro a0 a1 a2 k
 obtain ⟨ih0, ih1⟩ := impl_docReader_segment.mono_l k
 unfold impl_docReader_segment.f
 repeat' first
   | (with_reducible exact ih0 _ _ _ _ _)
   | (with_reducible exact ih1 _ _ _ _ _ _)
   | (with_reducible exact impl_docReader_part.mono _ _ _ _)
   | (with_reducible exact impl_docReader_tag.mono _ _ _ _)
   | (with_reducible exact LeO.refl _)
   | (with_reducible exact LeO.none _)
   | (with_reducible refine LeO.ite ?_ ?_)
   | (with_reducible refine LeO.bind ?_ (fun _ => ?_))
   | exact ih0 _ _ _ _ _
   | exact ih1 _ _ _ _ _ _
   | exact impl_docReader_part.mono _ _ _ _
   | exact impl_docReader_tag.mono _ _ _ _
   | exact LeO.none _
   | refine LeO.ite ?_ ?_
   | refine LeO.bind ?_ (fun _ => ?_)
def impl_docReader_segment.T2 : Bool × List (List Nat × List Nat) := (true, [([], []), ([0], [0]), ([1], [1]), ([2, 1], [2]), ([3], [3]), ([4, 3], [3, 4]), ([5, 3], [3, 5]), ([6, 3], [3, 6]), ([3], [3]), ([8, 3], [3, 8]), ([9, 3], [3, 9]), ([10, 3], [3, 10]), ([7, 11, 3], [3, 7, 11]), ([12, 3], [3, 12]), ([3, 13], [3, 13])])
def impl_docReader_segment.B2 : List Nat := [0, 1, 3, 7, 15, 31, 63, 127, 15, 271, 783, 1807, 4095, 8191, 16383]
theorem impl_docReader_segment.tab2 : rtab .any (opsOf Try.f34 2) = impl_docReader_segment.T2 := by kernel_rfl
theorem impl_docReader_segment.bits2 : waitsOk impl_docReader_segment.T2.2 impl_docReader_segment.B2 = true := by kernel_rfl
def impl_docReader_segment.T4 : Bool × List (List Nat × List Nat) := (true, [([], []), ([0], [0]), ([], []), ([2], [2]), ([3], [3]), ([1, 4, 3], [1, 4]), ([0, 1, 2, 3, 4, 5], []), ([6, 5, 5, 0, 1, 2, 3, 4, 5], [5, 6])])
def impl_docReader_segment.B4 : List Nat := [0, 1, 0, 4, 12, 31, 63, 127]
theorem impl_docReader_segment.tab4 : rtab .any (opsOf Try.f34 4) = impl_docReader_segment.T4 := by kernel_rfl
theorem impl_docReader_segment.bits4 : waitsOk impl_docReader_segment.T4.2 impl_docReader_segment.B4 = true := by kernel_rfl
theorem impl_docReader_segment.end_keeps {a : ByteArray} {b c : Int} {r : Bool} {x : ByteArray} {y z : Int} (h : impl_docReader_end.f a b c = some (r, x, y, z)) : x = a ∧ y = b := by
 unfold impl_docReader_end.f at h
 repeat' split at h
 all_goals (simp only [Option.some.injEq, Prod.mk.injEq] at h; exact ⟨h.2.1.symm, h.2.2.1.symm⟩)
set_option maxHeartbeats 8000000 in
set_option maxRecDepth 100000 in
theorem impl_docReader_segment.calls (k : Nat) (g : Nat) (s0_0 : ByteArray) (s0_1 : Int) (s0_2 : Int) (r1 : ByteArray) (r2 : List ByteArray) (r3 : ByteArray) (r4 : Int) (r5 : Int) (w0 w : World) (hI : IsS73 w0 w g s0_0 s0_1 s0_2) (hB : Below w0.heap.size w0 w) (h : impl_docReader_segment.f k s0_0 s0_1 s0_2 = some (r1, r2, r3, r4, r5)) :
  Calls Try.prog 34 #[.pointer (some ⟨g, 0, none⟩)] w fun e w' => ∃ v1_ : Value, e = .returned (.agg #[.string r1, v1_]) ∧ Kd.R Kd.string 9 w' w.heap.size (fun _ => True) v1_ r2 ∧ IsS73 w0 w' g r3 r4 r5 ∧ Below w0.heap.size w0 w' ∧ KeepBut w w' g none := by
 have hu68 := Try.underlying68
 have HI0 := Aside0.mk hI
 have HK := Aside0.mk (KeepBut.refl w g none)
 have HL := Aside0.mk hB.size
 clear hI
 have HW0 := Aside0.mk hB.size
 have HB := Aside0.mk hB
 clear hB
 have H : ((impl_docReader_tag.f k s0_0 s0_1 s0_2).bind fun bt152 => (impl_docReader_segment.l0 k bt152.2.1 bt152.2.2.1 bt152.2.2.2 bt152.1 ([] : List ByteArray))) = some (r1, r2, r3, r4, r5) := h
 clear h
 replace H := Option.bind_eq_some_iff.mp H
 obtain ⟨⟨t152, t153, t154, t155⟩, A20, H⟩ := H
 replace H : (impl_docReader_segment.l0 k t153 t154 t155 t152 ([] : List ByteArray)) = some (r1, r2, r3, r4, r5) := H
 have A2 := Aside0.mk A20
 clear A20
 have H' := Aside0.mk H
 clear H
 go_enter Try.func34, Try.ntmps34
 go_wp2_with (first | ((with_reducible refine gate_dst (N := 2) rfl ?_); refine box_event ?hg (N := 2) ?hd (cs := #[.string (⟨#[]⟩ : ByteArray), .slice none 0 0]) (t := 68) ?hr ?_; (case hd => rfl); (case hg => rfl); (case hr => first | (go_simp; done) | (go_simp; rfl)); intro gb151 hg w3 hbox hb; have n0_ := Aside0.mk (IsS73.below (by repeat (first | (with_reducible first | exact HI0.out | apply IsS73.alloc | apply IsS73.drewN | apply IsS73.drew | apply IsS73.set_0 | apply IsS73.set_1 | apply IsS73.set_2) | exact HI0.out)) hb); have n1_ := Aside0.mk (KeepBut.trans (by repeat (first | (with_reducible first | exact HK.out | apply KeepBut.set_ | apply keep_drewN | apply keep_drew | apply keep_alloc) | exact HK.out)) (KeepBut.of_below hb g none) (.inl rfl)); have n2_ := Aside0.mk (below_step (by repeat (first | (with_reducible first | exact HB.out | apply below_alloc | apply pw_below_drewN | apply below_drew1 | refine below_set ?_ (IsS73.ge HI0.out)) | exact HB.out)) hb); have n3_ := Aside0.mk (hbox); have n4_ := Aside0.mk ((by rw [hg]; exact (keep_size (w := w) (g := g) (row := none) (by repeat (first | (with_reducible first | exact HK.out | apply KeepBut.set_ | apply keep_drewN | apply keep_drew | apply keep_alloc) | exact HK.out))) : w.heap.size ≤ gb151)); have n5_ := Aside0.mk ((Nat.le_trans HW0.out (by rw [hg]; exact (keep_size (w := w) (g := g) (row := none) (by repeat (first | (with_reducible first | exact HK.out | apply KeepBut.set_ | apply keep_drewN | apply keep_drew | apply keep_alloc) | exact HK.out))) : w.heap.size ≤ gb151) : w0.heap.size ≤ gb151)); have n6_ := Aside0.mk ((by rw [hg]; exact Nat.ne_of_lt (IsS73.lt (show IsS73 w0 _ g s0_0 s0_1 s0_2 from by repeat (first | (with_reducible first | exact HI0.out | apply IsS73.alloc | apply IsS73.drewN | apply IsS73.drew | apply IsS73.set_0 | apply IsS73.set_1 | apply IsS73.set_2) | exact HI0.out))) : g ≠ gb151)); have n7_ := Aside0.mk ((by rw [hg]; exact Nat.ne_of_gt (IsS73.lt (show IsS73 w0 _ g s0_0 s0_1 s0_2 from by repeat (first | (with_reducible first | exact HI0.out | apply IsS73.alloc | apply IsS73.drewN | apply IsS73.drew | apply IsS73.set_0 | apply IsS73.set_1 | apply IsS73.set_2) | exact HI0.out))) : gb151 ≠ g)); clear HI0; clear HK; clear HB; have HI0 := n0_; have HK := n1_; have HB := n2_; have BK151 := n3_; have GW151 := n4_; have GE151 := n5_; have NB0_151 := n6_; have NB151_0 := n7_; clear n0_ n1_ n2_ n3_ n4_ n5_ n6_ n7_; clear hb hbox hg) | (go_at_call 65; (with_reducible refine (impl_docReader_tag.calls k g s0_0 s0_1 s0_2 t152 t153 t154 t155 w0 _ ?side1 ?side2 A2.out).mono ?_); (case side1 => repeat (first | (with_reducible first | exact HI0.out | apply IsS73.alloc | apply IsS73.drewN | apply IsS73.drew | apply IsS73.set_0 | apply IsS73.set_1 | apply IsS73.set_2 | refine IsS73.far ?_ NB0_151.out _) | exact HI0.out)); (case side2 => repeat (first | (with_reducible first | exact HB.out | apply below_alloc | apply pw_below_drewN | apply below_drew1 | refine below_set ?_ (IsS73.ge HI0.out) | refine below_set ?_ GE151.out) | exact HB.out)); rintro e w4 ⟨rfl, hi, hb, hk⟩; have n0_ := Aside0.mk (KeepBut.blk hk (g' := gb151) (o := .cells #[.string (⟨#[]⟩ : ByteArray), .slice none 0 0] 68 (0, 0)) bk_ NB151_0.out (by simp)); have n1_ := Aside0.mk (KeepBut.trans (by repeat (first | (with_reducible first | exact HK.out | apply KeepBut.set_ | apply keep_drewN | apply keep_drew | apply keep_alloc | refine keep_far ?_ GW151.out _) | exact HK.out)) hk (.inl rfl)); have n2_ := Aside0.mk (hb); have n3_ := Aside0.mk (hi); clear BK151; clear HK; clear HB; clear HI0; have BK151 := n0_; have HK := n1_; have HB := n2_; have HI0 := n3_; clear n0_ n1_ n2_ n3_; (try clear hb); (try clear hb2); (try clear hk); (try clear hi)) | ((with_reducible refine gate_dst (N := 3) rfl ?_); refine box_event ?hg (N := 3) ?hd (cs := #[.string (⟨#[]⟩ : ByteArray), .slice none 0 0]) (t := 68) ?hr ?_; (case hd => rfl); (case hg => rfl); (case hr => first | (go_simp; done) | (go_simp; rfl)); intro gb156 hg w5 hbox hb; have n0_ := Aside0.mk (IsS73.below (by repeat (first | (with_reducible first | exact HI0.out | apply IsS73.alloc | apply IsS73.drewN | apply IsS73.drew | apply IsS73.set_0 | apply IsS73.set_1 | apply IsS73.set_2 | refine IsS73.far ?_ NB0_151.out _) | exact HI0.out)) hb); have n1_ := Aside0.mk (blk_below (g := gb151) (o := .cells #[.string (⟨#[]⟩ : ByteArray), .slice none 0 0] 68 (0, 0)) bk_ hb); have n2_ := Aside0.mk (KeepBut.trans (by repeat (first | (with_reducible first | exact HK.out | apply KeepBut.set_ | apply keep_drewN | apply keep_drew | apply keep_alloc | refine keep_far ?_ GW151.out _) | exact HK.out)) (KeepBut.of_below hb g none) (.inl rfl)); have n3_ := Aside0.mk (below_step (by repeat (first | (with_reducible first | exact HB.out | apply below_alloc | apply pw_below_drewN | apply below_drew1 | refine below_set ?_ (IsS73.ge HI0.out) | refine below_set ?_ GE151.out) | exact HB.out)) hb); have n4_ := Aside0.mk (hbox); have n5_ := Aside0.mk ((by rw [hg]; exact (keep_size (w := w) (g := g) (row := none) (by repeat (first | (with_reducible first | exact HK.out | apply KeepBut.set_ | apply keep_drewN | apply keep_drew | apply keep_alloc | refine keep_far ?_ GW151.out _) | exact HK.out))) : w.heap.size ≤ gb156)); have n6_ := Aside0.mk ((Nat.le_trans HW0.out (by rw [hg]; exact (keep_size (w := w) (g := g) (row := none) (by repeat (first | (with_reducible first | exact HK.out | apply KeepBut.set_ | apply keep_drewN | apply keep_drew | apply keep_alloc | refine keep_far ?_ GW151.out _) | exact HK.out))) : w.heap.size ≤ gb156) : w0.heap.size ≤ gb156)); have n7_ := Aside0.mk ((by rw [hg]; exact Nat.ne_of_lt (blk_lt (g := gb151) (o := .cells #[.string (⟨#[]⟩ : ByteArray), .slice none 0 0] 68 (0, 0)) bk_) : gb151 ≠ gb156)); have n8_ := Aside0.mk ((by rw [hg]; exact Nat.ne_of_gt (blk_lt (g := gb151) (o := .cells #[.string (⟨#[]⟩ : ByteArray), .slice none 0 0] 68 (0, 0)) bk_) : gb156 ≠ gb151)); have n9_ := Aside0.mk ((by rw [hg]; exact Nat.ne_of_lt (IsS73.lt (show IsS73 w0 _ g t153 t154 t155 from by repeat (first | (with_reducible first | exact HI0.out | apply IsS73.alloc | apply IsS73.drewN | apply IsS73.drew | apply IsS73.set_0 | apply IsS73.set_1 | apply IsS73.set_2 | refine IsS73.far ?_ NB0_151.out _) | exact HI0.out))) : g ≠ gb156)); have n10_ := Aside0.mk ((by rw [hg]; exact Nat.ne_of_gt (IsS73.lt (show IsS73 w0 _ g t153 t154 t155 from by repeat (first | (with_reducible first | exact HI0.out | apply IsS73.alloc | apply IsS73.drewN | apply IsS73.drew | apply IsS73.set_0 | apply IsS73.set_1 | apply IsS73.set_2 | refine IsS73.far ?_ NB0_151.out _) | exact HI0.out))) : gb156 ≠ g)); clear HI0; clear BK151; clear HK; clear HB; have HI0 := n0_; have BK151 := n1_; have HK := n2_; have HB := n3_; have BK156 := n4_; have GW156 := n5_; have GE156 := n6_; have NB151_156 := n7_; have NB156_151 := n8_; have NB0_156 := n9_; have NB156_0 := n10_; clear n0_ n1_ n2_ n3_ n4_ n5_ n6_ n7_ n8_ n9_ n10_; clear hb hbox hg; have hnb6 := NB156_151.out; have hnc6 := NB151_156.out; have hnb7 := NB156_0.out; have hnc7 := NB0_156.out; have hcz8_0 : w5.cell? ⟨gb156, 0, none⟩ = some (.string (⟨#[]⟩ : ByteArray)) := (blk_cell BK156.out 0).trans rfl; have hcz8_1 : w5.cell? ⟨gb156, 1, none⟩ = some (.slice none 0 0) := (blk_cell BK156.out 1).trans rfl; have hfz8_0 := blk_frozen BK156.out 0; have hfz8_1 := blk_frozen BK156.out 1))
 repeat (go_quiet (first | ((with_reducible refine gate_dst (N := 2) rfl ?_); refine box_event ?hg (N := 2) ?hd (cs := #[.string (⟨#[]⟩ : ByteArray), .slice none 0 0]) (t := 68) ?hr ?_; (case hd => rfl); (case hg => rfl); (case hr => first | (go_simp; done) | (go_simp; rfl)); intro gb151 hg w3 hbox hb; have n0_ := Aside0.mk (IsS73.below (by repeat (first | (with_reducible first | exact HI0.out | apply IsS73.alloc | apply IsS73.drewN | apply IsS73.drew | apply IsS73.set_0 | apply IsS73.set_1 | apply IsS73.set_2) | exact HI0.out)) hb); have n1_ := Aside0.mk (KeepBut.trans (by repeat (first | (with_reducible first | exact HK.out | apply KeepBut.set_ | apply keep_drewN | apply keep_drew | apply keep_alloc) | exact HK.out)) (KeepBut.of_below hb g none) (.inl rfl)); have n2_ := Aside0.mk (below_step (by repeat (first | (with_reducible first | exact HB.out | apply below_alloc | apply pw_below_drewN | apply below_drew1 | refine below_set ?_ (IsS73.ge HI0.out)) | exact HB.out)) hb); have n3_ := Aside0.mk (hbox); have n4_ := Aside0.mk ((by rw [hg]; exact (keep_size (w := w) (g := g) (row := none) (by repeat (first | (with_reducible first | exact HK.out | apply KeepBut.set_ | apply keep_drewN | apply keep_drew | apply keep_alloc) | exact HK.out))) : w.heap.size ≤ gb151)); have n5_ := Aside0.mk ((Nat.le_trans HW0.out (by rw [hg]; exact (keep_size (w := w) (g := g) (row := none) (by repeat (first | (with_reducible first | exact HK.out | apply KeepBut.set_ | apply keep_drewN | apply keep_drew | apply keep_alloc) | exact HK.out))) : w.heap.size ≤ gb151) : w0.heap.size ≤ gb151)); have n6_ := Aside0.mk ((by rw [hg]; exact Nat.ne_of_lt (IsS73.lt (show IsS73 w0 _ g s0_0 s0_1 s0_2 from by repeat (first | (with_reducible first | exact HI0.out | apply IsS73.alloc | apply IsS73.drewN | apply IsS73.drew | apply IsS73.set_0 | apply IsS73.set_1 | apply IsS73.set_2) | exact HI0.out))) : g ≠ gb151)); have n7_ := Aside0.mk ((by rw [hg]; exact Nat.ne_of_gt (IsS73.lt (show IsS73 w0 _ g s0_0 s0_1 s0_2 from by repeat (first | (with_reducible first | exact HI0.out | apply IsS73.alloc | apply IsS73.drewN | apply IsS73.drew | apply IsS73.set_0 | apply IsS73.set_1 | apply IsS73.set_2) | exact HI0.out))) : gb151 ≠ g)); clear HI0; clear HK; clear HB; have HI0 := n0_; have HK := n1_; have HB := n2_; have BK151 := n3_; have GW151 := n4_; have GE151 := n5_; have NB0_151 := n6_; have NB151_0 := n7_; clear n0_ n1_ n2_ n3_ n4_ n5_ n6_ n7_; clear hb hbox hg) | (go_at_call 65; (with_reducible refine (impl_docReader_tag.calls k g s0_0 s0_1 s0_2 t152 t153 t154 t155 w0 _ ?side1 ?side2 A2.out).mono ?_); (case side1 => repeat (first | (with_reducible first | exact HI0.out | apply IsS73.alloc | apply IsS73.drewN | apply IsS73.drew | apply IsS73.set_0 | apply IsS73.set_1 | apply IsS73.set_2 | refine IsS73.far ?_ NB0_151.out _) | exact HI0.out)); (case side2 => repeat (first | (with_reducible first | exact HB.out | apply below_alloc | apply pw_below_drewN | apply below_drew1 | refine below_set ?_ (IsS73.ge HI0.out) | refine below_set ?_ GE151.out) | exact HB.out)); rintro e w4 ⟨rfl, hi, hb, hk⟩; have n0_ := Aside0.mk (KeepBut.blk hk (g' := gb151) (o := .cells #[.string (⟨#[]⟩ : ByteArray), .slice none 0 0] 68 (0, 0)) bk_ NB151_0.out (by simp)); have n1_ := Aside0.mk (KeepBut.trans (by repeat (first | (with_reducible first | exact HK.out | apply KeepBut.set_ | apply keep_drewN | apply keep_drew | apply keep_alloc | refine keep_far ?_ GW151.out _) | exact HK.out)) hk (.inl rfl)); have n2_ := Aside0.mk (hb); have n3_ := Aside0.mk (hi); clear BK151; clear HK; clear HB; clear HI0; have BK151 := n0_; have HK := n1_; have HB := n2_; have HI0 := n3_; clear n0_ n1_ n2_ n3_; (try clear hb); (try clear hb2); (try clear hk); (try clear hi)) | ((with_reducible refine gate_dst (N := 3) rfl ?_); refine box_event ?hg (N := 3) ?hd (cs := #[.string (⟨#[]⟩ : ByteArray), .slice none 0 0]) (t := 68) ?hr ?_; (case hd => rfl); (case hg => rfl); (case hr => first | (go_simp; done) | (go_simp; rfl)); intro gb156 hg w5 hbox hb; have n0_ := Aside0.mk (IsS73.below (by repeat (first | (with_reducible first | exact HI0.out | apply IsS73.alloc | apply IsS73.drewN | apply IsS73.drew | apply IsS73.set_0 | apply IsS73.set_1 | apply IsS73.set_2 | refine IsS73.far ?_ NB0_151.out _) | exact HI0.out)) hb); have n1_ := Aside0.mk (blk_below (g := gb151) (o := .cells #[.string (⟨#[]⟩ : ByteArray), .slice none 0 0] 68 (0, 0)) bk_ hb); have n2_ := Aside0.mk (KeepBut.trans (by repeat (first | (with_reducible first | exact HK.out | apply KeepBut.set_ | apply keep_drewN | apply keep_drew | apply keep_alloc | refine keep_far ?_ GW151.out _) | exact HK.out)) (KeepBut.of_below hb g none) (.inl rfl)); have n3_ := Aside0.mk (below_step (by repeat (first | (with_reducible first | exact HB.out | apply below_alloc | apply pw_below_drewN | apply below_drew1 | refine below_set ?_ (IsS73.ge HI0.out) | refine below_set ?_ GE151.out) | exact HB.out)) hb); have n4_ := Aside0.mk (hbox); have n5_ := Aside0.mk ((by rw [hg]; exact (keep_size (w := w) (g := g) (row := none) (by repeat (first | (with_reducible first | exact HK.out | apply KeepBut.set_ | apply keep_drewN | apply keep_drew | apply keep_alloc | refine keep_far ?_ GW151.out _) | exact HK.out))) : w.heap.size ≤ gb156)); have n6_ := Aside0.mk ((Nat.le_trans HW0.out (by rw [hg]; exact (keep_size (w := w) (g := g) (row := none) (by repeat (first | (with_reducible first | exact HK.out | apply KeepBut.set_ | apply keep_drewN | apply keep_drew | apply keep_alloc | refine keep_far ?_ GW151.out _) | exact HK.out))) : w.heap.size ≤ gb156) : w0.heap.size ≤ gb156)); have n7_ := Aside0.mk ((by rw [hg]; exact Nat.ne_of_lt (blk_lt (g := gb151) (o := .cells #[.string (⟨#[]⟩ : ByteArray), .slice none 0 0] 68 (0, 0)) bk_) : gb151 ≠ gb156)); have n8_ := Aside0.mk ((by rw [hg]; exact Nat.ne_of_gt (blk_lt (g := gb151) (o := .cells #[.string (⟨#[]⟩ : ByteArray), .slice none 0 0] 68 (0, 0)) bk_) : gb156 ≠ gb151)); have n9_ := Aside0.mk ((by rw [hg]; exact Nat.ne_of_lt (IsS73.lt (show IsS73 w0 _ g t153 t154 t155 from by repeat (first | (with_reducible first | exact HI0.out | apply IsS73.alloc | apply IsS73.drewN | apply IsS73.drew | apply IsS73.set_0 | apply IsS73.set_1 | apply IsS73.set_2 | refine IsS73.far ?_ NB0_151.out _) | exact HI0.out))) : g ≠ gb156)); have n10_ := Aside0.mk ((by rw [hg]; exact Nat.ne_of_gt (IsS73.lt (show IsS73 w0 _ g t153 t154 t155 from by repeat (first | (with_reducible first | exact HI0.out | apply IsS73.alloc | apply IsS73.drewN | apply IsS73.drew | apply IsS73.set_0 | apply IsS73.set_1 | apply IsS73.set_2 | refine IsS73.far ?_ NB0_151.out _) | exact HI0.out))) : gb156 ≠ g)); clear HI0; clear BK151; clear HK; clear HB; have HI0 := n0_; have BK151 := n1_; have HK := n2_; have HB := n3_; have BK156 := n4_; have GW156 := n5_; have GE156 := n6_; have NB151_156 := n7_; have NB156_151 := n8_; have NB0_156 := n9_; have NB156_0 := n10_; clear n0_ n1_ n2_ n3_ n4_ n5_ n6_ n7_ n8_ n9_ n10_; clear hb hbox hg; have hnb6 := NB156_151.out; have hnc6 := NB151_156.out; have hnb7 := NB156_0.out; have hnc7 := NB0_156.out; have hcz8_0 : w5.cell? ⟨gb156, 0, none⟩ = some (.string (⟨#[]⟩ : ByteArray)) := (blk_cell BK156.out 0).trans rfl; have hcz8_1 : w5.cell? ⟨gb156, 1, none⟩ = some (.slice none 0 0) := (blk_cell BK156.out 1).trans rfl; have hfz8_0 := blk_frozen BK156.out 0; have hfz8_1 := blk_frozen BK156.out 1)); try go_wp2_with (first | ((with_reducible refine gate_dst (N := 2) rfl ?_); refine box_event ?hg (N := 2) ?hd (cs := #[.string (⟨#[]⟩ : ByteArray), .slice none 0 0]) (t := 68) ?hr ?_; (case hd => rfl); (case hg => rfl); (case hr => first | (go_simp; done) | (go_simp; rfl)); intro gb151 hg w3 hbox hb; have n0_ := Aside0.mk (IsS73.below (by repeat (first | (with_reducible first | exact HI0.out | apply IsS73.alloc | apply IsS73.drewN | apply IsS73.drew | apply IsS73.set_0 | apply IsS73.set_1 | apply IsS73.set_2) | exact HI0.out)) hb); have n1_ := Aside0.mk (KeepBut.trans (by repeat (first | (with_reducible first | exact HK.out | apply KeepBut.set_ | apply keep_drewN | apply keep_drew | apply keep_alloc) | exact HK.out)) (KeepBut.of_below hb g none) (.inl rfl)); have n2_ := Aside0.mk (below_step (by repeat (first | (with_reducible first | exact HB.out | apply below_alloc | apply pw_below_drewN | apply below_drew1 | refine below_set ?_ (IsS73.ge HI0.out)) | exact HB.out)) hb); have n3_ := Aside0.mk (hbox); have n4_ := Aside0.mk ((by rw [hg]; exact (keep_size (w := w) (g := g) (row := none) (by repeat (first | (with_reducible first | exact HK.out | apply KeepBut.set_ | apply keep_drewN | apply keep_drew | apply keep_alloc) | exact HK.out))) : w.heap.size ≤ gb151)); have n5_ := Aside0.mk ((Nat.le_trans HW0.out (by rw [hg]; exact (keep_size (w := w) (g := g) (row := none) (by repeat (first | (with_reducible first | exact HK.out | apply KeepBut.set_ | apply keep_drewN | apply keep_drew | apply keep_alloc) | exact HK.out))) : w.heap.size ≤ gb151) : w0.heap.size ≤ gb151)); have n6_ := Aside0.mk ((by rw [hg]; exact Nat.ne_of_lt (IsS73.lt (show IsS73 w0 _ g s0_0 s0_1 s0_2 from by repeat (first | (with_reducible first | exact HI0.out | apply IsS73.alloc | apply IsS73.drewN | apply IsS73.drew | apply IsS73.set_0 | apply IsS73.set_1 | apply IsS73.set_2) | exact HI0.out))) : g ≠ gb151)); have n7_ := Aside0.mk ((by rw [hg]; exact Nat.ne_of_gt (IsS73.lt (show IsS73 w0 _ g s0_0 s0_1 s0_2 from by repeat (first | (with_reducible first | exact HI0.out | apply IsS73.alloc | apply IsS73.drewN | apply IsS73.drew | apply IsS73.set_0 | apply IsS73.set_1 | apply IsS73.set_2) | exact HI0.out))) : gb151 ≠ g)); clear HI0; clear HK; clear HB; have HI0 := n0_; have HK := n1_; have HB := n2_; have BK151 := n3_; have GW151 := n4_; have GE151 := n5_; have NB0_151 := n6_; have NB151_0 := n7_; clear n0_ n1_ n2_ n3_ n4_ n5_ n6_ n7_; clear hb hbox hg) | (go_at_call 65; (with_reducible refine (impl_docReader_tag.calls k g s0_0 s0_1 s0_2 t152 t153 t154 t155 w0 _ ?side1 ?side2 A2.out).mono ?_); (case side1 => repeat (first | (with_reducible first | exact HI0.out | apply IsS73.alloc | apply IsS73.drewN | apply IsS73.drew | apply IsS73.set_0 | apply IsS73.set_1 | apply IsS73.set_2 | refine IsS73.far ?_ NB0_151.out _) | exact HI0.out)); (case side2 => repeat (first | (with_reducible first | exact HB.out | apply below_alloc | apply pw_below_drewN | apply below_drew1 | refine below_set ?_ (IsS73.ge HI0.out) | refine below_set ?_ GE151.out) | exact HB.out)); rintro e w4 ⟨rfl, hi, hb, hk⟩; have n0_ := Aside0.mk (KeepBut.blk hk (g' := gb151) (o := .cells #[.string (⟨#[]⟩ : ByteArray), .slice none 0 0] 68 (0, 0)) bk_ NB151_0.out (by simp)); have n1_ := Aside0.mk (KeepBut.trans (by repeat (first | (with_reducible first | exact HK.out | apply KeepBut.set_ | apply keep_drewN | apply keep_drew | apply keep_alloc | refine keep_far ?_ GW151.out _) | exact HK.out)) hk (.inl rfl)); have n2_ := Aside0.mk (hb); have n3_ := Aside0.mk (hi); clear BK151; clear HK; clear HB; clear HI0; have BK151 := n0_; have HK := n1_; have HB := n2_; have HI0 := n3_; clear n0_ n1_ n2_ n3_; (try clear hb); (try clear hb2); (try clear hk); (try clear hi)) | ((with_reducible refine gate_dst (N := 3) rfl ?_); refine box_event ?hg (N := 3) ?hd (cs := #[.string (⟨#[]⟩ : ByteArray), .slice none 0 0]) (t := 68) ?hr ?_; (case hd => rfl); (case hg => rfl); (case hr => first | (go_simp; done) | (go_simp; rfl)); intro gb156 hg w5 hbox hb; have n0_ := Aside0.mk (IsS73.below (by repeat (first | (with_reducible first | exact HI0.out | apply IsS73.alloc | apply IsS73.drewN | apply IsS73.drew | apply IsS73.set_0 | apply IsS73.set_1 | apply IsS73.set_2 | refine IsS73.far ?_ NB0_151.out _) | exact HI0.out)) hb); have n1_ := Aside0.mk (blk_below (g := gb151) (o := .cells #[.string (⟨#[]⟩ : ByteArray), .slice none 0 0] 68 (0, 0)) bk_ hb); have n2_ := Aside0.mk (KeepBut.trans (by repeat (first | (with_reducible first | exact HK.out | apply KeepBut.set_ | apply keep_drewN | apply keep_drew | apply keep_alloc | refine keep_far ?_ GW151.out _) | exact HK.out)) (KeepBut.of_below hb g none) (.inl rfl)); have n3_ := Aside0.mk (below_step (by repeat (first | (with_reducible first | exact HB.out | apply below_alloc | apply pw_below_drewN | apply below_drew1 | refine below_set ?_ (IsS73.ge HI0.out) | refine below_set ?_ GE151.out) | exact HB.out)) hb); have n4_ := Aside0.mk (hbox); have n5_ := Aside0.mk ((by rw [hg]; exact (keep_size (w := w) (g := g) (row := none) (by repeat (first | (with_reducible first | exact HK.out | apply KeepBut.set_ | apply keep_drewN | apply keep_drew | apply keep_alloc | refine keep_far ?_ GW151.out _) | exact HK.out))) : w.heap.size ≤ gb156)); have n6_ := Aside0.mk ((Nat.le_trans HW0.out (by rw [hg]; exact (keep_size (w := w) (g := g) (row := none) (by repeat (first | (with_reducible first | exact HK.out | apply KeepBut.set_ | apply keep_drewN | apply keep_drew | apply keep_alloc | refine keep_far ?_ GW151.out _) | exact HK.out))) : w.heap.size ≤ gb156) : w0.heap.size ≤ gb156)); have n7_ := Aside0.mk ((by rw [hg]; exact Nat.ne_of_lt (blk_lt (g := gb151) (o := .cells #[.string (⟨#[]⟩ : ByteArray), .slice none 0 0] 68 (0, 0)) bk_) : gb151 ≠ gb156)); have n8_ := Aside0.mk ((by rw [hg]; exact Nat.ne_of_gt (blk_lt (g := gb151) (o := .cells #[.string (⟨#[]⟩ : ByteArray), .slice none 0 0] 68 (0, 0)) bk_) : gb156 ≠ gb151)); have n9_ := Aside0.mk ((by rw [hg]; exact Nat.ne_of_lt (IsS73.lt (show IsS73 w0 _ g t153 t154 t155 from by repeat (first | (with_reducible first | exact HI0.out | apply IsS73.alloc | apply IsS73.drewN | apply IsS73.drew | apply IsS73.set_0 | apply IsS73.set_1 | apply IsS73.set_2 | refine IsS73.far ?_ NB0_151.out _) | exact HI0.out))) : g ≠ gb156)); have n10_ := Aside0.mk ((by rw [hg]; exact Nat.ne_of_gt (IsS73.lt (show IsS73 w0 _ g t153 t154 t155 from by repeat (first | (with_reducible first | exact HI0.out | apply IsS73.alloc | apply IsS73.drewN | apply IsS73.drew | apply IsS73.set_0 | apply IsS73.set_1 | apply IsS73.set_2 | refine IsS73.far ?_ NB0_151.out _) | exact HI0.out))) : gb156 ≠ g)); clear HI0; clear BK151; clear HK; clear HB; have HI0 := n0_; have BK151 := n1_; have HK := n2_; have HB := n3_; have BK156 := n4_; have GW156 := n5_; have GE156 := n6_; have NB151_156 := n7_; have NB156_151 := n8_; have NB0_156 := n9_; have NB156_0 := n10_; clear n0_ n1_ n2_ n3_ n4_ n5_ n6_ n7_ n8_ n9_ n10_; clear hb hbox hg; have hnb6 := NB156_151.out; have hnc6 := NB151_156.out; have hnb7 := NB156_0.out; have hnc7 := NB0_156.out; have hcz8_0 : w5.cell? ⟨gb156, 0, none⟩ = some (.string (⟨#[]⟩ : ByteArray)) := (blk_cell BK156.out 0).trans rfl; have hcz8_1 : w5.cell? ⟨gb156, 1, none⟩ = some (.slice none 0 0) := (blk_cell BK156.out 1).trans rfl; have hfz8_0 := blk_frozen BK156.out 0; have hfz8_1 := blk_frozen BK156.out 1)))
 go_loopg [] k (fun kq w' => ∃ (x1000_1 : ByteArray) (x1001_1 : Int) (x1002_1 : Int) (x157001_1 : List ByteArray) (u157001 : Value), Aside0 (impl_docReader_segment.l0 kq x1000_1 x1001_1 x1002_1 t152 x157001_1 = some (r1, r2, r3, r4, r5)) ∧ Aside0 (kq ≤ k) ∧ Aside0 (Kd.R Kd.string 9 w' w.heap.size (fun _ => True) u157001 x157001_1) ∧ Aside0 (w'.heap[gb151]? = some (.cells #[.string (⟨#[]⟩ : ByteArray), (.slice none 0 0)] 68 (0, 0))) ∧ Aside0 (w'.heap[gb156]? = some (.cells #[.string t152, u157001] 68 (0, 0))) ∧ Aside0 (IsS73 w0 w' g x1000_1 x1001_1 x1002_1) ∧ Aside0 (KeepBut w w' g none) ∧ Aside0 (Below w0.heap.size w0 w'))
 case atStart => exact ⟨(t153), (t154), (t155), (([] : List ByteArray)), (.slice none 0 0), H', ⟨Nat.le_refl _⟩, ⟨by first | exact Kd.R_nil _ _ _ _ _ | exact Kd.N_nil _ _ _ _ _ | exact Kd.V_nil _ _ _ _ _ | exact Kd.Q_nil _ _ _ _ _ | exact Kd.S_nil _ _ _ _ _⟩, ⟨by (with_reducible repeat (first | refine blk_drewN ?_ _ | refine blk_drew ?_ | refine blk_alloc ?_ _)); refine blk_far ?_ NB151_156.out _; (with_reducible repeat (first | refine blk_drewN ?_ _ | refine blk_drew ?_ | refine blk_alloc ?_ _)); exact blk_far bk_ NB151_156.out _⟩, ⟨by (with_reducible repeat (first | refine blk_drewN ?_ _ | refine blk_drew ?_ | refine blk_alloc ?_ _)); refine blk_put (cs := #[.string t152, .slice none 0 0]) ?_ 1 _ rfl; (with_reducible repeat (first | refine blk_drewN ?_ _ | refine blk_drew ?_ | refine blk_alloc ?_ _)); refine blk_put (cs := #[.string (⟨#[]⟩ : ByteArray), .slice none 0 0]) ?_ 0 _ rfl; (with_reducible repeat (first | refine blk_drewN ?_ _ | refine blk_drew ?_ | refine blk_alloc ?_ _)); exact BK156.out⟩, ⟨by repeat (first | (with_reducible first | exact HI0.out | apply IsS73.alloc | apply IsS73.drewN | apply IsS73.drew | apply IsS73.set_0 | apply IsS73.set_1 | apply IsS73.set_2 | refine IsS73.far ?_ NB0_151.out _ | refine IsS73.far ?_ NB0_156.out _) | exact HI0.out)⟩, ⟨by repeat (first | (with_reducible first | exact HK.out | apply KeepBut.set_ | apply keep_drewN | apply keep_drew | apply keep_alloc | refine keep_far ?_ GW151.out _ | refine keep_far ?_ GW156.out _) | exact HK.out)⟩, ⟨by repeat (first | (with_reducible first | exact HB.out | apply below_alloc | apply pw_below_drewN | apply below_drew1 | refine below_set ?_ (IsS73.ge HI0.out) | refine below_set ?_ GE151.out | refine below_set ?_ GE156.out) | exact HB.out)⟩⟩
 case round =>
  clear H'
  (try clear p2); (try clear c3); (try clear c6); (try clear c7); (try clear hcz8_0); (try clear hcz8_1); (try clear hfz8_0); (try clear hfz8_1)
  obtain ⟨x1000_1, x1001_1, x1002_1, x157001_1, u157001, HA, HK1, HO_157001, BK151, BK156, HI0, HK, HB⟩ := hrel
  cases gk with
  | zero => exact absurd HA.out (by simp [impl_docReader_segment.l0])
  | succ k1 =>
   have H := HA.out
   clear HA
   simp only [impl_docReader_segment.l0] at H
   have HC9 := Aside0.mk H
   clear H
   go_upto_region 2 with (fail)
   repeat (go_quiet (fail); go_upto_region 2 with (fail))
   go_cut [21] (fun v21 wc => ∃ (kq : Nat) (x21_8 : Bool) (x1000_8 : ByteArray) (x1001_8 : Int) (x1002_8 : Int), v21 = .bool x21_8 ∧ Aside0 (impl_docReader_segment.j1 kq x21_8 x1000_8 x1001_8 x1002_8 t152 x157001_1 = some (r1, r2, r3, r4, r5)) ∧ Aside0 (kq ≤ k1) ∧ Aside0 (Kd.R Kd.string 9 wc w.heap.size (fun _ => True) u157001 x157001_1) ∧ Aside0 (wc.heap[gb151]? = some (.cells #[.string (⟨#[]⟩ : ByteArray), (.slice none 0 0)] 68 (0, 0))) ∧ Aside0 (wc.heap[gb156]? = some (.cells #[.string t152, u157001] 68 (0, 0))) ∧ Aside0 (IsS73 w0 wc g x1000_8 x1001_8 x1002_8) ∧ Aside0 (KeepBut w wc g none) ∧ Aside0 (Below w0.heap.size w0 wc))
   case first =>
    have H := HC9.out
    clear HC9
    replace H := Option.bind_eq_some_iff.mp H
    obtain ⟨⟨t157, t158, t159, t160⟩, A100, H⟩ := H
    replace H : (if t157 = true then (impl_docReader_segment.j1 k1 false t158 t159 t160 t152 x157001_1) else (if 0 ≤ t159 then (if t159 < (t158.size : Int) then (impl_docReader_segment.j1 k1 ((bt t158 t159) != 39) t158 t159 t160 t152 x157001_1) else (none)) else (none))) = some (r1, r2, r3, r4, r5) := H
    have A10 := Aside0.mk A100
    clear A100
    by_cases c11 : t157 = true
    ·subst c11
     have H1 : (impl_docReader_segment.j1 k1 false t158 t159 t160 t152 x157001_1) = some (r1, r2, r3, r4, r5) := by rw [if_pos rfl] at H; exact H
     clear H
     have H := H1
     clear H1
     have H' := Aside0.mk H
     clear H
     have n_HO_157001 := Aside0.mk (Kd.R_drew HO_157001.out)
     have n_BK151 := Aside0.mk (blk_drew BK151.out)
     have n_BK156 := Aside0.mk (blk_drew BK156.out)
     have n_HK := Aside0.mk (keep_drew HK.out)
     have n_HB := Aside0.mk (below_drew1 HB.out)
     have n_HI0 := Aside0.mk (IsS73.drew HI0.out)
     clear HO_157001 BK151 BK156 HK HB HI0
     have HO_157001 := n_HO_157001
     have BK151 := n_BK151
     have BK156 := n_BK156
     have HK := n_HK
     have HB := n_HB
     have HI0 := n_HI0
     clear n_HO_157001 n_BK151 n_BK156 n_HK n_HB n_HI0
     refine start_ (n := 15) (S := fun w' => True) (ds := []) (msk 0 15) (by kernel_rfl) rfl rfl trivial (fun hHeld => ?_)
     refine with_tabW impl_docReader_segment.tab2 impl_docReader_segment.bits2 (fun HT_ HW_ => ?_)
     generalize wr.drew = w_d at HO_157001 BK151 BK156 HK HB HI0 hHeld ⊢
     refine pu_ 0 7 (msk 1 14) HT_.out ?_
     refine one_ (i := 1) (N := some 8) (msk 2 13) rfl rfl (one_of HT_.out (by kernel_rfl)) (by decide) (fun K hK => ?_)
     refine goes_ Try.func66 (by kernel_rfl) rfl #[.pointer (some ⟨g, 0, none⟩)] (by rfl) rfl rfl (by (try simp only [List.map_toArray, List.map_cons, List.map_nil]); first | done | rfl) ?_
     (with_reducible refine (impl_docReader_end.calls g x1000_1 x1001_1 x1002_1 true t158 t159 t160 w0 _ ?side1 ?side2 A10.out).mono ?_)
     (case side1 => repeat (first | (with_reducible first | exact HI0.out | apply IsS73.alloc | apply IsS73.drewN | apply IsS73.drew | apply IsS73.set_0 | apply IsS73.set_1 | apply IsS73.set_2 | refine IsS73.far ?_ NB0_151.out _ | refine IsS73.far ?_ NB0_156.out _) | exact HI0.out))
     (case side2 => repeat (first | (with_reducible first | exact HB.out | apply below_alloc | apply pw_below_drewN | apply below_drew1 | refine below_set ?_ (IsS73.ge HI0.out) | refine below_set ?_ GE151.out | refine below_set ?_ GE156.out) | exact HB.out))
     rintro e w12 ⟨rfl, hi, hb, hk⟩
     refine ⟨_, rfl, ?_⟩
     have n0_ := Aside0.mk (Kd.R_mono (Kd.R_keep (IsS73.apart (show IsS73 w0 _ g x1000_1 x1001_1 x1002_1 from by repeat (first | (with_reducible first | exact HI0.out | apply IsS73.alloc | apply IsS73.drewN | apply IsS73.drew | apply IsS73.set_0 | apply IsS73.set_1 | apply IsS73.set_2 | refine IsS73.far ?_ NB0_151.out _ | refine IsS73.far ?_ NB0_156.out _) | exact HI0.out)) (by (with_reducible repeat (first | apply Kd.R_alloc | apply Kd.R_drewN | apply Kd.R_drew)); exact HO_157001.out) (by decide)) hk (fun _ h => h.2)) (fun _ h => h.1))
     have n1_ := Aside0.mk (KeepBut.blk hk (g' := gb151) (o := .cells #[.string (⟨#[]⟩ : ByteArray), .slice none 0 0] 68 (0, 0)) bk_ NB151_0.out (by simp))
     have n2_ := Aside0.mk (KeepBut.blk hk (g' := gb156) (o := .cells #[.string t152, u157001] 68 (0, 0)) bk_ NB156_0.out (by simp))
     have n3_ := Aside0.mk (KeepBut.trans (by repeat (first | (with_reducible first | exact HK.out | apply KeepBut.set_ | apply keep_drewN | apply keep_drew | apply keep_alloc | refine keep_far ?_ GW151.out _ | refine keep_far ?_ GW156.out _) | exact HK.out)) hk (.inl rfl))
     have n4_ := Aside0.mk (hb)
     have n5_ := Aside0.mk (hi)
     clear HO_157001
     clear BK151
     clear BK156
     clear HK
     clear HB
     clear HI0
     have HO_157001 := n0_
     have BK151 := n1_
     have BK156 := n2_
     have HK := n3_
     have HB := n4_
     have HI0 := n5_
     clear n0_ n1_ n2_ n3_ n4_ n5_
     (try clear hb)
     (try clear hb2)
     (try clear hk)
     (try clear hi)
     refine hK.out _ _ trivial (fun hHeld => ?_)
     clear hK K
     refine norm_ (a' := ?_) ?_ ?_
     rotate_left
     ·show Act.put _ (some 8) _ = _
      simp only [Act.put, List.setIfInBounds_toArray, List.set_cons_zero, List.set_cons_succ, i64_w, i32_w]
      rfl
     refine pu_ 2 9 (msk 3 12) HT_.out ?_; refine pu_ 3 10 (msk 4 11) HT_.out ?_; refine pn_ 4 11 (msk 5 10) HT_.out ?_; refine pn_ 5 12 (msk 6 9) HT_.out ?_; refine pn_ 6 13 (msk 7 8) HT_.out ?_; refine pn_ 7 14 (msk 8 7) HT_.out ?_; refine pn_ 8 15 (msk 9 6) HT_.out ?_; refine pn_ 9 16 (msk 10 5) HT_.out ?_; refine pn_ 10 17 (msk 11 4) HT_.out ?_; refine pn_ 11 18 (msk 12 3) HT_.out ?_; refine pn_ 12 19 (msk 13 2) HT_.out ?_; refine pn_ 13 20 (msk 14 1) HT_.out ?_; refine pu_ 14 21 (msk 15 0) HT_.out ?_
     refine done_ (done_of HT_.out (by kernel_rfl)) ?_
     try go_wp2
     go_meet
     case rel => exact ⟨_, (false), (t158), (t159), (t160), (by first | rfl | (simp; done) | (simp [*]; done)), H', ⟨by have := HK1.out; first | omega | exact Nat.le_refl _⟩, ⟨by (with_reducible repeat (first | apply Kd.R_alloc | apply Kd.R_drewN | apply Kd.R_drew)); exact HO_157001.out⟩, ⟨by (with_reducible repeat (first | refine blk_drewN ?_ _ | refine blk_drew ?_ | refine blk_alloc ?_ _)); exact BK151.out⟩, ⟨by (with_reducible repeat (first | refine blk_drewN ?_ _ | refine blk_drew ?_ | refine blk_alloc ?_ _)); exact BK156.out⟩, ⟨by repeat (first | (with_reducible first | exact HI0.out | apply IsS73.alloc | apply IsS73.drewN | apply IsS73.drew | apply IsS73.set_0 | apply IsS73.set_1 | apply IsS73.set_2 | refine IsS73.far ?_ NB0_151.out _ | refine IsS73.far ?_ NB0_156.out _) | exact HI0.out)⟩, ⟨by repeat (first | (with_reducible first | exact HK.out | apply KeepBut.set_ | apply keep_drewN | apply keep_drew | apply keep_alloc | refine keep_far ?_ GW151.out _ | refine keep_far ?_ GW156.out _) | exact HK.out)⟩, ⟨by repeat (first | (with_reducible first | exact HB.out | apply below_alloc | apply pw_below_drewN | apply below_drew1 | refine below_set ?_ (IsS73.ge HI0.out) | refine below_set ?_ GE151.out | refine below_set ?_ GE156.out) | exact HB.out)⟩⟩
    replace c11 := Bool.eq_false_iff.mpr c11
    subst c11
    have H1 : (if 0 ≤ t159 then (if t159 < (t158.size : Int) then (impl_docReader_segment.j1 k1 ((bt t158 t159) != 39) t158 t159 t160 t152 x157001_1) else (none)) else (none)) = some (r1, r2, r3, r4, r5) := by rw [if_neg (show ¬ (false = true) by decide)] at H; exact H
    clear H
    have H := H1
    clear H1
    by_cases c13 : 0 ≤ t159
    rotate_left
    ·rw [if_neg c13] at H
     exact absurd H (by simp)
    rw [if_pos c13] at H
    have c13b0 : decide (0 ≤ t159) = true := decide_eq_true c13
    clear c13
    (first | rw [c13b0] | (simp only [i64_w, i32_w]; rw [c13b0]) | skip)
    by_cases c14 : t159 < (t158.size : Int)
    rotate_left
    ·rw [if_neg c14] at H
     exact absurd H (by simp)
    rw [if_pos c14] at H
    have c14b0 : decide (t159 < (t158.size : Int)) = true := decide_eq_true c14
    clear c14
    have H' := Aside0.mk H
    clear H
    obtain ⟨eq1_, eq2_⟩ := impl_docReader_segment.end_keeps A10.out
    subst eq1_ eq2_
    have p15 : 0 ≤ (t159 : Int) := of_decide_eq_true c13b0
    have q15 : t159 < (t158.size : Int) := of_decide_eq_true c14b0
    have hx15 := bt_at t158 t159
    replace p15 := eq_true p15
    replace q15 := eq_true q15
    have n_HO_157001 := Aside0.mk (Kd.R_drew HO_157001.out)
    have n_BK151 := Aside0.mk (blk_drew BK151.out)
    have n_BK156 := Aside0.mk (blk_drew BK156.out)
    have n_HK := Aside0.mk (keep_drew HK.out)
    have n_HB := Aside0.mk (below_drew1 HB.out)
    have n_HI0 := Aside0.mk (IsS73.drew HI0.out)
    clear HO_157001 BK151 BK156 HK HB HI0
    have HO_157001 := n_HO_157001
    have BK151 := n_BK151
    have BK156 := n_BK156
    have HK := n_HK
    have HB := n_HB
    have HI0 := n_HI0
    clear n_HO_157001 n_BK151 n_BK156 n_HK n_HB n_HI0
    refine start_ (n := 15) (S := fun w' => w'.cell? ⟨g, 0, none⟩ = some (.string t158) ∧ w'.cell? ⟨g, 1, none⟩ = some (.int .i64 t159)) (ds := []) (msk 0 15) (by kernel_rfl) rfl rfl ⟨(blk_cell HI0.out.1 0).trans rfl, (blk_cell HI0.out.1 1).trans rfl⟩ (fun hHeld => ?_)
    refine with_tabW impl_docReader_segment.tab2 impl_docReader_segment.bits2 (fun HT_ HW_ => ?_)
    generalize wr.drew = w_d at HO_157001 BK151 BK156 HK HB HI0 hHeld ⊢
    refine pu_ 0 7 (msk 1 14) HT_.out ?_
    refine one_ (i := 1) (N := some 8) (msk 2 13) rfl rfl (one_of HT_.out (by kernel_rfl)) (by decide) (fun K hK => ?_)
    refine goes_ Try.func66 (by kernel_rfl) rfl #[.pointer (some ⟨g, 0, none⟩)] (by rfl) rfl rfl (by (try simp only [List.map_toArray, List.map_cons, List.map_nil]); first | done | rfl) ?_
    (with_reducible refine (impl_docReader_end.calls g t158 t159 x1002_1 false t158 t159 t160 w0 _ ?side1 ?side2 A10.out).mono ?_)
    (case side1 => repeat (first | (with_reducible first | exact HI0.out | apply IsS73.alloc | apply IsS73.drewN | apply IsS73.drew | apply IsS73.set_0 | apply IsS73.set_1 | apply IsS73.set_2 | refine IsS73.far ?_ NB0_151.out _ | refine IsS73.far ?_ NB0_156.out _) | exact HI0.out))
    (case side2 => repeat (first | (with_reducible first | exact HB.out | apply below_alloc | apply pw_below_drewN | apply below_drew1 | refine below_set ?_ (IsS73.ge HI0.out) | refine below_set ?_ GE151.out | refine below_set ?_ GE156.out) | exact HB.out))
    rintro e w16 ⟨rfl, hi, hb, hk⟩
    refine ⟨_, rfl, ?_⟩
    have n0_ := Aside0.mk (Kd.R_mono (Kd.R_keep (IsS73.apart (show IsS73 w0 _ g t158 t159 x1002_1 from by repeat (first | (with_reducible first | exact HI0.out | apply IsS73.alloc | apply IsS73.drewN | apply IsS73.drew | apply IsS73.set_0 | apply IsS73.set_1 | apply IsS73.set_2 | refine IsS73.far ?_ NB0_151.out _ | refine IsS73.far ?_ NB0_156.out _) | exact HI0.out)) (by (with_reducible repeat (first | apply Kd.R_alloc | apply Kd.R_drewN | apply Kd.R_drew)); exact HO_157001.out) (by decide)) hk (fun _ h => h.2)) (fun _ h => h.1))
    have n1_ := Aside0.mk (KeepBut.blk hk (g' := gb151) (o := .cells #[.string (⟨#[]⟩ : ByteArray), .slice none 0 0] 68 (0, 0)) bk_ NB151_0.out (by simp))
    have n2_ := Aside0.mk (KeepBut.blk hk (g' := gb156) (o := .cells #[.string t152, u157001] 68 (0, 0)) bk_ NB156_0.out (by simp))
    have n3_ := Aside0.mk (KeepBut.trans (by repeat (first | (with_reducible first | exact HK.out | apply KeepBut.set_ | apply keep_drewN | apply keep_drew | apply keep_alloc | refine keep_far ?_ GW151.out _ | refine keep_far ?_ GW156.out _) | exact HK.out)) hk (.inl rfl))
    have n4_ := Aside0.mk (hb)
    have n5_ := Aside0.mk (hi)
    clear HO_157001
    clear BK151
    clear BK156
    clear HK
    clear HB
    clear HI0
    have HO_157001 := n0_
    have BK151 := n1_
    have BK156 := n2_
    have HK := n3_
    have HB := n4_
    have HI0 := n5_
    clear n0_ n1_ n2_ n3_ n4_ n5_
    (try clear hb)
    (try clear hb2)
    (try clear hk)
    (try clear hi)
    obtain ⟨HGz17, hgz17⟩ := HI0.out
    have hcz17_0 := cellS73_0 HGz17
    have hcz17_1 := cellS73_1 HGz17
    have hcz17_2 := cellS73_2 HGz17
    have hfz17_0 := blk_frozen HGz17 0
    have hfz17_1 := blk_frozen HGz17 1
    have hfz17_2 := blk_frozen HGz17 2
    clear HGz17 hgz17
    have p15 : 0 ≤ (t159 : Int) := od_
    have q15 : t159 < (t158.size : Int) := od_
    have hx15 := bt_at t158 t159
    replace p15 := eq_true p15
    replace q15 := eq_true q15
    refine hK.out _ _ ⟨(blk_cell HI0.out.1 0).trans rfl, (blk_cell HI0.out.1 1).trans rfl⟩ (fun hHeld => ?_)
    clear hK K
    refine norm_ (a' := ?_) ?_ ?_
    rotate_left
    ·show Act.put _ (some 8) _ = _
     simp only [Act.put, List.setIfInBounds_toArray, List.set_cons_zero, List.set_cons_succ, i64_w, i32_w]
     rfl
    refine pu_ 2 9 (msk 3 12) HT_.out ?_; refine pu_ 3 10 (msk 4 11) HT_.out ?_; refine pu_ 4 11 (msk 5 10) HT_.out ?_; refine pu_ 5 12 (msk 6 9) HT_.out ?_; refine pu_ 6 13 (msk 7 8) HT_.out ?_; refine pu_ 8 15 (mskl 15 7 [8]) HT_.out ?_; refine pu_ 9 16 (mskl 15 7 [8, 9]) HT_.out ?_; refine pu_ 10 17 (mskl 15 7 [8, 9, 10]) HT_.out ?_
    refine tk_ 7 14 (msk 11 4) HT_.out HW_.out hHeld ?_ (hy := by rintro w' ⟨s0, s1⟩; go_simp; with_reducible rfl)
    refine tk_ 11 18 (msk 12 3) HT_.out HW_.out hHeld ?_ (hy := by rintro w' ⟨s0, s1⟩; go_simp; with_reducible rfl)
    refine pu_ 12 19 (msk 13 2) HT_.out ?_; refine pu_ 13 20 (msk 14 1) HT_.out ?_; refine pu_ 14 21 (msk 15 0) HT_.out ?_
    refine done_ (done_of HT_.out (by kernel_rfl)) ?_
    try go_wp2
    go_meet
    case rel => exact ⟨_, (((bt t158 t159) != 39)), (t158), (t159), (t160), (by first | rfl | (simp; done) | (simp [*]; done)), H', ⟨by have := HK1.out; first | omega | exact Nat.le_refl _⟩, ⟨by (with_reducible repeat (first | apply Kd.R_alloc | apply Kd.R_drewN | apply Kd.R_drew)); exact HO_157001.out⟩, ⟨by (with_reducible repeat (first | refine blk_drewN ?_ _ | refine blk_drew ?_ | refine blk_alloc ?_ _)); exact BK151.out⟩, ⟨by (with_reducible repeat (first | refine blk_drewN ?_ _ | refine blk_drew ?_ | refine blk_alloc ?_ _)); exact BK156.out⟩, ⟨by repeat (first | (with_reducible first | exact HI0.out | apply IsS73.alloc | apply IsS73.drewN | apply IsS73.drew | apply IsS73.set_0 | apply IsS73.set_1 | apply IsS73.set_2 | refine IsS73.far ?_ NB0_151.out _ | refine IsS73.far ?_ NB0_156.out _) | exact HI0.out)⟩, ⟨by repeat (first | (with_reducible first | exact HK.out | apply KeepBut.set_ | apply keep_drewN | apply keep_drew | apply keep_alloc | refine keep_far ?_ GW151.out _ | refine keep_far ?_ GW156.out _) | exact HK.out)⟩, ⟨by repeat (first | (with_reducible first | exact HB.out | apply below_alloc | apply pw_below_drewN | apply below_drew1 | refine below_set ?_ (IsS73.ge HI0.out) | refine below_set ?_ GE151.out | refine below_set ?_ GE156.out) | exact HB.out)⟩⟩
   case rest =>
    clear HC9
    (try clear c1); (try clear p1); (try clear q1); (try clear hx1); (try clear c11); (try clear c13); (try clear c13b0); (try clear c14); (try clear c14b0); (try clear p15); (try clear q15); (try clear hx15); (try clear hcz17_0); (try clear hcz17_1); (try clear hcz17_2); (try clear hfz17_0); (try clear hfz17_1); (try clear hfz17_2)
    obtain ⟨kq, x21_8, x1000_8, x1001_8, x1002_8, rfl, HA, HJ8, HO_157001, BK151, BK156, HI0, HK, HB⟩ := hcut
    cases kq with
    | zero => exact absurd HA.out (by simp [impl_docReader_segment.j1])
    | succ kj8 =>
     have H := HA.out
     clear HA
     simp only [impl_docReader_segment.j1] at H
     by_cases c18 : x21_8 = true
     rotate_left
     ·replace c18 := Bool.eq_false_iff.mpr c18
      subst c18
      have H1 : (if x1002_8 = 0 then (some (t152, x157001_1, x1000_8, wrap64 (x1001_8 + 1), x1002_8)) else (some (t152, x157001_1, x1000_8, x1001_8, x1002_8))) = some (r1, r2, r3, r4, r5) := by rw [if_neg (show ¬ (false = true) by decide)] at H; exact H
      clear H
      have H := H1
      clear H1
      by_cases c41 : x1002_8 = 0
      rotate_left
      ·rw [if_neg c41] at H
       have c41b0 : (x1002_8 == 0) = false := beq_eq_false_iff_ne.mpr c41
       have c41b1 : (x1002_8 != 0) = true := bne_iff_ne.mpr c41
       simp only [Option.some.injEq, Prod.mk.injEq] at H
       obtain ⟨rfl, rfl, rfl, rfl, rfl⟩ := H
       obtain ⟨HGz49, hgz49⟩ := HI0.out
       have hcz49_0 := cellS73_0 HGz49
       have hcz49_1 := cellS73_1 HGz49
       have hcz49_2 := cellS73_2 HGz49
       have hfz49_0 := blk_frozen HGz49 0
       have hfz49_1 := blk_frozen HGz49 1
       have hfz49_2 := blk_frozen HGz49 2
       clear HGz49 hgz49
       have hnb50 := NB156_151.out
       have hnc50 := NB151_156.out
       have hnb51 := NB156_0.out
       have hnc51 := NB0_156.out
       have hcz52_0 : wc.cell? ⟨gb156, 0, none⟩ = some (.string t152) := (blk_cell BK156.out 0).trans rfl
       have hcz52_1 : wc.cell? ⟨gb156, 1, none⟩ = some (u157001) := (blk_cell BK156.out 1).trans rfl
       have hfz52_0 := blk_frozen BK156.out 0
       have hfz52_1 := blk_frozen BK156.out 1
       have hnb53 := NB151_0.out
       have hnc53 := NB0_151.out
       have hcz54_0 : wc.cell? ⟨gb151, 0, none⟩ = some (.string (⟨#[]⟩ : ByteArray)) := (blk_cell BK151.out 0).trans rfl
       have hcz54_1 : wc.cell? ⟨gb151, 1, none⟩ = some (.slice none 0 0) := (blk_cell BK151.out 1).trans rfl
       have hfz54_0 := blk_frozen BK151.out 0
       have hfz54_1 := blk_frozen BK151.out 1
       obtain ⟨Ao55, co55, eo55⟩ := Kd.R_slice HO_157001.out
       subst eo55
       go_wp2
       repeat (go_quiet (fail); try go_wp2)
       refine bodyPost_ret (results_cell_row rfl _ _ gb151 68 #[.string t152, .slice Ao55 x157001_1.length co55] (0, 0) _ rfl (by (with_reducible repeat (first | refine blk_drewN ?_ _ | refine blk_drew ?_ | refine blk_alloc ?_ _)); refine blk_put (cs := #[.string t152, .slice none 0 0]) ?_ 1 _ rfl; (with_reducible repeat (first | refine blk_drewN ?_ _ | refine blk_drew ?_ | refine blk_alloc ?_ _)); refine blk_put (cs := #[.string (⟨#[]⟩ : ByteArray), .slice none 0 0]) ?_ 0 _ rfl; (with_reducible repeat (first | refine blk_drewN ?_ _ | refine blk_drew ?_ | refine blk_alloc ?_ _)); exact BK151.out) Try.underlying68 rfl (by kernel_rfl)) rfl ?_
       exact ⟨_, by first | rfl | (simp [errW_none, errW_some] <;> rfl) | (simp [*, errW_none, errW_some] <;> rfl), by (with_reducible repeat (first | apply Kd.R_alloc | apply Kd.R_drewN | apply Kd.R_drew)); exact Kd.R_mono (Kd.R_far (p := ⟨gb151, 1, none⟩) (Kd.R_far (p := ⟨gb151, 0, none⟩) (Kd.R_types HO_157001.out BK151.out (by decide)) (fun _ hk => hk.2) (.string t152)) (fun _ hk => hk.2) (.slice Ao55 x157001_1.length co55)) (fun _ hk => trivial), by repeat (first | (with_reducible first | exact HI0.out | apply IsS73.alloc | apply IsS73.drewN | apply IsS73.drew | apply IsS73.set_0 | apply IsS73.set_1 | apply IsS73.set_2 | refine IsS73.far ?_ NB0_151.out _ | refine IsS73.far ?_ NB0_156.out _) | exact HI0.out), by repeat (first | (with_reducible first | exact HB.out | apply below_alloc | apply pw_below_drewN | apply below_drew1 | refine below_set ?_ (IsS73.ge HI0.out) | refine below_set ?_ GE151.out | refine below_set ?_ GE156.out) | exact HB.out), by repeat (first | (with_reducible first | exact HK.out | apply KeepBut.set_ | apply keep_drewN | apply keep_drew | apply keep_alloc | refine keep_far ?_ GW151.out _ | refine keep_far ?_ GW156.out _) | exact HK.out)⟩

      rw [if_pos c41] at H
      have c41b0 : (x1002_8 == 0) = true := beq_iff_eq.mpr c41
      have c41b1 : (x1002_8 != 0) = false := bne_eq_false_iff_eq.mpr c41
      clear c41
      simp only [Option.some.injEq, Prod.mk.injEq] at H
      obtain ⟨rfl, rfl, rfl, rfl, rfl⟩ := H
      obtain ⟨HGz42, hgz42⟩ := HI0.out
      have hcz42_0 := cellS73_0 HGz42
      have hcz42_1 := cellS73_1 HGz42
      have hcz42_2 := cellS73_2 HGz42
      have hfz42_0 := blk_frozen HGz42 0
      have hfz42_1 := blk_frozen HGz42 1
      have hfz42_2 := blk_frozen HGz42 2
      clear HGz42 hgz42
      have hnb43 := NB156_151.out
      have hnc43 := NB151_156.out
      have hnb44 := NB156_0.out
      have hnc44 := NB0_156.out
      have hcz45_0 : wc.cell? ⟨gb156, 0, none⟩ = some (.string t152) := (blk_cell BK156.out 0).trans rfl
      have hcz45_1 : wc.cell? ⟨gb156, 1, none⟩ = some (u157001) := (blk_cell BK156.out 1).trans rfl
      have hfz45_0 := blk_frozen BK156.out 0
      have hfz45_1 := blk_frozen BK156.out 1
      have hnb46 := NB151_0.out
      have hnc46 := NB0_151.out
      have hcz47_0 : wc.cell? ⟨gb151, 0, none⟩ = some (.string (⟨#[]⟩ : ByteArray)) := (blk_cell BK151.out 0).trans rfl
      have hcz47_1 : wc.cell? ⟨gb151, 1, none⟩ = some (.slice none 0 0) := (blk_cell BK151.out 1).trans rfl
      have hfz47_0 := blk_frozen BK151.out 0
      have hfz47_1 := blk_frozen BK151.out 1
      obtain ⟨Ao48, co48, eo48⟩ := Kd.R_slice HO_157001.out
      subst eo48
      go_wp2
      repeat (go_quiet (fail); try go_wp2)
      refine bodyPost_ret (results_cell_row rfl _ _ gb151 68 #[.string t152, .slice Ao48 x157001_1.length co48] (0, 0) _ rfl (by (with_reducible repeat (first | refine blk_drewN ?_ _ | refine blk_drew ?_ | refine blk_alloc ?_ _)); refine blk_put (cs := #[.string t152, .slice none 0 0]) ?_ 1 _ rfl; (with_reducible repeat (first | refine blk_drewN ?_ _ | refine blk_drew ?_ | refine blk_alloc ?_ _)); refine blk_put (cs := #[.string (⟨#[]⟩ : ByteArray), .slice none 0 0]) ?_ 0 _ rfl; (with_reducible repeat (first | refine blk_drewN ?_ _ | refine blk_drew ?_ | refine blk_alloc ?_ _)); exact blk_far bk_ NB151_0.out _) Try.underlying68 rfl (by kernel_rfl)) rfl ?_
      exact ⟨_, by first | rfl | (simp [errW_none, errW_some] <;> rfl) | (simp [*, errW_none, errW_some] <;> rfl), by (with_reducible repeat (first | apply Kd.R_alloc | apply Kd.R_drewN | apply Kd.R_drew)); exact Kd.R_mono (Kd.R_far (p := ⟨gb151, 1, none⟩) (Kd.R_far (p := ⟨gb151, 0, none⟩) (Kd.R_far (p := ⟨g, 1, none⟩) (Kd.R_types (IsS73.apart HI0.out HO_157001.out (by decide)) BK151.out (by decide)) (fun _ hk => hk.1.2) (.int .i64 (wrap64 (x1001_8 + 1)))) (fun _ hk => hk.2) (.string t152)) (fun _ hk => hk.2) (.slice Ao48 x157001_1.length co48)) (fun _ hk => trivial), by repeat (first | (with_reducible first | exact HI0.out | apply IsS73.alloc | apply IsS73.drewN | apply IsS73.drew | apply IsS73.set_0 | apply IsS73.set_1 | apply IsS73.set_2 | refine IsS73.far ?_ NB0_151.out _ | refine IsS73.far ?_ NB0_156.out _) | exact HI0.out), by repeat (first | (with_reducible first | exact HB.out | apply below_alloc | apply pw_below_drewN | apply below_drew1 | refine below_set ?_ (IsS73.ge HI0.out) | refine below_set ?_ GE151.out | refine below_set ?_ GE156.out) | exact HB.out), by repeat (first | (with_reducible first | exact HK.out | apply KeepBut.set_ | apply keep_drewN | apply keep_drew | apply keep_alloc | refine keep_far ?_ GW151.out _ | refine keep_far ?_ GW156.out _) | exact HK.out)⟩
     subst c18
     have H1 : (if 0 ≤ x1001_8 then (if x1001_8 < (x1000_8.size : Int) then (if (bt x1000_8 x1001_8) = 43 then (if (x157001_1.length : Int) = 20 then (impl_docReader_segment.l0 kj8 x1000_8 x1001_8 9 t152 x157001_1) else ((impl_docReader_part.f kj8 x1000_8 (wrap64 (x1001_8 + 1)) x1002_8).bind fun bt161 => (if x157001_1.length < 8796093022208 then (impl_docReader_segment.l0 kj8 bt161.2.1 bt161.2.2.1 bt161.2.2.2 t152 (x157001_1 ++ [bt161.1])) else (none)))) else (impl_docReader_segment.l0 kj8 x1000_8 x1001_8 4 t152 x157001_1)) else (none)) else (none)) = some (r1, r2, r3, r4, r5) := by rw [if_pos rfl] at H; exact H
     clear H
     have H := H1
     clear H1
     by_cases c19 : 0 ≤ x1001_8
     rotate_left
     ·rw [if_neg c19] at H
      exact absurd H (by simp)
     rw [if_pos c19] at H
     have c19b0 : decide (0 ≤ x1001_8) = true := decide_eq_true c19
     clear c19
     by_cases c20 : x1001_8 < (x1000_8.size : Int)
     rotate_left
     ·rw [if_neg c20] at H
      exact absurd H (by simp)
     rw [if_pos c20] at H
     have c20b0 : decide (x1001_8 < (x1000_8.size : Int)) = true := decide_eq_true c20
     clear c20
     by_cases c22 : (bt x1000_8 x1001_8) = 43
     rotate_left
     ·rw [if_neg c22] at H
      have c22b0 : ((bt x1000_8 x1001_8) == 43) = false := beq_eq_false_iff_ne.mpr c22
      have c22b1 : ((bt x1000_8 x1001_8) != 43) = true := bne_iff_ne.mpr c22
      have H' := Aside0.mk H
      clear H
      obtain ⟨HGz40, hgz40⟩ := HI0.out
      have hcz40_0 := cellS73_0 HGz40
      have hcz40_1 := cellS73_1 HGz40
      have hcz40_2 := cellS73_2 HGz40
      have hfz40_0 := blk_frozen HGz40 0
      have hfz40_1 := blk_frozen HGz40 1
      have hfz40_2 := blk_frozen HGz40 2
      clear HGz40 hgz40
      have p21 : 0 ≤ (x1001_8 : Int) := od_
      have q21 : x1001_8 < (x1000_8.size : Int) := od_
      have hx21 := bt_at x1000_8 x1001_8
      replace p21 := eq_true p21
      replace q21 := eq_true q21
      go_wp2
      repeat (go_quiet (fail); try go_wp2)
      go_roundg kj8
      case measure => have := HK1.out; have := HJ8.out; omega
      case rel => exact ⟨(x1000_8), (x1001_8), (4), (x157001_1), (u157001), H', ⟨by have := HK1.out; have := HJ8.out; omega⟩, ⟨by (with_reducible repeat (first | apply Kd.R_alloc | apply Kd.R_drewN | apply Kd.R_drew)); exact Kd.R_mono (Kd.R_far (p := ⟨g, 2, none⟩) (IsS73.apart HI0.out HO_157001.out (by decide)) (fun _ hk => hk.2) (.int .i64 4)) (fun _ hk => trivial)⟩, ⟨by (with_reducible repeat (first | refine blk_drewN ?_ _ | refine blk_drew ?_ | refine blk_alloc ?_ _)); exact blk_far bk_ NB151_0.out _⟩, ⟨by (with_reducible repeat (first | refine blk_drewN ?_ _ | refine blk_drew ?_ | refine blk_alloc ?_ _)); exact blk_far bk_ NB156_0.out _⟩, ⟨by repeat (first | (with_reducible first | exact HI0.out | apply IsS73.alloc | apply IsS73.drewN | apply IsS73.drew | apply IsS73.set_0 | apply IsS73.set_1 | apply IsS73.set_2 | refine IsS73.far ?_ NB0_151.out _ | refine IsS73.far ?_ NB0_156.out _) | exact HI0.out)⟩, ⟨by repeat (first | (with_reducible first | exact HK.out | apply KeepBut.set_ | apply keep_drewN | apply keep_drew | apply keep_alloc | refine keep_far ?_ GW151.out _ | refine keep_far ?_ GW156.out _) | exact HK.out)⟩, ⟨by repeat (first | (with_reducible first | exact HB.out | apply below_alloc | apply pw_below_drewN | apply below_drew1 | refine below_set ?_ (IsS73.ge HI0.out) | refine below_set ?_ GE151.out | refine below_set ?_ GE156.out) | exact HB.out)⟩⟩
     rw [if_pos c22] at H
     have c22b0 : ((bt x1000_8 x1001_8) == 43) = true := beq_iff_eq.mpr c22
     have c22b1 : ((bt x1000_8 x1001_8) != 43) = false := bne_eq_false_iff_eq.mpr c22
     clear c22
     by_cases c23 : (x157001_1.length : Int) = 20
     ·rw [if_pos c23] at H
      have c23b0 : ((x157001_1.length : Int) == 20) = true := beq_iff_eq.mpr c23
      have c23b1 : ((x157001_1.length : Int) != 20) = false := bne_eq_false_iff_eq.mpr c23
      clear c23
      have H' := Aside0.mk H
      clear H
      obtain ⟨HGz24, hgz24⟩ := HI0.out
      have hcz24_0 := cellS73_0 HGz24
      have hcz24_1 := cellS73_1 HGz24
      have hcz24_2 := cellS73_2 HGz24
      have hfz24_0 := blk_frozen HGz24 0
      have hfz24_1 := blk_frozen HGz24 1
      have hfz24_2 := blk_frozen HGz24 2
      clear HGz24 hgz24
      have p21 : 0 ≤ (x1001_8 : Int) := od_
      have q21 : x1001_8 < (x1000_8.size : Int) := od_
      have hx21 := bt_at x1000_8 x1001_8
      replace p21 := eq_true p21
      replace q21 := eq_true q21
      have hnb25 := NB156_151.out
      have hnc25 := NB151_156.out
      have hnb26 := NB156_0.out
      have hnc26 := NB0_156.out
      have hcz27_0 : wc.cell? ⟨gb156, 0, none⟩ = some (.string t152) := (blk_cell BK156.out 0).trans rfl
      have hcz27_1 : wc.cell? ⟨gb156, 1, none⟩ = some (u157001) := (blk_cell BK156.out 1).trans rfl
      have hfz27_0 := blk_frozen BK156.out 0
      have hfz27_1 := blk_frozen BK156.out 1
      obtain ⟨Ao28, co28, eo28⟩ := Kd.R_slice HO_157001.out
      subst eo28
      go_wp2
      repeat (go_quiet (fail); try go_wp2)
      go_roundg kj8
      case measure => have := HK1.out; have := HJ8.out; omega
      case rel => exact ⟨(x1000_8), (x1001_8), (9), (x157001_1), (.slice Ao28 x157001_1.length co28), H', ⟨by have := HK1.out; have := HJ8.out; omega⟩, ⟨by (with_reducible repeat (first | apply Kd.R_alloc | apply Kd.R_drewN | apply Kd.R_drew)); exact Kd.R_mono (Kd.R_far (p := ⟨g, 2, none⟩) (IsS73.apart HI0.out HO_157001.out (by decide)) (fun _ hk => hk.2) (.int .i64 9)) (fun _ hk => trivial)⟩, ⟨by (with_reducible repeat (first | refine blk_drewN ?_ _ | refine blk_drew ?_ | refine blk_alloc ?_ _)); exact blk_far bk_ NB151_0.out _⟩, ⟨by (with_reducible repeat (first | refine blk_drewN ?_ _ | refine blk_drew ?_ | refine blk_alloc ?_ _)); exact blk_far bk_ NB156_0.out _⟩, ⟨by repeat (first | (with_reducible first | exact HI0.out | apply IsS73.alloc | apply IsS73.drewN | apply IsS73.drew | apply IsS73.set_0 | apply IsS73.set_1 | apply IsS73.set_2 | refine IsS73.far ?_ NB0_151.out _ | refine IsS73.far ?_ NB0_156.out _) | exact HI0.out)⟩, ⟨by repeat (first | (with_reducible first | exact HK.out | apply KeepBut.set_ | apply keep_drewN | apply keep_drew | apply keep_alloc | refine keep_far ?_ GW151.out _ | refine keep_far ?_ GW156.out _) | exact HK.out)⟩, ⟨by repeat (first | (with_reducible first | exact HB.out | apply below_alloc | apply pw_below_drewN | apply below_drew1 | refine below_set ?_ (IsS73.ge HI0.out) | refine below_set ?_ GE151.out | refine below_set ?_ GE156.out) | exact HB.out)⟩⟩
     rw [if_neg c23] at H
     have c23b0 : ((x157001_1.length : Int) == 20) = false := beq_eq_false_iff_ne.mpr c23
     have c23b1 : ((x157001_1.length : Int) != 20) = true := bne_iff_ne.mpr c23
     replace H := Option.bind_eq_some_iff.mp H
     obtain ⟨⟨t161, t162, t163, t164⟩, A290, H⟩ := H
     replace H : (if x157001_1.length < 8796093022208 then (impl_docReader_segment.l0 kj8 t162 t163 t164 t152 (x157001_1 ++ [t161])) else (none)) = some (r1, r2, r3, r4, r5) := H
     have A29 := Aside0.mk A290
     clear A290
     by_cases c30 : x157001_1.length < 8796093022208
     rotate_left
     ·rw [if_neg c30] at H
      exact absurd H (by simp)
     rw [if_pos c30] at H
     have LMc30 := Aside0.mk c30
     clear c30
     obtain ⟨y165, hy165⟩ : ∃ y_ : List ByteArray, y_ = (x157001_1 ++ [t161]) := ⟨_, rfl⟩
     replace H : (impl_docReader_segment.l0 kj8 t162 t163 t164 t152 y165) = some (r1, r2, r3, r4, r5) := by first | (rw [hy165]; with_reducible exact H) | (have H2_ := (Option.bind_some _ _).symm.trans H; rw [hy165]; with_reducible exact H2_) | (have H2_ := (Option.bind_some _ _).symm.trans H; with_reducible exact H2_) | with_reducible exact H | (rw [hy165]; exact H) | exact H
     have Ny165 := Aside0.mk hy165
     clear hy165
     have H' := Aside0.mk H
     clear H
     obtain ⟨HGz31, hgz31⟩ := HI0.out
     have hcz31_0 := cellS73_0 HGz31
     have hcz31_1 := cellS73_1 HGz31
     have hcz31_2 := cellS73_2 HGz31
     have hfz31_0 := blk_frozen HGz31 0
     have hfz31_1 := blk_frozen HGz31 1
     have hfz31_2 := blk_frozen HGz31 2
     clear HGz31 hgz31
     have p21 : 0 ≤ (x1001_8 : Int) := od_
     have q21 : x1001_8 < (x1000_8.size : Int) := od_
     have hx21 := bt_at x1000_8 x1001_8
     replace p21 := eq_true p21
     replace q21 := eq_true q21
     have hnb32 := NB156_151.out
     have hnc32 := NB151_156.out
     have hnb33 := NB156_0.out
     have hnc33 := NB0_156.out
     have hcz34_0 : wc.cell? ⟨gb156, 0, none⟩ = some (.string t152) := (blk_cell BK156.out 0).trans rfl
     have hcz34_1 : wc.cell? ⟨gb156, 1, none⟩ = some (u157001) := (blk_cell BK156.out 1).trans rfl
     have hfz34_0 := blk_frozen BK156.out 0
     have hfz34_1 := blk_frozen BK156.out 1
     obtain ⟨Ao35, co35, eo35⟩ := Kd.R_slice HO_157001.out
     subst eo35
     go_upto_region 4 with (fail)
     repeat (go_quiet (fail); go_upto_region 4 with (fail))
     have n_HO_157001 := Aside0.mk (Kd.R_drewN HO_157001.out nq)
     have n_BK151 := Aside0.mk (blk_drewN BK151.out nq)
     have n_BK156 := Aside0.mk (blk_drewN BK156.out nq)
     have n_HK := Aside0.mk (keep_drewN HK.out nq)
     have n_HB := Aside0.mk (pw_below_drewN HB.out nq)
     have n_HI0 := Aside0.mk (IsS73.drewN HI0.out nq)
     clear HO_157001 BK151 BK156 HK HB HI0
     have HO_157001 := n_HO_157001
     have BK151 := n_BK151
     have BK156 := n_BK156
     have HK := n_HK
     have HB := n_HB
     have HI0 := n_HI0
     clear n_HO_157001 n_BK151 n_BK156 n_HK n_HB n_HI0
     generalize wc.drewN nq = wa at HO_157001 BK151 BK156 HK HB HI0 ⊢
     have n_HO_157001 := Aside0.mk (Kd.R_drew (Kd.R_mono (Kd.R_far (p := ⟨g, 1, none⟩) (IsS73.apart HI0.out HO_157001.out (by decide)) (fun _ hk => hk.2) (.int .i64 (wrap64 (x1001_8 + 1)))) (fun _ h_ => h_.1)))
     have n_BK151 := Aside0.mk (blk_drew (blk_far (p := ⟨g, 1, none⟩) BK151.out NB151_0.out (.int .i64 (wrap64 (x1001_8 + 1)))))
     have n_BK156 := Aside0.mk (blk_drew (blk_far (p := ⟨g, 1, none⟩) BK156.out NB156_0.out (.int .i64 (wrap64 (x1001_8 + 1)))))
     have n_HK := Aside0.mk (show KeepBut w ((wa.setCell ⟨g, 1, none⟩ (.int .i64 (wrap64 (x1001_8 + 1)))).drew) g none from keep_drew (KeepBut.set_ HK.out _ _))
     have n_HB := Aside0.mk (show Below w0.heap.size w0 ((wa.setCell ⟨g, 1, none⟩ (.int .i64 (wrap64 (x1001_8 + 1)))).drew) from below_drew1 (below_set HB.out (IsS73.ge HI0.out)))
     have n_HI0 := Aside0.mk (show IsS73 w0 ((wa.setCell ⟨g, 1, none⟩ (.int .i64 (wrap64 (x1001_8 + 1)))).drew) g x1000_8 (wrap64 (x1001_8 + 1)) x1002_8 from IsS73.drew (IsS73.set_1 HI0.out _))
     clear HO_157001 BK151 BK156 HK HB HI0
     have HO_157001 := n_HO_157001
     have BK151 := n_BK151
     have BK156 := n_BK156
     have HK := n_HK
     have HB := n_HB
     have HI0 := n_HI0
     clear n_HO_157001 n_BK151 n_BK156 n_HK n_HB n_HI0
     refine start_ (n := 8) (S := fun w' => w'.cell? ⟨gb156, 1, none⟩ = some (.slice Ao35 x157001_1.length co35)) (ds := [7]) (msk 0 8) (by kernel_rfl) rfl rfl ((blk_cell BK156.out 1).trans rfl) (fun hHeld => ?_)
     refine with_tabW impl_docReader_segment.tab4 impl_docReader_segment.bits4 (fun HT_ HW_ => ?_)
     generalize ((wa.setCell ⟨g, 1, none⟩ (.int .i64 (wrap64 (x1001_8 + 1)))).drew) = wb at HO_157001 BK151 BK156 HK HB HI0 hHeld ⊢
     refine pu_ 0 29 (msk 1 7) HT_.out ?_
     refine tk_ 1 30 (msk 2 6) HT_.out HW_.out hHeld ?_ (hy := by rintro w' s0; go_simp; with_reducible rfl)
     refine pu_ 2 31 (msk 3 5) HT_.out ?_
     refine one_ (i := 3) (N := some 32) (msk 4 4) rfl rfl (one_of HT_.out (by kernel_rfl)) (by decide) (fun K hK => ?_)
     refine goes_ Try.func67 (by kernel_rfl) rfl #[.pointer (some ⟨g, 0, none⟩)] (by rfl) rfl rfl (by (try simp only [List.map_toArray, List.map_cons, List.map_nil]); first | done | rfl) ?_
     (with_reducible refine (impl_docReader_part.calls kj8 g x1000_8 (wrap64 (x1001_8 + 1)) x1002_8 t161 t162 t163 t164 w0 _ ?side1 ?side2 A29.out).mono ?_)
     (case side1 => repeat (first | (with_reducible first | exact HI0.out | apply IsS73.alloc | apply IsS73.drewN | apply IsS73.drew | apply IsS73.set_0 | apply IsS73.set_1 | apply IsS73.set_2 | refine IsS73.far ?_ NB0_151.out _ | refine IsS73.far ?_ NB0_156.out _) | exact HI0.out))
     (case side2 => repeat (first | (with_reducible first | exact HB.out | apply below_alloc | apply pw_below_drewN | apply below_drew1 | refine below_set ?_ (IsS73.ge HI0.out) | refine below_set ?_ GE151.out | refine below_set ?_ GE156.out) | exact HB.out))
     rintro e w36 ⟨rfl, hi, hb, hk⟩
     refine ⟨_, rfl, ?_⟩
     have n0_ := Aside0.mk (Kd.R_mono (Kd.R_keep (IsS73.apart (show IsS73 w0 _ g x1000_8 (wrap64 (x1001_8 + 1)) x1002_8 from by repeat (first | (with_reducible first | exact HI0.out | apply IsS73.alloc | apply IsS73.drewN | apply IsS73.drew | apply IsS73.set_0 | apply IsS73.set_1 | apply IsS73.set_2 | refine IsS73.far ?_ NB0_151.out _ | refine IsS73.far ?_ NB0_156.out _) | exact HI0.out)) (by (with_reducible repeat (first | apply Kd.R_alloc | apply Kd.R_drewN | apply Kd.R_drew)); exact HO_157001.out) (by decide)) hk (fun _ h => h.2)) (fun _ h => h.1))
     have n1_ := Aside0.mk (KeepBut.blk hk (g' := gb151) (o := .cells #[.string (⟨#[]⟩ : ByteArray), .slice none 0 0] 68 (0, 0)) bk_ NB151_0.out (by simp))
     have n2_ := Aside0.mk (KeepBut.blk hk (g' := gb156) (o := .cells #[.string t152, .slice Ao35 x157001_1.length co35] 68 (0, 0)) bk_ NB156_0.out (by simp))
     have n3_ := Aside0.mk (KeepBut.trans (by repeat (first | (with_reducible first | exact HK.out | apply KeepBut.set_ | apply keep_drewN | apply keep_drew | apply keep_alloc | refine keep_far ?_ GW151.out _ | refine keep_far ?_ GW156.out _) | exact HK.out)) hk (.inl rfl))
     have n4_ := Aside0.mk (hb)
     have n5_ := Aside0.mk (hi)
     clear HO_157001
     clear BK151
     clear BK156
     clear HK
     clear HB
     clear HI0
     have HO_157001 := n0_
     have BK151 := n1_
     have BK156 := n2_
     have HK := n3_
     have HB := n4_
     have HI0 := n5_
     clear n0_ n1_ n2_ n3_ n4_ n5_
     (try clear hb)
     (try clear hb2)
     (try clear hk)
     (try clear hi)
     refine hK.out _ _ ((blk_cell BK156.out 1).trans rfl) (fun hHeld => ?_)
     clear hK K
     refine norm_ (a' := ?_) ?_ ?_
     rotate_left
     ·show Act.put _ (some 32) _ = _
      simp only [Act.put, List.setIfInBounds_toArray, List.set_cons_zero, List.set_cons_succ, i64_w, i32_w]
      rfl
     refine one_ (i := 4) (N := some 33) (msk 5 3) rfl rfl (one_of HT_.out (by kernel_rfl)) (by decide) (fun K hK => ?_)
     refine value_ (w1 := ?_) (v := ?_) (by rfl) rfl ?_ ?_
     rotate_left 2
     ·go_simp
      constructor
      ·rfl
      ·rfl
     refine hK.out _ _ ((blk_cell (blk_alloc BK156.out _) 1).trans rfl) (fun hHeld => ?_)
     clear hK K
     refine norm_ (a' := ?_) ?_ ?_
     rotate_left
     ·show Act.put _ (some 33) _ = _
      simp only [Act.put, List.setIfInBounds_toArray, List.set_cons_zero, List.set_cons_succ, i64_w, i32_w]
      rfl
     refine one_ (i := 5) (N := some 34) (msk 6 2) rfl rfl (one_of HT_.out (by kernel_rfl)) (by decide) (fun K hK => ?_)
     refine Kd.R_append_step Kd.string w.heap.size (by rfl) (.tmp 30) (.tmp 33) 66 9 (.string ⟨#[]⟩) 16 rfl Try.underlying66 info9 rfl (by decide) (by omega) (.slice Ao35 x157001_1.length co35) x157001_1 t161 [.string t161] (fun _ => True) (fun _ => False) rfl rfl ?aP (fun _ hk => hk.elim) ?aF ?aO (Below.refl _ _) ?aS ?aL ?_
     (case aP => exact rfl)
     (case aF => exact (fun _ _ => trivial))
     (case aO => exact (by (with_reducible repeat (first | apply Kd.R_alloc | apply Kd.R_drewN | apply Kd.R_drew)); exact HO_157001.out))
     (case aS => exact (keep_size (w := w) (g := g) (row := none) (by repeat (first | (with_reducible first | exact HK.out | apply KeepBut.set_ | apply keep_drewN | apply keep_drew | apply keep_alloc | refine keep_far ?_ GW151.out _ | refine keep_far ?_ GW156.out _) | exact HK.out))))
     (case aL => have := LMc30.out; omega)
     intro v166 w37 ho hb hg hat
     rw [← Ny165.out] at ho
     have n0_ := Aside0.mk (blk_grown (g := gb151) (o := .cells #[.string (⟨#[]⟩ : ByteArray), .slice none 0 0] 68 (0, 0)) bk_ hg (Kd.R_ne HO_157001.out BK151.out (by decide)))
     have n1_ := Aside0.mk (blk_grown (g := gb156) (o := .cells #[.string t152, .slice Ao35 x157001_1.length co35] 68 (0, 0)) bk_ hg (Kd.R_ne HO_157001.out BK156.out (by decide)))
     have n2_ := Aside0.mk (IsS73.grown (by repeat (first | (with_reducible first | exact HI0.out | apply IsS73.alloc | apply IsS73.drewN | apply IsS73.drew | apply IsS73.set_0 | apply IsS73.set_1 | apply IsS73.set_2 | refine IsS73.far ?_ NB0_151.out _ | refine IsS73.far ?_ NB0_156.out _) | exact HI0.out)) hg (IsS73.own_ne HI0.out HO_157001.out (by decide)))
     have n3_ := Aside0.mk (below_weaken (by repeat (first | (with_reducible first | exact HB.out | apply below_alloc | apply pw_below_drewN | apply below_drew1 | refine below_set ?_ (IsS73.ge HI0.out) | refine below_set ?_ GE151.out | refine below_set ?_ GE156.out) | exact HB.out)) HL.out hb)
     have n4_ := Aside0.mk (KeepBut.trans (by repeat (first | (with_reducible first | exact HK.out | apply KeepBut.set_ | apply keep_drewN | apply keep_drew | apply keep_alloc | refine keep_far ?_ GW151.out _ | refine keep_far ?_ GW156.out _) | exact HK.out)) (KeepBut.of_grown hg g) (Kd.R_base2 HO_157001.out))
     have n5_ := Aside0.mk (ho)
     clear BK151
     clear BK156
     clear HI0
     clear HB
     clear HK
     clear HO_157001
     have BK151 := n0_
     have BK156 := n1_
     have HI0 := n2_
     have HB := n3_
     have HK := n4_
     have HO167 := n5_
     clear n0_ n1_ n2_ n3_ n4_ n5_
     clear ho hb hg hat
     obtain ⟨Ao38, co38, eo38⟩ := Kd.R_slice HO167.out
     subst eo38
     have hcz39_0 : w37.cell? ⟨gb156, 0, none⟩ = some (.string t152) := (blk_cell BK156.out 0).trans rfl
     have hcz39_1 : w37.cell? ⟨gb156, 1, none⟩ = some (.slice Ao35 x157001_1.length co35) := (blk_cell BK156.out 1).trans rfl
     have hfz39_0 := blk_frozen BK156.out 0
     have hfz39_1 := blk_frozen BK156.out 1
     refine hK.out _ _ ((blk_cell BK156.out 1).trans rfl) (fun hHeld => ?_)
     clear hK K
     refine norm_ (a' := ?_) ?_ ?_
     rotate_left
     ·show Act.put _ (some 34) _ = _
      simp only [Act.put, List.setIfInBounds_toArray, List.set_cons_zero, List.set_cons_succ, i64_w, i32_w]
      rfl
     refine pu_ 6 35 (msk 7 1) HT_.out ?_
     refine last_ (i := 7) (N := none) (msk 8 0) rfl rfl (one_of HT_.out (by kernel_rfl)) (by decide) (fun K hK => ?_)
     refine skip_ (w1 := ?_) (by rfl) rfl ?_ ?_
     rotate_left
     ·go_simp
      rfl
     refine hK.out _ _ ?_
     clear hK K
     refine done_ (done_of HT_.out (by kernel_rfl)) ?_
     try go_wp2
     go_roundg kj8
     case measure => have := HK1.out; have := HJ8.out; omega
     case rel => exact ⟨(t162), (t163), (t164), (y165), (.slice Ao38 y165.length co38), H', ⟨by have := HK1.out; have := HJ8.out; omega⟩, ⟨by (with_reducible repeat (first | apply Kd.R_alloc | apply Kd.R_drewN | apply Kd.R_drew)); exact Kd.R_mono (Kd.R_far (p := ⟨gb156, 1, none⟩) (Kd.R_types HO167.out BK156.out (by decide)) (fun _ hk => hk.2) (.slice Ao38 y165.length co38)) (fun _ hk => trivial)⟩, ⟨by (with_reducible repeat (first | refine blk_drewN ?_ _ | refine blk_drew ?_ | refine blk_alloc ?_ _)); exact blk_far bk_ NB151_156.out _⟩, ⟨by (with_reducible repeat (first | refine blk_drewN ?_ _ | refine blk_drew ?_ | refine blk_alloc ?_ _)); refine blk_put (cs := #[.string t152, .slice Ao35 x157001_1.length co35]) ?_ 1 _ rfl; (with_reducible repeat (first | refine blk_drewN ?_ _ | refine blk_drew ?_ | refine blk_alloc ?_ _)); exact BK156.out⟩, ⟨by repeat (first | (with_reducible first | exact HI0.out | apply IsS73.alloc | apply IsS73.drewN | apply IsS73.drew | apply IsS73.set_0 | apply IsS73.set_1 | apply IsS73.set_2 | refine IsS73.far ?_ NB0_151.out _ | refine IsS73.far ?_ NB0_156.out _) | exact HI0.out)⟩, ⟨by repeat (first | (with_reducible first | exact HK.out | apply KeepBut.set_ | apply keep_drewN | apply keep_drew | apply keep_alloc | refine keep_far ?_ GW151.out _ | refine keep_far ?_ GW156.out _) | exact HK.out)⟩, ⟨by repeat (first | (with_reducible first | exact HB.out | apply below_alloc | apply pw_below_drewN | apply below_drew1 | refine below_set ?_ (IsS73.ge HI0.out) | refine below_set ?_ GE151.out | refine below_set ?_ GE156.out) | exact HB.out)⟩⟩
end Go.Proofs.Ytkiooiijnolocaa.XFnExactReadSegments
