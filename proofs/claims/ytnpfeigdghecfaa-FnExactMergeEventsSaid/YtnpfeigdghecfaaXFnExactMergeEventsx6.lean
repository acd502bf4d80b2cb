-- PRINTED by xprint.py (our own program, over the kit's print.py)
import Derived.Test.YtnpfeigdghecfaaXFnExactMergeEventsx0
import Derived.Test.YtnpfeigdghecfaaXFnExactMergeEventsx1
import Derived.Test.YtnpfeigdghecfaaXFnExactMergeEventsx4
import Derived.Test.YtnpfeigdghecfaaXFnExactMergeEventsx5
import Derived.Test.YtnpfeigdghecfaaPu
namespace Go.Proofs.Ytnpfeigdghecfaa.XFnExactMergeEvents
open Go.RowKit Go.Proofs.YtnpfeigdghecfaaW.PrintWords Go.Proofs.YtnpfeigdghecfaaW.PrintLast Go.Proofs.YtnpfeigdghecfaaW.PrintMore Go.Proofs.YtnpfeigdghecfaaW.Idx
attribute [local go_sem] max2_int min2_int max_two min_two max_three min_three max_four min_four   -- for this text's walks alone
set_option linter.unusedVariables false
set_option linter.unusedSimpArgs false

attribute [local go_sem high] eqA40
/-! ### spec_MergeEvents: function 13 -/
mutual
def spec_MergeEvents.j0 : Nat → List (S40) → List (S40) → List (S40) → Bool → Option ((List (S40)) × Int)
 | 0, _, _, _, _ => none
 | k + 1, x0, x1, x6, x20 => if x20 = true then (some (x6, 2)) else ((spec_EventsOK.f k x0).bind fun t146 => (if t146 = true then ((spec_EventsOK.f k x1).bind fun t147 => (spec_MergeEvents.j1 k x0 x1 x6 (!t147))) else (spec_MergeEvents.j1 k x0 x1 x6 true)))
def spec_MergeEvents.j1 : Nat → List (S40) → List (S40) → List (S40) → Bool → Option ((List (S40)) × Int)
 | 0, _, _, _, _ => none
 | k + 1, x0, x1, x6, x29 => if x29 = true then (some (x6, 1)) else (spec_MergeEvents.l0 k x0 x1 x6 0)
def spec_MergeEvents.l0 : Nat → List (S40) → List (S40) → List (S40) → Int → Option ((List (S40)) × Int)
 | 0, _, _, _, _ => none
 | k + 1, x0, x1, x6, x7 => if x7 < (x0.length : Int) then (spec_MergeEvents.l1 k x0 x1 x6 x7 0) else (spec_MergeEvents.l2 k x0 x1 x6 (([] : List (S40))) 0 0)
def spec_MergeEvents.l1 : Nat → List (S40) → List (S40) → List (S40) → Int → Int → Option ((List (S40)) × Int)
 | 0, _, _, _, _, _ => none
 | k + 1, x0, x1, x6, x7, x8 => if x8 < (x1.length : Int) then (if 0 ≤ x7 then (if x7 < (x0.length : Int) then (if 0 ≤ x8 then (if ((rd_T40 x0 x7).f0) = ((rd_T40 x1 x8).f0) then (if ((rd_T40 x0 x7).f1) = ((rd_T40 x1 x8).f1) then (if (!(((rd_T40 x0 x7).f0) == ((rd_T40 x1 x8).f0)) || (!(((rd_T40 x0 x7).f1) == ((rd_T40 x1 x8).f1)) || (!(((rd_T40 x0 x7).f2) == ((rd_T40 x1 x8).f2)) || (!(((rd_T40 x0 x7).f3) == ((rd_T40 x1 x8).f3)) || (!((((rd_T40 x0 x7).f4).toList) == (((rd_T40 x1 x8).f4).toList)) || (!(((rd_T40 x0 x7).f5) == ((rd_T40 x1 x8).f5)))))))) = true then (some (x6, 3)) else (spec_MergeEvents.l1 k x0 x1 x6 x7 (wrap64 (x8 + 1)))) else (spec_MergeEvents.l1 k x0 x1 x6 x7 (wrap64 (x8 + 1)))) else (spec_MergeEvents.l1 k x0 x1 x6 x7 (wrap64 (x8 + 1)))) else (none)) else (none)) else (none)) else (spec_MergeEvents.l0 k x0 x1 x6 (wrap64 (x7 + 1)))
def spec_MergeEvents.l2 : Nat → List (S40) → List (S40) → List (S40) → List (S40) → Int → Int → Option ((List (S40)) × Int)
 | 0, _, _, _, _, _, _ => none
 | k + 1, x0, x1, x6, x9, x10, x11 => if x10 < (x0.length : Int) then (spec_MergeEvents.j5 k x0 x1 x6 x9 x10 x11 true) else (spec_MergeEvents.j5 k x0 x1 x6 x9 x10 x11 (decide (x11 < (x1.length : Int))))
def spec_MergeEvents.j5 : Nat → List (S40) → List (S40) → List (S40) → List (S40) → Int → Int → Bool → Option ((List (S40)) × Int)
 | 0, _, _, _, _, _, _, _ => none
 | k + 1, x0, x1, x6, x9, x10, x11, x89 => if x89 = true then (if x10 = (x0.length : Int) then (if 0 ≤ x11 then (if x11 < (x1.length : Int) then (if x9.length < 2513169434916 then (spec_MergeEvents.l2 k x0 x1 x6 (x9 ++ [(⟨(rd_T40 x1 x11).f0, (rd_T40 x1 x11).f1, (rd_T40 x1 x11).f2, (rd_T40 x1 x11).f3, (rd_T40 x1 x11).f4, (rd_T40 x1 x11).f5⟩ : S40)]) x10 (wrap64 (x11 + 1))) else (none)) else (none)) else (none)) else (if x11 = (x1.length : Int) then (if 0 ≤ x10 then (if x10 < (x0.length : Int) then (if x9.length < 2513169434916 then (spec_MergeEvents.l2 k x0 x1 x6 (x9 ++ [(⟨(rd_T40 x0 x10).f0, (rd_T40 x0 x10).f1, (rd_T40 x0 x10).f2, (rd_T40 x0 x10).f3, (rd_T40 x0 x10).f4, (rd_T40 x0 x10).f5⟩ : S40)]) (wrap64 (x10 + 1)) x11) else (none)) else (none)) else (none)) else (if 0 ≤ x10 then (if x10 < (x0.length : Int) then (if 0 ≤ x11 then (if x11 < (x1.length : Int) then (if (((rd_T40 x0 x10).f0) == ((rd_T40 x1 x11).f0) && (((rd_T40 x0 x10).f1) == ((rd_T40 x1 x11).f1) && (((rd_T40 x0 x10).f2) == ((rd_T40 x1 x11).f2) && (((rd_T40 x0 x10).f3) == ((rd_T40 x1 x11).f3) && ((((rd_T40 x0 x10).f4).toList) == (((rd_T40 x1 x11).f4).toList) && (((rd_T40 x0 x10).f5) == ((rd_T40 x1 x11).f5))))))) = true then (if x9.length < 2513169434916 then (spec_MergeEvents.l2 k x0 x1 x6 (x9 ++ [(⟨(rd_T40 x0 x10).f0, (rd_T40 x0 x10).f1, (rd_T40 x0 x10).f2, (rd_T40 x0 x10).f3, (rd_T40 x0 x10).f4, (rd_T40 x0 x10).f5⟩ : S40)]) (wrap64 (x10 + 1)) (wrap64 (x11 + 1))) else (none)) else ((spec_l12Ahead.f ((rd_T40 x0 x10).f0) ((rd_T40 x0 x10).f1) ((rd_T40 x0 x10).f2) ((rd_T40 x0 x10).f3) ((rd_T40 x0 x10).f4) ((rd_T40 x0 x10).f5) ((rd_T40 x1 x11).f0) ((rd_T40 x1 x11).f1) ((rd_T40 x1 x11).f2) ((rd_T40 x1 x11).f3) ((rd_T40 x1 x11).f4) ((rd_T40 x1 x11).f5)).bind fun t173 => (if t173 = true then (if x9.length < 2513169434916 then (spec_MergeEvents.l2 k x0 x1 x6 (x9 ++ [(⟨(rd_T40 x0 x10).f0, (rd_T40 x0 x10).f1, (rd_T40 x0 x10).f2, (rd_T40 x0 x10).f3, (rd_T40 x0 x10).f4, (rd_T40 x0 x10).f5⟩ : S40)]) (wrap64 (x10 + 1)) x11) else (none)) else (if x9.length < 2513169434916 then (spec_MergeEvents.l2 k x0 x1 x6 (x9 ++ [(⟨(rd_T40 x1 x11).f0, (rd_T40 x1 x11).f1, (rd_T40 x1 x11).f2, (rd_T40 x1 x11).f3, (rd_T40 x1 x11).f4, (rd_T40 x1 x11).f5⟩ : S40)]) x10 (wrap64 (x11 + 1))) else (none))))) else (none)) else (none)) else (none)) else (none)))) else (if (x9.length : Int) > 120 then (some (x6, 9)) else ((spec_EventsOK.f k x9).bind fun t182 => (if t182 = true then (some (x9, 0)) else (some (x6, 12)))))
end
def spec_MergeEvents.f (k : Nat) (l0 : List (S40)) (l1 : List (S40)) : Option ((List (S40)) × Int) := (some (([] : List (S40)) : List (S40))).bind fun y143 => (if (l0.length : Int) > 4096 then (spec_MergeEvents.j0 k l0 l1 y143 true) else (spec_MergeEvents.j0 k l0 l1 y143 (decide ((l1.length : Int) > 4096))))
theorem spec_MergeEvents.mono_l : ∀ k, (∀ y0 y1 y2 y3, LeO (spec_MergeEvents.j0 k y0 y1 y2 y3) (spec_MergeEvents.j0 (k + 1) y0 y1 y2 y3)) ∧ (∀ y0 y1 y2 y3, LeO (spec_MergeEvents.j1 k y0 y1 y2 y3) (spec_MergeEvents.j1 (k + 1) y0 y1 y2 y3)) ∧ (∀ y0 y1 y2 y3, LeO (spec_MergeEvents.l0 k y0 y1 y2 y3) (spec_MergeEvents.l0 (k + 1) y0 y1 y2 y3)) ∧ (∀ y0 y1 y2 y3 y4, LeO (spec_MergeEvents.l1 k y0 y1 y2 y3 y4) (spec_MergeEvents.l1 (k + 1) y0 y1 y2 y3 y4)) ∧ (∀ y0 y1 y2 y3 y4 y5, LeO (spec_MergeEvents.l2 k y0 y1 y2 y3 y4 y5) (spec_MergeEvents.l2 (k + 1) y0 y1 y2 y3 y4 y5)) ∧ (∀ y0 y1 y2 y3 y4 y5 y6, LeO (spec_MergeEvents.j5 k y0 y1 y2 y3 y4 y5 y6) (spec_MergeEvents.j5 (k + 1) y0 y1 y2 y3 y4 y5 y6))
 | 0 => ⟨fun _ _ _ _ r h => by simp [spec_MergeEvents.j0] at h, fun _ _ _ _ r h => by simp [spec_MergeEvents.j1] at h, fun _ _ _ _ r h => by simp [spec_MergeEvents.l0] at h, fun _ _ _ _ _ r h => by simp [spec_MergeEvents.l1] at h, fun _ _ _ _ _ _ r h => by simp [spec_MergeEvents.l2] at h, fun _ _ _ _ _ _ _ r h => by simp [spec_MergeEvents.j5] at h⟩
 | k + 1 => by
  obtain ⟨ih0, ih1, ih2, ih3, ih4, ih5⟩ := spec_MergeEvents.mono_l k
  refine ⟨?_, ?_, ?_, ?_, ?_, ?_⟩
  ·intro y0 y1 y2 y3
   unfold spec_MergeEvents.j0
   repeat' first
   | (with_reducible exact ih0 _ _ _ _)
   | (with_reducible exact ih1 _ _ _ _)
   | (with_reducible exact ih2 _ _ _ _)
   | (with_reducible exact ih3 _ _ _ _ _)
   | (with_reducible exact ih4 _ _ _ _ _ _)
   | (with_reducible exact ih5 _ _ _ _ _ _ _)
   | (with_reducible exact spec_EventsOK.mono _ _)
   | (with_reducible exact LeO.refl _)
   | (with_reducible exact LeO.none _)
   | (with_reducible refine LeO.ite ?_ ?_)
   | (with_reducible refine LeO.bind ?_ (fun _ => ?_))
   | exact ih0 _ _ _ _
   | exact ih1 _ _ _ _
   | exact ih2 _ _ _ _
   | exact ih3 _ _ _ _ _
   | exact ih4 _ _ _ _ _ _
   | exact ih5 _ _ _ _ _ _ _
   | exact spec_EventsOK.mono _ _
   | exact LeO.none _
   | refine LeO.ite ?_ ?_
   | refine LeO.bind ?_ (fun _ => ?_)
  ·intro y0 y1 y2 y3
   unfold spec_MergeEvents.j1
   repeat' first
   | (with_reducible exact ih0 _ _ _ _)
   | (with_reducible exact ih1 _ _ _ _)
   | (with_reducible exact ih2 _ _ _ _)
   | (with_reducible exact ih3 _ _ _ _ _)
   | (with_reducible exact ih4 _ _ _ _ _ _)
   | (with_reducible exact ih5 _ _ _ _ _ _ _)
   | (with_reducible exact spec_EventsOK.mono _ _)
   | (with_reducible exact LeO.refl _)
   | (with_reducible exact LeO.none _)
   | (with_reducible refine LeO.ite ?_ ?_)
   | (with_reducible refine LeO.bind ?_ (fun _ => ?_))
   | exact ih0 _ _ _ _
   | exact ih1 _ _ _ _
   | exact ih2 _ _ _ _
   | exact ih3 _ _ _ _ _
   | exact ih4 _ _ _ _ _ _
   | exact ih5 _ _ _ _ _ _ _
   | exact spec_EventsOK.mono _ _
   | exact LeO.none _
   | refine LeO.ite ?_ ?_
   | refine LeO.bind ?_ (fun _ => ?_)
  ·intro y0 y1 y2 y3
   unfold spec_MergeEvents.l0
   repeat' first
   | (with_reducible exact ih0 _ _ _ _)
   | (with_reducible exact ih1 _ _ _ _)
   | (with_reducible exact ih2 _ _ _ _)
   | (with_reducible exact ih3 _ _ _ _ _)
   | (with_reducible exact ih4 _ _ _ _ _ _)
   | (with_reducible exact ih5 _ _ _ _ _ _ _)
   | (with_reducible exact spec_EventsOK.mono _ _)
   | (with_reducible exact LeO.refl _)
   | (with_reducible exact LeO.none _)
   | (with_reducible refine LeO.ite ?_ ?_)
   | (with_reducible refine LeO.bind ?_ (fun _ => ?_))
   | exact ih0 _ _ _ _
   | exact ih1 _ _ _ _
   | exact ih2 _ _ _ _
   | exact ih3 _ _ _ _ _
   | exact ih4 _ _ _ _ _ _
   | exact ih5 _ _ _ _ _ _ _
   | exact spec_EventsOK.mono _ _
   | exact LeO.none _
   | refine LeO.ite ?_ ?_
   | refine LeO.bind ?_ (fun _ => ?_)
  ·intro y0 y1 y2 y3 y4
   unfold spec_MergeEvents.l1
   repeat' first
   | (with_reducible exact ih0 _ _ _ _)
   | (with_reducible exact ih1 _ _ _ _)
   | (with_reducible exact ih2 _ _ _ _)
   | (with_reducible exact ih3 _ _ _ _ _)
   | (with_reducible exact ih4 _ _ _ _ _ _)
   | (with_reducible exact ih5 _ _ _ _ _ _ _)
   | (with_reducible exact spec_EventsOK.mono _ _)
   | (with_reducible exact LeO.refl _)
   | (with_reducible exact LeO.none _)
   | (with_reducible refine LeO.ite ?_ ?_)
   | (with_reducible refine LeO.bind ?_ (fun _ => ?_))
   | exact ih0 _ _ _ _
   | exact ih1 _ _ _ _
   | exact ih2 _ _ _ _
   | exact ih3 _ _ _ _ _
   | exact ih4 _ _ _ _ _ _
   | exact ih5 _ _ _ _ _ _ _
   | exact spec_EventsOK.mono _ _
   | exact LeO.none _
   | refine LeO.ite ?_ ?_
   | refine LeO.bind ?_ (fun _ => ?_)
  ·intro y0 y1 y2 y3 y4 y5
   unfold spec_MergeEvents.l2
   repeat' first
   | (with_reducible exact ih0 _ _ _ _)
   | (with_reducible exact ih1 _ _ _ _)
   | (with_reducible exact ih2 _ _ _ _)
   | (with_reducible exact ih3 _ _ _ _ _)
   | (with_reducible exact ih4 _ _ _ _ _ _)
   | (with_reducible exact ih5 _ _ _ _ _ _ _)
   | (with_reducible exact spec_EventsOK.mono _ _)
   | (with_reducible exact LeO.refl _)
   | (with_reducible exact LeO.none _)
   | (with_reducible refine LeO.ite ?_ ?_)
   | (with_reducible refine LeO.bind ?_ (fun _ => ?_))
   | exact ih0 _ _ _ _
   | exact ih1 _ _ _ _
   | exact ih2 _ _ _ _
   | exact ih3 _ _ _ _ _
   | exact ih4 _ _ _ _ _ _
   | exact ih5 _ _ _ _ _ _ _
   | exact spec_EventsOK.mono _ _
   | exact LeO.none _
   | refine LeO.ite ?_ ?_
   | refine LeO.bind ?_ (fun _ => ?_)
  ·intro y0 y1 y2 y3 y4 y5 y6
   unfold spec_MergeEvents.j5
   repeat' first
   | (with_reducible exact ih0 _ _ _ _)
   | (with_reducible exact ih1 _ _ _ _)
   | (with_reducible exact ih2 _ _ _ _)
   | (with_reducible exact ih3 _ _ _ _ _)
   | (with_reducible exact ih4 _ _ _ _ _ _)
   | (with_reducible exact ih5 _ _ _ _ _ _ _)
   | (with_reducible exact spec_EventsOK.mono _ _)
   | (with_reducible exact LeO.refl _)
   | (with_reducible exact LeO.none _)
   | (with_reducible refine LeO.ite ?_ ?_)
   | (with_reducible refine LeO.bind ?_ (fun _ => ?_))
   | exact ih0 _ _ _ _
   | exact ih1 _ _ _ _
   | exact ih2 _ _ _ _
   | exact ih3 _ _ _ _ _
   | exact ih4 _ _ _ _ _ _
   | exact ih5 _ _ _ _ _ _ _
   | exact spec_EventsOK.mono _ _
   | exact LeO.none _
   | refine LeO.ite ?_ ?_
   | refine LeO.bind ?_ (fun _ => ?_)
theorem spec_MergeEvents.mono : ∀ a0 a1 k, LeO (spec_MergeEvents.f k a0 a1) (spec_MergeEvents.f (k + 1) a0 a1) := by
 intro a0 a1 k
 obtain ⟨ih0, ih1, ih2, ih3, ih4, ih5⟩ := spec_MergeEvents.mono_l k
 unfold spec_MergeEvents.f
 repeat' first
   | (with_reducible exact ih0 _ _ _ _)
   | (with_reducible exact ih1 _ _ _ _)
   | (with_reducible exact ih2 _ _ _ _)
   | (with_reducible exact ih3 _ _ _ _ _)
   | (with_reducible exact ih4 _ _ _ _ _ _)
   | (with_reducible exact ih5 _ _ _ _ _ _ _)
   | (with_reducible exact spec_EventsOK.mono _ _)
   | (with_reducible exact LeO.refl _)
   | (with_reducible exact LeO.none _)
   | (with_reducible refine LeO.ite ?_ ?_)
   | (with_reducible refine LeO.bind ?_ (fun _ => ?_))
   | exact ih0 _ _ _ _
   | exact ih1 _ _ _ _
   | exact ih2 _ _ _ _
   | exact ih3 _ _ _ _ _
   | exact ih4 _ _ _ _ _ _
   | exact ih5 _ _ _ _ _ _ _
   | exact spec_EventsOK.mono _ _
   | exact LeO.none _
   | refine LeO.ite ?_ ?_
   | refine LeO.bind ?_ (fun _ => ?_)
def spec_MergeEvents.T12 : Bool × List (List Nat × List Nat) := (true, [([], []), ([], []), ([0, 1], [0, 1]), ([2], [2]), ([3], [3]), ([], []), ([], []), ([5, 6], [5, 6]), ([7], [7]), ([8], [8]), ([4, 9], [4, 9]), ([10], [10]), ([11], [11]), ([11], [11]), ([12, 13, 11], [11, 12, 13]), ([14, 11], [11, 14]), ([15, 11], [11, 15]), ([11], [11]), ([11], [11]), ([17, 18, 11], [11, 17, 18]), ([19, 11], [11, 19]), ([20, 11], [11, 20]), ([16, 21, 11], [11, 16, 21]), ([11, 22], [11, 22]), ([23, 11], [23]), ([24], [24]), ([24], [24]), ([25, 26, 24], [24, 25, 26]), ([27, 24], [24, 27]), ([24], [24]), ([24], [24]), ([29, 30, 24], [24, 29, 30]), ([31, 24], [24, 31]), ([28, 32, 24], [24, 28, 32]), ([24, 33], [24, 33])])
def spec_MergeEvents.B12 : List Nat := [0, 0, 3, 7, 15, 0, 0, 96, 224, 480, 1023, 2047, 4095, 4095, 16383, 32767, 65535, 4095, 4095, 397311, 921599, 1970175, 4194303, 8388607, 16777215, 33554431, 33554431, 134217727, 268435455, 33554431, 33554431, 1644167167, 3791650815, 8589934591, 17179869183]
theorem spec_MergeEvents.tab12 : rtab .any (opsOf Try.f13 12) = spec_MergeEvents.T12 := by kernel_rfl
theorem spec_MergeEvents.bits12 : waitsOk spec_MergeEvents.T12.2 spec_MergeEvents.B12 = true := by kernel_rfl
def spec_MergeEvents.T26 : Bool × List (List Nat × List Nat) := (true, [([], []), ([], []), ([0, 1], [0, 1]), ([2], [2]), ([], []), ([], []), ([4, 5], [4, 5]), ([6], [6]), ([3, 7], [3, 7]), ([8], [8])])
def spec_MergeEvents.B26 : List Nat := [0, 0, 3, 7, 0, 0, 48, 112, 255, 511]
theorem spec_MergeEvents.tab26 : rtab .any (opsOf Try.f13 26) = spec_MergeEvents.T26 := by kernel_rfl
theorem spec_MergeEvents.bits26 : waitsOk spec_MergeEvents.T26.2 spec_MergeEvents.B26 = true := by kernel_rfl
def spec_MergeEvents.T30 : Bool × List (List Nat × List Nat) := (true, [([], []), ([], []), ([0, 1], [0, 1]), ([2], [2]), ([], []), ([], []), ([4, 5], [4, 5]), ([6], [6]), ([3, 7], [3, 7]), ([8, 8], [8])])
def spec_MergeEvents.B30 : List Nat := [0, 0, 3, 7, 0, 0, 48, 112, 255, 511]
theorem spec_MergeEvents.tab30 : rtab .any (opsOf Try.f13 30) = spec_MergeEvents.T30 := by kernel_rfl
theorem spec_MergeEvents.bits30 : waitsOk spec_MergeEvents.T30.2 spec_MergeEvents.B30 = true := by kernel_rfl
set_option maxHeartbeats 8000000 in
set_option maxRecDepth 100000 in
theorem spec_MergeEvents.calls (k : Nat) (A0 : Option Addr) (c0 : Nat) (l0 : List (S40)) (A1 : Option Addr) (c1 : Nat) (l1 : List (S40)) (r1 : List (S40)) (r2 : Int) (w : World) (hr0 : Kd.C k40 w A0 l0.length l0) (hc0 : l0.length ≤ c0) (hr1 : Kd.C k40 w A1 l1.length l1) (hc1 : l1.length ≤ c1) (h : spec_MergeEvents.f k l0 l1 = some (r1, r2)) :
  Calls Try.prog 13 #[.slice A0 l0.length c0, .slice A1 l1.length c1] w fun e w' => ∃ v0_ : Value, e = .returned (.tuple #[v0_, .int .i64 r2]) ∧ Kd.R k40 40 w' w.heap.size (fun _ => True) v0_ r1 ∧ Below w.heap.size w w' := by
 have hu40 := Try.underlying40
 have HR0 := Aside0.mk hr0
 have HC0 := Aside0.mk hc0
 clear hr0 hc0
 have HR1 := Aside0.mk hr1
 have HC1 := Aside0.mk hc1
 clear hr1 hc1
 have HB := Aside0.mk (Below.refl w.heap.size w)
 have H : ((some (([] : List (S40)) : List (S40))).bind fun y143 => (if (l0.length : Int) > 4096 then (spec_MergeEvents.j0 k l0 l1 y143 true) else (spec_MergeEvents.j0 k l0 l1 y143 (decide ((l1.length : Int) > 4096))))) = some (r1, r2) := h
 clear h
 obtain ⟨y143, hy143⟩ : ∃ y_ : List (S40), y_ = (([] : List (S40))) := ⟨_, rfl⟩
 replace H : (if (l0.length : Int) > 4096 then (spec_MergeEvents.j0 k l0 l1 y143 true) else (spec_MergeEvents.j0 k l0 l1 y143 (decide ((l1.length : Int) > 4096)))) = some (r1, r2) := by first | (rw [hy143]; with_reducible exact H) | (have H2_ := (Option.bind_some _ _).symm.trans H; rw [hy143]; with_reducible exact H2_) | (have H2_ := (Option.bind_some _ _).symm.trans H; with_reducible exact H2_) | with_reducible exact H | (rw [hy143]; exact H) | exact H
 have Ny143 := Aside0.mk hy143
 clear hy143
 have HC3 := Aside0.mk H
 clear H
 go_enter Try.func13, Try.ntmps13
 go_upto_region 2 with (first | ((with_reducible refine gate_dst (N := 12) rfl ?_); (try (refine gate_guard (by rfl) ?_; dsimp only)); refine Kd.R_lit k40 _ 40 ?hg (N := 12) ?hd (xs := ([] : List (S40))) (inner := []) (ok := fun _ => True) (okp := fun _ => True) ?hr ?hp (fun _ hk => hk) trivial (Below.refl _ _) (Nat.le_refl _) (by simp) ?_; (case hd => rfl); (case hg => rfl); (case hr => first | (go_simp; done) | (go_simp; rfl)); (case hp => exact (Reps.none _ _)); intro v144 w4 ho5 hb hg_ hnew_; clear hg_ hnew_; (first | rw [← Ny143.out] at ho5 | (simp only [Int.reduceToNat] at ho5; rw [← Ny143.out] at ho5)); have n0_ := Aside0.mk (Kd.R_lower ho5 (below_size bl_)); have n1_ := Aside0.mk (below_step bl_ hb); clear HB; have HO145 := n0_; have HB := n1_; clear n0_ n1_; clear hb ho5))
 (try simp only [Act.put, List.setIfInBounds_toArray, List.set_cons_zero, List.set_cons_succ])
 go_cut [20] (fun v20 wc => ∃ (kq : Nat) (x20_2 : Bool), v20 = .bool x20_2 ∧ Aside0 (spec_MergeEvents.j0 kq l0 l1 y143 x20_2 = some (r1, r2)) ∧ Aside0 (kq ≤ k) ∧ Aside0 (Kd.R k40 40 wc w.heap.size (fun _ => True) v144 y143) ∧ Aside0 (Below w.heap.size w wc))
 case first =>
  have H := HC3.out
  clear HC3
  by_cases c6 : (l0.length : Int) > 4096
  ·rw [if_pos c6] at H
   have c6b0 : decide (4096 < (l0.length : Int)) = true := decide_eq_true c6
   have c6b1 : decide (4096 < l0.length) = true := decide_eq_true (by omega)
   clear c6
   (first | rw [c6b0] | (simp only [i64_w, i32_w]; rw [c6b0]) | skip)
   have H' := Aside0.mk H
   clear H
   go_wp2
   go_meet
   case rel => exact ⟨_, (true), (by first | rfl | (simp; done) | (simp [*]; done)), H', ⟨by first | omega | exact Nat.le_refl _⟩, ⟨by (with_reducible repeat (first | apply Kd.R_alloc | apply Kd.R_drewN | apply Kd.R_drew)); exact HO145.out⟩, ⟨by repeat (first | (with_reducible first | exact HB.out | apply below_alloc | apply pw_below_drewN | apply below_drew1) | exact HB.out)⟩⟩
  rw [if_neg c6] at H
  have c6b0 : decide (4096 < (l0.length : Int)) = false := decide_eq_false c6
  have c6b1 : decide (4096 < l0.length) = false := decide_eq_false (by omega)
  clear c6
  (first | rw [c6b0] | (simp only [i64_w, i32_w]; rw [c6b0]) | skip)
  have H' := Aside0.mk H
  clear H
  go_wp2
  go_meet
  case rel => exact ⟨_, (decide ((l1.length : Int) > 4096)), (by first | rfl | (simp; done) | (simp [*]; done)), H', ⟨by first | omega | exact Nat.le_refl _⟩, ⟨by (with_reducible repeat (first | apply Kd.R_alloc | apply Kd.R_drewN | apply Kd.R_drew)); exact HO145.out⟩, ⟨by repeat (first | (with_reducible first | exact HB.out | apply below_alloc | apply pw_below_drewN | apply below_drew1) | exact HB.out)⟩⟩
 case rest =>
  clear HC3
  (try clear c1); (try clear p2); (try clear c6); (try clear c6b0); (try clear c6b1)
  obtain ⟨kq, x20_2, rfl, HA, HJ2, HO_6, HB⟩ := hcut
  cases kq with
  | zero => exact absurd HA.out (by simp [spec_MergeEvents.j0])
  | succ kj2 =>
   have H := HA.out
   clear HA
   simp only [spec_MergeEvents.j0] at H
   by_cases c7 : x20_2 = true
   ·subst c7
    have H1 : (some (y143, 2)) = some (r1, r2) := by rw [if_pos rfl] at H; exact H
    clear H
    have H := H1
    clear H1
    simp only [Option.some.injEq, Prod.mk.injEq] at H
    obtain ⟨rfl, rfl⟩ := H
    go_wp2
    go_ret2
    exact ⟨_, by first | rfl | (simp [errW_none, errW_some] <;> rfl) | (simp [*, errW_none, errW_some] <;> rfl), by (with_reducible repeat (first | apply Kd.R_alloc | apply Kd.R_drewN | apply Kd.R_drew)); exact HO_6.out, by repeat (first | (with_reducible first | exact HB.out | apply below_alloc | apply pw_below_drewN | apply below_drew1) | exact HB.out)⟩
   replace c7 := Bool.eq_false_iff.mpr c7
   subst c7
   have H1 : ((spec_EventsOK.f kj2 l0).bind fun t146 => (if t146 = true then ((spec_EventsOK.f kj2 l1).bind fun t147 => (spec_MergeEvents.j1 kj2 l0 l1 y143 (!t147))) else (spec_MergeEvents.j1 kj2 l0 l1 y143 true))) = some (r1, r2) := by rw [if_neg (show ¬ (false = true) by decide)] at H; exact H
   clear H
   have H := H1
   clear H1
   have HC8 := Aside0.mk H
   clear H
   go_upto_region 4 with (fail)
   go_cut [29] (fun v29 wc => ∃ (kq : Nat) (x29_7 : Bool), v29 = .bool x29_7 ∧ Aside0 (spec_MergeEvents.j1 kq l0 l1 y143 x29_7 = some (r1, r2)) ∧ Aside0 (kq ≤ kj2) ∧ Aside0 (Kd.R k40 40 wc w.heap.size (fun _ => True) v144 y143) ∧ Aside0 (Below w.heap.size w wc))
   case first =>
    have H := HC8.out
    clear HC8
    replace H := Option.bind_eq_some_iff.mp H
    obtain ⟨t146, A90, H⟩ := H
    replace H : (if t146 = true then ((spec_EventsOK.f kj2 l1).bind fun t147 => (spec_MergeEvents.j1 kj2 l0 l1 y143 (!t147))) else (spec_MergeEvents.j1 kj2 l0 l1 y143 true)) = some (r1, r2) := H
    have A9 := Aside0.mk A90
    clear A90
    by_cases c10 : t146 = true
    rotate_left
    ·replace c10 := Bool.eq_false_iff.mpr c10
     subst c10
     have H1 : (spec_MergeEvents.j1 kj2 l0 l1 y143 true) = some (r1, r2) := by rw [if_neg (show ¬ (false = true) by decide)] at H; exact H
     clear H
     have H := H1
     clear H1
     have H' := Aside0.mk H
     clear H
     go_wp2_with (first | ((with_reducible refine gate_callee (f := 7) rfl ?_); refine goesL_ (some 23) rfl rfl Try.func7 (by kernel_rfl) rfl #[.slice A0 l0.length c0] rfl (by (try simp only [List.map_toArray, List.map_cons, List.map_nil]); first | done | rfl | (simp only [List.length_drop, List.length_take]; rfl)) ?_; (with_reducible refine (spec_EventsOK.calls kj2 _ _ l0 false _ ?side1 ?side2 A9.out).mono ?_); (case side1 => repeat (first | exact (Kd.C_below HR0.out HB.out) | (with_reducible refine Kd.C_alloc ?_ _) | (with_reducible refine Kd.C_drewN ?_ _) | (with_reducible refine Kd.C_drew ?_))); (case side2 => exact HC0.out); rintro e w14 ⟨rfl, hb⟩; refine ⟨_, rfl, ?_⟩; have n0_ := Aside0.mk (Kd.R_below (by (with_reducible repeat (first | apply Kd.R_alloc | apply Kd.R_drewN | apply Kd.R_drew)); exact HO_6.out) hb); have n1_ := Aside0.mk (below_step bl_ hb); clear HO_6; clear HB; have HO_6 := n0_; have HB := n1_; clear n0_ n1_; (try clear hb); (try clear hb2); (try clear hk); (try clear hi)))
     go_meet
     case rel => exact ⟨_, (true), (by first | rfl | (simp; done) | (simp [*]; done)), H', ⟨by have := HJ2.out; first | omega | exact Nat.le_refl _⟩, ⟨by (with_reducible repeat (first | apply Kd.R_alloc | apply Kd.R_drewN | apply Kd.R_drew)); exact HO_6.out⟩, ⟨by repeat (first | (with_reducible first | exact HB.out | apply below_alloc | apply pw_below_drewN | apply below_drew1) | exact HB.out)⟩⟩
    subst c10
    have H1 : ((spec_EventsOK.f kj2 l1).bind fun t147 => (spec_MergeEvents.j1 kj2 l0 l1 y143 (!t147))) = some (r1, r2) := by rw [if_pos rfl] at H; exact H
    clear H
    have H := H1
    clear H1
    replace H := Option.bind_eq_some_iff.mp H
    obtain ⟨t147, A110, H⟩ := H
    replace H : (spec_MergeEvents.j1 kj2 l0 l1 y143 (!t147)) = some (r1, r2) := H
    have A11 := Aside0.mk A110
    clear A110
    have H' := Aside0.mk H
    clear H
    go_wp2_with (first | ((with_reducible refine gate_callee (f := 7) rfl ?_); refine goesL_ (some 23) rfl rfl Try.func7 (by kernel_rfl) rfl #[.slice A0 l0.length c0] rfl (by (try simp only [List.map_toArray, List.map_cons, List.map_nil]); first | done | rfl | (simp only [List.length_drop, List.length_take]; rfl)) ?_; (with_reducible refine (spec_EventsOK.calls kj2 _ _ l0 true _ ?side1 ?side2 A9.out).mono ?_); (case side1 => repeat (first | exact (Kd.C_below HR0.out HB.out) | (with_reducible refine Kd.C_alloc ?_ _) | (with_reducible refine Kd.C_drewN ?_ _) | (with_reducible refine Kd.C_drew ?_))); (case side2 => exact HC0.out); rintro e w12 ⟨rfl, hb⟩; refine ⟨_, rfl, ?_⟩; have n0_ := Aside0.mk (Kd.R_below (by (with_reducible repeat (first | apply Kd.R_alloc | apply Kd.R_drewN | apply Kd.R_drew)); exact HO_6.out) hb); have n1_ := Aside0.mk (below_step bl_ hb); clear HO_6; clear HB; have HO_6 := n0_; have HB := n1_; clear n0_ n1_; (try clear hb); (try clear hb2); (try clear hk); (try clear hi)) | (go_at_call 7; (with_reducible refine (spec_EventsOK.calls kj2 _ _ l1 t147 _ ?side1 ?side2 A11.out).mono ?_); (case side1 => repeat (first | exact (Kd.C_below HR1.out HB.out) | (with_reducible refine Kd.C_alloc ?_ _) | (with_reducible refine Kd.C_drewN ?_ _) | (with_reducible refine Kd.C_drew ?_))); (case side2 => exact HC1.out); rintro e w13 ⟨rfl, hb⟩; have n0_ := Aside0.mk (Kd.R_below (by (with_reducible repeat (first | apply Kd.R_alloc | apply Kd.R_drewN | apply Kd.R_drew)); exact HO_6.out) hb); have n1_ := Aside0.mk (below_step bl_ hb); clear HO_6; clear HB; have HO_6 := n0_; have HB := n1_; clear n0_ n1_; (try clear hb); (try clear hb2); (try clear hk); (try clear hi)))
    go_meet
    case rel => exact ⟨_, (!t147), (by first | rfl | (simp; done) | (simp [*]; done)), H', ⟨by have := HJ2.out; first | omega | exact Nat.le_refl _⟩, ⟨by (with_reducible repeat (first | apply Kd.R_alloc | apply Kd.R_drewN | apply Kd.R_drew)); exact HO_6.out⟩, ⟨by repeat (first | (with_reducible first | exact HB.out | apply below_alloc | apply pw_below_drewN | apply below_drew1) | exact HB.out)⟩⟩
   case rest =>
    clear HC8
    (try clear c7); (try clear c10); (try clear c13)
    obtain ⟨kq, x29_7, rfl, HA, HJ7, HO_6, HB⟩ := hcut
    cases kq with
    | zero => exact absurd HA.out (by simp [spec_MergeEvents.j1])
    | succ kj7 =>
     have H := HA.out
     clear HA
     simp only [spec_MergeEvents.j1] at H
     by_cases c15 : x29_7 = true
     ·subst c15
      have H1 : (some (y143, 1)) = some (r1, r2) := by rw [if_pos rfl] at H; exact H
      clear H
      have H := H1
      clear H1
      simp only [Option.some.injEq, Prod.mk.injEq] at H
      obtain ⟨rfl, rfl⟩ := H
      go_wp2
      go_ret2
      exact ⟨_, by first | rfl | (simp [errW_none, errW_some] <;> rfl) | (simp [*, errW_none, errW_some] <;> rfl), by (with_reducible repeat (first | apply Kd.R_alloc | apply Kd.R_drewN | apply Kd.R_drew)); exact HO_6.out, by repeat (first | (with_reducible first | exact HB.out | apply below_alloc | apply pw_below_drewN | apply below_drew1) | exact HB.out)⟩
     replace c15 := Bool.eq_false_iff.mpr c15
     subst c15
     have H1 : (spec_MergeEvents.l0 kj7 l0 l1 y143 0) = some (r1, r2) := by rw [if_neg (show ¬ (false = true) by decide)] at H; exact H
     clear H
     have H := H1
     clear H1
     have H' := Aside0.mk H
     clear H
     go_wp2
     go_loopg [7] kj7 (fun kq v7 w' => ∃ (x7_3 : Int), v7 = .int .i64 x7_3 ∧ Aside0 (spec_MergeEvents.l0 kq l0 l1 y143 x7_3 = some (r1, r2)) ∧ Aside0 (kq ≤ kj7) ∧ Aside0 (Kd.R k40 40 w' w.heap.size (fun _ => True) v144 y143) ∧ Aside0 (Below w.heap.size w w'))
     case atStart => exact ⟨(0), (by first | rfl | (simp; done) | (simp [*]; done)), H', ⟨Nat.le_refl _⟩, ⟨by (with_reducible repeat (first | apply Kd.R_alloc | apply Kd.R_drewN | apply Kd.R_drew)); exact HO_6.out⟩, ⟨by repeat (first | (with_reducible first | exact HB.out | apply below_alloc | apply pw_below_drewN | apply below_drew1) | exact HB.out)⟩⟩
     case round =>
      clear H'
      try clear c15
      obtain ⟨x7_3, rfl, HA, HK3, HO_6, HB⟩ := hrel
      cases gk with
      | zero => exact absurd HA.out (by simp [spec_MergeEvents.l0])
      | succ k3 =>
       have H := HA.out
       clear HA
       simp only [spec_MergeEvents.l0] at H
       by_cases c16 : x7_3 < (l0.length : Int)
       ·rw [if_pos c16] at H
        have c16b0 : decide (x7_3 < (l0.length : Int)) = true := decide_eq_true c16
        clear c16
        have H' := Aside0.mk H
        clear H
        go_wp2
        go_loopg [8] k3 (fun kq v8 w' => ∃ (x8_4 : Int), v8 = .int .i64 x8_4 ∧ Aside0 (spec_MergeEvents.l1 kq l0 l1 y143 x7_3 x8_4 = some (r1, r2)) ∧ Aside0 (kq ≤ k3) ∧ Aside0 (Kd.R k40 40 w' w.heap.size (fun _ => True) v144 y143) ∧ Aside0 (Below w.heap.size w w'))
        case atStart => exact ⟨(0), (by first | rfl | (simp; done) | (simp [*]; done)), H', ⟨Nat.le_refl _⟩, ⟨by (with_reducible repeat (first | apply Kd.R_alloc | apply Kd.R_drewN | apply Kd.R_drew)); exact HO_6.out⟩, ⟨by repeat (first | (with_reducible first | exact HB.out | apply below_alloc | apply pw_below_drewN | apply below_drew1) | exact HB.out)⟩⟩
        case round =>
         clear H'
         (try clear c16); (try clear c16b0)
         obtain ⟨x8_4, rfl, HA, HK4, HO_6, HB⟩ := hrel
         cases gk with
         | zero => exact absurd HA.out (by simp [spec_MergeEvents.l1])
         | succ k4 =>
          have H := HA.out
          clear HA
          simp only [spec_MergeEvents.l1] at H
          by_cases c17 : x8_4 < (l1.length : Int)
          rotate_left
          ·rw [if_neg c17] at H
           have c17b0 : decide (x8_4 < (l1.length : Int)) = false := decide_eq_false c17
           clear c17
           have H' := Aside0.mk H
           clear H
           go_wp2
           go_roundg k4
           case measure => have := HJ2.out; have := HJ7.out; have := HK3.out; have := HK4.out; omega
           case rel => exact ⟨(wrap64 (x7_3 + 1)), (by first | rfl | (simp; done) | (simp [*]; done)), H', ⟨by have := HJ2.out; have := HJ7.out; have := HK3.out; have := HK4.out; omega⟩, ⟨by (with_reducible repeat (first | apply Kd.R_alloc | apply Kd.R_drewN | apply Kd.R_drew)); exact HO_6.out⟩, ⟨by repeat (first | (with_reducible first | exact HB.out | apply below_alloc | apply pw_below_drewN | apply below_drew1) | exact HB.out)⟩⟩
          rw [if_pos c17] at H
          have c17b0 : decide (x8_4 < (l1.length : Int)) = true := decide_eq_true c17
          clear c17
          by_cases c18 : 0 ≤ x7_3
          rotate_left
          ·rw [if_neg c18] at H
           exact absurd H (by simp)
          rw [if_pos c18] at H
          have c18b0 : decide (0 ≤ x7_3) = true := decide_eq_true c18
          clear c18
          by_cases c19 : x7_3 < (l0.length : Int)
          rotate_left
          ·rw [if_neg c19] at H
           exact absurd H (by simp)
          rw [if_pos c19] at H
          have c19b0 : decide (x7_3 < (l0.length : Int)) = true := decide_eq_true c19
          clear c19
          by_cases c20 : 0 ≤ x8_4
          rotate_left
          ·rw [if_neg c20] at H
           exact absurd H (by simp)
          rw [if_pos c20] at H
          have c20b0 : decide (0 ≤ x8_4) = true := decide_eq_true c20
          clear c20
          by_cases c21 : ((rd_T40 l0 x7_3).f0) = ((rd_T40 l1 x8_4).f0)
          rotate_left
          ·rw [if_neg c21] at H
           have c21b0 : (((rd_T40 l0 x7_3).f0) == ((rd_T40 l1 x8_4).f0)) = false := beq_eq_false_iff_ne.mpr c21
           have c21b1 : (((rd_T40 l0 x7_3).f0) != ((rd_T40 l1 x8_4).f0)) = true := bne_iff_ne.mpr c21
           have H' := Aside0.mk H
           clear H
           try go_wp2
           have n0_ := Aside0.mk (Kd.R_drew HO_6.out)
           have n1_ := Aside0.mk (below_drew1 HB.out)
           clear HO_6
           clear HB
           have HO_6 := n0_
           have HB := n1_
           clear n0_ n1_
           have p148 : 0 ≤ (x7_3 : Int) := od_
           have q148 : x7_3 < (l0.length : Int) := od_
           obtain ⟨ad148, e148, hx148_0, hx148_1, hx148_2, hx148_3, hx148_4, hx148_5⟩ := at_T40 HR0.out x7_3 p148 q148
           have hw148_5 := hx148_5
           have hw148_4 := hx148_4
           have hw148_3 := hx148_3
           have hw148_2 := hx148_2
           have hw148_1 := hx148_1
           have hw148_0 := hx148_0
           cases e148
           replace hx148_0 := (HB.out.cell (World.block_lt_of_cell? w _ hx148_0)).trans hx148_0
           replace hx148_1 := (HB.out.cell (World.block_lt_of_cell? w _ hx148_1)).trans hx148_1
           replace hx148_2 := (HB.out.cell (World.block_lt_of_cell? w _ hx148_2)).trans hx148_2
           replace hx148_3 := (HB.out.cell (World.block_lt_of_cell? w _ hx148_3)).trans hx148_3
           replace hx148_4 := (HB.out.cell (World.block_lt_of_cell? w _ hx148_4)).trans hx148_4
           replace hx148_5 := (HB.out.cell (World.block_lt_of_cell? w _ hx148_5)).trans hx148_5
           replace p148 := eq_true p148
           replace q148 := eq_true q148
           have p149 : 0 ≤ (x8_4 : Int) := od_
           have q149 : x8_4 < (l1.length : Int) := od_
           obtain ⟨ad149, e149, hx149_0, hx149_1, hx149_2, hx149_3, hx149_4, hx149_5⟩ := at_T40 HR1.out x8_4 p149 q149
           have hw149_5 := hx149_5
           have hw149_4 := hx149_4
           have hw149_3 := hx149_3
           have hw149_2 := hx149_2
           have hw149_1 := hx149_1
           have hw149_0 := hx149_0
           cases e149
           replace hx149_0 := (HB.out.cell (World.block_lt_of_cell? w _ hx149_0)).trans hx149_0
           replace hx149_1 := (HB.out.cell (World.block_lt_of_cell? w _ hx149_1)).trans hx149_1
           replace hx149_2 := (HB.out.cell (World.block_lt_of_cell? w _ hx149_2)).trans hx149_2
           replace hx149_3 := (HB.out.cell (World.block_lt_of_cell? w _ hx149_3)).trans hx149_3
           replace hx149_4 := (HB.out.cell (World.block_lt_of_cell? w _ hx149_4)).trans hx149_4
           replace hx149_5 := (HB.out.cell (World.block_lt_of_cell? w _ hx149_5)).trans hx149_5
           replace p149 := eq_true p149
           replace q149 := eq_true q149
           refine start_ (n := 35) (S := fun w' => w'.cell? (ad148.add ((x7_3).toNat * 6)) = some (.int .i64 ((rd_T40 l0 x7_3).f0)) ∧ w'.cell? ⟨(ad148.add ((x7_3).toNat * 6)).block, (ad148.add ((x7_3).toNat * 6)).off + 1, none⟩ = some (.int .i64 ((rd_T40 l0 x7_3).f1)) ∧ w'.cell? ⟨(ad148.add ((x7_3).toNat * 6)).block, (ad148.add ((x7_3).toNat * 6)).off + 2, none⟩ = some (.int .i64 ((rd_T40 l0 x7_3).f2)) ∧ w'.cell? ⟨(ad148.add ((x7_3).toNat * 6)).block, (ad148.add ((x7_3).toNat * 6)).off + 3, none⟩ = some (.int .i64 ((rd_T40 l0 x7_3).f3)) ∧ w'.cell? ⟨(ad148.add ((x7_3).toNat * 6)).block, (ad148.add ((x7_3).toNat * 6)).off + 4, none⟩ = some (.string ((rd_T40 l0 x7_3).f4)) ∧ w'.cell? ⟨(ad148.add ((x7_3).toNat * 6)).block, (ad148.add ((x7_3).toNat * 6)).off + 5, none⟩ = some (.int .i64 ((rd_T40 l0 x7_3).f5)) ∧ w'.cell? (ad149.add ((x8_4).toNat * 6)) = some (.int .i64 ((rd_T40 l1 x8_4).f0)) ∧ w'.cell? ⟨(ad149.add ((x8_4).toNat * 6)).block, (ad149.add ((x8_4).toNat * 6)).off + 1, none⟩ = some (.int .i64 ((rd_T40 l1 x8_4).f1)) ∧ w'.cell? ⟨(ad149.add ((x8_4).toNat * 6)).block, (ad149.add ((x8_4).toNat * 6)).off + 2, none⟩ = some (.int .i64 ((rd_T40 l1 x8_4).f2)) ∧ w'.cell? ⟨(ad149.add ((x8_4).toNat * 6)).block, (ad149.add ((x8_4).toNat * 6)).off + 3, none⟩ = some (.int .i64 ((rd_T40 l1 x8_4).f3)) ∧ w'.cell? ⟨(ad149.add ((x8_4).toNat * 6)).block, (ad149.add ((x8_4).toNat * 6)).off + 4, none⟩ = some (.string ((rd_T40 l1 x8_4).f4)) ∧ w'.cell? ⟨(ad149.add ((x8_4).toNat * 6)).block, (ad149.add ((x8_4).toNat * 6)).off + 5, none⟩ = some (.int .i64 ((rd_T40 l1 x8_4).f5))) (ds := []) (msk 0 35) (by kernel_rfl) rfl rfl ⟨((HB.out.cell (World.block_lt_of_cell? w _ hw148_0)).trans hw148_0), ((HB.out.cell (World.block_lt_of_cell? w _ hw148_1)).trans hw148_1), ((HB.out.cell (World.block_lt_of_cell? w _ hw148_2)).trans hw148_2), ((HB.out.cell (World.block_lt_of_cell? w _ hw148_3)).trans hw148_3), ((HB.out.cell (World.block_lt_of_cell? w _ hw148_4)).trans hw148_4), ((HB.out.cell (World.block_lt_of_cell? w _ hw148_5)).trans hw148_5), ((HB.out.cell (World.block_lt_of_cell? w _ hw149_0)).trans hw149_0), ((HB.out.cell (World.block_lt_of_cell? w _ hw149_1)).trans hw149_1), ((HB.out.cell (World.block_lt_of_cell? w _ hw149_2)).trans hw149_2), ((HB.out.cell (World.block_lt_of_cell? w _ hw149_3)).trans hw149_3), ((HB.out.cell (World.block_lt_of_cell? w _ hw149_4)).trans hw149_4), ((HB.out.cell (World.block_lt_of_cell? w _ hw149_5)).trans hw149_5)⟩ (fun hHeld => ?_); refine with_tabW spec_MergeEvents.tab12 spec_MergeEvents.bits12 (fun HT_ HW_ => ?_)
           generalize wr.drew = w27 at HO_6 HB hx148_0 hx148_1 hx148_2 hx148_3 hx148_4 hx148_5 hx149_0 hx149_1 hx149_2 hx149_3 hx149_4 hx149_5 hHeld ⊢
           refine pu_ 0 43 (msk 1 34) HT_.out ?_; refine pu_ 1 44 (msk 2 33) HT_.out ?_; refine pu_ 2 45 (msk 3 32) HT_.out ?_; refine pu_ 3 46 (msk 4 31) HT_.out ?_; refine pu_ 5 48 (mskl 35 4 [5]) HT_.out ?_; refine pu_ 6 49 (mskl 35 4 [5, 6]) HT_.out ?_; refine pu_ 7 50 (mskl 35 4 [5, 6, 7]) HT_.out ?_; refine pu_ 8 51 (mskl 35 4 [5, 6, 7, 8]) HT_.out ?_
           refine tk_ 4 47 (msk 9 26) HT_.out HW_.out hHeld ?_ (hy := by rintro w' ⟨s0, s1, s2, s3, s4, s5, s6, s7, s8, s9, s10, s11⟩; go_simp; with_reducible rfl)
           refine tk_ 9 52 (msk 10 25) HT_.out HW_.out hHeld ?_ (hy := by rintro w' ⟨s0, s1, s2, s3, s4, s5, s6, s7, s8, s9, s10, s11⟩; go_simp; with_reducible rfl)
           refine pu_ 10 53 (msk 11 24) HT_.out ?_; refine pu_ 11 54 (msk 12 23) HT_.out ?_; refine pn_ 12 55 (msk 13 22) HT_.out ?_; refine pn_ 13 56 (msk 14 21) HT_.out ?_; refine pn_ 14 57 (msk 15 20) HT_.out ?_; refine pn_ 15 58 (msk 16 19) HT_.out ?_; refine pn_ 16 59 (msk 17 18) HT_.out ?_; refine pn_ 17 60 (msk 18 17) HT_.out ?_; refine pn_ 18 61 (msk 19 16) HT_.out ?_; refine pn_ 19 62 (msk 20 15) HT_.out ?_; refine pn_ 20 63 (msk 21 14) HT_.out ?_; refine pn_ 21 64 (msk 22 13) HT_.out ?_; refine pn_ 22 65 (msk 23 12) HT_.out ?_; refine pu_ 23 66 (msk 24 11) HT_.out ?_; refine pu_ 24 67 (msk 25 10) HT_.out ?_; refine pn_ 25 68 (msk 26 9) HT_.out ?_; refine pn_ 26 69 (msk 27 8) HT_.out ?_; refine pn_ 27 70 (msk 28 7) HT_.out ?_; refine pn_ 28 71 (msk 29 6) HT_.out ?_; refine pn_ 29 72 (msk 30 5) HT_.out ?_; refine pn_ 30 73 (msk 31 4) HT_.out ?_; refine pn_ 31 74 (msk 32 3) HT_.out ?_; refine pn_ 32 75 (msk 33 2) HT_.out ?_; refine pn_ 33 76 (msk 34 1) HT_.out ?_; refine pu_ 34 77 (msk 35 0) HT_.out ?_
           refine done_ (done_of HT_.out (by kernel_rfl)) ?_
           try go_wp2
           go_roundg k4
           case measure => have := HJ2.out; have := HJ7.out; have := HK3.out; have := HK4.out; omega
           case rel => exact ⟨(wrap64 (x8_4 + 1)), (by first | rfl | (simp; done) | (simp [*]; done)), H', ⟨by have := HJ2.out; have := HJ7.out; have := HK3.out; have := HK4.out; omega⟩, ⟨by (with_reducible repeat (first | apply Kd.R_alloc | apply Kd.R_drewN | apply Kd.R_drew)); exact HO_6.out⟩, ⟨by repeat (first | (with_reducible first | exact HB.out | apply below_alloc | apply pw_below_drewN | apply below_drew1) | exact HB.out)⟩⟩
          rw [if_pos c21] at H
          have c21b0 : (((rd_T40 l0 x7_3).f0) == ((rd_T40 l1 x8_4).f0)) = true := beq_iff_eq.mpr c21
          have c21b1 : (((rd_T40 l0 x7_3).f0) != ((rd_T40 l1 x8_4).f0)) = false := bne_eq_false_iff_eq.mpr c21
          clear c21
          by_cases c22 : ((rd_T40 l0 x7_3).f1) = ((rd_T40 l1 x8_4).f1)
          rotate_left
          ·rw [if_neg c22] at H
           have c22b0 : (((rd_T40 l0 x7_3).f1) == ((rd_T40 l1 x8_4).f1)) = false := beq_eq_false_iff_ne.mpr c22
           have c22b1 : (((rd_T40 l0 x7_3).f1) != ((rd_T40 l1 x8_4).f1)) = true := bne_iff_ne.mpr c22
           have H' := Aside0.mk H
           clear H
           try go_wp2
           have n0_ := Aside0.mk (Kd.R_drew HO_6.out)
           have n1_ := Aside0.mk (below_drew1 HB.out)
           clear HO_6
           clear HB
           have HO_6 := n0_
           have HB := n1_
           clear n0_ n1_
           have p148 : 0 ≤ (x7_3 : Int) := od_
           have q148 : x7_3 < (l0.length : Int) := od_
           obtain ⟨ad148, e148, hx148_0, hx148_1, hx148_2, hx148_3, hx148_4, hx148_5⟩ := at_T40 HR0.out x7_3 p148 q148
           have hw148_5 := hx148_5
           have hw148_4 := hx148_4
           have hw148_3 := hx148_3
           have hw148_2 := hx148_2
           have hw148_1 := hx148_1
           have hw148_0 := hx148_0
           cases e148
           replace hx148_0 := (HB.out.cell (World.block_lt_of_cell? w _ hx148_0)).trans hx148_0
           replace hx148_1 := (HB.out.cell (World.block_lt_of_cell? w _ hx148_1)).trans hx148_1
           replace hx148_2 := (HB.out.cell (World.block_lt_of_cell? w _ hx148_2)).trans hx148_2
           replace hx148_3 := (HB.out.cell (World.block_lt_of_cell? w _ hx148_3)).trans hx148_3
           replace hx148_4 := (HB.out.cell (World.block_lt_of_cell? w _ hx148_4)).trans hx148_4
           replace hx148_5 := (HB.out.cell (World.block_lt_of_cell? w _ hx148_5)).trans hx148_5
           replace p148 := eq_true p148
           replace q148 := eq_true q148
           have p149 : 0 ≤ (x8_4 : Int) := od_
           have q149 : x8_4 < (l1.length : Int) := od_
           obtain ⟨ad149, e149, hx149_0, hx149_1, hx149_2, hx149_3, hx149_4, hx149_5⟩ := at_T40 HR1.out x8_4 p149 q149
           have hw149_5 := hx149_5
           have hw149_4 := hx149_4
           have hw149_3 := hx149_3
           have hw149_2 := hx149_2
           have hw149_1 := hx149_1
           have hw149_0 := hx149_0
           cases e149
           replace hx149_0 := (HB.out.cell (World.block_lt_of_cell? w _ hx149_0)).trans hx149_0
           replace hx149_1 := (HB.out.cell (World.block_lt_of_cell? w _ hx149_1)).trans hx149_1
           replace hx149_2 := (HB.out.cell (World.block_lt_of_cell? w _ hx149_2)).trans hx149_2
           replace hx149_3 := (HB.out.cell (World.block_lt_of_cell? w _ hx149_3)).trans hx149_3
           replace hx149_4 := (HB.out.cell (World.block_lt_of_cell? w _ hx149_4)).trans hx149_4
           replace hx149_5 := (HB.out.cell (World.block_lt_of_cell? w _ hx149_5)).trans hx149_5
           replace p149 := eq_true p149
           replace q149 := eq_true q149
           have p150 : 0 ≤ (x7_3 : Int) := od_
           have q150 : x7_3 < (l0.length : Int) := od_
           obtain ⟨ad150, e150, hx150_0, hx150_1, hx150_2, hx150_3, hx150_4, hx150_5⟩ := at_T40 HR0.out x7_3 p150 q150
           have hw150_5 := hx150_5
           have hw150_4 := hx150_4
           have hw150_3 := hx150_3
           have hw150_2 := hx150_2
           have hw150_1 := hx150_1
           have hw150_0 := hx150_0
           obtain rfl : ad148 = ad150 := (by injection e150)
           replace hx150_0 := (HB.out.cell (World.block_lt_of_cell? w _ hx150_0)).trans hx150_0
           replace hx150_1 := (HB.out.cell (World.block_lt_of_cell? w _ hx150_1)).trans hx150_1
           replace hx150_2 := (HB.out.cell (World.block_lt_of_cell? w _ hx150_2)).trans hx150_2
           replace hx150_3 := (HB.out.cell (World.block_lt_of_cell? w _ hx150_3)).trans hx150_3
           replace hx150_4 := (HB.out.cell (World.block_lt_of_cell? w _ hx150_4)).trans hx150_4
           replace hx150_5 := (HB.out.cell (World.block_lt_of_cell? w _ hx150_5)).trans hx150_5
           replace p150 := eq_true p150
           replace q150 := eq_true q150
           have p151 : 0 ≤ (x8_4 : Int) := od_
           have q151 : x8_4 < (l1.length : Int) := od_
           obtain ⟨ad151, e151, hx151_0, hx151_1, hx151_2, hx151_3, hx151_4, hx151_5⟩ := at_T40 HR1.out x8_4 p151 q151
           have hw151_5 := hx151_5
           have hw151_4 := hx151_4
           have hw151_3 := hx151_3
           have hw151_2 := hx151_2
           have hw151_1 := hx151_1
           have hw151_0 := hx151_0
           obtain rfl : ad149 = ad151 := (by injection e151)
           replace hx151_0 := (HB.out.cell (World.block_lt_of_cell? w _ hx151_0)).trans hx151_0
           replace hx151_1 := (HB.out.cell (World.block_lt_of_cell? w _ hx151_1)).trans hx151_1
           replace hx151_2 := (HB.out.cell (World.block_lt_of_cell? w _ hx151_2)).trans hx151_2
           replace hx151_3 := (HB.out.cell (World.block_lt_of_cell? w _ hx151_3)).trans hx151_3
           replace hx151_4 := (HB.out.cell (World.block_lt_of_cell? w _ hx151_4)).trans hx151_4
           replace hx151_5 := (HB.out.cell (World.block_lt_of_cell? w _ hx151_5)).trans hx151_5
           replace p151 := eq_true p151
           replace q151 := eq_true q151
           refine start_ (n := 35) (S := fun w' => w'.cell? (ad148.add ((x7_3).toNat * 6)) = some (.int .i64 ((rd_T40 l0 x7_3).f0)) ∧ w'.cell? ⟨(ad148.add ((x7_3).toNat * 6)).block, (ad148.add ((x7_3).toNat * 6)).off + 1, none⟩ = some (.int .i64 ((rd_T40 l0 x7_3).f1)) ∧ w'.cell? ⟨(ad148.add ((x7_3).toNat * 6)).block, (ad148.add ((x7_3).toNat * 6)).off + 2, none⟩ = some (.int .i64 ((rd_T40 l0 x7_3).f2)) ∧ w'.cell? ⟨(ad148.add ((x7_3).toNat * 6)).block, (ad148.add ((x7_3).toNat * 6)).off + 3, none⟩ = some (.int .i64 ((rd_T40 l0 x7_3).f3)) ∧ w'.cell? ⟨(ad148.add ((x7_3).toNat * 6)).block, (ad148.add ((x7_3).toNat * 6)).off + 4, none⟩ = some (.string ((rd_T40 l0 x7_3).f4)) ∧ w'.cell? ⟨(ad148.add ((x7_3).toNat * 6)).block, (ad148.add ((x7_3).toNat * 6)).off + 5, none⟩ = some (.int .i64 ((rd_T40 l0 x7_3).f5)) ∧ w'.cell? (ad149.add ((x8_4).toNat * 6)) = some (.int .i64 ((rd_T40 l1 x8_4).f0)) ∧ w'.cell? ⟨(ad149.add ((x8_4).toNat * 6)).block, (ad149.add ((x8_4).toNat * 6)).off + 1, none⟩ = some (.int .i64 ((rd_T40 l1 x8_4).f1)) ∧ w'.cell? ⟨(ad149.add ((x8_4).toNat * 6)).block, (ad149.add ((x8_4).toNat * 6)).off + 2, none⟩ = some (.int .i64 ((rd_T40 l1 x8_4).f2)) ∧ w'.cell? ⟨(ad149.add ((x8_4).toNat * 6)).block, (ad149.add ((x8_4).toNat * 6)).off + 3, none⟩ = some (.int .i64 ((rd_T40 l1 x8_4).f3)) ∧ w'.cell? ⟨(ad149.add ((x8_4).toNat * 6)).block, (ad149.add ((x8_4).toNat * 6)).off + 4, none⟩ = some (.string ((rd_T40 l1 x8_4).f4)) ∧ w'.cell? ⟨(ad149.add ((x8_4).toNat * 6)).block, (ad149.add ((x8_4).toNat * 6)).off + 5, none⟩ = some (.int .i64 ((rd_T40 l1 x8_4).f5)) ∧ w'.cell? (ad148.add ((x7_3).toNat * 6)) = some (.int .i64 ((rd_T40 l0 x7_3).f0)) ∧ w'.cell? ⟨(ad148.add ((x7_3).toNat * 6)).block, (ad148.add ((x7_3).toNat * 6)).off + 1, none⟩ = some (.int .i64 ((rd_T40 l0 x7_3).f1)) ∧ w'.cell? ⟨(ad148.add ((x7_3).toNat * 6)).block, (ad148.add ((x7_3).toNat * 6)).off + 2, none⟩ = some (.int .i64 ((rd_T40 l0 x7_3).f2)) ∧ w'.cell? ⟨(ad148.add ((x7_3).toNat * 6)).block, (ad148.add ((x7_3).toNat * 6)).off + 3, none⟩ = some (.int .i64 ((rd_T40 l0 x7_3).f3)) ∧ w'.cell? ⟨(ad148.add ((x7_3).toNat * 6)).block, (ad148.add ((x7_3).toNat * 6)).off + 4, none⟩ = some (.string ((rd_T40 l0 x7_3).f4)) ∧ w'.cell? ⟨(ad148.add ((x7_3).toNat * 6)).block, (ad148.add ((x7_3).toNat * 6)).off + 5, none⟩ = some (.int .i64 ((rd_T40 l0 x7_3).f5)) ∧ w'.cell? (ad149.add ((x8_4).toNat * 6)) = some (.int .i64 ((rd_T40 l1 x8_4).f0)) ∧ w'.cell? ⟨(ad149.add ((x8_4).toNat * 6)).block, (ad149.add ((x8_4).toNat * 6)).off + 1, none⟩ = some (.int .i64 ((rd_T40 l1 x8_4).f1)) ∧ w'.cell? ⟨(ad149.add ((x8_4).toNat * 6)).block, (ad149.add ((x8_4).toNat * 6)).off + 2, none⟩ = some (.int .i64 ((rd_T40 l1 x8_4).f2)) ∧ w'.cell? ⟨(ad149.add ((x8_4).toNat * 6)).block, (ad149.add ((x8_4).toNat * 6)).off + 3, none⟩ = some (.int .i64 ((rd_T40 l1 x8_4).f3)) ∧ w'.cell? ⟨(ad149.add ((x8_4).toNat * 6)).block, (ad149.add ((x8_4).toNat * 6)).off + 4, none⟩ = some (.string ((rd_T40 l1 x8_4).f4)) ∧ w'.cell? ⟨(ad149.add ((x8_4).toNat * 6)).block, (ad149.add ((x8_4).toNat * 6)).off + 5, none⟩ = some (.int .i64 ((rd_T40 l1 x8_4).f5))) (ds := []) (msk 0 35) (by kernel_rfl) rfl rfl ⟨((HB.out.cell (World.block_lt_of_cell? w _ hw148_0)).trans hw148_0), ((HB.out.cell (World.block_lt_of_cell? w _ hw148_1)).trans hw148_1), ((HB.out.cell (World.block_lt_of_cell? w _ hw148_2)).trans hw148_2), ((HB.out.cell (World.block_lt_of_cell? w _ hw148_3)).trans hw148_3), ((HB.out.cell (World.block_lt_of_cell? w _ hw148_4)).trans hw148_4), ((HB.out.cell (World.block_lt_of_cell? w _ hw148_5)).trans hw148_5), ((HB.out.cell (World.block_lt_of_cell? w _ hw149_0)).trans hw149_0), ((HB.out.cell (World.block_lt_of_cell? w _ hw149_1)).trans hw149_1), ((HB.out.cell (World.block_lt_of_cell? w _ hw149_2)).trans hw149_2), ((HB.out.cell (World.block_lt_of_cell? w _ hw149_3)).trans hw149_3), ((HB.out.cell (World.block_lt_of_cell? w _ hw149_4)).trans hw149_4), ((HB.out.cell (World.block_lt_of_cell? w _ hw149_5)).trans hw149_5), ((HB.out.cell (World.block_lt_of_cell? w _ hw150_0)).trans hw150_0), ((HB.out.cell (World.block_lt_of_cell? w _ hw150_1)).trans hw150_1), ((HB.out.cell (World.block_lt_of_cell? w _ hw150_2)).trans hw150_2), ((HB.out.cell (World.block_lt_of_cell? w _ hw150_3)).trans hw150_3), ((HB.out.cell (World.block_lt_of_cell? w _ hw150_4)).trans hw150_4), ((HB.out.cell (World.block_lt_of_cell? w _ hw150_5)).trans hw150_5), ((HB.out.cell (World.block_lt_of_cell? w _ hw151_0)).trans hw151_0), ((HB.out.cell (World.block_lt_of_cell? w _ hw151_1)).trans hw151_1), ((HB.out.cell (World.block_lt_of_cell? w _ hw151_2)).trans hw151_2), ((HB.out.cell (World.block_lt_of_cell? w _ hw151_3)).trans hw151_3), ((HB.out.cell (World.block_lt_of_cell? w _ hw151_4)).trans hw151_4), ((HB.out.cell (World.block_lt_of_cell? w _ hw151_5)).trans hw151_5)⟩ (fun hHeld => ?_); refine with_tabW spec_MergeEvents.tab12 spec_MergeEvents.bits12 (fun HT_ HW_ => ?_)
           generalize wr.drew = w26 at HO_6 HB hx148_0 hx148_1 hx148_2 hx148_3 hx148_4 hx148_5 hx149_0 hx149_1 hx149_2 hx149_3 hx149_4 hx149_5 hx150_0 hx150_1 hx150_2 hx150_3 hx150_4 hx150_5 hx151_0 hx151_1 hx151_2 hx151_3 hx151_4 hx151_5 hHeld ⊢
           refine pu_ 0 43 (msk 1 34) HT_.out ?_; refine pu_ 1 44 (msk 2 33) HT_.out ?_; refine pu_ 2 45 (msk 3 32) HT_.out ?_; refine pu_ 3 46 (msk 4 31) HT_.out ?_; refine pu_ 5 48 (mskl 35 4 [5]) HT_.out ?_; refine pu_ 6 49 (mskl 35 4 [5, 6]) HT_.out ?_; refine pu_ 7 50 (mskl 35 4 [5, 6, 7]) HT_.out ?_; refine pu_ 8 51 (mskl 35 4 [5, 6, 7, 8]) HT_.out ?_
           refine tk_ 4 47 (msk 9 26) HT_.out HW_.out hHeld ?_ (hy := by rintro w' ⟨s0, s1, s2, s3, s4, s5, s6, s7, s8, s9, s10, s11, s12, s13, s14, s15, s16, s17, s18, s19, s20, s21, s22, s23⟩; go_simp; with_reducible rfl)
           refine tk_ 9 52 (msk 10 25) HT_.out HW_.out hHeld ?_ (hy := by rintro w' ⟨s0, s1, s2, s3, s4, s5, s6, s7, s8, s9, s10, s11, s12, s13, s14, s15, s16, s17, s18, s19, s20, s21, s22, s23⟩; go_simp; with_reducible rfl)
           refine pu_ 10 53 (msk 11 24) HT_.out ?_; refine pu_ 11 54 (msk 12 23) HT_.out ?_; refine pu_ 12 55 (msk 13 22) HT_.out ?_; refine pu_ 13 56 (msk 14 21) HT_.out ?_; refine pu_ 14 57 (msk 15 20) HT_.out ?_; refine pu_ 15 58 (msk 16 19) HT_.out ?_; refine pu_ 17 60 (mskl 35 16 [17]) HT_.out ?_; refine pu_ 18 61 (mskl 35 16 [17, 18]) HT_.out ?_; refine pu_ 19 62 (mskl 35 16 [17, 18, 19]) HT_.out ?_; refine pu_ 20 63 (mskl 35 16 [17, 18, 19, 20]) HT_.out ?_
           refine tk_ 16 59 (msk 21 14) HT_.out HW_.out hHeld ?_ (hy := by rintro w' ⟨s0, s1, s2, s3, s4, s5, s6, s7, s8, s9, s10, s11, s12, s13, s14, s15, s16, s17, s18, s19, s20, s21, s22, s23⟩; go_simp; with_reducible rfl)
           refine tk_ 21 64 (msk 22 13) HT_.out HW_.out hHeld ?_ (hy := by rintro w' ⟨s0, s1, s2, s3, s4, s5, s6, s7, s8, s9, s10, s11, s12, s13, s14, s15, s16, s17, s18, s19, s20, s21, s22, s23⟩; go_simp; with_reducible rfl)
           refine pu_ 22 65 (msk 23 12) HT_.out ?_; refine pu_ 23 66 (msk 24 11) HT_.out ?_; refine pu_ 24 67 (msk 25 10) HT_.out ?_; refine pn_ 25 68 (msk 26 9) HT_.out ?_; refine pn_ 26 69 (msk 27 8) HT_.out ?_; refine pn_ 27 70 (msk 28 7) HT_.out ?_; refine pn_ 28 71 (msk 29 6) HT_.out ?_; refine pn_ 29 72 (msk 30 5) HT_.out ?_; refine pn_ 30 73 (msk 31 4) HT_.out ?_; refine pn_ 31 74 (msk 32 3) HT_.out ?_; refine pn_ 32 75 (msk 33 2) HT_.out ?_; refine pn_ 33 76 (msk 34 1) HT_.out ?_; refine pu_ 34 77 (msk 35 0) HT_.out ?_
           refine done_ (done_of HT_.out (by kernel_rfl)) ?_
           try go_wp2
           go_roundg k4
           case measure => have := HJ2.out; have := HJ7.out; have := HK3.out; have := HK4.out; omega
           case rel => exact ⟨(wrap64 (x8_4 + 1)), (by first | rfl | (simp; done) | (simp [*]; done)), H', ⟨by have := HJ2.out; have := HJ7.out; have := HK3.out; have := HK4.out; omega⟩, ⟨by (with_reducible repeat (first | apply Kd.R_alloc | apply Kd.R_drewN | apply Kd.R_drew)); exact HO_6.out⟩, ⟨by repeat (first | (with_reducible first | exact HB.out | apply below_alloc | apply pw_below_drewN | apply below_drew1) | exact HB.out)⟩⟩
          rw [if_pos c22] at H
          have c22b0 : (((rd_T40 l0 x7_3).f1) == ((rd_T40 l1 x8_4).f1)) = true := beq_iff_eq.mpr c22
          have c22b1 : (((rd_T40 l0 x7_3).f1) != ((rd_T40 l1 x8_4).f1)) = false := bne_eq_false_iff_eq.mpr c22
          clear c22
          by_cases c23 : (!(((rd_T40 l0 x7_3).f0) == ((rd_T40 l1 x8_4).f0)) || (!(((rd_T40 l0 x7_3).f1) == ((rd_T40 l1 x8_4).f1)) || (!(((rd_T40 l0 x7_3).f2) == ((rd_T40 l1 x8_4).f2)) || (!(((rd_T40 l0 x7_3).f3) == ((rd_T40 l1 x8_4).f3)) || (!((((rd_T40 l0 x7_3).f4).toList) == (((rd_T40 l1 x8_4).f4).toList)) || (!(((rd_T40 l0 x7_3).f5) == ((rd_T40 l1 x8_4).f5)))))))) = true
          ·rw [if_pos c23] at H
           have c23b0 : (!(((rd_T40 l0 x7_3).f0) == ((rd_T40 l1 x8_4).f0)) || (!(((rd_T40 l0 x7_3).f1) == ((rd_T40 l1 x8_4).f1)) || (!(((rd_T40 l0 x7_3).f2) == ((rd_T40 l1 x8_4).f2)) || (!(((rd_T40 l0 x7_3).f3) == ((rd_T40 l1 x8_4).f3)) || (!((((rd_T40 l0 x7_3).f4).toList) == (((rd_T40 l1 x8_4).f4).toList)) || (!(((rd_T40 l0 x7_3).f5) == ((rd_T40 l1 x8_4).f5)))))))) = true := c23
           have c23b9 := c23b0
           simp only [c21b0, c22b0, Bool.not_true, Bool.false_or] at c23b9
           clear c23
           simp only [Option.some.injEq, Prod.mk.injEq] at H
           obtain ⟨rfl, rfl⟩ := H
           try go_wp2
           have n0_ := Aside0.mk (Kd.R_drew HO_6.out)
           have n1_ := Aside0.mk (below_drew1 HB.out)
           clear HO_6
           clear HB
           have HO_6 := n0_
           have HB := n1_
           clear n0_ n1_
           have p148 : 0 ≤ (x7_3 : Int) := od_
           have q148 : x7_3 < (l0.length : Int) := od_
           obtain ⟨ad148, e148, hx148_0, hx148_1, hx148_2, hx148_3, hx148_4, hx148_5⟩ := at_T40 HR0.out x7_3 p148 q148
           have hw148_5 := hx148_5
           have hw148_4 := hx148_4
           have hw148_3 := hx148_3
           have hw148_2 := hx148_2
           have hw148_1 := hx148_1
           have hw148_0 := hx148_0
           cases e148
           replace hx148_0 := (HB.out.cell (World.block_lt_of_cell? w _ hx148_0)).trans hx148_0
           replace hx148_1 := (HB.out.cell (World.block_lt_of_cell? w _ hx148_1)).trans hx148_1
           replace hx148_2 := (HB.out.cell (World.block_lt_of_cell? w _ hx148_2)).trans hx148_2
           replace hx148_3 := (HB.out.cell (World.block_lt_of_cell? w _ hx148_3)).trans hx148_3
           replace hx148_4 := (HB.out.cell (World.block_lt_of_cell? w _ hx148_4)).trans hx148_4
           replace hx148_5 := (HB.out.cell (World.block_lt_of_cell? w _ hx148_5)).trans hx148_5
           replace p148 := eq_true p148
           replace q148 := eq_true q148
           have p149 : 0 ≤ (x8_4 : Int) := od_
           have q149 : x8_4 < (l1.length : Int) := od_
           obtain ⟨ad149, e149, hx149_0, hx149_1, hx149_2, hx149_3, hx149_4, hx149_5⟩ := at_T40 HR1.out x8_4 p149 q149
           have hw149_5 := hx149_5
           have hw149_4 := hx149_4
           have hw149_3 := hx149_3
           have hw149_2 := hx149_2
           have hw149_1 := hx149_1
           have hw149_0 := hx149_0
           cases e149
           replace hx149_0 := (HB.out.cell (World.block_lt_of_cell? w _ hx149_0)).trans hx149_0
           replace hx149_1 := (HB.out.cell (World.block_lt_of_cell? w _ hx149_1)).trans hx149_1
           replace hx149_2 := (HB.out.cell (World.block_lt_of_cell? w _ hx149_2)).trans hx149_2
           replace hx149_3 := (HB.out.cell (World.block_lt_of_cell? w _ hx149_3)).trans hx149_3
           replace hx149_4 := (HB.out.cell (World.block_lt_of_cell? w _ hx149_4)).trans hx149_4
           replace hx149_5 := (HB.out.cell (World.block_lt_of_cell? w _ hx149_5)).trans hx149_5
           replace p149 := eq_true p149
           replace q149 := eq_true q149
           have p150 : 0 ≤ (x7_3 : Int) := od_
           have q150 : x7_3 < (l0.length : Int) := od_
           obtain ⟨ad150, e150, hx150_0, hx150_1, hx150_2, hx150_3, hx150_4, hx150_5⟩ := at_T40 HR0.out x7_3 p150 q150
           have hw150_5 := hx150_5
           have hw150_4 := hx150_4
           have hw150_3 := hx150_3
           have hw150_2 := hx150_2
           have hw150_1 := hx150_1
           have hw150_0 := hx150_0
           obtain rfl : ad148 = ad150 := (by injection e150)
           replace hx150_0 := (HB.out.cell (World.block_lt_of_cell? w _ hx150_0)).trans hx150_0
           replace hx150_1 := (HB.out.cell (World.block_lt_of_cell? w _ hx150_1)).trans hx150_1
           replace hx150_2 := (HB.out.cell (World.block_lt_of_cell? w _ hx150_2)).trans hx150_2
           replace hx150_3 := (HB.out.cell (World.block_lt_of_cell? w _ hx150_3)).trans hx150_3
           replace hx150_4 := (HB.out.cell (World.block_lt_of_cell? w _ hx150_4)).trans hx150_4
           replace hx150_5 := (HB.out.cell (World.block_lt_of_cell? w _ hx150_5)).trans hx150_5
           replace p150 := eq_true p150
           replace q150 := eq_true q150
           have p151 : 0 ≤ (x8_4 : Int) := od_
           have q151 : x8_4 < (l1.length : Int) := od_
           obtain ⟨ad151, e151, hx151_0, hx151_1, hx151_2, hx151_3, hx151_4, hx151_5⟩ := at_T40 HR1.out x8_4 p151 q151
           have hw151_5 := hx151_5
           have hw151_4 := hx151_4
           have hw151_3 := hx151_3
           have hw151_2 := hx151_2
           have hw151_1 := hx151_1
           have hw151_0 := hx151_0
           obtain rfl : ad149 = ad151 := (by injection e151)
           replace hx151_0 := (HB.out.cell (World.block_lt_of_cell? w _ hx151_0)).trans hx151_0
           replace hx151_1 := (HB.out.cell (World.block_lt_of_cell? w _ hx151_1)).trans hx151_1
           replace hx151_2 := (HB.out.cell (World.block_lt_of_cell? w _ hx151_2)).trans hx151_2
           replace hx151_3 := (HB.out.cell (World.block_lt_of_cell? w _ hx151_3)).trans hx151_3
           replace hx151_4 := (HB.out.cell (World.block_lt_of_cell? w _ hx151_4)).trans hx151_4
           replace hx151_5 := (HB.out.cell (World.block_lt_of_cell? w _ hx151_5)).trans hx151_5
           replace p151 := eq_true p151
           replace q151 := eq_true q151
           have p152 : 0 ≤ (x7_3 : Int) := od_
           have q152 : x7_3 < (l0.length : Int) := od_
           obtain ⟨ad152, e152, hx152_0, hx152_1, hx152_2, hx152_3, hx152_4, hx152_5⟩ := at_T40 HR0.out x7_3 p152 q152
           have hw152_5 := hx152_5
           have hw152_4 := hx152_4
           have hw152_3 := hx152_3
           have hw152_2 := hx152_2
           have hw152_1 := hx152_1
           have hw152_0 := hx152_0
           obtain rfl : ad148 = ad152 := (by injection e152)
           replace hx152_0 := (HB.out.cell (World.block_lt_of_cell? w _ hx152_0)).trans hx152_0
           replace hx152_1 := (HB.out.cell (World.block_lt_of_cell? w _ hx152_1)).trans hx152_1
           replace hx152_2 := (HB.out.cell (World.block_lt_of_cell? w _ hx152_2)).trans hx152_2
           replace hx152_3 := (HB.out.cell (World.block_lt_of_cell? w _ hx152_3)).trans hx152_3
           replace hx152_4 := (HB.out.cell (World.block_lt_of_cell? w _ hx152_4)).trans hx152_4
           replace hx152_5 := (HB.out.cell (World.block_lt_of_cell? w _ hx152_5)).trans hx152_5
           replace p152 := eq_true p152
           replace q152 := eq_true q152
           have p153 : 0 ≤ (x8_4 : Int) := od_
           have q153 : x8_4 < (l1.length : Int) := od_
           obtain ⟨ad153, e153, hx153_0, hx153_1, hx153_2, hx153_3, hx153_4, hx153_5⟩ := at_T40 HR1.out x8_4 p153 q153
           have hw153_5 := hx153_5
           have hw153_4 := hx153_4
           have hw153_3 := hx153_3
           have hw153_2 := hx153_2
           have hw153_1 := hx153_1
           have hw153_0 := hx153_0
           obtain rfl : ad149 = ad153 := (by injection e153)
           replace hx153_0 := (HB.out.cell (World.block_lt_of_cell? w _ hx153_0)).trans hx153_0
           replace hx153_1 := (HB.out.cell (World.block_lt_of_cell? w _ hx153_1)).trans hx153_1
           replace hx153_2 := (HB.out.cell (World.block_lt_of_cell? w _ hx153_2)).trans hx153_2
           replace hx153_3 := (HB.out.cell (World.block_lt_of_cell? w _ hx153_3)).trans hx153_3
           replace hx153_4 := (HB.out.cell (World.block_lt_of_cell? w _ hx153_4)).trans hx153_4
           replace hx153_5 := (HB.out.cell (World.block_lt_of_cell? w _ hx153_5)).trans hx153_5
           replace p153 := eq_true p153
           replace q153 := eq_true q153
           refine start_ (n := 35) (S := fun w' => w'.cell? (ad148.add ((x7_3).toNat * 6)) = some (.int .i64 ((rd_T40 l0 x7_3).f0)) ∧ w'.cell? ⟨(ad148.add ((x7_3).toNat * 6)).block, (ad148.add ((x7_3).toNat * 6)).off + 1, none⟩ = some (.int .i64 ((rd_T40 l0 x7_3).f1)) ∧ w'.cell? ⟨(ad148.add ((x7_3).toNat * 6)).block, (ad148.add ((x7_3).toNat * 6)).off + 2, none⟩ = some (.int .i64 ((rd_T40 l0 x7_3).f2)) ∧ w'.cell? ⟨(ad148.add ((x7_3).toNat * 6)).block, (ad148.add ((x7_3).toNat * 6)).off + 3, none⟩ = some (.int .i64 ((rd_T40 l0 x7_3).f3)) ∧ w'.cell? ⟨(ad148.add ((x7_3).toNat * 6)).block, (ad148.add ((x7_3).toNat * 6)).off + 4, none⟩ = some (.string ((rd_T40 l0 x7_3).f4)) ∧ w'.cell? ⟨(ad148.add ((x7_3).toNat * 6)).block, (ad148.add ((x7_3).toNat * 6)).off + 5, none⟩ = some (.int .i64 ((rd_T40 l0 x7_3).f5)) ∧ w'.cell? (ad149.add ((x8_4).toNat * 6)) = some (.int .i64 ((rd_T40 l1 x8_4).f0)) ∧ w'.cell? ⟨(ad149.add ((x8_4).toNat * 6)).block, (ad149.add ((x8_4).toNat * 6)).off + 1, none⟩ = some (.int .i64 ((rd_T40 l1 x8_4).f1)) ∧ w'.cell? ⟨(ad149.add ((x8_4).toNat * 6)).block, (ad149.add ((x8_4).toNat * 6)).off + 2, none⟩ = some (.int .i64 ((rd_T40 l1 x8_4).f2)) ∧ w'.cell? ⟨(ad149.add ((x8_4).toNat * 6)).block, (ad149.add ((x8_4).toNat * 6)).off + 3, none⟩ = some (.int .i64 ((rd_T40 l1 x8_4).f3)) ∧ w'.cell? ⟨(ad149.add ((x8_4).toNat * 6)).block, (ad149.add ((x8_4).toNat * 6)).off + 4, none⟩ = some (.string ((rd_T40 l1 x8_4).f4)) ∧ w'.cell? ⟨(ad149.add ((x8_4).toNat * 6)).block, (ad149.add ((x8_4).toNat * 6)).off + 5, none⟩ = some (.int .i64 ((rd_T40 l1 x8_4).f5)) ∧ w'.cell? (ad148.add ((x7_3).toNat * 6)) = some (.int .i64 ((rd_T40 l0 x7_3).f0)) ∧ w'.cell? ⟨(ad148.add ((x7_3).toNat * 6)).block, (ad148.add ((x7_3).toNat * 6)).off + 1, none⟩ = some (.int .i64 ((rd_T40 l0 x7_3).f1)) ∧ w'.cell? ⟨(ad148.add ((x7_3).toNat * 6)).block, (ad148.add ((x7_3).toNat * 6)).off + 2, none⟩ = some (.int .i64 ((rd_T40 l0 x7_3).f2)) ∧ w'.cell? ⟨(ad148.add ((x7_3).toNat * 6)).block, (ad148.add ((x7_3).toNat * 6)).off + 3, none⟩ = some (.int .i64 ((rd_T40 l0 x7_3).f3)) ∧ w'.cell? ⟨(ad148.add ((x7_3).toNat * 6)).block, (ad148.add ((x7_3).toNat * 6)).off + 4, none⟩ = some (.string ((rd_T40 l0 x7_3).f4)) ∧ w'.cell? ⟨(ad148.add ((x7_3).toNat * 6)).block, (ad148.add ((x7_3).toNat * 6)).off + 5, none⟩ = some (.int .i64 ((rd_T40 l0 x7_3).f5)) ∧ w'.cell? (ad149.add ((x8_4).toNat * 6)) = some (.int .i64 ((rd_T40 l1 x8_4).f0)) ∧ w'.cell? ⟨(ad149.add ((x8_4).toNat * 6)).block, (ad149.add ((x8_4).toNat * 6)).off + 1, none⟩ = some (.int .i64 ((rd_T40 l1 x8_4).f1)) ∧ w'.cell? ⟨(ad149.add ((x8_4).toNat * 6)).block, (ad149.add ((x8_4).toNat * 6)).off + 2, none⟩ = some (.int .i64 ((rd_T40 l1 x8_4).f2)) ∧ w'.cell? ⟨(ad149.add ((x8_4).toNat * 6)).block, (ad149.add ((x8_4).toNat * 6)).off + 3, none⟩ = some (.int .i64 ((rd_T40 l1 x8_4).f3)) ∧ w'.cell? ⟨(ad149.add ((x8_4).toNat * 6)).block, (ad149.add ((x8_4).toNat * 6)).off + 4, none⟩ = some (.string ((rd_T40 l1 x8_4).f4)) ∧ w'.cell? ⟨(ad149.add ((x8_4).toNat * 6)).block, (ad149.add ((x8_4).toNat * 6)).off + 5, none⟩ = some (.int .i64 ((rd_T40 l1 x8_4).f5)) ∧ w'.cell? (ad148.add ((x7_3).toNat * 6)) = some (.int .i64 ((rd_T40 l0 x7_3).f0)) ∧ w'.cell? ⟨(ad148.add ((x7_3).toNat * 6)).block, (ad148.add ((x7_3).toNat * 6)).off + 1, none⟩ = some (.int .i64 ((rd_T40 l0 x7_3).f1)) ∧ w'.cell? ⟨(ad148.add ((x7_3).toNat * 6)).block, (ad148.add ((x7_3).toNat * 6)).off + 2, none⟩ = some (.int .i64 ((rd_T40 l0 x7_3).f2)) ∧ w'.cell? ⟨(ad148.add ((x7_3).toNat * 6)).block, (ad148.add ((x7_3).toNat * 6)).off + 3, none⟩ = some (.int .i64 ((rd_T40 l0 x7_3).f3)) ∧ w'.cell? ⟨(ad148.add ((x7_3).toNat * 6)).block, (ad148.add ((x7_3).toNat * 6)).off + 4, none⟩ = some (.string ((rd_T40 l0 x7_3).f4)) ∧ w'.cell? ⟨(ad148.add ((x7_3).toNat * 6)).block, (ad148.add ((x7_3).toNat * 6)).off + 5, none⟩ = some (.int .i64 ((rd_T40 l0 x7_3).f5)) ∧ w'.cell? (ad149.add ((x8_4).toNat * 6)) = some (.int .i64 ((rd_T40 l1 x8_4).f0)) ∧ w'.cell? ⟨(ad149.add ((x8_4).toNat * 6)).block, (ad149.add ((x8_4).toNat * 6)).off + 1, none⟩ = some (.int .i64 ((rd_T40 l1 x8_4).f1)) ∧ w'.cell? ⟨(ad149.add ((x8_4).toNat * 6)).block, (ad149.add ((x8_4).toNat * 6)).off + 2, none⟩ = some (.int .i64 ((rd_T40 l1 x8_4).f2)) ∧ w'.cell? ⟨(ad149.add ((x8_4).toNat * 6)).block, (ad149.add ((x8_4).toNat * 6)).off + 3, none⟩ = some (.int .i64 ((rd_T40 l1 x8_4).f3)) ∧ w'.cell? ⟨(ad149.add ((x8_4).toNat * 6)).block, (ad149.add ((x8_4).toNat * 6)).off + 4, none⟩ = some (.string ((rd_T40 l1 x8_4).f4)) ∧ w'.cell? ⟨(ad149.add ((x8_4).toNat * 6)).block, (ad149.add ((x8_4).toNat * 6)).off + 5, none⟩ = some (.int .i64 ((rd_T40 l1 x8_4).f5))) (ds := []) (msk 0 35) (by kernel_rfl) rfl rfl ⟨((HB.out.cell (World.block_lt_of_cell? w _ hw148_0)).trans hw148_0), ((HB.out.cell (World.block_lt_of_cell? w _ hw148_1)).trans hw148_1), ((HB.out.cell (World.block_lt_of_cell? w _ hw148_2)).trans hw148_2), ((HB.out.cell (World.block_lt_of_cell? w _ hw148_3)).trans hw148_3), ((HB.out.cell (World.block_lt_of_cell? w _ hw148_4)).trans hw148_4), ((HB.out.cell (World.block_lt_of_cell? w _ hw148_5)).trans hw148_5), ((HB.out.cell (World.block_lt_of_cell? w _ hw149_0)).trans hw149_0), ((HB.out.cell (World.block_lt_of_cell? w _ hw149_1)).trans hw149_1), ((HB.out.cell (World.block_lt_of_cell? w _ hw149_2)).trans hw149_2), ((HB.out.cell (World.block_lt_of_cell? w _ hw149_3)).trans hw149_3), ((HB.out.cell (World.block_lt_of_cell? w _ hw149_4)).trans hw149_4), ((HB.out.cell (World.block_lt_of_cell? w _ hw149_5)).trans hw149_5), ((HB.out.cell (World.block_lt_of_cell? w _ hw150_0)).trans hw150_0), ((HB.out.cell (World.block_lt_of_cell? w _ hw150_1)).trans hw150_1), ((HB.out.cell (World.block_lt_of_cell? w _ hw150_2)).trans hw150_2), ((HB.out.cell (World.block_lt_of_cell? w _ hw150_3)).trans hw150_3), ((HB.out.cell (World.block_lt_of_cell? w _ hw150_4)).trans hw150_4), ((HB.out.cell (World.block_lt_of_cell? w _ hw150_5)).trans hw150_5), ((HB.out.cell (World.block_lt_of_cell? w _ hw151_0)).trans hw151_0), ((HB.out.cell (World.block_lt_of_cell? w _ hw151_1)).trans hw151_1), ((HB.out.cell (World.block_lt_of_cell? w _ hw151_2)).trans hw151_2), ((HB.out.cell (World.block_lt_of_cell? w _ hw151_3)).trans hw151_3), ((HB.out.cell (World.block_lt_of_cell? w _ hw151_4)).trans hw151_4), ((HB.out.cell (World.block_lt_of_cell? w _ hw151_5)).trans hw151_5), ((HB.out.cell (World.block_lt_of_cell? w _ hw152_0)).trans hw152_0), ((HB.out.cell (World.block_lt_of_cell? w _ hw152_1)).trans hw152_1), ((HB.out.cell (World.block_lt_of_cell? w _ hw152_2)).trans hw152_2), ((HB.out.cell (World.block_lt_of_cell? w _ hw152_3)).trans hw152_3), ((HB.out.cell (World.block_lt_of_cell? w _ hw152_4)).trans hw152_4), ((HB.out.cell (World.block_lt_of_cell? w _ hw152_5)).trans hw152_5), ((HB.out.cell (World.block_lt_of_cell? w _ hw153_0)).trans hw153_0), ((HB.out.cell (World.block_lt_of_cell? w _ hw153_1)).trans hw153_1), ((HB.out.cell (World.block_lt_of_cell? w _ hw153_2)).trans hw153_2), ((HB.out.cell (World.block_lt_of_cell? w _ hw153_3)).trans hw153_3), ((HB.out.cell (World.block_lt_of_cell? w _ hw153_4)).trans hw153_4), ((HB.out.cell (World.block_lt_of_cell? w _ hw153_5)).trans hw153_5)⟩ (fun hHeld => ?_); refine with_tabW spec_MergeEvents.tab12 spec_MergeEvents.bits12 (fun HT_ HW_ => ?_)
           generalize wr.drew = w24 at HO_6 HB hx148_0 hx148_1 hx148_2 hx148_3 hx148_4 hx148_5 hx149_0 hx149_1 hx149_2 hx149_3 hx149_4 hx149_5 hx150_0 hx150_1 hx150_2 hx150_3 hx150_4 hx150_5 hx151_0 hx151_1 hx151_2 hx151_3 hx151_4 hx151_5 hx152_0 hx152_1 hx152_2 hx152_3 hx152_4 hx152_5 hx153_0 hx153_1 hx153_2 hx153_3 hx153_4 hx153_5 hHeld ⊢
           refine pu_ 0 43 (msk 1 34) HT_.out ?_; refine pu_ 1 44 (msk 2 33) HT_.out ?_; refine pu_ 2 45 (msk 3 32) HT_.out ?_; refine pu_ 3 46 (msk 4 31) HT_.out ?_; refine pu_ 5 48 (mskl 35 4 [5]) HT_.out ?_; refine pu_ 6 49 (mskl 35 4 [5, 6]) HT_.out ?_; refine pu_ 7 50 (mskl 35 4 [5, 6, 7]) HT_.out ?_; refine pu_ 8 51 (mskl 35 4 [5, 6, 7, 8]) HT_.out ?_
           refine tk_ 4 47 (msk 9 26) HT_.out HW_.out hHeld ?_ (hy := by rintro w' ⟨s0, s1, s2, s3, s4, s5, s6, s7, s8, s9, s10, s11, s12, s13, s14, s15, s16, s17, s18, s19, s20, s21, s22, s23, s24, s25, s26, s27, s28, s29, s30, s31, s32, s33, s34, s35⟩; go_simp; with_reducible rfl)
           refine tk_ 9 52 (msk 10 25) HT_.out HW_.out hHeld ?_ (hy := by rintro w' ⟨s0, s1, s2, s3, s4, s5, s6, s7, s8, s9, s10, s11, s12, s13, s14, s15, s16, s17, s18, s19, s20, s21, s22, s23, s24, s25, s26, s27, s28, s29, s30, s31, s32, s33, s34, s35⟩; go_simp; with_reducible rfl)
           refine pu_ 10 53 (msk 11 24) HT_.out ?_; refine pu_ 11 54 (msk 12 23) HT_.out ?_; refine pu_ 12 55 (msk 13 22) HT_.out ?_; refine pu_ 13 56 (msk 14 21) HT_.out ?_; refine pu_ 14 57 (msk 15 20) HT_.out ?_; refine pu_ 15 58 (msk 16 19) HT_.out ?_; refine pu_ 17 60 (mskl 35 16 [17]) HT_.out ?_; refine pu_ 18 61 (mskl 35 16 [17, 18]) HT_.out ?_; refine pu_ 19 62 (mskl 35 16 [17, 18, 19]) HT_.out ?_; refine pu_ 20 63 (mskl 35 16 [17, 18, 19, 20]) HT_.out ?_
           refine tk_ 16 59 (msk 21 14) HT_.out HW_.out hHeld ?_ (hy := by rintro w' ⟨s0, s1, s2, s3, s4, s5, s6, s7, s8, s9, s10, s11, s12, s13, s14, s15, s16, s17, s18, s19, s20, s21, s22, s23, s24, s25, s26, s27, s28, s29, s30, s31, s32, s33, s34, s35⟩; go_simp; with_reducible rfl)
           refine tk_ 21 64 (msk 22 13) HT_.out HW_.out hHeld ?_ (hy := by rintro w' ⟨s0, s1, s2, s3, s4, s5, s6, s7, s8, s9, s10, s11, s12, s13, s14, s15, s16, s17, s18, s19, s20, s21, s22, s23, s24, s25, s26, s27, s28, s29, s30, s31, s32, s33, s34, s35⟩; go_simp; with_reducible rfl)
           refine pu_ 22 65 (msk 23 12) HT_.out ?_; refine pu_ 23 66 (msk 24 11) HT_.out ?_; refine pu_ 24 67 (msk 25 10) HT_.out ?_; refine pu_ 25 68 (msk 26 9) HT_.out ?_; refine pu_ 26 69 (msk 27 8) HT_.out ?_; refine pu_ 27 70 (msk 28 7) HT_.out ?_; refine pu_ 29 72 (mskl 35 28 [29]) HT_.out ?_; refine pu_ 30 73 (mskl 35 28 [29, 30]) HT_.out ?_; refine pu_ 31 74 (mskl 35 28 [29, 30, 31]) HT_.out ?_
           refine tk_ 28 71 (msk 32 3) HT_.out HW_.out hHeld ?_ (hy := by rintro w' ⟨s0, s1, s2, s3, s4, s5, s6, s7, s8, s9, s10, s11, s12, s13, s14, s15, s16, s17, s18, s19, s20, s21, s22, s23, s24, s25, s26, s27, s28, s29, s30, s31, s32, s33, s34, s35⟩; go_simp; with_reducible rfl)
           refine tk_ 32 75 (msk 33 2) HT_.out HW_.out hHeld ?_ (hy := by rintro w' ⟨s0, s1, s2, s3, s4, s5, s6, s7, s8, s9, s10, s11, s12, s13, s14, s15, s16, s17, s18, s19, s20, s21, s22, s23, s24, s25, s26, s27, s28, s29, s30, s31, s32, s33, s34, s35⟩; go_simp; with_reducible rfl)
           refine pu_ 33 76 (msk 34 1) HT_.out ?_; refine pu_ 34 77 (msk 35 0) HT_.out ?_
           refine done_ (done_of HT_.out (by kernel_rfl)) ?_
           try go_wp2
           go_ret2
           exact ⟨_, by first | rfl | (simp [errW_none, errW_some] <;> rfl) | (simp [*, errW_none, errW_some] <;> rfl), by (with_reducible repeat (first | apply Kd.R_alloc | apply Kd.R_drewN | apply Kd.R_drew)); exact HO_6.out, by repeat (first | (with_reducible first | exact HB.out | apply below_alloc | apply pw_below_drewN | apply below_drew1) | exact HB.out)⟩
          rw [if_neg c23] at H
          have c23b0 : (!(((rd_T40 l0 x7_3).f0) == ((rd_T40 l1 x8_4).f0)) || (!(((rd_T40 l0 x7_3).f1) == ((rd_T40 l1 x8_4).f1)) || (!(((rd_T40 l0 x7_3).f2) == ((rd_T40 l1 x8_4).f2)) || (!(((rd_T40 l0 x7_3).f3) == ((rd_T40 l1 x8_4).f3)) || (!((((rd_T40 l0 x7_3).f4).toList) == (((rd_T40 l1 x8_4).f4).toList)) || (!(((rd_T40 l0 x7_3).f5) == ((rd_T40 l1 x8_4).f5)))))))) = false := by simpa using c23
          have c23b9 := c23b0
          simp only [c21b0, c22b0, Bool.not_true, Bool.false_or] at c23b9
          clear c23
          have H' := Aside0.mk H
          clear H
          try go_wp2
          have n0_ := Aside0.mk (Kd.R_drew HO_6.out)
          have n1_ := Aside0.mk (below_drew1 HB.out)
          clear HO_6
          clear HB
          have HO_6 := n0_
          have HB := n1_
          clear n0_ n1_
          have p148 : 0 ≤ (x7_3 : Int) := od_
          have q148 : x7_3 < (l0.length : Int) := od_
          obtain ⟨ad148, e148, hx148_0, hx148_1, hx148_2, hx148_3, hx148_4, hx148_5⟩ := at_T40 HR0.out x7_3 p148 q148
          have hw148_5 := hx148_5
          have hw148_4 := hx148_4
          have hw148_3 := hx148_3
          have hw148_2 := hx148_2
          have hw148_1 := hx148_1
          have hw148_0 := hx148_0
          cases e148
          replace hx148_0 := (HB.out.cell (World.block_lt_of_cell? w _ hx148_0)).trans hx148_0
          replace hx148_1 := (HB.out.cell (World.block_lt_of_cell? w _ hx148_1)).trans hx148_1
          replace hx148_2 := (HB.out.cell (World.block_lt_of_cell? w _ hx148_2)).trans hx148_2
          replace hx148_3 := (HB.out.cell (World.block_lt_of_cell? w _ hx148_3)).trans hx148_3
          replace hx148_4 := (HB.out.cell (World.block_lt_of_cell? w _ hx148_4)).trans hx148_4
          replace hx148_5 := (HB.out.cell (World.block_lt_of_cell? w _ hx148_5)).trans hx148_5
          replace p148 := eq_true p148
          replace q148 := eq_true q148
          have p149 : 0 ≤ (x8_4 : Int) := od_
          have q149 : x8_4 < (l1.length : Int) := od_
          obtain ⟨ad149, e149, hx149_0, hx149_1, hx149_2, hx149_3, hx149_4, hx149_5⟩ := at_T40 HR1.out x8_4 p149 q149
          have hw149_5 := hx149_5
          have hw149_4 := hx149_4
          have hw149_3 := hx149_3
          have hw149_2 := hx149_2
          have hw149_1 := hx149_1
          have hw149_0 := hx149_0
          cases e149
          replace hx149_0 := (HB.out.cell (World.block_lt_of_cell? w _ hx149_0)).trans hx149_0
          replace hx149_1 := (HB.out.cell (World.block_lt_of_cell? w _ hx149_1)).trans hx149_1
          replace hx149_2 := (HB.out.cell (World.block_lt_of_cell? w _ hx149_2)).trans hx149_2
          replace hx149_3 := (HB.out.cell (World.block_lt_of_cell? w _ hx149_3)).trans hx149_3
          replace hx149_4 := (HB.out.cell (World.block_lt_of_cell? w _ hx149_4)).trans hx149_4
          replace hx149_5 := (HB.out.cell (World.block_lt_of_cell? w _ hx149_5)).trans hx149_5
          replace p149 := eq_true p149
          replace q149 := eq_true q149
          have p150 : 0 ≤ (x7_3 : Int) := od_
          have q150 : x7_3 < (l0.length : Int) := od_
          obtain ⟨ad150, e150, hx150_0, hx150_1, hx150_2, hx150_3, hx150_4, hx150_5⟩ := at_T40 HR0.out x7_3 p150 q150
          have hw150_5 := hx150_5
          have hw150_4 := hx150_4
          have hw150_3 := hx150_3
          have hw150_2 := hx150_2
          have hw150_1 := hx150_1
          have hw150_0 := hx150_0
          obtain rfl : ad148 = ad150 := (by injection e150)
          replace hx150_0 := (HB.out.cell (World.block_lt_of_cell? w _ hx150_0)).trans hx150_0
          replace hx150_1 := (HB.out.cell (World.block_lt_of_cell? w _ hx150_1)).trans hx150_1
          replace hx150_2 := (HB.out.cell (World.block_lt_of_cell? w _ hx150_2)).trans hx150_2
          replace hx150_3 := (HB.out.cell (World.block_lt_of_cell? w _ hx150_3)).trans hx150_3
          replace hx150_4 := (HB.out.cell (World.block_lt_of_cell? w _ hx150_4)).trans hx150_4
          replace hx150_5 := (HB.out.cell (World.block_lt_of_cell? w _ hx150_5)).trans hx150_5
          replace p150 := eq_true p150
          replace q150 := eq_true q150
          have p151 : 0 ≤ (x8_4 : Int) := od_
          have q151 : x8_4 < (l1.length : Int) := od_
          obtain ⟨ad151, e151, hx151_0, hx151_1, hx151_2, hx151_3, hx151_4, hx151_5⟩ := at_T40 HR1.out x8_4 p151 q151
          have hw151_5 := hx151_5
          have hw151_4 := hx151_4
          have hw151_3 := hx151_3
          have hw151_2 := hx151_2
          have hw151_1 := hx151_1
          have hw151_0 := hx151_0
          obtain rfl : ad149 = ad151 := (by injection e151)
          replace hx151_0 := (HB.out.cell (World.block_lt_of_cell? w _ hx151_0)).trans hx151_0
          replace hx151_1 := (HB.out.cell (World.block_lt_of_cell? w _ hx151_1)).trans hx151_1
          replace hx151_2 := (HB.out.cell (World.block_lt_of_cell? w _ hx151_2)).trans hx151_2
          replace hx151_3 := (HB.out.cell (World.block_lt_of_cell? w _ hx151_3)).trans hx151_3
          replace hx151_4 := (HB.out.cell (World.block_lt_of_cell? w _ hx151_4)).trans hx151_4
          replace hx151_5 := (HB.out.cell (World.block_lt_of_cell? w _ hx151_5)).trans hx151_5
          replace p151 := eq_true p151
          replace q151 := eq_true q151
          have p152 : 0 ≤ (x7_3 : Int) := od_
          have q152 : x7_3 < (l0.length : Int) := od_
          obtain ⟨ad152, e152, hx152_0, hx152_1, hx152_2, hx152_3, hx152_4, hx152_5⟩ := at_T40 HR0.out x7_3 p152 q152
          have hw152_5 := hx152_5
          have hw152_4 := hx152_4
          have hw152_3 := hx152_3
          have hw152_2 := hx152_2
          have hw152_1 := hx152_1
          have hw152_0 := hx152_0
          obtain rfl : ad148 = ad152 := (by injection e152)
          replace hx152_0 := (HB.out.cell (World.block_lt_of_cell? w _ hx152_0)).trans hx152_0
          replace hx152_1 := (HB.out.cell (World.block_lt_of_cell? w _ hx152_1)).trans hx152_1
          replace hx152_2 := (HB.out.cell (World.block_lt_of_cell? w _ hx152_2)).trans hx152_2
          replace hx152_3 := (HB.out.cell (World.block_lt_of_cell? w _ hx152_3)).trans hx152_3
          replace hx152_4 := (HB.out.cell (World.block_lt_of_cell? w _ hx152_4)).trans hx152_4
          replace hx152_5 := (HB.out.cell (World.block_lt_of_cell? w _ hx152_5)).trans hx152_5
          replace p152 := eq_true p152
          replace q152 := eq_true q152
          have p153 : 0 ≤ (x8_4 : Int) := od_
          have q153 : x8_4 < (l1.length : Int) := od_
          obtain ⟨ad153, e153, hx153_0, hx153_1, hx153_2, hx153_3, hx153_4, hx153_5⟩ := at_T40 HR1.out x8_4 p153 q153
          have hw153_5 := hx153_5
          have hw153_4 := hx153_4
          have hw153_3 := hx153_3
          have hw153_2 := hx153_2
          have hw153_1 := hx153_1
          have hw153_0 := hx153_0
          obtain rfl : ad149 = ad153 := (by injection e153)
          replace hx153_0 := (HB.out.cell (World.block_lt_of_cell? w _ hx153_0)).trans hx153_0
          replace hx153_1 := (HB.out.cell (World.block_lt_of_cell? w _ hx153_1)).trans hx153_1
          replace hx153_2 := (HB.out.cell (World.block_lt_of_cell? w _ hx153_2)).trans hx153_2
          replace hx153_3 := (HB.out.cell (World.block_lt_of_cell? w _ hx153_3)).trans hx153_3
          replace hx153_4 := (HB.out.cell (World.block_lt_of_cell? w _ hx153_4)).trans hx153_4
          replace hx153_5 := (HB.out.cell (World.block_lt_of_cell? w _ hx153_5)).trans hx153_5
          replace p153 := eq_true p153
          replace q153 := eq_true q153
          refine start_ (n := 35) (S := fun w' => w'.cell? (ad148.add ((x7_3).toNat * 6)) = some (.int .i64 ((rd_T40 l0 x7_3).f0)) ∧ w'.cell? ⟨(ad148.add ((x7_3).toNat * 6)).block, (ad148.add ((x7_3).toNat * 6)).off + 1, none⟩ = some (.int .i64 ((rd_T40 l0 x7_3).f1)) ∧ w'.cell? ⟨(ad148.add ((x7_3).toNat * 6)).block, (ad148.add ((x7_3).toNat * 6)).off + 2, none⟩ = some (.int .i64 ((rd_T40 l0 x7_3).f2)) ∧ w'.cell? ⟨(ad148.add ((x7_3).toNat * 6)).block, (ad148.add ((x7_3).toNat * 6)).off + 3, none⟩ = some (.int .i64 ((rd_T40 l0 x7_3).f3)) ∧ w'.cell? ⟨(ad148.add ((x7_3).toNat * 6)).block, (ad148.add ((x7_3).toNat * 6)).off + 4, none⟩ = some (.string ((rd_T40 l0 x7_3).f4)) ∧ w'.cell? ⟨(ad148.add ((x7_3).toNat * 6)).block, (ad148.add ((x7_3).toNat * 6)).off + 5, none⟩ = some (.int .i64 ((rd_T40 l0 x7_3).f5)) ∧ w'.cell? (ad149.add ((x8_4).toNat * 6)) = some (.int .i64 ((rd_T40 l1 x8_4).f0)) ∧ w'.cell? ⟨(ad149.add ((x8_4).toNat * 6)).block, (ad149.add ((x8_4).toNat * 6)).off + 1, none⟩ = some (.int .i64 ((rd_T40 l1 x8_4).f1)) ∧ w'.cell? ⟨(ad149.add ((x8_4).toNat * 6)).block, (ad149.add ((x8_4).toNat * 6)).off + 2, none⟩ = some (.int .i64 ((rd_T40 l1 x8_4).f2)) ∧ w'.cell? ⟨(ad149.add ((x8_4).toNat * 6)).block, (ad149.add ((x8_4).toNat * 6)).off + 3, none⟩ = some (.int .i64 ((rd_T40 l1 x8_4).f3)) ∧ w'.cell? ⟨(ad149.add ((x8_4).toNat * 6)).block, (ad149.add ((x8_4).toNat * 6)).off + 4, none⟩ = some (.string ((rd_T40 l1 x8_4).f4)) ∧ w'.cell? ⟨(ad149.add ((x8_4).toNat * 6)).block, (ad149.add ((x8_4).toNat * 6)).off + 5, none⟩ = some (.int .i64 ((rd_T40 l1 x8_4).f5)) ∧ w'.cell? (ad148.add ((x7_3).toNat * 6)) = some (.int .i64 ((rd_T40 l0 x7_3).f0)) ∧ w'.cell? ⟨(ad148.add ((x7_3).toNat * 6)).block, (ad148.add ((x7_3).toNat * 6)).off + 1, none⟩ = some (.int .i64 ((rd_T40 l0 x7_3).f1)) ∧ w'.cell? ⟨(ad148.add ((x7_3).toNat * 6)).block, (ad148.add ((x7_3).toNat * 6)).off + 2, none⟩ = some (.int .i64 ((rd_T40 l0 x7_3).f2)) ∧ w'.cell? ⟨(ad148.add ((x7_3).toNat * 6)).block, (ad148.add ((x7_3).toNat * 6)).off + 3, none⟩ = some (.int .i64 ((rd_T40 l0 x7_3).f3)) ∧ w'.cell? ⟨(ad148.add ((x7_3).toNat * 6)).block, (ad148.add ((x7_3).toNat * 6)).off + 4, none⟩ = some (.string ((rd_T40 l0 x7_3).f4)) ∧ w'.cell? ⟨(ad148.add ((x7_3).toNat * 6)).block, (ad148.add ((x7_3).toNat * 6)).off + 5, none⟩ = some (.int .i64 ((rd_T40 l0 x7_3).f5)) ∧ w'.cell? (ad149.add ((x8_4).toNat * 6)) = some (.int .i64 ((rd_T40 l1 x8_4).f0)) ∧ w'.cell? ⟨(ad149.add ((x8_4).toNat * 6)).block, (ad149.add ((x8_4).toNat * 6)).off + 1, none⟩ = some (.int .i64 ((rd_T40 l1 x8_4).f1)) ∧ w'.cell? ⟨(ad149.add ((x8_4).toNat * 6)).block, (ad149.add ((x8_4).toNat * 6)).off + 2, none⟩ = some (.int .i64 ((rd_T40 l1 x8_4).f2)) ∧ w'.cell? ⟨(ad149.add ((x8_4).toNat * 6)).block, (ad149.add ((x8_4).toNat * 6)).off + 3, none⟩ = some (.int .i64 ((rd_T40 l1 x8_4).f3)) ∧ w'.cell? ⟨(ad149.add ((x8_4).toNat * 6)).block, (ad149.add ((x8_4).toNat * 6)).off + 4, none⟩ = some (.string ((rd_T40 l1 x8_4).f4)) ∧ w'.cell? ⟨(ad149.add ((x8_4).toNat * 6)).block, (ad149.add ((x8_4).toNat * 6)).off + 5, none⟩ = some (.int .i64 ((rd_T40 l1 x8_4).f5)) ∧ w'.cell? (ad148.add ((x7_3).toNat * 6)) = some (.int .i64 ((rd_T40 l0 x7_3).f0)) ∧ w'.cell? ⟨(ad148.add ((x7_3).toNat * 6)).block, (ad148.add ((x7_3).toNat * 6)).off + 1, none⟩ = some (.int .i64 ((rd_T40 l0 x7_3).f1)) ∧ w'.cell? ⟨(ad148.add ((x7_3).toNat * 6)).block, (ad148.add ((x7_3).toNat * 6)).off + 2, none⟩ = some (.int .i64 ((rd_T40 l0 x7_3).f2)) ∧ w'.cell? ⟨(ad148.add ((x7_3).toNat * 6)).block, (ad148.add ((x7_3).toNat * 6)).off + 3, none⟩ = some (.int .i64 ((rd_T40 l0 x7_3).f3)) ∧ w'.cell? ⟨(ad148.add ((x7_3).toNat * 6)).block, (ad148.add ((x7_3).toNat * 6)).off + 4, none⟩ = some (.string ((rd_T40 l0 x7_3).f4)) ∧ w'.cell? ⟨(ad148.add ((x7_3).toNat * 6)).block, (ad148.add ((x7_3).toNat * 6)).off + 5, none⟩ = some (.int .i64 ((rd_T40 l0 x7_3).f5)) ∧ w'.cell? (ad149.add ((x8_4).toNat * 6)) = some (.int .i64 ((rd_T40 l1 x8_4).f0)) ∧ w'.cell? ⟨(ad149.add ((x8_4).toNat * 6)).block, (ad149.add ((x8_4).toNat * 6)).off + 1, none⟩ = some (.int .i64 ((rd_T40 l1 x8_4).f1)) ∧ w'.cell? ⟨(ad149.add ((x8_4).toNat * 6)).block, (ad149.add ((x8_4).toNat * 6)).off + 2, none⟩ = some (.int .i64 ((rd_T40 l1 x8_4).f2)) ∧ w'.cell? ⟨(ad149.add ((x8_4).toNat * 6)).block, (ad149.add ((x8_4).toNat * 6)).off + 3, none⟩ = some (.int .i64 ((rd_T40 l1 x8_4).f3)) ∧ w'.cell? ⟨(ad149.add ((x8_4).toNat * 6)).block, (ad149.add ((x8_4).toNat * 6)).off + 4, none⟩ = some (.string ((rd_T40 l1 x8_4).f4)) ∧ w'.cell? ⟨(ad149.add ((x8_4).toNat * 6)).block, (ad149.add ((x8_4).toNat * 6)).off + 5, none⟩ = some (.int .i64 ((rd_T40 l1 x8_4).f5))) (ds := []) (msk 0 35) (by kernel_rfl) rfl rfl ⟨((HB.out.cell (World.block_lt_of_cell? w _ hw148_0)).trans hw148_0), ((HB.out.cell (World.block_lt_of_cell? w _ hw148_1)).trans hw148_1), ((HB.out.cell (World.block_lt_of_cell? w _ hw148_2)).trans hw148_2), ((HB.out.cell (World.block_lt_of_cell? w _ hw148_3)).trans hw148_3), ((HB.out.cell (World.block_lt_of_cell? w _ hw148_4)).trans hw148_4), ((HB.out.cell (World.block_lt_of_cell? w _ hw148_5)).trans hw148_5), ((HB.out.cell (World.block_lt_of_cell? w _ hw149_0)).trans hw149_0), ((HB.out.cell (World.block_lt_of_cell? w _ hw149_1)).trans hw149_1), ((HB.out.cell (World.block_lt_of_cell? w _ hw149_2)).trans hw149_2), ((HB.out.cell (World.block_lt_of_cell? w _ hw149_3)).trans hw149_3), ((HB.out.cell (World.block_lt_of_cell? w _ hw149_4)).trans hw149_4), ((HB.out.cell (World.block_lt_of_cell? w _ hw149_5)).trans hw149_5), ((HB.out.cell (World.block_lt_of_cell? w _ hw150_0)).trans hw150_0), ((HB.out.cell (World.block_lt_of_cell? w _ hw150_1)).trans hw150_1), ((HB.out.cell (World.block_lt_of_cell? w _ hw150_2)).trans hw150_2), ((HB.out.cell (World.block_lt_of_cell? w _ hw150_3)).trans hw150_3), ((HB.out.cell (World.block_lt_of_cell? w _ hw150_4)).trans hw150_4), ((HB.out.cell (World.block_lt_of_cell? w _ hw150_5)).trans hw150_5), ((HB.out.cell (World.block_lt_of_cell? w _ hw151_0)).trans hw151_0), ((HB.out.cell (World.block_lt_of_cell? w _ hw151_1)).trans hw151_1), ((HB.out.cell (World.block_lt_of_cell? w _ hw151_2)).trans hw151_2), ((HB.out.cell (World.block_lt_of_cell? w _ hw151_3)).trans hw151_3), ((HB.out.cell (World.block_lt_of_cell? w _ hw151_4)).trans hw151_4), ((HB.out.cell (World.block_lt_of_cell? w _ hw151_5)).trans hw151_5), ((HB.out.cell (World.block_lt_of_cell? w _ hw152_0)).trans hw152_0), ((HB.out.cell (World.block_lt_of_cell? w _ hw152_1)).trans hw152_1), ((HB.out.cell (World.block_lt_of_cell? w _ hw152_2)).trans hw152_2), ((HB.out.cell (World.block_lt_of_cell? w _ hw152_3)).trans hw152_3), ((HB.out.cell (World.block_lt_of_cell? w _ hw152_4)).trans hw152_4), ((HB.out.cell (World.block_lt_of_cell? w _ hw152_5)).trans hw152_5), ((HB.out.cell (World.block_lt_of_cell? w _ hw153_0)).trans hw153_0), ((HB.out.cell (World.block_lt_of_cell? w _ hw153_1)).trans hw153_1), ((HB.out.cell (World.block_lt_of_cell? w _ hw153_2)).trans hw153_2), ((HB.out.cell (World.block_lt_of_cell? w _ hw153_3)).trans hw153_3), ((HB.out.cell (World.block_lt_of_cell? w _ hw153_4)).trans hw153_4), ((HB.out.cell (World.block_lt_of_cell? w _ hw153_5)).trans hw153_5)⟩ (fun hHeld => ?_); refine with_tabW spec_MergeEvents.tab12 spec_MergeEvents.bits12 (fun HT_ HW_ => ?_)
          generalize wr.drew = w25 at HO_6 HB hx148_0 hx148_1 hx148_2 hx148_3 hx148_4 hx148_5 hx149_0 hx149_1 hx149_2 hx149_3 hx149_4 hx149_5 hx150_0 hx150_1 hx150_2 hx150_3 hx150_4 hx150_5 hx151_0 hx151_1 hx151_2 hx151_3 hx151_4 hx151_5 hx152_0 hx152_1 hx152_2 hx152_3 hx152_4 hx152_5 hx153_0 hx153_1 hx153_2 hx153_3 hx153_4 hx153_5 hHeld ⊢
          refine pu_ 0 43 (msk 1 34) HT_.out ?_; refine pu_ 1 44 (msk 2 33) HT_.out ?_; refine pu_ 2 45 (msk 3 32) HT_.out ?_; refine pu_ 3 46 (msk 4 31) HT_.out ?_; refine pu_ 5 48 (mskl 35 4 [5]) HT_.out ?_; refine pu_ 6 49 (mskl 35 4 [5, 6]) HT_.out ?_; refine pu_ 7 50 (mskl 35 4 [5, 6, 7]) HT_.out ?_; refine pu_ 8 51 (mskl 35 4 [5, 6, 7, 8]) HT_.out ?_
          refine tk_ 4 47 (msk 9 26) HT_.out HW_.out hHeld ?_ (hy := by rintro w' ⟨s0, s1, s2, s3, s4, s5, s6, s7, s8, s9, s10, s11, s12, s13, s14, s15, s16, s17, s18, s19, s20, s21, s22, s23, s24, s25, s26, s27, s28, s29, s30, s31, s32, s33, s34, s35⟩; go_simp; with_reducible rfl)
          refine tk_ 9 52 (msk 10 25) HT_.out HW_.out hHeld ?_ (hy := by rintro w' ⟨s0, s1, s2, s3, s4, s5, s6, s7, s8, s9, s10, s11, s12, s13, s14, s15, s16, s17, s18, s19, s20, s21, s22, s23, s24, s25, s26, s27, s28, s29, s30, s31, s32, s33, s34, s35⟩; go_simp; with_reducible rfl)
          refine pu_ 10 53 (msk 11 24) HT_.out ?_; refine pu_ 11 54 (msk 12 23) HT_.out ?_; refine pu_ 12 55 (msk 13 22) HT_.out ?_; refine pu_ 13 56 (msk 14 21) HT_.out ?_; refine pu_ 14 57 (msk 15 20) HT_.out ?_; refine pu_ 15 58 (msk 16 19) HT_.out ?_; refine pu_ 17 60 (mskl 35 16 [17]) HT_.out ?_; refine pu_ 18 61 (mskl 35 16 [17, 18]) HT_.out ?_; refine pu_ 19 62 (mskl 35 16 [17, 18, 19]) HT_.out ?_; refine pu_ 20 63 (mskl 35 16 [17, 18, 19, 20]) HT_.out ?_
          refine tk_ 16 59 (msk 21 14) HT_.out HW_.out hHeld ?_ (hy := by rintro w' ⟨s0, s1, s2, s3, s4, s5, s6, s7, s8, s9, s10, s11, s12, s13, s14, s15, s16, s17, s18, s19, s20, s21, s22, s23, s24, s25, s26, s27, s28, s29, s30, s31, s32, s33, s34, s35⟩; go_simp; with_reducible rfl)
          refine tk_ 21 64 (msk 22 13) HT_.out HW_.out hHeld ?_ (hy := by rintro w' ⟨s0, s1, s2, s3, s4, s5, s6, s7, s8, s9, s10, s11, s12, s13, s14, s15, s16, s17, s18, s19, s20, s21, s22, s23, s24, s25, s26, s27, s28, s29, s30, s31, s32, s33, s34, s35⟩; go_simp; with_reducible rfl)
          refine pu_ 22 65 (msk 23 12) HT_.out ?_; refine pu_ 23 66 (msk 24 11) HT_.out ?_; refine pu_ 24 67 (msk 25 10) HT_.out ?_; refine pu_ 25 68 (msk 26 9) HT_.out ?_; refine pu_ 26 69 (msk 27 8) HT_.out ?_; refine pu_ 27 70 (msk 28 7) HT_.out ?_; refine pu_ 29 72 (mskl 35 28 [29]) HT_.out ?_; refine pu_ 30 73 (mskl 35 28 [29, 30]) HT_.out ?_; refine pu_ 31 74 (mskl 35 28 [29, 30, 31]) HT_.out ?_
          refine tk_ 28 71 (msk 32 3) HT_.out HW_.out hHeld ?_ (hy := by rintro w' ⟨s0, s1, s2, s3, s4, s5, s6, s7, s8, s9, s10, s11, s12, s13, s14, s15, s16, s17, s18, s19, s20, s21, s22, s23, s24, s25, s26, s27, s28, s29, s30, s31, s32, s33, s34, s35⟩; go_simp; with_reducible rfl)
          refine tk_ 32 75 (msk 33 2) HT_.out HW_.out hHeld ?_ (hy := by rintro w' ⟨s0, s1, s2, s3, s4, s5, s6, s7, s8, s9, s10, s11, s12, s13, s14, s15, s16, s17, s18, s19, s20, s21, s22, s23, s24, s25, s26, s27, s28, s29, s30, s31, s32, s33, s34, s35⟩; go_simp; with_reducible rfl)
          refine pu_ 33 76 (msk 34 1) HT_.out ?_; refine pu_ 34 77 (msk 35 0) HT_.out ?_
          refine done_ (done_of HT_.out (by kernel_rfl)) ?_
          try go_wp2
          go_roundg k4
          case measure => have := HJ2.out; have := HJ7.out; have := HK3.out; have := HK4.out; omega
          case rel => exact ⟨(wrap64 (x8_4 + 1)), (by first | rfl | (simp; done) | (simp [*]; done)), H', ⟨by have := HJ2.out; have := HJ7.out; have := HK3.out; have := HK4.out; omega⟩, ⟨by (with_reducible repeat (first | apply Kd.R_alloc | apply Kd.R_drewN | apply Kd.R_drew)); exact HO_6.out⟩, ⟨by repeat (first | (with_reducible first | exact HB.out | apply below_alloc | apply pw_below_drewN | apply below_drew1) | exact HB.out)⟩⟩
       rw [if_neg c16] at H
       have c16b0 : decide (x7_3 < (l0.length : Int)) = false := decide_eq_false c16
       clear c16
       obtain ⟨y154, hy154⟩ : ∃ y_ : List (S40), y_ = (([] : List (S40))) := ⟨_, rfl⟩
       replace H : (spec_MergeEvents.l2 k3 l0 l1 y143 y154 0 0) = some (r1, r2) := by first | (rw [hy154]; with_reducible exact H) | (have H2_ := (Option.bind_some _ _).symm.trans H; rw [hy154]; with_reducible exact H2_) | (have H2_ := (Option.bind_some _ _).symm.trans H; with_reducible exact H2_) | with_reducible exact H | (rw [hy154]; exact H) | exact H
       have Ny154 := Aside0.mk hy154
       clear hy154
       have H' := Aside0.mk H
       clear H
       go_wp2_with (first | ((with_reducible refine gate_dst (N := 79) rfl ?_); (try (refine gate_guard (by rfl) ?_; dsimp only)); refine Kd.R_lit k40 _ 40 ?hg (N := 79) ?hd (xs := ([] : List (S40))) (inner := []) (ok := fun _ => True) (okp := fun _ => True) ?hr ?hp (fun _ hk => hk) trivial (Below.refl _ _) (Nat.le_refl _) (by simp) ?_; (case hd => rfl); (case hg => rfl); (case hr => first | (go_simp; done) | (go_simp; rfl)); (case hp => exact (Reps.none _ _)); intro v155 w28 ho29 hb hg_ hnew_; clear hg_ hnew_; (first | rw [← Ny154.out] at ho29 | (simp only [Int.reduceToNat] at ho29; rw [← Ny154.out] at ho29)); have n0_ := Aside0.mk (Kd.R_elder' (by (with_reducible repeat (first | apply Kd.R_alloc | apply Kd.R_drewN | apply Kd.R_drew)); exact HO_6.out) (Kd.R_base ho29) hb); have n1_ := Aside0.mk (Kd.R_lower (Kd.R_new' ho29 (Kd.R_lt (by (with_reducible repeat (first | apply Kd.R_alloc | apply Kd.R_drewN | apply Kd.R_drew)); exact HO_6.out))) (below_size bl_)); have n2_ := Aside0.mk (below_step bl_ hb); clear HO_6; clear HB; have HO_6 := n0_; have HO156 := n1_; have HB := n2_; clear n0_ n1_ n2_; clear hb ho29))
       go_loopg [9, 10, 11] k3 (fun kq v9 v10 v11 w' => ∃ (x9_4 : List (S40)) (x10_4 : Int) (x11_4 : Int), v10 = .int .i64 x10_4 ∧ v11 = .int .i64 x11_4 ∧ Aside0 (spec_MergeEvents.l2 kq l0 l1 y143 x9_4 x10_4 x11_4 = some (r1, r2)) ∧ Aside0 (kq ≤ k3) ∧ Aside0 (Kd.R k40 40 w' w.heap.size (fun k_ => some k_ ≠ (v9 : Value).ownBlock) v144 y143) ∧ Aside0 (Kd.R k40 40 w' w.heap.size (fun k_ => some k_ ≠ (v144 : Value).ownBlock) v9 x9_4) ∧ Aside0 (Below w.heap.size w w'))
       case atStart => exact ⟨(y154), (0), (0), (by first | rfl | (simp; done) | (simp [*]; done)), (by first | rfl | (simp; done) | (simp [*]; done)), H', ⟨Nat.le_refl _⟩, ⟨by (with_reducible repeat (first | apply Kd.R_alloc | apply Kd.R_drewN | apply Kd.R_drew)); exact Kd.R_mono HO_6.out (fun _ hk => hk.2)⟩, ⟨by (with_reducible repeat (first | apply Kd.R_alloc | apply Kd.R_drewN | apply Kd.R_drew)); exact Kd.R_mono HO156.out (fun _ hk => hk.2)⟩, ⟨by repeat (first | (with_reducible first | exact HB.out | apply below_alloc | apply pw_below_drewN | apply below_drew1) | exact HB.out)⟩⟩
       case round =>
        clear H'
        (try clear p1); (try clear q1); (try clear hx1); (try clear c2); (try clear p6); (try clear p14); (try clear q14); (try clear hx14); (try clear p15); (try clear q15); (try clear hx15); (try clear c16); (try clear c16b0); (try clear c17); (try clear c17b0); (try clear c18); (try clear c19); (try clear c20); (try clear c21); (try clear c21b0); (try clear c21b1); (try clear hx148_0); (try clear hx148_1); (try clear hx148_2); (try clear hx148_3); (try clear hx148_4); (try clear hx148_5); (try clear hx149_0); (try clear hx149_1); (try clear hx149_2); (try clear hx149_3); (try clear hx149_4); (try clear hx149_5); (try clear hx150_0); (try clear hx150_1); (try clear hx150_2); (try clear hx150_3); (try clear hx150_4); (try clear hx150_5); (try clear hx151_0); (try clear hx151_1); (try clear hx151_2); (try clear hx151_3); (try clear hx151_4); (try clear hx151_5); (try clear p148); (try clear p149); (try clear p150); (try clear p151); (try clear q148); (try clear q149); (try clear q150); (try clear q151)
        obtain ⟨x9_4, x10_4, x11_4, rfl, rfl, HA, HK4, HO_6, HO_9, HB⟩ := hrel
        cases gk with
        | zero => exact absurd HA.out (by simp [spec_MergeEvents.l2])
        | succ k4 =>
         have H := HA.out
         clear HA
         simp only [spec_MergeEvents.l2] at H
         have HC30 := Aside0.mk H
         clear H
         go_upto_region 17 with (fail)
         go_cut [89] (fun v89 wc => ∃ (kq : Nat) (x89_29 : Bool), v89 = .bool x89_29 ∧ Aside0 (spec_MergeEvents.j5 kq l0 l1 y143 x9_4 x10_4 x11_4 x89_29 = some (r1, r2)) ∧ Aside0 (kq ≤ k4) ∧ Aside0 (Kd.R k40 40 wc w.heap.size (fun k_ => some k_ ≠ (u9 : Value).ownBlock) v144 y143) ∧ Aside0 (Kd.R k40 40 wc w.heap.size (fun k_ => some k_ ≠ (v144 : Value).ownBlock) u9 x9_4) ∧ Aside0 (Below w.heap.size w wc))
         case first =>
          have H := HC30.out
          clear HC30
          by_cases c31 : x10_4 < (l0.length : Int)
          ·rw [if_pos c31] at H
           have c31b0 : decide (x10_4 < (l0.length : Int)) = true := decide_eq_true c31
           clear c31
           (first | rw [c31b0] | (simp only [i64_w, i32_w]; rw [c31b0]) | skip)
           have H' := Aside0.mk H
           clear H
           go_wp2
           go_meet
           case rel => exact ⟨_, (true), (by first | rfl | (simp; done) | (simp [*]; done)), H', ⟨by have := HJ2.out; have := HJ7.out; have := HK3.out; have := HK4.out; first | omega | exact Nat.le_refl _⟩, ⟨by (with_reducible repeat (first | apply Kd.R_alloc | apply Kd.R_drewN | apply Kd.R_drew)); exact HO_6.out⟩, ⟨by (with_reducible repeat (first | apply Kd.R_alloc | apply Kd.R_drewN | apply Kd.R_drew)); exact HO_9.out⟩, ⟨by repeat (first | (with_reducible first | exact HB.out | apply below_alloc | apply pw_below_drewN | apply below_drew1) | exact HB.out)⟩⟩
          rw [if_neg c31] at H
          have c31b0 : decide (x10_4 < (l0.length : Int)) = false := decide_eq_false c31
          clear c31
          (first | rw [c31b0] | (simp only [i64_w, i32_w]; rw [c31b0]) | skip)
          have H' := Aside0.mk H
          clear H
          go_wp2
          go_meet
          case rel => exact ⟨_, (decide (x11_4 < (l1.length : Int))), (by first | rfl | (simp; done) | (simp [*]; done)), H', ⟨by have := HJ2.out; have := HJ7.out; have := HK3.out; have := HK4.out; first | omega | exact Nat.le_refl _⟩, ⟨by (with_reducible repeat (first | apply Kd.R_alloc | apply Kd.R_drewN | apply Kd.R_drew)); exact HO_6.out⟩, ⟨by (with_reducible repeat (first | apply Kd.R_alloc | apply Kd.R_drewN | apply Kd.R_drew)); exact HO_9.out⟩, ⟨by repeat (first | (with_reducible first | exact HB.out | apply below_alloc | apply pw_below_drewN | apply below_drew1) | exact HB.out)⟩⟩
         case rest =>
          clear HC30
          (try clear c3); (try clear c31); (try clear c31b0)
          obtain ⟨kq, x89_29, rfl, HA, HJ29, HO_6, HO_9, HB⟩ := hcut
          cases kq with
          | zero => exact absurd HA.out (by simp [spec_MergeEvents.j5])
          | succ kj29 =>
           have H := HA.out
           clear HA
           simp only [spec_MergeEvents.j5] at H
           by_cases c32 : x89_29 = true
           rotate_left
           ·replace c32 := Bool.eq_false_iff.mpr c32
            subst c32
            have H1 : (if (x9_4.length : Int) > 120 then (some (y143, 9)) else ((spec_EventsOK.f kj29 x9_4).bind fun t182 => (if t182 = true then (some (x9_4, 0)) else (some (y143, 12))))) = some (r1, r2) := by rw [if_neg (show ¬ (false = true) by decide)] at H; exact H
            clear H
            have H := H1
            clear H1
            by_cases c63 : (x9_4.length : Int) > 120
            ·rw [if_pos c63] at H
             have c63b0 : decide (120 < (x9_4.length : Int)) = true := decide_eq_true c63
             have c63b1 : decide (120 < x9_4.length) = true := decide_eq_true (by omega)
             clear c63
             simp only [Option.some.injEq, Prod.mk.injEq] at H
             obtain ⟨rfl, rfl⟩ := H
             obtain ⟨Ao64, co64, eo64⟩ := Kd.R_slice HO_9.out
             subst eo64
             go_wp2
             go_ret2
             exact ⟨_, by first | rfl | (simp [errW_none, errW_some] <;> rfl) | (simp [*, errW_none, errW_some] <;> rfl), by (with_reducible repeat (first | apply Kd.R_alloc | apply Kd.R_drewN | apply Kd.R_drew)); exact Kd.R_mono HO_6.out (fun _ hk => trivial), by repeat (first | (with_reducible first | exact HB.out | apply below_alloc | apply pw_below_drewN | apply below_drew1) | exact HB.out)⟩
            rw [if_neg c63] at H
            have c63b0 : decide (120 < (x9_4.length : Int)) = false := decide_eq_false c63
            have c63b1 : decide (120 < x9_4.length) = false := decide_eq_false (by omega)
            clear c63
            replace H := Option.bind_eq_some_iff.mp H
            obtain ⟨t182, A650, H⟩ := H
            replace H : (if t182 = true then (some (x9_4, 0)) else (some (y143, 12))) = some (r1, r2) := H
            have A65 := Aside0.mk A650
            clear A650
            by_cases c66 : t182 = true
            ·subst c66
             have H1 : (some (x9_4, 0)) = some (r1, r2) := by rw [if_pos rfl] at H; exact H
             clear H
             have H := H1
             clear H1
             simp only [Option.some.injEq, Prod.mk.injEq] at H
             obtain ⟨rfl, rfl⟩ := H
             obtain ⟨Ao67, co67, eo67⟩ := Kd.R_slice HO_9.out
             subst eo67
             go_wp2_with (first | ((with_reducible refine gate_callee (f := 7) rfl ?_); refine goesL_ (some 172) rfl rfl Try.func7 (by kernel_rfl) rfl #[.slice Ao67 x9_4.length co67] rfl (by (try simp only [List.map_toArray, List.map_cons, List.map_nil]); first | done | rfl | (simp only [List.length_drop, List.length_take]; rfl)) ?_; (with_reducible refine (spec_EventsOK.calls kj29 _ _ x9_4 true _ ?side1 ?side2 A65.out).mono ?_); (case side1 => repeat (first | exact (Kd.R_reads' HO_9.out).2.2 | (with_reducible refine Kd.C_alloc ?_ _) | (with_reducible refine Kd.C_drewN ?_ _) | (with_reducible refine Kd.C_drew ?_))); (case side2 => exact (Kd.R_reads' HO_9.out).2.1); rintro e w68 ⟨rfl, hb⟩; refine ⟨_, rfl, ?_⟩; have n0_ := Aside0.mk (Kd.R_below (by (with_reducible repeat (first | apply Kd.R_alloc | apply Kd.R_drewN | apply Kd.R_drew)); exact HO_6.out) hb); have n1_ := Aside0.mk (Kd.R_below (by (with_reducible repeat (first | apply Kd.R_alloc | apply Kd.R_drewN | apply Kd.R_drew)); exact HO_9.out) hb); have n2_ := Aside0.mk (below_step bl_ hb); clear HO_6; clear HO_9; clear HB; have HO_6 := n0_; have HO_9 := n1_; have HB := n2_; clear n0_ n1_ n2_; (try clear hb); (try clear hb2); (try clear hk); (try clear hi)))
             go_ret2
             exact ⟨_, by first | rfl | (simp [errW_none, errW_some] <;> rfl) | (simp [*, errW_none, errW_some] <;> rfl), by (with_reducible repeat (first | apply Kd.R_alloc | apply Kd.R_drewN | apply Kd.R_drew)); exact Kd.R_mono HO_9.out (fun _ hk => trivial), by repeat (first | (with_reducible first | exact HB.out | apply below_alloc | apply pw_below_drewN | apply below_drew1) | exact HB.out)⟩
            replace c66 := Bool.eq_false_iff.mpr c66
            subst c66
            have H1 : (some (y143, 12)) = some (r1, r2) := by rw [if_neg (show ¬ (false = true) by decide)] at H; exact H
            clear H
            have H := H1
            clear H1
            simp only [Option.some.injEq, Prod.mk.injEq] at H
            obtain ⟨rfl, rfl⟩ := H
            obtain ⟨Ao69, co69, eo69⟩ := Kd.R_slice HO_9.out
            subst eo69
            go_wp2_with (first | ((with_reducible refine gate_callee (f := 7) rfl ?_); refine goesL_ (some 172) rfl rfl Try.func7 (by kernel_rfl) rfl #[.slice Ao69 x9_4.length co69] rfl (by (try simp only [List.map_toArray, List.map_cons, List.map_nil]); first | done | rfl | (simp only [List.length_drop, List.length_take]; rfl)) ?_; (with_reducible refine (spec_EventsOK.calls kj29 _ _ x9_4 false _ ?side1 ?side2 A65.out).mono ?_); (case side1 => repeat (first | exact (Kd.R_reads' HO_9.out).2.2 | (with_reducible refine Kd.C_alloc ?_ _) | (with_reducible refine Kd.C_drewN ?_ _) | (with_reducible refine Kd.C_drew ?_))); (case side2 => exact (Kd.R_reads' HO_9.out).2.1); rintro e w70 ⟨rfl, hb⟩; refine ⟨_, rfl, ?_⟩; have n0_ := Aside0.mk (Kd.R_below (by (with_reducible repeat (first | apply Kd.R_alloc | apply Kd.R_drewN | apply Kd.R_drew)); exact HO_6.out) hb); have n1_ := Aside0.mk (Kd.R_below (by (with_reducible repeat (first | apply Kd.R_alloc | apply Kd.R_drewN | apply Kd.R_drew)); exact HO_9.out) hb); have n2_ := Aside0.mk (below_step bl_ hb); clear HO_6; clear HO_9; clear HB; have HO_6 := n0_; have HO_9 := n1_; have HB := n2_; clear n0_ n1_ n2_; (try clear hb); (try clear hb2); (try clear hk); (try clear hi)))
            go_ret2
            exact ⟨_, by first | rfl | (simp [errW_none, errW_some] <;> rfl) | (simp [*, errW_none, errW_some] <;> rfl), by (with_reducible repeat (first | apply Kd.R_alloc | apply Kd.R_drewN | apply Kd.R_drew)); exact Kd.R_mono HO_6.out (fun _ hk => trivial), by repeat (first | (with_reducible first | exact HB.out | apply below_alloc | apply pw_below_drewN | apply below_drew1) | exact HB.out)⟩

           subst c32
           have H1 : (if x10_4 = (l0.length : Int) then (if 0 ≤ x11_4 then (if x11_4 < (l1.length : Int) then (if x9_4.length < 2513169434916 then (spec_MergeEvents.l2 kj29 l0 l1 y143 (x9_4 ++ [(⟨(rd_T40 l1 x11_4).f0, (rd_T40 l1 x11_4).f1, (rd_T40 l1 x11_4).f2, (rd_T40 l1 x11_4).f3, (rd_T40 l1 x11_4).f4, (rd_T40 l1 x11_4).f5⟩ : S40)]) x10_4 (wrap64 (x11_4 + 1))) else (none)) else (none)) else (none)) else (if x11_4 = (l1.length : Int) then (if 0 ≤ x10_4 then (if x10_4 < (l0.length : Int) then (if x9_4.length < 2513169434916 then (spec_MergeEvents.l2 kj29 l0 l1 y143 (x9_4 ++ [(⟨(rd_T40 l0 x10_4).f0, (rd_T40 l0 x10_4).f1, (rd_T40 l0 x10_4).f2, (rd_T40 l0 x10_4).f3, (rd_T40 l0 x10_4).f4, (rd_T40 l0 x10_4).f5⟩ : S40)]) (wrap64 (x10_4 + 1)) x11_4) else (none)) else (none)) else (none)) else (if 0 ≤ x10_4 then (if x10_4 < (l0.length : Int) then (if 0 ≤ x11_4 then (if x11_4 < (l1.length : Int) then (if (((rd_T40 l0 x10_4).f0) == ((rd_T40 l1 x11_4).f0) && (((rd_T40 l0 x10_4).f1) == ((rd_T40 l1 x11_4).f1) && (((rd_T40 l0 x10_4).f2) == ((rd_T40 l1 x11_4).f2) && (((rd_T40 l0 x10_4).f3) == ((rd_T40 l1 x11_4).f3) && ((((rd_T40 l0 x10_4).f4).toList) == (((rd_T40 l1 x11_4).f4).toList) && (((rd_T40 l0 x10_4).f5) == ((rd_T40 l1 x11_4).f5))))))) = true then (if x9_4.length < 2513169434916 then (spec_MergeEvents.l2 kj29 l0 l1 y143 (x9_4 ++ [(⟨(rd_T40 l0 x10_4).f0, (rd_T40 l0 x10_4).f1, (rd_T40 l0 x10_4).f2, (rd_T40 l0 x10_4).f3, (rd_T40 l0 x10_4).f4, (rd_T40 l0 x10_4).f5⟩ : S40)]) (wrap64 (x10_4 + 1)) (wrap64 (x11_4 + 1))) else (none)) else ((spec_l12Ahead.f ((rd_T40 l0 x10_4).f0) ((rd_T40 l0 x10_4).f1) ((rd_T40 l0 x10_4).f2) ((rd_T40 l0 x10_4).f3) ((rd_T40 l0 x10_4).f4) ((rd_T40 l0 x10_4).f5) ((rd_T40 l1 x11_4).f0) ((rd_T40 l1 x11_4).f1) ((rd_T40 l1 x11_4).f2) ((rd_T40 l1 x11_4).f3) ((rd_T40 l1 x11_4).f4) ((rd_T40 l1 x11_4).f5)).bind fun t173 => (if t173 = true then (if x9_4.length < 2513169434916 then (spec_MergeEvents.l2 kj29 l0 l1 y143 (x9_4 ++ [(⟨(rd_T40 l0 x10_4).f0, (rd_T40 l0 x10_4).f1, (rd_T40 l0 x10_4).f2, (rd_T40 l0 x10_4).f3, (rd_T40 l0 x10_4).f4, (rd_T40 l0 x10_4).f5⟩ : S40)]) (wrap64 (x10_4 + 1)) x11_4) else (none)) else (if x9_4.length < 2513169434916 then (spec_MergeEvents.l2 kj29 l0 l1 y143 (x9_4 ++ [(⟨(rd_T40 l1 x11_4).f0, (rd_T40 l1 x11_4).f1, (rd_T40 l1 x11_4).f2, (rd_T40 l1 x11_4).f3, (rd_T40 l1 x11_4).f4, (rd_T40 l1 x11_4).f5⟩ : S40)]) x10_4 (wrap64 (x11_4 + 1))) else (none))))) else (none)) else (none)) else (none)) else (none)))) = some (r1, r2) := by rw [if_pos rfl] at H; exact H
           clear H
           have H := H1
           clear H1
           by_cases c33 : x10_4 = (l0.length : Int)
           ·rw [if_pos c33] at H
            have c33b0 : (x10_4 == (l0.length : Int)) = true := beq_iff_eq.mpr c33
            have c33b1 : (x10_4 != (l0.length : Int)) = false := bne_eq_false_iff_eq.mpr c33
            clear c33
            by_cases c34 : 0 ≤ x11_4
            rotate_left
            ·rw [if_neg c34] at H
             exact absurd H (by simp)
            rw [if_pos c34] at H
            have c34b0 : decide (0 ≤ x11_4) = true := decide_eq_true c34
            clear c34
            by_cases c35 : x11_4 < (l1.length : Int)
            rotate_left
            ·rw [if_neg c35] at H
             exact absurd H (by simp)
            rw [if_pos c35] at H
            have c35b0 : decide (x11_4 < (l1.length : Int)) = true := decide_eq_true c35
            clear c35
            by_cases c36 : x9_4.length < 2513169434916
            rotate_left
            ·rw [if_neg c36] at H
             exact absurd H (by simp)
            rw [if_pos c36] at H
            have LMc36 := Aside0.mk c36
            clear c36
            obtain ⟨y158, hy158⟩ : ∃ y_ : List (S40), y_ = (x9_4 ++ [(⟨(rd_T40 l1 x11_4).f0, (rd_T40 l1 x11_4).f1, (rd_T40 l1 x11_4).f2, (rd_T40 l1 x11_4).f3, (rd_T40 l1 x11_4).f4, (rd_T40 l1 x11_4).f5⟩ : S40)]) := ⟨_, rfl⟩
            replace H : (spec_MergeEvents.l2 kj29 l0 l1 y143 y158 x10_4 (wrap64 (x11_4 + 1))) = some (r1, r2) := by first | (rw [hy158]; with_reducible exact H) | (have H2_ := (Option.bind_some _ _).symm.trans H; rw [hy158]; with_reducible exact H2_) | (have H2_ := (Option.bind_some _ _).symm.trans H; with_reducible exact H2_) | with_reducible exact H | (rw [hy158]; exact H) | exact H
            have Ny158 := Aside0.mk hy158
            clear hy158
            have H' := Aside0.mk H
            clear H
            have p157 : 0 ≤ (x11_4 : Int) := od_
            have q157 : x11_4 < (l1.length : Int) := od_
            obtain ⟨ad157, e157, hx157_0, hx157_1, hx157_2, hx157_3, hx157_4, hx157_5⟩ := at_T40 HR1.out x11_4 p157 q157
            cases e157
            replace hx157_0 := (HB.out.cell (World.block_lt_of_cell? w _ hx157_0)).trans hx157_0
            replace hx157_1 := (HB.out.cell (World.block_lt_of_cell? w _ hx157_1)).trans hx157_1
            replace hx157_2 := (HB.out.cell (World.block_lt_of_cell? w _ hx157_2)).trans hx157_2
            replace hx157_3 := (HB.out.cell (World.block_lt_of_cell? w _ hx157_3)).trans hx157_3
            replace hx157_4 := (HB.out.cell (World.block_lt_of_cell? w _ hx157_4)).trans hx157_4
            replace hx157_5 := (HB.out.cell (World.block_lt_of_cell? w _ hx157_5)).trans hx157_5
            replace p157 := eq_true p157
            replace q157 := eq_true q157
            go_wp2_with (first | ((with_reducible refine gate_builtin (b := .append) (xs := #[.tmp 104, .tmp 109]) rfl ?_); (try (refine gate_guard (by rfl) ?_; dsimp only)); at_builtin; refine Kd.R_append k40 (w0 := w) w.heap.size rfl (.tmp 104) (.tmp 109) 25 40 (.agg #[(.int .i64 0), (.int .i64 0), (.int .i64 0), (.int .i64 0), (.string ⟨#[]⟩), (.int .i64 0)]) 56 rfl Try.underlying25 info40 rfl (by decide) (by omega) u9 x9_4 (⟨(rd_T40 l1 x11_4).f0, (rd_T40 l1 x11_4).f1, (rd_T40 l1 x11_4).f2, (rd_T40 l1 x11_4).f3, (rd_T40 l1 x11_4).f4, (rd_T40 l1 x11_4).f5⟩ : S40) [.int .i64 ((rd_T40 l1 x11_4).f0), .int .i64 ((rd_T40 l1 x11_4).f1), .int .i64 ((rd_T40 l1 x11_4).f2), .int .i64 ((rd_T40 l1 x11_4).f3), .string ((rd_T40 l1 x11_4).f4), .int .i64 ((rd_T40 l1 x11_4).f5)] (fun k_ => some k_ ≠ (v144 : Value).ownBlock) (fun _ => False) rfl rfl ?aP (fun _ hk => hk.elim) ?aF ?aO ?aB ?aS ?aL ?_; (case aP => exact k40_mkM _ _ _ (⟨(rd_T40 l1 x11_4).f0, (rd_T40 l1 x11_4).f1, (rd_T40 l1 x11_4).f2, (rd_T40 l1 x11_4).f3, (rd_T40 l1 x11_4).f4, (rd_T40 l1 x11_4).f5⟩ : S40)); (case aB => exact bl_); (case aF => exact (fun k_ hk => Kd.fresh' (Kd.R_lt (by (with_reducible repeat (first | apply Kd.R_alloc | apply Kd.R_drewN | apply Kd.R_drew)); exact HO_6.out)) k_ hk)); (case aO => exact (by (with_reducible repeat (first | apply Kd.R_alloc | apply Kd.R_drewN | apply Kd.R_drew)); exact HO_9.out)); (case aS => exact (below_size bl_)); (case aL => have := LMc36.out; omega); intro v159 w37 ho hb hg hat; rw [← Ny158.out] at ho; have n0_ := Aside0.mk (Kd.R_after (ok := (fun _ => True)) (by (with_reducible repeat (first | apply Kd.R_alloc | apply Kd.R_drewN | apply Kd.R_drew)); exact Kd.R_mono HO_6.out (fun _ hk => ⟨trivial, hk⟩)) hg hat); have n1_ := Aside0.mk (hb); have n2_ := Aside0.mk (ho); clear HO_6; clear HB; clear HO_9; have HO_6 := n0_; have HB := n1_; have HO160 := n2_; clear n0_ n1_ n2_; clear ho hb hg hat))
            go_roundg kj29
            case measure => have := HJ2.out; have := HJ7.out; have := HK3.out; have := HK4.out; have := HJ29.out; omega
            case rel => exact ⟨(y158), (x10_4), (wrap64 (x11_4 + 1)), (by first | rfl | (simp; done) | (simp [*]; done)), (by first | rfl | (simp; done) | (simp [*]; done)), H', ⟨by have := HJ2.out; have := HJ7.out; have := HK3.out; have := HK4.out; have := HJ29.out; omega⟩, ⟨by (with_reducible repeat (first | apply Kd.R_alloc | apply Kd.R_drewN | apply Kd.R_drew)); exact Kd.R_mono HO_6.out (fun _ hk => hk.2)⟩, ⟨by (with_reducible repeat (first | apply Kd.R_alloc | apply Kd.R_drewN | apply Kd.R_drew)); exact HO160.out⟩, ⟨by repeat (first | (with_reducible first | exact HB.out | apply below_alloc | apply pw_below_drewN | apply below_drew1) | exact HB.out)⟩⟩
           rw [if_neg c33] at H
           have c33b0 : (x10_4 == (l0.length : Int)) = false := beq_eq_false_iff_ne.mpr c33
           have c33b1 : (x10_4 != (l0.length : Int)) = true := bne_iff_ne.mpr c33
           by_cases c38 : x11_4 = (l1.length : Int)
           ·rw [if_pos c38] at H
            have c38b0 : (x11_4 == (l1.length : Int)) = true := beq_iff_eq.mpr c38
            have c38b1 : (x11_4 != (l1.length : Int)) = false := bne_eq_false_iff_eq.mpr c38
            clear c38
            by_cases c39 : 0 ≤ x10_4
            rotate_left
            ·rw [if_neg c39] at H
             exact absurd H (by simp)
            rw [if_pos c39] at H
            have c39b0 : decide (0 ≤ x10_4) = true := decide_eq_true c39
            clear c39
            by_cases c40 : x10_4 < (l0.length : Int)
            rotate_left
            ·rw [if_neg c40] at H
             exact absurd H (by simp)
            rw [if_pos c40] at H
            have c40b0 : decide (x10_4 < (l0.length : Int)) = true := decide_eq_true c40
            clear c40
            by_cases c41 : x9_4.length < 2513169434916
            rotate_left
            ·rw [if_neg c41] at H
             exact absurd H (by simp)
            rw [if_pos c41] at H
            have LMc41 := Aside0.mk c41
            clear c41
            obtain ⟨y162, hy162⟩ : ∃ y_ : List (S40), y_ = (x9_4 ++ [(⟨(rd_T40 l0 x10_4).f0, (rd_T40 l0 x10_4).f1, (rd_T40 l0 x10_4).f2, (rd_T40 l0 x10_4).f3, (rd_T40 l0 x10_4).f4, (rd_T40 l0 x10_4).f5⟩ : S40)]) := ⟨_, rfl⟩
            replace H : (spec_MergeEvents.l2 kj29 l0 l1 y143 y162 (wrap64 (x10_4 + 1)) x11_4) = some (r1, r2) := by first | (rw [hy162]; with_reducible exact H) | (have H2_ := (Option.bind_some _ _).symm.trans H; rw [hy162]; with_reducible exact H2_) | (have H2_ := (Option.bind_some _ _).symm.trans H; with_reducible exact H2_) | with_reducible exact H | (rw [hy162]; exact H) | exact H
            have Ny162 := Aside0.mk hy162
            clear hy162
            have H' := Aside0.mk H
            clear H
            have p161 : 0 ≤ (x10_4 : Int) := od_
            have q161 : x10_4 < (l0.length : Int) := od_
            obtain ⟨ad161, e161, hx161_0, hx161_1, hx161_2, hx161_3, hx161_4, hx161_5⟩ := at_T40 HR0.out x10_4 p161 q161
            cases e161
            replace hx161_0 := (HB.out.cell (World.block_lt_of_cell? w _ hx161_0)).trans hx161_0
            replace hx161_1 := (HB.out.cell (World.block_lt_of_cell? w _ hx161_1)).trans hx161_1
            replace hx161_2 := (HB.out.cell (World.block_lt_of_cell? w _ hx161_2)).trans hx161_2
            replace hx161_3 := (HB.out.cell (World.block_lt_of_cell? w _ hx161_3)).trans hx161_3
            replace hx161_4 := (HB.out.cell (World.block_lt_of_cell? w _ hx161_4)).trans hx161_4
            replace hx161_5 := (HB.out.cell (World.block_lt_of_cell? w _ hx161_5)).trans hx161_5
            replace p161 := eq_true p161
            replace q161 := eq_true q161
            go_wp2_with (first | ((with_reducible refine gate_builtin (b := .append) (xs := #[.tmp 118, .tmp 123]) rfl ?_); (try (refine gate_guard (by rfl) ?_; dsimp only)); at_builtin; refine Kd.R_append k40 (w0 := w) w.heap.size rfl (.tmp 118) (.tmp 123) 25 40 (.agg #[(.int .i64 0), (.int .i64 0), (.int .i64 0), (.int .i64 0), (.string ⟨#[]⟩), (.int .i64 0)]) 56 rfl Try.underlying25 info40 rfl (by decide) (by omega) u9 x9_4 (⟨(rd_T40 l0 x10_4).f0, (rd_T40 l0 x10_4).f1, (rd_T40 l0 x10_4).f2, (rd_T40 l0 x10_4).f3, (rd_T40 l0 x10_4).f4, (rd_T40 l0 x10_4).f5⟩ : S40) [.int .i64 ((rd_T40 l0 x10_4).f0), .int .i64 ((rd_T40 l0 x10_4).f1), .int .i64 ((rd_T40 l0 x10_4).f2), .int .i64 ((rd_T40 l0 x10_4).f3), .string ((rd_T40 l0 x10_4).f4), .int .i64 ((rd_T40 l0 x10_4).f5)] (fun k_ => some k_ ≠ (v144 : Value).ownBlock) (fun _ => False) rfl rfl ?aP (fun _ hk => hk.elim) ?aF ?aO ?aB ?aS ?aL ?_; (case aP => exact k40_mkM _ _ _ (⟨(rd_T40 l0 x10_4).f0, (rd_T40 l0 x10_4).f1, (rd_T40 l0 x10_4).f2, (rd_T40 l0 x10_4).f3, (rd_T40 l0 x10_4).f4, (rd_T40 l0 x10_4).f5⟩ : S40)); (case aB => exact bl_); (case aF => exact (fun k_ hk => Kd.fresh' (Kd.R_lt (by (with_reducible repeat (first | apply Kd.R_alloc | apply Kd.R_drewN | apply Kd.R_drew)); exact HO_6.out)) k_ hk)); (case aO => exact (by (with_reducible repeat (first | apply Kd.R_alloc | apply Kd.R_drewN | apply Kd.R_drew)); exact HO_9.out)); (case aS => exact (below_size bl_)); (case aL => have := LMc41.out; omega); intro v163 w42 ho hb hg hat; rw [← Ny162.out] at ho; have n0_ := Aside0.mk (Kd.R_after (ok := (fun _ => True)) (by (with_reducible repeat (first | apply Kd.R_alloc | apply Kd.R_drewN | apply Kd.R_drew)); exact Kd.R_mono HO_6.out (fun _ hk => ⟨trivial, hk⟩)) hg hat); have n1_ := Aside0.mk (hb); have n2_ := Aside0.mk (ho); clear HO_6; clear HB; clear HO_9; have HO_6 := n0_; have HB := n1_; have HO164 := n2_; clear n0_ n1_ n2_; clear ho hb hg hat))
            go_roundg kj29
            case measure => have := HJ2.out; have := HJ7.out; have := HK3.out; have := HK4.out; have := HJ29.out; omega
            case rel => exact ⟨(y162), (wrap64 (x10_4 + 1)), (x11_4), (by first | rfl | (simp; done) | (simp [*]; done)), (by first | rfl | (simp; done) | (simp [*]; done)), H', ⟨by have := HJ2.out; have := HJ7.out; have := HK3.out; have := HK4.out; have := HJ29.out; omega⟩, ⟨by (with_reducible repeat (first | apply Kd.R_alloc | apply Kd.R_drewN | apply Kd.R_drew)); exact Kd.R_mono HO_6.out (fun _ hk => hk.2)⟩, ⟨by (with_reducible repeat (first | apply Kd.R_alloc | apply Kd.R_drewN | apply Kd.R_drew)); exact HO164.out⟩, ⟨by repeat (first | (with_reducible first | exact HB.out | apply below_alloc | apply pw_below_drewN | apply below_drew1) | exact HB.out)⟩⟩
           rw [if_neg c38] at H
           have c38b0 : (x11_4 == (l1.length : Int)) = false := beq_eq_false_iff_ne.mpr c38
           have c38b1 : (x11_4 != (l1.length : Int)) = true := bne_iff_ne.mpr c38
           by_cases c43 : 0 ≤ x10_4
           rotate_left
           ·rw [if_neg c43] at H
            exact absurd H (by simp)
           rw [if_pos c43] at H
           have c43b0 : decide (0 ≤ x10_4) = true := decide_eq_true c43
           clear c43
           by_cases c44 : x10_4 < (l0.length : Int)
           rotate_left
           ·rw [if_neg c44] at H
            exact absurd H (by simp)
           rw [if_pos c44] at H
           have c44b0 : decide (x10_4 < (l0.length : Int)) = true := decide_eq_true c44
           clear c44
           by_cases c45 : 0 ≤ x11_4
           rotate_left
           ·rw [if_neg c45] at H
            exact absurd H (by simp)
           rw [if_pos c45] at H
           have c45b0 : decide (0 ≤ x11_4) = true := decide_eq_true c45
           clear c45
           by_cases c46 : x11_4 < (l1.length : Int)
           rotate_left
           ·rw [if_neg c46] at H
            exact absurd H (by simp)
           rw [if_pos c46] at H
           have c46b0 : decide (x11_4 < (l1.length : Int)) = true := decide_eq_true c46
           clear c46
           by_cases c47 : (((rd_T40 l0 x10_4).f0) == ((rd_T40 l1 x11_4).f0) && (((rd_T40 l0 x10_4).f1) == ((rd_T40 l1 x11_4).f1) && (((rd_T40 l0 x10_4).f2) == ((rd_T40 l1 x11_4).f2) && (((rd_T40 l0 x10_4).f3) == ((rd_T40 l1 x11_4).f3) && ((((rd_T40 l0 x10_4).f4).toList) == (((rd_T40 l1 x11_4).f4).toList) && (((rd_T40 l0 x10_4).f5) == ((rd_T40 l1 x11_4).f5))))))) = true
           ·rw [if_pos c47] at H
            have c47b0 : (((rd_T40 l0 x10_4).f0) == ((rd_T40 l1 x11_4).f0) && (((rd_T40 l0 x10_4).f1) == ((rd_T40 l1 x11_4).f1) && (((rd_T40 l0 x10_4).f2) == ((rd_T40 l1 x11_4).f2) && (((rd_T40 l0 x10_4).f3) == ((rd_T40 l1 x11_4).f3) && ((((rd_T40 l0 x10_4).f4).toList) == (((rd_T40 l1 x11_4).f4).toList) && (((rd_T40 l0 x10_4).f5) == ((rd_T40 l1 x11_4).f5))))))) = true := c47
            (try (have c47b1 : decide (((rd_T40 l0 x10_4).f0) = ((rd_T40 l1 x11_4).f0) && (((rd_T40 l0 x10_4).f1) == ((rd_T40 l1 x11_4).f1) && (((rd_T40 l0 x10_4).f2) == ((rd_T40 l1 x11_4).f2) && (((rd_T40 l0 x10_4).f3) == ((rd_T40 l1 x11_4).f3) && ((((rd_T40 l0 x10_4).f4).toList) == (((rd_T40 l1 x11_4).f4).toList) && (((rd_T40 l0 x10_4).f5) == ((rd_T40 l1 x11_4).f5))))))) = true := by simpa using c47))
            (try (have c47b2 : (((rd_T40 l0 x10_4).f0) == ((rd_T40 l1 x11_4).f0) && (((rd_T40 l0 x10_4).f1) == ((rd_T40 l1 x11_4).f1) && (((rd_T40 l0 x10_4).f2) == ((rd_T40 l1 x11_4).f2) && (((rd_T40 l0 x10_4).f3) == ((rd_T40 l1 x11_4).f3) && ((((rd_T40 l0 x10_4).f4).toList) == (((rd_T40 l1 x11_4).f4).toList) && (((rd_T40 l0 x10_4).f5) == ((rd_T40 l1 x11_4).f5))))))) = true := by simpa using c47))
            clear c47
            by_cases c48 : x9_4.length < 2513169434916
            rotate_left
            ·rw [if_neg c48] at H
             exact absurd H (by simp)
            rw [if_pos c48] at H
            have LMc48 := Aside0.mk c48
            clear c48
            obtain ⟨y168, hy168⟩ : ∃ y_ : List (S40), y_ = (x9_4 ++ [(⟨(rd_T40 l0 x10_4).f0, (rd_T40 l0 x10_4).f1, (rd_T40 l0 x10_4).f2, (rd_T40 l0 x10_4).f3, (rd_T40 l0 x10_4).f4, (rd_T40 l0 x10_4).f5⟩ : S40)]) := ⟨_, rfl⟩
            replace H : (spec_MergeEvents.l2 kj29 l0 l1 y143 y168 (wrap64 (x10_4 + 1)) (wrap64 (x11_4 + 1))) = some (r1, r2) := by first | (rw [hy168]; with_reducible exact H) | (have H2_ := (Option.bind_some _ _).symm.trans H; rw [hy168]; with_reducible exact H2_) | (have H2_ := (Option.bind_some _ _).symm.trans H; with_reducible exact H2_) | with_reducible exact H | (rw [hy168]; exact H) | exact H
            have Ny168 := Aside0.mk hy168
            clear hy168
            have H' := Aside0.mk H
            clear H
            try go_wp2
            have n0_ := Aside0.mk (Kd.R_drew HO_6.out)
            have n1_ := Aside0.mk (Kd.R_drew HO_9.out)
            have n2_ := Aside0.mk (below_drew1 HB.out)
            clear HO_6
            clear HO_9
            clear HB
            have HO_6 := n0_
            have HO_9 := n1_
            have HB := n2_
            clear n0_ n1_ n2_
            have p165 : 0 ≤ (x10_4 : Int) := od_
            have q165 : x10_4 < (l0.length : Int) := od_
            obtain ⟨ad165, e165, hx165_0, hx165_1, hx165_2, hx165_3, hx165_4, hx165_5⟩ := at_T40 HR0.out x10_4 p165 q165
            have hw165_5 := hx165_5
            have hw165_4 := hx165_4
            have hw165_3 := hx165_3
            have hw165_2 := hx165_2
            have hw165_1 := hx165_1
            have hw165_0 := hx165_0
            cases e165
            replace hx165_0 := (HB.out.cell (World.block_lt_of_cell? w _ hx165_0)).trans hx165_0
            replace hx165_1 := (HB.out.cell (World.block_lt_of_cell? w _ hx165_1)).trans hx165_1
            replace hx165_2 := (HB.out.cell (World.block_lt_of_cell? w _ hx165_2)).trans hx165_2
            replace hx165_3 := (HB.out.cell (World.block_lt_of_cell? w _ hx165_3)).trans hx165_3
            replace hx165_4 := (HB.out.cell (World.block_lt_of_cell? w _ hx165_4)).trans hx165_4
            replace hx165_5 := (HB.out.cell (World.block_lt_of_cell? w _ hx165_5)).trans hx165_5
            replace p165 := eq_true p165
            replace q165 := eq_true q165
            have p166 : 0 ≤ (x11_4 : Int) := od_
            have q166 : x11_4 < (l1.length : Int) := od_
            obtain ⟨ad166, e166, hx166_0, hx166_1, hx166_2, hx166_3, hx166_4, hx166_5⟩ := at_T40 HR1.out x11_4 p166 q166
            have hw166_5 := hx166_5
            have hw166_4 := hx166_4
            have hw166_3 := hx166_3
            have hw166_2 := hx166_2
            have hw166_1 := hx166_1
            have hw166_0 := hx166_0
            cases e166
            replace hx166_0 := (HB.out.cell (World.block_lt_of_cell? w _ hx166_0)).trans hx166_0
            replace hx166_1 := (HB.out.cell (World.block_lt_of_cell? w _ hx166_1)).trans hx166_1
            replace hx166_2 := (HB.out.cell (World.block_lt_of_cell? w _ hx166_2)).trans hx166_2
            replace hx166_3 := (HB.out.cell (World.block_lt_of_cell? w _ hx166_3)).trans hx166_3
            replace hx166_4 := (HB.out.cell (World.block_lt_of_cell? w _ hx166_4)).trans hx166_4
            replace hx166_5 := (HB.out.cell (World.block_lt_of_cell? w _ hx166_5)).trans hx166_5
            replace p166 := eq_true p166
            replace q166 := eq_true q166
            refine start_ (n := 10) (S := fun w' => w'.cell? (ad165.add ((x10_4).toNat * 6)) = some (.int .i64 ((rd_T40 l0 x10_4).f0)) ∧ w'.cell? ⟨(ad165.add ((x10_4).toNat * 6)).block, (ad165.add ((x10_4).toNat * 6)).off + 1, none⟩ = some (.int .i64 ((rd_T40 l0 x10_4).f1)) ∧ w'.cell? ⟨(ad165.add ((x10_4).toNat * 6)).block, (ad165.add ((x10_4).toNat * 6)).off + 2, none⟩ = some (.int .i64 ((rd_T40 l0 x10_4).f2)) ∧ w'.cell? ⟨(ad165.add ((x10_4).toNat * 6)).block, (ad165.add ((x10_4).toNat * 6)).off + 3, none⟩ = some (.int .i64 ((rd_T40 l0 x10_4).f3)) ∧ w'.cell? ⟨(ad165.add ((x10_4).toNat * 6)).block, (ad165.add ((x10_4).toNat * 6)).off + 4, none⟩ = some (.string ((rd_T40 l0 x10_4).f4)) ∧ w'.cell? ⟨(ad165.add ((x10_4).toNat * 6)).block, (ad165.add ((x10_4).toNat * 6)).off + 5, none⟩ = some (.int .i64 ((rd_T40 l0 x10_4).f5)) ∧ w'.cell? (ad166.add ((x11_4).toNat * 6)) = some (.int .i64 ((rd_T40 l1 x11_4).f0)) ∧ w'.cell? ⟨(ad166.add ((x11_4).toNat * 6)).block, (ad166.add ((x11_4).toNat * 6)).off + 1, none⟩ = some (.int .i64 ((rd_T40 l1 x11_4).f1)) ∧ w'.cell? ⟨(ad166.add ((x11_4).toNat * 6)).block, (ad166.add ((x11_4).toNat * 6)).off + 2, none⟩ = some (.int .i64 ((rd_T40 l1 x11_4).f2)) ∧ w'.cell? ⟨(ad166.add ((x11_4).toNat * 6)).block, (ad166.add ((x11_4).toNat * 6)).off + 3, none⟩ = some (.int .i64 ((rd_T40 l1 x11_4).f3)) ∧ w'.cell? ⟨(ad166.add ((x11_4).toNat * 6)).block, (ad166.add ((x11_4).toNat * 6)).off + 4, none⟩ = some (.string ((rd_T40 l1 x11_4).f4)) ∧ w'.cell? ⟨(ad166.add ((x11_4).toNat * 6)).block, (ad166.add ((x11_4).toNat * 6)).off + 5, none⟩ = some (.int .i64 ((rd_T40 l1 x11_4).f5))) (ds := []) (msk 0 10) (by kernel_rfl) rfl rfl ⟨((HB.out.cell (World.block_lt_of_cell? w _ hw165_0)).trans hw165_0), ((HB.out.cell (World.block_lt_of_cell? w _ hw165_1)).trans hw165_1), ((HB.out.cell (World.block_lt_of_cell? w _ hw165_2)).trans hw165_2), ((HB.out.cell (World.block_lt_of_cell? w _ hw165_3)).trans hw165_3), ((HB.out.cell (World.block_lt_of_cell? w _ hw165_4)).trans hw165_4), ((HB.out.cell (World.block_lt_of_cell? w _ hw165_5)).trans hw165_5), ((HB.out.cell (World.block_lt_of_cell? w _ hw166_0)).trans hw166_0), ((HB.out.cell (World.block_lt_of_cell? w _ hw166_1)).trans hw166_1), ((HB.out.cell (World.block_lt_of_cell? w _ hw166_2)).trans hw166_2), ((HB.out.cell (World.block_lt_of_cell? w _ hw166_3)).trans hw166_3), ((HB.out.cell (World.block_lt_of_cell? w _ hw166_4)).trans hw166_4), ((HB.out.cell (World.block_lt_of_cell? w _ hw166_5)).trans hw166_5)⟩ (fun hHeld => ?_); refine with_tabW spec_MergeEvents.tab26 spec_MergeEvents.bits26 (fun HT_ HW_ => ?_)
            generalize wc.drew = w49 at HO_6 HO_9 HB hx165_0 hx165_1 hx165_2 hx165_3 hx165_4 hx165_5 hx166_0 hx166_1 hx166_2 hx166_3 hx166_4 hx166_5 hHeld ⊢
            refine pu_ 0 128 (msk 1 9) HT_.out ?_; refine pu_ 1 129 (msk 2 8) HT_.out ?_; refine pu_ 2 130 (msk 3 7) HT_.out ?_; refine pu_ 4 132 (mskl 10 3 [4]) HT_.out ?_; refine pu_ 5 133 (mskl 10 3 [4, 5]) HT_.out ?_; refine pu_ 6 134 (mskl 10 3 [4, 5, 6]) HT_.out ?_
            refine tk_ 3 131 (msk 7 3) HT_.out HW_.out hHeld ?_ (hy := by rintro w' ⟨s0, s1, s2, s3, s4, s5, s6, s7, s8, s9, s10, s11⟩; go_simp; with_reducible rfl)
            refine tk_ 7 135 (msk 8 2) HT_.out HW_.out hHeld ?_ (hy := by rintro w' ⟨s0, s1, s2, s3, s4, s5, s6, s7, s8, s9, s10, s11⟩; go_simp; with_reducible rfl)
            refine pu_ 8 136 (msk 9 1) HT_.out ?_; refine pu_ 9 127 (msk 10 0) HT_.out ?_
            refine done_ (done_of HT_.out (by kernel_rfl)) ?_
            have p167 : 0 ≤ (x10_4 : Int) := od_
            have q167 : x10_4 < (l0.length : Int) := od_
            obtain ⟨ad167, e167, hx167_0, hx167_1, hx167_2, hx167_3, hx167_4, hx167_5⟩ := at_T40 HR0.out x10_4 p167 q167
            obtain rfl : ad165 = ad167 := (by injection e167)
            replace hx167_0 := (HB.out.cell (World.block_lt_of_cell? w _ hx167_0)).trans hx167_0
            replace hx167_1 := (HB.out.cell (World.block_lt_of_cell? w _ hx167_1)).trans hx167_1
            replace hx167_2 := (HB.out.cell (World.block_lt_of_cell? w _ hx167_2)).trans hx167_2
            replace hx167_3 := (HB.out.cell (World.block_lt_of_cell? w _ hx167_3)).trans hx167_3
            replace hx167_4 := (HB.out.cell (World.block_lt_of_cell? w _ hx167_4)).trans hx167_4
            replace hx167_5 := (HB.out.cell (World.block_lt_of_cell? w _ hx167_5)).trans hx167_5
            replace p167 := eq_true p167
            replace q167 := eq_true q167
            try go_wp2_with (first | ((with_reducible refine gate_builtin (b := .append) (xs := #[.tmp 137, .tmp 142]) rfl ?_); (try (refine gate_guard (by rfl) ?_; dsimp only)); at_builtin; refine Kd.R_append k40 (w0 := w) w.heap.size rfl (.tmp 137) (.tmp 142) 25 40 (.agg #[(.int .i64 0), (.int .i64 0), (.int .i64 0), (.int .i64 0), (.string ⟨#[]⟩), (.int .i64 0)]) 56 rfl Try.underlying25 info40 rfl (by decide) (by omega) u9 x9_4 (⟨(rd_T40 l0 x10_4).f0, (rd_T40 l0 x10_4).f1, (rd_T40 l0 x10_4).f2, (rd_T40 l0 x10_4).f3, (rd_T40 l0 x10_4).f4, (rd_T40 l0 x10_4).f5⟩ : S40) [.int .i64 ((rd_T40 l0 x10_4).f0), .int .i64 ((rd_T40 l0 x10_4).f1), .int .i64 ((rd_T40 l0 x10_4).f2), .int .i64 ((rd_T40 l0 x10_4).f3), .string ((rd_T40 l0 x10_4).f4), .int .i64 ((rd_T40 l0 x10_4).f5)] (fun k_ => some k_ ≠ (v144 : Value).ownBlock) (fun _ => False) rfl rfl ?aP (fun _ hk => hk.elim) ?aF ?aO ?aB ?aS ?aL ?_; (case aP => exact k40_mkM _ _ _ (⟨(rd_T40 l0 x10_4).f0, (rd_T40 l0 x10_4).f1, (rd_T40 l0 x10_4).f2, (rd_T40 l0 x10_4).f3, (rd_T40 l0 x10_4).f4, (rd_T40 l0 x10_4).f5⟩ : S40)); (case aB => exact bl_); (case aF => exact (fun k_ hk => Kd.fresh' (Kd.R_lt (by (with_reducible repeat (first | apply Kd.R_alloc | apply Kd.R_drewN | apply Kd.R_drew)); exact HO_6.out)) k_ hk)); (case aO => exact (by (with_reducible repeat (first | apply Kd.R_alloc | apply Kd.R_drewN | apply Kd.R_drew)); exact HO_9.out)); (case aS => exact (below_size bl_)); (case aL => have := LMc48.out; omega); intro v169 w50 ho hb hg hat; rw [← Ny168.out] at ho; have n0_ := Aside0.mk (Kd.R_after (ok := (fun _ => True)) (by (with_reducible repeat (first | apply Kd.R_alloc | apply Kd.R_drewN | apply Kd.R_drew)); exact Kd.R_mono HO_6.out (fun _ hk => ⟨trivial, hk⟩)) hg hat); have n1_ := Aside0.mk (hb); have n2_ := Aside0.mk (ho); clear HO_6; clear HB; clear HO_9; have HO_6 := n0_; have HB := n1_; have HO170 := n2_; clear n0_ n1_ n2_; clear ho hb hg hat))
            go_roundg kj29
            case measure => have := HJ2.out; have := HJ7.out; have := HK3.out; have := HK4.out; have := HJ29.out; omega
            case rel => exact ⟨(y168), (wrap64 (x10_4 + 1)), (wrap64 (x11_4 + 1)), (by first | rfl | (simp; done) | (simp [*]; done)), (by first | rfl | (simp; done) | (simp [*]; done)), H', ⟨by have := HJ2.out; have := HJ7.out; have := HK3.out; have := HK4.out; have := HJ29.out; omega⟩, ⟨by (with_reducible repeat (first | apply Kd.R_alloc | apply Kd.R_drewN | apply Kd.R_drew)); exact Kd.R_mono HO_6.out (fun _ hk => hk.2)⟩, ⟨by (with_reducible repeat (first | apply Kd.R_alloc | apply Kd.R_drewN | apply Kd.R_drew)); exact HO170.out⟩, ⟨by repeat (first | (with_reducible first | exact HB.out | apply below_alloc | apply pw_below_drewN | apply below_drew1) | exact HB.out)⟩⟩
           rw [if_neg c47] at H
           have c47b0 : (((rd_T40 l0 x10_4).f0) == ((rd_T40 l1 x11_4).f0) && (((rd_T40 l0 x10_4).f1) == ((rd_T40 l1 x11_4).f1) && (((rd_T40 l0 x10_4).f2) == ((rd_T40 l1 x11_4).f2) && (((rd_T40 l0 x10_4).f3) == ((rd_T40 l1 x11_4).f3) && ((((rd_T40 l0 x10_4).f4).toList) == (((rd_T40 l1 x11_4).f4).toList) && (((rd_T40 l0 x10_4).f5) == ((rd_T40 l1 x11_4).f5))))))) = false := by simpa using c47
           (try (have c47b1 : decide (((rd_T40 l0 x10_4).f0) = ((rd_T40 l1 x11_4).f0) && (((rd_T40 l0 x10_4).f1) == ((rd_T40 l1 x11_4).f1) && (((rd_T40 l0 x10_4).f2) == ((rd_T40 l1 x11_4).f2) && (((rd_T40 l0 x10_4).f3) == ((rd_T40 l1 x11_4).f3) && ((((rd_T40 l0 x10_4).f4).toList) == (((rd_T40 l1 x11_4).f4).toList) && (((rd_T40 l0 x10_4).f5) == ((rd_T40 l1 x11_4).f5))))))) = false := by simpa using c47))
           (try (have c47b2 : (((rd_T40 l0 x10_4).f0) == ((rd_T40 l1 x11_4).f0) && (((rd_T40 l0 x10_4).f1) == ((rd_T40 l1 x11_4).f1) && (((rd_T40 l0 x10_4).f2) == ((rd_T40 l1 x11_4).f2) && (((rd_T40 l0 x10_4).f3) == ((rd_T40 l1 x11_4).f3) && ((((rd_T40 l0 x10_4).f4).toList) == (((rd_T40 l1 x11_4).f4).toList) && (((rd_T40 l0 x10_4).f5) == ((rd_T40 l1 x11_4).f5))))))) = false := by simpa using c47))
           (try (have c47b3 : ¬ (((rd_T40 l0 x10_4).f0) = ((rd_T40 l1 x11_4).f0) && (((rd_T40 l0 x10_4).f1) == ((rd_T40 l1 x11_4).f1) && (((rd_T40 l0 x10_4).f2) == ((rd_T40 l1 x11_4).f2) && (((rd_T40 l0 x10_4).f3) == ((rd_T40 l1 x11_4).f3) && ((((rd_T40 l0 x10_4).f4).toList) == (((rd_T40 l1 x11_4).f4).toList) && (((rd_T40 l0 x10_4).f5) == ((rd_T40 l1 x11_4).f5))))))) := by simpa using c47))
           clear c47
           replace H := Option.bind_eq_some_iff.mp H
           obtain ⟨t173, A510, H⟩ := H
           replace H : (if t173 = true then (if x9_4.length < 2513169434916 then (spec_MergeEvents.l2 kj29 l0 l1 y143 (x9_4 ++ [(⟨(rd_T40 l0 x10_4).f0, (rd_T40 l0 x10_4).f1, (rd_T40 l0 x10_4).f2, (rd_T40 l0 x10_4).f3, (rd_T40 l0 x10_4).f4, (rd_T40 l0 x10_4).f5⟩ : S40)]) (wrap64 (x10_4 + 1)) x11_4) else (none)) else (if x9_4.length < 2513169434916 then (spec_MergeEvents.l2 kj29 l0 l1 y143 (x9_4 ++ [(⟨(rd_T40 l1 x11_4).f0, (rd_T40 l1 x11_4).f1, (rd_T40 l1 x11_4).f2, (rd_T40 l1 x11_4).f3, (rd_T40 l1 x11_4).f4, (rd_T40 l1 x11_4).f5⟩ : S40)]) x10_4 (wrap64 (x11_4 + 1))) else (none))) = some (r1, r2) := H
           have A51 := Aside0.mk A510
           clear A510
           by_cases c52 : t173 = true
           ·subst c52
            have H1 : (if x9_4.length < 2513169434916 then (spec_MergeEvents.l2 kj29 l0 l1 y143 (x9_4 ++ [(⟨(rd_T40 l0 x10_4).f0, (rd_T40 l0 x10_4).f1, (rd_T40 l0 x10_4).f2, (rd_T40 l0 x10_4).f3, (rd_T40 l0 x10_4).f4, (rd_T40 l0 x10_4).f5⟩ : S40)]) (wrap64 (x10_4 + 1)) x11_4) else (none)) = some (r1, r2) := by rw [if_pos rfl] at H; exact H
            clear H
            have H := H1
            clear H1
            by_cases c53 : x9_4.length < 2513169434916
            rotate_left
            ·rw [if_neg c53] at H
             exact absurd H (by simp)
            rw [if_pos c53] at H
            have LMc53 := Aside0.mk c53
            clear c53
            obtain ⟨y175, hy175⟩ : ∃ y_ : List (S40), y_ = (x9_4 ++ [(⟨(rd_T40 l0 x10_4).f0, (rd_T40 l0 x10_4).f1, (rd_T40 l0 x10_4).f2, (rd_T40 l0 x10_4).f3, (rd_T40 l0 x10_4).f4, (rd_T40 l0 x10_4).f5⟩ : S40)]) := ⟨_, rfl⟩
            replace H : (spec_MergeEvents.l2 kj29 l0 l1 y143 y175 (wrap64 (x10_4 + 1)) x11_4) = some (r1, r2) := by first | (rw [hy175]; with_reducible exact H) | (have H2_ := (Option.bind_some _ _).symm.trans H; rw [hy175]; with_reducible exact H2_) | (have H2_ := (Option.bind_some _ _).symm.trans H; with_reducible exact H2_) | with_reducible exact H | (rw [hy175]; exact H) | exact H
            have Ny175 := Aside0.mk hy175
            clear hy175
            have H' := Aside0.mk H
            clear H
            try go_wp2
            have n0_ := Aside0.mk (Kd.R_drew HO_6.out)
            have n1_ := Aside0.mk (Kd.R_drew HO_9.out)
            have n2_ := Aside0.mk (below_drew1 HB.out)
            clear HO_6
            clear HO_9
            clear HB
            have HO_6 := n0_
            have HO_9 := n1_
            have HB := n2_
            clear n0_ n1_ n2_
            have p165 : 0 ≤ (x10_4 : Int) := od_
            have q165 : x10_4 < (l0.length : Int) := od_
            obtain ⟨ad165, e165, hx165_0, hx165_1, hx165_2, hx165_3, hx165_4, hx165_5⟩ := at_T40 HR0.out x10_4 p165 q165
            have hw165_5 := hx165_5
            have hw165_4 := hx165_4
            have hw165_3 := hx165_3
            have hw165_2 := hx165_2
            have hw165_1 := hx165_1
            have hw165_0 := hx165_0
            cases e165
            replace hx165_0 := (HB.out.cell (World.block_lt_of_cell? w _ hx165_0)).trans hx165_0
            replace hx165_1 := (HB.out.cell (World.block_lt_of_cell? w _ hx165_1)).trans hx165_1
            replace hx165_2 := (HB.out.cell (World.block_lt_of_cell? w _ hx165_2)).trans hx165_2
            replace hx165_3 := (HB.out.cell (World.block_lt_of_cell? w _ hx165_3)).trans hx165_3
            replace hx165_4 := (HB.out.cell (World.block_lt_of_cell? w _ hx165_4)).trans hx165_4
            replace hx165_5 := (HB.out.cell (World.block_lt_of_cell? w _ hx165_5)).trans hx165_5
            replace p165 := eq_true p165
            replace q165 := eq_true q165
            have p166 : 0 ≤ (x11_4 : Int) := od_
            have q166 : x11_4 < (l1.length : Int) := od_
            obtain ⟨ad166, e166, hx166_0, hx166_1, hx166_2, hx166_3, hx166_4, hx166_5⟩ := at_T40 HR1.out x11_4 p166 q166
            have hw166_5 := hx166_5
            have hw166_4 := hx166_4
            have hw166_3 := hx166_3
            have hw166_2 := hx166_2
            have hw166_1 := hx166_1
            have hw166_0 := hx166_0
            cases e166
            replace hx166_0 := (HB.out.cell (World.block_lt_of_cell? w _ hx166_0)).trans hx166_0
            replace hx166_1 := (HB.out.cell (World.block_lt_of_cell? w _ hx166_1)).trans hx166_1
            replace hx166_2 := (HB.out.cell (World.block_lt_of_cell? w _ hx166_2)).trans hx166_2
            replace hx166_3 := (HB.out.cell (World.block_lt_of_cell? w _ hx166_3)).trans hx166_3
            replace hx166_4 := (HB.out.cell (World.block_lt_of_cell? w _ hx166_4)).trans hx166_4
            replace hx166_5 := (HB.out.cell (World.block_lt_of_cell? w _ hx166_5)).trans hx166_5
            replace p166 := eq_true p166
            replace q166 := eq_true q166
            refine start_ (n := 10) (S := fun w' => w'.cell? (ad165.add ((x10_4).toNat * 6)) = some (.int .i64 ((rd_T40 l0 x10_4).f0)) ∧ w'.cell? ⟨(ad165.add ((x10_4).toNat * 6)).block, (ad165.add ((x10_4).toNat * 6)).off + 1, none⟩ = some (.int .i64 ((rd_T40 l0 x10_4).f1)) ∧ w'.cell? ⟨(ad165.add ((x10_4).toNat * 6)).block, (ad165.add ((x10_4).toNat * 6)).off + 2, none⟩ = some (.int .i64 ((rd_T40 l0 x10_4).f2)) ∧ w'.cell? ⟨(ad165.add ((x10_4).toNat * 6)).block, (ad165.add ((x10_4).toNat * 6)).off + 3, none⟩ = some (.int .i64 ((rd_T40 l0 x10_4).f3)) ∧ w'.cell? ⟨(ad165.add ((x10_4).toNat * 6)).block, (ad165.add ((x10_4).toNat * 6)).off + 4, none⟩ = some (.string ((rd_T40 l0 x10_4).f4)) ∧ w'.cell? ⟨(ad165.add ((x10_4).toNat * 6)).block, (ad165.add ((x10_4).toNat * 6)).off + 5, none⟩ = some (.int .i64 ((rd_T40 l0 x10_4).f5)) ∧ w'.cell? (ad166.add ((x11_4).toNat * 6)) = some (.int .i64 ((rd_T40 l1 x11_4).f0)) ∧ w'.cell? ⟨(ad166.add ((x11_4).toNat * 6)).block, (ad166.add ((x11_4).toNat * 6)).off + 1, none⟩ = some (.int .i64 ((rd_T40 l1 x11_4).f1)) ∧ w'.cell? ⟨(ad166.add ((x11_4).toNat * 6)).block, (ad166.add ((x11_4).toNat * 6)).off + 2, none⟩ = some (.int .i64 ((rd_T40 l1 x11_4).f2)) ∧ w'.cell? ⟨(ad166.add ((x11_4).toNat * 6)).block, (ad166.add ((x11_4).toNat * 6)).off + 3, none⟩ = some (.int .i64 ((rd_T40 l1 x11_4).f3)) ∧ w'.cell? ⟨(ad166.add ((x11_4).toNat * 6)).block, (ad166.add ((x11_4).toNat * 6)).off + 4, none⟩ = some (.string ((rd_T40 l1 x11_4).f4)) ∧ w'.cell? ⟨(ad166.add ((x11_4).toNat * 6)).block, (ad166.add ((x11_4).toNat * 6)).off + 5, none⟩ = some (.int .i64 ((rd_T40 l1 x11_4).f5))) (ds := []) (msk 0 10) (by kernel_rfl) rfl rfl ⟨((HB.out.cell (World.block_lt_of_cell? w _ hw165_0)).trans hw165_0), ((HB.out.cell (World.block_lt_of_cell? w _ hw165_1)).trans hw165_1), ((HB.out.cell (World.block_lt_of_cell? w _ hw165_2)).trans hw165_2), ((HB.out.cell (World.block_lt_of_cell? w _ hw165_3)).trans hw165_3), ((HB.out.cell (World.block_lt_of_cell? w _ hw165_4)).trans hw165_4), ((HB.out.cell (World.block_lt_of_cell? w _ hw165_5)).trans hw165_5), ((HB.out.cell (World.block_lt_of_cell? w _ hw166_0)).trans hw166_0), ((HB.out.cell (World.block_lt_of_cell? w _ hw166_1)).trans hw166_1), ((HB.out.cell (World.block_lt_of_cell? w _ hw166_2)).trans hw166_2), ((HB.out.cell (World.block_lt_of_cell? w _ hw166_3)).trans hw166_3), ((HB.out.cell (World.block_lt_of_cell? w _ hw166_4)).trans hw166_4), ((HB.out.cell (World.block_lt_of_cell? w _ hw166_5)).trans hw166_5)⟩ (fun hHeld => ?_); refine with_tabW spec_MergeEvents.tab26 spec_MergeEvents.bits26 (fun HT_ HW_ => ?_)
            generalize wc.drew = w54 at HO_6 HO_9 HB hx165_0 hx165_1 hx165_2 hx165_3 hx165_4 hx165_5 hx166_0 hx166_1 hx166_2 hx166_3 hx166_4 hx166_5 hHeld ⊢
            refine pu_ 0 128 (msk 1 9) HT_.out ?_; refine pu_ 1 129 (msk 2 8) HT_.out ?_; refine pu_ 2 130 (msk 3 7) HT_.out ?_; refine pu_ 4 132 (mskl 10 3 [4]) HT_.out ?_; refine pu_ 5 133 (mskl 10 3 [4, 5]) HT_.out ?_; refine pu_ 6 134 (mskl 10 3 [4, 5, 6]) HT_.out ?_
            refine tk_ 3 131 (msk 7 3) HT_.out HW_.out hHeld ?_ (hy := by rintro w' ⟨s0, s1, s2, s3, s4, s5, s6, s7, s8, s9, s10, s11⟩; go_simp; with_reducible rfl)
            refine tk_ 7 135 (msk 8 2) HT_.out HW_.out hHeld ?_ (hy := by rintro w' ⟨s0, s1, s2, s3, s4, s5, s6, s7, s8, s9, s10, s11⟩; go_simp; with_reducible rfl)
            refine pu_ 8 136 (msk 9 1) HT_.out ?_; refine pu_ 9 127 (msk 10 0) HT_.out ?_
            refine done_ (done_of HT_.out (by kernel_rfl)) ?_
            try go_wp2
            have n0_ := Aside0.mk (Kd.R_drew HO_6.out)
            have n1_ := Aside0.mk (Kd.R_drew HO_9.out)
            have n2_ := Aside0.mk (below_drew1 HB.out)
            clear HO_6
            clear HO_9
            clear HB
            have HO_6 := n0_
            have HO_9 := n1_
            have HB := n2_
            clear n0_ n1_ n2_
            have p171 : 0 ≤ (x10_4 : Int) := od_
            have q171 : x10_4 < (l0.length : Int) := od_
            obtain ⟨ad171, e171, hx171_0, hx171_1, hx171_2, hx171_3, hx171_4, hx171_5⟩ := at_T40 HR0.out x10_4 p171 q171
            have hw171_5 := hx171_5
            have hw171_4 := hx171_4
            have hw171_3 := hx171_3
            have hw171_2 := hx171_2
            have hw171_1 := hx171_1
            have hw171_0 := hx171_0
            obtain rfl : ad165 = ad171 := (by injection e171)
            replace hx171_0 := (HB.out.cell (World.block_lt_of_cell? w _ hx171_0)).trans hx171_0
            replace hx171_1 := (HB.out.cell (World.block_lt_of_cell? w _ hx171_1)).trans hx171_1
            replace hx171_2 := (HB.out.cell (World.block_lt_of_cell? w _ hx171_2)).trans hx171_2
            replace hx171_3 := (HB.out.cell (World.block_lt_of_cell? w _ hx171_3)).trans hx171_3
            replace hx171_4 := (HB.out.cell (World.block_lt_of_cell? w _ hx171_4)).trans hx171_4
            replace hx171_5 := (HB.out.cell (World.block_lt_of_cell? w _ hx171_5)).trans hx171_5
            replace p171 := eq_true p171
            replace q171 := eq_true q171
            have p172 : 0 ≤ (x11_4 : Int) := od_
            have q172 : x11_4 < (l1.length : Int) := od_
            obtain ⟨ad172, e172, hx172_0, hx172_1, hx172_2, hx172_3, hx172_4, hx172_5⟩ := at_T40 HR1.out x11_4 p172 q172
            have hw172_5 := hx172_5
            have hw172_4 := hx172_4
            have hw172_3 := hx172_3
            have hw172_2 := hx172_2
            have hw172_1 := hx172_1
            have hw172_0 := hx172_0
            obtain rfl : ad166 = ad172 := (by injection e172)
            replace hx172_0 := (HB.out.cell (World.block_lt_of_cell? w _ hx172_0)).trans hx172_0
            replace hx172_1 := (HB.out.cell (World.block_lt_of_cell? w _ hx172_1)).trans hx172_1
            replace hx172_2 := (HB.out.cell (World.block_lt_of_cell? w _ hx172_2)).trans hx172_2
            replace hx172_3 := (HB.out.cell (World.block_lt_of_cell? w _ hx172_3)).trans hx172_3
            replace hx172_4 := (HB.out.cell (World.block_lt_of_cell? w _ hx172_4)).trans hx172_4
            replace hx172_5 := (HB.out.cell (World.block_lt_of_cell? w _ hx172_5)).trans hx172_5
            replace p172 := eq_true p172
            replace q172 := eq_true q172
            refine start_ (n := 10) (S := fun w' => w'.cell? (ad165.add ((x10_4).toNat * 6)) = some (.int .i64 ((rd_T40 l0 x10_4).f0)) ∧ w'.cell? ⟨(ad165.add ((x10_4).toNat * 6)).block, (ad165.add ((x10_4).toNat * 6)).off + 1, none⟩ = some (.int .i64 ((rd_T40 l0 x10_4).f1)) ∧ w'.cell? ⟨(ad165.add ((x10_4).toNat * 6)).block, (ad165.add ((x10_4).toNat * 6)).off + 2, none⟩ = some (.int .i64 ((rd_T40 l0 x10_4).f2)) ∧ w'.cell? ⟨(ad165.add ((x10_4).toNat * 6)).block, (ad165.add ((x10_4).toNat * 6)).off + 3, none⟩ = some (.int .i64 ((rd_T40 l0 x10_4).f3)) ∧ w'.cell? ⟨(ad165.add ((x10_4).toNat * 6)).block, (ad165.add ((x10_4).toNat * 6)).off + 4, none⟩ = some (.string ((rd_T40 l0 x10_4).f4)) ∧ w'.cell? ⟨(ad165.add ((x10_4).toNat * 6)).block, (ad165.add ((x10_4).toNat * 6)).off + 5, none⟩ = some (.int .i64 ((rd_T40 l0 x10_4).f5)) ∧ w'.cell? (ad166.add ((x11_4).toNat * 6)) = some (.int .i64 ((rd_T40 l1 x11_4).f0)) ∧ w'.cell? ⟨(ad166.add ((x11_4).toNat * 6)).block, (ad166.add ((x11_4).toNat * 6)).off + 1, none⟩ = some (.int .i64 ((rd_T40 l1 x11_4).f1)) ∧ w'.cell? ⟨(ad166.add ((x11_4).toNat * 6)).block, (ad166.add ((x11_4).toNat * 6)).off + 2, none⟩ = some (.int .i64 ((rd_T40 l1 x11_4).f2)) ∧ w'.cell? ⟨(ad166.add ((x11_4).toNat * 6)).block, (ad166.add ((x11_4).toNat * 6)).off + 3, none⟩ = some (.int .i64 ((rd_T40 l1 x11_4).f3)) ∧ w'.cell? ⟨(ad166.add ((x11_4).toNat * 6)).block, (ad166.add ((x11_4).toNat * 6)).off + 4, none⟩ = some (.string ((rd_T40 l1 x11_4).f4)) ∧ w'.cell? ⟨(ad166.add ((x11_4).toNat * 6)).block, (ad166.add ((x11_4).toNat * 6)).off + 5, none⟩ = some (.int .i64 ((rd_T40 l1 x11_4).f5))) (ds := []) (msk 0 10) (by kernel_rfl) rfl rfl ⟨((HB.out.cell (World.block_lt_of_cell? w _ hw171_0)).trans hw171_0), ((HB.out.cell (World.block_lt_of_cell? w _ hw171_1)).trans hw171_1), ((HB.out.cell (World.block_lt_of_cell? w _ hw171_2)).trans hw171_2), ((HB.out.cell (World.block_lt_of_cell? w _ hw171_3)).trans hw171_3), ((HB.out.cell (World.block_lt_of_cell? w _ hw171_4)).trans hw171_4), ((HB.out.cell (World.block_lt_of_cell? w _ hw171_5)).trans hw171_5), ((HB.out.cell (World.block_lt_of_cell? w _ hw172_0)).trans hw172_0), ((HB.out.cell (World.block_lt_of_cell? w _ hw172_1)).trans hw172_1), ((HB.out.cell (World.block_lt_of_cell? w _ hw172_2)).trans hw172_2), ((HB.out.cell (World.block_lt_of_cell? w _ hw172_3)).trans hw172_3), ((HB.out.cell (World.block_lt_of_cell? w _ hw172_4)).trans hw172_4), ((HB.out.cell (World.block_lt_of_cell? w _ hw172_5)).trans hw172_5)⟩ (fun hHeld => ?_); refine with_tabW spec_MergeEvents.tab30 spec_MergeEvents.bits30 (fun HT_ HW_ => ?_)
            generalize w54.drew = w55 at HO_6 HO_9 HB hx171_0 hx171_1 hx171_2 hx171_3 hx171_4 hx171_5 hx172_0 hx172_1 hx172_2 hx172_3 hx172_4 hx172_5 hHeld ⊢
            refine pu_ 0 149 (msk 1 9) HT_.out ?_; refine pu_ 1 150 (msk 2 8) HT_.out ?_; refine pu_ 2 151 (msk 3 7) HT_.out ?_; refine pu_ 4 153 (mskl 10 3 [4]) HT_.out ?_; refine pu_ 5 154 (mskl 10 3 [4, 5]) HT_.out ?_; refine pu_ 6 155 (mskl 10 3 [4, 5, 6]) HT_.out ?_
            refine tk_ 3 152 (msk 7 3) HT_.out HW_.out hHeld ?_ (hy := by rintro w' ⟨s0, s1, s2, s3, s4, s5, s6, s7, s8, s9, s10, s11⟩; go_simp; with_reducible rfl)
            refine tk_ 7 156 (msk 8 2) HT_.out HW_.out hHeld ?_ (hy := by rintro w' ⟨s0, s1, s2, s3, s4, s5, s6, s7, s8, s9, s10, s11⟩; go_simp; with_reducible rfl)
            refine one_ (i := 8) (N := some 157) (msk 9 1) rfl rfl (one_of HT_.out (by kernel_rfl)) (by decide) (fun K hK => ?_)
            refine goes_ Try.func19 (by kernel_rfl) rfl #[.agg #[.int .i64 ((rd_T40 l0 x10_4).f0), .int .i64 ((rd_T40 l0 x10_4).f1), .int .i64 ((rd_T40 l0 x10_4).f2), .int .i64 ((rd_T40 l0 x10_4).f3), .string ((rd_T40 l0 x10_4).f4), .int .i64 ((rd_T40 l0 x10_4).f5)], .agg #[.int .i64 ((rd_T40 l1 x11_4).f0), .int .i64 ((rd_T40 l1 x11_4).f1), .int .i64 ((rd_T40 l1 x11_4).f2), .int .i64 ((rd_T40 l1 x11_4).f3), .string ((rd_T40 l1 x11_4).f4), .int .i64 ((rd_T40 l1 x11_4).f5)]] (by rfl) rfl rfl (by (try simp only [List.map_toArray, List.map_cons, List.map_nil]); first | done | rfl | (simp only [List.length_drop, List.length_take]; rfl)) ?_
            with_reducible refine (spec_l12Ahead.calls ((rd_T40 l0 x10_4).f0) ((rd_T40 l0 x10_4).f1) ((rd_T40 l0 x10_4).f2) ((rd_T40 l0 x10_4).f3) ((rd_T40 l0 x10_4).f4) ((rd_T40 l0 x10_4).f5) ((rd_T40 l1 x11_4).f0) ((rd_T40 l1 x11_4).f1) ((rd_T40 l1 x11_4).f2) ((rd_T40 l1 x11_4).f3) ((rd_T40 l1 x11_4).f4) ((rd_T40 l1 x11_4).f5) true _ A51.out).mono ?_
            rintro e w56 ⟨rfl, hb⟩
            refine ⟨_, rfl, ?_⟩
            have n0_ := Aside0.mk (Kd.R_below (by (with_reducible repeat (first | apply Kd.R_alloc | apply Kd.R_drewN | apply Kd.R_drew)); exact HO_6.out) hb)
            have n1_ := Aside0.mk (Kd.R_below (by (with_reducible repeat (first | apply Kd.R_alloc | apply Kd.R_drewN | apply Kd.R_drew)); exact HO_9.out) hb)
            have n2_ := Aside0.mk (below_step bl_ hb)
            clear HO_6
            clear HO_9
            clear HB
            have HO_6 := n0_
            have HO_9 := n1_
            have HB := n2_
            clear n0_ n1_ n2_
            (try clear hb)
            (try clear hb2)
            (try clear hk)
            (try clear hi)
            refine hK.out _ _ ⟨((HB.out.cell (World.block_lt_of_cell? w _ hw171_0)).trans hw171_0), ((HB.out.cell (World.block_lt_of_cell? w _ hw171_1)).trans hw171_1), ((HB.out.cell (World.block_lt_of_cell? w _ hw171_2)).trans hw171_2), ((HB.out.cell (World.block_lt_of_cell? w _ hw171_3)).trans hw171_3), ((HB.out.cell (World.block_lt_of_cell? w _ hw171_4)).trans hw171_4), ((HB.out.cell (World.block_lt_of_cell? w _ hw171_5)).trans hw171_5), ((HB.out.cell (World.block_lt_of_cell? w _ hw172_0)).trans hw172_0), ((HB.out.cell (World.block_lt_of_cell? w _ hw172_1)).trans hw172_1), ((HB.out.cell (World.block_lt_of_cell? w _ hw172_2)).trans hw172_2), ((HB.out.cell (World.block_lt_of_cell? w _ hw172_3)).trans hw172_3), ((HB.out.cell (World.block_lt_of_cell? w _ hw172_4)).trans hw172_4), ((HB.out.cell (World.block_lt_of_cell? w _ hw172_5)).trans hw172_5)⟩ (fun hHeld => ?_)
            clear hK K
            refine norm_ (a' := ?_) ?_ ?_
            rotate_left
            ·show Act.put _ (some 157) _ = _
             simp only [Act.put, List.setIfInBounds_toArray, List.set_cons_zero, List.set_cons_succ, i64_w, i32_w]
             rfl
            refine pu_ 9 148 (msk 10 0) HT_.out ?_
            refine done_ (done_of HT_.out (by kernel_rfl)) ?_
            have p174 : 0 ≤ (x10_4 : Int) := od_
            have q174 : x10_4 < (l0.length : Int) := od_
            obtain ⟨ad174, e174, hx174_0, hx174_1, hx174_2, hx174_3, hx174_4, hx174_5⟩ := at_T40 HR0.out x10_4 p174 q174
            obtain rfl : ad165 = ad174 := (by injection e174)
            replace hx174_0 := (HB.out.cell (World.block_lt_of_cell? w _ hx174_0)).trans hx174_0
            replace hx174_1 := (HB.out.cell (World.block_lt_of_cell? w _ hx174_1)).trans hx174_1
            replace hx174_2 := (HB.out.cell (World.block_lt_of_cell? w _ hx174_2)).trans hx174_2
            replace hx174_3 := (HB.out.cell (World.block_lt_of_cell? w _ hx174_3)).trans hx174_3
            replace hx174_4 := (HB.out.cell (World.block_lt_of_cell? w _ hx174_4)).trans hx174_4
            replace hx174_5 := (HB.out.cell (World.block_lt_of_cell? w _ hx174_5)).trans hx174_5
            replace p174 := eq_true p174
            replace q174 := eq_true q174
            try go_wp2_with (first | ((with_reducible refine gate_builtin (b := .append) (xs := #[.tmp 158, .tmp 163]) rfl ?_); (try (refine gate_guard (by rfl) ?_; dsimp only)); at_builtin; refine Kd.R_append k40 (w0 := w) w.heap.size rfl (.tmp 158) (.tmp 163) 25 40 (.agg #[(.int .i64 0), (.int .i64 0), (.int .i64 0), (.int .i64 0), (.string ⟨#[]⟩), (.int .i64 0)]) 56 rfl Try.underlying25 info40 rfl (by decide) (by omega) u9 x9_4 (⟨(rd_T40 l0 x10_4).f0, (rd_T40 l0 x10_4).f1, (rd_T40 l0 x10_4).f2, (rd_T40 l0 x10_4).f3, (rd_T40 l0 x10_4).f4, (rd_T40 l0 x10_4).f5⟩ : S40) [.int .i64 ((rd_T40 l0 x10_4).f0), .int .i64 ((rd_T40 l0 x10_4).f1), .int .i64 ((rd_T40 l0 x10_4).f2), .int .i64 ((rd_T40 l0 x10_4).f3), .string ((rd_T40 l0 x10_4).f4), .int .i64 ((rd_T40 l0 x10_4).f5)] (fun k_ => some k_ ≠ (v144 : Value).ownBlock) (fun _ => False) rfl rfl ?aP (fun _ hk => hk.elim) ?aF ?aO ?aB ?aS ?aL ?_; (case aP => exact k40_mkM _ _ _ (⟨(rd_T40 l0 x10_4).f0, (rd_T40 l0 x10_4).f1, (rd_T40 l0 x10_4).f2, (rd_T40 l0 x10_4).f3, (rd_T40 l0 x10_4).f4, (rd_T40 l0 x10_4).f5⟩ : S40)); (case aB => exact bl_); (case aF => exact (fun k_ hk => Kd.fresh' (Kd.R_lt (by (with_reducible repeat (first | apply Kd.R_alloc | apply Kd.R_drewN | apply Kd.R_drew)); exact HO_6.out)) k_ hk)); (case aO => exact (by (with_reducible repeat (first | apply Kd.R_alloc | apply Kd.R_drewN | apply Kd.R_drew)); exact HO_9.out)); (case aS => exact (below_size bl_)); (case aL => have := LMc53.out; omega); intro v176 w57 ho hb hg hat; rw [← Ny175.out] at ho; have n0_ := Aside0.mk (Kd.R_after (ok := (fun _ => True)) (by (with_reducible repeat (first | apply Kd.R_alloc | apply Kd.R_drewN | apply Kd.R_drew)); exact Kd.R_mono HO_6.out (fun _ hk => ⟨trivial, hk⟩)) hg hat); have n1_ := Aside0.mk (hb); have n2_ := Aside0.mk (ho); clear HO_6; clear HB; clear HO_9; have HO_6 := n0_; have HB := n1_; have HO177 := n2_; clear n0_ n1_ n2_; clear ho hb hg hat))
            go_roundg kj29
            case measure => have := HJ2.out; have := HJ7.out; have := HK3.out; have := HK4.out; have := HJ29.out; omega
            case rel => exact ⟨(y175), (wrap64 (x10_4 + 1)), (x11_4), (by first | rfl | (simp; done) | (simp [*]; done)), (by first | rfl | (simp; done) | (simp [*]; done)), H', ⟨by have := HJ2.out; have := HJ7.out; have := HK3.out; have := HK4.out; have := HJ29.out; omega⟩, ⟨by (with_reducible repeat (first | apply Kd.R_alloc | apply Kd.R_drewN | apply Kd.R_drew)); exact Kd.R_mono HO_6.out (fun _ hk => hk.2)⟩, ⟨by (with_reducible repeat (first | apply Kd.R_alloc | apply Kd.R_drewN | apply Kd.R_drew)); exact HO177.out⟩, ⟨by repeat (first | (with_reducible first | exact HB.out | apply below_alloc | apply pw_below_drewN | apply below_drew1) | exact HB.out)⟩⟩
           replace c52 := Bool.eq_false_iff.mpr c52
           subst c52
           have H1 : (if x9_4.length < 2513169434916 then (spec_MergeEvents.l2 kj29 l0 l1 y143 (x9_4 ++ [(⟨(rd_T40 l1 x11_4).f0, (rd_T40 l1 x11_4).f1, (rd_T40 l1 x11_4).f2, (rd_T40 l1 x11_4).f3, (rd_T40 l1 x11_4).f4, (rd_T40 l1 x11_4).f5⟩ : S40)]) x10_4 (wrap64 (x11_4 + 1))) else (none)) = some (r1, r2) := by rw [if_neg (show ¬ (false = true) by decide)] at H; exact H
           clear H
           have H := H1
           clear H1
           by_cases c58 : x9_4.length < 2513169434916
           rotate_left
           ·rw [if_neg c58] at H
            exact absurd H (by simp)
           rw [if_pos c58] at H
           have LMc58 := Aside0.mk c58
           clear c58
           obtain ⟨y179, hy179⟩ : ∃ y_ : List (S40), y_ = (x9_4 ++ [(⟨(rd_T40 l1 x11_4).f0, (rd_T40 l1 x11_4).f1, (rd_T40 l1 x11_4).f2, (rd_T40 l1 x11_4).f3, (rd_T40 l1 x11_4).f4, (rd_T40 l1 x11_4).f5⟩ : S40)]) := ⟨_, rfl⟩
           replace H : (spec_MergeEvents.l2 kj29 l0 l1 y143 y179 x10_4 (wrap64 (x11_4 + 1))) = some (r1, r2) := by first | (rw [hy179]; with_reducible exact H) | (have H2_ := (Option.bind_some _ _).symm.trans H; rw [hy179]; with_reducible exact H2_) | (have H2_ := (Option.bind_some _ _).symm.trans H; with_reducible exact H2_) | with_reducible exact H | (rw [hy179]; exact H) | exact H
           have Ny179 := Aside0.mk hy179
           clear hy179
           have H' := Aside0.mk H
           clear H
           try go_wp2
           have n0_ := Aside0.mk (Kd.R_drew HO_6.out)
           have n1_ := Aside0.mk (Kd.R_drew HO_9.out)
           have n2_ := Aside0.mk (below_drew1 HB.out)
           clear HO_6
           clear HO_9
           clear HB
           have HO_6 := n0_
           have HO_9 := n1_
           have HB := n2_
           clear n0_ n1_ n2_
           have p165 : 0 ≤ (x10_4 : Int) := od_
           have q165 : x10_4 < (l0.length : Int) := od_
           obtain ⟨ad165, e165, hx165_0, hx165_1, hx165_2, hx165_3, hx165_4, hx165_5⟩ := at_T40 HR0.out x10_4 p165 q165
           have hw165_5 := hx165_5
           have hw165_4 := hx165_4
           have hw165_3 := hx165_3
           have hw165_2 := hx165_2
           have hw165_1 := hx165_1
           have hw165_0 := hx165_0
           cases e165
           replace hx165_0 := (HB.out.cell (World.block_lt_of_cell? w _ hx165_0)).trans hx165_0
           replace hx165_1 := (HB.out.cell (World.block_lt_of_cell? w _ hx165_1)).trans hx165_1
           replace hx165_2 := (HB.out.cell (World.block_lt_of_cell? w _ hx165_2)).trans hx165_2
           replace hx165_3 := (HB.out.cell (World.block_lt_of_cell? w _ hx165_3)).trans hx165_3
           replace hx165_4 := (HB.out.cell (World.block_lt_of_cell? w _ hx165_4)).trans hx165_4
           replace hx165_5 := (HB.out.cell (World.block_lt_of_cell? w _ hx165_5)).trans hx165_5
           replace p165 := eq_true p165
           replace q165 := eq_true q165
           have p166 : 0 ≤ (x11_4 : Int) := od_
           have q166 : x11_4 < (l1.length : Int) := od_
           obtain ⟨ad166, e166, hx166_0, hx166_1, hx166_2, hx166_3, hx166_4, hx166_5⟩ := at_T40 HR1.out x11_4 p166 q166
           have hw166_5 := hx166_5
           have hw166_4 := hx166_4
           have hw166_3 := hx166_3
           have hw166_2 := hx166_2
           have hw166_1 := hx166_1
           have hw166_0 := hx166_0
           cases e166
           replace hx166_0 := (HB.out.cell (World.block_lt_of_cell? w _ hx166_0)).trans hx166_0
           replace hx166_1 := (HB.out.cell (World.block_lt_of_cell? w _ hx166_1)).trans hx166_1
           replace hx166_2 := (HB.out.cell (World.block_lt_of_cell? w _ hx166_2)).trans hx166_2
           replace hx166_3 := (HB.out.cell (World.block_lt_of_cell? w _ hx166_3)).trans hx166_3
           replace hx166_4 := (HB.out.cell (World.block_lt_of_cell? w _ hx166_4)).trans hx166_4
           replace hx166_5 := (HB.out.cell (World.block_lt_of_cell? w _ hx166_5)).trans hx166_5
           replace p166 := eq_true p166
           replace q166 := eq_true q166
           refine start_ (n := 10) (S := fun w' => w'.cell? (ad165.add ((x10_4).toNat * 6)) = some (.int .i64 ((rd_T40 l0 x10_4).f0)) ∧ w'.cell? ⟨(ad165.add ((x10_4).toNat * 6)).block, (ad165.add ((x10_4).toNat * 6)).off + 1, none⟩ = some (.int .i64 ((rd_T40 l0 x10_4).f1)) ∧ w'.cell? ⟨(ad165.add ((x10_4).toNat * 6)).block, (ad165.add ((x10_4).toNat * 6)).off + 2, none⟩ = some (.int .i64 ((rd_T40 l0 x10_4).f2)) ∧ w'.cell? ⟨(ad165.add ((x10_4).toNat * 6)).block, (ad165.add ((x10_4).toNat * 6)).off + 3, none⟩ = some (.int .i64 ((rd_T40 l0 x10_4).f3)) ∧ w'.cell? ⟨(ad165.add ((x10_4).toNat * 6)).block, (ad165.add ((x10_4).toNat * 6)).off + 4, none⟩ = some (.string ((rd_T40 l0 x10_4).f4)) ∧ w'.cell? ⟨(ad165.add ((x10_4).toNat * 6)).block, (ad165.add ((x10_4).toNat * 6)).off + 5, none⟩ = some (.int .i64 ((rd_T40 l0 x10_4).f5)) ∧ w'.cell? (ad166.add ((x11_4).toNat * 6)) = some (.int .i64 ((rd_T40 l1 x11_4).f0)) ∧ w'.cell? ⟨(ad166.add ((x11_4).toNat * 6)).block, (ad166.add ((x11_4).toNat * 6)).off + 1, none⟩ = some (.int .i64 ((rd_T40 l1 x11_4).f1)) ∧ w'.cell? ⟨(ad166.add ((x11_4).toNat * 6)).block, (ad166.add ((x11_4).toNat * 6)).off + 2, none⟩ = some (.int .i64 ((rd_T40 l1 x11_4).f2)) ∧ w'.cell? ⟨(ad166.add ((x11_4).toNat * 6)).block, (ad166.add ((x11_4).toNat * 6)).off + 3, none⟩ = some (.int .i64 ((rd_T40 l1 x11_4).f3)) ∧ w'.cell? ⟨(ad166.add ((x11_4).toNat * 6)).block, (ad166.add ((x11_4).toNat * 6)).off + 4, none⟩ = some (.string ((rd_T40 l1 x11_4).f4)) ∧ w'.cell? ⟨(ad166.add ((x11_4).toNat * 6)).block, (ad166.add ((x11_4).toNat * 6)).off + 5, none⟩ = some (.int .i64 ((rd_T40 l1 x11_4).f5))) (ds := []) (msk 0 10) (by kernel_rfl) rfl rfl ⟨((HB.out.cell (World.block_lt_of_cell? w _ hw165_0)).trans hw165_0), ((HB.out.cell (World.block_lt_of_cell? w _ hw165_1)).trans hw165_1), ((HB.out.cell (World.block_lt_of_cell? w _ hw165_2)).trans hw165_2), ((HB.out.cell (World.block_lt_of_cell? w _ hw165_3)).trans hw165_3), ((HB.out.cell (World.block_lt_of_cell? w _ hw165_4)).trans hw165_4), ((HB.out.cell (World.block_lt_of_cell? w _ hw165_5)).trans hw165_5), ((HB.out.cell (World.block_lt_of_cell? w _ hw166_0)).trans hw166_0), ((HB.out.cell (World.block_lt_of_cell? w _ hw166_1)).trans hw166_1), ((HB.out.cell (World.block_lt_of_cell? w _ hw166_2)).trans hw166_2), ((HB.out.cell (World.block_lt_of_cell? w _ hw166_3)).trans hw166_3), ((HB.out.cell (World.block_lt_of_cell? w _ hw166_4)).trans hw166_4), ((HB.out.cell (World.block_lt_of_cell? w _ hw166_5)).trans hw166_5)⟩ (fun hHeld => ?_); refine with_tabW spec_MergeEvents.tab26 spec_MergeEvents.bits26 (fun HT_ HW_ => ?_)
           generalize wc.drew = w59 at HO_6 HO_9 HB hx165_0 hx165_1 hx165_2 hx165_3 hx165_4 hx165_5 hx166_0 hx166_1 hx166_2 hx166_3 hx166_4 hx166_5 hHeld ⊢
           refine pu_ 0 128 (msk 1 9) HT_.out ?_; refine pu_ 1 129 (msk 2 8) HT_.out ?_; refine pu_ 2 130 (msk 3 7) HT_.out ?_; refine pu_ 4 132 (mskl 10 3 [4]) HT_.out ?_; refine pu_ 5 133 (mskl 10 3 [4, 5]) HT_.out ?_; refine pu_ 6 134 (mskl 10 3 [4, 5, 6]) HT_.out ?_
           refine tk_ 3 131 (msk 7 3) HT_.out HW_.out hHeld ?_ (hy := by rintro w' ⟨s0, s1, s2, s3, s4, s5, s6, s7, s8, s9, s10, s11⟩; go_simp; with_reducible rfl)
           refine tk_ 7 135 (msk 8 2) HT_.out HW_.out hHeld ?_ (hy := by rintro w' ⟨s0, s1, s2, s3, s4, s5, s6, s7, s8, s9, s10, s11⟩; go_simp; with_reducible rfl)
           refine pu_ 8 136 (msk 9 1) HT_.out ?_; refine pu_ 9 127 (msk 10 0) HT_.out ?_
           refine done_ (done_of HT_.out (by kernel_rfl)) ?_
           try go_wp2
           have n0_ := Aside0.mk (Kd.R_drew HO_6.out)
           have n1_ := Aside0.mk (Kd.R_drew HO_9.out)
           have n2_ := Aside0.mk (below_drew1 HB.out)
           clear HO_6
           clear HO_9
           clear HB
           have HO_6 := n0_
           have HO_9 := n1_
           have HB := n2_
           clear n0_ n1_ n2_
           have p171 : 0 ≤ (x10_4 : Int) := od_
           have q171 : x10_4 < (l0.length : Int) := od_
           obtain ⟨ad171, e171, hx171_0, hx171_1, hx171_2, hx171_3, hx171_4, hx171_5⟩ := at_T40 HR0.out x10_4 p171 q171
           have hw171_5 := hx171_5
           have hw171_4 := hx171_4
           have hw171_3 := hx171_3
           have hw171_2 := hx171_2
           have hw171_1 := hx171_1
           have hw171_0 := hx171_0
           obtain rfl : ad165 = ad171 := (by injection e171)
           replace hx171_0 := (HB.out.cell (World.block_lt_of_cell? w _ hx171_0)).trans hx171_0
           replace hx171_1 := (HB.out.cell (World.block_lt_of_cell? w _ hx171_1)).trans hx171_1
           replace hx171_2 := (HB.out.cell (World.block_lt_of_cell? w _ hx171_2)).trans hx171_2
           replace hx171_3 := (HB.out.cell (World.block_lt_of_cell? w _ hx171_3)).trans hx171_3
           replace hx171_4 := (HB.out.cell (World.block_lt_of_cell? w _ hx171_4)).trans hx171_4
           replace hx171_5 := (HB.out.cell (World.block_lt_of_cell? w _ hx171_5)).trans hx171_5
           replace p171 := eq_true p171
           replace q171 := eq_true q171
           have p172 : 0 ≤ (x11_4 : Int) := od_
           have q172 : x11_4 < (l1.length : Int) := od_
           obtain ⟨ad172, e172, hx172_0, hx172_1, hx172_2, hx172_3, hx172_4, hx172_5⟩ := at_T40 HR1.out x11_4 p172 q172
           have hw172_5 := hx172_5
           have hw172_4 := hx172_4
           have hw172_3 := hx172_3
           have hw172_2 := hx172_2
           have hw172_1 := hx172_1
           have hw172_0 := hx172_0
           obtain rfl : ad166 = ad172 := (by injection e172)
           replace hx172_0 := (HB.out.cell (World.block_lt_of_cell? w _ hx172_0)).trans hx172_0
           replace hx172_1 := (HB.out.cell (World.block_lt_of_cell? w _ hx172_1)).trans hx172_1
           replace hx172_2 := (HB.out.cell (World.block_lt_of_cell? w _ hx172_2)).trans hx172_2
           replace hx172_3 := (HB.out.cell (World.block_lt_of_cell? w _ hx172_3)).trans hx172_3
           replace hx172_4 := (HB.out.cell (World.block_lt_of_cell? w _ hx172_4)).trans hx172_4
           replace hx172_5 := (HB.out.cell (World.block_lt_of_cell? w _ hx172_5)).trans hx172_5
           replace p172 := eq_true p172
           replace q172 := eq_true q172
           refine start_ (n := 10) (S := fun w' => w'.cell? (ad165.add ((x10_4).toNat * 6)) = some (.int .i64 ((rd_T40 l0 x10_4).f0)) ∧ w'.cell? ⟨(ad165.add ((x10_4).toNat * 6)).block, (ad165.add ((x10_4).toNat * 6)).off + 1, none⟩ = some (.int .i64 ((rd_T40 l0 x10_4).f1)) ∧ w'.cell? ⟨(ad165.add ((x10_4).toNat * 6)).block, (ad165.add ((x10_4).toNat * 6)).off + 2, none⟩ = some (.int .i64 ((rd_T40 l0 x10_4).f2)) ∧ w'.cell? ⟨(ad165.add ((x10_4).toNat * 6)).block, (ad165.add ((x10_4).toNat * 6)).off + 3, none⟩ = some (.int .i64 ((rd_T40 l0 x10_4).f3)) ∧ w'.cell? ⟨(ad165.add ((x10_4).toNat * 6)).block, (ad165.add ((x10_4).toNat * 6)).off + 4, none⟩ = some (.string ((rd_T40 l0 x10_4).f4)) ∧ w'.cell? ⟨(ad165.add ((x10_4).toNat * 6)).block, (ad165.add ((x10_4).toNat * 6)).off + 5, none⟩ = some (.int .i64 ((rd_T40 l0 x10_4).f5)) ∧ w'.cell? (ad166.add ((x11_4).toNat * 6)) = some (.int .i64 ((rd_T40 l1 x11_4).f0)) ∧ w'.cell? ⟨(ad166.add ((x11_4).toNat * 6)).block, (ad166.add ((x11_4).toNat * 6)).off + 1, none⟩ = some (.int .i64 ((rd_T40 l1 x11_4).f1)) ∧ w'.cell? ⟨(ad166.add ((x11_4).toNat * 6)).block, (ad166.add ((x11_4).toNat * 6)).off + 2, none⟩ = some (.int .i64 ((rd_T40 l1 x11_4).f2)) ∧ w'.cell? ⟨(ad166.add ((x11_4).toNat * 6)).block, (ad166.add ((x11_4).toNat * 6)).off + 3, none⟩ = some (.int .i64 ((rd_T40 l1 x11_4).f3)) ∧ w'.cell? ⟨(ad166.add ((x11_4).toNat * 6)).block, (ad166.add ((x11_4).toNat * 6)).off + 4, none⟩ = some (.string ((rd_T40 l1 x11_4).f4)) ∧ w'.cell? ⟨(ad166.add ((x11_4).toNat * 6)).block, (ad166.add ((x11_4).toNat * 6)).off + 5, none⟩ = some (.int .i64 ((rd_T40 l1 x11_4).f5))) (ds := []) (msk 0 10) (by kernel_rfl) rfl rfl ⟨((HB.out.cell (World.block_lt_of_cell? w _ hw171_0)).trans hw171_0), ((HB.out.cell (World.block_lt_of_cell? w _ hw171_1)).trans hw171_1), ((HB.out.cell (World.block_lt_of_cell? w _ hw171_2)).trans hw171_2), ((HB.out.cell (World.block_lt_of_cell? w _ hw171_3)).trans hw171_3), ((HB.out.cell (World.block_lt_of_cell? w _ hw171_4)).trans hw171_4), ((HB.out.cell (World.block_lt_of_cell? w _ hw171_5)).trans hw171_5), ((HB.out.cell (World.block_lt_of_cell? w _ hw172_0)).trans hw172_0), ((HB.out.cell (World.block_lt_of_cell? w _ hw172_1)).trans hw172_1), ((HB.out.cell (World.block_lt_of_cell? w _ hw172_2)).trans hw172_2), ((HB.out.cell (World.block_lt_of_cell? w _ hw172_3)).trans hw172_3), ((HB.out.cell (World.block_lt_of_cell? w _ hw172_4)).trans hw172_4), ((HB.out.cell (World.block_lt_of_cell? w _ hw172_5)).trans hw172_5)⟩ (fun hHeld => ?_); refine with_tabW spec_MergeEvents.tab30 spec_MergeEvents.bits30 (fun HT_ HW_ => ?_)
           generalize w59.drew = w60 at HO_6 HO_9 HB hx171_0 hx171_1 hx171_2 hx171_3 hx171_4 hx171_5 hx172_0 hx172_1 hx172_2 hx172_3 hx172_4 hx172_5 hHeld ⊢
           refine pu_ 0 149 (msk 1 9) HT_.out ?_; refine pu_ 1 150 (msk 2 8) HT_.out ?_; refine pu_ 2 151 (msk 3 7) HT_.out ?_; refine pu_ 4 153 (mskl 10 3 [4]) HT_.out ?_; refine pu_ 5 154 (mskl 10 3 [4, 5]) HT_.out ?_; refine pu_ 6 155 (mskl 10 3 [4, 5, 6]) HT_.out ?_
           refine tk_ 3 152 (msk 7 3) HT_.out HW_.out hHeld ?_ (hy := by rintro w' ⟨s0, s1, s2, s3, s4, s5, s6, s7, s8, s9, s10, s11⟩; go_simp; with_reducible rfl)
           refine tk_ 7 156 (msk 8 2) HT_.out HW_.out hHeld ?_ (hy := by rintro w' ⟨s0, s1, s2, s3, s4, s5, s6, s7, s8, s9, s10, s11⟩; go_simp; with_reducible rfl)
           refine one_ (i := 8) (N := some 157) (msk 9 1) rfl rfl (one_of HT_.out (by kernel_rfl)) (by decide) (fun K hK => ?_)
           refine goes_ Try.func19 (by kernel_rfl) rfl #[.agg #[.int .i64 ((rd_T40 l0 x10_4).f0), .int .i64 ((rd_T40 l0 x10_4).f1), .int .i64 ((rd_T40 l0 x10_4).f2), .int .i64 ((rd_T40 l0 x10_4).f3), .string ((rd_T40 l0 x10_4).f4), .int .i64 ((rd_T40 l0 x10_4).f5)], .agg #[.int .i64 ((rd_T40 l1 x11_4).f0), .int .i64 ((rd_T40 l1 x11_4).f1), .int .i64 ((rd_T40 l1 x11_4).f2), .int .i64 ((rd_T40 l1 x11_4).f3), .string ((rd_T40 l1 x11_4).f4), .int .i64 ((rd_T40 l1 x11_4).f5)]] (by rfl) rfl rfl (by (try simp only [List.map_toArray, List.map_cons, List.map_nil]); first | done | rfl | (simp only [List.length_drop, List.length_take]; rfl)) ?_
           with_reducible refine (spec_l12Ahead.calls ((rd_T40 l0 x10_4).f0) ((rd_T40 l0 x10_4).f1) ((rd_T40 l0 x10_4).f2) ((rd_T40 l0 x10_4).f3) ((rd_T40 l0 x10_4).f4) ((rd_T40 l0 x10_4).f5) ((rd_T40 l1 x11_4).f0) ((rd_T40 l1 x11_4).f1) ((rd_T40 l1 x11_4).f2) ((rd_T40 l1 x11_4).f3) ((rd_T40 l1 x11_4).f4) ((rd_T40 l1 x11_4).f5) false _ A51.out).mono ?_
           rintro e w61 ⟨rfl, hb⟩
           refine ⟨_, rfl, ?_⟩
           have n0_ := Aside0.mk (Kd.R_below (by (with_reducible repeat (first | apply Kd.R_alloc | apply Kd.R_drewN | apply Kd.R_drew)); exact HO_6.out) hb)
           have n1_ := Aside0.mk (Kd.R_below (by (with_reducible repeat (first | apply Kd.R_alloc | apply Kd.R_drewN | apply Kd.R_drew)); exact HO_9.out) hb)
           have n2_ := Aside0.mk (below_step bl_ hb)
           clear HO_6
           clear HO_9
           clear HB
           have HO_6 := n0_
           have HO_9 := n1_
           have HB := n2_
           clear n0_ n1_ n2_
           (try clear hb)
           (try clear hb2)
           (try clear hk)
           (try clear hi)
           refine hK.out _ _ ⟨((HB.out.cell (World.block_lt_of_cell? w _ hw171_0)).trans hw171_0), ((HB.out.cell (World.block_lt_of_cell? w _ hw171_1)).trans hw171_1), ((HB.out.cell (World.block_lt_of_cell? w _ hw171_2)).trans hw171_2), ((HB.out.cell (World.block_lt_of_cell? w _ hw171_3)).trans hw171_3), ((HB.out.cell (World.block_lt_of_cell? w _ hw171_4)).trans hw171_4), ((HB.out.cell (World.block_lt_of_cell? w _ hw171_5)).trans hw171_5), ((HB.out.cell (World.block_lt_of_cell? w _ hw172_0)).trans hw172_0), ((HB.out.cell (World.block_lt_of_cell? w _ hw172_1)).trans hw172_1), ((HB.out.cell (World.block_lt_of_cell? w _ hw172_2)).trans hw172_2), ((HB.out.cell (World.block_lt_of_cell? w _ hw172_3)).trans hw172_3), ((HB.out.cell (World.block_lt_of_cell? w _ hw172_4)).trans hw172_4), ((HB.out.cell (World.block_lt_of_cell? w _ hw172_5)).trans hw172_5)⟩ (fun hHeld => ?_)
           clear hK K
           refine norm_ (a' := ?_) ?_ ?_
           rotate_left
           ·show Act.put _ (some 157) _ = _
            simp only [Act.put, List.setIfInBounds_toArray, List.set_cons_zero, List.set_cons_succ, i64_w, i32_w]
            rfl
           refine pu_ 9 148 (msk 10 0) HT_.out ?_
           refine done_ (done_of HT_.out (by kernel_rfl)) ?_
           have p178 : 0 ≤ (x11_4 : Int) := od_
           have q178 : x11_4 < (l1.length : Int) := od_
           obtain ⟨ad178, e178, hx178_0, hx178_1, hx178_2, hx178_3, hx178_4, hx178_5⟩ := at_T40 HR1.out x11_4 p178 q178
           obtain rfl : ad166 = ad178 := (by injection e178)
           replace hx178_0 := (HB.out.cell (World.block_lt_of_cell? w _ hx178_0)).trans hx178_0
           replace hx178_1 := (HB.out.cell (World.block_lt_of_cell? w _ hx178_1)).trans hx178_1
           replace hx178_2 := (HB.out.cell (World.block_lt_of_cell? w _ hx178_2)).trans hx178_2
           replace hx178_3 := (HB.out.cell (World.block_lt_of_cell? w _ hx178_3)).trans hx178_3
           replace hx178_4 := (HB.out.cell (World.block_lt_of_cell? w _ hx178_4)).trans hx178_4
           replace hx178_5 := (HB.out.cell (World.block_lt_of_cell? w _ hx178_5)).trans hx178_5
           replace p178 := eq_true p178
           replace q178 := eq_true q178
           try go_wp2_with (first | ((with_reducible refine gate_builtin (b := .append) (xs := #[.tmp 90, .tmp 95]) rfl ?_); (try (refine gate_guard (by rfl) ?_; dsimp only)); at_builtin; refine Kd.R_append k40 (w0 := w) w.heap.size rfl (.tmp 90) (.tmp 95) 25 40 (.agg #[(.int .i64 0), (.int .i64 0), (.int .i64 0), (.int .i64 0), (.string ⟨#[]⟩), (.int .i64 0)]) 56 rfl Try.underlying25 info40 rfl (by decide) (by omega) u9 x9_4 (⟨(rd_T40 l1 x11_4).f0, (rd_T40 l1 x11_4).f1, (rd_T40 l1 x11_4).f2, (rd_T40 l1 x11_4).f3, (rd_T40 l1 x11_4).f4, (rd_T40 l1 x11_4).f5⟩ : S40) [.int .i64 ((rd_T40 l1 x11_4).f0), .int .i64 ((rd_T40 l1 x11_4).f1), .int .i64 ((rd_T40 l1 x11_4).f2), .int .i64 ((rd_T40 l1 x11_4).f3), .string ((rd_T40 l1 x11_4).f4), .int .i64 ((rd_T40 l1 x11_4).f5)] (fun k_ => some k_ ≠ (v144 : Value).ownBlock) (fun _ => False) rfl rfl ?aP (fun _ hk => hk.elim) ?aF ?aO ?aB ?aS ?aL ?_; (case aP => exact k40_mkM _ _ _ (⟨(rd_T40 l1 x11_4).f0, (rd_T40 l1 x11_4).f1, (rd_T40 l1 x11_4).f2, (rd_T40 l1 x11_4).f3, (rd_T40 l1 x11_4).f4, (rd_T40 l1 x11_4).f5⟩ : S40)); (case aB => exact bl_); (case aF => exact (fun k_ hk => Kd.fresh' (Kd.R_lt (by (with_reducible repeat (first | apply Kd.R_alloc | apply Kd.R_drewN | apply Kd.R_drew)); exact HO_6.out)) k_ hk)); (case aO => exact (by (with_reducible repeat (first | apply Kd.R_alloc | apply Kd.R_drewN | apply Kd.R_drew)); exact HO_9.out)); (case aS => exact (below_size bl_)); (case aL => have := LMc58.out; omega); intro v180 w62 ho hb hg hat; rw [← Ny179.out] at ho; have n0_ := Aside0.mk (Kd.R_after (ok := (fun _ => True)) (by (with_reducible repeat (first | apply Kd.R_alloc | apply Kd.R_drewN | apply Kd.R_drew)); exact Kd.R_mono HO_6.out (fun _ hk => ⟨trivial, hk⟩)) hg hat); have n1_ := Aside0.mk (hb); have n2_ := Aside0.mk (ho); clear HO_6; clear HB; clear HO_9; have HO_6 := n0_; have HB := n1_; have HO181 := n2_; clear n0_ n1_ n2_; clear ho hb hg hat))
           go_roundg kj29
           case measure => have := HJ2.out; have := HJ7.out; have := HK3.out; have := HK4.out; have := HJ29.out; omega
           case rel => exact ⟨(y179), (x10_4), (wrap64 (x11_4 + 1)), (by first | rfl | (simp; done) | (simp [*]; done)), (by first | rfl | (simp; done) | (simp [*]; done)), H', ⟨by have := HJ2.out; have := HJ7.out; have := HK3.out; have := HK4.out; have := HJ29.out; omega⟩, ⟨by (with_reducible repeat (first | apply Kd.R_alloc | apply Kd.R_drewN | apply Kd.R_drew)); exact Kd.R_mono HO_6.out (fun _ hk => hk.2)⟩, ⟨by (with_reducible repeat (first | apply Kd.R_alloc | apply Kd.R_drewN | apply Kd.R_drew)); exact HO181.out⟩, ⟨by repeat (first | (with_reducible first | exact HB.out | apply below_alloc | apply pw_below_drewN | apply below_drew1) | exact HB.out)⟩⟩
end Go.Proofs.Ytnpfeigdghecfaa.XFnExactMergeEvents
