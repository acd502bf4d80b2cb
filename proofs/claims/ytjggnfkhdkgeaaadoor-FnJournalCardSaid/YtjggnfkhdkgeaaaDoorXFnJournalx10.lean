-- PRINTED by xprint.py (our own program, over the kit's print.py)
import Derived.Test.YtjggnfkhdkgeaaaDoorXFnJournalx0
import Derived.Test.YtjggnfkhdkgeaaaDoorXFnJournalx3
import Derived.Test.YtjggnfkhdkgeaaaDoorXFnJournalx4
import Derived.Test.YtjggnfkhdkgeaaaDoorXFnJournalx6
import Derived.Test.YtjggnfkhdkgeaaaDoorXFnJournalx8
import Derived.Test.YtjggnfkhdkgeaaaDoorXFnJournalx9
namespace Go.Proofs.YtjggnfkhdkgeaaaDoor.XFnJournal
open Go.RowKit Go.Proofs.YtjggnfkhdkgeaaaDoorW.PrintWords Go.Proofs.YtjggnfkhdkgeaaaDoorW.PrintLast Go.Proofs.YtjggnfkhdkgeaaaDoorW.PrintMore Go.Proofs.YtjggnfkhdkgeaaaDoorW.Idx
attribute [local go_sem] max2_int min2_int max_two min_two max_three min_three max_four min_four   -- for this text's walks alone
set_option linter.unusedVariables false
set_option linter.unusedSimpArgs false

/-! ### laws_FnJournal: function 3 -/
mutual
def laws_FnJournal.j0 : Nat → List Int → List Int → Bool → Option (Bool)
  | 0, _, _, _ => none
  | k + 1, x0, x1, x35 => if x35 = true then (some true) else ((spec_EntriesOf.f k x0).bind fun t304 => ((impl_Chain.f k t304).bind fun bt307 => ((spec_EntriesOf.f k x0).bind fun t311 => ((spec_Chain.f k t311).bind fun bt314 => (if bt307.2 = 0 then ((laws_sameEntries.f k bt307.1 bt314.1).bind fun t318 => (laws_FnJournal.j1 k x1 bt307.1 (!t318))) else (laws_FnJournal.j1 k x1 bt307.1 true))))))
def laws_FnJournal.j1 : Nat → List Int → List (S33) → Bool → Option (Bool)
  | 0, _, _, _ => none
  | k + 1, x1, x5, x55 => if x55 = true then (some false) else ((impl_JournalText.f k x5).bind fun bt319 => ((impl_ReadJournal.f k bt319.1).bind fun bt321 => (if bt319.2 = 0 then (if bt321.2.1 = 0 then (if bt321.2.2 = 0 then ((laws_sameEntries.f k bt321.1 x5).bind fun t326 => (laws_FnJournal.j2 k x1 x5 (!t326))) else (laws_FnJournal.j2 k x1 x5 true)) else (laws_FnJournal.j2 k x1 x5 true)) else (laws_FnJournal.j2 k x1 x5 true))))
def laws_FnJournal.j2 : Nat → List Int → List (S33) → Bool → Option (Bool)
  | 0, _, _, _ => none
  | k + 1, x1, x5, x82 => if x82 = true then (some false) else (laws_FnJournal.l0 k x1 x5 0 0)
def laws_FnJournal.l0 : Nat → List Int → List (S33) → Int → Int → Option (Bool)
  | 0, _, _, _, _ => none
  | k + 1, x1, x5, x14, x15 => if x15 < (x5.length : Int) then (if 0 ≤ x15 then (laws_FnJournal.l0 k x1 x5 (wrap64 (x14 + ((rd_T33 x5 x15).f2))) (wrap64 (x15 + 1))) else (none)) else ((laws_at.f x1 3 900).bind fun t328 => ((impl_Counted.f k x5 (wrap64 (x14 + (wrap64 (t328 - 300))))).bind fun bt329 => (if bt329.2 = 0 then (laws_FnJournal.j4 k x1 x5 (bt329.1 != (wrap64 (t328 - 300)))) else (laws_FnJournal.j4 k x1 x5 true))))
def laws_FnJournal.j4 : Nat → List Int → List (S33) → Bool → Option (Bool)
  | 0, _, _, _ => none
  | k + 1, x1, x5, x113 => if x113 = true then (some false) else ((laws_at.f x1 0 (x5.length : Int)).bind fun t331 => ((some (([] : List (S33)) : List (S33))).bind fun y332 => (if y332.length + x5.length < 2932031007402 then ((some (y332 ++ x5 : List (S33))).bind fun y335 => (if 0 ≤ t331 then (if t331 < (y335.length : Int) then (if ((rd_T33 y335 t331).f3).size ≤ 9223372036854775807 then ((some (bytesOf ((rd_T33 y335 t331).f3) : List Int)).bind fun y339 => (if (y339.length : Int) > 0 then ((laws_at.f x1 1 (y339.length : Int)).bind fun t342 => (if 0 ≤ t342 then (if t342 < (y339.length : Int) then ((laws_at.f x1 2 94).bind fun t344 => ((impl_CheckJournal.f k (y335.set (t331 : Int).toNat (⟨(rd_T33 y335 t331).f0, (rd_T33 y335 t331).f1, (rd_T33 y335 t331).f2, strOfNums (y339.set (t342 : Int).toNat ((wrap64 (32 + (Int.tmod (wrap64 ((wrap64 ((wrap64 ((wrap64 (rd y339 t342)) - 32)) + 1)) + t344)) 95))) % 256)), (rd_T33 y335 t331).f4⟩ : S33))).bind fun bt347 => (if bt347.1 = 15 then (if bt347.2 = t331 then (laws_FnJournal.j5 k x5 t331) else (some false)) else (some false)))) else (none)) else (none))) else (laws_FnJournal.j5 k x5 t331))) else (none)) else (none)) else (none))) else (none))))
def laws_FnJournal.j5 : Nat → List (S33) → Int → Option (Bool)
  | 0, _, _ => none
  | k + 1, x5, x19 => if (wrap64 (x19 + 1)) < (x5.length : Int) then ((some (([] : List (S33)) : List (S33))).bind fun y349 => (if 0 ≤ x19 then (if x19 ≤ (x5.length : Int) then ((some (x5.take (x19 : Int).toNat : List (S33))).bind fun y352 => (if y349.length + y352.length < 2932031007402 then ((some (y349 ++ y352 : List (S33))).bind fun y356 => (if 0 ≤ (wrap64 (x19 + 1)) then (if (wrap64 (x19 + 1)) ≤ (x5.length : Int) then ((some (x5.drop ((wrap64 (x19 + 1)) : Int).toNat : List (S33))).bind fun y359 => (if y356.length + y359.length < 2932031007402 then ((impl_CheckJournal.f k (y356 ++ y359)).bind fun bt366 => (if bt366.1 = 3 then (if bt366.2 = x19 then (some true) else (some false)) else (some false))) else (none))) else (none)) else (none))) else (none))) else (none)) else (none))) else (some true)
end
def laws_FnJournal.f (k : Nat) (l0 : List Int) (l1 : List Int) : Option (Bool) := if (l0.length : Int) > 1048576 then (laws_FnJournal.j0 k l0 l1 true) else (laws_FnJournal.j0 k l0 l1 (decide ((l1.length : Int) > 1048576)))
theorem laws_FnJournal.mono_l : ∀ k, (∀ y0 y1 y2, LeO (laws_FnJournal.j0 k y0 y1 y2) (laws_FnJournal.j0 (k + 1) y0 y1 y2)) ∧ (∀ y0 y1 y2, LeO (laws_FnJournal.j1 k y0 y1 y2) (laws_FnJournal.j1 (k + 1) y0 y1 y2)) ∧ (∀ y0 y1 y2, LeO (laws_FnJournal.j2 k y0 y1 y2) (laws_FnJournal.j2 (k + 1) y0 y1 y2)) ∧ (∀ y0 y1 y2 y3, LeO (laws_FnJournal.l0 k y0 y1 y2 y3) (laws_FnJournal.l0 (k + 1) y0 y1 y2 y3)) ∧ (∀ y0 y1 y2, LeO (laws_FnJournal.j4 k y0 y1 y2) (laws_FnJournal.j4 (k + 1) y0 y1 y2)) ∧ (∀ y0 y1, LeO (laws_FnJournal.j5 k y0 y1) (laws_FnJournal.j5 (k + 1) y0 y1))
  | 0 => ⟨fun _ _ _ r h => by simp [laws_FnJournal.j0] at h, fun _ _ _ r h => by simp [laws_FnJournal.j1] at h, fun _ _ _ r h => by simp [laws_FnJournal.j2] at h, fun _ _ _ _ r h => by simp [laws_FnJournal.l0] at h, fun _ _ _ r h => by simp [laws_FnJournal.j4] at h, fun _ _ r h => by simp [laws_FnJournal.j5] at h⟩
  | k + 1 => by
    obtain ⟨ih0, ih1, ih2, ih3, ih4, ih5⟩ := laws_FnJournal.mono_l k
    refine ⟨?_, ?_, ?_, ?_, ?_, ?_⟩
    · intro y0 y1 y2
      unfold laws_FnJournal.j0
      repeat' first
      | (with_reducible exact ih0 _ _ _)
      | (with_reducible exact ih1 _ _ _)
      | (with_reducible exact ih2 _ _ _)
      | (with_reducible exact ih3 _ _ _ _)
      | (with_reducible exact ih4 _ _ _)
      | (with_reducible exact ih5 _ _)
      | (with_reducible exact impl_Chain.mono _ _)
      | (with_reducible exact impl_CheckJournal.mono _ _)
      | (with_reducible exact impl_Counted.mono _ _ _)
      | (with_reducible exact impl_JournalText.mono _ _)
      | (with_reducible exact impl_ReadJournal.mono _ _)
      | (with_reducible exact laws_sameEntries.mono _ _ _)
      | (with_reducible exact spec_Chain.mono _ _)
      | (with_reducible exact spec_EntriesOf.mono _ _)
      | (with_reducible exact LeO.refl _)
      | (with_reducible exact LeO.none _)
      | (with_reducible refine LeO.ite ?_ ?_)
      | (with_reducible refine LeO.bind ?_ (fun _ => ?_))
      | exact ih0 _ _ _
      | exact ih1 _ _ _
      | exact ih2 _ _ _
      | exact ih3 _ _ _ _
      | exact ih4 _ _ _
      | exact ih5 _ _
      | exact impl_Chain.mono _ _
      | exact impl_CheckJournal.mono _ _
      | exact impl_Counted.mono _ _ _
      | exact impl_JournalText.mono _ _
      | exact impl_ReadJournal.mono _ _
      | exact laws_sameEntries.mono _ _ _
      | exact spec_Chain.mono _ _
      | exact spec_EntriesOf.mono _ _
      | exact LeO.none _
      | refine LeO.ite ?_ ?_
      | refine LeO.bind ?_ (fun _ => ?_)
    · intro y0 y1 y2
      unfold laws_FnJournal.j1
      repeat' first
      | (with_reducible exact ih0 _ _ _)
      | (with_reducible exact ih1 _ _ _)
      | (with_reducible exact ih2 _ _ _)
      | (with_reducible exact ih3 _ _ _ _)
      | (with_reducible exact ih4 _ _ _)
      | (with_reducible exact ih5 _ _)
      | (with_reducible exact impl_Chain.mono _ _)
      | (with_reducible exact impl_CheckJournal.mono _ _)
      | (with_reducible exact impl_Counted.mono _ _ _)
      | (with_reducible exact impl_JournalText.mono _ _)
      | (with_reducible exact impl_ReadJournal.mono _ _)
      | (with_reducible exact laws_sameEntries.mono _ _ _)
      | (with_reducible exact spec_Chain.mono _ _)
      | (with_reducible exact spec_EntriesOf.mono _ _)
      | (with_reducible exact LeO.refl _)
      | (with_reducible exact LeO.none _)
      | (with_reducible refine LeO.ite ?_ ?_)
      | (with_reducible refine LeO.bind ?_ (fun _ => ?_))
      | exact ih0 _ _ _
      | exact ih1 _ _ _
      | exact ih2 _ _ _
      | exact ih3 _ _ _ _
      | exact ih4 _ _ _
      | exact ih5 _ _
      | exact impl_Chain.mono _ _
      | exact impl_CheckJournal.mono _ _
      | exact impl_Counted.mono _ _ _
      | exact impl_JournalText.mono _ _
      | exact impl_ReadJournal.mono _ _
      | exact laws_sameEntries.mono _ _ _
      | exact spec_Chain.mono _ _
      | exact spec_EntriesOf.mono _ _
      | exact LeO.none _
      | refine LeO.ite ?_ ?_
      | refine LeO.bind ?_ (fun _ => ?_)
    · intro y0 y1 y2
      unfold laws_FnJournal.j2
      repeat' first
      | (with_reducible exact ih0 _ _ _)
      | (with_reducible exact ih1 _ _ _)
      | (with_reducible exact ih2 _ _ _)
      | (with_reducible exact ih3 _ _ _ _)
      | (with_reducible exact ih4 _ _ _)
      | (with_reducible exact ih5 _ _)
      | (with_reducible exact impl_Chain.mono _ _)
      | (with_reducible exact impl_CheckJournal.mono _ _)
      | (with_reducible exact impl_Counted.mono _ _ _)
      | (with_reducible exact impl_JournalText.mono _ _)
      | (with_reducible exact impl_ReadJournal.mono _ _)
      | (with_reducible exact laws_sameEntries.mono _ _ _)
      | (with_reducible exact spec_Chain.mono _ _)
      | (with_reducible exact spec_EntriesOf.mono _ _)
      | (with_reducible exact LeO.refl _)
      | (with_reducible exact LeO.none _)
      | (with_reducible refine LeO.ite ?_ ?_)
      | (with_reducible refine LeO.bind ?_ (fun _ => ?_))
      | exact ih0 _ _ _
      | exact ih1 _ _ _
      | exact ih2 _ _ _
      | exact ih3 _ _ _ _
      | exact ih4 _ _ _
      | exact ih5 _ _
      | exact impl_Chain.mono _ _
      | exact impl_CheckJournal.mono _ _
      | exact impl_Counted.mono _ _ _
      | exact impl_JournalText.mono _ _
      | exact impl_ReadJournal.mono _ _
      | exact laws_sameEntries.mono _ _ _
      | exact spec_Chain.mono _ _
      | exact spec_EntriesOf.mono _ _
      | exact LeO.none _
      | refine LeO.ite ?_ ?_
      | refine LeO.bind ?_ (fun _ => ?_)
    · intro y0 y1 y2 y3
      unfold laws_FnJournal.l0
      repeat' first
      | (with_reducible exact ih0 _ _ _)
      | (with_reducible exact ih1 _ _ _)
      | (with_reducible exact ih2 _ _ _)
      | (with_reducible exact ih3 _ _ _ _)
      | (with_reducible exact ih4 _ _ _)
      | (with_reducible exact ih5 _ _)
      | (with_reducible exact impl_Chain.mono _ _)
      | (with_reducible exact impl_CheckJournal.mono _ _)
      | (with_reducible exact impl_Counted.mono _ _ _)
      | (with_reducible exact impl_JournalText.mono _ _)
      | (with_reducible exact impl_ReadJournal.mono _ _)
      | (with_reducible exact laws_sameEntries.mono _ _ _)
      | (with_reducible exact spec_Chain.mono _ _)
      | (with_reducible exact spec_EntriesOf.mono _ _)
      | (with_reducible exact LeO.refl _)
      | (with_reducible exact LeO.none _)
      | (with_reducible refine LeO.ite ?_ ?_)
      | (with_reducible refine LeO.bind ?_ (fun _ => ?_))
      | exact ih0 _ _ _
      | exact ih1 _ _ _
      | exact ih2 _ _ _
      | exact ih3 _ _ _ _
      | exact ih4 _ _ _
      | exact ih5 _ _
      | exact impl_Chain.mono _ _
      | exact impl_CheckJournal.mono _ _
      | exact impl_Counted.mono _ _ _
      | exact impl_JournalText.mono _ _
      | exact impl_ReadJournal.mono _ _
      | exact laws_sameEntries.mono _ _ _
      | exact spec_Chain.mono _ _
      | exact spec_EntriesOf.mono _ _
      | exact LeO.none _
      | refine LeO.ite ?_ ?_
      | refine LeO.bind ?_ (fun _ => ?_)
    · intro y0 y1 y2
      unfold laws_FnJournal.j4
      repeat' first
      | (with_reducible exact ih0 _ _ _)
      | (with_reducible exact ih1 _ _ _)
      | (with_reducible exact ih2 _ _ _)
      | (with_reducible exact ih3 _ _ _ _)
      | (with_reducible exact ih4 _ _ _)
      | (with_reducible exact ih5 _ _)
      | (with_reducible exact impl_Chain.mono _ _)
      | (with_reducible exact impl_CheckJournal.mono _ _)
      | (with_reducible exact impl_Counted.mono _ _ _)
      | (with_reducible exact impl_JournalText.mono _ _)
      | (with_reducible exact impl_ReadJournal.mono _ _)
      | (with_reducible exact laws_sameEntries.mono _ _ _)
      | (with_reducible exact spec_Chain.mono _ _)
      | (with_reducible exact spec_EntriesOf.mono _ _)
      | (with_reducible exact LeO.refl _)
      | (with_reducible exact LeO.none _)
      | (with_reducible refine LeO.ite ?_ ?_)
      | (with_reducible refine LeO.bind ?_ (fun _ => ?_))
      | exact ih0 _ _ _
      | exact ih1 _ _ _
      | exact ih2 _ _ _
      | exact ih3 _ _ _ _
      | exact ih4 _ _ _
      | exact ih5 _ _
      | exact impl_Chain.mono _ _
      | exact impl_CheckJournal.mono _ _
      | exact impl_Counted.mono _ _ _
      | exact impl_JournalText.mono _ _
      | exact impl_ReadJournal.mono _ _
      | exact laws_sameEntries.mono _ _ _
      | exact spec_Chain.mono _ _
      | exact spec_EntriesOf.mono _ _
      | exact LeO.none _
      | refine LeO.ite ?_ ?_
      | refine LeO.bind ?_ (fun _ => ?_)
    · intro y0 y1
      unfold laws_FnJournal.j5
      repeat' first
      | (with_reducible exact ih0 _ _ _)
      | (with_reducible exact ih1 _ _ _)
      | (with_reducible exact ih2 _ _ _)
      | (with_reducible exact ih3 _ _ _ _)
      | (with_reducible exact ih4 _ _ _)
      | (with_reducible exact ih5 _ _)
      | (with_reducible exact impl_Chain.mono _ _)
      | (with_reducible exact impl_CheckJournal.mono _ _)
      | (with_reducible exact impl_Counted.mono _ _ _)
      | (with_reducible exact impl_JournalText.mono _ _)
      | (with_reducible exact impl_ReadJournal.mono _ _)
      | (with_reducible exact laws_sameEntries.mono _ _ _)
      | (with_reducible exact spec_Chain.mono _ _)
      | (with_reducible exact spec_EntriesOf.mono _ _)
      | (with_reducible exact LeO.refl _)
      | (with_reducible exact LeO.none _)
      | (with_reducible refine LeO.ite ?_ ?_)
      | (with_reducible refine LeO.bind ?_ (fun _ => ?_))
      | exact ih0 _ _ _
      | exact ih1 _ _ _
      | exact ih2 _ _ _
      | exact ih3 _ _ _ _
      | exact ih4 _ _ _
      | exact ih5 _ _
      | exact impl_Chain.mono _ _
      | exact impl_CheckJournal.mono _ _
      | exact impl_Counted.mono _ _ _
      | exact impl_JournalText.mono _ _
      | exact impl_ReadJournal.mono _ _
      | exact laws_sameEntries.mono _ _ _
      | exact spec_Chain.mono _ _
      | exact spec_EntriesOf.mono _ _
      | exact LeO.none _
      | refine LeO.ite ?_ ?_
      | refine LeO.bind ?_ (fun _ => ?_)
theorem laws_FnJournal.mono : ∀ a0 a1 k, LeO (laws_FnJournal.f k a0 a1) (laws_FnJournal.f (k + 1) a0 a1) := by
  intro a0 a1 k
  obtain ⟨ih0, ih1, ih2, ih3, ih4, ih5⟩ := laws_FnJournal.mono_l k
  unfold laws_FnJournal.f
  repeat' first
      | (with_reducible exact ih0 _ _ _)
      | (with_reducible exact ih1 _ _ _)
      | (with_reducible exact ih2 _ _ _)
      | (with_reducible exact ih3 _ _ _ _)
      | (with_reducible exact ih4 _ _ _)
      | (with_reducible exact ih5 _ _)
      | (with_reducible exact impl_Chain.mono _ _)
      | (with_reducible exact impl_CheckJournal.mono _ _)
      | (with_reducible exact impl_Counted.mono _ _ _)
      | (with_reducible exact impl_JournalText.mono _ _)
      | (with_reducible exact impl_ReadJournal.mono _ _)
      | (with_reducible exact laws_sameEntries.mono _ _ _)
      | (with_reducible exact spec_Chain.mono _ _)
      | (with_reducible exact spec_EntriesOf.mono _ _)
      | (with_reducible exact LeO.refl _)
      | (with_reducible exact LeO.none _)
      | (with_reducible refine LeO.ite ?_ ?_)
      | (with_reducible refine LeO.bind ?_ (fun _ => ?_))
      | exact ih0 _ _ _
      | exact ih1 _ _ _
      | exact ih2 _ _ _
      | exact ih3 _ _ _ _
      | exact ih4 _ _ _
      | exact ih5 _ _
      | exact impl_Chain.mono _ _
      | exact impl_CheckJournal.mono _ _
      | exact impl_Counted.mono _ _ _
      | exact impl_JournalText.mono _ _
      | exact impl_ReadJournal.mono _ _
      | exact laws_sameEntries.mono _ _ _
      | exact spec_Chain.mono _ _
      | exact spec_EntriesOf.mono _ _
      | exact LeO.none _
      | refine LeO.ite ?_ ?_
      | refine LeO.bind ?_ (fun _ => ?_)
def laws_FnJournal.T25 : Bool × List (List Nat × List Nat) := (true, [([], []), ([], []), ([], []), ([], []), ([2, 3], [2, 3]), ([4], [4]), ([5], [5]), ([6], [6]), ([7], [7]), ([], []), ([9], [9]), ([8, 10], [8, 10]), ([11], [11]), ([12], [12]), ([13], [13]), ([0, 1, 0, 1, 2, 3, 4, 5, 6, 7, 8, 9, 10, 11, 12, 13, 14], [0, 1]), ([15, 14, 10, 0, 1, 2, 3, 4, 5, 6, 7, 8, 9, 10, 11, 12, 13, 14], [14, 15])])
def laws_FnJournal.B25 : List Nat := [0, 0, 0, 0, 12, 28, 60, 124, 252, 0, 512, 2044, 4092, 8188, 16380, 32767, 65535]
theorem laws_FnJournal.tab25 : rtab .any (opsOf Tryd.f3 25) = laws_FnJournal.T25 := by kernel_rfl
theorem laws_FnJournal.bits25 : waitsOk laws_FnJournal.T25.2 laws_FnJournal.B25 = true := by kernel_rfl
def laws_FnJournal.T31 : Bool × List (List Nat × List Nat) := (true, [([], []), ([], []), ([], []), ([1, 2], [1, 2]), ([0, 3], [0, 3]), ([], []), ([], []), ([6], [6]), ([5, 7], [5, 7]), ([4, 8, 4], [4, 8]), ([9, 9, 0, 1, 2, 3, 4, 5, 6, 7, 8, 9], [9])])
def laws_FnJournal.B31 : List Nat := [0, 0, 0, 6, 15, 0, 0, 64, 224, 511, 1023]
theorem laws_FnJournal.tab31 : rtab .any (opsOf Tryd.f3 31) = laws_FnJournal.T31 := by kernel_rfl
theorem laws_FnJournal.bits31 : waitsOk laws_FnJournal.T31.2 laws_FnJournal.B31 = true := by kernel_rfl
set_option maxHeartbeats 8000000 in
set_option maxRecDepth 100000 in
theorem laws_FnJournal.calls (k : Nat) (A0 : Option Addr) (c0 : Nat) (l0 : List Int) (A1 : Option Addr) (c1 : Nat) (l1 : List Int) (r : Bool) (w : World) (hr0 : Kd.C (Kd.int .u8) w A0 l0.length l0) (hc0 : l0.length ≤ c0) (hr1 : Kd.C (Kd.int .u8) w A1 l1.length l1) (hc1 : l1.length ≤ c1) (hTab : TabT w) (h : laws_FnJournal.f k l0 l1 = some r) (hT0 : r = true) :
    Calls Tryd.prog 3 #[.slice A0 l0.length c0, .slice A1 l1.length c1] w fun e w' => e = .returned (.bool r) ∧ Below w.heap.size w w' := by
  have HR0 := Aside0.mk hr0
  have HC0 := Aside0.mk hc0
  clear hr0 hc0
  have HR1 := Aside0.mk hr1
  have HC1 := Aside0.mk hc1
  clear hr1 hc1
  have HB := Aside0.mk (Below.refl w.heap.size w)
  have H : (if (l0.length : Int) > 1048576 then (laws_FnJournal.j0 k l0 l1 true) else (laws_FnJournal.j0 k l0 l1 (decide ((l1.length : Int) > 1048576)))) = some r := h
  clear h
  have HTAB := Aside0.mk hTab
  clear hTab
  have hT_ := Aside0.mk hT0
  clear hT0
  have HC3 := Aside0.mk H
  clear H
  go_enter Tryd.func3, Tryd.ntmps3
  go_upto_region 1 with (fail)
  go_cut [35] (fun v35 wc => ∃ (kq : Nat) (x35_2 : Bool), v35 = .bool x35_2 ∧ Aside0 (laws_FnJournal.j0 kq l0 l1 x35_2 = some r) ∧ Aside0 (kq ≤ k) ∧ Aside0 (Below w.heap.size w wc))
  case first =>
    have H := HC3.out
    clear HC3
    by_cases c4 : (l0.length : Int) > 1048576
    · rw [if_pos c4] at H
      have c4b0 : decide (1048576 < (l0.length : Int)) = true := decide_eq_true c4
      have c4b1 : decide (1048576 < l0.length) = true := decide_eq_true (by omega)
      clear c4
      (first | rw [c4b0] | (simp only [i64_w, i32_w]; rw [c4b0]) | skip)
      have H' := Aside0.mk H
      clear H
      go_wp2
      go_meet
      case rel => exact ⟨_, (true), (by first | rfl | (simp; done) | (simp [*]; done)), H', ⟨by first | omega | exact Nat.le_refl _⟩, ⟨by repeat (first | (with_reducible first | exact HB.out | apply below_alloc | apply pw_below_drewN | apply below_drew1) | exact HB.out)⟩⟩
    · rw [if_neg c4] at H
      have c4b0 : decide (1048576 < (l0.length : Int)) = false := decide_eq_false c4
      have c4b1 : decide (1048576 < l0.length) = false := decide_eq_false (by omega)
      clear c4
      (first | rw [c4b0] | (simp only [i64_w, i32_w]; rw [c4b0]) | skip)
      have H' := Aside0.mk H
      clear H
      go_wp2
      go_meet
      case rel => exact ⟨_, (decide ((l1.length : Int) > 1048576)), (by first | rfl | (simp; done) | (simp [*]; done)), H', ⟨by first | omega | exact Nat.le_refl _⟩, ⟨by repeat (first | (with_reducible first | exact HB.out | apply below_alloc | apply pw_below_drewN | apply below_drew1) | exact HB.out)⟩⟩
  case rest =>
    clear HC3
    try clear c1
    try clear p2
    try clear c3
    try clear c4
    try clear c4b0
    try clear c4b1
    obtain ⟨kq, x35_2, rfl, HA, HJ2, HB⟩ := hcut
    cases kq with
    | zero => exact absurd HA.out (by simp [laws_FnJournal.j0])
    | succ kj2 =>
      have H := HA.out
      clear HA
      simp only [laws_FnJournal.j0] at H
      by_cases c5 : x35_2 = true
      · subst c5
        have H1 : (some true) = some r := by rw [if_pos rfl] at H; exact H
        clear H
        have H := H1
        clear H1
        obtain rfl := Option.some.inj H
        go_wp2
        go_ret
        exact ⟨by first | rfl | (simp [errW_none, errW_some] <;> rfl) | (simp [*, errW_none, errW_some] <;> rfl), by repeat (first | (with_reducible first | exact HB.out | apply below_alloc | apply pw_below_drewN | apply below_drew1) | exact HB.out)⟩
      · replace c5 := Bool.eq_false_iff.mpr c5
        subst c5
        have H1 : ((spec_EntriesOf.f kj2 l0).bind fun t304 => ((impl_Chain.f kj2 t304).bind fun bt307 => ((spec_EntriesOf.f kj2 l0).bind fun t311 => ((spec_Chain.f kj2 t311).bind fun bt314 => (if bt307.2 = 0 then ((laws_sameEntries.f kj2 bt307.1 bt314.1).bind fun t318 => (laws_FnJournal.j1 kj2 l1 bt307.1 (!t318))) else (laws_FnJournal.j1 kj2 l1 bt307.1 true)))))) = some r := by rw [if_neg (show ¬ (false = true) by decide)] at H; exact H
        clear H
        have H := H1
        clear H1
        replace H := Option.bind_eq_some_iff.mp H
        obtain ⟨t304, A60, H⟩ := H
        replace H : ((impl_Chain.f kj2 t304).bind fun bt307 => ((spec_EntriesOf.f kj2 l0).bind fun t311 => ((spec_Chain.f kj2 t311).bind fun bt314 => (if bt307.2 = 0 then ((laws_sameEntries.f kj2 bt307.1 bt314.1).bind fun t318 => (laws_FnJournal.j1 kj2 l1 bt307.1 (!t318))) else (laws_FnJournal.j1 kj2 l1 bt307.1 true))))) = some r := H
        have A6 := Aside0.mk A60
        clear A60
        replace H := Option.bind_eq_some_iff.mp H
        obtain ⟨⟨t307, t308⟩, A70, H⟩ := H
        replace H : ((spec_EntriesOf.f kj2 l0).bind fun t311 => ((spec_Chain.f kj2 t311).bind fun bt314 => (if t308 = 0 then ((laws_sameEntries.f kj2 t307 bt314.1).bind fun t318 => (laws_FnJournal.j1 kj2 l1 t307 (!t318))) else (laws_FnJournal.j1 kj2 l1 t307 true)))) = some r := H
        have A7 := Aside0.mk A70
        clear A70
        replace H := Option.bind_eq_some_iff.mp H
        obtain ⟨t311, A80, H⟩ := H
        replace H : ((spec_Chain.f kj2 t311).bind fun bt314 => (if t308 = 0 then ((laws_sameEntries.f kj2 t307 bt314.1).bind fun t318 => (laws_FnJournal.j1 kj2 l1 t307 (!t318))) else (laws_FnJournal.j1 kj2 l1 t307 true))) = some r := H
        have A8 := Aside0.mk A80
        clear A80
        replace H := Option.bind_eq_some_iff.mp H
        obtain ⟨⟨t314, t315⟩, A90, H⟩ := H
        replace H : (if t308 = 0 then ((laws_sameEntries.f kj2 t307 t314).bind fun t318 => (laws_FnJournal.j1 kj2 l1 t307 (!t318))) else (laws_FnJournal.j1 kj2 l1 t307 true)) = some r := H
        have A9 := Aside0.mk A90
        clear A90
        have HC10 := Aside0.mk H
        clear H
        go_upto_region 5 with (first | ((with_reducible refine gate_callee (f := 10) rfl ?_); refine goesL_ (some 38) rfl rfl Tryd.func10 (by kernel_rfl) rfl #[.slice A0 l0.length c0] rfl (by (try simp only [List.map_toArray, List.map_cons, List.map_nil]); first | done | rfl | (simp only [List.length_drop, List.length_take]; rfl)) ?_; (with_reducible refine (spec_EntriesOf.calls kj2 _ _ l0 t304 _ ?side1 ?side2 A6.out).mono ?_); (case side1 => repeat (first | exact (Kd.C_below HR0.out HB.out) | (with_reducible refine Kd.C_alloc ?_ _) | (with_reducible refine Kd.C_drewN ?_ _) | (with_reducible refine Kd.C_drew ?_))); (case side2 => exact HC0.out); rintro e w11 ⟨v305, rfl, ho0, hb⟩; refine ⟨_, rfl, ?_⟩; have n0_ := Aside0.mk (Kd.R_lower ho0 (below_size (by repeat (first | (with_reducible first | exact HB.out | apply below_alloc | apply pw_below_drewN | apply below_drew1) | exact HB.out)))); have n1_ := Aside0.mk (below_step (by repeat (first | (with_reducible first | exact HB.out | apply below_alloc | apply pw_below_drewN | apply below_drew1) | exact HB.out)) hb); clear HB; have HO306 := n0_; have HB := n1_; clear n0_ n1_; (try clear hb); (try clear hb2); (try clear hk); (try clear hi); (try clear ho0); obtain ⟨Ao12, co12, eo12⟩ := Kd.R_slice HO306.out; subst eo12) | ((with_reducible refine gate_callee (f := 9) rfl ?_); refine goesL_ (some 39) rfl rfl Tryd.func9 (by kernel_rfl) rfl #[.slice Ao12 t304.length co12] rfl (by (try simp only [List.map_toArray, List.map_cons, List.map_nil]); first | done | rfl | (simp only [List.length_drop, List.length_take]; rfl)) ?_; (with_reducible refine (impl_Chain.calls kj2 _ _ t304 t307 t308 _ ?side1 ?side2 ?side3 A7.out).mono ?_); (case side1 => repeat (first | exact (Kd.R_reads' HO306.out).2.2 | (with_reducible refine Kd.C_alloc ?_ _) | (with_reducible refine Kd.C_drewN ?_ _) | (with_reducible refine Kd.C_drew ?_))); (case side2 => exact (Kd.R_reads' HO306.out).2.1); (case side3 => exact TabT.below HTAB.out (by repeat (first | (with_reducible first | exact HB.out | apply below_alloc | apply pw_below_drewN | apply below_drew1) | exact HB.out))); rintro e w13 ⟨v309, rfl, ho0, hb⟩; refine ⟨_, rfl, ?_⟩; have n0_ := Aside0.mk (Kd.R_elder' (by (with_reducible repeat (first | apply Kd.R_alloc | apply Kd.R_drewN | apply Kd.R_drew)); exact HO306.out) (Kd.R_base ho0) hb); have n1_ := Aside0.mk (Kd.R_lower (Kd.R_new' ho0 (Kd.R_lt (by (with_reducible repeat (first | apply Kd.R_alloc | apply Kd.R_drewN | apply Kd.R_drew)); exact HO306.out))) (below_size (by repeat (first | (with_reducible first | exact HB.out | apply below_alloc | apply pw_below_drewN | apply below_drew1) | exact HB.out)))); have n2_ := Aside0.mk (below_step (by repeat (first | (with_reducible first | exact HB.out | apply below_alloc | apply pw_below_drewN | apply below_drew1) | exact HB.out)) hb); clear HO306; clear HB; have HO306 := n0_; have HO310 := n1_; have HB := n2_; clear n0_ n1_ n2_; (try clear hb); (try clear hb2); (try clear hk); (try clear hi); (try clear ho0)) | ((with_reducible refine gate_callee (f := 10) rfl ?_); refine goesL_ (some 44) rfl rfl Tryd.func10 (by kernel_rfl) rfl #[.slice A0 l0.length c0] rfl (by (try simp only [List.map_toArray, List.map_cons, List.map_nil]); first | done | rfl | (simp only [List.length_drop, List.length_take]; rfl)) ?_; (with_reducible refine (spec_EntriesOf.calls kj2 _ _ l0 t311 _ ?side1 ?side2 A8.out).mono ?_); (case side1 => repeat (first | exact (Kd.C_below HR0.out HB.out) | (with_reducible refine Kd.C_alloc ?_ _) | (with_reducible refine Kd.C_drewN ?_ _) | (with_reducible refine Kd.C_drew ?_))); (case side2 => exact HC0.out); rintro e w14 ⟨v312, rfl, ho0, hb⟩; refine ⟨_, rfl, ?_⟩; have n0_ := Aside0.mk (Kd.R_elder' (by (with_reducible repeat (first | apply Kd.R_alloc | apply Kd.R_drewN | apply Kd.R_drew)); exact HO306.out) (Kd.R_base ho0) hb); have n1_ := Aside0.mk (Kd.R_elder' (by (with_reducible repeat (first | apply Kd.R_alloc | apply Kd.R_drewN | apply Kd.R_drew)); exact HO310.out) (Kd.R_base ho0) hb); have n2_ := Aside0.mk (Kd.R_lower (Kd.R_new' (Kd.R_new' ho0 (Kd.R_lt (by (with_reducible repeat (first | apply Kd.R_alloc | apply Kd.R_drewN | apply Kd.R_drew)); exact HO306.out))) (Kd.R_lt (by (with_reducible repeat (first | apply Kd.R_alloc | apply Kd.R_drewN | apply Kd.R_drew)); exact HO310.out))) (below_size (by repeat (first | (with_reducible first | exact HB.out | apply below_alloc | apply pw_below_drewN | apply below_drew1) | exact HB.out)))); have n3_ := Aside0.mk (below_step (by repeat (first | (with_reducible first | exact HB.out | apply below_alloc | apply pw_below_drewN | apply below_drew1) | exact HB.out)) hb); clear HO306; clear HO310; clear HB; have HO306 := n0_; have HO310 := n1_; have HO313 := n2_; have HB := n3_; clear n0_ n1_ n2_ n3_; (try clear hb); (try clear hb2); (try clear hk); (try clear hi); (try clear ho0); obtain ⟨Ao15, co15, eo15⟩ := Kd.R_slice HO313.out; subst eo15) | ((with_reducible refine gate_callee (f := 11) rfl ?_); refine goesL_ (some 45) rfl rfl Tryd.func11 (by kernel_rfl) rfl #[.slice Ao15 t311.length co15] rfl (by (try simp only [List.map_toArray, List.map_cons, List.map_nil]); first | done | rfl | (simp only [List.length_drop, List.length_take]; rfl)) ?_; (with_reducible refine (spec_Chain.calls kj2 _ _ t311 t314 t315 _ ?side1 ?side2 A9.out).mono ?_); (case side1 => repeat (first | exact (Kd.R_reads' HO313.out).2.2 | (with_reducible refine Kd.C_alloc ?_ _) | (with_reducible refine Kd.C_drewN ?_ _) | (with_reducible refine Kd.C_drew ?_))); (case side2 => exact (Kd.R_reads' HO313.out).2.1); rintro e w16 ⟨v316, rfl, ho0, hb⟩; refine ⟨_, rfl, ?_⟩; have n0_ := Aside0.mk (Kd.R_elder' (by (with_reducible repeat (first | apply Kd.R_alloc | apply Kd.R_drewN | apply Kd.R_drew)); exact HO306.out) (Kd.R_base ho0) hb); have n1_ := Aside0.mk (Kd.R_elder' (by (with_reducible repeat (first | apply Kd.R_alloc | apply Kd.R_drewN | apply Kd.R_drew)); exact HO310.out) (Kd.R_base ho0) hb); have n2_ := Aside0.mk (Kd.R_elder' (by (with_reducible repeat (first | apply Kd.R_alloc | apply Kd.R_drewN | apply Kd.R_drew)); exact HO313.out) (Kd.R_base ho0) hb); have n3_ := Aside0.mk (Kd.R_lower (Kd.R_new' (Kd.R_new' (Kd.R_new' ho0 (Kd.R_lt (by (with_reducible repeat (first | apply Kd.R_alloc | apply Kd.R_drewN | apply Kd.R_drew)); exact HO306.out))) (Kd.R_lt (by (with_reducible repeat (first | apply Kd.R_alloc | apply Kd.R_drewN | apply Kd.R_drew)); exact HO310.out))) (Kd.R_lt (by (with_reducible repeat (first | apply Kd.R_alloc | apply Kd.R_drewN | apply Kd.R_drew)); exact HO313.out))) (below_size (by repeat (first | (with_reducible first | exact HB.out | apply below_alloc | apply pw_below_drewN | apply below_drew1) | exact HB.out)))); have n4_ := Aside0.mk (below_step (by repeat (first | (with_reducible first | exact HB.out | apply below_alloc | apply pw_below_drewN | apply below_drew1) | exact HB.out)) hb); clear HO306; clear HO310; clear HO313; clear HB; have HO306 := n0_; have HO310 := n1_; have HO313 := n2_; have HO317 := n3_; have HB := n4_; clear n0_ n1_ n2_ n3_ n4_; (try clear hb); (try clear hb2); (try clear hk); (try clear hi); (try clear ho0)))
        (try simp only [Act.put, List.setIfInBounds_toArray, List.set_cons_zero, List.set_cons_succ])
        go_cut [55] (fun v55 wc => ∃ (kq : Nat) (x55_9 : Bool), v55 = .bool x55_9 ∧ Aside0 (laws_FnJournal.j1 kq l1 t307 x55_9 = some r) ∧ Aside0 (kq ≤ kj2) ∧ Aside0 (Kd.R k33 33 wc w.heap.size (fun _ => True) v309 t307) ∧ Aside0 (Below w.heap.size w wc))
        case first =>
          have H := HC10.out
          clear HC10
          by_cases c17 : t308 = 0
          · rw [if_pos c17] at H
            have c17b0 : (t308 == 0) = true := beq_iff_eq.mpr c17
            have c17b1 : (t308 != 0) = false := bne_eq_false_iff_eq.mpr c17
            clear c17
            (first | rw [c17b0] | (simp only [i64_w, i32_w]; rw [c17b0]) | skip)
            replace H := Option.bind_eq_some_iff.mp H
            obtain ⟨t318, A180, H⟩ := H
            replace H : (laws_FnJournal.j1 kj2 l1 t307 (!t318)) = some r := H
            have A18 := Aside0.mk A180
            clear A180
            have H' := Aside0.mk H
            clear H
            obtain ⟨Ao19, co19, eo19⟩ := Kd.R_slice HO310.out
            subst eo19
            obtain ⟨Ao20, co20, eo20⟩ := Kd.R_slice HO317.out
            subst eo20
            go_wp2_with (first | (go_at_call 12; (with_reducible refine (laws_sameEntries.calls kj2 _ _ t307 _ _ t314 t318 _ ?side1 ?side2 ?side3 ?side4 A18.out).mono ?_); (case side1 => repeat (first | exact (Kd.R_reads' HO310.out).2.2 | (with_reducible refine Kd.C_alloc ?_ _) | (with_reducible refine Kd.C_drewN ?_ _) | (with_reducible refine Kd.C_drew ?_))); (case side2 => exact (Kd.R_reads' HO310.out).2.1); (case side3 => repeat (first | exact (Kd.R_reads' HO317.out).2.2 | (with_reducible refine Kd.C_alloc ?_ _) | (with_reducible refine Kd.C_drewN ?_ _) | (with_reducible refine Kd.C_drew ?_))); (case side4 => exact (Kd.R_reads' HO317.out).2.1); rintro e w' ⟨rfl, ⟨nd, rfl⟩⟩))
            go_meet
            case rel => exact ⟨_, (!t318), (by first | rfl | (simp; done) | (simp [*]; done)), H', ⟨by have := HJ2.out; first | omega | exact Nat.le_refl _⟩, ⟨by (with_reducible repeat (first | apply Kd.R_alloc | apply Kd.R_drewN | apply Kd.R_drew)); exact Kd.R_mono HO310.out (fun _ hk => trivial)⟩, ⟨by repeat (first | (with_reducible first | exact HB.out | apply below_alloc | apply pw_below_drewN | apply below_drew1) | exact HB.out)⟩⟩
          · rw [if_neg c17] at H
            have c17b0 : (t308 == 0) = false := beq_eq_false_iff_ne.mpr c17
            have c17b1 : (t308 != 0) = true := bne_iff_ne.mpr c17
            (first | rw [c17b0] | (simp only [i64_w, i32_w]; rw [c17b0]) | skip)
            have H' := Aside0.mk H
            clear H
            go_wp2
            go_meet
            case rel => exact ⟨_, (true), (by first | rfl | (simp; done) | (simp [*]; done)), H', ⟨by have := HJ2.out; first | omega | exact Nat.le_refl _⟩, ⟨by (with_reducible repeat (first | apply Kd.R_alloc | apply Kd.R_drewN | apply Kd.R_drew)); exact Kd.R_mono HO310.out (fun _ hk => trivial)⟩, ⟨by repeat (first | (with_reducible first | exact HB.out | apply below_alloc | apply pw_below_drewN | apply below_drew1) | exact HB.out)⟩⟩
        case rest =>
          clear HC10
          try clear c1
          try clear p2
          try clear c3
          try clear c4
          try clear c4b0
          try clear c4b1
          try clear c5
          try clear c9
          try clear c10
          try clear c11
          try clear c17
          try clear c17b0
          try clear c17b1
          try clear p2
          obtain ⟨kq, x55_9, rfl, HA, HJ9, HO_5, HB⟩ := hcut
          cases kq with
          | zero => exact absurd HA.out (by simp [laws_FnJournal.j1])
          | succ kj9 =>
            have H := HA.out
            clear HA
            simp only [laws_FnJournal.j1] at H
            by_cases c21 : x55_9 = true
            · subst c21
              have H1 : (some false) = some r := by rw [if_pos rfl] at H; exact H
              clear H
              have H := H1
              clear H1
              obtain rfl := Option.some.inj H
              exact absurd hT_.out (by decide)
            · replace c21 := Bool.eq_false_iff.mpr c21
              subst c21
              have H1 : ((impl_JournalText.f kj9 t307).bind fun bt319 => ((impl_ReadJournal.f kj9 bt319.1).bind fun bt321 => (if bt319.2 = 0 then (if bt321.2.1 = 0 then (if bt321.2.2 = 0 then ((laws_sameEntries.f kj9 bt321.1 t307).bind fun t326 => (laws_FnJournal.j2 kj9 l1 t307 (!t326))) else (laws_FnJournal.j2 kj9 l1 t307 true)) else (laws_FnJournal.j2 kj9 l1 t307 true)) else (laws_FnJournal.j2 kj9 l1 t307 true)))) = some r := by rw [if_neg (show ¬ (false = true) by decide)] at H; exact H
              clear H
              have H := H1
              clear H1
              replace H := Option.bind_eq_some_iff.mp H
              obtain ⟨⟨t319, t320⟩, A220, H⟩ := H
              replace H : ((impl_ReadJournal.f kj9 t319).bind fun bt321 => (if t320 = 0 then (if bt321.2.1 = 0 then (if bt321.2.2 = 0 then ((laws_sameEntries.f kj9 bt321.1 t307).bind fun t326 => (laws_FnJournal.j2 kj9 l1 t307 (!t326))) else (laws_FnJournal.j2 kj9 l1 t307 true)) else (laws_FnJournal.j2 kj9 l1 t307 true)) else (laws_FnJournal.j2 kj9 l1 t307 true))) = some r := H
              have A22 := Aside0.mk A220
              clear A220
              replace H := Option.bind_eq_some_iff.mp H
              obtain ⟨⟨t321, t322, t323⟩, A230, H⟩ := H
              replace H : (if t320 = 0 then (if t322 = 0 then (if t323 = 0 then ((laws_sameEntries.f kj9 t321 t307).bind fun t326 => (laws_FnJournal.j2 kj9 l1 t307 (!t326))) else (laws_FnJournal.j2 kj9 l1 t307 true)) else (laws_FnJournal.j2 kj9 l1 t307 true)) else (laws_FnJournal.j2 kj9 l1 t307 true)) = some r := H
              have A23 := Aside0.mk A230
              clear A230
              have HC24 := Aside0.mk H
              clear H
              obtain ⟨Ao25, co25, eo25⟩ := Kd.R_slice HO_5.out
              subst eo25
              go_upto_region 9 with (first | ((with_reducible refine gate_callee (f := 13) rfl ?_); refine goesL_ (some 58) rfl rfl Tryd.func13 (by kernel_rfl) rfl #[.slice Ao25 t307.length co25] rfl (by (try simp only [List.map_toArray, List.map_cons, List.map_nil]); first | done | rfl | (simp only [List.length_drop, List.length_take]; rfl)) ?_; (with_reducible refine (impl_JournalText.calls kj9 _ _ t307 t319 t320 _ ?side1 ?side2 ?side3 A22.out).mono ?_); (case side1 => repeat (first | exact (Kd.R_reads' HO_5.out).2.2 | (with_reducible refine Kd.C_alloc ?_ _) | (with_reducible refine Kd.C_drewN ?_ _) | (with_reducible refine Kd.C_drew ?_))); (case side2 => exact (Kd.R_reads' HO_5.out).2.1); (case side3 => exact TabT.below HTAB.out (by repeat (first | (with_reducible first | exact HB.out | apply below_alloc | apply pw_below_drewN | apply below_drew1) | exact HB.out))); rintro e w26 ⟨rfl, hb⟩; refine ⟨_, rfl, ?_⟩; have n0_ := Aside0.mk (Kd.R_below (by (with_reducible repeat (first | apply Kd.R_alloc | apply Kd.R_drewN | apply Kd.R_drew)); exact HO_5.out) hb); have n1_ := Aside0.mk (below_step (by repeat (first | (with_reducible first | exact HB.out | apply below_alloc | apply pw_below_drewN | apply below_drew1) | exact HB.out)) hb); clear HO_5; clear HB; have HO_5 := n0_; have HB := n1_; clear n0_ n1_; (try clear hb); (try clear hb2); (try clear hk); (try clear hi)) | ((with_reducible refine gate_callee (f := 14) rfl ?_); refine goesL_ (some 63) rfl rfl Tryd.func14 (by kernel_rfl) rfl #[.string t319] rfl (by (try simp only [List.map_toArray, List.map_cons, List.map_nil]); first | done | rfl | (simp only [List.length_drop, List.length_take]; rfl)) ?_; (with_reducible refine (impl_ReadJournal.calls kj9 t319 t321 t322 t323 _ ?side1 A23.out).mono ?_); (case side1 => exact TabT.below HTAB.out (by repeat (first | (with_reducible first | exact HB.out | apply below_alloc | apply pw_below_drewN | apply below_drew1) | exact HB.out))); rintro e w27 ⟨v324, rfl, ho0, hb⟩; refine ⟨_, rfl, ?_⟩; have n0_ := Aside0.mk (Kd.R_elder' (by (with_reducible repeat (first | apply Kd.R_alloc | apply Kd.R_drewN | apply Kd.R_drew)); exact HO_5.out) (Kd.R_base ho0) hb); have n1_ := Aside0.mk (Kd.R_lower (Kd.R_new' ho0 (Kd.R_lt (by (with_reducible repeat (first | apply Kd.R_alloc | apply Kd.R_drewN | apply Kd.R_drew)); exact HO_5.out))) (below_size (by repeat (first | (with_reducible first | exact HB.out | apply below_alloc | apply pw_below_drewN | apply below_drew1) | exact HB.out)))); have n2_ := Aside0.mk (below_step (by repeat (first | (with_reducible first | exact HB.out | apply below_alloc | apply pw_below_drewN | apply below_drew1) | exact HB.out)) hb); clear HO_5; clear HB; have HO_5 := n0_; have HO325 := n1_; have HB := n2_; clear n0_ n1_ n2_; (try clear hb); (try clear hb2); (try clear hk); (try clear hi); (try clear ho0)))
              (try simp only [Act.put, List.setIfInBounds_toArray, List.set_cons_zero, List.set_cons_succ])
              go_cut [82] (fun v82 wc => ∃ (kq : Nat) (x82_23 : Bool), v82 = .bool x82_23 ∧ Aside0 (laws_FnJournal.j2 kq l1 t307 x82_23 = some r) ∧ Aside0 (kq ≤ kj9) ∧ Aside0 (Kd.R k33 33 wc w.heap.size (fun _ => True) (.slice Ao25 t307.length co25) t307) ∧ Aside0 (Below w.heap.size w wc))
              case first =>
                have H := HC24.out
                clear HC24
                by_cases c28 : t320 = 0
                · rw [if_pos c28] at H
                  have c28b0 : (t320 == 0) = true := beq_iff_eq.mpr c28
                  have c28b1 : (t320 != 0) = false := bne_eq_false_iff_eq.mpr c28
                  clear c28
                  (first | rw [c28b0] | (simp only [i64_w, i32_w]; rw [c28b0]) | skip)
                  by_cases c29 : t322 = 0
                  · rw [if_pos c29] at H
                    have c29b0 : (t322 == 0) = true := beq_iff_eq.mpr c29
                    have c29b1 : (t322 != 0) = false := bne_eq_false_iff_eq.mpr c29
                    clear c29
                    by_cases c30 : t323 = 0
                    · rw [if_pos c30] at H
                      have c30b0 : (t323 == 0) = true := beq_iff_eq.mpr c30
                      have c30b1 : (t323 != 0) = false := bne_eq_false_iff_eq.mpr c30
                      clear c30
                      replace H := Option.bind_eq_some_iff.mp H
                      obtain ⟨t326, A310, H⟩ := H
                      replace H : (laws_FnJournal.j2 kj9 l1 t307 (!t326)) = some r := H
                      have A31 := Aside0.mk A310
                      clear A310
                      have H' := Aside0.mk H
                      clear H
                      obtain ⟨Ao32, co32, eo32⟩ := Kd.R_slice HO325.out
                      subst eo32
                      go_wp2_with (first | (go_at_call 12; (with_reducible refine (laws_sameEntries.calls kj9 _ _ t321 _ _ t307 t326 _ ?side1 ?side2 ?side3 ?side4 A31.out).mono ?_); (case side1 => repeat (first | exact (Kd.R_reads' HO325.out).2.2 | (with_reducible refine Kd.C_alloc ?_ _) | (with_reducible refine Kd.C_drewN ?_ _) | (with_reducible refine Kd.C_drew ?_))); (case side2 => exact (Kd.R_reads' HO325.out).2.1); (case side3 => repeat (first | exact (Kd.R_reads' HO_5.out).2.2 | (with_reducible refine Kd.C_alloc ?_ _) | (with_reducible refine Kd.C_drewN ?_ _) | (with_reducible refine Kd.C_drew ?_))); (case side4 => exact (Kd.R_reads' HO_5.out).2.1); rintro e w' ⟨rfl, ⟨nd, rfl⟩⟩))
                      go_meet
                      case rel => exact ⟨_, (!t326), (by first | rfl | (simp; done) | (simp [*]; done)), H', ⟨by have := HJ2.out; have := HJ9.out; first | omega | exact Nat.le_refl _⟩, ⟨by (with_reducible repeat (first | apply Kd.R_alloc | apply Kd.R_drewN | apply Kd.R_drew)); exact Kd.R_mono HO_5.out (fun _ hk => trivial)⟩, ⟨by repeat (first | (with_reducible first | exact HB.out | apply below_alloc | apply pw_below_drewN | apply below_drew1) | exact HB.out)⟩⟩
                    · rw [if_neg c30] at H
                      have c30b0 : (t323 == 0) = false := beq_eq_false_iff_ne.mpr c30
                      have c30b1 : (t323 != 0) = true := bne_iff_ne.mpr c30
                      have H' := Aside0.mk H
                      clear H
                      go_wp2
                      go_meet
                      case rel => exact ⟨_, (true), (by first | rfl | (simp; done) | (simp [*]; done)), H', ⟨by have := HJ2.out; have := HJ9.out; first | omega | exact Nat.le_refl _⟩, ⟨by (with_reducible repeat (first | apply Kd.R_alloc | apply Kd.R_drewN | apply Kd.R_drew)); exact Kd.R_mono HO_5.out (fun _ hk => trivial)⟩, ⟨by repeat (first | (with_reducible first | exact HB.out | apply below_alloc | apply pw_below_drewN | apply below_drew1) | exact HB.out)⟩⟩
                  · rw [if_neg c29] at H
                    have c29b0 : (t322 == 0) = false := beq_eq_false_iff_ne.mpr c29
                    have c29b1 : (t322 != 0) = true := bne_iff_ne.mpr c29
                    have H' := Aside0.mk H
                    clear H
                    go_wp2
                    go_meet
                    case rel => exact ⟨_, (true), (by first | rfl | (simp; done) | (simp [*]; done)), H', ⟨by have := HJ2.out; have := HJ9.out; first | omega | exact Nat.le_refl _⟩, ⟨by (with_reducible repeat (first | apply Kd.R_alloc | apply Kd.R_drewN | apply Kd.R_drew)); exact Kd.R_mono HO_5.out (fun _ hk => trivial)⟩, ⟨by repeat (first | (with_reducible first | exact HB.out | apply below_alloc | apply pw_below_drewN | apply below_drew1) | exact HB.out)⟩⟩
                · rw [if_neg c28] at H
                  have c28b0 : (t320 == 0) = false := beq_eq_false_iff_ne.mpr c28
                  have c28b1 : (t320 != 0) = true := bne_iff_ne.mpr c28
                  (first | rw [c28b0] | (simp only [i64_w, i32_w]; rw [c28b0]) | skip)
                  have H' := Aside0.mk H
                  clear H
                  go_wp2
                  go_meet
                  case rel => exact ⟨_, (true), (by first | rfl | (simp; done) | (simp [*]; done)), H', ⟨by have := HJ2.out; have := HJ9.out; first | omega | exact Nat.le_refl _⟩, ⟨by (with_reducible repeat (first | apply Kd.R_alloc | apply Kd.R_drewN | apply Kd.R_drew)); exact Kd.R_mono HO_5.out (fun _ hk => trivial)⟩, ⟨by repeat (first | (with_reducible first | exact HB.out | apply below_alloc | apply pw_below_drewN | apply below_drew1) | exact HB.out)⟩⟩
              case rest =>
                clear HC24
                try clear c1
                try clear c2
                try clear p2
                try clear c3
                try clear c4
                try clear c4b0
                try clear c4b1
                try clear c5
                try clear c9
                try clear c10
                try clear c11
                try clear c13
                try clear c14
                try clear c17
                try clear c17b0
                try clear c17b1
                try clear c21
                try clear c28
                try clear c28b0
                try clear c28b1
                try clear c29
                try clear c29b0
                try clear c29b1
                try clear c30
                try clear c30b0
                try clear c30b1
                try clear p2
                obtain ⟨kq, x82_23, rfl, HA, HJ23, HO_5, HB⟩ := hcut
                cases kq with
                | zero => exact absurd HA.out (by simp [laws_FnJournal.j2])
                | succ kj23 =>
                  have H := HA.out
                  clear HA
                  simp only [laws_FnJournal.j2] at H
                  by_cases c33 : x82_23 = true
                  · subst c33
                    have H1 : (some false) = some r := by rw [if_pos rfl] at H; exact H
                    clear H
                    have H := H1
                    clear H1
                    obtain rfl := Option.some.inj H
                    exact absurd hT_.out (by decide)
                  · replace c33 := Bool.eq_false_iff.mpr c33
                    subst c33
                    have H1 : (laws_FnJournal.l0 kj23 l1 t307 0 0) = some r := by rw [if_neg (show ¬ (false = true) by decide)] at H; exact H
                    clear H
                    have H := H1
                    clear H1
                    have H' := Aside0.mk H
                    clear H
                    go_wp2
                    go_loopg [14, 15] kj23 (fun kq v14 v15 w' => ∃ (x14_4 : Int) (x15_4 : Int), v14 = .int .i64 x14_4 ∧ v15 = .int .i64 x15_4 ∧ Aside0 (laws_FnJournal.l0 kq l1 t307 x14_4 x15_4 = some r) ∧ Aside0 (kq ≤ kj23) ∧ Aside0 (Kd.R k33 33 w' w.heap.size (fun _ => True) (.slice Ao25 t307.length co25) t307) ∧ Aside0 (Below w.heap.size w w'))
                    case atStart => exact ⟨(0), (0), (by first | rfl | (simp; done) | (simp [*]; done)), (by first | rfl | (simp; done) | (simp [*]; done)), H', ⟨Nat.le_refl _⟩, ⟨by (with_reducible repeat (first | apply Kd.R_alloc | apply Kd.R_drewN | apply Kd.R_drew)); exact HO_5.out⟩, ⟨by repeat (first | (with_reducible first | exact HB.out | apply below_alloc | apply pw_below_drewN | apply below_drew1) | exact HB.out)⟩⟩
                    case round =>
                      clear H'
                      try clear c1
                      try clear c2
                      try clear p2
                      try clear c3
                      try clear c4
                      try clear c4b0
                      try clear c4b1
                      try clear c5
                      try clear c9
                      try clear c10
                      try clear c11
                      try clear c13
                      try clear c14
                      try clear c17
                      try clear c17b0
                      try clear c17b1
                      try clear c21
                      try clear c28
                      try clear c28b0
                      try clear c28b1
                      try clear c29
                      try clear c29b0
                      try clear c29b1
                      try clear c30
                      try clear c30b0
                      try clear c30b1
                      try clear c33
                      try clear p2
                      obtain ⟨x14_4, x15_4, rfl, rfl, HA, HK4, HO_5, HB⟩ := hrel
                      cases gk with
                      | zero => exact absurd HA.out (by simp [laws_FnJournal.l0])
                      | succ k4 =>
                        have H := HA.out
                        clear HA
                        simp only [laws_FnJournal.l0] at H
                        by_cases c34 : x15_4 < (t307.length : Int)
                        · rw [if_pos c34] at H
                          have c34b0 : decide (x15_4 < (t307.length : Int)) = true := decide_eq_true c34
                          clear c34
                          by_cases c35 : 0 ≤ x15_4
                          · rw [if_pos c35] at H
                            have c35b0 : decide (0 ≤ x15_4) = true := decide_eq_true c35
                            clear c35
                            have H' := Aside0.mk H
                            clear H
                            have p327 : 0 ≤ (x15_4 : Int) := of_decide_eq_true (by first | (with_reducible assumption) | assumption)
                            have q327 : x15_4 < (t307.length : Int) := of_decide_eq_true (by first | (with_reducible assumption) | assumption)
                            obtain ⟨ad327, e327, hx327_0, hx327_1, hx327_2, hx327_3, hx327_4⟩ := at_T33 (Kd.R_reads' HO_5.out).2.2 x15_4 p327 q327
                            cases e327
                            replace p327 := eq_true p327
                            replace q327 := eq_true q327
                            go_wp2
                            go_roundg k4
                            case measure => have := HJ2.out; have := HJ9.out; have := HJ23.out; have := HK4.out; omega
                            case rel => exact ⟨(wrap64 (x14_4 + ((rd_T33 t307 x15_4).f2))), (wrap64 (x15_4 + 1)), (by first | rfl | (simp; done) | (simp [*]; done)), (by first | rfl | (simp; done) | (simp [*]; done)), H', ⟨by have := HJ2.out; have := HJ9.out; have := HJ23.out; have := HK4.out; omega⟩, ⟨by (with_reducible repeat (first | apply Kd.R_alloc | apply Kd.R_drewN | apply Kd.R_drew)); exact HO_5.out⟩, ⟨by repeat (first | (with_reducible first | exact HB.out | apply below_alloc | apply pw_below_drewN | apply below_drew1) | exact HB.out)⟩⟩
                          · rw [if_neg c35] at H
                            exact absurd H (by simp)
                        · rw [if_neg c34] at H
                          have c34b0 : decide (x15_4 < (t307.length : Int)) = false := decide_eq_false c34
                          clear c34
                          replace H := Option.bind_eq_some_iff.mp H
                          obtain ⟨t328, A360, H⟩ := H
                          replace H : ((impl_Counted.f k4 t307 (wrap64 (x14_4 + (wrap64 (t328 - 300))))).bind fun bt329 => (if bt329.2 = 0 then (laws_FnJournal.j4 k4 l1 t307 (bt329.1 != (wrap64 (t328 - 300)))) else (laws_FnJournal.j4 k4 l1 t307 true))) = some r := H
                          have A36 := Aside0.mk A360
                          clear A360
                          replace H := Option.bind_eq_some_iff.mp H
                          obtain ⟨⟨t329, t330⟩, A370, H⟩ := H
                          replace H : (if t330 = 0 then (laws_FnJournal.j4 k4 l1 t307 (t329 != (wrap64 (t328 - 300)))) else (laws_FnJournal.j4 k4 l1 t307 true)) = some r := H
                          have A37 := Aside0.mk A370
                          clear A370
                          have HC38 := Aside0.mk H
                          clear H
                          go_upto_region 18 with (first | ((with_reducible refine gate_callee (f := 15) rfl ?_); refine goesL_ (some 97) rfl rfl Tryd.func15 (by kernel_rfl) rfl #[.slice A1 l1.length c1, .int .i64 3, .int .i64 900] rfl (by (try simp only [List.map_toArray, List.map_cons, List.map_nil]); first | done | rfl | (simp only [List.length_drop, List.length_take]; rfl)) ?_; (with_reducible refine (laws_at.calls _ _ l1 3 900 t328 _ ?side1 ?side2 A36.out).mono ?_); (case side1 => repeat (first | exact (Kd.C_below HR1.out HB.out) | (with_reducible refine Kd.C_alloc ?_ _) | (with_reducible refine Kd.C_drewN ?_ _) | (with_reducible refine Kd.C_drew ?_))); (case side2 => exact HC1.out); rintro e w' ⟨rfl, ⟨nd, rfl⟩⟩; refine ⟨_, rfl, ?_⟩) | ((with_reducible refine gate_callee (f := 16) rfl ?_); refine goesL_ (some 104) rfl rfl Tryd.func16 (by kernel_rfl) rfl #[.slice Ao25 t307.length co25, .int .i64 (wrap64 (x14_4 + (wrap64 (t328 - 300))))] rfl (by (try simp only [List.map_toArray, List.map_cons, List.map_nil]); first | done | rfl | (simp only [List.length_drop, List.length_take]; rfl)) ?_; (with_reducible refine (impl_Counted.calls k4 _ _ t307 (wrap64 (x14_4 + (wrap64 (t328 - 300)))) t329 t330 _ ?side1 ?side2 ?side3 A37.out).mono ?_); (case side1 => repeat (first | exact (Kd.R_reads' HO_5.out).2.2 | (with_reducible refine Kd.C_alloc ?_ _) | (with_reducible refine Kd.C_drewN ?_ _) | (with_reducible refine Kd.C_drew ?_))); (case side2 => exact (Kd.R_reads' HO_5.out).2.1); (case side3 => exact TabT.below HTAB.out (by repeat (first | (with_reducible first | exact HB.out | apply below_alloc | apply pw_below_drewN | apply below_drew1) | exact HB.out))); rintro e w39 ⟨rfl, hb⟩; refine ⟨_, rfl, ?_⟩; have n0_ := Aside0.mk (Kd.R_below (by (with_reducible repeat (first | apply Kd.R_alloc | apply Kd.R_drewN | apply Kd.R_drew)); exact HO_5.out) hb); have n1_ := Aside0.mk (below_step (by repeat (first | (with_reducible first | exact HB.out | apply below_alloc | apply pw_below_drewN | apply below_drew1) | exact HB.out)) hb); clear HO_5; clear HB; have HO_5 := n0_; have HB := n1_; clear n0_ n1_; (try clear hb); (try clear hb2); (try clear hk); (try clear hi)))
                          (try simp only [Act.put, List.setIfInBounds_toArray, List.set_cons_zero, List.set_cons_succ])
                          go_cut [113] (fun v113 wc => ∃ (kq : Nat) (x113_37 : Bool), v113 = .bool x113_37 ∧ Aside0 (laws_FnJournal.j4 kq l1 t307 x113_37 = some r) ∧ Aside0 (kq ≤ k4) ∧ Aside0 (Kd.R k33 33 wc w.heap.size (fun _ => True) (.slice Ao25 t307.length co25) t307) ∧ Aside0 (Below w.heap.size w wc))
                          case first =>
                            have H := HC38.out
                            clear HC38
                            by_cases c40 : t330 = 0
                            · rw [if_pos c40] at H
                              have c40b0 : (t330 == 0) = true := beq_iff_eq.mpr c40
                              have c40b1 : (t330 != 0) = false := bne_eq_false_iff_eq.mpr c40
                              clear c40
                              (first | rw [c40b0] | (simp only [i64_w, i32_w]; rw [c40b0]) | skip)
                              have H' := Aside0.mk H
                              clear H
                              go_wp2
                              go_meet
                              case rel => exact ⟨_, ((t329 != (wrap64 (t328 - 300)))), (by first | rfl | (simp; done) | (simp [*]; done)), H', ⟨by have := HJ2.out; have := HJ9.out; have := HJ23.out; have := HK4.out; first | omega | exact Nat.le_refl _⟩, ⟨by (with_reducible repeat (first | apply Kd.R_alloc | apply Kd.R_drewN | apply Kd.R_drew)); exact HO_5.out⟩, ⟨by repeat (first | (with_reducible first | exact HB.out | apply below_alloc | apply pw_below_drewN | apply below_drew1) | exact HB.out)⟩⟩
                            · rw [if_neg c40] at H
                              have c40b0 : (t330 == 0) = false := beq_eq_false_iff_ne.mpr c40
                              have c40b1 : (t330 != 0) = true := bne_iff_ne.mpr c40
                              (first | rw [c40b0] | (simp only [i64_w, i32_w]; rw [c40b0]) | skip)
                              have H' := Aside0.mk H
                              clear H
                              go_wp2
                              go_meet
                              case rel => exact ⟨_, (true), (by first | rfl | (simp; done) | (simp [*]; done)), H', ⟨by have := HJ2.out; have := HJ9.out; have := HJ23.out; have := HK4.out; first | omega | exact Nat.le_refl _⟩, ⟨by (with_reducible repeat (first | apply Kd.R_alloc | apply Kd.R_drewN | apply Kd.R_drew)); exact HO_5.out⟩, ⟨by repeat (first | (with_reducible first | exact HB.out | apply below_alloc | apply pw_below_drewN | apply below_drew1) | exact HB.out)⟩⟩
                          case rest =>
                            clear HC38
                            try clear c1
                            try clear c2
                            try clear p2
                            try clear c3
                            try clear p3
                            try clear q3
                            try clear hx3
                            try clear c4
                            try clear c4b0
                            try clear c4b1
                            try clear c5
                            try clear p6
                            try clear c9
                            try clear c10
                            try clear c11
                            try clear c13
                            try clear c14
                            try clear c15
                            try clear c16
                            try clear c17
                            try clear c17b0
                            try clear c17b1
                            try clear c21
                            try clear c28
                            try clear c28b0
                            try clear c28b1
                            try clear c29
                            try clear c29b0
                            try clear c29b1
                            try clear c30
                            try clear c30b0
                            try clear c30b1
                            try clear p32
                            try clear q32
                            try clear hx32
                            try clear c33
                            try clear c34
                            try clear c34b0
                            try clear c35
                            try clear c35b0
                            try clear c40
                            try clear c40b0
                            try clear c40b1
                            try clear hx327_0
                            try clear hx327_1
                            try clear hx327_2
                            try clear hx327_3
                            try clear hx327_4
                            try clear p2
                            try clear p327
                            try clear q327
                            obtain ⟨kq, x113_37, rfl, HA, HJ37, HO_5, HB⟩ := hcut
                            cases kq with
                            | zero => exact absurd HA.out (by simp [laws_FnJournal.j4])
                            | succ kj37 =>
                              have H := HA.out
                              clear HA
                              simp only [laws_FnJournal.j4] at H
                              by_cases c41 : x113_37 = true
                              · subst c41
                                have H1 : (some false) = some r := by rw [if_pos rfl] at H; exact H
                                clear H
                                have H := H1
                                clear H1
                                obtain rfl := Option.some.inj H
                                exact absurd hT_.out (by decide)
                              · replace c41 := Bool.eq_false_iff.mpr c41
                                subst c41
                                have H1 : ((laws_at.f l1 0 (t307.length : Int)).bind fun t331 => ((some (([] : List (S33)) : List (S33))).bind fun y332 => (if y332.length + t307.length < 2932031007402 then ((some (y332 ++ t307 : List (S33))).bind fun y335 => (if 0 ≤ t331 then (if t331 < (y335.length : Int) then (if ((rd_T33 y335 t331).f3).size ≤ 9223372036854775807 then ((some (bytesOf ((rd_T33 y335 t331).f3) : List Int)).bind fun y339 => (if (y339.length : Int) > 0 then ((laws_at.f l1 1 (y339.length : Int)).bind fun t342 => (if 0 ≤ t342 then (if t342 < (y339.length : Int) then ((laws_at.f l1 2 94).bind fun t344 => ((impl_CheckJournal.f kj37 (y335.set (t331 : Int).toNat (⟨(rd_T33 y335 t331).f0, (rd_T33 y335 t331).f1, (rd_T33 y335 t331).f2, strOfNums (y339.set (t342 : Int).toNat ((wrap64 (32 + (Int.tmod (wrap64 ((wrap64 ((wrap64 ((wrap64 (rd y339 t342)) - 32)) + 1)) + t344)) 95))) % 256)), (rd_T33 y335 t331).f4⟩ : S33))).bind fun bt347 => (if bt347.1 = 15 then (if bt347.2 = t331 then (laws_FnJournal.j5 kj37 t307 t331) else (some false)) else (some false)))) else (none)) else (none))) else (laws_FnJournal.j5 kj37 t307 t331))) else (none)) else (none)) else (none))) else (none)))) = some r := by rw [if_neg (show ¬ (false = true) by decide)] at H; exact H
                                clear H
                                have H := H1
                                clear H1
                                replace H := Option.bind_eq_some_iff.mp H
                                obtain ⟨t331, A420, H⟩ := H
                                replace H : ((some (([] : List (S33)) : List (S33))).bind fun y332 => (if y332.length + t307.length < 2932031007402 then ((some (y332 ++ t307 : List (S33))).bind fun y335 => (if 0 ≤ t331 then (if t331 < (y335.length : Int) then (if ((rd_T33 y335 t331).f3).size ≤ 9223372036854775807 then ((some (bytesOf ((rd_T33 y335 t331).f3) : List Int)).bind fun y339 => (if (y339.length : Int) > 0 then ((laws_at.f l1 1 (y339.length : Int)).bind fun t342 => (if 0 ≤ t342 then (if t342 < (y339.length : Int) then ((laws_at.f l1 2 94).bind fun t344 => ((impl_CheckJournal.f kj37 (y335.set (t331 : Int).toNat (⟨(rd_T33 y335 t331).f0, (rd_T33 y335 t331).f1, (rd_T33 y335 t331).f2, strOfNums (y339.set (t342 : Int).toNat ((wrap64 (32 + (Int.tmod (wrap64 ((wrap64 ((wrap64 ((wrap64 (rd y339 t342)) - 32)) + 1)) + t344)) 95))) % 256)), (rd_T33 y335 t331).f4⟩ : S33))).bind fun bt347 => (if bt347.1 = 15 then (if bt347.2 = t331 then (laws_FnJournal.j5 kj37 t307 t331) else (some false)) else (some false)))) else (none)) else (none))) else (laws_FnJournal.j5 kj37 t307 t331))) else (none)) else (none)) else (none))) else (none))) = some r := H
                                have A42 := Aside0.mk A420
                                clear A420
                                obtain ⟨y332, hy332⟩ : ∃ y_ : List (S33), y_ = (([] : List (S33))) := ⟨_, rfl⟩
                                replace H : (if y332.length + t307.length < 2932031007402 then ((some (y332 ++ t307 : List (S33))).bind fun y335 => (if 0 ≤ t331 then (if t331 < (y335.length : Int) then (if ((rd_T33 y335 t331).f3).size ≤ 9223372036854775807 then ((some (bytesOf ((rd_T33 y335 t331).f3) : List Int)).bind fun y339 => (if (y339.length : Int) > 0 then ((laws_at.f l1 1 (y339.length : Int)).bind fun t342 => (if 0 ≤ t342 then (if t342 < (y339.length : Int) then ((laws_at.f l1 2 94).bind fun t344 => ((impl_CheckJournal.f kj37 (y335.set (t331 : Int).toNat (⟨(rd_T33 y335 t331).f0, (rd_T33 y335 t331).f1, (rd_T33 y335 t331).f2, strOfNums (y339.set (t342 : Int).toNat ((wrap64 (32 + (Int.tmod (wrap64 ((wrap64 ((wrap64 ((wrap64 (rd y339 t342)) - 32)) + 1)) + t344)) 95))) % 256)), (rd_T33 y335 t331).f4⟩ : S33))).bind fun bt347 => (if bt347.1 = 15 then (if bt347.2 = t331 then (laws_FnJournal.j5 kj37 t307 t331) else (some false)) else (some false)))) else (none)) else (none))) else (laws_FnJournal.j5 kj37 t307 t331))) else (none)) else (none)) else (none))) else (none)) = some r := by first | (rw [hy332]; with_reducible exact H) | (have H2_ := (Option.bind_some _ _).symm.trans H; rw [hy332]; with_reducible exact H2_) | (have H2_ := (Option.bind_some _ _).symm.trans H; with_reducible exact H2_) | with_reducible exact H | (rw [hy332]; exact H) | exact H
                                have Ny332 := Aside0.mk hy332
                                clear hy332
                                by_cases c43 : y332.length + t307.length < 2932031007402
                                · rw [if_pos c43] at H
                                  have LMc43 := Aside0.mk c43
                                  clear c43
                                  obtain ⟨y335, hy335⟩ : ∃ y_ : List (S33), y_ = (y332 ++ t307) := ⟨_, rfl⟩
                                  replace H : (if 0 ≤ t331 then (if t331 < (y335.length : Int) then (if ((rd_T33 y335 t331).f3).size ≤ 9223372036854775807 then ((some (bytesOf ((rd_T33 y335 t331).f3) : List Int)).bind fun y339 => (if (y339.length : Int) > 0 then ((laws_at.f l1 1 (y339.length : Int)).bind fun t342 => (if 0 ≤ t342 then (if t342 < (y339.length : Int) then ((laws_at.f l1 2 94).bind fun t344 => ((impl_CheckJournal.f kj37 (y335.set (t331 : Int).toNat (⟨(rd_T33 y335 t331).f0, (rd_T33 y335 t331).f1, (rd_T33 y335 t331).f2, strOfNums (y339.set (t342 : Int).toNat ((wrap64 (32 + (Int.tmod (wrap64 ((wrap64 ((wrap64 ((wrap64 (rd y339 t342)) - 32)) + 1)) + t344)) 95))) % 256)), (rd_T33 y335 t331).f4⟩ : S33))).bind fun bt347 => (if bt347.1 = 15 then (if bt347.2 = t331 then (laws_FnJournal.j5 kj37 t307 t331) else (some false)) else (some false)))) else (none)) else (none))) else (laws_FnJournal.j5 kj37 t307 t331))) else (none)) else (none)) else (none)) = some r := by first | (rw [hy335]; with_reducible exact H) | (have H2_ := (Option.bind_some _ _).symm.trans H; rw [hy335]; with_reducible exact H2_) | (have H2_ := (Option.bind_some _ _).symm.trans H; with_reducible exact H2_) | with_reducible exact H | (rw [hy335]; exact H) | exact H
                                  have Ny335 := Aside0.mk hy335
                                  clear hy335
                                  by_cases c44 : 0 ≤ t331
                                  · rw [if_pos c44] at H
                                    have c44b0 : decide (0 ≤ t331) = true := decide_eq_true c44
                                    clear c44
                                    by_cases c45 : t331 < (y335.length : Int)
                                    · rw [if_pos c45] at H
                                      have c45b0 : decide (t331 < (y335.length : Int)) = true := decide_eq_true c45
                                      clear c45
                                      by_cases c46 : ((rd_T33 y335 t331).f3).size ≤ 9223372036854775807
                                      · rw [if_pos c46] at H
                                        have c46b0 := eq_true c46
                                        have c46b1 : decide (((rd_T33 y335 t331).f3).size ≤ 9223372036854775807) = true := decide_eq_true c46
                                        try have c46b2 : (9223372036854775807 < ((rd_T33 y335 t331).f3).size) = False := eq_false (Nat.not_lt.2 c46)
                                        clear c46
                                        obtain ⟨y339, hy339⟩ : ∃ y_ : List Int, y_ = (bytesOf ((rd_T33 y335 t331).f3)) := ⟨_, rfl⟩
                                        replace H : (if (y339.length : Int) > 0 then ((laws_at.f l1 1 (y339.length : Int)).bind fun t342 => (if 0 ≤ t342 then (if t342 < (y339.length : Int) then ((laws_at.f l1 2 94).bind fun t344 => ((impl_CheckJournal.f kj37 (y335.set (t331 : Int).toNat (⟨(rd_T33 y335 t331).f0, (rd_T33 y335 t331).f1, (rd_T33 y335 t331).f2, strOfNums (y339.set (t342 : Int).toNat ((wrap64 (32 + (Int.tmod (wrap64 ((wrap64 ((wrap64 ((wrap64 (rd y339 t342)) - 32)) + 1)) + t344)) 95))) % 256)), (rd_T33 y335 t331).f4⟩ : S33))).bind fun bt347 => (if bt347.1 = 15 then (if bt347.2 = t331 then (laws_FnJournal.j5 kj37 t307 t331) else (some false)) else (some false)))) else (none)) else (none))) else (laws_FnJournal.j5 kj37 t307 t331)) = some r := by first | (rw [hy339]; with_reducible exact H) | (have H2_ := (Option.bind_some _ _).symm.trans H; rw [hy339]; with_reducible exact H2_) | (have H2_ := (Option.bind_some _ _).symm.trans H; with_reducible exact H2_) | with_reducible exact H | (rw [hy339]; exact H) | exact H
                                        have Ny339 := Aside0.mk hy339
                                        clear hy339
                                        have HC47 := Aside0.mk H
                                        clear H
                                        go_upto_if 129 with (first | ((with_reducible refine gate_callee (f := 15) rfl ?_); refine goesL_ (some 117) rfl rfl Tryd.func15 (by kernel_rfl) rfl #[.slice A1 l1.length c1, .int .i64 0, .int .i64 (t307.length : Int)] rfl (by (try simp only [List.map_toArray, List.map_cons, List.map_nil]); first | done | rfl | (simp only [List.length_drop, List.length_take]; rfl)) ?_; (with_reducible refine (laws_at.calls _ _ l1 0 (t307.length : Int) t331 _ ?side1 ?side2 A42.out).mono ?_); (case side1 => repeat (first | exact (Kd.C_below HR1.out HB.out) | (with_reducible refine Kd.C_alloc ?_ _) | (with_reducible refine Kd.C_drewN ?_ _) | (with_reducible refine Kd.C_drew ?_))); (case side2 => exact HC1.out); rintro e w' ⟨rfl, ⟨nd, rfl⟩⟩; refine ⟨_, rfl, ?_⟩) | ((with_reducible refine gate_dst (N := 118) rfl ?_); (try (refine gate_guard (by rfl) ?_; dsimp only)); refine Kd.R_lit k33 _ 33 ?hg (N := 118) ?hd (xs := ([] : List (S33))) (inner := []) (ok := fun _ => True) (okp := fun _ => True) ?hr ?hp (fun _ hk => hk) trivial (Below.refl _ _) (Nat.le_refl _) (by simp) ?_; (case hd => rfl); (case hg => rfl); (case hr => first | (go_simp; done) | (go_simp; rfl)); (case hp => exact (Reps.none _ _)); intro v333 w48 ho49 hb hg_ hnew_; clear hg_ hnew_; (first | rw [← Ny332.out] at ho49 | (simp only [Int.reduceToNat] at ho49; rw [← Ny332.out] at ho49)); have n0_ := Aside0.mk (Kd.R_elder' (by (with_reducible repeat (first | apply Kd.R_alloc | apply Kd.R_drewN | apply Kd.R_drew)); exact HO_5.out) (Kd.R_base ho49) hb); have n1_ := Aside0.mk (Kd.R_lower (Kd.R_new' ho49 (Kd.R_lt (by (with_reducible repeat (first | apply Kd.R_alloc | apply Kd.R_drewN | apply Kd.R_drew)); exact HO_5.out))) (below_size (by repeat (first | (with_reducible first | exact HB.out | apply below_alloc | apply pw_below_drewN | apply below_drew1) | exact HB.out)))); have n2_ := Aside0.mk (below_step (by repeat (first | (with_reducible first | exact HB.out | apply below_alloc | apply pw_below_drewN | apply below_drew1) | exact HB.out)) hb); clear HO_5; clear HB; have HO_5 := n0_; have HO334 := n1_; have HB := n2_; clear n0_ n1_ n2_; clear hb ho49) | ((with_reducible refine gate_builtin (b := .append) (xs := #[.tmp 118, .tmp 119]) rfl ?_); (try (refine gate_guard (by rfl) ?_; dsimp only)); at_builtin; refine Kd.R_append_rows k33 (w0 := w) w.heap.size rfl (.tmp 118) (.tmp 119) 23 33 (.agg #[(.int .i64 0), (.int .i64 0), (.int .i64 0), (.string ⟨#[]⟩), (.int .i64 0)]) 48 rfl Tryd.underlying23 info33 rfl (by decide) (by omega) v333 y332 t307 _ _ _ (fun k_ => some k_ ≠ (.slice Ao25 t307.length co25 : Value).ownBlock) (fun _ => False) rfl rfl ?aO ?aR (fun _ _ h => h) (fun _ h => h.elim) ?aF ?aB ?aS ?aL ?_; (case aR => repeat (first | exact (Kd.R_reads' HO_5.out).2.2 | (with_reducible refine Kd.C_alloc ?_ _) | (with_reducible refine Kd.C_drewN ?_ _) | (with_reducible refine Kd.C_drew ?_))); (case aB => exact (by repeat (first | (with_reducible first | exact HB.out | apply below_alloc | apply pw_below_drewN | apply below_drew1) | exact HB.out))); (case aF => exact (fun k_ hk => Kd.fresh' (Kd.R_lt (by (with_reducible repeat (first | apply Kd.R_alloc | apply Kd.R_drewN | apply Kd.R_drew)); exact HO_5.out)) k_ hk)); (case aO => exact (by (with_reducible repeat (first | apply Kd.R_alloc | apply Kd.R_drewN | apply Kd.R_drew)); exact Kd.R_mono HO334.out (fun _ hk => hk.2))); (case aS => exact (below_size (by repeat (first | (with_reducible first | exact HB.out | apply below_alloc | apply pw_below_drewN | apply below_drew1) | exact HB.out)))); (case aL => have := LMc43.out; omega); intro v336 w50 ho hb hg hat; rw [← Ny335.out] at ho; have n0_ := Aside0.mk (Kd.R_after (ok := (fun _ => True)) (by (with_reducible repeat (first | apply Kd.R_alloc | apply Kd.R_drewN | apply Kd.R_drew)); exact HO_5.out) hg hat); have n1_ := Aside0.mk (hb); have n2_ := Aside0.mk (ho); clear HO_5; clear HB; clear HO334; have HO_5 := n0_; have HB := n1_; have HO337 := n2_; clear n0_ n1_ n2_; clear ho hb hg hat; obtain ⟨Ao51, co51, eo51⟩ := Kd.R_slice HO337.out; subst eo51; have p338 : 0 ≤ (t331 : Int) := of_decide_eq_true (by first | (with_reducible assumption) | assumption); have q338 : t331 < (y335.length : Int) := of_decide_eq_true (by first | (with_reducible assumption) | assumption); obtain ⟨ad338, e338, hx338_0, hx338_1, hx338_2, hx338_3, hx338_4⟩ := at_T33 (Kd.R_reads' HO337.out).2.2 t331 p338 q338; cases e338; replace p338 := eq_true p338; replace q338 := eq_true q338) | ((with_reducible refine gate_dst (N := 126) rfl ?_); (try (refine gate_guard (by rfl) ?_; dsimp only)); refine Kd.B_bytes (Kd.int .u8) 5 rfl (N := 126) rfl 9 22 _ rfl ((rd_T33 y335 t331).f3) rfl Tryd.underlying9 Tryd.underlying22 Tryd.underlying5 (ok := fun _ => True) ?hl trivial (Below.refl _ _) (Nat.le_refl _) ?_; (case hl => exact of_decide_eq_true (by first | (with_reducible assumption) | assumption)); intro v340 w52 ho53 hb hg_ hnew_; clear hg_ hnew_; (first | rw [← Ny339.out] at ho53 | (simp only [Int.reduceToNat] at ho53; rw [← Ny339.out] at ho53)); have n0_ := Aside0.mk (Kd.R_below (by (with_reducible repeat (first | apply Kd.R_alloc | apply Kd.R_drewN | apply Kd.R_drew)); exact HO_5.out) hb); have n1_ := Aside0.mk (Kd.R_below (by (with_reducible repeat (first | apply Kd.R_alloc | apply Kd.R_drewN | apply Kd.R_drew)); exact HO337.out) hb); have n2_ := Aside0.mk (Kd.B_lower ho53 (below_size (by repeat (first | (with_reducible first | exact HB.out | apply below_alloc | apply pw_below_drewN | apply below_drew1) | exact HB.out)))); have n3_ := Aside0.mk (below_step (by repeat (first | (with_reducible first | exact HB.out | apply below_alloc | apply pw_below_drewN | apply below_drew1) | exact HB.out)) hb); clear HO_5; clear HO337; clear HB; have HO_5 := n0_; have HO337 := n1_; have HO341 := n2_; have HB := n3_; clear n0_ n1_ n2_ n3_; clear hb ho53; obtain ⟨Ao54, co54, eo54⟩ := Kd.B_slice HO341.out; subst eo54))
                                        (try simp only [Act.put, List.setIfInBounds_toArray, List.set_cons_zero, List.set_cons_succ])
                                        go_cut [] (fun wc => ∃ (kq : Nat), Aside0 (laws_FnJournal.j5 kq t307 t331 = some r) ∧ Aside0 (kq ≤ kj37) ∧ Aside0 (Kd.R k33 33 wc w.heap.size (fun _ => True) (.slice Ao25 t307.length co25) t307) ∧ Aside0 (Below w.heap.size w wc))
                                        case first =>
                                          have H := HC47.out
                                          clear HC47
                                          by_cases c55 : (y339.length : Int) > 0
                                          · rw [if_pos c55] at H
                                            have c55b0 : decide (0 < (y339.length : Int)) = true := decide_eq_true c55
                                            have c55b1 : decide (0 < y339.length) = true := decide_eq_true (by omega)
                                            clear c55
                                            (first | rw [c55b1] | rw [c55b0] | (simp only [i64_w, i32_w]; rw [c55b0]) | skip)
                                            replace H := Option.bind_eq_some_iff.mp H
                                            obtain ⟨t342, A560, H⟩ := H
                                            replace H : (if 0 ≤ t342 then (if t342 < (y339.length : Int) then ((laws_at.f l1 2 94).bind fun t344 => ((impl_CheckJournal.f kj37 (y335.set (t331 : Int).toNat (⟨(rd_T33 y335 t331).f0, (rd_T33 y335 t331).f1, (rd_T33 y335 t331).f2, strOfNums (y339.set (t342 : Int).toNat ((wrap64 (32 + (Int.tmod (wrap64 ((wrap64 ((wrap64 ((wrap64 (rd y339 t342)) - 32)) + 1)) + t344)) 95))) % 256)), (rd_T33 y335 t331).f4⟩ : S33))).bind fun bt347 => (if bt347.1 = 15 then (if bt347.2 = t331 then (laws_FnJournal.j5 kj37 t307 t331) else (some false)) else (some false)))) else (none)) else (none)) = some r := H
                                            have A56 := Aside0.mk A560
                                            clear A560
                                            by_cases c57 : 0 ≤ t342
                                            · rw [if_pos c57] at H
                                              have c57b0 : decide (0 ≤ t342) = true := decide_eq_true c57
                                              clear c57
                                              by_cases c58 : t342 < (y339.length : Int)
                                              · rw [if_pos c58] at H
                                                have c58b0 : decide (t342 < (y339.length : Int)) = true := decide_eq_true c58
                                                clear c58
                                                replace H := Option.bind_eq_some_iff.mp H
                                                obtain ⟨t344, A590, H⟩ := H
                                                replace H : ((impl_CheckJournal.f kj37 (y335.set (t331 : Int).toNat (⟨(rd_T33 y335 t331).f0, (rd_T33 y335 t331).f1, (rd_T33 y335 t331).f2, strOfNums (y339.set (t342 : Int).toNat ((wrap64 (32 + (Int.tmod (wrap64 ((wrap64 ((wrap64 ((wrap64 (rd y339 t342)) - 32)) + 1)) + t344)) 95))) % 256)), (rd_T33 y335 t331).f4⟩ : S33))).bind fun bt347 => (if bt347.1 = 15 then (if bt347.2 = t331 then (laws_FnJournal.j5 kj37 t307 t331) else (some false)) else (some false))) = some r := H
                                                have A59 := Aside0.mk A590
                                                clear A590
                                                obtain ⟨y345, hy345⟩ : ∃ y_ : List Int, y_ = (y339.set (t342 : Int).toNat ((wrap64 (32 + (Int.tmod (wrap64 ((wrap64 ((wrap64 ((wrap64 (rd y339 t342)) - 32)) + 1)) + t344)) 95))) % 256)) := ⟨_, rfl⟩
                                                replace H : ((impl_CheckJournal.f kj37 (y335.set (t331 : Int).toNat (⟨(rd_T33 y335 t331).f0, (rd_T33 y335 t331).f1, (rd_T33 y335 t331).f2, strOfNums y345, (rd_T33 y335 t331).f4⟩ : S33))).bind fun bt347 => (if bt347.1 = 15 then (if bt347.2 = t331 then (laws_FnJournal.j5 kj37 t307 t331) else (some false)) else (some false))) = some r := by first | (rw [hy345]; with_reducible exact H) | (have H2_ := (Option.bind_some _ _).symm.trans H; rw [hy345]; with_reducible exact H2_) | (have H2_ := (Option.bind_some _ _).symm.trans H; with_reducible exact H2_) | with_reducible exact H | (rw [hy345]; exact H) | exact H
                                                have Ny345 := Aside0.mk hy345
                                                clear hy345
                                                obtain ⟨y346, hy346⟩ : ∃ y_ : List (S33), y_ = (y335.set (t331 : Int).toNat (⟨(rd_T33 y335 t331).f0, (rd_T33 y335 t331).f1, (rd_T33 y335 t331).f2, strOfNums y345, (rd_T33 y335 t331).f4⟩ : S33)) := ⟨_, rfl⟩
                                                replace H : ((impl_CheckJournal.f kj37 y346).bind fun bt347 => (if bt347.1 = 15 then (if bt347.2 = t331 then (laws_FnJournal.j5 kj37 t307 t331) else (some false)) else (some false))) = some r := by first | (rw [hy346]; with_reducible exact H) | (have H2_ := (Option.bind_some _ _).symm.trans H; rw [hy346]; with_reducible exact H2_) | (have H2_ := (Option.bind_some _ _).symm.trans H; with_reducible exact H2_) | with_reducible exact H | (rw [hy346]; exact H) | exact H
                                                have Ny346 := Aside0.mk hy346
                                                clear hy346
                                                replace H := Option.bind_eq_some_iff.mp H
                                                obtain ⟨⟨t347, t348⟩, A620, H⟩ := H
                                                replace H : (if t347 = 15 then (if t348 = t331 then (laws_FnJournal.j5 kj37 t307 t331) else (some false)) else (some false)) = some r := H
                                                have A62 := Aside0.mk A620
                                                clear A620
                                                by_cases c63 : t347 = 15
                                                · rw [if_pos c63] at H
                                                  have c63b0 : (t347 == 15) = true := beq_iff_eq.mpr c63
                                                  have c63b1 : (t347 != 15) = false := bne_eq_false_iff_eq.mpr c63
                                                  clear c63
                                                  by_cases c64 : t348 = t331
                                                  · rw [if_pos c64] at H
                                                    have c64b0 : (t348 == t331) = true := beq_iff_eq.mpr c64
                                                    have c64b1 : (t348 != t331) = false := bne_eq_false_iff_eq.mpr c64
                                                    clear c64
                                                    have H' := Aside0.mk H
                                                    clear H
                                                    try go_wp2_with (first | ((with_reducible refine gate_callee (f := 15) rfl ?_); refine goesL_ (some 133) rfl rfl Tryd.func15 (by kernel_rfl) rfl #[.slice A1 l1.length c1, .int .i64 1, .int .i64 (y339.length : Int)] rfl (by (try simp only [List.map_toArray, List.map_cons, List.map_nil]); first | done | rfl | (simp only [List.length_drop, List.length_take]; rfl)) ?_; (with_reducible refine (laws_at.calls _ _ l1 1 (y339.length : Int) t342 _ ?side1 ?side2 A56.out).mono ?_); (case side1 => repeat (first | exact (Kd.C_below HR1.out HB.out) | (with_reducible refine Kd.C_alloc ?_ _) | (with_reducible refine Kd.C_drewN ?_ _) | (with_reducible refine Kd.C_drew ?_))); (case side2 => exact HC1.out); rintro e w' ⟨rfl, ⟨nd, rfl⟩⟩; refine ⟨_, rfl, ?_⟩; (try (rw [drewN_self w52]; generalize hq_ : World.drewN w52 _ = w52; have n0_ : Aside0 (Kd.R k33 33 w52 w.heap.size (fun k_ => some k_ ≠ (.slice Ao25 t307.length co25 : Value).ownBlock) (.slice (some ad338) y335.length co51) y335) := ⟨by rw [← hq_]; exact (by (with_reducible repeat (first | apply Kd.R_alloc | apply Kd.R_drewN | apply Kd.R_drew)); exact HO337.out)⟩; have n1_ : Aside0 (Kd.B (Kd.int .u8) 5 w52 w.heap.size (fun _ => True) (.slice Ao54 y339.length co54) y339) := ⟨by rw [← hq_]; exact (by (with_reducible repeat (first | apply Kd.B_alloc | apply Kd.B_drewN | apply Kd.B_drew)); exact HO341.out)⟩; have n2_ : Aside0 (Kd.R k33 33 w52 w.heap.size (fun k_ => some k_ ≠ (.slice (some ad338) y335.length co51 : Value).ownBlock) (.slice Ao25 t307.length co25) t307) := ⟨by rw [← hq_]; exact (by (with_reducible repeat (first | apply Kd.R_alloc | apply Kd.R_drewN | apply Kd.R_drew)); exact Kd.R_mono HO_5.out (fun _ hk => hk.2))⟩; have n3_ : Aside0 (Below w.heap.size w w52) := ⟨by rw [← hq_]; exact (by repeat (first | (with_reducible first | exact HB.out | apply below_alloc | apply pw_below_drewN | apply below_drew1) | exact HB.out))⟩; clear HO337 HO341 HO_5 HB hq_; have HO337 := n0_; have HO341 := n1_; have HO_5 := n2_; have HB := n3_; clear n0_ n1_ n2_ n3_))))
                                                    have n0_ := Aside0.mk (Kd.R_drew HO_5.out)
                                                    have n1_ := Aside0.mk (Kd.R_drew HO337.out)
                                                    have n2_ := Aside0.mk (Kd.B_drew HO341.out)
                                                    have n3_ := Aside0.mk (below_drew1 HB.out)
                                                    clear HO_5
                                                    clear HO337
                                                    clear HO341
                                                    clear HB
                                                    have HO_5 := n0_
                                                    have HO337 := n1_
                                                    have HO341 := n2_
                                                    have HB := n3_
                                                    clear n0_ n1_ n2_ n3_
                                                    have p343 : 0 ≤ (t342 : Int) := of_decide_eq_true (by first | (with_reducible assumption) | assumption)
                                                    have q343 : t342 < (y339.length : Int) := of_decide_eq_true (by first | (with_reducible assumption) | assumption)
                                                    obtain ⟨ad343, e343, hx343_0⟩ := Kd.at_int (Kd.B_reads' HO341.out).2.2 t342 p343 q343
                                                    cases e343
                                                    replace p343 := eq_true p343
                                                    replace q343 := eq_true q343
                                                    refine start_ (n := 17) (S := fun w' => w'.cell? (ad343.add (t342).toNat) = some (.int .u8 (rd y339 t342))) (ds := [16]) #[false, false, false, false, false, false, false, false, false, false, false, false, false, false, false, false, false] (by kernel_rfl) rfl rfl (hx343_0) (fun hHeld => ?_); refine with_tabW laws_FnJournal.tab25 laws_FnJournal.bits25 (fun HT_ HW_ => ?_)
                                                    generalize w52.drew = w65 at HO_5 HO337 HO341 HB hx343_0 hHeld ⊢
                                                    refine pure_ (i := 0) (N := some 134) (v := ?_) (a' := ?_) #[true, false, false, false, false, false, false, false, false, false, false, false, false, false, false, false, false] rfl rfl (any_of HT_.out (by kernel_rfl)) (fun _ _ _ h => h) (Or.inl ⟨by rfl, ?_⟩) ?_ ?_
                                                    rotate_left
                                                    · intro w'
                                                      go_simp
                                                      with_reducible rfl
                                                    rotate_left
                                                    · simp only [Act.put, List.setIfInBounds_toArray, List.set_cons_zero, List.set_cons_succ, i64_w, i32_w]
                                                      rfl
                                                    refine pure_ (i := 1) (N := some 135) (v := ?_) (a' := ?_) #[true, true, false, false, false, false, false, false, false, false, false, false, false, false, false, false, false] rfl rfl (any_of HT_.out (by kernel_rfl)) (fun _ _ _ h => h) (Or.inl ⟨by rfl, ?_⟩) ?_ ?_
                                                    rotate_left
                                                    · intro w'
                                                      go_simp
                                                      with_reducible rfl
                                                    rotate_left
                                                    · simp only [Act.put, List.setIfInBounds_toArray, List.set_cons_zero, List.set_cons_succ, i64_w, i32_w]
                                                      rfl
                                                    refine pure_ (i := 2) (N := some 136) (v := ?_) (a' := ?_) #[true, true, true, false, false, false, false, false, false, false, false, false, false, false, false, false, false] rfl rfl (any_of HT_.out (by kernel_rfl)) (fun _ _ _ h => h) (Or.inl ⟨by rfl, ?_⟩) ?_ ?_
                                                    rotate_left
                                                    · intro w'
                                                      go_simp
                                                      with_reducible rfl
                                                    rotate_left
                                                    · simp only [Act.put, List.setIfInBounds_toArray, List.set_cons_zero, List.set_cons_succ, i64_w, i32_w]
                                                      rfl
                                                    refine pure_ (i := 3) (N := some 137) (v := ?_) (a' := ?_) #[true, true, true, true, false, false, false, false, false, false, false, false, false, false, false, false, false] rfl rfl (any_of HT_.out (by kernel_rfl)) (fun _ _ _ h => h) (Or.inl ⟨by rfl, ?_⟩) ?_ ?_
                                                    rotate_left
                                                    · intro w'
                                                      go_simp
                                                      with_reducible rfl
                                                    rotate_left
                                                    · simp only [Act.put, List.setIfInBounds_toArray, List.set_cons_zero, List.set_cons_succ, i64_w, i32_w]
                                                      rfl
                                                    refine pure_ (i := 4) (N := some 138) (v := ?_) (a' := ?_) #[true, true, true, true, true, false, false, false, false, false, false, false, false, false, false, false, false] rfl rfl (any_of HT_.out (by kernel_rfl)) (fun _ _ _ h => h) (Or.inl ⟨by rfl, ?_⟩) ?_ ?_
                                                    rotate_left
                                                    · intro w'
                                                      go_simp
                                                      with_reducible rfl
                                                    rotate_left
                                                    · simp only [Act.put, List.setIfInBounds_toArray, List.set_cons_zero, List.set_cons_succ, i64_w, i32_w]
                                                      rfl
                                                    refine pure_ (i := 9) (N := some 143) (v := ?_) (a' := ?_) #[true, true, true, true, true, false, false, false, false, true, false, false, false, false, false, false, false] rfl rfl (any_of HT_.out (by kernel_rfl)) (fun _ _ _ h => h) (Or.inl ⟨by rfl, ?_⟩) ?_ ?_
                                                    rotate_left
                                                    · intro w'
                                                      go_simp
                                                      with_reducible rfl
                                                    rotate_left
                                                    · simp only [Act.put, List.setIfInBounds_toArray, List.set_cons_zero, List.set_cons_succ, i64_w, i32_w]
                                                      rfl
                                                    refine take_ (i := 5) (N := some 139) (v := ?_) (a' := ?_) #[true, true, true, true, true, true, false, false, false, true, false, false, false, false, false, false, false] rfl rfl (take_ofW HT_.out HW_.out (by kernel_rfl)) (fun _ _ _ h => h) (Or.inl ⟨by rfl, ?_⟩) hHeld ?_ ?_
                                                    rotate_left
                                                    · intro w' s0
                                                      go_simp
                                                      with_reducible rfl
                                                    rotate_left
                                                    · simp only [Act.put, List.setIfInBounds_toArray, List.set_cons_zero, List.set_cons_succ, i64_w, i32_w]
                                                      rfl
                                                    refine pure_ (i := 6) (N := some 140) (v := ?_) (a' := ?_) #[true, true, true, true, true, true, true, false, false, true, false, false, false, false, false, false, false] rfl rfl (any_of HT_.out (by kernel_rfl)) (fun _ _ _ h => h) (Or.inl ⟨by rfl, ?_⟩) ?_ ?_
                                                    rotate_left
                                                    · intro w'
                                                      go_simp
                                                      with_reducible rfl
                                                    rotate_left
                                                    · simp only [Act.put, List.setIfInBounds_toArray, List.set_cons_zero, List.set_cons_succ, i64_w, i32_w]
                                                      rfl
                                                    refine pure_ (i := 7) (N := some 141) (v := ?_) (a' := ?_) #[true, true, true, true, true, true, true, true, false, true, false, false, false, false, false, false, false] rfl rfl (any_of HT_.out (by kernel_rfl)) (fun _ _ _ h => h) (Or.inl ⟨by rfl, ?_⟩) ?_ ?_
                                                    rotate_left
                                                    · intro w'
                                                      go_simp
                                                      with_reducible rfl
                                                    rotate_left
                                                    · simp only [Act.put, List.setIfInBounds_toArray, List.set_cons_zero, List.set_cons_succ, i64_w, i32_w]
                                                      rfl
                                                    refine pure_ (i := 8) (N := some 142) (v := ?_) (a' := ?_) #[true, true, true, true, true, true, true, true, true, true, false, false, false, false, false, false, false] rfl rfl (any_of HT_.out (by kernel_rfl)) (fun _ _ _ h => h) (Or.inl ⟨by rfl, ?_⟩) ?_ ?_
                                                    rotate_left
                                                    · intro w'
                                                      go_simp
                                                      with_reducible rfl
                                                    rotate_left
                                                    · simp only [Act.put, List.setIfInBounds_toArray, List.set_cons_zero, List.set_cons_succ, i64_w, i32_w]
                                                      rfl
                                                    refine one_ (i := 10) (N := some 144) #[true, true, true, true, true, true, true, true, true, true, true, false, false, false, false, false, false] rfl rfl (one_of HT_.out (by kernel_rfl)) (by decide) (fun K hK => ?_)
                                                    refine goes_ Tryd.func15 (by kernel_rfl) rfl #[.slice A1 l1.length c1, .int .i64 2, .int .i64 94] (by rfl) rfl rfl (by (try simp only [List.map_toArray, List.map_cons, List.map_nil]); first | done | rfl | (simp only [List.length_drop, List.length_take]; rfl)) ?_
                                                    with_reducible refine (laws_at.calls _ _ l1 2 94 t344 _ ?side1 ?side2 A59.out).mono ?_
                                                    (case side1 => repeat (first | exact (Kd.C_below HR1.out HB.out) | (with_reducible refine Kd.C_alloc ?_ _) | (with_reducible refine Kd.C_drewN ?_ _) | (with_reducible refine Kd.C_drew ?_)))
                                                    (case side2 => exact HC1.out)
                                                    rintro e w' ⟨rfl, ⟨nd, rfl⟩⟩
                                                    refine ⟨_, rfl, ?_⟩
                                                    have n0_ := Aside0.mk (Kd.R_drewN HO_5.out nd)
                                                    have n1_ := Aside0.mk (Kd.R_drewN HO337.out nd)
                                                    have n2_ := Aside0.mk (Kd.B_drewN HO341.out nd)
                                                    have n3_ := Aside0.mk (pw_below_drewN HB.out nd)
                                                    replace hHeld : World.cell? (World.drewN w65 nd) _ = _ := hHeld
                                                    generalize World.drewN w65 nd = w65 at n0_ n1_ n2_ n3_ hHeld ⊢
                                                    clear HO_5 HO337 HO341 HB
                                                    have HO_5 := n0_
                                                    have HO337 := n1_
                                                    have HO341 := n2_
                                                    have HB := n3_
                                                    clear n0_ n1_ n2_ n3_
                                                    have p60 : 0 ≤ (t342 : Int) := of_decide_eq_true (by first | (with_reducible assumption) | assumption)
                                                    have q60 : (t342 : Int) < ((y339.length : Int) : Int) := of_decide_eq_true (by first | (with_reducible assumption) | assumption)
                                                    obtain ⟨go60, co60, eo60, gb60, gl60, cl60, HG60⟩ := Kd.B_form HO341.out (by omega)
                                                    (first | cases eo60 | (injection eo60 with ea_ en_ ec_; (first | subst ea_ | (injection ea_ with ea_; subst ea_)); subst ec_; clear en_))
                                                    have GB60 := Aside0.mk gb60
                                                    have GG60 := Aside0.mk HG60
                                                    clear gb60 gl60 HG60
                                                    (first | simp only [add_plain] at hx343_0 | skip)
                                                    obtain ⟨hx60_0, hf60_0⟩ := Kd.B_celln 0 HO341.out (t342 : Int) p60 q60
                                                    replace p60 := eq_true p60
                                                    replace q60 := eq_true q60
                                                    have HP66 := Kd.B_putn HO341.out (t342 : Int) ((wrap64 (32 + (Int.tmod (wrap64 ((wrap64 ((wrap64 ((wrap64 (rd y339 t342)) - 32)) + 1)) + t344)) 95))) % 256)
                                                    rw [← Ny345.out] at HP66
                                                    have HQ66 := Aside0.mk HP66
                                                    clear HP66
                                                    refine hK.out _ _ (hHeld) (fun hHeld => ?_)
                                                    clear hK K
                                                    refine norm_ (a' := ?_) ?_ ?_
                                                    rotate_left
                                                    · show Act.put _ (some 144) _ = _
                                                      simp only [Act.put, List.setIfInBounds_toArray, List.set_cons_zero, List.set_cons_succ, i64_w, i32_w]
                                                      rfl
                                                    refine pure_ (i := 11) (N := some 145) (v := ?_) (a' := ?_) #[true, true, true, true, true, true, true, true, true, true, true, true, false, false, false, false, false] rfl rfl (any_of HT_.out (by kernel_rfl)) (fun _ _ _ h => h) (Or.inl ⟨by rfl, ?_⟩) ?_ ?_
                                                    rotate_left
                                                    · intro w'
                                                      go_simp
                                                      with_reducible rfl
                                                    rotate_left
                                                    · simp only [Act.put, List.setIfInBounds_toArray, List.set_cons_zero, List.set_cons_succ, i64_w, i32_w]
                                                      rfl
                                                    refine pure_ (i := 12) (N := some 146) (v := ?_) (a' := ?_) #[true, true, true, true, true, true, true, true, true, true, true, true, true, false, false, false, false] rfl rfl (any_of HT_.out (by kernel_rfl)) (fun _ _ _ h => h) (Or.inl ⟨by rfl, ?_⟩) ?_ ?_
                                                    rotate_left
                                                    · intro w'
                                                      go_simp
                                                      with_reducible rfl
                                                    rotate_left
                                                    · simp only [Act.put, List.setIfInBounds_toArray, List.set_cons_zero, List.set_cons_succ, i64_w, i32_w]
                                                      rfl
                                                    refine pure_ (i := 13) (N := some 147) (v := ?_) (a' := ?_) #[true, true, true, true, true, true, true, true, true, true, true, true, true, true, false, false, false] rfl rfl (any_of HT_.out (by kernel_rfl)) (fun _ _ _ h => h) (Or.inl ⟨by rfl, ?_⟩) ?_ ?_
                                                    rotate_left
                                                    · intro w'
                                                      go_simp
                                                      with_reducible rfl
                                                    rotate_left
                                                    · simp only [Act.put, List.setIfInBounds_toArray, List.set_cons_zero, List.set_cons_succ, i64_w, i32_w]
                                                      rfl
                                                    refine pure_ (i := 14) (N := some 148) (v := ?_) (a' := ?_) #[true, true, true, true, true, true, true, true, true, true, true, true, true, true, true, false, false] rfl rfl (any_of HT_.out (by kernel_rfl)) (fun _ _ _ h => h) (Or.inl ⟨by rfl, ?_⟩) ?_ ?_
                                                    rotate_left
                                                    · intro w'
                                                      go_simp
                                                      with_reducible rfl
                                                    rotate_left
                                                    · simp only [Act.put, List.setIfInBounds_toArray, List.set_cons_zero, List.set_cons_succ, i64_w, i32_w]
                                                      rfl
                                                    refine pure_ (i := 15) (N := some 149) (v := ?_) (a' := ?_) #[true, true, true, true, true, true, true, true, true, true, true, true, true, true, true, true, false] rfl rfl (any_of HT_.out (by kernel_rfl)) (fun _ _ _ h => h) (Or.inl ⟨by rfl, ?_⟩) ?_ ?_
                                                    rotate_left
                                                    · intro w'
                                                      go_simp
                                                      with_reducible rfl
                                                    rotate_left
                                                    · simp only [Act.put, List.setIfInBounds_toArray, List.set_cons_zero, List.set_cons_succ, i64_w, i32_w]
                                                      rfl
                                                    refine last_ (i := 16) (N := none) #[true, true, true, true, true, true, true, true, true, true, true, true, true, true, true, true, true] rfl rfl (one_of HT_.out (by kernel_rfl)) (by decide) (fun K hK => ?_)
                                                    refine skip_ (w1 := ?_) (by rfl) rfl ?_ ?_
                                                    rotate_left
                                                    · go_simp
                                                      rfl
                                                    refine hK.out _ _ ?_
                                                    clear hK K
                                                    refine done_ (done_of HT_.out (by kernel_rfl)) ?_
                                                    have n0_ : Aside0 (Kd.R k33 33 (w65.setCell ⟨go60, (t342 : Int).toNat, none⟩ (.int .u8 ((wrap64 (32 + (Int.tmod (wrap64 ((wrap64 ((wrap64 ((wrap64 (rd y339 t342)) - 32)) + 1)) + t344)) 95))) % 256))) w.heap.size (fun k_ => some k_ ≠ (.slice (some ad338) y335.length co51 : Value).ownBlock) (.slice Ao25 t307.length co25) t307) := ⟨by (with_reducible repeat (first | apply Kd.R_alloc | apply Kd.R_drewN | apply Kd.R_drew)); exact Kd.R_mono (Kd.R_far (p := ⟨go60, (t342 : Int).toNat, none⟩) (Kd.R_typesB HO_5.out GG60.out (by decide)) (fun _ hk => hk.2) (.int .u8 ((wrap64 (32 + (Int.tmod (wrap64 ((wrap64 ((wrap64 ((wrap64 (rd y339 t342)) - 32)) + 1)) + t344)) 95))) % 256))) (fun _ hk => by first | exact hk.1.2 | exact hk.1)⟩
                                                    have n1_ : Aside0 (Kd.R k33 33 (w65.setCell ⟨go60, (t342 : Int).toNat, none⟩ (.int .u8 ((wrap64 (32 + (Int.tmod (wrap64 ((wrap64 ((wrap64 ((wrap64 (rd y339 t342)) - 32)) + 1)) + t344)) 95))) % 256))) w.heap.size (fun k_ => some k_ ≠ (.slice Ao25 t307.length co25 : Value).ownBlock) (.slice (some ad338) y335.length co51) y335) := ⟨by (with_reducible repeat (first | apply Kd.R_alloc | apply Kd.R_drewN | apply Kd.R_drew)); exact Kd.R_mono (Kd.R_far (p := ⟨go60, (t342 : Int).toNat, none⟩) (Kd.R_typesB HO337.out GG60.out (by decide)) (fun _ hk => hk.2) (.int .u8 ((wrap64 (32 + (Int.tmod (wrap64 ((wrap64 ((wrap64 ((wrap64 (rd y339 t342)) - 32)) + 1)) + t344)) 95))) % 256))) (fun _ hk => hk.1)⟩
                                                    have n2_ : Aside0 (Kd.B (Kd.int .u8) 5 (w65.setCell ⟨go60, (t342 : Int).toNat, none⟩ (.int .u8 ((wrap64 (32 + (Int.tmod (wrap64 ((wrap64 ((wrap64 ((wrap64 (rd y339 t342)) - 32)) + 1)) + t344)) 95))) % 256))) w.heap.size (fun _ => True) (.slice (some ⟨go60, 0, none⟩) y339.length co54) y345) := ⟨by (with_reducible repeat (first | apply Kd.B_alloc | apply Kd.B_drewN | apply Kd.B_drew)); exact HQ66.out⟩
                                                    have n3_ : Aside0 (Below w.heap.size w (w65.setCell ⟨go60, (t342 : Int).toNat, none⟩ (.int .u8 ((wrap64 (32 + (Int.tmod (wrap64 ((wrap64 ((wrap64 ((wrap64 (rd y339 t342)) - 32)) + 1)) + t344)) 95))) % 256)))) := ⟨by repeat (first | (with_reducible first | exact HB.out | apply below_alloc | apply pw_below_drewN | apply below_drew1 | refine below_set ?_ GB60.out) | exact HB.out)⟩
                                                    (try clear HO_5)
                                                    (try clear HO337)
                                                    (try clear HO341)
                                                    (try clear HB)
                                                    (try simp only [IntKind.wrap_u8])
                                                    generalize (w65.setCell ⟨go60, (t342 : Int).toNat, none⟩ (.int .u8 ((wrap64 (32 + (Int.tmod (wrap64 ((wrap64 ((wrap64 ((wrap64 (rd y339 t342)) - 32)) + 1)) + t344)) 95))) % 256))) = w67 at n0_ n1_ n2_ n3_ ⊢
                                                    have HO_5 := n0_
                                                    have HO337 := n1_
                                                    have HO341 := n2_
                                                    have HB := n3_
                                                    clear n0_ n1_ n2_ n3_
                                                    have hcv68 := Kd.B_string (P := Tryd.prog) Tryd.underlying22 Tryd.underlying5 Tryd.underlying9 HO341.out
                                                    have p61 : 0 ≤ (t331 : Int) := of_decide_eq_true (by first | (with_reducible assumption) | assumption)
                                                    have q61 : (t331 : Int) < ((y335.length : Int) : Int) := of_decide_eq_true (by first | (with_reducible assumption) | assumption)
                                                    obtain ⟨go61, co61, eo61, gb61, gl61, cl61, HG61⟩ := Kd.R_form HO337.out (by omega)
                                                    (first | cases eo61 | (injection eo61 with ea_ en_ ec_; (first | subst ea_ | (injection ea_ with ea_; subst ea_)); subst ec_; clear en_))
                                                    have GB61 := Aside0.mk gb61
                                                    have GG61 := Aside0.mk HG61
                                                    clear gb61 gl61 HG61
                                                    (first | simp only [add_plain] at hx338_0 | skip)
                                                    (first | simp only [add_plain] at hx338_1 | skip)
                                                    (first | simp only [add_plain] at hx338_2 | skip)
                                                    (first | simp only [add_plain] at hx338_3 | skip)
                                                    (first | simp only [add_plain] at hx338_4 | skip)
                                                    obtain ⟨ce61, hcl61, hM61, hcc61, hfr61⟩ := Kd.R_elem HO337.out z33 (t331 : Int) p61 q61
                                                    obtain rfl := k33_openM hM61
                                                    have hx61_0 : w67.cell? ⟨go61, (t331 : Int).toNat * 5, none⟩ = some (.int .i64 ((rd_T33 y335 t331).f0)) := hcc61 0 _ rfl
                                                    have hx61_1 : w67.cell? ⟨go61, (t331 : Int).toNat * 5 + 1, none⟩ = some (.int .i64 ((rd_T33 y335 t331).f1)) := hcc61 1 _ rfl
                                                    have hx61_2 : w67.cell? ⟨go61, (t331 : Int).toNat * 5 + 2, none⟩ = some (.int .i64 ((rd_T33 y335 t331).f2)) := hcc61 2 _ rfl
                                                    have hx61_3 : w67.cell? ⟨go61, (t331 : Int).toNat * 5 + 3, none⟩ = some (.string ((rd_T33 y335 t331).f3)) := hcc61 3 _ rfl
                                                    have hx61_4 : w67.cell? ⟨go61, (t331 : Int).toNat * 5 + 4, none⟩ = some (.int .i64 ((rd_T33 y335 t331).f4)) := hcc61 4 _ rfl
                                                    have hf61_0 : w67.frozen? ⟨go61, (t331 : Int).toNat * 5, none⟩ = false := hfr61 0
                                                    have hf61_1 : w67.frozen? ⟨go61, (t331 : Int).toNat * 5 + 1, none⟩ = false := hfr61 1
                                                    have hf61_2 : w67.frozen? ⟨go61, (t331 : Int).toNat * 5 + 2, none⟩ = false := hfr61 2
                                                    have hf61_3 : w67.frozen? ⟨go61, (t331 : Int).toNat * 5 + 3, none⟩ = false := hfr61 3
                                                    have hf61_4 : w67.frozen? ⟨go61, (t331 : Int).toNat * 5 + 4, none⟩ = false := hfr61 4
                                                    clear hcl61 hcc61 hfr61; (try clear hM61)
                                                    replace p61 := eq_true p61
                                                    replace q61 := eq_true q61
                                                    have HX69 := Aside0.mk (show Kd.R k33 33 w67 w.heap.size (fun k_ => some k_ ≠ (.slice Ao25 t307.length co25 : Value).ownBlock) (.slice (some ⟨go61, 0, none⟩) y335.length co51) y335 from (by (with_reducible repeat (first | apply Kd.R_alloc | apply Kd.R_drewN | apply Kd.R_drew)); exact HO337.out))
                                                    obtain ⟨ce69, hcl69, hM69, hcc69, hfr69⟩ := Kd.R_elem HX69.out z33 (t331 : Int) (of_decide_eq_true (by first | (with_reducible assumption) | assumption)) (by have h_ : (t331 : Int) < ((y335.length : Int) : Int) := of_decide_eq_true (by first | (with_reducible assumption) | assumption); first | exact h_ | (have e_ := (Kd.R_reads' HO337.out).1; omega) | simpa using h_)
                                                    obtain rfl := k33_openM hM69
                                                    have HP69 := Kd.R_seg HX69.out (t331 : Int) (of_decide_eq_true (by first | (with_reducible assumption) | assumption)) (by have h_ : (t331 : Int) < ((y335.length : Int) : Int) := of_decide_eq_true (by first | (with_reducible assumption) | assumption); first | exact h_ | (have e_ := (Kd.R_reads' HO337.out).1; omega) | simpa using h_) (seg := [.string (strOfNums y345)]) (j := 3) hcl69 hcc69 (show 4 ≤ 5 from by decide) (x' := (⟨(rd_T33 y335 t331).f0, (rd_T33 y335 t331).f1, (rd_T33 y335 t331).f2, strOfNums y345, (rd_T33 y335 t331).f4⟩ : S33)) (k33_mkM _ _ _ (⟨(rd_T33 y335 t331).f0, (rd_T33 y335 t331).f1, (rd_T33 y335 t331).f2, strOfNums y345, (rd_T33 y335 t331).f4⟩ : S33) ) (fun _ hk => hk)
                                                    have hx69_3 := hcc69 3 _ rfl
                                                    (try simp only [show (k33).sz = 5 from rfl, Nat.mul_one, Nat.add_zero] at hx69_3)
                                                    have hf69_3 := hfr69 3
                                                    (try simp only [show (k33).sz = 5 from rfl, Nat.mul_one, Nat.add_zero] at hf69_3)
                                                    clear hcl69 hcc69 hfr69; (try clear hM69)
                                                    try go_wp2_with (first | ((with_reducible refine gate_store (t := 9) (p := 155) rfl ?_); refine store_event (t := 9) (p := 155) (v := ?vo_w70) (w1 := (w67.setCell ⟨go61, (t331 : Int).toNat * 5 + 3, none⟩ (.string (strOfNums y345)))) ?hg ?ho ?hn ?hr ?_; (case ho => rfl); (case hg => rfl); (case hn => rfl); (case hr => first | (go_simp; done) | (go_simp; rfl)); intro w70 hw; have hg : w67.grownBy w70 (some go61) := (by rw [hw]; exact HP69.2); have hp_ : Kd.R k33 33 w70 w.heap.size (fun k_ => some k_ ≠ (.slice Ao25 t307.length co25 : Value).ownBlock) (.slice (some ⟨go61, 0, none⟩) y335.length co51) y346 := (by rw [hw, Ny346.out]; exact HP69.1); clear HP69; have n0_ := Aside0.mk (Kd.R_after (v := (.slice (some ⟨go61, 0, none⟩) y335.length co51)) (v1 := (.slice (some ⟨go61, 0, none⟩) y335.length co51)) (ok := (fun _ => True)) (by (with_reducible repeat (first | apply Kd.R_alloc | apply Kd.R_drewN | apply Kd.R_drew)); exact Kd.R_mono HO_5.out (fun _ hk => ⟨trivial, hk⟩)) hg (.inl rfl)); have n1_ := Aside0.mk (hp_); have n2_ := Aside0.mk (Kd.B_over' (v := (.slice (some ⟨go61, 0, none⟩) y335.length co51)) (by (with_reducible repeat (first | apply Kd.B_alloc | apply Kd.B_drewN | apply Kd.B_drew)); exact HO341.out) (Kd.R_typed HO337.out) (by decide) hg); have n3_ := Aside0.mk ((by rw [hw]; exact below_set (HB.out) GB61.out : Below w.heap.size w w70)); clear HO_5; clear HO337; clear HO341; clear HB; have HO_5 := n0_; have HO337 := n1_; have HO341 := n2_; have HB := n3_; clear n0_ n1_ n2_ n3_; clear hg hw hp_) | ((with_reducible refine gate_callee (f := 17) rfl ?_); refine goesL_ (some 158) rfl rfl Tryd.func17 (by kernel_rfl) rfl #[.slice (some ⟨go61, 0, none⟩) y346.length co51] rfl (by (try simp only [List.map_toArray, List.map_cons, List.map_nil]); first | done | (rw [show y346.length = y335.length from (Kd.R_reads' HO337.out).1.symm] <;> rfl) | rfl | (simp only [List.length_drop, List.length_take]; rfl)) ?_; (with_reducible refine (impl_CheckJournal.calls kj37 _ _ y346 t347 t348 _ ?side1 ?side2 ?side3 A62.out).mono ?_); (case side1 => repeat (first | exact (Kd.R_reads' HO337.out).2.2 | (with_reducible refine Kd.C_alloc ?_ _) | (with_reducible refine Kd.C_drewN ?_ _) | (with_reducible refine Kd.C_drew ?_))); (case side2 => rw [show y346.length = y335.length from (Kd.R_reads' HO337.out).1.symm]; exact (Kd.R_reads' HO337.out).2.1); (case side3 => exact TabT.below HTAB.out (by repeat (first | (with_reducible first | exact HB.out | apply below_alloc | apply pw_below_drewN | apply below_drew1) | exact HB.out))); rintro e w71 ⟨rfl, hb⟩; refine ⟨_, rfl, ?_⟩; have n0_ := Aside0.mk (Kd.R_below (by (with_reducible repeat (first | apply Kd.R_alloc | apply Kd.R_drewN | apply Kd.R_drew)); exact HO_5.out) hb); have n1_ := Aside0.mk (Kd.R_below (by (with_reducible repeat (first | apply Kd.R_alloc | apply Kd.R_drewN | apply Kd.R_drew)); exact HO337.out) hb); have n2_ := Aside0.mk (Kd.B_below (by (with_reducible repeat (first | apply Kd.B_alloc | apply Kd.B_drewN | apply Kd.B_drew)); exact HO341.out) hb); have n3_ := Aside0.mk (below_step (by repeat (first | (with_reducible first | exact HB.out | apply below_alloc | apply pw_below_drewN | apply below_drew1) | exact HB.out)) hb); clear HO_5; clear HO337; clear HO341; clear HB; have HO_5 := n0_; have HO337 := n1_; have HO341 := n2_; have HB := n3_; clear n0_ n1_ n2_ n3_; (try clear hb); (try clear hb2); (try clear hk); (try clear hi)))
                                                    go_meet
                                                    case rel => exact ⟨_, H', ⟨by have := HJ2.out; have := HJ9.out; have := HJ23.out; have := HK4.out; have := HJ37.out; first | omega | exact Nat.le_refl _⟩, ⟨by (with_reducible repeat (first | apply Kd.R_alloc | apply Kd.R_drewN | apply Kd.R_drew)); exact Kd.R_mono HO_5.out (fun _ hk => trivial)⟩, ⟨by repeat (first | (with_reducible first | exact HB.out | apply below_alloc | apply pw_below_drewN | apply below_drew1) | exact HB.out)⟩⟩
                                                  · rw [if_neg c64] at H
                                                    have c64b0 : (t348 == t331) = false := beq_eq_false_iff_ne.mpr c64
                                                    have c64b1 : (t348 != t331) = true := bne_iff_ne.mpr c64
                                                    obtain rfl := Option.some.inj H
                                                    exact absurd hT_.out (by decide)
                                                · rw [if_neg c63] at H
                                                  have c63b0 : (t347 == 15) = false := beq_eq_false_iff_ne.mpr c63
                                                  have c63b1 : (t347 != 15) = true := bne_iff_ne.mpr c63
                                                  obtain rfl := Option.some.inj H
                                                  exact absurd hT_.out (by decide)
                                              · rw [if_neg c58] at H
                                                exact absurd H (by simp)
                                            · rw [if_neg c57] at H
                                              exact absurd H (by simp)
                                          · rw [if_neg c55] at H
                                            have c55b0 : decide (0 < (y339.length : Int)) = false := decide_eq_false c55
                                            have c55b1 : decide (0 < y339.length) = false := decide_eq_false (by omega)
                                            clear c55
                                            (first | rw [c55b1] | rw [c55b0] | (simp only [i64_w, i32_w]; rw [c55b0]) | skip)
                                            have H' := Aside0.mk H
                                            clear H
                                            go_wp2
                                            go_meet
                                            case rel => exact ⟨_, H', ⟨by have := HJ2.out; have := HJ9.out; have := HJ23.out; have := HK4.out; have := HJ37.out; first | omega | exact Nat.le_refl _⟩, ⟨by (with_reducible repeat (first | apply Kd.R_alloc | apply Kd.R_drewN | apply Kd.R_drew)); exact Kd.R_mono HO_5.out (fun _ hk => trivial)⟩, ⟨by repeat (first | (with_reducible first | exact HB.out | apply below_alloc | apply pw_below_drewN | apply below_drew1) | exact HB.out)⟩⟩
                                        case rest =>
                                          clear HC47
                                          try clear c1
                                          try clear c2
                                          try clear p2
                                          try clear c3
                                          try clear p3
                                          try clear q3
                                          try clear hx3
                                          try clear c4
                                          try clear c4b0
                                          try clear c4b1
                                          try clear c5
                                          try clear c6
                                          try clear p6
                                          try clear q6
                                          try clear hx6
                                          try clear hcv6
                                          try clear hf6
                                          try clear c9
                                          try clear c10
                                          try clear c11
                                          try clear c13
                                          try clear c14
                                          try clear c15
                                          try clear c16
                                          try clear c17
                                          try clear c17b0
                                          try clear c17b1
                                          try clear c21
                                          try clear c28
                                          try clear c28b0
                                          try clear c28b1
                                          try clear c29
                                          try clear c29b0
                                          try clear c29b1
                                          try clear c30
                                          try clear c30b0
                                          try clear c30b1
                                          try clear p32
                                          try clear q32
                                          try clear hx32
                                          try clear c33
                                          try clear p33
                                          try clear q33
                                          try clear hx33
                                          try clear c34
                                          try clear c34b0
                                          try clear p34
                                          try clear q34
                                          try clear hx34
                                          try clear c35
                                          try clear c35b0
                                          try clear c40
                                          try clear c40b0
                                          try clear c40b1
                                          try clear c41
                                          try clear c43
                                          try clear c44
                                          try clear c44b0
                                          try clear c45
                                          try clear c45b0
                                          try clear c46
                                          try clear c46b0
                                          try clear c46b1
                                          try clear c46b2
                                          try clear c55
                                          try clear c55b0
                                          try clear c55b1
                                          try clear c57
                                          try clear c57b0
                                          try clear c58
                                          try clear c58b0
                                          try clear p60
                                          try clear q60
                                          try clear hx60
                                          try clear hf60
                                          try clear c61
                                          try clear p61
                                          try clear q61
                                          try clear hx61
                                          try clear hf61
                                          try clear c63
                                          try clear c63b0
                                          try clear c63b1
                                          try clear c64
                                          try clear c64b0
                                          try clear c64b1
                                          try clear p64
                                          try clear hcv68
                                          try clear c69
                                          try clear hx69
                                          try clear hf69
                                          try clear hx327_0
                                          try clear hx327_1
                                          try clear hx327_2
                                          try clear hx327_3
                                          try clear hx327_4
                                          try clear hx338_0
                                          try clear hx338_1
                                          try clear hx338_2
                                          try clear hx338_3
                                          try clear hx338_4
                                          try clear hx343_0
                                          try clear hx60_0
                                          try clear hx61_0
                                          try clear hx61_1
                                          try clear hx61_2
                                          try clear hx61_3
                                          try clear hx61_4
                                          try clear hx69_3
                                          try clear p2
                                          try clear p3
                                          try clear p32
                                          try clear p327
                                          try clear p338
                                          try clear p343
                                          try clear p6
                                          try clear p60
                                          try clear p61
                                          try clear q3
                                          try clear q32
                                          try clear q327
                                          try clear q338
                                          try clear q343
                                          try clear q60
                                          try clear q61
                                          obtain ⟨kq, HA, HJ46, HO_5, HB⟩ := hcut
                                          cases kq with
                                          | zero => exact absurd HA.out (by simp [laws_FnJournal.j5])
                                          | succ kj46 =>
                                            have H := HA.out
                                            clear HA
                                            simp only [laws_FnJournal.j5] at H
                                            by_cases c72 : (wrap64 (t331 + 1)) < (t307.length : Int)
                                            · rw [if_pos c72] at H
                                              have c72b0 : decide ((wrap64 (t331 + 1)) < (t307.length : Int)) = true := decide_eq_true c72
                                              clear c72
                                              obtain ⟨y349, hy349⟩ : ∃ y_ : List (S33), y_ = (([] : List (S33))) := ⟨_, rfl⟩
                                              replace H : (if 0 ≤ t331 then (if t331 ≤ (t307.length : Int) then ((some (t307.take (t331 : Int).toNat : List (S33))).bind fun y352 => (if y349.length + y352.length < 2932031007402 then ((some (y349 ++ y352 : List (S33))).bind fun y356 => (if 0 ≤ (wrap64 (t331 + 1)) then (if (wrap64 (t331 + 1)) ≤ (t307.length : Int) then ((some (t307.drop ((wrap64 (t331 + 1)) : Int).toNat : List (S33))).bind fun y359 => (if y356.length + y359.length < 2932031007402 then ((impl_CheckJournal.f kj46 (y356 ++ y359)).bind fun bt366 => (if bt366.1 = 3 then (if bt366.2 = t331 then (some true) else (some false)) else (some false))) else (none))) else (none)) else (none))) else (none))) else (none)) else (none)) = some r := by first | (rw [hy349]; with_reducible exact H) | (have H2_ := (Option.bind_some _ _).symm.trans H; rw [hy349]; with_reducible exact H2_) | (have H2_ := (Option.bind_some _ _).symm.trans H; with_reducible exact H2_) | with_reducible exact H | (rw [hy349]; exact H) | exact H
                                              have Ny349 := Aside0.mk hy349
                                              clear hy349
                                              by_cases c73 : 0 ≤ t331
                                              · rw [if_pos c73] at H
                                                have c73b0 := eq_true c73
                                                have c73b1 : decide (0 ≤ t331) = true := decide_eq_true c73
                                                clear c73
                                                by_cases c74 : t331 ≤ (t307.length : Int)
                                                · rw [if_pos c74] at H
                                                  have c74b0 := eq_true c74
                                                  have c74b1 : decide (t331 ≤ (t307.length : Int)) = true := decide_eq_true c74
                                                  clear c74
                                                  obtain ⟨y352, hy352⟩ : ∃ y_ : List (S33), y_ = (t307.take (t331 : Int).toNat) := ⟨_, rfl⟩
                                                  replace H : (if y349.length + y352.length < 2932031007402 then ((some (y349 ++ y352 : List (S33))).bind fun y356 => (if 0 ≤ (wrap64 (t331 + 1)) then (if (wrap64 (t331 + 1)) ≤ (t307.length : Int) then ((some (t307.drop ((wrap64 (t331 + 1)) : Int).toNat : List (S33))).bind fun y359 => (if y356.length + y359.length < 2932031007402 then ((impl_CheckJournal.f kj46 (y356 ++ y359)).bind fun bt366 => (if bt366.1 = 3 then (if bt366.2 = t331 then (some true) else (some false)) else (some false))) else (none))) else (none)) else (none))) else (none)) = some r := by first | (rw [hy352]; with_reducible exact H) | (have H2_ := (Option.bind_some _ _).symm.trans H; rw [hy352]; with_reducible exact H2_) | (have H2_ := (Option.bind_some _ _).symm.trans H; with_reducible exact H2_) | with_reducible exact H | (rw [hy352]; exact H) | exact H
                                                  have Ny352 := Aside0.mk hy352
                                                  clear hy352
                                                  by_cases c75 : y349.length + y352.length < 2932031007402
                                                  · rw [if_pos c75] at H
                                                    have LMc75 := Aside0.mk c75
                                                    clear c75
                                                    obtain ⟨y356, hy356⟩ : ∃ y_ : List (S33), y_ = (y349 ++ y352) := ⟨_, rfl⟩
                                                    replace H : (if 0 ≤ (wrap64 (t331 + 1)) then (if (wrap64 (t331 + 1)) ≤ (t307.length : Int) then ((some (t307.drop ((wrap64 (t331 + 1)) : Int).toNat : List (S33))).bind fun y359 => (if y356.length + y359.length < 2932031007402 then ((impl_CheckJournal.f kj46 (y356 ++ y359)).bind fun bt366 => (if bt366.1 = 3 then (if bt366.2 = t331 then (some true) else (some false)) else (some false))) else (none))) else (none)) else (none)) = some r := by first | (rw [hy356]; with_reducible exact H) | (have H2_ := (Option.bind_some _ _).symm.trans H; rw [hy356]; with_reducible exact H2_) | (have H2_ := (Option.bind_some _ _).symm.trans H; with_reducible exact H2_) | with_reducible exact H | (rw [hy356]; exact H) | exact H
                                                    have Ny356 := Aside0.mk hy356
                                                    clear hy356
                                                    obtain ⟨ji76, hji76⟩ : ∃ j_ : Int, (wrap64 (t331 + 1)) = j_ := ⟨_, rfl⟩
                                                    replace H : (if 0 ≤ (ji76) then (if (ji76) ≤ (t307.length : Int) then ((some (t307.drop ((ji76) : Int).toNat : List (S33))).bind fun y359 => (if y356.length + y359.length < 2932031007402 then ((impl_CheckJournal.f kj46 (y356 ++ y359)).bind fun bt366 => (if bt366.1 = 3 then (if bt366.2 = t331 then (some true) else (some false)) else (some false))) else (none))) else (none)) else (none)) = some r := by first | (rw [hji76] at H; exact H) | (simp only [hji76] at H ⊢; exact H)
                                                    (try rw [hji76] at c72b0)
                                                    have hji76w : (IntKind.i64.wrap (t331 + 1)) = ji76 := (i64_w _).trans hji76
                                                    by_cases c77 : 0 ≤ (ji76)
                                                    · rw [if_pos c77] at H
                                                      have c77b0 := eq_true c77
                                                      have c77b1 : decide (0 ≤ (ji76)) = true := decide_eq_true c77
                                                      clear c77
                                                      by_cases c78 : (ji76) ≤ (t307.length : Int)
                                                      · rw [if_pos c78] at H
                                                        have c78b0 := eq_true c78
                                                        have c78b1 : decide ((ji76) ≤ (t307.length : Int)) = true := decide_eq_true c78
                                                        clear c78
                                                        obtain ⟨y359, hy359⟩ : ∃ y_ : List (S33), y_ = (t307.drop ((ji76) : Int).toNat) := ⟨_, rfl⟩
                                                        replace H : (if y356.length + y359.length < 2932031007402 then ((impl_CheckJournal.f kj46 (y356 ++ y359)).bind fun bt366 => (if bt366.1 = 3 then (if bt366.2 = t331 then (some true) else (some false)) else (some false))) else (none)) = some r := by first | (rw [hy359]; with_reducible exact H) | (have H2_ := (Option.bind_some _ _).symm.trans H; rw [hy359]; with_reducible exact H2_) | (have H2_ := (Option.bind_some _ _).symm.trans H; with_reducible exact H2_) | with_reducible exact H | (rw [hy359]; exact H) | exact H
                                                        have Ny359 := Aside0.mk hy359
                                                        clear hy359
                                                        by_cases c79 : y356.length + y359.length < 2932031007402
                                                        · rw [if_pos c79] at H
                                                          have LMc79 := Aside0.mk c79
                                                          clear c79
                                                          obtain ⟨y363, hy363⟩ : ∃ y_ : List (S33), y_ = (y356 ++ y359) := ⟨_, rfl⟩
                                                          replace H : ((impl_CheckJournal.f kj46 y363).bind fun bt366 => (if bt366.1 = 3 then (if bt366.2 = t331 then (some true) else (some false)) else (some false))) = some r := by first | (rw [hy363]; with_reducible exact H) | (have H2_ := (Option.bind_some _ _).symm.trans H; rw [hy363]; with_reducible exact H2_) | (have H2_ := (Option.bind_some _ _).symm.trans H; with_reducible exact H2_) | with_reducible exact H | (rw [hy363]; exact H) | exact H
                                                          have Ny363 := Aside0.mk hy363
                                                          clear hy363
                                                          replace H := Option.bind_eq_some_iff.mp H
                                                          obtain ⟨⟨t366, t367⟩, A800, H⟩ := H
                                                          replace H : (if t366 = 3 then (if t367 = t331 then (some true) else (some false)) else (some false)) = some r := H
                                                          have A80 := Aside0.mk A800
                                                          clear A800
                                                          by_cases c81 : t366 = 3
                                                          · rw [if_pos c81] at H
                                                            have c81b0 : (t366 == 3) = true := beq_iff_eq.mpr c81
                                                            have c81b1 : (t366 != 3) = false := bne_eq_false_iff_eq.mpr c81
                                                            clear c81
                                                            by_cases c82 : t367 = t331
                                                            · rw [if_pos c82] at H
                                                              have c82b0 : (t367 == t331) = true := beq_iff_eq.mpr c82
                                                              have c82b1 : (t367 != t331) = false := bne_eq_false_iff_eq.mpr c82
                                                              clear c82
                                                              obtain rfl := Option.some.inj H
                                                              try go_wp2
                                                              have n0_ := Aside0.mk (Kd.R_drew HO_5.out)
                                                              have n1_ := Aside0.mk (below_drew1 HB.out)
                                                              clear HO_5
                                                              clear HB
                                                              have HO_5 := n0_
                                                              have HB := n1_
                                                              clear n0_ n1_
                                                              have q84 : (t331 : Int) ≤ ((t307.length : Int) : Int) := of_decide_eq_true (by first | (with_reducible assumption) | assumption)
                                                              obtain ⟨i084, hi084, _, hsz84, _⟩ := info_parts info33
                                                              have hroom84 : t307.length ≤ co25 := (Kd.R_reads' HO_5.out).2.1
                                                              have hC84 : Kd.C k33 _ Ao25 t307.length t307 := (Kd.R_reads' HO_5.out).2.2
                                                              have hcut84 := cut_to (P := Tryd.prog) 23 33 .i64 Tryd.underlying23 hi084 Ao25 t307.length co25 t331 (of_decide_eq_true (by first | (with_reducible assumption) | assumption)) q84 hroom84
                                                              have hr84 := Kd.C_take (m := (t331 : Int).toNat) hC84 (by omega)
                                                              have hy84 : y352.length = (t331 : Int).toNat := (by rw [Ny352.out, List.length_take]; omega)
                                                              rw [← Ny352.out] at hr84
                                                              rw [← hy84] at hcut84
                                                              have HR355 := Aside0.mk hr84
                                                              have HC355 := Aside0.mk (show y352.length ≤ co25 from by omega)
                                                              clear hr84 hC84 hroom84 hi084 hsz84
                                                              have KY84 := Aside0.mk hy84
                                                              clear hy84
                                                              have KL84 := Aside0.mk (show (t331 : Int).toNat ≤ t307.length from by omega)
                                                              replace q84 := eq_true q84
                                                              have q85 : ((ji76) : Int) ≤ ((t307.length : Int) : Int) := of_decide_eq_true (by first | (with_reducible assumption) | assumption)
                                                              obtain ⟨i085, hi085, _, hsz85, _⟩ := info_parts info33
                                                              have hroom85 : t307.length ≤ co25 := (Kd.R_reads' HO_5.out).2.1
                                                              have hC85 : Kd.C k33 _ Ao25 t307.length t307 := (Kd.R_reads' HO_5.out).2.2
                                                              have q085 : (0 : Int) ≤ ((ji76) : Int) := of_decide_eq_true (by first | (with_reducible assumption) | assumption)
                                                              have hcut85 := cut_from (P := Tryd.prog) 23 33 .i64 Tryd.underlying23 hi085 5 hsz85 Ao25 t307.length co25 (ji76) q085 q85
                                                              have hr85 := Kd.C_drop (m := ((ji76) : Int).toNat) (c := co25) hC85 (by omega) hroom85
                                                              obtain ⟨A85, hA85⟩ : ∃ A1, A1 = (if co25 = ((ji76) : Int).toNat then Ao25 else (Ao25 : Option Addr).map (·.add (((ji76) : Int).toNat * 5))) := ⟨_, rfl⟩
                                                              obtain ⟨c85, hc85⟩ : ∃ c1, c1 = co25 - ((ji76) : Int).toNat := ⟨_, rfl⟩
                                                              have hy85 : y359.length = t307.length - ((ji76) : Int).toNat := (by rw [Ny359.out, List.length_drop] <;> omega)
                                                              rw [show (t307).drop ((ji76) : Int).toNat = y359 from Ny359.out.symm] at hr85
                                                              replace hr85 : Kd.C k33 _ A85 y359.length y359 := (by rw [hA85]; exact hr85)
                                                              rw [← hy85, ← hA85, ← hc85] at hcut85
                                                              have HR362 := Aside0.mk hr85
                                                              have HC362 := Aside0.mk (show y359.length ≤ c85 from by rw [hy85, hc85]; exact Nat.sub_le_sub_right hroom85 _)
                                                              clear hr85 hC85 hroom85 hi085 hsz85 hc85
                                                              have KY85 := Aside0.mk hy85
                                                              have KA85 := Aside0.mk hA85
                                                              clear hy85 hA85
                                                              have KL85 := Aside0.mk (show ((ji76) : Int).toNat ≤ t307.length from by omega)
                                                              replace q85 := eq_true q85
                                                              refine start_ (n := 11) (S := fun w' => True) (ds := []) #[false, false, false, false, false, false, false, false, false, false, false] (by kernel_rfl) rfl rfl trivial (fun hHeld => ?_); refine with_tabW laws_FnJournal.tab31 laws_FnJournal.bits31 (fun HT_ HW_ => ?_)
                                                              generalize wc.drew = w83 at HO_5 HB HR355 HR362 hHeld ⊢
                                                              refine pure_ (i := 1) (N := some 174) (v := ?_) (a' := ?_) #[false, true, false, false, false, false, false, false, false, false, false] rfl rfl (any_of HT_.out (by kernel_rfl)) (fun _ _ _ h => h) (Or.inl ⟨by rfl, ?_⟩) ?_ ?_
                                                              rotate_left
                                                              · intro w'
                                                                go_simp
                                                                with_reducible rfl
                                                              rotate_left
                                                              · simp only [Act.put, List.setIfInBounds_toArray, List.set_cons_zero, List.set_cons_succ, i64_w, i32_w]
                                                                rfl
                                                              refine pure_ (i := 2) (N := some 175) (v := ?_) (a' := ?_) #[false, true, true, false, false, false, false, false, false, false, false] rfl rfl (any_of HT_.out (by kernel_rfl)) (fun _ _ _ h => h) (Or.inl ⟨by rfl, ?_⟩) ?_ ?_
                                                              rotate_left
                                                              · intro w'
                                                                go_simp
                                                                with_reducible rfl
                                                              rotate_left
                                                              · simp only [Act.put, List.setIfInBounds_toArray, List.set_cons_zero, List.set_cons_succ, i64_w, i32_w]
                                                                rfl
                                                              refine pure_ (i := 3) (N := some 176) (v := ?_) (a' := ?_) #[false, true, true, true, false, false, false, false, false, false, false] rfl rfl (any_of HT_.out (by kernel_rfl)) (fun _ _ _ h => h) (Or.inl ⟨by rfl, ?_⟩) ?_ ?_
                                                              rotate_left
                                                              · intro w'
                                                                go_simp
                                                                with_reducible rfl
                                                              rotate_left
                                                              · simp only [Act.put, List.setIfInBounds_toArray, List.set_cons_zero, List.set_cons_succ, i64_w, i32_w]
                                                                rfl
                                                              refine pure_ (i := 5) (N := some 178) (v := ?_) (a' := ?_) #[false, true, true, true, false, true, false, false, false, false, false] rfl rfl (any_of HT_.out (by kernel_rfl)) (fun _ _ _ h => h) (Or.inl ⟨by rfl, ?_⟩) ?_ ?_
                                                              rotate_left
                                                              · intro w'
                                                                go_simp
                                                                with_reducible rfl
                                                              rotate_left
                                                              · simp only [Act.put, List.setIfInBounds_toArray, List.set_cons_zero, List.set_cons_succ, i64_w, i32_w]
                                                                rfl
                                                              refine pure_ (i := 6) (N := some 179) (v := ?_) (a' := ?_) #[false, true, true, true, false, true, true, false, false, false, false] rfl rfl (any_of HT_.out (by kernel_rfl)) (fun _ _ _ h => h) (Or.inl ⟨by rfl, ?_⟩) ?_ ?_
                                                              rotate_left
                                                              · intro w'
                                                                go_simp
                                                                with_reducible rfl
                                                              rotate_left
                                                              · simp only [Act.put, List.setIfInBounds_toArray, List.set_cons_zero, List.set_cons_succ, i64_w, i32_w]
                                                                rfl
                                                              refine pure_ (i := 7) (N := some 180) (v := ?_) (a' := ?_) #[false, true, true, true, false, true, true, true, false, false, false] rfl rfl (any_of HT_.out (by kernel_rfl)) (fun _ _ _ h => h) (Or.inl ⟨by rfl, ?_⟩) ?_ ?_
                                                              rotate_left
                                                              · intro w'
                                                                go_simp
                                                                with_reducible rfl
                                                              rotate_left
                                                              · simp only [Act.put, List.setIfInBounds_toArray, List.set_cons_zero, List.set_cons_succ, i64_w, i32_w]
                                                                rfl
                                                              refine pure_ (i := 8) (N := some 181) (v := ?_) (a' := ?_) #[false, true, true, true, false, true, true, true, true, false, false] rfl rfl (any_of HT_.out (by kernel_rfl)) (fun _ _ _ h => h) (Or.inl ⟨by rfl, ?_⟩) ?_ ?_
                                                              rotate_left
                                                              · intro w'
                                                                go_simp
                                                                with_reducible rfl
                                                              rotate_left
                                                              · simp only [Act.put, List.setIfInBounds_toArray, List.set_cons_zero, List.set_cons_succ, i64_w, i32_w]
                                                                rfl
                                                              refine one_ (i := 0) (N := some 173) #[true, true, true, true, false, true, true, true, true, false, false] rfl rfl (one_of HT_.out (by kernel_rfl)) (by decide) (fun K hK => ?_)
                                                              refine Kd.R_lit_step k33 _ 33 ?hg (N := 173) ?hd (xs := ([] : List (S33))) (inner := []) (ok := fun _ => True) (okp := fun _ => True) ?hr ?hp (fun _ hk => hk) trivial (Below.refl _ _) (Nat.le_refl _) (by simp) ?_; (case hd => rfl); (case hg => rfl); (case hr => first | (go_simp; done) | (go_simp; rfl)); (case hp => exact (Reps.none _ _))
                                                              intro v350 w86 ho87 hb hg_ hnew_
                                                              clear hg_ hnew_
                                                              (first | rw [← Ny349.out] at ho87 | (simp only [Int.reduceToNat] at ho87; rw [← Ny349.out] at ho87))
                                                              have n0_ := Aside0.mk (Kd.R_elder' (by (with_reducible repeat (first | apply Kd.R_alloc | apply Kd.R_drewN | apply Kd.R_drew)); exact HO_5.out) (Kd.R_base ho87) hb)
                                                              have n1_ := Aside0.mk (Kd.R_lower (Kd.R_new' ho87 (Kd.R_lt (by (with_reducible repeat (first | apply Kd.R_alloc | apply Kd.R_drewN | apply Kd.R_drew)); exact HO_5.out))) (below_size (by repeat (first | (with_reducible first | exact HB.out | apply below_alloc | apply pw_below_drewN | apply below_drew1) | exact HB.out))))
                                                              have n2_ := Aside0.mk (Kd.C_below (by repeat (first | (with_reducible exact HR355.out) | (with_reducible refine Kd.C_alloc ?_ _) | (with_reducible refine Kd.C_drewN ?_ _) | (with_reducible refine Kd.C_drew ?_) | exact HR355.out)) hb)
                                                              have n3_ := Aside0.mk (Kd.C_below (by repeat (first | (with_reducible exact HR362.out) | (with_reducible refine Kd.C_alloc ?_ _) | (with_reducible refine Kd.C_drewN ?_ _) | (with_reducible refine Kd.C_drew ?_) | exact HR362.out)) hb)
                                                              have n4_ := Aside0.mk (below_step (by repeat (first | (with_reducible first | exact HB.out | apply below_alloc | apply pw_below_drewN | apply below_drew1) | exact HB.out)) hb)
                                                              clear HO_5
                                                              clear HR355
                                                              clear HR362
                                                              clear HB
                                                              have HO_5 := n0_
                                                              have HO351 := n1_
                                                              have HR355 := n2_
                                                              have HR362 := n3_
                                                              have HB := n4_
                                                              clear n0_ n1_ n2_ n3_ n4_
                                                              clear hb ho87
                                                              refine hK.out _ _ trivial (fun hHeld => ?_)
                                                              clear hK K
                                                              refine norm_ (a' := ?_) ?_ ?_
                                                              rotate_left
                                                              · show Act.put _ (some 173) _ = _
                                                                simp only [Act.put, List.setIfInBounds_toArray, List.set_cons_zero, List.set_cons_succ, i64_w, i32_w]
                                                                rfl
                                                              refine one_ (i := 4) (N := some 177) #[true, true, true, true, true, true, true, true, true, false, false] rfl rfl (one_of HT_.out (by kernel_rfl)) (by decide) (fun K hK => ?_)
                                                              refine Kd.R_append_rows_step k33 (w0 := w) w.heap.size (by rfl) (.tmp 173) (.tmp 176) 23 33 (.agg #[(.int .i64 0), (.int .i64 0), (.int .i64 0), (.string ⟨#[]⟩), (.int .i64 0)]) 48 rfl Tryd.underlying23 info33 rfl (by decide) (by omega) v350 y349 y352 _ _ _ (fun k_ => some k_ ≠ (.slice Ao25 t307.length co25 : Value).ownBlock) (fun _ => False) rfl rfl ?aO ?aR (fun _ _ h => h) (fun _ h => h.elim) ?aF ?aB ?aS ?aL ?_
                                                              (case aR => repeat (first | exact (by repeat (first | (with_reducible exact HR355.out) | (with_reducible refine Kd.C_alloc ?_ _) | (with_reducible refine Kd.C_drewN ?_ _) | (with_reducible refine Kd.C_drew ?_) | exact HR355.out)) | (with_reducible refine Kd.C_alloc ?_ _) | (with_reducible refine Kd.C_drewN ?_ _) | (with_reducible refine Kd.C_drew ?_)))
                                                              (case aB => exact (by repeat (first | (with_reducible first | exact HB.out | apply below_alloc | apply pw_below_drewN | apply below_drew1) | exact HB.out)))
                                                              (case aF => exact (fun k_ hk => Kd.fresh' (Kd.R_lt (by (with_reducible repeat (first | apply Kd.R_alloc | apply Kd.R_drewN | apply Kd.R_drew)); exact HO_5.out)) k_ hk))
                                                              (case aO => exact (by (with_reducible repeat (first | apply Kd.R_alloc | apply Kd.R_drewN | apply Kd.R_drew)); exact Kd.R_mono HO351.out (fun _ hk => hk.2)))
                                                              (case aS => exact (below_size (by repeat (first | (with_reducible first | exact HB.out | apply below_alloc | apply pw_below_drewN | apply below_drew1) | exact HB.out))))
                                                              (case aL => have := LMc75.out; omega)
                                                              intro v357 w88 ho hb hg hat
                                                              rw [← Ny356.out] at ho
                                                              have n0_ := Aside0.mk (Kd.R_after (ok := (fun _ => True)) (by (with_reducible repeat (first | apply Kd.R_alloc | apply Kd.R_drewN | apply Kd.R_drew)); exact HO_5.out) hg hat)
                                                              have n1_ := Aside0.mk (hb)
                                                              have n2_ := Aside0.mk ((show Kd.C k33 w88 Ao25 y352.length y352 from by rw [Ny352.out]; exact Kd.C_take (m := (t331 : Int).toNat) ((Kd.R_reads' (Kd.R_after (ok := (fun _ => True)) (by (with_reducible repeat (first | apply Kd.R_alloc | apply Kd.R_drewN | apply Kd.R_drew)); exact HO_5.out) hg hat)).2.2) KL84.out))
                                                              have n3_ := Aside0.mk ((show Kd.C k33 w88 A85 y359.length y359 from by rw [Ny359.out, KA85.out]; exact Kd.C_drop (m := ((ji76) : Int).toNat) (c := co25) ((Kd.R_reads' (Kd.R_after (ok := (fun _ => True)) (by (with_reducible repeat (first | apply Kd.R_alloc | apply Kd.R_drewN | apply Kd.R_drew)); exact HO_5.out) hg hat)).2.2) KL85.out ((Kd.R_reads' (Kd.R_after (ok := (fun _ => True)) (by (with_reducible repeat (first | apply Kd.R_alloc | apply Kd.R_drewN | apply Kd.R_drew)); exact HO_5.out) hg hat)).2.1)))
                                                              have n4_ := Aside0.mk (ho)
                                                              clear HO_5
                                                              clear HB
                                                              clear HR355
                                                              clear HR362
                                                              clear HO351
                                                              have HO_5 := n0_
                                                              have HB := n1_
                                                              have HR355 := n2_
                                                              have HR362 := n3_
                                                              have HO358 := n4_
                                                              clear n0_ n1_ n2_ n3_ n4_
                                                              clear ho hb hg hat
                                                              refine hK.out _ _ trivial (fun hHeld => ?_)
                                                              clear hK K
                                                              refine norm_ (a' := ?_) ?_ ?_
                                                              rotate_left
                                                              · show Act.put _ (some 177) _ = _
                                                                simp only [Act.put, List.setIfInBounds_toArray, List.set_cons_zero, List.set_cons_succ, i64_w, i32_w]
                                                                rfl
                                                              refine one_ (i := 9) (N := some 182) #[true, true, true, true, true, true, true, true, true, true, false] rfl rfl (one_of HT_.out (by kernel_rfl)) (by decide) (fun K hK => ?_)
                                                              refine Kd.R_append_rows_step k33 (w0 := w) w.heap.size (by rfl) (.tmp 177) (.tmp 181) 23 33 (.agg #[(.int .i64 0), (.int .i64 0), (.int .i64 0), (.string ⟨#[]⟩), (.int .i64 0)]) 48 rfl Tryd.underlying23 info33 rfl (by decide) (by omega) v357 y356 y359 _ _ _ (fun k_ => some k_ ≠ (.slice Ao25 t307.length co25 : Value).ownBlock) (fun _ => False) rfl rfl ?aO ?aR (fun _ _ h => h) (fun _ h => h.elim) ?aF ?aB ?aS ?aL ?_
                                                              (case aR => repeat (first | exact (by repeat (first | (with_reducible exact HR362.out) | (with_reducible refine Kd.C_alloc ?_ _) | (with_reducible refine Kd.C_drewN ?_ _) | (with_reducible refine Kd.C_drew ?_) | exact HR362.out)) | (with_reducible refine Kd.C_alloc ?_ _) | (with_reducible refine Kd.C_drewN ?_ _) | (with_reducible refine Kd.C_drew ?_)))
                                                              (case aB => exact (by repeat (first | (with_reducible first | exact HB.out | apply below_alloc | apply pw_below_drewN | apply below_drew1) | exact HB.out)))
                                                              (case aF => exact (fun k_ hk => Kd.fresh' (Kd.R_lt (by (with_reducible repeat (first | apply Kd.R_alloc | apply Kd.R_drewN | apply Kd.R_drew)); exact HO_5.out)) k_ hk))
                                                              (case aO => exact (by (with_reducible repeat (first | apply Kd.R_alloc | apply Kd.R_drewN | apply Kd.R_drew)); exact HO358.out))
                                                              (case aS => exact (below_size (by repeat (first | (with_reducible first | exact HB.out | apply below_alloc | apply pw_below_drewN | apply below_drew1) | exact HB.out))))
                                                              (case aL => have := LMc79.out; omega)
                                                              intro v364 w89 ho hb hg hat
                                                              rw [← Ny363.out] at ho
                                                              have n0_ := Aside0.mk (Kd.R_after (ok := (fun _ => True)) (by (with_reducible repeat (first | apply Kd.R_alloc | apply Kd.R_drewN | apply Kd.R_drew)); exact HO_5.out) hg hat)
                                                              have n1_ := Aside0.mk (hb)
                                                              have n2_ := Aside0.mk ((show Kd.C k33 w89 Ao25 y352.length y352 from by rw [Ny352.out]; exact Kd.C_take (m := (t331 : Int).toNat) ((Kd.R_reads' (Kd.R_after (ok := (fun _ => True)) (by (with_reducible repeat (first | apply Kd.R_alloc | apply Kd.R_drewN | apply Kd.R_drew)); exact HO_5.out) hg hat)).2.2) KL84.out))
                                                              have n3_ := Aside0.mk ((show Kd.C k33 w89 A85 y359.length y359 from by rw [Ny359.out, KA85.out]; exact Kd.C_drop (m := ((ji76) : Int).toNat) (c := co25) ((Kd.R_reads' (Kd.R_after (ok := (fun _ => True)) (by (with_reducible repeat (first | apply Kd.R_alloc | apply Kd.R_drewN | apply Kd.R_drew)); exact HO_5.out) hg hat)).2.2) KL85.out ((Kd.R_reads' (Kd.R_after (ok := (fun _ => True)) (by (with_reducible repeat (first | apply Kd.R_alloc | apply Kd.R_drewN | apply Kd.R_drew)); exact HO_5.out) hg hat)).2.1)))
                                                              have n4_ := Aside0.mk (ho)
                                                              clear HO_5
                                                              clear HB
                                                              clear HR355
                                                              clear HR362
                                                              clear HO358
                                                              have HO_5 := n0_
                                                              have HB := n1_
                                                              have HR355 := n2_
                                                              have HR362 := n3_
                                                              have HO365 := n4_
                                                              clear n0_ n1_ n2_ n3_ n4_
                                                              clear ho hb hg hat
                                                              refine hK.out _ _ trivial (fun hHeld => ?_)
                                                              clear hK K
                                                              refine norm_ (a' := ?_) ?_ ?_
                                                              rotate_left
                                                              · show Act.put _ (some 182) _ = _
                                                                simp only [Act.put, List.setIfInBounds_toArray, List.set_cons_zero, List.set_cons_succ, i64_w, i32_w]
                                                                rfl
                                                              refine pure_ (i := 10) (N := some 25) (v := ?_) (a' := ?_) #[true, true, true, true, true, true, true, true, true, true, true] rfl rfl (any_of HT_.out (by kernel_rfl)) (fun _ _ _ h => h) (Or.inl ⟨by rfl, ?_⟩) ?_ ?_
                                                              rotate_left
                                                              · intro w'
                                                                go_simp
                                                                with_reducible rfl
                                                              rotate_left
                                                              · simp only [Act.put, List.setIfInBounds_toArray, List.set_cons_zero, List.set_cons_succ, i64_w, i32_w]
                                                                rfl
                                                              refine done_ (done_of HT_.out (by kernel_rfl)) ?_
                                                              obtain ⟨Ao90, co90, eo90⟩ := Kd.R_slice HO365.out
                                                              subst eo90
                                                              try go_wp2_with (first | ((with_reducible refine gate_callee (f := 17) rfl ?_); refine goesL_ (some 185) rfl rfl Tryd.func17 (by kernel_rfl) rfl #[.slice Ao90 y363.length co90] rfl (by (try simp only [List.map_toArray, List.map_cons, List.map_nil]); first | done | rfl | (simp only [List.length_drop, List.length_take]; rfl)) ?_; (with_reducible refine (impl_CheckJournal.calls kj46 _ _ y363 t366 t367 _ ?side1 ?side2 ?side3 A80.out).mono ?_); (case side1 => repeat (first | exact (Kd.R_reads' HO365.out).2.2 | (with_reducible refine Kd.C_alloc ?_ _) | (with_reducible refine Kd.C_drewN ?_ _) | (with_reducible refine Kd.C_drew ?_))); (case side2 => exact (Kd.R_reads' HO365.out).2.1); (case side3 => exact TabT.below HTAB.out (by repeat (first | (with_reducible first | exact HB.out | apply below_alloc | apply pw_below_drewN | apply below_drew1) | exact HB.out))); rintro e w91 ⟨rfl, hb⟩; refine ⟨_, rfl, ?_⟩; have n0_ := Aside0.mk (Kd.R_below (by (with_reducible repeat (first | apply Kd.R_alloc | apply Kd.R_drewN | apply Kd.R_drew)); exact HO_5.out) hb); have n1_ := Aside0.mk (Kd.R_below (by (with_reducible repeat (first | apply Kd.R_alloc | apply Kd.R_drewN | apply Kd.R_drew)); exact HO365.out) hb); have n2_ := Aside0.mk (Kd.C_below (by repeat (first | (with_reducible exact HR355.out) | (with_reducible refine Kd.C_alloc ?_ _) | (with_reducible refine Kd.C_drewN ?_ _) | (with_reducible refine Kd.C_drew ?_) | exact HR355.out)) hb); have n3_ := Aside0.mk (Kd.C_below (by repeat (first | (with_reducible exact HR362.out) | (with_reducible refine Kd.C_alloc ?_ _) | (with_reducible refine Kd.C_drewN ?_ _) | (with_reducible refine Kd.C_drew ?_) | exact HR362.out)) hb); have n4_ := Aside0.mk (below_step (by repeat (first | (with_reducible first | exact HB.out | apply below_alloc | apply pw_below_drewN | apply below_drew1) | exact HB.out)) hb); clear HO_5; clear HO365; clear HR355; clear HR362; clear HB; have HO_5 := n0_; have HO365 := n1_; have HR355 := n2_; have HR362 := n3_; have HB := n4_; clear n0_ n1_ n2_ n3_ n4_; (try clear hb); (try clear hb2); (try clear hk); (try clear hi)))
                                                              go_ret
                                                              exact ⟨by first | rfl | (simp [errW_none, errW_some] <;> rfl) | (simp only [← hji76]; first | rfl | (simp [errW_none, errW_some] <;> rfl)) | (simp [*, errW_none, errW_some] <;> rfl), by repeat (first | (with_reducible first | exact HB.out | apply below_alloc | apply pw_below_drewN | apply below_drew1) | exact HB.out)⟩
                                                            · rw [if_neg c82] at H
                                                              have c82b0 : (t367 == t331) = false := beq_eq_false_iff_ne.mpr c82
                                                              have c82b1 : (t367 != t331) = true := bne_iff_ne.mpr c82
                                                              obtain rfl := Option.some.inj H
                                                              exact absurd hT_.out (by decide)
                                                          · rw [if_neg c81] at H
                                                            have c81b0 : (t366 == 3) = false := beq_eq_false_iff_ne.mpr c81
                                                            have c81b1 : (t366 != 3) = true := bne_iff_ne.mpr c81
                                                            obtain rfl := Option.some.inj H
                                                            exact absurd hT_.out (by decide)
                                                        · rw [if_neg c79] at H
                                                          exact absurd H (by simp)
                                                      · rw [if_neg c78] at H
                                                        exact absurd H (by simp)
                                                    · rw [if_neg c77] at H
                                                      exact absurd H (by simp)
                                                  · rw [if_neg c75] at H
                                                    exact absurd H (by simp)
                                                · rw [if_neg c74] at H
                                                  exact absurd H (by simp)
                                              · rw [if_neg c73] at H
                                                exact absurd H (by simp)
                                            · rw [if_neg c72] at H
                                              have c72b0 : decide ((wrap64 (t331 + 1)) < (t307.length : Int)) = false := decide_eq_false c72
                                              clear c72
                                              obtain rfl := Option.some.inj H
                                              go_wp2
                                              go_ret
                                              exact ⟨by first | rfl | (simp [errW_none, errW_some] <;> rfl) | (simp [*, errW_none, errW_some] <;> rfl), by repeat (first | (with_reducible first | exact HB.out | apply below_alloc | apply pw_below_drewN | apply below_drew1) | exact HB.out)⟩
                                      · rw [if_neg c46] at H
                                        exact absurd H (by simp)
                                    · rw [if_neg c45] at H
                                      exact absurd H (by simp)
                                  · rw [if_neg c44] at H
                                    exact absurd H (by simp)
                                · rw [if_neg c43] at H
                                  exact absurd H (by simp)


/-- THE ONE PURE STATEMENT of laws_FnJournal. -/
def laws_FnJournal.Pure : Prop := ∀ (l0 : List Int) (l1 : List Int), (l0.length ≤ 9223372036854775807 ∧ ∀ x ∈ l0, (Lit.int .u8 x).wf = true) → (l1.length ≤ 9223372036854775807 ∧ ∀ x ∈ l1, (Lit.int .u8 x).wf = true) → ∃ k, laws_FnJournal.f k l0 l1 = some true
theorem laws_FnJournal.walk (P : laws_FnJournal.Pure) (A0 : Option Addr) (c0 : Nat) (l0 : List Int) (A1 : Option Addr) (c1 : Nat) (l1 : List Int) (w : World) (hr0 : Kd.C (Kd.int .u8) w A0 l0.length l0) (hc0 : l0.length ≤ c0) (hr1 : Kd.C (Kd.int .u8) w A1 l1.length l1) (hc1 : l1.length ≤ c1) (hTab : TabT w) (hw0 : (l0.length ≤ 9223372036854775807 ∧ ∀ x ∈ l0, (Lit.int .u8 x).wf = true)) (hw1 : (l1.length ≤ 9223372036854775807 ∧ ∀ x ∈ l1, (Lit.int .u8 x).wf = true)) :
    Calls Tryd.prog 3 #[.slice A0 l0.length c0, .slice A1 l1.length c1] w fun e w' => e = .returned (.bool true) ∧ Below w.heap.size w w' := by
  obtain ⟨k, h⟩ := P l0 l1 hw0 hw1
  refine (laws_FnJournal.calls k A0 c0 l0 A1 c1 l1 true w hr0 hc0 hr1 hc1 hTab h rfl).mono ?_
  rintro e w' ⟨rfl, hd⟩
  exact ⟨rfl, hd⟩

end Go.Proofs.YtjggnfkhdkgeaaaDoor.XFnJournal
