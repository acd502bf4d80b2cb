/- The program's NextDay and the reference's answer alike for all arguments and change none: the law's plain statement, with no condition. -/
import Derived.Test.YthhdcjdlcfbkdaaXFnExactNextDayx3
import Derived.Test.YthhdcjdlcfbkdaaAx
import Derived.Test.YthhdcjdlcfbkdaaIdx
namespace Go.Proofs.Ythhdcjdlcfbkdaa.Pure
open Go.RowKit Go.Proofs.Ythhdcjdlcfbkdaa.XFnExactNextDay Go.Proofs.YthhdcjdlcfbkdaaW.PrintWords Go.Proofs.YthhdcjdlcfbkdaaW.PrintLast
open Go.Proofs.YthhdcjdlcfbkdaaW.Ax Go.Proofs.YthhdcjdlcfbkdaaW.Idx
set_option linter.unusedVariables false
set_option linter.unusedSimpArgs false
theorem toIntS_l0 : ∀ (a p t : List Int), t.length = a.length → (p ++ a).length < 4611686018427387904 →
    Ev (fun k => laws_toIntS.l0 k (p ++ a) (p ++ t) (p.length : Int)) (p ++ a) := by
  intro a
  induction a with
  | nil =>
    intro p t ht hl
    obtain rfl : t = [] := List.eq_nil_of_length_eq_zero ht
    exact Ev.step (fun k => rfl) (Ev.neg (len_end p) (Ev.some' rfl))
  | cons x a ih =>
    intro p t ht hl
    match t, ht with
    | y :: t, ht =>
      have hl' : (p ++ x :: a).length < 4611686018427387904 := hl
      rw [List.length_append, List.length_cons] at hl'
      refine Ev.step (fun k => rfl) (Ev.pos (len_lt p x a) (Ev.pos (by omega) (Ev.pos (len_lt p y t) ?_)))
      rw [rd_mid p x a, set_mid, w64 (by omega) (by omega), ← len_snoc p x, snoc p x a, snoc p x t]
      exact ih (p ++ [x]) t (by simpa using ht) (by rw [← snoc]; exact hl)
theorem toIntS_ev (a : List Int) (hl : a.length ≤ 1048576) : Ev (fun k => laws_toIntS.f k a) a := by
  unfold laws_toIntS.f
  refine Ev.pos (by omega) (Ev.pos (by omega) ?_)
  rw [Int.toNat_natCast]
  exact toIntS_l0 a [] (List.replicate a.length 0) (by simp) (by simp; omega)
theorem toBoolS_l0 : ∀ (a p t : List Bool), t.length = a.length → (p ++ a).length < 4611686018427387904 →
    Ev (fun k => laws_toBoolS.l0 k (p ++ a) (p ++ t) (p.length : Int)) (p ++ a) := by
  intro a
  induction a with
  | nil =>
    intro p t ht hl
    obtain rfl : t = [] := List.eq_nil_of_length_eq_zero ht
    exact Ev.step (fun k => rfl) (Ev.neg (len_end p) (Ev.some' rfl))
  | cons x a ih =>
    intro p t ht hl
    match t, ht with
    | y :: t, ht =>
      have hl' : (p ++ x :: a).length < 4611686018427387904 := hl
      rw [List.length_append, List.length_cons] at hl'
      refine Ev.step (fun k => rfl) (Ev.pos (len_lt p x a) (Ev.pos (by omega) (Ev.pos (len_lt p y t) ?_)))
      rw [rdOf_mid false p x a, set_mid, w64 (by omega) (by omega), ← len_snoc p x, snoc p x a, snoc p x t]
      exact ih (p ++ [x]) t (by simpa using ht) (by rw [← snoc]; exact hl)
theorem toBoolS_ev (a : List Bool) (hl : a.length ≤ 1048576) : Ev (fun k => laws_toBoolS.f k a) a := by
  unfold laws_toBoolS.f
  refine Ev.pos (by omega) (Ev.pos (by omega) ?_)
  rw [Int.toNat_natCast]
  exact toBoolS_l0 a [] (List.replicate a.length false) (by simp) (by simp; omega)
theorem eqIntS_l0 : ∀ (a b p q : List Int), p.length = q.length → a.length = b.length → (p ++ a).length < 4611686018427387904 →
    Ev (fun k => laws_eqIntS.l0 k (p ++ a) (q ++ b) (p.length : Int)) (decide (a = b)) := by
  intro a
  induction a with
  | nil =>
    intro b p q hpq hab hl
    obtain rfl : b = [] := List.eq_nil_of_length_eq_zero hab.symm
    refine Ev.step (fun k => rfl) (Ev.neg (len_end p) (Ev.some' rfl))
  | cons x a ih =>
    intro b p q hpq hab hl
    match b, hab with
    | y :: b, hab =>
      have hq : ((p.length : Int)) < ((q ++ y :: b).length : Int) := by rw [hpq]; exact len_lt q y b
      have hl' : (p ++ x :: a).length < 4611686018427387904 := hl
      rw [List.length_append, List.length_cons] at hl'
      refine Ev.step (fun k => rfl) (Ev.pos (len_lt p x a) (Ev.pos (by omega) (Ev.pos hq ?_)))
      rw [rd_mid p x a, hpq, rd_mid q y b, ← hpq]
      by_cases e : x = y
      · subst e
        refine Ev.pos (by rfl) ?_
        rw [w64 (by omega) (by omega), ← len_snoc p x, snoc p, snoc q]
        exact Ev.eq (ih b (p ++ [x]) (q ++ [x]) (by simp [hpq]) (by simpa using hab) (by rw [← snoc]; exact hl)) (by simp)
      · exact Ev.neg e (Ev.some' (by simp [e]))
theorem eqIntS_ev (a b : List Int) (hl : a.length < 4611686018427387904) : Ev (fun k => laws_eqIntS.f k a b) (decide (a = b)) := by
  unfold laws_eqIntS.f
  by_cases h : (a.length : Int) = (b.length : Int)
  · exact Ev.pos h (eqIntS_l0 a b [] [] rfl (by omega) hl)
  · refine Ev.neg h (Ev.some' ?_)
    symm
    rw [decide_eq_false_iff_not]
    rintro rfl
    exact h rfl
theorem eqBoolS_l0 : ∀ (a b p q : List Bool), p.length = q.length → a.length = b.length → (p ++ a).length < 4611686018427387904 →
    Ev (fun k => laws_eqBoolS.l0 k (p ++ a) (q ++ b) (p.length : Int)) (decide (a = b)) := by
  intro a
  induction a with
  | nil =>
    intro b p q hpq hab hl
    obtain rfl : b = [] := List.eq_nil_of_length_eq_zero hab.symm
    refine Ev.step (fun k => rfl) (Ev.neg (len_end p) (Ev.some' rfl))
  | cons x a ih =>
    intro b p q hpq hab hl
    match b, hab with
    | y :: b, hab =>
      have hq : ((p.length : Int)) < ((q ++ y :: b).length : Int) := by rw [hpq]; exact len_lt q y b
      have hl' : (p ++ x :: a).length < 4611686018427387904 := hl
      rw [List.length_append, List.length_cons] at hl'
      refine Ev.step (fun k => rfl) (Ev.pos (len_lt p x a) (Ev.pos (by omega) (Ev.pos hq ?_)))
      rw [rdOf_mid false p x a, hpq, rdOf_mid false q y b, ← hpq]
      by_cases e : x = y
      · subst e
        refine Ev.neg (by simp) ?_
        rw [w64 (by omega) (by omega), ← len_snoc p x, snoc p, snoc q]
        exact Ev.eq (ih b (p ++ [x]) (q ++ [x]) (by simp [hpq]) (by simpa using hab) (by rw [← snoc]; exact hl)) (by simp)
      · exact Ev.pos (by simpa using e) (Ev.some' (by simp [e]))
theorem eqBoolS_ev (a b : List Bool) (hl : a.length < 4611686018427387904) : Ev (fun k => laws_eqBoolS.f k a b) (decide (a = b)) := by
  unfold laws_eqBoolS.f
  by_cases h : (a.length : Int) = (b.length : Int)
  · exact Ev.pos h (eqBoolS_l0 a b [] [] rfl (by omega) hl)
  · refine Ev.neg h (Ev.some' ?_)
    symm
    rw [decide_eq_false_iff_not]
    rintro rfl
    exact h rfl
/-- In bounds, and each above the one ahead. -/
def risP (lo hi : Int) : Option Int → List Int → Bool
  | _, [] => true
  | o, x :: a => decide (lo ≤ x ∧ x ≤ hi) && ((match o with | none => true | some y => decide (y < x)) && risP lo hi (some x) a)
theorem rd_prev (q : List Int) (y : Int) (r : List Int) : rd ((q ++ [y]) ++ r) (((q ++ [y]).length : Int) - 1) = y := by
  rw [len_snoc, show (q.length : Int) + 1 - 1 = (q.length : Int) by omega, ← snoc]
  exact rd_mid q y r
theorem within_ev (a b c : Int) : impl_within.f a b c = some (decide (b ≤ a ∧ a ≤ c)) := by
  unfold impl_within.f
  by_cases h : a ≥ b
  · rw [if_pos h]; congr 1; rw [decide_eq_decide]; omega
  · rw [if_neg h]; congr 1; symm; rw [decide_eq_false_iff_not]; omega
theorem isRising_l0 (lo hi : Int) : ∀ (a p : List Int), (p ++ a).length < 4611686018427387904 →
    Ev (fun k => impl_isRising.l0 k (p ++ a) lo hi (p ++ a) ((p ++ a).length : Int) (p.length : Int)) (risP lo hi p.getLast? a) := by
  intro a
  induction a with
  | nil => intro p hl; exact Ev.step (fun k => rfl) (Ev.neg (len_end p) (Ev.some' rfl))
  | cons x a ih =>
    intro p hl
    have hl' := hl
    rw [List.length_append, List.length_cons] at hl'
    have hnext := ih (p ++ [x]) (by rw [← snoc]; exact hl)
    rw [← snoc, len_snoc, List.getLast?_concat] at hnext
    refine Ev.step (fun k => rfl) (Ev.pos (len_lt p x a) (Ev.pos (by omega) (Ev.pos (len_lt p x a) (Ev.ret (within_ev _ _ _) ?_))))
    rw [rd_mid p x a]
    by_cases hin : lo ≤ x ∧ x ≤ hi
    · refine Ev.pos (by simpa using hin) ?_
      rcases List.eq_nil_or_concat p with rfl | ⟨q, y, rfl⟩
      · refine Ev.neg (by simp) ?_
        rw [w64 (by simp) (by simp)]
        refine Ev.eq hnext ?_
        simp [risP, hin]
      · rw [List.concat_eq_append] at *
        have hlen : ((q ++ [y]).length : Int) = (q.length : Int) + 1 := len_snoc q y
        refine Ev.pos (by omega) ?_
        rw [w64 (x := ((q ++ [y]).length : Int) - 1) (by omega) (by omega), rd_prev]
        refine Ev.pos (by omega) (Ev.pos (by simp only [List.length_append, List.length_cons, List.length_nil]; omega) ?_)
        by_cases hyx : y ≥ x
        · refine Ev.pos hyx (Ev.some' ?_)
          simp [risP, show ¬ y < x by omega]
        · refine Ev.neg hyx ?_
          rw [w64 (by omega) (by omega)]
          refine Ev.eq hnext ?_
          simp [risP, hin, show y < x by omega]
    · refine Ev.neg (by simpa using hin) (Ev.some' ?_)
      simp [risP, hin]
theorem isRising_ev (lo hi : Int) (l : List Int) (hl : l.length < 4611686018427387904) : Ev (fun k => impl_isRising.f k l lo hi) (risP lo hi none l) := by
  unfold impl_isRising.f
  exact isRising_l0 lo hi l [] hl
theorem l01In_ev (a b c : Int) : spec_l01In.f a b c = some (decide (b ≤ a ∧ a ≤ c)) := by
  unfold spec_l01In.f
  by_cases h : a ≥ b
  · rw [if_pos h]; congr 1; rw [decide_eq_decide]; omega
  · rw [if_neg h]; congr 1; symm; rw [decide_eq_false_iff_not]; omega
theorem l17Week_l0 : ∀ (a p : List Int), (p ++ a).length < 4611686018427387904 →
    Ev (fun k => spec_l17Week.l0 k (p ++ a) (p.length : Int)) (risP 0 100000 p.getLast? a) := by
  intro a
  induction a with
  | nil => intro p hl; exact Ev.step (fun k => rfl) (Ev.neg (len_end p) (Ev.some' rfl))
  | cons x a ih =>
    intro p hl
    have hl' := hl
    rw [List.length_append, List.length_cons] at hl'
    have hnext := ih (p ++ [x]) (by rw [← snoc]; exact hl)
    rw [← snoc, len_snoc, List.getLast?_concat] at hnext
    refine Ev.step (fun k => rfl) (Ev.pos (len_lt p x a) (Ev.pos (by omega) (Ev.ret (l01In_ev _ _ _) ?_)))
    rw [rd_mid p x a]
    by_cases hin : 0 ≤ x ∧ x ≤ 100000
    · refine Ev.pos (by simpa using hin) ?_
      rcases List.eq_nil_or_concat p with rfl | ⟨q, y, rfl⟩
      · refine Ev.neg (by simp) ?_
        rw [w64 (by simp) (by simp)]
        refine Ev.eq hnext ?_
        simp [risP, hin]
      · rw [List.concat_eq_append] at *
        have hlen : ((q ++ [y]).length : Int) = (q.length : Int) + 1 := len_snoc q y
        refine Ev.pos (by omega) ?_
        rw [w64 (x := ((q ++ [y]).length : Int) - 1) (by omega) (by omega), rd_prev]
        refine Ev.pos (by omega) (Ev.pos (by simp only [List.length_append, List.length_cons, List.length_nil]; omega) ?_)
        by_cases hyx : x ≤ y
        · refine Ev.pos hyx (Ev.some' ?_)
          simp [risP, show ¬ y < x by omega]
        · refine Ev.neg hyx ?_
          rw [w64 (by omega) (by omega)]
          refine Ev.eq hnext ?_
          simp [risP, hin, show y < x by omega]
    · refine Ev.neg (by simpa using hin) (Ev.some' ?_)
      simp [risP, hin]
/-- A week and holidays are right. -/
def daysB (w : List Bool) (h : List Int) : Bool := decide (w.length = 7) && (decide (h.length ≤ 60) && risP 0 100000 none h)
theorem l17Week_ev (w : List Bool) (h : List Int) (hl : h.length < 4611686018427387904) : Ev (fun k => spec_l17Week.f k w h) (daysB w h) := by
  unfold spec_l17Week.f daysB
  by_cases c : (w.length : Int) = 7
  · refine Ev.pos c (Ev.step (fun k => rfl) ?_)
    by_cases d : h.length ≤ 60
    · refine Ev.neg (by simp; omega) (Ev.eq (l17Week_l0 h [] hl) ?_)
      simp [show w.length = 7 by omega, d]
    · refine Ev.pos (by simp; omega) (Ev.some' ?_)
      simp [d]
  · refine Ev.neg c (Ev.via (Ev.some' ?_) (fun k => rfl))
    simp [show ¬ w.length = 7 by omega]
theorem areDays_ev (w : List Bool) (h : List Int) (hl : h.length < 4611686018427387904) : Ev (fun k => impl_areDays.f k w h) (daysB w h) := by
  unfold impl_areDays.f daysB
  by_cases c : (w.length : Int) = 7
  · refine Ev.pos c ?_
    by_cases d : h.length ≤ 60
    · refine Ev.pos (by omega) (Ev.bind (isRising_ev 0 100000 h hl) (Ev.some' ?_))
      simp [show w.length = 7 by omega, d]
    · refine Ev.neg (by omega) (Ev.some' ?_)
      simp [d]
  · refine Ev.neg c (Ev.some' ?_)
    simp [show ¬ w.length = 7 by omega]
/-- A day is open. -/
def openB (w : List Bool) (h : List Int) (d : Int) : Bool := rdOf false w (d % 7) && !(h.contains d)
theorem Index_l0 (x : Int) : ∀ (a p : List Int), (p ++ a).length < 4611686018427387904 →
    ∃ r, Ev (fun k => slices_Index_int_int.l0 k (p ++ a) x ((p ++ a).length : Int) (p.length : Int)) r ∧ (decide (r ≥ 0) = a.contains x) := by
  intro a
  induction a with
  | nil => intro p hl; exact ⟨-1, Ev.step (fun k => rfl) (Ev.neg (len_end p) (Ev.some' rfl)), by simp⟩
  | cons y a ih =>
    intro p hl
    have hl' := hl
    rw [List.length_append, List.length_cons] at hl'
    by_cases e : x = y
    · refine ⟨p.length, Ev.step (fun k => rfl) (Ev.pos (len_lt p y a) (Ev.pos (by omega) (Ev.pos (len_lt p y a) (Ev.pos (by rw [rd_mid]; exact e) (Ev.some' rfl))))), ?_⟩
      simp [e]
    · obtain ⟨r, hr, hd⟩ := ih (p ++ [y]) (by rw [← snoc]; exact hl)
      refine ⟨r, Ev.step (fun k => rfl) (Ev.pos (len_lt p y a) (Ev.pos (by omega) (Ev.pos (len_lt p y a) (Ev.neg (by rw [rd_mid]; exact e) ?_)))), ?_⟩
      · rw [w64 (by omega) (by omega), ← len_snoc p y, snoc p y a]
        exact hr
      · rw [hd]
        simp [e]
theorem Contains_ev (x : Int) (h : List Int) (hl : h.length < 4611686018427387904) : Ev (fun k => slices_Contains_int_int.f k h x) (h.contains x) := by
  obtain ⟨r, hr, hd⟩ := Index_l0 x h [] hl
  unfold slices_Contains_int_int.f slices_Index_int_int.f
  exact Ev.bind hr (Ev.some' hd)
theorem isOpen_ev (w : List Bool) (h : List Int) (d : Int) (hw : w.length = 7) (hl : h.length < 4611686018427387904) (h0 : 0 ≤ d) : Ev (fun k => impl_isOpen.f k w h d) (openB w h d) := by
  unfold impl_isOpen.f openB
  rw [Int.tmod_eq_emod_of_nonneg h0]
  refine Ev.pos (by omega) (Ev.pos (by omega) ?_)
  cases hc : rdOf false w (d % 7) with
  | true => exact Ev.pos (by rfl) (Ev.bind (Contains_ev d h hl) (Ev.some' (by simp)))
  | false => exact Ev.neg (by simp) (Ev.some' (by simp))
theorem l17Open_l0 (w : List Bool) (d : Int) (hw : w.length = 7) (h0 : 0 ≤ d) : ∀ (a p : List Int), (p ++ a).length < 4611686018427387904 →
    Ev (fun k => spec_l17Open.l0 k w (p ++ a) d (p.length : Int)) (rdOf false w (d % 7) && !(a.contains d)) := by
  intro a
  induction a with
  | nil =>
    intro p hl
    refine Ev.step (fun k => rfl) (Ev.neg (len_end p) ?_)
    rw [Int.tmod_eq_emod_of_nonneg h0]
    exact Ev.pos (by omega) (Ev.pos (by omega) (Ev.some' (by simp)))
  | cons y a ih =>
    intro p hl
    have hl' := hl
    rw [List.length_append, List.length_cons] at hl'
    refine Ev.step (fun k => rfl) (Ev.pos (len_lt p y a) (Ev.pos (by omega) ?_))
    rw [rd_mid]
    by_cases e : y = d
    · exact Ev.pos e (Ev.some' (by simp [e]))
    · refine Ev.neg e ?_
      rw [w64 (by omega) (by omega), ← len_snoc p y, snoc p y a]
      refine Ev.eq (ih (p ++ [y]) (by rw [← snoc]; exact hl)) ?_
      simp [show ¬ d = y from fun h => e h.symm]
theorem l17Open_ev (w : List Bool) (h : List Int) (d : Int) (hw : w.length = 7) (hl : h.length < 4611686018427387904) (h0 : 0 ≤ d) : Ev (fun k => spec_l17Open.f k w h d) (openB w h d) := by
  unfold spec_l17Open.f openB
  exact l17Open_l0 w d hw h0 h [] hl
/-- The first open day of n days from d on. -/
def nxtV (w : List Bool) (h : List Int) : Nat → Int → Int × Int
  | 0, _ => (0, 8)
  | n + 1, d => if openB w h d = true then (d, 0) else nxtV w h n (d + 1)
theorem specNext_l0 (w : List Bool) (h : List Int) (a : Int) (hw : w.length = 7) (hl : h.length < 4611686018427387904) (h0 : 0 ≤ a) (h1 : a ≤ 100000) : ∀ (n : Nat) (d : Int), a ≤ d → d + n = a + 400 →
    Ev (fun k => spec_NextDay.l0 k w h a d) (nxtV w h n d) := by
  intro n
  induction n with
  | zero =>
    intro d hd hn
    refine Ev.step (fun k => rfl) (Ev.neg ?_ (Ev.some' rfl))
    rw [w64 (by omega) (by omega)]
    omega
  | succ n ih =>
    intro d hd hn
    refine Ev.step (fun k => rfl) (Ev.pos ?_ (Ev.bind (l17Open_ev w h d hw hl (by omega)) ?_))
    · rw [w64 (by omega) (by omega)]
      omega
    · rw [nxtV]
      by_cases c : openB w h d = true
      · rw [if_pos c]; exact Ev.pos c (Ev.some' rfl)
      · rw [if_neg c]
        refine Ev.neg c ?_
        rw [w64 (by omega) (by omega)]
        exact ih (d + 1) (by omega) (by omega)
theorem implNext_l0 (w : List Bool) (h : List Int) (a : Int) (hw : w.length = 7) (hl : h.length < 4611686018427387904) (h0 : 0 ≤ a) (h1 : a ≤ 100000) : ∀ (n : Nat) (i : Int), 0 ≤ i → i + n = 400 →
    Ev (fun k => impl_NextDay.l0 k w h a i) (nxtV w h n (a + i)) := by
  intro n
  induction n with
  | zero =>
    intro i hd hn
    exact Ev.step (fun k => rfl) (Ev.neg (by omega) (Ev.some' rfl))
  | succ n ih =>
    intro i hd hn
    refine Ev.step (fun k => rfl) (Ev.pos (by omega) ?_)
    rw [w64 (x := a + i) (by omega) (by omega)]
    refine Ev.bind (isOpen_ev w h (a + i) hw hl (by omega)) ?_
    rw [nxtV]
    by_cases c : openB w h (a + i) = true
    · rw [if_pos c]; exact Ev.pos c (Ev.some' rfl)
    · rw [if_neg c]
      refine Ev.neg c ?_
      rw [w64 (by omega) (by omega), show a + i + 1 = a + (i + 1) by omega]
      exact ih (i + 1) (by omega) (by omega)
/-- What both answer. -/
def nextV (w : List Bool) (h : List Int) (a : Int) : Int × Int :=
  if 4096 < w.length ∨ 4096 < h.length then (0, 2) else if daysB w h = true then (if 0 ≤ a ∧ a ≤ 100000 then nxtV w h 400 a else (0, 5)) else (0, 1)
theorem specNext_ev (w : List Bool) (h : List Int) (a : Int) (hl : h.length < 4611686018427387904) : Ev (fun k => spec_NextDay.f k w h a) (nextV w h a) := by
  have main : w.length ≤ 4096 → h.length ≤ 4096 → Ev (fun k => spec_NextDay.j0 k w h a false) (nextV w h a) := by
    intro c1 c2
    unfold nextV
    rw [if_neg (by omega)]
    refine Ev.via (Ev.bind (l17Week_ev w h hl) ?_) (fun k => rfl)
    by_cases d : daysB w h = true
    · rw [if_pos d]
      refine Ev.pos d (Ev.ret (l01In_ev _ _ _) ?_)
      have hw : w.length = 7 := by
        unfold daysB at d
        simp only [Bool.and_eq_true, decide_eq_true_eq] at d
        exact d.1
      by_cases e : 0 ≤ a ∧ a ≤ 100000
      · rw [if_pos e]
        exact Ev.pos (by simpa using e) (specNext_l0 w h a hw hl e.1 e.2 400 a (by omega) (by omega))
      · rw [if_neg e]
        exact Ev.neg (by simpa using e) (Ev.some' rfl)
    · rw [if_neg d]
      exact Ev.neg d (Ev.some' rfl)
  unfold spec_NextDay.f
  by_cases c1 : w.length ≤ 4096
  · refine Ev.neg (by omega) ?_
    by_cases c2 : h.length ≤ 4096
    · rw [show decide ((h.length : Int) > 4096) = false by simp; omega]
      exact main c1 c2
    · rw [show decide ((h.length : Int) > 4096) = true by simp; omega]
      refine Ev.via (Ev.some' ?_) (fun k => rfl)
      unfold nextV; rw [if_pos (by omega)]
  · refine Ev.pos (by omega) (Ev.via (Ev.some' ?_) (fun k => rfl))
    unfold nextV; rw [if_pos (by omega)]
theorem implNext_ev (w : List Bool) (h : List Int) (a : Int) (hl : h.length < 4611686018427387904) : Ev (fun k => impl_NextDay.f k w h a) (nextV w h a) := by
  have main : w.length ≤ 4096 → h.length ≤ 4096 → Ev (fun k => impl_NextDay.j0 k w h a false) (nextV w h a) := by
    intro c1 c2
    unfold nextV
    rw [if_neg (by omega)]
    refine Ev.via (Ev.bind (areDays_ev w h hl) ?_) (fun k => rfl)
    by_cases d : daysB w h = true
    · rw [if_pos d]
      refine Ev.pos d (Ev.ret (within_ev _ _ _) ?_)
      have hw : w.length = 7 := by
        unfold daysB at d
        simp only [Bool.and_eq_true, decide_eq_true_eq] at d
        exact d.1
      by_cases e : 0 ≤ a ∧ a ≤ 100000
      · rw [if_pos e]
        refine Ev.pos (by simpa using e) (Ev.eq (implNext_l0 w h a hw hl e.1 e.2 400 0 (by omega) (by omega)) (by rw [Int.add_zero]))
      · rw [if_neg e]
        exact Ev.neg (by simpa using e) (Ev.some' rfl)
    · rw [if_neg d]
      exact Ev.neg d (Ev.some' rfl)
  unfold impl_NextDay.f impl_isList_bool.f impl_isList_int.f
  refine Ev.ret rfl ?_
  by_cases c1 : w.length ≤ 4096
  · refine Ev.pos (by simp; omega) (Ev.ret rfl ?_)
    by_cases c2 : h.length ≤ 4096
    · rw [show (!decide ((h.length : Int) ≤ 4096)) = false by simp; omega]
      exact main c1 c2
    · rw [show (!decide ((h.length : Int) ≤ 4096)) = true by simp; omega]
      refine Ev.via (Ev.some' ?_) (fun k => rfl)
      unfold nextV; rw [if_pos (by omega)]
  · refine Ev.neg (by simp; omega) (Ev.via (Ev.some' ?_) (fun k => rfl))
    unfold nextV; rw [if_pos (by omega)]
theorem FnExactNextDay : laws_FnExactNextDay.Pure := by
  intro w h a _ _ _
  refine Ev.rounds (?_ : Ev (fun k => laws_FnExactNextDay.f k w h a) true)
  unfold laws_FnExactNextDay.f
  by_cases c1 : (w.length : Int) > 1048576
  · exact Ev.pos c1 (Ev.some' rfl)
  refine Ev.neg c1 ?_
  by_cases c2 : (h.length : Int) > 1048576
  · exact Ev.pos c2 (Ev.some' rfl)
  refine Ev.neg c2 ?_
  have tb := toBoolS_ev w (by omega)
  have ti := toIntS_ev h (by omega)
  refine Ev.bind tb (Ev.bind ti (Ev.bind (specNext_ev w h a (by omega)) (Ev.bind tb (Ev.bind ti (Ev.bind (implNext_ev w h a (by omega)) ?_)))))
  refine Ev.pos (by rfl) ?_
  rw [show ((nextV w h a).2 != (nextV w h a).2) = false by simp]
  refine Ev.via (Ev.bind tb (Ev.bind (eqBoolS_ev w w (by omega)) (Ev.pos (by simp) (Ev.bind ti (Ev.bind (eqIntS_ev h h (by omega)) (Ev.pos (by simp) (Ev.some' rfl))))))) (fun k => rfl)

end Go.Proofs.Ythhdcjdlcfbkdaa.Pure
