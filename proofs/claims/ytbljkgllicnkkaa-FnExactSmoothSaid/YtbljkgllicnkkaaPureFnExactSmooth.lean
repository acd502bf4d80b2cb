/- The program's Smooth and the reference's answer alike for all arguments, change none and share nothing: the law's plain statement, with no condition. -/
import Derived.Test.YtbljkgllicnkkaaXFnExactSmoothx3
import Derived.Test.YtbljkgllicnkkaaAx
import Derived.Test.YtbljkgllicnkkaaIdx
namespace Go.Proofs.Ytbljkgllicnkkaa.Pure
open Go.RowKit Go.Proofs.Ytbljkgllicnkkaa.XFnExactSmooth Go.Proofs.YtbljkgllicnkkaaW.PrintWords Go.Proofs.YtbljkgllicnkkaaW.PrintLast
open Go.Proofs.YtbljkgllicnkkaaW.Ax Go.Proofs.YtbljkgllicnkkaaW.Idx
set_option linter.unusedVariables false
set_option linter.unusedSimpArgs false
theorem toIntS_l0 : ∀ (a p t : List Int), t.length = a.length → (p ++ a).length < 4611686018427387904 →
    Ev (fun k => laws_toIntS.l0 k (p ++ a) (p ++ t) (p.length : Int)) (p ++ a) := by
  intro a
  induction a with
  | nil =>
    intro p t ht hl
    obtain rfl : t = [] := List.eq_nil_of_length_eq_zero ht
    exact Ev.step (fun k => rfl) (Ev.neg (len_end p) (Ev.some' rfl))
  | cons x a ih =>
    intro p t ht hl
    match t, ht with
    | y :: t, ht =>
      have hl' : (p ++ x :: a).length < 4611686018427387904 := hl
      rw [List.length_append, List.length_cons] at hl'
      refine Ev.step (fun k => rfl) (Ev.pos (len_lt p x a) (Ev.pos (by omega) (Ev.pos (len_lt p y t) ?_)))
      rw [rd_mid p x a, set_mid, w64 (by omega) (by omega), ← len_snoc p x, snoc p x a, snoc p x t]
      exact ih (p ++ [x]) t (by simpa using ht) (by rw [← snoc]; exact hl)
theorem toIntS_ev (a : List Int) (hl : a.length ≤ 1048576) : Ev (fun k => laws_toIntS.f k a) a := by
  unfold laws_toIntS.f
  refine Ev.pos (by omega) (Ev.pos (by omega) ?_)
  rw [Int.toNat_natCast]
  exact toIntS_l0 a [] (List.replicate a.length 0) (by simp) (by simp; omega)
theorem eqIntS_l0 : ∀ (a b p q : List Int), p.length = q.length → a.length = b.length → (p ++ a).length < 4611686018427387904 →
    Ev (fun k => laws_eqIntS.l0 k (p ++ a) (q ++ b) (p.length : Int)) (decide (a = b)) := by
  intro a
  induction a with
  | nil =>
    intro b p q hpq hab hl
    obtain rfl : b = [] := List.eq_nil_of_length_eq_zero hab.symm
    refine Ev.step (fun k => rfl) (Ev.neg (len_end p) (Ev.some' rfl))
  | cons x a ih =>
    intro b p q hpq hab hl
    match b, hab with
    | y :: b, hab =>
      have hq : ((p.length : Int)) < ((q ++ y :: b).length : Int) := by rw [hpq]; exact len_lt q y b
      have hl' : (p ++ x :: a).length < 4611686018427387904 := hl
      rw [List.length_append, List.length_cons] at hl'
      refine Ev.step (fun k => rfl) (Ev.pos (len_lt p x a) (Ev.pos (by omega) (Ev.pos hq ?_)))
      rw [rd_mid p x a, hpq, rd_mid q y b, ← hpq]
      by_cases e : x = y
      · subst e
        refine Ev.pos (by rfl) ?_
        rw [w64 (by omega) (by omega), ← len_snoc p x, snoc p, snoc q]
        exact Ev.eq (ih b (p ++ [x]) (q ++ [x]) (by simp [hpq]) (by simpa using hab) (by rw [← snoc]; exact hl)) (by simp)
      · exact Ev.neg e (Ev.some' (by simp [e]))
theorem eqIntS_ev (a b : List Int) (hl : a.length < 4611686018427387904) : Ev (fun k => laws_eqIntS.f k a b) (decide (a = b)) := by
  unfold laws_eqIntS.f
  by_cases h : (a.length : Int) = (b.length : Int)
  · exact Ev.pos h (eqIntS_l0 a b [] [] rfl (by omega) hl)
  · refine Ev.neg h (Ev.some' ?_)
    symm
    rw [decide_eq_false_iff_not]
    rintro rfl
    exact h rfl
theorem markIntS_l0 : ∀ (a p : List Int) (c : Int), (p ++ a).length < 4611686018427387904 → 0 ≤ c → c + a.length < 4611686018427387904 →
    Ev (fun k => laws_markIntS.l0 k (p ++ a) c (p.length : Int)) (c + a.length, p ++ iota c a.length) := by
  intro a
  induction a with
  | nil =>
    intro p c hl h0 hc
    exact Ev.step (fun k => rfl) (Ev.neg (len_end p) (Ev.some' (by simp [iota])))
  | cons x a ih =>
    intro p c hl h0 hc
    have hl' : (p ++ x :: a).length < 4611686018427387904 := hl
    rw [List.length_append, List.length_cons] at hl'
    rw [List.length_cons] at hc
    refine Ev.step (fun k => rfl) (Ev.pos (len_lt p x a) (Ev.pos (by omega) ?_))
    rw [set_mid, w64 (by omega) (by omega), w64 (by omega) (by omega), ← len_snoc p c, snoc p c a]
    refine Ev.eq (ih (p ++ [c]) (c + 1) (by simp; omega) (by omega) (by omega)) ?_
    rw [← snoc, List.length_cons, iota]
    congr 1
    omega
theorem markIntS_ev (a : List Int) (c : Int) (hl : a.length < 4611686018427387904) (h0 : 0 ≤ c) (hc : c + a.length < 4611686018427387904) : Ev (fun k => laws_markIntS.f k a c) (c + a.length, iota c a.length) := by
  unfold laws_markIntS.f
  exact markIntS_l0 a [] c hl h0 hc
theorem heldIntS_l0 : ∀ (n : Nat) (p : List Int) (c : Int), (p.length + n) < 4611686018427387904 → 0 ≤ c → c + n < 4611686018427387904 →
    Ev (fun k => laws_heldIntS.l0 k (p ++ iota c n) c (p.length : Int)) (c + n) := by
  intro n
  induction n with
  | zero =>
    intro p c hl h0 hc
    exact Ev.step (fun k => rfl) (Ev.neg (len_end p) (Ev.some' (by simp)))
  | succ n ih =>
    intro p c hl h0 hc
    rw [iota]
    refine Ev.step (fun k => rfl) (Ev.pos (len_lt p c _) (Ev.pos (by omega) (Ev.pos (rd_mid p c _) ?_)))
    rw [w64 (by omega) (by omega), w64 (by omega) (by omega), ← len_snoc p c, snoc p c]
    exact Ev.eq (ih (p ++ [c]) (c + 1) (by simp; omega) (by omega) (by omega)) (by omega)
theorem heldIntS_ev (n : Nat) (c : Int) (h0 : 0 ≤ c) (hc : c + n < 4611686018427387904) : Ev (fun k => laws_heldIntS.f k (iota c n) c) (c + n) := by
  unfold laws_heldIntS.f
  exact heldIntS_l0 n [] c (by simp; omega) h0 hc
theorem within_ev (a b c : Int) : impl_within.f a b c = some (decide (b ≤ a ∧ a ≤ c)) := by
  unfold impl_within.f
  by_cases h : a ≥ b
  · rw [if_pos h]; congr 1; rw [decide_eq_decide]; omega
  · rw [if_neg h]; congr 1; symm; rw [decide_eq_false_iff_not]; omega
theorem l01In_ev (a b c : Int) : spec_l01In.f a b c = some (decide (b ≤ a ∧ a ≤ c)) := by
  unfold spec_l01In.f
  by_cases h : a ≥ b
  · rw [if_pos h]; congr 1; rw [decide_eq_decide]; omega
  · rw [if_neg h]; congr 1; symm; rw [decide_eq_false_iff_not]; omega
/-- Sales. -/
def salesB (l : List Int) : Bool := l.all fun n => decide (0 ≤ n ∧ n ≤ 100000)
theorem areSales_ev (l : List Int) : impl_areSales.f l = some (salesB l) := by
  unfold impl_areSales.f impl_areFrom.f salesB
  rfl
theorem l16Sales_l0 : ∀ (a p : List Int), (p ++ a).length < 4611686018427387904 → Ev (fun k => spec_l16Sales.l0 k (p ++ a) (p.length : Int)) (salesB a) := by
  intro a
  induction a with
  | nil => intro p hl; exact Ev.step (fun k => rfl) (Ev.neg (len_end p) (Ev.some' rfl))
  | cons x a ih =>
    intro p hl
    have hl' := hl
    rw [List.length_append, List.length_cons] at hl'
    refine Ev.step (fun k => rfl) (Ev.pos (len_lt p x a) (Ev.pos (by omega) (Ev.ret (l01In_ev _ _ _) ?_)))
    rw [rd_mid]
    by_cases h : 0 ≤ x ∧ x ≤ 100000
    · refine Ev.pos (by simpa using h) ?_
      rw [w64 (by omega) (by omega), ← len_snoc p x, snoc p x a]
      refine Ev.eq (ih (p ++ [x]) (by rw [← snoc]; exact hl)) ?_
      simp [salesB, h]
    · refine Ev.neg (by simpa using h) (Ev.some' ?_)
      simp [salesB, h]
theorem l16Sales_ev (l : List Int) (hl : l.length < 4611686018427387904) : Ev (fun k => spec_l16Sales.f k l) (salesB l) := by
  unfold spec_l16Sales.f
  exact l16Sales_l0 l [] hl
theorem salesB_mem {l : List Int} (h : salesB l = true) : ∀ x ∈ l, 0 ≤ x ∧ x ≤ 100000 := by
  intro x hx
  have := List.all_eq_true.1 h x hx
  simpa using this
theorem floor_num (a b : Int) (hb : 1 ≤ b) (ha : -4611686018427387904 ≤ a ∧ a ≤ 4611686018427387904) :
    (if Int.tmod a b < 0 then wrap64 ((wrap64 (Int.tdiv a b)) - 1) else wrap64 (Int.tdiv a b)) = a / b := by
  have h0 : a / b ≤ 4611686018427387904 := by
    by_cases c : 0 ≤ a
    · have := Int.ediv_le_self b c; omega
    · have := Int.ediv_neg_of_neg_of_pos (a := a) (b := b) (by omega) (by omega); omega
  have h1 : -4611686018427387904 ≤ a / b := by
    rw [Int.le_ediv_iff_mul_le (by omega)]
    have := Int.mul_le_mul_of_nonneg_left (show (1 : Int) ≤ b by omega) (show (0 : Int) ≤ 4611686018427387904 by omega)
    omega
  have e1 := Int.emod_nonneg a (show b ≠ 0 by omega)
  have e2 := Int.emod_lt_of_pos a (show 0 < b by omega)
  rw [Int.tmod_eq_emod, Int.tdiv_eq_ediv]
  by_cases c : 0 ≤ a ∨ b ∣ a
  · rw [if_pos c, if_pos c, if_neg (by omega)]
    rw [show a / b + 0 = a / b by omega]
    exact w64 (by omega) (by omega)
  · rw [if_neg c, if_neg c, Int.sign_eq_one_of_pos (by omega)]
    rw [if_pos (by omega), w64 (x := a / b + 1) (by omega) (by omega), w64 (by omega) (by omega)]
    omega
theorem floorOf_ev (a b : Int) (hb : 1 ≤ b) (ha : -4611686018427387904 ≤ a ∧ a ≤ 4611686018427387904) : ∃ r, impl_floorOf.f a b = some (a / b, r) := by
  have h := floor_num a b hb ha
  unfold impl_floorOf.f
  rw [if_neg (by omega)]
  by_cases c : Int.tmod a b < 0
  · rw [if_pos c] at h ⊢; rw [h]; exact ⟨_, rfl⟩
  · rw [if_neg c] at h ⊢; rw [h]; exact ⟨_, rfl⟩
/-- What is added lies between nothing and the whole. -/
theorem share_mid (d n m : Int) (h0 : 0 ≤ n) (h1 : n ≤ m) (hm : 1 ≤ m) : (0 ≤ d → 0 ≤ d * n / m ∧ d * n / m ≤ d) ∧ (d ≤ 0 → d ≤ d * n / m ∧ d * n / m ≤ 0) := by
  refine ⟨fun hd => ⟨Int.ediv_nonneg (Int.mul_nonneg hd h0) (by omega), ?_⟩, fun hd => ⟨?_, ?_⟩⟩
  · exact Int.ediv_le_of_le_mul (by omega) (Int.mul_le_mul_of_nonneg_left h1 hd)
  · rw [Int.le_ediv_iff_mul_le (by omega)]
    exact Int.mul_le_mul_of_nonpos_left hd h1
  · refine Int.ediv_le_of_le_mul (by omega) ?_
    rw [Int.zero_mul]
    exact Int.mul_nonpos_of_nonpos_of_nonneg hd h0
theorem mul_small (d n : Int) (hd : -10000000 ≤ d ∧ d ≤ 10000000) (hn : 0 ≤ n ∧ n ≤ 1000) : -10000000000 ≤ d * n ∧ d * n ≤ 10000000000 := by
  have a1 := Int.mul_le_mul_of_nonneg_right hd.1 hn.1
  have a2 := Int.mul_le_mul_of_nonneg_right hd.2 hn.1
  omega
/-- The levels behind one. -/
def smRest (n m : Int) : Int → List Int → List Int
  | _, [] => []
  | lv, x :: a => (lv + (64 * x - lv) * n / m) :: smRest n m (lv + (64 * x - lv) * n / m) a
def smV (n m : Int) : List Int → List Int
  | [] => []
  | x :: a => (64 * x) :: smRest n m (64 * x) a
theorem smRest_length (n m : Int) : ∀ (a : List Int) (lv : Int), (smRest n m lv a).length = a.length := by
  intro a
  induction a with
  | nil => intro lv; rfl
  | cons x a ih => intro lv; simp [smRest, ih]
theorem smV_length (n m : Int) (a : List Int) : (smV n m a).length = a.length := by
  cases a with
  | nil => rfl
  | cons x a => simp [smV, smRest_length]
theorem level_next {lv x n m : Int} (hl : 0 ≤ lv ∧ lv ≤ 6400000) (hx : 0 ≤ x ∧ x ≤ 100000) (h0 : 0 ≤ n) (h1 : n ≤ m) (hm : 1 ≤ m) : 0 ≤ lv + (64 * x - lv) * n / m ∧ lv + (64 * x - lv) * n / m ≤ 6400000 := by
  obtain ⟨s1, s2⟩ := share_mid (64 * x - lv) n m h0 h1 hm
  by_cases c : 0 ≤ 64 * x - lv
  · have := s1 c; omega
  · have := s2 (by omega); omega
theorem impl_smRest (n m : Int) (h0 : 0 ≤ n) (h1 : n ≤ m) (hm : 1 ≤ m) (hm2 : m ≤ 1000) : ∀ (a p o : List Int) (lv : Int), 0 < p.length → o.length = p.length → (p ++ a).length ≤ 100000 → (∀ x ∈ a, 0 ≤ x ∧ x ≤ 100000) → 0 ≤ lv ∧ lv ≤ 6400000 →
    Ev (fun k => impl_Smooth.l0 k n m o lv (p ++ a) ((p ++ a).length : Int) (p.length : Int)) (o ++ smRest n m lv a, 0) := by
  intro a
  induction a with
  | nil => intro p o lv hp ho hl hx hlv; exact Ev.step (fun k => rfl) (Ev.neg (len_end p) (Ev.some' (by simp [smRest])))
  | cons x a ih =>
    intro p o lv hp ho hl hx hlv
    have hl' := hl
    rw [List.length_append, List.length_cons] at hl'
    have hx1 := hx x (by simp)
    have hms := mul_small (64 * x - lv) n (by omega) (by omega)
    have hln := level_next hlv hx1 h0 h1 hm
    refine Ev.step (fun k => rfl) (Ev.pos (len_lt p x a) (Ev.pos (by omega) (Ev.pos (len_lt p x a) (Ev.neg (by omega) ?_))))
    rw [rd_mid, w64 (x := 64 * x) (by omega) (by omega), w64 (x := 64 * x - lv) (by omega) (by omega), w64 (x := (64 * x - lv) * n) (by omega) (by omega)]
    obtain ⟨r, hr⟩ := floorOf_ev ((64 * x - lv) * n) m hm (by omega)
    refine Ev.ret hr (Ev.pos (by omega) ?_)
    simp only
    rw [w64 (x := lv + (64 * x - lv) * n / m) (by omega) (by omega), w64 (by omega) (by omega), ← len_snoc p x, snoc p x a]
    refine Ev.eq (ih (p ++ [x]) (o ++ [lv + (64 * x - lv) * n / m]) _ (by simp) (by simp [ho]) (by rw [← snoc]; exact hl) (fun y hy => hx y (by simp [hy])) hln) ?_
    simp [smRest]
theorem impl_smooth_l0 (n m : Int) (h0 : 0 ≤ n) (h1 : n ≤ m) (hm : 1 ≤ m) (hm2 : m ≤ 1000) (l : List Int) (hl : l.length ≤ 100000) (hx : ∀ x ∈ l, 0 ≤ x ∧ x ≤ 100000) :
    Ev (fun k => impl_Smooth.l0 k n m [] 0 l (l.length : Int) 0) (smV n m l, 0) := by
  cases l with
  | nil => exact Ev.step (fun k => rfl) (Ev.neg (show ¬ (0 : Int) < (([] : List Int).length : Int) by simp) (Ev.some' rfl))
  | cons x a =>
    have hx1 := hx x (by simp)
    rw [List.length_cons] at hl
    have hr : rd (x :: a) 0 = x := rfl
    refine Ev.step (fun k => rfl) (Ev.pos (show (0 : Int) < ((x :: a).length : Int) from (by first | omega | (simp; done) | (simp; omega))) (Ev.pos (by omega) (Ev.pos (by first | omega | (simp; done) | (simp; omega)) (Ev.pos (by rfl) (Ev.pos (by simp) ?_)))))
    rw [hr, w64 (x := 64 * x) (by omega) (by omega), w64 (x := (0 : Int) + 1) (by omega) (by omega)]
    exact impl_smRest n m h0 h1 hm hm2 a [x] [64 * x] (64 * x) (by simp) rfl (by simp; omega) (fun y hy => hx y (by simp [hy])) (by omega)
def smoothV (l : List Int) (n m : Int) : List Int × Int :=
  if 4096 < l.length then ([], 2) else if salesB l = true ∧ (1 ≤ m ∧ m ≤ 1000) ∧ (0 ≤ n ∧ n ≤ m) then (smV n m l, 0) else ([], 1)
theorem smoothV_length (l : List Int) (n m : Int) : (smoothV l n m).1.length ≤ 4096 := by
  unfold smoothV
  split
  · simp
  · split
    · rw [smV_length]; omega
    · simp
theorem implSmooth_ev (l : List Int) (n m : Int) : Ev (fun k => impl_Smooth.f k l n m) (smoothV l n m) := by
  unfold impl_Smooth.f impl_isList_int.f smoothV
  refine Ev.ret rfl ?_
  by_cases c1 : 4096 < l.length
  · rw [if_pos c1]; exact Ev.neg (by simp; omega) (Ev.some' rfl)
  rw [if_neg c1]
  refine Ev.pos (by simp; omega) (Ev.ret (areSales_ev l) ?_)
  by_cases c2 : salesB l = true
  · refine Ev.pos c2 (Ev.ret (within_ev _ _ _) ?_)
    by_cases c3 : 1 ≤ m ∧ m ≤ 1000
    · refine Ev.pos (by simpa using c3) (Ev.ret (within_ev _ _ _) ?_)
      by_cases c4 : 0 ≤ n ∧ n ≤ m
      · rw [if_pos ⟨c2, c3, c4⟩]
        exact Ev.pos (by simpa using c4) (impl_smooth_l0 n m c4.1 c4.2 c3.1 c3.2 l (by omega) (salesB_mem c2))
      · rw [if_neg (fun h => c4 h.2.2)]
        exact Ev.neg (by simpa using c4) (Ev.some' rfl)
    · rw [if_neg (fun h => c3 h.2.1)]
      exact Ev.neg (by simpa using c3) (Ev.some' rfl)
  · rw [if_neg (fun h => c2 h.1)]
    exact Ev.neg c2 (Ev.some' rfl)
theorem l01Floor_ev (a b : Int) (hb : 1 ≤ b) (ha : -4611686018427387904 ≤ a ∧ a ≤ 4611686018427387904) : spec_l01Floor.f a b = some (a / b) := by
  have h := floor_num a b hb ha
  unfold spec_l01Floor.f
  rw [if_neg (by omega)]
  by_cases c : Int.tmod a b < 0
  · rw [if_pos c] at h ⊢; rw [h]
  · rw [if_neg c] at h ⊢; rw [h]
theorem spec_smRest (n m : Int) (h0 : 0 ≤ n) (h1 : n ≤ m) (hm : 1 ≤ m) (hm2 : m ≤ 1000) : ∀ (a p o : List Int) (lv : Int), 0 < p.length → o.length = p.length → (p ++ a).length ≤ 100000 → (∀ x ∈ a, 0 ≤ x ∧ x ≤ 100000) → 0 ≤ lv ∧ lv ≤ 6400000 →
    Ev (fun k => spec_Smooth.l0 k (p ++ a) n m o lv (p.length : Int)) (o ++ smRest n m lv a, 0) := by
  intro a
  induction a with
  | nil => intro p o lv hp ho hl hx hlv; exact Ev.step (fun k => rfl) (Ev.neg (len_end p) (Ev.some' (by simp [smRest])))
  | cons x a ih =>
    intro p o lv hp ho hl hx hlv
    have hl' := hl
    rw [List.length_append, List.length_cons] at hl'
    have hx1 := hx x (by simp)
    have hms := mul_small (64 * x - lv) n (by omega) (by omega)
    have hln := level_next hlv hx1 h0 h1 hm
    refine Ev.step (fun k => rfl) (Ev.pos (len_lt p x a) (Ev.pos (by omega) (Ev.neg (by omega) ?_)))
    rw [rd_mid, w64 (x := 64 * x) (by omega) (by omega), w64 (x := 64 * x - lv) (by omega) (by omega), w64 (x := (64 * x - lv) * n) (by omega) (by omega)]
    refine Ev.ret (l01Floor_ev ((64 * x - lv) * n) m hm (by omega)) (Ev.pos (by omega) ?_)
    rw [w64 (x := lv + (64 * x - lv) * n / m) (by omega) (by omega), w64 (by omega) (by omega), ← len_snoc p x, snoc p x a]
    refine Ev.eq (ih (p ++ [x]) (o ++ [lv + (64 * x - lv) * n / m]) _ (by simp) (by simp [ho]) (by rw [← snoc]; exact hl) (fun y hy => hx y (by simp [hy])) hln) ?_
    simp [smRest]
theorem spec_smooth_l0 (n m : Int) (h0 : 0 ≤ n) (h1 : n ≤ m) (hm : 1 ≤ m) (hm2 : m ≤ 1000) (l : List Int) (hl : l.length ≤ 100000) (hx : ∀ x ∈ l, 0 ≤ x ∧ x ≤ 100000) :
    Ev (fun k => spec_Smooth.l0 k l n m [] 0 0) (smV n m l, 0) := by
  cases l with
  | nil => exact Ev.step (fun k => rfl) (Ev.neg (show ¬ (0 : Int) < (([] : List Int).length : Int) by simp) (Ev.some' rfl))
  | cons x a =>
    have hx1 := hx x (by simp)
    rw [List.length_cons] at hl
    have hr : rd (x :: a) 0 = x := rfl
    refine Ev.step (fun k => rfl) (Ev.pos (show (0 : Int) < ((x :: a).length : Int) from (by first | omega | (simp; done) | (simp; omega))) (Ev.pos (by omega) (Ev.pos (by rfl) (Ev.pos (by simp) ?_))))
    rw [hr, w64 (x := 64 * x) (by omega) (by omega), w64 (x := (0 : Int) + 1) (by omega) (by omega)]
    exact spec_smRest n m h0 h1 hm hm2 a [x] [64 * x] (64 * x) (by simp) rfl (by simp; omega) (fun y hy => hx y (by simp [hy])) (by omega)
theorem specSmooth_ev (l : List Int) (n m : Int) (hl : l.length < 4611686018427387904) : Ev (fun k => spec_Smooth.f k l n m) (smoothV l n m) := by
  unfold spec_Smooth.f smoothV
  by_cases c1 : 4096 < l.length
  · rw [if_pos c1]; exact Ev.pos (by omega) (Ev.some' rfl)
  rw [if_neg c1]
  refine Ev.neg (by omega) (Ev.bind (l16Sales_ev l hl) ?_)
  by_cases c2 : salesB l = true
  · refine Ev.pos c2 (Ev.ret (l01In_ev _ _ _) ?_)
    by_cases c3 : 1 ≤ m ∧ m ≤ 1000
    · refine Ev.pos (by simpa using c3) (Ev.ret (l01In_ev _ _ _) ?_)
      by_cases c4 : 0 ≤ n ∧ n ≤ m
      · rw [if_pos ⟨c2, c3, c4⟩, show (!decide (0 ≤ n ∧ n ≤ m)) = false by rw [decide_eq_true c4]; rfl]
        exact Ev.via (spec_smooth_l0 n m c4.1 c4.2 c3.1 c3.2 l (by omega) (salesB_mem c2)) (fun k => rfl)
      · rw [if_neg (fun h => c4 h.2.2), show (!decide (0 ≤ n ∧ n ≤ m)) = true by rw [decide_eq_false c4]; rfl]
        exact Ev.via (Ev.some' rfl) (fun k => rfl)
    · rw [if_neg (fun h => c3 h.2.1)]
      exact Ev.neg (by simpa using c3) (Ev.via (Ev.some' rfl) (fun k => rfl))
  · rw [if_neg (fun h => c2 h.1)]
    exact Ev.neg c2 (Ev.via (Ev.some' rfl) (fun k => rfl))
theorem FnExactSmooth : laws_FnExactSmooth.Pure := by
  intro l n m _ _ _
  refine Ev.rounds (?_ : Ev (fun k => laws_FnExactSmooth.f k l n m) true)
  unfold laws_FnExactSmooth.f
  by_cases c1 : (l.length : Int) > 1048576
  · exact Ev.pos c1 (Ev.some' rfl)
  refine Ev.neg c1 ?_
  have ti := toIntS_ev l (by omega)
  have sp := specSmooth_ev l n m (by omega)
  have im := implSmooth_ev l n m
  have hn := smoothV_length l n m
  generalize hv : smoothV l n m = v at sp im hn
  obtain ⟨o, c⟩ := v
  have eq := eqIntS_ev o o (by simp only at hn; omega)
  have ei := eqIntS_ev l l (by omega)
  have mi := markIntS_ev l 1 (by omega) (by omega) (by omega)
  have mo := markIntS_ev o 1 (by simp only at hn; omega) (by omega) (by simp only at hn; omega)
  have he := heldIntS_ev o.length 1 (by omega) (by simp only at hn; omega)
  repeat' (first
    | exact Ev.some' rfl
    | with_reducible assumption
    | (with_reducible refine Ev.bind (by with_reducible assumption) ?_)
    | (with_reducible refine Ev.ret (by with_reducible assumption) ?_)
    | (refine Ev.pos (by first | with_reducible rfl | with_reducible assumption | omega | (simp; done) | (simp; omega)) ?_)
    | (refine Ev.neg (by first | with_reducible assumption | omega | (simp; done) | (simp; omega)) ?_)
    | (refine Ev.up1 ?_; simp only [laws_FnExactSmooth.j0, laws_FnExactSmooth.j1, laws_FnExactSmooth.j2]))

end Go.Proofs.Ytbljkgllicnkkaa.Pure
