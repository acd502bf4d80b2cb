/- At every argument the program's MarkOf answers as the reference's, changes none and shares nothing: the law's plain statement, with no condition. -/
import Derived.Test.YtehjdodmgephiaaXFnExactMarkOfx8
import Derived.Test.YtehjdodmgephiaaAx
import Derived.Test.YtehjdodmgephiaaIdx
namespace Go.Proofs.Ytehjdodmgephiaa.Pure
open Go.RowKit Go.Proofs.Ytehjdodmgephiaa.XFnExactMarkOf Go.Proofs.YtehjdodmgephiaaW.PrintWords Go.Proofs.YtehjdodmgephiaaW.PrintLast
open Go.Proofs.YtehjdodmgephiaaW.Ax Go.Proofs.YtehjdodmgephiaaW.Idx
set_option linter.unusedVariables false
set_option linter.unusedSimpArgs false
theorem toIntS_l0 : ∀ (a p t : List Int), t.length = a.length → (p ++ a).length < 4611686018427387904 →
    Ev (fun k => laws_toIntS.l0 k (p ++ a) (p ++ t) (p.length : Int)) (p ++ a) := by
  intro a
  induction a with
  | nil =>
    intro p t ht hl
    obtain rfl : t = [] := List.eq_nil_of_length_eq_zero ht
    exact Ev.step (fun k => rfl) (Ev.neg (len_end p) (Ev.some' rfl))
  | cons x a ih =>
    intro p t ht hl
    match t, ht with
    | y :: t, ht =>
      have hl' : (p ++ x :: a).length < 4611686018427387904 := hl
      rw [List.length_append, List.length_cons] at hl'
      refine Ev.step (fun k => rfl) (Ev.pos (len_lt p x a) (Ev.pos (by omega) (Ev.pos (len_lt p y t) ?_)))
      rw [rd_mid p x a, set_mid, w64 (by omega) (by omega), ← len_snoc p x, snoc p x a, snoc p x t]
      exact ih (p ++ [x]) t (by simpa using ht) (by rw [← snoc]; exact hl)
theorem toIntS_ev (a : List Int) (hl : a.length ≤ 1048576) : Ev (fun k => laws_toIntS.f k a) a := by
  unfold laws_toIntS.f
  refine Ev.pos (by omega) (Ev.pos (by omega) ?_)
  rw [Int.toNat_natCast]
  exact toIntS_l0 a [] (List.replicate a.length 0) (by simp) (by simp; omega)
theorem eqIntS_l0 : ∀ (a b p q : List Int), p.length = q.length → a.length = b.length → (p ++ a).length < 4611686018427387904 →
    Ev (fun k => laws_eqIntS.l0 k (p ++ a) (q ++ b) (p.length : Int)) (decide (a = b)) := by
  intro a
  induction a with
  | nil =>
    intro b p q hpq hab hl
    obtain rfl : b = [] := List.eq_nil_of_length_eq_zero hab.symm
    refine Ev.step (fun k => rfl) (Ev.neg (len_end p) (Ev.some' rfl))
  | cons x a ih =>
    intro b p q hpq hab hl
    match b, hab with
    | y :: b, hab =>
      have hq : ((p.length : Int)) < ((q ++ y :: b).length : Int) := by rw [hpq]; exact len_lt q y b
      have hl' : (p ++ x :: a).length < 4611686018427387904 := hl
      rw [List.length_append, List.length_cons] at hl'
      refine Ev.step (fun k => rfl) (Ev.pos (len_lt p x a) (Ev.pos (by omega) (Ev.pos hq ?_)))
      rw [rd_mid p x a, hpq, rd_mid q y b, ← hpq]
      by_cases e : x = y
      · subst e
        refine Ev.pos (by rfl) ?_
        rw [w64 (by omega) (by omega), ← len_snoc p x, snoc p, snoc q]
        exact Ev.eq (ih b (p ++ [x]) (q ++ [x]) (by simp [hpq]) (by simpa using hab) (by rw [← snoc]; exact hl)) (by simp)
      · exact Ev.neg e (Ev.some' (by simp [e]))
theorem eqIntS_ev (a b : List Int) (hl : a.length < 4611686018427387904) : Ev (fun k => laws_eqIntS.f k a b) (decide (a = b)) := by
  unfold laws_eqIntS.f
  by_cases h : (a.length : Int) = (b.length : Int)
  · exact Ev.pos h (eqIntS_l0 a b [] [] rfl (by omega) hl)
  · refine Ev.neg h (Ev.some' ?_)
    symm
    rw [decide_eq_false_iff_not]
    rintro rfl
    exact h rfl
theorem markIntS_l0 : ∀ (a p : List Int) (c : Int), (p ++ a).length < 4611686018427387904 → 0 ≤ c → c + a.length < 4611686018427387904 →
    Ev (fun k => laws_markIntS.l0 k (p ++ a) c (p.length : Int)) (c + a.length, p ++ iota c a.length) := by
  intro a
  induction a with
  | nil =>
    intro p c hl h0 hc
    exact Ev.step (fun k => rfl) (Ev.neg (len_end p) (Ev.some' (by simp [iota])))
  | cons x a ih =>
    intro p c hl h0 hc
    have hl' : (p ++ x :: a).length < 4611686018427387904 := hl
    rw [List.length_append, List.length_cons] at hl'
    rw [List.length_cons] at hc
    refine Ev.step (fun k => rfl) (Ev.pos (len_lt p x a) (Ev.pos (by omega) ?_))
    rw [set_mid, w64 (by omega) (by omega), w64 (by omega) (by omega), ← len_snoc p c, snoc p c a]
    refine Ev.eq (ih (p ++ [c]) (c + 1) (by simp; omega) (by omega) (by omega)) ?_
    rw [← snoc, List.length_cons, iota]
    congr 1
    omega
theorem markIntS_ev (a : List Int) (c : Int) (hl : a.length < 4611686018427387904) (h0 : 0 ≤ c) (hc : c + a.length < 4611686018427387904) : Ev (fun k => laws_markIntS.f k a c) (c + a.length, iota c a.length) := by
  unfold laws_markIntS.f
  exact markIntS_l0 a [] c hl h0 hc
theorem rdL_mid (p : List (List Int)) (x : List Int) (r : List (List Int)) : rd_L1 (p ++ x :: r) (p.length : Int) = x := getD_mid p x r []
theorem eqIntS_same (a : List Int) (h : a.length < 4611686018427387904) : Ev (fun k => laws_eqIntS.f k a a) true := Ev.eq (eqIntS_ev a a h) (by simp)
def sumLen : List (List Int) → Nat
  | [] => 0
  | x :: a => x.length + sumLen a
theorem sumLen_mem : ∀ (a : List (List Int)) (x : List Int), x ∈ a → x.length ≤ sumLen a := by
  intro a
  induction a with
  | nil => intro x hx; cases hx
  | cons y a ih =>
    intro x hx
    rw [sumLen]
    rcases List.mem_cons.1 hx with rfl | hx
    · omega
    · have := ih x hx; omega
theorem szIntSS_l0 : ∀ (a p : List (List Int)) (b : Int), (p ++ a).length < 4611686018427387904 → 0 ≤ b → b ≤ 1048576 → (∀ x ∈ a, x.length ≤ 9223372036854775807) → ∃ r, Ev (fun k => laws_szIntSS.l0 k (p ++ a) b (p.length : Int)) r ∧ (r < 0 ∨ (sumLen a : Int) ≤ b) := by
  intro a
  induction a with
  | nil => intro p b _ h0 _ _; exact ⟨_, Ev.step (fun k => rfl) (Ev.neg (len_end p) (Ev.some' rfl)), .inr (by show ((0 : Nat) : Int) ≤ b; omega)⟩
  | cons x a ih =>
    intro p b hl h0 h1 hx
    have hl' := hl
    rw [List.length_append, List.length_cons] at hl'
    have hs := hx x (by simp)
    by_cases c : b - (x.length : Int) < 0
    · have e1 : laws_szIntS.f x b = some (-1) := by
        unfold laws_szIntS.f
        rw [w64 (by omega) (by omega), if_pos c]
      refine ⟨-1, Ev.step (fun k => rfl) (Ev.pos (len_lt p x a) (Ev.pos (by omega) ?_)), .inl (by omega)⟩
      rw [rdL_mid]
      exact Ev.ret e1 (Ev.pos (by omega) (Ev.some' rfl))
    · have e1 : laws_szIntS.f x b = some (b - (x.length : Int)) := by
        unfold laws_szIntS.f
        rw [w64 (by omega) (by omega), if_neg c]
      obtain ⟨r, hr, hq⟩ := ih (p ++ [x]) (b - (x.length : Int)) (by rw [← snoc]; exact hl) (by omega) (by omega) (fun y hy => hx y (by simp [hy]))
      refine ⟨r, Ev.step (fun k => rfl) (Ev.pos (len_lt p x a) (Ev.pos (by omega) ?_)), ?_⟩
      · rw [rdL_mid]
        refine Ev.ret e1 (Ev.neg (by omega) ?_)
        rw [w64 (by omega) (by omega), ← len_snoc p x, snoc p x a]
        exact hr
      · rcases hq with hq | hq
        · exact .inl hq
        · exact .inr (by rw [sumLen]; omega)
theorem szIntSS_ev (l : List (List Int)) (b : Int) (hb : 0 ≤ b ∧ b ≤ 1048576) (hl : l.length ≤ 9223372036854775807) (hx : ∀ x ∈ l, x.length ≤ 9223372036854775807) : ∃ r, Ev (fun k => laws_szIntSS.f k l b) r ∧ (r < 0 ∨ (l.length ≤ 1048576 ∧ sumLen l ≤ 1048576)) := by
  unfold laws_szIntSS.f
  rw [w64 (by omega) (by omega)]
  by_cases c : b - (l.length : Int) < 0
  · exact ⟨-1, Ev.pos c (Ev.some' rfl), .inl (by omega)⟩
  · obtain ⟨r, hr, hq⟩ := szIntSS_l0 l [] (b - (l.length : Int)) (by simp; omega) (by omega) (by omega) hx
    exact ⟨r, Ev.neg c hr, hq.imp id (fun h => ⟨by omega, by omega⟩)⟩
theorem toIntSS_l0 : ∀ (a p t : List (List Int)), t.length = a.length → (p ++ a).length < 4611686018427387904 → (∀ x ∈ a, x.length ≤ 1048576) →
    Ev (fun k => laws_toIntSS.l0 k (p ++ a) (p ++ t) (p.length : Int)) (p ++ a) := by
  intro a
  induction a with
  | nil =>
    intro p t ht hl _
    obtain rfl : t = [] := List.eq_nil_of_length_eq_zero ht
    exact Ev.step (fun k => rfl) (Ev.neg (len_end p) (Ev.some' rfl))
  | cons x a ih =>
    intro p t ht hl hx
    match t, ht with
    | y :: t, ht =>
      have hl' : (p ++ x :: a).length < 4611686018427387904 := hl
      rw [List.length_append, List.length_cons] at hl'
      refine Ev.step (fun k => rfl) (Ev.pos (len_lt p x a) (Ev.pos (by omega) ?_))
      rw [rdL_mid]
      refine Ev.bind (toIntS_ev x (hx x (by simp))) (Ev.pos (len_lt p y t) ?_)
      rw [set_mid, w64 (by omega) (by omega), ← len_snoc p x, snoc p x a, snoc p x t]
      exact ih (p ++ [x]) t (by simpa using ht) (by rw [← snoc]; exact hl) (fun z hz => hx z (by simp [hz]))
theorem toIntSS_ev (a : List (List Int)) (hl : a.length ≤ 1048576) (hx : ∀ x ∈ a, x.length ≤ 1048576) : Ev (fun k => laws_toIntSS.f k a) a := by
  unfold laws_toIntSS.f
  refine Ev.pos (by omega) (Ev.pos (by omega) ?_)
  rw [Int.toNat_natCast]
  exact toIntSS_l0 a [] (List.replicate a.length []) (by simp) (by simp; omega) hx
theorem eqIntSS_l0 : ∀ (a p : List (List Int)), (p ++ a).length < 4611686018427387904 → (∀ x ∈ a, x.length ≤ 1048576) →
    Ev (fun k => laws_eqIntSS.l0 k (p ++ a) (p ++ a) (p.length : Int)) true := by
  intro a
  induction a with
  | nil => intro p hl _; exact Ev.step (fun k => rfl) (Ev.neg (len_end p) (Ev.some' rfl))
  | cons x a ih =>
    intro p hl hx
    have hl' : (p ++ x :: a).length < 4611686018427387904 := hl
    rw [List.length_append, List.length_cons] at hl'
    have h1 := hx x (by simp)
    refine Ev.step (fun k => rfl) (Ev.pos (len_lt p x a) (Ev.pos (by omega) (Ev.pos (len_lt p x a) ?_)))
    rw [rdL_mid]
    refine Ev.bind (eqIntS_same x (by omega)) (Ev.pos rfl ?_)
    rw [w64 (by omega) (by omega), ← len_snoc p x, snoc p x a]
    exact ih (p ++ [x]) (by rw [← snoc]; exact hl) (fun z hz => hx z (by simp [hz]))
theorem eqIntSS_ev (a : List (List Int)) (hl : a.length < 4611686018427387904) (hx : ∀ x ∈ a, x.length ≤ 1048576) : Ev (fun k => laws_eqIntSS.f k a a) true := by
  unfold laws_eqIntSS.f
  exact Ev.pos rfl (eqIntSS_l0 a [] hl hx)
theorem markIntSS_l0 : ∀ (a p : List (List Int)) (c : Int), (p ++ a).length < 4611686018427387904 → 0 ≤ c → c + sumLen a < 1000000000000 →
    Ev (fun k => laws_markIntSS.l0 k (p ++ a) c (p.length : Int)) (c + sumLen a) := by
  intro a
  induction a with
  | nil => intro p c hl _ _; exact Ev.step (fun k => rfl) (Ev.neg (len_end p) (Ev.some' (by show c = c + ((0 : Nat) : Int); omega)))
  | cons x a ih =>
    intro p c hl h0 hc
    have hl' : (p ++ x :: a).length < 4611686018427387904 := hl
    rw [List.length_append, List.length_cons] at hl'
    rw [sumLen] at hc ⊢
    refine Ev.step (fun k => rfl) (Ev.pos (len_lt p x a) ?_)
    have hg : (p ++ x :: a).getD ((p.length : Int)).toNat ([] : List Int) = x := getD_mid p x a []
    rw [hg]
    refine Ev.bind (markIntS_ev x c (by omega) h0 (by omega)) ?_
    rw [w64 (by omega) (by omega), ← len_snoc p x, snoc p x a]
    exact Ev.eq (ih (p ++ [x]) (c + x.length) (by rw [← snoc]; exact hl) (by omega) (by omega)) (by omega)
theorem markIntSS_ev (a : List (List Int)) (c : Int) (hl : a.length < 4611686018427387904) (h0 : 0 ≤ c) (hc : c + sumLen a < 1000000000000) : Ev (fun k => laws_markIntSS.f k a c) (c + sumLen a) := by
  unfold laws_markIntSS.f
  exact markIntSS_l0 a [] c hl h0 hc
theorem heldIntS_l0 : ∀ (n : Nat) (p : List Int) (c : Int), (p.length + n) < 4611686018427387904 → 0 ≤ c → c + n < 4611686018427387904 →
    Ev (fun k => laws_heldIntS.l0 k (p ++ iota c n) c (p.length : Int)) (c + n) := by
  intro n
  induction n with
  | zero =>
    intro p c hl h0 hc
    exact Ev.step (fun k => rfl) (Ev.neg (len_end p) (Ev.some' (by simp)))
  | succ n ih =>
    intro p c hl h0 hc
    rw [iota]
    refine Ev.step (fun k => rfl) (Ev.pos (len_lt p c _) (Ev.pos (by omega) (Ev.pos (rd_mid p c _) ?_)))
    rw [w64 (by omega) (by omega), w64 (by omega) (by omega), ← len_snoc p c, snoc p c]
    exact Ev.eq (ih (p ++ [c]) (c + 1) (by simp; omega) (by omega) (by omega)) (by omega)
theorem heldIntS_ev (n : Nat) (c : Int) (h0 : 0 ≤ c) (hc : c + n < 4611686018427387904) : Ev (fun k => laws_heldIntS.f k (iota c n) c) (c + n) := by
  unfold laws_heldIntS.f
  exact heldIntS_l0 n [] c (by simp; omega) h0 hc
/-- In bounds, and each above the one ahead. -/
def risP (lo hi : Int) : Option Int → List Int → Bool
  | _, [] => true
  | o, x :: a => decide (lo ≤ x ∧ x ≤ hi) && ((match o with | none => true | some y => decide (y < x)) && risP lo hi (some x) a)
theorem rd_prev (q : List Int) (y : Int) (r : List Int) : rd ((q ++ [y]) ++ r) (((q ++ [y]).length : Int) - 1) = y := by
  rw [len_snoc, show (q.length : Int) + 1 - 1 = (q.length : Int) by omega, ← snoc]
  exact rd_mid q y r
theorem within_ev (a b c : Int) : impl_within.f a b c = some (decide (b ≤ a ∧ a ≤ c)) := by
  unfold impl_within.f
  by_cases h : a ≥ b
  · rw [if_pos h]; congr 1; rw [decide_eq_decide]; omega
  · rw [if_neg h]; congr 1; symm; rw [decide_eq_false_iff_not]; omega
theorem isRising_l0 (lo hi : Int) : ∀ (a p : List Int), (p ++ a).length < 4611686018427387904 →
    Ev (fun k => impl_isRising.l0 k (p ++ a) lo hi (p ++ a) ((p ++ a).length : Int) (p.length : Int)) (risP lo hi p.getLast? a) := by
  intro a
  induction a with
  | nil => intro p hl; exact Ev.step (fun k => rfl) (Ev.neg (len_end p) (Ev.some' rfl))
  | cons x a ih =>
    intro p hl
    have hl' := hl
    rw [List.length_append, List.length_cons] at hl'
    have hnext := ih (p ++ [x]) (by rw [← snoc]; exact hl)
    rw [← snoc, len_snoc, List.getLast?_concat] at hnext
    refine Ev.step (fun k => rfl) (Ev.pos (len_lt p x a) (Ev.pos (by omega) (Ev.pos (len_lt p x a) (Ev.ret (within_ev _ _ _) ?_))))
    rw [rd_mid p x a]
    by_cases hin : lo ≤ x ∧ x ≤ hi
    · refine Ev.pos (by simpa using hin) ?_
      rcases List.eq_nil_or_concat p with rfl | ⟨q, y, rfl⟩
      · refine Ev.neg (by simp) ?_
        rw [w64 (by simp) (by simp)]
        refine Ev.eq hnext ?_
        simp [risP, hin]
      · rw [List.concat_eq_append] at *
        have hlen : ((q ++ [y]).length : Int) = (q.length : Int) + 1 := len_snoc q y
        refine Ev.pos (by omega) ?_
        rw [w64 (x := ((q ++ [y]).length : Int) - 1) (by omega) (by omega), rd_prev]
        refine Ev.pos (by omega) (Ev.pos (by simp only [List.length_append, List.length_cons, List.length_nil]; omega) ?_)
        by_cases hyx : y ≥ x
        · refine Ev.pos hyx (Ev.some' ?_)
          simp [risP, show ¬ y < x by omega]
        · refine Ev.neg hyx ?_
          rw [w64 (by omega) (by omega)]
          refine Ev.eq hnext ?_
          simp [risP, hin, show y < x by omega]
    · refine Ev.neg (by simpa using hin) (Ev.some' ?_)
      simp [risP, hin]
theorem isRising_ev (lo hi : Int) (l : List Int) (hl : l.length < 4611686018427387904) : Ev (fun k => impl_isRising.f k l lo hi) (risP lo hi none l) := by
  unfold impl_isRising.f
  exact isRising_l0 lo hi l [] hl
theorem l01In_ev (a b c : Int) : spec_l01In.f a b c = some (decide (b ≤ a ∧ a ≤ c)) := by
  unfold spec_l01In.f
  by_cases h : a ≥ b
  · rw [if_pos h]; congr 1; rw [decide_eq_decide]; omega
  · rw [if_neg h]; congr 1; symm; rw [decide_eq_false_iff_not]; omega
theorem rdM_mid (p : List (List Int)) (x : List Int) (r : List (List Int)) : rd_L1 (p ++ x :: r) (p.length : Int) = x := getD_mid p x r []
/-! ### right arguments -/
def dayV (n : Nat) (d : List Int) : Bool := decide (d.length = n) && d.all fun x => decide (0 ≤ x ∧ x ≤ 200)
def rightM (a0 a1 : Int) (P : List Int) (D : List (List Int)) : Bool := decide (0 ≤ a0 ∧ a0 ≤ 1000000) && (decide (0 ≤ a1 ∧ a1 ≤ 200) && (decide (1 ≤ (P.length : Int) ∧ (P.length : Int) ≤ 5) && (decide (1 ≤ (D.length : Int) ∧ (D.length : Int) ≤ 7) && (risP 0 100 none P && D.all (dayV P.length)))))
theorem areMarks_ev (a0 a1 : Int) (P : List Int) (D : List (List Int)) (hP : P.length < 4611686018427387904) : Ev (fun k => impl_areMarks.f k a0 a1 P D) (rightM a0 a1 P D) := by
  unfold impl_areMarks.f rightM
  by_cases c1 : 0 ≤ a0 ∧ a0 ≤ 1000000
  · rw [decide_eq_true c1, Bool.true_and]
    refine Ev.pos c1 ?_
    by_cases c2 : 0 ≤ a1 ∧ a1 ≤ 200
    · rw [decide_eq_true c2, Bool.true_and]
      refine Ev.pos c2 ?_
      by_cases c3 : 1 ≤ (P.length : Int) ∧ (P.length : Int) ≤ 5
      · rw [decide_eq_true c3, Bool.true_and]
        refine Ev.pos c3 (Ev.bind (isRising_ev 0 100 P hP) ?_)
        cases hr : risP 0 100 none P with
        | false => rw [Bool.false_and, Bool.and_false]; exact Ev.neg ff (Ev.some' rfl)
        | true =>
          rw [Bool.true_and]
          refine Ev.pos rfl ?_
          by_cases c4 : 1 ≤ (D.length : Int) ∧ (D.length : Int) ≤ 7
          · rw [decide_eq_true c4, Bool.true_and]
            exact Ev.pos c4 (Ev.some' rfl)
          · rw [decide_eq_false c4, Bool.false_and]
            exact Ev.neg c4 (Ev.some' rfl)
      · rw [decide_eq_false c3, Bool.false_and]
        exact Ev.neg c3 (Ev.some' rfl)
    · rw [decide_eq_false c2, Bool.false_and]
      exact Ev.neg c2 (Ev.some' rfl)
  · rw [decide_eq_false c1, Bool.false_and]
    exact Ev.neg c1 (Ev.some' rfl)
theorem right_l2 (P : List Int) (D : List (List Int)) (d : List Int) (n : Nat) (hn : n < 4611686018427387904) (hD : rd_L1 D (n : Int) = d) (hnD : (n : Int) < (D.length : Int)) (v : Bool) (hk : Ev (fun k => spec_l15Right.l1 k P D ((n + 1 : Nat) : Int)) v) :
    ∀ (a p : List Int), d = p ++ a → d.length < 4611686018427387904 → Ev (fun k => spec_l15Right.l2 k P D (n : Int) (p.length : Int)) ((a.all fun x => decide (0 ≤ x ∧ x ≤ 200)) && v) := by
  intro a
  induction a with
  | nil =>
    intro p h hl
    refine Ev.up1 ?_
    simp only [spec_l15Right.l2]
    refine Ev.pos (by omega) (Ev.pos hnD ?_)
    rw [hD, h]
    refine Ev.neg (len_end p) ?_
    rw [w64n (by omega)]
    exact Ev.eq hk rfl
  | cons x a ih =>
    intro p h hl
    have hl' := hl
    rw [h, List.length_append, List.length_cons] at hl'
    have := ih (p ++ [x]) (by rw [← snoc]; exact h) hl
    refine Ev.up1 ?_
    simp only [spec_l15Right.l2]
    refine Ev.pos (by omega) (Ev.pos hnD ?_)
    rw [hD]
    refine Ev.pos (by rw [h]; exact len_lt p x a) (Ev.pos (by omega) (Ev.ret (l01In_ev _ _ _) ?_))
    have hx : rd d (p.length : Int) = x := by rw [h]; exact rd_mid p x a
    rw [hx, List.all_cons]
    by_cases c : 0 ≤ x ∧ x ≤ 200
    · rw [decide_eq_true c, Bool.true_and]
      refine Ev.pos rfl ?_
      rw [w64n (by omega)]
      rw [show (p ++ [x]).length = p.length + 1 by simp] at this
      exact this
    · rw [decide_eq_false c, Bool.false_and, Bool.false_and]
      exact Ev.neg ff (Ev.some' rfl)
theorem right_l1 (P : List Int) : ∀ (a p : List (List Int)), (p ++ a).length < 1000000 → (∀ d ∈ a, d.length < 4611686018427387904) → Ev (fun k => spec_l15Right.l1 k P (p ++ a) (p.length : Int)) (a.all (dayV P.length)) := by
  intro a
  induction a with
  | nil =>
    intro p _ _
    refine Ev.up1 ?_
    simp only [spec_l15Right.l1]
    exact Ev.neg (len_end p) (Ev.some' rfl)
  | cons d a ih =>
    intro p hl hd
    have hl' := hl
    rw [List.length_append, List.length_cons] at hl'
    have hi := ih (p ++ [d]) (by rw [← snoc]; exact hl) (fun z hz => hd z (by simp [hz]))
    rw [← snoc, show (p ++ [d]).length = p.length + 1 by simp] at hi
    refine Ev.up1 ?_
    simp only [spec_l15Right.l1]
    refine Ev.pos (len_lt p d a) (Ev.pos (by omega) ?_)
    rw [rdM_mid, List.all_cons, dayV]
    by_cases c : (d.length : Int) = (P.length : Int)
    · rw [decide_eq_true (by omega), Bool.true_and]
      exact Ev.pos c (right_l2 P (p ++ d :: a) d p.length (by omega) (rdM_mid p d a) (len_lt p d a) _ hi d [] rfl (hd d (by simp)))
    · rw [decide_eq_false (by omega), Bool.false_and, Bool.false_and]
      exact Ev.neg c (Ev.some' rfl)
theorem right_l0 (D : List (List Int)) (hD : D.length < 1000000) (hd : ∀ d ∈ D, d.length < 4611686018427387904) : ∀ (a p : List Int), (p ++ a).length < 1000000 → Ev (fun k => spec_l15Right.l0 k (p ++ a) D (p.length : Int)) (risP 0 100 p.getLast? a && D.all (dayV (p ++ a).length)) := by
  intro a
  induction a with
  | nil =>
    intro p hl
    refine Ev.up1 ?_
    simp only [spec_l15Right.l0]
    exact Ev.neg (len_end p) (right_l1 (p ++ []) D [] (by simpa using hD) hd)
  | cons x a ih =>
    intro p hl
    have hl' := hl
    rw [List.length_append, List.length_cons] at hl'
    have hnext := ih (p ++ [x]) (by rw [← snoc]; exact hl)
    rw [← snoc, List.getLast?_concat, show (p ++ [x]).length = p.length + 1 by simp] at hnext
    refine Ev.up1 ?_
    simp only [spec_l15Right.l0]
    refine Ev.pos (len_lt p x a) (Ev.pos (by omega) (Ev.ret (l01In_ev _ _ _) ?_))
    rw [rd_mid p x a]
    by_cases hin : 0 ≤ x ∧ x ≤ 100
    · rw [decide_eq_true hin]
      refine Ev.pos rfl ?_
      rcases List.eq_nil_or_concat p with rfl | ⟨q, y, rfl⟩
      · refine Ev.neg (by simp) ?_
        rw [w64n (by simp)]
        refine Ev.eq hnext ?_
        simp [risP, hin]
      · rw [List.concat_eq_append] at *
        have hlen : ((q ++ [y]).length : Int) = (q.length : Int) + 1 := len_snoc q y
        refine Ev.pos (by omega) ?_
        rw [w64 (x := ((q ++ [y]).length : Int) - 1) (by omega) (by omega), rd_prev]
        refine Ev.pos (by omega) (Ev.pos (by simp only [List.length_append, List.length_cons, List.length_nil]; omega) ?_)
        by_cases hyx : x ≤ y
        · refine Ev.pos hyx (Ev.some' ?_)
          simp [risP, show ¬ y < x by omega]
        · refine Ev.neg hyx ?_
          rw [w64n (by omega)]
          refine Ev.eq hnext ?_
          simp [risP, hin, show y < x by omega]
    · rw [decide_eq_false hin]
      refine Ev.neg ff (Ev.some' ?_)
      simp [risP, hin]
theorem specRight_ev (a0 a1 : Int) (P : List Int) (D : List (List Int)) (hd : ∀ d ∈ D, d.length < 4611686018427387904) : Ev (fun k => spec_l15Right.f k a0 a1 P D) (rightM a0 a1 P D) := by
  have bad : Ev (fun k => spec_l15Right.j0 k P D true) false := Ev.up1 (by simp only [spec_l15Right.j0]; exact Ev.pos trivial (Ev.some' rfl))
  unfold spec_l15Right.f rightM
  refine Ev.ret (l01In_ev _ _ _) ?_
  by_cases c1 : 0 ≤ a0 ∧ a0 ≤ 1000000
  rotate_left
  · rw [decide_eq_false c1, Bool.false_and]
    exact Ev.neg ff bad
  rw [decide_eq_true c1, Bool.true_and]
  refine Ev.pos rfl (Ev.ret (l01In_ev _ _ _) ?_)
  by_cases c2 : 0 ≤ a1 ∧ a1 ≤ 200
  rotate_left
  · rw [decide_eq_false c2, Bool.false_and]
    exact Ev.neg ff bad
  rw [decide_eq_true c2, Bool.true_and]
  refine Ev.pos rfl ?_
  by_cases c3 : (P.length : Int) < 1
  · rw [decide_eq_false (show ¬ (1 ≤ (P.length : Int) ∧ (P.length : Int) ≤ 5) by omega), Bool.false_and]
    exact Ev.pos c3 bad
  refine Ev.neg c3 ?_
  by_cases c4 : (P.length : Int) > 5
  · rw [decide_eq_false (show ¬ (1 ≤ (P.length : Int) ∧ (P.length : Int) ≤ 5) by omega), Bool.false_and]
    exact Ev.pos c4 bad
  rw [decide_eq_true (show 1 ≤ (P.length : Int) ∧ (P.length : Int) ≤ 5 by omega), Bool.true_and]
  refine Ev.neg c4 ?_
  by_cases c5 : (D.length : Int) < 1
  · rw [decide_eq_false (show ¬ (1 ≤ (D.length : Int) ∧ (D.length : Int) ≤ 7) by omega), Bool.false_and]
    exact Ev.pos c5 bad
  refine Ev.neg c5 ?_
  by_cases c6 : (D.length : Int) > 7
  · rw [decide_eq_false (show ¬ (1 ≤ (D.length : Int) ∧ (D.length : Int) ≤ 7) by omega), Bool.false_and, decide_eq_true c6]
    exact bad
  rw [decide_eq_true (show 1 ≤ (D.length : Int) ∧ (D.length : Int) ≤ 7 by omega), Bool.true_and, decide_eq_false c6]
  refine Ev.up1 ?_
  simp only [spec_l15Right.j0]
  exact Ev.neg ff (right_l0 D (by omega) hd P [] (by simp; omega))
/-! ### steps -/
def leO : Option Int → Int → Bool
  | none, _ => true
  | some y, x => decide (y ≤ x)
def sortO : Option Int → List Int → Bool
  | _, [] => true
  | o, x :: a => leO o x && sortO (some x) a
theorem sortO_cons (o : Option Int) (x : Int) (a : List Int) : sortO o (x :: a) = (leO o x && sortO (some x) a) := rfl
theorem sortO_snoc : ∀ (q : List Int) (o : Option Int) (y x : Int), sortO o ((q ++ [y]) ++ [x]) = (sortO o (q ++ [y]) && decide (y ≤ x)) := by
  intro q
  induction q with
  | nil =>
    intro o y x
    show (leO o y && (leO (some y) x && true)) = ((leO o y && true) && decide (y ≤ x))
    rw [Bool.and_true, Bool.and_true]
    rfl
  | cons z q ih =>
    intro o y x
    rw [List.cons_append, List.cons_append, sortO_cons, sortO_cons, ih, Bool.and_assoc]
theorem less_ev (a b : Int) : cmp_Less_int.f a b = some (decide (a < b)) := by
  unfold cmp_Less_int.f cmp_isNaN_int.f
  simp
theorem sorted_l0 : ∀ (n : Nat) (p : List Int) (x : Int) (r : List Int), p.length = n → (p ++ x :: r).length < 4611686018427387904 → Ev (fun k => slices_IsSorted_int_int.l0 k (p ++ x :: r) (p.length : Int)) (sortO none (p ++ [x])) := by
  intro n
  induction n with
  | zero =>
    intro p x r hp hl
    obtain rfl : p = [] := List.eq_nil_of_length_eq_zero hp
    exact Ev.step (fun k => rfl) (Ev.neg (by simp) (Ev.some' rfl))
  | succ n ih =>
    intro p x r hp hl
    rcases List.eq_nil_or_concat p with rfl | ⟨q, y, rfl⟩
    · cases hp
    · rw [List.concat_eq_append] at *
      have hl' := hl
      rw [List.length_append, List.length_cons] at hl'
      have hlen : ((q ++ [y]).length : Int) = (q.length : Int) + 1 := len_snoc q y
      have hq : q.length = n := by rw [List.length_append] at hp; simpa using hp
      refine Ev.step (fun k => rfl) (Ev.pos (by omega) (Ev.pos (by omega) (Ev.pos (len_lt _ x r) ?_)))
      have e1 : wrap64 (((q ++ [y]).length : Int) - 1) = (q.length : Int) := by rw [w64 (by omega) (by omega)]; omega
      have e2 : rd ((q ++ [y]) ++ x :: r) (q.length : Int) = y := by rw [← snoc]; exact rd_mid q y (x :: r)
      rw [e1, rd_mid, e2]
      refine Ev.pos (by omega) (Ev.pos (by rw [List.length_append, List.length_cons]; omega) (Ev.ret (less_ev _ _) ?_))
      rw [sortO_snoc]
      by_cases c : x < y
      · rw [decide_eq_true c, decide_eq_false (show ¬ y ≤ x by omega), Bool.and_false]
        exact Ev.pos rfl (Ev.some' rfl)
      · rw [decide_eq_false c, decide_eq_true (show y ≤ x by omega), Bool.and_true]
        refine Ev.neg ff ?_
        have := ih q y (x :: r) hq (by rw [snoc]; exact hl)
        rw [snoc] at this
        exact this
theorem sorted_ev (S : List Int) (hl : S.length < 4611686018427387904) : Ev (fun k => slices_IsSorted_int_int.f k S) (sortO none S) := by
  unfold slices_IsSorted_int_int.f
  rw [w64 (by omega) (by omega)]
  rcases List.eq_nil_or_concat S with rfl | ⟨q, y, rfl⟩
  · exact Ev.step (fun k => rfl) (Ev.neg (by simp) (Ev.some' rfl))
  · rw [List.concat_eq_append] at *
    have := sorted_l0 q.length q y [] rfl hl
    rw [len_snoc, show (q.length : Int) + 1 - 1 = (q.length : Int) by omega]
    exact this
def stepsV (n : Int) : Option Int → List Int → Bool
  | _, [] => true
  | o, x :: a => decide (0 ≤ x ∧ x ≤ n) && (leO o x && stepsV n (some x) a)
theorem stepsV_cons (n : Int) (o : Option Int) (x : Int) (a : List Int) : stepsV n o (x :: a) = (decide (0 ≤ x ∧ x ≤ n) && (leO o x && stepsV n (some x) a)) := rfl
theorem steps_eq (n : Int) : ∀ (S : List Int) (o : Option Int), stepsV n o S = ((S.all fun x => decide (0 ≤ x ∧ x ≤ n)) && sortO o S) := by
  intro S
  induction S with
  | nil => intro o; rfl
  | cons x S ih =>
    intro o
    rw [stepsV_cons, sortO_cons, List.all_cons, ih]
    cases decide (0 ≤ x ∧ x ≤ n) <;> cases (S.all fun x => decide (0 ≤ x ∧ x ≤ n)) <;> cases leO o x <;> simp
/-! ### what steps do -/
def priceV (a b : Int) : Int := wrap64 (a - (wrap64 (Int.tdiv (wrap64 (a * b)) 100)))
def runV (a0 : Int) (P : List Int) : List (List Int) → List Int → List Int → Int → Int → List Int × Int × Int
  | d :: D, s :: S, o, r, l => runV a0 P D S (o ++ [mn l (rd d s)]) (wrap64 (r + (wrap64 ((mn l (rd d s)) * priceV a0 (rd P s))))) (wrap64 (l - (mn l (rd d s))))
  | _, _, o, r, l => (o, r, l)
theorem runV_len (a0 : Int) (P : List Int) : ∀ (D : List (List Int)) (S o : List Int) (r l : Int), (runV a0 P D S o r l).1.length ≤ o.length + D.length := by
  intro D
  induction D with
  | nil => intro S o r l; exact Nat.le_refl _
  | cons d D ih =>
    intro S o r l
    cases S with
    | nil => show o.length ≤ _; omega
    | cons s S =>
      have := ih S (o ++ [mn l (rd d s)]) (wrap64 (r + (wrap64 ((mn l (rd d s)) * priceV a0 (rd P s))))) (wrap64 (l - (mn l (rd d s))))
      rw [List.length_append, List.length_singleton] at this
      rw [runV, List.length_cons]
      omega
theorem markOf_l0 (a0 : Int) (P : List Int) (C : List Int) : ∀ (A : List (List Int)) (S : List Int) (p : List (List Int)) (q o : List Int) (r l : Int), p.length = q.length → A.length = S.length → (q ++ S).length < 1000000 → o.length = q.length → (∀ d ∈ A, d.length = P.length) → (∀ s ∈ S, 0 ≤ s ∧ s < (P.length : Int)) →
    Ev (fun k => impl_markOf.l0 k a0 P (p ++ A) (q ++ S) ((q ++ S).length : Int) (q.length : Int) C o r l) (C, runV a0 P A S o r l) := by
  intro A
  induction A with
  | nil =>
    intro S p q o r l hpq hAS hl _ _ _
    obtain rfl : S = [] := List.eq_nil_of_length_eq_zero hAS.symm
    exact Ev.step (fun k => rfl) (Ev.neg (len_end q) (Ev.some' rfl))
  | cons d A ih =>
    intro S p q o r l hpq hAS hl ho hd hS
    cases S with
    | nil => cases hAS
    | cons s S =>
      have hl' := hl
      rw [List.length_append, List.length_cons] at hl'
      obtain ⟨s0, s1⟩ := hS s (by simp)
      have hdl := hd d (by simp)
      have hrl : rd_L1 (p ++ d :: A) (q.length : Int) = d := by rw [← hpq]; exact rdM_mid p d A
      have := ih S (p ++ [d]) (q ++ [s]) (o ++ [mn l (rd d s)]) (wrap64 (r + (wrap64 ((mn l (rd d s)) * priceV a0 (rd P s))))) (wrap64 (l - (mn l (rd d s)))) (by simp [hpq]) (by simpa using hAS) (by rw [← snoc]; exact hl) (by simp [ho]) (fun z hz => hd z (by simp [hz])) (fun z hz => hS z (by simp [hz]))
      rw [← snoc, ← snoc, show (q ++ [s]).length = q.length + 1 by simp] at this
      refine Ev.step (fun k => rfl) (Ev.pos (len_lt q s S) (Ev.pos (by omega) (Ev.pos (len_lt q s S) (Ev.pos (by rw [← hpq]; exact len_lt p d A) ?_))))
      rw [rd_mid q s S, hrl]
      refine Ev.pos s0 (Ev.pos (by omega) (Ev.pos (by omega) (Ev.pos s1 (Ev.ret rfl ?_))))
      rw [w64n (by omega)]
      exact this
theorem specRun_l0 (a0 : Int) (P : List Int) (hP : P.length < 1000000) : ∀ (A : List (List Int)) (S : List Int) (p : List (List Int)) (q o : List Int) (r l : Int), p.length = q.length → A.length = S.length → (q ++ S).length < 1000000 → o.length = q.length → (∀ d ∈ A, d.length = P.length) →
    Ev (fun k => spec_MarkOf.l0 k a0 P (p ++ A) (q ++ S) (q.length : Int) q o r l) (if stepsV ((P.length : Int) - 1) q.getLast? S = true then (q ++ S, (runV a0 P A S o r l).1, (runV a0 P A S o r l).2.1, (runV a0 P A S o r l).2.2, 0) else ([], [], 0, 0, 3)) := by
  intro A
  induction A with
  | nil =>
    intro S p q o r l hpq hAS hl _ _
    obtain rfl : S = [] := List.eq_nil_of_length_eq_zero hAS.symm
    refine Ev.up1 ?_
    simp only [spec_MarkOf.l0]
    exact Ev.neg (len_end q) (Ev.some' (by rw [if_pos (show stepsV ((P.length : Int) - 1) q.getLast? [] = true from rfl), List.append_nil]; rfl))
  | cons d A ih =>
    intro S p q o r l hpq hAS hl ho hd
    cases S with
    | nil => cases hAS
    | cons s S =>
      have hl' := hl
      rw [List.length_append, List.length_cons] at hl'
      have hdl := hd d (by simp)
      have hrl : rd_L1 (p ++ d :: A) (q.length : Int) = d := by rw [← hpq]; exact rdM_mid p d A
      have hnext := ih S (p ++ [d]) (q ++ [s]) (o ++ [mn l (rd d s)]) (wrap64 (r + (wrap64 ((mn l (rd d s)) * priceV a0 (rd P s))))) (wrap64 (l - (mn l (rd d s)))) (by simp [hpq]) (by simpa using hAS) (by rw [← snoc]; exact hl) (by simp [ho]) (fun z hz => hd z (by simp [hz]))
      rw [← snoc, ← snoc, List.getLast?_concat, show (q ++ [s]).length = q.length + 1 by simp] at hnext
      refine Ev.up1 ?_
      simp only [spec_MarkOf.l0]
      refine Ev.pos (len_lt q s S) (Ev.pos (by omega) (Ev.ret (l01In_ev _ _ _) ?_))
      rw [rd_mid q s S, hrl, w64 (x := (P.length : Int) - 1) (by omega) (by omega), stepsV_cons]
      by_cases hin : 0 ≤ s ∧ s ≤ (P.length : Int) - 1
      rotate_left
      · rw [decide_eq_false hin, Bool.false_and, if_neg ff]
        exact Ev.neg ff (Ev.some' rfl)
      rw [decide_eq_true hin, Bool.true_and]
      refine Ev.pos rfl ?_
      have go : ∀ v, Ev (fun k => spec_MarkOf.l0 k a0 P (p ++ d :: A) (q ++ s :: S) ((q.length + 1 : Nat) : Int) (q ++ [s]) (o ++ [mn l (rd d s)]) (wrap64 (r + (wrap64 ((mn l (rd d s)) * priceV a0 (rd P s))))) (wrap64 (l - (mn l (rd d s))))) v →
          Ev (fun k => if (q.length : Int) < ((p ++ d :: A).length : Int) then (if 0 ≤ s then (if s < (d.length : Int) then (if s < (P.length : Int) then ((spec_l15Price.f a0 (rd P s)).bind fun t => (if o.length < 17592186044416 then (if q.length < 17592186044416 then (spec_MarkOf.l0 k a0 P (p ++ d :: A) (q ++ s :: S) (wrap64 ((q.length : Int) + 1)) (q ++ [s]) (o ++ [mn l (rd d s)]) (wrap64 (r + (wrap64 ((mn l (rd d s)) * t)))) (wrap64 (l - (mn l (rd d s))))) else (none)) else (none))) else (none)) else (none)) else (none)) else (none)) v := by
        intro v hv
        refine Ev.pos (by rw [← hpq]; exact len_lt p d A) (Ev.pos hin.1 (Ev.pos (by omega) (Ev.pos (by omega) (Ev.ret rfl (Ev.pos (by omega) (Ev.pos (by omega) ?_))))))
        rw [w64n (by omega)]
        exact hv
      rcases List.eq_nil_or_concat q with rfl | ⟨q', y, rfl⟩
      · refine Ev.neg (by simp) (go _ ?_)
        refine Ev.eq hnext ?_
        rfl
      · rw [List.concat_eq_append] at *
        have hlen : ((q' ++ [y]).length : Int) = (q'.length : Int) + 1 := len_snoc q' y
        refine Ev.pos (by omega) ?_
        rw [w64 (x := ((q' ++ [y]).length : Int) - 1) (by omega) (by omega), rd_prev, List.getLast?_concat]
        refine Ev.pos (by omega) (Ev.pos (by simp only [List.length_append, List.length_cons, List.length_nil]; omega) ?_)
        by_cases c : s < y
        · rw [show leO (some y) s = false from decide_eq_false (by omega), Bool.false_and, if_neg ff]
          exact Ev.pos c (Ev.some' rfl)
        · rw [show leO (some y) s = true from decide_eq_true (by omega), Bool.true_and]
          exact Ev.neg c (go _ (Ev.eq hnext rfl))
/-- What MarkOf answers. -/
def markJ (a0 a1 : Int) (P : List Int) (D : List (List Int)) (S : List Int) : List Int × List Int × Int × Int × Int :=
  if (P.length : Int) > 4096 ∨ (D.length : Int) > 4096 ∨ (S.length : Int) > 4096 then ([], [], 0, 0, 2) else if rightM a0 a1 P D = true then (if (S.length : Int) = (D.length : Int) then (if stepsV ((P.length : Int) - 1) none S = true then (S, (runV a0 P D S [] 0 a1).1, (runV a0 P D S [] 0 a1).2.1, (runV a0 P D S [] 0 a1).2.2, 0) else ([], [], 0, 0, 3)) else ([], [], 0, 0, 3)) else ([], [], 0, 0, 1)
theorem right_days {a0 a1 : Int} {P : List Int} {D : List (List Int)} (h : rightM a0 a1 P D = true) : (P.length : Int) ≤ 5 ∧ (D.length : Int) ≤ 7 ∧ ∀ d ∈ D, d.length = P.length := by
  unfold rightM at h
  simp only [Bool.and_eq_true, decide_eq_true_eq] at h
  refine ⟨h.2.2.1.2, h.2.2.2.1.2, fun d hd => ?_⟩
  have := List.all_eq_true.1 h.2.2.2.2.2 d hd
  unfold dayV at this
  rw [Bool.and_eq_true, decide_eq_true_eq] at this
  exact this.1
theorem implMarkOf_ev (a0 a1 : Int) (P : List Int) (D : List (List Int)) (S : List Int) : Ev (fun k => impl_MarkOf.f k a0 a1 P D S) (markJ a0 a1 P D S) := by
  have bad : Ev (fun k => impl_MarkOf.j0 k a0 a1 P D S true) ([], [], 0, 0, 2) := Ev.up1 (by simp only [impl_MarkOf.j0]; exact Ev.pos trivial (Ev.some' rfl))
  unfold impl_MarkOf.f markJ
  refine Ev.ret rfl ?_
  by_cases c1 : (P.length : Int) > 4096
  · rw [if_pos (Or.inl c1), decide_eq_false (by omega)]
    exact Ev.neg ff bad
  rw [decide_eq_true (by omega)]
  refine Ev.pos rfl (Ev.ret rfl ?_)
  by_cases c2 : (D.length : Int) > 4096
  · rw [if_pos (Or.inr (Or.inl c2)), decide_eq_false (by omega)]
    exact Ev.neg ff bad
  rw [decide_eq_true (by omega)]
  refine Ev.pos rfl (Ev.ret rfl ?_)
  by_cases c3 : (S.length : Int) > 4096
  · rw [if_pos (Or.inr (Or.inr c3)), decide_eq_false (by omega)]
    exact bad
  rw [if_neg (by omega), decide_eq_true (by omega)]
  refine Ev.up1 ?_
  simp only [impl_MarkOf.j0]
  refine Ev.neg ff (Ev.bind (areMarks_ev a0 a1 P D (by omega)) (Ev.ite (fun hr => ?_) (fun _ => Ev.some' rfl)))
  obtain ⟨r1, r2, r3⟩ := right_days hr
  refine Ev.ite (fun hSD => ?_) (fun _ => Ev.some' rfl)
  rw [w64 (by omega) (by omega), steps_eq]
  refine Ev.ret rfl ?_
  cases ha : (S.all fun n => decide (0 ≤ n ∧ n ≤ (P.length : Int) - 1)) with
  | false => rw [Bool.false_and, if_neg ff]; exact Ev.neg ff (Ev.some' rfl)
  | true =>
    rw [Bool.true_and]
    refine Ev.pos rfl (Ev.bind (sorted_ev S (by omega)) (Ev.ite (fun _ => ?_) (fun _ => Ev.some' rfl)))
    have hin : ∀ s ∈ S, 0 ≤ s ∧ s < (P.length : Int) := fun s hs => by have := of_decide_eq_true (List.all_eq_true.1 ha s hs); omega
    have hrun := markOf_l0 a0 P S D S [] [] [] 0 a1 rfl (by omega) (by simp; omega) rfl r3 hin
    have : Ev (fun k => impl_markOf.f k a0 a1 P D S) (S, runV a0 P D S [] 0 a1) := by
      unfold impl_markOf.f
      refine Ev.ret (show slices_Clone_int_int.f S = some S from if_pos (by omega)) hrun
    exact Ev.bind this (Ev.some' rfl)
theorem specMarkOf_ev (a0 a1 : Int) (P : List Int) (D : List (List Int)) (S : List Int) (hd : ∀ d ∈ D, d.length < 4611686018427387904) : Ev (fun k => spec_MarkOf.f k a0 a1 P D S) (markJ a0 a1 P D S) := by
  have bad : Ev (fun k => spec_MarkOf.j0 k a0 a1 P D S true) ([], [], 0, 0, 2) := Ev.up1 (by simp only [spec_MarkOf.j0]; exact Ev.pos trivial (Ev.some' rfl))
  unfold spec_MarkOf.f markJ
  by_cases c1 : (P.length : Int) > 4096
  · rw [if_pos (Or.inl c1)]
    exact Ev.ret (show spec_l15Long.f P D = some true from if_pos c1) (Ev.pos rfl bad)
  refine Ev.ret (show spec_l15Long.f P D = some (decide ((D.length : Int) > 4096)) from if_neg c1) ?_
  by_cases c2 : (D.length : Int) > 4096
  · rw [if_pos (Or.inr (Or.inl c2)), decide_eq_true c2]
    exact Ev.pos rfl bad
  rw [decide_eq_false c2]
  refine Ev.neg ff ?_
  by_cases c3 : (S.length : Int) > 4096
  · rw [if_pos (Or.inr (Or.inr c3)), decide_eq_true c3]
    exact bad
  rw [if_neg (by omega), decide_eq_false c3]
  refine Ev.up1 ?_
  simp only [spec_MarkOf.j0]
  refine Ev.neg ff (Ev.bind (specRight_ev a0 a1 P D hd) (Ev.ite (fun hr => ?_) (fun _ => Ev.some' rfl)))
  obtain ⟨r1, r2, r3⟩ := right_days hr
  refine Ev.ite (fun hSD => ?_) (fun _ => Ev.some' rfl)
  exact specRun_l0 a0 P (by omega) D S [] [] [] 0 a1 rfl (by omega) (by simp; omega) rfl r3
theorem markJ_len (a0 a1 : Int) (P : List Int) (D : List (List Int)) (S : List Int) : (markJ a0 a1 P D S).1.length ≤ 4096 ∧ (markJ a0 a1 P D S).2.1.length ≤ 4096 := by
  unfold markJ
  by_cases c : (P.length : Int) > 4096 ∨ (D.length : Int) > 4096 ∨ (S.length : Int) > 4096
  · rw [if_pos c]; exact ⟨Nat.zero_le _, Nat.zero_le _⟩
  rw [if_neg c]
  split
  · split
    · split
      · have := runV_len a0 P D S [] 0 a1
        rw [List.length_nil] at this
        exact ⟨by show S.length ≤ 4096; omega, by show (runV a0 P D S [] 0 a1).1.length ≤ 4096; omega⟩
      · exact ⟨Nat.zero_le _, Nat.zero_le _⟩
    · exact ⟨Nat.zero_le _, Nat.zero_le _⟩
  · exact ⟨Nat.zero_le _, Nat.zero_le _⟩

theorem eqPlan_ev (a b : List Int) (x y : Int) (ha : a.length ≤ 1048576) (hb : b.length ≤ 1048576) : Ev (fun k => laws_eqMarkPlan.f k a b x y a b x y) true := by
  unfold laws_eqMarkPlan.f
  exact Ev.bind (eqIntS_same a (by omega)) (Ev.pos rfl (Ev.bind (eqIntS_same b (by omega)) (Ev.pos rfl (Ev.pos rfl (Ev.pos rfl (Ev.some' rfl))))))
theorem markPlan_ev (a b : List Int) (x y : Int) (ha : a.length ≤ 4096) (hb : b.length ≤ 4096) : Ev (fun k => laws_markMarkPlan.f k a b x y 1) (1 + (a.length : Int) + (b.length : Int), iota 1 a.length, iota (1 + (a.length : Int)) b.length) := by
  unfold laws_markMarkPlan.f
  exact Ev.bind (markIntS_ev a 1 (by omega) (by omega) (by omega)) (Ev.bind (markIntS_ev b (1 + (a.length : Int)) (by omega) (by omega) (by omega)) (Ev.some' rfl))
theorem heldPlan_ev (m n : Nat) (x y : Int) (ha : m ≤ 4096) (hb : n ≤ 4096) : Ev (fun k => laws_heldMarkPlan.f k (iota 1 m) (iota (1 + (m : Int)) n) x y 1) (1 + (m : Int) + (n : Int)) := by
  unfold laws_heldMarkPlan.f
  exact Ev.bind (heldIntS_ev m 1 (by omega) (by omega)) (Ev.neg (by omega) (Ev.bind (heldIntS_ev n (1 + (m : Int)) (by omega) (by omega)) (Ev.neg (by omega) (Ev.some' rfl))))
theorem FnExactMarkOf : laws_FnExactMarkOf.Pure := by
  intro a0 a1 P D S _ _ hP hD hS
  refine Ev.rounds (?_ : Ev (fun k => laws_FnExactMarkOf.f k a0 a1 P D S) true)
  unfold laws_FnExactMarkOf.f
  by_cases c1 : (P.length : Int) > 1048576
  · exact Ev.pos c1 (Ev.some' rfl)
  refine Ev.neg c1 ?_
  by_cases c2 : (S.length : Int) > 1048576
  · exact Ev.pos c2 (Ev.some' rfl)
  refine Ev.neg c2 ?_
  obtain ⟨r, hr, h⟩ := szIntSS_ev D 1048576 (by omega) hD.1 (fun x hx => (hD.2 x hx).1)
  refine Ev.bind hr ?_
  by_cases c : r < 0
  · exact Ev.pos c (Ev.some' rfl)
  obtain ⟨hl, hs⟩ := h.resolve_left c
  have hm : ∀ x ∈ D, x.length ≤ 1048576 := fun x hx => by have := sumLen_mem D x hx; omega
  have tP := toIntS_ev P (by omega)
  have tS := toIntS_ev S (by omega)
  have tD := toIntSS_ev D hl hm
  have eP := eqIntS_same P (by omega)
  have eS := eqIntS_same S (by omega)
  have eD := eqIntSS_ev D (by omega) hm
  have iM := implMarkOf_ev a0 a1 P D S
  have sM := specMarkOf_ev a0 a1 P D S (fun d hd => by have := hm d hd; omega)
  obtain ⟨n1, n2⟩ := markJ_len a0 a1 P D S
  generalize markJ a0 a1 P D S = v at iM sM n1 n2
  have eV := eqPlan_ev v.1 v.2.1 v.2.2.1 v.2.2.2.1 (by omega) (by omega)
  have ne : (v.2.2.2.2 != v.2.2.2.2) = false := by simp
  have mP := markIntS_ev P 1 (by omega) (by omega) (by omega)
  have mD := markIntSS_ev D (1 + (P.length : Int)) (by omega) (by omega) (by omega)
  have mS := markIntS_ev S (1 + (P.length : Int) + sumLen D) (by omega) (by omega) (by omega)
  have mV := markPlan_ev v.1 v.2.1 v.2.2.1 v.2.2.2.1 n1 n2
  have hV := heldPlan_ev v.1.length v.2.1.length v.2.2.1 v.2.2.2.1 n1 n2
  refine Ev.neg c (Ev.bind tP (Ev.bind tD (Ev.bind tS (Ev.bind sM (Ev.bind tP (Ev.bind tD (Ev.bind tS (Ev.bind iM (Ev.bind eV (Ev.pos rfl (Ev.up1 ?_)))))))))))
  simp only [laws_FnExactMarkOf.j0, ne]
  refine Ev.neg ff (Ev.bind tP (Ev.bind eP (Ev.pos rfl (Ev.bind tD (Ev.bind eD (Ev.pos rfl (Ev.bind tS (Ev.bind eS (Ev.pos rfl (Ev.bind mP (Ev.bind mD (Ev.bind mS (Ev.neg (by simp only; omega) (Ev.bind eV (Ev.pos rfl (Ev.up1 ?_))))))))))))))))
  simp only [laws_FnExactMarkOf.j1]
  refine Ev.neg ff (Ev.bind mV (Ev.bind hV (Ev.neg (by omega) (Ev.pos rfl (Ev.bind tP (Ev.bind tD (Ev.bind tS (Ev.bind iM (Ev.bind eV (Ev.pos rfl (Ev.up1 ?_)))))))))))
  simp only [laws_FnExactMarkOf.j2, ne]
  exact Ev.neg ff (Ev.bind hV (Ev.neg (by omega) (Ev.pos rfl (Ev.some' rfl))))

end Go.Proofs.Ytehjdodmgephiaa.Pure
