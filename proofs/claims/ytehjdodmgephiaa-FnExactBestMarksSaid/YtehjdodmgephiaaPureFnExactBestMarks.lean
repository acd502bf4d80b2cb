/- At every argument the program's BestMarks answers as the reference's, changes none and shares nothing: the law's plain statement, with no condition. -/
import Derived.Test.YtehjdodmgephiaaXFnExactBestMarksx9
import Derived.Test.YtehjdodmgephiaaAx
import Derived.Test.YtehjdodmgephiaaIdx
namespace Go.Proofs.Ytehjdodmgephiaa.Pure
open Go.RowKit Go.Proofs.Ytehjdodmgephiaa.XFnExactBestMarks Go.Proofs.YtehjdodmgephiaaW.PrintWords Go.Proofs.YtehjdodmgephiaaW.PrintLast
open Go.Proofs.YtehjdodmgephiaaW.Ax Go.Proofs.YtehjdodmgephiaaW.Idx
set_option linter.unusedVariables false
set_option linter.unusedSimpArgs false
theorem toIntS_l0 : ∀ (a p t : List Int), t.length = a.length → (p ++ a).length < 4611686018427387904 →
    Ev (fun k => laws_toIntS.l0 k (p ++ a) (p ++ t) (p.length : Int)) (p ++ a) := by
  intro a
  induction a with
  | nil =>
    intro p t ht hl
    obtain rfl : t = [] := List.eq_nil_of_length_eq_zero ht
    exact Ev.step (fun k => rfl) (Ev.neg (len_end p) (Ev.some' rfl))
  | cons x a ih =>
    intro p t ht hl
    match t, ht with
    | y :: t, ht =>
      have hl' : (p ++ x :: a).length < 4611686018427387904 := hl
      rw [List.length_append, List.length_cons] at hl'
      refine Ev.step (fun k => rfl) (Ev.pos (len_lt p x a) (Ev.pos (by omega) (Ev.pos (len_lt p y t) ?_)))
      rw [rd_mid p x a, set_mid, w64 (by omega) (by omega), ← len_snoc p x, snoc p x a, snoc p x t]
      exact ih (p ++ [x]) t (by simpa using ht) (by rw [← snoc]; exact hl)
theorem toIntS_ev (a : List Int) (hl : a.length ≤ 1048576) : Ev (fun k => laws_toIntS.f k a) a := by
  unfold laws_toIntS.f
  refine Ev.pos (by omega) (Ev.pos (by omega) ?_)
  rw [Int.toNat_natCast]
  exact toIntS_l0 a [] (List.replicate a.length 0) (by simp) (by simp; omega)
theorem eqIntS_l0 : ∀ (a b p q : List Int), p.length = q.length → a.length = b.length → (p ++ a).length < 4611686018427387904 →
    Ev (fun k => laws_eqIntS.l0 k (p ++ a) (q ++ b) (p.length : Int)) (decide (a = b)) := by
  intro a
  induction a with
  | nil =>
    intro b p q hpq hab hl
    obtain rfl : b = [] := List.eq_nil_of_length_eq_zero hab.symm
    refine Ev.step (fun k => rfl) (Ev.neg (len_end p) (Ev.some' rfl))
  | cons x a ih =>
    intro b p q hpq hab hl
    match b, hab with
    | y :: b, hab =>
      have hq : ((p.length : Int)) < ((q ++ y :: b).length : Int) := by rw [hpq]; exact len_lt q y b
      have hl' : (p ++ x :: a).length < 4611686018427387904 := hl
      rw [List.length_append, List.length_cons] at hl'
      refine Ev.step (fun k => rfl) (Ev.pos (len_lt p x a) (Ev.pos (by omega) (Ev.pos hq ?_)))
      rw [rd_mid p x a, hpq, rd_mid q y b, ← hpq]
      by_cases e : x = y
      · subst e
        refine Ev.pos (by rfl) ?_
        rw [w64 (by omega) (by omega), ← len_snoc p x, snoc p, snoc q]
        exact Ev.eq (ih b (p ++ [x]) (q ++ [x]) (by simp [hpq]) (by simpa using hab) (by rw [← snoc]; exact hl)) (by simp)
      · exact Ev.neg e (Ev.some' (by simp [e]))
theorem eqIntS_ev (a b : List Int) (hl : a.length < 4611686018427387904) : Ev (fun k => laws_eqIntS.f k a b) (decide (a = b)) := by
  unfold laws_eqIntS.f
  by_cases h : (a.length : Int) = (b.length : Int)
  · exact Ev.pos h (eqIntS_l0 a b [] [] rfl (by omega) hl)
  · refine Ev.neg h (Ev.some' ?_)
    symm
    rw [decide_eq_false_iff_not]
    rintro rfl
    exact h rfl
theorem markIntS_l0 : ∀ (a p : List Int) (c : Int), (p ++ a).length < 4611686018427387904 → 0 ≤ c → c + a.length < 4611686018427387904 →
    Ev (fun k => laws_markIntS.l0 k (p ++ a) c (p.length : Int)) (c + a.length, p ++ iota c a.length) := by
  intro a
  induction a with
  | nil =>
    intro p c hl h0 hc
    exact Ev.step (fun k => rfl) (Ev.neg (len_end p) (Ev.some' (by simp [iota])))
  | cons x a ih =>
    intro p c hl h0 hc
    have hl' : (p ++ x :: a).length < 4611686018427387904 := hl
    rw [List.length_append, List.length_cons] at hl'
    rw [List.length_cons] at hc
    refine Ev.step (fun k => rfl) (Ev.pos (len_lt p x a) (Ev.pos (by omega) ?_))
    rw [set_mid, w64 (by omega) (by omega), w64 (by omega) (by omega), ← len_snoc p c, snoc p c a]
    refine Ev.eq (ih (p ++ [c]) (c + 1) (by simp; omega) (by omega) (by omega)) ?_
    rw [← snoc, List.length_cons, iota]
    congr 1
    omega
theorem markIntS_ev (a : List Int) (c : Int) (hl : a.length < 4611686018427387904) (h0 : 0 ≤ c) (hc : c + a.length < 4611686018427387904) : Ev (fun k => laws_markIntS.f k a c) (c + a.length, iota c a.length) := by
  unfold laws_markIntS.f
  exact markIntS_l0 a [] c hl h0 hc
theorem rdL_mid (p : List (List Int)) (x : List Int) (r : List (List Int)) : rd_L1 (p ++ x :: r) (p.length : Int) = x := getD_mid p x r []
theorem eqIntS_same (a : List Int) (h : a.length < 4611686018427387904) : Ev (fun k => laws_eqIntS.f k a a) true := Ev.eq (eqIntS_ev a a h) (by simp)
def sumLen : List (List Int) → Nat
  | [] => 0
  | x :: a => x.length + sumLen a
theorem sumLen_mem : ∀ (a : List (List Int)) (x : List Int), x ∈ a → x.length ≤ sumLen a := by
  intro a
  induction a with
  | nil => intro x hx; cases hx
  | cons y a ih =>
    intro x hx
    rw [sumLen]
    rcases List.mem_cons.1 hx with rfl | hx
    · omega
    · have := ih x hx; omega
theorem szIntSS_l0 : ∀ (a p : List (List Int)) (b : Int), (p ++ a).length < 4611686018427387904 → 0 ≤ b → b ≤ 1048576 → (∀ x ∈ a, x.length ≤ 9223372036854775807) → ∃ r, Ev (fun k => laws_szIntSS.l0 k (p ++ a) b (p.length : Int)) r ∧ (r < 0 ∨ (sumLen a : Int) ≤ b) := by
  intro a
  induction a with
  | nil => intro p b _ h0 _ _; exact ⟨_, Ev.step (fun k => rfl) (Ev.neg (len_end p) (Ev.some' rfl)), .inr (by show ((0 : Nat) : Int) ≤ b; omega)⟩
  | cons x a ih =>
    intro p b hl h0 h1 hx
    have hl' := hl
    rw [List.length_append, List.length_cons] at hl'
    have hs := hx x (by simp)
    by_cases c : b - (x.length : Int) < 0
    · have e1 : laws_szIntS.f x b = some (-1) := by
        unfold laws_szIntS.f
        rw [w64 (by omega) (by omega), if_pos c]
      refine ⟨-1, Ev.step (fun k => rfl) (Ev.pos (len_lt p x a) (Ev.pos (by omega) ?_)), .inl (by omega)⟩
      rw [rdL_mid]
      exact Ev.ret e1 (Ev.pos (by omega) (Ev.some' rfl))
    · have e1 : laws_szIntS.f x b = some (b - (x.length : Int)) := by
        unfold laws_szIntS.f
        rw [w64 (by omega) (by omega), if_neg c]
      obtain ⟨r, hr, hq⟩ := ih (p ++ [x]) (b - (x.length : Int)) (by rw [← snoc]; exact hl) (by omega) (by omega) (fun y hy => hx y (by simp [hy]))
      refine ⟨r, Ev.step (fun k => rfl) (Ev.pos (len_lt p x a) (Ev.pos (by omega) ?_)), ?_⟩
      · rw [rdL_mid]
        refine Ev.ret e1 (Ev.neg (by omega) ?_)
        rw [w64 (by omega) (by omega), ← len_snoc p x, snoc p x a]
        exact hr
      · rcases hq with hq | hq
        · exact .inl hq
        · exact .inr (by rw [sumLen]; omega)
theorem szIntSS_ev (l : List (List Int)) (b : Int) (hb : 0 ≤ b ∧ b ≤ 1048576) (hl : l.length ≤ 9223372036854775807) (hx : ∀ x ∈ l, x.length ≤ 9223372036854775807) : ∃ r, Ev (fun k => laws_szIntSS.f k l b) r ∧ (r < 0 ∨ (l.length ≤ 1048576 ∧ sumLen l ≤ 1048576)) := by
  unfold laws_szIntSS.f
  rw [w64 (by omega) (by omega)]
  by_cases c : b - (l.length : Int) < 0
  · exact ⟨-1, Ev.pos c (Ev.some' rfl), .inl (by omega)⟩
  · obtain ⟨r, hr, hq⟩ := szIntSS_l0 l [] (b - (l.length : Int)) (by simp; omega) (by omega) (by omega) hx
    exact ⟨r, Ev.neg c hr, hq.imp id (fun h => ⟨by omega, by omega⟩)⟩
theorem toIntSS_l0 : ∀ (a p t : List (List Int)), t.length = a.length → (p ++ a).length < 4611686018427387904 → (∀ x ∈ a, x.length ≤ 1048576) →
    Ev (fun k => laws_toIntSS.l0 k (p ++ a) (p ++ t) (p.length : Int)) (p ++ a) := by
  intro a
  induction a with
  | nil =>
    intro p t ht hl _
    obtain rfl : t = [] := List.eq_nil_of_length_eq_zero ht
    exact Ev.step (fun k => rfl) (Ev.neg (len_end p) (Ev.some' rfl))
  | cons x a ih =>
    intro p t ht hl hx
    match t, ht with
    | y :: t, ht =>
      have hl' : (p ++ x :: a).length < 4611686018427387904 := hl
      rw [List.length_append, List.length_cons] at hl'
      refine Ev.step (fun k => rfl) (Ev.pos (len_lt p x a) (Ev.pos (by omega) ?_))
      rw [rdL_mid]
      refine Ev.bind (toIntS_ev x (hx x (by simp))) (Ev.pos (len_lt p y t) ?_)
      rw [set_mid, w64 (by omega) (by omega), ← len_snoc p x, snoc p x a, snoc p x t]
      exact ih (p ++ [x]) t (by simpa using ht) (by rw [← snoc]; exact hl) (fun z hz => hx z (by simp [hz]))
theorem toIntSS_ev (a : List (List Int)) (hl : a.length ≤ 1048576) (hx : ∀ x ∈ a, x.length ≤ 1048576) : Ev (fun k => laws_toIntSS.f k a) a := by
  unfold laws_toIntSS.f
  refine Ev.pos (by omega) (Ev.pos (by omega) ?_)
  rw [Int.toNat_natCast]
  exact toIntSS_l0 a [] (List.replicate a.length []) (by simp) (by simp; omega) hx
theorem eqIntSS_l0 : ∀ (a p : List (List Int)), (p ++ a).length < 4611686018427387904 → (∀ x ∈ a, x.length ≤ 1048576) →
    Ev (fun k => laws_eqIntSS.l0 k (p ++ a) (p ++ a) (p.length : Int)) true := by
  intro a
  induction a with
  | nil => intro p hl _; exact Ev.step (fun k => rfl) (Ev.neg (len_end p) (Ev.some' rfl))
  | cons x a ih =>
    intro p hl hx
    have hl' : (p ++ x :: a).length < 4611686018427387904 := hl
    rw [List.length_append, List.length_cons] at hl'
    have h1 := hx x (by simp)
    refine Ev.step (fun k => rfl) (Ev.pos (len_lt p x a) (Ev.pos (by omega) (Ev.pos (len_lt p x a) ?_)))
    rw [rdL_mid]
    refine Ev.bind (eqIntS_same x (by omega)) (Ev.pos rfl ?_)
    rw [w64 (by omega) (by omega), ← len_snoc p x, snoc p x a]
    exact ih (p ++ [x]) (by rw [← snoc]; exact hl) (fun z hz => hx z (by simp [hz]))
theorem eqIntSS_ev (a : List (List Int)) (hl : a.length < 4611686018427387904) (hx : ∀ x ∈ a, x.length ≤ 1048576) : Ev (fun k => laws_eqIntSS.f k a a) true := by
  unfold laws_eqIntSS.f
  exact Ev.pos rfl (eqIntSS_l0 a [] hl hx)
theorem markIntSS_l0 : ∀ (a p : List (List Int)) (c : Int), (p ++ a).length < 4611686018427387904 → 0 ≤ c → c + sumLen a < 1000000000000 →
    Ev (fun k => laws_markIntSS.l0 k (p ++ a) c (p.length : Int)) (c + sumLen a) := by
  intro a
  induction a with
  | nil => intro p c hl _ _; exact Ev.step (fun k => rfl) (Ev.neg (len_end p) (Ev.some' (by show c = c + ((0 : Nat) : Int); omega)))
  | cons x a ih =>
    intro p c hl h0 hc
    have hl' : (p ++ x :: a).length < 4611686018427387904 := hl
    rw [List.length_append, List.length_cons] at hl'
    rw [sumLen] at hc ⊢
    refine Ev.step (fun k => rfl) (Ev.pos (len_lt p x a) ?_)
    have hg : (p ++ x :: a).getD ((p.length : Int)).toNat ([] : List Int) = x := getD_mid p x a []
    rw [hg]
    refine Ev.bind (markIntS_ev x c (by omega) h0 (by omega)) ?_
    rw [w64 (by omega) (by omega), ← len_snoc p x, snoc p x a]
    exact Ev.eq (ih (p ++ [x]) (c + x.length) (by rw [← snoc]; exact hl) (by omega) (by omega)) (by omega)
theorem markIntSS_ev (a : List (List Int)) (c : Int) (hl : a.length < 4611686018427387904) (h0 : 0 ≤ c) (hc : c + sumLen a < 1000000000000) : Ev (fun k => laws_markIntSS.f k a c) (c + sumLen a) := by
  unfold laws_markIntSS.f
  exact markIntSS_l0 a [] c hl h0 hc
theorem heldIntS_l0 : ∀ (n : Nat) (p : List Int) (c : Int), (p.length + n) < 4611686018427387904 → 0 ≤ c → c + n < 4611686018427387904 →
    Ev (fun k => laws_heldIntS.l0 k (p ++ iota c n) c (p.length : Int)) (c + n) := by
  intro n
  induction n with
  | zero =>
    intro p c hl h0 hc
    exact Ev.step (fun k => rfl) (Ev.neg (len_end p) (Ev.some' (by simp)))
  | succ n ih =>
    intro p c hl h0 hc
    rw [iota]
    refine Ev.step (fun k => rfl) (Ev.pos (len_lt p c _) (Ev.pos (by omega) (Ev.pos (rd_mid p c _) ?_)))
    rw [w64 (by omega) (by omega), w64 (by omega) (by omega), ← len_snoc p c, snoc p c]
    exact Ev.eq (ih (p ++ [c]) (c + 1) (by simp; omega) (by omega) (by omega)) (by omega)
theorem heldIntS_ev (n : Nat) (c : Int) (h0 : 0 ≤ c) (hc : c + n < 4611686018427387904) : Ev (fun k => laws_heldIntS.f k (iota c n) c) (c + n) := by
  unfold laws_heldIntS.f
  exact heldIntS_l0 n [] c (by simp; omega) h0 hc
/-- In bounds, and each above the one ahead. -/
def risP (lo hi : Int) : Option Int → List Int → Bool
  | _, [] => true
  | o, x :: a => decide (lo ≤ x ∧ x ≤ hi) && ((match o with | none => true | some y => decide (y < x)) && risP lo hi (some x) a)
theorem rd_prev (q : List Int) (y : Int) (r : List Int) : rd ((q ++ [y]) ++ r) (((q ++ [y]).length : Int) - 1) = y := by
  rw [len_snoc, show (q.length : Int) + 1 - 1 = (q.length : Int) by omega, ← snoc]
  exact rd_mid q y r
theorem within_ev (a b c : Int) : impl_within.f a b c = some (decide (b ≤ a ∧ a ≤ c)) := by
  unfold impl_within.f
  by_cases h : a ≥ b
  · rw [if_pos h]; congr 1; rw [decide_eq_decide]; omega
  · rw [if_neg h]; congr 1; symm; rw [decide_eq_false_iff_not]; omega
theorem isRising_l0 (lo hi : Int) : ∀ (a p : List Int), (p ++ a).length < 4611686018427387904 →
    Ev (fun k => impl_isRising.l0 k (p ++ a) lo hi (p ++ a) ((p ++ a).length : Int) (p.length : Int)) (risP lo hi p.getLast? a) := by
  intro a
  induction a with
  | nil => intro p hl; exact Ev.step (fun k => rfl) (Ev.neg (len_end p) (Ev.some' rfl))
  | cons x a ih =>
    intro p hl
    have hl' := hl
    rw [List.length_append, List.length_cons] at hl'
    have hnext := ih (p ++ [x]) (by rw [← snoc]; exact hl)
    rw [← snoc, len_snoc, List.getLast?_concat] at hnext
    refine Ev.step (fun k => rfl) (Ev.pos (len_lt p x a) (Ev.pos (by omega) (Ev.pos (len_lt p x a) (Ev.ret (within_ev _ _ _) ?_))))
    rw [rd_mid p x a]
    by_cases hin : lo ≤ x ∧ x ≤ hi
    · refine Ev.pos (by simpa using hin) ?_
      rcases List.eq_nil_or_concat p with rfl | ⟨q, y, rfl⟩
      · refine Ev.neg (by simp) ?_
        rw [w64 (by simp) (by simp)]
        refine Ev.eq hnext ?_
        simp [risP, hin]
      · rw [List.concat_eq_append] at *
        have hlen : ((q ++ [y]).length : Int) = (q.length : Int) + 1 := len_snoc q y
        refine Ev.pos (by omega) ?_
        rw [w64 (x := ((q ++ [y]).length : Int) - 1) (by omega) (by omega), rd_prev]
        refine Ev.pos (by omega) (Ev.pos (by simp only [List.length_append, List.length_cons, List.length_nil]; omega) ?_)
        by_cases hyx : y ≥ x
        · refine Ev.pos hyx (Ev.some' ?_)
          simp [risP, show ¬ y < x by omega]
        · refine Ev.neg hyx ?_
          rw [w64 (by omega) (by omega)]
          refine Ev.eq hnext ?_
          simp [risP, hin, show y < x by omega]
    · refine Ev.neg (by simpa using hin) (Ev.some' ?_)
      simp [risP, hin]
theorem isRising_ev (lo hi : Int) (l : List Int) (hl : l.length < 4611686018427387904) : Ev (fun k => impl_isRising.f k l lo hi) (risP lo hi none l) := by
  unfold impl_isRising.f
  exact isRising_l0 lo hi l [] hl
theorem l01In_ev (a b c : Int) : spec_l01In.f a b c = some (decide (b ≤ a ∧ a ≤ c)) := by
  unfold spec_l01In.f
  by_cases h : a ≥ b
  · rw [if_pos h]; congr 1; rw [decide_eq_decide]; omega
  · rw [if_neg h]; congr 1; symm; rw [decide_eq_false_iff_not]; omega
theorem rdM_mid (p : List (List Int)) (x : List Int) (r : List (List Int)) : rd_L1 (p ++ x :: r) (p.length : Int) = x := getD_mid p x r []
/-! ### right arguments -/
def dayV (n : Nat) (d : List Int) : Bool := decide (d.length = n) && d.all fun x => decide (0 ≤ x ∧ x ≤ 200)
def rightM (a0 a1 : Int) (P : List Int) (D : List (List Int)) : Bool := decide (0 ≤ a0 ∧ a0 ≤ 1000000) && (decide (0 ≤ a1 ∧ a1 ≤ 200) && (decide (1 ≤ (P.length : Int) ∧ (P.length : Int) ≤ 5) && (decide (1 ≤ (D.length : Int) ∧ (D.length : Int) ≤ 7) && (risP 0 100 none P && D.all (dayV P.length)))))
theorem areMarks_ev (a0 a1 : Int) (P : List Int) (D : List (List Int)) (hP : P.length < 4611686018427387904) : Ev (fun k => impl_areMarks.f k a0 a1 P D) (rightM a0 a1 P D) := by
  unfold impl_areMarks.f rightM
  by_cases c1 : 0 ≤ a0 ∧ a0 ≤ 1000000
  · rw [decide_eq_true c1, Bool.true_and]
    refine Ev.pos c1 ?_
    by_cases c2 : 0 ≤ a1 ∧ a1 ≤ 200
    · rw [decide_eq_true c2, Bool.true_and]
      refine Ev.pos c2 ?_
      by_cases c3 : 1 ≤ (P.length : Int) ∧ (P.length : Int) ≤ 5
      · rw [decide_eq_true c3, Bool.true_and]
        refine Ev.pos c3 (Ev.bind (isRising_ev 0 100 P hP) ?_)
        cases hr : risP 0 100 none P with
        | false => rw [Bool.false_and, Bool.and_false]; exact Ev.neg ff (Ev.some' rfl)
        | true =>
          rw [Bool.true_and]
          refine Ev.pos rfl ?_
          by_cases c4 : 1 ≤ (D.length : Int) ∧ (D.length : Int) ≤ 7
          · rw [decide_eq_true c4, Bool.true_and]
            exact Ev.pos c4 (Ev.some' rfl)
          · rw [decide_eq_false c4, Bool.false_and]
            exact Ev.neg c4 (Ev.some' rfl)
      · rw [decide_eq_false c3, Bool.false_and]
        exact Ev.neg c3 (Ev.some' rfl)
    · rw [decide_eq_false c2, Bool.false_and]
      exact Ev.neg c2 (Ev.some' rfl)
  · rw [decide_eq_false c1, Bool.false_and]
    exact Ev.neg c1 (Ev.some' rfl)
theorem right_l2 (P : List Int) (D : List (List Int)) (d : List Int) (n : Nat) (hn : n < 4611686018427387904) (hD : rd_L1 D (n : Int) = d) (hnD : (n : Int) < (D.length : Int)) (v : Bool) (hk : Ev (fun k => spec_l15Right.l1 k P D ((n + 1 : Nat) : Int)) v) :
    ∀ (a p : List Int), d = p ++ a → d.length < 4611686018427387904 → Ev (fun k => spec_l15Right.l2 k P D (n : Int) (p.length : Int)) ((a.all fun x => decide (0 ≤ x ∧ x ≤ 200)) && v) := by
  intro a
  induction a with
  | nil =>
    intro p h hl
    refine Ev.up1 ?_
    simp only [spec_l15Right.l2]
    refine Ev.pos (by omega) (Ev.pos hnD ?_)
    rw [hD, h]
    refine Ev.neg (len_end p) ?_
    rw [w64n (by omega)]
    exact Ev.eq hk rfl
  | cons x a ih =>
    intro p h hl
    have hl' := hl
    rw [h, List.length_append, List.length_cons] at hl'
    have := ih (p ++ [x]) (by rw [← snoc]; exact h) hl
    refine Ev.up1 ?_
    simp only [spec_l15Right.l2]
    refine Ev.pos (by omega) (Ev.pos hnD ?_)
    rw [hD]
    refine Ev.pos (by rw [h]; exact len_lt p x a) (Ev.pos (by omega) (Ev.ret (l01In_ev _ _ _) ?_))
    have hx : rd d (p.length : Int) = x := by rw [h]; exact rd_mid p x a
    rw [hx, List.all_cons]
    by_cases c : 0 ≤ x ∧ x ≤ 200
    · rw [decide_eq_true c, Bool.true_and]
      refine Ev.pos rfl ?_
      rw [w64n (by omega)]
      rw [show (p ++ [x]).length = p.length + 1 by simp] at this
      exact this
    · rw [decide_eq_false c, Bool.false_and, Bool.false_and]
      exact Ev.neg ff (Ev.some' rfl)
theorem right_l1 (P : List Int) : ∀ (a p : List (List Int)), (p ++ a).length < 1000000 → (∀ d ∈ a, d.length < 4611686018427387904) → Ev (fun k => spec_l15Right.l1 k P (p ++ a) (p.length : Int)) (a.all (dayV P.length)) := by
  intro a
  induction a with
  | nil =>
    intro p _ _
    refine Ev.up1 ?_
    simp only [spec_l15Right.l1]
    exact Ev.neg (len_end p) (Ev.some' rfl)
  | cons d a ih =>
    intro p hl hd
    have hl' := hl
    rw [List.length_append, List.length_cons] at hl'
    have hi := ih (p ++ [d]) (by rw [← snoc]; exact hl) (fun z hz => hd z (by simp [hz]))
    rw [← snoc, show (p ++ [d]).length = p.length + 1 by simp] at hi
    refine Ev.up1 ?_
    simp only [spec_l15Right.l1]
    refine Ev.pos (len_lt p d a) (Ev.pos (by omega) ?_)
    rw [rdM_mid, List.all_cons, dayV]
    by_cases c : (d.length : Int) = (P.length : Int)
    · rw [decide_eq_true (by omega), Bool.true_and]
      exact Ev.pos c (right_l2 P (p ++ d :: a) d p.length (by omega) (rdM_mid p d a) (len_lt p d a) _ hi d [] rfl (hd d (by simp)))
    · rw [decide_eq_false (by omega), Bool.false_and, Bool.false_and]
      exact Ev.neg c (Ev.some' rfl)
theorem right_l0 (D : List (List Int)) (hD : D.length < 1000000) (hd : ∀ d ∈ D, d.length < 4611686018427387904) : ∀ (a p : List Int), (p ++ a).length < 1000000 → Ev (fun k => spec_l15Right.l0 k (p ++ a) D (p.length : Int)) (risP 0 100 p.getLast? a && D.all (dayV (p ++ a).length)) := by
  intro a
  induction a with
  | nil =>
    intro p hl
    refine Ev.up1 ?_
    simp only [spec_l15Right.l0]
    exact Ev.neg (len_end p) (right_l1 (p ++ []) D [] (by simpa using hD) hd)
  | cons x a ih =>
    intro p hl
    have hl' := hl
    rw [List.length_append, List.length_cons] at hl'
    have hnext := ih (p ++ [x]) (by rw [← snoc]; exact hl)
    rw [← snoc, List.getLast?_concat, show (p ++ [x]).length = p.length + 1 by simp] at hnext
    refine Ev.up1 ?_
    simp only [spec_l15Right.l0]
    refine Ev.pos (len_lt p x a) (Ev.pos (by omega) (Ev.ret (l01In_ev _ _ _) ?_))
    rw [rd_mid p x a]
    by_cases hin : 0 ≤ x ∧ x ≤ 100
    · rw [decide_eq_true hin]
      refine Ev.pos rfl ?_
      rcases List.eq_nil_or_concat p with rfl | ⟨q, y, rfl⟩
      · refine Ev.neg (by simp) ?_
        rw [w64n (by simp)]
        refine Ev.eq hnext ?_
        simp [risP, hin]
      · rw [List.concat_eq_append] at *
        have hlen : ((q ++ [y]).length : Int) = (q.length : Int) + 1 := len_snoc q y
        refine Ev.pos (by omega) ?_
        rw [w64 (x := ((q ++ [y]).length : Int) - 1) (by omega) (by omega), rd_prev]
        refine Ev.pos (by omega) (Ev.pos (by simp only [List.length_append, List.length_cons, List.length_nil]; omega) ?_)
        by_cases hyx : x ≤ y
        · refine Ev.pos hyx (Ev.some' ?_)
          simp [risP, show ¬ y < x by omega]
        · refine Ev.neg hyx ?_
          rw [w64n (by omega)]
          refine Ev.eq hnext ?_
          simp [risP, hin, show y < x by omega]
    · rw [decide_eq_false hin]
      refine Ev.neg ff (Ev.some' ?_)
      simp [risP, hin]
theorem specRight_ev (a0 a1 : Int) (P : List Int) (D : List (List Int)) (hd : ∀ d ∈ D, d.length < 4611686018427387904) : Ev (fun k => spec_l15Right.f k a0 a1 P D) (rightM a0 a1 P D) := by
  have bad : Ev (fun k => spec_l15Right.j0 k P D true) false := Ev.up1 (by simp only [spec_l15Right.j0]; exact Ev.pos trivial (Ev.some' rfl))
  unfold spec_l15Right.f rightM
  refine Ev.ret (l01In_ev _ _ _) ?_
  by_cases c1 : 0 ≤ a0 ∧ a0 ≤ 1000000
  rotate_left
  · rw [decide_eq_false c1, Bool.false_and]
    exact Ev.neg ff bad
  rw [decide_eq_true c1, Bool.true_and]
  refine Ev.pos rfl (Ev.ret (l01In_ev _ _ _) ?_)
  by_cases c2 : 0 ≤ a1 ∧ a1 ≤ 200
  rotate_left
  · rw [decide_eq_false c2, Bool.false_and]
    exact Ev.neg ff bad
  rw [decide_eq_true c2, Bool.true_and]
  refine Ev.pos rfl ?_
  by_cases c3 : (P.length : Int) < 1
  · rw [decide_eq_false (show ¬ (1 ≤ (P.length : Int) ∧ (P.length : Int) ≤ 5) by omega), Bool.false_and]
    exact Ev.pos c3 bad
  refine Ev.neg c3 ?_
  by_cases c4 : (P.length : Int) > 5
  · rw [decide_eq_false (show ¬ (1 ≤ (P.length : Int) ∧ (P.length : Int) ≤ 5) by omega), Bool.false_and]
    exact Ev.pos c4 bad
  rw [decide_eq_true (show 1 ≤ (P.length : Int) ∧ (P.length : Int) ≤ 5 by omega), Bool.true_and]
  refine Ev.neg c4 ?_
  by_cases c5 : (D.length : Int) < 1
  · rw [decide_eq_false (show ¬ (1 ≤ (D.length : Int) ∧ (D.length : Int) ≤ 7) by omega), Bool.false_and]
    exact Ev.pos c5 bad
  refine Ev.neg c5 ?_
  by_cases c6 : (D.length : Int) > 7
  · rw [decide_eq_false (show ¬ (1 ≤ (D.length : Int) ∧ (D.length : Int) ≤ 7) by omega), Bool.false_and, decide_eq_true c6]
    exact bad
  rw [decide_eq_true (show 1 ≤ (D.length : Int) ∧ (D.length : Int) ≤ 7 by omega), Bool.true_and, decide_eq_false c6]
  refine Ev.up1 ?_
  simp only [spec_l15Right.j0]
  exact Ev.neg ff (right_l0 D (by omega) hd P [] (by simp; omega))
/-! ### steps -/
def leO : Option Int → Int → Bool
  | none, _ => true
  | some y, x => decide (y ≤ x)
def sortO : Option Int → List Int → Bool
  | _, [] => true
  | o, x :: a => leO o x && sortO (some x) a
theorem sortO_cons (o : Option Int) (x : Int) (a : List Int) : sortO o (x :: a) = (leO o x && sortO (some x) a) := rfl
theorem sortO_snoc : ∀ (q : List Int) (o : Option Int) (y x : Int), sortO o ((q ++ [y]) ++ [x]) = (sortO o (q ++ [y]) && decide (y ≤ x)) := by
  intro q
  induction q with
  | nil =>
    intro o y x
    show (leO o y && (leO (some y) x && true)) = ((leO o y && true) && decide (y ≤ x))
    rw [Bool.and_true, Bool.and_true]
    rfl
  | cons z q ih =>
    intro o y x
    rw [List.cons_append, List.cons_append, sortO_cons, sortO_cons, ih, Bool.and_assoc]
def stepsV (n : Int) : Option Int → List Int → Bool
  | _, [] => true
  | o, x :: a => decide (0 ≤ x ∧ x ≤ n) && (leO o x && stepsV n (some x) a)
theorem stepsV_cons (n : Int) (o : Option Int) (x : Int) (a : List Int) : stepsV n o (x :: a) = (decide (0 ≤ x ∧ x ≤ n) && (leO o x && stepsV n (some x) a)) := rfl
theorem steps_eq (n : Int) : ∀ (S : List Int) (o : Option Int), stepsV n o S = ((S.all fun x => decide (0 ≤ x ∧ x ≤ n)) && sortO o S) := by
  intro S
  induction S with
  | nil => intro o; rfl
  | cons x S ih =>
    intro o
    rw [stepsV_cons, sortO_cons, List.all_cons, ih]
    cases decide (0 ≤ x ∧ x ≤ n) <;> cases (S.all fun x => decide (0 ≤ x ∧ x ≤ n)) <;> cases leO o x <;> simp
/-! ### what steps do -/
def priceV (a b : Int) : Int := wrap64 (a - (wrap64 (Int.tdiv (wrap64 (a * b)) 100)))
def runV (a0 : Int) (P : List Int) : List (List Int) → List Int → List Int → Int → Int → List Int × Int × Int
  | d :: D, s :: S, o, r, l => runV a0 P D S (o ++ [mn l (rd d s)]) (wrap64 (r + (wrap64 ((mn l (rd d s)) * priceV a0 (rd P s))))) (wrap64 (l - (mn l (rd d s))))
  | _, _, o, r, l => (o, r, l)
theorem runV_len (a0 : Int) (P : List Int) : ∀ (D : List (List Int)) (S o : List Int) (r l : Int), (runV a0 P D S o r l).1.length ≤ o.length + D.length := by
  intro D
  induction D with
  | nil => intro S o r l; exact Nat.le_refl _
  | cons d D ih =>
    intro S o r l
    cases S with
    | nil => show o.length ≤ _; omega
    | cons s S =>
      have := ih S (o ++ [mn l (rd d s)]) (wrap64 (r + (wrap64 ((mn l (rd d s)) * priceV a0 (rd P s))))) (wrap64 (l - (mn l (rd d s))))
      rw [List.length_append, List.length_singleton] at this
      rw [runV, List.length_cons]
      omega
theorem markOf_l0 (a0 : Int) (P : List Int) (C : List Int) : ∀ (A : List (List Int)) (S : List Int) (p : List (List Int)) (q o : List Int) (r l : Int), p.length = q.length → A.length = S.length → (q ++ S).length < 1000000 → o.length = q.length → (∀ d ∈ A, d.length = P.length) → (∀ s ∈ S, 0 ≤ s ∧ s < (P.length : Int)) →
    Ev (fun k => impl_markOf.l0 k a0 P (p ++ A) (q ++ S) ((q ++ S).length : Int) (q.length : Int) C o r l) (C, runV a0 P A S o r l) := by
  intro A
  induction A with
  | nil =>
    intro S p q o r l hpq hAS hl _ _ _
    obtain rfl : S = [] := List.eq_nil_of_length_eq_zero hAS.symm
    exact Ev.step (fun k => rfl) (Ev.neg (len_end q) (Ev.some' rfl))
  | cons d A ih =>
    intro S p q o r l hpq hAS hl ho hd hS
    cases S with
    | nil => cases hAS
    | cons s S =>
      have hl' := hl
      rw [List.length_append, List.length_cons] at hl'
      obtain ⟨s0, s1⟩ := hS s (by simp)
      have hdl := hd d (by simp)
      have hrl : rd_L1 (p ++ d :: A) (q.length : Int) = d := by rw [← hpq]; exact rdM_mid p d A
      have := ih S (p ++ [d]) (q ++ [s]) (o ++ [mn l (rd d s)]) (wrap64 (r + (wrap64 ((mn l (rd d s)) * priceV a0 (rd P s))))) (wrap64 (l - (mn l (rd d s)))) (by simp [hpq]) (by simpa using hAS) (by rw [← snoc]; exact hl) (by simp [ho]) (fun z hz => hd z (by simp [hz])) (fun z hz => hS z (by simp [hz]))
      rw [← snoc, ← snoc, show (q ++ [s]).length = q.length + 1 by simp] at this
      refine Ev.step (fun k => rfl) (Ev.pos (len_lt q s S) (Ev.pos (by omega) (Ev.pos (len_lt q s S) (Ev.pos (by rw [← hpq]; exact len_lt p d A) ?_))))
      rw [rd_mid q s S, hrl]
      refine Ev.pos s0 (Ev.pos (by omega) (Ev.pos (by omega) (Ev.pos s1 (Ev.ret rfl ?_))))
      rw [w64n (by omega)]
      exact this
theorem specRun_l0 (a0 : Int) (P : List Int) (hP : P.length < 1000000) : ∀ (A : List (List Int)) (S : List Int) (p : List (List Int)) (q o : List Int) (r l : Int), p.length = q.length → A.length = S.length → (q ++ S).length < 1000000 → o.length = q.length → (∀ d ∈ A, d.length = P.length) →
    Ev (fun k => spec_MarkOf.l0 k a0 P (p ++ A) (q ++ S) (q.length : Int) q o r l) (if stepsV ((P.length : Int) - 1) q.getLast? S = true then (q ++ S, (runV a0 P A S o r l).1, (runV a0 P A S o r l).2.1, (runV a0 P A S o r l).2.2, 0) else ([], [], 0, 0, 3)) := by
  intro A
  induction A with
  | nil =>
    intro S p q o r l hpq hAS hl _ _
    obtain rfl : S = [] := List.eq_nil_of_length_eq_zero hAS.symm
    refine Ev.up1 ?_
    simp only [spec_MarkOf.l0]
    exact Ev.neg (len_end q) (Ev.some' (by rw [if_pos (show stepsV ((P.length : Int) - 1) q.getLast? [] = true from rfl), List.append_nil]; rfl))
  | cons d A ih =>
    intro S p q o r l hpq hAS hl ho hd
    cases S with
    | nil => cases hAS
    | cons s S =>
      have hl' := hl
      rw [List.length_append, List.length_cons] at hl'
      have hdl := hd d (by simp)
      have hrl : rd_L1 (p ++ d :: A) (q.length : Int) = d := by rw [← hpq]; exact rdM_mid p d A
      have hnext := ih S (p ++ [d]) (q ++ [s]) (o ++ [mn l (rd d s)]) (wrap64 (r + (wrap64 ((mn l (rd d s)) * priceV a0 (rd P s))))) (wrap64 (l - (mn l (rd d s)))) (by simp [hpq]) (by simpa using hAS) (by rw [← snoc]; exact hl) (by simp [ho]) (fun z hz => hd z (by simp [hz]))
      rw [← snoc, ← snoc, List.getLast?_concat, show (q ++ [s]).length = q.length + 1 by simp] at hnext
      refine Ev.up1 ?_
      simp only [spec_MarkOf.l0]
      refine Ev.pos (len_lt q s S) (Ev.pos (by omega) (Ev.ret (l01In_ev _ _ _) ?_))
      rw [rd_mid q s S, hrl, w64 (x := (P.length : Int) - 1) (by omega) (by omega), stepsV_cons]
      by_cases hin : 0 ≤ s ∧ s ≤ (P.length : Int) - 1
      rotate_left
      · rw [decide_eq_false hin, Bool.false_and, if_neg ff]
        exact Ev.neg ff (Ev.some' rfl)
      rw [decide_eq_true hin, Bool.true_and]
      refine Ev.pos rfl ?_
      have go : ∀ v, Ev (fun k => spec_MarkOf.l0 k a0 P (p ++ d :: A) (q ++ s :: S) ((q.length + 1 : Nat) : Int) (q ++ [s]) (o ++ [mn l (rd d s)]) (wrap64 (r + (wrap64 ((mn l (rd d s)) * priceV a0 (rd P s))))) (wrap64 (l - (mn l (rd d s))))) v →
          Ev (fun k => if (q.length : Int) < ((p ++ d :: A).length : Int) then (if 0 ≤ s then (if s < (d.length : Int) then (if s < (P.length : Int) then ((spec_l15Price.f a0 (rd P s)).bind fun t => (if o.length < 17592186044416 then (if q.length < 17592186044416 then (spec_MarkOf.l0 k a0 P (p ++ d :: A) (q ++ s :: S) (wrap64 ((q.length : Int) + 1)) (q ++ [s]) (o ++ [mn l (rd d s)]) (wrap64 (r + (wrap64 ((mn l (rd d s)) * t)))) (wrap64 (l - (mn l (rd d s))))) else (none)) else (none))) else (none)) else (none)) else (none)) else (none)) v := by
        intro v hv
        refine Ev.pos (by rw [← hpq]; exact len_lt p d A) (Ev.pos hin.1 (Ev.pos (by omega) (Ev.pos (by omega) (Ev.ret rfl (Ev.pos (by omega) (Ev.pos (by omega) ?_))))))
        rw [w64n (by omega)]
        exact hv
      rcases List.eq_nil_or_concat q with rfl | ⟨q', y, rfl⟩
      · refine Ev.neg (by simp) (go _ ?_)
        refine Ev.eq hnext ?_
        rfl
      · rw [List.concat_eq_append] at *
        have hlen : ((q' ++ [y]).length : Int) = (q'.length : Int) + 1 := len_snoc q' y
        refine Ev.pos (by omega) ?_
        rw [w64 (x := ((q' ++ [y]).length : Int) - 1) (by omega) (by omega), rd_prev, List.getLast?_concat]
        refine Ev.pos (by omega) (Ev.pos (by simp only [List.length_append, List.length_cons, List.length_nil]; omega) ?_)
        by_cases c : s < y
        · rw [show leO (some y) s = false from decide_eq_false (by omega), Bool.false_and, if_neg ff]
          exact Ev.pos c (Ev.some' rfl)
        · rw [show leO (some y) s = true from decide_eq_true (by omega), Bool.true_and]
          exact Ev.neg c (go _ (Ev.eq hnext rfl))
/-- What MarkOf answers. -/
def markJ (a0 a1 : Int) (P : List Int) (D : List (List Int)) (S : List Int) : List Int × List Int × Int × Int × Int :=
  if (P.length : Int) > 4096 ∨ (D.length : Int) > 4096 ∨ (S.length : Int) > 4096 then ([], [], 0, 0, 2) else if rightM a0 a1 P D = true then (if (S.length : Int) = (D.length : Int) then (if stepsV ((P.length : Int) - 1) none S = true then (S, (runV a0 P D S [] 0 a1).1, (runV a0 P D S [] 0 a1).2.1, (runV a0 P D S [] 0 a1).2.2, 0) else ([], [], 0, 0, 3)) else ([], [], 0, 0, 3)) else ([], [], 0, 0, 1)
theorem right_days {a0 a1 : Int} {P : List Int} {D : List (List Int)} (h : rightM a0 a1 P D = true) : (P.length : Int) ≤ 5 ∧ (D.length : Int) ≤ 7 ∧ ∀ d ∈ D, d.length = P.length := by
  unfold rightM at h
  simp only [Bool.and_eq_true, decide_eq_true_eq] at h
  refine ⟨h.2.2.1.2, h.2.2.2.1.2, fun d hd => ?_⟩
  have := List.all_eq_true.1 h.2.2.2.2.2 d hd
  unfold dayV at this
  rw [Bool.and_eq_true, decide_eq_true_eq] at this
  exact this.1
theorem specMarkOf_ev (a0 a1 : Int) (P : List Int) (D : List (List Int)) (S : List Int) (hd : ∀ d ∈ D, d.length < 4611686018427387904) : Ev (fun k => spec_MarkOf.f k a0 a1 P D S) (markJ a0 a1 P D S) := by
  have bad : Ev (fun k => spec_MarkOf.j0 k a0 a1 P D S true) ([], [], 0, 0, 2) := Ev.up1 (by simp only [spec_MarkOf.j0]; exact Ev.pos trivial (Ev.some' rfl))
  unfold spec_MarkOf.f markJ
  by_cases c1 : (P.length : Int) > 4096
  · rw [if_pos (Or.inl c1)]
    exact Ev.ret (show spec_l15Long.f P D = some true from if_pos c1) (Ev.pos rfl bad)
  refine Ev.ret (show spec_l15Long.f P D = some (decide ((D.length : Int) > 4096)) from if_neg c1) ?_
  by_cases c2 : (D.length : Int) > 4096
  · rw [if_pos (Or.inr (Or.inl c2)), decide_eq_true c2]
    exact Ev.pos rfl bad
  rw [decide_eq_false c2]
  refine Ev.neg ff ?_
  by_cases c3 : (S.length : Int) > 4096
  · rw [if_pos (Or.inr (Or.inr c3)), decide_eq_true c3]
    exact bad
  rw [if_neg (by omega), decide_eq_false c3]
  refine Ev.up1 ?_
  simp only [spec_MarkOf.j0]
  refine Ev.neg ff (Ev.bind (specRight_ev a0 a1 P D hd) (Ev.ite (fun hr => ?_) (fun _ => Ev.some' rfl)))
  obtain ⟨r1, r2, r3⟩ := right_days hr
  refine Ev.ite (fun hSD => ?_) (fun _ => Ev.some' rfl)
  exact specRun_l0 a0 P (by omega) D S [] [] [] 0 a1 rfl (by omega) (by simp; omega) rfl r3
theorem markJ_len (a0 a1 : Int) (P : List Int) (D : List (List Int)) (S : List Int) : (markJ a0 a1 P D S).1.length ≤ 4096 ∧ (markJ a0 a1 P D S).2.1.length ≤ 4096 := by
  unfold markJ
  by_cases c : (P.length : Int) > 4096 ∨ (D.length : Int) > 4096 ∨ (S.length : Int) > 4096
  · rw [if_pos c]; exact ⟨Nat.zero_le _, Nat.zero_le _⟩
  rw [if_neg c]
  split
  · split
    · split
      · have := runV_len a0 P D S [] 0 a1
        rw [List.length_nil] at this
        exact ⟨by show S.length ≤ 4096; omega, by show (runV a0 P D S [] 0 a1).1.length ≤ 4096; omega⟩
      · exact ⟨Nat.zero_le _, Nat.zero_le _⟩
    · exact ⟨Nat.zero_le _, Nat.zero_le _⟩
  · exact ⟨Nat.zero_le _, Nat.zero_le _⟩
/-! ### what steps do, in numbers -/
def pr (a b : Int) : Int := a - a * b / 100
theorem price_eq {a b : Int} (ha : 0 ≤ a ∧ a ≤ 1000000) (hb : 0 ≤ b ∧ b ≤ 100) : priceV a b = pr a b ∧ 0 ≤ pr a b ∧ pr a b ≤ 1000000 := by
  have h0 : 0 ≤ a * b := Int.mul_nonneg ha.1 hb.1
  have h1 : a * b ≤ a * 100 := Int.mul_le_mul_of_nonneg_left hb.2 ha.1
  unfold priceV pr
  generalize a * b = p at h0 h1 ⊢
  rw [w64 (x := p) (by omega) (by omega), Int.tdiv_eq_ediv_of_nonneg h0, w64 (x := p / 100) (by omega) (by omega), w64 (by omega) (by omega)]
  exact ⟨rfl, by omega, by omega⟩
theorem rd_bd {d : List Int} {lo hi : Int} (h0 : lo ≤ 0) (h1 : 0 ≤ hi) (h : ∀ x ∈ d, lo ≤ x ∧ x ≤ hi) (i : Int) : lo ≤ rd d i ∧ rd d i ≤ hi := by
  unfold rd
  rw [List.getD_eq_getElem?_getD]
  cases e : d[i.toNat]? with
  | none => exact ⟨h0, h1⟩
  | some y => exact h y (List.mem_of_getElem? e)
theorem mn_bd {a b : Int} (ha : 0 ≤ a) (hb : 0 ≤ b) : 0 ≤ mn a b ∧ mn a b ≤ a ∧ mn a b ≤ b := by unfold mn; split <;> omega
def soldN : List (List Int) → List Int → Int → List Int
  | d :: D, s :: S, l => mn l (rd d s) :: soldN D S (l - mn l (rd d s))
  | _, _, _ => []
def leftN : List (List Int) → List Int → Int → Int
  | d :: D, s :: S, l => leftN D S (l - mn l (rd d s))
  | _, _, l => l
def revN (a0 : Int) (P : List Int) : List (List Int) → List Int → Int → Int
  | d :: D, s :: S, l => mn l (rd d s) * pr a0 (rd P s) + revN a0 P D S (l - mn l (rd d s))
  | _, _, _ => 0
theorem sale_bd {a0 : Int} {P d : List Int} {s l : Int} (ha : 0 ≤ a0 ∧ a0 ≤ 1000000) (hP : ∀ x ∈ P, 0 ≤ x ∧ x ≤ 100) (hd : ∀ x ∈ d, 0 ≤ x ∧ x ≤ 200) (h0 : 0 ≤ l) :
    priceV a0 (rd P s) = pr a0 (rd P s) ∧ 0 ≤ mn l (rd d s) ∧ mn l (rd d s) ≤ l ∧ 0 ≤ mn l (rd d s) * pr a0 (rd P s) ∧ mn l (rd d s) * pr a0 (rd P s) ≤ 200000000 := by
  obtain ⟨p1, p2, p3⟩ := price_eq ha (rd_bd (by omega) (by omega) hP s)
  obtain ⟨m1, m2, m3⟩ := mn_bd h0 (rd_bd (by omega) (by omega) hd s).1
  have m4 := (rd_bd (lo := 0) (by omega) (by omega) hd s).2
  refine ⟨p1, m1, m2, Int.mul_nonneg m1 p2, ?_⟩
  have := Int.mul_le_mul (show mn l (rd d s) ≤ 200 by omega) p3 p2 (by omega)
  omega
theorem runN {a0 : Int} {P : List Int} (ha : 0 ≤ a0 ∧ a0 ≤ 1000000) (hP : ∀ x ∈ P, 0 ≤ x ∧ x ≤ 100) : ∀ (D : List (List Int)) (S o : List Int) (r l : Int), (∀ d ∈ D, ∀ x ∈ d, 0 ≤ x ∧ x ≤ 200) → 0 ≤ l → l ≤ 200 → 0 ≤ r → r + 200000000 * D.length ≤ 1000000000000 →
    runV a0 P D S o r l = (o ++ soldN D S l, r + revN a0 P D S l, leftN D S l) := by
  intro D
  induction D with
  | nil => intro S o r l _ _ _ _ _; show (o, r, l) = (o ++ [], r + 0, l); simp
  | cons d D ih =>
    intro S o r l hd h0 h1 hr hb
    cases S with
    | nil => show (o, r, l) = (o ++ [], r + 0, l); simp
    | cons s S =>
      obtain ⟨p1, m1, m2, x1, x2⟩ := sale_bd (s := s) ha hP (hd d (by simp)) h0
      rw [List.length_cons] at hb
      rw [runV, soldN, revN, leftN, p1]
      generalize mn l (rd d s) * pr a0 (rd P s) = x at x1 x2 ⊢
      generalize mn l (rd d s) = m at m1 m2 ⊢
      rw [w64 (x := x) (by omega) (by omega), w64 (x := r + x) (by omega) (by omega), w64 (x := l - m) (by omega) (by omega), ih S _ _ _ (fun z hz => hd z (by simp [hz])) (by omega) (by omega) (by omega) (by omega)]
      simp [Int.add_assoc]
theorem revN_bd {a0 : Int} {P : List Int} (ha : 0 ≤ a0 ∧ a0 ≤ 1000000) (hP : ∀ x ∈ P, 0 ≤ x ∧ x ≤ 100) : ∀ (D : List (List Int)) (S : List Int) (l : Int), (∀ d ∈ D, ∀ x ∈ d, 0 ≤ x ∧ x ≤ 200) → 0 ≤ l → 0 ≤ revN a0 P D S l ∧ revN a0 P D S l ≤ 200000000 * D.length := by
  intro D
  induction D with
  | nil => intro S l _ _; exact ⟨Int.le_refl _, by simp [revN]⟩
  | cons d D ih =>
    intro S l hd h0
    cases S with
    | nil => exact ⟨Int.le_refl _, by simp only [revN]; omega⟩
    | cons s S =>
      obtain ⟨p1, m1, m2, x1, x2⟩ := sale_bd (s := s) ha hP (hd d (by simp)) h0
      have := ih S (l - mn l (rd d s)) (fun z hz => hd z (by simp [hz])) (by omega)
      rw [revN, List.length_cons]
      omega
/-- More stock never brings less. -/
theorem revN_mono {a0 : Int} {P : List Int} (ha : 0 ≤ a0 ∧ a0 ≤ 1000000) (hP : ∀ x ∈ P, 0 ≤ x ∧ x ≤ 100) : ∀ (D : List (List Int)) (S : List Int) (l l' : Int), l ≤ l' → revN a0 P D S l ≤ revN a0 P D S l' := by
  intro D
  induction D with
  | nil => intro S l l' _; exact Int.le_refl _
  | cons d D ih =>
    intro S l l' h
    cases S with
    | nil => exact Int.le_refl _
    | cons s S =>
      obtain ⟨p1, p2, p3⟩ := price_eq ha (rd_bd (by omega) (by omega) hP s)
      have hm : mn l (rd d s) ≤ mn l' (rd d s) ∧ l - mn l (rd d s) ≤ l' - mn l' (rd d s) := by unfold mn; split <;> split <;> omega
      have h1 := Int.mul_le_mul_of_nonneg_right hm.1 p2
      have h2 := ih S _ _ hm.2
      rw [revN, revN]
      omega
/-! ### the best of some steps -/
abbrev Plan4 := List Int × List Int × Int × Int
def valN (a0 : Int) (P : List Int) (D : List (List Int)) (l : Int) (S : List Int) : Plan4 := (S, soldN D S l, revN a0 P D S l, leftN D S l)
def bestN (a0 : Int) (P : List Int) (D : List (List Int)) (l : Int) : List (List Int) → Plan4 → Plan4
  | [], b => b
  | S :: cs, b => bestN a0 P D l cs (if b.2.2.1 < (valN a0 P D l S).2.2.1 then valN a0 P D l S else b)
theorem bestN_ge (a0 : Int) (P : List Int) (D : List (List Int)) (l : Int) : ∀ (cs : List (List Int)) (b : Plan4), b.2.2.1 ≤ (bestN a0 P D l cs b).2.2.1 ∧ ∀ S ∈ cs, revN a0 P D S l ≤ (bestN a0 P D l cs b).2.2.1 := by
  intro cs
  induction cs with
  | nil => intro b; exact ⟨Int.le_refl _, fun S h => by cases h⟩
  | cons T cs ih =>
    intro b
    rw [bestN]
    obtain ⟨h1, h2⟩ := ih (if b.2.2.1 < (valN a0 P D l T).2.2.1 then valN a0 P D l T else b)
    have hT : (valN a0 P D l T).2.2.1 = revN a0 P D T l := rfl
    have h3 : b.2.2.1 ≤ (if b.2.2.1 < (valN a0 P D l T).2.2.1 then valN a0 P D l T else b).2.2.1 ∧ revN a0 P D T l ≤ (if b.2.2.1 < (valN a0 P D l T).2.2.1 then valN a0 P D l T else b).2.2.1 := by
      split <;> omega
    refine ⟨by omega, fun S hS => ?_⟩
    rcases List.mem_cons.1 hS with rfl | hS
    · omega
    · exact h2 S hS
theorem bestN_in (a0 : Int) (P : List Int) (D : List (List Int)) (l : Int) : ∀ (cs : List (List Int)) (b : Plan4), bestN a0 P D l cs b = b ∨ ∃ S ∈ cs, bestN a0 P D l cs b = valN a0 P D l S := by
  intro cs
  induction cs with
  | nil => intro b; exact Or.inl rfl
  | cons T cs ih =>
    intro b
    rw [bestN]
    rcases ih (if b.2.2.1 < (valN a0 P D l T).2.2.1 then valN a0 P D l T else b) with h | ⟨S, hS, h⟩
    · rw [h]
      split
      · exact Or.inr ⟨T, by simp, rfl⟩
      · exact Or.inl rfl
    · exact Or.inr ⟨S, by simp [hS], h⟩
theorem right_more {a0 a1 : Int} {P : List Int} {D : List (List Int)} (h : rightM a0 a1 P D = true) : (0 ≤ a0 ∧ a0 ≤ 1000000) ∧ (0 ≤ a1 ∧ a1 ≤ 200) ∧ (1 ≤ P.length ∧ P.length ≤ 5) ∧ (1 ≤ D.length ∧ D.length ≤ 7) ∧ (∀ x ∈ P, 0 ≤ x ∧ x ≤ 100) ∧ (∀ d ∈ D, d.length = P.length) ∧ (∀ d ∈ D, ∀ x ∈ d, 0 ≤ x ∧ x ≤ 200) := by
  unfold rightM at h
  simp only [Bool.and_eq_true, decide_eq_true_eq] at h
  obtain ⟨h1, h2, h3, h4, h5, h6⟩ := h
  have hr : ∀ (a : List Int) (o : Option Int), risP 0 100 o a = true → ∀ x ∈ a, 0 ≤ x ∧ x ≤ 100 := by
    intro a
    induction a with
    | nil => intro o _ x hx; cases hx
    | cons y a ih =>
      intro o ho x hx
      have ho : (decide (0 ≤ y ∧ y ≤ 100) && (_ && risP 0 100 (some y) a)) = true := ho
      rw [Bool.and_eq_true, Bool.and_eq_true, decide_eq_true_eq] at ho
      rcases List.mem_cons.1 hx with rfl | hx
      · exact ho.1
      · exact ih _ ho.2.2 x hx
  refine ⟨h1, h2, by omega, by omega, hr P none h5, fun d hd => ?_, fun d hd x hx => ?_⟩
  · have := List.all_eq_true.1 h6 d hd
    rw [dayV, Bool.and_eq_true, decide_eq_true_eq] at this
    exact this.1
  · have := List.all_eq_true.1 h6 d hd
    rw [dayV, Bool.and_eq_true] at this
    exact of_decide_eq_true (List.all_eq_true.1 this.2 x hx)
/-! ### all steps -/
theorem mem_cands (n : Nat) : ∀ (r i : Nat) (S : List Int), S ∈ impl_BestMarks.cands n r i ↔ S.length = r ∧ stepsV ((n : Int) - 1) (some (i : Int)) S = true := by
  intro r
  induction r with
  | zero =>
    intro i S
    rw [impl_BestMarks.cands, List.mem_singleton]
    constructor
    · rintro rfl; exact ⟨rfl, rfl⟩
    · rintro ⟨h, _⟩; exact List.eq_nil_of_length_eq_zero h
  | succ r ih =>
    intro i S
    rw [impl_BestMarks.cands, List.mem_flatMap]
    constructor
    · rintro ⟨j, hj, hS⟩
      obtain ⟨T, hT, rfl⟩ := List.mem_map.1 hS
      obtain ⟨h1, h2⟩ := (ih j T).1 hT
      rw [List.mem_range'_1] at hj
      rw [stepsV_cons, h2, Bool.and_true, decide_eq_true (by omega), Bool.true_and]
      exact ⟨by rw [List.length_cons, h1], decide_eq_true (by omega)⟩
    · rintro ⟨h1, h2⟩
      cases S with
      | nil => cases h1
      | cons x T =>
        rw [stepsV_cons, Bool.and_eq_true, Bool.and_eq_true, decide_eq_true_eq] at h2
        obtain ⟨h3, h4, h5⟩ := h2
        have h4 : (i : Int) ≤ x := of_decide_eq_true h4
        obtain ⟨j, rfl⟩ := Int.eq_ofNat_of_zero_le h3.1
        refine ⟨j, by rw [List.mem_range'_1]; omega, List.mem_map.2 ⟨T, (ih j T).2 ⟨by simpa using h1, h5⟩, rfl⟩⟩
theorem steps_in (n : Int) : ∀ (S : List Int) (o : Option Int), stepsV n o S = true → ∀ s ∈ S, 0 ≤ s ∧ s ≤ n := by
  intro S
  induction S with
  | nil => intro o _ s hs; cases hs
  | cons x S ih =>
    intro o h s hs
    rw [stepsV_cons, Bool.and_eq_true, Bool.and_eq_true, decide_eq_true_eq] at h
    rcases List.mem_cons.1 hs with rfl | hs
    · exact h.1
    · exact ih _ h.2.2 s hs
theorem steps_zero (n : Int) (S : List Int) : stepsV n none S = stepsV n (some 0) S := by
  cases S with
  | nil => rfl
  | cons x S =>
    rw [stepsV_cons, stepsV_cons]
    by_cases h : 0 ≤ x ∧ x ≤ n
    · rw [show leO (some 0) x = true from decide_eq_true h.1]; rfl
    · rw [decide_eq_false h, Bool.false_and, Bool.false_and]
theorem try_ev {a0 a1 : Int} {P : List Int} {D : List (List Int)} (hr : rightM a0 a1 P D = true) : ∀ (cs : List (List Int)) (b : Plan4), (∀ S ∈ cs, S.length = D.length ∧ ∀ s ∈ S, 0 ≤ s ∧ s < (P.length : Int)) → Ev (fun k => impl_BestMarks.try_ k a0 a1 P D cs b) (bestN a0 P D a1 cs b) := by
  obtain ⟨h1, h2, h3, h4, h5, h6, h7⟩ := right_more hr
  intro cs
  induction cs with
  | nil => intro b _; exact Ev.some' rfl
  | cons S cs ih =>
    intro b hS
    obtain ⟨s1, s2⟩ := hS S (by simp)
    have hrun := markOf_l0 a0 P S D S [] [] [] 0 a1 rfl (by omega) (by simp; omega) rfl h6 s2
    rw [runN h1 h5 D S [] 0 a1 h7 h2.1 h2.2 (by omega) (by omega), List.nil_append, Int.zero_add] at hrun
    have : Ev (fun k => impl_markOf.f k a0 a1 P D S) (valN a0 P D a1 S) := by
      unfold impl_markOf.f
      refine Ev.ret (show slices_Clone_int_int.f S = some S from if_pos (by omega)) hrun
    exact Ev.bind this (ih _ (fun T hT => hS T (by simp [hT])))
def bestV (a0 a1 : Int) (P : List Int) (D : List (List Int)) : Plan4 := bestN a0 P D a1 (impl_BestMarks.cands P.length D.length 0) ([], [], -1, 0)
theorem cands_ok {P : List Int} {D : List (List Int)} : ∀ S ∈ impl_BestMarks.cands P.length D.length 0, S.length = D.length ∧ ∀ s ∈ S, 0 ≤ s ∧ s < (P.length : Int) := fun S hS => by
  obtain ⟨h1, h2⟩ := (mem_cands _ _ _ _).1 hS
  exact ⟨h1, fun s hs => by have := steps_in _ _ _ h2 s hs; omega⟩
theorem implBest_ev {a0 a1 : Int} {P : List Int} {D : List (List Int)} (hr : rightM a0 a1 P D = true) : Ev (fun k => impl_BestMarks.f k a0 a1 P D) ((bestV a0 a1 P D).1, (bestV a0 a1 P D).2.1, (bestV a0 a1 P D).2.2.1, (bestV a0 a1 P D).2.2.2, 0) := by
  obtain ⟨h1, h2, h3, h4, h5, h6, h7⟩ := right_more hr
  unfold impl_BestMarks.f
  refine Ev.pos (by omega) (Ev.bind (areMarks_ev a0 a1 P D (by omega)) ?_)
  rw [hr]
  exact Ev.pos rfl (Ev.bind (try_ev hr _ _ cands_ok) (Ev.some' rfl))
/-- The best plan is that of some steps, and no steps bring more. -/
theorem bestV_spec {a0 a1 : Int} {P : List Int} {D : List (List Int)} (hr : rightM a0 a1 P D = true) : (∃ S, S.length = D.length ∧ stepsV ((P.length : Int) - 1) none S = true ∧ bestV a0 a1 P D = valN a0 P D a1 S) ∧ ∀ S, S.length = D.length → stepsV ((P.length : Int) - 1) none S = true → revN a0 P D S a1 ≤ (bestV a0 a1 P D).2.2.1 := by
  obtain ⟨h1, h2, h3, h4, h5, h6, h7⟩ := right_more hr
  have hall : ∀ S, S.length = D.length → stepsV ((P.length : Int) - 1) none S = true → revN a0 P D S a1 ≤ (bestV a0 a1 P D).2.2.1 := fun S hl hs =>
    (bestN_ge a0 P D a1 _ _).2 S ((mem_cands _ _ _ _).2 ⟨hl, by rw [steps_zero] at hs; exact hs⟩)
  refine ⟨?_, hall⟩
  have hz : ∀ n : Nat, stepsV ((P.length : Int) - 1) (some 0) (List.replicate n 0) = true := by
    intro n
    induction n with
    | zero => rfl
    | succ n ih => rw [List.replicate_succ, stepsV_cons, ih, decide_eq_true (by omega)]; rfl
  have h0 := hall (List.replicate D.length 0) (by simp) (by rw [steps_zero]; exact hz _)
  have h0' := (revN_bd h1 h5 D (List.replicate D.length 0) a1 h7 h2.1).1
  rcases bestN_in a0 P D a1 (impl_BestMarks.cands P.length D.length 0) ([], [], -1, 0) with h | ⟨S, hS, h⟩
  · exfalso
    rw [bestV, h] at h0
    simp only at h0
    omega
  · obtain ⟨hl, hs⟩ := (mem_cands _ _ _ _).1 hS
    exact ⟨S, hl, by rw [steps_zero]; exact hs, h⟩
theorem eqPlan_ev (a b : List Int) (x y : Int) (ha : a.length ≤ 1048576) (hb : b.length ≤ 1048576) : Ev (fun k => laws_eqMarkPlan.f k a b x y a b x y) true := by
  unfold laws_eqMarkPlan.f
  exact Ev.bind (eqIntS_same a (by omega)) (Ev.pos rfl (Ev.bind (eqIntS_same b (by omega)) (Ev.pos rfl (Ev.pos rfl (Ev.pos rfl (Ev.some' rfl))))))
theorem markPlan_ev (a b : List Int) (x y : Int) (ha : a.length ≤ 4096) (hb : b.length ≤ 4096) : Ev (fun k => laws_markMarkPlan.f k a b x y 1) (1 + (a.length : Int) + (b.length : Int), iota 1 a.length, iota (1 + (a.length : Int)) b.length) := by
  unfold laws_markMarkPlan.f
  exact Ev.bind (markIntS_ev a 1 (by omega) (by omega) (by omega)) (Ev.bind (markIntS_ev b (1 + (a.length : Int)) (by omega) (by omega) (by omega)) (Ev.some' rfl))
theorem heldPlan_ev (m n : Nat) (x y : Int) (ha : m ≤ 4096) (hb : n ≤ 4096) : Ev (fun k => laws_heldMarkPlan.f k (iota 1 m) (iota (1 + (m : Int)) n) x y 1) (1 + (m : Int) + (n : Int)) := by
  unfold laws_heldMarkPlan.f
  exact Ev.bind (heldIntS_ev m 1 (by omega) (by omega)) (Ev.neg (by omega) (Ev.bind (heldIntS_ev n (1 + (m : Int)) (by omega) (by omega)) (Ev.neg (by omega) (Ev.some' rfl))))

theorem bestN_append (a0 : Int) (P : List Int) (D : List (List Int)) (l : Int) : ∀ (xs ys : List (List Int)) (b : Plan4), bestN a0 P D l (xs ++ ys) b = bestN a0 P D l ys (bestN a0 P D l xs b) := by
  intro xs
  induction xs with
  | nil => intro ys b; rfl
  | cons x xs ih => intro ys b; rw [List.cons_append, bestN, bestN, ih]
theorem bestN_stay (a0 : Int) (P : List Int) (D : List (List Int)) (l : Int) : ∀ (xs : List (List Int)) (b : Plan4), (∀ S ∈ xs, revN a0 P D S l ≤ b.2.2.1) → bestN a0 P D l xs b = b := by
  intro xs
  induction xs with
  | nil => intro b _; rfl
  | cons x xs ih =>
    intro b h
    have hx : ¬ b.2.2.1 < (valN a0 P D l x).2.2.1 := by have := h x (by simp); show ¬ b.2.2.1 < revN a0 P D x l; omega
    rw [bestN, if_neg hx]
    exact ih b (fun S hS => h S (by simp [hS]))
/-- The first of the best ones is taken. -/
theorem bestN_first (a0 : Int) (P : List Int) (D : List (List Int)) (l m : Int) (pre post : List (List Int)) (S : List Int) (b : Plan4) (h1 : ∀ T ∈ pre, revN a0 P D T l < m) (h2 : revN a0 P D S l = m) (h3 : ∀ T ∈ post, revN a0 P D T l ≤ m) (hb : b.2.2.1 < m) : bestN a0 P D l (pre ++ S :: post) b = valN a0 P D l S := by
  rw [bestN_append, bestN]
  have hp : (bestN a0 P D l pre b).2.2.1 < m := by
    rcases bestN_in a0 P D l pre b with h | ⟨T, hT, h⟩
    · rw [h]; exact hb
    · rw [h]; exact h1 T hT
  rw [if_pos (show (bestN a0 P D l pre b).2.2.1 < (valN a0 P D l S).2.2.1 by show _ < revN a0 P D S l; rw [h2]; exact hp)]
  exact bestN_stay a0 P D l post _ (fun T hT => by show _ ≤ revN a0 P D S l; rw [h2]; exact h3 T hT)
theorem range_cut (i n K : Nat) (h1 : i ≤ K) (h2 : K < n) : List.range' i (n - i) = List.range' i (K - i) ++ K :: List.range' (K + 1) (n - (K + 1)) := by
  have h3 : List.range' K (n - K) = K :: List.range' (K + 1) (n - (K + 1)) := by
    rw [show n - K = (n - (K + 1)) + 1 by omega, List.range'_succ]
  rw [← h3]
  have := List.range'_append_1 (s := i) (m := K - i) (n := n - K)
  rw [show i + (K - i) = K by omega, show K - i + (n - K) = n - i by omega] at this
  exact this.symm
/-- The steps that the reference seeks out are the first of those that bring the most. -/
theorem steps_best {a0 a1 : Int} {P : List Int} {E : List (List Int)} (hg : spec_BestMarks.good a0 a1 P E) : ∀ (D : List (List Int)) (i : Nat) (l : Int), (∀ d ∈ D, ∀ x ∈ d, 0 ≤ x ∧ x ≤ 200) → i < P.length → 0 ≤ l →
    ∃ pre post, impl_BestMarks.cands P.length D.length i = pre ++ spec_BestMarks.steps a0 P D i l :: post ∧ (∀ S ∈ pre, revN a0 P D S l < spec_BestMarks.most a0 P D i l) ∧ revN a0 P D (spec_BestMarks.steps a0 P D i l) l = spec_BestMarks.most a0 P D i l ∧ ∀ S ∈ post, revN a0 P D S l ≤ spec_BestMarks.most a0 P D i l := by
  intro D
  induction D with
  | nil =>
    intro i l _ _ _
    exact ⟨[], [], rfl, ⟨fun S h => (by cases h), rfl, fun S h => (by cases h)⟩⟩
  | cons d D ih =>
    intro i l hd hi h0
    have hd1 := hd d (by simp)
    have hd2 : ∀ e ∈ D, ∀ x ∈ e, 0 ≤ x ∧ x ≤ 200 := fun e he => hd e (by simp [he])
    obtain ⟨k1, k2, k3, k4⟩ := spec_BestMarks.first_spec _ _ _ (spec_BestMarks.attained hg d D hd1 hd2 i l hi h0)
    have hge := (spec_BestMarks.acc_ge a0 P d D i l (P.length - i)).2
    rw [show i + (P.length - i) = P.length by omega, spec_BestMarks.acc_end] at hge
    have hbd : ∀ j : Nat, j < P.length → ∀ T ∈ impl_BestMarks.cands P.length D.length j, revN a0 P (d :: D) (((j : Nat) : Int) :: T) l ≤ spec_BestMarks.worth a0 P d D j l := by
      intro j hj T hT
      obtain ⟨m1, m2, _, _⟩ := spec_BestMarks.sale (s := ((j : Nat) : Int)) (l := l) hg.1 hg.2.2.2.2.1 hd1 h0
      obtain ⟨pre, post, e1, e2, e3, e4⟩ := ih j (l - mn l (rd d ((j : Nat) : Int))) hd2 hj (by omega)
      have hle : revN a0 P D T (l - mn l (rd d ((j : Nat) : Int))) ≤ spec_BestMarks.most a0 P D j (l - mn l (rd d ((j : Nat) : Int))) := by
        rw [e1] at hT
        rcases List.mem_append.1 hT with h | h
        · exact Int.le_of_lt (e2 T h)
        · rcases List.mem_cons.1 h with rfl | h
          · exact Int.le_of_eq e3
          · exact e4 T h
      show mn l (rd d ((j : Nat) : Int)) * pr a0 (rd P ((j : Nat) : Int)) + revN a0 P D T _ ≤ mn l (rd d ((j : Nat) : Int)) * pr a0 (rd P ((j : Nat) : Int)) + spec_BestMarks.most a0 P D j _
      omega
    rw [spec_BestMarks.steps]
    generalize hK : spec_BestMarks.first (fun k => spec_BestMarks.worth a0 P d D k l == spec_BestMarks.most a0 P (d :: D) i l) i (P.length - i) = K at k1 k2 k3 k4 ⊢
    have hKn : K < P.length := by omega
    have hw : spec_BestMarks.worth a0 P d D K l = spec_BestMarks.most a0 P (d :: D) i l := beq_iff_eq.mp k1
    obtain ⟨m1, m2, _, _⟩ := spec_BestMarks.sale (s := ((K : Nat) : Int)) (l := l) hg.1 hg.2.2.2.2.1 hd1 h0
    obtain ⟨pre, post, e1, e2, e3, e4⟩ := ih K (l - mn l (rd d ((K : Nat) : Int))) hd2 hKn (by omega)
    have hrev : ∀ T, revN a0 P (d :: D) (((K : Nat) : Int) :: T) l = mn l (rd d ((K : Nat) : Int)) * pr a0 (rd P ((K : Nat) : Int)) + revN a0 P D T (l - mn l (rd d ((K : Nat) : Int))) := fun _ => rfl
    have hwv : spec_BestMarks.worth a0 P d D K l = mn l (rd d ((K : Nat) : Int)) * pr a0 (rd P ((K : Nat) : Int)) + spec_BestMarks.most a0 P D K (l - mn l (rd d ((K : Nat) : Int))) := rfl
    refine ⟨(List.range' i (K - i)).flatMap (fun j => (impl_BestMarks.cands P.length D.length j).map (((j : Nat) : Int) :: ·)) ++ pre.map (((K : Nat) : Int) :: ·), post.map (((K : Nat) : Int) :: ·) ++ (List.range' (K + 1) (P.length - (K + 1))).flatMap (fun j => (impl_BestMarks.cands P.length D.length j).map (((j : Nat) : Int) :: ·)), ?_, ?_, ?_, ?_⟩
    · show (List.range' i (P.length - i)).flatMap _ = _
      rw [range_cut i P.length K k2 hKn, List.flatMap_append, List.flatMap_cons, e1]
      simp
    · intro S hS
      rcases List.mem_append.1 hS with h | h
      · obtain ⟨j, hj, hT⟩ := List.mem_flatMap.1 h
        obtain ⟨T, hT2, rfl⟩ := List.mem_map.1 hT
        rw [List.mem_range'_1] at hj
        have h1 := hbd j (by omega) T hT2
        have h2 := hge j hj.1 (by omega)
        have h3 : spec_BestMarks.worth a0 P d D j l ≠ spec_BestMarks.most a0 P (d :: D) i l := by
          have := k4 j hj.1 (by omega)
          simpa using this
        omega
      · obtain ⟨T, hT, rfl⟩ := List.mem_map.1 h
        have := e2 T hT
        rw [hrev, ← hw, hwv]
        omega
    · rw [hrev, ← hw, hwv, e3]
    · intro S hS
      rcases List.mem_append.1 hS with h | h
      · obtain ⟨T, hT, rfl⟩ := List.mem_map.1 h
        have := e4 T hT
        rw [hrev, ← hw, hwv]
        omega
      · obtain ⟨j, hj, hT⟩ := List.mem_flatMap.1 h
        obtain ⟨T, hT2, rfl⟩ := List.mem_map.1 hT
        rw [List.mem_range'_1] at hj
        have h1 := hbd j (by omega) T hT2
        have h2 := hge j (by omega) (by omega)
        omega
theorem best_eq {a0 a1 : Int} {P : List Int} {D : List (List Int)} (hr : rightM a0 a1 P D = true) : spec_BestMarks.good a0 a1 P D ∧ bestV a0 a1 P D = valN a0 P D a1 (spec_BestMarks.steps a0 P D 0 a1) ∧ (spec_BestMarks.steps a0 P D 0 a1).length = D.length ∧ stepsV ((P.length : Int) - 1) none (spec_BestMarks.steps a0 P D 0 a1) = true := by
  have hg : spec_BestMarks.good a0 a1 P D := right_more hr
  obtain ⟨h1, h2, h3, h4, h5, h6, h7⟩ := right_more hr
  obtain ⟨pre, post, e1, e2, e3, e4⟩ := steps_best hg D 0 a1 h7 (by omega) h2.1
  have hm := (spec_BestMarks.most_bd h1 h5 D 0 a1 h7 h2.1).1
  have hin : spec_BestMarks.steps a0 P D 0 a1 ∈ impl_BestMarks.cands P.length D.length 0 := by rw [e1]; simp
  obtain ⟨s1, s2⟩ := (mem_cands _ _ _ _).1 hin
  refine ⟨hg, ?_, s1, by rw [steps_zero]; exact s2⟩
  unfold bestV
  rw [e1]
  exact bestN_first a0 P D a1 _ pre post _ _ e2 e3 e4 (by show (-1 : Int) < _; omega)
/-- What BestMarks answers. -/
def bestJ (a0 a1 : Int) (P : List Int) (D : List (List Int)) : List Int × List Int × Int × Int × Int :=
  if (P.length : Int) > 4096 ∨ (D.length : Int) > 4096 then ([], [], 0, 0, 2) else if rightM a0 a1 P D = true then ((bestV a0 a1 P D).1, (bestV a0 a1 P D).2.1, (bestV a0 a1 P D).2.2.1, (bestV a0 a1 P D).2.2.2, 0) else ([], [], 0, 0, 1)
theorem implBestJ_ev (a0 a1 : Int) (P : List Int) (D : List (List Int)) : Ev (fun k => impl_BestMarks.f k a0 a1 P D) (bestJ a0 a1 P D) := by
  unfold bestJ
  by_cases c : (P.length : Int) > 4096 ∨ (D.length : Int) > 4096
  · rw [if_pos c]
    unfold impl_BestMarks.f
    exact Ev.neg (by omega) (Ev.some' rfl)
  rw [if_neg c]
  by_cases hr : rightM a0 a1 P D = true
  · rw [if_pos hr]
    exact implBest_ev hr
  · rw [if_neg hr]
    unfold impl_BestMarks.f
    refine Ev.pos (by omega) (Ev.bind (areMarks_ev a0 a1 P D (by omega)) (Ev.neg hr (Ev.some' rfl)))
theorem specBestJ_ev (a0 a1 : Int) (P : List Int) (D : List (List Int)) (hd : ∀ d ∈ D, d.length < 4611686018427387904) : Ev (fun k => spec_BestMarks.f k a0 a1 P D) (bestJ a0 a1 P D) := by
  unfold bestJ spec_BestMarks.f
  by_cases c1 : (P.length : Int) > 4096
  · rw [if_pos (Or.inl c1)]
    exact Ev.ret (show spec_l15Long.f P D = some true from if_pos c1) (Ev.pos rfl (Ev.some' rfl))
  by_cases c2 : (D.length : Int) > 4096
  · rw [if_pos (Or.inr c2)]
    exact Ev.ret (show spec_l15Long.f P D = some true by unfold spec_l15Long.f; rw [if_neg c1, decide_eq_true c2]) (Ev.pos rfl (Ev.some' rfl))
  rw [if_neg (by omega)]
  refine Ev.ret (show spec_l15Long.f P D = some false by unfold spec_l15Long.f; rw [if_neg c1, decide_eq_false c2]) (Ev.neg ff (Ev.bind (specRight_ev a0 a1 P D hd) ?_))
  by_cases hr : rightM a0 a1 P D = true
  · rw [if_pos hr]
    obtain ⟨hg, hb, hl, hs⟩ := best_eq hr
    obtain ⟨h1, h2, h3, h4, h5, h6, h7⟩ := right_more hr
    refine Ev.pos hr (Ev.pos hg ?_)
    refine Ev.eq (specMarkOf_ev a0 a1 P D (spec_BestMarks.steps a0 P D 0 a1) hd) ?_
    unfold markJ
    rw [if_neg (by omega), if_pos hr, if_pos (by omega), if_pos hs, runN h1 h5 D _ [] 0 a1 h7 h2.1 h2.2 (by omega) (by omega), List.nil_append, Int.zero_add, hb]
    rfl
  · rw [if_neg hr]
    exact Ev.neg hr (Ev.some' rfl)
theorem soldN_len : ∀ (D : List (List Int)) (S : List Int) (l : Int), (soldN D S l).length ≤ D.length := by
  intro D
  induction D with
  | nil => intro S l; exact Nat.zero_le _
  | cons d D ih =>
    intro S l
    cases S with
    | nil => exact Nat.zero_le _
    | cons s S => rw [soldN, List.length_cons, List.length_cons]; have := ih S (l - mn l (rd d s)); omega
theorem bestJ_len (a0 a1 : Int) (P : List Int) (D : List (List Int)) : (bestJ a0 a1 P D).1.length ≤ 4096 ∧ (bestJ a0 a1 P D).2.1.length ≤ 4096 := by
  unfold bestJ
  by_cases c : (P.length : Int) > 4096 ∨ (D.length : Int) > 4096
  · rw [if_pos c]; exact ⟨Nat.zero_le _, Nat.zero_le _⟩
  rw [if_neg c]
  by_cases hr : rightM a0 a1 P D = true
  · rw [if_pos hr]
    obtain ⟨⟨S, h1, _, h3⟩, _⟩ := bestV_spec hr
    have h2 := soldN_len D S a1
    rw [h3]
    exact ⟨by show S.length ≤ 4096; omega, by show (soldN D S a1).length ≤ 4096; omega⟩
  · rw [if_neg hr]; exact ⟨Nat.zero_le _, Nat.zero_le _⟩
theorem FnExactBestMarks : laws_FnExactBestMarks.Pure := by
  intro a0 a1 P D _ _ hP hD
  refine Ev.rounds (?_ : Ev (fun k => laws_FnExactBestMarks.f k a0 a1 P D) true)
  unfold laws_FnExactBestMarks.f
  by_cases c1 : (P.length : Int) > 1048576
  · exact Ev.pos c1 (Ev.some' rfl)
  refine Ev.neg c1 ?_
  obtain ⟨r, hr, h⟩ := szIntSS_ev D 1048576 (by omega) hD.1 (fun x hx => (hD.2 x hx).1)
  refine Ev.bind hr ?_
  by_cases c : r < 0
  · exact Ev.pos c (Ev.some' rfl)
  obtain ⟨hl, hs⟩ := h.resolve_left c
  have hm : ∀ x ∈ D, x.length ≤ 1048576 := fun x hx => by have := sumLen_mem D x hx; omega
  have tP := toIntS_ev P (by omega)
  have tD := toIntSS_ev D hl hm
  have eP := eqIntS_same P (by omega)
  have eD := eqIntSS_ev D (by omega) hm
  have iM := implBestJ_ev a0 a1 P D
  have sM := specBestJ_ev a0 a1 P D (fun d hd => by have := hm d hd; omega)
  obtain ⟨n1, n2⟩ := bestJ_len a0 a1 P D
  generalize bestJ a0 a1 P D = v at iM sM n1 n2
  have eV := eqPlan_ev v.1 v.2.1 v.2.2.1 v.2.2.2.1 (by omega) (by omega)
  have ne : (v.2.2.2.2 != v.2.2.2.2) = false := by simp
  have mP := markIntS_ev P 1 (by omega) (by omega) (by omega)
  have mD := markIntSS_ev D (1 + (P.length : Int)) (by omega) (by omega) (by omega)
  have mV := markPlan_ev v.1 v.2.1 v.2.2.1 v.2.2.2.1 n1 n2
  have hV := heldPlan_ev v.1.length v.2.1.length v.2.2.1 v.2.2.2.1 n1 n2
  refine Ev.neg c (Ev.bind tP (Ev.bind tD (Ev.bind sM (Ev.bind tP (Ev.bind tD (Ev.bind iM (Ev.bind eV (Ev.pos rfl (Ev.up1 ?_)))))))))
  simp only [laws_FnExactBestMarks.j0, ne]
  refine Ev.neg ff (Ev.bind tP (Ev.bind eP (Ev.pos rfl (Ev.bind tD (Ev.bind eD (Ev.pos rfl (Ev.bind mP (Ev.bind mD (Ev.neg (by first | omega | (simp only; omega)) (Ev.bind eV (Ev.pos rfl (Ev.up1 ?_))))))))))))
  simp only [laws_FnExactBestMarks.j1]
  refine Ev.neg ff (Ev.bind mV (Ev.bind hV (Ev.neg (by omega) (Ev.pos rfl (Ev.bind tP (Ev.bind tD (Ev.bind iM (Ev.bind eV (Ev.pos rfl (Ev.up1 ?_))))))))))
  simp only [laws_FnExactBestMarks.j2, ne]
  exact Ev.neg ff (Ev.bind hV (Ev.neg (by omega) (Ev.pos rfl (Ev.some' rfl))))

end Go.Proofs.Ytehjdodmgephiaa.Pure
