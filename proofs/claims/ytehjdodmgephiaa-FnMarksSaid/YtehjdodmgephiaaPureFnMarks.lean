/- Of a drawn price, stock, percents and demand the program's best steps bring at least what any drawn steps bring, as the law says: the law's plain statement, with no condition. -/
import Derived.Test.YtehjdodmgephiaaXFnMarksx6
import Derived.Test.YtehjdodmgephiaaAx
import Derived.Test.YtehjdodmgephiaaIdx
namespace Go.Proofs.Ytehjdodmgephiaa.Pure
open Go.RowKit Go.Proofs.Ytehjdodmgephiaa.XFnMarks Go.Proofs.YtehjdodmgephiaaW.PrintWords Go.Proofs.YtehjdodmgephiaaW.PrintLast
open Go.Proofs.YtehjdodmgephiaaW.Ax Go.Proofs.YtehjdodmgephiaaW.Idx
set_option linter.unusedVariables false
set_option linter.unusedSimpArgs false
/-- In bounds, and each above the one ahead. -/
def risP (lo hi : Int) : Option Int → List Int → Bool
  | _, [] => true
  | o, x :: a => decide (lo ≤ x ∧ x ≤ hi) && ((match o with | none => true | some y => decide (y < x)) && risP lo hi (some x) a)
theorem rd_prev (q : List Int) (y : Int) (r : List Int) : rd ((q ++ [y]) ++ r) (((q ++ [y]).length : Int) - 1) = y := by
  rw [len_snoc, show (q.length : Int) + 1 - 1 = (q.length : Int) by omega, ← snoc]
  exact rd_mid q y r
theorem within_ev (a b c : Int) : impl_within.f a b c = some (decide (b ≤ a ∧ a ≤ c)) := by
  unfold impl_within.f
  by_cases h : a ≥ b
  · rw [if_pos h]; congr 1; rw [decide_eq_decide]; omega
  · rw [if_neg h]; congr 1; symm; rw [decide_eq_false_iff_not]; omega
theorem isRising_l0 (lo hi : Int) : ∀ (a p : List Int), (p ++ a).length < 4611686018427387904 →
    Ev (fun k => impl_isRising.l0 k (p ++ a) lo hi (p ++ a) ((p ++ a).length : Int) (p.length : Int)) (risP lo hi p.getLast? a) := by
  intro a
  induction a with
  | nil => intro p hl; exact Ev.step (fun k => rfl) (Ev.neg (len_end p) (Ev.some' rfl))
  | cons x a ih =>
    intro p hl
    have hl' := hl
    rw [List.length_append, List.length_cons] at hl'
    have hnext := ih (p ++ [x]) (by rw [← snoc]; exact hl)
    rw [← snoc, len_snoc, List.getLast?_concat] at hnext
    refine Ev.step (fun k => rfl) (Ev.pos (len_lt p x a) (Ev.pos (by omega) (Ev.pos (len_lt p x a) (Ev.ret (within_ev _ _ _) ?_))))
    rw [rd_mid p x a]
    by_cases hin : lo ≤ x ∧ x ≤ hi
    · refine Ev.pos (by simpa using hin) ?_
      rcases List.eq_nil_or_concat p with rfl | ⟨q, y, rfl⟩
      · refine Ev.neg (by simp) ?_
        rw [w64 (by simp) (by simp)]
        refine Ev.eq hnext ?_
        simp [risP, hin]
      · rw [List.concat_eq_append] at *
        have hlen : ((q ++ [y]).length : Int) = (q.length : Int) + 1 := len_snoc q y
        refine Ev.pos (by omega) ?_
        rw [w64 (x := ((q ++ [y]).length : Int) - 1) (by omega) (by omega), rd_prev]
        refine Ev.pos (by omega) (Ev.pos (by simp only [List.length_append, List.length_cons, List.length_nil]; omega) ?_)
        by_cases hyx : y ≥ x
        · refine Ev.pos hyx (Ev.some' ?_)
          simp [risP, show ¬ y < x by omega]
        · refine Ev.neg hyx ?_
          rw [w64 (by omega) (by omega)]
          refine Ev.eq hnext ?_
          simp [risP, hin, show y < x by omega]
    · refine Ev.neg (by simpa using hin) (Ev.some' ?_)
      simp [risP, hin]
theorem isRising_ev (lo hi : Int) (l : List Int) (hl : l.length < 4611686018427387904) : Ev (fun k => impl_isRising.f k l lo hi) (risP lo hi none l) := by
  unfold impl_isRising.f
  exact isRising_l0 lo hi l [] hl
theorem rdM_mid (p : List (List Int)) (x : List Int) (r : List (List Int)) : rd_L2 (p ++ x :: r) (p.length : Int) = x := getD_mid p x r []
/-! ### right arguments -/
def dayV (n : Nat) (d : List Int) : Bool := decide (d.length = n) && d.all fun x => decide (0 ≤ x ∧ x ≤ 200)
def rightM (a0 a1 : Int) (P : List Int) (D : List (List Int)) : Bool := decide (0 ≤ a0 ∧ a0 ≤ 1000000) && (decide (0 ≤ a1 ∧ a1 ≤ 200) && (decide (1 ≤ (P.length : Int) ∧ (P.length : Int) ≤ 5) && (decide (1 ≤ (D.length : Int) ∧ (D.length : Int) ≤ 7) && (risP 0 100 none P && D.all (dayV P.length)))))
theorem areMarks_ev (a0 a1 : Int) (P : List Int) (D : List (List Int)) (hP : P.length < 4611686018427387904) : Ev (fun k => impl_areMarks.f k a0 a1 P D) (rightM a0 a1 P D) := by
  unfold impl_areMarks.f rightM
  by_cases c1 : 0 ≤ a0 ∧ a0 ≤ 1000000
  · rw [decide_eq_true c1, Bool.true_and]
    refine Ev.pos c1 ?_
    by_cases c2 : 0 ≤ a1 ∧ a1 ≤ 200
    · rw [decide_eq_true c2, Bool.true_and]
      refine Ev.pos c2 ?_
      by_cases c3 : 1 ≤ (P.length : Int) ∧ (P.length : Int) ≤ 5
      · rw [decide_eq_true c3, Bool.true_and]
        refine Ev.pos c3 (Ev.bind (isRising_ev 0 100 P hP) ?_)
        cases hr : risP 0 100 none P with
        | false => rw [Bool.false_and, Bool.and_false]; exact Ev.neg ff (Ev.some' rfl)
        | true =>
          rw [Bool.true_and]
          refine Ev.pos rfl ?_
          by_cases c4 : 1 ≤ (D.length : Int) ∧ (D.length : Int) ≤ 7
          · rw [decide_eq_true c4, Bool.true_and]
            exact Ev.pos c4 (Ev.some' rfl)
          · rw [decide_eq_false c4, Bool.false_and]
            exact Ev.neg c4 (Ev.some' rfl)
      · rw [decide_eq_false c3, Bool.false_and]
        exact Ev.neg c3 (Ev.some' rfl)
    · rw [decide_eq_false c2, Bool.false_and]
      exact Ev.neg c2 (Ev.some' rfl)
  · rw [decide_eq_false c1, Bool.false_and]
    exact Ev.neg c1 (Ev.some' rfl)
/-! ### steps -/
def leO : Option Int → Int → Bool
  | none, _ => true
  | some y, x => decide (y ≤ x)
def sortO : Option Int → List Int → Bool
  | _, [] => true
  | o, x :: a => leO o x && sortO (some x) a
theorem sortO_cons (o : Option Int) (x : Int) (a : List Int) : sortO o (x :: a) = (leO o x && sortO (some x) a) := rfl
theorem sortO_snoc : ∀ (q : List Int) (o : Option Int) (y x : Int), sortO o ((q ++ [y]) ++ [x]) = (sortO o (q ++ [y]) && decide (y ≤ x)) := by
  intro q
  induction q with
  | nil =>
    intro o y x
    show (leO o y && (leO (some y) x && true)) = ((leO o y && true) && decide (y ≤ x))
    rw [Bool.and_true, Bool.and_true]
    rfl
  | cons z q ih =>
    intro o y x
    rw [List.cons_append, List.cons_append, sortO_cons, sortO_cons, ih, Bool.and_assoc]
theorem less_ev (a b : Int) : cmp_Less_int.f a b = some (decide (a < b)) := by
  unfold cmp_Less_int.f cmp_isNaN_int.f
  simp
theorem sorted_l0 : ∀ (n : Nat) (p : List Int) (x : Int) (r : List Int), p.length = n → (p ++ x :: r).length < 4611686018427387904 → Ev (fun k => slices_IsSorted_int_int.l0 k (p ++ x :: r) (p.length : Int)) (sortO none (p ++ [x])) := by
  intro n
  induction n with
  | zero =>
    intro p x r hp hl
    obtain rfl : p = [] := List.eq_nil_of_length_eq_zero hp
    exact Ev.step (fun k => rfl) (Ev.neg (by simp) (Ev.some' rfl))
  | succ n ih =>
    intro p x r hp hl
    rcases List.eq_nil_or_concat p with rfl | ⟨q, y, rfl⟩
    · cases hp
    · rw [List.concat_eq_append] at *
      have hl' := hl
      rw [List.length_append, List.length_cons] at hl'
      have hlen : ((q ++ [y]).length : Int) = (q.length : Int) + 1 := len_snoc q y
      have hq : q.length = n := by rw [List.length_append] at hp; simpa using hp
      refine Ev.step (fun k => rfl) (Ev.pos (by omega) (Ev.pos (by omega) (Ev.pos (len_lt _ x r) ?_)))
      have e1 : wrap64 (((q ++ [y]).length : Int) - 1) = (q.length : Int) := by rw [w64 (by omega) (by omega)]; omega
      have e2 : rd ((q ++ [y]) ++ x :: r) (q.length : Int) = y := by rw [← snoc]; exact rd_mid q y (x :: r)
      rw [e1, rd_mid, e2]
      refine Ev.pos (by omega) (Ev.pos (by rw [List.length_append, List.length_cons]; omega) (Ev.ret (less_ev _ _) ?_))
      rw [sortO_snoc]
      by_cases c : x < y
      · rw [decide_eq_true c, decide_eq_false (show ¬ y ≤ x by omega), Bool.and_false]
        exact Ev.pos rfl (Ev.some' rfl)
      · rw [decide_eq_false c, decide_eq_true (show y ≤ x by omega), Bool.and_true]
        refine Ev.neg ff ?_
        have := ih q y (x :: r) hq (by rw [snoc]; exact hl)
        rw [snoc] at this
        exact this
theorem sorted_ev (S : List Int) (hl : S.length < 4611686018427387904) : Ev (fun k => slices_IsSorted_int_int.f k S) (sortO none S) := by
  unfold slices_IsSorted_int_int.f
  rw [w64 (by omega) (by omega)]
  rcases List.eq_nil_or_concat S with rfl | ⟨q, y, rfl⟩
  · exact Ev.step (fun k => rfl) (Ev.neg (by simp) (Ev.some' rfl))
  · rw [List.concat_eq_append] at *
    have := sorted_l0 q.length q y [] rfl hl
    rw [len_snoc, show (q.length : Int) + 1 - 1 = (q.length : Int) by omega]
    exact this
def stepsV (n : Int) : Option Int → List Int → Bool
  | _, [] => true
  | o, x :: a => decide (0 ≤ x ∧ x ≤ n) && (leO o x && stepsV n (some x) a)
theorem stepsV_cons (n : Int) (o : Option Int) (x : Int) (a : List Int) : stepsV n o (x :: a) = (decide (0 ≤ x ∧ x ≤ n) && (leO o x && stepsV n (some x) a)) := rfl
theorem steps_eq (n : Int) : ∀ (S : List Int) (o : Option Int), stepsV n o S = ((S.all fun x => decide (0 ≤ x ∧ x ≤ n)) && sortO o S) := by
  intro S
  induction S with
  | nil => intro o; rfl
  | cons x S ih =>
    intro o
    rw [stepsV_cons, sortO_cons, List.all_cons, ih]
    cases decide (0 ≤ x ∧ x ≤ n) <;> cases (S.all fun x => decide (0 ≤ x ∧ x ≤ n)) <;> cases leO o x <;> simp
/-! ### what steps do -/
def priceV (a b : Int) : Int := wrap64 (a - (wrap64 (Int.tdiv (wrap64 (a * b)) 100)))
def runV (a0 : Int) (P : List Int) : List (List Int) → List Int → List Int → Int → Int → List Int × Int × Int
  | d :: D, s :: S, o, r, l => runV a0 P D S (o ++ [mn l (rd d s)]) (wrap64 (r + (wrap64 ((mn l (rd d s)) * priceV a0 (rd P s))))) (wrap64 (l - (mn l (rd d s))))
  | _, _, o, r, l => (o, r, l)
theorem runV_len (a0 : Int) (P : List Int) : ∀ (D : List (List Int)) (S o : List Int) (r l : Int), (runV a0 P D S o r l).1.length ≤ o.length + D.length := by
  intro D
  induction D with
  | nil => intro S o r l; exact Nat.le_refl _
  | cons d D ih =>
    intro S o r l
    cases S with
    | nil => show o.length ≤ _; omega
    | cons s S =>
      have := ih S (o ++ [mn l (rd d s)]) (wrap64 (r + (wrap64 ((mn l (rd d s)) * priceV a0 (rd P s))))) (wrap64 (l - (mn l (rd d s))))
      rw [List.length_append, List.length_singleton] at this
      rw [runV, List.length_cons]
      omega
theorem markOf_l0 (a0 : Int) (P : List Int) (C : List Int) : ∀ (A : List (List Int)) (S : List Int) (p : List (List Int)) (q o : List Int) (r l : Int), p.length = q.length → A.length = S.length → (q ++ S).length < 1000000 → o.length = q.length → (∀ d ∈ A, d.length = P.length) → (∀ s ∈ S, 0 ≤ s ∧ s < (P.length : Int)) →
    Ev (fun k => impl_markOf.l0 k a0 P (p ++ A) (q ++ S) ((q ++ S).length : Int) (q.length : Int) C o r l) (C, runV a0 P A S o r l) := by
  intro A
  induction A with
  | nil =>
    intro S p q o r l hpq hAS hl _ _ _
    obtain rfl : S = [] := List.eq_nil_of_length_eq_zero hAS.symm
    exact Ev.step (fun k => rfl) (Ev.neg (len_end q) (Ev.some' rfl))
  | cons d A ih =>
    intro S p q o r l hpq hAS hl ho hd hS
    cases S with
    | nil => cases hAS
    | cons s S =>
      have hl' := hl
      rw [List.length_append, List.length_cons] at hl'
      obtain ⟨s0, s1⟩ := hS s (by simp)
      have hdl := hd d (by simp)
      have hrl : rd_L2 (p ++ d :: A) (q.length : Int) = d := by rw [← hpq]; exact rdM_mid p d A
      have := ih S (p ++ [d]) (q ++ [s]) (o ++ [mn l (rd d s)]) (wrap64 (r + (wrap64 ((mn l (rd d s)) * priceV a0 (rd P s))))) (wrap64 (l - (mn l (rd d s)))) (by simp [hpq]) (by simpa using hAS) (by rw [← snoc]; exact hl) (by simp [ho]) (fun z hz => hd z (by simp [hz])) (fun z hz => hS z (by simp [hz]))
      rw [← snoc, ← snoc, show (q ++ [s]).length = q.length + 1 by simp] at this
      refine Ev.step (fun k => rfl) (Ev.pos (len_lt q s S) (Ev.pos (by omega) (Ev.pos (len_lt q s S) (Ev.pos (by rw [← hpq]; exact len_lt p d A) ?_))))
      rw [rd_mid q s S, hrl]
      refine Ev.pos s0 (Ev.pos (by omega) (Ev.pos (by omega) (Ev.pos s1 (Ev.ret rfl ?_))))
      rw [w64n (by omega)]
      exact this
/-- What MarkOf answers. -/
def markJ (a0 a1 : Int) (P : List Int) (D : List (List Int)) (S : List Int) : List Int × List Int × Int × Int × Int :=
  if (P.length : Int) > 4096 ∨ (D.length : Int) > 4096 ∨ (S.length : Int) > 4096 then ([], [], 0, 0, 2) else if rightM a0 a1 P D = true then (if (S.length : Int) = (D.length : Int) then (if stepsV ((P.length : Int) - 1) none S = true then (S, (runV a0 P D S [] 0 a1).1, (runV a0 P D S [] 0 a1).2.1, (runV a0 P D S [] 0 a1).2.2, 0) else ([], [], 0, 0, 3)) else ([], [], 0, 0, 3)) else ([], [], 0, 0, 1)
theorem right_days {a0 a1 : Int} {P : List Int} {D : List (List Int)} (h : rightM a0 a1 P D = true) : (P.length : Int) ≤ 5 ∧ (D.length : Int) ≤ 7 ∧ ∀ d ∈ D, d.length = P.length := by
  unfold rightM at h
  simp only [Bool.and_eq_true, decide_eq_true_eq] at h
  refine ⟨h.2.2.1.2, h.2.2.2.1.2, fun d hd => ?_⟩
  have := List.all_eq_true.1 h.2.2.2.2.2 d hd
  unfold dayV at this
  rw [Bool.and_eq_true, decide_eq_true_eq] at this
  exact this.1
theorem implMarkOf_ev (a0 a1 : Int) (P : List Int) (D : List (List Int)) (S : List Int) : Ev (fun k => impl_MarkOf.f k a0 a1 P D S) (markJ a0 a1 P D S) := by
  have bad : Ev (fun k => impl_MarkOf.j0 k a0 a1 P D S true) ([], [], 0, 0, 2) := Ev.up1 (by simp only [impl_MarkOf.j0]; exact Ev.pos trivial (Ev.some' rfl))
  unfold impl_MarkOf.f markJ
  refine Ev.ret rfl ?_
  by_cases c1 : (P.length : Int) > 4096
  · rw [if_pos (Or.inl c1), decide_eq_false (by omega)]
    exact Ev.neg ff bad
  rw [decide_eq_true (by omega)]
  refine Ev.pos rfl (Ev.ret rfl ?_)
  by_cases c2 : (D.length : Int) > 4096
  · rw [if_pos (Or.inr (Or.inl c2)), decide_eq_false (by omega)]
    exact Ev.neg ff bad
  rw [decide_eq_true (by omega)]
  refine Ev.pos rfl (Ev.ret rfl ?_)
  by_cases c3 : (S.length : Int) > 4096
  · rw [if_pos (Or.inr (Or.inr c3)), decide_eq_false (by omega)]
    exact bad
  rw [if_neg (by omega), decide_eq_true (by omega)]
  refine Ev.up1 ?_
  simp only [impl_MarkOf.j0]
  refine Ev.neg ff (Ev.bind (areMarks_ev a0 a1 P D (by omega)) (Ev.ite (fun hr => ?_) (fun _ => Ev.some' rfl)))
  obtain ⟨r1, r2, r3⟩ := right_days hr
  refine Ev.ite (fun hSD => ?_) (fun _ => Ev.some' rfl)
  rw [w64 (by omega) (by omega), steps_eq]
  refine Ev.ret rfl ?_
  cases ha : (S.all fun n => decide (0 ≤ n ∧ n ≤ (P.length : Int) - 1)) with
  | false => rw [Bool.false_and, if_neg ff]; exact Ev.neg ff (Ev.some' rfl)
  | true =>
    rw [Bool.true_and]
    refine Ev.pos rfl (Ev.bind (sorted_ev S (by omega)) (Ev.ite (fun _ => ?_) (fun _ => Ev.some' rfl)))
    have hin : ∀ s ∈ S, 0 ≤ s ∧ s < (P.length : Int) := fun s hs => by have := of_decide_eq_true (List.all_eq_true.1 ha s hs); omega
    have hrun := markOf_l0 a0 P S D S [] [] [] 0 a1 rfl (by omega) (by simp; omega) rfl r3 hin
    have : Ev (fun k => impl_markOf.f k a0 a1 P D S) (S, runV a0 P D S [] 0 a1) := by
      unfold impl_markOf.f
      refine Ev.ret (show slices_Clone_int_int.f S = some S from if_pos (by omega)) hrun
    exact Ev.bind this (Ev.some' rfl)
theorem markJ_len (a0 a1 : Int) (P : List Int) (D : List (List Int)) (S : List Int) : (markJ a0 a1 P D S).1.length ≤ 4096 ∧ (markJ a0 a1 P D S).2.1.length ≤ 4096 := by
  unfold markJ
  by_cases c : (P.length : Int) > 4096 ∨ (D.length : Int) > 4096 ∨ (S.length : Int) > 4096
  · rw [if_pos c]; exact ⟨Nat.zero_le _, Nat.zero_le _⟩
  rw [if_neg c]
  split
  · split
    · split
      · have := runV_len a0 P D S [] 0 a1
        rw [List.length_nil] at this
        exact ⟨by show S.length ≤ 4096; omega, by show (runV a0 P D S [] 0 a1).1.length ≤ 4096; omega⟩
      · exact ⟨Nat.zero_le _, Nat.zero_le _⟩
    · exact ⟨Nat.zero_le _, Nat.zero_le _⟩
  · exact ⟨Nat.zero_le _, Nat.zero_le _⟩
/-! ### what steps do, in numbers -/
def pr (a b : Int) : Int := a - a * b / 100
theorem price_eq {a b : Int} (ha : 0 ≤ a ∧ a ≤ 1000000) (hb : 0 ≤ b ∧ b ≤ 100) : priceV a b = pr a b ∧ 0 ≤ pr a b ∧ pr a b ≤ 1000000 := by
  have h0 : 0 ≤ a * b := Int.mul_nonneg ha.1 hb.1
  have h1 : a * b ≤ a * 100 := Int.mul_le_mul_of_nonneg_left hb.2 ha.1
  unfold priceV pr
  generalize a * b = p at h0 h1 ⊢
  rw [w64 (x := p) (by omega) (by omega), Int.tdiv_eq_ediv_of_nonneg h0, w64 (x := p / 100) (by omega) (by omega), w64 (by omega) (by omega)]
  exact ⟨rfl, by omega, by omega⟩
theorem rd_bd {d : List Int} {lo hi : Int} (h0 : lo ≤ 0) (h1 : 0 ≤ hi) (h : ∀ x ∈ d, lo ≤ x ∧ x ≤ hi) (i : Int) : lo ≤ rd d i ∧ rd d i ≤ hi := by
  unfold rd
  rw [List.getD_eq_getElem?_getD]
  cases e : d[i.toNat]? with
  | none => exact ⟨h0, h1⟩
  | some y => exact h y (List.mem_of_getElem? e)
theorem mn_bd {a b : Int} (ha : 0 ≤ a) (hb : 0 ≤ b) : 0 ≤ mn a b ∧ mn a b ≤ a ∧ mn a b ≤ b := by unfold mn; split <;> omega
def soldN : List (List Int) → List Int → Int → List Int
  | d :: D, s :: S, l => mn l (rd d s) :: soldN D S (l - mn l (rd d s))
  | _, _, _ => []
def leftN : List (List Int) → List Int → Int → Int
  | d :: D, s :: S, l => leftN D S (l - mn l (rd d s))
  | _, _, l => l
def revN (a0 : Int) (P : List Int) : List (List Int) → List Int → Int → Int
  | d :: D, s :: S, l => mn l (rd d s) * pr a0 (rd P s) + revN a0 P D S (l - mn l (rd d s))
  | _, _, _ => 0
theorem sale_bd {a0 : Int} {P d : List Int} {s l : Int} (ha : 0 ≤ a0 ∧ a0 ≤ 1000000) (hP : ∀ x ∈ P, 0 ≤ x ∧ x ≤ 100) (hd : ∀ x ∈ d, 0 ≤ x ∧ x ≤ 200) (h0 : 0 ≤ l) :
    priceV a0 (rd P s) = pr a0 (rd P s) ∧ 0 ≤ mn l (rd d s) ∧ mn l (rd d s) ≤ l ∧ 0 ≤ mn l (rd d s) * pr a0 (rd P s) ∧ mn l (rd d s) * pr a0 (rd P s) ≤ 200000000 := by
  obtain ⟨p1, p2, p3⟩ := price_eq ha (rd_bd (by omega) (by omega) hP s)
  obtain ⟨m1, m2, m3⟩ := mn_bd h0 (rd_bd (by omega) (by omega) hd s).1
  have m4 := (rd_bd (lo := 0) (by omega) (by omega) hd s).2
  refine ⟨p1, m1, m2, Int.mul_nonneg m1 p2, ?_⟩
  have := Int.mul_le_mul (show mn l (rd d s) ≤ 200 by omega) p3 p2 (by omega)
  omega
theorem runN {a0 : Int} {P : List Int} (ha : 0 ≤ a0 ∧ a0 ≤ 1000000) (hP : ∀ x ∈ P, 0 ≤ x ∧ x ≤ 100) : ∀ (D : List (List Int)) (S o : List Int) (r l : Int), (∀ d ∈ D, ∀ x ∈ d, 0 ≤ x ∧ x ≤ 200) → 0 ≤ l → l ≤ 200 → 0 ≤ r → r + 200000000 * D.length ≤ 1000000000000 →
    runV a0 P D S o r l = (o ++ soldN D S l, r + revN a0 P D S l, leftN D S l) := by
  intro D
  induction D with
  | nil => intro S o r l _ _ _ _ _; show (o, r, l) = (o ++ [], r + 0, l); simp
  | cons d D ih =>
    intro S o r l hd h0 h1 hr hb
    cases S with
    | nil => show (o, r, l) = (o ++ [], r + 0, l); simp
    | cons s S =>
      obtain ⟨p1, m1, m2, x1, x2⟩ := sale_bd (s := s) ha hP (hd d (by simp)) h0
      rw [List.length_cons] at hb
      rw [runV, soldN, revN, leftN, p1]
      generalize mn l (rd d s) * pr a0 (rd P s) = x at x1 x2 ⊢
      generalize mn l (rd d s) = m at m1 m2 ⊢
      rw [w64 (x := x) (by omega) (by omega), w64 (x := r + x) (by omega) (by omega), w64 (x := l - m) (by omega) (by omega), ih S _ _ _ (fun z hz => hd z (by simp [hz])) (by omega) (by omega) (by omega) (by omega)]
      simp [Int.add_assoc]
theorem revN_bd {a0 : Int} {P : List Int} (ha : 0 ≤ a0 ∧ a0 ≤ 1000000) (hP : ∀ x ∈ P, 0 ≤ x ∧ x ≤ 100) : ∀ (D : List (List Int)) (S : List Int) (l : Int), (∀ d ∈ D, ∀ x ∈ d, 0 ≤ x ∧ x ≤ 200) → 0 ≤ l → 0 ≤ revN a0 P D S l ∧ revN a0 P D S l ≤ 200000000 * D.length := by
  intro D
  induction D with
  | nil => intro S l _ _; exact ⟨Int.le_refl _, by simp [revN]⟩
  | cons d D ih =>
    intro S l hd h0
    cases S with
    | nil => exact ⟨Int.le_refl _, by simp only [revN]; omega⟩
    | cons s S =>
      obtain ⟨p1, m1, m2, x1, x2⟩ := sale_bd (s := s) ha hP (hd d (by simp)) h0
      have := ih S (l - mn l (rd d s)) (fun z hz => hd z (by simp [hz])) (by omega)
      rw [revN, List.length_cons]
      omega
/-- More stock never brings less. -/
theorem revN_mono {a0 : Int} {P : List Int} (ha : 0 ≤ a0 ∧ a0 ≤ 1000000) (hP : ∀ x ∈ P, 0 ≤ x ∧ x ≤ 100) : ∀ (D : List (List Int)) (S : List Int) (l l' : Int), l ≤ l' → revN a0 P D S l ≤ revN a0 P D S l' := by
  intro D
  induction D with
  | nil => intro S l l' _; exact Int.le_refl _
  | cons d D ih =>
    intro S l l' h
    cases S with
    | nil => exact Int.le_refl _
    | cons s S =>
      obtain ⟨p1, p2, p3⟩ := price_eq ha (rd_bd (by omega) (by omega) hP s)
      have hm : mn l (rd d s) ≤ mn l' (rd d s) ∧ l - mn l (rd d s) ≤ l' - mn l' (rd d s) := by unfold mn; split <;> split <;> omega
      have h1 := Int.mul_le_mul_of_nonneg_right hm.1 p2
      have h2 := ih S _ _ hm.2
      rw [revN, revN]
      omega
/-! ### the best of some steps -/
abbrev Plan4 := List Int × List Int × Int × Int
def valN (a0 : Int) (P : List Int) (D : List (List Int)) (l : Int) (S : List Int) : Plan4 := (S, soldN D S l, revN a0 P D S l, leftN D S l)
def bestN (a0 : Int) (P : List Int) (D : List (List Int)) (l : Int) : List (List Int) → Plan4 → Plan4
  | [], b => b
  | S :: cs, b => bestN a0 P D l cs (if b.2.2.1 < (valN a0 P D l S).2.2.1 then valN a0 P D l S else b)
theorem bestN_ge (a0 : Int) (P : List Int) (D : List (List Int)) (l : Int) : ∀ (cs : List (List Int)) (b : Plan4), b.2.2.1 ≤ (bestN a0 P D l cs b).2.2.1 ∧ ∀ S ∈ cs, revN a0 P D S l ≤ (bestN a0 P D l cs b).2.2.1 := by
  intro cs
  induction cs with
  | nil => intro b; exact ⟨Int.le_refl _, fun S h => by cases h⟩
  | cons T cs ih =>
    intro b
    rw [bestN]
    obtain ⟨h1, h2⟩ := ih (if b.2.2.1 < (valN a0 P D l T).2.2.1 then valN a0 P D l T else b)
    have hT : (valN a0 P D l T).2.2.1 = revN a0 P D T l := rfl
    have h3 : b.2.2.1 ≤ (if b.2.2.1 < (valN a0 P D l T).2.2.1 then valN a0 P D l T else b).2.2.1 ∧ revN a0 P D T l ≤ (if b.2.2.1 < (valN a0 P D l T).2.2.1 then valN a0 P D l T else b).2.2.1 := by
      split <;> omega
    refine ⟨by omega, fun S hS => ?_⟩
    rcases List.mem_cons.1 hS with rfl | hS
    · omega
    · exact h2 S hS
theorem bestN_in (a0 : Int) (P : List Int) (D : List (List Int)) (l : Int) : ∀ (cs : List (List Int)) (b : Plan4), bestN a0 P D l cs b = b ∨ ∃ S ∈ cs, bestN a0 P D l cs b = valN a0 P D l S := by
  intro cs
  induction cs with
  | nil => intro b; exact Or.inl rfl
  | cons T cs ih =>
    intro b
    rw [bestN]
    rcases ih (if b.2.2.1 < (valN a0 P D l T).2.2.1 then valN a0 P D l T else b) with h | ⟨S, hS, h⟩
    · rw [h]
      split
      · exact Or.inr ⟨T, by simp, rfl⟩
      · exact Or.inl rfl
    · exact Or.inr ⟨S, by simp [hS], h⟩
theorem right_more {a0 a1 : Int} {P : List Int} {D : List (List Int)} (h : rightM a0 a1 P D = true) : (0 ≤ a0 ∧ a0 ≤ 1000000) ∧ (0 ≤ a1 ∧ a1 ≤ 200) ∧ (1 ≤ P.length ∧ P.length ≤ 5) ∧ (1 ≤ D.length ∧ D.length ≤ 7) ∧ (∀ x ∈ P, 0 ≤ x ∧ x ≤ 100) ∧ (∀ d ∈ D, d.length = P.length) ∧ (∀ d ∈ D, ∀ x ∈ d, 0 ≤ x ∧ x ≤ 200) := by
  unfold rightM at h
  simp only [Bool.and_eq_true, decide_eq_true_eq] at h
  obtain ⟨h1, h2, h3, h4, h5, h6⟩ := h
  have hr : ∀ (a : List Int) (o : Option Int), risP 0 100 o a = true → ∀ x ∈ a, 0 ≤ x ∧ x ≤ 100 := by
    intro a
    induction a with
    | nil => intro o _ x hx; cases hx
    | cons y a ih =>
      intro o ho x hx
      have ho : (decide (0 ≤ y ∧ y ≤ 100) && (_ && risP 0 100 (some y) a)) = true := ho
      rw [Bool.and_eq_true, Bool.and_eq_true, decide_eq_true_eq] at ho
      rcases List.mem_cons.1 hx with rfl | hx
      · exact ho.1
      · exact ih _ ho.2.2 x hx
  refine ⟨h1, h2, by omega, by omega, hr P none h5, fun d hd => ?_, fun d hd x hx => ?_⟩
  · have := List.all_eq_true.1 h6 d hd
    rw [dayV, Bool.and_eq_true, decide_eq_true_eq] at this
    exact this.1
  · have := List.all_eq_true.1 h6 d hd
    rw [dayV, Bool.and_eq_true] at this
    exact of_decide_eq_true (List.all_eq_true.1 this.2 x hx)
/-! ### all steps -/
theorem mem_cands (n : Nat) : ∀ (r i : Nat) (S : List Int), S ∈ impl_BestMarks.cands n r i ↔ S.length = r ∧ stepsV ((n : Int) - 1) (some (i : Int)) S = true := by
  intro r
  induction r with
  | zero =>
    intro i S
    rw [impl_BestMarks.cands, List.mem_singleton]
    constructor
    · rintro rfl; exact ⟨rfl, rfl⟩
    · rintro ⟨h, _⟩; exact List.eq_nil_of_length_eq_zero h
  | succ r ih =>
    intro i S
    rw [impl_BestMarks.cands, List.mem_flatMap]
    constructor
    · rintro ⟨j, hj, hS⟩
      obtain ⟨T, hT, rfl⟩ := List.mem_map.1 hS
      obtain ⟨h1, h2⟩ := (ih j T).1 hT
      rw [List.mem_range'_1] at hj
      rw [stepsV_cons, h2, Bool.and_true, decide_eq_true (by omega), Bool.true_and]
      exact ⟨by rw [List.length_cons, h1], decide_eq_true (by omega)⟩
    · rintro ⟨h1, h2⟩
      cases S with
      | nil => cases h1
      | cons x T =>
        rw [stepsV_cons, Bool.and_eq_true, Bool.and_eq_true, decide_eq_true_eq] at h2
        obtain ⟨h3, h4, h5⟩ := h2
        have h4 : (i : Int) ≤ x := of_decide_eq_true h4
        obtain ⟨j, rfl⟩ := Int.eq_ofNat_of_zero_le h3.1
        refine ⟨j, by rw [List.mem_range'_1]; omega, List.mem_map.2 ⟨T, (ih j T).2 ⟨by simpa using h1, h5⟩, rfl⟩⟩
theorem steps_in (n : Int) : ∀ (S : List Int) (o : Option Int), stepsV n o S = true → ∀ s ∈ S, 0 ≤ s ∧ s ≤ n := by
  intro S
  induction S with
  | nil => intro o _ s hs; cases hs
  | cons x S ih =>
    intro o h s hs
    rw [stepsV_cons, Bool.and_eq_true, Bool.and_eq_true, decide_eq_true_eq] at h
    rcases List.mem_cons.1 hs with rfl | hs
    · exact h.1
    · exact ih _ h.2.2 s hs
theorem steps_zero (n : Int) (S : List Int) : stepsV n none S = stepsV n (some 0) S := by
  cases S with
  | nil => rfl
  | cons x S =>
    rw [stepsV_cons, stepsV_cons]
    by_cases h : 0 ≤ x ∧ x ≤ n
    · rw [show leO (some 0) x = true from decide_eq_true h.1]; rfl
    · rw [decide_eq_false h, Bool.false_and, Bool.false_and]
theorem try_ev {a0 a1 : Int} {P : List Int} {D : List (List Int)} (hr : rightM a0 a1 P D = true) : ∀ (cs : List (List Int)) (b : Plan4), (∀ S ∈ cs, S.length = D.length ∧ ∀ s ∈ S, 0 ≤ s ∧ s < (P.length : Int)) → Ev (fun k => impl_BestMarks.try_ k a0 a1 P D cs b) (bestN a0 P D a1 cs b) := by
  obtain ⟨h1, h2, h3, h4, h5, h6, h7⟩ := right_more hr
  intro cs
  induction cs with
  | nil => intro b _; exact Ev.some' rfl
  | cons S cs ih =>
    intro b hS
    obtain ⟨s1, s2⟩ := hS S (by simp)
    have hrun := markOf_l0 a0 P S D S [] [] [] 0 a1 rfl (by omega) (by simp; omega) rfl h6 s2
    rw [runN h1 h5 D S [] 0 a1 h7 h2.1 h2.2 (by omega) (by omega), List.nil_append, Int.zero_add] at hrun
    have : Ev (fun k => impl_markOf.f k a0 a1 P D S) (valN a0 P D a1 S) := by
      unfold impl_markOf.f
      refine Ev.ret (show slices_Clone_int_int.f S = some S from if_pos (by omega)) hrun
    exact Ev.bind this (ih _ (fun T hT => hS T (by simp [hT])))
def bestV (a0 a1 : Int) (P : List Int) (D : List (List Int)) : Plan4 := bestN a0 P D a1 (impl_BestMarks.cands P.length D.length 0) ([], [], -1, 0)
theorem cands_ok {P : List Int} {D : List (List Int)} : ∀ S ∈ impl_BestMarks.cands P.length D.length 0, S.length = D.length ∧ ∀ s ∈ S, 0 ≤ s ∧ s < (P.length : Int) := fun S hS => by
  obtain ⟨h1, h2⟩ := (mem_cands _ _ _ _).1 hS
  exact ⟨h1, fun s hs => by have := steps_in _ _ _ h2 s hs; omega⟩
theorem implBest_ev {a0 a1 : Int} {P : List Int} {D : List (List Int)} (hr : rightM a0 a1 P D = true) : Ev (fun k => impl_BestMarks.f k a0 a1 P D) ((bestV a0 a1 P D).1, (bestV a0 a1 P D).2.1, (bestV a0 a1 P D).2.2.1, (bestV a0 a1 P D).2.2.2, 0) := by
  obtain ⟨h1, h2, h3, h4, h5, h6, h7⟩ := right_more hr
  unfold impl_BestMarks.f
  refine Ev.pos (by omega) (Ev.bind (areMarks_ev a0 a1 P D (by omega)) ?_)
  rw [hr]
  exact Ev.pos rfl (Ev.bind (try_ev hr _ _ cands_ok) (Ev.some' rfl))
/-- The best plan is that of some steps, and no steps bring more. -/
theorem bestV_spec {a0 a1 : Int} {P : List Int} {D : List (List Int)} (hr : rightM a0 a1 P D = true) : (∃ S, S.length = D.length ∧ stepsV ((P.length : Int) - 1) none S = true ∧ bestV a0 a1 P D = valN a0 P D a1 S) ∧ ∀ S, S.length = D.length → stepsV ((P.length : Int) - 1) none S = true → revN a0 P D S a1 ≤ (bestV a0 a1 P D).2.2.1 := by
  obtain ⟨h1, h2, h3, h4, h5, h6, h7⟩ := right_more hr
  have hall : ∀ S, S.length = D.length → stepsV ((P.length : Int) - 1) none S = true → revN a0 P D S a1 ≤ (bestV a0 a1 P D).2.2.1 := fun S hl hs =>
    (bestN_ge a0 P D a1 _ _).2 S ((mem_cands _ _ _ _).2 ⟨hl, by rw [steps_zero] at hs; exact hs⟩)
  refine ⟨?_, hall⟩
  have hz : ∀ n : Nat, stepsV ((P.length : Int) - 1) (some 0) (List.replicate n 0) = true := by
    intro n
    induction n with
    | zero => rfl
    | succ n ih => rw [List.replicate_succ, stepsV_cons, ih, decide_eq_true (by omega)]; rfl
  have h0 := hall (List.replicate D.length 0) (by simp) (by rw [steps_zero]; exact hz _)
  have h0' := (revN_bd h1 h5 D (List.replicate D.length 0) a1 h7 h2.1).1
  rcases bestN_in a0 P D a1 (impl_BestMarks.cands P.length D.length 0) ([], [], -1, 0) with h | ⟨S, hS, h⟩
  · exfalso
    rw [bestV, h] at h0
    simp only at h0
    omega
  · obtain ⟨hl, hs⟩ := (mem_cands _ _ _ _).1 hS
    exact ⟨S, hl, by rw [steps_zero]; exact hs, h⟩
def sumI : List Int → Int
  | [] => 0
  | x :: l => x + sumI l
theorem sumI_nonneg : ∀ (l : List Int), (∀ x ∈ l, 0 ≤ x) → 0 ≤ sumI l := by
  intro l
  induction l with
  | nil => intro _; exact Int.le_refl _
  | cons x l ih =>
    intro h
    have h1 := h x (by simp)
    have h2 := ih (fun y hy => h y (by simp [hy]))
    rw [sumI]
    omega
theorem lawSum_l0 : ∀ (a p : List Int) (s : Int), (p ++ a).length < 1000000 → (∀ x ∈ a, 0 ≤ x) → 0 ≤ s → s + sumI a ≤ 9022419900000 → Ev (fun k => laws_sum.l0 k (p ++ a) s (p.length : Int)) (s + sumI a) := by
  intro a
  induction a with
  | nil => intro p s hl ha h0 h1; exact Ev.step (fun k => rfl) (Ev.neg (len_end p) (Ev.some' (by simp [sumI])))
  | cons x a ih =>
    intro p s hl ha h0 h1
    have hl' := hl
    rw [List.length_append, List.length_cons] at hl'
    have hx := ha x (by simp)
    have ha' := fun y hy => ha y (List.mem_cons_of_mem x hy)
    have hs := sumI_nonneg a ha'
    rw [sumI] at h1 ⊢
    refine Ev.step (fun k => rfl) (Ev.pos (len_lt p x a) (Ev.pos (by omega) ?_))
    rw [rd_mid, w64 (by omega) (by omega), w64 (by omega) (by omega), ← len_snoc p x, snoc p x a]
    exact Ev.eq (ih (p ++ [x]) (s + x) (by rw [← snoc]; exact hl) ha' (by omega) (by omega)) (by omega)
theorem lawSum_ev (l : List Int) (hl : l.length < 1000000) (hn : ∀ x ∈ l, 0 ≤ x) (hs : sumI l ≤ 9022419900000) : Ev (fun k => laws_sum.f k l) (sumI l) :=
  Ev.eq (lawSum_l0 l [] 0 hl hn (by omega) (by omega)) (by omega)
theorem sum_take : ∀ (l : List Int) (n : Nat), (∀ x ∈ l, 0 ≤ x) → 0 ≤ sumI (l.take n) ∧ sumI (l.take n) ≤ sumI l := by
  intro l
  induction l with
  | nil => intro n h; simp [sumI]
  | cons x l ih =>
    intro n h
    have h1 := h x (by simp)
    have h2 := fun y hy => h y (List.mem_cons_of_mem x hy)
    have h3 := sumI_nonneg l h2
    cases n with
    | zero => simp only [List.take_zero, sumI]; omega
    | succ n =>
      have := ih n h2
      simp only [List.take_succ_cons, sumI]; omega
/-- A source of draws: its code's bytes, its place (at most N), its seed. -/
def Srd (c : List Int) (a s N : Int) : Prop := (∀ x ∈ c, 0 ≤ x ∧ x ≤ 255) ∧ 0 ≤ a ∧ a ≤ N ∧ 0 ≤ s ∧ s ≤ 2147483647
theorem Srd.mono {c : List Int} {a s N M : Int} (h : Srd c a s N) (hM : N ≤ M) : Srd c a s M := ⟨h.1, h.2.1, by have := h.2.2.1; omega, h.2.2.2⟩
theorem rd_byte {c : List Int} (hc : ∀ x ∈ c, 0 ≤ x ∧ x ≤ 255) (i : Int) : 0 ≤ rd c i ∧ rd c i ≤ 255 := by
  unfold rd
  rw [List.getD_eq_getElem?_getD]
  cases h : c[i.toNat]? with
  | none => simp
  | some x => simpa using hc x (List.mem_of_getElem? h)
theorem byte_ok {c : List Int} {a s N : Int} (h : Srd c a s N) (hN : N ≤ 1000000000) : ∃ v s', spec_l00Src_byte.f c a s = some (v, a + 1, s') ∧ 0 ≤ v ∧ v ≤ 255 ∧ Srd c (a + 1) s' (N + 1) := by
  obtain ⟨hc, h0, h1, h2, h3⟩ := h
  unfold spec_l00Src_byte.f
  rw [w64 (x := a + 1) (by omega) (by omega), w64 (x := a + 1 - 1) (by omega) (by omega), show a + 1 - 1 = a by omega]
  have hb := rd_byte hc a
  generalize rd c a = b at hb
  rw [w64 (x := b) (by omega) (by omega), w64 (x := s * 31) (by omega) (by omega), w64 (x := s * 31 + b) (by omega) (by omega), w64 (x := s * 31 + b + 7) (by omega) (by omega), Int.tmod_eq_emod_of_nonneg (show 0 ≤ s * 31 + b + 7 by omega)]
  rw [w64 (x := s * 1103515245) (by omega) (by omega), w64 (x := s * 1103515245 + 12345) (by omega) (by omega), Int.tmod_eq_emod_of_nonneg (show 0 ≤ s * 1103515245 + 12345 by omega)]
  have e := Int.emod_nonneg (s * 1103515245 + 12345) (show (2147483648 : Int) ≠ 0 by decide)
  have e2 := Int.emod_lt_of_pos (s * 1103515245 + 12345) (show (0 : Int) < 2147483648 by decide)
  have f := Int.emod_nonneg (s * 31 + b + 7) (show (2147483648 : Int) ≠ 0 by decide)
  have f2 := Int.emod_lt_of_pos (s * 31 + b + 7) (show (0 : Int) < 2147483648 by decide)
  generalize (s * 1103515245 + 12345) % 2147483648 = t at e e2 ⊢
  generalize (s * 31 + b + 7) % 2147483648 = u at f f2 ⊢
  by_cases c1 : a + 1 ≤ (c.length : Int)
  · rw [if_pos c1, if_pos h0, if_pos (by omega)]
    exact ⟨_, _, rfl, hb.1, hb.2, hc, by omega, by omega, by omega, by omega⟩
  · rw [if_neg c1]
    by_cases c2 : a + 1 > 3000
    · rw [if_pos c2]
      exact ⟨_, _, rfl, by omega, by omega, hc, by omega, by omega, by omega, by omega⟩
    · rw [if_neg c2, Int.tdiv_eq_ediv_of_nonneg (by omega), w64 (by omega) (by omega), Int.tmod_eq_emod_of_nonneg (by omega)]
      exact ⟨_, _, rfl, by omega, by omega, hc, by omega, by omega, by omega, by omega⟩
theorem next_ok {c : List Int} {a s N : Int} (n : Int) (h : Srd c a s N) (hN : N ≤ 900000000) (h1 : 1 ≤ n) (h2 : n ≤ 16777216) : ∃ v a' s', spec_l00Src_next.f c a s n = some (v, a', s') ∧ 0 ≤ v ∧ v < n ∧ Srd c a' s' (N + 3) := by
  unfold spec_l00Src_next.f
  by_cases c1 : n ≤ 1
  · rw [if_pos c1]
    exact ⟨_, _, _, rfl, by omega, by omega, h.mono (by omega)⟩
  · rw [if_neg c1]
    obtain ⟨v, s1, hv, v0, v1, S1⟩ := byte_ok h (by omega)
    simp only [hv, Option.bind_some]
    have g := Int.emod_nonneg v (show n ≠ 0 by omega)
    have g2 := Int.emod_lt_of_pos v (show 0 < n by omega)
    by_cases c2 : n ≤ 256
    · rw [if_pos c2, if_neg (by omega), Int.tmod_eq_emod_of_nonneg (by omega)]
      exact ⟨_, _, _, rfl, g, g2, S1.mono (by omega)⟩
    · rw [if_neg c2]
      obtain ⟨x, s2, hx, x0, x1, S2⟩ := byte_ok S1 (by omega)
      simp only [hx, Option.bind_some]
      obtain ⟨y, s3, hy, y0, y1, S3⟩ := byte_ok S2 (by omega)
      simp only [hy, Option.bind_some]
      rw [if_neg (by omega)]
      rw [w64 (x := v * 65536) (by omega) (by omega), w64 (x := x * 256) (by omega) (by omega), w64 (x := v * 65536 + x * 256) (by omega) (by omega), w64 (by omega) (by omega), Int.tmod_eq_emod_of_nonneg (by omega)]
      exact ⟨_, _, _, rfl, Int.emod_nonneg _ (by omega), Int.emod_lt_of_pos _ (by omega), S3.mono (by omega)⟩
theorem source_ok (l : List Int) (h : ∀ x ∈ l, (Lit.int .u8 x).wf = true) : ∃ s, spec_l00Source.f l = some (l, 0, s) ∧ Srd l 0 s 0 := by
  refine ⟨_, rfl, fun x hx => bounds_u8 (h x hx), by omega, by omega, ?_, ?_⟩ <;> omega
theorem size_ok {c : List Int} (a s m : Int) (hc : c.length ≤ 1048576) (hm : 1 ≤ m) : ∃ v, spec_l00Src_size.f c a s m = some (v, a, s) ∧ 1 ≤ v ∧ v ≤ m := by
  unfold spec_l00Src_size.f
  rw [w64 (x := (c.length : Int) / 12) (by omega) (by omega), w64 (by omega) (by omega)]
  refine ⟨_, rfl, ?_, ?_⟩ <;> (unfold mn; split <;> omega)

theorem sold_sum : ∀ (D : List (List Int)) (S : List Int) (l : Int), sumI (soldN D S l) + leftN D S l = l := by
  intro D
  induction D with
  | nil => intro S l; show (0 : Int) + l = l; omega
  | cons d D ih =>
    intro S l
    cases S with
    | nil => show (0 : Int) + l = l; omega
    | cons s S =>
      have := ih S (l - mn l (rd d s))
      rw [soldN, leftN, sumI]
      omega
theorem sold_ok : ∀ (D : List (List Int)) (S : List Int) (l : Int), (∀ d ∈ D, ∀ x ∈ d, 0 ≤ x ∧ x ≤ 200) → 0 ≤ l → (∀ x ∈ soldN D S l, 0 ≤ x) ∧ 0 ≤ leftN D S l ∧ (soldN D S l).length ≤ D.length := by
  intro D
  induction D with
  | nil => intro S l _ h0; exact ⟨fun x hx => by simp [soldN] at hx, h0, Nat.zero_le _⟩
  | cons d D ih =>
    intro S l hd h0
    cases S with
    | nil => exact ⟨fun x hx => by simp [soldN] at hx, h0, Nat.zero_le _⟩
    | cons s S =>
      obtain ⟨m1, m2, m3⟩ := mn_bd h0 (rd_bd (lo := 0) (by omega) (by omega) (hd d (by simp)) s).1
      obtain ⟨i1, i2, i3⟩ := ih S (l - mn l (rd d s)) (fun z hz => hd z (by simp [hz])) (by omega)
      rw [soldN, leftN, List.length_cons, List.length_cons]
      refine ⟨fun x hx => ?_, i2, by omega⟩
      rcases List.mem_cons.1 hx with rfl | hx
      · exact m1
      · exact i1 x hx
theorem risP_cons (lo hi : Int) (o : Option Int) (x : Int) (a : List Int) : risP lo hi o (x :: a) = (decide (lo ≤ x ∧ x ≤ hi) && ((match o with | none => true | some y => decide (y < x)) && risP lo hi (some x) a)) := by cases o <;> rfl
theorem ris_snoc (lo hi : Int) : ∀ (q : List Int) (o : Option Int) (y x : Int), risP lo hi o ((q ++ [y]) ++ [x]) = (risP lo hi o (q ++ [y]) && (decide (lo ≤ x ∧ x ≤ hi) && decide (y < x))) := by
  intro q
  induction q with
  | nil =>
    intro o y x
    simp only [List.nil_append, List.cons_append, risP, Bool.and_true]
    cases decide (lo ≤ y ∧ y ≤ hi) <;> cases o <;> simp [Bool.and_assoc]
  | cons z q ih =>
    intro o y x
    rw [List.cons_append, List.cons_append, risP_cons, risP_cons, ih]
    simp [Bool.and_assoc]
theorem ris_put {acc : List Int} {at_ : Int} (h : risP 0 100 none acc = true) (hl : ∀ y, acc.getLast? = some y → y < at_) (h0 : 0 ≤ at_ ∧ at_ ≤ 100) : risP 0 100 none (acc ++ [at_]) = true := by
  rcases List.eq_nil_or_concat acc with rfl | ⟨q, y, rfl⟩
  · simp [risP, h0]
  · rw [List.concat_eq_append] at *
    have hy := hl y List.getLast?_concat
    rw [ris_snoc, h, decide_eq_true h0, decide_eq_true hy]
    rfl
theorem percents_l0 (c : List Int) : ∀ (n : Nat) (acc : List Int) (at_ a s N : Int), Srd c a s N → N + 3 * n ≤ 1000000 → acc.length + n ≤ 5 → 1 ≤ acc.length + n → risP 0 100 none acc = true → (∀ y, acc.getLast? = some y → y < at_) → 0 ≤ at_ → at_ ≤ 200 → (acc = [] → at_ ≤ 100) →
    ∃ P a' s', Ev (fun k => spec_l00Src_percents.l0 k acc at_ ((n : Int) - 1) c a s) (P, a', s') ∧ Srd c a' s' (N + 3 * n) ∧ 1 ≤ P.length ∧ P.length ≤ 5 ∧ risP 0 100 none P = true := by
  intro n
  induction n with
  | zero =>
    intro acc at_ a s N hS hN hl hl1 hr _ _ _ _
    exact ⟨acc, a, s, Ev.step (fun k => rfl) (Ev.neg (by omega) (Ev.some' rfl)), hS.mono (by omega), by omega, by omega, hr⟩
  | succ n ih =>
    intro acc at_ a s N hS hN hl hl1 hr hlt h0 h1 hne
    by_cases hc : at_ ≤ 100
    · obtain ⟨v, a1, s1, e1, l1, u1, S1⟩ := next_ok 30 hS (by omega) (by omega) (by omega)
      obtain ⟨P, a', s', hP, hS', h2⟩ := ih (acc ++ [at_]) (at_ + (5 + v)) a1 s1 _ S1 (by omega) (by simp; omega) (by simp; omega) (ris_put hr hlt ⟨h0, hc⟩) (fun y hy => by rw [List.getLast?_concat] at hy; cases hy; omega) (by omega) (by omega) (fun h => by simp at h)
      refine ⟨P, a', s', Ev.step (fun k => rfl) (Ev.pos (by omega) (Ev.pos hc (Ev.pos (by omega) (Ev.ret e1 ?_)))), hS'.mono (by omega), h2⟩
      rw [w64 (x := 5 + v) (by omega) (by omega), w64 (x := at_ + (5 + v)) (by omega) (by omega), w64 (x := ((n + 1 : Nat) : Int) - 1 - 1) (by omega) (by omega), show ((n + 1 : Nat) : Int) - 1 - 1 = (n : Int) - 1 by omega]
      exact hP
    · refine ⟨acc, a, s, Ev.step (fun k => rfl) (Ev.pos (by omega) (Ev.neg hc (Ev.some' rfl))), hS.mono (by omega), ?_, by omega, hr⟩
      cases acc with
      | nil => exact absurd (hne rfl) hc
      | cons x acc => simp
theorem percents_ok {c : List Int} {a s N : Int} (hS : Srd c a s N) (hN : N ≤ 100000) :
    ∃ P a' s', Ev (fun k => spec_l00Src_percents.f k c a s) (P, a', s') ∧ Srd c a' s' (N + 18) ∧ 1 ≤ P.length ∧ P.length ≤ 5 ∧ risP 0 100 none P = true := by
  obtain ⟨v, a1, s1, e1, l1, u1, S1⟩ := next_ok 20 hS (by omega) (by omega) (by omega)
  obtain ⟨x, a2, s2, e2, l2, u2, S2⟩ := next_ok 4 S1 (by omega) (by omega) (by omega)
  obtain ⟨n, rfl⟩ := Int.eq_ofNat_of_zero_le l2
  obtain ⟨P, a', s', hP, hS', h2⟩ := percents_l0 c (n + 1) [] v a2 s2 _ S2 (by omega) (by simp; omega) (by simp) rfl (fun y hy => by simp at hy) l1 (by omega) (fun _ => by omega)
  refine ⟨P, a', s', ?_, hS'.mono (by omega), h2⟩
  unfold spec_l00Src_percents.f
  refine Ev.ret e1 (Ev.ret e2 ?_)
  rw [show ((n + 1 : Nat) : Int) - 1 = (n : Int) by omega] at hP
  exact hP
def rowOK (n : Nat) (d : List Int) : Prop := d.length = n ∧ ∀ x ∈ d, 0 ≤ x ∧ x ≤ 200
theorem demand_l1 (c : List Int) (n : Nat) (hn : n ≤ 5) (D : List (List Int)) (hD : D.length < 1000) (z N0 : Int) (hN0 : N0 ≤ 100000) {Q : List (List Int) × Int × Int → Prop} (hk : ∀ (row : List Int) (a s : Int), Srd c a s (N0 + 15) → rowOK n row → ∃ R, Ev (fun k => spec_l00Src_demand.l0 k (n : Int) (D ++ [row]) (wrap64 (z - 1)) c a s) R ∧ Q R) :
    ∀ (t : Nat) (p : List Int) (a s N : Int), p.length + t = n → Srd c a s N → N + 3 * t ≤ N0 + 15 → (∀ x ∈ p, 0 ≤ x ∧ x ≤ 200) → ∃ R, Ev (fun k => spec_l00Src_demand.l1 k (n : Int) D z p (p.length : Int) c a s) R ∧ Q R := by
  intro t
  induction t with
  | zero =>
    intro p a s N hp hS hN hx
    obtain ⟨R, hR, hQ⟩ := hk p a s (hS.mono (by omega)) ⟨by omega, hx⟩
    refine ⟨R, Ev.up1 ?_, hQ⟩
    simp only [spec_l00Src_demand.l1]
    exact Ev.neg (by omega) (Ev.pos (by omega) hR)
  | succ t ih =>
    intro p a s N hp hS hN hx
    obtain ⟨v, a1, s1, e1, l1, u1, S1⟩ := next_ok 8 hS (by omega) (by omega) (by omega)
    obtain ⟨R, hR, hQ⟩ := ih (p ++ [v + 3 * (p.length : Int)]) a1 s1 _ (by simp; omega) S1 (by omega) (fun x hx' => by
      rcases List.mem_append.1 hx' with h | h
      · exact hx x h
      · rw [List.mem_singleton.1 h]; omega)
    refine ⟨R, Ev.up1 ?_, hQ⟩
    simp only [spec_l00Src_demand.l1]
    refine Ev.pos (by omega) (Ev.ret e1 (Ev.pos (by omega) ?_))
    rw [w64 (x := 3 * (p.length : Int)) (by omega) (by omega), w64 (x := v + 3 * (p.length : Int)) (by omega) (by omega), w64n (by omega)]
    rw [show (p ++ [v + 3 * (p.length : Int)]).length = p.length + 1 by simp] at hR
    exact hR
theorem demand_l0 (c : List Int) (n : Nat) (hn : n ≤ 5) : ∀ (m : Nat) (D : List (List Int)) (a s N : Int), Srd c a s N → N + 20 * m ≤ 100000 → D.length + m < 1000 → (∀ d ∈ D, rowOK n d) →
    ∃ R, Ev (fun k => spec_l00Src_demand.l0 k (n : Int) D ((m : Int) - 1) c a s) R ∧ (Srd c R.2.1 R.2.2 (N + 20 * m) ∧ R.1.length = D.length + m ∧ ∀ d ∈ R.1, rowOK n d) := by
  intro m
  induction m with
  | zero =>
    intro D a s N hS hN hl hD
    refine ⟨(D, a, s), Ev.up1 ?_, hS.mono (by omega), rfl, hD⟩
    simp only [spec_l00Src_demand.l0]
    exact Ev.neg (by omega) (Ev.some' rfl)
  | succ m ih =>
    intro D a s N hS hN hl hD
    obtain ⟨R, hR, hQ⟩ := demand_l1 c n hn D (by omega) (((m + 1 : Nat) : Int) - 1) N (by omega) (Q := fun R => Srd c R.2.1 R.2.2 (N + 20 * ((m + 1 : Nat) : Int)) ∧ R.1.length = D.length + (m + 1) ∧ ∀ d ∈ R.1, rowOK n d) (fun row a s hS hrow => by
      obtain ⟨R, hR, h1, h2, h3⟩ := ih (D ++ [row]) a s (N + 15) hS (by omega) (by simp; omega) (fun d hd => by
        rcases List.mem_append.1 hd with h | h
        · exact hD d h
        · rw [List.mem_singleton.1 h]; exact hrow)
      refine ⟨R, ?_, h1.mono (by omega), by rw [h2, List.length_append, List.length_singleton]; omega, h3⟩
      rw [w64 (by omega) (by omega), show ((m + 1 : Nat) : Int) - 1 - 1 = (m : Int) - 1 by omega]
      exact hR) n [] a s N (by simp) hS (by omega) (fun x hx => by cases hx)
    refine ⟨R, Ev.up1 ?_, hQ⟩
    simp only [spec_l00Src_demand.l0]
    exact Ev.pos (by omega) hR
theorem demand_ok {c : List Int} {a s N : Int} (n : Nat) (hn : n ≤ 5) (hc : c.length ≤ 1048576) (hS : Srd c a s N) (hN : N ≤ 50000) :
    ∃ D a' s', Ev (fun k => spec_l00Src_demand.f k c a s (n : Int)) (D, a', s') ∧ Srd c a' s' (N + 200) ∧ 1 ≤ D.length ∧ D.length ≤ 7 ∧ ∀ d ∈ D, rowOK n d := by
  obtain ⟨z, e0, z0, z1⟩ := size_ok (c := c) a s 5 hc (by omega)
  have hz : wrap64 (z + 1) = z + 1 := w64 (by omega) (by omega)
  obtain ⟨v, a1, s1, e1, l1, u1, S1⟩ := next_ok (z + 1) hS (by omega) (by omega) (by omega)
  obtain ⟨m, rfl⟩ := Int.eq_ofNat_of_zero_le l1
  obtain ⟨⟨D, a', s'⟩, hR, hS', hl, hD⟩ := demand_l0 c n hn (m + 1) [] a1 s1 _ S1 (by omega) (by simp; omega) (fun d hd => by cases hd)
  refine ⟨D, a', s', ?_, hS'.mono (by omega), by simp only [List.length_nil] at hl; omega, by simp only [List.length_nil] at hl; omega, hD⟩
  unfold spec_l00Src_demand.f
  refine Ev.ret e0 ?_
  simp only [hz]
  refine Ev.ret e1 ?_
  rw [show ((m + 1 : Nat) : Int) - 1 = (m : Int) by omega] at hR
  exact hR
theorem steps_put {n : Int} {acc : List Int} {at_ : Int} (h : stepsV n none acc = true) (hl : ∀ y, acc.getLast? = some y → y ≤ at_) (h0 : 0 ≤ at_ ∧ at_ ≤ n) : stepsV n none (acc ++ [at_]) = true := by
  rw [steps_eq, Bool.and_eq_true] at h ⊢
  refine ⟨by rw [List.all_append, h.1]; simp [h0], ?_⟩
  rcases List.eq_nil_or_concat acc with rfl | ⟨q, y, rfl⟩
  · rfl
  · rw [List.concat_eq_append] at *
    rw [sortO_snoc, h.2, decide_eq_true (hl y List.getLast?_concat)]
    rfl
theorem MarksOf_l0 (c P : List Int) (D : List (List Int)) (hP : 1 ≤ P.length ∧ P.length ≤ 5) : ∀ (n : Nat) (acc : List Int) (at_ a s N : Int), acc.length + n = D.length → Srd c a s N → N + 6 * n ≤ 100000 → D.length ≤ 7 → stepsV ((P.length : Int) - 1) none acc = true → (∀ y, acc.getLast? = some y → y ≤ at_) → 0 ≤ at_ → at_ ≤ (P.length : Int) - 1 →
    ∃ price stock S, Ev (fun k => spec_MarksOf.l0 k P D acc at_ (acc.length : Int) c a s) (price, stock, P, D, S) ∧ (0 ≤ price ∧ price ≤ 1000) ∧ (0 ≤ stock ∧ stock ≤ 50) ∧ S.length = D.length ∧ stepsV ((P.length : Int) - 1) none S = true := by
  intro n
  induction n with
  | zero =>
    intro acc at_ a s N hl hS hN hD hs _ _ _
    obtain ⟨v, a1, s1, e1, l1, u1, S1⟩ := next_ok 300 hS (by omega) (by omega) (by omega)
    obtain ⟨x, a2, s2, e2, l2, u2, S2⟩ := next_ok 50 S1 (by omega) (by omega) (by omega)
    refine ⟨_, _, acc, Ev.step (fun k => rfl) (Ev.neg (by omega) (Ev.ret e1 (Ev.ret e2 (Ev.some' rfl)))), ?_, by omega, by omega, hs⟩
    rw [w64 (by omega) (by omega)]
    omega
  | succ n ih =>
    intro acc at_ a s N hl hS hN hD hs hy h0 h1
    obtain ⟨v, a1, s1, e1, l1, u1, S1⟩ := next_ok 3 hS (by omega) (by omega) (by omega)
    have hc : spec_l00Src_chance.f c a s 3 = some ((v == 2), a1, s1) := by
      unfold spec_l00Src_chance.f
      rw [e1]
      simp only [Option.bind_some]
      rw [w64 (by omega) (by omega)]
      rfl
    have go : ∀ z : Int, at_ ≤ z → z ≤ (P.length : Int) - 1 → ∃ price stock S, Ev (fun k => spec_MarksOf.l0 k P D (acc ++ [z]) z (wrap64 ((acc.length : Int) + 1)) c a1 s1) (price, stock, P, D, S) ∧ (0 ≤ price ∧ price ≤ 1000) ∧ (0 ≤ stock ∧ stock ≤ 50) ∧ S.length = D.length ∧ stepsV ((P.length : Int) - 1) none S = true := by
      intro z hz1 hz2
      have := ih (acc ++ [z]) z a1 s1 _ (by simp; omega) S1 (by omega) hD (steps_put hs (fun y h => by have := hy y h; omega) (by omega)) (fun y h => by rw [List.getLast?_concat] at h; cases h; omega) (by omega) hz2
      rw [show (acc ++ [z]).length = acc.length + 1 by simp] at this
      rw [w64n (by omega)]
      exact this
    have hw1 : wrap64 (at_ + 1) = at_ + 1 := w64 (by omega) (by omega)
    have hw2 : wrap64 ((P.length : Int) - 1) = (P.length : Int) - 1 := w64 (by omega) (by omega)
    by_cases hv : v = 2
    · obtain ⟨p, q, S, hE, h2⟩ := go (mn (at_ + 1) ((P.length : Int) - 1)) (by unfold mn; split <;> omega) (by unfold mn; split <;> omega)
      refine ⟨p, q, S, Ev.step (fun k => rfl) (Ev.pos (by omega) (Ev.ret hc (Ev.pos (by simp [hv]) (Ev.pos (by omega) ?_)))), h2⟩
      rw [hw1, hw2]
      exact hE
    · obtain ⟨p, q, S, hE, h2⟩ := go at_ (Int.le_refl _) h1
      exact ⟨p, q, S, Ev.step (fun k => rfl) (Ev.pos (by omega) (Ev.ret hc (Ev.neg (by simp [hv]) (Ev.pos (by omega) hE)))), h2⟩
theorem MarksOf_ok (l : List Int) (h : ∀ x ∈ l, (Lit.int .u8 x).wf = true) (hl : l.length ≤ 1048576) :
    ∃ price stock P D S, Ev (fun k => spec_MarksOf.f k l) (price, stock, P, D, S) ∧ (∀ z, 0 ≤ z → z ≤ 100 → rightM price z P D = true) ∧ (0 ≤ stock ∧ stock ≤ 50) ∧ S.length = D.length ∧ stepsV ((P.length : Int) - 1) none S = true := by
  obtain ⟨s, hs, S0⟩ := source_ok l h
  obtain ⟨P, a1, s1, hP, S1, p1, p2, p3⟩ := percents_ok S0 (by omega)
  obtain ⟨D, a2, s2, hD, S2, d1, d2, d3⟩ := demand_ok P.length p2 hl S1 (by omega)
  obtain ⟨price, stock, S, hM, m1, m2, m3, m4⟩ := MarksOf_l0 l P D ⟨p1, p2⟩ D.length [] 0 a2 s2 _ (by simp) S2 (by omega) d2 rfl (fun y hy => by simp at hy) (Int.le_refl _) (by omega)
  refine ⟨price, stock, P, D, S, ?_, fun z z0 z1 => ?_, m2, m3, m4⟩
  · unfold spec_MarksOf.f
    exact Ev.ret hs (Ev.bind hP (Ev.bind hD hM))
  · unfold rightM
    rw [decide_eq_true (by omega), decide_eq_true (by omega), decide_eq_true (by omega), decide_eq_true (by omega), p3]
    simp only [Bool.true_and]
    refine List.all_eq_true.2 (fun d hd => ?_)
    rw [dayV, Bool.and_eq_true]
    exact ⟨decide_eq_true (d3 d hd).1, List.all_eq_true.2 (fun x hx => decide_eq_true ((d3 d hd).2 x hx))⟩
/-- MarkOf at right arguments. -/
theorem markOf_right {a0 a1 : Int} {P : List Int} {D : List (List Int)} {S : List Int} (hr : rightM a0 a1 P D = true) (hl : S.length = D.length) (hs : stepsV ((P.length : Int) - 1) none S = true) : Ev (fun k => impl_MarkOf.f k a0 a1 P D S) (S, soldN D S a1, revN a0 P D S a1, leftN D S a1, 0) := by
  obtain ⟨h1, h2, h3, h4, h5, h6, h7⟩ := right_more hr
  refine Ev.eq (implMarkOf_ev a0 a1 P D S) ?_
  unfold markJ
  rw [if_neg (by omega), if_pos hr, if_pos (by omega), if_pos hs, runN h1 h5 D S [] 0 a1 h7 h2.1 h2.2 (by omega) (by omega), List.nil_append, Int.zero_add]
theorem FnMarks : laws_FnMarks.Pure := by
  intro l hl
  refine Ev.rounds (?_ : Ev (fun k => laws_FnMarks.f k l) true)
  unfold laws_FnMarks.f
  by_cases c1 : (l.length : Int) > 1048576
  · exact Ev.pos c1 (Ev.some' rfl)
  refine Ev.neg c1 ?_
  obtain ⟨a0, a1, P, D, S, hM, hR, hst, hS1, hS2⟩ := MarksOf_ok l hl.2 (by omega)
  have hr := hR a1 hst.1 (by omega)
  have hr3 := hR (a1 + 3) (by omega) (by omega)
  obtain ⟨h1, h2, h3, h4, h5, h6, h7⟩ := right_more hr
  obtain ⟨⟨T, hT1, hT2, hT⟩, hall⟩ := bestV_spec hr
  have hB := implBest_ev hr
  have hB3 := implBest_ev hr3
  have hge := hall S hS1 hS2
  have hge3 := (bestV_spec hr3).2 T hT1 hT2
  have hmo := revN_mono h1 h5 D T a1 (a1 + 3) (by omega)
  rw [hT] at hB hge
  generalize bestV a0 (a1 + 3) P D = B3 at hB3 hge3
  have hge : revN a0 P D S a1 ≤ revN a0 P D T a1 := hge
  have hw3 : wrap64 (a1 + 3) = a1 + 3 := w64 (by omega) (by omega)
  obtain ⟨t1, t2, t3⟩ := sold_ok D T a1 h7 h2.1
  obtain ⟨u1, u2, u3⟩ := sold_ok D S a1 h7 h2.1
  have hsT := sold_sum D T a1
  have hsS := sold_sum D S a1
  refine Ev.bind hM (Ev.bind (markOf_right hr hS1 hS2) (Ev.bind hB (Ev.pos rfl (Ev.pos rfl (Ev.neg (by show ¬ revN a0 P D S a1 > revN a0 P D T a1; omega) ?_)))))
  refine Ev.bind (lawSum_ev (soldN D T a1) (by omega) t1 (by omega)) ?_
  refine Ev.pos (by show wrap64 (sumI (soldN D T a1) + leftN D T a1) = a1; rw [hsT, w64 (by omega) (by omega)]) ?_
  refine Ev.bind (lawSum_ev (soldN D S a1) (by omega) u1 (by omega)) ?_
  refine Ev.pos (by show wrap64 (sumI (soldN D S a1) + leftN D S a1) = a1; rw [hsS, w64 (by omega) (by omega)]) ?_
  refine Ev.up1 ?_
  simp only [laws_FnMarks.j0, valN]
  have hneg : decide (leftN D T a1 < 0) = false := decide_eq_false (by omega)
  refine Ev.neg (show ¬ (decide (leftN D T a1 < 0) = true) by rw [hneg]; exact ff) (Ev.bind (markOf_right hr hT1 hT2) ?_)
  rw [hw3]
  refine Ev.bind hB3 (Ev.pos rfl (Ev.pos rfl (Ev.pos rfl (Ev.some' ?_))))
  exact decide_eq_true (by show B3.2.2.1 ≥ revN a0 P D T a1; omega)

end Go.Proofs.Ytehjdodmgephiaa.Pure
