/- The program's Odds and the reference's answer alike for all arguments, change none and share nothing: the law's plain statement, with no condition. -/
import Derived.Test.YtbljkgllicnkkaaXFnExactOddsx3
import Derived.Test.YtbljkgllicnkkaaAx
import Derived.Test.YtbljkgllicnkkaaIdx
namespace Go.Proofs.Ytbljkgllicnkkaa.Pure
open Go.RowKit Go.Proofs.Ytbljkgllicnkkaa.XFnExactOdds Go.Proofs.YtbljkgllicnkkaaW.PrintWords Go.Proofs.YtbljkgllicnkkaaW.PrintLast
open Go.Proofs.YtbljkgllicnkkaaW.Ax Go.Proofs.YtbljkgllicnkkaaW.Idx
set_option linter.unusedVariables false
set_option linter.unusedSimpArgs false
theorem toIntS_l0 : ∀ (a p t : List Int), t.length = a.length → (p ++ a).length < 4611686018427387904 →
    Ev (fun k => laws_toIntS.l0 k (p ++ a) (p ++ t) (p.length : Int)) (p ++ a) := by
  intro a
  induction a with
  | nil =>
    intro p t ht hl
    obtain rfl : t = [] := List.eq_nil_of_length_eq_zero ht
    exact Ev.step (fun k => rfl) (Ev.neg (len_end p) (Ev.some' rfl))
  | cons x a ih =>
    intro p t ht hl
    match t, ht with
    | y :: t, ht =>
      have hl' : (p ++ x :: a).length < 4611686018427387904 := hl
      rw [List.length_append, List.length_cons] at hl'
      refine Ev.step (fun k => rfl) (Ev.pos (len_lt p x a) (Ev.pos (by omega) (Ev.pos (len_lt p y t) ?_)))
      rw [rd_mid p x a, set_mid, w64 (by omega) (by omega), ← len_snoc p x, snoc p x a, snoc p x t]
      exact ih (p ++ [x]) t (by simpa using ht) (by rw [← snoc]; exact hl)
theorem toIntS_ev (a : List Int) (hl : a.length ≤ 1048576) : Ev (fun k => laws_toIntS.f k a) a := by
  unfold laws_toIntS.f
  refine Ev.pos (by omega) (Ev.pos (by omega) ?_)
  rw [Int.toNat_natCast]
  exact toIntS_l0 a [] (List.replicate a.length 0) (by simp) (by simp; omega)
theorem eqIntS_l0 : ∀ (a b p q : List Int), p.length = q.length → a.length = b.length → (p ++ a).length < 4611686018427387904 →
    Ev (fun k => laws_eqIntS.l0 k (p ++ a) (q ++ b) (p.length : Int)) (decide (a = b)) := by
  intro a
  induction a with
  | nil =>
    intro b p q hpq hab hl
    obtain rfl : b = [] := List.eq_nil_of_length_eq_zero hab.symm
    refine Ev.step (fun k => rfl) (Ev.neg (len_end p) (Ev.some' rfl))
  | cons x a ih =>
    intro b p q hpq hab hl
    match b, hab with
    | y :: b, hab =>
      have hq : ((p.length : Int)) < ((q ++ y :: b).length : Int) := by rw [hpq]; exact len_lt q y b
      have hl' : (p ++ x :: a).length < 4611686018427387904 := hl
      rw [List.length_append, List.length_cons] at hl'
      refine Ev.step (fun k => rfl) (Ev.pos (len_lt p x a) (Ev.pos (by omega) (Ev.pos hq ?_)))
      rw [rd_mid p x a, hpq, rd_mid q y b, ← hpq]
      by_cases e : x = y
      · subst e
        refine Ev.pos (by rfl) ?_
        rw [w64 (by omega) (by omega), ← len_snoc p x, snoc p, snoc q]
        exact Ev.eq (ih b (p ++ [x]) (q ++ [x]) (by simp [hpq]) (by simpa using hab) (by rw [← snoc]; exact hl)) (by simp)
      · exact Ev.neg e (Ev.some' (by simp [e]))
theorem eqIntS_ev (a b : List Int) (hl : a.length < 4611686018427387904) : Ev (fun k => laws_eqIntS.f k a b) (decide (a = b)) := by
  unfold laws_eqIntS.f
  by_cases h : (a.length : Int) = (b.length : Int)
  · exact Ev.pos h (eqIntS_l0 a b [] [] rfl (by omega) hl)
  · refine Ev.neg h (Ev.some' ?_)
    symm
    rw [decide_eq_false_iff_not]
    rintro rfl
    exact h rfl
theorem markIntS_l0 : ∀ (a p : List Int) (c : Int), (p ++ a).length < 4611686018427387904 → 0 ≤ c → c + a.length < 4611686018427387904 →
    Ev (fun k => laws_markIntS.l0 k (p ++ a) c (p.length : Int)) (c + a.length, p ++ iota c a.length) := by
  intro a
  induction a with
  | nil =>
    intro p c hl h0 hc
    exact Ev.step (fun k => rfl) (Ev.neg (len_end p) (Ev.some' (by simp [iota])))
  | cons x a ih =>
    intro p c hl h0 hc
    have hl' : (p ++ x :: a).length < 4611686018427387904 := hl
    rw [List.length_append, List.length_cons] at hl'
    rw [List.length_cons] at hc
    refine Ev.step (fun k => rfl) (Ev.pos (len_lt p x a) (Ev.pos (by omega) ?_))
    rw [set_mid, w64 (by omega) (by omega), w64 (by omega) (by omega), ← len_snoc p c, snoc p c a]
    refine Ev.eq (ih (p ++ [c]) (c + 1) (by simp; omega) (by omega) (by omega)) ?_
    rw [← snoc, List.length_cons, iota]
    congr 1
    omega
theorem markIntS_ev (a : List Int) (c : Int) (hl : a.length < 4611686018427387904) (h0 : 0 ≤ c) (hc : c + a.length < 4611686018427387904) : Ev (fun k => laws_markIntS.f k a c) (c + a.length, iota c a.length) := by
  unfold laws_markIntS.f
  exact markIntS_l0 a [] c hl h0 hc
theorem heldIntS_l0 : ∀ (n : Nat) (p : List Int) (c : Int), (p.length + n) < 4611686018427387904 → 0 ≤ c → c + n < 4611686018427387904 →
    Ev (fun k => laws_heldIntS.l0 k (p ++ iota c n) c (p.length : Int)) (c + n) := by
  intro n
  induction n with
  | zero =>
    intro p c hl h0 hc
    exact Ev.step (fun k => rfl) (Ev.neg (len_end p) (Ev.some' (by simp)))
  | succ n ih =>
    intro p c hl h0 hc
    rw [iota]
    refine Ev.step (fun k => rfl) (Ev.pos (len_lt p c _) (Ev.pos (by omega) (Ev.pos (rd_mid p c _) ?_)))
    rw [w64 (by omega) (by omega), w64 (by omega) (by omega), ← len_snoc p c, snoc p c]
    exact Ev.eq (ih (p ++ [c]) (c + 1) (by simp; omega) (by omega) (by omega)) (by omega)
theorem heldIntS_ev (n : Nat) (c : Int) (h0 : 0 ≤ c) (hc : c + n < 4611686018427387904) : Ev (fun k => laws_heldIntS.f k (iota c n) c) (c + n) := by
  unfold laws_heldIntS.f
  exact heldIntS_l0 n [] c (by simp; omega) h0 hc
theorem within_ev (a b c : Int) : impl_within.f a b c = some (decide (b ≤ a ∧ a ≤ c)) := by
  unfold impl_within.f
  by_cases h : a ≥ b
  · rw [if_pos h]; congr 1; rw [decide_eq_decide]; omega
  · rw [if_neg h]; congr 1; symm; rw [decide_eq_false_iff_not]; omega
/-! ### ways to reach a sum -/
def sumI : List Int → Int
  | [] => 0
  | x :: xs => x + sumI xs
/-- The sum of the places, from k on, each times what stands there. -/
def wsI : Int → List Int → Int
  | _, [] => 0
  | k, x :: xs => k * x + wsI (k + 1) xs
theorem sumI_nonneg : ∀ (l : List Int), (∀ x ∈ l, 0 ≤ x) → 0 ≤ sumI l := by
  intro l
  induction l with
  | nil => intro _; exact Int.le_refl 0
  | cons x l ih =>
    intro h
    have h1 := h x (by simp)
    have h2 := ih (fun y hy => h y (by simp [hy]))
    rw [sumI]; omega
theorem get_le_sum : ∀ (l : List Int) (i : Nat), (∀ x ∈ l, 0 ≤ x) → 0 ≤ l.getD i 0 ∧ l.getD i 0 ≤ sumI l := by
  intro l
  induction l with
  | nil => intro i _; simp [sumI]
  | cons x l ih =>
    intro i h
    have h1 := h x (by simp)
    have h2 := fun y hy => h y (List.mem_cons_of_mem x hy)
    have h3 := sumI_nonneg l h2
    cases i with
    | zero => simp only [List.getD_cons_zero, sumI]; omega
    | succ i =>
      have := ih i h2
      simp only [List.getD_cons_succ, sumI]; omega
theorem sumI_set : ∀ (l : List Int) (i : Nat) (d : Int), i < l.length → sumI (l.set i (l.getD i 0 + d)) = sumI l + d := by
  intro l
  induction l with
  | nil => intro i d h; simp at h
  | cons x l ih =>
    intro i d h
    cases i with
    | zero => simp only [List.set_cons_zero, List.getD_cons_zero, sumI]; omega
    | succ i =>
      have := ih i d (by simpa using h)
      simp only [List.set_cons_succ, List.getD_cons_succ, sumI, this]; omega
theorem wsI_set : ∀ (l : List Int) (i : Nat) (d k : Int), i < l.length → wsI k (l.set i (l.getD i 0 + d)) = wsI k l + (k + i) * d := by
  intro l
  induction l with
  | nil => intro i d k h; simp at h
  | cons x l ih =>
    intro i d k h
    cases i with
    | zero => simp only [List.set_cons_zero, List.getD_cons_zero, wsI, Int.mul_add]; simp; omega
    | succ i =>
      have := ih i d (k + 1) (by simpa using h)
      simp only [List.set_cons_succ, List.getD_cons_succ, wsI, this]
      rw [show k + ((i + 1 : Nat) : Int) = k + 1 + (i : Int) by omega]; omega
theorem wsI_shift : ∀ (l : List Int) (k j : Int), wsI (k + j) l = j * sumI l + wsI k l := by
  intro l
  induction l with
  | nil => intro k j; simp [wsI, sumI]
  | cons x l ih =>
    intro k j
    simp only [wsI, sumI, show k + j + 1 = k + 1 + j by omega, ih, Int.add_mul, Int.mul_add]
    omega
theorem set_nonneg (l : List Int) (i : Nat) (d : Int) (h : ∀ x ∈ l, 0 ≤ x) (hd : 0 ≤ d) : ∀ x ∈ l.set i (l.getD i 0 + d), 0 ≤ x := by
  intro x hx
  rcases List.mem_or_eq_of_mem_set hx with h1 | h1
  · exact h x h1
  · have := (get_le_sum l i h).1
    omega
/-- A row of ways is added, from place i on. -/
def inner (x : Int) : List Int → Nat → List Int → List Int
  | [], _, nx => nx
  | y :: t, i, nx => inner x t (i + 1) (nx.set i (nx.getD i 0 + x * y))
def outer (t : List Int) : List Int → Nat → List Int → List Int
  | [], _, nx => nx
  | x :: cur, i, nx => outer t cur (i + 1) (inner x t i nx)
def stepO (t cur : List Int) : List Int := outer t cur 0 (List.replicate (cur.length + t.length - 1) 0)
def timesO (t : List Int) : Nat → List Int → List Int
  | 0, c => c
  | n + 1, c => timesO t n (stepO t c)
theorem inner_length (x : Int) : ∀ (t : List Int) (i : Nat) (nx : List Int), (inner x t i nx).length = nx.length := by
  intro t
  induction t with
  | nil => intro i nx; rfl
  | cons y t ih => intro i nx; rw [inner, ih]; simp
theorem inner_sum (x : Int) : ∀ (t : List Int) (i : Nat) (nx : List Int), i + t.length ≤ nx.length → sumI (inner x t i nx) = sumI nx + x * sumI t := by
  intro t
  induction t with
  | nil => intro i nx h; simp [inner, sumI]
  | cons y t ih =>
    intro i nx h
    rw [List.length_cons] at h
    rw [inner, ih _ _ (by simp; omega), sumI_set _ _ _ (by omega), sumI, Int.mul_add]; omega
theorem inner_ws (x : Int) : ∀ (t : List Int) (i : Nat) (nx : List Int), i + t.length ≤ nx.length → wsI 0 (inner x t i nx) = wsI 0 nx + x * wsI i t := by
  intro t
  induction t with
  | nil => intro i nx h; simp [inner, wsI]
  | cons y t ih =>
    intro i nx h
    rw [List.length_cons] at h
    rw [inner, ih _ _ (by simp; omega), wsI_set _ _ _ _ (by omega), wsI, Int.mul_add, show ((i + 1 : Nat) : Int) = (i : Int) + 1 by omega, Int.zero_add, Int.mul_left_comm]; omega
theorem inner_nonneg (x : Int) (hx : 0 ≤ x) : ∀ (t : List Int) (i : Nat) (nx : List Int), (∀ y ∈ t, 0 ≤ y) → (∀ y ∈ nx, 0 ≤ y) → ∀ y ∈ inner x t i nx, 0 ≤ y := by
  intro t
  induction t with
  | nil => intro i nx ht hn; exact hn
  | cons y t ih =>
    intro i nx ht hn
    rw [inner]
    exact ih _ _ (fun z hz => ht z (by simp [hz])) (set_nonneg nx i _ hn (Int.mul_nonneg hx (ht y (by simp))))
theorem outer_length (t : List Int) : ∀ (cur : List Int) (i : Nat) (nx : List Int), (outer t cur i nx).length = nx.length := by
  intro cur
  induction cur with
  | nil => intro i nx; rfl
  | cons y cur ih => intro i nx; rw [outer, ih, inner_length]
theorem outer_sum (t : List Int) : ∀ (cur : List Int) (i : Nat) (nx : List Int), i + cur.length + t.length ≤ nx.length + 1 → sumI (outer t cur i nx) = sumI nx + sumI cur * sumI t := by
  intro cur
  induction cur with
  | nil => intro i nx h; simp [outer, sumI]
  | cons x cur ih =>
    intro i nx h
    rw [List.length_cons] at h
    rw [outer, ih _ _ (by rw [inner_length]; omega), inner_sum _ _ _ _ (by omega), sumI, Int.add_mul]; omega
theorem outer_ws (t : List Int) : ∀ (cur : List Int) (i : Nat) (nx : List Int), i + cur.length + t.length ≤ nx.length + 1 → wsI 0 (outer t cur i nx) = wsI 0 nx + (wsI i cur * sumI t + sumI cur * wsI 0 t) := by
  intro cur
  induction cur with
  | nil => intro i nx h; simp [outer, sumI, wsI]
  | cons x cur ih =>
    intro i nx h
    rw [List.length_cons] at h
    have hs := wsI_shift t 0 i
    rw [Int.zero_add] at hs
    rw [outer, ih _ _ (by rw [inner_length]; omega), inner_ws _ _ _ _ (by omega), hs, sumI, wsI, show ((i + 1 : Nat) : Int) = (i : Int) + 1 by omega]
    grind
theorem outer_nonneg (t : List Int) (ht : ∀ y ∈ t, 0 ≤ y) : ∀ (cur : List Int) (i : Nat) (nx : List Int), (∀ y ∈ cur, 0 ≤ y) → (∀ y ∈ nx, 0 ≤ y) → ∀ y ∈ outer t cur i nx, 0 ≤ y := by
  intro cur
  induction cur with
  | nil => intro i nx hc hn; exact hn
  | cons x cur ih =>
    intro i nx hc hn
    rw [outer]
    exact ih _ _ (fun z hz => hc z (by simp [hz])) (inner_nonneg x (hc x (by simp)) t i nx ht hn)
theorem sum_zeros (n : Nat) : sumI (List.replicate n 0) = 0 := by
  induction n with
  | zero => rfl
  | succ n ih => rw [List.replicate_succ, sumI, ih]; rfl
theorem ws_zeros (n : Nat) : ∀ k, wsI k (List.replicate n 0) = 0 := by
  induction n with
  | zero => intro k; rfl
  | succ n ih => intro k; rw [List.replicate_succ, wsI, ih]; simp
theorem stepO_facts (t cur : List Int) (ht : 1 ≤ t.length) (hc : 1 ≤ cur.length) (htn : ∀ y ∈ t, 0 ≤ y) (hcn : ∀ y ∈ cur, 0 ≤ y) :
    (stepO t cur).length = cur.length + t.length - 1 ∧ sumI (stepO t cur) = sumI cur * sumI t ∧ wsI 0 (stepO t cur) = wsI 0 cur * sumI t + sumI cur * wsI 0 t ∧ (∀ y ∈ stepO t cur, 0 ≤ y) := by
  unfold stepO
  refine ⟨by rw [outer_length]; simp, ?_, ?_, outer_nonneg t htn cur 0 _ hcn (by intro y hy; rw [List.eq_of_mem_replicate hy]; omega)⟩
  · rw [outer_sum _ _ _ _ (by simp; omega), sum_zeros, Int.zero_add]
  · have := outer_ws t cur 0 (List.replicate (cur.length + t.length - 1) 0) (by simp; omega)
    rw [this, ws_zeros, Int.zero_add]; rfl
/-- A power. -/
def pw (T : Int) : Nat → Int
  | 0 => 1
  | n + 1 => T * pw T n
theorem pw_nonneg (T : Int) (h : 0 ≤ T) : ∀ n, 0 ≤ pw T n := by
  intro n
  induction n with
  | zero => exact (by decide : (0 : Int) ≤ 1)
  | succ n ih => exact Int.mul_nonneg h ih
theorem pw_le (T B : Int) (h : 0 ≤ T) (hB : T ≤ B) : ∀ n, pw T n ≤ pw B n := by
  intro n
  induction n with
  | zero => exact Int.le_refl _
  | succ n ih => exact Int.mul_le_mul hB ih (pw_nonneg T h n) (Int.le_trans h hB)
theorem pw_mono (B : Int) (h : 1 ≤ B) : ∀ d n : Nat, pw B n ≤ pw B (n + d) := by
  intro d n
  induction d with
  | zero => exact Int.le_refl _
  | succ d ih =>
    have h1 : pw B (n + (d + 1)) = B * pw B (n + d) := rfl
    have h2 := Int.mul_le_mul_of_nonneg_right h (pw_nonneg B (by omega) (n + d))
    rw [h1]; omega
theorem timesO_facts (t : List Int) (ht : 1 ≤ t.length) (htn : ∀ y ∈ t, 0 ≤ y) : ∀ (n : Nat) (c : List Int), 1 ≤ c.length → (∀ y ∈ c, 0 ≤ y) →
    (timesO t n c).length + n = c.length + n * t.length ∧ sumI (timesO t n c) = sumI c * pw (sumI t) n ∧ wsI 0 (timesO t n c) * sumI t = wsI 0 c * (sumI t * pw (sumI t) n) + n * (wsI 0 t * (sumI c * pw (sumI t) n)) ∧ (∀ y ∈ timesO t n c, 0 ≤ y) := by
  intro n
  induction n with
  | zero => intro c hc hcn; exact ⟨by simp [timesO], by simp [timesO, pw], by simp [timesO, pw], hcn⟩
  | succ n ih =>
    intro c hc hcn
    obtain ⟨s1, s2, s3, s4⟩ := stepO_facts t c ht hc htn hcn
    obtain ⟨i1, i2, i3, i4⟩ := ih (stepO t c) (by omega) s4
    refine ⟨?_, ?_, ?_, i4⟩
    · show (timesO t n (stepO t c)).length + (n + 1) = _
      rw [Nat.succ_mul]; omega
    · show sumI (timesO t n (stepO t c)) = _
      rw [i2, s2, pw, Int.mul_assoc]
    · show wsI 0 (timesO t n (stepO t c)) * _ = _
      rw [i3, s2, s3, pw, show ((n + 1 : Nat) : Int) = (n : Int) + 1 by omega]
      generalize pw (sumI t) n = p
      generalize sumI t = T
      grind
theorem sum_le_mul (M : Int) : ∀ (l : List Int), (∀ x ∈ l, x ≤ M) → sumI l ≤ M * l.length := by
  intro l
  induction l with
  | nil => intro _; simp [sumI]
  | cons x l ih =>
    intro h
    have h1 := h x (by simp)
    have h2 := ih (fun y hy => h y (by simp [hy]))
    rw [sumI, List.length_cons, show ((l.length + 1 : Nat) : Int) = (l.length : Int) + 1 by omega, Int.mul_add]; omega
/-- A right table: 1 to 13 entries from 0 to 30. -/
def tableB (t : List Int) (a : Int) : Bool := decide (1 ≤ t.length ∧ t.length ≤ 13) && (t.all fun n => decide (0 ≤ n ∧ n ≤ 30)) && decide (1 ≤ a ∧ a ≤ 5)
theorem tableB_iff (t : List Int) (a : Int) : tableB t a = true ↔ (1 ≤ t.length ∧ t.length ≤ 13) ∧ (∀ x ∈ t, 0 ≤ x ∧ x ≤ 30) ∧ 1 ≤ a ∧ a ≤ 5 := by
  unfold tableB
  simp only [Bool.and_eq_true, decide_eq_true_eq, List.all_eq_true, and_assoc]
theorem table_sum {t : List Int} {a : Int} (h : tableB t a = true) : (∀ y ∈ t, 0 ≤ y) ∧ 0 ≤ sumI t ∧ sumI t ≤ 390 := by
  obtain ⟨h1, h2, h3⟩ := (tableB_iff t a).1 h
  have hn := fun y hy => (h2 y hy).1
  have := sum_le_mul 30 t (fun y hy => (h2 y hy).2)
  exact ⟨hn, sumI_nonneg t hn, by omega⟩
theorem pw390 (n : Nat) (h : n ≤ 5) : pw 390 n ≤ 9022419900000 := by
  obtain ⟨d, hd⟩ : ∃ d, n + d = 5 := ⟨5 - n, by omega⟩
  have := pw_mono 390 (by omega) d n
  rw [hd] at this
  exact this
theorem w64nn {i j : Nat} (h : i + j < 4611686018427387904) : wrap64 ((i : Int) + (j : Int)) = ((i + j : Nat) : Int) := by rw [w64 (by omega) (by omega)]; omega
theorem lenstep {a b : Nat} (hb : 1 ≤ b) (h : a + b < 4611686018427387904) : wrap64 (wrap64 ((a : Int) + (b : Int)) - 1) = ((a + b - 1 : Nat) : Int) := by
  rw [w64nn h, w64 (by omega) (by omega)]; omega
theorem row_bounds (x y : Int) (b nx : List Int) (j : Nat) (hx : 0 ≤ x) (hy : 0 ≤ y) (hb : ∀ z ∈ b, 0 ≤ z) (hn : ∀ z ∈ nx, 0 ≤ z) (hs : sumI nx + x * sumI (y :: b) ≤ 9022419900000) :
    wrap64 (nx.getD j 0 + wrap64 (x * y)) = nx.getD j 0 + x * y ∧ 0 ≤ x * y ∧ sumI nx + x * y + x * sumI b ≤ 9022419900000 := by
  have hxy := Int.mul_nonneg hx hy
  have hxb := Int.mul_nonneg hx (sumI_nonneg b hb)
  rw [sumI, Int.mul_add] at hs
  have hg := get_le_sum nx j hn
  have hs0 := sumI_nonneg nx hn
  generalize x * y = m at hxy hs ⊢
  generalize x * sumI b = u at hxb hs ⊢
  generalize nx.getD j 0 = g at hg ⊢
  rw [w64 (x := m) (by omega) (by omega), w64 (by omega) (by omega)]
  omega
theorem impl_o2 (t cur : List Int) (i m c n : Int) (x : Int) (hx : 0 ≤ x) (v : List Int) (ii : Nat) (hi : i = (ii : Int)) (hi2 : ii ≤ 1000) : ∀ (b q nx : List Int), (q ++ b).length ≤ 1000 → (∀ y ∈ b, 0 ≤ y) → (∀ y ∈ nx, 0 ≤ y) → ii + (q ++ b).length ≤ nx.length → sumI nx + x * sumI b ≤ 9022419900000 →
    Ev (fun k => impl_odds.l1 k t (inner x b (ii + q.length) nx) m n cur c (wrap64 (i + 1))) v →
    Ev (fun k => impl_odds.l2 k t nx i x m n cur c i (q ++ b) ((q ++ b).length : Int) (q.length : Int)) v := by
  intro b
  induction b with
  | nil =>
    intro q nx hl hb hn hlen hs h
    exact Ev.step (fun k => rfl) (Ev.neg (len_end q) h)
  | cons y b ih =>
    intro q nx hl hb hn hlen hs h
    have hl' := hl
    rw [List.length_append, List.length_cons] at hl' hlen
    have hy := hb y (by simp)
    have hb' := fun z hz => hb z (List.mem_cons_of_mem y hz)
    obtain ⟨rb1, rb2, rb3⟩ := row_bounds x y b nx (ii + q.length) hx hy hb' hn hs
    clear hs
    have hw : wrap64 (i + (q.length : Int)) = ((ii + q.length : Nat) : Int) := by first | exact w64nn (by omega) | (rw [hi]; exact w64nn (by omega))
    refine Ev.step (fun k => rfl) (Ev.pos (len_lt q y b) (Ev.pos (by omega) (Ev.pos (len_lt q y b) ?_)))
    rw [hw, rd_mid, rd_nat, Int.toNat_natCast]
    clear hw
    refine Ev.pos (by omega) (Ev.pos (by omega) ?_)
    rw [rb1, w64 (x := (q.length : Int) + 1) (by omega) (by omega), ← len_snoc q y, snoc q y b]
    refine ih (q ++ [y]) _ (by rw [← snoc]; exact hl) hb' (set_nonneg nx _ _ hn rb2) (by simp; omega) (by rw [sumI_set _ _ _ (by omega)]; exact rb3) ?_
    rw [inner] at h
    rw [List.length_append, List.length_singleton]
    exact h
theorem impl_o1 (t : List Int) (ht1 : 1 ≤ t.length) (ht : t.length ≤ 100) (htn : ∀ y ∈ t, 0 ≤ y) (m n : Int) (v : List Int) : ∀ (a p nx : List Int), (p ++ a).length ≤ 1000 → (∀ y ∈ a, 0 ≤ y) → (∀ y ∈ nx, 0 ≤ y) → p.length + a.length + t.length ≤ nx.length + 1 → sumI nx + sumI a * sumI t ≤ 9022419900000 →
    Ev (fun k => impl_odds.l0 k t (outer t a p.length nx) m (wrap64 (n + 1))) v →
    Ev (fun k => impl_odds.l1 k t nx m n (p ++ a) ((p ++ a).length : Int) (p.length : Int)) v := by
  intro a
  induction a with
  | nil =>
    intro p nx hl ha hn hlen hs h
    exact Ev.step (fun k => rfl) (Ev.neg (len_end p) h)
  | cons x a ih =>
    intro p nx hl ha hn hlen hs h
    have hl' := hl
    rw [List.length_append, List.length_cons] at hl'
    rw [List.length_cons] at hlen
    have hx := ha x (by simp)
    have ha' := fun z hz => ha z (List.mem_cons_of_mem x hz)
    have hT := sumI_nonneg t htn
    have h1 := Int.mul_nonneg (sumI_nonneg a ha') hT
    rw [sumI, Int.add_mul] at hs
    refine Ev.step (fun k => rfl) (Ev.pos (len_lt p x a) (Ev.pos (by omega) (Ev.pos (len_lt p x a) ?_)))
    rw [rd_mid]
    refine impl_o2 t (p ++ x :: a) (p.length : Int) m _ n x hx v p.length rfl (by omega) t [] nx (by simp; omega) htn hn (by simp; omega) (by omega) ?_
    rw [w64 (x := (p.length : Int) + 1) (by omega) (by omega), ← len_snoc p x, List.length_nil, Nat.add_zero, snoc p x a]
    refine ih (p ++ [x]) _ (by rw [← snoc]; exact hl) ha' (inner_nonneg x hx t _ nx htn hn) (by rw [inner_length]; simp; omega) (by rw [inner_sum _ _ _ _ (by omega)]; omega) ?_
    rw [outer] at h
    rw [List.length_append, List.length_singleton]
    exact h
theorem odds_grow (t cur : List Int) (d : Nat) (hd : d + 1 ≤ 5) (hT : sumI t ≤ 390) (hT0 : 0 ≤ sumI t) (hc0 : 0 ≤ sumI cur) (hs : sumI cur ≤ pw 390 d) : sumI cur * sumI t ≤ pw 390 (d + 1) ∧ sumI cur * sumI t ≤ 9022419900000 := by
  have hp : sumI cur * sumI t ≤ pw 390 (d + 1) := by
    rw [pw, Int.mul_comm]
    exact Int.mul_le_mul hT hs hc0 (by omega)
  exact ⟨hp, Int.le_trans hp (pw390 (d + 1) hd)⟩
theorem impl_o0 (t : List Int) (ht1 : 1 ≤ t.length) (ht : t.length ≤ 13) (htn : ∀ y ∈ t, 0 ≤ y) (hT : sumI t ≤ 390) : ∀ (r d : Nat) (cur : List Int), d + r ≤ 5 → 1 ≤ cur.length → cur.length ≤ 1 + 13 * d → (∀ y ∈ cur, 0 ≤ y) → sumI cur ≤ pw 390 d →
    Ev (fun k => impl_odds.l0 k t cur ((d + r : Nat) : Int) (d : Int)) (timesO t r cur) := by
  intro r
  induction r with
  | zero => intro d cur h5 hc hc2 hcn hs; exact Ev.step (fun k => rfl) (Ev.neg (show ¬ (d : Int) < ((d + 0 : Nat) : Int) by omega) (Ev.some' rfl))
  | succ r ih =>
    intro d cur h5 hc hc2 hcn hs
    obtain ⟨s1, s2, -, s4⟩ := stepO_facts t cur ht1 hc htn hcn
    have hT0 := sumI_nonneg t htn
    have hq := (odds_grow t cur d (by omega) hT hT0 (sumI_nonneg cur hcn) hs).2
    obtain ⟨N, hN⟩ : ∃ N, cur.length + t.length - 1 = N := ⟨_, rfl⟩
    have hz : wrap64 (wrap64 ((cur.length : Int) + (t.length : Int)) - 1) = (N : Int) := by rw [lenstep ht1 (by omega), hN]
    refine Ev.step (fun k => rfl) (Ev.pos (show (d : Int) < ((d + (r + 1) : Nat) : Int) by omega) ?_)
    rw [hz, Int.toNat_natCast]
    clear hz
    have hN2 : N ≤ 35184372088832 := by omega
    have hN3 : (0 : Int) ≤ (N : Int) := Int.natCast_nonneg N
    refine Ev.pos hN3 (Ev.pos hN2 ?_)
    refine impl_o1 t ht1 (by omega) htn _ _ _ cur [] (List.replicate N 0) (by simp; omega) hcn (by intro y hy; rw [List.eq_of_mem_replicate hy]; omega) (by simp; omega) (by rw [sum_zeros]; omega) ?_
    rw [w64n (by omega), show d + (r + 1) = d + 1 + r by omega]
    rw [show outer t cur ([] : List Int).length (List.replicate N 0) = stepO t cur by rw [stepO, hN]; rfl]
    exact ih (d + 1) (stepO t cur) (by omega) (by omega) (by omega) s4 (by rw [s2]; exact (odds_grow t cur d (by omega) hT hT0 (sumI_nonneg cur hcn) hs).1)
theorem impl_odds_ev (t : List Int) (a : Int) (h : tableB t a = true) : Ev (fun k => impl_odds.f k t a) (timesO t a.toNat [1]) := by
  obtain ⟨h1, h2, h3⟩ := (tableB_iff t a).1 h
  obtain ⟨n1, n2, n3⟩ := table_sum h
  have := impl_o0 t h1.1 h1.2 n1 n3 a.toNat 0 [1] (by omega) (by simp) (by simp) (by simp) (by simp [sumI, pw])
  rw [Nat.zero_add, Int.toNat_of_nonneg (by omega)] at this
  exact this
theorem impl_areOdds_ev (t : List Int) (a : Int) : impl_areOdds.f t a = some (tableB t a) := by
  unfold impl_areOdds.f impl_areFrom.f tableB
  rw [within_ev, within_ev]
  simp only [Option.bind_some]
  by_cases c1 : 1 ≤ (t.length : Int) ∧ (t.length : Int) ≤ 13
  · rw [if_pos (by simpa using c1)]
    cases c2 : (t.all fun n => decide (0 ≤ n ∧ n ≤ 30)) with
    | true => rw [if_pos rfl]; simp; omega
    | false => rw [if_neg (by simp)]; simp
  · rw [if_neg (by simpa using c1)]
    have : decide (1 ≤ t.length ∧ t.length ≤ 13) = false := by simp; omega
    simp [this]
def oddsV (t : List Int) (a : Int) : List Int × Int := if 4096 < t.length then ([], 2) else if tableB t a = true then (timesO t a.toNat [1], 0) else ([], 1)
theorem oddsV_length (t : List Int) (a : Int) : (oddsV t a).1.length ≤ 100 := by
  unfold oddsV
  split
  · simp
  · split
    · rename_i h
      obtain ⟨h1, h2, h3⟩ := (tableB_iff t a).1 h
      have := (timesO_facts t h1.1 (table_sum h).1 a.toNat [1] (by simp) (by simp)).1
      have h5 : a.toNat * t.length ≤ 5 * 13 := Nat.mul_le_mul (by omega) h1.2
      simp at this
      simp only; omega
    · simp
theorem implOdds_ev (t : List Int) (a : Int) : Ev (fun k => impl_Odds.f k t a) (oddsV t a) := by
  unfold impl_Odds.f impl_isList_int.f oddsV
  refine Ev.ret rfl ?_
  by_cases c1 : 4096 < t.length
  · rw [if_pos c1]; exact Ev.neg (by simp; omega) (Ev.some' rfl)
  rw [if_neg c1]
  refine Ev.pos (by simp; omega) (Ev.ret (impl_areOdds_ev t a) ?_)
  by_cases c2 : tableB t a = true
  · rw [if_pos c2]
    exact Ev.pos c2 (Ev.bind (impl_odds_ev t a c2) (Ev.some' rfl))
  · rw [if_neg c2]
    exact Ev.neg c2 (Ev.some' rfl)
theorem l01In_ev (a b c : Int) : spec_l01In.f a b c = some (decide (b ≤ a ∧ a ≤ c)) := by
  unfold spec_l01In.f
  by_cases h : a ≥ b
  · rw [if_pos h]; congr 1; rw [decide_eq_decide]; omega
  · rw [if_neg h]; congr 1; symm; rw [decide_eq_false_iff_not]; omega
theorem spec_o2 (t cur : List Int) (n : Int) (x : Int) (hx : 0 ≤ x) (v : List Int) (ii : Nat) (hi2 : ii ≤ 1000) (hic : ii < cur.length) (hcx : cur.getD ii 0 = x) : ∀ (b q nx : List Int), (q ++ b).length ≤ 1000 → (∀ y ∈ b, 0 ≤ y) → (∀ y ∈ nx, 0 ≤ y) → ii + (q ++ b).length ≤ nx.length → sumI nx + x * sumI b ≤ 9022419900000 →
    Ev (fun k => spec_l16Odds.l1 k (q ++ b) n cur (inner x b (ii + q.length) nx) (wrap64 ((ii : Int) + 1))) v →
    Ev (fun k => spec_l16Odds.l2 k (q ++ b) n cur nx (ii : Int) (q.length : Int)) v := by
  intro b
  induction b with
  | nil =>
    intro q nx hl hb hn hlen hs h
    exact Ev.step (fun k => rfl) (Ev.neg (len_end q) h)
  | cons y b ih =>
    intro q nx hl hb hn hlen hs h
    have hl' := hl
    rw [List.length_append, List.length_cons] at hl' hlen
    have hy := hb y (by simp)
    have hb' := fun z hz => hb z (List.mem_cons_of_mem y hz)
    obtain ⟨rb1, rb2, rb3⟩ := row_bounds x y b nx (ii + q.length) hx hy hb' hn hs
    clear hs
    have hw : wrap64 ((ii : Int) + (q.length : Int)) = ((ii + q.length : Nat) : Int) := by first | exact w64nn (by omega) | (rw [hi]; exact w64nn (by omega))
    refine Ev.step (fun k => rfl) (Ev.pos (len_lt q y b) ?_)
    rw [hw, rd_mid, rd_nat, rd_nat, hcx, Int.toNat_natCast]
    clear hw
    have g1 : (0 : Int) ≤ ((ii + q.length : Nat) : Int) := Int.natCast_nonneg _
    have g2 : ((ii + q.length : Nat) : Int) < (nx.length : Int) := by omega
    have g3 : (0 : Int) ≤ (ii : Int) := Int.natCast_nonneg _
    have g4 : (ii : Int) < (cur.length : Int) := by omega
    have g5 : (0 : Int) ≤ (q.length : Int) := Int.natCast_nonneg _
    refine Ev.pos g1 (Ev.pos g2 (Ev.pos g3 (Ev.pos g4 (Ev.pos g5 ?_))))
    rw [rb1, w64 (x := (q.length : Int) + 1) (by omega) (by omega), ← len_snoc q y, snoc q y b]
    refine ih (q ++ [y]) _ (by rw [← snoc]; exact hl) hb' (set_nonneg nx _ _ hn rb2) (by simp; omega) (by rw [sumI_set _ _ _ (by omega)]; exact rb3) ?_
    rw [inner] at h
    rw [List.length_append, List.length_singleton, ← snoc]
    exact h
theorem spec_o1 (t : List Int) (ht1 : 1 ≤ t.length) (ht : t.length ≤ 100) (htn : ∀ y ∈ t, 0 ≤ y) (n : Int) (v : List Int) : ∀ (a p nx : List Int), (p ++ a).length ≤ 1000 → (∀ y ∈ a, 0 ≤ y) → (∀ y ∈ nx, 0 ≤ y) → p.length + a.length + t.length ≤ nx.length + 1 → sumI nx + sumI a * sumI t ≤ 9022419900000 →
    Ev (fun k => spec_l16Odds.l0 k t (wrap64 (n - 1)) (outer t a p.length nx)) v →
    Ev (fun k => spec_l16Odds.l1 k t n (p ++ a) nx (p.length : Int)) v := by
  intro a
  induction a with
  | nil =>
    intro p nx hl ha hn hlen hs h
    exact Ev.step (fun k => rfl) (Ev.neg (len_end p) h)
  | cons x a ih =>
    intro p nx hl ha hn hlen hs h
    have hl' := hl
    rw [List.length_append, List.length_cons] at hl'
    rw [List.length_cons] at hlen
    have hx := ha x (by simp)
    have ha' := fun z hz => ha z (List.mem_cons_of_mem x hz)
    have hT := sumI_nonneg t htn
    have h1 := Int.mul_nonneg (sumI_nonneg a ha') hT
    rw [sumI, Int.add_mul] at hs
    refine Ev.step (fun k => rfl) (Ev.pos (len_lt p x a) ?_)
    refine spec_o2 t (p ++ x :: a) n x hx v p.length (by omega) (by simp) (by simp) t [] nx (by simp; omega) htn hn (by simp; omega) (by omega) ?_
    rw [w64 (x := (p.length : Int) + 1) (by omega) (by omega), ← len_snoc p x, List.length_nil, Nat.add_zero, snoc p x a]
    refine ih (p ++ [x]) _ (by rw [← snoc]; exact hl) ha' (inner_nonneg x hx t _ nx htn hn) (by rw [inner_length]; simp; omega) (by rw [inner_sum _ _ _ _ (by omega)]; omega) ?_
    rw [outer] at h
    rw [List.length_append, List.length_singleton]
    exact h
theorem spec_o0 (t : List Int) (ht1 : 1 ≤ t.length) (ht : t.length ≤ 13) (htn : ∀ y ∈ t, 0 ≤ y) (hT : sumI t ≤ 390) : ∀ (r d : Nat) (cur : List Int), d + r ≤ 5 → 1 ≤ cur.length → cur.length ≤ 1 + 13 * d → (∀ y ∈ cur, 0 ≤ y) → sumI cur ≤ pw 390 d →
    Ev (fun k => spec_l16Odds.l0 k t (r : Int) cur) (timesO t r cur) := by
  intro r
  induction r with
  | zero => intro d cur h5 hc hc2 hcn hs; exact Ev.via (f := fun _ => some cur) (Ev.some' rfl) (fun k => rfl)
  | succ r ih =>
    intro d cur h5 hc hc2 hcn hs
    obtain ⟨s1, s2, -, s4⟩ := stepO_facts t cur ht1 hc htn hcn
    have hT0 := sumI_nonneg t htn
    have hq := (odds_grow t cur d (by omega) hT hT0 (sumI_nonneg cur hcn) hs).2
    obtain ⟨N, hN⟩ : ∃ N, cur.length + t.length - 1 = N := ⟨_, rfl⟩
    have hz : wrap64 (wrap64 ((cur.length : Int) + (t.length : Int)) - 1) = (N : Int) := by rw [lenstep ht1 (by omega), hN]
    refine Ev.step (fun k => rfl) (Ev.pos (show ((r + 1 : Nat) : Int) > 0 by omega) ?_)
    rw [hz, Int.toNat_natCast]
    clear hz
    have hN2 : N ≤ 35184372088832 := by omega
    have hN3 : (0 : Int) ≤ (N : Int) := Int.natCast_nonneg N
    refine Ev.pos hN3 (Ev.pos hN2 ?_)
    refine spec_o1 t ht1 (by omega) htn _ _ cur [] (List.replicate N 0) (by simp; omega) hcn (by intro y hy; rw [List.eq_of_mem_replicate hy]; omega) (by simp; omega) (by rw [sum_zeros]; omega) ?_
    rw [w64 (by omega) (by omega), show ((r + 1 : Nat) : Int) - 1 = (r : Int) by omega]
    rw [show outer t cur ([] : List Int).length (List.replicate N 0) = stepO t cur by rw [stepO, hN]; rfl]
    exact ih (d + 1) (stepO t cur) (by omega) (by omega) (by omega) s4 (by rw [s2]; exact (odds_grow t cur d (by omega) hT hT0 (sumI_nonneg cur hcn) hs).1)
theorem spec_odds_ev (t : List Int) (a : Int) (h : tableB t a = true) : Ev (fun k => spec_l16Odds.f k t a) (timesO t a.toNat [1]) := by
  obtain ⟨h1, h2, h3⟩ := (tableB_iff t a).1 h
  obtain ⟨n1, n2, n3⟩ := table_sum h
  have := spec_o0 t h1.1 h1.2 n1 n3 a.toNat 0 [1] (by omega) (by simp) (by simp) (by simp) (by simp [sumI, pw])
  rw [Int.toNat_of_nonneg (by omega)] at this
  exact this
theorem spec_table_l0 : ∀ (a p : List Int), (p ++ a).length < 4611686018427387904 → Ev (fun k => spec_l16Table.l0 k (p ++ a) (p.length : Int)) (a.all fun n => decide (0 ≤ n ∧ n ≤ 30)) := by
  intro a
  induction a with
  | nil => intro p hl; exact Ev.step (fun k => rfl) (Ev.neg (len_end p) (Ev.some' rfl))
  | cons x a ih =>
    intro p hl
    have hl' := hl
    rw [List.length_append, List.length_cons] at hl'
    refine Ev.step (fun k => rfl) (Ev.pos (len_lt p x a) (Ev.pos (by omega) (Ev.ret (l01In_ev _ _ _) ?_)))
    rw [rd_mid]
    by_cases h : 0 ≤ x ∧ x ≤ 30
    · refine Ev.pos (by simpa using h) ?_
      rw [w64 (by omega) (by omega), ← len_snoc p x, snoc p x a]
      refine Ev.eq (ih (p ++ [x]) (by rw [← snoc]; exact hl)) ?_
      simp [h]
    · refine Ev.neg (by simpa using h) (Ev.some' ?_)
      simp [h]
theorem spec_table_ev (t : List Int) (a : Int) (hl : t.length < 4611686018427387904) : Ev (fun k => spec_l16Table.f k t a) (tableB t a) := by
  unfold spec_l16Table.f tableB
  by_cases c1 : (t.length : Int) < 1
  · have : decide (1 ≤ t.length ∧ t.length ≤ 13) = false := by simp; omega
    rw [this]
    exact Ev.pos c1 (Ev.via (Ev.some' rfl) (fun k => rfl))
  refine Ev.neg c1 ?_
  by_cases c2 : (t.length : Int) > 13
  · have : decide (1 ≤ t.length ∧ t.length ≤ 13) = false := by simp; omega
    rw [this]
    exact Ev.pos c2 (Ev.via (Ev.some' rfl) (fun k => rfl))
  have : decide (1 ≤ t.length ∧ t.length ≤ 13) = true := by simp; omega
  rw [this]
  refine Ev.neg c2 (Ev.ret (l01In_ev _ _ _) ?_)
  by_cases c3 : 1 ≤ a ∧ a ≤ 5
  · rw [show (!decide (1 ≤ a ∧ a ≤ 5)) = false by rw [decide_eq_true c3]; rfl, decide_eq_true c3]
    exact Ev.via (Ev.eq (spec_table_l0 t [] hl) (by simp)) (fun k => rfl)
  · rw [show (!decide (1 ≤ a ∧ a ≤ 5)) = true by rw [decide_eq_false c3]; rfl, decide_eq_false c3]
    exact Ev.via (Ev.some' (by simp)) (fun k => rfl)
theorem specOdds_ev (t : List Int) (a : Int) (hl : t.length < 4611686018427387904) : Ev (fun k => spec_Odds.f k t a) (oddsV t a) := by
  unfold spec_Odds.f oddsV
  by_cases c1 : 4096 < t.length
  · rw [if_pos c1]; exact Ev.pos (by omega) (Ev.some' rfl)
  rw [if_neg c1]
  refine Ev.neg (by omega) (Ev.bind (spec_table_ev t a hl) ?_)
  by_cases c2 : tableB t a = true
  · rw [if_pos c2]
    exact Ev.pos c2 (Ev.bind (spec_odds_ev t a c2) (Ev.some' rfl))
  · rw [if_neg c2]
    exact Ev.neg c2 (Ev.some' rfl)
theorem FnExactOdds : laws_FnExactOdds.Pure := by
  intro l n _ _
  refine Ev.rounds (?_ : Ev (fun k => laws_FnExactOdds.f k l n) true)
  unfold laws_FnExactOdds.f
  by_cases c1 : (l.length : Int) > 1048576
  · exact Ev.pos c1 (Ev.some' rfl)
  refine Ev.neg c1 ?_
  have ti := toIntS_ev l (by omega)
  have sp := specOdds_ev l n (by omega)
  have im := implOdds_ev l n
  have hn := oddsV_length l n
  generalize hv : oddsV l n = v at sp im hn
  obtain ⟨o, c⟩ := v
  have eq := eqIntS_ev o o (by simp only at hn; omega)
  have ei := eqIntS_ev l l (by omega)
  have mi := markIntS_ev l 1 (by omega) (by omega) (by omega)
  have mo := markIntS_ev o 1 (by simp only at hn; omega) (by omega) (by simp only at hn; omega)
  have he := heldIntS_ev o.length 1 (by omega) (by simp only at hn; omega)
  repeat' (first
    | exact Ev.some' rfl
    | with_reducible assumption
    | (with_reducible refine Ev.bind (by with_reducible assumption) ?_)
    | (with_reducible refine Ev.ret (by with_reducible assumption) ?_)
    | (refine Ev.pos (by first | with_reducible rfl | with_reducible assumption | omega | (simp; done) | (simp; omega)) ?_)
    | (refine Ev.neg (by first | with_reducible assumption | omega | (simp; done) | (simp; omega)) ?_)
    | (refine Ev.up1 ?_; simp only [laws_FnExactOdds.j0, laws_FnExactOdds.j1, laws_FnExactOdds.j2]))

end Go.Proofs.Ytbljkgllicnkkaa.Pure
