/- The program's Seasons and the reference's answer alike for all arguments, change none and share nothing: the law's plain statement, with no condition. -/
import Derived.Test.YtbljkgllicnkkaaXFnExactSeasonsx5
import Derived.Test.YtbljkgllicnkkaaAx
import Derived.Test.YtbljkgllicnkkaaIdx
namespace Go.Proofs.Ytbljkgllicnkkaa.Pure
open Go.RowKit Go.Proofs.Ytbljkgllicnkkaa.XFnExactSeasons Go.Proofs.YtbljkgllicnkkaaW.PrintWords Go.Proofs.YtbljkgllicnkkaaW.PrintLast
open Go.Proofs.YtbljkgllicnkkaaW.Ax Go.Proofs.YtbljkgllicnkkaaW.Idx
set_option linter.unusedVariables false
set_option linter.unusedSimpArgs false
theorem toIntS_l0 : ∀ (a p t : List Int), t.length = a.length → (p ++ a).length < 4611686018427387904 →
    Ev (fun k => laws_toIntS.l0 k (p ++ a) (p ++ t) (p.length : Int)) (p ++ a) := by
  intro a
  induction a with
  | nil =>
    intro p t ht hl
    obtain rfl : t = [] := List.eq_nil_of_length_eq_zero ht
    exact Ev.step (fun k => rfl) (Ev.neg (len_end p) (Ev.some' rfl))
  | cons x a ih =>
    intro p t ht hl
    match t, ht with
    | y :: t, ht =>
      have hl' : (p ++ x :: a).length < 4611686018427387904 := hl
      rw [List.length_append, List.length_cons] at hl'
      refine Ev.step (fun k => rfl) (Ev.pos (len_lt p x a) (Ev.pos (by omega) (Ev.pos (len_lt p y t) ?_)))
      rw [rd_mid p x a, set_mid, w64 (by omega) (by omega), ← len_snoc p x, snoc p x a, snoc p x t]
      exact ih (p ++ [x]) t (by simpa using ht) (by rw [← snoc]; exact hl)
theorem toIntS_ev (a : List Int) (hl : a.length ≤ 1048576) : Ev (fun k => laws_toIntS.f k a) a := by
  unfold laws_toIntS.f
  refine Ev.pos (by omega) (Ev.pos (by omega) ?_)
  rw [Int.toNat_natCast]
  exact toIntS_l0 a [] (List.replicate a.length 0) (by simp) (by simp; omega)
theorem eqIntS_l0 : ∀ (a b p q : List Int), p.length = q.length → a.length = b.length → (p ++ a).length < 4611686018427387904 →
    Ev (fun k => laws_eqIntS.l0 k (p ++ a) (q ++ b) (p.length : Int)) (decide (a = b)) := by
  intro a
  induction a with
  | nil =>
    intro b p q hpq hab hl
    obtain rfl : b = [] := List.eq_nil_of_length_eq_zero hab.symm
    refine Ev.step (fun k => rfl) (Ev.neg (len_end p) (Ev.some' rfl))
  | cons x a ih =>
    intro b p q hpq hab hl
    match b, hab with
    | y :: b, hab =>
      have hq : ((p.length : Int)) < ((q ++ y :: b).length : Int) := by rw [hpq]; exact len_lt q y b
      have hl' : (p ++ x :: a).length < 4611686018427387904 := hl
      rw [List.length_append, List.length_cons] at hl'
      refine Ev.step (fun k => rfl) (Ev.pos (len_lt p x a) (Ev.pos (by omega) (Ev.pos hq ?_)))
      rw [rd_mid p x a, hpq, rd_mid q y b, ← hpq]
      by_cases e : x = y
      · subst e
        refine Ev.pos (by rfl) ?_
        rw [w64 (by omega) (by omega), ← len_snoc p x, snoc p, snoc q]
        exact Ev.eq (ih b (p ++ [x]) (q ++ [x]) (by simp [hpq]) (by simpa using hab) (by rw [← snoc]; exact hl)) (by simp)
      · exact Ev.neg e (Ev.some' (by simp [e]))
theorem eqIntS_ev (a b : List Int) (hl : a.length < 4611686018427387904) : Ev (fun k => laws_eqIntS.f k a b) (decide (a = b)) := by
  unfold laws_eqIntS.f
  by_cases h : (a.length : Int) = (b.length : Int)
  · exact Ev.pos h (eqIntS_l0 a b [] [] rfl (by omega) hl)
  · refine Ev.neg h (Ev.some' ?_)
    symm
    rw [decide_eq_false_iff_not]
    rintro rfl
    exact h rfl
theorem markIntS_l0 : ∀ (a p : List Int) (c : Int), (p ++ a).length < 4611686018427387904 → 0 ≤ c → c + a.length < 4611686018427387904 →
    Ev (fun k => laws_markIntS.l0 k (p ++ a) c (p.length : Int)) (c + a.length, p ++ iota c a.length) := by
  intro a
  induction a with
  | nil =>
    intro p c hl h0 hc
    exact Ev.step (fun k => rfl) (Ev.neg (len_end p) (Ev.some' (by simp [iota])))
  | cons x a ih =>
    intro p c hl h0 hc
    have hl' : (p ++ x :: a).length < 4611686018427387904 := hl
    rw [List.length_append, List.length_cons] at hl'
    rw [List.length_cons] at hc
    refine Ev.step (fun k => rfl) (Ev.pos (len_lt p x a) (Ev.pos (by omega) ?_))
    rw [set_mid, w64 (by omega) (by omega), w64 (by omega) (by omega), ← len_snoc p c, snoc p c a]
    refine Ev.eq (ih (p ++ [c]) (c + 1) (by simp; omega) (by omega) (by omega)) ?_
    rw [← snoc, List.length_cons, iota]
    congr 1
    omega
theorem markIntS_ev (a : List Int) (c : Int) (hl : a.length < 4611686018427387904) (h0 : 0 ≤ c) (hc : c + a.length < 4611686018427387904) : Ev (fun k => laws_markIntS.f k a c) (c + a.length, iota c a.length) := by
  unfold laws_markIntS.f
  exact markIntS_l0 a [] c hl h0 hc
theorem rd_Ratio_mid (p : List S46) (x : S46) (r : List S46) : rd_T46 (p ++ x :: r) (p.length : Int) = x := getD_mid p x r z46
theorem rd_Ratio_nat (l : List S46) (i : Nat) : rd_T46 l (i : Int) = l.getD i z46 := by
  unfold rd_T46
  rw [Int.toNat_natCast]
theorem eqRatio_ev (x : S46) : laws_eqRatio.f x.f0 x.f1 x.f0 x.f1 = some true := by
  unfold laws_eqRatio.f
  simp
theorem eqRatioS_l0 : ∀ (a p : List S46), (p ++ a).length < 4611686018427387904 →
    Ev (fun k => laws_eqRatioS.l0 k (p ++ a) (p ++ a) (p.length : Int)) true := by
  intro a
  induction a with
  | nil =>
    intro p hl
    exact Ev.step (fun k => rfl) (Ev.neg (len_end p) (Ev.some' rfl))
  | cons x a ih =>
    intro p hl
    have hl' : (p ++ x :: a).length < 4611686018427387904 := hl
    rw [List.length_append, List.length_cons] at hl'
    refine Ev.step (fun k => rfl) (Ev.pos (len_lt p x a) (Ev.pos (by omega) (Ev.pos (len_lt p x a) ?_)))
    rw [rd_Ratio_mid]
    refine Ev.ret (eqRatio_ev x) (Ev.pos (by rfl) ?_)
    rw [w64 (by omega) (by omega), ← len_snoc p x, snoc p x a]
    exact ih (p ++ [x]) (by rw [← snoc]; exact hl)
theorem eqRatioS_ev (a : List S46) (hl : a.length < 4611686018427387904) : Ev (fun k => laws_eqRatioS.f k a a) true := by
  unfold laws_eqRatioS.f
  exact Ev.pos (by rfl) (eqRatioS_l0 a [] hl)
/-- Marks: numbers rising by 1, field by field. -/
def markRatioV (c : Int) : Nat → List S46
  | 0 => []
  | m + 1 => ⟨c, c + 1⟩ :: markRatioV (c + 2) m
theorem markRatioV_length (c : Int) (m : Nat) : (markRatioV c m).length = m := by
  induction m generalizing c with
  | zero => rfl
  | succ m ih => simp [markRatioV, ih]
theorem markRatioS_l0 : ∀ (a p : List S46) (c : Int), (p ++ a).length < 4611686018427387904 → 0 ≤ c → c + 2 * a.length < 4611686018427387904 →
    Ev (fun k => laws_markRatioS.l0 k (p ++ a) c (p.length : Int)) (c + 2 * a.length, p ++ markRatioV c a.length) := by
  intro a
  induction a with
  | nil =>
    intro p c hl h0 hc
    exact Ev.step (fun k => rfl) (Ev.neg (len_end p) (Ev.some' (by simp [markRatioV])))
  | cons x a ih =>
    intro p c hl h0 hc
    have hl' : (p ++ x :: a).length < 4611686018427387904 := hl
    rw [List.length_append, List.length_cons] at hl'
    rw [List.length_cons] at hc
    refine Ev.step (fun k => rfl) (Ev.pos (len_lt p x a) (Ev.pos (by omega) ?_))
    refine Ev.ret rfl ?_
    simp only [rd_Ratio_mid, set_mid]
    rw [w64 (x := c + 1) (by omega) (by omega), w64 (x := c + 1 + 1) (by omega) (by omega), w64 (x := (p.length : Int) + 1) (by omega) (by omega)]
    rw [show c + 1 + 1 = c + 2 by omega, ← len_snoc p (⟨c, c + 1⟩ : S46), snoc p _ a]
    refine Ev.eq (ih (p ++ [⟨c, c + 1⟩]) (c + 2) (by simp; omega) (by omega) (by omega)) ?_
    rw [← snoc, List.length_cons, markRatioV]
    congr 1
    omega
theorem markRatioS_ev (a : List S46) (c : Int) (hl : a.length < 4611686018427387904) (h0 : 0 ≤ c) (hc : c + 2 * a.length < 4611686018427387904) : Ev (fun k => laws_markRatioS.f k a c) (c + 2 * a.length, markRatioV c a.length) := by
  unfold laws_markRatioS.f
  exact markRatioS_l0 a [] c hl h0 hc
theorem heldRatioS_l0 : ∀ (m : Nat) (p : List S46) (c : Int), (p.length + m) < 4611686018427387904 → 0 ≤ c → c + 2 * m < 4611686018427387904 →
    Ev (fun k => laws_heldRatioS.l0 k (p ++ markRatioV c m) c (p.length : Int)) (c + 2 * m) := by
  intro m
  induction m with
  | zero =>
    intro p c hl h0 hc
    exact Ev.step (fun k => rfl) (Ev.neg (len_end p) (Ev.some' (by simp)))
  | succ m ih =>
    intro p c hl h0 hc
    rw [markRatioV]
    refine Ev.step (fun k => rfl) (Ev.pos (len_lt p _ _) (Ev.pos (by omega) ?_))
    simp only [rd_Ratio_mid]
    rw [w64 (x := c + 1) (by omega) (by omega), w64 (x := c + 1 + 1) (by omega) (by omega), w64 (x := (p.length : Int) + 1) (by omega) (by omega), show c + 1 + 1 = c + 2 by omega]
    refine Ev.pos (by first | rfl | trivial) (Ev.pos (by first | rfl | trivial) ?_)
    rw [← len_snoc p (⟨c, c + 1⟩ : S46), snoc p]
    exact Ev.eq (ih (p ++ [⟨c, c + 1⟩]) (c + 2) (by simp; omega) (by omega) (by omega)) (by omega)
theorem heldRatioS_ev (m : Nat) (c : Int) (h0 : 0 ≤ c) (hc : c + 2 * m < 4611686018427387904) : Ev (fun k => laws_heldRatioS.f k (markRatioV c m) c) (c + 2 * m) := by
  unfold laws_heldRatioS.f
  exact heldRatioS_l0 m [] c (by simp; omega) h0 hc
theorem within_ev (a b c : Int) : impl_within.f a b c = some (decide (b ≤ a ∧ a ≤ c)) := by
  unfold impl_within.f
  by_cases h : a ≥ b
  · rw [if_pos h]; congr 1; rw [decide_eq_decide]; omega
  · rw [if_neg h]; congr 1; symm; rw [decide_eq_false_iff_not]; omega
/-- Sales. -/
def salesB (l : List Int) : Bool := l.all fun n => decide (0 ≤ n ∧ n ≤ 100000)
theorem areSales_ev (l : List Int) : impl_areSales.f l = some (salesB l) := by
  unfold impl_areSales.f impl_areFrom.f salesB
  rfl
theorem salesB_mem {l : List Int} (h : salesB l = true) : ∀ x ∈ l, 0 ≤ x ∧ x ≤ 100000 := by
  intro x hx
  have := List.all_eq_true.1 h x hx
  simpa using this
/-! ### seasons -/
/-- The sum of f over the places that leave i when divided by n; the list's first place is j. -/
def seas (f : Int → Int) (n i : Nat) : Nat → List Int → Int
  | _, [] => 0
  | j, x :: a => (if j % n = i then f x else 0) + seas f n i (j + 1) a
theorem seas_skip (f : Int → Int) (n i : Nat) : ∀ (d : Nat) (a : List Int) (j : Nat), (∀ e, e < d → (j + e) % n ≠ i) → seas f n i j a = seas f n i (j + d) (a.drop d) := by
  intro d
  induction d with
  | zero => intro a j h; rfl
  | succ d ih =>
    intro a j h
    cases a with
    | nil => simp [seas]
    | cons x a =>
      have h0 := h 0 (by omega)
      rw [Nat.add_zero] at h0
      rw [seas, if_neg h0, Int.zero_add, List.drop_succ_cons, show j + (d + 1) = j + 1 + d by omega]
      exact ih a (j + 1) (fun e he => by rw [show j + 1 + e = j + (e + 1) by omega]; exact h (e + 1) (by omega))
theorem seas_start (f : Int → Int) (n i : Nat) (hi : i < n) (l : List Int) : seas f n i 0 l = seas f n i i (l.drop i) := by
  have := seas_skip f n i i l 0 (fun e he => by rw [Nat.zero_add, Nat.mod_eq_of_lt (by omega)]; omega)
  rw [Nat.zero_add] at this
  exact this
theorem seas_next (f : Int → Int) (n i j : Nat) (hn : 1 ≤ n) (hj : j % n = i) (l : List Int) (hl : j < l.length) : seas f n i j (l.drop j) = f (l.getD j 0) + seas f n i (j + n) (l.drop (j + n)) := by
  rw [List.drop_eq_getElem_cons hl, seas, if_pos hj, List.getD_eq_getElem?_getD, List.getElem?_eq_getElem hl]
  have := seas_skip f n i (n - 1) (l.drop (j + 1)) (j + 1) (fun e he h => by
    have h1 : (j + 1 + e - j) % n = 0 := Nat.sub_mod_eq_zero_of_mod_eq (by rw [h, hj])
    rw [show j + 1 + e - j = 1 + e by omega, Nat.mod_eq_of_lt (by omega)] at h1
    omega)
  rw [List.drop_drop, show j + 1 + (n - 1) = j + n by omega] at this
  rw [this]
  rfl
theorem seas_bound (f : Int → Int) (n i : Nat) (M : Int) (hM : 0 ≤ M) : ∀ (l : List Int) (j : Nat), (∀ x ∈ l, 0 ≤ f x ∧ f x ≤ M) → 0 ≤ seas f n i j l ∧ seas f n i j l ≤ M * l.length := by
  intro l
  induction l with
  | nil => intro j h; simp [seas]
  | cons x l ih =>
    intro j h
    have h1 := h x (by simp)
    have h2 := ih (j + 1) (fun y hy => h y (List.mem_cons_of_mem x hy))
    have h3 : M * ((l.length + 1 : Nat) : Int) = M * (l.length : Int) + M := by rw [show ((l.length + 1 : Nat) : Int) = (l.length : Int) + 1 by omega, Int.mul_add, Int.mul_one]
    rw [seas, List.length_cons, h3]
    split <;> omega
theorem seas_end (f : Int → Int) (n i j : Nat) (l : List Int) (h : l.length ≤ j) : seas f n i j (l.drop j) = 0 := by
  rw [List.drop_eq_nil_of_le h]; rfl
def oneF (_ : Int) : Int := 1
def seasS (n i : Nat) (l : List Int) : Int := seas id n i 0 l
def seasC (n i : Nat) (l : List Int) : Int := seas oneF n i 0 l
theorem seas_facts (n i : Nat) (l : List Int) (hi : i < n) (hl : n ≤ l.length) (hx : ∀ x ∈ l, 0 ≤ x ∧ x ≤ 100000) (hl2 : l.length ≤ 4096) : 0 ≤ seasS n i l ∧ seasS n i l ≤ 409600000 ∧ 1 ≤ seasC n i l ∧ seasC n i l ≤ 4096 := by
  have h1 := seas_bound id n i 100000 (by omega) l 0 hx
  have h2 := seas_bound oneF n i 1 (by omega) l 0 (fun x _ => by unfold oneF; omega)
  have h3 : 1 ≤ seas oneF n i 0 l := by
    rw [seas_start oneF n i hi, seas_next oneF n i i (by omega) (Nat.mod_eq_of_lt hi) l (by omega)]
    have := seas_bound oneF n i 1 (by omega) (l.drop (i + n)) (i + n) (fun x _ => by unfold oneF; omega)
    unfold oneF at this ⊢
    omega
  unfold seasS seasC
  omega
def totI : List Int → Int
  | [] => 0
  | x :: xs => x + totI xs
theorem totI_bounds (M : Int) (hM : 0 ≤ M) : ∀ (l : List Int), (∀ x ∈ l, 0 ≤ x ∧ x ≤ M) → 0 ≤ totI l ∧ totI l ≤ M * l.length := by
  intro l
  induction l with
  | nil => intro _; simp [totI]
  | cons x l ih =>
    intro h
    have h1 := h x (by simp)
    have h2 := ih (fun y hy => h y (List.mem_cons_of_mem x hy))
    have h3 : M * ((l.length + 1 : Nat) : Int) = M * (l.length : Int) + M := by rw [show ((l.length + 1 : Nat) : Int) = (l.length : Int) + 1 by omega, Int.mul_add, Int.mul_one]
    rw [totI, List.length_cons, h3]; omega
def comV (a b : Int) : Int := ((Nat.gcd a.toNat b.toNat : Nat) : Int)
theorem comV_zero (a : Int) (h : 0 ≤ a) : comV a 0 = a := by
  unfold comV
  rw [show (0 : Int).toNat = 0 from rfl, Nat.gcd_zero_right]; omega
theorem comV_rec (a b : Int) (ha : 0 ≤ a) (hb : 0 ≤ b) : comV b (Int.tmod a b) = comV a b := by
  unfold comV
  obtain ⟨m, rfl⟩ := Int.eq_ofNat_of_zero_le ha
  obtain ⟨n, rfl⟩ := Int.eq_ofNat_of_zero_le hb
  rw [Int.tmod_eq_emod_of_nonneg ha, ← Int.natCast_emod, Int.toNat_natCast, Int.toNat_natCast, Int.toNat_natCast, Nat.gcd_comm m n, Nat.gcd_rec n m, Nat.gcd_comm]
theorem comV_pos (a b : Int) (hb : 1 ≤ b) : 1 ≤ comV a b := by
  unfold comV
  have := Nat.gcd_pos_of_pos_right a.toNat (show 0 < b.toNat by omega)
  omega
/-- A share in lowest terms. -/
def ratioV (a b : Int) : S46 := ⟨a / comV a b, b / comV a b⟩
def seasR (l : List Int) (n : Nat) (i : Nat) : S46 := ratioV (seasS n i l * l.length) (seasC n i l * totI l)
theorem ratio_step (a b : Int) (ha : 0 ≤ a ∧ a ≤ 10000000000000) (hb : 1 ≤ b ∧ b ≤ 10000000000000) : comV a b ≠ 0 ∧ wrap64 (Int.tdiv a (comV a b)) = a / comV a b ∧ wrap64 (Int.tdiv b (comV a b)) = b / comV a b := by
  have h := comV_pos a b hb.1
  generalize comV a b = g at h ⊢
  have h1 := Int.ediv_le_self g ha.1
  have h1' : a / g ≤ a := Int.ediv_le_self _ ha.1
  have h2' : b / g ≤ b := Int.ediv_le_self _ (by omega)
  have h3 : 0 ≤ a / g := Int.ediv_nonneg ha.1 (by omega)
  have h4 : 0 ≤ b / g := Int.ediv_nonneg (by omega) (by omega)
  refine ⟨by omega, ?_, ?_⟩
  · rw [Int.tdiv_eq_ediv_of_nonneg ha.1, w64 (by omega) (by omega)]
  · rw [Int.tdiv_eq_ediv_of_nonneg (by omega), w64 (by omega) (by omega)]
theorem season_nums (l : List Int) (n i : Nat) (hi : i < n) (hl : n ≤ l.length) (hx : ∀ x ∈ l, 0 ≤ x ∧ x ≤ 100000) (hl2 : l.length ≤ 4096) (hT : 1 ≤ totI l) :
    (0 ≤ seasS n i l * l.length ∧ seasS n i l * l.length ≤ 10000000000000) ∧ (1 ≤ seasC n i l * totI l ∧ seasC n i l * totI l ≤ 10000000000000) := by
  obtain ⟨h1, h2, h3, h4⟩ := seas_facts n i l hi hl hx hl2
  have ht := totI_bounds 100000 (by omega) l hx
  have a1 := Int.mul_nonneg h1 (show (0 : Int) ≤ (l.length : Int) by omega)
  have a2 : seasS n i l * l.length ≤ 409600000 * 4096 := Int.mul_le_mul h2 (by omega) (by omega) (by omega)
  have a3 := Int.mul_pos (show 0 < seasC n i l by omega) (show 0 < totI l by omega)
  have a4 : seasC n i l * totI l ≤ 4096 * 409600000 := Int.mul_le_mul h4 (by omega) (by omega) (by omega)
  omega
/-- What both answer. -/
def seasonsV (l : List Int) (n : Int) : List S46 × Int :=
  if 4096 < l.length then ([], 2) else if salesB l = true ∧ (1 ≤ n ∧ n ≤ 60) then (if (l.length : Int) < n then ([], 19) else if totI l = 0 then ([], 10) else ((List.range n.toNat).map (seasR l n.toNat), 0)) else ([], 1)
theorem seasonsV_length (l : List Int) (n : Int) : (seasonsV l n).1.length ≤ 60 := by
  unfold seasonsV
  repeat' split
  all_goals simp
  omega
theorem impl_common_l0 : ∀ (m : Nat) (a b : Int), 0 ≤ a → 0 ≤ b → b.toNat < m → Ev (fun k => impl_common.l0 k a b) (comV a b) := by
  intro m
  induction m with
  | zero => intro a b ha hb h; omega
  | succ m ih =>
    intro a b ha hb h
    by_cases c : b = 0
    · subst c
      exact Ev.step (fun k => rfl) (Ev.pos rfl (Ev.some' (comV_zero a ha).symm))
    · have h1 := Int.emod_nonneg a c
      have h2 := Int.emod_lt_of_pos a (show 0 < b by omega)
      have e := Int.tmod_eq_emod_of_nonneg (b := b) ha
      refine Ev.step (fun k => rfl) (Ev.neg c (Ev.eq (ih b (Int.tmod a b) hb (by omega) (by omega)) (comV_rec a b ha hb)))
theorem impl_common_ev (a b : Int) (ha : 0 ≤ a) (hb : 0 ≤ b) : Ev (fun k => impl_common.f k a b) (comV a b) := impl_common_l0 (b.toNat + 1) a b ha hb (by omega)
theorem implSum_l0 : ∀ (a p : List Int) (s : Int), (p ++ a).length < 1000000 → (∀ x ∈ a, 0 ≤ x ∧ x ≤ 100000) → 0 ≤ s → s ≤ 100000 * p.length → Ev (fun k => impl_sumOf.l0 k s (p ++ a) ((p ++ a).length : Int) (p.length : Int)) (s + totI a) := by
  intro a
  induction a with
  | nil => intro p s hl ha h0 h1; exact Ev.step (fun k => rfl) (Ev.neg (len_end p) (Ev.some' (by simp [totI])))
  | cons x a ih =>
    intro p s hl ha h0 h1
    have hl' := hl
    rw [List.length_append, List.length_cons] at hl'
    have hx := ha x (by simp)
    refine Ev.step (fun k => rfl) (Ev.pos (len_lt p x a) (Ev.pos (by omega) (Ev.pos (len_lt p x a) ?_)))
    rw [rd_mid, w64 (by omega) (by omega), w64 (by omega) (by omega), ← len_snoc p x, snoc p x a]
    refine Ev.eq (ih (p ++ [x]) (s + x) (by rw [← snoc]; exact hl) (fun y hy => ha y (by simp [hy])) (by omega) (by simp; omega)) ?_
    rw [totI]; omega
theorem implSum_ev (l : List Int) (hl : l.length < 1000000) (hx : ∀ x ∈ l, 0 ≤ x ∧ x ≤ 100000) : Ev (fun k => impl_sumOf.f k l) (totI l) :=
  Ev.eq (implSum_l0 l [] 0 hl hx (by omega) (by simp)) (by omega)
theorem impl_s1 (l : List Int) (n i : Nat) (hn : 1 ≤ n ∧ n ≤ 60) (hl : l.length ≤ 4096) (hx : ∀ x ∈ l, 0 ≤ x ∧ x ≤ 100000) (T : Int) (o : List S46) (m ii : Int) (v : List S46 × Int) : ∀ (d j : Nat) (s c : Int), j % n = i → l.length ≤ j + d → j ≤ 5000 → 0 ≤ s → s ≤ 100000 * j → 0 ≤ c → c ≤ j →
    Ev (fun k => (impl_common.f k (wrap64 ((s + seas id n i j (l.drop j)) * (l.length : Int))) (wrap64 ((c + seas oneF n i j (l.drop j)) * T))).bind fun t119 => (if t119 = 0 then (none) else (if o.length < 8796093022208 then (impl_Seasons.l0 k l (n : Int) T (o ++ [(⟨wrap64 (Int.tdiv (wrap64 ((s + seas id n i j (l.drop j)) * (l.length : Int))) t119), wrap64 (Int.tdiv (wrap64 ((c + seas oneF n i j (l.drop j)) * T)) t119)⟩ : S46)]) m (wrap64 (ii + 1))) else (none)))) v →
    Ev (fun k => impl_Seasons.l1 k l (n : Int) T o s c (j : Int) m ii) v := by
  intro d
  induction d with
  | zero =>
    intro j s c hj hd hj5 h0 h1 h2 h3 h
    rw [seas_end id n i j l (by omega), seas_end oneF n i j l (by omega), Int.add_zero, Int.add_zero] at h
    exact Ev.step (fun k => rfl) (Ev.neg (show ¬ (j : Int) < (l.length : Int) by omega) h)
  | succ d ih =>
    intro j s c hj hd hj5 h0 h1 h2 h3 h
    by_cases e : l.length ≤ j
    · rw [seas_end id n i j l e, seas_end oneF n i j l e, Int.add_zero, Int.add_zero] at h
      exact Ev.step (fun k => rfl) (Ev.neg (show ¬ (j : Int) < (l.length : Int) by omega) h)
    · rw [seas_next id n i j hn.1 hj l (by omega), seas_next oneF n i j hn.1 hj l (by omega)] at h
      have hxj : 0 ≤ l.getD j 0 ∧ l.getD j 0 ≤ 100000 := by
        rw [List.getD_eq_getElem?_getD, List.getElem?_eq_getElem (by omega)]
        exact hx _ (List.getElem_mem (by omega))
      have hm : (j + n) % n = i := by rw [Nat.add_mod_right]; exact hj
      refine Ev.step (fun k => rfl) (Ev.pos (show (j : Int) < (l.length : Int) by omega) (Ev.pos (by omega) ?_))
      rw [rd_nat, w64 (x := s + l.getD j 0) (by omega) (by omega), w64 (x := c + 1) (by omega) (by omega), show wrap64 ((j : Int) + (n : Int)) = ((j + n : Nat) : Int) by rw [w64 (by omega) (by omega)]; omega]
      refine ih (j + n) _ _ hm (by omega) (by omega) (by omega) (by omega) (by omega) (by omega) ?_
      rw [Int.add_assoc, Int.add_assoc]
      exact h
theorem impl_s0 (l : List Int) (n : Nat) (hn : 1 ≤ n ∧ n ≤ 60) (hnl : n ≤ l.length) (hl : l.length ≤ 4096) (hx : ∀ x ∈ l, 0 ≤ x ∧ x ≤ 100000) (hT : 1 ≤ totI l) : ∀ (d i : Nat), i + d = n →
    Ev (fun k => impl_Seasons.l0 k l (n : Int) (totI l) ((List.range i).map (seasR l n)) (n : Int) (i : Int)) ((List.range n).map (seasR l n), 0) := by
  intro d
  induction d with
  | zero =>
    intro i hi
    obtain rfl : i = n := by omega
    exact Ev.step (fun k => rfl) (Ev.neg (show ¬ (i : Int) < (i : Int) by omega) (Ev.some' rfl))
  | succ d ih =>
    intro i hi
    refine Ev.step (fun k => rfl) (Ev.pos (show (i : Int) < (n : Int) by omega) ?_)
    refine impl_s1 l n i hn hl hx (totI l) _ (n : Int) (i : Int) _ 4096 i 0 0 (Nat.mod_eq_of_lt (by omega)) (by omega) (by omega) (by omega) (by omega) (by omega) (by omega) ?_
    obtain ⟨n1, n2⟩ := season_nums l n i (by omega) hnl hx hl hT
    obtain ⟨r1, r2, r3⟩ := ratio_step _ _ n1 n2
    rw [Int.zero_add, Int.zero_add, ← seas_start id n i (by omega), ← seas_start oneF n i (by omega), show seas id n i 0 l = seasS n i l from rfl, show seas oneF n i 0 l = seasC n i l from rfl, w64 (x := seasS n i l * (l.length : Int)) (by omega) (by omega), w64 (x := seasC n i l * totI l) (by omega) (by omega)]
    refine Ev.bind (impl_common_ev _ _ n1.1 (by omega)) (Ev.neg r1 (Ev.pos (by simp; omega) ?_))
    rw [r2, r3, w64n (by omega), show (List.range i).map (seasR l n) ++ [⟨seasS n i l * (l.length : Int) / comV (seasS n i l * (l.length : Int)) (seasC n i l * totI l), seasC n i l * totI l / comV (seasS n i l * (l.length : Int)) (seasC n i l * totI l)⟩] = (List.range (i + 1)).map (seasR l n) by rw [List.range_succ, List.map_append]; rfl]
    exact ih (i + 1) (by omega)
theorem implSeasons_ev (l : List Int) (n : Int) : Ev (fun k => impl_Seasons.f k l n) (seasonsV l n) := by
  unfold impl_Seasons.f impl_isList_int.f seasonsV
  refine Ev.ret rfl ?_
  by_cases c1 : 4096 < l.length
  · rw [if_pos c1]; exact Ev.neg (by simp; omega) (Ev.some' rfl)
  rw [if_neg c1]
  refine Ev.pos (by simp; omega) (Ev.ret (areSales_ev l) ?_)
  by_cases c2 : salesB l = true
  · refine Ev.pos c2 (Ev.ret (within_ev _ _ _) ?_)
    by_cases c3 : 1 ≤ n ∧ n ≤ 60
    · have hx := salesB_mem c2
      have ht := totI_bounds 100000 (by omega) l hx
      rw [if_pos ⟨c2, c3⟩, show (!decide (1 ≤ n ∧ n ≤ 60)) = false by rw [decide_eq_true c3]; rfl]
      refine Ev.step (fun k => rfl) (Ev.ite (fun _ => Ev.some' rfl) (fun c4 => Ev.bind (implSum_ev l (by omega) hx) (Ev.ite (fun _ => Ev.some' rfl) (fun c5 => ?_))))
      have := impl_s0 l n.toNat (by omega) (by omega) (by omega) hx (by omega) n.toNat 0 (by omega)
      rw [Int.toNat_of_nonneg (show 0 ≤ n by omega)] at this
      exact this
    · rw [if_neg (fun h => c3 h.2), show (!decide (1 ≤ n ∧ n ≤ 60)) = true by rw [decide_eq_false c3]; rfl]
      exact Ev.via (Ev.some' rfl) (fun k => rfl)
  · rw [if_neg (fun h => c2 h.1)]
    exact Ev.neg c2 (Ev.via (Ev.some' rfl) (fun k => rfl))
theorem l01In_ev (a b c : Int) : spec_l01In.f a b c = some (decide (b ≤ a ∧ a ≤ c)) := by
  unfold spec_l01In.f
  by_cases h : a ≥ b
  · rw [if_pos h]; congr 1; rw [decide_eq_decide]; omega
  · rw [if_neg h]; congr 1; symm; rw [decide_eq_false_iff_not]; omega
theorem l16Sales_l0 : ∀ (a p : List Int), (p ++ a).length < 4611686018427387904 → Ev (fun k => spec_l16Sales.l0 k (p ++ a) (p.length : Int)) (salesB a) := by
  intro a
  induction a with
  | nil => intro p hl; exact Ev.step (fun k => rfl) (Ev.neg (len_end p) (Ev.some' rfl))
  | cons x a ih =>
    intro p hl
    have hl' := hl
    rw [List.length_append, List.length_cons] at hl'
    refine Ev.step (fun k => rfl) (Ev.pos (len_lt p x a) (Ev.pos (by omega) (Ev.ret (l01In_ev _ _ _) ?_)))
    rw [rd_mid]
    by_cases h : 0 ≤ x ∧ x ≤ 100000
    · refine Ev.pos (by simpa using h) ?_
      rw [w64 (by omega) (by omega), ← len_snoc p x, snoc p x a]
      refine Ev.eq (ih (p ++ [x]) (by rw [← snoc]; exact hl)) ?_
      simp [salesB, h]
    · refine Ev.neg (by simpa using h) (Ev.some' ?_)
      simp [salesB, h]
theorem l16Sales_ev (l : List Int) (hl : l.length < 4611686018427387904) : Ev (fun k => spec_l16Sales.f k l) (salesB l) := by
  unfold spec_l16Sales.f
  exact l16Sales_l0 l [] hl
theorem spec_common_l0 : ∀ (m : Nat) (a b : Int), 0 ≤ a → 0 ≤ b → b.toNat < m → Ev (fun k => spec_l16Common.l0 k a b) (comV a b) := by
  intro m
  induction m with
  | zero => intro a b ha hb h; omega
  | succ m ih =>
    intro a b ha hb h
    by_cases c : b = 0
    · subst c
      exact Ev.step (fun k => rfl) (Ev.pos rfl (Ev.some' (comV_zero a ha).symm))
    · have h1 := Int.emod_nonneg a c
      have h2 := Int.emod_lt_of_pos a (show 0 < b by omega)
      have e := Int.tmod_eq_emod_of_nonneg (b := b) ha
      refine Ev.step (fun k => rfl) (Ev.neg c (Ev.eq (ih b (Int.tmod a b) hb (by omega) (by omega)) (comV_rec a b ha hb)))
theorem spec_common_ev (a b : Int) (ha : 0 ≤ a) (hb : 0 ≤ b) : Ev (fun k => spec_l16Common.f k a b) (comV a b) := spec_common_l0 (b.toNat + 1) a b ha hb (by omega)
theorem getD_set_ite (l : List Int) (i j : Nat) (x : Int) (hj : j < l.length) : (l.set j x).getD i 0 = if j = i then x else l.getD i 0 := by
  rw [List.getD_eq_getElem?_getD, List.getElem?_set]
  by_cases h : j = i
  · subst h
    rw [if_pos rfl, if_pos hj, if_pos rfl]; rfl
  · rw [if_neg h, if_neg h, List.getD_eq_getElem?_getD]
theorem spec_s0 (n : Nat) (hn : 1 ≤ n ∧ n ≤ 60) (v : List S46 × Int) : ∀ (a p : List Int) (t : Int) (S C : List Int), (p ++ a).length ≤ 4096 → (∀ x ∈ a, 0 ≤ x ∧ x ≤ 100000) → S.length = n → C.length = n → 0 ≤ t → t ≤ 100000 * p.length → (∀ i, 0 ≤ S.getD i 0 ∧ S.getD i 0 ≤ 100000 * p.length) → (∀ i, 0 ≤ C.getD i 0 ∧ C.getD i 0 ≤ p.length) →
    (∀ S' C' : List Int, S'.length = n → C'.length = n → (∀ i, i < n → S'.getD i 0 = S.getD i 0 + seas id n i p.length a) → (∀ i, i < n → C'.getD i 0 = C.getD i 0 + seas oneF n i p.length a) →
      Ev (fun k => if t + totI a = 0 then (some ((([] : List S46)), 10)) else (spec_Seasons.l1 k (p ++ a) (n : Int) (t + totI a) S' C' (([] : List S46)) 0)) v) →
    Ev (fun k => spec_Seasons.l0 k (p ++ a) (n : Int) t S C (p.length : Int)) v := by
  intro a
  induction a with
  | nil =>
    intro p t S C hl ha hS hC t0 t1 bS bC h
    have h' := h S C hS hC (fun i _ => by simp [seas]) (fun i _ => by simp [seas])
    rw [totI, Int.add_zero] at h'
    exact Ev.step (fun k => rfl) (Ev.neg (len_end p) h')
  | cons x a ih =>
    intro p t S C hl ha hS hC t0 t1 bS bC h
    have hl' := hl
    rw [List.length_append, List.length_cons] at hl'
    have hx := ha x (by simp)
    have hm : Int.tmod (p.length : Int) (n : Int) = ((p.length % n : Nat) : Int) := by
      rw [Int.tmod_eq_emod_of_nonneg (by omega), Int.natCast_emod]
    have hm2 : p.length % n < n := Nat.mod_lt _ (by omega)
    refine Ev.step (fun k => rfl) (Ev.pos (len_lt p x a) (Ev.pos (by omega) (Ev.neg (by omega) ?_)))
    rw [hm, rd_mid, rd_nat, rd_nat, Int.toNat_natCast]
    clear hm
    generalize hq : p.length % n = q at hm2 ⊢
    have b1 := bS q
    have b2 := bC q
    refine Ev.pos (by omega) (Ev.pos (by omega) (Ev.pos (by omega) ?_))
    rw [w64 (x := t + x) (by omega) (by omega), w64 (x := S.getD q 0 + x) (by omega) (by omega), w64 (x := C.getD q 0 + 1) (by omega) (by omega), w64 (x := (p.length : Int) + 1) (by omega) (by omega), ← len_snoc p x, snoc p x a]
    refine ih (p ++ [x]) (t + x) _ _ (by rw [← snoc]; exact hl) (fun y hy => ha y (by simp [hy])) (by simp [hS]) (by simp [hC]) (by omega) (by simp; omega) ?_ ?_ ?_
    · intro i
      rw [getD_set_ite _ _ _ _ (by omega)]
      have := bS i
      simp only [List.length_append, List.length_singleton]
      split <;> omega
    · intro i
      rw [getD_set_ite _ _ _ _ (by omega)]
      have := bC i
      simp only [List.length_append, List.length_singleton]
      split <;> omega
    · intro S' C' hS' hC' e1 e2
      rw [← snoc, Int.add_assoc]
      refine h S' C' hS' hC' (fun i hi => ?_) (fun i hi => ?_)
      · rw [e1 i hi, getD_set_ite _ _ _ _ (by omega), seas, hq, List.length_append, List.length_singleton]
        by_cases e : q = i
        · subst e; rw [if_pos rfl, if_pos rfl, id, Int.add_assoc]
        · rw [if_neg e, if_neg e, Int.zero_add]
      · rw [e2 i hi, getD_set_ite _ _ _ _ (by omega), seas, hq, List.length_append, List.length_singleton]
        by_cases e : q = i
        · subst e; rw [if_pos rfl, if_pos rfl, oneF, Int.add_assoc]
        · rw [if_neg e, if_neg e, Int.zero_add]
theorem spec_s1 (l : List Int) (n : Nat) (hn : 1 ≤ n ∧ n ≤ 60) (hnl : n ≤ l.length) (hl : l.length ≤ 4096) (hx : ∀ x ∈ l, 0 ≤ x ∧ x ≤ 100000) (hT : 1 ≤ totI l) (S C : List Int) (hS : S.length = n) (hC : C.length = n) (eS : ∀ i, i < n → S.getD i 0 = seasS n i l) (eC : ∀ i, i < n → C.getD i 0 = seasC n i l) : ∀ (d i : Nat), i + d = n →
    Ev (fun k => spec_Seasons.l1 k l (n : Int) (totI l) S C ((List.range i).map (seasR l n)) (i : Int)) ((List.range n).map (seasR l n), 0) := by
  intro d
  induction d with
  | zero =>
    intro i hi
    obtain rfl : i = n := by omega
    exact Ev.step (fun k => rfl) (Ev.neg (show ¬ (i : Int) < (i : Int) by omega) (Ev.some' rfl))
  | succ d ih =>
    intro i hi
    obtain ⟨n1, n2⟩ := season_nums l n i (by omega) hnl hx hl hT
    obtain ⟨r1, r2, r3⟩ := ratio_step _ _ n1 n2
    refine Ev.step (fun k => rfl) (Ev.pos (show (i : Int) < (n : Int) by omega) (Ev.pos (by omega) (Ev.pos (by omega) (Ev.pos (by omega) ?_))))
    rw [rd_nat, rd_nat, eS i (by omega), eC i (by omega), w64 (x := seasS n i l * (l.length : Int)) (by omega) (by omega), w64 (x := seasC n i l * totI l) (by omega) (by omega)]
    refine Ev.bind (spec_common_ev _ _ n1.1 (by omega)) (Ev.neg r1 (Ev.pos (by simp; omega) ?_))
    rw [r2, r3, w64n (by omega), show (List.range i).map (seasR l n) ++ [⟨seasS n i l * (l.length : Int) / comV (seasS n i l * (l.length : Int)) (seasC n i l * totI l), seasC n i l * totI l / comV (seasS n i l * (l.length : Int)) (seasC n i l * totI l)⟩] = (List.range (i + 1)).map (seasR l n) by rw [List.range_succ, List.map_append]; rfl]
    exact ih (i + 1) (by omega)
theorem zeros_get (n i : Nat) : (List.replicate n (0 : Int)).getD i 0 = 0 := by
  rw [List.getD_eq_getElem?_getD, List.getElem?_replicate]
  split <;> rfl
theorem specSeasons_ev (l : List Int) (n : Int) (hl : l.length < 4611686018427387904) : Ev (fun k => spec_Seasons.f k l n) (seasonsV l n) := by
  unfold spec_Seasons.f seasonsV
  by_cases c1 : 4096 < l.length
  · rw [if_pos c1]; exact Ev.pos (by omega) (Ev.some' rfl)
  rw [if_neg c1]
  refine Ev.neg (by omega) (Ev.bind (l16Sales_ev l hl) ?_)
  by_cases c2 : salesB l = true
  · refine Ev.pos c2 (Ev.ret (l01In_ev _ _ _) ?_)
    by_cases c3 : 1 ≤ n ∧ n ≤ 60
    · have hx := salesB_mem c2
      have ht := totI_bounds 100000 (by omega) l hx
      rw [if_pos ⟨c2, c3⟩, show (!decide (1 ≤ n ∧ n ≤ 60)) = false by rw [decide_eq_true c3]; rfl]
      obtain ⟨N, rfl⟩ := Int.eq_ofNat_of_zero_le (show 0 ≤ n by omega)
      refine Ev.step (fun k => rfl) (Ev.ite (fun _ => Ev.some' rfl) (fun c4 => ?_))
      rw [Int.toNat_natCast]
      have hN1 : (0 : Int) ≤ (N : Int) := by omega
      have hN2 : N ≤ 35184372088832 := by omega
      refine Ev.pos hN1 (Ev.pos hN2 ?_)
      refine spec_s0 N (by omega) _ l [] 0 (List.replicate N 0) (List.replicate N 0) (by simp; omega) hx (by simp) (by simp) (by omega) (by omega) (fun i => by rw [zeros_get]; simp) (fun i => by rw [zeros_get]; simp) ?_
      intro S C hS hC eS eC
      rw [Int.zero_add, List.nil_append]
      refine Ev.ite (fun _ => Ev.some' rfl) (fun c5 => ?_)
      exact spec_s1 l N (by omega) (by omega) (by omega) hx (by omega) S C hS hC (fun i hi => by rw [eS i hi, zeros_get, Int.zero_add]; rfl) (fun i hi => by rw [eC i hi, zeros_get, Int.zero_add]; rfl) N 0 (by omega)
    · rw [if_neg (fun h => c3 h.2), show (!decide (1 ≤ n ∧ n ≤ 60)) = true by rw [decide_eq_false c3]; rfl]
      exact Ev.via (Ev.some' rfl) (fun k => rfl)
  · rw [if_neg (fun h => c2 h.1)]
    exact Ev.neg c2 (Ev.via (Ev.some' rfl) (fun k => rfl))
theorem FnExactSeasons : laws_FnExactSeasons.Pure := by
  intro l n _ _
  refine Ev.rounds (?_ : Ev (fun k => laws_FnExactSeasons.f k l n) true)
  unfold laws_FnExactSeasons.f
  by_cases c1 : (l.length : Int) > 1048576
  · exact Ev.pos c1 (Ev.some' rfl)
  refine Ev.neg c1 ?_
  have ti := toIntS_ev l (by omega)
  have sp := specSeasons_ev l n (by omega)
  have im := implSeasons_ev l n
  have hn := seasonsV_length l n
  generalize hv : seasonsV l n = v at sp im hn
  obtain ⟨o, c⟩ := v
  have eq := eqRatioS_ev o (by simp only at hn; omega)
  have ei := eqIntS_ev l l (by omega)
  have mi := markIntS_ev l 1 (by omega) (by omega) (by omega)
  have mo := markRatioS_ev o 1 (by simp only at hn; omega) (by omega) (by simp only at hn; omega)
  have he := heldRatioS_ev o.length 1 (by omega) (by simp only at hn; omega)
  repeat' (first
    | exact Ev.some' rfl
    | with_reducible assumption
    | (with_reducible refine Ev.bind (by with_reducible assumption) ?_)
    | (with_reducible refine Ev.ret (by with_reducible assumption) ?_)
    | (refine Ev.pos (by first | with_reducible rfl | with_reducible assumption | omega | (simp; done) | (simp; omega)) ?_)
    | (refine Ev.neg (by first | with_reducible assumption | omega | (simp; done) | (simp; omega)) ?_)
    | (refine Ev.up1 ?_; simp only [laws_FnExactSeasons.j0, laws_FnExactSeasons.j1, laws_FnExactSeasons.j2]))

end Go.Proofs.Ytbljkgllicnkkaa.Pure
