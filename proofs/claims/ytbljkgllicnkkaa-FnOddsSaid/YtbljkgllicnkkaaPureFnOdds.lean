/- Of a drawn table the odds sum up and lie as the law says: the law's plain statement, with no condition. -/
import Derived.Test.YtbljkgllicnkkaaXFnOddsx3
import Derived.Test.YtbljkgllicnkkaaAx
import Derived.Test.YtbljkgllicnkkaaIdx
namespace Go.Proofs.Ytbljkgllicnkkaa.Pure
open Go.RowKit Go.Proofs.Ytbljkgllicnkkaa.XFnOdds Go.Proofs.YtbljkgllicnkkaaW.PrintWords Go.Proofs.YtbljkgllicnkkaaW.PrintLast
open Go.Proofs.YtbljkgllicnkkaaW.Ax Go.Proofs.YtbljkgllicnkkaaW.Idx
set_option linter.unusedVariables false
set_option linter.unusedSimpArgs false
/-- A source of draws: its code's bytes, its place (at most N), its seed. -/
def Srd (c : List Int) (a s N : Int) : Prop := (∀ x ∈ c, 0 ≤ x ∧ x ≤ 255) ∧ 0 ≤ a ∧ a ≤ N ∧ 0 ≤ s ∧ s ≤ 2147483647
theorem Srd.mono {c : List Int} {a s N M : Int} (h : Srd c a s N) (hM : N ≤ M) : Srd c a s M := ⟨h.1, h.2.1, by have := h.2.2.1; omega, h.2.2.2⟩
theorem rd_byte {c : List Int} (hc : ∀ x ∈ c, 0 ≤ x ∧ x ≤ 255) (i : Int) : 0 ≤ rd c i ∧ rd c i ≤ 255 := by
  unfold rd
  rw [List.getD_eq_getElem?_getD]
  cases h : c[i.toNat]? with
  | none => simp
  | some x => simpa using hc x (List.mem_of_getElem? h)
theorem byte_ok {c : List Int} {a s N : Int} (h : Srd c a s N) (hN : N ≤ 1000000000) : ∃ v s', spec_l00Src_byte.f c a s = some (v, a + 1, s') ∧ 0 ≤ v ∧ v ≤ 255 ∧ Srd c (a + 1) s' (N + 1) := by
  obtain ⟨hc, h0, h1, h2, h3⟩ := h
  unfold spec_l00Src_byte.f
  rw [w64 (x := a + 1) (by omega) (by omega), w64 (x := a + 1 - 1) (by omega) (by omega), show a + 1 - 1 = a by omega]
  have hb := rd_byte hc a
  generalize rd c a = b at hb
  rw [w64 (x := b) (by omega) (by omega), w64 (x := s * 31) (by omega) (by omega), w64 (x := s * 31 + b) (by omega) (by omega), w64 (x := s * 31 + b + 7) (by omega) (by omega), Int.tmod_eq_emod_of_nonneg (show 0 ≤ s * 31 + b + 7 by omega)]
  rw [w64 (x := s * 1103515245) (by omega) (by omega), w64 (x := s * 1103515245 + 12345) (by omega) (by omega), Int.tmod_eq_emod_of_nonneg (show 0 ≤ s * 1103515245 + 12345 by omega)]
  have e := Int.emod_nonneg (s * 1103515245 + 12345) (show (2147483648 : Int) ≠ 0 by decide)
  have e2 := Int.emod_lt_of_pos (s * 1103515245 + 12345) (show (0 : Int) < 2147483648 by decide)
  have f := Int.emod_nonneg (s * 31 + b + 7) (show (2147483648 : Int) ≠ 0 by decide)
  have f2 := Int.emod_lt_of_pos (s * 31 + b + 7) (show (0 : Int) < 2147483648 by decide)
  generalize (s * 1103515245 + 12345) % 2147483648 = t at e e2 ⊢
  generalize (s * 31 + b + 7) % 2147483648 = u at f f2 ⊢
  by_cases c1 : a + 1 ≤ (c.length : Int)
  · rw [if_pos c1, if_pos h0, if_pos (by omega)]
    exact ⟨_, _, rfl, hb.1, hb.2, hc, by omega, by omega, by omega, by omega⟩
  · rw [if_neg c1]
    by_cases c2 : a + 1 > 3000
    · rw [if_pos c2]
      exact ⟨_, _, rfl, by omega, by omega, hc, by omega, by omega, by omega, by omega⟩
    · rw [if_neg c2, Int.tdiv_eq_ediv_of_nonneg (by omega), w64 (by omega) (by omega), Int.tmod_eq_emod_of_nonneg (by omega)]
      exact ⟨_, _, rfl, by omega, by omega, hc, by omega, by omega, by omega, by omega⟩
theorem next_ok {c : List Int} {a s N : Int} (n : Int) (h : Srd c a s N) (hN : N ≤ 900000000) (h1 : 1 ≤ n) (h2 : n ≤ 16777216) : ∃ v a' s', spec_l00Src_next.f c a s n = some (v, a', s') ∧ 0 ≤ v ∧ v < n ∧ Srd c a' s' (N + 3) := by
  unfold spec_l00Src_next.f
  by_cases c1 : n ≤ 1
  · rw [if_pos c1]
    exact ⟨_, _, _, rfl, by omega, by omega, h.mono (by omega)⟩
  · rw [if_neg c1]
    obtain ⟨v, s1, hv, v0, v1, S1⟩ := byte_ok h (by omega)
    simp only [hv, Option.bind_some]
    have g := Int.emod_nonneg v (show n ≠ 0 by omega)
    have g2 := Int.emod_lt_of_pos v (show 0 < n by omega)
    by_cases c2 : n ≤ 256
    · rw [if_pos c2, if_neg (by omega), Int.tmod_eq_emod_of_nonneg (by omega)]
      exact ⟨_, _, _, rfl, g, g2, S1.mono (by omega)⟩
    · rw [if_neg c2]
      obtain ⟨x, s2, hx, x0, x1, S2⟩ := byte_ok S1 (by omega)
      simp only [hx, Option.bind_some]
      obtain ⟨y, s3, hy, y0, y1, S3⟩ := byte_ok S2 (by omega)
      simp only [hy, Option.bind_some]
      rw [if_neg (by omega)]
      rw [w64 (x := v * 65536) (by omega) (by omega), w64 (x := x * 256) (by omega) (by omega), w64 (x := v * 65536 + x * 256) (by omega) (by omega), w64 (by omega) (by omega), Int.tmod_eq_emod_of_nonneg (by omega)]
      exact ⟨_, _, _, rfl, Int.emod_nonneg _ (by omega), Int.emod_lt_of_pos _ (by omega), S3.mono (by omega)⟩
theorem source_ok (l : List Int) (h : ∀ x ∈ l, (Lit.int .u8 x).wf = true) : ∃ s, spec_l00Source.f l = some (l, 0, s) ∧ Srd l 0 s 0 := by
  refine ⟨_, rfl, fun x hx => bounds_u8 (h x hx), by omega, by omega, ?_, ?_⟩ <;> omega
theorem size_ok {c : List Int} (a s m : Int) (hc : c.length ≤ 1048576) (hm : 1 ≤ m) : ∃ v, spec_l00Src_size.f c a s m = some (v, a, s) ∧ 1 ≤ v ∧ v ≤ m := by
  unfold spec_l00Src_size.f
  rw [w64 (x := (c.length : Int) / 12) (by omega) (by omega), w64 (by omega) (by omega)]
  refine ⟨_, rfl, ?_, ?_⟩ <;> (unfold mn; split <;> omega)
theorem within_ev (a b c : Int) : impl_within.f a b c = some (decide (b ≤ a ∧ a ≤ c)) := by
  unfold impl_within.f
  by_cases h : a ≥ b
  · rw [if_pos h]; congr 1; rw [decide_eq_decide]; omega
  · rw [if_neg h]; congr 1; symm; rw [decide_eq_false_iff_not]; omega
/-! ### ways to reach a sum -/
def sumI : List Int → Int
  | [] => 0
  | x :: xs => x + sumI xs
/-- The sum of the places, from k on, each times what stands there. -/
def wsI : Int → List Int → Int
  | _, [] => 0
  | k, x :: xs => k * x + wsI (k + 1) xs
theorem sumI_nonneg : ∀ (l : List Int), (∀ x ∈ l, 0 ≤ x) → 0 ≤ sumI l := by
  intro l
  induction l with
  | nil => intro _; exact Int.le_refl 0
  | cons x l ih =>
    intro h
    have h1 := h x (by simp)
    have h2 := ih (fun y hy => h y (by simp [hy]))
    rw [sumI]; omega
theorem get_le_sum : ∀ (l : List Int) (i : Nat), (∀ x ∈ l, 0 ≤ x) → 0 ≤ l.getD i 0 ∧ l.getD i 0 ≤ sumI l := by
  intro l
  induction l with
  | nil => intro i _; simp [sumI]
  | cons x l ih =>
    intro i h
    have h1 := h x (by simp)
    have h2 := fun y hy => h y (List.mem_cons_of_mem x hy)
    have h3 := sumI_nonneg l h2
    cases i with
    | zero => simp only [List.getD_cons_zero, sumI]; omega
    | succ i =>
      have := ih i h2
      simp only [List.getD_cons_succ, sumI]; omega
theorem sumI_set : ∀ (l : List Int) (i : Nat) (d : Int), i < l.length → sumI (l.set i (l.getD i 0 + d)) = sumI l + d := by
  intro l
  induction l with
  | nil => intro i d h; simp at h
  | cons x l ih =>
    intro i d h
    cases i with
    | zero => simp only [List.set_cons_zero, List.getD_cons_zero, sumI]; omega
    | succ i =>
      have := ih i d (by simpa using h)
      simp only [List.set_cons_succ, List.getD_cons_succ, sumI, this]; omega
theorem wsI_set : ∀ (l : List Int) (i : Nat) (d k : Int), i < l.length → wsI k (l.set i (l.getD i 0 + d)) = wsI k l + (k + i) * d := by
  intro l
  induction l with
  | nil => intro i d k h; simp at h
  | cons x l ih =>
    intro i d k h
    cases i with
    | zero => simp only [List.set_cons_zero, List.getD_cons_zero, wsI, Int.mul_add]; simp; omega
    | succ i =>
      have := ih i d (k + 1) (by simpa using h)
      simp only [List.set_cons_succ, List.getD_cons_succ, wsI, this]
      rw [show k + ((i + 1 : Nat) : Int) = k + 1 + (i : Int) by omega]; omega
theorem wsI_shift : ∀ (l : List Int) (k j : Int), wsI (k + j) l = j * sumI l + wsI k l := by
  intro l
  induction l with
  | nil => intro k j; simp [wsI, sumI]
  | cons x l ih =>
    intro k j
    simp only [wsI, sumI, show k + j + 1 = k + 1 + j by omega, ih, Int.add_mul, Int.mul_add]
    omega
theorem set_nonneg (l : List Int) (i : Nat) (d : Int) (h : ∀ x ∈ l, 0 ≤ x) (hd : 0 ≤ d) : ∀ x ∈ l.set i (l.getD i 0 + d), 0 ≤ x := by
  intro x hx
  rcases List.mem_or_eq_of_mem_set hx with h1 | h1
  · exact h x h1
  · have := (get_le_sum l i h).1
    omega
/-- A row of ways is added, from place i on. -/
def inner (x : Int) : List Int → Nat → List Int → List Int
  | [], _, nx => nx
  | y :: t, i, nx => inner x t (i + 1) (nx.set i (nx.getD i 0 + x * y))
def outer (t : List Int) : List Int → Nat → List Int → List Int
  | [], _, nx => nx
  | x :: cur, i, nx => outer t cur (i + 1) (inner x t i nx)
def stepO (t cur : List Int) : List Int := outer t cur 0 (List.replicate (cur.length + t.length - 1) 0)
def timesO (t : List Int) : Nat → List Int → List Int
  | 0, c => c
  | n + 1, c => timesO t n (stepO t c)
theorem inner_length (x : Int) : ∀ (t : List Int) (i : Nat) (nx : List Int), (inner x t i nx).length = nx.length := by
  intro t
  induction t with
  | nil => intro i nx; rfl
  | cons y t ih => intro i nx; rw [inner, ih]; simp
theorem inner_sum (x : Int) : ∀ (t : List Int) (i : Nat) (nx : List Int), i + t.length ≤ nx.length → sumI (inner x t i nx) = sumI nx + x * sumI t := by
  intro t
  induction t with
  | nil => intro i nx h; simp [inner, sumI]
  | cons y t ih =>
    intro i nx h
    rw [List.length_cons] at h
    rw [inner, ih _ _ (by simp; omega), sumI_set _ _ _ (by omega), sumI, Int.mul_add]; omega
theorem inner_ws (x : Int) : ∀ (t : List Int) (i : Nat) (nx : List Int), i + t.length ≤ nx.length → wsI 0 (inner x t i nx) = wsI 0 nx + x * wsI i t := by
  intro t
  induction t with
  | nil => intro i nx h; simp [inner, wsI]
  | cons y t ih =>
    intro i nx h
    rw [List.length_cons] at h
    rw [inner, ih _ _ (by simp; omega), wsI_set _ _ _ _ (by omega), wsI, Int.mul_add, show ((i + 1 : Nat) : Int) = (i : Int) + 1 by omega, Int.zero_add, Int.mul_left_comm]; omega
theorem inner_nonneg (x : Int) (hx : 0 ≤ x) : ∀ (t : List Int) (i : Nat) (nx : List Int), (∀ y ∈ t, 0 ≤ y) → (∀ y ∈ nx, 0 ≤ y) → ∀ y ∈ inner x t i nx, 0 ≤ y := by
  intro t
  induction t with
  | nil => intro i nx ht hn; exact hn
  | cons y t ih =>
    intro i nx ht hn
    rw [inner]
    exact ih _ _ (fun z hz => ht z (by simp [hz])) (set_nonneg nx i _ hn (Int.mul_nonneg hx (ht y (by simp))))
theorem outer_length (t : List Int) : ∀ (cur : List Int) (i : Nat) (nx : List Int), (outer t cur i nx).length = nx.length := by
  intro cur
  induction cur with
  | nil => intro i nx; rfl
  | cons y cur ih => intro i nx; rw [outer, ih, inner_length]
theorem outer_sum (t : List Int) : ∀ (cur : List Int) (i : Nat) (nx : List Int), i + cur.length + t.length ≤ nx.length + 1 → sumI (outer t cur i nx) = sumI nx + sumI cur * sumI t := by
  intro cur
  induction cur with
  | nil => intro i nx h; simp [outer, sumI]
  | cons x cur ih =>
    intro i nx h
    rw [List.length_cons] at h
    rw [outer, ih _ _ (by rw [inner_length]; omega), inner_sum _ _ _ _ (by omega), sumI, Int.add_mul]; omega
theorem outer_ws (t : List Int) : ∀ (cur : List Int) (i : Nat) (nx : List Int), i + cur.length + t.length ≤ nx.length + 1 → wsI 0 (outer t cur i nx) = wsI 0 nx + (wsI i cur * sumI t + sumI cur * wsI 0 t) := by
  intro cur
  induction cur with
  | nil => intro i nx h; simp [outer, sumI, wsI]
  | cons x cur ih =>
    intro i nx h
    rw [List.length_cons] at h
    have hs := wsI_shift t 0 i
    rw [Int.zero_add] at hs
    rw [outer, ih _ _ (by rw [inner_length]; omega), inner_ws _ _ _ _ (by omega), hs, sumI, wsI, show ((i + 1 : Nat) : Int) = (i : Int) + 1 by omega]
    grind
theorem outer_nonneg (t : List Int) (ht : ∀ y ∈ t, 0 ≤ y) : ∀ (cur : List Int) (i : Nat) (nx : List Int), (∀ y ∈ cur, 0 ≤ y) → (∀ y ∈ nx, 0 ≤ y) → ∀ y ∈ outer t cur i nx, 0 ≤ y := by
  intro cur
  induction cur with
  | nil => intro i nx hc hn; exact hn
  | cons x cur ih =>
    intro i nx hc hn
    rw [outer]
    exact ih _ _ (fun z hz => hc z (by simp [hz])) (inner_nonneg x (hc x (by simp)) t i nx ht hn)
theorem sum_zeros (n : Nat) : sumI (List.replicate n 0) = 0 := by
  induction n with
  | zero => rfl
  | succ n ih => rw [List.replicate_succ, sumI, ih]; rfl
theorem ws_zeros (n : Nat) : ∀ k, wsI k (List.replicate n 0) = 0 := by
  induction n with
  | zero => intro k; rfl
  | succ n ih => intro k; rw [List.replicate_succ, wsI, ih]; simp
theorem stepO_facts (t cur : List Int) (ht : 1 ≤ t.length) (hc : 1 ≤ cur.length) (htn : ∀ y ∈ t, 0 ≤ y) (hcn : ∀ y ∈ cur, 0 ≤ y) :
    (stepO t cur).length = cur.length + t.length - 1 ∧ sumI (stepO t cur) = sumI cur * sumI t ∧ wsI 0 (stepO t cur) = wsI 0 cur * sumI t + sumI cur * wsI 0 t ∧ (∀ y ∈ stepO t cur, 0 ≤ y) := by
  unfold stepO
  refine ⟨by rw [outer_length]; simp, ?_, ?_, outer_nonneg t htn cur 0 _ hcn (by intro y hy; rw [List.eq_of_mem_replicate hy]; omega)⟩
  · rw [outer_sum _ _ _ _ (by simp; omega), sum_zeros, Int.zero_add]
  · have := outer_ws t cur 0 (List.replicate (cur.length + t.length - 1) 0) (by simp; omega)
    rw [this, ws_zeros, Int.zero_add]; rfl
/-- A power. -/
def pw (T : Int) : Nat → Int
  | 0 => 1
  | n + 1 => T * pw T n
theorem pw_nonneg (T : Int) (h : 0 ≤ T) : ∀ n, 0 ≤ pw T n := by
  intro n
  induction n with
  | zero => exact (by decide : (0 : Int) ≤ 1)
  | succ n ih => exact Int.mul_nonneg h ih
theorem pw_le (T B : Int) (h : 0 ≤ T) (hB : T ≤ B) : ∀ n, pw T n ≤ pw B n := by
  intro n
  induction n with
  | zero => exact Int.le_refl _
  | succ n ih => exact Int.mul_le_mul hB ih (pw_nonneg T h n) (Int.le_trans h hB)
theorem pw_mono (B : Int) (h : 1 ≤ B) : ∀ d n : Nat, pw B n ≤ pw B (n + d) := by
  intro d n
  induction d with
  | zero => exact Int.le_refl _
  | succ d ih =>
    have h1 : pw B (n + (d + 1)) = B * pw B (n + d) := rfl
    have h2 := Int.mul_le_mul_of_nonneg_right h (pw_nonneg B (by omega) (n + d))
    rw [h1]; omega
theorem timesO_facts (t : List Int) (ht : 1 ≤ t.length) (htn : ∀ y ∈ t, 0 ≤ y) : ∀ (n : Nat) (c : List Int), 1 ≤ c.length → (∀ y ∈ c, 0 ≤ y) →
    (timesO t n c).length + n = c.length + n * t.length ∧ sumI (timesO t n c) = sumI c * pw (sumI t) n ∧ wsI 0 (timesO t n c) * sumI t = wsI 0 c * (sumI t * pw (sumI t) n) + n * (wsI 0 t * (sumI c * pw (sumI t) n)) ∧ (∀ y ∈ timesO t n c, 0 ≤ y) := by
  intro n
  induction n with
  | zero => intro c hc hcn; exact ⟨by simp [timesO], by simp [timesO, pw], by simp [timesO, pw], hcn⟩
  | succ n ih =>
    intro c hc hcn
    obtain ⟨s1, s2, s3, s4⟩ := stepO_facts t c ht hc htn hcn
    obtain ⟨i1, i2, i3, i4⟩ := ih (stepO t c) (by omega) s4
    refine ⟨?_, ?_, ?_, i4⟩
    · show (timesO t n (stepO t c)).length + (n + 1) = _
      rw [Nat.succ_mul]; omega
    · show sumI (timesO t n (stepO t c)) = _
      rw [i2, s2, pw, Int.mul_assoc]
    · show wsI 0 (timesO t n (stepO t c)) * _ = _
      rw [i3, s2, s3, pw, show ((n + 1 : Nat) : Int) = (n : Int) + 1 by omega]
      generalize pw (sumI t) n = p
      generalize sumI t = T
      grind
theorem sum_le_mul (M : Int) : ∀ (l : List Int), (∀ x ∈ l, x ≤ M) → sumI l ≤ M * l.length := by
  intro l
  induction l with
  | nil => intro _; simp [sumI]
  | cons x l ih =>
    intro h
    have h1 := h x (by simp)
    have h2 := ih (fun y hy => h y (by simp [hy]))
    rw [sumI, List.length_cons, show ((l.length + 1 : Nat) : Int) = (l.length : Int) + 1 by omega, Int.mul_add]; omega
/-- A right table: 1 to 13 entries from 0 to 30. -/
def tableB (t : List Int) (a : Int) : Bool := decide (1 ≤ t.length ∧ t.length ≤ 13) && (t.all fun n => decide (0 ≤ n ∧ n ≤ 30)) && decide (1 ≤ a ∧ a ≤ 5)
theorem tableB_iff (t : List Int) (a : Int) : tableB t a = true ↔ (1 ≤ t.length ∧ t.length ≤ 13) ∧ (∀ x ∈ t, 0 ≤ x ∧ x ≤ 30) ∧ 1 ≤ a ∧ a ≤ 5 := by
  unfold tableB
  simp only [Bool.and_eq_true, decide_eq_true_eq, List.all_eq_true, and_assoc]
theorem table_sum {t : List Int} {a : Int} (h : tableB t a = true) : (∀ y ∈ t, 0 ≤ y) ∧ 0 ≤ sumI t ∧ sumI t ≤ 390 := by
  obtain ⟨h1, h2, h3⟩ := (tableB_iff t a).1 h
  have hn := fun y hy => (h2 y hy).1
  have := sum_le_mul 30 t (fun y hy => (h2 y hy).2)
  exact ⟨hn, sumI_nonneg t hn, by omega⟩
theorem pw390 (n : Nat) (h : n ≤ 5) : pw 390 n ≤ 9022419900000 := by
  obtain ⟨d, hd⟩ : ∃ d, n + d = 5 := ⟨5 - n, by omega⟩
  have := pw_mono 390 (by omega) d n
  rw [hd] at this
  exact this
theorem w64nn {i j : Nat} (h : i + j < 4611686018427387904) : wrap64 ((i : Int) + (j : Int)) = ((i + j : Nat) : Int) := by rw [w64 (by omega) (by omega)]; omega
theorem lenstep {a b : Nat} (hb : 1 ≤ b) (h : a + b < 4611686018427387904) : wrap64 (wrap64 ((a : Int) + (b : Int)) - 1) = ((a + b - 1 : Nat) : Int) := by
  rw [w64nn h, w64 (by omega) (by omega)]; omega
theorem row_bounds (x y : Int) (b nx : List Int) (j : Nat) (hx : 0 ≤ x) (hy : 0 ≤ y) (hb : ∀ z ∈ b, 0 ≤ z) (hn : ∀ z ∈ nx, 0 ≤ z) (hs : sumI nx + x * sumI (y :: b) ≤ 9022419900000) :
    wrap64 (nx.getD j 0 + wrap64 (x * y)) = nx.getD j 0 + x * y ∧ 0 ≤ x * y ∧ sumI nx + x * y + x * sumI b ≤ 9022419900000 := by
  have hxy := Int.mul_nonneg hx hy
  have hxb := Int.mul_nonneg hx (sumI_nonneg b hb)
  rw [sumI, Int.mul_add] at hs
  have hg := get_le_sum nx j hn
  have hs0 := sumI_nonneg nx hn
  generalize x * y = m at hxy hs ⊢
  generalize x * sumI b = u at hxb hs ⊢
  generalize nx.getD j 0 = g at hg ⊢
  rw [w64 (x := m) (by omega) (by omega), w64 (by omega) (by omega)]
  omega
theorem impl_o2 (t cur : List Int) (i m c n : Int) (x : Int) (hx : 0 ≤ x) (v : List Int) (ii : Nat) (hi : i = (ii : Int)) (hi2 : ii ≤ 1000) : ∀ (b q nx : List Int), (q ++ b).length ≤ 1000 → (∀ y ∈ b, 0 ≤ y) → (∀ y ∈ nx, 0 ≤ y) → ii + (q ++ b).length ≤ nx.length → sumI nx + x * sumI b ≤ 9022419900000 →
    Ev (fun k => impl_odds.l1 k t (inner x b (ii + q.length) nx) m n cur c (wrap64 (i + 1))) v →
    Ev (fun k => impl_odds.l2 k t nx i x m n cur c i (q ++ b) ((q ++ b).length : Int) (q.length : Int)) v := by
  intro b
  induction b with
  | nil =>
    intro q nx hl hb hn hlen hs h
    exact Ev.step (fun k => rfl) (Ev.neg (len_end q) h)
  | cons y b ih =>
    intro q nx hl hb hn hlen hs h
    have hl' := hl
    rw [List.length_append, List.length_cons] at hl' hlen
    have hy := hb y (by simp)
    have hb' := fun z hz => hb z (List.mem_cons_of_mem y hz)
    obtain ⟨rb1, rb2, rb3⟩ := row_bounds x y b nx (ii + q.length) hx hy hb' hn hs
    clear hs
    have hw : wrap64 (i + (q.length : Int)) = ((ii + q.length : Nat) : Int) := by first | exact w64nn (by omega) | (rw [hi]; exact w64nn (by omega))
    refine Ev.step (fun k => rfl) (Ev.pos (len_lt q y b) (Ev.pos (by omega) (Ev.pos (len_lt q y b) ?_)))
    rw [hw, rd_mid, rd_nat, Int.toNat_natCast]
    clear hw
    refine Ev.pos (by omega) (Ev.pos (by omega) ?_)
    rw [rb1, w64 (x := (q.length : Int) + 1) (by omega) (by omega), ← len_snoc q y, snoc q y b]
    refine ih (q ++ [y]) _ (by rw [← snoc]; exact hl) hb' (set_nonneg nx _ _ hn rb2) (by simp; omega) (by rw [sumI_set _ _ _ (by omega)]; exact rb3) ?_
    rw [inner] at h
    rw [List.length_append, List.length_singleton]
    exact h
theorem impl_o1 (t : List Int) (ht1 : 1 ≤ t.length) (ht : t.length ≤ 100) (htn : ∀ y ∈ t, 0 ≤ y) (m n : Int) (v : List Int) : ∀ (a p nx : List Int), (p ++ a).length ≤ 1000 → (∀ y ∈ a, 0 ≤ y) → (∀ y ∈ nx, 0 ≤ y) → p.length + a.length + t.length ≤ nx.length + 1 → sumI nx + sumI a * sumI t ≤ 9022419900000 →
    Ev (fun k => impl_odds.l0 k t (outer t a p.length nx) m (wrap64 (n + 1))) v →
    Ev (fun k => impl_odds.l1 k t nx m n (p ++ a) ((p ++ a).length : Int) (p.length : Int)) v := by
  intro a
  induction a with
  | nil =>
    intro p nx hl ha hn hlen hs h
    exact Ev.step (fun k => rfl) (Ev.neg (len_end p) h)
  | cons x a ih =>
    intro p nx hl ha hn hlen hs h
    have hl' := hl
    rw [List.length_append, List.length_cons] at hl'
    rw [List.length_cons] at hlen
    have hx := ha x (by simp)
    have ha' := fun z hz => ha z (List.mem_cons_of_mem x hz)
    have hT := sumI_nonneg t htn
    have h1 := Int.mul_nonneg (sumI_nonneg a ha') hT
    rw [sumI, Int.add_mul] at hs
    refine Ev.step (fun k => rfl) (Ev.pos (len_lt p x a) (Ev.pos (by omega) (Ev.pos (len_lt p x a) ?_)))
    rw [rd_mid]
    refine impl_o2 t (p ++ x :: a) (p.length : Int) m _ n x hx v p.length rfl (by omega) t [] nx (by simp; omega) htn hn (by simp; omega) (by omega) ?_
    rw [w64 (x := (p.length : Int) + 1) (by omega) (by omega), ← len_snoc p x, List.length_nil, Nat.add_zero, snoc p x a]
    refine ih (p ++ [x]) _ (by rw [← snoc]; exact hl) ha' (inner_nonneg x hx t _ nx htn hn) (by rw [inner_length]; simp; omega) (by rw [inner_sum _ _ _ _ (by omega)]; omega) ?_
    rw [outer] at h
    rw [List.length_append, List.length_singleton]
    exact h
theorem odds_grow (t cur : List Int) (d : Nat) (hd : d + 1 ≤ 5) (hT : sumI t ≤ 390) (hT0 : 0 ≤ sumI t) (hc0 : 0 ≤ sumI cur) (hs : sumI cur ≤ pw 390 d) : sumI cur * sumI t ≤ pw 390 (d + 1) ∧ sumI cur * sumI t ≤ 9022419900000 := by
  have hp : sumI cur * sumI t ≤ pw 390 (d + 1) := by
    rw [pw, Int.mul_comm]
    exact Int.mul_le_mul hT hs hc0 (by omega)
  exact ⟨hp, Int.le_trans hp (pw390 (d + 1) hd)⟩
theorem impl_o0 (t : List Int) (ht1 : 1 ≤ t.length) (ht : t.length ≤ 13) (htn : ∀ y ∈ t, 0 ≤ y) (hT : sumI t ≤ 390) : ∀ (r d : Nat) (cur : List Int), d + r ≤ 5 → 1 ≤ cur.length → cur.length ≤ 1 + 13 * d → (∀ y ∈ cur, 0 ≤ y) → sumI cur ≤ pw 390 d →
    Ev (fun k => impl_odds.l0 k t cur ((d + r : Nat) : Int) (d : Int)) (timesO t r cur) := by
  intro r
  induction r with
  | zero => intro d cur h5 hc hc2 hcn hs; exact Ev.step (fun k => rfl) (Ev.neg (show ¬ (d : Int) < ((d + 0 : Nat) : Int) by omega) (Ev.some' rfl))
  | succ r ih =>
    intro d cur h5 hc hc2 hcn hs
    obtain ⟨s1, s2, -, s4⟩ := stepO_facts t cur ht1 hc htn hcn
    have hT0 := sumI_nonneg t htn
    have hq := (odds_grow t cur d (by omega) hT hT0 (sumI_nonneg cur hcn) hs).2
    obtain ⟨N, hN⟩ : ∃ N, cur.length + t.length - 1 = N := ⟨_, rfl⟩
    have hz : wrap64 (wrap64 ((cur.length : Int) + (t.length : Int)) - 1) = (N : Int) := by rw [lenstep ht1 (by omega), hN]
    refine Ev.step (fun k => rfl) (Ev.pos (show (d : Int) < ((d + (r + 1) : Nat) : Int) by omega) ?_)
    rw [hz, Int.toNat_natCast]
    clear hz
    have hN2 : N ≤ 35184372088832 := by omega
    have hN3 : (0 : Int) ≤ (N : Int) := Int.natCast_nonneg N
    refine Ev.pos hN3 (Ev.pos hN2 ?_)
    refine impl_o1 t ht1 (by omega) htn _ _ _ cur [] (List.replicate N 0) (by simp; omega) hcn (by intro y hy; rw [List.eq_of_mem_replicate hy]; omega) (by simp; omega) (by rw [sum_zeros]; omega) ?_
    rw [w64n (by omega), show d + (r + 1) = d + 1 + r by omega]
    rw [show outer t cur ([] : List Int).length (List.replicate N 0) = stepO t cur by rw [stepO, hN]; rfl]
    exact ih (d + 1) (stepO t cur) (by omega) (by omega) (by omega) s4 (by rw [s2]; exact (odds_grow t cur d (by omega) hT hT0 (sumI_nonneg cur hcn) hs).1)
theorem impl_odds_ev (t : List Int) (a : Int) (h : tableB t a = true) : Ev (fun k => impl_odds.f k t a) (timesO t a.toNat [1]) := by
  obtain ⟨h1, h2, h3⟩ := (tableB_iff t a).1 h
  obtain ⟨n1, n2, n3⟩ := table_sum h
  have := impl_o0 t h1.1 h1.2 n1 n3 a.toNat 0 [1] (by omega) (by simp) (by simp) (by simp) (by simp [sumI, pw])
  rw [Nat.zero_add, Int.toNat_of_nonneg (by omega)] at this
  exact this
theorem impl_areOdds_ev (t : List Int) (a : Int) : impl_areOdds.f t a = some (tableB t a) := by
  unfold impl_areOdds.f impl_areFrom.f tableB
  rw [within_ev, within_ev]
  simp only [Option.bind_some]
  by_cases c1 : 1 ≤ (t.length : Int) ∧ (t.length : Int) ≤ 13
  · rw [if_pos (by simpa using c1)]
    cases c2 : (t.all fun n => decide (0 ≤ n ∧ n ≤ 30)) with
    | true => rw [if_pos rfl]; simp; omega
    | false => rw [if_neg (by simp)]; simp
  · rw [if_neg (by simpa using c1)]
    have : decide (1 ≤ t.length ∧ t.length ≤ 13) = false := by simp; omega
    simp [this]
def oddsV (t : List Int) (a : Int) : List Int × Int := if 4096 < t.length then ([], 2) else if tableB t a = true then (timesO t a.toNat [1], 0) else ([], 1)
theorem oddsV_length (t : List Int) (a : Int) : (oddsV t a).1.length ≤ 100 := by
  unfold oddsV
  split
  · simp
  · split
    · rename_i h
      obtain ⟨h1, h2, h3⟩ := (tableB_iff t a).1 h
      have := (timesO_facts t h1.1 (table_sum h).1 a.toNat [1] (by simp) (by simp)).1
      have h5 : a.toNat * t.length ≤ 5 * 13 := Nat.mul_le_mul (by omega) h1.2
      simp at this
      simp only; omega
    · simp
theorem implOdds_ev (t : List Int) (a : Int) : Ev (fun k => impl_Odds.f k t a) (oddsV t a) := by
  unfold impl_Odds.f impl_isList_int.f oddsV
  refine Ev.ret rfl ?_
  by_cases c1 : 4096 < t.length
  · rw [if_pos c1]; exact Ev.neg (by simp; omega) (Ev.some' rfl)
  rw [if_neg c1]
  refine Ev.pos (by simp; omega) (Ev.ret (impl_areOdds_ev t a) ?_)
  by_cases c2 : tableB t a = true
  · rw [if_pos c2]
    exact Ev.pos c2 (Ev.bind (impl_odds_ev t a c2) (Ev.some' rfl))
  · rw [if_neg c2]
    exact Ev.neg c2 (Ev.some' rfl)
theorem sumOf_l0 : ∀ (a p : List Int) (s : Int), (p ++ a).length < 1000000 → (∀ x ∈ a, 0 ≤ x) → 0 ≤ s → s + sumI a ≤ 9022419900000 → Ev (fun k => impl_sumOf.l0 k s (p ++ a) ((p ++ a).length : Int) (p.length : Int)) (s + sumI a) := by
  intro a
  induction a with
  | nil => intro p s hl ha h0 h1; exact Ev.step (fun k => rfl) (Ev.neg (len_end p) (Ev.some' (by simp [sumI])))
  | cons x a ih =>
    intro p s hl ha h0 h1
    have hl' := hl
    rw [List.length_append, List.length_cons] at hl'
    have hx := ha x (by simp)
    have ha' := fun y hy => ha y (List.mem_cons_of_mem x hy)
    have hs := sumI_nonneg a ha'
    rw [sumI] at h1 ⊢
    refine Ev.step (fun k => rfl) (Ev.pos (len_lt p x a) (Ev.pos (by omega) (Ev.pos (len_lt p x a) ?_)))
    rw [rd_mid, w64 (by omega) (by omega), w64 (by omega) (by omega), ← len_snoc p x, snoc p x a]
    exact Ev.eq (ih (p ++ [x]) (s + x) (by rw [← snoc]; exact hl) ha' (by omega) (by omega)) (by omega)
theorem sumOf_ev (l : List Int) (hl : l.length < 1000000) (hn : ∀ x ∈ l, 0 ≤ x) (hs : sumI l ≤ 9022419900000) : Ev (fun k => impl_sumOf.f k l) (sumI l) :=
  Ev.eq (sumOf_l0 l [] 0 hl hn (by omega) (by omega)) (by omega)
/-- The level: how far the running sum is short of the share asked. -/
def levV (num den total : Int) : List Int → Int → Int → Int
  | [], _, i => i
  | x :: r, acc, i => if acc * den < num * total then levV num den total r (acc + x) (i + 1) else i
theorem prod_bounds {num den T a : Int} (hd : 1 ≤ den ∧ den ≤ 1000) (hn : 1 ≤ num ∧ num ≤ den) (ha : 0 ≤ a ∧ a ≤ 9022419900000) (hT : 0 ≤ T ∧ T ≤ 9022419900000) : 0 ≤ a * den ∧ a * den ≤ 9022419900000000 ∧ 0 ≤ num * T ∧ num * T ≤ 9022419900000000 ∧ num * T ≤ T * den := by
  have h1 := Int.mul_nonneg ha.1 (show 0 ≤ den by omega)
  have h2 : a * den ≤ 9022419900000 * 1000 := Int.mul_le_mul ha.2 hd.2 (by omega) (by omega)
  have h3 := Int.mul_nonneg (show 0 ≤ num by omega) hT.1
  have h4 : num * T ≤ 1000 * 9022419900000 := Int.mul_le_mul (by omega) hT.2 (by omega) (by omega)
  have h5 := Int.mul_le_mul_of_nonneg_right hn.2 hT.1
  rw [Int.mul_comm den T] at h5
  exact ⟨h1, h2, h3, h4, h5⟩
theorem impl_lev (num den T : Int) (hd : 1 ≤ den ∧ den ≤ 1000) (hn : 1 ≤ num ∧ num ≤ den) (hT : T ≤ 9022419900000) : ∀ (r p : List Int) (acc i : Int), (p ++ r).length < 1000000 → (∀ x ∈ r, 0 ≤ x) → 0 ≤ acc → acc + sumI r = T → i + 1 = (p.length : Int) →
    Ev (fun k => impl_SafeLevel.l0 k num den (p ++ r) T acc i) (levV num den T r acc i, 0) := by
  intro r
  induction r with
  | nil =>
    intro p acc i hl hr h0 hs hi
    rw [sumI] at hs
    have hp := prod_bounds (T := T) (a := acc) hd hn (by omega) (by omega)
    obtain rfl : acc = T := by omega
    refine Ev.up1 ?_
    simp only [impl_SafeLevel.l0]
    rw [w64 (x := acc * den) (by omega) (by omega), w64 (x := num * acc) (by omega) (by omega)]
    exact Ev.neg (by omega) (Ev.some' rfl)
  | cons x r ih =>
    intro p acc i hl hr h0 hs hi
    have hl' := hl
    rw [List.length_append, List.length_cons] at hl'
    have hx := hr x (by simp)
    have hr' := fun y hy => hr y (List.mem_cons_of_mem x hy)
    have hss := sumI_nonneg r hr'
    rw [sumI] at hs
    have hp := prod_bounds (T := T) (a := acc) hd hn (by omega) (by omega)
    refine Ev.up1 ?_
    simp only [impl_SafeLevel.l0]
    rw [w64 (x := acc * den) (by omega) (by omega), w64 (x := num * T) (by omega) (by omega), w64 (x := i + 1) (by omega) (by omega), hi, levV]
    by_cases c : acc * den < num * T
    · rw [if_pos c]
      refine Ev.pos c (Ev.pos (by omega) (Ev.pos (len_lt p x r) ?_))
      rw [rd_mid, w64 (x := acc + x) (by omega) (by omega), ← hi, snoc p x r]
      exact ih (p ++ [x]) (acc + x) (i + 1) (by rw [← snoc]; exact hl) hr' (by omega) (by omega) (by rw [len_snoc]; omega)
    · rw [if_neg c]
      exact Ev.neg c (Ev.some' rfl)
theorem odds_facts {t : List Int} {a : Int} (h : tableB t a = true) : 1 ≤ (timesO t a.toNat [1]).length ∧ (timesO t a.toNat [1]).length ≤ 100 ∧ (∀ x ∈ timesO t a.toNat [1], 0 ≤ x) ∧ 0 ≤ sumI (timesO t a.toNat [1]) ∧ sumI (timesO t a.toNat [1]) ≤ 9022419900000 := by
  obtain ⟨h1, h2, h3⟩ := (tableB_iff t a).1 h
  obtain ⟨n1, n2, n3⟩ := table_sum h
  obtain ⟨f1, f2, -, f4⟩ := timesO_facts t h1.1 n1 a.toNat [1] (by simp) (by simp)
  have h5 : a.toNat * t.length ≤ 5 * 13 := Nat.mul_le_mul (by omega) h1.2
  have h6 : a.toNat * 1 ≤ a.toNat * t.length := Nat.mul_le_mul_left _ h1.1
  have h7 := Int.le_trans (pw_le (sumI t) 390 n2 n3 a.toNat) (pw390 a.toNat (by omega))
  simp at f1
  refine ⟨by omega, by omega, f4, sumI_nonneg _ f4, ?_⟩
  rw [f2]
  simpa [sumI] using h7
/-- What SafeLevel answers. -/
def safeV (t : List Int) (a num den : Int) : Int × Int :=
  if 4096 < t.length then (0, 2) else if tableB t a = true ∧ (1 ≤ den ∧ den ≤ 1000) ∧ (1 ≤ num ∧ num ≤ den) then (if sumI (timesO t a.toNat [1]) = 0 then (0, 10) else (levV num den (sumI (timesO t a.toNat [1])) (timesO t a.toNat [1]) 0 (-1), 0)) else (0, 1)
theorem implSafe_ev (t : List Int) (a num den : Int) : Ev (fun k => impl_SafeLevel.f k t a num den) (safeV t a num den) := by
  unfold impl_SafeLevel.f impl_isList_int.f safeV
  refine Ev.ret rfl ?_
  by_cases c1 : 4096 < t.length
  · rw [if_pos c1]; exact Ev.neg (by simp; omega) (Ev.some' rfl)
  rw [if_neg c1]
  refine Ev.pos (by simp; omega) (Ev.ret (impl_areOdds_ev t a) ?_)
  by_cases c2 : tableB t a = true
  · refine Ev.pos c2 (Ev.ret (within_ev _ _ _) ?_)
    by_cases c3 : 1 ≤ den ∧ den ≤ 1000
    · refine Ev.pos (by simpa using c3) (Ev.ret (within_ev _ _ _) ?_)
      by_cases c4 : 1 ≤ num ∧ num ≤ den
      · rw [if_pos ⟨c2, c3, c4⟩]
        obtain ⟨o1, o2, o3, o4, o5⟩ := odds_facts c2
        refine Ev.pos (by simpa using c4) (Ev.bind (impl_odds_ev t a c2) (Ev.bind (sumOf_ev _ (by omega) o3 o5) ?_))
        generalize hT : sumI (timesO t a.toNat [1]) = T at o4 o5 ⊢
        generalize timesO t a.toNat [1] = l at *
        by_cases c5 : T = 0
        · rw [if_pos c5]
          exact Ev.pos c5 (Ev.some' rfl)
        · rw [if_neg c5]
          refine Ev.neg c5 (Ev.pos (by omega) ?_)
          cases l with
          | nil => simp at o1
          | cons x r =>
            have hr' := fun y hy => o3 y (List.mem_cons_of_mem x hy)
            have hss := sumI_nonneg r hr'
            have hx := o3 x (by simp)
            rw [sumI] at hT
            have hp := Int.mul_pos (show 0 < num by omega) (show 0 < T by omega)
            rw [show rd (x :: r) 0 = x from rfl, Int.zero_add, w64 (x := x) (by omega) (by omega), levV, if_pos (by omega), Int.zero_add]
            exact impl_lev num den T c3 c4 o5 r [x] x 0 (by simp at o2; simp; omega) hr' hx hT (by simp)
      · rw [if_neg (fun h => c4 h.2.2)]
        exact Ev.neg (by simpa using c4) (Ev.some' rfl)
    · rw [if_neg (fun h => c3 h.2.1)]
      exact Ev.neg (by simpa using c3) (Ev.some' rfl)
  · rw [if_neg (fun h => c2 h.1)]
    exact Ev.neg c2 (Ev.some' rfl)
theorem lawSum_l0 : ∀ (a p : List Int) (s : Int), (p ++ a).length < 1000000 → (∀ x ∈ a, 0 ≤ x) → 0 ≤ s → s + sumI a ≤ 9022419900000 → Ev (fun k => laws_sum.l0 k (p ++ a) s (p.length : Int)) (s + sumI a) := by
  intro a
  induction a with
  | nil => intro p s hl ha h0 h1; exact Ev.step (fun k => rfl) (Ev.neg (len_end p) (Ev.some' (by simp [sumI])))
  | cons x a ih =>
    intro p s hl ha h0 h1
    have hl' := hl
    rw [List.length_append, List.length_cons] at hl'
    have hx := ha x (by simp)
    have ha' := fun y hy => ha y (List.mem_cons_of_mem x hy)
    have hs := sumI_nonneg a ha'
    rw [sumI] at h1 ⊢
    refine Ev.step (fun k => rfl) (Ev.pos (len_lt p x a) (Ev.pos (by omega) ?_))
    rw [rd_mid, w64 (by omega) (by omega), w64 (by omega) (by omega), ← len_snoc p x, snoc p x a]
    exact Ev.eq (ih (p ++ [x]) (s + x) (by rw [← snoc]; exact hl) ha' (by omega) (by omega)) (by omega)
theorem lawSum_ev (l : List Int) (hl : l.length < 1000000) (hn : ∀ x ∈ l, 0 ≤ x) (hs : sumI l ≤ 9022419900000) : Ev (fun k => laws_sum.f k l) (sumI l) :=
  Ev.eq (lawSum_l0 l [] 0 hl hn (by omega) (by omega)) (by omega)
theorem sum_take : ∀ (l : List Int) (n : Nat), (∀ x ∈ l, 0 ≤ x) → 0 ≤ sumI (l.take n) ∧ sumI (l.take n) ≤ sumI l := by
  intro l
  induction l with
  | nil => intro n h; simp [sumI]
  | cons x l ih =>
    intro n h
    have h1 := h x (by simp)
    have h2 := fun y hy => h y (List.mem_cons_of_mem x hy)
    have h3 := sumI_nonneg l h2
    cases n with
    | zero => simp only [List.take_zero, sumI]; omega
    | succ n =>
      have := ih n h2
      simp only [List.take_succ_cons, sumI]; omega
theorem TableOf_l0 (c : List Int) : ∀ (n : Nat) (acc : List Int) (a s N : Int), Srd c a s N → N + 3 * n ≤ 1000000 → acc.length + n ≤ 13 → 1 ≤ acc.length → (∀ x ∈ acc, 0 ≤ x ∧ x ≤ 30) →
    ∃ L o p m, Ev (fun k => spec_TableOf.l0 k acc (n : Int) c a s) (L, o, p, m) ∧ 1 ≤ L.length ∧ L.length ≤ 13 ∧ (∀ x ∈ L, 0 ≤ x ∧ x ≤ 30) ∧ 1 ≤ sumI acc ∧ sumI acc ≤ sumI L ∧ 1 ≤ p ∧ p ≤ m ∧ 1 ≤ m ∧ m ≤ 1000 ∧ 1 ≤ o ∧ o ≤ 5 ∨ sumI acc < 1 := by
  intro n
  induction n with
  | zero =>
    intro acc a s N hS hN hl hl1 hx
    obtain ⟨v, a1, s1, e1, l1, u1, S1⟩ := next_ok 100 hS (by omega) (by omega) (by omega)
    obtain ⟨y, a3, s3, e3, l3, u3, S3⟩ := next_ok 4 S1 (by omega) (by omega) (by omega)
    have h1 : wrap64 (1 + v) = 1 + v := w64 (by omega) (by omega)
    have h2 : wrap64 (1 + y) = 1 + y := w64 (by omega) (by omega)
    obtain ⟨w, a2, s2, e2, l2, u2, S2⟩ := next_ok (1 + v) S3 (by omega) (by omega) (by omega)
    have h3 : wrap64 (1 + w) = 1 + w := w64 (by omega) (by omega)
    refine ⟨acc, 1 + y, 1 + w, 1 + v, ?_⟩
    by_cases hs : sumI acc < 1
    · exact .inr hs
    refine .inl ⟨Ev.via (f := fun _ => (spec_l00Src_next.f c a s 100).bind fun bt138 => ((spec_l00Src_next.f c bt138.2.1 bt138.2.2 4).bind fun bt141 => ((spec_l00Src_next.f c bt141.2.1 bt141.2.2 (wrap64 (1 + bt138.1))).bind fun bt144 => (some (acc, wrap64 (1 + bt141.1), wrap64 (1 + bt144.1), wrap64 (1 + bt138.1)))))) ?_ (fun k => rfl), by omega, by omega, hx, by omega, by omega, by omega, by omega, by omega, by omega, by omega, by omega⟩
    refine Ev.ret e1 (Ev.ret e3 ?_)
    simp only [h1, h2]
    refine Ev.ret e2 (Ev.some' ?_)
    simp only [h3]
  | succ n ih =>
    intro acc a s N hS hN hl hl1 hx
    obtain ⟨v, a1, s1, e1, l1, u1, S1⟩ := next_ok 9 hS (by omega) (by omega) (by omega)
    have hsa : sumI (acc ++ [v]) = sumI acc + v := by
      clear ih hx hl hl1
      induction acc with
      | nil => simp [sumI]
      | cons x acc ih => simp only [List.cons_append, sumI, ih]; omega
    obtain ⟨L, o, p, m, h⟩ := ih (acc ++ [v]) a1 s1 _ S1 (by omega) (by simp; omega) (by simp) (by
      intro x h
      rcases List.mem_append.1 h with h | h
      · exact hx x h
      · rw [List.mem_singleton.1 h]; omega)
    refine ⟨L, o, p, m, ?_⟩
    rcases h with ⟨h1, h2, h3, h4, h5, h6, h7⟩ | h
    · by_cases hs : sumI acc < 1
      · exact .inr hs
      refine .inl ⟨Ev.step (fun k => rfl) (Ev.pos (show ((n + 1 : Nat) : Int) > 0 by omega) (Ev.ret e1 (Ev.pos (by omega) ?_))), h2, h3, h4, by omega, by omega, h7⟩
      rw [w64 (by omega) (by omega), show ((n + 1 : Nat) : Int) - 1 = (n : Int) by omega]
      exact h1
    · exact .inr (by omega)
theorem TableOf_ok (l : List Int) (h : ∀ x ∈ l, (Lit.int .u8 x).wf = true) (hl : l.length ≤ 1048576) :
    ∃ L o p m, Ev (fun k => spec_TableOf.f k l) (L, o, p, m) ∧ tableB L o = true ∧ 1 ≤ sumI L ∧ (1 ≤ m ∧ m ≤ 1000) ∧ (1 ≤ p ∧ p ≤ m) := by
  obtain ⟨s, hs, S0⟩ := source_ok l h
  obtain ⟨v, a1, s1, e1, l1, u1, S1⟩ := next_ok 9 S0 (by omega) (by omega) (by omega)
  obtain ⟨z, e0, z0, z1⟩ := size_ok (c := l) a1 s1 6 hl (by omega)
  have hz : wrap64 (z + 1) = z + 1 := w64 (by omega) (by omega)
  have hv : wrap64 (1 + v) = 1 + v := w64 (by omega) (by omega)
  obtain ⟨w, a2, s2, e2, l2, u2, S2⟩ := next_ok (z + 1) S1 (by omega) (by omega) (by omega)
  obtain ⟨L, o, p, m, h1⟩ := TableOf_l0 l w.toNat [1 + v] a2 s2 _ S2 (by omega) (by simp; omega) (by simp) (by intro x h; rw [List.mem_singleton.1 h]; omega)
  rw [Int.toNat_of_nonneg l2] at h1
  have hsum : sumI [1 + v] = 1 + v := by simp [sumI]
  rcases h1 with ⟨h1, h2, h3, h4, h5, h6, h7⟩ | h1
  · refine ⟨L, o, p, m, ?_, (tableB_iff L o).2 ⟨⟨h2, h3⟩, h4, by omega, by omega⟩, by omega, by omega, by omega⟩
    unfold spec_TableOf.f
    refine Ev.ret hs (Ev.ret e1 (Ev.ret e0 ?_))
    simp only [hz, hv]
    exact Ev.ret e2 h1
  · omega
theorem wsI_bound : ∀ (l : List Int) (k M : Int), (∀ x ∈ l, 0 ≤ x) → 0 ≤ k → k + l.length ≤ M → 0 ≤ wsI k l ∧ wsI k l ≤ M * sumI l := by
  intro l
  induction l with
  | nil => intro k M h h0 h1; simp [wsI, sumI]
  | cons x l ih =>
    intro k M h h0 h1
    rw [List.length_cons] at h1
    have hx := h x (by simp)
    have h2 := ih (k + 1) M (fun y hy => h y (List.mem_cons_of_mem x hy)) (by omega) (by omega)
    have h3 := Int.mul_nonneg h0 hx
    have h4 := Int.mul_le_mul_of_nonneg_right (show k ≤ M by omega) hx
    rw [wsI, sumI, Int.mul_add]
    omega
theorem law_pow (t v : List Int) (a p m T : Int) (hT : 0 ≤ T ∧ T ≤ 390) (r : Bool) (N : Nat) (ha : a = (N : Int)) (hN : N ≤ 5)
    (hend : Ev (fun k => laws_FnOdds.l1 k t a p m v T (pw T N) 0 0) r) : ∀ (d i : Nat), i + d = N → Ev (fun k => laws_FnOdds.l0 k t a p m v T (pw T i) (i : Int)) r := by
  intro d
  induction d with
  | zero =>
    intro i hi
    obtain rfl : i = N := by omega
    exact Ev.step (fun k => rfl) (Ev.neg (show ¬ (i : Int) < a by omega) hend)
  | succ d ih =>
    intro i hi
    have h1 := Int.le_trans (pw_le T 390 hT.1 hT.2 (i + 1)) (pw390 (i + 1) (by omega))
    have h2 := pw_nonneg T hT.1 (i + 1)
    have h3 : pw T i * T = pw T (i + 1) := Int.mul_comm _ _
    refine Ev.step (fun k => rfl) (Ev.pos (show (i : Int) < a by omega) ?_)
    rw [h3, w64n (by omega), w64 (by omega) (by omega)]
    exact ih (i + 1) (by omega)
theorem law_mean (v : List Int) (a p m T X : Int) (r : Bool) : ∀ (b q : List Int) (acc : Int), (q ++ b).length < 1000000 → (∀ x ∈ b, 0 ≤ x) → 0 ≤ acc → acc + wsI q.length b ≤ 1000000000000000 →
    Ev (fun k => laws_FnOdds.l2 k (q ++ b) a p m v T X (acc + wsI q.length b) 0 0) r →
    Ev (fun k => laws_FnOdds.l1 k (q ++ b) a p m v T X acc (q.length : Int)) r := by
  intro b
  induction b with
  | nil =>
    intro q acc hl hb h0 h1 h
    simp only [wsI, Int.add_zero] at h
    exact Ev.step (fun k => rfl) (Ev.neg (len_end q) h)
  | cons y b ih =>
    intro q acc hl hb h0 h1 h
    have hl' := hl
    rw [List.length_append, List.length_cons] at hl'
    have hy := Int.mul_nonneg (show (0 : Int) ≤ (q.length : Int) by omega) (hb y (by simp))
    have hb' := fun z hz => hb z (List.mem_cons_of_mem y hz)
    have hws := (wsI_bound b ((q.length : Int) + 1) ((q.length : Int) + 1 + b.length) hb' (by omega) (by omega)).1
    rw [wsI] at h1 h
    refine Ev.step (fun k => rfl) (Ev.pos (len_lt q y b) (Ev.pos (by omega) ?_))
    rw [rd_mid, w64 (x := (q.length : Int) * y) (by omega) (by omega), w64 (x := acc + (q.length : Int) * y) (by omega) (by omega), w64 (by omega) (by omega), ← len_snoc q y, snoc q y b]
    refine ih (q ++ [y]) _ (by rw [← snoc]; exact hl) hb' (by omega) (by rw [len_snoc]; omega) ?_
    rw [← snoc, len_snoc, Int.add_assoc]
    exact h
theorem law_wsum (t : List Int) (a p m T X W : Int) (r : Bool) : ∀ (b q : List Int) (acc : Int), (q ++ b).length < 1000000 → (∀ x ∈ b, 0 ≤ x) → 0 ≤ acc → acc + wsI q.length b ≤ 1000000000000000 →
    Ev (fun k => (laws_sum.f k (q ++ b)).bind fun t191 => (if t191 = X then (laws_FnOdds.j4 k t a p m (q ++ b) X ((wrap64 ((acc + wsI q.length b) * T)) != (wrap64 ((wrap64 (a * W)) * X)))) else (laws_FnOdds.j4 k t a p m (q ++ b) X true))) r →
    Ev (fun k => laws_FnOdds.l2 k t a p m (q ++ b) T X W acc (q.length : Int)) r := by
  intro b
  induction b with
  | nil =>
    intro q acc hl hb h0 h1 h
    simp only [wsI, Int.add_zero] at h
    exact Ev.step (fun k => rfl) (Ev.neg (len_end q) h)
  | cons y b ih =>
    intro q acc hl hb h0 h1 h
    have hl' := hl
    rw [List.length_append, List.length_cons] at hl'
    have hy0 := hb y (by simp)
    have hy := Int.mul_nonneg (show (0 : Int) ≤ (q.length : Int) by omega) hy0
    have hb' := fun z hz => hb z (List.mem_cons_of_mem y hz)
    have hws := (wsI_bound b ((q.length : Int) + 1) ((q.length : Int) + 1 + b.length) hb' (by omega) (by omega)).1
    rw [wsI] at h1 h
    refine Ev.step (fun k => rfl) (Ev.pos (len_lt q y b) (Ev.pos (by omega) ?_))
    rw [rd_mid]
    refine Ev.neg (by omega) ?_
    rw [w64 (x := (q.length : Int) * y) (by omega) (by omega), w64 (x := acc + (q.length : Int) * y) (by omega) (by omega), w64 (by omega) (by omega), ← len_snoc q y, snoc q y b]
    refine ih (q ++ [y]) _ (by rw [← snoc]; exact hl) hb' (by omega) (by rw [len_snoc]; omega) ?_
    rw [← snoc, len_snoc, Int.add_assoc]
    exact h
theorem lev_facts (num den T : Int) (hT : num * T ≤ T * den) : ∀ (r : List Int) (acc i : Int), acc + sumI r = T →
    ∃ j : Nat, j ≤ r.length ∧ levV num den T r acc i = i + j ∧ num * T ≤ (acc + sumI (r.take j)) * den ∧ (0 < j → (acc + sumI (r.take (j - 1))) * den < num * T) := by
  intro r
  induction r with
  | nil =>
    intro acc i h
    rw [sumI, Int.add_zero] at h
    subst h
    exact ⟨0, by simp, by simp [levV], by simpa [sumI] using hT, by omega⟩
  | cons x r ih =>
    intro acc i h
    rw [sumI] at h
    rw [levV]
    by_cases c : acc * den < num * T
    · obtain ⟨j, h1, h2, h3, h4⟩ := ih (acc + x) (i + 1) (by omega)
      rw [if_pos c]
      refine ⟨j + 1, by simp; omega, by rw [h2]; omega, ?_, fun _ => ?_⟩
      · rw [List.take_succ_cons, sumI, ← Int.add_assoc]; exact h3
      · rw [Nat.add_sub_cancel]
        cases j with
        | zero => simpa [sumI] using c
        | succ j =>
          have := h4 (by omega)
          rw [List.take_succ_cons, sumI, ← Int.add_assoc]
          exact this
    · rw [if_neg c]
      refine ⟨0, by omega, by omega, ?_, by omega⟩
      simp only [List.take_zero, sumI, Int.add_zero]
      omega
theorem law_tail (t v : List Int) (a num den T : Int) (hd : 1 ≤ den ∧ den ≤ 1000) (hn : 1 ≤ num ∧ num ≤ den) (hT : 1 ≤ T ∧ T ≤ 9022419900000) (hv : ∀ x ∈ v, 0 ≤ x) (hl : v.length < 1000000) (hs : sumI v = T)
    (hsafe : Ev (fun k => impl_SafeLevel.f k t a num den) (levV num den T v 0 (-1), 0)) : Ev (fun k => laws_FnOdds.j4 k t a num den v T false) true := by
  have hp := prod_bounds (T := T) (a := T) hd hn (by omega) (by omega)
  have hp1 := Int.mul_pos (show 0 < num by omega) (show 0 < T by omega)
  obtain ⟨j, h1, h2, h3, h4⟩ := lev_facts num den T hp.2.2.2.2 v 0 (-1) (by omega)
  rw [h2] at hsafe
  cases j with
  | zero =>
    simp only [List.take_zero, sumI, Int.add_zero, Int.zero_mul] at h3
    omega
  | succ j =>
    rw [show (-1 : Int) + ((j + 1 : Nat) : Int) = (j : Int) by omega] at hsafe
    have h5 := h4 (by omega)
    rw [Nat.add_sub_cancel] at h5
    rw [Int.zero_add] at h3 h5
    have s1 := sum_take v (j + 1) hv
    have s0 := sum_take v j hv
    have p1 := prod_bounds (T := T) (a := sumI (v.take (j + 1))) hd hn (by omega) (by omega)
    have p0 := prod_bounds (T := T) (a := sumI (v.take j)) hd hn (by omega) (by omega)
    refine Ev.step (fun k => rfl) (Ev.bind hsafe (Ev.pos rfl (Ev.neg (by omega) ?_)))
    rw [show decide (((j : Int), (0 : Int)).1 ≥ (v.length : Int)) = false by simp; omega]
    refine Ev.up1 ?_
    simp only [laws_FnOdds.j5, if_neg ff]
    rw [w64n (by omega), Int.toNat_natCast, Int.toNat_natCast]
    refine Ev.pos (by omega) (Ev.pos (by omega) (Ev.bind (lawSum_ev (v.take (j + 1)) (by simp; omega) (fun x hx => hv x (List.mem_of_mem_take hx)) (by omega)) ?_))
    rw [w64 (x := sumI (v.take (j + 1)) * den) (by omega) (by omega), w64 (x := num * T) (by omega) (by omega)]
    refine Ev.pos (by omega) (Ev.pos (by omega) (Ev.pos (by omega) (Ev.bind (lawSum_ev (v.take j) (by simp; omega) (fun x hx => hv x (List.mem_of_mem_take hx)) (by omega)) (Ev.some' ?_))))
    rw [w64 (x := sumI (v.take j) * den) (by omega) (by omega)]
    exact decide_eq_true h5
theorem FnOdds : laws_FnOdds.Pure := by
  intro l h
  refine Ev.rounds (?_ : Ev (fun k => laws_FnOdds.f k l) true)
  unfold laws_FnOdds.f
  by_cases c1 : (l.length : Int) > 1048576
  · exact Ev.pos c1 (Ev.some' rfl)
  refine Ev.neg c1 ?_
  obtain ⟨t, a, p, m, hd, htab, ht1, hm, hp⟩ := TableOf_ok l h.2 (by omega)
  obtain ⟨b1, b2, b3⟩ := (tableB_iff t a).1 htab
  obtain ⟨n1, n2, n3⟩ := table_sum htab
  obtain ⟨o1, o2, o3, o4, o5⟩ := odds_facts htab
  obtain ⟨f1, f2, f3, f4⟩ := timesO_facts t b1.1 n1 a.toNat [1] (by simp) (by simp)
  have im := implOdds_ev t a
  unfold oddsV at im
  rw [if_neg (by omega), if_pos htab] at im
  have sf := implSafe_ev t a p m
  unfold safeV at sf
  rw [if_neg (by omega), if_pos ⟨htab, hm, hp⟩] at sf
  have hsum : sumI (timesO t a.toNat [1]) = pw (sumI t) a.toNat := by rw [f2]; simp [sumI]
  have hws : wsI 0 (timesO t a.toNat [1]) * sumI t = (a.toNat : Int) * (wsI 0 t * pw (sumI t) a.toNat) := by
    rw [f3]; simp [sumI, wsI]
  have hlen : ((timesO t a.toNat [1]).length : Int) = a * ((t.length : Int) - 1) + 1 := by
    have : a * ((t.length : Int) - 1) = a * (t.length : Int) - a := by rw [Int.mul_sub, Int.mul_one]
    have h2 : ((a.toNat * t.length : Nat) : Int) = a * (t.length : Int) := by rw [Int.natCast_mul, Int.toNat_of_nonneg (by omega)]
    simp only [List.length_singleton] at f1
    omega
  clear f1 f2 f3
  have hpos : 1 ≤ pw (sumI t) a.toNat := by
    generalize a.toNat = n
    induction n with
    | zero => exact Int.le_refl 1
    | succ n ih =>
      have := Int.mul_le_mul ht1 ih (by omega) (by omega)
      rw [pw]; omega
  rw [hsum] at sf o4 o5
  rw [if_neg (by omega)] at sf
  generalize hv : timesO t a.toNat [1] = v at *
  have wb := wsI_bound v 0 100 o3 (by omega) (by omega)
  have wt := wsI_bound t 0 13 n1 (by omega) (by omega)
  rw [hsum] at wb
  have hlw : (wrap64 ((wrap64 (a * (wrap64 ((t.length : Int) - 1)))) + 1)) = (v.length : Int) := by
    have hm0 : 0 ≤ a * ((t.length : Int) - 1) := Int.mul_nonneg (by omega) (by omega)
    rw [hlen, w64 (x := (t.length : Int) - 1) (by omega) (by omega), w64 (x := a * ((t.length : Int) - 1)) (by omega) (by omega), w64 (by omega) (by omega)]
  refine Ev.bind hd (Ev.bind im (Ev.pos rfl ?_))
  simp only [hlw, bne_self_eq_false]
  refine Ev.step (fun k => rfl) (Ev.bind (lawSum_ev t (by omega) n1 (by omega)) ?_)
  refine law_pow t v a p m (sumI t) ⟨n2, n3⟩ true a.toNat (by omega) (by omega) ?_ a.toNat 0 (by omega)
  refine law_mean v a p m (sumI t) _ true t [] 0 (by simp; omega) n1 (by omega) (by simp; omega) ?_
  refine law_wsum _ a p m (sumI t) _ _ true v [] 0 (by simp; omega) o3 (by omega) (by simp; omega) ?_
  refine Ev.bind (lawSum_ev _ (by simp; omega) o3 (by rw [List.nil_append, hsum]; omega)) (Ev.pos (by rw [List.nil_append, hsum]) ?_)
  have haW : wrap64 (a * (0 + wsI ([] : List Int).length t)) = a * wsI 0 t := by
    have h5 : a * wsI 0 t ≤ 5 * (13 * 390) := Int.mul_le_mul b3.2 (by omega) (by omega) (by omega)
    have h6 := Int.mul_nonneg (show 0 ≤ a by omega) wt.1
    rw [Int.zero_add, show ((([] : List Int).length : Nat) : Int) = 0 from rfl, w64 (by omega) (by omega)]
  rw [haW, Int.zero_add, show ((([] : List Int).length : Nat) : Int) = 0 from rfl, hws, Int.toNat_of_nonneg (show 0 ≤ a by omega), Int.mul_assoc, bne_self_eq_false]
  exact law_tail t v a p m _ hm hp ⟨hpos, o5⟩ o3 (by omega) hsum sf

end Go.Proofs.Ytbljkgllicnkkaa.Pure
