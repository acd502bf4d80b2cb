/- Of drawn sales the seasons' shares are right and in lowest terms, as the law says: the law's plain statement, with no condition. -/
import Derived.Test.YtbljkgllicnkkaaXFnSeasonsx4
import Derived.Test.YtbljkgllicnkkaaAx
import Derived.Test.YtbljkgllicnkkaaIdx
namespace Go.Proofs.Ytbljkgllicnkkaa.Pure
open Go.RowKit Go.Proofs.Ytbljkgllicnkkaa.XFnSeasons Go.Proofs.YtbljkgllicnkkaaW.PrintWords Go.Proofs.YtbljkgllicnkkaaW.PrintLast
open Go.Proofs.YtbljkgllicnkkaaW.Ax Go.Proofs.YtbljkgllicnkkaaW.Idx
set_option linter.unusedVariables false
set_option linter.unusedSimpArgs false
/-- A source of draws: its code's bytes, its place (at most N), its seed. -/
def Srd (c : List Int) (a s N : Int) : Prop := (∀ x ∈ c, 0 ≤ x ∧ x ≤ 255) ∧ 0 ≤ a ∧ a ≤ N ∧ 0 ≤ s ∧ s ≤ 2147483647
theorem Srd.mono {c : List Int} {a s N M : Int} (h : Srd c a s N) (hM : N ≤ M) : Srd c a s M := ⟨h.1, h.2.1, by have := h.2.2.1; omega, h.2.2.2⟩
theorem rd_byte {c : List Int} (hc : ∀ x ∈ c, 0 ≤ x ∧ x ≤ 255) (i : Int) : 0 ≤ rd c i ∧ rd c i ≤ 255 := by
  unfold rd
  rw [List.getD_eq_getElem?_getD]
  cases h : c[i.toNat]? with
  | none => simp
  | some x => simpa using hc x (List.mem_of_getElem? h)
theorem byte_ok {c : List Int} {a s N : Int} (h : Srd c a s N) (hN : N ≤ 1000000000) : ∃ v s', spec_l00Src_byte.f c a s = some (v, a + 1, s') ∧ 0 ≤ v ∧ v ≤ 255 ∧ Srd c (a + 1) s' (N + 1) := by
  obtain ⟨hc, h0, h1, h2, h3⟩ := h
  unfold spec_l00Src_byte.f
  rw [w64 (x := a + 1) (by omega) (by omega), w64 (x := a + 1 - 1) (by omega) (by omega), show a + 1 - 1 = a by omega]
  have hb := rd_byte hc a
  generalize rd c a = b at hb
  rw [w64 (x := b) (by omega) (by omega), w64 (x := s * 31) (by omega) (by omega), w64 (x := s * 31 + b) (by omega) (by omega), w64 (x := s * 31 + b + 7) (by omega) (by omega), Int.tmod_eq_emod_of_nonneg (show 0 ≤ s * 31 + b + 7 by omega)]
  rw [w64 (x := s * 1103515245) (by omega) (by omega), w64 (x := s * 1103515245 + 12345) (by omega) (by omega), Int.tmod_eq_emod_of_nonneg (show 0 ≤ s * 1103515245 + 12345 by omega)]
  have e := Int.emod_nonneg (s * 1103515245 + 12345) (show (2147483648 : Int) ≠ 0 by decide)
  have e2 := Int.emod_lt_of_pos (s * 1103515245 + 12345) (show (0 : Int) < 2147483648 by decide)
  have f := Int.emod_nonneg (s * 31 + b + 7) (show (2147483648 : Int) ≠ 0 by decide)
  have f2 := Int.emod_lt_of_pos (s * 31 + b + 7) (show (0 : Int) < 2147483648 by decide)
  generalize (s * 1103515245 + 12345) % 2147483648 = t at e e2 ⊢
  generalize (s * 31 + b + 7) % 2147483648 = u at f f2 ⊢
  by_cases c1 : a + 1 ≤ (c.length : Int)
  · rw [if_pos c1, if_pos h0, if_pos (by omega)]
    exact ⟨_, _, rfl, hb.1, hb.2, hc, by omega, by omega, by omega, by omega⟩
  · rw [if_neg c1]
    by_cases c2 : a + 1 > 3000
    · rw [if_pos c2]
      exact ⟨_, _, rfl, by omega, by omega, hc, by omega, by omega, by omega, by omega⟩
    · rw [if_neg c2, Int.tdiv_eq_ediv_of_nonneg (by omega), w64 (by omega) (by omega), Int.tmod_eq_emod_of_nonneg (by omega)]
      exact ⟨_, _, rfl, by omega, by omega, hc, by omega, by omega, by omega, by omega⟩
theorem next_ok {c : List Int} {a s N : Int} (n : Int) (h : Srd c a s N) (hN : N ≤ 900000000) (h1 : 1 ≤ n) (h2 : n ≤ 16777216) : ∃ v a' s', spec_l00Src_next.f c a s n = some (v, a', s') ∧ 0 ≤ v ∧ v < n ∧ Srd c a' s' (N + 3) := by
  unfold spec_l00Src_next.f
  by_cases c1 : n ≤ 1
  · rw [if_pos c1]
    exact ⟨_, _, _, rfl, by omega, by omega, h.mono (by omega)⟩
  · rw [if_neg c1]
    obtain ⟨v, s1, hv, v0, v1, S1⟩ := byte_ok h (by omega)
    simp only [hv, Option.bind_some]
    have g := Int.emod_nonneg v (show n ≠ 0 by omega)
    have g2 := Int.emod_lt_of_pos v (show 0 < n by omega)
    by_cases c2 : n ≤ 256
    · rw [if_pos c2, if_neg (by omega), Int.tmod_eq_emod_of_nonneg (by omega)]
      exact ⟨_, _, _, rfl, g, g2, S1.mono (by omega)⟩
    · rw [if_neg c2]
      obtain ⟨x, s2, hx, x0, x1, S2⟩ := byte_ok S1 (by omega)
      simp only [hx, Option.bind_some]
      obtain ⟨y, s3, hy, y0, y1, S3⟩ := byte_ok S2 (by omega)
      simp only [hy, Option.bind_some]
      rw [if_neg (by omega)]
      rw [w64 (x := v * 65536) (by omega) (by omega), w64 (x := x * 256) (by omega) (by omega), w64 (x := v * 65536 + x * 256) (by omega) (by omega), w64 (by omega) (by omega), Int.tmod_eq_emod_of_nonneg (by omega)]
      exact ⟨_, _, _, rfl, Int.emod_nonneg _ (by omega), Int.emod_lt_of_pos _ (by omega), S3.mono (by omega)⟩
theorem source_ok (l : List Int) (h : ∀ x ∈ l, (Lit.int .u8 x).wf = true) : ∃ s, spec_l00Source.f l = some (l, 0, s) ∧ Srd l 0 s 0 := by
  refine ⟨_, rfl, fun x hx => bounds_u8 (h x hx), by omega, by omega, ?_, ?_⟩ <;> omega
theorem size_ok {c : List Int} (a s m : Int) (hc : c.length ≤ 1048576) (hm : 1 ≤ m) : ∃ v, spec_l00Src_size.f c a s m = some (v, a, s) ∧ 1 ≤ v ∧ v ≤ m := by
  unfold spec_l00Src_size.f
  rw [w64 (x := (c.length : Int) / 12) (by omega) (by omega), w64 (by omega) (by omega)]
  refine ⟨_, rfl, ?_, ?_⟩ <;> (unfold mn; split <;> omega)
theorem at_ok {c : List Int} (hc : ∀ x ∈ c, 0 ≤ x ∧ x ≤ 255) (i n : Int) (h0 : 0 ≤ i) (h1 : i ≤ 1000000) (hn : 1 ≤ n) : ∃ v, laws_at.f c i n = some v ∧ 0 ≤ v ∧ v < n := by
  unfold laws_at.f
  by_cases c1 : n ≤ 1
  · rw [if_pos c1]
    exact ⟨_, rfl, by omega, by omega⟩
  rw [if_neg c1]
  by_cases c2 : (c.length : Int) = 0
  · rw [if_pos c2, if_neg (by omega), w64 (by omega) (by omega), Int.tmod_eq_emod_of_nonneg (by omega)]
    exact ⟨_, rfl, Int.emod_nonneg _ (by omega), Int.emod_lt_of_pos _ (by omega)⟩
  · rw [if_neg c2]
    have e1 := Int.emod_nonneg i c2
    have e2 := Int.emod_lt_of_pos i (show (0 : Int) < (c.length : Int) by omega)
    have f1 := Int.emod_nonneg (i + 1) c2
    have f2 := Int.emod_lt_of_pos (i + 1) (show (0 : Int) < (c.length : Int) by omega)
    have g1 : 0 ≤ i / (c.length : Int) := Int.ediv_nonneg h0 (by omega)
    have g2 : i / (c.length : Int) ≤ i := Int.ediv_le_self _ h0
    rw [w64 (x := i + 1) (by omega) (by omega), Int.tmod_eq_emod_of_nonneg h0, Int.tmod_eq_emod_of_nonneg (show 0 ≤ i + 1 by omega), Int.tdiv_eq_ediv_of_nonneg h0]
    have b1 := rd_byte hc (i % (c.length : Int))
    have b2 := rd_byte hc ((i + 1) % (c.length : Int))
    generalize rd c (i % (c.length : Int)) = x at b1 ⊢
    generalize rd c ((i + 1) % (c.length : Int)) = y at b2 ⊢
    generalize i / (c.length : Int) = z at g1 g2 ⊢
    rw [if_pos e1, if_pos e2, if_pos f1, if_pos f2, if_neg (by omega), w64 (x := x) (by omega) (by omega), w64 (x := y) (by omega) (by omega), w64 (x := z) (by omega) (by omega), w64 (x := x * 31) (by omega) (by omega), w64 (x := x * 31 + y) (by omega) (by omega), w64 (by omega) (by omega), Int.tmod_eq_emod_of_nonneg (by omega)]
    exact ⟨_, rfl, Int.emod_nonneg _ (by omega), Int.emod_lt_of_pos _ (by omega)⟩
theorem SalesOf_l0 (c : List Int) : ∀ (n : Nat) (acc : List Int) (a s N : Int), Srd c a s N → N + 3 * n ≤ 1000000 → acc.length + n ≤ 40 → 1 ≤ acc.length → 1 ≤ acc.getD 0 0 → (∀ x ∈ acc, 0 ≤ x ∧ x ≤ 100) →
    ∃ L p m, Ev (fun k => spec_SalesOf.l0 k acc (n : Int) c a s) (L, p, m) ∧ 1 ≤ L.length ∧ L.length ≤ 40 ∧ (∀ x ∈ L, 0 ≤ x ∧ x ≤ 100) ∧ 0 ≤ p ∧ p ≤ m ∧ 1 ≤ m ∧ m ≤ 20 ∧ 1 ≤ L.getD 0 0 := by
  intro n
  induction n with
  | zero =>
    intro acc a s N hS hN hl hl1 hh hx
    obtain ⟨v, a1, s1, e1, l1, u1, S1⟩ := next_ok 20 hS (by omega) (by omega) (by omega)
    have h1 : wrap64 (1 + v) = 1 + v := w64 (by omega) (by omega)
    have h2 : wrap64 (1 + v + 1) = 1 + v + 1 := w64 (by omega) (by omega)
    obtain ⟨w, a2, s2, e2, l2, u2, S2⟩ := next_ok (1 + v + 1) S1 (by omega) (by omega) (by omega)
    refine ⟨acc, w, 1 + v, Ev.step (fun k => rfl) (Ev.neg (show ¬ ((0 : Nat) : Int) > 0 by omega) (Ev.ret e1 ?_)), by omega, by omega, hx, by omega, by omega, by omega, by omega, hh⟩
    simp only [h1, h2]
    exact Ev.ret e2 (Ev.some' rfl)
  | succ n ih =>
    intro acc a s N hS hN hl hl1 hh hx
    obtain ⟨v, a1, s1, e1, l1, u1, S1⟩ := next_ok 40 hS (by omega) (by omega) (by omega)
    obtain ⟨L, p, m, h1, h2⟩ := ih (acc ++ [v]) a1 s1 _ S1 (by omega) (by simp; omega) (by simp) (by rw [List.getD_eq_getElem?_getD, List.getElem?_append_left (by omega), ← List.getD_eq_getElem?_getD]; exact hh) (by
      intro x h
      rcases List.mem_append.1 h with h | h
      · exact hx x h
      · rw [List.mem_singleton.1 h]; omega)
    refine ⟨L, p, m, Ev.step (fun k => rfl) (Ev.pos (show ((n + 1 : Nat) : Int) > 0 by omega) (Ev.ret e1 (Ev.pos (by omega) ?_))), h2⟩
    rw [w64 (by omega) (by omega), show ((n + 1 : Nat) : Int) - 1 = (n : Int) by omega]
    exact h1
theorem SalesOf_ok (l : List Int) (h : ∀ x ∈ l, (Lit.int .u8 x).wf = true) (hl : l.length ≤ 1048576) :
    ∃ L p m, Ev (fun k => spec_SalesOf.f k l) (L, p, m) ∧ 1 ≤ L.length ∧ L.length ≤ 40 ∧ (∀ x ∈ L, 0 ≤ x ∧ x ≤ 100) ∧ 0 ≤ p ∧ p ≤ m ∧ 1 ≤ m ∧ m ≤ 20 ∧ 1 ≤ L.getD 0 0 := by
  obtain ⟨s, hs, S0⟩ := source_ok l h
  obtain ⟨v, a1, s1, e1, l1, u1, S1⟩ := next_ok 30 S0 (by omega) (by omega) (by omega)
  obtain ⟨z, e0, z0, z1⟩ := size_ok (c := l) a1 s1 20 hl (by omega)
  have hz : wrap64 (z + 2) = z + 2 := w64 (by omega) (by omega)
  have hv : wrap64 (1 + v) = 1 + v := w64 (by omega) (by omega)
  obtain ⟨w, a2, s2, e2, l2, u2, S2⟩ := next_ok (z + 2) S1 (by omega) (by omega) (by omega)
  obtain ⟨L, p, m, h1, h2⟩ := SalesOf_l0 l w.toNat [1 + v] a2 s2 _ S2 (by omega) (by simp; omega) (by simp) (by simp; omega) (by intro x h; rw [List.mem_singleton.1 h]; omega)
  rw [Int.toNat_of_nonneg l2] at h1
  refine ⟨L, p, m, ?_, h2⟩
  unfold spec_SalesOf.f
  refine Ev.ret hs (Ev.ret e1 (Ev.ret e0 ?_))
  simp only [hz, hv]
  exact Ev.ret e2 h1
theorem rd_Ratio_mid (p : List S46) (x : S46) (r : List S46) : rd_T46 (p ++ x :: r) (p.length : Int) = x := getD_mid p x r z46
theorem rd_Ratio_nat (l : List S46) (i : Nat) : rd_T46 l (i : Int) = l.getD i z46 := by
  unfold rd_T46
  rw [Int.toNat_natCast]
theorem within_ev (a b c : Int) : impl_within.f a b c = some (decide (b ≤ a ∧ a ≤ c)) := by
  unfold impl_within.f
  by_cases h : a ≥ b
  · rw [if_pos h]; congr 1; rw [decide_eq_decide]; omega
  · rw [if_neg h]; congr 1; symm; rw [decide_eq_false_iff_not]; omega
/-- Sales. -/
def salesB (l : List Int) : Bool := l.all fun n => decide (0 ≤ n ∧ n ≤ 100000)
theorem areSales_ev (l : List Int) : impl_areSales.f l = some (salesB l) := by
  unfold impl_areSales.f impl_areFrom.f salesB
  rfl
theorem salesB_mem {l : List Int} (h : salesB l = true) : ∀ x ∈ l, 0 ≤ x ∧ x ≤ 100000 := by
  intro x hx
  have := List.all_eq_true.1 h x hx
  simpa using this
/-! ### seasons -/
/-- The sum of f over the places that leave i when divided by n; the list's first place is j. -/
def seas (f : Int → Int) (n i : Nat) : Nat → List Int → Int
  | _, [] => 0
  | j, x :: a => (if j % n = i then f x else 0) + seas f n i (j + 1) a
theorem seas_skip (f : Int → Int) (n i : Nat) : ∀ (d : Nat) (a : List Int) (j : Nat), (∀ e, e < d → (j + e) % n ≠ i) → seas f n i j a = seas f n i (j + d) (a.drop d) := by
  intro d
  induction d with
  | zero => intro a j h; rfl
  | succ d ih =>
    intro a j h
    cases a with
    | nil => simp [seas]
    | cons x a =>
      have h0 := h 0 (by omega)
      rw [Nat.add_zero] at h0
      rw [seas, if_neg h0, Int.zero_add, List.drop_succ_cons, show j + (d + 1) = j + 1 + d by omega]
      exact ih a (j + 1) (fun e he => by rw [show j + 1 + e = j + (e + 1) by omega]; exact h (e + 1) (by omega))
theorem seas_start (f : Int → Int) (n i : Nat) (hi : i < n) (l : List Int) : seas f n i 0 l = seas f n i i (l.drop i) := by
  have := seas_skip f n i i l 0 (fun e he => by rw [Nat.zero_add, Nat.mod_eq_of_lt (by omega)]; omega)
  rw [Nat.zero_add] at this
  exact this
theorem seas_next (f : Int → Int) (n i j : Nat) (hn : 1 ≤ n) (hj : j % n = i) (l : List Int) (hl : j < l.length) : seas f n i j (l.drop j) = f (l.getD j 0) + seas f n i (j + n) (l.drop (j + n)) := by
  rw [List.drop_eq_getElem_cons hl, seas, if_pos hj, List.getD_eq_getElem?_getD, List.getElem?_eq_getElem hl]
  have := seas_skip f n i (n - 1) (l.drop (j + 1)) (j + 1) (fun e he h => by
    have h1 : (j + 1 + e - j) % n = 0 := Nat.sub_mod_eq_zero_of_mod_eq (by rw [h, hj])
    rw [show j + 1 + e - j = 1 + e by omega, Nat.mod_eq_of_lt (by omega)] at h1
    omega)
  rw [List.drop_drop, show j + 1 + (n - 1) = j + n by omega] at this
  rw [this]
  rfl
theorem seas_bound (f : Int → Int) (n i : Nat) (M : Int) (hM : 0 ≤ M) : ∀ (l : List Int) (j : Nat), (∀ x ∈ l, 0 ≤ f x ∧ f x ≤ M) → 0 ≤ seas f n i j l ∧ seas f n i j l ≤ M * l.length := by
  intro l
  induction l with
  | nil => intro j h; simp [seas]
  | cons x l ih =>
    intro j h
    have h1 := h x (by simp)
    have h2 := ih (j + 1) (fun y hy => h y (List.mem_cons_of_mem x hy))
    have h3 : M * ((l.length + 1 : Nat) : Int) = M * (l.length : Int) + M := by rw [show ((l.length + 1 : Nat) : Int) = (l.length : Int) + 1 by omega, Int.mul_add, Int.mul_one]
    rw [seas, List.length_cons, h3]
    split <;> omega
theorem seas_end (f : Int → Int) (n i j : Nat) (l : List Int) (h : l.length ≤ j) : seas f n i j (l.drop j) = 0 := by
  rw [List.drop_eq_nil_of_le h]; rfl
def oneF (_ : Int) : Int := 1
def seasS (n i : Nat) (l : List Int) : Int := seas id n i 0 l
def seasC (n i : Nat) (l : List Int) : Int := seas oneF n i 0 l
theorem seas_facts (n i : Nat) (l : List Int) (hi : i < n) (hl : n ≤ l.length) (hx : ∀ x ∈ l, 0 ≤ x ∧ x ≤ 100000) (hl2 : l.length ≤ 4096) : 0 ≤ seasS n i l ∧ seasS n i l ≤ 409600000 ∧ 1 ≤ seasC n i l ∧ seasC n i l ≤ 4096 := by
  have h1 := seas_bound id n i 100000 (by omega) l 0 hx
  have h2 := seas_bound oneF n i 1 (by omega) l 0 (fun x _ => by unfold oneF; omega)
  have h3 : 1 ≤ seas oneF n i 0 l := by
    rw [seas_start oneF n i hi, seas_next oneF n i i (by omega) (Nat.mod_eq_of_lt hi) l (by omega)]
    have := seas_bound oneF n i 1 (by omega) (l.drop (i + n)) (i + n) (fun x _ => by unfold oneF; omega)
    unfold oneF at this ⊢
    omega
  unfold seasS seasC
  omega
def totI : List Int → Int
  | [] => 0
  | x :: xs => x + totI xs
theorem totI_bounds (M : Int) (hM : 0 ≤ M) : ∀ (l : List Int), (∀ x ∈ l, 0 ≤ x ∧ x ≤ M) → 0 ≤ totI l ∧ totI l ≤ M * l.length := by
  intro l
  induction l with
  | nil => intro _; simp [totI]
  | cons x l ih =>
    intro h
    have h1 := h x (by simp)
    have h2 := ih (fun y hy => h y (List.mem_cons_of_mem x hy))
    have h3 : M * ((l.length + 1 : Nat) : Int) = M * (l.length : Int) + M := by rw [show ((l.length + 1 : Nat) : Int) = (l.length : Int) + 1 by omega, Int.mul_add, Int.mul_one]
    rw [totI, List.length_cons, h3]; omega
def comV (a b : Int) : Int := ((Nat.gcd a.toNat b.toNat : Nat) : Int)
theorem comV_zero (a : Int) (h : 0 ≤ a) : comV a 0 = a := by
  unfold comV
  rw [show (0 : Int).toNat = 0 from rfl, Nat.gcd_zero_right]; omega
theorem comV_rec (a b : Int) (ha : 0 ≤ a) (hb : 0 ≤ b) : comV b (Int.tmod a b) = comV a b := by
  unfold comV
  obtain ⟨m, rfl⟩ := Int.eq_ofNat_of_zero_le ha
  obtain ⟨n, rfl⟩ := Int.eq_ofNat_of_zero_le hb
  rw [Int.tmod_eq_emod_of_nonneg ha, ← Int.natCast_emod, Int.toNat_natCast, Int.toNat_natCast, Int.toNat_natCast, Nat.gcd_comm m n, Nat.gcd_rec n m, Nat.gcd_comm]
theorem comV_pos (a b : Int) (hb : 1 ≤ b) : 1 ≤ comV a b := by
  unfold comV
  have := Nat.gcd_pos_of_pos_right a.toNat (show 0 < b.toNat by omega)
  omega
/-- A share in lowest terms. -/
def ratioV (a b : Int) : S46 := ⟨a / comV a b, b / comV a b⟩
def seasR (l : List Int) (n : Nat) (i : Nat) : S46 := ratioV (seasS n i l * l.length) (seasC n i l * totI l)
theorem ratio_step (a b : Int) (ha : 0 ≤ a ∧ a ≤ 10000000000000) (hb : 1 ≤ b ∧ b ≤ 10000000000000) : comV a b ≠ 0 ∧ wrap64 (Int.tdiv a (comV a b)) = a / comV a b ∧ wrap64 (Int.tdiv b (comV a b)) = b / comV a b := by
  have h := comV_pos a b hb.1
  generalize comV a b = g at h ⊢
  have h1 := Int.ediv_le_self g ha.1
  have h1' : a / g ≤ a := Int.ediv_le_self _ ha.1
  have h2' : b / g ≤ b := Int.ediv_le_self _ (by omega)
  have h3 : 0 ≤ a / g := Int.ediv_nonneg ha.1 (by omega)
  have h4 : 0 ≤ b / g := Int.ediv_nonneg (by omega) (by omega)
  refine ⟨by omega, ?_, ?_⟩
  · rw [Int.tdiv_eq_ediv_of_nonneg ha.1, w64 (by omega) (by omega)]
  · rw [Int.tdiv_eq_ediv_of_nonneg (by omega), w64 (by omega) (by omega)]
theorem season_nums (l : List Int) (n i : Nat) (hi : i < n) (hl : n ≤ l.length) (hx : ∀ x ∈ l, 0 ≤ x ∧ x ≤ 100000) (hl2 : l.length ≤ 4096) (hT : 1 ≤ totI l) :
    (0 ≤ seasS n i l * l.length ∧ seasS n i l * l.length ≤ 10000000000000) ∧ (1 ≤ seasC n i l * totI l ∧ seasC n i l * totI l ≤ 10000000000000) := by
  obtain ⟨h1, h2, h3, h4⟩ := seas_facts n i l hi hl hx hl2
  have ht := totI_bounds 100000 (by omega) l hx
  have a1 := Int.mul_nonneg h1 (show (0 : Int) ≤ (l.length : Int) by omega)
  have a2 : seasS n i l * l.length ≤ 409600000 * 4096 := Int.mul_le_mul h2 (by omega) (by omega) (by omega)
  have a3 := Int.mul_pos (show 0 < seasC n i l by omega) (show 0 < totI l by omega)
  have a4 : seasC n i l * totI l ≤ 4096 * 409600000 := Int.mul_le_mul h4 (by omega) (by omega) (by omega)
  omega
/-- What both answer. -/
def seasonsV (l : List Int) (n : Int) : List S46 × Int :=
  if 4096 < l.length then ([], 2) else if salesB l = true ∧ (1 ≤ n ∧ n ≤ 60) then (if (l.length : Int) < n then ([], 19) else if totI l = 0 then ([], 10) else ((List.range n.toNat).map (seasR l n.toNat), 0)) else ([], 1)
theorem seasonsV_length (l : List Int) (n : Int) : (seasonsV l n).1.length ≤ 60 := by
  unfold seasonsV
  repeat' split
  all_goals simp
  omega
theorem impl_common_l0 : ∀ (m : Nat) (a b : Int), 0 ≤ a → 0 ≤ b → b.toNat < m → Ev (fun k => impl_common.l0 k a b) (comV a b) := by
  intro m
  induction m with
  | zero => intro a b ha hb h; omega
  | succ m ih =>
    intro a b ha hb h
    by_cases c : b = 0
    · subst c
      exact Ev.step (fun k => rfl) (Ev.pos rfl (Ev.some' (comV_zero a ha).symm))
    · have h1 := Int.emod_nonneg a c
      have h2 := Int.emod_lt_of_pos a (show 0 < b by omega)
      have e := Int.tmod_eq_emod_of_nonneg (b := b) ha
      refine Ev.step (fun k => rfl) (Ev.neg c (Ev.eq (ih b (Int.tmod a b) hb (by omega) (by omega)) (comV_rec a b ha hb)))
theorem impl_common_ev (a b : Int) (ha : 0 ≤ a) (hb : 0 ≤ b) : Ev (fun k => impl_common.f k a b) (comV a b) := impl_common_l0 (b.toNat + 1) a b ha hb (by omega)
theorem implSum_l0 : ∀ (a p : List Int) (s : Int), (p ++ a).length < 1000000 → (∀ x ∈ a, 0 ≤ x ∧ x ≤ 100000) → 0 ≤ s → s ≤ 100000 * p.length → Ev (fun k => impl_sumOf.l0 k s (p ++ a) ((p ++ a).length : Int) (p.length : Int)) (s + totI a) := by
  intro a
  induction a with
  | nil => intro p s hl ha h0 h1; exact Ev.step (fun k => rfl) (Ev.neg (len_end p) (Ev.some' (by simp [totI])))
  | cons x a ih =>
    intro p s hl ha h0 h1
    have hl' := hl
    rw [List.length_append, List.length_cons] at hl'
    have hx := ha x (by simp)
    refine Ev.step (fun k => rfl) (Ev.pos (len_lt p x a) (Ev.pos (by omega) (Ev.pos (len_lt p x a) ?_)))
    rw [rd_mid, w64 (by omega) (by omega), w64 (by omega) (by omega), ← len_snoc p x, snoc p x a]
    refine Ev.eq (ih (p ++ [x]) (s + x) (by rw [← snoc]; exact hl) (fun y hy => ha y (by simp [hy])) (by omega) (by simp; omega)) ?_
    rw [totI]; omega
theorem implSum_ev (l : List Int) (hl : l.length < 1000000) (hx : ∀ x ∈ l, 0 ≤ x ∧ x ≤ 100000) : Ev (fun k => impl_sumOf.f k l) (totI l) :=
  Ev.eq (implSum_l0 l [] 0 hl hx (by omega) (by simp)) (by omega)
theorem impl_s1 (l : List Int) (n i : Nat) (hn : 1 ≤ n ∧ n ≤ 60) (hl : l.length ≤ 4096) (hx : ∀ x ∈ l, 0 ≤ x ∧ x ≤ 100000) (T : Int) (o : List S46) (m ii : Int) (v : List S46 × Int) : ∀ (d j : Nat) (s c : Int), j % n = i → l.length ≤ j + d → j ≤ 5000 → 0 ≤ s → s ≤ 100000 * j → 0 ≤ c → c ≤ j →
    Ev (fun k => (impl_common.f k (wrap64 ((s + seas id n i j (l.drop j)) * (l.length : Int))) (wrap64 ((c + seas oneF n i j (l.drop j)) * T))).bind fun t119 => (if t119 = 0 then (none) else (if o.length < 8796093022208 then (impl_Seasons.l0 k l (n : Int) T (o ++ [(⟨wrap64 (Int.tdiv (wrap64 ((s + seas id n i j (l.drop j)) * (l.length : Int))) t119), wrap64 (Int.tdiv (wrap64 ((c + seas oneF n i j (l.drop j)) * T)) t119)⟩ : S46)]) m (wrap64 (ii + 1))) else (none)))) v →
    Ev (fun k => impl_Seasons.l1 k l (n : Int) T o s c (j : Int) m ii) v := by
  intro d
  induction d with
  | zero =>
    intro j s c hj hd hj5 h0 h1 h2 h3 h
    rw [seas_end id n i j l (by omega), seas_end oneF n i j l (by omega), Int.add_zero, Int.add_zero] at h
    exact Ev.step (fun k => rfl) (Ev.neg (show ¬ (j : Int) < (l.length : Int) by omega) h)
  | succ d ih =>
    intro j s c hj hd hj5 h0 h1 h2 h3 h
    by_cases e : l.length ≤ j
    · rw [seas_end id n i j l e, seas_end oneF n i j l e, Int.add_zero, Int.add_zero] at h
      exact Ev.step (fun k => rfl) (Ev.neg (show ¬ (j : Int) < (l.length : Int) by omega) h)
    · rw [seas_next id n i j hn.1 hj l (by omega), seas_next oneF n i j hn.1 hj l (by omega)] at h
      have hxj : 0 ≤ l.getD j 0 ∧ l.getD j 0 ≤ 100000 := by
        rw [List.getD_eq_getElem?_getD, List.getElem?_eq_getElem (by omega)]
        exact hx _ (List.getElem_mem (by omega))
      have hm : (j + n) % n = i := by rw [Nat.add_mod_right]; exact hj
      refine Ev.step (fun k => rfl) (Ev.pos (show (j : Int) < (l.length : Int) by omega) (Ev.pos (by omega) ?_))
      rw [rd_nat, w64 (x := s + l.getD j 0) (by omega) (by omega), w64 (x := c + 1) (by omega) (by omega), show wrap64 ((j : Int) + (n : Int)) = ((j + n : Nat) : Int) by rw [w64 (by omega) (by omega)]; omega]
      refine ih (j + n) _ _ hm (by omega) (by omega) (by omega) (by omega) (by omega) (by omega) ?_
      rw [Int.add_assoc, Int.add_assoc]
      exact h
theorem impl_s0 (l : List Int) (n : Nat) (hn : 1 ≤ n ∧ n ≤ 60) (hnl : n ≤ l.length) (hl : l.length ≤ 4096) (hx : ∀ x ∈ l, 0 ≤ x ∧ x ≤ 100000) (hT : 1 ≤ totI l) : ∀ (d i : Nat), i + d = n →
    Ev (fun k => impl_Seasons.l0 k l (n : Int) (totI l) ((List.range i).map (seasR l n)) (n : Int) (i : Int)) ((List.range n).map (seasR l n), 0) := by
  intro d
  induction d with
  | zero =>
    intro i hi
    obtain rfl : i = n := by omega
    exact Ev.step (fun k => rfl) (Ev.neg (show ¬ (i : Int) < (i : Int) by omega) (Ev.some' rfl))
  | succ d ih =>
    intro i hi
    refine Ev.step (fun k => rfl) (Ev.pos (show (i : Int) < (n : Int) by omega) ?_)
    refine impl_s1 l n i hn hl hx (totI l) _ (n : Int) (i : Int) _ 4096 i 0 0 (Nat.mod_eq_of_lt (by omega)) (by omega) (by omega) (by omega) (by omega) (by omega) (by omega) ?_
    obtain ⟨n1, n2⟩ := season_nums l n i (by omega) hnl hx hl hT
    obtain ⟨r1, r2, r3⟩ := ratio_step _ _ n1 n2
    rw [Int.zero_add, Int.zero_add, ← seas_start id n i (by omega), ← seas_start oneF n i (by omega), show seas id n i 0 l = seasS n i l from rfl, show seas oneF n i 0 l = seasC n i l from rfl, w64 (x := seasS n i l * (l.length : Int)) (by omega) (by omega), w64 (x := seasC n i l * totI l) (by omega) (by omega)]
    refine Ev.bind (impl_common_ev _ _ n1.1 (by omega)) (Ev.neg r1 (Ev.pos (by simp; omega) ?_))
    rw [r2, r3, w64n (by omega), show (List.range i).map (seasR l n) ++ [⟨seasS n i l * (l.length : Int) / comV (seasS n i l * (l.length : Int)) (seasC n i l * totI l), seasC n i l * totI l / comV (seasS n i l * (l.length : Int)) (seasC n i l * totI l)⟩] = (List.range (i + 1)).map (seasR l n) by rw [List.range_succ, List.map_append]; rfl]
    exact ih (i + 1) (by omega)
theorem implSeasons_ev (l : List Int) (n : Int) : Ev (fun k => impl_Seasons.f k l n) (seasonsV l n) := by
  unfold impl_Seasons.f impl_isList_int.f seasonsV
  refine Ev.ret rfl ?_
  by_cases c1 : 4096 < l.length
  · rw [if_pos c1]; exact Ev.neg (by simp; omega) (Ev.some' rfl)
  rw [if_neg c1]
  refine Ev.pos (by simp; omega) (Ev.ret (areSales_ev l) ?_)
  by_cases c2 : salesB l = true
  · refine Ev.pos c2 (Ev.ret (within_ev _ _ _) ?_)
    by_cases c3 : 1 ≤ n ∧ n ≤ 60
    · have hx := salesB_mem c2
      have ht := totI_bounds 100000 (by omega) l hx
      rw [if_pos ⟨c2, c3⟩, show (!decide (1 ≤ n ∧ n ≤ 60)) = false by rw [decide_eq_true c3]; rfl]
      refine Ev.step (fun k => rfl) (Ev.ite (fun _ => Ev.some' rfl) (fun c4 => Ev.bind (implSum_ev l (by omega) hx) (Ev.ite (fun _ => Ev.some' rfl) (fun c5 => ?_))))
      have := impl_s0 l n.toNat (by omega) (by omega) (by omega) hx (by omega) n.toNat 0 (by omega)
      rw [Int.toNat_of_nonneg (show 0 ≤ n by omega)] at this
      exact this
    · rw [if_neg (fun h => c3 h.2), show (!decide (1 ≤ n ∧ n ≤ 60)) = true by rw [decide_eq_false c3]; rfl]
      exact Ev.via (Ev.some' rfl) (fun k => rfl)
  · rw [if_neg (fun h => c2 h.1)]
    exact Ev.neg c2 (Ev.via (Ev.some' rfl) (fun k => rfl))
theorem law_common_l0 : ∀ (m : Nat) (a b : Int), 0 ≤ a → 0 ≤ b → b.toNat < m → Ev (fun k => laws_common.l0 k a b) (comV a b) := by
  intro m
  induction m with
  | zero => intro a b ha hb h; omega
  | succ m ih =>
    intro a b ha hb h
    by_cases c : b = 0
    · subst c
      exact Ev.step (fun k => rfl) (Ev.pos rfl (Ev.some' (comV_zero a ha).symm))
    · have h1 := Int.emod_nonneg a c
      have h2 := Int.emod_lt_of_pos a (show 0 < b by omega)
      have e := Int.tmod_eq_emod_of_nonneg (b := b) ha
      refine Ev.step (fun k => rfl) (Ev.neg c (Ev.eq (ih b (Int.tmod a b) hb (by omega) (by omega)) (comV_rec a b ha hb)))
theorem law_common_ev (a b : Int) (ha : 0 ≤ a) (hb : 0 ≤ b) : Ev (fun k => laws_common.f k a b) (comV a b) := law_common_l0 (b.toNat + 1) a b ha hb (by omega)
theorem lawSum_l0 : ∀ (a p : List Int) (s : Int), (p ++ a).length < 1000000 → (∀ x ∈ a, 0 ≤ x ∧ x ≤ 100000) → 0 ≤ s → s ≤ 100000 * p.length → Ev (fun k => laws_sum.l0 k (p ++ a) s (p.length : Int)) (s + totI a) := by
  intro a
  induction a with
  | nil => intro p s hl ha h0 h1; exact Ev.step (fun k => rfl) (Ev.neg (len_end p) (Ev.some' (by simp [totI])))
  | cons x a ih =>
    intro p s hl ha h0 h1
    have hl' := hl
    rw [List.length_append, List.length_cons] at hl'
    have hx := ha x (by simp)
    refine Ev.step (fun k => rfl) (Ev.pos (len_lt p x a) (Ev.pos (by omega) ?_))
    rw [rd_mid, w64 (by omega) (by omega), w64 (by omega) (by omega), ← len_snoc p x, snoc p x a]
    refine Ev.eq (ih (p ++ [x]) (s + x) (by rw [← snoc]; exact hl) (fun y hy => ha y (by simp [hy])) (by omega) (by simp; omega)) ?_
    rw [totI]; omega
theorem lawSum_ev (l : List Int) (hl : l.length < 1000000) (hx : ∀ x ∈ l, 0 ≤ x ∧ x ≤ 100000) : Ev (fun k => laws_sum.f k l) (totI l) :=
  Ev.eq (lawSum_l0 l [] 0 hl hx (by omega) (by simp)) (by omega)
theorem ratio_facts (a b : Int) (ha : 0 ≤ a) (hb : 1 ≤ b) : a = comV a b * (a / comV a b) ∧ b = comV a b * (b / comV a b) ∧ 0 ≤ a / comV a b ∧ a / comV a b ≤ a ∧ 1 ≤ b / comV a b ∧ b / comV a b ≤ b ∧ comV (a / comV a b) (b / comV a b) = 1 := by
  have hp := comV_pos a b hb
  obtain ⟨m, rfl⟩ := Int.eq_ofNat_of_zero_le ha
  obtain ⟨n, rfl⟩ := Int.eq_ofNat_of_zero_le (show 0 ≤ b by omega)
  have e : comV (m : Int) (n : Int) = ((Nat.gcd m n : Nat) : Int) := rfl
  rw [e] at hp ⊢
  have h1 : m = Nat.gcd m n * (m / Nat.gcd m n) := (Nat.mul_div_cancel' (Nat.gcd_dvd_left m n)).symm
  have h2 : n = Nat.gcd m n * (n / Nat.gcd m n) := (Nat.mul_div_cancel' (Nat.gcd_dvd_right m n)).symm
  have h3 : m / Nat.gcd m n ≤ m := Nat.div_le_self _ _
  have h4 : n / Nat.gcd m n ≤ n := Nat.div_le_self _ _
  have h5 : 0 < n / Nat.gcd m n := Nat.div_pos (Nat.le_of_dvd (by omega) (Nat.gcd_dvd_right m n)) (by omega)
  rw [← Int.natCast_ediv, ← Int.natCast_ediv, ← Int.natCast_mul, ← Int.natCast_mul]
  refine ⟨congrArg _ h1, congrArg _ h2, Int.natCast_nonneg _, Int.ofNat_le.2 h3, by exact_mod_cast h5, Int.ofNat_le.2 h4, ?_⟩
  unfold comV
  rw [Int.toNat_natCast, Int.toNat_natCast, Nat.gcd_div_gcd_div_gcd_of_pos_right (by omega)]; rfl
theorem get_in (l : List Int) (M : Int) (hx : ∀ x ∈ l, 0 ≤ x ∧ x ≤ M) (i : Nat) (hi : i < l.length) : 0 ≤ l.getD i 0 ∧ l.getD i 0 ≤ M := by
  rw [List.getD_eq_getElem?_getD, List.getElem?_eq_getElem hi]
  exact hx _ (List.getElem_mem hi)
theorem range_get (n i : Nat) (hi : i < n) (f : Nat → S46) : ((List.range n).map f).getD i z46 = f i := by
  rw [List.getD_eq_getElem?_getD, List.getElem?_map, List.getElem?_range hi]
  rfl
theorem small_facts (l : List Int) (n i : Nat) (hi : i < n) (hnl : n ≤ l.length) (hl : l.length ≤ 40) (hx : ∀ x ∈ l, 0 ≤ x ∧ x ≤ 100) (hT : 1 ≤ totI l) :
    (0 ≤ seasS n i l ∧ seasS n i l ≤ 4000) ∧ (1 ≤ seasC n i l ∧ seasC n i l ≤ 40) ∧ (0 ≤ seasS n i l * l.length ∧ seasS n i l * l.length ≤ 160000) ∧ (1 ≤ seasC n i l * totI l ∧ seasC n i l * totI l ≤ 160000) := by
  have h0 := seas_facts n i l hi hnl (fun x h => by have := hx x h; omega) (by omega)
  have h1 := seas_bound id n i 100 (by omega) l 0 hx
  have h2 := seas_bound oneF n i 1 (by omega) l 0 (fun x _ => by unfold oneF; omega)
  have ht := totI_bounds 100 (by omega) l hx
  unfold seasS seasC at h0 ⊢
  generalize seas id n i 0 l = s at h0 h1 ⊢
  generalize seas oneF n i 0 l = c at h0 h2 ⊢
  have a1 := Int.mul_nonneg h1.1 (show (0 : Int) ≤ (l.length : Int) by omega)
  have a2 : s * l.length ≤ 4000 * 40 := Int.mul_le_mul (by omega) (by omega) (by omega) (by omega)
  have a3 := Int.mul_pos (show 0 < c by omega) (show 0 < totI l by omega)
  have a4 : c * totI l ≤ 40 * 4000 := Int.mul_le_mul (by omega) (by omega) (by omega) (by omega)
  omega
theorem law_s1 (l : List Int) (n i : Nat) (hn : 1 ≤ n ∧ n ≤ 60) (hl : l.length ≤ 40) (hx : ∀ x ∈ l, 0 ≤ x ∧ x ≤ 100) (T : Int) (R : List S46) (hi : i < R.length) (r : S46) (hr : R.getD i z46 = r) (v : Bool) : ∀ (d j : Nat) (s c : Int), j % n = i → l.length ≤ j + d → j ≤ 5000 → 0 ≤ s → s ≤ 100000 * j → 0 ≤ c → c ≤ j →
    Ev (fun k => if r.f1 < 1 then (some false) else (if r.f0 < 0 then (some false) else (if (wrap64 ((wrap64 (r.f0 * (c + seas oneF n i j (l.drop j)))) * T)) = (wrap64 ((wrap64 (r.f1 * (s + seas id n i j (l.drop j)))) * (l.length : Int))) then ((laws_common.f k r.f0 r.f1).bind fun t175 => (if t175 = 1 then (laws_FnSeasons.l0 k l (n : Int) R T (wrap64 ((i : Int) + 1))) else (some false))) else (some false)))) v →
    Ev (fun k => laws_FnSeasons.l1 k l (n : Int) R T (i : Int) s c (j : Int)) v := by
  intro d
  induction d with
  | zero =>
    intro j s c hj hd hj5 h0 h1 h2 h3 h
    rw [seas_end id n i j l (by omega), seas_end oneF n i j l (by omega), Int.add_zero, Int.add_zero] at h
    refine Ev.step (fun k => rfl) (Ev.neg (show ¬ (j : Int) < (l.length : Int) by omega) (Ev.pos (by omega) (Ev.pos (by omega) ?_)))
    rw [rd_Ratio_nat, hr]
    exact h
  | succ d ih =>
    intro j s c hj hd hj5 h0 h1 h2 h3 h
    by_cases e : l.length ≤ j
    · rw [seas_end id n i j l e, seas_end oneF n i j l e, Int.add_zero, Int.add_zero] at h
      refine Ev.step (fun k => rfl) (Ev.neg (show ¬ (j : Int) < (l.length : Int) by omega) (Ev.pos (by omega) (Ev.pos (by omega) ?_)))
      rw [rd_Ratio_nat, hr]
      exact h
    · rw [seas_next id n i j hn.1 hj l (by omega), seas_next oneF n i j hn.1 hj l (by omega)] at h
      have hxj := get_in l 100 hx j (by omega)
      have hm : (j + n) % n = i := by rw [Nat.add_mod_right]; exact hj
      refine Ev.step (fun k => rfl) (Ev.pos (show (j : Int) < (l.length : Int) by omega) (Ev.pos (by omega) ?_))
      rw [rd_nat, w64 (x := s + l.getD j 0) (by omega) (by omega), w64 (x := c + 1) (by omega) (by omega), show wrap64 ((j : Int) + (n : Int)) = ((j + n : Nat) : Int) by rw [w64 (by omega) (by omega)]; omega]
      refine ih (j + n) _ _ hm (by omega) (by omega) (by omega) (by omega) (by omega) (by omega) ?_
      rw [Int.add_assoc, Int.add_assoc]
      exact h
theorem law_s0 (l : List Int) (n : Nat) (hn : 1 ≤ n ∧ n ≤ 60) (hnl : n ≤ l.length) (hl : l.length ≤ 40) (hx : ∀ x ∈ l, 0 ≤ x ∧ x ≤ 100) (hT : 1 ≤ totI l)
    (hend : Ev (fun k => laws_FnSeasons.l2 k l (n : Int) (List.replicate l.length 0) 0) true) : ∀ (d i : Nat), i + d = n →
    Ev (fun k => laws_FnSeasons.l0 k l (n : Int) ((List.range n).map (seasR l n)) (totI l) (i : Int)) true := by
  intro d
  induction d with
  | zero =>
    intro i hi
    obtain rfl : i = n := by omega
    have h1 : (0 : Int) ≤ (l.length : Int) := by omega
    have h2 : (l.length : Int).toNat ≤ 35184372088832 := by omega
    refine Ev.step (fun k => rfl) (Ev.neg (show ¬ (i : Int) < (i : Int) by omega) (Ev.pos h1 (Ev.pos h2 ?_)))
    rw [Int.toNat_natCast]
    exact hend
  | succ d ih =>
    intro i hi
    obtain ⟨b1, b2, b3, b4⟩ := small_facts l n i (by omega) hnl hl hx hT
    obtain ⟨r1, r2, r3, r4, r5, r6, r7⟩ := ratio_facts _ _ b3.1 b4.1
    refine Ev.step (fun k => rfl) (Ev.pos (show (i : Int) < (n : Int) by omega) ?_)
    refine law_s1 l n i hn hl hx (totI l) _ (by simp; omega) (seasR l n i) (range_get n i (by omega) _) true 4096 i 0 0 (Nat.mod_eq_of_lt (by omega)) (by omega) (by omega) (by omega) (by omega) (by omega) (by omega) ?_
    rw [Int.zero_add, Int.zero_add, ← seas_start id n i (by omega), ← seas_start oneF n i (by omega), show seas id n i 0 l = seasS n i l from rfl, show seas oneF n i 0 l = seasC n i l from rfl]
    have hnext := ih (i + 1) (by omega)
    clear ih
    generalize (List.range n).map (seasR l n) = R at hnext ⊢
    unfold seasR ratioV
    simp only
    generalize hS : seasS n i l = s at *
    generalize hC : seasC n i l = c at *
    generalize hTT : totI l = T at *
    generalize hLL : (l.length : Int) = L at *
    generalize hN : s * L = N at *
    generalize hD : c * T = D at *
    generalize comV N D = g at *
    generalize N / g = x at *
    generalize D / g = y at *
    have c1 : 0 ≤ x * c := Int.mul_nonneg r3 (by omega)
    have c2 : x * c ≤ 160000 * 40 := Int.mul_le_mul (by omega) b2.2 (by omega) (by omega)
    have c3 : 0 ≤ y * s := Int.mul_nonneg (by omega) b1.1
    have c4 : y * s ≤ 160000 * 4000 := Int.mul_le_mul (by omega) b1.2 (by omega) (by omega)
    have heq : x * c * T = y * s * L := by
      rw [Int.mul_assoc, hD, r2, Int.mul_assoc, hN, r1, Int.mul_left_comm, Int.mul_left_comm y, Int.mul_comm x y]
    refine Ev.neg (by omega) (Ev.neg (by omega) ?_)
    rw [w64 (x := x * c) (by omega) (by omega), w64 (x := y * s) (by omega) (by omega), heq]
    refine Ev.pos rfl (Ev.bind (law_common_ev x y r3 (by omega)) (Ev.pos r7 ?_))
    rw [w64n (by omega)]
    exact hnext
theorem flat_seas (n i : Nat) (x : Int) : ∀ (m j : Nat), seas id n i j (List.replicate m x) = x * seas oneF n i j (List.replicate m x) := by
  intro m
  induction m with
  | zero => intro j; simp [seas]
  | succ m ih =>
    intro j
    rw [List.replicate_succ, seas, seas, ih, Int.mul_add]
    split <;> simp [oneF]
theorem flat_tot (x : Int) : ∀ m : Nat, totI (List.replicate m x) = m * x := by
  intro m
  induction m with
  | zero => simp [totI]
  | succ m ih => rw [List.replicate_succ, totI, ih, show ((m + 1 : Nat) : Int) = (m : Int) + 1 by omega, Int.add_mul]; omega
theorem flat_ratio (n i m : Nat) (x : Int) (hi : i < n) (hn : n ≤ m) (hm : m ≤ 40) (h1 : 1 ≤ x) (h2 : x ≤ 100) : seasR (List.replicate m x) n i = ⟨1, 1⟩ := by
  have hT : 1 ≤ totI (List.replicate m x) := by
    rw [flat_tot]
    have := Int.mul_pos (show (0 : Int) < (m : Int) by omega) (show 0 < x by omega)
    omega
  have hx : ∀ y ∈ List.replicate m x, 0 ≤ y ∧ y ≤ 100 := by
    intro y hy
    rw [List.eq_of_mem_replicate hy]; omega
  obtain ⟨-, -, b3, b4⟩ := small_facts (List.replicate m x) n i hi (by simp; omega) (by simp; omega) hx hT
  unfold seasR
  have e : seasS n i (List.replicate m x) * ((List.replicate m x).length : Int) = seasC n i (List.replicate m x) * totI (List.replicate m x) := by
    rw [flat_tot, List.length_replicate]
    unfold seasS seasC
    rw [flat_seas, Int.mul_comm x, Int.mul_assoc, Int.mul_comm x]
  rw [e]
  generalize seasC n i (List.replicate m x) * totI (List.replicate m x) = D at b4
  have hc : comV D D = D := by
    unfold comV
    rw [Nat.gcd_self]; omega
  unfold ratioV
  rw [hc, Int.ediv_self (by omega)]
theorem law_l3 (n : Nat) (R : List S46) (hR : R.length = n) (hn : n ≤ 60) (h : ∀ i, i < n → R.getD i z46 = ⟨1, 1⟩) : ∀ (d i : Nat), i + d = n → Ev (fun k => laws_FnSeasons.l3 k (n : Int) R (i : Int)) true := by
  intro d
  induction d with
  | zero =>
    intro i hi
    obtain rfl : i = n := by omega
    exact Ev.step (fun k => rfl) (Ev.neg (show ¬ (i : Int) < (i : Int) by omega) (Ev.some' rfl))
  | succ d ih =>
    intro i hi
    refine Ev.step (fun k => rfl) (Ev.pos (show (i : Int) < (n : Int) by omega) (Ev.pos (by omega) (Ev.pos (by omega) ?_)))
    rw [rd_Ratio_nat, h i (by omega), w64n (by omega)]
    exact Ev.neg (by decide) (ih (i + 1) (by omega))
theorem law_l2 (l : List Int) (n : Nat) (x : Int) (hl : 1 ≤ l.length) (hl2 : l.length ≤ 40) (hx : l.getD 0 0 = x)
    (hend : Ev (fun k => (impl_Seasons.f k (List.replicate l.length x) (n : Int)).bind fun bt181 => (if bt181.2 = 0 then (laws_FnSeasons.j5 k (n : Int) bt181.1 ((bt181.1.length : Int) != (n : Int))) else (laws_FnSeasons.j5 k (n : Int) bt181.1 true))) true) :
    ∀ (d i : Nat), i + d = l.length → Ev (fun k => laws_FnSeasons.l2 k l (n : Int) (List.replicate i x ++ List.replicate d 0) (i : Int)) true := by
  intro d
  induction d with
  | zero =>
    intro i hi
    obtain rfl : i = l.length := by omega
    refine Ev.step (fun k => rfl) (Ev.neg (by simp) ?_)
    rw [List.replicate_zero, List.append_nil]
    exact hend
  | succ d ih =>
    intro i hi
    have hr : rd l 0 = x := hx
    have hs : (List.replicate i x ++ List.replicate (d + 1) 0).set (i : Int).toNat x = List.replicate (i + 1) x ++ List.replicate d 0 := by
      rw [List.replicate_succ, Int.toNat_natCast, List.set_append_right _ _ (by simp), List.length_replicate, Nat.sub_self, List.set_cons_zero, List.replicate_succ', List.append_assoc]
      rfl
    have h1 : (i : Int) < ((List.replicate i x ++ List.replicate (d + 1) (0 : Int)).length : Int) := by simp; omega
    refine Ev.step (fun k => rfl) (Ev.pos h1 (Ev.pos (by omega) (Ev.pos (by omega) ?_)))
    rw [hr, hs, w64n (by omega)]
    exact ih (i + 1) (by omega)
theorem FnSeasons : laws_FnSeasons.Pure := by
  intro l c h hc
  refine Ev.rounds (?_ : Ev (fun k => laws_FnSeasons.f k l c) true)
  unfold laws_FnSeasons.f
  by_cases c1 : (l.length : Int) > 1048576
  · exact Ev.pos c1 (Ev.via (Ev.some' rfl) (fun k => rfl))
  refine Ev.neg c1 ?_
  by_cases c2 : (c.length : Int) > 1048576
  · rw [decide_eq_true c2]
    exact Ev.via (Ev.some' rfl) (fun k => rfl)
  rw [decide_eq_false c2]
  obtain ⟨S, p, m, hd, hS1, hS, hx, h0, h1, hm, hm2, hh⟩ := SalesOf_ok l h.2 (by omega)
  obtain ⟨v, ha, v0, v1⟩ := at_ok (fun x hx => bounds_u8 (hc.2 x hx)) 0 (S.length : Int) (by omega) (by omega) (by omega)
  obtain ⟨n, hn⟩ := Int.eq_ofNat_of_zero_le (show 0 ≤ 1 + v by omega)
  have hw : wrap64 (1 + v) = (n : Int) := by rw [w64 (by omega) (by omega), hn]
  have hB : ∀ T : List Int, (∀ x ∈ T, 0 ≤ x ∧ x ≤ 100) → salesB T = true := by
    intro T hT
    refine List.all_eq_true.2 fun x hx => ?_
    have := hT x hx
    simp; omega
  have hsv : ∀ T : List Int, T.length = S.length → (∀ x ∈ T, 0 ≤ x ∧ x ≤ 100) → 1 ≤ totI T → Ev (fun k => impl_Seasons.f k T (n : Int)) ((List.range n).map (seasR T n), 0) := by
    intro T hT hTx hT1
    refine Ev.eq (implSeasons_ev T (n : Int)) ?_
    unfold seasonsV
    rw [if_neg (by omega), if_pos ⟨hB T hTx, by omega⟩, if_neg (by omega), if_neg (by omega), Int.toNat_natCast]
  have hT1 : 1 ≤ totI S := by
    cases S with
    | nil => simp at hS1
    | cons x a =>
      have := totI_bounds 100 (by omega) a (fun y hy => hx y (by simp [hy]))
      simp only [List.getD_cons_zero] at hh
      rw [totI]; omega
  have hx0 := get_in S 100 hx 0 (by omega)
  refine Ev.step (fun k => rfl) (Ev.bind hd (Ev.ret ha ?_))
  rw [hw]
  refine Ev.bind (hsv S rfl hx hT1) (Ev.pos rfl ?_)
  simp only [List.length_map, List.length_range, bne_self_eq_false]
  refine Ev.step (fun k => rfl) (Ev.bind (lawSum_ev S (by omega) (fun x h => by have := hx x h; omega)) ?_)
  refine law_s0 S n (by omega) (by omega) hS hx hT1 ?_ n 0 (by omega)
  refine law_l2 S n (S.getD 0 0) hS1 hS rfl ?_ S.length 0 (by omega)
  have hfx : ∀ y ∈ List.replicate S.length (S.getD 0 0), 0 ≤ y ∧ y ≤ 100 := by
    intro y hy
    rw [List.eq_of_mem_replicate hy]; omega
  have hft : 1 ≤ totI (List.replicate S.length (S.getD 0 0)) := by
    rw [flat_tot]
    have := Int.mul_pos (show (0 : Int) < (S.length : Int) by omega) (show 0 < S.getD 0 0 by omega)
    omega
  refine Ev.bind (hsv _ (by simp) hfx hft) (Ev.pos rfl ?_)
  simp only [List.length_map, List.length_range, bne_self_eq_false]
  refine Ev.step (fun k => rfl) (law_l3 n _ (by simp) (by omega) (fun i hi => ?_) n 0 (by omega))
  rw [range_get n i hi]
  exact flat_ratio n i S.length _ hi (by omega) hS hh hx0.2

end Go.Proofs.Ytbljkgllicnkkaa.Pure
