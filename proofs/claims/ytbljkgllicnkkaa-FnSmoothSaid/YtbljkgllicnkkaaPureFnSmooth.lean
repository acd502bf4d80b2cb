/- Of drawn sales the smoothed levels lie as the law says: the law's plain statement, with no condition. -/
import Derived.Test.YtbljkgllicnkkaaXFnSmoothx3
import Derived.Test.YtbljkgllicnkkaaAx
import Derived.Test.YtbljkgllicnkkaaIdx
namespace Go.Proofs.Ytbljkgllicnkkaa.Pure
open Go.RowKit Go.Proofs.Ytbljkgllicnkkaa.XFnSmooth Go.Proofs.YtbljkgllicnkkaaW.PrintWords Go.Proofs.YtbljkgllicnkkaaW.PrintLast
open Go.Proofs.YtbljkgllicnkkaaW.Ax Go.Proofs.YtbljkgllicnkkaaW.Idx
set_option linter.unusedVariables false
set_option linter.unusedSimpArgs false
theorem within_ev (a b c : Int) : impl_within.f a b c = some (decide (b ≤ a ∧ a ≤ c)) := by
  unfold impl_within.f
  by_cases h : a ≥ b
  · rw [if_pos h]; congr 1; rw [decide_eq_decide]; omega
  · rw [if_neg h]; congr 1; symm; rw [decide_eq_false_iff_not]; omega
/-- Sales. -/
def salesB (l : List Int) : Bool := l.all fun n => decide (0 ≤ n ∧ n ≤ 100000)
theorem areSales_ev (l : List Int) : impl_areSales.f l = some (salesB l) := by
  unfold impl_areSales.f impl_areFrom.f salesB
  rfl
theorem salesB_mem {l : List Int} (h : salesB l = true) : ∀ x ∈ l, 0 ≤ x ∧ x ≤ 100000 := by
  intro x hx
  have := List.all_eq_true.1 h x hx
  simpa using this
theorem floor_num (a b : Int) (hb : 1 ≤ b) (ha : -4611686018427387904 ≤ a ∧ a ≤ 4611686018427387904) :
    (if Int.tmod a b < 0 then wrap64 ((wrap64 (Int.tdiv a b)) - 1) else wrap64 (Int.tdiv a b)) = a / b := by
  have h0 : a / b ≤ 4611686018427387904 := by
    by_cases c : 0 ≤ a
    · have := Int.ediv_le_self b c; omega
    · have := Int.ediv_neg_of_neg_of_pos (a := a) (b := b) (by omega) (by omega); omega
  have h1 : -4611686018427387904 ≤ a / b := by
    rw [Int.le_ediv_iff_mul_le (by omega)]
    have := Int.mul_le_mul_of_nonneg_left (show (1 : Int) ≤ b by omega) (show (0 : Int) ≤ 4611686018427387904 by omega)
    omega
  have e1 := Int.emod_nonneg a (show b ≠ 0 by omega)
  have e2 := Int.emod_lt_of_pos a (show 0 < b by omega)
  rw [Int.tmod_eq_emod, Int.tdiv_eq_ediv]
  by_cases c : 0 ≤ a ∨ b ∣ a
  · rw [if_pos c, if_pos c, if_neg (by omega)]
    rw [show a / b + 0 = a / b by omega]
    exact w64 (by omega) (by omega)
  · rw [if_neg c, if_neg c, Int.sign_eq_one_of_pos (by omega)]
    rw [if_pos (by omega), w64 (x := a / b + 1) (by omega) (by omega), w64 (by omega) (by omega)]
    omega
theorem floorOf_ev (a b : Int) (hb : 1 ≤ b) (ha : -4611686018427387904 ≤ a ∧ a ≤ 4611686018427387904) : ∃ r, impl_floorOf.f a b = some (a / b, r) := by
  have h := floor_num a b hb ha
  unfold impl_floorOf.f
  rw [if_neg (by omega)]
  by_cases c : Int.tmod a b < 0
  · rw [if_pos c] at h ⊢; rw [h]; exact ⟨_, rfl⟩
  · rw [if_neg c] at h ⊢; rw [h]; exact ⟨_, rfl⟩
/-- What is added lies between nothing and the whole. -/
theorem share_mid (d n m : Int) (h0 : 0 ≤ n) (h1 : n ≤ m) (hm : 1 ≤ m) : (0 ≤ d → 0 ≤ d * n / m ∧ d * n / m ≤ d) ∧ (d ≤ 0 → d ≤ d * n / m ∧ d * n / m ≤ 0) := by
  refine ⟨fun hd => ⟨Int.ediv_nonneg (Int.mul_nonneg hd h0) (by omega), ?_⟩, fun hd => ⟨?_, ?_⟩⟩
  · exact Int.ediv_le_of_le_mul (by omega) (Int.mul_le_mul_of_nonneg_left h1 hd)
  · rw [Int.le_ediv_iff_mul_le (by omega)]
    exact Int.mul_le_mul_of_nonpos_left hd h1
  · refine Int.ediv_le_of_le_mul (by omega) ?_
    rw [Int.zero_mul]
    exact Int.mul_nonpos_of_nonpos_of_nonneg hd h0
theorem mul_small (d n : Int) (hd : -10000000 ≤ d ∧ d ≤ 10000000) (hn : 0 ≤ n ∧ n ≤ 1000) : -10000000000 ≤ d * n ∧ d * n ≤ 10000000000 := by
  have a1 := Int.mul_le_mul_of_nonneg_right hd.1 hn.1
  have a2 := Int.mul_le_mul_of_nonneg_right hd.2 hn.1
  omega
/-- The levels behind one. -/
def smRest (n m : Int) : Int → List Int → List Int
  | _, [] => []
  | lv, x :: a => (lv + (64 * x - lv) * n / m) :: smRest n m (lv + (64 * x - lv) * n / m) a
def smV (n m : Int) : List Int → List Int
  | [] => []
  | x :: a => (64 * x) :: smRest n m (64 * x) a
theorem smRest_length (n m : Int) : ∀ (a : List Int) (lv : Int), (smRest n m lv a).length = a.length := by
  intro a
  induction a with
  | nil => intro lv; rfl
  | cons x a ih => intro lv; simp [smRest, ih]
theorem smV_length (n m : Int) (a : List Int) : (smV n m a).length = a.length := by
  cases a with
  | nil => rfl
  | cons x a => simp [smV, smRest_length]
theorem level_next {lv x n m : Int} (hl : 0 ≤ lv ∧ lv ≤ 6400000) (hx : 0 ≤ x ∧ x ≤ 100000) (h0 : 0 ≤ n) (h1 : n ≤ m) (hm : 1 ≤ m) : 0 ≤ lv + (64 * x - lv) * n / m ∧ lv + (64 * x - lv) * n / m ≤ 6400000 := by
  obtain ⟨s1, s2⟩ := share_mid (64 * x - lv) n m h0 h1 hm
  by_cases c : 0 ≤ 64 * x - lv
  · have := s1 c; omega
  · have := s2 (by omega); omega
theorem impl_smRest (n m : Int) (h0 : 0 ≤ n) (h1 : n ≤ m) (hm : 1 ≤ m) (hm2 : m ≤ 1000) : ∀ (a p o : List Int) (lv : Int), 0 < p.length → o.length = p.length → (p ++ a).length ≤ 100000 → (∀ x ∈ a, 0 ≤ x ∧ x ≤ 100000) → 0 ≤ lv ∧ lv ≤ 6400000 →
    Ev (fun k => impl_Smooth.l0 k n m o lv (p ++ a) ((p ++ a).length : Int) (p.length : Int)) (o ++ smRest n m lv a, 0) := by
  intro a
  induction a with
  | nil => intro p o lv hp ho hl hx hlv; exact Ev.step (fun k => rfl) (Ev.neg (len_end p) (Ev.some' (by simp [smRest])))
  | cons x a ih =>
    intro p o lv hp ho hl hx hlv
    have hl' := hl
    rw [List.length_append, List.length_cons] at hl'
    have hx1 := hx x (by simp)
    have hms := mul_small (64 * x - lv) n (by omega) (by omega)
    have hln := level_next hlv hx1 h0 h1 hm
    refine Ev.step (fun k => rfl) (Ev.pos (len_lt p x a) (Ev.pos (by omega) (Ev.pos (len_lt p x a) (Ev.neg (by omega) ?_))))
    rw [rd_mid, w64 (x := 64 * x) (by omega) (by omega), w64 (x := 64 * x - lv) (by omega) (by omega), w64 (x := (64 * x - lv) * n) (by omega) (by omega)]
    obtain ⟨r, hr⟩ := floorOf_ev ((64 * x - lv) * n) m hm (by omega)
    refine Ev.ret hr (Ev.pos (by omega) ?_)
    simp only
    rw [w64 (x := lv + (64 * x - lv) * n / m) (by omega) (by omega), w64 (by omega) (by omega), ← len_snoc p x, snoc p x a]
    refine Ev.eq (ih (p ++ [x]) (o ++ [lv + (64 * x - lv) * n / m]) _ (by simp) (by simp [ho]) (by rw [← snoc]; exact hl) (fun y hy => hx y (by simp [hy])) hln) ?_
    simp [smRest]
theorem impl_smooth_l0 (n m : Int) (h0 : 0 ≤ n) (h1 : n ≤ m) (hm : 1 ≤ m) (hm2 : m ≤ 1000) (l : List Int) (hl : l.length ≤ 100000) (hx : ∀ x ∈ l, 0 ≤ x ∧ x ≤ 100000) :
    Ev (fun k => impl_Smooth.l0 k n m [] 0 l (l.length : Int) 0) (smV n m l, 0) := by
  cases l with
  | nil => exact Ev.step (fun k => rfl) (Ev.neg (show ¬ (0 : Int) < (([] : List Int).length : Int) by simp) (Ev.some' rfl))
  | cons x a =>
    have hx1 := hx x (by simp)
    rw [List.length_cons] at hl
    have hr : rd (x :: a) 0 = x := rfl
    refine Ev.step (fun k => rfl) (Ev.pos (show (0 : Int) < ((x :: a).length : Int) from (by first | omega | (simp; done) | (simp; omega))) (Ev.pos (by omega) (Ev.pos (by first | omega | (simp; done) | (simp; omega)) (Ev.pos (by rfl) (Ev.pos (by simp) ?_)))))
    rw [hr, w64 (x := 64 * x) (by omega) (by omega), w64 (x := (0 : Int) + 1) (by omega) (by omega)]
    exact impl_smRest n m h0 h1 hm hm2 a [x] [64 * x] (64 * x) (by simp) rfl (by simp; omega) (fun y hy => hx y (by simp [hy])) (by omega)
def smoothV (l : List Int) (n m : Int) : List Int × Int :=
  if 4096 < l.length then ([], 2) else if salesB l = true ∧ (1 ≤ m ∧ m ≤ 1000) ∧ (0 ≤ n ∧ n ≤ m) then (smV n m l, 0) else ([], 1)
theorem smoothV_length (l : List Int) (n m : Int) : (smoothV l n m).1.length ≤ 4096 := by
  unfold smoothV
  split
  · simp
  · split
    · rw [smV_length]; omega
    · simp
theorem implSmooth_ev (l : List Int) (n m : Int) : Ev (fun k => impl_Smooth.f k l n m) (smoothV l n m) := by
  unfold impl_Smooth.f impl_isList_int.f smoothV
  refine Ev.ret rfl ?_
  by_cases c1 : 4096 < l.length
  · rw [if_pos c1]; exact Ev.neg (by simp; omega) (Ev.some' rfl)
  rw [if_neg c1]
  refine Ev.pos (by simp; omega) (Ev.ret (areSales_ev l) ?_)
  by_cases c2 : salesB l = true
  · refine Ev.pos c2 (Ev.ret (within_ev _ _ _) ?_)
    by_cases c3 : 1 ≤ m ∧ m ≤ 1000
    · refine Ev.pos (by simpa using c3) (Ev.ret (within_ev _ _ _) ?_)
      by_cases c4 : 0 ≤ n ∧ n ≤ m
      · rw [if_pos ⟨c2, c3, c4⟩]
        exact Ev.pos (by simpa using c4) (impl_smooth_l0 n m c4.1 c4.2 c3.1 c3.2 l (by omega) (salesB_mem c2))
      · rw [if_neg (fun h => c4 h.2.2)]
        exact Ev.neg (by simpa using c4) (Ev.some' rfl)
    · rw [if_neg (fun h => c3 h.2.1)]
      exact Ev.neg (by simpa using c3) (Ev.some' rfl)
  · rw [if_neg (fun h => c2 h.1)]
    exact Ev.neg c2 (Ev.some' rfl)
/-- A source of draws: its code's bytes, its place (at most N), its seed. -/
def Srd (c : List Int) (a s N : Int) : Prop := (∀ x ∈ c, 0 ≤ x ∧ x ≤ 255) ∧ 0 ≤ a ∧ a ≤ N ∧ 0 ≤ s ∧ s ≤ 2147483647
theorem Srd.mono {c : List Int} {a s N M : Int} (h : Srd c a s N) (hM : N ≤ M) : Srd c a s M := ⟨h.1, h.2.1, by have := h.2.2.1; omega, h.2.2.2⟩
theorem rd_byte {c : List Int} (hc : ∀ x ∈ c, 0 ≤ x ∧ x ≤ 255) (i : Int) : 0 ≤ rd c i ∧ rd c i ≤ 255 := by
  unfold rd
  rw [List.getD_eq_getElem?_getD]
  cases h : c[i.toNat]? with
  | none => simp
  | some x => simpa using hc x (List.mem_of_getElem? h)
theorem byte_ok {c : List Int} {a s N : Int} (h : Srd c a s N) (hN : N ≤ 1000000000) : ∃ v s', spec_l00Src_byte.f c a s = some (v, a + 1, s') ∧ 0 ≤ v ∧ v ≤ 255 ∧ Srd c (a + 1) s' (N + 1) := by
  obtain ⟨hc, h0, h1, h2, h3⟩ := h
  unfold spec_l00Src_byte.f
  rw [w64 (x := a + 1) (by omega) (by omega), w64 (x := a + 1 - 1) (by omega) (by omega), show a + 1 - 1 = a by omega]
  have hb := rd_byte hc a
  generalize rd c a = b at hb
  rw [w64 (x := b) (by omega) (by omega), w64 (x := s * 31) (by omega) (by omega), w64 (x := s * 31 + b) (by omega) (by omega), w64 (x := s * 31 + b + 7) (by omega) (by omega), Int.tmod_eq_emod_of_nonneg (show 0 ≤ s * 31 + b + 7 by omega)]
  rw [w64 (x := s * 1103515245) (by omega) (by omega), w64 (x := s * 1103515245 + 12345) (by omega) (by omega), Int.tmod_eq_emod_of_nonneg (show 0 ≤ s * 1103515245 + 12345 by omega)]
  have e := Int.emod_nonneg (s * 1103515245 + 12345) (show (2147483648 : Int) ≠ 0 by decide)
  have e2 := Int.emod_lt_of_pos (s * 1103515245 + 12345) (show (0 : Int) < 2147483648 by decide)
  have f := Int.emod_nonneg (s * 31 + b + 7) (show (2147483648 : Int) ≠ 0 by decide)
  have f2 := Int.emod_lt_of_pos (s * 31 + b + 7) (show (0 : Int) < 2147483648 by decide)
  generalize (s * 1103515245 + 12345) % 2147483648 = t at e e2 ⊢
  generalize (s * 31 + b + 7) % 2147483648 = u at f f2 ⊢
  by_cases c1 : a + 1 ≤ (c.length : Int)
  · rw [if_pos c1, if_pos h0, if_pos (by omega)]
    exact ⟨_, _, rfl, hb.1, hb.2, hc, by omega, by omega, by omega, by omega⟩
  · rw [if_neg c1]
    by_cases c2 : a + 1 > 3000
    · rw [if_pos c2]
      exact ⟨_, _, rfl, by omega, by omega, hc, by omega, by omega, by omega, by omega⟩
    · rw [if_neg c2, Int.tdiv_eq_ediv_of_nonneg (by omega), w64 (by omega) (by omega), Int.tmod_eq_emod_of_nonneg (by omega)]
      exact ⟨_, _, rfl, by omega, by omega, hc, by omega, by omega, by omega, by omega⟩
theorem next_ok {c : List Int} {a s N : Int} (n : Int) (h : Srd c a s N) (hN : N ≤ 900000000) (h1 : 1 ≤ n) (h2 : n ≤ 16777216) : ∃ v a' s', spec_l00Src_next.f c a s n = some (v, a', s') ∧ 0 ≤ v ∧ v < n ∧ Srd c a' s' (N + 3) := by
  unfold spec_l00Src_next.f
  by_cases c1 : n ≤ 1
  · rw [if_pos c1]
    exact ⟨_, _, _, rfl, by omega, by omega, h.mono (by omega)⟩
  · rw [if_neg c1]
    obtain ⟨v, s1, hv, v0, v1, S1⟩ := byte_ok h (by omega)
    simp only [hv, Option.bind_some]
    have g := Int.emod_nonneg v (show n ≠ 0 by omega)
    have g2 := Int.emod_lt_of_pos v (show 0 < n by omega)
    by_cases c2 : n ≤ 256
    · rw [if_pos c2, if_neg (by omega), Int.tmod_eq_emod_of_nonneg (by omega)]
      exact ⟨_, _, _, rfl, g, g2, S1.mono (by omega)⟩
    · rw [if_neg c2]
      obtain ⟨x, s2, hx, x0, x1, S2⟩ := byte_ok S1 (by omega)
      simp only [hx, Option.bind_some]
      obtain ⟨y, s3, hy, y0, y1, S3⟩ := byte_ok S2 (by omega)
      simp only [hy, Option.bind_some]
      rw [if_neg (by omega)]
      rw [w64 (x := v * 65536) (by omega) (by omega), w64 (x := x * 256) (by omega) (by omega), w64 (x := v * 65536 + x * 256) (by omega) (by omega), w64 (by omega) (by omega), Int.tmod_eq_emod_of_nonneg (by omega)]
      exact ⟨_, _, _, rfl, Int.emod_nonneg _ (by omega), Int.emod_lt_of_pos _ (by omega), S3.mono (by omega)⟩
theorem source_ok (l : List Int) (h : ∀ x ∈ l, (Lit.int .u8 x).wf = true) : ∃ s, spec_l00Source.f l = some (l, 0, s) ∧ Srd l 0 s 0 := by
  refine ⟨_, rfl, fun x hx => bounds_u8 (h x hx), by omega, by omega, ?_, ?_⟩ <;> omega
theorem size_ok {c : List Int} (a s m : Int) (hc : c.length ≤ 1048576) (hm : 1 ≤ m) : ∃ v, spec_l00Src_size.f c a s m = some (v, a, s) ∧ 1 ≤ v ∧ v ≤ m := by
  unfold spec_l00Src_size.f
  rw [w64 (x := (c.length : Int) / 12) (by omega) (by omega), w64 (by omega) (by omega)]
  refine ⟨_, rfl, ?_, ?_⟩ <;> (unfold mn; split <;> omega)
theorem at_ok {c : List Int} (hc : ∀ x ∈ c, 0 ≤ x ∧ x ≤ 255) (i n : Int) (h0 : 0 ≤ i) (h1 : i ≤ 1000000) (hn : 1 ≤ n) : ∃ v, laws_at.f c i n = some v ∧ 0 ≤ v ∧ v < n := by
  unfold laws_at.f
  by_cases c1 : n ≤ 1
  · rw [if_pos c1]
    exact ⟨_, rfl, by omega, by omega⟩
  rw [if_neg c1]
  by_cases c2 : (c.length : Int) = 0
  · rw [if_pos c2, if_neg (by omega), w64 (by omega) (by omega), Int.tmod_eq_emod_of_nonneg (by omega)]
    exact ⟨_, rfl, Int.emod_nonneg _ (by omega), Int.emod_lt_of_pos _ (by omega)⟩
  · rw [if_neg c2]
    have e1 := Int.emod_nonneg i c2
    have e2 := Int.emod_lt_of_pos i (show (0 : Int) < (c.length : Int) by omega)
    have f1 := Int.emod_nonneg (i + 1) c2
    have f2 := Int.emod_lt_of_pos (i + 1) (show (0 : Int) < (c.length : Int) by omega)
    have g1 : 0 ≤ i / (c.length : Int) := Int.ediv_nonneg h0 (by omega)
    have g2 : i / (c.length : Int) ≤ i := Int.ediv_le_self _ h0
    rw [w64 (x := i + 1) (by omega) (by omega), Int.tmod_eq_emod_of_nonneg h0, Int.tmod_eq_emod_of_nonneg (show 0 ≤ i + 1 by omega), Int.tdiv_eq_ediv_of_nonneg h0]
    have b1 := rd_byte hc (i % (c.length : Int))
    have b2 := rd_byte hc ((i + 1) % (c.length : Int))
    generalize rd c (i % (c.length : Int)) = x at b1 ⊢
    generalize rd c ((i + 1) % (c.length : Int)) = y at b2 ⊢
    generalize i / (c.length : Int) = z at g1 g2 ⊢
    rw [if_pos e1, if_pos e2, if_pos f1, if_pos f2, if_neg (by omega), w64 (x := x) (by omega) (by omega), w64 (x := y) (by omega) (by omega), w64 (x := z) (by omega) (by omega), w64 (x := x * 31) (by omega) (by omega), w64 (x := x * 31 + y) (by omega) (by omega), w64 (by omega) (by omega), Int.tmod_eq_emod_of_nonneg (by omega)]
    exact ⟨_, rfl, Int.emod_nonneg _ (by omega), Int.emod_lt_of_pos _ (by omega)⟩
theorem sameInts_l0 : ∀ (a p : List Int), (p ++ a).length < 4611686018427387904 → Ev (fun k => laws_sameInts.l0 k (p ++ a) (p ++ a) (p.length : Int)) true := by
  intro a
  induction a with
  | nil => intro p hl; exact Ev.step (fun k => rfl) (Ev.neg (len_end p) (Ev.some' rfl))
  | cons x a ih =>
    intro p hl
    have hl' := hl
    rw [List.length_append, List.length_cons] at hl'
    refine Ev.step (fun k => rfl) (Ev.pos (len_lt p x a) (Ev.pos (by omega) (Ev.pos (len_lt p x a) (Ev.pos rfl ?_))))
    rw [w64 (by omega) (by omega), ← len_snoc p x, snoc p x a]
    exact ih (p ++ [x]) (by rw [← snoc]; exact hl)
theorem sameInts_ev (a : List Int) (hl : a.length < 4611686018427387904) : Ev (fun k => laws_sameInts.f k a a) true := by
  unfold laws_sameInts.f
  exact Ev.pos rfl (sameInts_l0 a [] hl)
theorem SalesOf_l0 (c : List Int) : ∀ (n : Nat) (acc : List Int) (a s N : Int), Srd c a s N → N + 3 * n ≤ 1000000 → acc.length + n ≤ 40 → 1 ≤ acc.length → (∀ x ∈ acc, 0 ≤ x ∧ x ≤ 100) →
    ∃ L p m, Ev (fun k => spec_SalesOf.l0 k acc (n : Int) c a s) (L, p, m) ∧ 1 ≤ L.length ∧ L.length ≤ 40 ∧ (∀ x ∈ L, 0 ≤ x ∧ x ≤ 100) ∧ 0 ≤ p ∧ p ≤ m ∧ 1 ≤ m ∧ m ≤ 20 := by
  intro n
  induction n with
  | zero =>
    intro acc a s N hS hN hl hl1 hx
    obtain ⟨v, a1, s1, e1, l1, u1, S1⟩ := next_ok 20 hS (by omega) (by omega) (by omega)
    have h1 : wrap64 (1 + v) = 1 + v := w64 (by omega) (by omega)
    have h2 : wrap64 (1 + v + 1) = 1 + v + 1 := w64 (by omega) (by omega)
    obtain ⟨w, a2, s2, e2, l2, u2, S2⟩ := next_ok (1 + v + 1) S1 (by omega) (by omega) (by omega)
    refine ⟨acc, w, 1 + v, Ev.step (fun k => rfl) (Ev.neg (show ¬ ((0 : Nat) : Int) > 0 by omega) (Ev.ret e1 ?_)), by omega, by omega, hx, by omega, by omega, by omega, by omega⟩
    simp only [h1, h2]
    exact Ev.ret e2 (Ev.some' rfl)
  | succ n ih =>
    intro acc a s N hS hN hl hl1 hx
    obtain ⟨v, a1, s1, e1, l1, u1, S1⟩ := next_ok 40 hS (by omega) (by omega) (by omega)
    obtain ⟨L, p, m, h1, h2⟩ := ih (acc ++ [v]) a1 s1 _ S1 (by omega) (by simp; omega) (by simp) (by
      intro x h
      rcases List.mem_append.1 h with h | h
      · exact hx x h
      · rw [List.mem_singleton.1 h]; omega)
    refine ⟨L, p, m, Ev.step (fun k => rfl) (Ev.pos (show ((n + 1 : Nat) : Int) > 0 by omega) (Ev.ret e1 (Ev.pos (by omega) ?_))), h2⟩
    rw [w64 (by omega) (by omega), show ((n + 1 : Nat) : Int) - 1 = (n : Int) by omega]
    exact h1
theorem SalesOf_ok (l : List Int) (h : ∀ x ∈ l, (Lit.int .u8 x).wf = true) (hl : l.length ≤ 1048576) :
    ∃ L p m, Ev (fun k => spec_SalesOf.f k l) (L, p, m) ∧ 1 ≤ L.length ∧ L.length ≤ 40 ∧ (∀ x ∈ L, 0 ≤ x ∧ x ≤ 100) ∧ 0 ≤ p ∧ p ≤ m ∧ 1 ≤ m ∧ m ≤ 20 := by
  obtain ⟨s, hs, S0⟩ := source_ok l h
  obtain ⟨v, a1, s1, e1, l1, u1, S1⟩ := next_ok 30 S0 (by omega) (by omega) (by omega)
  obtain ⟨z, e0, z0, z1⟩ := size_ok (c := l) a1 s1 20 hl (by omega)
  have hz : wrap64 (z + 2) = z + 2 := w64 (by omega) (by omega)
  have hv : wrap64 (1 + v) = 1 + v := w64 (by omega) (by omega)
  obtain ⟨w, a2, s2, e2, l2, u2, S2⟩ := next_ok (z + 2) S1 (by omega) (by omega) (by omega)
  obtain ⟨L, p, m, h1, h2⟩ := SalesOf_l0 l w.toNat [1 + v] a2 s2 _ S2 (by omega) (by simp; omega) (by simp) (by intro x h; rw [List.mem_singleton.1 h]; omega)
  rw [Int.toNat_of_nonneg l2] at h1
  refine ⟨L, p, m, ?_, h2⟩
  unfold spec_SalesOf.f
  refine Ev.ret hs (Ev.ret e1 (Ev.ret e0 ?_))
  simp only [hz, hv]
  exact Ev.ret e2 h1
theorem smRest_mid (n m : Int) (h0 : 0 ≤ n) (h1 : n ≤ m) (hm : 1 ≤ m) : ∀ (a : List Int) (lv : Int) (i : Nat), i < a.length →
    min ((lv :: smRest n m lv a).getD i 0) (64 * a.getD i 0) ≤ (lv :: smRest n m lv a).getD (i + 1) 0 ∧ (lv :: smRest n m lv a).getD (i + 1) 0 ≤ max ((lv :: smRest n m lv a).getD i 0) (64 * a.getD i 0) := by
  intro a
  induction a with
  | nil => intro lv i h; simp at h
  | cons x a ih =>
    intro lv i h
    cases i with
    | zero =>
      obtain ⟨s1, s2⟩ := share_mid (64 * x - lv) n m h0 h1 hm
      show min lv (64 * x) ≤ lv + (64 * x - lv) * n / m ∧ lv + (64 * x - lv) * n / m ≤ max lv (64 * x)
      by_cases c : 0 ≤ 64 * x - lv
      · have := s1 c; omega
      · have := s2 (by omega); omega
    | succ i => exact ih (lv + (64 * x - lv) * n / m) i (by simpa using h)
theorem smRest_all (m : Int) (hm : 1 ≤ m) : ∀ (a : List Int) (lv : Int), smRest m m lv a = a.map (64 * ·) := by
  intro a
  induction a with
  | nil => intro lv; rfl
  | cons x a ih =>
    intro lv
    rw [smRest, ih, Int.mul_ediv_cancel _ (by omega)]
    simp only [List.map_cons]
    congr 1
    omega
theorem smV_all (m : Int) (hm : 1 ≤ m) (l : List Int) : smV m m l = l.map (64 * ·) := by
  cases l with
  | nil => rfl
  | cons x a => rw [smV, smRest_all m hm]; rfl
theorem smRest_take (n m : Int) : ∀ (a : List Int) (lv : Int) (c : Nat), smRest n m lv (a.take c) = (smRest n m lv a).take c := by
  intro a
  induction a with
  | nil => intro lv c; simp [smRest]
  | cons x a ih =>
    intro lv c
    cases c with
    | zero => rfl
    | succ c => simp only [List.take_succ_cons, smRest, ih]
theorem smV_take (n m : Int) (a : List Int) (c : Nat) : smV n m (a.take c) = (smV n m a).take c := by
  cases a with
  | nil => simp [smV]
  | cons x a =>
    cases c with
    | zero => rfl
    | succ c => simp only [List.take_succ_cons, smV, smRest_take]
theorem get64 (l : List Int) (i : Nat) (hi : i < l.length) : (l.map (64 * ·)).getD i 0 = 64 * l.getD i 0 := by
  rw [List.getD_eq_getElem?_getD, List.getD_eq_getElem?_getD, List.getElem?_map, List.getElem?_eq_getElem hi]
  rfl
theorem get_in (l : List Int) (hx : ∀ x ∈ l, 0 ≤ x ∧ x ≤ 100) (i : Nat) (hi : i < l.length) : 0 ≤ l.getD i 0 ∧ l.getD i 0 ≤ 100 := by
  rw [List.getD_eq_getElem?_getD, List.getElem?_eq_getElem hi]
  exact hx _ (List.getElem_mem hi)
theorem smV_mid (n m : Int) (h0 : 0 ≤ n) (h1 : n ≤ m) (hm : 1 ≤ m) (l : List Int) (i : Nat) (h : i + 1 < l.length) :
    min ((smV n m l).getD i 0) (64 * l.getD (i + 1) 0) ≤ (smV n m l).getD (i + 1) 0 ∧ (smV n m l).getD (i + 1) 0 ≤ max ((smV n m l).getD i 0) (64 * l.getD (i + 1) 0) := by
  cases l with
  | nil => simp at h
  | cons x a => exact smRest_mid n m h0 h1 hm a (64 * x) i (by simpa using h)
theorem law_l0 (c S : List Int) (n m : Int) (h0 : 0 ≤ n) (h1 : n ≤ m) (hm : 1 ≤ m) (hS : S.length ≤ 40) (hx : ∀ x ∈ S, 0 ≤ x ∧ x ≤ 100)
    (hend : Ev (fun k => laws_FnSmooth.l0 k c S n m (smV n m S) (S.map (64 * ·)) (S.length : Int)) true) :
    ∀ (d i : Nat), i + d = S.length → Ev (fun k => laws_FnSmooth.l0 k c S n m (smV n m S) (S.map (64 * ·)) (i : Int)) true := by
  intro d
  induction d with
  | zero => intro i hi; rw [show i = S.length by omega]; exact hend
  | succ d ih =>
    intro i hi
    have hn := ih (i + 1) (by omega)
    have hxi := get_in S hx i (by omega)
    have hlen := smV_length n m S
    have hw : wrap64 (64 * S.getD i 0) = 64 * S.getD i 0 := w64 (by omega) (by omega)
    have hwi : wrap64 ((i : Int) + 1) = ((i + 1 : Nat) : Int) := w64n (by omega)
    refine Ev.step (fun k => rfl) (Ev.pos (show (i : Int) < (S.length : Int) by omega) (Ev.pos (by omega) (Ev.pos (by simp; omega) ?_)))
    rw [rd_nat, rd_nat, get64 S i (by omega), hw]
    refine Ev.pos rfl ?_
    cases i with
    | zero =>
      refine Ev.pos (by rfl) (Ev.pos (by omega) ?_)
      have hh : rd (smV n m S) 0 = 64 * S.getD 0 0 := by
        cases S with
        | nil => simp at hi
        | cons x a => rfl
      rw [hh, show (64 * S.getD 0 0 != 64 * S.getD 0 0) = false by simp]
      refine Ev.via (f := fun k => laws_FnSmooth.l0 k c S n m (smV n m S) (S.map (64 * ·)) (wrap64 (((0 : Nat) : Int) + 1))) ?_ (fun k => rfl)
      rw [hwi]
      exact hn
    | succ i =>
      have hmid := smV_mid n m h0 h1 hm S i (by omega)
      refine Ev.neg (by omega) (Ev.step (fun k => rfl) (Ev.pos (show ((i + 1 : Nat) : Int) > 0 by omega) (Ev.pos (by omega) (Ev.pos (by omega) ?_))))
      have hw1 : wrap64 (((i + 1 : Nat) : Int) - 1) = (i : Int) := by rw [w64 (by omega) (by omega)]; omega
      rw [hw1, rd_nat, rd_nat, hwi]
      refine Ev.pos (by omega) (Ev.pos (by omega) (Ev.neg ?_ (Ev.neg ?_ hn)))
      · unfold mn; split <;> omega
      · unfold mx; split <;> omega
theorem FnSmooth : laws_FnSmooth.Pure := by
  intro l c h hc
  refine Ev.rounds (?_ : Ev (fun k => laws_FnSmooth.f k l c) true)
  unfold laws_FnSmooth.f
  by_cases c1 : (l.length : Int) > 1048576
  · exact Ev.pos c1 (Ev.via (Ev.some' rfl) (fun k => rfl))
  refine Ev.neg c1 ?_
  by_cases c2 : (c.length : Int) > 1048576
  · rw [decide_eq_true c2]
    exact Ev.via (Ev.some' rfl) (fun k => rfl)
  rw [decide_eq_false c2]
  obtain ⟨S, n, m, hd, hS1, hS, hx, h0, h1, hm, hm2⟩ := SalesOf_ok l h.2 (by omega)
  have hB : ∀ T : List Int, (∀ x ∈ T, 0 ≤ x ∧ x ≤ 100) → salesB T = true := by
    intro T hT
    refine List.all_eq_true.2 fun x hx => ?_
    have := hT x hx
    simp; omega
  have hv : ∀ (T : List Int) (p : Int), T.length ≤ 40 → (∀ x ∈ T, 0 ≤ x ∧ x ≤ 100) → 0 ≤ p → p ≤ m → Ev (fun k => impl_Smooth.f k T p m) (smV p m T, 0) := by
    intro T p hT hTx hp0 hp1
    refine Ev.eq (implSmooth_ev T p m) ?_
    unfold smoothV
    rw [if_neg (by omega), if_pos ⟨hB T hTx, ⟨hm, by omega⟩, hp0, hp1⟩]
  refine Ev.step (fun k => rfl) (Ev.bind hd (Ev.bind (hv S n hS hx h0 h1) (Ev.bind (hv S m hS hx (by omega) (by omega)) ?_)))
  have hl1 := smV_length n m S
  rw [smV_all m hm]
  refine Ev.pos rfl (Ev.pos rfl (Ev.pos (by simp only; omega) ?_))
  simp only [List.length_map, bne_self_eq_false]
  refine Ev.via (law_l0 c S n m h0 h1 hm hS hx ?_ S.length 0 (by omega)) (fun k => rfl)
  obtain ⟨v, ha, v0, v1⟩ := at_ok (fun x hx => bounds_u8 (hc.2 x hx)) 0 (S.length : Int) (by omega) (by omega) (by omega)
  have hw : wrap64 (1 + v) = 1 + v := w64 (by omega) (by omega)
  refine Ev.step (fun k => rfl) (Ev.neg (show ¬ (S.length : Int) < (S.length : Int) by omega) (Ev.ret ha ?_))
  rw [hw]
  refine Ev.pos (by omega) (Ev.pos (by omega) (Ev.bind (hv (S.take (1 + v).toNat) n (by simp; omega) (fun x hx' => hx x (List.mem_of_mem_take hx')) h0 h1) (Ev.pos rfl (Ev.pos (by omega) ?_))))
  rw [smV_take]
  exact Ev.bind (sameInts_ev _ (by simp; omega)) (Ev.some' rfl)

end Go.Proofs.Ytbljkgllicnkkaa.Pure
