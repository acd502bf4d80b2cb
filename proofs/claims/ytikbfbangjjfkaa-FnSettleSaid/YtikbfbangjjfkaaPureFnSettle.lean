/- Of two drawn lists what the program pairs is the same in both, each once, nothing that is left could be paired, and the difference is that of what is left: the law's plain statement, with no condition. -/
import Derived.Test.YtikbfbangjjfkaaXFnSettlex6
import Derived.Test.YtikbfbangjjfkaaAx
import Derived.Test.YtikbfbangjjfkaaIdx
namespace Go.Proofs.Ytikbfbangjjfkaa.Pure
open Go.RowKit Go.Proofs.Ytikbfbangjjfkaa.XFnSettle Go.Proofs.YtikbfbangjjfkaaW.PrintWords Go.Proofs.YtikbfbangjjfkaaW.PrintLast
open Go.Proofs.YtikbfbangjjfkaaW.Ax Go.Proofs.YtikbfbangjjfkaaW.Idx
set_option linter.unusedVariables false
set_option linter.unusedSimpArgs false
theorem within_ev (a b c : Int) : impl_within.f a b c = some (decide (b ≤ a ∧ a ≤ c)) := by
  unfold impl_within.f
  by_cases h : a ≥ b
  · rw [if_pos h]; congr 1; rw [decide_eq_decide]; omega
  · rw [if_neg h]; congr 1; symm; rw [decide_eq_false_iff_not]; omega
/-- A source of draws: its code's bytes, its place (at most N), its seed. -/
def Srd (c : List Int) (a s N : Int) : Prop := (∀ x ∈ c, 0 ≤ x ∧ x ≤ 255) ∧ 0 ≤ a ∧ a ≤ N ∧ 0 ≤ s ∧ s ≤ 2147483647
theorem Srd.mono {c : List Int} {a s N M : Int} (h : Srd c a s N) (hM : N ≤ M) : Srd c a s M := ⟨h.1, h.2.1, by have := h.2.2.1; omega, h.2.2.2⟩
theorem rd_byte {c : List Int} (hc : ∀ x ∈ c, 0 ≤ x ∧ x ≤ 255) (i : Int) : 0 ≤ rd c i ∧ rd c i ≤ 255 := by
  unfold rd
  rw [List.getD_eq_getElem?_getD]
  cases h : c[i.toNat]? with
  | none => simp
  | some x => simpa using hc x (List.mem_of_getElem? h)
theorem byte_ok {c : List Int} {a s N : Int} (h : Srd c a s N) (hN : N ≤ 1000000000) : ∃ v s', spec_l00Src_byte.f c a s = some (v, a + 1, s') ∧ 0 ≤ v ∧ v ≤ 255 ∧ Srd c (a + 1) s' (N + 1) := by
  obtain ⟨hc, h0, h1, h2, h3⟩ := h
  unfold spec_l00Src_byte.f
  rw [w64 (x := a + 1) (by omega) (by omega), w64 (x := a + 1 - 1) (by omega) (by omega), show a + 1 - 1 = a by omega]
  have hb := rd_byte hc a
  generalize rd c a = b at hb
  rw [w64 (x := b) (by omega) (by omega), w64 (x := s * 31) (by omega) (by omega), w64 (x := s * 31 + b) (by omega) (by omega), w64 (x := s * 31 + b + 7) (by omega) (by omega), Int.tmod_eq_emod_of_nonneg (show 0 ≤ s * 31 + b + 7 by omega)]
  rw [w64 (x := s * 1103515245) (by omega) (by omega), w64 (x := s * 1103515245 + 12345) (by omega) (by omega), Int.tmod_eq_emod_of_nonneg (show 0 ≤ s * 1103515245 + 12345 by omega)]
  have e := Int.emod_nonneg (s * 1103515245 + 12345) (show (2147483648 : Int) ≠ 0 by decide)
  have e2 := Int.emod_lt_of_pos (s * 1103515245 + 12345) (show (0 : Int) < 2147483648 by decide)
  have f := Int.emod_nonneg (s * 31 + b + 7) (show (2147483648 : Int) ≠ 0 by decide)
  have f2 := Int.emod_lt_of_pos (s * 31 + b + 7) (show (0 : Int) < 2147483648 by decide)
  generalize (s * 1103515245 + 12345) % 2147483648 = t at e e2 ⊢
  generalize (s * 31 + b + 7) % 2147483648 = u at f f2 ⊢
  by_cases c1 : a + 1 ≤ (c.length : Int)
  · rw [if_pos c1, if_pos h0, if_pos (by omega)]
    exact ⟨_, _, rfl, hb.1, hb.2, hc, by omega, by omega, by omega, by omega⟩
  · rw [if_neg c1]
    by_cases c2 : a + 1 > 3000
    · rw [if_pos c2]
      exact ⟨_, _, rfl, by omega, by omega, hc, by omega, by omega, by omega, by omega⟩
    · rw [if_neg c2, Int.tdiv_eq_ediv_of_nonneg (by omega), w64 (by omega) (by omega), Int.tmod_eq_emod_of_nonneg (by omega)]
      exact ⟨_, _, rfl, by omega, by omega, hc, by omega, by omega, by omega, by omega⟩
theorem next_ok {c : List Int} {a s N : Int} (n : Int) (h : Srd c a s N) (hN : N ≤ 900000000) (h1 : 1 ≤ n) (h2 : n ≤ 16777216) : ∃ v a' s', spec_l00Src_next.f c a s n = some (v, a', s') ∧ 0 ≤ v ∧ v < n ∧ Srd c a' s' (N + 3) := by
  unfold spec_l00Src_next.f
  by_cases c1 : n ≤ 1
  · rw [if_pos c1]
    exact ⟨_, _, _, rfl, by omega, by omega, h.mono (by omega)⟩
  · rw [if_neg c1]
    obtain ⟨v, s1, hv, v0, v1, S1⟩ := byte_ok h (by omega)
    simp only [hv, Option.bind_some]
    have g := Int.emod_nonneg v (show n ≠ 0 by omega)
    have g2 := Int.emod_lt_of_pos v (show 0 < n by omega)
    by_cases c2 : n ≤ 256
    · rw [if_pos c2, if_neg (by omega), Int.tmod_eq_emod_of_nonneg (by omega)]
      exact ⟨_, _, _, rfl, g, g2, S1.mono (by omega)⟩
    · rw [if_neg c2]
      obtain ⟨x, s2, hx, x0, x1, S2⟩ := byte_ok S1 (by omega)
      simp only [hx, Option.bind_some]
      obtain ⟨y, s3, hy, y0, y1, S3⟩ := byte_ok S2 (by omega)
      simp only [hy, Option.bind_some]
      rw [if_neg (by omega)]
      rw [w64 (x := v * 65536) (by omega) (by omega), w64 (x := x * 256) (by omega) (by omega), w64 (x := v * 65536 + x * 256) (by omega) (by omega), w64 (by omega) (by omega), Int.tmod_eq_emod_of_nonneg (by omega)]
      exact ⟨_, _, _, rfl, Int.emod_nonneg _ (by omega), Int.emod_lt_of_pos _ (by omega), S3.mono (by omega)⟩
theorem source_ok (l : List Int) (h : ∀ x ∈ l, (Lit.int .u8 x).wf = true) : ∃ s, spec_l00Source.f l = some (l, 0, s) ∧ Srd l 0 s 0 := by
  refine ⟨_, rfl, fun x hx => bounds_u8 (h x hx), by omega, by omega, ?_, ?_⟩ <;> omega
theorem size_ok {c : List Int} (a s m : Int) (hc : c.length ≤ 1048576) (hm : 1 ≤ m) : ∃ v, spec_l00Src_size.f c a s m = some (v, a, s) ∧ 1 ≤ v ∧ v ≤ m := by
  unfold spec_l00Src_size.f
  rw [w64 (x := (c.length : Int) / 12) (by omega) (by omega), w64 (by omega) (by omega)]
  refine ⟨_, rfl, ?_, ?_⟩ <;> (unfold mn; split <;> omega)
/-! ### counting -/
/-- How often each of the first n numbers stands in xs. -/
def cntL (n : Nat) (xs : List Int) : List Int := (List.range n).map (fun j : Nat => ((xs.count (j : Int) : Nat) : Int))
theorem cntL_length (n : Nat) (xs : List Int) : (cntL n xs).length = n := by simp [cntL]
theorem cntL_nil (n : Nat) : cntL n [] = List.replicate n 0 := by
  unfold cntL
  rw [List.eq_replicate_iff]
  refine ⟨by simp, fun b hb => ?_⟩
  obtain ⟨j, _, rfl⟩ := List.mem_map.1 hb
  rfl
theorem cntL_getD (n : Nat) (xs : List Int) (i : Nat) (h : i < n) : (cntL n xs).getD i 0 = ((xs.count (i : Int) : Nat) : Int) := by
  unfold cntL
  rw [List.getD_eq_getElem?_getD, List.getElem?_map, List.getElem?_range h]
  rfl
theorem cntL_snoc (n : Nat) (xs : List Int) (x : Int) (h0 : 0 ≤ x) (h1 : x < (n : Int)) (hl : xs.length < 1000000) :
    (cntL n xs).set x.toNat (wrap64 (rd (cntL n xs) x + 1)) = cntL n (xs ++ [x]) := by
  obtain ⟨i, rfl⟩ := Int.eq_ofNat_of_zero_le h0
  have hi : i < n := by omega
  have hc : xs.count (i : Int) ≤ xs.length := List.count_le_length
  rw [rd_nat, cntL_getD n xs i hi, w64 (by omega) (by omega), Int.toNat_natCast]
  apply List.ext_getElem?
  intro j
  unfold cntL
  rw [List.getElem?_set, List.getElem?_map, List.getElem?_map, List.length_map, List.length_range]
  by_cases e : i = j
  · subst e
    rw [if_pos rfl, if_pos hi, List.getElem?_range hi]
    simp [List.count_append]
  · rw [if_neg e]
    by_cases hj : j < n
    · rw [List.getElem?_range hj]
      have : ¬ (i : Int) = (j : Int) := by omega
      simp [List.count_append, this]
    · rw [List.getElem?_eq_none (by simpa using hj)]
      rfl

theorem rdS_mid (p : List S33) (x : S33) (r : List S33) : rd_T33 (p ++ x :: r) (p.length : Int) = x := getD_mid p x r z33
theorem rdS_nat (l : List S33) (i : Nat) : rd_T33 l (i : Int) = l.getD i z33 := by
  unfold rd_T33
  rw [Int.toNat_natCast]
theorem rdB_nat (l : List Bool) (i : Nat) : rdOf false l (i : Int) = l.getD i false := by
  unfold rdOf
  rw [Int.toNat_natCast]
theorem getD_cut {α : Type} (p : List α) (x : α) (r : List α) (d : α) : (p ++ x :: r).getD p.length d = x := by
  have := getD_mid p x r d
  rwa [Int.toNat_natCast] at this
/-- What the program calls the same. -/
def sameS (x y : S33) : Bool := x.f0.toList == y.f0.toList && (x.f1 == y.f1)
theorem sameS_f1 {x y : S33} (h : sameS x y = true) : x.f1 = y.f1 := by
  unfold sameS at h
  rw [Bool.and_eq_true] at h
  exact eq_of_beq h.2
theorem sameS_f0 {x y : S33} (h : sameS x y = true) : x.f0.toList = y.f0.toList := by
  unfold sameS at h
  rw [Bool.and_eq_true] at h
  exact eq_of_beq h.1
/-- An entry that is drawn. -/
def gS (x : S33) : Prop := (x.f0 = ⟨#[97]⟩ ∨ x.f0 = ⟨#[98]⟩ ∨ x.f0 = ⟨#[99]⟩) ∧ 0 ≤ x.f1 ∧ x.f1 ≤ 15
def sumI {α : Type} (f : α → Int) : List α → Int
  | [] => 0
  | x :: l => f x + sumI f l
theorem sumI_append {α : Type} (f : α → Int) : ∀ a b, sumI f (a ++ b) = sumI f a + sumI f b := by
  intro a
  induction a with
  | nil => intro b; simp [sumI]
  | cons x a ih => intro b; rw [List.cons_append, sumI, sumI, ih]; omega
theorem sumI_one {α : Type} (f : α → Int) (a : List α) (x : α) : sumI f (a ++ [x]) = sumI f a + f x := by rw [sumI_append, sumI, sumI]; omega
def sumA (l : List S33) : Int := sumI (fun x => x.f1) l
def sT : List Bool → List S33 → Int
  | b :: T, x :: l => (if b = true then x.f1 else 0) + sT T l
  | _, _ => 0
def sF : List Bool → List S33 → Int
  | b :: T, x :: l => (if b = true then 0 else x.f1) + sF T l
  | _, _ => 0
def cT : List Bool → Nat
  | [] => 0
  | b :: T => (if b = true then 1 else 0) + cT T
def uL : Nat → List Bool → List Int
  | _, [] => []
  | n, b :: T => if b = true then uL (n + 1) T else (n : Int) :: uL (n + 1) T
theorem sT_sF : ∀ (T : List Bool) (l : List S33), T.length = l.length → sT T l + sF T l = sumA l := by
  intro T
  induction T with
  | nil => intro l h; obtain rfl : l = [] := List.eq_nil_of_length_eq_zero (by simpa using h.symm); rfl
  | cons b T ih =>
    intro l h
    cases l with
    | nil => simp at h
    | cons x l =>
      have := ih l (by simpa using h)
      unfold sumA at this ⊢
      rw [sT, sF, sumI]
      cases b with
      | true => rw [if_pos rfl, if_pos rfl]; omega
      | false => rw [if_neg ff, if_neg ff]; omega
theorem sF_bounds : ∀ (T : List Bool) (l : List S33), (∀ x ∈ l, gS x) → 0 ≤ sF T l ∧ sF T l ≤ 15 * l.length := by
  intro T
  induction T with
  | nil => intro l h; simp only [sF]; omega
  | cons b T ih =>
    intro l h
    cases l with
    | nil => simp [sF]
    | cons x l =>
      have h1 := ih l (fun y hy => h y (List.mem_cons_of_mem x hy))
      have h2 := (h x (by simp)).2
      rw [sF, List.length_cons]
      cases b with
      | true => rw [if_pos rfl]; omega
      | false => rw [if_neg ff]; omega
theorem uL_len : ∀ (T : List Bool) (n : Nat), (uL n T).length + cT T = T.length := by
  intro T
  induction T with
  | nil => intro n; rfl
  | cons b T ih =>
    intro n
    have := ih (n + 1)
    rw [uL, cT, List.length_cons]
    cases b with
    | true => rw [if_pos rfl, if_pos rfl]; omega
    | false => rw [if_neg ff, if_neg ff, List.length_cons]; omega
theorem uL_mem : ∀ (T : List Bool) (n : Nat) (m : Int), m ∈ uL n T → ∃ j : Nat, m = ((n + j : Nat) : Int) ∧ j < T.length ∧ T.getD j false = false := by
  intro T
  induction T with
  | nil => intro n m h; simp [uL] at h
  | cons b T ih =>
    intro n m h
    rw [uL] at h
    have hr : m ∈ uL (n + 1) T → ∃ j : Nat, m = ((n + j : Nat) : Int) ∧ j < (b :: T).length ∧ (b :: T).getD j false = false := by
      intro h
      obtain ⟨j, h1, h2, h3⟩ := ih (n + 1) m h
      exact ⟨j + 1, by rw [h1]; omega, by rw [List.length_cons]; omega, by simpa using h3⟩
    cases b with
    | true => rw [if_pos rfl] at h; exact hr h
    | false =>
      rw [if_neg ff] at h
      rcases List.mem_cons.1 h with h | h
      · exact ⟨0, by rw [h]; rfl, by simp, rfl⟩
      · exact hr h
theorem uL_ge : ∀ (T : List Bool) (n : Nat) (j : Nat), j < n → (uL n T).count (j : Int) = 0 := by
  intro T n j h
  rw [List.count_eq_zero]
  intro hm
  obtain ⟨i, h1, _⟩ := uL_mem T n _ hm
  omega
theorem uL_count : ∀ (T : List Bool) (n : Nat) (j : Nat), j < T.length → (uL n T).count ((n + j : Nat) : Int) = if T.getD j false = true then 0 else 1 := by
  intro T
  induction T with
  | nil => intro n j h; simp at h
  | cons b T ih =>
    intro n j h
    cases j with
    | zero =>
      rw [uL]
      cases b with
      | true => rw [if_pos rfl, uL_ge T (n + 1) (n + 0) (by omega)]; simp
      | false => rw [if_neg ff, List.count_cons, Nat.add_zero, uL_ge T (n + 1) n (by omega)]; simp
    | succ j =>
      have h2 := ih (n + 1) j (by simpa using h)
      rw [show n + 1 + j = n + (j + 1) by omega] at h2
      rw [uL, List.getD_cons_succ]
      cases b with
      | true => rw [if_pos rfl]; exact h2
      | false =>
        rw [if_neg ff, List.count_cons, h2]
        have : ((n : Int) == ((n + (j + 1) : Nat) : Int)) = false := by
          rw [beq_eq_false_iff_ne]; omega
        rw [this]
        simp
theorem uL_sum : ∀ (T : List Bool) (l p : List S33), T.length = l.length → sumI (fun m => (rd_T33 (p ++ l) m).f1) (uL p.length T) = sF T l := by
  intro T
  induction T with
  | nil => intro l p h; rfl
  | cons b T ih =>
    intro l p h
    cases l with
    | nil => simp at h
    | cons x l =>
      have h2 := ih l (p ++ [x]) (by simpa using h)
      rw [← snoc, List.length_append, List.length_singleton] at h2
      rw [uL, sF]
      cases b with
      | true => rw [if_pos rfl, if_pos rfl, h2]; omega
      | false => rw [if_neg ff, if_neg ff, sumI, h2, rdS_mid]
theorem set_getD (T : List Bool) (f j : Nat) (hf : f < T.length) : (T.set f true).getD j false = if j = f then true else T.getD j false := by
  rw [List.getD_eq_getElem?_getD, List.getElem?_set]
  by_cases e : f = j
  · subst e
    rw [if_pos rfl, if_pos hf, if_pos rfl]
    rfl
  · rw [if_neg e, if_neg (fun h => e h.symm), List.getD_eq_getElem?_getD]
theorem cT_set : ∀ (T : List Bool) (f : Nat), f < T.length → T.getD f false = false → cT (T.set f true) = cT T + 1 := by
  intro T
  induction T with
  | nil => intro f h; simp at h
  | cons b T ih =>
    intro f h h0
    cases f with
    | zero =>
      obtain rfl : b = false := by simpa using h0
      rw [List.set_cons_zero, cT, cT, if_pos rfl, if_neg ff]; omega
    | succ f =>
      rw [List.set_cons_succ, cT, cT, ih f (by simpa using h) (by simpa using h0)]; omega
theorem sT_set : ∀ (T : List Bool) (l : List S33) (f : Nat), T.length = l.length → f < T.length → T.getD f false = false → sT (T.set f true) l = sT T l + (l.getD f z33).f1 := by
  intro T
  induction T with
  | nil => intro l f _ h; simp at h
  | cons b T ih =>
    intro l f hl h h0
    cases l with
    | nil => simp at hl
    | cons x l =>
      cases f with
      | zero =>
        obtain rfl : b = false := by simpa using h0
        rw [List.set_cons_zero, sT, sT, if_pos rfl, if_neg ff, List.getD_cons_zero]; omega
      | succ f =>
        rw [List.set_cons_succ, sT, sT, ih l f (by simpa using hl) (by simpa using h) (by simpa using h0), List.getD_cons_succ]; omega
theorem first_or_none (q : Nat → Bool) : ∀ n, (∃ f, f < n ∧ q f = true ∧ ∀ b, b < f → q b = false) ∨ ∀ b, b < n → q b = false := by
  intro n
  induction n with
  | zero => exact .inr (fun b hb => absurd hb (Nat.not_lt_zero b))
  | succ n ih =>
    rcases ih with ⟨f, h1, h2, h3⟩ | h
    · exact .inl ⟨f, by omega, h2, h3⟩
    · cases hq : q n with
      | true => exact .inl ⟨n, by omega, hq, h⟩
      | false =>
        refine .inr (fun b hb => ?_)
        by_cases e : b = n
        · rw [e]; exact hq
        · exact h b (by omega)
/-! ### the program's pairing -/
structure SetI (mine bank : List S33) (i : Nat) (P : List (List Int)) (M : List Int) (T : List Bool) (D : Int) : Prop where
  lenT : T.length = bank.length
  len : P.length + M.length = i
  cnt : P.length = cT T
  pair : ∀ p ∈ P, ∃ a b : Nat, p = [(a : Int), (b : Int)] ∧ a < i ∧ b < bank.length ∧ sameS (bank.getD b z33) (mine.getD a z33) = true
  cnta : ∀ j : Nat, (P.map (fun p => rd p 0)).count (j : Int) + M.count (j : Int) = if j < i then 1 else 0
  cntb : ∀ j : Nat, j < bank.length → (P.map (fun p => rd p 1)).count (j : Int) = if T.getD j false = true then 1 else 0
  left : ∀ m ∈ M, ∃ a : Nat, m = (a : Int) ∧ a < i ∧ ∀ b, b < bank.length → sameS (bank.getD b z33) (mine.getD a z33) = true → T.getD b false = true
  sum : D = sumI (fun m => (rd_T33 mine m).f1) M + sumI (fun p => (rd_T33 mine (rd p 0)).f1) P
  sumT : sumI (fun p => (rd_T33 mine (rd p 0)).f1) P = sT T bank
  bd : 0 ≤ D ∧ D ≤ 15 * i
theorem SetI.start (mine bank : List S33) : SetI mine bank 0 [] [] (List.replicate bank.length false) 0 := by
  have h1 : ∀ n : Nat, cT (List.replicate n false) = 0 := by
    intro n
    induction n with
    | zero => rfl
    | succ n ih => rw [List.replicate_succ, cT, ih]; rfl
  have h2 : ∀ l : List S33, sT (List.replicate l.length false) l = 0 := by
    intro l
    induction l with
    | nil => rfl
    | cons x l ih => rw [List.length_cons, List.replicate_succ, sT, ih]; rfl
  refine ⟨by simp, rfl, (h1 _).symm, by simp, by simp, ?_, by simp, rfl, (h2 _).symm, by omega⟩
  intro j hj
  have : (List.replicate bank.length false).getD j false = false := by
    rw [List.getD_eq_getElem?_getD, List.getElem?_replicate, if_pos hj]
    rfl
  rw [this]
  rfl
def qS (bank : List S33) (T : List Bool) (x : S33) (b : Nat) : Bool := !(T.getD b false) && sameS (bank.getD b z33) x
theorem SetI.out {mine bank : List S33} {i : Nat} {P : List (List Int)} {M : List Int} {T : List Bool} {D : Int} (h : SetI mine bank i P M T D) (hx : gS (mine.getD i z33))
    (hn : ∀ b, b < bank.length → qS bank T (mine.getD i z33) b = false) : SetI mine bank (i + 1) P (M ++ [(i : Int)]) T (D + (mine.getD i z33).f1) := by
  refine ⟨h.lenT, by have := h.len; simp; omega, h.cnt, ?_, ?_, h.cntb, ?_, ?_, h.sumT, ?_⟩
  · intro p hp
    obtain ⟨a, b, h1, h2, h3⟩ := h.pair p hp
    exact ⟨a, b, h1, by omega, h3⟩
  · intro j
    have := h.cnta j
    rw [List.count_append, List.count_singleton]
    by_cases e : i = j
    · subst e
      rw [if_neg (Nat.lt_irrefl _)] at this
      simp
      omega
    · have e2 : ((i : Int) == (j : Int)) = false := by rw [beq_eq_false_iff_ne]; omega
      rw [e2, if_neg ff]
      by_cases hj : j < i
      · rw [if_pos hj] at this; rw [if_pos (show j < i + 1 by omega)]; omega
      · rw [if_neg hj] at this; rw [if_neg (show ¬ j < i + 1 by omega)]; omega
  · intro m hm
    rcases List.mem_append.1 hm with hm | hm
    · obtain ⟨a, h1, h2, h3⟩ := h.left m hm
      exact ⟨a, h1, by omega, h3⟩
    · obtain rfl := List.mem_singleton.1 hm
      refine ⟨i, rfl, by omega, fun b hb hs => ?_⟩
      have := hn b hb
      unfold qS at this
      rw [hs, Bool.and_true] at this
      simpa using this
  · rw [sumI_one, h.sum, rdS_nat]; omega
  · have := h.bd; have := hx.2; omega
theorem SetI.two {mine bank : List S33} {i : Nat} {P : List (List Int)} {M : List Int} {T : List Bool} {D : Int} (h : SetI mine bank i P M T D) (hx : gS (mine.getD i z33))
    {f : Nat} (hf : f < bank.length) (hq : qS bank T (mine.getD i z33) f = true) : SetI mine bank (i + 1) (P ++ [[(i : Int), (f : Int)]]) M (T.set f true) (D + (mine.getD i z33).f1) := by
  unfold qS at hq
  rw [Bool.and_eq_true] at hq
  obtain ⟨hq, hs⟩ := hq
  have hT : T.getD f false = false := by simpa using hq
  have hfT : f < T.length := by rw [h.lenT]; exact hf
  have hb := sameS_f1 hs
  refine ⟨by rw [List.length_set]; exact h.lenT, by have := h.len; simp; omega, by rw [cT_set T f hfT hT, List.length_append, h.cnt]; rfl, ?_, ?_, ?_, ?_, ?_, ?_, ?_⟩
  · intro p hp
    rcases List.mem_append.1 hp with hp | hp
    · obtain ⟨a, b, h1, h2, h3⟩ := h.pair p hp
      exact ⟨a, b, h1, by omega, h3⟩
    · obtain rfl := List.mem_singleton.1 hp
      exact ⟨i, f, rfl, by omega, hf, hs⟩
  · intro j
    have := h.cnta j
    rw [List.map_append, List.map_singleton, List.count_append, List.count_singleton]
    have e0 : rd [(i : Int), (f : Int)] 0 = (i : Int) := rfl
    rw [e0]
    by_cases e : i = j
    · subst e
      rw [if_neg (Nat.lt_irrefl _)] at this
      simp
      omega
    · have e2 : ((i : Int) == (j : Int)) = false := by rw [beq_eq_false_iff_ne]; omega
      rw [e2, if_neg ff]
      by_cases hj : j < i
      · rw [if_pos hj] at this; rw [if_pos (show j < i + 1 by omega)]; omega
      · rw [if_neg hj] at this; rw [if_neg (show ¬ j < i + 1 by omega)]; omega
  · intro j hj
    have := h.cntb j hj
    rw [List.map_append, List.map_singleton, List.count_append, List.count_singleton, set_getD T f j hfT]
    have e1 : rd [(i : Int), (f : Int)] 1 = (f : Int) := rfl
    rw [e1]
    by_cases e : j = f
    · subst e
      rw [hT] at this
      rw [if_pos rfl]
      simp at this ⊢
      omega
    · have e2 : ((f : Int) == (j : Int)) = false := by rw [beq_eq_false_iff_ne]; omega
      rw [e2, if_neg e, this]
      simp
  · intro m hm
    obtain ⟨a, h1, h2, h3⟩ := h.left m hm
    refine ⟨a, h1, by omega, fun b hb hs => ?_⟩
    rw [set_getD T f b hfT]
    by_cases e : b = f
    · rw [if_pos e]
    · rw [if_neg e]; exact h3 b hb hs
  · have e0 : rd [(i : Int), (f : Int)] 0 = (i : Int) := rfl
    rw [sumI_one, h.sum, e0, rdS_nat]; omega
  · have e0 : rd [(i : Int), (f : Int)] 0 = (i : Int) := rfl
    rw [sumI_one, sT_set T bank f h.lenT hfT hT, h.sumT, e0, rdS_nat, hb]
  · have := h.bd; have := hx.2; omega
theorem l1_found (bank mine : List S33) (T : List Bool) (i f n D : Int) (P : List (List Int)) (M : List Int) (x : S33) (R : List (List Int) × List Int × List Int × Int × Int) (hf : 0 ≤ f) (hfT : f < (T.length : Int)) (hP : P.length < 1000)
    (hc : Ev (fun k => impl_Settle.l0 k bank (T.set f.toNat true) mine n (wrap64 (i + 1)) (P ++ [[i, f]]) M D) R) :
    ∀ (a p : List S33), p ++ a = bank → bank.length < 1000000 → Ev (fun k => impl_Settle.l1 k bank T i f mine n i bank (bank.length : Int) (p.length : Int) P M D x.f0 x.f1) R := by
  intro a
  induction a with
  | nil =>
    intro p hp hl
    subst hp
    exact Ev.step (fun k => rfl) (Ev.neg (len_end p) (Ev.neg (show ¬ f < 0 by omega) (Ev.pos hf (Ev.pos hfT (Ev.pos (by omega) hc)))))
  | cons y a ih =>
    intro p hp hl
    have hlt : (p.length : Int) < (bank.length : Int) := by rw [← hp]; exact len_lt p y a
    refine Ev.step (fun k => rfl) (Ev.pos hlt (Ev.pos (by omega) (Ev.pos hlt (Ev.neg (show ¬ f < 0 by omega) ?_))))
    rw [w64 (by omega) (by omega), ← len_snoc p y]
    exact ih (p ++ [y]) (by rw [← snoc]; exact hp) hl
theorem l1_search (bank mine : List S33) (T : List Bool) (i n D : Int) (P : List (List Int)) (M : List Int) (x : S33) (R : List (List Int) × List Int × List Int × Int × Int) (hT : T.length = bank.length) (hP : P.length < 1000) (hM : M.length < 1000) (hl : bank.length < 1000000)
    (hN : (∀ b, b < bank.length → qS bank T x b = false) → Ev (fun k => impl_Settle.l0 k bank T mine n (wrap64 (i + 1)) P (M ++ [i]) D) R)
    (hF : ∀ f : Nat, f < bank.length → qS bank T x f = true → (∀ b, b < f → qS bank T x b = false) → Ev (fun k => impl_Settle.l0 k bank (T.set f true) mine n (wrap64 (i + 1)) (P ++ [[i, (f : Int)]]) M D) R) :
    ∀ (a p : List S33), p ++ a = bank → (∀ b, b < p.length → qS bank T x b = false) → Ev (fun k => impl_Settle.l1 k bank T i (-1) mine n i bank (bank.length : Int) (p.length : Int) P M D x.f0 x.f1) R := by
  intro a
  induction a with
  | nil =>
    intro p hp hq
    rw [List.append_nil] at hp
    subst hp
    refine Ev.step (fun k => rfl) (Ev.neg (by omega) (Ev.pos (by omega) (Ev.pos (by omega) (hN hq))))
  | cons y a ih =>
    intro p hp hq
    have hlt : (p.length : Int) < (bank.length : Int) := by rw [← hp]; exact len_lt p y a
    have hy : bank.getD p.length z33 = y := by rw [← hp]; exact getD_cut p y a _
    have hnext : qS bank T x p.length = false → Ev (fun k => impl_Settle.l1 k bank T i (-1) mine n i bank (bank.length : Int) (wrap64 ((p.length : Int) + 1)) P M D x.f0 x.f1) R := by
      intro h
      rw [w64 (by omega) (by omega), ← len_snoc p y]
      refine ih (p ++ [y]) (by rw [← snoc]; exact hp) (fun b hb => ?_)
      rw [List.length_append, List.length_singleton] at hb
      by_cases e : b = p.length
      · rw [e]; exact h
      · exact hq b (by omega)
    refine Ev.step (fun k => rfl) (Ev.pos hlt (Ev.pos (by omega) (Ev.pos hlt (Ev.pos (by omega) (Ev.pos (by omega) ?_)))))
    rw [rdB_nat, rdS_nat, hy]
    cases ht : T.getD p.length false with
    | true => exact Ev.pos rfl (hnext (by unfold qS; rw [ht]; rfl))
    | false =>
      refine Ev.neg ff ?_
      cases hs : sameS y x with
      | true =>
        have hqt : qS bank T x p.length = true := by unfold qS; rw [ht, hy, hs]; rfl
        refine Ev.pos hs ?_
        rw [w64 (by omega) (by omega), ← len_snoc p y]
        refine l1_found bank mine T i (p.length : Int) n D P M x R (by omega) (by omega) hP ?_ a (p ++ [y]) (by rw [← snoc]; exact hp) hl
        rw [Int.toNat_natCast]
        exact hF p.length (by omega) hqt hq
      | false =>
        exact Ev.neg (by unfold sameS at hs; rw [hs]; exact ff) (hnext (by unfold qS; rw [ht, hy, hs]; rfl))
theorem l2_ev (bank : List S33) (T : List Bool) (P : List (List Int)) (M : List Int) (hl : bank.length < 1000) (hT : T.length = bank.length) : ∀ (a p : List S33) (ta tp : List Bool) (B : List Int) (D : Int), p ++ a = bank → tp ++ ta = T → ta.length = a.length → B.length ≤ p.length → (∀ x ∈ a, gS x) → -1000000 + 15 * a.length ≤ D → D ≤ 1000000 →
    Ev (fun k => impl_Settle.l2 k T bank (bank.length : Int) (p.length : Int) P M B D) (P, M, B ++ uL p.length ta, D - sumA a, 0) := by
  intro a
  induction a with
  | nil =>
    intro p ta tp B D hp ht htl hB hg h1 h2
    obtain rfl : ta = [] := List.eq_nil_of_length_eq_zero (by simpa using htl)
    rw [List.append_nil] at hp
    subst hp
    refine Ev.step (fun k => rfl) (Ev.neg (by omega) (Ev.some' ?_))
    simp [uL, sumA, sumI]
  | cons y a ih =>
    intro p ta tp B D hp ht htl hB hg h1 h2
    cases ta with
    | nil => simp at htl
    | cons b ta =>
      have hlt : (p.length : Int) < (bank.length : Int) := by rw [← hp]; exact len_lt p y a
      have hy : bank.getD p.length z33 = y := by rw [← hp]; exact getD_cut p y a _
      have htp : tp.length = p.length := by
        have e1 := congrArg List.length hp
        have e2 := congrArg List.length ht
        rw [List.length_append] at e1 e2
        omega
      have hb : T.getD p.length false = b := by rw [← ht, ← htp]; exact getD_cut tp b ta _
      have hgy := (hg y (by simp)).2
      rw [List.length_cons] at h1
      have hi := fun B' hB' => ih (p ++ [y]) ta (tp ++ [b]) B' (D - y.f1) (by rw [← snoc]; exact hp) (by rw [← snoc]; exact ht) (by simpa using htl) hB' (fun x hx => hg x (List.mem_cons_of_mem y hx)) (by omega) (by omega)
      rw [List.length_append, List.length_singleton] at hi
      refine Ev.step (fun k => rfl) (Ev.pos hlt (Ev.pos (by omega) (Ev.pos hlt (Ev.pos (by omega) ?_))))
      rw [rdB_nat, rdS_nat, hy, hb, w64 (x := (p.length : Int) + 1) (by omega) (by omega), w64 (x := D - y.f1) (by omega) (by omega), uL]
      have es : D - y.f1 - sumA a = D - sumA (y :: a) := by unfold sumA; rw [sumI]; omega
      cases b with
      | true =>
        have := hi B (by omega)
        rw [es] at this
        rw [if_pos rfl]
        exact Ev.pos rfl this
      | false =>
        have := hi (B ++ [(p.length : Int)]) (by simp; omega)
        rw [es, List.append_assoc, List.singleton_append] at this
        rw [if_neg ff]
        exact Ev.neg ff (Ev.pos (by omega) this)
theorem impl_l0 (mine bank : List S33) (hm : mine.length < 100) (hb : bank.length < 100) (hgm : ∀ x ∈ mine, gS x) (hgb : ∀ x ∈ bank, gS x) : ∀ (a p : List S33) (P : List (List Int)) (M : List Int) (T : List Bool) (D : Int), p ++ a = mine → SetI mine bank p.length P M T D →
    ∃ P' M' T' D', SetI mine bank mine.length P' M' T' D' ∧ Ev (fun k => impl_Settle.l0 k bank T mine (mine.length : Int) (p.length : Int) P M D) (P', M', uL 0 T', D' - sumA bank, 0) := by
  intro a
  induction a with
  | nil =>
    intro p P M T D hp hI
    rw [List.append_nil] at hp
    have hbd := hI.bd
    have hI2 := hI
    rw [hp] at hI2
    refine ⟨P, M, T, D, hI2, Ev.step (fun k => rfl) (Ev.neg (by rw [hp]; omega) ?_)⟩
    have := l2_ev bank T P M (by omega) hI.lenT bank [] T [] [] D (by simp) (by simp) hI.lenT (by simp) hgb (by omega) (by rw [hp] at hbd; omega)
    rwa [List.nil_append] at this
  | cons y a ih =>
    intro p P M T D hp hI
    have hlt : (p.length : Int) < (mine.length : Int) := by rw [← hp]; exact len_lt p y a
    have hy : mine.getD p.length z33 = y := by rw [← hp]; exact getD_cut p y a _
    have hgy : gS y := hgm y (by rw [← hp]; simp)
    have hx : gS (mine.getD p.length z33) := by rw [hy]; exact hgy
    have hbd := hI.bd
    have hlen := hI.len
    have hw : wrap64 ((p.length : Int) + 1) = ((p ++ [y]).length : Int) := by rw [w64 (by omega) (by omega), len_snoc]
    have hi := fun P' M' T' D' h => ih (p ++ [y]) P' M' T' D' (by rw [← snoc]; exact hp) h
    have e1 : (p ++ [y]).length = p.length + 1 := by simp
    have hgy2 := hgy.2
    rcases first_or_none (qS bank T y) bank.length with ⟨f, hf1, hf2, hf3⟩ | hnone
    · have hq : qS bank T (mine.getD p.length z33) f = true := by rw [hy]; exact hf2
      have I2 := hI.two hx hf1 hq
      rw [hy] at I2
      obtain ⟨P', M', T', D', hI', hE⟩ := hi _ _ _ _ (by rw [e1]; exact I2)
      refine ⟨P', M', T', D', hI', Ev.step (fun k => rfl) (Ev.pos hlt (Ev.pos (by omega) (Ev.pos hlt ?_)))⟩
      rw [rdS_nat, hy, w64 (x := D + y.f1) (by omega) (by omega)]
      refine l1_search bank mine T (p.length : Int) (mine.length : Int) (D + y.f1) P M y _ hI.lenT (by omega) (by omega) (by omega) (fun h => ?_) (fun g hg1 hg2 hg3 => ?_) bank [] (by simp) (fun b hb => absurd hb (Nat.not_lt_zero b))
      · rw [h f hf1] at hf2; cases hf2
      · obtain rfl : g = f := by
          rcases Nat.lt_trichotomy g f with h | h | h
          · rw [hf3 g h] at hg2; cases hg2
          · exact h
          · rw [hg3 f h] at hf2; cases hf2
        rw [hw]
        exact hE
    · have I2 := hI.out hx (fun b hb => by rw [hy]; exact hnone b hb)
      rw [hy] at I2
      obtain ⟨P', M', T', D', hI', hE⟩ := hi _ _ _ _ (by rw [e1]; exact I2)
      refine ⟨P', M', T', D', hI', Ev.step (fun k => rfl) (Ev.pos hlt (Ev.pos (by omega) (Ev.pos hlt ?_)))⟩
      rw [rdS_nat, hy, w64 (x := D + y.f1) (by omega) (by omega)]
      refine l1_search bank mine T (p.length : Int) (mine.length : Int) (D + y.f1) P M y _ hI.lenT (by omega) (by omega) (by omega) (fun h => ?_) (fun g hg1 hg2 hg3 => ?_) bank [] (by simp) (fun b hb => absurd hb (Nat.not_lt_zero b))
      · rw [hw]
        exact hE
      · rw [hnone g hg1] at hg2; cases hg2
theorem name_ok {x : S33} (h : gS x) : Ev (fun k => impl_NameOK.f k x.f0) true := by
  rcases h.1 with h | h | h <;> rw [h] <;> exact Ev.of (k := 3) (fun k => impl_NameOK.mono _ k) (by decide +kernel)
theorem wrong_ev {x : S33} (h : gS x) : Ev (fun k => impl_Settle_1.f k x.f0 x.f1) false := by
  unfold impl_Settle_1.f
  refine Ev.bind (name_ok h) (Ev.pos rfl (Ev.ret (a := true) ?_ (Ev.some' rfl)))
  unfold impl_isMoney.f
  rw [within_ev, Option.bind_some]
  have := h.2
  congr 1
  exact decide_eq_true (by omega)
theorem idx_l0 : ∀ (a p : List S33), (p ++ a).length < 1000000 → (∀ t ∈ a, gS t) → Ev (fun k => impl_Settled_41.l0 k (p ++ a) ((p ++ a).length : Int) (p.length : Int)) (-1) := by
  intro a
  induction a with
  | nil => intro p hl h; exact Ev.step (fun k => rfl) (Ev.neg (len_end p) (Ev.some' rfl))
  | cons x a ih =>
    intro p hl h
    have hl' := hl
    rw [List.length_append, List.length_cons] at hl'
    refine Ev.step (fun k => rfl) (Ev.pos (len_lt p x a) (Ev.pos (by omega) (Ev.pos (len_lt p x a) ?_)))
    rw [rdS_mid]
    refine Ev.bind (wrong_ev (h x (by simp))) (Ev.neg ff ?_)
    rw [w64 (by omega) (by omega), ← len_snoc p x, snoc p x a]
    exact ih (p ++ [x]) (by rw [← snoc]; exact hl) (fun t ht => h t (by simp [ht]))
theorem has_ev (l : List S33) (hl : l.length < 1000000) (h : ∀ t ∈ l, gS t) : Ev (fun k => impl_Settled_24.f k l) false :=
  Ev.bind (idx_l0 l [] hl h) (Ev.some' rfl)
theorem implSettle_ev (mine bank : List S33) (hm : mine.length ≤ 9) (hb : bank.length ≤ 9) (hgm : ∀ x ∈ mine, gS x) (hgb : ∀ x ∈ bank, gS x) :
    ∃ P M T D, SetI mine bank mine.length P M T D ∧ Ev (fun k => impl_Settle.f k mine bank) (P, M, uL 0 T, D - sumA bank, 0) := by
  obtain ⟨P, M, T, D, hI, hE⟩ := impl_l0 mine bank (by omega) (by omega) hgm hgb mine [] [] [] _ 0 (by simp) (SetI.start mine bank)
  refine ⟨P, M, T, D, hI, ?_⟩
  unfold impl_Settle.f impl_Settled_23.f
  refine Ev.ret rfl (Ev.pos (by simp; omega) (Ev.ret rfl ?_))
  have e1 : (!(decide ((bank.length : Int) ≤ 4096))) = false := by simp; omega
  rw [e1]
  refine Ev.step (fun k => rfl) (Ev.neg (by omega) ?_)
  have e2 : decide ((bank.length : Int) > 60) = false := by simp; omega
  rw [e2]
  refine Ev.step (fun k => rfl) (Ev.bind (has_ev mine (by omega) hgm) (Ev.neg ff (Ev.bind (has_ev bank (by omega) hgb) (Ev.neg ff (Ev.pos (by omega) (Ev.pos (by omega) ?_))))))
  rw [Int.toNat_natCast]
  exact hE
/-! ### the law -/
structure LawH (mine bank : List S33) (P : List (List Int)) (M : List Int) (T : List Bool) (D D2 : Int) : Prop where
  hI : SetI mine bank mine.length P M T D
  hm : mine.length ≤ 9
  hb : bank.length ≤ 9
  hgm : ∀ x ∈ mine, gS x
  hgb : ∀ x ∈ bank, gS x
  hD : D2 = D - sumA bank
section
variable (mine bank : List S33) (P : List (List Int)) (M : List Int) (T : List Bool) (D D2 : Int) (H : LawH mine bank P M T D D2)
def fA : List Int := P.map (fun p => rd p 0)
def fB : List Int := P.map (fun p => rd p 1)
include H
theorem far_ev : sumI (fun m => (rd_T33 mine m).f1) M - sF T bank = D2 := by
  obtain ⟨hI, hm, hb, hgm, hgb, hD⟩ := H
  have h1 := hI.sum
  have h2 := hI.sumT
  have h3 := sT_sF T bank hI.lenT
  omega
theorem law_l5 : ∀ d i : Nat, i + d = bank.length → Ev (fun k => laws_FnSettle.l5 k (cntL bank.length (fB P ++ uL 0 T)) D2 (i : Int) P M (uL 0 T) D2) true := by
  obtain ⟨hI, hm, hb, hgm, hgb, hD⟩ := H
  intro d
  induction d with
  | zero => intro i h; exact Ev.step (fun k => rfl) (Ev.neg (by rw [cntL_length]; omega) (Ev.some' (by simp)))
  | succ d ih =>
    intro i h
    refine Ev.step (fun k => rfl) (Ev.pos (by rw [cntL_length]; omega) (Ev.pos (by omega) (Ev.pos ?_ ?_)))
    · rw [rd_nat, cntL_getD _ _ _ (by omega), List.count_append]
      have h1 := hI.cntb i (by omega)
      have h2 := uL_count T 0 i (by rw [hI.lenT]; omega)
      rw [Nat.zero_add] at h2
      rw [show (fB P).count (i : Int) = _ from h1, h2]
      split <;> rfl
    · rw [w64n (by omega)]
      exact ih (i + 1) (by omega)
theorem law_l4 : ∀ d i : Nat, i + d = mine.length → Ev (fun k => laws_FnSettle.l4 k (cntL mine.length (fA P ++ M)) (cntL bank.length (fB P ++ uL 0 T)) D2 (i : Int) P M (uL 0 T) D2) true := by
  obtain ⟨hI, hm, hb, hgm, hgb, hD⟩ := H
  intro d
  induction d with
  | zero => intro i h; exact Ev.step (fun k => rfl) (Ev.neg (by rw [cntL_length]; omega) (law_l5 mine bank P M T D D2 ⟨hI, hm, hb, hgm, hgb, hD⟩ bank.length 0 (by omega)))
  | succ d ih =>
    intro i h
    refine Ev.step (fun k => rfl) (Ev.pos (by rw [cntL_length]; omega) (Ev.pos (by omega) (Ev.pos ?_ ?_)))
    · rw [rd_nat, cntL_getD _ _ _ (by omega), List.count_append]
      have h1 := hI.cnta i
      rw [if_pos (by omega)] at h1
      rw [show (fA P).count (i : Int) + M.count (i : Int) = 1 from h1]
      rfl
    · rw [w64n (by omega)]
      exact ih (i + 1) (by omega)
theorem lens : P.length ≤ 9 ∧ M.length ≤ 9 ∧ (uL 0 T).length ≤ 9 := by
  obtain ⟨hI, hm, hb, hgm, hgb, hD⟩ := H
  have h1 := hI.len
  have h2 := uL_len T 0
  have h3 := hI.lenT
  omega
theorem law_l3 : ∀ (a p : List Int), p ++ a = uL 0 T → 
    Ev (fun k => laws_FnSettle.l3 k bank (cntL mine.length (fA P ++ M)) (cntL bank.length (fB P ++ p)) (sumI (fun m => (rd_T33 mine m).f1) M - sumI (fun m => (rd_T33 bank m).f1) p) (p.length : Int) P M (uL 0 T) D2) true := by
  obtain ⟨hI, hm, hb, hgm, hgb, hD⟩ := H
  have hln := lens mine bank P M T D D2 ⟨hI, hm, hb, hgm, hgb, hD⟩
  have hall : sumI (fun m => (rd_T33 bank m).f1) (uL 0 T) = sF T bank := uL_sum T bank [] hI.lenT
  have hsb := sF_bounds T bank hgb
  have hbd := hI.bd
  have hfar := far_ev mine bank P M T D D2 ⟨hI, hm, hb, hgm, hgb, hD⟩
  have hpos : ∀ l : List Int, 0 ≤ sumI (fun m => (rd_T33 bank m).f1) l ∧ sumI (fun m => (rd_T33 bank m).f1) l ≤ 15 * l.length := by
    intro l
    induction l with
    | nil => simp [sumI]
    | cons x l ih =>
      rw [sumI, List.length_cons]
      have : 0 ≤ (rd_T33 bank x).f1 ∧ (rd_T33 bank x).f1 ≤ 15 := by
        unfold rd_T33
        rw [List.getD_eq_getElem?_getD]
        cases h : bank[x.toNat]? with
        | none => exact ⟨by decide, by decide⟩
        | some y => exact (hgb y (List.mem_of_getElem? h)).2
      omega
  have hposm : 0 ≤ sumI (fun m => (rd_T33 mine m).f1) M ∧ sumI (fun m => (rd_T33 mine m).f1) M ≤ 15 * M.length := by
    have : ∀ l : List Int, 0 ≤ sumI (fun m => (rd_T33 mine m).f1) l ∧ sumI (fun m => (rd_T33 mine m).f1) l ≤ 15 * l.length := by
      intro l
      induction l with
      | nil => simp [sumI]
      | cons x l ih =>
        rw [sumI, List.length_cons]
        have : 0 ≤ (rd_T33 mine x).f1 ∧ (rd_T33 mine x).f1 ≤ 15 := by
          unfold rd_T33
          rw [List.getD_eq_getElem?_getD]
          cases h : mine[x.toNat]? with
          | none => exact ⟨by decide, by decide⟩
          | some y => exact (hgm y (List.mem_of_getElem? h)).2
        omega
    exact this M
  intro a
  induction a with
  | nil =>
    intro p hp
    rw [List.append_nil] at hp
    refine Ev.step (fun k => rfl) (Ev.neg (by rw [hp]; omega) ?_)
    rw [hp, hall, hfar]
    exact law_l4 mine bank P M T D D2 ⟨hI, hm, hb, hgm, hgb, hD⟩ mine.length 0 (by omega)
  | cons y a ih =>
    intro p hp
    have hlt : (p.length : Int) < ((uL 0 T).length : Int) := by rw [← hp]; exact len_lt p y a
    have hy : rd (uL 0 T) (p.length : Int) = y := by rw [← hp]; exact rd_mid p y a
    obtain ⟨j, hj, hj2, hj3⟩ := uL_mem T 0 y (by rw [← hp]; simp)
    rw [Nat.zero_add] at hj
    have hjb : j < bank.length := by rw [← hI.lenT]; exact hj2
    have hg : gS (bank.getD j z33) := hgb _ (by
      rw [List.getD_eq_getElem?_getD, List.getElem?_eq_getElem hjb]
      exact List.getElem_mem hjb)
    have hg2 := hg.2
    have hp1 := hpos p
    have hpl : p.length ≤ 9 := by omega
    refine Ev.step (fun k => rfl) (Ev.pos hlt (Ev.pos (by omega) ?_))
    rw [hy, hj, rdS_nat]
    refine Ev.neg (by omega) (Ev.neg (by omega) (Ev.pos (by omega) (Ev.pos (by rw [cntL_length]; omega) (Ev.pos (by omega) ?_))))
    rw [cntL_snoc _ _ _ (by omega) (by omega) (by simp [fB]; omega), w64 (x := (p.length : Int) + 1) (by omega) (by omega), w64 (by omega) (by omega), ← len_snoc p y, List.append_assoc, ← hj]
    have := ih (p ++ [y]) (by rw [← snoc]; exact hp)
    rw [sumI_one, hj, rdS_nat, ← hj] at this
    refine Ev.eq (Ev.congr (fun k => ?_) this) rfl
    congr 1
    omega
theorem law_l2 (x7 x8 : List Int) (far : Int) (a0 m : Nat) (hm0 : m < M.length) (hma : rd M (m : Int) = (a0 : Int)) (ha0 : a0 < mine.length) (hleft : ∀ b, b < bank.length → sameS (bank.getD b z33) (mine.getD a0 z33) = true → T.getD b false = true)
    (hc : Ev (fun k => laws_FnSettle.l1 k mine bank x7 x8 far ((m + 1 : Nat) : Int) P M (uL 0 T) D2) true) : ∀ (a p : List Int), p ++ a = uL 0 T →
    Ev (fun k => laws_FnSettle.l2 k mine bank x7 x8 far (m : Int) (p.length : Int) P M (uL 0 T) D2) true := by
  obtain ⟨hI, hm, hb, hgm, hgb, hD⟩ := H
  have hln := lens mine bank P M T D D2 ⟨hI, hm, hb, hgm, hgb, hD⟩
  intro a
  induction a with
  | nil =>
    intro p hp
    rw [List.append_nil] at hp
    refine Ev.step (fun k => rfl) (Ev.neg (by rw [hp]; omega) ?_)
    rw [w64n (by omega)]
    exact hc
  | cons y a ih =>
    intro p hp
    have hlt : (p.length : Int) < ((uL 0 T).length : Int) := by rw [← hp]; exact len_lt p y a
    have hy : rd (uL 0 T) (p.length : Int) = y := by rw [← hp]; exact rd_mid p y a
    obtain ⟨j, hj, hj2, hj3⟩ := uL_mem T 0 y (by rw [← hp]; simp)
    rw [Nat.zero_add] at hj
    have hjb : j < bank.length := by rw [← hI.lenT]; exact hj2
    have hns : sameS (bank.getD j z33) (mine.getD a0 z33) = false := by
      cases h : sameS (bank.getD j z33) (mine.getD a0 z33) with
      | true => rw [hleft j hjb h] at hj3; cases hj3
      | false => rfl
    refine Ev.step (fun k => rfl) (Ev.pos hlt (Ev.pos (by omega) ?_))
    rw [hy, hj, hma, rdS_nat, rdS_nat]
    refine Ev.pos (by omega) (Ev.pos (by omega) (Ev.pos (by omega) (Ev.pos (by omega) (Ev.pos (by omega) (Ev.pos (by omega) (Ev.pos (by omega) (Ev.neg (by unfold sameS at hns; rw [hns]; exact ff) ?_)))))))
    rw [w64 (by omega) (by omega), ← len_snoc p y]
    exact ih (p ++ [y]) (by rw [← snoc]; exact hp)
theorem law_l1 : ∀ (a p : List Int), p ++ a = M →
    Ev (fun k => laws_FnSettle.l1 k mine bank (cntL mine.length (fA P ++ p)) (cntL bank.length (fB P)) (sumI (fun m => (rd_T33 mine m).f1) p) (p.length : Int) P M (uL 0 T) D2) true := by
  obtain ⟨hI, hm, hb, hgm, hgb, hD⟩ := H
  have hln := lens mine bank P M T D D2 ⟨hI, hm, hb, hgm, hgb, hD⟩
  have hpos : ∀ l : List Int, 0 ≤ sumI (fun m => (rd_T33 mine m).f1) l ∧ sumI (fun m => (rd_T33 mine m).f1) l ≤ 15 * l.length := by
    intro l
    induction l with
    | nil => simp [sumI]
    | cons x l ih =>
      rw [sumI, List.length_cons]
      have : 0 ≤ (rd_T33 mine x).f1 ∧ (rd_T33 mine x).f1 ≤ 15 := by
        unfold rd_T33
        rw [List.getD_eq_getElem?_getD]
        cases h : mine[x.toNat]? with
        | none => exact ⟨by decide, by decide⟩
        | some y => exact (hgm y (List.mem_of_getElem? h)).2
      omega
  intro a
  induction a with
  | nil =>
    intro p hp
    rw [List.append_nil] at hp
    refine Ev.step (fun k => rfl) (Ev.neg (by rw [hp]; omega) ?_)
    have := law_l3 mine bank P M T D D2 ⟨hI, hm, hb, hgm, hgb, hD⟩ (uL 0 T) [] (by simp)
    rw [hp]
    simpa [sumI] using this
  | cons y a ih =>
    intro p hp
    have hlt : (p.length : Int) < (M.length : Int) := by rw [← hp]; exact len_lt p y a
    have hy : rd M (p.length : Int) = y := by rw [← hp]; exact rd_mid p y a
    obtain ⟨j, hj, hj2, hj3⟩ := hI.left y (by rw [← hp]; simp)
    have hg : gS (mine.getD j z33) := hgm _ (by
      rw [List.getD_eq_getElem?_getD, List.getElem?_eq_getElem hj2]
      exact List.getElem_mem hj2)
    have hg2 := hg.2
    have hp1 := hpos p
    refine Ev.step (fun k => rfl) (Ev.pos hlt (Ev.pos (by omega) ?_))
    rw [hy, hj]
    refine Ev.neg (by omega) ?_
    have e1 : decide ((j : Int) ≥ (mine.length : Int)) = false := by simp; omega
    rw [e1]
    refine Ev.step (fun k => rfl) (Ev.pos hlt ?_)
    rw [hy, hj, rdS_nat]
    refine Ev.pos (by omega) (Ev.pos (by rw [cntL_length]; omega) (Ev.pos (by omega) ?_))
    rw [cntL_snoc _ _ _ (by omega) (by omega) (by simp [fA]; omega), w64 (by omega) (by omega), List.append_assoc]
    refine law_l2 mine bank P M T D D2 ⟨hI, hm, hb, hgm, hgb, hD⟩ _ _ _ j p.length (by omega) (by rw [hy, hj]) hj2 hj3 ?_ (uL 0 T) [] (by simp)
    have := ih (p ++ [y]) (by rw [← snoc]; exact hp)
    rw [sumI_one, hj, rdS_nat, List.length_append, List.length_singleton] at this
    exact this
theorem law_l0 : ∀ (a p : List (List Int)), p ++ a = P →
    Ev (fun k => laws_FnSettle.l0 k mine bank (cntL mine.length (fA p)) (cntL bank.length (fB p)) (p.length : Int) P M (uL 0 T) D2) true := by
  obtain ⟨hI, hm, hb, hgm, hgb, hD⟩ := H
  have hln := lens mine bank P M T D D2 ⟨hI, hm, hb, hgm, hgb, hD⟩
  intro a
  induction a with
  | nil =>
    intro p hp
    rw [List.append_nil] at hp
    refine Ev.step (fun k => rfl) (Ev.neg (by rw [hp]; omega) ?_)
    rw [hp]
    have := law_l1 mine bank P M T D D2 ⟨hI, hm, hb, hgm, hgb, hD⟩ M [] (by simp)
    simpa [sumI] using this
  | cons y a ih =>
    intro p hp
    have hlt : (p.length : Int) < (P.length : Int) := by rw [← hp]; exact len_lt p y a
    have hy : rd_L4 P (p.length : Int) = y := by rw [← hp]; exact getD_mid p y a []
    obtain ⟨u, v, hu, hu2, hv2, hs⟩ := hI.pair y (by rw [← hp]; simp)
    have e0 : rd y 0 = (u : Int) := by rw [hu]; rfl
    have e1 : rd y 1 = (v : Int) := by rw [hu]; rfl
    have e2 : (y.length : Int) = 2 := by rw [hu]; rfl
    have f0 := sameS_f0 hs
    have f1 := sameS_f1 hs
    refine Ev.step (fun k => rfl) (Ev.pos hlt (Ev.pos (by omega) ?_))
    rw [hy, e0, e1, e2, rdS_nat, rdS_nat, f0, f1]
    refine Ev.pos rfl (Ev.pos (by omega) (Ev.neg (by omega) (Ev.neg (by omega) (Ev.pos (by omega) (Ev.neg (by omega) (Ev.neg (by omega) (Ev.pos (by omega) (Ev.pos (by omega) (Ev.pos (by omega) (Ev.pos (by omega) (Ev.neg (by simp) (Ev.pos (by rw [cntL_length]; omega) (Ev.pos (by rw [cntL_length]; omega) ?_)))))))))))))
    rw [cntL_snoc _ _ _ (by omega) (by omega) (by simp [fA]; omega), cntL_snoc _ _ _ (by omega) (by omega) (by simp [fB]; omega), w64 (by omega) (by omega), ← len_snoc p y]
    have := ih (p ++ [y]) (by rw [← snoc]; exact hp)
    unfold fA fB at this ⊢
    rw [List.map_append, List.map_append, List.map_singleton, List.map_singleton, e0, e1] at this
    exact this
end
/-! ### what is drawn -/
theorem chance_ok {c : List Int} {a s N : Int} (n : Int) (h : Srd c a s N) (hN : N ≤ 900000000) (h1 : 1 ≤ n) (h2 : n ≤ 16777216) : ∃ v a' s', spec_l00Src_chance.f c a s n = some (v, a', s') ∧ Srd c a' s' (N + 3) := by
  obtain ⟨v, a1, s1, e1, _, _, S1⟩ := next_ok n h hN h1 h2
  unfold spec_l00Src_chance.f
  rw [e1]
  exact ⟨_, _, _, rfl, S1⟩
theorem pick3_ok {c : List Int} {a s N : Int} (x y z : ByteArray) (h : Srd c a s N) (hN : N ≤ 900000000) : ∃ v a' s', spec_l00Src_pick.f c a s [x, y, z] = some (v, a', s') ∧ (v = x ∨ v = y ∨ v = z) ∧ Srd c a' s' (N + 3) := by
  obtain ⟨v, a1, s1, e1, l1, u1, S1⟩ := next_ok 3 h hN (by omega) (by omega)
  unfold spec_l00Src_pick.f
  rw [if_neg (by simp)]
  have e3 : (([x, y, z] : List ByteArray).length : Int) = 3 := rfl
  rw [e3, e1, Option.bind_some, if_pos l1, if_pos u1]
  refine ⟨_, _, _, rfl, ?_, S1⟩
  have : v = 0 ∨ v = 1 ∨ v = 2 := by omega
  rcases this with h | h | h <;> rw [h]
  · exact .inl rfl
  · exact .inr (.inl rfl)
  · exact .inr (.inr rfl)
theorem SettledOf_l0 (c : List Int) : ∀ (n : Nat) (A B : List S33) (a s N : Int), Srd c a s N → N + 20 * n ≤ 1000000 → A.length + n ≤ 9 → B.length + n ≤ 9 → (∀ x ∈ A, gS x) → (∀ x ∈ B, gS x) →
    ∃ L R, Ev (fun k => spec_SettledOf.l0 k A B (n : Int) c a s) (L, R) ∧ L.length ≤ 9 ∧ R.length ≤ 9 ∧ (∀ x ∈ L, gS x) ∧ (∀ x ∈ R, gS x) := by
  intro n
  induction n with
  | zero => intro A B a s N hS hN hA hB hgA hgB; exact ⟨A, B, Ev.via (Ev.some' rfl) (fun k => rfl), by omega, by omega, hgA, hgB⟩
  | succ n ih =>
    intro A B a s N hS hN hA hB hgA hgB
    obtain ⟨v, a1, s1, e1, hv, S1⟩ := pick3_ok ⟨#[97]⟩ ⟨#[98]⟩ ⟨#[99]⟩ hS (by omega)
    obtain ⟨x, a2, s2, e2, l2, u2, S2⟩ := next_ok 4 S1 (by omega) (by omega) (by omega)
    obtain ⟨b3, a3, s3, e3, S3⟩ := chance_ok 4 S2 (by omega) (by omega) (by omega)
    obtain ⟨b4, a4, s4, e4, S4⟩ := chance_ok 4 S3 (by omega) (by omega) (by omega)
    have w1 : wrap64 (5 * x) = 5 * x := w64 (by omega) (by omega)
    have w4 : wrap64 (((n + 1 : Nat) : Int) - 1) = (n : Int) := by rw [w64 (by omega) (by omega)]; omega
    have hmem : ∀ L : List S33, (∀ l ∈ L, gS l) → ∀ l ∈ L ++ [(⟨v, 5 * x⟩ : S33)], gS l := by
      intro L hL l hl
      rcases List.mem_append.1 hl with hl | hl
      · exact hL l hl
      · rw [List.mem_singleton.1 hl]; exact ⟨hv, by simp only; omega⟩
    have go : ∀ A' B', (A' = A ∨ A' = A ++ [(⟨v, 5 * x⟩ : S33)]) → (B' = B ∨ B' = B ++ [(⟨v, 5 * x⟩ : S33)]) → ∃ L R, Ev (fun k => spec_SettledOf.l0 k A' B' (n : Int) c a4 s4) (L, R) ∧ L.length ≤ 9 ∧ R.length ≤ 9 ∧ (∀ x ∈ L, gS x) ∧ (∀ x ∈ R, gS x) := by
      intro A' B' h1 h2
      refine ih A' B' a4 s4 _ S4 (by omega) ?_ ?_ ?_ ?_
      · rcases h1 with rfl | rfl
        · omega
        · simp; omega
      · rcases h2 with rfl | rfl
        · omega
        · simp; omega
      · rcases h1 with rfl | rfl
        · exact hgA
        · exact hmem A hgA
      · rcases h2 with rfl | rfl
        · exact hgB
        · exact hmem B hgB
    cases b3 with
    | true =>
      cases b4 with
      | true =>
        obtain ⟨L, R, h1, h2⟩ := go A B (.inl rfl) (.inl rfl)
        refine ⟨L, R, Ev.step (fun k => rfl) (Ev.pos (by omega) (Ev.ret e1 (Ev.ret e2 (Ev.ret e3 (Ev.pos rfl (Ev.ret e4 (Ev.pos rfl ?_))))))), h2⟩
        simp only [w4]; exact h1
      | false =>
        obtain ⟨L, R, h1, h2⟩ := go A _ (.inl rfl) (.inr rfl)
        refine ⟨L, R, Ev.step (fun k => rfl) (Ev.pos (by omega) (Ev.ret e1 (Ev.ret e2 (Ev.ret e3 (Ev.pos rfl (Ev.ret e4 (Ev.neg ff (Ev.pos (by omega) ?_)))))))), h2⟩
        simp only [w4, w1]; exact h1
    | false =>
      cases b4 with
      | true =>
        obtain ⟨L, R, h1, h2⟩ := go _ B (.inr rfl) (.inl rfl)
        refine ⟨L, R, Ev.step (fun k => rfl) (Ev.pos (by omega) (Ev.ret e1 (Ev.ret e2 (Ev.ret e3 (Ev.neg ff (Ev.pos (by omega) (Ev.ret rfl (Ev.ret e4 (Ev.pos rfl ?_)))))))))  , h2⟩
        simp only [w4, w1]; exact h1
      | false =>
        obtain ⟨L, R, h1, h2⟩ := go _ _ (.inr rfl) (.inr rfl)
        refine ⟨L, R, Ev.step (fun k => rfl) (Ev.pos (by omega) (Ev.ret e1 (Ev.ret e2 (Ev.ret e3 (Ev.neg ff (Ev.pos (by omega) (Ev.ret rfl (Ev.ret e4 (Ev.neg ff (Ev.pos (by omega) ?_)))))))))), h2⟩
        simp only [w4, w1]; exact h1
theorem SettledOf_ok (l : List Int) (h : ∀ x ∈ l, (Lit.int .u8 x).wf = true) (hl : l.length ≤ 1048576) :
    ∃ L R, Ev (fun k => spec_SettledOf.f k l) (L, R) ∧ L.length ≤ 9 ∧ R.length ≤ 9 ∧ (∀ x ∈ L, gS x) ∧ (∀ x ∈ R, gS x) := by
  obtain ⟨s, hs, S0⟩ := source_ok l h
  obtain ⟨v, e1, l1, u1⟩ := size_ok (c := l) 0 s 9 hl (by omega)
  have wv : wrap64 (v + 1) = v + 1 := w64 (by omega) (by omega)
  obtain ⟨n, a2, s2, e2, l2, u2, S2⟩ := next_ok (v + 1) S0 (by omega) (by omega) (by omega)
  obtain ⟨L, R, h1, h2⟩ := SettledOf_l0 l n.toNat [] [] a2 s2 _ S2 (by omega) (by simp; omega) (by simp; omega) (by simp) (by simp)
  rw [Int.toNat_of_nonneg l2] at h1
  refine ⟨L, R, ?_, h2⟩
  unfold spec_SettledOf.f
  refine Ev.ret hs (Ev.ret e1 (Ev.ret (a := (n, a2, s2)) ?_ h1))
  simp only [wv]
  exact e2
theorem FnSettle : laws_FnSettle.Pure := by
  intro l h
  refine Ev.rounds (?_ : Ev (fun k => laws_FnSettle.f k l) true)
  unfold laws_FnSettle.f
  by_cases c1 : (l.length : Int) > 1048576
  · exact Ev.pos c1 (Ev.some' rfl)
  refine Ev.neg c1 ?_
  obtain ⟨mine, bank, hd, hm, hb, hgm, hgb⟩ := SettledOf_ok l h.2 (by omega)
  obtain ⟨P, M, T, D, hI, hE⟩ := implSettle_ev mine bank hm hb hgm hgb
  refine Ev.bind hd (Ev.bind hE (Ev.pos rfl ?_))
  have h1 := hI.len
  have h2 := uL_len T 0
  have h3 := hI.lenT
  have h4 := hI.cnt
  refine Ev.pos (by simp only; rw [w64 (by omega) (by omega)]; omega) ?_
  have e1 : (wrap64 ((P.length : Int) + ((uL 0 T).length : Int)) != (bank.length : Int)) = false := by
    rw [w64 (by omega) (by omega), bne_eq_false_iff_eq]; omega
  simp only [e1]
  refine Ev.step (fun k => rfl) (Ev.pos (by omega) (Ev.pos (by omega) (Ev.pos (by omega) ?_)))
  rw [Int.toNat_natCast, Int.toNat_natCast, ← cntL_nil, ← cntL_nil]
  exact law_l0 mine bank P M T D _ ⟨hI, hm, hb, hgm, hgb, rfl⟩ P [] (by simp)

end Go.Proofs.Ytikbfbangjjfkaa.Pure
