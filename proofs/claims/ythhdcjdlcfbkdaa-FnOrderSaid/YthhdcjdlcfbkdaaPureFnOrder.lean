/- Of a drawn right need the program orders what the law says: the law's plain statement, with no condition. -/
import Derived.Test.YthhdcjdlcfbkdaaXFnOrderx2
import Derived.Test.YthhdcjdlcfbkdaaAx
import Derived.Test.YthhdcjdlcfbkdaaIdx
namespace Go.Proofs.Ythhdcjdlcfbkdaa.Pure
open Go.RowKit Go.Proofs.Ythhdcjdlcfbkdaa.XFnOrder Go.Proofs.YthhdcjdlcfbkdaaW.PrintWords Go.Proofs.YthhdcjdlcfbkdaaW.PrintLast
open Go.Proofs.YthhdcjdlcfbkdaaW.Ax Go.Proofs.YthhdcjdlcfbkdaaW.Idx
set_option linter.unusedVariables false
set_option linter.unusedSimpArgs false
theorem l01In_ev (a b c : Int) : spec_l01In.f a b c = some (decide (b ≤ a ∧ a ≤ c)) := by
  unfold spec_l01In.f
  by_cases h : a ≥ b
  · rw [if_pos h]; congr 1; rw [decide_eq_decide]; omega
  · rw [if_neg h]; congr 1; symm; rw [decide_eq_false_iff_not]; omega
theorem iteAnd (c x : Bool) : (if c = true then some x else some false) = some (c && x) := by cases c <;> rfl
def needB (a b c d e f : Int) : Bool := decide (0 ≤ a ∧ a ≤ 100000) && (decide (0 ≤ b ∧ b ≤ 100000) && (decide (0 ≤ c ∧ c ≤ 100000) && (decide (1 ≤ d ∧ d ≤ 100000) && (decide (0 ≤ e ∧ e ≤ 100000) && decide (0 ≤ f ∧ f ≤ 100000)))))
theorem specNeed (a b c d e f : Int) : spec_NeedOK.f a b c d e f = some (needB a b c d e f) := by
  unfold spec_NeedOK.f needB
  simp only [l01In_ev, Option.bind_some, iteAnd]
theorem needEq (a b c d e f : Int) : impl_NeedOK.f a b c d e f = some (needB a b c d e f) := by
  unfold impl_NeedOK.f impl_areFrom.f needB
  simp only [Option.bind_some, iteAnd, List.all_cons, List.all_nil, Bool.and_true]
  congr 1
  rw [Bool.eq_iff_iff]
  simp only [Bool.and_eq_true, decide_eq_true_eq]
  omega
theorem needB_iff (a b c d e f : Int) : needB a b c d e f = true ↔ (0 ≤ a ∧ a ≤ 100000) ∧ (0 ≤ b ∧ b ≤ 100000) ∧ (0 ≤ c ∧ c ≤ 100000) ∧ (1 ≤ d ∧ d ≤ 100000) ∧ (0 ≤ e ∧ e ≤ 100000) ∧ (0 ≤ f ∧ f ≤ 100000) := by
  unfold needB
  simp only [Bool.and_eq_true, decide_eq_true_eq]
/-- The answer, with the packs p wanted and the packs r that have room. -/
def orderV (L H O P M S p r : Int) : Int × Bool × Int :=
  if needB L H O P M S = true then (if L ≤ H + O then (0, false, 0) else if p ≤ r then (p * P, false, 0) else if r * P < max M 1 then (0, false, 14) else (r * P, true, 0)) else (0, false, 1)
theorem order_bounds {L H O P M S : Int} (h : needB L H O P M S = true) (hL : ¬ L ≤ H + O) : ∃ W p r : Int, W = max (L - (H + O)) M ∧ p = (W + P - 1) / P ∧ r = max 0 (S - (H + O)) / P ∧
    1 ≤ p ∧ 0 ≤ r ∧ W ≤ p * P ∧ p * P ≤ W + P - 1 ∧ 0 ≤ r * P ∧ r * P ≤ max 0 (S - (H + O)) ∧ max 0 (S - (H + O)) < r * P + P ∧ p ≤ 300000 ∧ r ≤ 100000 ∧ 1 ≤ W ∧ W ≤ 100000 := by
  rw [needB_iff] at h
  refine ⟨_, _, _, rfl, rfl, rfl, ?_⟩
  generalize hW : max (L - (H + O)) M = W
  generalize hR : max 0 (S - (H + O)) = R
  have hW1 : 1 ≤ W := by omega
  have hW2 : W ≤ 100000 := by omega
  have hR1 : 0 ≤ R := by omega
  have hR2 : R ≤ 100000 := by omega
  have hP : 0 < P := by omega
  have e1 := Int.mul_ediv_add_emod (W + P - 1) P
  have e2 := Int.emod_nonneg (W + P - 1) (show P ≠ 0 by omega)
  have e3 := Int.emod_lt_of_pos (W + P - 1) hP
  have f1 := Int.mul_ediv_add_emod R P
  have f2 := Int.emod_nonneg R (show P ≠ 0 by omega)
  have f3 := Int.emod_lt_of_pos R hP
  have g1 : 1 ≤ (W + P - 1) / P := (Int.le_ediv_iff_mul_le hP).2 (by omega)
  have g2 : 0 ≤ R / P := Int.ediv_nonneg hR1 (by omega)
  have g3 : (W + P - 1) / P ≤ W + P - 1 := Int.ediv_le_self _ (by omega)
  have g4 : R / P ≤ R := Int.ediv_le_self _ hR1
  rw [Int.mul_comm P] at e1 f1
  have g5 : 0 ≤ R / P * P := Int.mul_nonneg g2 (by omega)
  refine ⟨g1, g2, ?_, ?_, ?_, ?_, ?_, ?_, ?_, ?_, ?_⟩ <;> omega
theorem mx_max (a b : Int) : mx a b = max a b := by unfold mx; omega
theorem specOrder (L H O P M S : Int) : spec_OrderFor.f L H O P M S = some (orderV L H O P M S ((max (L - (H + O)) M + P - 1) / P) (max 0 (S - (H + O)) / P)) := by
  unfold spec_OrderFor.f orderV
  simp only [specNeed, Option.bind_some]
  by_cases h : needB L H O P M S = true
  · rw [if_pos h, if_pos h]
    have hb := (needB_iff L H O P M S).1 h
    rw [w64 (x := H + O) (by omega) (by omega)]
    by_cases hL : L ≤ H + O
    · rw [if_pos hL, if_pos hL]
    · rw [if_neg hL, if_neg hL, if_neg (show ¬ P = 0 by omega)]
      obtain ⟨W, p, r, hW, hp, hr, b⟩ := order_bounds h hL
      rw [w64 (x := L - (H + O)) (by omega) (by omega), w64 (x := S - (H + O)) (by omega) (by omega), mx_max, mx_max, mx_max, ← hW]
      rw [w64 (x := W + P) (by omega) (by omega), w64 (x := W + P - 1) (by omega) (by omega), Int.tdiv_eq_ediv_of_nonneg (show 0 ≤ W + P - 1 by omega), Int.tdiv_eq_ediv_of_nonneg (show 0 ≤ max 0 (S - (H + O)) by omega), ← hp, ← hr]
      rw [w64 (x := p) (by omega) (by omega), w64 (x := r) (by omega) (by omega), w64 (x := p * P) (by omega) (by omega), w64 (x := r * P) (by omega) (by omega)]
      by_cases c : p ≤ r
      · rw [if_pos c, if_pos c]
      · rw [if_neg c, if_neg c]
        by_cases d : r * P < max M 1
        · rw [if_pos d, if_pos d]
        · rw [if_neg d, if_neg d]
  · rw [if_neg h, if_neg h]
theorem implOrder (L H O P M S : Int) : impl_OrderFor.f L H O P M S = some (orderV L H O P M S ((max (L - (H + O)) M + P - 1) / P) (max 0 (S - (H + O)) / P)) := by
  unfold impl_OrderFor.f orderV
  simp only [needEq, Option.bind_some]
  by_cases h : needB L H O P M S = true
  · rw [if_pos h, if_pos h]
    have hb := (needB_iff L H O P M S).1 h
    rw [w64 (x := H + O) (by omega) (by omega)]
    by_cases hL : L ≤ H + O
    · rw [if_pos hL, if_pos hL]
    · rw [if_neg hL, if_neg hL, if_neg (show ¬ P = 0 by omega)]
      obtain ⟨W, p, r, hW, hp, hr, b⟩ := order_bounds h hL
      rw [w64 (x := L - (H + O)) (by omega) (by omega), w64 (x := S - (H + O)) (by omega) (by omega), mx_max, mx_max, ← hW]
      rw [w64 (x := W + P) (by omega) (by omega), w64 (x := W + P - 1) (by omega) (by omega), Int.tdiv_eq_ediv_of_nonneg (show 0 ≤ W + P - 1 by omega), Int.tdiv_eq_ediv_of_nonneg (show 0 ≤ max 0 (S - (H + O)) by omega), ← hp, ← hr]
      rw [w64 (x := p) (by omega) (by omega), w64 (x := r) (by omega) (by omega), w64 (x := p * P) (by omega) (by omega), w64 (x := r * P) (by omega) (by omega), w64 (x := H + O + p * P) (by omega) (by omega)]
      have hpr : p ≤ r ↔ p * P ≤ max 0 (S - (H + O)) := by rw [hr]; exact Int.le_ediv_iff_mul_le (by omega)
      by_cases c : p ≤ r
      · rw [if_pos c, if_pos (by omega)]
      · rw [if_neg c, if_neg (by omega)]
        by_cases d : r * P = 0
        · rw [if_pos d, if_pos (by omega)]
        · rw [if_neg d]
          by_cases d2 : r * P < M
          · rw [if_pos d2, if_pos (by omega)]
          · rw [if_neg d2, if_neg (by omega)]
  · rw [if_neg h, if_neg h]
/-- A source of draws: its code's bytes, its place (at most N), its seed. -/
def Srd (c : List Int) (a s N : Int) : Prop := (∀ x ∈ c, 0 ≤ x ∧ x ≤ 255) ∧ 0 ≤ a ∧ a ≤ N ∧ 0 ≤ s ∧ s ≤ 2147483647
theorem Srd.mono {c : List Int} {a s N M : Int} (h : Srd c a s N) (hM : N ≤ M) : Srd c a s M := ⟨h.1, h.2.1, by have := h.2.2.1; omega, h.2.2.2⟩
theorem rd_byte {c : List Int} (hc : ∀ x ∈ c, 0 ≤ x ∧ x ≤ 255) (i : Int) : 0 ≤ rd c i ∧ rd c i ≤ 255 := by
  unfold rd
  rw [List.getD_eq_getElem?_getD]
  cases h : c[i.toNat]? with
  | none => simp
  | some x => simpa using hc x (List.mem_of_getElem? h)
theorem byte_ok {c : List Int} {a s N : Int} (h : Srd c a s N) (hN : N ≤ 1000000000) : ∃ v s', spec_l00Src_byte.f c a s = some (v, a + 1, s') ∧ 0 ≤ v ∧ v ≤ 255 ∧ Srd c (a + 1) s' (N + 1) := by
  obtain ⟨hc, h0, h1, h2, h3⟩ := h
  unfold spec_l00Src_byte.f
  rw [w64 (x := a + 1) (by omega) (by omega), w64 (x := a + 1 - 1) (by omega) (by omega), show a + 1 - 1 = a by omega]
  have hb := rd_byte hc a
  generalize rd c a = b at hb
  rw [w64 (x := b) (by omega) (by omega), w64 (x := s * 31) (by omega) (by omega), w64 (x := s * 31 + b) (by omega) (by omega), w64 (x := s * 31 + b + 7) (by omega) (by omega), Int.tmod_eq_emod_of_nonneg (show 0 ≤ s * 31 + b + 7 by omega)]
  rw [w64 (x := s * 1103515245) (by omega) (by omega), w64 (x := s * 1103515245 + 12345) (by omega) (by omega), Int.tmod_eq_emod_of_nonneg (show 0 ≤ s * 1103515245 + 12345 by omega)]
  have e := Int.emod_nonneg (s * 1103515245 + 12345) (show (2147483648 : Int) ≠ 0 by decide)
  have e2 := Int.emod_lt_of_pos (s * 1103515245 + 12345) (show (0 : Int) < 2147483648 by decide)
  have f := Int.emod_nonneg (s * 31 + b + 7) (show (2147483648 : Int) ≠ 0 by decide)
  have f2 := Int.emod_lt_of_pos (s * 31 + b + 7) (show (0 : Int) < 2147483648 by decide)
  generalize (s * 1103515245 + 12345) % 2147483648 = t at e e2 ⊢
  generalize (s * 31 + b + 7) % 2147483648 = u at f f2 ⊢
  by_cases c1 : a + 1 ≤ (c.length : Int)
  · rw [if_pos c1, if_pos h0, if_pos (by omega)]
    exact ⟨_, _, rfl, hb.1, hb.2, hc, by omega, by omega, by omega, by omega⟩
  · rw [if_neg c1]
    by_cases c2 : a + 1 > 3000
    · rw [if_pos c2]
      exact ⟨_, _, rfl, by omega, by omega, hc, by omega, by omega, by omega, by omega⟩
    · rw [if_neg c2, Int.tdiv_eq_ediv_of_nonneg (by omega), w64 (by omega) (by omega), Int.tmod_eq_emod_of_nonneg (by omega)]
      exact ⟨_, _, rfl, by omega, by omega, hc, by omega, by omega, by omega, by omega⟩
theorem next_ok {c : List Int} {a s N : Int} (n : Int) (h : Srd c a s N) (hN : N ≤ 900000000) (h1 : 1 ≤ n) (h2 : n ≤ 16777216) : ∃ v a' s', spec_l00Src_next.f c a s n = some (v, a', s') ∧ 0 ≤ v ∧ v < n ∧ Srd c a' s' (N + 3) := by
  unfold spec_l00Src_next.f
  by_cases c1 : n ≤ 1
  · rw [if_pos c1]
    exact ⟨_, _, _, rfl, by omega, by omega, h.mono (by omega)⟩
  · rw [if_neg c1]
    obtain ⟨v, s1, hv, v0, v1, S1⟩ := byte_ok h (by omega)
    simp only [hv, Option.bind_some]
    have g := Int.emod_nonneg v (show n ≠ 0 by omega)
    have g2 := Int.emod_lt_of_pos v (show 0 < n by omega)
    by_cases c2 : n ≤ 256
    · rw [if_pos c2, if_neg (by omega), Int.tmod_eq_emod_of_nonneg (by omega)]
      exact ⟨_, _, _, rfl, g, g2, S1.mono (by omega)⟩
    · rw [if_neg c2]
      obtain ⟨x, s2, hx, x0, x1, S2⟩ := byte_ok S1 (by omega)
      simp only [hx, Option.bind_some]
      obtain ⟨y, s3, hy, y0, y1, S3⟩ := byte_ok S2 (by omega)
      simp only [hy, Option.bind_some]
      rw [if_neg (by omega)]
      rw [w64 (x := v * 65536) (by omega) (by omega), w64 (x := x * 256) (by omega) (by omega), w64 (x := v * 65536 + x * 256) (by omega) (by omega), w64 (by omega) (by omega), Int.tmod_eq_emod_of_nonneg (by omega)]
      exact ⟨_, _, _, rfl, Int.emod_nonneg _ (by omega), Int.emod_lt_of_pos _ (by omega), S3.mono (by omega)⟩
theorem source_ok (l : List Int) (h : ∀ x ∈ l, (Lit.int .u8 x).wf = true) : ∃ s, spec_l00Source.f l = some (l, 0, s) ∧ Srd l 0 s 0 := by
  refine ⟨_, rfl, fun x hx => bounds_u8 (h x hx), by omega, by omega, ?_, ?_⟩ <;> omega
theorem NeedOf_ok (l : List Int) (h : ∀ x ∈ l, (Lit.int .u8 x).wf = true) : ∃ a b c d e f, spec_NeedOf.f l = some (a, b, c, d, e, f) ∧ needB a b c d e f = true := by
  obtain ⟨s, hs, S0⟩ := source_ok l h
  unfold spec_NeedOf.f
  obtain ⟨v1, a1, s1, e1, l1, u1, S1⟩ := next_ok 90 S0 (by omega) (by omega) (by omega)
  obtain ⟨v2, a2, s2, e2, l2, u2, S2⟩ := next_ok 40 S1 (by omega) (by omega) (by omega)
  obtain ⟨v3, a3, s3, e3, l3, u3, S3⟩ := next_ok 20 S2 (by omega) (by omega) (by omega)
  obtain ⟨v4, a4, s4, e4, l4, u4, S4⟩ := next_ok 12 S3 (by omega) (by omega) (by omega)
  obtain ⟨v5, a5, s5, e5, l5, u5, S5⟩ := next_ok 15 S4 (by omega) (by omega) (by omega)
  obtain ⟨v6, a6, s6, e6, l6, u6, S6⟩ := next_ok 90 S5 (by omega) (by omega) (by omega)
  rw [hs]; simp only [Option.bind_some]
  rw [e1]; simp only [Option.bind_some]
  rw [e2]; simp only [Option.bind_some]
  rw [e3]; simp only [Option.bind_some]
  rw [e4]; simp only [Option.bind_some]
  rw [e5]; simp only [Option.bind_some]
  rw [e6]; simp only [Option.bind_some]
  refine ⟨_, _, _, _, _, _, rfl, ?_⟩
  rw [w64 (by omega) (by omega), w64 (by omega) (by omega), needB_iff]
  omega
theorem FnOrder : laws_FnOrder.Pure := by
  intro l h
  refine Ev.rounds (?_ : Ev (fun k => laws_FnOrder.f k l) true)
  unfold laws_FnOrder.f
  by_cases c1 : (l.length : Int) > 1048576
  · exact Ev.pos c1 (Ev.some' rfl)
  refine Ev.neg c1 ?_
  obtain ⟨L, H, O, P, M, S, hd, hn⟩ := NeedOf_ok l h.2
  have i1 := implOrder L H O P M S
  have i2 := specOrder L H O P M S
  have i3 := needEq L H O P M S
  rw [hn] at i3
  have hb := (needB_iff L H O P M S).1 hn
  unfold orderV at i1 i2
  rw [if_pos hn] at i1 i2
  have hw : wrap64 (H + O) = H + O := w64 (by omega) (by omega)
  refine Ev.ret hd (Ev.ret i1 (Ev.ret i2 (Ev.ret i3 ?_)))
  by_cases hL : L ≤ H + O
  · simp only [if_pos hL]
    have hm : Int.tmod 0 P = 0 := Int.zero_tmod P
    repeat' (first
      | exact Ev.some' rfl
      | with_reducible assumption
      | (with_reducible refine Ev.bind (by with_reducible assumption) ?_)
      | (with_reducible refine Ev.ret (by with_reducible assumption) ?_)
      | (refine Ev.pos (by first | with_reducible rfl | with_reducible assumption | omega | (simp; done) | (simp; omega)) ?_)
      | (refine Ev.neg (by first | with_reducible assumption | omega | (simp; done) | (simp; omega)) ?_)
      | (refine Ev.up1 ?_; simp only [laws_FnOrder.j0, laws_FnOrder.j1, laws_FnOrder.j2, hw, hm]))
  · simp only [if_neg hL]
    obtain ⟨W, p, r, hW, hp, hr, b1, b2, b3, b4, b5, b6, b7, b8, b9, b10, b11⟩ := order_bounds hn hL
    rw [← hW, ← hp, ← hr]
    have hR : wrap64 (S - (H + O)) = S - (H + O) := w64 (by omega) (by omega)
    have hm0 : mx 0 (S - (H + O)) = max 0 (S - (H + O)) := mx_max _ _
    have hpr : p ≤ r ↔ p * P ≤ max 0 (S - (H + O)) := by rw [hr]; exact Int.le_ediv_iff_mul_le (by omega)
    by_cases c : p ≤ r
    · simp only [if_pos c]
      have hm : Int.tmod (p * P) P = 0 := Int.mul_tmod_left p P
      have h1 : wrap64 (H + O + p * P) = H + O + p * P := w64 (by omega) (by omega)
      have h2 : wrap64 (H + O + p * P - P) = H + O + p * P - P := w64 (by omega) (by omega)
      have h3 : wrap64 (p * P - P) = p * P - P := w64 (by omega) (by omega)
      by_cases d : H + O + p * P - P < L
      · repeat' (first
          | exact Ev.some' rfl
          | with_reducible assumption
          | (with_reducible refine Ev.bind (by with_reducible assumption) ?_)
          | (with_reducible refine Ev.ret (by with_reducible assumption) ?_)
          | (refine Ev.pos (by first | with_reducible rfl | with_reducible assumption | omega | (simp; done) | (simp; omega)) ?_)
          | (refine Ev.neg (by first | with_reducible assumption | omega | (simp; done) | (simp; omega)) ?_)
          | (refine Ev.up1 ?_; simp only [laws_FnOrder.j0, laws_FnOrder.j1, laws_FnOrder.j2, hw, hm, h1, h2, h3]))
      · have d2 : decide (p * P - P < M) = true := by simp; omega
        repeat' (first
          | exact Ev.some' rfl
          | with_reducible assumption
          | (with_reducible refine Ev.bind (by with_reducible assumption) ?_)
          | (with_reducible refine Ev.ret (by with_reducible assumption) ?_)
          | (refine Ev.pos (by first | with_reducible rfl | with_reducible assumption | omega | (simp; done) | (simp; omega)) ?_)
          | (refine Ev.neg (by first | with_reducible assumption | omega | (simp; done) | (simp; omega)) ?_)
          | (refine Ev.up1 ?_; simp only [laws_FnOrder.j0, laws_FnOrder.j1, laws_FnOrder.j2, hw, hm, h1, h2, h3, d2]))
    · simp only [if_neg c]
      have hq : max 0 (S - (H + O)) % P = max 0 (S - (H + O)) - r * P := by
        have := Int.mul_ediv_add_emod (max 0 (S - (H + O))) P
        rw [← hr, Int.mul_comm] at this
        omega
      by_cases d : r * P < max M 1
      · simp only [if_pos d]
        have h1 : wrap64 (H + O + max M P) = H + O + max M P := w64 (by omega) (by omega)
        have h2 : mx M P = max M P := mx_max _ _
        have h3 : wrap64 (S - (max 0 (S - (H + O)) - r * P)) = S - (max 0 (S - (H + O)) - r * P) := w64 (by omega) (by omega)
        have d2 : decide (H + O + max M P > S - (max 0 (S - (H + O)) - r * P)) = true := by simp only [decide_eq_true_eq]; omega
        repeat' (first
          | exact Ev.some' rfl
          | with_reducible assumption
          | (with_reducible refine Ev.bind (by with_reducible assumption) ?_)
          | (with_reducible refine Ev.ret (by with_reducible assumption) ?_)
          | (refine Ev.pos (by first | with_reducible rfl | with_reducible assumption | omega | (simp; done) | (simp; omega)) ?_)
          | (refine Ev.neg (by first | with_reducible assumption | omega | (simp; done) | (simp; omega)) ?_)
          | (refine Ev.up1 ?_; simp only [laws_FnOrder.j0, laws_FnOrder.j1, laws_FnOrder.j2, hw, hR, hm0, hq, h1, h2, h3, d2]))
      · simp only [if_neg d]
        have hm : Int.tmod (r * P) P = 0 := Int.mul_tmod_left r P
        have h1 : wrap64 (H + O + r * P) = H + O + r * P := w64 (by omega) (by omega)
        have h2 : wrap64 (H + O + r * P + P) = H + O + r * P + P := w64 (by omega) (by omega)
        have d2 : decide (H + O + r * P + P > S) = true := by simp only [decide_eq_true_eq]; omega
        repeat' (first
          | exact Ev.some' rfl
          | with_reducible assumption
          | (with_reducible refine Ev.bind (by with_reducible assumption) ?_)
          | (with_reducible refine Ev.ret (by with_reducible assumption) ?_)
          | (refine Ev.pos (by first | with_reducible rfl | with_reducible assumption | omega | (simp; done) | (simp; omega)) ?_)
          | (refine Ev.neg (by first | with_reducible assumption | omega | (simp; done) | (simp; omega)) ?_)
          | (refine Ev.up1 ?_; simp only [laws_FnOrder.j0, laws_FnOrder.j1, laws_FnOrder.j2, hw, hm, h1, h2, d2]))

end Go.Proofs.Ythhdcjdlcfbkdaa.Pure
