/- Of drawn tenders the pay's mix is right, the same for both and for any order of the tenders, as the law says: the law's plain statement, with no condition. -/
import Derived.Test.YthlphmnplfnmnaaXFnPaidx6
import Derived.Test.YthlphmnplfnmnaaAx
import Derived.Test.YthlphmnplfnmnaaIdx
namespace Go.Proofs.Ythlphmnplfnmnaa.Pure
open Go.RowKit Go.Proofs.Ythlphmnplfnmnaa.XFnPaid Go.Proofs.YthlphmnplfnmnaaW.PrintWords Go.Proofs.YthlphmnplfnmnaaW.PrintLast
open Go.Proofs.YthlphmnplfnmnaaW.Ax Go.Proofs.YthlphmnplfnmnaaW.Idx
set_option linter.unusedVariables false
set_option linter.unusedSimpArgs false
theorem within_ev (a b c : Int) : impl_within.f a b c = some (decide (b ≤ a ∧ a ≤ c)) := by
  unfold impl_within.f
  by_cases h : a ≥ b
  · rw [if_pos h]; congr 1; rw [decide_eq_decide]; omega
  · rw [if_neg h]; congr 1; symm; rw [decide_eq_false_iff_not]; omega
theorem l01In_ev (a b c : Int) : spec_l01In.f a b c = some (decide (b ≤ a ∧ a ≤ c)) := by
  unfold spec_l01In.f
  by_cases h : a ≥ b
  · rw [if_pos h]; congr 1; rw [decide_eq_decide]; omega
  · rw [if_neg h]; congr 1; symm; rw [decide_eq_false_iff_not]; omega
/-- A source of draws: its code's bytes, its place (at most N), its seed. -/
def Srd (c : List Int) (a s N : Int) : Prop := (∀ x ∈ c, 0 ≤ x ∧ x ≤ 255) ∧ 0 ≤ a ∧ a ≤ N ∧ 0 ≤ s ∧ s ≤ 2147483647
theorem Srd.mono {c : List Int} {a s N M : Int} (h : Srd c a s N) (hM : N ≤ M) : Srd c a s M := ⟨h.1, h.2.1, by have := h.2.2.1; omega, h.2.2.2⟩
theorem rd_byte {c : List Int} (hc : ∀ x ∈ c, 0 ≤ x ∧ x ≤ 255) (i : Int) : 0 ≤ rd c i ∧ rd c i ≤ 255 := by
  unfold rd
  rw [List.getD_eq_getElem?_getD]
  cases h : c[i.toNat]? with
  | none => simp
  | some x => simpa using hc x (List.mem_of_getElem? h)
theorem byte_ok {c : List Int} {a s N : Int} (h : Srd c a s N) (hN : N ≤ 1000000000) : ∃ v s', spec_l00Src_byte.f c a s = some (v, a + 1, s') ∧ 0 ≤ v ∧ v ≤ 255 ∧ Srd c (a + 1) s' (N + 1) := by
  obtain ⟨hc, h0, h1, h2, h3⟩ := h
  unfold spec_l00Src_byte.f
  rw [w64 (x := a + 1) (by omega) (by omega), w64 (x := a + 1 - 1) (by omega) (by omega), show a + 1 - 1 = a by omega]
  have hb := rd_byte hc a
  generalize rd c a = b at hb
  rw [w64 (x := b) (by omega) (by omega), w64 (x := s * 31) (by omega) (by omega), w64 (x := s * 31 + b) (by omega) (by omega), w64 (x := s * 31 + b + 7) (by omega) (by omega), Int.tmod_eq_emod_of_nonneg (show 0 ≤ s * 31 + b + 7 by omega)]
  rw [w64 (x := s * 1103515245) (by omega) (by omega), w64 (x := s * 1103515245 + 12345) (by omega) (by omega), Int.tmod_eq_emod_of_nonneg (show 0 ≤ s * 1103515245 + 12345 by omega)]
  have e := Int.emod_nonneg (s * 1103515245 + 12345) (show (2147483648 : Int) ≠ 0 by decide)
  have e2 := Int.emod_lt_of_pos (s * 1103515245 + 12345) (show (0 : Int) < 2147483648 by decide)
  have f := Int.emod_nonneg (s * 31 + b + 7) (show (2147483648 : Int) ≠ 0 by decide)
  have f2 := Int.emod_lt_of_pos (s * 31 + b + 7) (show (0 : Int) < 2147483648 by decide)
  generalize (s * 1103515245 + 12345) % 2147483648 = t at e e2 ⊢
  generalize (s * 31 + b + 7) % 2147483648 = u at f f2 ⊢
  by_cases c1 : a + 1 ≤ (c.length : Int)
  · rw [if_pos c1, if_pos h0, if_pos (by omega)]
    exact ⟨_, _, rfl, hb.1, hb.2, hc, by omega, by omega, by omega, by omega⟩
  · rw [if_neg c1]
    by_cases c2 : a + 1 > 3000
    · rw [if_pos c2]
      exact ⟨_, _, rfl, by omega, by omega, hc, by omega, by omega, by omega, by omega⟩
    · rw [if_neg c2, Int.tdiv_eq_ediv_of_nonneg (by omega), w64 (by omega) (by omega), Int.tmod_eq_emod_of_nonneg (by omega)]
      exact ⟨_, _, rfl, by omega, by omega, hc, by omega, by omega, by omega, by omega⟩
theorem next_ok {c : List Int} {a s N : Int} (n : Int) (h : Srd c a s N) (hN : N ≤ 900000000) (h1 : 1 ≤ n) (h2 : n ≤ 16777216) : ∃ v a' s', spec_l00Src_next.f c a s n = some (v, a', s') ∧ 0 ≤ v ∧ v < n ∧ Srd c a' s' (N + 3) := by
  unfold spec_l00Src_next.f
  by_cases c1 : n ≤ 1
  · rw [if_pos c1]
    exact ⟨_, _, _, rfl, by omega, by omega, h.mono (by omega)⟩
  · rw [if_neg c1]
    obtain ⟨v, s1, hv, v0, v1, S1⟩ := byte_ok h (by omega)
    simp only [hv, Option.bind_some]
    have g := Int.emod_nonneg v (show n ≠ 0 by omega)
    have g2 := Int.emod_lt_of_pos v (show 0 < n by omega)
    by_cases c2 : n ≤ 256
    · rw [if_pos c2, if_neg (by omega), Int.tmod_eq_emod_of_nonneg (by omega)]
      exact ⟨_, _, _, rfl, g, g2, S1.mono (by omega)⟩
    · rw [if_neg c2]
      obtain ⟨x, s2, hx, x0, x1, S2⟩ := byte_ok S1 (by omega)
      simp only [hx, Option.bind_some]
      obtain ⟨y, s3, hy, y0, y1, S3⟩ := byte_ok S2 (by omega)
      simp only [hy, Option.bind_some]
      rw [if_neg (by omega)]
      rw [w64 (x := v * 65536) (by omega) (by omega), w64 (x := x * 256) (by omega) (by omega), w64 (x := v * 65536 + x * 256) (by omega) (by omega), w64 (by omega) (by omega), Int.tmod_eq_emod_of_nonneg (by omega)]
      exact ⟨_, _, _, rfl, Int.emod_nonneg _ (by omega), Int.emod_lt_of_pos _ (by omega), S3.mono (by omega)⟩
theorem source_ok (l : List Int) (h : ∀ x ∈ l, (Lit.int .u8 x).wf = true) : ∃ s, spec_l00Source.f l = some (l, 0, s) ∧ Srd l 0 s 0 := by
  refine ⟨_, rfl, fun x hx => bounds_u8 (h x hx), by omega, by omega, ?_, ?_⟩ <;> omega
theorem floor_num (a b : Int) (hb : 1 ≤ b) (ha : -4611686018427387904 ≤ a ∧ a ≤ 4611686018427387904) :
    (if Int.tmod a b < 0 then wrap64 ((wrap64 (Int.tdiv a b)) - 1) else wrap64 (Int.tdiv a b)) = a / b := by
  have h0 : a / b ≤ 4611686018427387904 := by
    by_cases c : 0 ≤ a
    · have := Int.ediv_le_self b c; omega
    · have := Int.ediv_neg_of_neg_of_pos (a := a) (b := b) (by omega) (by omega); omega
  have h1 : -4611686018427387904 ≤ a / b := by
    rw [Int.le_ediv_iff_mul_le (by omega)]
    have := Int.mul_le_mul_of_nonneg_left (show (1 : Int) ≤ b by omega) (show (0 : Int) ≤ 4611686018427387904 by omega)
    omega
  have e1 := Int.emod_nonneg a (show b ≠ 0 by omega)
  have e2 := Int.emod_lt_of_pos a (show 0 < b by omega)
  rw [Int.tmod_eq_emod, Int.tdiv_eq_ediv]
  by_cases c : 0 ≤ a ∨ b ∣ a
  · rw [if_pos c, if_pos c, if_neg (by omega)]
    rw [show a / b + 0 = a / b by omega]
    exact w64 (by omega) (by omega)
  · rw [if_neg c, if_neg c, Int.sign_eq_one_of_pos (by omega)]
    rw [if_pos (by omega), w64 (x := a / b + 1) (by omega) (by omega), w64 (by omega) (by omega)]
    omega

theorem rdT_mid (p : List S40) (x : S40) (r : List S40) : rd_T40 (p ++ x :: r) (p.length : Int) = x := getD_mid p x r z40
/-- A drawn tender. -/
def gT (t : S40) : Prop := (1 ≤ t.f0 ∧ t.f0 ≤ 4) ∧ (1 ≤ t.f1 ∧ t.f1 ≤ 900) ∧ (t.f0 = 4 → (0 ≤ t.f2.f0 ∧ t.f2.f0 ≤ 90) ∧ (1 ≤ t.f2.f1 ∧ t.f2.f1 ≤ 100)) ∧ (t.f0 ≠ 4 → t.f2.f0 = 0 ∧ t.f2.f1 = 0)
def pA (t : S40) : Int := if t.f0 = 1 then t.f1 else 0
def pB (t : S40) : Int := if t.f0 = 2 then t.f1 else 0
def pC (t : S40) : Int := if t.f0 = 3 then t.f1 else if t.f0 = 4 then t.f1 * t.f2.f0 / t.f2.f1 else 0
def sumF (f : S40 → Int) : List S40 → Int
  | [] => 0
  | t :: ts => f t + sumF f ts
theorem sumF_append (f : S40 → Int) : ∀ a b, sumF f (a ++ b) = sumF f a + sumF f b := by
  intro a
  induction a with
  | nil => intro b; simp [sumF]
  | cons x a ih => intro b; rw [List.cons_append, sumF, sumF, ih]; omega
theorem sumF_reverse (f : S40 → Int) : ∀ a, sumF f a.reverse = sumF f a := by
  intro a
  induction a with
  | nil => rfl
  | cons x a ih => rw [List.reverse_cons, sumF_append, ih, sumF, sumF, sumF]; omega
theorem rate_part {t : S40} (h : gT t) (h4 : t.f0 = 4) : (0 ≤ t.f1 * t.f2.f0 ∧ t.f1 * t.f2.f0 ≤ 81000) ∧ 0 ≤ t.f1 * t.f2.f0 / t.f2.f1 ∧ t.f1 * t.f2.f0 / t.f2.f1 ≤ 81000 := by
  obtain ⟨h0, h1, h2, h3⟩ := h
  have h2 := h2 h4
  have a1 := Int.mul_nonneg (show 0 ≤ t.f1 by omega) h2.1.1
  have a2 : t.f1 * t.f2.f0 ≤ 900 * 90 := Int.mul_le_mul h1.2 h2.1.2 h2.1.1 (by omega)
  have a3 : 0 ≤ t.f1 * t.f2.f0 / t.f2.f1 := Int.ediv_nonneg a1 (by omega)
  have a4 : t.f1 * t.f2.f0 / t.f2.f1 ≤ t.f1 * t.f2.f0 := Int.ediv_le_self _ a1
  omega
theorem part_bounds {t : S40} (h : gT t) : (0 ≤ pA t ∧ pA t ≤ 81000) ∧ (0 ≤ pB t ∧ pB t ≤ 81000) ∧ (0 ≤ pC t ∧ pC t ≤ 81000) := by
  have h1 := h.2.1
  refine ⟨?_, ?_, ?_⟩
  · unfold pA; split <;> omega
  · unfold pB; split <;> omega
  · unfold pC
    split
    · omega
    · split
      · rename_i h4
        exact (rate_part h h4).2
      · omega
theorem sums_bounds : ∀ l : List S40, (∀ t ∈ l, gT t) → (0 ≤ sumF pA l ∧ sumF pA l ≤ 81000 * l.length) ∧ (0 ≤ sumF pB l ∧ sumF pB l ≤ 81000 * l.length) ∧ (0 ≤ sumF pC l ∧ sumF pC l ≤ 81000 * l.length) := by
  intro l
  induction l with
  | nil => intro _; simp [sumF]
  | cons x l ih =>
    intro h
    have h1 := part_bounds (h x (by simp))
    have h2 := ih (fun y hy => h y (List.mem_cons_of_mem x hy))
    simp only [sumF, List.length_cons]
    omega
/-- The pay's mix. -/
def payV (t A B C : Int) : Int × Int × Int × Int × Int × Int × Int :=
  if t - min t A - B < 0 then (0, 0, 0, 0, 0, 0, 5) else (min t A, B, min (t - min t A - B) C, A - min t A, C - min (t - min t A - B) C, t - min t A - B - min (t - min t A - B) C, 0)
theorem mn_min (a b : Int) : mn a b = min a b := by unfold mn; split <;> omega
theorem implRate_ev (a b : Int) (ha : 0 ≤ a ∧ a ≤ 10000) (hb : 1 ≤ b ∧ b ≤ 10000) : impl_RateOK.f a b = some true := by
  unfold impl_RateOK.f
  rw [within_ev, within_ev]
  simp [ha, hb]
theorem implTender_ev {t : S40} (h : gT t) : impl_isTender.f t.f0 t.f1 t.f2.f0 t.f2.f1 = some true := by
  obtain ⟨h0, h1, h2, h3⟩ := h
  unfold impl_isTender.f
  rw [within_ev, Option.bind_some, if_pos (by simp; omega)]
  by_cases c : t.f0 = 4
  · have h2 := h2 c
    rw [if_pos c, implRate_ev _ _ (by omega) (by omega)]
    rfl
  · have h3 := h3 c
    rw [if_neg c, within_ev, Option.bind_some, if_pos (by simp; omega), h3.1, h3.2]
    rfl
theorem specRate_ev (a b : Int) (ha : 0 ≤ a ∧ a ≤ 10000) (hb : 1 ≤ b ∧ b ≤ 10000) : spec_RateOK.f a b = some true := by
  unfold spec_RateOK.f
  rw [l01In_ev, l01In_ev]
  simp [ha, hb]
theorem specTender_ev {t : S40} (h : gT t) : spec_l09Tender.f t.f0 t.f1 t.f2.f0 t.f2.f1 = some true := by
  obtain ⟨h0, h1, h2, h3⟩ := h
  unfold spec_l09Tender.f
  rw [l01In_ev, Option.bind_some, if_pos (by simp; omega)]
  by_cases c : t.f0 = 4
  · have h2 := h2 c
    rw [if_pos c, specRate_ev _ _ (by omega) (by omega)]
    rfl
  · have h3 := h3 c
    rw [if_neg c, l01In_ev, Option.bind_some, if_pos (by simp; omega), h3.1, h3.2]
    rfl
theorem idx_l0 : ∀ (a p : List S40), (p ++ a).length < 1000000 → (∀ t ∈ a, gT t) → Ev (fun k => impl_Tender_51.l0 k (p ++ a) ((p ++ a).length : Int) (p.length : Int)) (-1) := by
  intro a
  induction a with
  | nil => intro p hl h; exact Ev.step (fun k => rfl) (Ev.neg (len_end p) (Ev.some' rfl))
  | cons x a ih =>
    intro p hl h
    have hl' := hl
    rw [List.length_append, List.length_cons] at hl'
    refine Ev.step (fun k => rfl) (Ev.pos (len_lt p x a) (Ev.pos (by omega) (Ev.pos (len_lt p x a) ?_)))
    rw [rdT_mid]
    refine Ev.ret (a := false) (by unfold impl_PayMix_1.f; rw [implTender_ev (h x (by simp))]; rfl) (Ev.neg ff ?_)
    rw [w64 (by omega) (by omega), ← len_snoc p x, snoc p x a]
    exact ih (p ++ [x]) (by rw [← snoc]; exact hl) (fun t ht => h t (by simp [ht]))
theorem has_ev (l : List S40) (hl : l.length < 1000000) (h : ∀ t ∈ l, gT t) : Ev (fun k => impl_Tender_38.f k l) false :=
  Ev.bind (idx_l0 l [] hl h) (Ev.some' rfl)
theorem impl_l0 (t : Int) (ht : 0 ≤ t ∧ t ≤ 1000000000) : ∀ (a p : List S40) (A B C : Int), (p ++ a).length ≤ 20 → (∀ t ∈ a, gT t) → (0 ≤ A ∧ A ≤ 81000 * p.length) → (0 ≤ B ∧ B ≤ 81000 * p.length) → (0 ≤ C ∧ C ≤ 81000 * p.length) →
    Ev (fun k => impl_PayMix.l0 k t A B C (p ++ a) ((p ++ a).length : Int) (p.length : Int)) (payV t (A + sumF pA a) (B + sumF pB a) (C + sumF pC a)) := by
  intro a
  induction a with
  | nil =>
    intro p A B C hl h hA hB hC
    rw [List.append_nil] at hl
    refine Ev.step (fun k => rfl) (Ev.neg (len_end p) ?_)
    simp only [sumF, Int.add_zero, mn_min]
    rw [w64 (x := t - min t A) (by omega) (by omega), w64 (x := t - min t A - B) (by omega) (by omega)]
    unfold payV
    by_cases c : t - min t A - B < 0
    · exact Ev.pos c (Ev.some' (by rw [if_pos c]))
    · refine Ev.neg c (Ev.some' ?_)
      rw [if_neg c, w64 (x := A - min t A) (by omega) (by omega), w64 (by omega) (by omega), w64 (by omega) (by omega)]
  | cons x a ih =>
    intro p A B C hl h hA hB hC
    have hl' := hl
    rw [List.length_append, List.length_cons] at hl'
    have hx := h x (by simp)
    have hb := part_bounds hx
    have hi := fun A' B' C' hA' hB' hC' => ih (p ++ [x]) A' B' C' (by rw [← snoc]; exact hl) (fun t ht => h t (by simp [ht])) hA' hB' hC'
    rw [len_snoc, ← snoc] at hi
    obtain ⟨h0, h1, h2, h3⟩ := hx
    refine Ev.step (fun k => rfl) (Ev.pos (len_lt p x a) (Ev.pos (by omega) (Ev.pos (len_lt p x a) ?_)))
    rw [rdT_mid, w64 (x := (p.length : Int) + 1) (by omega) (by omega)]
    simp only [sumF, ← Int.add_assoc]
    by_cases c1 : x.f0 = 1
    · have e1 : pA x = x.f1 := if_pos c1
      have e2 : pB x = 0 := if_neg (by omega)
      have e3 : pC x = 0 := by unfold pC; rw [if_neg (by omega), if_neg (by omega)]
      rw [e1, e2, e3, Int.add_zero, Int.add_zero]
      refine Ev.pos c1 ?_
      rw [w64 (x := A + x.f1) (by omega) (by omega)]
      exact hi _ _ _ (by omega) (by omega) (by omega)
    refine Ev.neg c1 ?_
    have e1 : pA x = 0 := if_neg c1
    by_cases c2 : x.f0 = 2
    · have e2 : pB x = x.f1 := if_pos c2
      have e3 : pC x = 0 := by unfold pC; rw [if_neg (by omega), if_neg (by omega)]
      rw [e1, e2, e3, Int.add_zero, Int.add_zero]
      refine Ev.pos c2 ?_
      rw [w64 (x := B + x.f1) (by omega) (by omega)]
      exact hi _ _ _ (by omega) (by omega) (by omega)
    refine Ev.neg c2 ?_
    have e2 : pB x = 0 := if_neg c2
    by_cases c3 : x.f0 = 3
    · have e3 : pC x = x.f1 := if_pos c3
      rw [e1, e2, e3, Int.add_zero, Int.add_zero]
      refine Ev.pos c3 ?_
      rw [w64 (x := C + x.f1) (by omega) (by omega)]
      exact hi _ _ _ (by omega) (by omega) (by omega)
    · have c4 : x.f0 = 4 := by omega
      have e3 : pC x = x.f1 * x.f2.f0 / x.f2.f1 := by unfold pC; rw [if_neg c3, if_pos c4]
      obtain ⟨r1, r2, r3⟩ := rate_part (h x (by simp)) c4
      have h2 := h2 c4
      rw [e1, e2, e3, Int.add_zero, Int.add_zero]
      refine Ev.neg c3 (Ev.neg (by omega) ?_)
      rw [w64 (x := x.f1 * x.f2.f0) (by omega) (by omega), Int.tdiv_eq_ediv_of_nonneg r1.1, w64 (x := x.f1 * x.f2.f0 / x.f2.f1) (by omega) (by omega), w64 (by omega) (by omega)]
      exact hi _ _ _ (by omega) (by omega) (by omega)
theorem implPay_ev (t : Int) (l : List S40) (ht : 0 ≤ t ∧ t ≤ 1000000000) (hl : l.length ≤ 20) (h : ∀ t ∈ l, gT t) : Ev (fun k => impl_PayMix.f k t l) (payV t (sumF pA l) (sumF pB l) (sumF pC l)) := by
  unfold impl_PayMix.f impl_Tender_37.f
  refine Ev.ret rfl (Ev.pos (by simp; omega) (Ev.neg (by omega) (Ev.ret (within_ev _ _ _) (Ev.pos (by simp; omega) (Ev.bind (has_ev l (by omega) h) (Ev.neg ff ?_))))))
  refine Ev.eq (impl_l0 t ht l [] 0 0 0 (by simpa using hl) h (by simp) (by simp) (by simp)) ?_
  simp only [Int.zero_add]
theorem floor01_ev (a b : Int) (hb : 1 ≤ b) (ha : -4611686018427387904 ≤ a ∧ a ≤ 4611686018427387904) : spec_l01Floor.f a b = some (a / b) := by
  have h := floor_num a b hb ha
  unfold spec_l01Floor.f
  rw [if_neg (by omega)]
  by_cases c : Int.tmod a b < 0
  · rw [if_pos c] at h ⊢; rw [h]
  · rw [if_neg c] at h ⊢; rw [h]
theorem round_ev (a b : Int) (hb : 1 ≤ b) (ha : -4611686018427387904 ≤ a ∧ a ≤ 4611686018427387904) : Ev (fun k => spec_l01Round.f k a b 1) (a / b) := by
  unfold spec_l01Round.f
  refine Ev.ret (floor01_ev a b hb ha) ?_
  by_cases c : wrap64 (a - wrap64 (a / b * b)) = 0
  · exact Ev.pos c (Ev.via (Ev.some' rfl) (fun k => rfl))
  · exact Ev.neg c (Ev.via (Ev.some' rfl) (fun k => rfl))
theorem spec_l0 (t : Int) (ht : 0 ≤ t ∧ t ≤ 1000000000) : ∀ (a p : List S40) (A B C : Int), (p ++ a).length ≤ 20 → (∀ t ∈ a, gT t) → (0 ≤ A ∧ A ≤ 81000 * p.length) → (0 ≤ B ∧ B ≤ 81000 * p.length) → (0 ≤ C ∧ C ≤ 81000 * p.length) →
    Ev (fun k => spec_PayMix.l0 k t (p ++ a) [0, A, B, C, 0] (p.length : Int)) (payV t (A + sumF pA a) (B + sumF pB a) (C + sumF pC a)) := by
  intro a
  induction a with
  | nil =>
    intro p A B C hl h hA hB hC
    rw [List.append_nil] at hl
    refine Ev.step (fun k => rfl) (Ev.neg (len_end p) (Ev.pos (show (1 : Int) < (([0, A, B, C, 0] : List Int).length : Int) by simp) (Ev.pos (show (2 : Int) < (([0, A, B, C, 0] : List Int).length : Int) by simp) ?_)))
    simp only [sumF, Int.add_zero, mn_min, show rd [0, A, B, C, 0] 1 = A from rfl, show rd [0, A, B, C, 0] 2 = B from rfl, show rd [0, A, B, C, 0] 3 = C from rfl]
    rw [Int.min_comm A t, w64 (x := t - min t A) (by omega) (by omega), w64 (x := t - min t A - B) (by omega) (by omega), Int.min_comm C]
    unfold payV
    by_cases c : t - min t A - B < 0
    · rw [if_pos c]; exact Ev.pos (by omega) (Ev.some' rfl)
    · rw [if_neg c]
      refine Ev.neg (by omega) (Ev.pos (show (3 : Int) < (([0, A, B, C, 0] : List Int).length : Int) by simp) (Ev.some' ?_))
      rw [w64 (x := A - min t A) (by omega) (by omega), w64 (by omega) (by omega), w64 (by omega) (by omega)]
  | cons x a ih =>
    intro p A B C hl h hA hB hC
    have hl' := hl
    rw [List.length_append, List.length_cons] at hl'
    have hx := h x (by simp)
    have hb := part_bounds hx
    have hi := fun A' B' C' hA' hB' hC' => ih (p ++ [x]) A' B' C' (by rw [← snoc]; exact hl) (fun t ht => h t (by simp [ht])) hA' hB' hC'
    rw [len_snoc, ← snoc] at hi
    refine Ev.step (fun k => rfl) (Ev.pos (len_lt p x a) (Ev.pos (by omega) ?_))
    rw [rdT_mid, w64 (x := (p.length : Int) + 1) (by omega) (by omega)]
    refine Ev.ret (specTender_ev hx) (Ev.pos rfl ?_)
    obtain ⟨h0, h1, h2, h3⟩ := hx
    simp only [sumF, ← Int.add_assoc]
    by_cases c4 : x.f0 = 4
    · have e1 : pA x = 0 := if_neg (by omega)
      have e2 : pB x = 0 := if_neg (by omega)
      have e3 : pC x = x.f1 * x.f2.f0 / x.f2.f1 := by unfold pC; rw [if_neg (by omega), if_pos c4]
      obtain ⟨r1, r2, r3⟩ := rate_part (h x (by simp)) c4
      have h2 := h2 c4
      rw [e1, e2, e3, Int.add_zero, Int.add_zero]
      refine Ev.pos c4 (Ev.pos (show (3 : Int) < (([0, A, B, C, 0] : List Int).length : Int) by simp) ?_)
      rw [w64 (x := x.f1 * x.f2.f0) (by omega) (by omega)]
      refine Ev.bind (round_ev _ _ (by omega) (by omega)) ?_
      rw [show rd [0, A, B, C, 0] 3 = C from rfl, w64 (by omega) (by omega)]
      exact hi A B _ (by omega) (by omega) (by omega)
    · refine Ev.neg c4 (Ev.pos (by omega) (Ev.pos (by simp; omega) ?_))
      have hc : x.f0 = 1 ∨ x.f0 = 2 ∨ x.f0 = 3 := by omega
      rcases hc with c | c | c
      · have e1 : pA x = x.f1 := if_pos c
        have e2 : pB x = 0 := if_neg (by omega)
        have e3 : pC x = 0 := by unfold pC; rw [if_neg (by omega), if_neg (by omega)]
        rw [e1, e2, e3, Int.add_zero, Int.add_zero, c, show rd [0, A, B, C, 0] 1 = A from rfl, w64 (by omega) (by omega)]
        exact hi _ B C (by omega) (by omega) (by omega)
      · have e1 : pA x = 0 := if_neg (by omega)
        have e2 : pB x = x.f1 := if_pos c
        have e3 : pC x = 0 := by unfold pC; rw [if_neg (by omega), if_neg (by omega)]
        rw [e1, e2, e3, Int.add_zero, Int.add_zero, c, show rd [0, A, B, C, 0] 2 = B from rfl, w64 (by omega) (by omega)]
        exact hi A _ C (by omega) (by omega) (by omega)
      · have e1 : pA x = 0 := if_neg (by omega)
        have e2 : pB x = 0 := if_neg (by omega)
        have e3 : pC x = x.f1 := if_pos c
        rw [e1, e2, e3, Int.add_zero, Int.add_zero, c, show rd [0, A, B, C, 0] 3 = C from rfl, w64 (by omega) (by omega)]
        exact hi A B _ (by omega) (by omega) (by omega)
theorem specPay_ev (t : Int) (l : List S40) (ht : 0 ≤ t ∧ t ≤ 1000000000) (hl : l.length ≤ 20) (h : ∀ t ∈ l, gT t) : Ev (fun k => spec_PayMix.f k t l) (payV t (sumF pA l) (sumF pB l) (sumF pC l)) := by
  unfold spec_PayMix.f
  have h5 : (5 : Nat) ≤ 35184372088832 := by decide
  refine Ev.neg (by omega) (Ev.neg (by omega) (Ev.ret (l01In_ev _ _ _) (Ev.pos (by simp; omega) (Ev.pos h5 ?_))))
  refine Ev.eq (spec_l0 t ht l [] 0 0 0 (by simpa using hl) h (by simp) (by simp) (by simp)) ?_
  simp only [Int.zero_add]
theorem TendersOf_l0 (c : List Int) : ∀ (n : Nat) (acc : List S40) (a s N : Int), Srd c a s N → N + 20 * n ≤ 1000000 → acc.length + n ≤ 20 → (∀ l ∈ acc, gT l) →
    ∃ L t, Ev (fun k => spec_TendersOf.l0 k acc (n : Int) c a s) (L, t) ∧ L.length ≤ 20 ∧ (∀ l ∈ L, gT l) ∧ 0 ≤ t ∧ t ≤ 1000000000 := by
  intro n
  induction n with
  | zero =>
    intro acc a s N hS hN hl hok
    obtain ⟨v, a1, s1, e1, l1, u1, S1⟩ := next_ok 2500 hS (by omega) (by omega) (by omega)
    refine ⟨acc, v, Ev.via (f := fun _ => (spec_l00Src_next.f c a s 2500).bind fun bt126 => (some (acc, bt126.1))) (Ev.ret e1 (Ev.some' rfl)) (fun k => rfl), by omega, hok, by omega, by omega⟩
  | succ n ih =>
    intro acc a s N hS hN hl hok
    obtain ⟨v, a1, s1, e1, l1, u1, S1⟩ := next_ok 4 hS (by omega) (by omega) (by omega)
    obtain ⟨x, a2, s2, e2, l2, u2, S2⟩ := next_ok 900 S1 (by omega) (by omega) (by omega)
    obtain ⟨y, a3, s3, e3, l3, u3, S3⟩ := next_ok 90 S2 (by omega) (by omega) (by omega)
    obtain ⟨z, a4, s4, e4, l4, u4, S4⟩ := next_ok 90 S3 (by omega) (by omega) (by omega)
    have w1 : wrap64 (1 + v) = 1 + v := w64 (by omega) (by omega)
    have w2 : wrap64 (1 + x) = 1 + x := w64 (by omega) (by omega)
    have w3 : wrap64 (1 + z) = 1 + z := w64 (by omega) (by omega)
    have w4 : wrap64 (((n + 1 : Nat) : Int) - 1) = (n : Int) := by rw [w64 (by omega) (by omega)]; omega
    have hmem : ∀ q : S40, gT q → ∀ l ∈ acc ++ [q], gT l := by
      intro q hq l hl
      rcases List.mem_append.1 hl with hl | hl
      · exact hok l hl
      · rw [List.mem_singleton.1 hl]; exact hq
    by_cases c4 : 1 + v = 4
    · obtain ⟨L, t, h1, h2⟩ := ih (acc ++ [⟨1 + v, 1 + x, ⟨y, 1 + z⟩⟩]) a4 s4 _ S4 (by omega) (by simp; omega) (hmem _ (by unfold gT; simp only; omega))
      refine ⟨L, t, Ev.step (fun k => rfl) (Ev.pos (show ((n + 1 : Nat) : Int) > 0 by omega) (Ev.ret e1 (Ev.ret e2 ?_))), h2⟩
      simp only [w1, w2, w4]
      refine Ev.pos c4 (Ev.ret e3 (Ev.ret e4 (Ev.pos (by omega) ?_)))
      simp only [w3]
      exact h1
    · obtain ⟨L, t, h1, h2⟩ := ih (acc ++ [⟨1 + v, 1 + x, ⟨0, 0⟩⟩]) a2 s2 _ S2 (by omega) (by simp; omega) (hmem _ ⟨by simp only; omega, by simp only; omega, fun h => absurd h c4, fun _ => ⟨rfl, rfl⟩⟩)
      refine ⟨L, t, Ev.step (fun k => rfl) (Ev.pos (show ((n + 1 : Nat) : Int) > 0 by omega) (Ev.ret e1 (Ev.ret e2 ?_))), h2⟩
      simp only [w1, w2, w4]
      exact Ev.neg c4 (Ev.pos (by omega) h1)
theorem TendersOf_ok (l : List Int) (h : ∀ x ∈ l, (Lit.int .u8 x).wf = true) :
    ∃ L t, Ev (fun k => spec_TendersOf.f k l) (L, t) ∧ L.length ≤ 20 ∧ (∀ l ∈ L, gT l) ∧ 0 ≤ t ∧ t ≤ 1000000000 := by
  obtain ⟨s, hs, S0⟩ := source_ok l h
  obtain ⟨v, a1, s1, e1, l1, u1, S1⟩ := next_ok 6 S0 (by omega) (by omega) (by omega)
  obtain ⟨L, t, h1, h2⟩ := TendersOf_l0 l v.toNat [] a1 s1 _ S1 (by omega) (by simp; omega) (by simp)
  rw [Int.toNat_of_nonneg l1] at h1
  refine ⟨L, t, ?_, h2⟩
  unfold spec_TendersOf.f
  exact Ev.ret hs (Ev.ret e1 h1)
theorem law_l0 (L : List S40) (t a b c d e f g : Int) (hL : L.length ≤ 20)
    (hp : Ev (fun k => impl_PayMix.f k t L.reverse) (a, b, c, d, e, f, g)) (hj : Ev (fun k => laws_FnPaid.j1 k t g false a b c d e f) true) : ∀ (r q : List S40), L = r.reverse ++ q →
    Ev (fun k => laws_FnPaid.l0 k L t g g q.reverse ((r.length : Int) - 1) a b c d e f a b c d e f) true := by
  intro r
  induction r with
  | nil =>
    intro q hq
    rw [List.reverse_nil, List.nil_append] at hq
    subst hq
    refine Ev.step (fun k => rfl) (Ev.neg (show ¬ ((([] : List S40).length : Int) - 1) ≥ 0 by simp) (Ev.bind hp (Ev.pos rfl (Ev.pos rfl (Ev.neg (by simp) ?_)))))
    have hb : (!(a == a) || (!(b == b) || (!(c == c) || (!(d == d) || (!(e == e) || (!(f == f))))))) = false := by simp
    rw [hb]
    exact hj
  | cons y r ih =>
    intro q hq
    have hq2 : L = r.reverse ++ y :: q := by rw [hq, List.reverse_cons, List.append_assoc]; rfl
    have hlen : L.length = r.length + (q.length + 1) := by rw [hq2]; simp
    have hrd : rd_T40 L (r.length : Int) = y := by
      rw [hq2, show (r.length : Int) = (r.reverse.length : Int) by simp]
      exact rdT_mid _ _ _
    have e1 : (((y :: r).length : Nat) : Int) - 1 = (r.length : Int) := by simp
    rw [e1]
    refine Ev.step (fun k => rfl) (Ev.pos (show (r.length : Int) ≥ 0 by omega) (Ev.pos (by omega) (Ev.pos (by omega) (Ev.pos (by simp; omega) ?_))))
    rw [hrd, w64 (by omega) (by omega)]
    have := ih (y :: q) hq2
    rw [List.reverse_cons] at this
    exact this
theorem law_j1 (t A B C : Int) (ht : 0 ≤ t ∧ t ≤ 1000000000) (hA : 0 ≤ A ∧ A ≤ 10000000) (hB : 0 ≤ B ∧ B ≤ 10000000) (hC : 0 ≤ C ∧ C ≤ 10000000) :
    Ev (fun k => laws_FnPaid.j1 k t (payV t A B C).2.2.2.2.2.2 false (payV t A B C).1 (payV t A B C).2.1 (payV t A B C).2.2.1 (payV t A B C).2.2.2.1 (payV t A B C).2.2.2.2.1 (payV t A B C).2.2.2.2.2.1) true := by
  unfold payV
  by_cases c : t - min t A - B < 0
  · simp only [if_pos c]
    exact Ev.via (Ev.some' rfl) (fun k => rfl)
  · simp only [if_neg c]
    generalize hx : min t A = x
    generalize hz : min (t - x - B) C = z
    refine Ev.up1 ?_
    simp only [laws_FnPaid.j1, if_neg ff]
    rw [w64 (x := x + B) (by omega) (by omega), w64 (x := x + B + z) (by omega) (by omega), w64 (by omega) (by omega)]
    refine Ev.pos trivial (Ev.pos (by omega) ?_)
    have hd : decide (t - x - B - z ≥ 0) = true := by simp; omega
    rw [hd]
    by_cases c1 : C - z > 0
    · refine Ev.pos c1 (Ev.neg (by omega) ?_)
      by_cases c2 : A - x > 0
      · exact Ev.pos c2 (Ev.pos (by omega) (Ev.pos (by omega) (Ev.pos (by omega) (Ev.pos (by omega) (Ev.pos (by omega) (Ev.pos (by omega) (Ev.some' rfl)))))))
      · exact Ev.neg c2 (Ev.pos (by omega) (Ev.pos (by omega) (Ev.pos (by omega) (Ev.pos (by omega) (Ev.pos (by omega) (Ev.some' rfl))))))
    · refine Ev.neg c1 ?_
      by_cases c2 : A - x > 0
      · exact Ev.pos c2 (Ev.pos (by omega) (Ev.pos (by omega) (Ev.pos (by omega) (Ev.pos (by omega) (Ev.pos (by omega) (Ev.pos (by omega) (Ev.some' rfl)))))))
      · exact Ev.neg c2 (Ev.pos (by omega) (Ev.pos (by omega) (Ev.pos (by omega) (Ev.pos (by omega) (Ev.pos (by omega) (Ev.some' rfl))))))
theorem FnPaid : laws_FnPaid.Pure := by
  intro l h
  refine Ev.rounds (?_ : Ev (fun k => laws_FnPaid.f k l) true)
  unfold laws_FnPaid.f
  by_cases c1 : (l.length : Int) > 1048576
  · exact Ev.pos c1 (Ev.some' rfl)
  refine Ev.neg c1 ?_
  obtain ⟨L, t, hd, hl, hok, ht⟩ := TendersOf_ok l h.2
  have hb := sums_bounds L hok
  have i1 := implPay_ev t L ht hl hok
  have i2 := specPay_ev t L ht hl hok
  have i3 := implPay_ev t L.reverse ht (by simpa using hl) (fun x hx => hok x (by simpa using hx))
  rw [sumF_reverse, sumF_reverse, sumF_reverse] at i3
  have hj := law_j1 t (sumF pA L) (sumF pB L) (sumF pC L) ht (by omega) (by omega) (by omega)
  generalize payV t (sumF pA L) (sumF pB L) (sumF pC L) = v at i1 i2 i3 hj
  obtain ⟨a, b, c, d, e, f, g⟩ := v
  refine Ev.bind hd (Ev.bind i1 (Ev.bind i2 ?_))
  have := law_l0 L t a b c d e f g hl i3 hj L.reverse [] (by simp)
  rw [List.length_reverse] at this
  simp only
  rw [w64 (by omega) (by omega)]
  exact this

end Go.Proofs.Ythlphmnplfnmnaa.Pure
