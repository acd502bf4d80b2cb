/- The program's ReadSegments and the reference's answer alike for all texts, and the answer owns its memory: the law's plain statement, with no condition. -/
import Derived.Test.YtkiooiijnolocaaXFnExactReadSegmentsx8
import Derived.Test.YtkiooiijnolocaaAx
import Derived.Test.YtkiooiijnolocaaIdx
import Derived.Lib.Split
namespace Go.Proofs.Ytkiooiijnolocaa.Pure
open Go.RowKit Go.Proofs.Ytkiooiijnolocaa.XFnExactReadSegments Go.Proofs.YtkiooiijnolocaaW.PrintWords Go.Proofs.YtkiooiijnolocaaW.PrintLast
open Go.Proofs.YtkiooiijnolocaaW.Ax Go.Proofs.YtkiooiijnolocaaW.Idx
set_option linter.unusedVariables false
set_option linter.unusedSimpArgs false
theorem size_len (a : ByteArray) : a.size = a.data.toList.length := Lib.size_eq a
theorem bt_cons (a : ByteArray) (i : Nat) (c : UInt8) (r : List UInt8) (h : a.data.toList.drop i = c :: r) : i < a.size ∧ bt a (i : Int) = (c.toNat : Int) ∧ a.data.toList.drop (i + 1) = r := by
  have hl : i < a.size := by
    rw [size_len]
    rcases Nat.lt_or_ge i a.data.toList.length with q | q
    · exact q
    · rw [List.drop_eq_nil_of_le q] at h; cases h
  refine ⟨hl, ?_, ?_⟩
  · have h2 : a.data.toList[i]? = some c := by
      have : (a.data.toList.drop i)[0]? = some c := by rw [h]; rfl
      simpa using this
    unfold bt
    rw [Int.toNat_natCast, dif_pos hl]
    have h3 : a[i] = c := by
      have : a.data.toList[i]'(by rw [← size_len]; exact hl) = c := by
        rw [List.getElem?_eq_getElem (by rw [← size_len]; exact hl)] at h2
        exact Option.some.inj h2
      rw [← this]
      simp [ByteArray.getElem_eq_getElem_data]
    rw [h3]
  · have := congrArg List.tail h
    simpa using this
theorem ba_ext {a b : ByteArray} (h : a.data.toList = b.data.toList) : a = b := ByteArray.ext (Array.ext' h)
theorem bt_get (a : ByteArray) (i : Nat) (h : i < a.size) : ∃ x, a.data.toList[i]? = some x ∧ bt a (i : Int) = (x.toNat : Int) := by
  cases hd : a.data.toList.drop i with
  | nil =>
    rw [size_len] at h
    have := List.drop_eq_nil_iff.1 hd
    omega
  | cons x r =>
    refine ⟨x, ?_, (bt_cons a i x r hd).2.1⟩
    have : (a.data.toList.drop i)[0]? = some x := by rw [hd]; rfl
    simpa using this
/-! ### bytes of joined texts -/
theorem bt_opt (a : ByteArray) (i : Nat) : bt a (i : Int) = (((a.data.toList[i]?).map UInt8.toNat).getD 0 : Nat) := by
  by_cases h : i < a.size
  · obtain ⟨x, hx, hb⟩ := bt_get a i h
    rw [hb, hx]
    rfl
  · have : a.data.toList[i]? = none := List.getElem?_eq_none (by rw [← size_len]; omega)
    rw [this]
    unfold bt
    rw [Int.toNat_natCast, dif_neg h]
    rfl
theorem app_list (a b : ByteArray) : (a ++ b).data.toList = a.data.toList ++ b.data.toList := by simp
theorem bt_app_l (a b : ByteArray) (i : Nat) (h : i < a.size) : bt (a ++ b) (i : Int) = bt a (i : Int) := by
  rw [bt_opt, bt_opt, app_list, List.getElem?_append_left (by rw [← size_len]; exact h)]
theorem bt_app_r (a b : ByteArray) (i : Nat) (h : a.size ≤ i) : bt (a ++ b) (i : Int) = bt b ((i - a.size : Nat) : Int) := by
  rw [bt_opt, bt_opt, app_list, List.getElem?_append_right (by rw [← size_len]; exact h), ← size_len]
theorem bt_ext (a : ByteArray) (n i : Nat) (h : i < n) : bt (a.extract 0 n) (i : Int) = bt a (i : Int) := by
  rw [bt_opt, bt_opt, Lib.extract_from_zero, List.getElem?_take_of_lt h]
theorem ext_app (a b : ByteArray) : (a ++ b).extract 0 a.size = a := by
  apply ba_ext
  rw [Lib.extract_from_zero, app_list, size_len]
  exact List.take_left
theorem strOne_size (z : Int) : (strOfNums [z]).size = 1 := rfl
theorem markText_l0 : ∀ (n : Nat) (x : Int) (s : ByteArray), 0 ≤ x → x < 10 ^ n → s.size + n ≤ 1000 → ∃ t, Ev (fun k => laws_markText.l0 k x s) t := by
  intro n
  induction n with
  | zero =>
    intro x s h0 h1 hs
    refine ⟨_, Ev.step (fun k => rfl) (Ev.neg (by omega) (Ev.pos (by omega) (Ev.some' rfl)))⟩
  | succ n ih =>
    intro x s h0 h1 hs
    by_cases c : x > 0
    · have hd : wrap64 (Int.tdiv x 10) = x / 10 ∨ True := .inr trivial
      have h2 : Int.tdiv x 10 = x / 10 := Int.tdiv_eq_ediv_of_nonneg h0
      by_cases hb : x ≤ 9223372036854775807
      · have hw : wrap64 (Int.tdiv x 10) = x / 10 := by rw [h2]; exact w64 (by omega) (by omega)
        have h3 : x / 10 < 10 ^ n := by
          rw [Int.pow_succ] at h1
          omega
        obtain ⟨t, ht⟩ := ih (x / 10) (strOfNums [wrap64 (48 + Int.tmod x 10) % 256] ++ s) (by omega) h3 (by rw [ByteArray.size_append, strOne_size]; omega)
        refine ⟨t, Ev.step (fun k => rfl) (Ev.pos c (Ev.ret rfl (Ev.pos (by rw [strOne_size]; omega) ?_)))⟩
        rw [hw]
        exact ht
      · have hz : -9223372036854775808 ≤ wrap64 (Int.tdiv x 10) ∧ wrap64 (Int.tdiv x 10) ≤ 9223372036854775807 := by unfold wrap64; omega
        have h5 : Int.tdiv x 10 = x / 10 := h2
        have h3 : x / 10 < 10 ^ n := by
          rw [Int.pow_succ] at h1
          omega
        by_cases h6 : 0 ≤ wrap64 (Int.tdiv x 10)
        · obtain ⟨t, ht⟩ := ih (wrap64 (Int.tdiv x 10)) (strOfNums [wrap64 (48 + Int.tmod x 10) % 256] ++ s) h6 (by
            have : wrap64 (Int.tdiv x 10) ≤ x / 10 := by rw [h2]; unfold wrap64; omega
            omega) (by rw [ByteArray.size_append, strOne_size]; omega)
          exact ⟨t, Ev.step (fun k => rfl) (Ev.pos c (Ev.ret rfl (Ev.pos (by rw [strOne_size]; omega) ht)))⟩
        · exact ⟨_, Ev.step (fun k => rfl) (Ev.pos c (Ev.ret rfl (Ev.pos (by rw [strOne_size]; omega) (Ev.step (fun k => rfl) (Ev.neg (by omega) (Ev.pos (by rw [ByteArray.size_append, strOne_size]; omega) (Ev.some' rfl)))))))⟩
    · exact ⟨_, Ev.step (fun k => rfl) (Ev.neg c (Ev.pos (by omega) (Ev.some' rfl)))⟩
theorem markText_ev (x : Int) (h1 : x < 10 ^ 19) : ∃ t, Ev (fun k => laws_markText.f k x) t := by
  unfold laws_markText.f
  by_cases c : x ≤ 0
  · exact ⟨_, Ev.pos c (Ev.some' rfl)⟩
  · obtain ⟨t, ht⟩ := markText_l0 19 x ⟨#[]⟩ (by omega) h1 (by decide)
    exact ⟨t, Ev.neg c ht⟩
theorem areTexts_ev (a : ByteArray) : Ev (fun k => impl_areTexts.f k [a]) (decide ((a.size : Int) ≤ 65536)) := by
  unfold impl_areTexts.f slices_ContainsFunc_string_string.f slices_IndexFunc_string_string.f
  by_cases c : (a.size : Int) > 65536
  · rw [decide_eq_false (show ¬ (a.size : Int) ≤ 65536 by omega)]
    refine Ev.bind (a := true) (Ev.bind (a := (0 : Int)) ?_ (Ev.some' rfl)) (Ev.some' rfl)
    refine Ev.step (fun k => rfl) (Ev.pos (by simp) (Ev.pos (by omega) (Ev.pos (by simp) (Ev.ret rfl (Ev.pos ?_ (Ev.some' rfl))))))
    exact decide_eq_true c
  · rw [decide_eq_true (show (a.size : Int) ≤ 65536 by omega)]
    refine Ev.bind (a := false) (Ev.bind (a := (-1 : Int)) ?_ (Ev.some' rfl)) (Ev.some' rfl)
    refine Ev.step (fun k => rfl) (Ev.pos (by simp) (Ev.pos (by omega) (Ev.pos (by simp) (Ev.ret rfl (Ev.neg ?_ ?_)))))
    · show ¬ decide ((a.size : Int) > 65536) = true
      rw [decide_eq_false c]
      exact ff
    · rw [w64 (by omega) (by omega)]
      exact Ev.step (fun k => rfl) (Ev.neg (by simp) (Ev.some' rfl))

/-! ### what is read -/
theorem nz4 : ¬ (4 : Int) = 0 := by decide
theorem nz5 : ¬ (5 : Int) = 0 := by decide
theorem nz9 : ¬ (9 : Int) = 0 := by decide
def specialB (c : Int) : Bool := c == 43 || (c == 63 || c == 39)
theorem specSpecial (c : Int) : spec_l18Special.f c = some (specialB c) := by
  unfold spec_l18Special.f specialB
  by_cases h1 : c = 43
  · rw [if_pos h1]; simp [h1]
  · rw [if_neg h1]
    by_cases h2 : c = 63
    · rw [if_pos h2]; simp [h2]
    · rw [if_neg h2, beq_eq_false_iff_ne.2 h1, beq_eq_false_iff_ne.2 h2]; rfl
theorem implSpecial (c : Int) : impl_isSpecial.f c = some (specialB c) := by
  unfold impl_isSpecial.f specialB
  by_cases h1 : c = 43
  · rw [if_pos h1]; simp [h1]
  · rw [if_neg h1]
    by_cases h2 : c = 63
    · rw [if_pos h2]; simp [h2]
    · rw [if_neg h2, beq_eq_false_iff_ne.2 h1, beq_eq_false_iff_ne.2 h2]; rfl
/-- A part from a place on: the code, the bytes, the place behind. -/
def partV (a : ByteArray) : Nat → Nat → List Int → Int × List Int × Nat
  | 0, i, acc => (4, acc, i)
  | d + 1, i, acc =>
    if i = a.size then (4, acc, i)
    else if bt a (i : Int) = 43 then (0, acc, i)
    else if bt a (i : Int) = 39 then (0, acc, i)
    else if bt a (i : Int) = 63 then
      (if i + 1 = a.size then (4, acc, i + 1)
      else if specialB (bt a ((i + 1 : Nat) : Int)) = true then (if acc.length = 80 then (5, acc, i + 1) else partV a d (i + 2) (acc ++ [bt a ((i + 1 : Nat) : Int)]))
      else (4, acc, i + 1))
    else if acc.length = 80 then (5, acc, i) else partV a d (i + 1) (acc ++ [bt a (i : Int)])
theorem partV_pos (a : ByteArray) : ∀ (d i : Nat) (acc : List Int), i ≤ a.size → i ≤ (partV a d i acc).2.2 ∧ (partV a d i acc).2.2 ≤ a.size := by
  intro d
  induction d with
  | zero => intro i acc h; exact ⟨Nat.le_refl _, h⟩
  | succ d ih =>
    intro i acc h
    rw [partV]
    by_cases c1 : i = a.size
    · rw [if_pos c1]; exact ⟨Nat.le_refl _, h⟩
    rw [if_neg c1]
    by_cases c2 : bt a (i : Int) = 43
    · rw [if_pos c2]; exact ⟨Nat.le_refl _, h⟩
    rw [if_neg c2]
    by_cases c3 : bt a (i : Int) = 39
    · rw [if_pos c3]; exact ⟨Nat.le_refl _, h⟩
    rw [if_neg c3]
    by_cases c4 : bt a (i : Int) = 63
    · rw [if_pos c4]
      by_cases c5 : i + 1 = a.size
      · rw [if_pos c5]; exact ⟨Nat.le_succ _, by dsimp only; omega⟩
      rw [if_neg c5]
      by_cases c6 : specialB (bt a ((i + 1 : Nat) : Int)) = true
      · rw [if_pos c6]
        by_cases c7 : acc.length = 80
        · rw [if_pos c7]; exact ⟨Nat.le_succ _, by dsimp only; omega⟩
        rw [if_neg c7]
        have := ih (i + 2) (acc ++ [bt a ((i + 1 : Nat) : Int)]) (by omega)
        omega
      · rw [if_neg c6]; exact ⟨Nat.le_succ _, by dsimp only; omega⟩
    rw [if_neg c4]
    by_cases c7 : acc.length = 80
    · rw [if_pos c7]; exact ⟨Nat.le_refl _, h⟩
    rw [if_neg c7]
    have := ih (i + 1) (acc ++ [bt a (i : Int)]) (by omega)
    omega
theorem end_at (a : ByteArray) : impl_docReader_end.f a (a.size : Int) 0 = some (true, a, (a.size : Int), 4) := by
  unfold impl_docReader_end.f
  rw [if_pos rfl, if_pos rfl]
  rfl
theorem end_in (a : ByteArray) (i : Nat) (h : i ≠ a.size) : impl_docReader_end.f a (i : Int) 0 = some (false, a, (i : Int), 0) := by
  unfold impl_docReader_end.f
  rw [if_pos rfl, if_neg (by omega)]
  rfl
theorem end_bad (a : ByteArray) (i c : Int) (h : c ≠ 0) : impl_docReader_end.f a i c = some (true, a, i, c) := by
  unfold impl_docReader_end.f
  rw [if_neg h, bne_iff_ne.2 h]
theorem implPart (a : ByteArray) (ha : a.size ≤ 65536) : ∀ (d i : Nat) (acc : List Int), a.size ≤ i + d → i ≤ a.size → acc.length ≤ 80 →
    Ev (fun k => impl_docReader_part.l0 k acc a (i : Int) 0) (strOfNums (partV a d i acc).2.1, a, ((partV a d i acc).2.2 : Int), (partV a d i acc).1) := by
  intro d
  induction d with
  | zero =>
    intro i acc h1 h2 h3
    obtain rfl : i = a.size := by omega
    exact Ev.step (fun k => rfl) (Ev.ret (end_at a) (Ev.pos rfl (Ev.some' rfl)))
  | succ d ih =>
    intro i acc h1 h2 h3
    rw [partV]
    by_cases c1 : i = a.size
    · rw [if_pos c1]
      subst c1
      exact Ev.step (fun k => rfl) (Ev.ret (end_at a) (Ev.pos rfl (Ev.some' rfl)))
    rw [if_neg c1]
    refine Ev.step (fun k => rfl) (Ev.ret (end_in a i c1) (Ev.neg ff (Ev.pos (by dsimp only; omega) (Ev.pos (by dsimp only; omega) ?_))))
    dsimp only
    by_cases c2 : bt a (i : Int) = 43
    · rw [if_pos c2]
      exact Ev.pos c2 (Ev.step (fun k => rfl) (Ev.some' rfl))
    rw [if_neg c2]
    refine Ev.neg c2 ?_
    by_cases c3 : bt a (i : Int) = 39
    · rw [if_pos c3]
      exact Ev.step (fun k => rfl) (Ev.pos (beq_iff_eq.2 c3) (Ev.some' rfl))
    rw [if_neg c3]
    refine Ev.step (fun k => rfl) (Ev.neg (fun e => c3 (beq_iff_eq.1 e)) ?_)
    have e1 : wrap64 ((i : Int) + 1) = ((i + 1 : Nat) : Int) := w64n (by omega)
    by_cases c4 : bt a (i : Int) = 63
    · rw [if_pos c4]
      refine Ev.pos c4 ?_
      rw [e1]
      by_cases c5 : i + 1 = a.size
      · rw [if_pos c5, c5]
        exact Ev.ret (end_at a) (Ev.pos rfl (Ev.some' rfl))
      rw [if_neg c5]
      refine Ev.ret (end_in a (i + 1) c5) (Ev.neg ff (Ev.pos (by dsimp only; omega) (Ev.pos (by dsimp only; omega) ?_)))
      dsimp only
      refine Ev.ret (implSpecial _) ?_
      by_cases c6 : specialB (bt a ((i + 1 : Nat) : Int)) = true
      · rw [if_pos c6]
        refine Ev.pos c6 ?_
        by_cases c7 : acc.length = 80
        · rw [if_pos c7]
          exact Ev.pos (by omega) (Ev.some' rfl)
        rw [if_neg c7]
        refine Ev.neg (by omega) (Ev.pos (by omega) ?_)
        rw [show wrap64 (((i + 1 : Nat) : Int) + 1) = ((i + 2 : Nat) : Int) from w64n (by omega)]
        exact ih (i + 2) _ (by omega) (by omega) (by rw [List.length_append, List.length_singleton]; omega)
      · rw [if_neg c6]
        exact Ev.neg c6 (Ev.some' rfl)
    rw [if_neg c4]
    refine Ev.neg c4 ?_
    by_cases c7 : acc.length = 80
    · rw [if_pos c7]
      exact Ev.pos (by omega) (Ev.some' rfl)
    rw [if_neg c7]
    refine Ev.neg (by omega) (Ev.pos (by omega) ?_)
    rw [e1]
    exact ih (i + 1) _ (by omega) (by omega) (by rw [List.length_append, List.length_singleton]; omega)
theorem specPart (a : ByteArray) (ha : a.size ≤ 65536) (out : List S68) (tag : ByteArray) (parts : List ByteArray) (hp : parts.length ≤ 20) (v : List S68 × Int × Int) : ∀ (d i : Nat) (acc : List Int), a.size ≤ i + d → i ≤ a.size → acc.length ≤ 80 →
    ((partV a d i acc).1 = 0 → Ev (fun k => spec_ReadSegments.l2 k a [] out ((partV a d i acc).2.2 : Int) tag (parts ++ [strOfNums (partV a d i acc).2.1])) v) →
    Ev (fun k => spec_ReadSegments.l3 k a [] out (i : Int) acc tag parts) (if (partV a d i acc).1 = 0 then v else ([], (partV a d i acc).1, ((partV a d i acc).2.2 : Int))) := by
  have hend : ∀ (acc : List Int), Ev (fun k => spec_ReadSegments.l3 k a [] out (a.size : Int) acc tag parts) (([] : List S68), (4 : Int), (a.size : Int)) := by
    intro acc
    refine Ev.step (fun k => rfl) (Ev.neg (by omega) (Ev.step (fun k => rfl) (Ev.pos (by omega) ?_)))
    exact Ev.step (fun k => rfl) (Ev.neg (by omega) (Ev.step (fun k => rfl) (Ev.pos rfl (Ev.some' rfl))))
  intro d
  induction d with
  | zero =>
    intro i acc h1 h2 h3 hv
    obtain rfl : i = a.size := by omega
    rw [partV, if_neg (by first | exact nz4 | exact nz5 | exact nz9)]
    exact hend acc
  | succ d ih =>
    intro i acc h1 h2 h3 hv
    rw [partV] at hv ⊢
    by_cases c1 : i = a.size
    · rw [if_pos c1, if_neg (by first | exact nz4 | exact nz5 | exact nz9)]
      subst c1
      exact hend acc
    rw [if_neg c1] at hv ⊢
    refine Ev.step (fun k => rfl) (Ev.pos (by omega) (Ev.pos (by omega) ?_))
    by_cases c2 : bt a (i : Int) = 43
    · rw [if_pos c2] at hv ⊢
      exact Ev.pos c2 (Ev.step (fun k => rfl) (Ev.pos (by omega) (hv rfl)))
    rw [if_neg c2] at hv ⊢
    refine Ev.neg c2 ?_
    by_cases c3 : bt a (i : Int) = 39
    · rw [if_pos c3] at hv ⊢
      exact Ev.step (fun k => rfl) (Ev.neg (fun e => bne_iff_ne.1 e c3) (Ev.pos (by omega) (hv rfl)))
    rw [if_neg c3] at hv ⊢
    refine Ev.step (fun k => rfl) (Ev.pos (bne_iff_ne.2 c3) (Ev.pos (by omega) (Ev.pos (by omega) ?_)))
    have e1 : wrap64 ((i : Int) + 1) = ((i + 1 : Nat) : Int) := w64n (by omega)
    rw [e1]
    by_cases c4 : bt a (i : Int) = 63
    · rw [if_pos c4] at hv ⊢
      refine Ev.pos c4 ?_
      by_cases c5 : i + 1 = a.size
      · rw [if_pos c5, if_neg (by first | exact nz4 | exact nz5 | exact nz9)]
        exact Ev.pos (by omega) (Ev.step (fun k => rfl) (Ev.some' rfl))
      rw [if_neg c5] at hv ⊢
      refine Ev.neg (by omega) (Ev.pos (by omega) (Ev.pos (by omega) (Ev.ret (specSpecial _) ?_)))
      by_cases c6 : specialB (bt a ((i + 1 : Nat) : Int)) = true
      · rw [if_pos c6] at hv ⊢
        refine Ev.step (fun k => rfl) (Ev.neg (by rw [c6]; exact ff) ?_)
        by_cases c7 : acc.length = 80
        · rw [if_pos c7, if_neg (by first | exact nz4 | exact nz5 | exact nz9)]
          exact Ev.pos (by omega) (Ev.some' rfl)
        rw [if_neg c7] at hv ⊢
        refine Ev.neg (by omega) (Ev.pos (by omega) (Ev.pos (by omega) (Ev.pos (by omega) ?_)))
        rw [show wrap64 (((i + 1 : Nat) : Int) + 1) = ((i + 2 : Nat) : Int) from w64n (by omega)]
        exact ih (i + 2) _ (by omega) (by omega) (by rw [List.length_append, List.length_singleton]; omega) hv
      · rw [if_neg c6, if_neg (by first | exact nz4 | exact nz5 | exact nz9)]
        rw [Bool.not_eq_true] at c6
        exact Ev.step (fun k => rfl) (Ev.pos (by rw [c6]; rfl) (Ev.some' rfl))
    rw [if_neg c4] at hv ⊢
    refine Ev.neg c4 ?_
    by_cases c7 : acc.length = 80
    · rw [if_pos c7, if_neg (by first | exact nz4 | exact nz5 | exact nz9)]
      exact Ev.pos (by omega) (Ev.some' rfl)
    rw [if_neg c7] at hv ⊢
    refine Ev.neg (by omega) (Ev.pos (by omega) ?_)
    exact ih (i + 1) _ (by omega) (by omega) (by rw [List.length_append, List.length_singleton]; omega) hv
/-- The parts of a segment: the code, the parts, the place behind. -/
def partsV (a : ByteArray) : Nat → Nat → List ByteArray → Int × List ByteArray × Nat
  | 0, i, parts => (4, parts, i)
  | d + 1, i, parts =>
    if i = a.size then (4, parts, i)
    else if bt a (i : Int) = 39 then (0, parts, i + 1)
    else if bt a (i : Int) = 43 then
      (if parts.length = 20 then (9, parts, i)
      else if (partV a a.size (i + 1) []).1 = 0 then partsV a d (partV a a.size (i + 1) []).2.2 (parts ++ [strOfNums (partV a a.size (i + 1) []).2.1])
      else ((partV a a.size (i + 1) []).1, parts, (partV a a.size (i + 1) []).2.2))
    else (4, parts, i)
theorem partsV_pos (a : ByteArray) : ∀ (d i : Nat) (parts : List ByteArray), i ≤ a.size → i ≤ (partsV a d i parts).2.2 ∧ (partsV a d i parts).2.2 ≤ a.size ∧ (parts.length ≤ 20 → (partsV a d i parts).2.1.length ≤ 20) := by
  intro d
  induction d with
  | zero => intro i parts h; exact ⟨Nat.le_refl _, h, id⟩
  | succ d ih =>
    intro i parts h
    rw [partsV]
    by_cases c1 : i = a.size
    · rw [if_pos c1]; exact ⟨Nat.le_refl _, h, id⟩
    rw [if_neg c1]
    by_cases c2 : bt a (i : Int) = 39
    · rw [if_pos c2]; exact ⟨Nat.le_succ _, by dsimp only; omega, id⟩
    rw [if_neg c2]
    by_cases c3 : bt a (i : Int) = 43
    · rw [if_pos c3]
      by_cases c4 : parts.length = 20
      · rw [if_pos c4]; exact ⟨Nat.le_refl _, h, id⟩
      rw [if_neg c4]
      have hp := partV_pos a a.size (i + 1) [] (by omega)
      by_cases c5 : (partV a a.size (i + 1) []).1 = 0
      · rw [if_pos c5]
        have := ih (partV a a.size (i + 1) []).2.2 (parts ++ [strOfNums (partV a a.size (i + 1) []).2.1]) hp.2
        rw [List.length_append, List.length_singleton] at this
        exact ⟨by omega, this.2.1, fun q => this.2.2 (by omega)⟩
      · rw [if_neg c5]; exact ⟨by dsimp only; omega, hp.2, id⟩
    rw [if_neg c3]
    exact ⟨Nat.le_refl _, h, id⟩
theorem implParts_end (a tag : ByteArray) (i c : Int) (hc : c ≠ 0) (parts : List ByteArray) : Ev (fun k => impl_docReader_segment.j1 k false a i c tag parts) (tag, parts, a, i, c) :=
  Ev.step (fun k => rfl) (Ev.neg hc (Ev.some' rfl))
theorem implParts_bad (a tag : ByteArray) (i c : Int) (hc : c ≠ 0) (parts : List ByteArray) : Ev (fun k => impl_docReader_segment.l0 k a i c tag parts) (tag, parts, a, i, c) :=
  Ev.step (fun k => rfl) (Ev.ret (end_bad a i c hc) (Ev.pos rfl (Ev.step (fun k => rfl) (Ev.neg hc (Ev.some' rfl)))))
theorem implParts (a : ByteArray) (ha : a.size ≤ 65536) (tag : ByteArray) : ∀ (d i : Nat) (parts : List ByteArray), a.size ≤ i + d → i ≤ a.size → parts.length ≤ 20 →
    ∃ P, Ev (fun k => impl_docReader_segment.l0 k a (i : Int) 0 tag parts) (tag, P, a, ((partsV a d i parts).2.2 : Int), (partsV a d i parts).1) ∧ ((partsV a d i parts).1 = 0 → P = (partsV a d i parts).2.1) := by
  have hend : ∀ (parts : List ByteArray), Ev (fun k => impl_docReader_segment.l0 k a (a.size : Int) 0 tag parts) (tag, parts, a, (a.size : Int), 4) := by
    intro parts
    exact Ev.step (fun k => rfl) (Ev.ret (end_at a) (Ev.pos rfl (implParts_end a tag _ 4 (by decide) parts)))
  intro d
  induction d with
  | zero =>
    intro i parts h1 h2 h3
    obtain rfl : i = a.size := by omega
    exact ⟨parts, hend parts, fun h => absurd h (by first | exact nz4 | exact nz5 | exact nz9)⟩
  | succ d ih =>
    intro i parts h1 h2 h3
    rw [partsV]
    by_cases c1 : i = a.size
    · rw [if_pos c1]
      subst c1
      exact ⟨parts, hend parts, fun h => absurd h (by first | exact nz4 | exact nz5 | exact nz9)⟩
    rw [if_neg c1]
    have e1 : wrap64 ((i : Int) + 1) = ((i + 1 : Nat) : Int) := w64n (by omega)
    have hgo : ∀ {v : ByteArray × List ByteArray × ByteArray × Int × Int}, Ev (fun k => impl_docReader_segment.j1 k ((bt a (i : Int)) != 39) a (i : Int) 0 tag parts) v → Ev (fun k => impl_docReader_segment.l0 k a (i : Int) 0 tag parts) v := by
      intro v hv
      exact Ev.step (fun k => rfl) (Ev.ret (end_in a i c1) (Ev.neg ff (Ev.pos (by dsimp only; omega) (Ev.pos (by dsimp only; omega) hv))))
    by_cases c2 : bt a (i : Int) = 39
    · rw [if_pos c2]
      refine ⟨parts, hgo (Ev.step (fun k => rfl) (Ev.neg (fun e => bne_iff_ne.1 e c2) (Ev.pos rfl (Ev.some' ?_)))), fun _ => rfl⟩
      rw [e1]
    rw [if_neg c2]
    have hgo2 : ∀ {v : ByteArray × List ByteArray × ByteArray × Int × Int}, Ev (fun k => if (bt a (i : Int)) = 43 then (if (parts.length : Int) = 20 then (impl_docReader_segment.l0 k a (i : Int) 9 tag parts) else ((impl_docReader_part.f k a (wrap64 ((i : Int) + 1)) 0).bind fun bt161 => (if parts.length < 8796093022208 then (impl_docReader_segment.l0 k bt161.2.1 bt161.2.2.1 bt161.2.2.2 tag (parts ++ [bt161.1])) else (none)))) else (impl_docReader_segment.l0 k a (i : Int) 4 tag parts)) v → Ev (fun k => impl_docReader_segment.l0 k a (i : Int) 0 tag parts) v :=
      fun hv => hgo (Ev.step (fun k => rfl) (Ev.pos (bne_iff_ne.2 c2) (Ev.pos (by omega) (Ev.pos (by omega) hv))))
    by_cases c3 : bt a (i : Int) = 43
    · rw [if_pos c3]
      by_cases c4 : parts.length = 20
      · rw [if_pos c4]
        exact ⟨parts, hgo2 (Ev.pos c3 (Ev.pos (by omega) (implParts_bad a tag i 9 (by decide) parts))), fun h => absurd h (by first | exact nz4 | exact nz5 | exact nz9)⟩
      rw [if_neg c4]
      have hp := partV_pos a a.size (i + 1) [] (by omega)
      have he : Ev (fun k => impl_docReader_part.f k a (wrap64 ((i : Int) + 1)) 0) (strOfNums (partV a a.size (i + 1) []).2.1, a, ((partV a a.size (i + 1) []).2.2 : Int), (partV a a.size (i + 1) []).1) := by
        unfold impl_docReader_part.f
        rw [e1]
        exact implPart a ha a.size (i + 1) [] (by omega) (by omega) (by simp)
      generalize partV a a.size (i + 1) [] = r at hp he ⊢
      by_cases c5 : r.1 = 0
      · rw [if_pos c5]
        rw [c5] at he
        obtain ⟨P, hP, hQ⟩ := ih r.2.2 (parts ++ [strOfNums r.2.1]) (by omega) hp.2 (by rw [List.length_append, List.length_singleton]; omega)
        exact ⟨P, hgo2 (Ev.pos c3 (Ev.neg (by omega) (Ev.bind he (Ev.pos (by omega) hP)))), hQ⟩
      · rw [if_neg c5]
        exact ⟨_, hgo2 (Ev.pos c3 (Ev.neg (by omega) (Ev.bind he (Ev.pos (by omega) (implParts_bad a tag _ _ c5 _))))), fun h => absurd h c5⟩
    rw [if_neg c3]
    exact ⟨parts, hgo2 (Ev.neg c3 (implParts_bad a tag i 4 (by decide) parts)), fun h => absurd h (by first | exact nz4 | exact nz5 | exact nz9)⟩
theorem specParts (a : ByteArray) (ha : a.size ≤ 65536) (out : List S68) (ho : out.length ≤ 200) (tag : ByteArray) (v : List S68 × Int × Int) : ∀ (d i : Nat) (parts : List ByteArray), a.size ≤ i + d → i ≤ a.size → parts.length ≤ 20 →
    ((partsV a d i parts).1 = 0 → Ev (fun k => spec_ReadSegments.l0 k a [] (out ++ [(⟨tag, (partsV a d i parts).2.1⟩ : S68)]) ((partsV a d i parts).2.2 : Int)) v) →
    Ev (fun k => spec_ReadSegments.l2 k a [] out (i : Int) tag parts) (if (partsV a d i parts).1 = 0 then v else ([], (partsV a d i parts).1, ((partsV a d i parts).2.2 : Int))) := by
  have hend : ∀ (parts : List ByteArray), Ev (fun k => spec_ReadSegments.l2 k a [] out (a.size : Int) tag parts) (([] : List S68), (4 : Int), (a.size : Int)) := by
    intro parts
    exact Ev.step (fun k => rfl) (Ev.neg (by omega) (Ev.step (fun k => rfl) (Ev.pos rfl (Ev.some' rfl))))
  intro d
  induction d with
  | zero =>
    intro i parts h1 h2 h3 hv
    obtain rfl : i = a.size := by omega
    rw [partsV, if_neg (by first | exact nz4 | exact nz5 | exact nz9)]
    exact hend parts
  | succ d ih =>
    intro i parts h1 h2 h3 hv
    rw [partsV] at hv ⊢
    by_cases c1 : i = a.size
    · rw [if_pos c1, if_neg (by first | exact nz4 | exact nz5 | exact nz9)]
      subst c1
      exact hend parts
    rw [if_neg c1] at hv ⊢
    have e1 : wrap64 ((i : Int) + 1) = ((i + 1 : Nat) : Int) := w64n (by omega)
    refine Ev.step (fun k => rfl) (Ev.pos (by omega) (Ev.pos (by omega) ?_))
    by_cases c2 : bt a (i : Int) = 39
    · rw [if_pos c2] at hv ⊢
      refine Ev.step (fun k => rfl) (Ev.neg (fun e => by rw [beq_iff_eq, c2] at e; cases e) (Ev.neg (by omega) (Ev.pos (by omega) (Ev.pos (by omega) (Ev.pos c2 (Ev.pos (by omega) ?_))))))
      rw [e1]
      exact hv rfl
    rw [if_neg c2] at hv ⊢
    by_cases c3 : bt a (i : Int) = 43
    · rw [if_pos c3] at hv ⊢
      refine Ev.step (fun k => rfl) (Ev.pos (beq_iff_eq.2 c3) ?_)
      by_cases c4 : parts.length = 20
      · rw [if_pos c4, if_neg (by first | exact nz4 | exact nz5 | exact nz9)]
        exact Ev.pos (by omega) (Ev.some' rfl)
      rw [if_neg c4] at hv ⊢
      refine Ev.neg (by omega) ?_
      rw [e1]
      have hp := partV_pos a a.size (i + 1) [] (by omega)
      have he := fun v => specPart a ha out tag parts h3 v a.size (i + 1) [] (by omega) (by omega) (by simp)
      generalize partV a a.size (i + 1) [] = r at hp he hv ⊢
      by_cases c5 : r.1 = 0
      · rw [if_pos c5] at hv ⊢
        have h6 := ih r.2.2 (parts ++ [strOfNums r.2.1]) (by omega) hp.2 (by rw [List.length_append, List.length_singleton]; omega) hv
        have h7 := he _ (fun _ => h6)
        rw [if_pos c5] at h7
        exact h7
      · rw [if_neg c5] at hv ⊢
        have h7 := he v (fun q => absurd q c5)
        rw [if_neg c5] at h7 ⊢
        exact h7
    rw [if_neg c3, if_neg (by first | exact nz4 | exact nz5 | exact nz9)]
    exact Ev.step (fun k => rfl) (Ev.neg (fun e => c3 (beq_iff_eq.1 e)) (Ev.neg (by omega) (Ev.pos (by omega) (Ev.pos (by omega) (Ev.neg c2 (Ev.some' rfl))))))
/-- A tag: the code, the place behind. -/
def tagV (a : ByteArray) : Nat → Nat → Int × Nat
  | 0, i => (0, i)
  | n + 1, i => if i = a.size then (4, i) else if bt a (i : Int) < 65 then (4, i) else if bt a (i : Int) > 90 then (4, i) else tagV a n (i + 1)
theorem tagV_pos (a : ByteArray) : ∀ (n i : Nat), i ≤ a.size → i ≤ (tagV a n i).2 ∧ (tagV a n i).2 ≤ a.size ∧ ((tagV a n i).1 = 0 → (tagV a n i).2 = i + n) := by
  intro n
  induction n with
  | zero => intro i h; exact ⟨Nat.le_refl _, h, fun _ => rfl⟩
  | succ n ih =>
    intro i h
    rw [tagV]
    by_cases c1 : i = a.size
    · rw [if_pos c1]; exact ⟨Nat.le_refl _, h, fun q => absurd q (by first | exact nz4 | exact nz5 | exact nz9)⟩
    rw [if_neg c1]
    by_cases c2 : bt a (i : Int) < 65
    · rw [if_pos c2]; exact ⟨Nat.le_refl _, h, fun q => absurd q (by first | exact nz4 | exact nz5 | exact nz9)⟩
    rw [if_neg c2]
    by_cases c3 : bt a (i : Int) > 90
    · rw [if_pos c3]; exact ⟨Nat.le_refl _, h, fun q => absurd q (by first | exact nz4 | exact nz5 | exact nz9)⟩
    rw [if_neg c3]
    have := ih (i + 1) (by omega)
    exact ⟨by omega, this.2.1, fun q => by rw [this.2.2 q]; omega⟩
theorem implTagByte (c : Int) : impl_isTagByte.f c = some (decide (65 ≤ c ∧ c ≤ 90)) := by
  unfold impl_isTagByte.f
  by_cases h : c ≥ 65
  · rw [if_pos h]
    congr 1
    rw [decide_eq_decide]
    omega
  · rw [if_neg h]
    congr 1
    symm
    rw [decide_eq_false_iff_not]
    omega
theorem implTag (a : ByteArray) (ha : a.size ≤ 65536) (f : Nat) : ∀ (n i : Nat), n ≤ 3 → i ≤ a.size → f ≤ i →
    ∃ T, Ev (fun k => impl_docReader_tag.l0 k (f : Int) ((3 - n : Nat) : Int) a (i : Int) 0) (T, a, ((tagV a n i).2 : Int), (tagV a n i).1) ∧ ((tagV a n i).1 = 0 → T = a.extract f (tagV a n i).2) := by
  intro n
  induction n with
  | zero =>
    intro i _ h hf
    exact ⟨_, Ev.step (fun k => rfl) (Ev.neg (by omega) (Ev.pos (by omega) (Ev.pos (by omega) (Ev.pos (by omega) (Ev.some' rfl))))), fun _ => by simp only [Int.toNat_natCast]; rfl⟩
  | succ n ih =>
    intro i hn h hf
    rw [tagV]
    have e3 : ((3 - (n + 1) : Nat) : Int) < 3 := by omega
    by_cases c1 : i = a.size
    · rw [if_pos c1]
      subst c1
      exact ⟨_, Ev.step (fun k => rfl) (Ev.pos e3 (Ev.ret (end_at a) (Ev.pos rfl (Ev.some' rfl)))), fun q => absurd q (by first | exact nz4 | exact nz5 | exact nz9)⟩
    rw [if_neg c1]
    have hgo : ∀ {v : ByteArray × ByteArray × Int × Int}, Ev (fun k => if decide (65 ≤ bt a (i : Int) ∧ bt a (i : Int) ≤ 90) = true then (impl_docReader_tag.l0 k (f : Int) (wrap64 (((3 - (n + 1) : Nat) : Int) + 1)) a (wrap64 ((i : Int) + 1)) 0) else (some ((⟨#[]⟩ : ByteArray), a, (i : Int), 4))) v → Ev (fun k => impl_docReader_tag.l0 k (f : Int) ((3 - (n + 1) : Nat) : Int) a (i : Int) 0) v :=
      fun hv => Ev.step (fun k => rfl) (Ev.pos e3 (Ev.ret (end_in a i c1) (Ev.neg ff (Ev.pos (by dsimp only; omega) (Ev.pos (by dsimp only; omega) (Ev.ret (implTagByte _) hv))))))
    by_cases c2 : bt a (i : Int) < 65
    · rw [if_pos c2]
      exact ⟨_, hgo (Ev.neg (by rw [decide_eq_false (by omega)]; exact ff) (Ev.some' rfl)), fun q => absurd q (by first | exact nz4 | exact nz5 | exact nz9)⟩
    rw [if_neg c2]
    by_cases c3 : bt a (i : Int) > 90
    · rw [if_pos c3]
      exact ⟨_, hgo (Ev.neg (by rw [decide_eq_false (by omega)]; exact ff) (Ev.some' rfl)), fun q => absurd q (by first | exact nz4 | exact nz5 | exact nz9)⟩
    rw [if_neg c3]
    obtain ⟨T, hT, hQ⟩ := ih (i + 1) (by omega) (by omega) (by omega)
    refine ⟨T, hgo (Ev.pos (decide_eq_true (by omega)) ?_), hQ⟩
    rw [show wrap64 (((3 - (n + 1) : Nat) : Int) + 1) = ((3 - n : Nat) : Int) from (w64 (by omega) (by omega)).trans (by omega), show wrap64 ((i : Int) + 1) = ((i + 1 : Nat) : Int) from w64n (by omega)]
    exact hT
theorem specTag (a : ByteArray) (ha : a.size ≤ 65536) (out : List S68) (i : Nat) (v : List S68 × Int × Int) : ∀ (n j : Nat), n ≤ 3 → j = i + (3 - n) → j ≤ a.size →
    ((tagV a n j).1 = 0 → Ev (fun k => spec_ReadSegments.l2 k a [] out ((tagV a n j).2 : Int) (a.extract i (tagV a n j).2) []) v) →
    Ev (fun k => spec_ReadSegments.l1 k a [] out (i : Int) ((3 - n : Nat) : Int)) (if (tagV a n j).1 = 0 then v else ([], (tagV a n j).1, ((tagV a n j).2 : Int))) := by
  intro n
  induction n with
  | zero =>
    intro j _ hj h hv
    have hv := hv rfl
    have e3 : wrap64 ((i : Int) + 3) = (j : Int) := (w64 (by omega) (by omega)).trans (by omega)
    refine Ev.step (fun k => rfl) (Ev.neg (by omega) (Ev.pos (by omega) ?_))
    rw [e3]
    refine Ev.pos (by omega) (Ev.pos (by omega) ?_)
    simp only [Int.toNat_natCast]
    exact hv
  | succ n ih =>
    intro j hn hj h hv
    rw [tagV] at hv ⊢
    have e3 : ((3 - (n + 1) : Nat) : Int) < 3 := by omega
    have ej : wrap64 ((i : Int) + ((3 - (n + 1) : Nat) : Int)) = (j : Int) := (w64 (by omega) (by omega)).trans (by omega)
    refine Ev.step (fun k => rfl) (Ev.pos e3 ?_)
    rw [ej]
    by_cases c1 : j = a.size
    · rw [if_pos c1, if_neg (by first | exact nz4 | exact nz5 | exact nz9)]
      exact Ev.pos (by omega) (Ev.some' rfl)
    rw [if_neg c1] at hv ⊢
    refine Ev.neg (by omega) (Ev.pos (by omega) (Ev.pos (by omega) ?_))
    by_cases c2 : bt a (j : Int) < 65
    · rw [if_pos c2, if_neg (by first | exact nz4 | exact nz5 | exact nz9)]
      exact Ev.pos c2 (Ev.some' rfl)
    rw [if_neg c2] at hv ⊢
    refine Ev.neg c2 ?_
    by_cases c3 : bt a (j : Int) > 90
    · rw [if_pos c3, if_neg (by first | exact nz4 | exact nz5 | exact nz9)]
      exact Ev.pos c3 (Ev.some' rfl)
    rw [if_neg c3] at hv ⊢
    refine Ev.neg c3 ?_
    rw [show wrap64 (((3 - (n + 1) : Nat) : Int) + 1) = ((3 - n : Nat) : Int) from (w64 (by omega) (by omega)).trans (by omega)]
    exact ih (j + 1) (by omega) (by omega) (by omega) hv
/-- A segment: the code, the tag, the parts, the place behind. -/
def segV (a : ByteArray) (i : Nat) : Int × S68 × Nat :=
  if (tagV a 3 i).1 = 0 then ((partsV a a.size (tagV a 3 i).2 []).1, ⟨a.extract i (tagV a 3 i).2, (partsV a a.size (tagV a 3 i).2 []).2.1⟩, (partsV a a.size (tagV a 3 i).2 []).2.2)
  else ((tagV a 3 i).1, ⟨⟨#[]⟩, []⟩, (tagV a 3 i).2)
theorem segV_pos (a : ByteArray) (i : Nat) (h : i ≤ a.size) : (segV a i).2.2 ≤ a.size ∧ (segV a i).2.1.f1.length ≤ 20 ∧ ((segV a i).1 = 0 → i < (segV a i).2.2) := by
  unfold segV
  have ht := tagV_pos a 3 i h
  by_cases c : (tagV a 3 i).1 = 0
  · rw [if_pos c]
    have hp := partsV_pos a a.size (tagV a 3 i).2 [] ht.2.1
    have := ht.2.2 c
    exact ⟨hp.2.1, hp.2.2 (by simp), fun _ => by show i < (partsV a a.size (tagV a 3 i).2 []).2.2; omega⟩
  · rw [if_neg c]
    exact ⟨ht.2.1, by simp, fun q => absurd q c⟩
theorem implSeg (a : ByteArray) (ha : a.size ≤ 65536) (i : Nat) (h : i ≤ a.size) : ∃ T P, Ev (fun k => impl_docReader_segment.f k a (i : Int) 0) (T, P, a, ((segV a i).2.2 : Int), (segV a i).1) ∧ ((segV a i).1 = 0 → (⟨T, P⟩ : S68) = (segV a i).2.1) := by
  unfold impl_docReader_segment.f segV
  have ht := tagV_pos a 3 i h
  obtain ⟨T, hT, hQ⟩ := implTag a ha i 3 i (Nat.le_refl _) h (Nat.le_refl _)
  have hT' : Ev (fun k => impl_docReader_tag.f k a (i : Int) 0) (T, a, ((tagV a 3 i).2 : Int), (tagV a 3 i).1) := hT
  by_cases c : (tagV a 3 i).1 = 0
  · rw [if_pos c]
    obtain ⟨P, hP, hR⟩ := implParts a ha T a.size (tagV a 3 i).2 [] (by omega) ht.2.1 (by simp)
    refine ⟨T, P, Ev.bind hT' ?_, fun q => by rw [hQ c, hR q]⟩
    dsimp only
    rw [c]
    exact hP
  · rw [if_neg c]
    exact ⟨T, _, Ev.bind hT' (implParts_bad a T _ _ c []), fun q => absurd q c⟩
theorem specSeg (a : ByteArray) (ha : a.size ≤ 65536) (out : List S68) (ho : out.length ≤ 200) (i : Nat) (h : i ≤ a.size) (v : List S68 × Int × Int)
    (hv : (segV a i).1 = 0 → Ev (fun k => spec_ReadSegments.l0 k a [] (out ++ [(segV a i).2.1]) ((segV a i).2.2 : Int)) v) :
    Ev (fun k => spec_ReadSegments.l1 k a [] out (i : Int) 0) (if (segV a i).1 = 0 then v else ([], (segV a i).1, ((segV a i).2.2 : Int))) := by
  have ht := tagV_pos a 3 i h
  have hs := fun v hv => specTag a ha out i v 3 i (Nat.le_refl _) (by omega) h hv
  unfold segV at hv ⊢
  by_cases c : (tagV a 3 i).1 = 0
  · rw [if_pos c] at hv ⊢
    have hp := specParts a ha out ho (a.extract i (tagV a 3 i).2) v a.size (tagV a 3 i).2 [] (by omega) ht.2.1 (by simp) hv
    have h5 := hs _ (fun _ => hp)
    rw [if_pos c] at h5
    exact h5
  · rw [if_neg c] at hv ⊢
    have h5 := hs v (fun q => absurd q c)
    rw [if_neg c] at h5 ⊢
    exact h5
def readV (a : ByteArray) : Nat → Nat → List S68 → List S68 × Int × Int
  | 0, _, out => (out, 0, 0)
  | d + 1, i, out => if i = a.size then (out, 0, 0) else if out.length = 200 then ([], 9, (i : Int)) else if (segV a i).1 = 0 then readV a d (segV a i).2.2 (out ++ [(segV a i).2.1]) else ([], (segV a i).1, ((segV a i).2.2 : Int))
def smallL (l : List S68) : Prop := l.length ≤ 200 ∧ ∀ x ∈ l, x.f1.length ≤ 20
theorem readV_small (a : ByteArray) : ∀ (d i : Nat) (out : List S68), i ≤ a.size → smallL out → smallL (readV a d i out).1 := by
  intro d
  induction d with
  | zero => intro i out _ h; exact h
  | succ d ih =>
    intro i out hi h
    rw [readV]
    by_cases c1 : i = a.size
    · rw [if_pos c1]; exact h
    rw [if_neg c1]
    by_cases c2 : out.length = 200
    · rw [if_pos c2]; exact ⟨by simp, by simp⟩
    rw [if_neg c2]
    have hs := segV_pos a i hi
    by_cases c3 : (segV a i).1 = 0
    · rw [if_pos c3]
      refine ih _ _ hs.1 ⟨by rw [List.length_append, List.length_singleton]; have := h.1; omega, fun x hx => ?_⟩
      rcases List.mem_append.1 hx with hx | hx
      · exact h.2 x hx
      · rw [List.mem_singleton] at hx
        rw [hx]
        exact hs.2.1
    · rw [if_neg c3]; exact ⟨by simp, by simp⟩
theorem specRead_l0 (a : ByteArray) (ha : a.size ≤ 65536) : ∀ (d i : Nat) (out : List S68), a.size ≤ i + d → i ≤ a.size → out.length ≤ 200 → Ev (fun k => spec_ReadSegments.l0 k a [] out (i : Int)) (readV a d i out) := by
  intro d
  induction d with
  | zero =>
    intro i out h1 h2 h3
    exact Ev.step (fun k => rfl) (Ev.neg (by omega) (Ev.some' rfl))
  | succ d ih =>
    intro i out h1 h2 h3
    rw [readV]
    by_cases c1 : i = a.size
    · rw [if_pos c1]
      exact Ev.step (fun k => rfl) (Ev.neg (by omega) (Ev.some' rfl))
    rw [if_neg c1]
    refine Ev.step (fun k => rfl) (Ev.pos (by omega) ?_)
    by_cases c2 : out.length = 200
    · rw [if_pos c2]
      exact Ev.pos (by omega) (Ev.some' rfl)
    rw [if_neg c2]
    refine Ev.neg (by omega) ?_
    have hs := segV_pos a i h2
    exact specSeg a ha out h3 i h2 _ (fun q => ih _ _ (by have := hs.2.2 q; omega) hs.1 (by rw [List.length_append, List.length_singleton]; omega))
theorem readGo (a : ByteArray) (out : List S68) (i : Nat) {v : List S68 × Int × Int} (h : Ev (fun k => impl_ReadSegments.j1 k a out (decide ((i : Int) < (a.size : Int))) a (i : Int) 0) v) : Ev (fun k => impl_ReadSegments.l0 k a out a (i : Int) 0) v := Ev.via h (fun k => rfl)
theorem implRead_l0 (a : ByteArray) (ha : a.size ≤ 65536) : ∀ (d i : Nat) (out : List S68), a.size ≤ i + d → i ≤ a.size → out.length ≤ 200 → Ev (fun k => impl_ReadSegments.l0 k a out a (i : Int) 0) (readV a d i out) := by
  intro d
  induction d with
  | zero =>
    intro i out h1 h2 h3
    exact readGo a out i (Ev.step (fun k => rfl) (Ev.neg (by rw [decide_eq_false (by omega)]; exact ff) (Ev.pos rfl (Ev.some' rfl))))
  | succ d ih =>
    intro i out h1 h2 h3
    rw [readV]
    by_cases c1 : i = a.size
    · rw [if_pos c1]
      exact readGo a out i (Ev.step (fun k => rfl) (Ev.neg (by rw [decide_eq_false (by omega)]; exact ff) (Ev.pos rfl (Ev.some' rfl))))
    rw [if_neg c1]
    refine readGo a out i (Ev.step (fun k => rfl) (Ev.pos (decide_eq_true (by omega)) ?_))
    by_cases c2 : out.length = 200
    · rw [if_pos c2]
      exact Ev.pos (by omega) (Ev.neg (by decide) (Ev.some' rfl))
    rw [if_neg c2]
    have hs := segV_pos a i h2
    obtain ⟨T, P, hE, hQ⟩ := implSeg a ha i h2
    refine Ev.neg (by omega) (Ev.bind hE (Ev.pos (by omega) ?_))
    dsimp only
    by_cases c3 : (segV a i).1 = 0
    · rw [if_pos c3, hQ c3, c3]
      exact ih _ _ (by have := hs.2.2 c3; omega) hs.1 (by rw [List.length_append, List.length_singleton]; omega)
    · rw [if_neg c3]
      exact Ev.step (fun k => rfl) (Ev.neg c3 (Ev.step (fun k => rfl) (Ev.neg c3 (Ev.some' rfl))))
def readAll (a : ByteArray) : List S68 × Int × Int := if (a.size : Int) > 65536 then ([], 2, 0) else readV a a.size 0 []
theorem specRead_ev (a : ByteArray) : Ev (fun k => spec_ReadSegments.f k a) (readAll a) := by
  unfold spec_ReadSegments.f readAll
  refine Ev.ret rfl (Ev.ite (fun _ => Ev.some' rfl) (fun h => ?_))
  exact specRead_l0 a (by omega) a.size 0 [] (by omega) (by omega) (by simp)
theorem implRead_ev (a : ByteArray) : Ev (fun k => impl_ReadSegments.f k a) (readAll a) := by
  unfold impl_ReadSegments.f readAll
  refine Ev.bind (areTexts_ev a) ?_
  by_cases c : (a.size : Int) > 65536
  · rw [if_pos c]
    exact Ev.neg (by rw [decide_eq_false (by omega)]; exact ff) (Ev.some' rfl)
  · rw [if_neg c]
    refine Ev.pos (decide_eq_true (by omega)) (Ev.ret rfl ?_)
    exact implRead_l0 a (by omega) a.size 0 [] (by omega) (by omega) (by simp)
theorem readAll_small (a : ByteArray) : smallL (readAll a).1 := by
  unfold readAll
  by_cases c : (a.size : Int) > 65536
  · rw [if_pos c]; exact ⟨by simp, by simp⟩
  · rw [if_neg c]; exact readV_small a _ _ _ (by omega) ⟨by simp, by simp⟩
/-! ### marks -/
theorem rdB_mid (p : List ByteArray) (x : ByteArray) (r : List ByteArray) : rdOf ByteArray.empty (p ++ x :: r) (p.length : Int) = x := rdOf_mid _ p x r
theorem rdS_mid (p : List S68) (x : S68) (r : List S68) : rd_T68 (p ++ x :: r) (p.length : Int) = x := getD_mid p x r z68
def areMarksB : List ByteArray → Int → Prop
  | [], _ => True
  | y :: a, c => Ev (fun k => laws_markText.f k c) y ∧ areMarksB a (c + 1)
theorem markB_l0 : ∀ (a p : List ByteArray) (c : Int), (p ++ a).length < 1000000000 → 0 ≤ c → c + a.length < 1000000000000 →
    ∃ b : List ByteArray, Ev (fun k => laws_markStringS.l0 k (p ++ a) c (p.length : Int)) (c + a.length, p ++ b) ∧ b.length = a.length ∧ areMarksB b c := by
  intro a
  induction a with
  | nil =>
    intro p c hl h0 hc
    exact ⟨[], Ev.step (fun k => rfl) (Ev.neg (len_end p) (Ev.some' (by simp))), rfl, trivial⟩
  | cons x a ih =>
    intro p c hl h0 hc
    have hl' := hl
    rw [List.length_append, List.length_cons] at hl'
    rw [List.length_cons] at hc
    have hpp : (10 : Int) ^ 19 = 10000000000000000000 := by decide
    obtain ⟨t, ht⟩ := markText_ev c (by omega)
    obtain ⟨b, g1, g2, g3⟩ := ih (p ++ [t]) (c + 1) (by simp; omega) (by omega) (by omega)
    refine ⟨t :: b, ?_, by simp [g2], ht, g3⟩
    refine Ev.step (fun k => rfl) (Ev.pos (len_lt p x a) (Ev.bind ht (Ev.pos (by omega) ?_)))
    rw [set_mid, w64 (x := c + 1) (by omega) (by omega), w64 (x := (p.length : Int) + 1) (by omega) (by omega), ← len_snoc p t, snoc p t]
    refine Ev.eq g1 ?_
    rw [← snoc, List.length_cons]
    congr 1
    omega
theorem markB_ev (a : List ByteArray) (c : Int) (h0 : 0 ≤ c) (hc : c ≤ 10000000) (hl : a.length ≤ 1048576) : ∃ b : List ByteArray, Ev (fun k => laws_markStringS.f k a c) (c + (a.length : Int), b) ∧ b.length = a.length ∧ areMarksB b c := by
  unfold laws_markStringS.f
  exact markB_l0 a [] c (by simp; omega) h0 (by omega)
theorem heldB_l0 : ∀ (a p : List ByteArray) (c : Int), (p ++ a).length < 1000000000 → 0 ≤ c → c + a.length < 1000000000000 → areMarksB a c →
    Ev (fun k => laws_heldStringS.l0 k (p ++ a) c (p.length : Int)) (c + a.length) := by
  intro a
  induction a with
  | nil =>
    intro p c hl h0 hc _
    exact Ev.step (fun k => rfl) (Ev.neg (len_end p) (Ev.some' (by simp)))
  | cons x a ih =>
    intro p c hl h0 hc hm
    have hl' := hl
    rw [List.length_append, List.length_cons] at hl'
    rw [List.length_cons] at hc
    obtain ⟨m0, mr⟩ := hm
    have g1 := ih (p ++ [x]) (c + 1) (by simp; omega) (by omega) (by omega) mr
    refine Ev.step (fun k => rfl) (Ev.pos (len_lt p x a) (Ev.pos (by omega) ?_))
    rw [rdB_mid]
    refine Ev.bind m0 (Ev.pos rfl ?_)
    rw [w64 (x := c + 1) (by omega) (by omega), w64 (x := (p.length : Int) + 1) (by omega) (by omega), ← len_snoc p x, snoc p x]
    refine Ev.eq g1 ?_
    rw [List.length_cons]
    omega
theorem heldB_ev (a : List ByteArray) (c : Int) (h0 : 0 ≤ c) (hc : c ≤ 10000000) (hl : a.length ≤ 1048576) (h : areMarksB a c) : Ev (fun k => laws_heldStringS.f k a c) (c + (a.length : Int)) := by
  unfold laws_heldStringS.f
  exact heldB_l0 a [] c (by simp; omega) h0 (by omega) h
def totV : List S68 → Nat
  | [] => 0
  | x :: a => 1 + x.f1.length + totV a
def areMarksV : List S68 → Int → Prop
  | [], _ => True
  | y :: a, c => Ev (fun k => laws_markText.f k c) y.f0 ∧ areMarksB y.f1 (c + 1) ∧ areMarksV a (c + 1 + (y.f1.length : Int))
theorem totV_le : ∀ (a : List S68), (∀ x ∈ a, x.f1.length ≤ 20) → totV a ≤ 21 * a.length := by
  intro a
  induction a with
  | nil => intro _; simp [totV]
  | cons x a ih =>
    intro h
    have h1 := h x (by simp)
    have h2 := ih (fun y hy => h y (by simp [hy]))
    rw [totV, List.length_cons]
    omega
theorem markV_l0 : ∀ (a p : List S68) (c : Int), (p ++ a).length < 1000 → 0 ≤ c → c + totV a < 1000000 → (∀ x ∈ a, x.f1.length ≤ 20) →
    ∃ b : List S68, Ev (fun k => laws_FnExactReadSegments.ms k (p ++ a) c (p.length : Int)) (c + totV a, p ++ b) ∧ b.length = a.length ∧ totV b = totV a ∧ (∀ x ∈ b, x.f1.length ≤ 20) ∧ areMarksV b c := by
  intro a
  induction a with
  | nil =>
    intro p c hl h0 hc _
    exact ⟨[], Ev.step (fun k => rfl) (Ev.neg (len_end p) (Ev.some' (by simp [totV]))), rfl, rfl, (fun x hx => by cases hx), trivial⟩
  | cons x a ih =>
    intro p c hl h0 hc hx
    have hl' := hl
    rw [List.length_append, List.length_cons] at hl'
    rw [totV] at hc
    have hpp : (10 : Int) ^ 19 = 10000000000000000000 := by decide
    have h20 := hx x (by simp)
    obtain ⟨t, ht⟩ := markText_ev c (by omega)
    obtain ⟨q, hq, lq, mq⟩ := markB_ev x.f1 (c + 1) (by omega) (by omega) (by omega)
    obtain ⟨b, g1, g2, g3, g4, g5⟩ := ih (p ++ [⟨t, q⟩]) (c + 1 + x.f1.length) (by simp; omega) (by omega) (by omega) (fun y hy => hx y (by simp [hy]))
    refine ⟨⟨t, q⟩ :: b, ?_, by simp [g2], by rw [totV, totV, g3, lq], ?_, ht, mq, by rw [lq]; exact g5⟩
    · refine Ev.step (fun k => rfl) (Ev.pos (len_lt p x a) (Ev.bind ht ?_))
      rw [rdS_mid, w64 (x := c + 1) (by omega) (by omega)]
      refine Ev.bind hq ?_
      rw [set_mid, w64 (x := (p.length : Int) + 1) (by omega) (by omega), ← len_snoc p (⟨t, q⟩ : S68), snoc p]
      refine Ev.eq g1 ?_
      rw [← snoc, totV]
      congr 1
      omega
    · intro y hy
      rcases List.mem_cons.1 hy with rfl | hy
      · show q.length ≤ 20; omega
      · exact g4 y hy
theorem heldV_l0 : ∀ (a p : List S68) (c : Int), (p ++ a).length < 1000 → 0 ≤ c → c + totV a < 1000000 → (∀ x ∈ a, x.f1.length ≤ 20) → areMarksV a c →
    Ev (fun k => laws_heldSegmentS.l0 k (p ++ a) c (p.length : Int)) (c + totV a) := by
  intro a
  induction a with
  | nil =>
    intro p c hl h0 hc _ _
    exact Ev.step (fun k => rfl) (Ev.neg (len_end p) (Ev.some' (by simp [totV])))
  | cons x a ih =>
    intro p c hl h0 hc hx hm
    have hl' := hl
    rw [List.length_append, List.length_cons] at hl'
    rw [totV] at hc
    have h20 := hx x (by simp)
    obtain ⟨m0, m1, mr⟩ := hm
    have hb := heldB_ev x.f1 (c + 1) (by omega) (by omega) (by omega) m1
    have g1 := ih (p ++ [x]) (c + 1 + x.f1.length) (by simp; omega) (by omega) (by omega) (fun y hy => hx y (by simp [hy])) mr
    have hz : ¬ c + 1 + (x.f1.length : Int) < 0 := by omega
    refine Ev.step (fun k => rfl) (Ev.pos (len_lt p x a) (Ev.pos (by omega) ?_))
    rw [rdS_mid, w64 (x := c + 1) (by omega) (by omega)]
    refine Ev.bind m0 (Ev.pos rfl (Ev.bind hb (Ev.neg hz ?_)))
    rw [w64 (x := (p.length : Int) + 1) (by omega) (by omega), ← len_snoc p x, snoc p x]
    refine Ev.eq g1 ?_
    rw [totV]
    omega
theorem eqB_l0 : ∀ (a p : List ByteArray), (p ++ a).length < 1000000000 → Ev (fun k => laws_eqStringS.l0 k (p ++ a) (p ++ a) (p.length : Int)) true := by
  intro a
  induction a with
  | nil => intro p hl; exact Ev.step (fun k => rfl) (Ev.neg (len_end p) (Ev.some' rfl))
  | cons x a ih =>
    intro p hl
    have hl' := hl
    rw [List.length_append, List.length_cons] at hl'
    refine Ev.step (fun k => rfl) (Ev.pos (len_lt p x a) (Ev.pos (by omega) (Ev.pos (len_lt p x a) (Ev.pos rfl ?_))))
    rw [w64 (by omega) (by omega), ← len_snoc p x, snoc p x a]
    exact ih (p ++ [x]) (by rw [← snoc]; exact hl)
theorem eqV_l0 : ∀ (a p : List S68), (p ++ a).length < 1000 → (∀ x ∈ a, x.f1.length ≤ 20) → Ev (fun k => laws_eqSegmentS.l0 k (p ++ a) (p ++ a) (p.length : Int)) true := by
  intro a
  induction a with
  | nil => intro p hl _; exact Ev.step (fun k => rfl) (Ev.neg (len_end p) (Ev.some' rfl))
  | cons x a ih =>
    intro p hl hx
    have hl' := hl
    rw [List.length_append, List.length_cons] at hl'
    have h20 := hx x (by simp)
    have e1 : Ev (fun k => laws_eqSegment.f k x.f0 x.f1 x.f0 x.f1) true := by
      unfold laws_eqSegment.f
      refine Ev.pos rfl (Ev.bind (?_ : Ev (fun k => laws_eqStringS.f k x.f1 x.f1) true) (Ev.pos tt (Ev.some' rfl)))
      unfold laws_eqStringS.f
      exact Ev.pos rfl (eqB_l0 x.f1 [] (by simp; omega))
    refine Ev.step (fun k => rfl) (Ev.pos (len_lt p x a) (Ev.pos (by omega) (Ev.pos (len_lt p x a) ?_)))
    rw [rdS_mid]
    refine Ev.bind e1 (Ev.pos tt ?_)
    rw [w64 (by omega) (by omega), ← len_snoc p x, snoc p x a]
    exact ih (p ++ [x]) (by rw [← snoc]; exact hl) (fun y hy => hx y (by simp [hy]))
theorem FnExactReadSegments : laws_FnExactReadSegments.Pure := by
  rintro a ha
  refine Ev.rounds (?_ : Ev (fun k => laws_FnExactReadSegments.f k a) true)
  unfold laws_FnExactReadSegments.f
  by_cases c : (a.size : Int) > 1048576
  · exact Ev.pos c (Ev.some' rfl)
  have hs := readAll_small a
  have h1 := specRead_ev a
  have h2 := implRead_ev a
  generalize readAll a = v at hs h1 h2
  have ht := totV_le v.1 hs.2
  have hl := hs.1
  have e1 : Ev (fun k => laws_eqSegmentS.f k v.1 v.1) true := by
    unfold laws_eqSegmentS.f
    exact Ev.pos rfl (eqV_l0 v.1 [] (by simp; omega) hs.2)
  obtain ⟨b, hb, lb, tb, sb, mb⟩ := markV_l0 v.1 [] 1 (by simp; omega) (by omega) (by omega) hs.2
  have hd : Ev (fun k => laws_heldSegmentS.f k b 1) (1 + (totV b : Int)) := by
    unfold laws_heldSegmentS.f
    exact heldV_l0 b [] 1 (by simp; omega) (by omega) (by omega) sb mb
  rw [tb] at hd
  refine Ev.neg c (Ev.bind h1 (Ev.bind h2 (Ev.bind e1 (Ev.bind hb (Ev.bind hd (Ev.some' ?_))))))
  simp only [Bool.and_eq_true, decide_eq_true_eq, Bool.true_and, decide_true]
  exact ⟨by omega, trivial⟩

end Go.Proofs.Ytkiooiijnolocaa.Pure
