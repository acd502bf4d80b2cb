/- The program's SegmentsText answers as the reference's at all lists of segments, and turns no argument: the law's plain statement, with no condition. -/
import Derived.Test.YtkiooiijnolocaaXFnExactSegmentsTextx5
import Derived.Test.YtkiooiijnolocaaAx
import Derived.Test.YtkiooiijnolocaaIdx
import Derived.Lib.Split
namespace Go.Proofs.Ytkiooiijnolocaa.Pure
open Go.RowKit Go.Proofs.Ytkiooiijnolocaa.XFnExactSegmentsText Go.Proofs.YtkiooiijnolocaaW.PrintWords Go.Proofs.YtkiooiijnolocaaW.PrintLast
open Go.Proofs.YtkiooiijnolocaaW.Ax Go.Proofs.YtkiooiijnolocaaW.Idx
set_option linter.unusedVariables false
set_option linter.unusedSimpArgs false
theorem size_len (a : ByteArray) : a.size = a.data.toList.length := Lib.size_eq a
theorem bt_cons (a : ByteArray) (i : Nat) (c : UInt8) (r : List UInt8) (h : a.data.toList.drop i = c :: r) : i < a.size ∧ bt a (i : Int) = (c.toNat : Int) ∧ a.data.toList.drop (i + 1) = r := by
  have hl : i < a.size := by
    rw [size_len]
    rcases Nat.lt_or_ge i a.data.toList.length with q | q
    · exact q
    · rw [List.drop_eq_nil_of_le q] at h; cases h
  refine ⟨hl, ?_, ?_⟩
  · have h2 : a.data.toList[i]? = some c := by
      have : (a.data.toList.drop i)[0]? = some c := by rw [h]; rfl
      simpa using this
    unfold bt
    rw [Int.toNat_natCast, dif_pos hl]
    have h3 : a[i] = c := by
      have : a.data.toList[i]'(by rw [← size_len]; exact hl) = c := by
        rw [List.getElem?_eq_getElem (by rw [← size_len]; exact hl)] at h2
        exact Option.some.inj h2
      rw [← this]
      simp [ByteArray.getElem_eq_getElem_data]
    rw [h3]
  · have := congrArg List.tail h
    simpa using this
theorem ba_ext {a b : ByteArray} (h : a.data.toList = b.data.toList) : a = b := ByteArray.ext (Array.ext' h)
theorem bt_get (a : ByteArray) (i : Nat) (h : i < a.size) : ∃ x, a.data.toList[i]? = some x ∧ bt a (i : Int) = (x.toNat : Int) := by
  cases hd : a.data.toList.drop i with
  | nil =>
    rw [size_len] at h
    have := List.drop_eq_nil_iff.1 hd
    omega
  | cons x r =>
    refine ⟨x, ?_, (bt_cons a i x r hd).2.1⟩
    have : (a.data.toList.drop i)[0]? = some x := by rw [hd]; rfl
    simpa using this
/-! ### bytes of joined texts -/
theorem bt_opt (a : ByteArray) (i : Nat) : bt a (i : Int) = (((a.data.toList[i]?).map UInt8.toNat).getD 0 : Nat) := by
  by_cases h : i < a.size
  · obtain ⟨x, hx, hb⟩ := bt_get a i h
    rw [hb, hx]
    rfl
  · have : a.data.toList[i]? = none := List.getElem?_eq_none (by rw [← size_len]; omega)
    rw [this]
    unfold bt
    rw [Int.toNat_natCast, dif_neg h]
    rfl
theorem app_list (a b : ByteArray) : (a ++ b).data.toList = a.data.toList ++ b.data.toList := by simp
theorem bt_app_l (a b : ByteArray) (i : Nat) (h : i < a.size) : bt (a ++ b) (i : Int) = bt a (i : Int) := by
  rw [bt_opt, bt_opt, app_list, List.getElem?_append_left (by rw [← size_len]; exact h)]
theorem bt_app_r (a b : ByteArray) (i : Nat) (h : a.size ≤ i) : bt (a ++ b) (i : Int) = bt b ((i - a.size : Nat) : Int) := by
  rw [bt_opt, bt_opt, app_list, List.getElem?_append_right (by rw [← size_len]; exact h), ← size_len]
theorem bt_ext (a : ByteArray) (n i : Nat) (h : i < n) : bt (a.extract 0 n) (i : Int) = bt a (i : Int) := by
  rw [bt_opt, bt_opt, Lib.extract_from_zero, List.getElem?_take_of_lt h]
theorem ext_app (a b : ByteArray) : (a ++ b).extract 0 a.size = a := by
  apply ba_ext
  rw [Lib.extract_from_zero, app_list, size_len]
  exact List.take_left

open Go.Proofs.Ytkiooiijnolocaa.Once
/-! ### the law's own helpers -/
theorem szB_l0 : ∀ (a p : List ByteArray) (b : Int), (p ++ a).length < 4611686018427387904 → 0 ≤ b → b ≤ 1048576 → (∀ x ∈ a, x.size ≤ 9223372036854775807) → ∃ r, Ev (fun k => laws_szStringS.l0 k (p ++ a) b (p.length : Int)) r ∧ r ≤ 1048576 := by
  intro a
  induction a with
  | nil => intro p b _ _ h _; exact ⟨b, Ev.step (fun k => rfl) (Ev.neg (len_end p) (Ev.some' rfl)), h⟩
  | cons x a ih =>
    intro p b hl h0 h1 hx
    have hl' := hl
    rw [List.length_append, List.length_cons] at hl'
    have hs := hx x (by simp)
    have e1 : wrap64 (b - (x.size : Int)) = b - (x.size : Int) := w64 (by omega) (by omega)
    by_cases c : b - (x.size : Int) < 0
    · refine ⟨-1, Ev.step (fun k => rfl) (Ev.pos (len_lt p x a) (Ev.pos (by omega) ?_)), by decide⟩
      rw [rdOf_mid, e1]
      exact Ev.pos c (Ev.some' rfl)
    · obtain ⟨r, hr, h2⟩ := ih (p ++ [x]) (b - (x.size : Int)) (by rw [← snoc]; exact hl) (by omega) (by omega) (fun y hy => hx y (by simp [hy]))
      refine ⟨r, Ev.step (fun k => rfl) (Ev.pos (len_lt p x a) (Ev.pos (by omega) ?_)), h2⟩
      rw [rdOf_mid, e1]
      refine Ev.neg c ?_
      rw [w64 (x := (p.length : Int) + 1) (by omega) (by omega), ← len_snoc p x, snoc p x a]
      exact hr
theorem szB_ev (l : List ByteArray) (b : Int) (h0 : 0 ≤ b) (h1 : b ≤ 1048576) (hl : l.length ≤ 9223372036854775807) (hx : ∀ x ∈ l, x.size ≤ 9223372036854775807) : ∃ r, Ev (fun k => laws_szStringS.f k l b) r ∧ r ≤ 1048576 ∧ (r < 0 ∨ l.length ≤ 1048576) := by
  unfold laws_szStringS.f
  rw [w64 (by omega) (by omega)]
  by_cases c : b - (l.length : Int) < 0
  · exact ⟨-1, Ev.pos c (Ev.some' rfl), by decide, .inl (by decide)⟩
  · obtain ⟨r, hr, h2⟩ := szB_l0 l [] (b - (l.length : Int)) (by simp; omega) (by omega) (by omega) hx
    exact ⟨r, Ev.neg c hr, h2, .inr (by omega)⟩
theorem szSeg_ev (x : S79) (b : Int) (h0 : 0 ≤ b) (h1 : b ≤ 1048576) (hw : wfT79 x) : ∃ r, Ev (fun k => laws_szSegment.f k x.f0 x.f1 b) r ∧ r ≤ 1048576 ∧ (r < 0 ∨ x.f1.length ≤ 1048576) := by
  have hs : x.f0.size ≤ 9223372036854775807 := hw.1
  unfold laws_szSegment.f
  rw [w64 (by omega) (by omega)]
  by_cases c : b - (x.f0.size : Int) < 0
  · exact ⟨-1, Ev.pos c (Ev.some' rfl), by decide, .inl (by decide)⟩
  · obtain ⟨r, hr, h2, h3⟩ := szB_ev x.f1 (b - (x.f0.size : Int)) (by omega) (by omega) hw.2.1 hw.2.2
    by_cases c2 : r < 0
    · exact ⟨-1, Ev.neg c (Ev.bind hr (Ev.pos c2 (Ev.some' rfl))), by decide, .inl (by decide)⟩
    · exact ⟨r, Ev.neg c (Ev.bind hr (Ev.neg c2 (Ev.some' rfl))), h2, h3⟩
theorem szS_l0 : ∀ (a p : List S79) (b : Int), (p ++ a).length < 4611686018427387904 → 0 ≤ b → b ≤ 1048576 → (∀ x ∈ a, wfT79 x) → ∃ r, Ev (fun k => laws_szSegmentS.l0 k (p ++ a) b (p.length : Int)) r ∧ (r < 0 ∨ ∀ x ∈ a, x.f1.length ≤ 1048576) := by
  intro a
  induction a with
  | nil => intro p b _ _ _ _; exact ⟨b, Ev.step (fun k => rfl) (Ev.neg (len_end p) (Ev.some' rfl)), .inr (fun x hx => by cases hx)⟩
  | cons x a ih =>
    intro p b hl h0 h1 hx
    have hl' := hl
    rw [List.length_append, List.length_cons] at hl'
    have r1 : rd_T79 (p ++ x :: a) (p.length : Int) = x := getD_mid p x a z79
    obtain ⟨t, ht, h2, h3⟩ := szSeg_ev x b h0 h1 (hx x (by simp))
    by_cases c : t < 0
    · refine ⟨-1, Ev.step (fun k => rfl) (Ev.pos (len_lt p x a) (Ev.pos (by omega) ?_)), .inl (by decide)⟩
      rw [r1]
      exact Ev.bind ht (Ev.pos c (Ev.some' rfl))
    · obtain ⟨r, hr, h4⟩ := ih (p ++ [x]) t (by rw [← snoc]; exact hl) (by omega) h2 (fun y hy => hx y (by simp [hy]))
      refine ⟨r, Ev.step (fun k => rfl) (Ev.pos (len_lt p x a) (Ev.pos (by omega) ?_)), ?_⟩
      · rw [r1]
        refine Ev.bind ht (Ev.neg c ?_)
        rw [w64 (by omega) (by omega), ← len_snoc p x, snoc p x a]
        exact hr
      · rcases h4 with h4 | h4
        · exact .inl h4
        · refine .inr (fun y hy => ?_)
          rcases List.mem_cons.1 hy with rfl | hy
          · exact h3.resolve_left c
          · exact h4 y hy
theorem szS_ev (l : List S79) (hl : l.length ≤ 9223372036854775807) (hx : ∀ x ∈ l, wfT79 x) : ∃ r, Ev (fun k => laws_szSegmentS.f k l 1048576) r ∧ (r < 0 ∨ (l.length ≤ 1048576 ∧ ∀ x ∈ l, x.f1.length ≤ 1048576)) := by
  unfold laws_szSegmentS.f
  rw [w64 (by omega) (by omega)]
  by_cases c : (1048576 : Int) - (l.length : Int) < 0
  · exact ⟨-1, Ev.pos c (Ev.some' rfl), .inl (by decide)⟩
  · obtain ⟨r, hr, h2⟩ := szS_l0 l [] ((1048576 : Int) - (l.length : Int)) (by simp; omega) (by omega) (by omega) hx
    exact ⟨r, Ev.neg c hr, h2.elim .inl (fun h => .inr ⟨by omega, h⟩)⟩
theorem toB_l0 : ∀ (a p t : List ByteArray), t.length = a.length → (p ++ a).length < 4611686018427387904 → Ev (fun k => laws_toStringS.l0 k (p ++ a) (p ++ t) (p.length : Int)) (p ++ a) := by
  intro a
  induction a with
  | nil =>
    intro p t ht hl
    obtain rfl : t = [] := List.eq_nil_of_length_eq_zero ht
    exact Ev.step (fun k => rfl) (Ev.neg (len_end p) (Ev.some' rfl))
  | cons x a ih =>
    intro p t ht hl
    match t, ht with
    | y :: t, ht =>
      have hl' : (p ++ x :: a).length < 4611686018427387904 := hl
      rw [List.length_append, List.length_cons] at hl'
      refine Ev.step (fun k => rfl) (Ev.pos (len_lt p x a) (Ev.pos (by omega) (Ev.pos (len_lt p y t) ?_)))
      rw [rdOf_mid, set_mid, w64 (by omega) (by omega), ← len_snoc p x, snoc p x a, snoc p x t]
      exact ih (p ++ [x]) t (by simpa using ht) (by rw [← snoc]; exact hl)
theorem toB_ev (l : List ByteArray) (hl : l.length ≤ 1048576) : Ev (fun k => laws_toStringS.f k l) l := by
  unfold laws_toStringS.f
  refine Ev.pos (by omega) (Ev.pos (by omega) ?_)
  rw [Int.toNat_natCast]
  exact toB_l0 l [] _ (by simp) (by simp; omega)
def toSegV (x : S79) : S68 := ⟨x.f0, x.f1⟩
theorem toS_l0 : ∀ (a p : List S79) (t : List S68), t.length = a.length → (p ++ a).length < 4611686018427387904 → (∀ x ∈ a, x.f1.length ≤ 1048576) → Ev (fun k => laws_toSegmentS.l0 k (p ++ a) (p.map toSegV ++ t) (p.length : Int)) ((p ++ a).map toSegV) := by
  intro a
  induction a with
  | nil =>
    intro p t ht hl _
    obtain rfl : t = [] := List.eq_nil_of_length_eq_zero ht
    exact Ev.step (fun k => rfl) (Ev.neg (len_end p) (Ev.some' (by simp)))
  | cons x a ih =>
    intro p t ht hl hx
    match t, ht with
    | y :: t, ht =>
      have hl' : (p ++ x :: a).length < 4611686018427387904 := hl
      rw [List.length_append, List.length_cons] at hl'
      have r1 : rd_T79 (p ++ x :: a) (p.length : Int) = x := getD_mid p x a z79
      have e1 : Ev (fun k => laws_toSegment.f k x.f0 x.f1) (x.f0, x.f1) := by
        unfold laws_toSegment.f
        exact Ev.bind (toB_ev x.f1 (hx x (by simp))) (Ev.some' rfl)
      refine Ev.step (fun k => rfl) (Ev.pos (len_lt p x a) (Ev.pos (by omega) ?_))
      rw [r1]
      refine Ev.bind e1 (Ev.pos (by simp; omega) ?_)
      have hs : (p.map toSegV ++ y :: t).set (p.length : Int).toNat ⟨x.f0, x.f1⟩ = p.map toSegV ++ toSegV x :: t := by
        rw [show (p.length : Int) = ((p.map toSegV).length : Int) by simp]
        exact set_mid _ _ _ _
      rw [hs, w64 (by omega) (by omega), ← len_snoc p x, snoc p x a, snoc _ (toSegV x) t]
      rw [show p.map toSegV ++ [toSegV x] = (p ++ [x]).map toSegV by simp]
      exact ih (p ++ [x]) t (by simpa using ht) (by rw [← snoc]; exact hl) (fun z hz => hx z (by simp [hz]))
theorem toS_ev (a : List S79) (hl : a.length ≤ 1048576) (hx : ∀ x ∈ a, x.f1.length ≤ 1048576) : Ev (fun k => laws_toSegmentS.f k a) (a.map toSegV) := by
  unfold laws_toSegmentS.f
  refine Ev.pos (by omega) (Ev.pos (by omega) ?_)
  rw [Int.toNat_natCast]
  exact toS_l0 a [] (List.replicate a.length z68) (by simp) (by simp; omega) hx
theorem rdS_mid (p : List S68) (x : S68) (r : List S68) : rd_T68 (p ++ x :: r) (p.length : Int) = x := getD_mid p x r z68
theorem eqB_l0 : ∀ (a p : List ByteArray), (p ++ a).length < 4611686018427387904 → Ev (fun k => laws_eqStringS.l0 k (p ++ a) (p ++ a) (p.length : Int)) true := by
  intro a
  induction a with
  | nil => intro p hl; exact Ev.step (fun k => rfl) (Ev.neg (len_end p) (Ev.some' rfl))
  | cons x a ih =>
    intro p hl
    have hl' := hl
    rw [List.length_append, List.length_cons] at hl'
    refine Ev.step (fun k => rfl) (Ev.pos (len_lt p x a) (Ev.pos (by omega) (Ev.pos (len_lt p x a) (Ev.pos rfl ?_))))
    rw [w64 (by omega) (by omega), ← len_snoc p x, snoc p x a]
    exact ih (p ++ [x]) (by rw [← snoc]; exact hl)
theorem eqS_l0 : ∀ (a p : List S68), (p ++ a).length < 4611686018427387904 → (∀ x ∈ a, x.f1.length ≤ 1048576) → Ev (fun k => laws_eqSegmentS.l0 k (p ++ a) (p ++ a) (p.length : Int)) true := by
  intro a
  induction a with
  | nil => intro p hl _; exact Ev.step (fun k => rfl) (Ev.neg (len_end p) (Ev.some' rfl))
  | cons x a ih =>
    intro p hl hx
    have hl' := hl
    rw [List.length_append, List.length_cons] at hl'
    have h20 := hx x (by simp)
    have e1 : Ev (fun k => laws_eqSegment.f k x.f0 x.f1 x.f0 x.f1) true := by
      unfold laws_eqSegment.f
      refine Ev.pos rfl (Ev.bind (?_ : Ev (fun k => laws_eqStringS.f k x.f1 x.f1) true) (Ev.pos tt (Ev.some' rfl)))
      unfold laws_eqStringS.f
      exact Ev.pos rfl (eqB_l0 x.f1 [] (by simp; omega))
    refine Ev.step (fun k => rfl) (Ev.pos (len_lt p x a) (Ev.pos (by omega) (Ev.pos (len_lt p x a) ?_)))
    rw [rdS_mid]
    refine Ev.bind e1 (Ev.pos tt ?_)
    rw [w64 (by omega) (by omega), ← len_snoc p x, snoc p x a]
    exact ih (p ++ [x]) (by rw [← snoc]; exact hl) (fun y hy => hx y (by simp [hy]))
theorem eqS_ev (a : List S68) (hl : a.length ≤ 1048576) (hx : ∀ x ∈ a, x.f1.length ≤ 1048576) : Ev (fun k => laws_eqSegmentS.f k a a) true := by
  unfold laws_eqSegmentS.f
  exact Ev.pos rfl (eqS_l0 a [] (by simp; omega) hx)
/-! ### which segments are right -/
def tagB (c : Int) : Bool := decide (65 ≤ c ∧ c ≤ 90)
def tagOK (a : ByteArray) : Bool := decide (a.size = 3) && (tagB (bt a 0) && (tagB (bt a 1) && tagB (bt a 2)))
def segOK (s : S68) : Bool := tagOK s.f0 && (decide (s.f1.length ≤ 20) && s.f1.all fun p => decide (p.size ≤ 80))
theorem specTag_step (a : ByteArray) (hs : a.size = 3) (j j' : Int) (r : Bool) (h0 : 0 ≤ j) (h3 : j < 3) (hj : wrap64 (j + 1) = j') (h : Ev (fun k => spec_l18Tag.l0 k a j') r) : Ev (fun k => spec_l18Tag.l0 k a j) (tagB (bt a j) && r) := by
  refine Ev.step (fun k => rfl) (Ev.pos h3 (Ev.pos h0 (Ev.pos (by omega) ?_)))
  unfold tagB
  by_cases c1 : bt a j < 65
  · rw [decide_eq_false (by omega)]
    exact Ev.pos c1 (Ev.some' rfl)
  · by_cases c2 : bt a j > 90
    · rw [decide_eq_false (by omega)]
      exact Ev.neg c1 (Ev.pos c2 (Ev.some' rfl))
    · rw [decide_eq_true (by omega), hj]
      exact Ev.neg c1 (Ev.neg c2 h)
theorem specTag_ev (a : ByteArray) : Ev (fun k => spec_l18Tag.f k a) (tagOK a) := by
  unfold spec_l18Tag.f tagOK
  by_cases c : a.size = 3
  · rw [decide_eq_true c, Bool.true_and]
    have h3 : Ev (fun k => spec_l18Tag.l0 k a 3) true := Ev.step (fun k => rfl) (Ev.neg (by decide) (Ev.some' rfl))
    have h2 := specTag_step a c 2 3 _ (by decide) (by decide) ((w64 (by decide) (by decide)).trans rfl) h3
    have h1 := specTag_step a c 1 2 _ (by decide) (by decide) ((w64 (by decide) (by decide)).trans rfl) h2
    have h0 := specTag_step a c 0 1 _ (by decide) (by decide) ((w64 (by decide) (by decide)).trans rfl) h1
    rw [Bool.and_true] at h0
    exact Ev.pos (by omega) h0
  · rw [decide_eq_false c]
    exact Ev.neg (by omega) (Ev.some' rfl)
theorem specSegs_l1 (x0 : List S68) (i : Nat) (hi : i < x0.length) (s : S68) (hs : rd_T68 x0 (i : Int) = s) (hl : s.f1.length ≤ 20) (v : Bool) (hv : Ev (fun k => spec_l18Segments.l0 k x0 (wrap64 ((i : Int) + 1))) v) : ∀ (b q : List ByteArray), s.f1 = q ++ b →
    Ev (fun k => spec_l18Segments.l1 k x0 (i : Int) (q.length : Int)) ((b.all fun p => decide (p.size ≤ 80)) && v) := by
  intro b
  induction b with
  | nil =>
    intro q hq
    refine Ev.step (fun k => rfl) (Ev.pos (by omega) (Ev.pos (by omega) ?_))
    rw [hs, hq]
    refine Ev.neg (len_end q) ?_
    simpa using hv
  | cons x b ih =>
    intro q hq
    have hl2 : q.length + 1 ≤ 20 := by rw [hq] at hl; simp at hl; omega
    refine Ev.step (fun k => rfl) (Ev.pos (by omega) (Ev.pos (by omega) ?_))
    rw [hs, hq]
    refine Ev.pos (len_lt q x b) (Ev.pos (by omega) ?_)
    rw [rdOf_mid]
    by_cases c : (x.size : Int) > 80
    · rw [List.all_cons, decide_eq_false (by omega)]
      exact Ev.pos c (Ev.some' rfl)
    · rw [List.all_cons, decide_eq_true (by omega), Bool.true_and, w64 (by omega) (by omega), ← len_snoc q x]
      exact Ev.neg c (ih (q ++ [x]) (by rw [hq, snoc]))
theorem specSegs_l0 : ∀ (a p : List S68), (p ++ a).length ≤ 200 → Ev (fun k => spec_l18Segments.l0 k (p ++ a) (p.length : Int)) (a.all segOK) := by
  intro a
  induction a with
  | nil => intro p hl; exact Ev.step (fun k => rfl) (Ev.neg (len_end p) (Ev.some' rfl))
  | cons x a ih =>
    intro p hl
    have hl' := hl
    rw [List.length_append, List.length_cons] at hl'
    have hv := ih (p ++ [x]) (by rw [← snoc]; exact hl)
    refine Ev.step (fun k => rfl) (Ev.pos (len_lt p x a) (Ev.pos (by omega) ?_))
    rw [rdS_mid, List.all_cons]
    refine Ev.bind (specTag_ev x.f0) ?_
    unfold segOK
    cases ht : tagOK x.f0 with
    | false =>
      refine Ev.neg ff (Ev.step (fun k => rfl) ?_)
      exact Ev.pos (B := fun k => spec_l18Segments.l1 k (p ++ x :: a) (p.length : Int) 0) tt (Ev.some' rfl)
    | true =>
      refine Ev.pos tt (Ev.step (fun k => rfl) ?_)
      by_cases c : x.f1.length ≤ 20
      · rw [decide_eq_true c, Bool.true_and, Bool.true_and]
        refine Ev.neg (by rw [decide_eq_false (by omega)]; exact ff) ?_
        refine specSegs_l1 (p ++ x :: a) p.length (by rw [List.length_append, List.length_cons]; omega) x (rdS_mid p x a) c _ ?_ x.f1 [] rfl
        rw [w64 (by omega) (by omega), ← len_snoc p x, snoc p x a]
        exact hv
      · rw [decide_eq_false c]
        exact Ev.pos (by rw [decide_eq_true (by omega)]) (Ev.some' rfl)
theorem implTagByte (c : Int) : impl_isTagByte.f c = some (tagB c) := by
  unfold impl_isTagByte.f tagB
  by_cases h : c ≥ 65
  · rw [if_pos h]
    congr 1
    rw [decide_eq_decide]
    omega
  · rw [if_neg h]
    congr 1
    symm
    rw [decide_eq_false_iff_not]
    omega
theorem implAny_l0 : ∀ (a p : List ByteArray), (p ++ a).length < 4611686018427387904 → ∃ r : Int, Ev (fun k => slices_IndexFunc_string_string.l0 k (p ++ a) ((p ++ a).length : Int) (p.length : Int)) r ∧ decide (r ≥ 0) = !(a.all fun p => decide (p.size ≤ 80)) := by
  intro a
  induction a with
  | nil => intro p hl; exact ⟨-1, Ev.step (fun k => rfl) (Ev.neg (len_end p) (Ev.some' rfl)), rfl⟩
  | cons x a ih =>
    intro p hl
    have hl' := hl
    rw [List.length_append, List.length_cons] at hl'
    have e1 : impl_isSegment_1.f x = some (decide ((x.size : Int) > 80)) := rfl
    by_cases c : (x.size : Int) > 80
    · refine ⟨(p.length : Int), Ev.step (fun k => rfl) (Ev.pos (len_lt p x a) (Ev.pos (by omega) (Ev.pos (len_lt p x a) ?_))), ?_⟩
      · rw [rdOf_mid]
        exact Ev.ret e1 (Ev.pos (decide_eq_true c) (Ev.some' rfl))
      · rw [List.all_cons, decide_eq_false (show ¬ x.size ≤ 80 by omega), decide_eq_true (by omega)]
        rfl
    · obtain ⟨r, hr, h2⟩ := ih (p ++ [x]) (by rw [← snoc]; exact hl)
      refine ⟨r, Ev.step (fun k => rfl) (Ev.pos (len_lt p x a) (Ev.pos (by omega) (Ev.pos (len_lt p x a) ?_))), ?_⟩
      · rw [rdOf_mid]
        refine Ev.ret e1 (Ev.neg (by rw [decide_eq_false c]; exact ff) ?_)
        rw [w64 (by omega) (by omega), ← len_snoc p x, snoc p x a]
        exact hr
      · rw [h2, List.all_cons, decide_eq_true (show x.size ≤ 80 by omega), Bool.true_and]
theorem implSeg_ev (s : S68) (hl : s.f1.length ≤ 1048576) : Ev (fun k => impl_SegmentsText_1.f k s.f0 s.f1) (!segOK s) := by
  have key : Ev (fun k => impl_isSegment.f k s.f0 s.f1) (segOK s) := by
    unfold impl_isSegment.f segOK tagOK
    by_cases c : s.f0.size = 3
    · rw [decide_eq_true c, Bool.true_and]
      refine Ev.pos (by omega) (Ev.pos (by omega) (Ev.ret (implTagByte _) ?_))
      cases h0 : tagB (bt s.f0 0) with
      | false => exact Ev.neg ff (Ev.some' rfl)
      | true =>
        refine Ev.pos tt (Ev.pos (by omega) (Ev.ret (implTagByte _) ?_))
        cases h1 : tagB (bt s.f0 1) with
        | false => exact Ev.neg ff (Ev.some' rfl)
        | true =>
          refine Ev.pos tt (Ev.pos (by omega) (Ev.ret (implTagByte _) ?_))
          cases h2 : tagB (bt s.f0 2) with
          | false => exact Ev.neg ff (Ev.some' rfl)
          | true =>
            refine Ev.pos tt ?_
            by_cases c2 : s.f1.length ≤ 20
            · obtain ⟨r, hr, h3⟩ := implAny_l0 s.f1 [] (by simp; omega)
              rw [decide_eq_true c2]
              refine Ev.pos (by omega) (Ev.bind (a := !(s.f1.all fun p => decide (p.size ≤ 80))) ?_ (Ev.some' (by simp)))
              unfold slices_ContainsFunc_string_string.f slices_IndexFunc_string_string.f
              exact Ev.bind hr (Ev.some' h3)
            · rw [decide_eq_false c2]
              exact Ev.neg (by omega) (Ev.some' rfl)
    · rw [decide_eq_false c]
      exact Ev.neg (by omega) (Ev.some' rfl)
  unfold impl_SegmentsText_1.f
  exact Ev.bind key (Ev.some' rfl)
theorem implAll_l0 : ∀ (a p : List S68), (p ++ a).length < 4611686018427387904 → (∀ x ∈ a, x.f1.length ≤ 1048576) → ∃ r : Int, Ev (fun k => impl_Segment_72.l0 k (p ++ a) ((p ++ a).length : Int) (p.length : Int)) r ∧ decide (r ≥ 0) = !(a.all segOK) := by
  intro a
  induction a with
  | nil => intro p hl _; exact ⟨-1, Ev.step (fun k => rfl) (Ev.neg (len_end p) (Ev.some' rfl)), rfl⟩
  | cons x a ih =>
    intro p hl hx
    have hl' := hl
    rw [List.length_append, List.length_cons] at hl'
    have e1 := implSeg_ev x (hx x (by simp))
    cases c : segOK x with
    | false =>
      rw [c] at e1
      refine ⟨(p.length : Int), Ev.step (fun k => rfl) (Ev.pos (len_lt p x a) (Ev.pos (by omega) (Ev.pos (len_lt p x a) ?_))), ?_⟩
      · rw [rdS_mid]
        exact Ev.bind e1 (Ev.pos rfl (Ev.some' rfl))
      · rw [List.all_cons, c, decide_eq_true (by omega)]
        rfl
    | true =>
      rw [c] at e1
      obtain ⟨r, hr, h2⟩ := ih (p ++ [x]) (by rw [← snoc]; exact hl) (fun y hy => hx y (by simp [hy]))
      refine ⟨r, Ev.step (fun k => rfl) (Ev.pos (len_lt p x a) (Ev.pos (by omega) (Ev.pos (len_lt p x a) ?_))), ?_⟩
      · rw [rdS_mid]
        refine Ev.bind e1 (Ev.neg (by simp) ?_)
        rw [w64 (by omega) (by omega), ← len_snoc p x, snoc p x a]
        exact hr
      · rw [h2, List.all_cons, c, Bool.true_and]
theorem implBad_ev (l : List S68) (hl : l.length ≤ 1048576) (hx : ∀ x ∈ l, x.f1.length ≤ 1048576) : Ev (fun k => impl_Segment_43.f k l) (!(l.all segOK)) := by
  obtain ⟨r, hr, h3⟩ := implAll_l0 l [] (by simp; omega) hx
  unfold impl_Segment_43.f impl_Segment_72.f
  exact Ev.bind hr (Ev.some' h3)
/-! ### the text -/
def emb (l : List UInt8) : List Int := l.map fun u => (u.toNat : Int)
theorem emb_app (a b : List UInt8) : emb (a ++ b) = emb a ++ emb b := List.map_append
theorem length_emb (a : List UInt8) : (emb a).length = a.length := List.length_map ..
theorem str_emb (l : List UInt8) : strOfNums (emb l) = ⟨l.toArray⟩ := by
  unfold strOfNums emb
  congr 2
  rw [List.map_map]
  conv => rhs; rw [← List.map_id l]
  refine List.map_congr_left (fun u _ => ?_)
  simp
theorem special_at (u : UInt8) : spec_l18Special.f (u.toNat : Int) = some (spc u) := by
  unfold spec_l18Special.f spc
  have k : ∀ n : UInt8, (u == n) = decide (u.toNat = n.toNat) := by
    intro n
    rw [show (u == n) = decide (u = n) from rfl]
    exact decide_eq_decide.2 ⟨fun e => by rw [e], fun e => UInt8.toNat_inj.1 e⟩
  rw [k 39, k 63, k 43]
  by_cases h1 : (u.toNat : Int) = 43
  · rw [if_pos h1]
    have h2 : u.toNat = 43 := by omega
    simp [h2]
  · rw [if_neg h1]
    by_cases h2 : (u.toNat : Int) = 63
    · rw [if_pos h2]
      have h3 : u.toNat = 63 := by omega
      simp [h3]
    · rw [if_neg h2]
      congr 1
      have h3 : ¬ u.toNat = 43 := by omega
      have h4 : ¬ u.toNat = 63 := by omega
      by_cases h5 : u.toNat = 39
      · simp [h5]
      · have h6 : ¬ (u.toNat : Int) = 39 := by omega
        simp [h3, h4, h5]
        omega
theorem escL_cons (u : UInt8) (l : List UInt8) : escL (u :: l) = (if spc u then [63, u] else [u]) ++ escL l := rfl
theorem specL2 (x0 : List S68) (i j : Int) (pt : ByteArray) (hp : pt.size ≤ 80) (v : ByteArray × Int) : ∀ (b : List UInt8) (n : Nat) (x4 : List Int), pt.data.toList.drop n = b → x4.length + 2 * b.length < 140737488355328 →
    Ev (fun k => spec_SegmentsText.l1 k x0 (x4 ++ emb (escL b)) i (wrap64 (j + 1))) v → Ev (fun k => spec_SegmentsText.l2 k x0 x4 i j pt (n : Int)) v := by
  intro b
  induction b with
  | nil =>
    intro n x4 hb hl hv
    have h1 := List.drop_eq_nil_iff.1 hb
    rw [← size_len] at h1
    refine Ev.step (fun k => rfl) (Ev.neg (by omega) ?_)
    simpa [emb, escL] using hv
  | cons u b ih =>
    intro n x4 hb hl hv
    obtain ⟨h1, h2, h3⟩ := bt_cons pt n u b hb
    rw [List.length_cons] at hl
    refine Ev.step (fun k => rfl) (Ev.pos (by omega) (Ev.pos (by omega) ?_))
    rw [h2, w64n (by omega)]
    refine Ev.ret (special_at u) ?_
    rw [escL_cons, emb_app, ← List.append_assoc] at hv
    cases hs : spc u with
    | true =>
      rw [hs, if_pos rfl] at hv
      refine Ev.pos tt (Ev.pos (by omega) (Ev.ret rfl (Ev.pos (by simp; omega) ?_)))
      refine ih (n + 1) _ h3 (by simp; omega) ?_
      have e : x4 ++ emb [63, u] = x4 ++ [63] ++ [(u.toNat : Int)] := by simp [emb]
      rw [← e]
      exact hv
    | false =>
      rw [hs, if_neg ff] at hv
      exact Ev.neg ff (Ev.pos (by omega) (ih (n + 1) _ h3 (by simp; omega) hv))
theorem length_part (p : ByteArray) (hp : p.size ≤ 80) : (partBytes p).length ≤ 161 := by
  unfold partBytes
  rw [List.length_cons, length_escL, ← size_len]
  have : p.data.toList.countP spc ≤ p.data.toList.length := List.countP_le_length
  rw [← size_len] at this
  omega
theorem specL1 (x0 : List S68) (i : Nat) (hi : i < x0.length) (s : S68) (hs : rd_T68 x0 (i : Int) = s) (hl : s.f1.length ≤ 20) (h80 : ∀ p ∈ s.f1, p.size ≤ 80) (v : ByteArray × Int) : ∀ (b q : List ByteArray) (x4 : List Int), s.f1 = q ++ b → x4.length + 200 * b.length + 1 < 140737488355328 →
    Ev (fun k => spec_SegmentsText.l0 k x0 (x4 ++ emb (b.flatMap partBytes) ++ [39]) (wrap64 ((i : Int) + 1))) v → Ev (fun k => spec_SegmentsText.l1 k x0 x4 (i : Int) (q.length : Int)) v := by
  intro b
  induction b with
  | nil =>
    intro q x4 hq hx hv
    refine Ev.step (fun k => rfl) ?_
    refine Ev.pos (show (i : Int) < (x0.length : Int) by omega) ?_
    rw [hs, hq]
    refine Ev.neg (len_end q) (Ev.pos (by simp at hx; omega) ?_)
    simpa [emb] using hv
  | cons x b ih =>
    intro q x4 hq hx hv
    have hl2 : q.length + 1 ≤ 20 := by rw [hq] at hl; simp at hl; omega
    have hx80 : x.size ≤ 80 := h80 x (by rw [hq]; simp)
    rw [List.length_cons] at hx
    refine Ev.step (fun k => rfl) ?_
    refine Ev.pos (show (i : Int) < (x0.length : Int) by omega) ?_
    rw [hs, hq]
    refine Ev.pos (len_lt q x b) (Ev.pos (by omega) (Ev.pos (by omega) ?_))
    rw [rdOf_mid]
    have hxl := size_len x
    refine specL2 x0 (i : Int) (q.length : Int) x hx80 v x.data.toList 0 (x4 ++ [43]) rfl (by simp; omega) ?_
    rw [w64 (by omega) (by omega), ← len_snoc q x]
    have e : x4 ++ [43] ++ emb (escL x.data.toList) = x4 ++ emb (partBytes x) := by simp [partBytes, emb]
    rw [e]
    refine ih (q ++ [x]) _ (by rw [hq, snoc]) ?_ ?_
    · have := length_part x hx80
      rw [List.length_append, length_emb]
      omega
    · rw [List.flatMap_cons, emb_app, ← List.append_assoc] at hv
      exact hv
theorem seg_parts {s : S68} (h : segOK s = true) : s.f0.size = 3 ∧ s.f1.length ≤ 20 ∧ ∀ p ∈ s.f1, p.size ≤ 80 := by
  unfold segOK tagOK at h
  simp only [Bool.and_eq_true, decide_eq_true_eq, List.all_eq_true] at h
  exact ⟨h.1.1, h.2.1, h.2.2⟩
theorem length_parts : ∀ (l : List ByteArray), (∀ p ∈ l, p.size ≤ 80) → (l.flatMap partBytes).length ≤ 161 * l.length := by
  intro l
  induction l with
  | nil => intro _; simp
  | cons x l ih =>
    intro h
    have h1 := length_part x (h x (by simp))
    have h2 := ih (fun p hp => h p (by simp [hp]))
    rw [List.flatMap_cons, List.length_append, List.length_cons]
    omega
theorem length_seg {s : S68} (h : segOK s = true) : (segBytes s).length ≤ 3224 := by
  obtain ⟨h1, h2, h3⟩ := seg_parts h
  have h4 := length_parts s.f1 h3
  have h5 := size_len s.f0
  unfold segBytes
  simp only [List.length_append, List.length_singleton]
  omega
theorem length_text : ∀ (l : List S68), l.all segOK = true → (textB l).length ≤ 3224 * l.length := by
  intro l
  induction l with
  | nil => intro _; simp [textB]
  | cons x l ih =>
    intro h
    rw [List.all_cons, Bool.and_eq_true] at h
    have h1 := length_seg h.1
    have h2 := ih h.2
    unfold textB at h2 ⊢
    rw [List.flatMap_cons, List.length_append, List.length_cons]
    omega
/-- What comes of a text. -/
def fin (t : List UInt8) : ByteArray × Int := if (t.length : Int) > 65536 then (⟨#[]⟩, 11) else (⟨t.toArray⟩, 0)
theorem specL0 : ∀ (a p : List S68) (t : List UInt8), (p ++ a).length ≤ 200 → a.all segOK = true → t.length + 5000 * a.length < 140737488355328 →
    Ev (fun k => spec_SegmentsText.l0 k (p ++ a) (emb t) (p.length : Int)) (fin (t ++ textB a)) := by
  intro a
  induction a with
  | nil =>
    intro p t hl ha ht
    refine Ev.step (fun k => rfl) (Ev.neg (len_end p) ?_)
    rw [length_emb, str_emb]
    have e : t ++ textB [] = t := by simp [textB]
    rw [e]
    unfold fin
    by_cases c : (t.length : Int) > 65536
    · rw [if_pos c, if_pos c]
      exact Ev.some' rfl
    · rw [if_neg c, if_neg c]
      exact Ev.some' rfl
  | cons x a ih =>
    intro p t hl ha ht
    have hl' := hl
    rw [List.length_append, List.length_cons] at hl'
    rw [List.all_cons, Bool.and_eq_true] at ha
    rw [List.length_cons] at ht
    obtain ⟨h1, h2, h3⟩ := seg_parts ha.1
    have h4 := length_seg ha.1
    refine Ev.step (fun k => rfl) (Ev.pos (len_lt p x a) (Ev.pos (by omega) ?_))
    rw [rdS_mid]
    refine Ev.pos (by rw [length_emb]; omega) ?_
    refine specL1 (p ++ x :: a) p.length (by rw [List.length_append, List.length_cons]; omega) x (rdS_mid p x a) h2 h3 _ x.f1 [] _ rfl (by rw [List.length_append, length_emb]; unfold bytesOf; rw [List.length_map, ← size_len]; omega) ?_
    rw [w64 (by omega) (by omega), ← len_snoc p x, snoc p x a]
    have e : emb t ++ bytesOf x.f0 ++ emb (x.f1.flatMap partBytes) ++ [39] = emb (t ++ segBytes x) := by
      unfold segBytes
      simp only [emb_app, List.append_assoc]
      rfl
    rw [e]
    refine Ev.eq (ih (p ++ [x]) (t ++ segBytes x) (by rw [← snoc]; exact hl) ha.2 (by rw [List.length_append]; omega)) ?_
    congr 1
    unfold textB
    rw [List.flatMap_cons, List.append_assoc]
/-- What both answer. -/
def ansV (l : List S68) : ByteArray × Int := if l.length ≤ 4096 then (if l.length ≤ 200 then (if l.all segOK then fin (textB l) else (⟨#[]⟩, 1)) else (⟨#[]⟩, 1)) else (⟨#[]⟩, 2)
theorem spec_ev (l : List S68) : Ev (fun k => spec_SegmentsText.f k l) (ansV l) := by
  unfold spec_SegmentsText.f ansV
  by_cases c1 : l.length ≤ 4096
  · rw [if_pos c1]
    refine Ev.neg (by omega) ?_
    by_cases c2 : l.length ≤ 200
    · rw [if_pos c2]
      have h : Ev (fun k => spec_l18Segments.f k l) (l.all segOK) := by
        unfold spec_l18Segments.f
        exact Ev.neg (by omega) (specSegs_l0 l [] (by simpa using c2))
      refine Ev.bind h ?_
      cases ha : l.all segOK with
      | false => exact Ev.neg ff (Ev.some' rfl)
      | true =>
        refine Ev.pos tt ?_
        have h2 := specL0 l [] [] (by simpa using c2) ha (by simp; omega)
        exact h2
    · rw [if_neg c2]
      have h : Ev (fun k => spec_l18Segments.f k l) false := by
        unfold spec_l18Segments.f
        exact Ev.pos (by omega) (Ev.some' rfl)
      exact Ev.bind h (Ev.neg ff (Ev.some' rfl))
  · rw [if_neg c1]
    exact Ev.pos (by omega) (Ev.some' rfl)
theorem impl_ev (l : List S68) (hx : ∀ x ∈ l, x.f1.length ≤ 1048576) : Ev (fun k => impl_SegmentsText.f k l) (ansV l) := by
  unfold impl_SegmentsText.f ansV
  have e1 : impl_Segment_42.f l = some (decide ((l.length : Int) ≤ 4096)) := rfl
  refine Ev.ret e1 ?_
  by_cases c1 : l.length ≤ 4096
  · rw [if_pos c1]
    refine Ev.pos (decide_eq_true (by omega)) ?_
    by_cases c2 : l.length ≤ 200
    · rw [if_pos c2]
      refine Ev.neg (by omega) (Ev.bind (implBad_ev l (by omega) hx) ?_)
      cases ha : l.all segOK with
      | false => exact Ev.pos rfl (Ev.some' rfl)
      | true =>
        have h2 := length_text l ha
        refine Ev.neg (by simp) (Ev.pos (by omega) ?_)
        rw [if_pos rfl]
        unfold fin
        by_cases c : ((textB l).length : Int) > 65536
        · rw [if_pos c, if_pos c]
          exact Ev.some' rfl
        · rw [if_neg c, if_neg c]
          exact Ev.some' rfl
    · rw [if_neg c2]
      exact Ev.pos (by omega) (Ev.some' rfl)
  · rw [if_neg c1]
    exact Ev.neg (by rw [decide_eq_false (by omega)]; exact ff) (Ev.some' rfl)
theorem FnExactSegmentsText : laws_FnExactSegmentsText.Pure := by
  rintro l ⟨hl, hx⟩
  refine Ev.rounds (?_ : Ev (fun k => laws_FnExactSegmentsText.f k l) true)
  unfold laws_FnExactSegmentsText.f
  obtain ⟨r, hr, h2⟩ := szS_ev l hl hx
  refine Ev.bind hr ?_
  by_cases c : r < 0
  · exact Ev.pos c (Ev.some' rfl)
  obtain ⟨h3, h4⟩ := h2.resolve_left c
  have tR := toS_ev l h3 h4
  have hx2 : ∀ x ∈ l.map toSegV, x.f1.length ≤ 1048576 := by
    intro x hm
    obtain ⟨y, hy, rfl⟩ := List.mem_map.1 hm
    exact h4 y hy
  refine Ev.neg c (Ev.bind tR (Ev.bind (spec_ev _) (Ev.bind tR (Ev.bind (impl_ev _ hx2) (Ev.pos rfl ?_)))))
  refine Ev.step (fun k => rfl) (Ev.neg (by simp) (Ev.bind tR (Ev.bind (eqS_ev _ (by simpa using h3) hx2) (Ev.pos tt (Ev.some' rfl)))))

end Go.Proofs.Ytkiooiijnolocaa.Pure
