/- Of drawn right loads the program fills trucks as the law says: the law's plain statement, with no condition. -/
import Derived.Test.YthhdcjdlcfbkdaaXFnTrucksx4
import Derived.Test.YthhdcjdlcfbkdaaAx
import Derived.Test.YthhdcjdlcfbkdaaIdx
namespace Go.Proofs.Ythhdcjdlcfbkdaa.Pure
open Go.RowKit Go.Proofs.Ythhdcjdlcfbkdaa.XFnTrucks Go.Proofs.YthhdcjdlcfbkdaaW.PrintWords Go.Proofs.YthhdcjdlcfbkdaaW.PrintLast
open Go.Proofs.YthhdcjdlcfbkdaaW.Ax Go.Proofs.YthhdcjdlcfbkdaaW.Idx
set_option linter.unusedVariables false
set_option linter.unusedSimpArgs false
theorem within_ev (a b c : Int) : impl_within.f a b c = some (decide (b ≤ a ∧ a ≤ c)) := by
  unfold impl_within.f
  by_cases h : a ≥ b
  · rw [if_pos h]; congr 1; rw [decide_eq_decide]; omega
  · rw [if_neg h]; congr 1; symm; rw [decide_eq_false_iff_not]; omega
theorem rdT_mid (p : List S38) (x : S38) (r : List S38) : rd_T38 (p ++ x :: r) (p.length : Int) = x := getD_mid p x r z38
/-- A load in its bounds. -/
def okL (l : S38) : Bool := decide (0 ≤ l.f0 ∧ l.f0 ≤ 1000) && decide (0 ≤ l.f1 ∧ l.f1 ≤ 1000)
theorem okL_iff (l : S38) : okL l = true ↔ (0 ≤ l.f0 ∧ l.f0 ≤ 1000) ∧ (0 ≤ l.f1 ∧ l.f1 ≤ 1000) := by
  unfold okL
  rw [Bool.and_eq_true, decide_eq_true_eq, decide_eq_true_eq]
theorem lit_ev (l : S38) : impl_FillTrucks_1.f l.f0 l.f1 = some (!okL l) := by
  unfold impl_FillTrucks_1.f okL
  simp only [within_ev, Option.bind_some]
  by_cases h : 0 ≤ l.f0 ∧ l.f0 ≤ 1000
  · rw [if_pos (by simpa using h)]; simp [h]
  · rw [if_neg (by simpa using h)]; simp [h]
theorem idx_l0 : ∀ (a p : List S38), (p ++ a).length < 4611686018427387904 →
    ∃ r, Ev (fun k => impl_Load_60.l0 k (p ++ a) ((p ++ a).length : Int) (p.length : Int)) r ∧ (decide (r ≥ 0) = !(a.all okL)) := by
  intro a
  induction a with
  | nil => intro p hl; exact ⟨-1, Ev.step (fun k => rfl) (Ev.neg (len_end p) (Ev.some' rfl)), by simp⟩
  | cons y a ih =>
    intro p hl
    have hl' := hl
    rw [List.length_append, List.length_cons] at hl'
    cases e : okL y with
    | false =>
      refine ⟨p.length, Ev.step (fun k => rfl) (Ev.pos (len_lt p y a) (Ev.pos (by omega) (Ev.pos (len_lt p y a) ?_))), ?_⟩
      · rw [rdT_mid]
        exact Ev.ret (lit_ev y) (Ev.pos (by simp [e]) (Ev.some' rfl))
      · simp [e]
    | true =>
      obtain ⟨r, hr, hd⟩ := ih (p ++ [y]) (by rw [← snoc]; exact hl)
      refine ⟨r, Ev.step (fun k => rfl) (Ev.pos (len_lt p y a) (Ev.pos (by omega) (Ev.pos (len_lt p y a) ?_))), ?_⟩
      · rw [rdT_mid]
        refine Ev.ret (lit_ev y) (Ev.neg (by simp [e]) ?_)
        rw [w64 (by omega) (by omega), ← len_snoc p y, snoc p y a]
        exact hr
      · rw [hd]; simp [e]
theorem has_ev (l : List S38) (hl : l.length < 4611686018427387904) : Ev (fun k => impl_Load_46.f k l) (!(l.all okL)) := by
  obtain ⟨r, hr, hd⟩ := idx_l0 l [] hl
  unfold impl_Load_46.f impl_Load_60.f
  exact Ev.bind hr (Ev.some' hd)
/-- One round over the loads. -/
def passV : List S38 → List Int → Int → List Int × Int × Bool
  | l :: ls, x :: xs, r => if 0 < r ∧ x < l.f0 + l.f1 then ((x + 1) :: (passV ls xs (r - 1)).1, (passV ls xs (r - 1)).2.1, true) else (x :: (passV ls xs r).1, (passV ls xs r).2.1, (passV ls xs r).2.2)
  | _, xs, r => (xs, r, false)
/-- Rounds, as long as there is room and one more was put. -/
def fillV (L : List S38) : Nat → List Int → Int → List Int
  | 0, o, _ => o
  | n + 1, o, r => if 0 < r then (if (passV L o r).2.2 = true then fillV L n (passV L o r).1 (passV L o r).2.1 else (passV L o r).1) else o
theorem passV_room : ∀ (ls : List S38) (xs : List Int) (r : Int), 0 ≤ r → 0 ≤ (passV ls xs r).2.1 ∧ (passV ls xs r).2.1 ≤ r ∧ ((passV ls xs r).2.2 = true → (passV ls xs r).2.1 < r) ∧ (passV ls xs r).1.length = xs.length := by
  intro ls
  induction ls with
  | nil => intro xs r h; cases xs <;> simp [passV, h]
  | cons l ls ih =>
    intro xs r h
    cases xs with
    | nil => simp [passV, h]
    | cons x xs =>
      rw [passV]
      split
      · rename_i hc
        obtain ⟨h1, h2, h3, h4⟩ := ih xs (r - 1) (by omega)
        exact ⟨h1, by simp only; omega, fun _ => by simp only; omega, by simp [h4]⟩
      · obtain ⟨h1, h2, h3, h4⟩ := ih xs r h
        exact ⟨h1, h2, h3, by simp [h4]⟩
theorem passV_zero : ∀ (ls : List S38) (xs : List Int), passV ls xs 0 = (xs, 0, false) := by
  intro ls
  induction ls with
  | nil => intro xs; cases xs <;> rfl
  | cons l ls ih =>
    intro xs
    cases xs with
    | nil => rfl
    | cons x xs => rw [passV, if_neg (by omega), ih]
theorem passV_nonneg : ∀ (ls : List S38) (xs : List Int) (r : Int), (∀ x ∈ xs, 0 ≤ x) → ∀ x ∈ (passV ls xs r).1, 0 ≤ x := by
  intro ls
  induction ls with
  | nil => intro xs r h; cases xs <;> (simp only [passV]; exact h)
  | cons l ls ih =>
    intro xs r h
    cases xs with
    | nil => simp [passV]
    | cons x xs =>
      have h0 := h x (by simp)
      have hs : ∀ x ∈ xs, 0 ≤ x := fun y hy => h y (by simp [hy])
      rw [passV]
      split
      · intro y hy
        rcases List.mem_cons.1 hy with rfl | hy
        · omega
        · exact ih xs _ hs y hy
      · intro y hy
        rcases List.mem_cons.1 hy with rfl | hy
        · omega
        · exact ih xs _ hs y hy
theorem impl_l2 (L : List S38) (T : Int) (v : List Int × Int × Int) : ∀ (ls : List S38) (xs : List Int) (q : List S38) (p : List Int) (r : Int) (m : Bool), q.length = p.length → ls.length = xs.length → (∀ l ∈ ls, okL l = true) → (∀ x ∈ xs, 0 ≤ x) → 0 ≤ r → r ≤ 1000000 → (q ++ ls).length < 4611686018427387904 →
    Ev (fun k => impl_FillTrucks.l1 k L (p ++ (passV ls xs r).1) T (passV ls xs r).2.1 (m || (passV ls xs r).2.2)) v →
    Ev (fun k => impl_FillTrucks.l2 k L (p ++ xs) T r m (q ++ ls) ((q ++ ls).length : Int) (q.length : Int)) v := by
  intro ls
  induction ls with
  | nil =>
    intro xs q p r m hqp hlx hok hx hr0 hr1 hl h
    obtain rfl : xs = [] := List.eq_nil_of_length_eq_zero hlx.symm
    exact Ev.step (fun k => rfl) (Ev.neg (len_end q) (by simpa [passV] using h))
  | cons l ls ih =>
    intro xs q p r m hqp hlx hok hx hr0 hr1 hl h
    match xs, hlx with
    | x :: xs, hlx =>
      have hl' := hl
      rw [List.length_append, List.length_cons] at hl'
      have hok1 := (okL_iff l).1 (hok l (by simp))
      have hx0 := hx x (by simp)
      have hnext := fun (y r' : Int) (m' : Bool) => ih xs (q ++ [l]) (p ++ [y]) r' m' (by simp [hqp]) (by simpa using hlx) (fun a ha => hok a (by simp [ha])) (fun a ha => hx a (by simp [ha]))
      refine Ev.step (fun k => rfl) (Ev.pos (len_lt q l ls) (Ev.pos (by omega) (Ev.pos (len_lt q l ls) ?_)))
      rw [rdT_mid, w64 (x := (q.length : Int) + 1) (by omega) (by omega), w64 (x := l.f0 + l.f1) (by omega) (by omega)]
      rw [passV] at h
      by_cases c1 : r > 0
      · refine Ev.pos c1 (Ev.pos (by rw [hqp]; exact len_lt p x xs) ?_)
        rw [hqp, rd_mid, set_mid, ← hqp]
        by_cases c2 : x < l.f0 + l.f1
        · rw [if_pos ⟨by omega, c2⟩] at h
          refine Ev.pos c2 ?_
          rw [w64 (by omega) (by omega), w64 (by omega) (by omega), ← len_snoc q l, snoc q l ls, snoc p (x + 1) xs]
          refine hnext (x + 1) (r - 1) true (by omega) (by omega) (by rw [← snoc]; exact hl) ?_
          simpa using h
        · rw [if_neg (by omega)] at h
          refine Ev.neg c2 ?_
          rw [← len_snoc q l, snoc q l ls, snoc p x xs]
          refine hnext x r m (by omega) (by omega) (by rw [← snoc]; exact hl) ?_
          simpa using h
      · rw [if_neg (by omega)] at h
        refine Ev.neg c1 ?_
        rw [← len_snoc q l, snoc q l ls, snoc p x xs]
        refine hnext x r m (by omega) (by omega) (by rw [← snoc]; exact hl) ?_
        simpa using h
theorem impl_l1 (L : List S38) (T : Int) (hL : L.length < 1000000) (hok : ∀ l ∈ L, okL l = true) : ∀ (n : Nat) (o : List Int) (r : Int), r.toNat < n → 0 ≤ r → r ≤ 1000000 → o.length = L.length → (∀ x ∈ o, 0 ≤ x) →
    Ev (fun k => impl_FillTrucks.l1 k L o T r true) (fillV L n o r, T, 0) := by
  intro n
  induction n with
  | zero => intro o r h; omega
  | succ n ih =>
    intro o r hn h0 h1 ho hx
    rw [fillV]
    refine Ev.via ?_ (fun k => rfl) (f := fun k => impl_FillTrucks.j2 k L o T r (decide (r > 0)))
    by_cases c : 0 < r
    · rw [show decide (r > 0) = true by simpa using c, if_pos c]
      refine Ev.via ?_ (fun k => rfl) (f := fun k => impl_FillTrucks.l2 k L o T r false L (L.length : Int) 0)
      obtain ⟨p1, p2, p3, p4⟩ := passV_room L o r h0
      refine impl_l2 L T _ L o [] [] r false rfl (by omega) hok hx h0 h1 (by simp; omega) ?_
      cases hm : (passV L o r).2.2 with
      | true =>
        rw [if_pos rfl]
        exact ih _ _ (by have := p3 hm; omega) p1 (by omega) (by simp; omega) (passV_nonneg L o r hx)
      | false =>
        rw [if_neg (by simp)]
        refine Ev.via (Ev.via (Ev.some' ?_) (fun k => rfl)) (fun k => rfl) (f := fun k => impl_FillTrucks.j2 k L ([] ++ (passV L o r).1) T (passV L o r).2.1 false)
        simp
    · rw [show decide (r > 0) = false by simpa using c, if_neg c]
      exact Ev.via (Ev.some' rfl) (fun k => rfl)
/-- All pallets. -/
def sumP : List S38 → Int
  | [] => 0
  | l :: ls => l.f0 + sumP ls
theorem sumP_bounds (ls : List S38) (h : ∀ l ∈ ls, okL l = true) : 0 ≤ sumP ls ∧ sumP ls ≤ 1000 * ls.length := by
  induction ls with
  | nil => simp [sumP]
  | cons l ls ih =>
    have h1 := (okL_iff l).1 (h l (by simp))
    have h2 := ih (fun a ha => h a (by simp [ha]))
    rw [sumP, List.length_cons]
    omega
theorem impl_l0 (L : List S38) (t : Int) (v : List Int × Int × Int) (ht : 1 ≤ t) (ht2 : t ≤ 100) : ∀ (ls q : List S38) (acc : List Int) (s : Int), (∀ l ∈ ls, okL l = true) → acc.length + ls.length < 1000 → 0 ≤ s → s + 1000 * ls.length ≤ 10000000 → (q ++ ls).length < 4611686018427387904 →
    Ev (fun k => impl_FillTrucks.l1 k L (acc ++ ls.map (·.f0)) ((s + sumP ls + t - 1) / t) ((s + sumP ls + t - 1) / t * t - (s + sumP ls)) true) v →
    Ev (fun k => impl_FillTrucks.l0 k L t acc s (q ++ ls) ((q ++ ls).length : Int) (q.length : Int)) v := by
  intro ls
  induction ls with
  | nil =>
    intro q acc s hok ha hs0 hs1 hl h
    simp only [List.length_nil] at hs1
    refine Ev.step (fun k => rfl) (Ev.neg (len_end q) (Ev.neg (by omega) ?_))
    simp only [sumP, List.map_nil, List.append_nil, Int.add_zero] at h
    have e1 := Int.mul_ediv_add_emod (s + t - 1) t
    have e2 := Int.emod_nonneg (s + t - 1) (show t ≠ 0 by omega)
    have e3 := Int.emod_lt_of_pos (s + t - 1) (show 0 < t by omega)
    rw [Int.mul_comm] at e1
    have e4 : (s + t - 1) / t ≤ s + t - 1 := Int.ediv_le_self _ (by omega)
    have e5 : 0 ≤ (s + t - 1) / t := Int.ediv_nonneg (by omega) (by omega)
    rw [w64 (x := s + t) (by omega) (by omega), w64 (x := s + t - 1) (by omega) (by omega), Int.tdiv_eq_ediv_of_nonneg (by omega), w64 (x := (s + t - 1) / t) (by omega) (by omega), w64 (x := (s + t - 1) / t * t) (by omega) (by omega), w64 (by omega) (by omega)]
    exact h
  | cons l ls ih =>
    intro q acc s hok ha hs0 hs1 hl h
    have hl' := hl
    rw [List.length_append, List.length_cons] at hl'
    rw [List.length_cons] at ha hs1
    have hok1 := (okL_iff l).1 (hok l (by simp))
    have hb := sumP_bounds ls (fun a ha => hok a (by simp [ha]))
    refine Ev.step (fun k => rfl) (Ev.pos (len_lt q l ls) (Ev.pos (by omega) (Ev.pos (len_lt q l ls) (Ev.pos (by omega) ?_))))
    rw [rdT_mid, w64 (by omega) (by omega), w64 (by omega) (by omega), ← len_snoc q l, snoc q l ls]
    refine ih (q ++ [l]) (acc ++ [l.f0]) (s + l.f0) (fun a ha => hok a (by simp [ha])) (by simp; omega) (by omega) (by omega) (by rw [← snoc]; exact hl) ?_
    simp only [sumP, List.map_cons] at h
    rw [← snoc, show s + l.f0 + sumP ls = s + (l.f0 + sumP ls) by omega]
    exact h
/-- The trucks for these loads. -/
def trucksV (L : List S38) (t : Int) : Int := (sumP L + t - 1) / t
/-- What is filled. -/
def filledV (L : List S38) (t : Int) : List Int := fillV L ((trucksV L t * t - sumP L).toNat + 1) (L.map (·.f0)) (trucksV L t * t - sumP L)
theorem trucks_bounds (L : List S38) (t : Int) (ht : 1 ≤ t) (ht2 : t ≤ 100) (hok : ∀ l ∈ L, okL l = true) (hl : L.length ≤ 1000) : 0 ≤ trucksV L t ∧ sumP L ≤ trucksV L t * t ∧ trucksV L t * t ≤ sumP L + t - 1 ∧ trucksV L t ≤ 2000000 ∧ 0 ≤ sumP L ∧ sumP L ≤ 1000000 := by
  have hb := sumP_bounds L hok
  have e1 := Int.mul_ediv_add_emod (sumP L + t - 1) t
  have e2 := Int.emod_nonneg (sumP L + t - 1) (show t ≠ 0 by omega)
  have e3 := Int.emod_lt_of_pos (sumP L + t - 1) (show 0 < t by omega)
  rw [Int.mul_comm] at e1
  have e4 : (sumP L + t - 1) / t ≤ sumP L + t - 1 := Int.ediv_le_self _ (by omega)
  have e5 : 0 ≤ (sumP L + t - 1) / t := Int.ediv_nonneg (by omega) (by omega)
  unfold trucksV
  omega
theorem map_nonneg (L : List S38) (hok : ∀ l ∈ L, okL l = true) : ∀ x ∈ L.map (·.f0), 0 ≤ x := by
  intro x hx
  obtain ⟨l, hl, rfl⟩ := List.mem_map.1 hx
  exact ((okL_iff l).1 (hok l hl)).1.1
theorem impl_loops (L : List S38) (t : Int) (ht : 1 ≤ t) (ht2 : t ≤ 100) (hl : L.length ≤ 40) (hok : ∀ l ∈ L, okL l = true) :
    Ev (fun k => impl_FillTrucks.l0 k L t [] 0 L (L.length : Int) 0) (filledV L t, trucksV L t, 0) := by
  have hb := trucks_bounds L t ht ht2 hok (by omega)
  refine impl_l0 L t _ ht ht2 L [] [] 0 hok (by simp; omega) (by omega) (by omega) (by simp; omega) ?_
  rw [Int.zero_add, List.nil_append]
  exact impl_l1 L _ (by omega) hok _ _ _ (Nat.lt_succ_self _) (by unfold trucksV at hb; omega) (by unfold trucksV at hb; omega) (by simp) (map_nonneg L hok)
/-- What both answer. -/
def fillTrucksV (L : List S38) (t : Int) : List Int × Int × Int :=
  if 4096 < L.length then ([], 0, 2) else if 40 < L.length then ([], 0, 9) else if 1 ≤ t ∧ t ≤ 100 then (if L.all okL = true then (filledV L t, trucksV L t, 0) else ([], 0, 1)) else ([], 0, 5)
theorem implFill_ev (L : List S38) (t : Int) (hl : L.length < 4611686018427387904) : Ev (fun k => impl_FillTrucks.f k L t) (fillTrucksV L t) := by
  unfold impl_FillTrucks.f impl_Load_44.f fillTrucksV
  refine Ev.ret rfl ?_
  by_cases c1 : 4096 < L.length
  · rw [if_pos c1]
    exact Ev.neg (by simp; omega) (Ev.some' rfl)
  rw [if_neg c1]
  refine Ev.pos (by simp; omega) ?_
  by_cases c2 : 40 < L.length
  · rw [if_pos c2]
    exact Ev.pos (by omega) (Ev.some' rfl)
  rw [if_neg c2]
  refine Ev.neg (by omega) (Ev.ret (within_ev _ _ _) ?_)
  by_cases c3 : 1 ≤ t ∧ t ≤ 100
  · rw [if_pos c3]
    refine Ev.pos (by simpa using c3) (Ev.bind (has_ev L hl) ?_)
    cases c4 : L.all okL with
    | true =>
      rw [if_pos rfl]
      exact Ev.neg (by simp) (impl_loops L t c3.1 c3.2 (by omega) (fun l hl => List.all_eq_true.1 c4 l hl))
    | false =>
      rw [if_neg (by simp)]
      exact Ev.pos (by simp) (Ev.some' rfl)
  · rw [if_neg c3]
    exact Ev.neg (by simpa using c3) (Ev.some' rfl)
/-! ### how evenly it is filled -/
def capL (l : S38) : Int := l.f0 + l.f1
def Level (t : Int) : List S38 → List Int → Prop
  | [], [] => True
  | l :: ls, x :: xs => x = min (capL l) (l.f0 + t) ∧ Level t ls xs
  | _, _ => False
def Half (t : Int) : List S38 → List Int → Prop
  | [], [] => True
  | l :: ls, x :: xs => (x = min (capL l) (l.f0 + t) ∨ (x = l.f0 + t + 1 ∧ x ≤ capL l)) ∧ Half t ls xs
  | _, _ => False
def AllCap : List S38 → List Int → Prop
  | [], [] => True
  | l :: ls, x :: xs => x = capL l ∧ AllCap ls xs
  | _, _ => False
def sumI : List Int → Int
  | [] => 0
  | x :: xs => x + sumI xs
theorem Level.half {t : Int} : ∀ {ls : List S38} {xs : List Int}, Level t ls xs → Half t ls xs := by
  intro ls
  induction ls with
  | nil =>
    intro xs h
    cases xs with
    | nil => trivial
    | cons => exact h.elim
  | cons l ls ih =>
    intro xs h
    cases xs with
    | nil => simp [Level] at h
    | cons x xs => exact ⟨.inl h.1, ih h.2⟩
theorem pass_level (t : Int) (ht : 0 ≤ t) : ∀ (ls : List S38) (xs : List Int) (r : Int), (∀ l ∈ ls, okL l = true) → 0 ≤ r → Level t ls xs →
    sumI (passV ls xs r).1 + (passV ls xs r).2.1 = sumI xs + r ∧ (0 < (passV ls xs r).2.1 → Level (t + 1) ls (passV ls xs r).1) ∧ Half t ls (passV ls xs r).1 ∧ ((passV ls xs r).2.2 = false → 0 < r → AllCap ls (passV ls xs r).1) := by
  intro ls
  induction ls with
  | nil => intro xs r hok hr h; cases xs <;> simp_all [Level, passV, Half, AllCap]
  | cons l ls ih =>
    intro xs r hok hr h
    cases xs with
    | nil => simp [Level] at h
    | cons x xs =>
      have hok1 := (okL_iff l).1 (hok l (by simp))
      obtain ⟨hx, hL⟩ := h
      have hokr := fun a ha => hok a (List.mem_cons_of_mem l ha)
      unfold capL at hx
      rw [passV]
      split
      · rename_i hc
        obtain ⟨i1, i2, i3, i4⟩ := ih xs (r - 1) hokr (by omega) hL
        obtain ⟨p1, p2, _, _⟩ := passV_room ls xs (r - 1) (by omega)
        refine ⟨?_, fun h0 => ⟨?_, i2 h0⟩, ⟨.inr ⟨?_, ?_⟩, i3⟩, fun h => by simp at h⟩
        · simp only [sumI]; omega
        · unfold capL; omega
        · omega
        · unfold capL; omega
      · rename_i hc
        obtain ⟨i1, i2, i3, i4⟩ := ih xs r hokr hr hL
        obtain ⟨p1, p2, _, _⟩ := passV_room ls xs r hr
        refine ⟨?_, fun h0 => ⟨?_, i2 h0⟩, ⟨.inl ?_, i3⟩, fun h h0 => ⟨?_, i4 h h0⟩⟩
        · simp only [sumI]; omega
        · have h0' : 0 < (passV ls xs r).2.1 := h0
          unfold capL; omega
        · unfold capL; omega
        · unfold capL; omega
/-- What holds when it is filled. -/
theorem fill_level (L : List S38) (hok : ∀ l ∈ L, okL l = true) : ∀ (n : Nat) (o : List Int) (r t : Int), 0 ≤ t → r.toNat < n → 0 ≤ r → Level t L o →
    ∃ t' r', 0 ≤ t' ∧ Half t' L (fillV L n o r) ∧ sumI (fillV L n o r) + r' = sumI o + r ∧ 0 ≤ r' ∧ (0 < r' → AllCap L (fillV L n o r)) := by
  intro n
  induction n with
  | zero => intro o r t h0 h; omega
  | succ n ih =>
    intro o r t h0 hn hr hL
    rw [fillV]
    by_cases c : 0 < r
    · rw [if_pos c]
      obtain ⟨p1, p2, p3, p4⟩ := passV_room L o r hr
      obtain ⟨i1, i2, i3, i4⟩ := pass_level t h0 L o r hok hr hL
      cases hm : (passV L o r).2.2 with
      | true =>
        rw [if_pos rfl]
        by_cases c2 : 0 < (passV L o r).2.1
        · obtain ⟨t', r', j0, j1, j2, j3, j4⟩ := ih (passV L o r).1 (passV L o r).2.1 (t + 1) (by omega) (by have := p3 hm; omega) p1 (i2 c2)
          exact ⟨t', r', j0, j1, by omega, j3, j4⟩
        · refine ⟨t, 0, h0, ?_, ?_, by omega, by omega⟩
          · have e : (passV L o r).2.1 = 0 := by omega
            cases n with
            | zero => exact i3
            | succ n => rw [fillV, if_neg c2]; exact i3
          · cases n with
            | zero => rw [fillV]; omega
            | succ n => rw [fillV, if_neg c2]; omega
      | false =>
        rw [if_neg (by simp)]
        exact ⟨t, (passV L o r).2.1, h0, i3, i1, p1, fun _ => i4 hm c⟩
    · rw [if_neg c]
      exact ⟨t, 0, h0, hL.half, by omega, by omega, by omega⟩
theorem level_zero : ∀ (L : List S38), (∀ l ∈ L, okL l = true) → Level 0 L (L.map (·.f0)) ∧ sumI (L.map (·.f0)) = sumP L := by
  intro L
  induction L with
  | nil => intro _; exact ⟨trivial, rfl⟩
  | cons l ls ih =>
    intro hok
    have hok1 := (okL_iff l).1 (hok l (by simp))
    obtain ⟨h1, h2⟩ := ih (fun a ha => hok a (by simp [ha]))
    refine ⟨⟨?_, h1⟩, ?_⟩
    · show l.f0 = min (capL l) (l.f0 + 0)
      unfold capL; omega
    · simp only [List.map_cons, sumI, sumP, h2]
theorem filled_level (L : List S38) (t : Int) (ht : 1 ≤ t) (ht2 : t ≤ 100) (hl : L.length ≤ 40) (hok : ∀ l ∈ L, okL l = true) :
    ∃ t' r', 0 ≤ t' ∧ 0 ≤ r' ∧ Half t' L (filledV L t) ∧ sumI (filledV L t) + r' = trucksV L t * t ∧ (0 < r' → AllCap L (filledV L t)) := by
  have hb := trucks_bounds L t ht ht2 hok (by omega)
  obtain ⟨z1, z2⟩ := level_zero L hok
  obtain ⟨t', r', j0, j1, j2, j3, j4⟩ := fill_level L hok ((trucksV L t * t - sumP L).toNat + 1) (L.map (·.f0)) (trucksV L t * t - sumP L) 0 (by omega) (by omega) (by omega) z1
  refine ⟨t', r', j0, j3, j1, ?_, j4⟩
  unfold filledV
  omega
/-- A source of draws: its code's bytes, its place (at most N), its seed. -/
def Srd (c : List Int) (a s N : Int) : Prop := (∀ x ∈ c, 0 ≤ x ∧ x ≤ 255) ∧ 0 ≤ a ∧ a ≤ N ∧ 0 ≤ s ∧ s ≤ 2147483647
theorem Srd.mono {c : List Int} {a s N M : Int} (h : Srd c a s N) (hM : N ≤ M) : Srd c a s M := ⟨h.1, h.2.1, by have := h.2.2.1; omega, h.2.2.2⟩
theorem rd_byte {c : List Int} (hc : ∀ x ∈ c, 0 ≤ x ∧ x ≤ 255) (i : Int) : 0 ≤ rd c i ∧ rd c i ≤ 255 := by
  unfold rd
  rw [List.getD_eq_getElem?_getD]
  cases h : c[i.toNat]? with
  | none => simp
  | some x => simpa using hc x (List.mem_of_getElem? h)
theorem byte_ok {c : List Int} {a s N : Int} (h : Srd c a s N) (hN : N ≤ 1000000000) : ∃ v s', spec_l00Src_byte.f c a s = some (v, a + 1, s') ∧ 0 ≤ v ∧ v ≤ 255 ∧ Srd c (a + 1) s' (N + 1) := by
  obtain ⟨hc, h0, h1, h2, h3⟩ := h
  unfold spec_l00Src_byte.f
  rw [w64 (x := a + 1) (by omega) (by omega), w64 (x := a + 1 - 1) (by omega) (by omega), show a + 1 - 1 = a by omega]
  have hb := rd_byte hc a
  generalize rd c a = b at hb
  rw [w64 (x := b) (by omega) (by omega), w64 (x := s * 31) (by omega) (by omega), w64 (x := s * 31 + b) (by omega) (by omega), w64 (x := s * 31 + b + 7) (by omega) (by omega), Int.tmod_eq_emod_of_nonneg (show 0 ≤ s * 31 + b + 7 by omega)]
  rw [w64 (x := s * 1103515245) (by omega) (by omega), w64 (x := s * 1103515245 + 12345) (by omega) (by omega), Int.tmod_eq_emod_of_nonneg (show 0 ≤ s * 1103515245 + 12345 by omega)]
  have e := Int.emod_nonneg (s * 1103515245 + 12345) (show (2147483648 : Int) ≠ 0 by decide)
  have e2 := Int.emod_lt_of_pos (s * 1103515245 + 12345) (show (0 : Int) < 2147483648 by decide)
  have f := Int.emod_nonneg (s * 31 + b + 7) (show (2147483648 : Int) ≠ 0 by decide)
  have f2 := Int.emod_lt_of_pos (s * 31 + b + 7) (show (0 : Int) < 2147483648 by decide)
  generalize (s * 1103515245 + 12345) % 2147483648 = t at e e2 ⊢
  generalize (s * 31 + b + 7) % 2147483648 = u at f f2 ⊢
  by_cases c1 : a + 1 ≤ (c.length : Int)
  · rw [if_pos c1, if_pos h0, if_pos (by omega)]
    exact ⟨_, _, rfl, hb.1, hb.2, hc, by omega, by omega, by omega, by omega⟩
  · rw [if_neg c1]
    by_cases c2 : a + 1 > 3000
    · rw [if_pos c2]
      exact ⟨_, _, rfl, by omega, by omega, hc, by omega, by omega, by omega, by omega⟩
    · rw [if_neg c2, Int.tdiv_eq_ediv_of_nonneg (by omega), w64 (by omega) (by omega), Int.tmod_eq_emod_of_nonneg (by omega)]
      exact ⟨_, _, rfl, by omega, by omega, hc, by omega, by omega, by omega, by omega⟩
theorem next_ok {c : List Int} {a s N : Int} (n : Int) (h : Srd c a s N) (hN : N ≤ 900000000) (h1 : 1 ≤ n) (h2 : n ≤ 16777216) : ∃ v a' s', spec_l00Src_next.f c a s n = some (v, a', s') ∧ 0 ≤ v ∧ v < n ∧ Srd c a' s' (N + 3) := by
  unfold spec_l00Src_next.f
  by_cases c1 : n ≤ 1
  · rw [if_pos c1]
    exact ⟨_, _, _, rfl, by omega, by omega, h.mono (by omega)⟩
  · rw [if_neg c1]
    obtain ⟨v, s1, hv, v0, v1, S1⟩ := byte_ok h (by omega)
    simp only [hv, Option.bind_some]
    have g := Int.emod_nonneg v (show n ≠ 0 by omega)
    have g2 := Int.emod_lt_of_pos v (show 0 < n by omega)
    by_cases c2 : n ≤ 256
    · rw [if_pos c2, if_neg (by omega), Int.tmod_eq_emod_of_nonneg (by omega)]
      exact ⟨_, _, _, rfl, g, g2, S1.mono (by omega)⟩
    · rw [if_neg c2]
      obtain ⟨x, s2, hx, x0, x1, S2⟩ := byte_ok S1 (by omega)
      simp only [hx, Option.bind_some]
      obtain ⟨y, s3, hy, y0, y1, S3⟩ := byte_ok S2 (by omega)
      simp only [hy, Option.bind_some]
      rw [if_neg (by omega)]
      rw [w64 (x := v * 65536) (by omega) (by omega), w64 (x := x * 256) (by omega) (by omega), w64 (x := v * 65536 + x * 256) (by omega) (by omega), w64 (by omega) (by omega), Int.tmod_eq_emod_of_nonneg (by omega)]
      exact ⟨_, _, _, rfl, Int.emod_nonneg _ (by omega), Int.emod_lt_of_pos _ (by omega), S3.mono (by omega)⟩
theorem source_ok (l : List Int) (h : ∀ x ∈ l, (Lit.int .u8 x).wf = true) : ∃ s, spec_l00Source.f l = some (l, 0, s) ∧ Srd l 0 s 0 := by
  refine ⟨_, rfl, fun x hx => bounds_u8 (h x hx), by omega, by omega, ?_, ?_⟩ <;> omega
theorem size_ok {c : List Int} (a s m : Int) (hc : c.length ≤ 1048576) (hm : 1 ≤ m) : ∃ v, spec_l00Src_size.f c a s m = some (v, a, s) ∧ 1 ≤ v ∧ v ≤ m := by
  unfold spec_l00Src_size.f
  rw [w64 (x := (c.length : Int) / 12) (by omega) (by omega), w64 (by omega) (by omega)]
  refine ⟨_, rfl, ?_, ?_⟩ <;> (unfold mn; split <;> omega)
theorem LoadsOf_l0 (c : List Int) : ∀ (n : Nat) (acc : List S38) (a s N : Int), Srd c a s N → N + 6 * n ≤ 1000000 → acc.length + n ≤ 40 → (∀ l ∈ acc, okL l = true) →
    ∃ L t, Ev (fun k => spec_LoadsOf.l0 k acc (n : Int) c a s) (L, t) ∧ L.length ≤ 40 ∧ (∀ l ∈ L, okL l = true) ∧ 1 ≤ t ∧ t ≤ 100 := by
  intro n
  induction n with
  | zero =>
    intro acc a s N hS hN hl hok
    obtain ⟨v, a1, s1, e1, l1, u1, S1⟩ := next_ok 30 hS (by omega) (by omega) (by omega)
    refine ⟨acc, _, Ev.step (fun k => rfl) (Ev.neg (show ¬ ((0 : Nat) : Int) > 0 by omega) (Ev.ret e1 (Ev.some' rfl))), by omega, hok, ?_, ?_⟩
    · rw [w64 (by omega) (by omega)]; omega
    · rw [w64 (by omega) (by omega)]; omega
  | succ n ih =>
    intro acc a s N hS hN hl hok
    obtain ⟨v, a1, s1, e1, l1, u1, S1⟩ := next_ok 12 hS (by omega) (by omega) (by omega)
    obtain ⟨x, a2, s2, e2, l2, u2, S2⟩ := next_ok 5 S1 (by omega) (by omega) (by omega)
    obtain ⟨L, t, h1, h2⟩ := ih (acc ++ [⟨v, x⟩]) a2 s2 _ S2 (by omega) (by simp; omega) (by
      intro l hl
      rcases List.mem_append.1 hl with hl | hl
      · exact hok l hl
      · rw [List.mem_singleton.1 hl, okL_iff]; simp only; omega)
    refine ⟨L, t, Ev.step (fun k => rfl) (Ev.pos (show ((n + 1 : Nat) : Int) > 0 by omega) (Ev.ret e1 (Ev.ret e2 (Ev.pos (by omega) ?_)))), h2⟩
    rw [w64 (by omega) (by omega), show ((n + 1 : Nat) : Int) - 1 = (n : Int) by omega]
    exact h1
theorem LoadsOf_ok (l : List Int) (h : ∀ x ∈ l, (Lit.int .u8 x).wf = true) (hl : l.length ≤ 1048576) :
    ∃ L t, Ev (fun k => spec_LoadsOf.f k l) (L, t) ∧ L.length ≤ 40 ∧ (∀ l ∈ L, okL l = true) ∧ 1 ≤ t ∧ t ≤ 100 := by
  obtain ⟨s, hs, S0⟩ := source_ok l h
  obtain ⟨z, e0, z0, z1⟩ := size_ok (c := l) 0 s 7 hl (by omega)
  have hz : wrap64 (z + 1) = z + 1 := w64 (by omega) (by omega)
  obtain ⟨v, a1, s1, e1, l1, u1, S1⟩ := next_ok (z + 1) S0 (by omega) (by omega) (by omega)
  obtain ⟨L, t, h1, h2⟩ := LoadsOf_l0 l v.toNat [] a1 s1 _ S1 (by omega) (by simp; omega) (by simp)
  rw [Int.toNat_of_nonneg l1] at h1
  refine ⟨L, t, ?_, h2⟩
  unfold spec_LoadsOf.f
  refine Ev.ret hs (Ev.ret e0 ?_)
  simp only [hz]
  exact Ev.ret e1 h1
theorem sum_l0 : ∀ (a p : List Int) (s : Int), (p ++ a).length < 1000000 → (∀ x ∈ a, 0 ≤ x ∧ x ≤ 1000000) → 0 ≤ s → s ≤ 1000000 * p.length → Ev (fun k => laws_sum.l0 k (p ++ a) s (p.length : Int)) (s + sumI a) := by
  intro a
  induction a with
  | nil => intro p s hl ha h0 h1; exact Ev.step (fun k => rfl) (Ev.neg (len_end p) (Ev.some' (by simp [sumI])))
  | cons x a ih =>
    intro p s hl ha h0 h1
    have hl' := hl
    rw [List.length_append, List.length_cons] at hl'
    have hx := ha x (by simp)
    refine Ev.step (fun k => rfl) (Ev.pos (len_lt p x a) (Ev.pos (by omega) ?_))
    rw [rd_mid, w64 (by omega) (by omega), w64 (by omega) (by omega), ← len_snoc p x, snoc p x a]
    refine Ev.eq (ih (p ++ [x]) (s + x) (by rw [← snoc]; exact hl) (fun y hy => ha y (by simp [hy])) (by omega) (by simp; omega)) ?_
    rw [sumI]; omega
theorem half_bounds {t : Int} : ∀ {ls : List S38} {xs : List Int}, 0 ≤ t → (∀ l ∈ ls, okL l = true) → Half t ls xs → xs.length = ls.length ∧ ∀ x ∈ xs, 0 ≤ x ∧ x ≤ 1000000 := by
  intro ls
  induction ls with
  | nil =>
    intro xs ht hok h
    cases xs with
    | nil => simp
    | cons => exact h.elim
  | cons l ls ih =>
    intro xs ht hok h
    cases xs with
    | nil => exact h.elim
    | cons x xs =>
      have hok1 := (okL_iff l).1 (hok l (by simp))
      obtain ⟨i1, i2⟩ := ih ht (fun a ha => hok a (by simp [ha])) h.2
      refine ⟨by simp [i1], fun y hy => ?_⟩
      rcases List.mem_cons.1 hy with rfl | hy
      · have := h.1
        unfold capL at this
        omega
      · exact i2 y hy
/-- The room that is left in the loads. -/
def roomV : List S38 → List Int → Int
  | l :: ls, x :: xs => (capL l - x) + roomV ls xs
  | _, _ => 0
theorem law_l0 (L : List S38) (O : List Int) (t n : Int) (v : Bool) (u : Int) (hu : 0 ≤ u) : ∀ (ls q : List S38) (xs p : List Int) (a b : Int), q.length = p.length → Half u ls xs → (∀ l ∈ ls, okL l = true) → (p ++ xs).length < 1000000 → 0 ≤ a → a ≤ 1000 * p.length → 0 ≤ b → b ≤ 2000 * p.length →
    (Ev (fun k => (laws_sum.f k (p ++ xs)).bind fun t182 => (if t182 > (wrap64 (n * t)) then (laws_FnTrucks.j2 k (q ++ ls) t (p ++ xs) n (b + roomV ls xs) t182 true) else (if (a + sumP ls) > (wrap64 (n * t)) then (laws_FnTrucks.j2 k (q ++ ls) t (p ++ xs) n (b + roomV ls xs) t182 true) else (if n > 0 then (laws_FnTrucks.j2 k (q ++ ls) t (p ++ xs) n (b + roomV ls xs) t182 (decide ((a + sumP ls) ≤ (wrap64 ((wrap64 (n - 1)) * t))))) else (laws_FnTrucks.j2 k (q ++ ls) t (p ++ xs) n (b + roomV ls xs) t182 false))))) v) →
    Ev (fun k => laws_FnTrucks.l0 k (q ++ ls) t (p ++ xs) n a b (p.length : Int)) v := by
  intro ls
  induction ls with
  | nil =>
    intro q xs p a b hqp hH hok hl ha0 ha1 hb0 hb1 h
    cases xs with
    | nil =>
      refine Ev.step (fun k => rfl) (Ev.neg (len_end p) ?_)
      simp only [sumP, roomV, Int.add_zero] at h
      exact h
    | cons => exact hH.elim
  | cons l ls ih =>
    intro q xs p a b hqp hH hok hl ha0 ha1 hb0 hb1 h
    cases xs with
    | nil => exact hH.elim
    | cons x xs =>
      have hl' := hl
      rw [List.length_append, List.length_cons] at hl'
      have hok1 := (okL_iff l).1 (hok l (by simp))
      have hx := hH.1
      unfold capL at hx
      refine Ev.step (fun k => rfl) (Ev.pos (len_lt p x xs) (Ev.pos (by omega) (Ev.pos (by rw [← hqp]; exact len_lt q l ls) ?_)))
      rw [rd_mid, ← hqp, rdT_mid, w64 (x := l.f0 + l.f1) (by omega) (by omega), w64 (x := l.f0 + l.f1 - x) (by omega) (by omega), w64 (by omega) (by omega), w64 (by omega) (by omega), w64 (by omega) (by omega)]
      refine Ev.neg (by omega) (Ev.neg (by omega) ?_)
      rw [hqp, ← len_snoc p x, snoc p x xs, snoc q l ls]
      refine ih (q ++ [l]) xs (p ++ [x]) (a + l.f0) (b + (l.f0 + l.f1 - x)) (by simp [hqp]) hH.2 (fun a ha => hok a (by simp [ha])) (by rw [← snoc]; exact hl) (by omega) (by simp; omega) (by omega) (by simp; omega) ?_
      have this := h
      simp only [sumP, roomV, capL] at this
      rw [← snoc, ← snoc, show b + (l.f0 + l.f1 - x) + roomV ls xs = b + (l.f0 + l.f1 - x + roomV ls xs) by omega, show a + l.f0 + sumP ls = a + (l.f0 + sumP ls) by omega]
      exact this
theorem room_allcap : ∀ (ls : List S38) (xs : List Int), AllCap ls xs → roomV ls xs = 0 := by
  intro ls
  induction ls with
  | nil => intro xs h; cases xs <;> rfl
  | cons l ls ih =>
    intro xs h
    cases xs with
    | nil => rfl
    | cons x xs =>
      rw [roomV, ih xs h.2, h.1]
      omega
theorem half_get {t : Int} : ∀ {ls : List S38} {xs : List Int} (i : Nat), Half t ls xs → i < xs.length → (xs.getD i 0 = min (capL (ls.getD i z38)) ((ls.getD i z38).f0 + t) ∨ (xs.getD i 0 = (ls.getD i z38).f0 + t + 1 ∧ xs.getD i 0 ≤ capL (ls.getD i z38))) := by
  intro ls
  induction ls with
  | nil =>
    intro xs i h hi
    cases xs with
    | nil => simp at hi
    | cons => exact h.elim
  | cons l ls ih =>
    intro xs i h hi
    cases xs with
    | nil => exact h.elim
    | cons x xs =>
      cases i with
      | zero => simpa using h.1
      | succ i => simpa using ih i h.2 (by simpa using hi)
theorem okL_get (L : List S38) (hok : ∀ l ∈ L, okL l = true) (i : Nat) (hi : i < L.length) : okL (L.getD i z38) = true := by
  rw [List.getD_eq_getElem?_getD, List.getElem?_eq_getElem hi]
  exact hok _ (List.getElem_mem hi)
theorem rdT_nat (L : List S38) (i : Nat) : rd_T38 L (i : Int) = L.getD i z38 := by
  unfold rd_T38
  rw [Int.toNat_natCast]
theorem law_l2 (L : List S38) (O : List Int) (u : Int) (hu : 0 ≤ u) (hok : ∀ l ∈ L, okL l = true) (hl : L.length ≤ 40) (hO : O.length = L.length) (hH : Half u L O) (i : Nat) (hi : i < O.length) (v : Bool)
    (hnext : Ev (fun k => laws_FnTrucks.l1 k L O ((i + 1 : Nat) : Int)) v) : ∀ (n j : Nat), j + n = O.length → Ev (fun k => laws_FnTrucks.l2 k L O (i : Int) (j : Int)) v := by
  intro n
  induction n with
  | zero =>
    intro j hj
    refine Ev.step (fun k => rfl) (Ev.neg (show ¬ (j : Int) < (O.length : Int) by omega) ?_)
    rw [w64n (by omega)]
    exact hnext
  | succ n ih =>
    intro j hj
    refine Ev.step (fun k => rfl) (Ev.pos (show (j : Int) < (O.length : Int) by omega) (Ev.pos (by omega) (Ev.pos (by omega) (Ev.pos (by omega) (Ev.pos (by omega) (Ev.pos (by omega) ?_))))))
    have h1 := half_get i hH hi
    have h2 := half_get j hH (by omega)
    have o1 := (okL_iff _).1 (okL_get L hok i (by omega))
    have o2 := (okL_iff _).1 (okL_get L hok j (by omega))
    rw [rd_nat, rd_nat, rdT_nat, rdT_nat]
    generalize O.getD i 0 = x at h1 ⊢
    generalize O.getD j 0 = y at h2 ⊢
    generalize L.getD i z38 = l at h1 o1 ⊢
    generalize L.getD j z38 = m at h2 o2 ⊢
    unfold capL at h1 h2
    rw [w64 (x := x - l.f0) (by omega) (by omega), w64 (x := y - m.f0) (by omega) (by omega), w64 (x := y - m.f0 + 1) (by omega) (by omega), w64 (x := m.f0 + m.f1) (by omega) (by omega), w64n (by omega)]
    by_cases c : x - l.f0 > y - m.f0 + 1
    · exact Ev.pos c (Ev.neg (by omega) (ih (j + 1) (by omega)))
    · exact Ev.neg c (ih (j + 1) (by omega))
theorem law_l1 (L : List S38) (O : List Int) (u : Int) (hu : 0 ≤ u) (hok : ∀ l ∈ L, okL l = true) (hl : L.length ≤ 40) (hO : O.length = L.length) (hH : Half u L O) : ∀ (n i : Nat), i + n = O.length → Ev (fun k => laws_FnTrucks.l1 k L O (i : Int)) true := by
  intro n
  induction n with
  | zero => intro i hi; exact Ev.step (fun k => rfl) (Ev.neg (show ¬ (i : Int) < (O.length : Int) by omega) (Ev.some' rfl))
  | succ n ih =>
    intro i hi
    exact Ev.step (fun k => rfl) (Ev.pos (show (i : Int) < (O.length : Int) by omega) (law_l2 L O u hu hok hl hO hH i (by omega) true (ih (i + 1) (by omega)) O.length 0 (by omega)))
theorem FnTrucks : laws_FnTrucks.Pure := by
  intro l h
  refine Ev.rounds (?_ : Ev (fun k => laws_FnTrucks.f k l) true)
  unfold laws_FnTrucks.f
  by_cases c1 : (l.length : Int) > 1048576
  · exact Ev.pos c1 (Ev.some' rfl)
  refine Ev.neg c1 ?_
  obtain ⟨L, t, hd, hl, hok, ht, ht2⟩ := LoadsOf_ok l h.2 (by omega)
  have hf := implFill_ev L t (by omega)
  unfold fillTrucksV at hf
  rw [if_neg (by omega), if_neg (by omega), if_pos ⟨ht, ht2⟩, if_pos (List.all_eq_true.2 hok)] at hf
  have hb := trucks_bounds L t ht ht2 hok (by omega)
  obtain ⟨u, r, hu, hr, hH, hsum, hcap⟩ := filled_level L t ht ht2 hl hok
  obtain ⟨hlen, hbd⟩ := half_bounds hu hok hH
  have hl1 := law_l1 L (filledV L t) u hu hok hl hlen hH _ 0 (Nat.zero_add _)
  have hs := sum_l0 (filledV L t) [] 0 (by simp; omega) hbd (by omega) (by simp)
  have hw : wrap64 (trucksV L t * t) = trucksV L t * t := w64 (by omega) (by omega)
  have hw1 : wrap64 (trucksV L t - 1) = trucksV L t - 1 := w64 (by omega) (by omega)
  have hmul : (trucksV L t - 1) * t = trucksV L t * t - t := by rw [Int.sub_mul, Int.one_mul]
  have hw2 : wrap64 ((trucksV L t - 1) * t) = trucksV L t * t - t := by rw [hmul]; exact w64 (by omega) (by omega)
  refine Ev.bind hd (Ev.bind hf (Ev.pos (by rfl) (Ev.pos (by simp only; omega) ?_)))
  rw [show decide (trucksV L t < 0) = false by simp; omega]
  refine Ev.via ?_ (fun k => rfl) (f := fun k => laws_FnTrucks.l0 k L t (filledV L t) (trucksV L t) 0 0 0)
  refine law_l0 L (filledV L t) t (trucksV L t) true u hu L [] (filledV L t) [] 0 0 rfl hH hok (by simp; omega) (by omega) (by simp) (by omega) (by simp) ?_
  unfold laws_sum.f
  refine Ev.bind hs ?_
  simp only [List.nil_append, Int.zero_add, hw, hw1, hw2]
  have fin : Ev (fun k => laws_FnTrucks.j2 k L t (filledV L t) (trucksV L t) (roomV L (filledV L t)) (sumI (filledV L t)) false) true := by
    refine Ev.via ?_ (fun k => rfl) (f := fun k => if sumI (filledV L t) < wrap64 (trucksV L t * t) then laws_FnTrucks.j3 k L (filledV L t) (decide (roomV L (filledV L t) > 0)) else laws_FnTrucks.j3 k L (filledV L t) false)
    have fin2 : Ev (fun k => laws_FnTrucks.j3 k L (filledV L t) false) true := Ev.via hl1 (fun k => rfl)
    rw [hw]
    by_cases c : sumI (filledV L t) < trucksV L t * t
    · refine Ev.pos c ?_
      rw [room_allcap L _ (hcap (by omega))]
      exact fin2
    · exact Ev.neg c fin2
  refine Ev.neg (by omega) (Ev.neg (by omega) ?_)
  by_cases c : trucksV L t > 0
  · refine Ev.pos c ?_
    rw [show decide (sumP L ≤ trucksV L t * t - t) = false by simp; omega]
    exact fin
  · exact Ev.neg c fin

end Go.Proofs.Ythhdcjdlcfbkdaa.Pure
