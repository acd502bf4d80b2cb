/- The program's FillTrucks and the reference's answer alike for all arguments, change none and share nothing: the law's plain statement, with no condition. -/
import Derived.Test.YthhdcjdlcfbkdaaXFnExactFillTrucksx6
import Derived.Test.YthhdcjdlcfbkdaaAx
import Derived.Test.YthhdcjdlcfbkdaaIdx
namespace Go.Proofs.Ythhdcjdlcfbkdaa.Pure
open Go.RowKit Go.Proofs.Ythhdcjdlcfbkdaa.XFnExactFillTrucks Go.Proofs.YthhdcjdlcfbkdaaW.PrintWords Go.Proofs.YthhdcjdlcfbkdaaW.PrintLast
open Go.Proofs.YthhdcjdlcfbkdaaW.Ax Go.Proofs.YthhdcjdlcfbkdaaW.Idx
set_option linter.unusedVariables false
set_option linter.unusedSimpArgs false
theorem eqIntS_l0 : ∀ (a b p q : List Int), p.length = q.length → a.length = b.length → (p ++ a).length < 4611686018427387904 →
    Ev (fun k => laws_eqIntS.l0 k (p ++ a) (q ++ b) (p.length : Int)) (decide (a = b)) := by
  intro a
  induction a with
  | nil =>
    intro b p q hpq hab hl
    obtain rfl : b = [] := List.eq_nil_of_length_eq_zero hab.symm
    refine Ev.step (fun k => rfl) (Ev.neg (len_end p) (Ev.some' rfl))
  | cons x a ih =>
    intro b p q hpq hab hl
    match b, hab with
    | y :: b, hab =>
      have hq : ((p.length : Int)) < ((q ++ y :: b).length : Int) := by rw [hpq]; exact len_lt q y b
      have hl' : (p ++ x :: a).length < 4611686018427387904 := hl
      rw [List.length_append, List.length_cons] at hl'
      refine Ev.step (fun k => rfl) (Ev.pos (len_lt p x a) (Ev.pos (by omega) (Ev.pos hq ?_)))
      rw [rd_mid p x a, hpq, rd_mid q y b, ← hpq]
      by_cases e : x = y
      · subst e
        refine Ev.pos (by rfl) ?_
        rw [w64 (by omega) (by omega), ← len_snoc p x, snoc p, snoc q]
        exact Ev.eq (ih b (p ++ [x]) (q ++ [x]) (by simp [hpq]) (by simpa using hab) (by rw [← snoc]; exact hl)) (by simp)
      · exact Ev.neg e (Ev.some' (by simp [e]))
theorem eqIntS_ev (a b : List Int) (hl : a.length < 4611686018427387904) : Ev (fun k => laws_eqIntS.f k a b) (decide (a = b)) := by
  unfold laws_eqIntS.f
  by_cases h : (a.length : Int) = (b.length : Int)
  · exact Ev.pos h (eqIntS_l0 a b [] [] rfl (by omega) hl)
  · refine Ev.neg h (Ev.some' ?_)
    symm
    rw [decide_eq_false_iff_not]
    rintro rfl
    exact h rfl
theorem markIntS_l0 : ∀ (a p : List Int) (c : Int), (p ++ a).length < 4611686018427387904 → 0 ≤ c → c + a.length < 4611686018427387904 →
    Ev (fun k => laws_markIntS.l0 k (p ++ a) c (p.length : Int)) (c + a.length, p ++ iota c a.length) := by
  intro a
  induction a with
  | nil =>
    intro p c hl h0 hc
    exact Ev.step (fun k => rfl) (Ev.neg (len_end p) (Ev.some' (by simp [iota])))
  | cons x a ih =>
    intro p c hl h0 hc
    have hl' : (p ++ x :: a).length < 4611686018427387904 := hl
    rw [List.length_append, List.length_cons] at hl'
    rw [List.length_cons] at hc
    refine Ev.step (fun k => rfl) (Ev.pos (len_lt p x a) (Ev.pos (by omega) ?_))
    rw [set_mid, w64 (by omega) (by omega), w64 (by omega) (by omega), ← len_snoc p c, snoc p c a]
    refine Ev.eq (ih (p ++ [c]) (c + 1) (by simp; omega) (by omega) (by omega)) ?_
    rw [← snoc, List.length_cons, iota]
    congr 1
    omega
theorem markIntS_ev (a : List Int) (c : Int) (hl : a.length < 4611686018427387904) (h0 : 0 ≤ c) (hc : c + a.length < 4611686018427387904) : Ev (fun k => laws_markIntS.f k a c) (c + a.length, iota c a.length) := by
  unfold laws_markIntS.f
  exact markIntS_l0 a [] c hl h0 hc
theorem heldIntS_l0 : ∀ (n : Nat) (p : List Int) (c : Int), (p.length + n) < 4611686018427387904 → 0 ≤ c → c + n < 4611686018427387904 →
    Ev (fun k => laws_heldIntS.l0 k (p ++ iota c n) c (p.length : Int)) (c + n) := by
  intro n
  induction n with
  | zero =>
    intro p c hl h0 hc
    exact Ev.step (fun k => rfl) (Ev.neg (len_end p) (Ev.some' (by simp)))
  | succ n ih =>
    intro p c hl h0 hc
    rw [iota]
    refine Ev.step (fun k => rfl) (Ev.pos (len_lt p c _) (Ev.pos (by omega) (Ev.pos (rd_mid p c _) ?_)))
    rw [w64 (by omega) (by omega), w64 (by omega) (by omega), ← len_snoc p c, snoc p c]
    exact Ev.eq (ih (p ++ [c]) (c + 1) (by simp; omega) (by omega) (by omega)) (by omega)
theorem heldIntS_ev (n : Nat) (c : Int) (h0 : 0 ≤ c) (hc : c + n < 4611686018427387904) : Ev (fun k => laws_heldIntS.f k (iota c n) c) (c + n) := by
  unfold laws_heldIntS.f
  exact heldIntS_l0 n [] c (by simp; omega) h0 hc
theorem rd_Load_mid (p : List S38) (x : S38) (r : List S38) : rd_T38 (p ++ x :: r) (p.length : Int) = x := getD_mid p x r z38
theorem rd_Load_nat (l : List S38) (i : Nat) : rd_T38 l (i : Int) = l.getD i z38 := by
  unfold rd_T38
  rw [Int.toNat_natCast]
theorem eqLoad_ev (x : S38) : laws_eqLoad.f x.f0 x.f1 x.f0 x.f1 = some true := by
  unfold laws_eqLoad.f
  simp
theorem eqLoadS_l0 : ∀ (a p : List S38), (p ++ a).length < 4611686018427387904 →
    Ev (fun k => laws_eqLoadS.l0 k (p ++ a) (p ++ a) (p.length : Int)) true := by
  intro a
  induction a with
  | nil =>
    intro p hl
    exact Ev.step (fun k => rfl) (Ev.neg (len_end p) (Ev.some' rfl))
  | cons x a ih =>
    intro p hl
    have hl' : (p ++ x :: a).length < 4611686018427387904 := hl
    rw [List.length_append, List.length_cons] at hl'
    refine Ev.step (fun k => rfl) (Ev.pos (len_lt p x a) (Ev.pos (by omega) (Ev.pos (len_lt p x a) ?_)))
    rw [rd_Load_mid]
    refine Ev.ret (eqLoad_ev x) (Ev.pos (by rfl) ?_)
    rw [w64 (by omega) (by omega), ← len_snoc p x, snoc p x a]
    exact ih (p ++ [x]) (by rw [← snoc]; exact hl)
theorem eqLoadS_ev (a : List S38) (hl : a.length < 4611686018427387904) : Ev (fun k => laws_eqLoadS.f k a a) true := by
  unfold laws_eqLoadS.f
  exact Ev.pos (by rfl) (eqLoadS_l0 a [] hl)
/-- Marks: numbers rising by 1, field by field. -/
def markLoadV (c : Int) : Nat → List S38
  | 0 => []
  | m + 1 => ⟨c, c + 1⟩ :: markLoadV (c + 2) m
theorem markLoadV_length (c : Int) (m : Nat) : (markLoadV c m).length = m := by
  induction m generalizing c with
  | zero => rfl
  | succ m ih => simp [markLoadV, ih]
theorem markLoadS_l0 : ∀ (a p : List S38) (c : Int), (p ++ a).length < 4611686018427387904 → 0 ≤ c → c + 2 * a.length < 4611686018427387904 →
    Ev (fun k => laws_markLoadS.l0 k (p ++ a) c (p.length : Int)) (c + 2 * a.length, p ++ markLoadV c a.length) := by
  intro a
  induction a with
  | nil =>
    intro p c hl h0 hc
    exact Ev.step (fun k => rfl) (Ev.neg (len_end p) (Ev.some' (by simp [markLoadV])))
  | cons x a ih =>
    intro p c hl h0 hc
    have hl' : (p ++ x :: a).length < 4611686018427387904 := hl
    rw [List.length_append, List.length_cons] at hl'
    rw [List.length_cons] at hc
    refine Ev.step (fun k => rfl) (Ev.pos (len_lt p x a) (Ev.pos (by omega) ?_))
    refine Ev.ret rfl ?_
    simp only [rd_Load_mid, set_mid]
    rw [w64 (x := c + 1) (by omega) (by omega), w64 (x := c + 1 + 1) (by omega) (by omega), w64 (x := (p.length : Int) + 1) (by omega) (by omega)]
    rw [show c + 1 + 1 = c + 2 by omega, ← len_snoc p (⟨c, c + 1⟩ : S38), snoc p _ a]
    refine Ev.eq (ih (p ++ [⟨c, c + 1⟩]) (c + 2) (by simp; omega) (by omega) (by omega)) ?_
    rw [← snoc, List.length_cons, markLoadV]
    congr 1
    omega
theorem markLoadS_ev (a : List S38) (c : Int) (hl : a.length < 4611686018427387904) (h0 : 0 ≤ c) (hc : c + 2 * a.length < 4611686018427387904) : Ev (fun k => laws_markLoadS.f k a c) (c + 2 * a.length, markLoadV c a.length) := by
  unfold laws_markLoadS.f
  exact markLoadS_l0 a [] c hl h0 hc
theorem rdl_Load_mid (p : List S78) (x : S78) (r : List S78) : rd_T78 (p ++ x :: r) (p.length : Int) = x := getD_mid p x r z78
def toLoadV (x : S78) : S38 := ⟨x.f0, x.f1⟩
theorem toLoad_ev (x : S78) : laws_toLoad.f x.f0 x.f1 = some (x.f0, x.f1) := rfl
theorem toLoadS_l0 : ∀ (a p : List S78) (t : List S38), t.length = a.length → (p ++ a).length < 4611686018427387904 →
    Ev (fun k => laws_toLoadS.l0 k (p ++ a) (p.map toLoadV ++ t) (p.length : Int)) ((p ++ a).map toLoadV) := by
  intro a
  induction a with
  | nil =>
    intro p t ht hl
    obtain rfl : t = [] := List.eq_nil_of_length_eq_zero ht
    exact Ev.step (fun k => rfl) (Ev.neg (len_end p) (Ev.some' (by simp)))
  | cons x a ih =>
    intro p t ht hl
    match t, ht with
    | y :: t, ht =>
      have hl' : (p ++ x :: a).length < 4611686018427387904 := hl
      rw [List.length_append, List.length_cons] at hl'
      refine Ev.step (fun k => rfl) (Ev.pos (len_lt p x a) (Ev.pos (by omega) ?_))
      rw [rdl_Load_mid]
      refine Ev.ret (toLoad_ev x) (Ev.pos (by simp; omega) ?_)
      have hs : (p.map toLoadV ++ y :: t).set (p.length : Int).toNat ⟨x.f0, x.f1⟩ = p.map toLoadV ++ toLoadV x :: t := by
        rw [show (p.length : Int) = ((p.map toLoadV).length : Int) by simp]
        exact set_mid _ _ _ _
      rw [hs, w64 (by omega) (by omega), ← len_snoc p x, snoc p x a, snoc _ (toLoadV x) t]
      rw [show p.map toLoadV ++ [toLoadV x] = (p ++ [x]).map toLoadV by simp]
      exact ih (p ++ [x]) t (by simpa using ht) (by rw [← snoc]; exact hl)
theorem toLoadS_ev (a : List S78) (hl : a.length ≤ 1048576) : Ev (fun k => laws_toLoadS.f k a) (a.map toLoadV) := by
  unfold laws_toLoadS.f
  refine Ev.pos (by omega) (Ev.pos (by omega) ?_)
  rw [Int.toNat_natCast]
  exact toLoadS_l0 a [] (List.replicate a.length z38) (by simp) (by simp; omega)
theorem szLoadS_ev (l : List S78) (hl : l.length ≤ 9223372036854775807) : ∃ t, laws_szLoadS.f l 1048576 = some t ∧ (t < 0 ∨ (¬ t < 0 ∧ l.length ≤ 1048576)) := by
  unfold laws_szLoadS.f
  rw [w64 (by omega) (by omega)]
  by_cases h : (1048576 : Int) - (l.length : Int) < 0
  · rw [if_pos h]; exact ⟨_, rfl, .inl (by omega)⟩
  · rw [if_neg h]; exact ⟨_, rfl, .inr ⟨by omega, by omega⟩⟩
theorem within_ev (a b c : Int) : impl_within.f a b c = some (decide (b ≤ a ∧ a ≤ c)) := by
  unfold impl_within.f
  by_cases h : a ≥ b
  · rw [if_pos h]; congr 1; rw [decide_eq_decide]; omega
  · rw [if_neg h]; congr 1; symm; rw [decide_eq_false_iff_not]; omega
theorem rdT_mid (p : List S38) (x : S38) (r : List S38) : rd_T38 (p ++ x :: r) (p.length : Int) = x := getD_mid p x r z38
/-- A load in its bounds. -/
def okL (l : S38) : Bool := decide (0 ≤ l.f0 ∧ l.f0 ≤ 1000) && decide (0 ≤ l.f1 ∧ l.f1 ≤ 1000)
theorem okL_iff (l : S38) : okL l = true ↔ (0 ≤ l.f0 ∧ l.f0 ≤ 1000) ∧ (0 ≤ l.f1 ∧ l.f1 ≤ 1000) := by
  unfold okL
  rw [Bool.and_eq_true, decide_eq_true_eq, decide_eq_true_eq]
theorem lit_ev (l : S38) : impl_FillTrucks_1.f l.f0 l.f1 = some (!okL l) := by
  unfold impl_FillTrucks_1.f okL
  simp only [within_ev, Option.bind_some]
  by_cases h : 0 ≤ l.f0 ∧ l.f0 ≤ 1000
  · rw [if_pos (by simpa using h)]; simp [h]
  · rw [if_neg (by simpa using h)]; simp [h]
theorem idx_l0 : ∀ (a p : List S38), (p ++ a).length < 4611686018427387904 →
    ∃ r, Ev (fun k => impl_Load_60.l0 k (p ++ a) ((p ++ a).length : Int) (p.length : Int)) r ∧ (decide (r ≥ 0) = !(a.all okL)) := by
  intro a
  induction a with
  | nil => intro p hl; exact ⟨-1, Ev.step (fun k => rfl) (Ev.neg (len_end p) (Ev.some' rfl)), by simp⟩
  | cons y a ih =>
    intro p hl
    have hl' := hl
    rw [List.length_append, List.length_cons] at hl'
    cases e : okL y with
    | false =>
      refine ⟨p.length, Ev.step (fun k => rfl) (Ev.pos (len_lt p y a) (Ev.pos (by omega) (Ev.pos (len_lt p y a) ?_))), ?_⟩
      · rw [rdT_mid]
        exact Ev.ret (lit_ev y) (Ev.pos (by simp [e]) (Ev.some' rfl))
      · simp [e]
    | true =>
      obtain ⟨r, hr, hd⟩ := ih (p ++ [y]) (by rw [← snoc]; exact hl)
      refine ⟨r, Ev.step (fun k => rfl) (Ev.pos (len_lt p y a) (Ev.pos (by omega) (Ev.pos (len_lt p y a) ?_))), ?_⟩
      · rw [rdT_mid]
        refine Ev.ret (lit_ev y) (Ev.neg (by simp [e]) ?_)
        rw [w64 (by omega) (by omega), ← len_snoc p y, snoc p y a]
        exact hr
      · rw [hd]; simp [e]
theorem has_ev (l : List S38) (hl : l.length < 4611686018427387904) : Ev (fun k => impl_Load_46.f k l) (!(l.all okL)) := by
  obtain ⟨r, hr, hd⟩ := idx_l0 l [] hl
  unfold impl_Load_46.f impl_Load_60.f
  exact Ev.bind hr (Ev.some' hd)
/-- One round over the loads. -/
def passV : List S38 → List Int → Int → List Int × Int × Bool
  | l :: ls, x :: xs, r => if 0 < r ∧ x < l.f0 + l.f1 then ((x + 1) :: (passV ls xs (r - 1)).1, (passV ls xs (r - 1)).2.1, true) else (x :: (passV ls xs r).1, (passV ls xs r).2.1, (passV ls xs r).2.2)
  | _, xs, r => (xs, r, false)
/-- Rounds, as long as there is room and one more was put. -/
def fillV (L : List S38) : Nat → List Int → Int → List Int
  | 0, o, _ => o
  | n + 1, o, r => if 0 < r then (if (passV L o r).2.2 = true then fillV L n (passV L o r).1 (passV L o r).2.1 else (passV L o r).1) else o
theorem passV_room : ∀ (ls : List S38) (xs : List Int) (r : Int), 0 ≤ r → 0 ≤ (passV ls xs r).2.1 ∧ (passV ls xs r).2.1 ≤ r ∧ ((passV ls xs r).2.2 = true → (passV ls xs r).2.1 < r) ∧ (passV ls xs r).1.length = xs.length := by
  intro ls
  induction ls with
  | nil => intro xs r h; cases xs <;> simp [passV, h]
  | cons l ls ih =>
    intro xs r h
    cases xs with
    | nil => simp [passV, h]
    | cons x xs =>
      rw [passV]
      split
      · rename_i hc
        obtain ⟨h1, h2, h3, h4⟩ := ih xs (r - 1) (by omega)
        exact ⟨h1, by simp only; omega, fun _ => by simp only; omega, by simp [h4]⟩
      · obtain ⟨h1, h2, h3, h4⟩ := ih xs r h
        exact ⟨h1, h2, h3, by simp [h4]⟩
theorem passV_zero : ∀ (ls : List S38) (xs : List Int), passV ls xs 0 = (xs, 0, false) := by
  intro ls
  induction ls with
  | nil => intro xs; cases xs <;> rfl
  | cons l ls ih =>
    intro xs
    cases xs with
    | nil => rfl
    | cons x xs => rw [passV, if_neg (by omega), ih]
theorem passV_nonneg : ∀ (ls : List S38) (xs : List Int) (r : Int), (∀ x ∈ xs, 0 ≤ x) → ∀ x ∈ (passV ls xs r).1, 0 ≤ x := by
  intro ls
  induction ls with
  | nil => intro xs r h; cases xs <;> (simp only [passV]; exact h)
  | cons l ls ih =>
    intro xs r h
    cases xs with
    | nil => simp [passV]
    | cons x xs =>
      have h0 := h x (by simp)
      have hs : ∀ x ∈ xs, 0 ≤ x := fun y hy => h y (by simp [hy])
      rw [passV]
      split
      · intro y hy
        rcases List.mem_cons.1 hy with rfl | hy
        · omega
        · exact ih xs _ hs y hy
      · intro y hy
        rcases List.mem_cons.1 hy with rfl | hy
        · omega
        · exact ih xs _ hs y hy
theorem impl_l2 (L : List S38) (T : Int) (v : List Int × Int × Int) : ∀ (ls : List S38) (xs : List Int) (q : List S38) (p : List Int) (r : Int) (m : Bool), q.length = p.length → ls.length = xs.length → (∀ l ∈ ls, okL l = true) → (∀ x ∈ xs, 0 ≤ x) → 0 ≤ r → r ≤ 1000000 → (q ++ ls).length < 4611686018427387904 →
    Ev (fun k => impl_FillTrucks.l1 k L (p ++ (passV ls xs r).1) T (passV ls xs r).2.1 (m || (passV ls xs r).2.2)) v →
    Ev (fun k => impl_FillTrucks.l2 k L (p ++ xs) T r m (q ++ ls) ((q ++ ls).length : Int) (q.length : Int)) v := by
  intro ls
  induction ls with
  | nil =>
    intro xs q p r m hqp hlx hok hx hr0 hr1 hl h
    obtain rfl : xs = [] := List.eq_nil_of_length_eq_zero hlx.symm
    exact Ev.step (fun k => rfl) (Ev.neg (len_end q) (by simpa [passV] using h))
  | cons l ls ih =>
    intro xs q p r m hqp hlx hok hx hr0 hr1 hl h
    match xs, hlx with
    | x :: xs, hlx =>
      have hl' := hl
      rw [List.length_append, List.length_cons] at hl'
      have hok1 := (okL_iff l).1 (hok l (by simp))
      have hx0 := hx x (by simp)
      have hnext := fun (y r' : Int) (m' : Bool) => ih xs (q ++ [l]) (p ++ [y]) r' m' (by simp [hqp]) (by simpa using hlx) (fun a ha => hok a (by simp [ha])) (fun a ha => hx a (by simp [ha]))
      refine Ev.step (fun k => rfl) (Ev.pos (len_lt q l ls) (Ev.pos (by omega) (Ev.pos (len_lt q l ls) ?_)))
      rw [rdT_mid, w64 (x := (q.length : Int) + 1) (by omega) (by omega), w64 (x := l.f0 + l.f1) (by omega) (by omega)]
      rw [passV] at h
      by_cases c1 : r > 0
      · refine Ev.pos c1 (Ev.pos (by rw [hqp]; exact len_lt p x xs) ?_)
        rw [hqp, rd_mid, set_mid, ← hqp]
        by_cases c2 : x < l.f0 + l.f1
        · rw [if_pos ⟨by omega, c2⟩] at h
          refine Ev.pos c2 ?_
          rw [w64 (by omega) (by omega), w64 (by omega) (by omega), ← len_snoc q l, snoc q l ls, snoc p (x + 1) xs]
          refine hnext (x + 1) (r - 1) true (by omega) (by omega) (by rw [← snoc]; exact hl) ?_
          simpa using h
        · rw [if_neg (by omega)] at h
          refine Ev.neg c2 ?_
          rw [← len_snoc q l, snoc q l ls, snoc p x xs]
          refine hnext x r m (by omega) (by omega) (by rw [← snoc]; exact hl) ?_
          simpa using h
      · rw [if_neg (by omega)] at h
        refine Ev.neg c1 ?_
        rw [← len_snoc q l, snoc q l ls, snoc p x xs]
        refine hnext x r m (by omega) (by omega) (by rw [← snoc]; exact hl) ?_
        simpa using h
theorem impl_l1 (L : List S38) (T : Int) (hL : L.length < 1000000) (hok : ∀ l ∈ L, okL l = true) : ∀ (n : Nat) (o : List Int) (r : Int), r.toNat < n → 0 ≤ r → r ≤ 1000000 → o.length = L.length → (∀ x ∈ o, 0 ≤ x) →
    Ev (fun k => impl_FillTrucks.l1 k L o T r true) (fillV L n o r, T, 0) := by
  intro n
  induction n with
  | zero => intro o r h; omega
  | succ n ih =>
    intro o r hn h0 h1 ho hx
    rw [fillV]
    refine Ev.via ?_ (fun k => rfl) (f := fun k => impl_FillTrucks.j2 k L o T r (decide (r > 0)))
    by_cases c : 0 < r
    · rw [show decide (r > 0) = true by simpa using c, if_pos c]
      refine Ev.via ?_ (fun k => rfl) (f := fun k => impl_FillTrucks.l2 k L o T r false L (L.length : Int) 0)
      obtain ⟨p1, p2, p3, p4⟩ := passV_room L o r h0
      refine impl_l2 L T _ L o [] [] r false rfl (by omega) hok hx h0 h1 (by simp; omega) ?_
      cases hm : (passV L o r).2.2 with
      | true =>
        rw [if_pos rfl]
        exact ih _ _ (by have := p3 hm; omega) p1 (by omega) (by simp; omega) (passV_nonneg L o r hx)
      | false =>
        rw [if_neg (by simp)]
        refine Ev.via (Ev.via (Ev.some' ?_) (fun k => rfl)) (fun k => rfl) (f := fun k => impl_FillTrucks.j2 k L ([] ++ (passV L o r).1) T (passV L o r).2.1 false)
        simp
    · rw [show decide (r > 0) = false by simpa using c, if_neg c]
      exact Ev.via (Ev.some' rfl) (fun k => rfl)
/-- All pallets. -/
def sumP : List S38 → Int
  | [] => 0
  | l :: ls => l.f0 + sumP ls
theorem sumP_bounds (ls : List S38) (h : ∀ l ∈ ls, okL l = true) : 0 ≤ sumP ls ∧ sumP ls ≤ 1000 * ls.length := by
  induction ls with
  | nil => simp [sumP]
  | cons l ls ih =>
    have h1 := (okL_iff l).1 (h l (by simp))
    have h2 := ih (fun a ha => h a (by simp [ha]))
    rw [sumP, List.length_cons]
    omega
theorem impl_l0 (L : List S38) (t : Int) (v : List Int × Int × Int) (ht : 1 ≤ t) (ht2 : t ≤ 100) : ∀ (ls q : List S38) (acc : List Int) (s : Int), (∀ l ∈ ls, okL l = true) → acc.length + ls.length < 1000 → 0 ≤ s → s + 1000 * ls.length ≤ 10000000 → (q ++ ls).length < 4611686018427387904 →
    Ev (fun k => impl_FillTrucks.l1 k L (acc ++ ls.map (·.f0)) ((s + sumP ls + t - 1) / t) ((s + sumP ls + t - 1) / t * t - (s + sumP ls)) true) v →
    Ev (fun k => impl_FillTrucks.l0 k L t acc s (q ++ ls) ((q ++ ls).length : Int) (q.length : Int)) v := by
  intro ls
  induction ls with
  | nil =>
    intro q acc s hok ha hs0 hs1 hl h
    simp only [List.length_nil] at hs1
    refine Ev.step (fun k => rfl) (Ev.neg (len_end q) (Ev.neg (by omega) ?_))
    simp only [sumP, List.map_nil, List.append_nil, Int.add_zero] at h
    have e1 := Int.mul_ediv_add_emod (s + t - 1) t
    have e2 := Int.emod_nonneg (s + t - 1) (show t ≠ 0 by omega)
    have e3 := Int.emod_lt_of_pos (s + t - 1) (show 0 < t by omega)
    rw [Int.mul_comm] at e1
    have e4 : (s + t - 1) / t ≤ s + t - 1 := Int.ediv_le_self _ (by omega)
    have e5 : 0 ≤ (s + t - 1) / t := Int.ediv_nonneg (by omega) (by omega)
    rw [w64 (x := s + t) (by omega) (by omega), w64 (x := s + t - 1) (by omega) (by omega), Int.tdiv_eq_ediv_of_nonneg (by omega), w64 (x := (s + t - 1) / t) (by omega) (by omega), w64 (x := (s + t - 1) / t * t) (by omega) (by omega), w64 (by omega) (by omega)]
    exact h
  | cons l ls ih =>
    intro q acc s hok ha hs0 hs1 hl h
    have hl' := hl
    rw [List.length_append, List.length_cons] at hl'
    rw [List.length_cons] at ha hs1
    have hok1 := (okL_iff l).1 (hok l (by simp))
    have hb := sumP_bounds ls (fun a ha => hok a (by simp [ha]))
    refine Ev.step (fun k => rfl) (Ev.pos (len_lt q l ls) (Ev.pos (by omega) (Ev.pos (len_lt q l ls) (Ev.pos (by omega) ?_))))
    rw [rdT_mid, w64 (by omega) (by omega), w64 (by omega) (by omega), ← len_snoc q l, snoc q l ls]
    refine ih (q ++ [l]) (acc ++ [l.f0]) (s + l.f0) (fun a ha => hok a (by simp [ha])) (by simp; omega) (by omega) (by omega) (by rw [← snoc]; exact hl) ?_
    simp only [sumP, List.map_cons] at h
    rw [← snoc, show s + l.f0 + sumP ls = s + (l.f0 + sumP ls) by omega]
    exact h
/-- The trucks for these loads. -/
def trucksV (L : List S38) (t : Int) : Int := (sumP L + t - 1) / t
/-- What is filled. -/
def filledV (L : List S38) (t : Int) : List Int := fillV L ((trucksV L t * t - sumP L).toNat + 1) (L.map (·.f0)) (trucksV L t * t - sumP L)
theorem trucks_bounds (L : List S38) (t : Int) (ht : 1 ≤ t) (ht2 : t ≤ 100) (hok : ∀ l ∈ L, okL l = true) (hl : L.length ≤ 1000) : 0 ≤ trucksV L t ∧ sumP L ≤ trucksV L t * t ∧ trucksV L t * t ≤ sumP L + t - 1 ∧ trucksV L t ≤ 2000000 ∧ 0 ≤ sumP L ∧ sumP L ≤ 1000000 := by
  have hb := sumP_bounds L hok
  have e1 := Int.mul_ediv_add_emod (sumP L + t - 1) t
  have e2 := Int.emod_nonneg (sumP L + t - 1) (show t ≠ 0 by omega)
  have e3 := Int.emod_lt_of_pos (sumP L + t - 1) (show 0 < t by omega)
  rw [Int.mul_comm] at e1
  have e4 : (sumP L + t - 1) / t ≤ sumP L + t - 1 := Int.ediv_le_self _ (by omega)
  have e5 : 0 ≤ (sumP L + t - 1) / t := Int.ediv_nonneg (by omega) (by omega)
  unfold trucksV
  omega
theorem map_nonneg (L : List S38) (hok : ∀ l ∈ L, okL l = true) : ∀ x ∈ L.map (·.f0), 0 ≤ x := by
  intro x hx
  obtain ⟨l, hl, rfl⟩ := List.mem_map.1 hx
  exact ((okL_iff l).1 (hok l hl)).1.1
theorem impl_loops (L : List S38) (t : Int) (ht : 1 ≤ t) (ht2 : t ≤ 100) (hl : L.length ≤ 40) (hok : ∀ l ∈ L, okL l = true) :
    Ev (fun k => impl_FillTrucks.l0 k L t [] 0 L (L.length : Int) 0) (filledV L t, trucksV L t, 0) := by
  have hb := trucks_bounds L t ht ht2 hok (by omega)
  refine impl_l0 L t _ ht ht2 L [] [] 0 hok (by simp; omega) (by omega) (by omega) (by simp; omega) ?_
  rw [Int.zero_add, List.nil_append]
  exact impl_l1 L _ (by omega) hok _ _ _ (Nat.lt_succ_self _) (by unfold trucksV at hb; omega) (by unfold trucksV at hb; omega) (by simp) (map_nonneg L hok)
/-- What both answer. -/
def fillTrucksV (L : List S38) (t : Int) : List Int × Int × Int :=
  if 4096 < L.length then ([], 0, 2) else if 40 < L.length then ([], 0, 9) else if 1 ≤ t ∧ t ≤ 100 then (if L.all okL = true then (filledV L t, trucksV L t, 0) else ([], 0, 1)) else ([], 0, 5)
theorem implFill_ev (L : List S38) (t : Int) (hl : L.length < 4611686018427387904) : Ev (fun k => impl_FillTrucks.f k L t) (fillTrucksV L t) := by
  unfold impl_FillTrucks.f impl_Load_44.f fillTrucksV
  refine Ev.ret rfl ?_
  by_cases c1 : 4096 < L.length
  · rw [if_pos c1]
    exact Ev.neg (by simp; omega) (Ev.some' rfl)
  rw [if_neg c1]
  refine Ev.pos (by simp; omega) ?_
  by_cases c2 : 40 < L.length
  · rw [if_pos c2]
    exact Ev.pos (by omega) (Ev.some' rfl)
  rw [if_neg c2]
  refine Ev.neg (by omega) (Ev.ret (within_ev _ _ _) ?_)
  by_cases c3 : 1 ≤ t ∧ t ≤ 100
  · rw [if_pos c3]
    refine Ev.pos (by simpa using c3) (Ev.bind (has_ev L hl) ?_)
    cases c4 : L.all okL with
    | true =>
      rw [if_pos rfl]
      exact Ev.neg (by simp) (impl_loops L t c3.1 c3.2 (by omega) (fun l hl => List.all_eq_true.1 c4 l hl))
    | false =>
      rw [if_neg (by simp)]
      exact Ev.pos (by simp) (Ev.some' rfl)
  · rw [if_neg c3]
    exact Ev.neg (by simpa using c3) (Ev.some' rfl)
/-! ### how evenly it is filled -/
def capL (l : S38) : Int := l.f0 + l.f1
def Level (t : Int) : List S38 → List Int → Prop
  | [], [] => True
  | l :: ls, x :: xs => x = min (capL l) (l.f0 + t) ∧ Level t ls xs
  | _, _ => False
def Half (t : Int) : List S38 → List Int → Prop
  | [], [] => True
  | l :: ls, x :: xs => (x = min (capL l) (l.f0 + t) ∨ (x = l.f0 + t + 1 ∧ x ≤ capL l)) ∧ Half t ls xs
  | _, _ => False
def AllCap : List S38 → List Int → Prop
  | [], [] => True
  | l :: ls, x :: xs => x = capL l ∧ AllCap ls xs
  | _, _ => False
def sumI : List Int → Int
  | [] => 0
  | x :: xs => x + sumI xs
theorem Level.half {t : Int} : ∀ {ls : List S38} {xs : List Int}, Level t ls xs → Half t ls xs := by
  intro ls
  induction ls with
  | nil =>
    intro xs h
    cases xs with
    | nil => trivial
    | cons => exact h.elim
  | cons l ls ih =>
    intro xs h
    cases xs with
    | nil => simp [Level] at h
    | cons x xs => exact ⟨.inl h.1, ih h.2⟩
theorem pass_level (t : Int) (ht : 0 ≤ t) : ∀ (ls : List S38) (xs : List Int) (r : Int), (∀ l ∈ ls, okL l = true) → 0 ≤ r → Level t ls xs →
    sumI (passV ls xs r).1 + (passV ls xs r).2.1 = sumI xs + r ∧ (0 < (passV ls xs r).2.1 → Level (t + 1) ls (passV ls xs r).1) ∧ Half t ls (passV ls xs r).1 ∧ ((passV ls xs r).2.2 = false → 0 < r → AllCap ls (passV ls xs r).1) := by
  intro ls
  induction ls with
  | nil => intro xs r hok hr h; cases xs <;> simp_all [Level, passV, Half, AllCap]
  | cons l ls ih =>
    intro xs r hok hr h
    cases xs with
    | nil => simp [Level] at h
    | cons x xs =>
      have hok1 := (okL_iff l).1 (hok l (by simp))
      obtain ⟨hx, hL⟩ := h
      have hokr := fun a ha => hok a (List.mem_cons_of_mem l ha)
      unfold capL at hx
      rw [passV]
      split
      · rename_i hc
        obtain ⟨i1, i2, i3, i4⟩ := ih xs (r - 1) hokr (by omega) hL
        obtain ⟨p1, p2, _, _⟩ := passV_room ls xs (r - 1) (by omega)
        refine ⟨?_, fun h0 => ⟨?_, i2 h0⟩, ⟨.inr ⟨?_, ?_⟩, i3⟩, fun h => by simp at h⟩
        · simp only [sumI]; omega
        · unfold capL; omega
        · omega
        · unfold capL; omega
      · rename_i hc
        obtain ⟨i1, i2, i3, i4⟩ := ih xs r hokr hr hL
        obtain ⟨p1, p2, _, _⟩ := passV_room ls xs r hr
        refine ⟨?_, fun h0 => ⟨?_, i2 h0⟩, ⟨.inl ?_, i3⟩, fun h h0 => ⟨?_, i4 h h0⟩⟩
        · simp only [sumI]; omega
        · have h0' : 0 < (passV ls xs r).2.1 := h0
          unfold capL; omega
        · unfold capL; omega
        · unfold capL; omega
/-- What holds when it is filled. -/
theorem fill_level (L : List S38) (hok : ∀ l ∈ L, okL l = true) : ∀ (n : Nat) (o : List Int) (r t : Int), 0 ≤ t → r.toNat < n → 0 ≤ r → Level t L o →
    ∃ t' r', 0 ≤ t' ∧ Half t' L (fillV L n o r) ∧ sumI (fillV L n o r) + r' = sumI o + r ∧ 0 ≤ r' ∧ (0 < r' → AllCap L (fillV L n o r)) := by
  intro n
  induction n with
  | zero => intro o r t h0 h; omega
  | succ n ih =>
    intro o r t h0 hn hr hL
    rw [fillV]
    by_cases c : 0 < r
    · rw [if_pos c]
      obtain ⟨p1, p2, p3, p4⟩ := passV_room L o r hr
      obtain ⟨i1, i2, i3, i4⟩ := pass_level t h0 L o r hok hr hL
      cases hm : (passV L o r).2.2 with
      | true =>
        rw [if_pos rfl]
        by_cases c2 : 0 < (passV L o r).2.1
        · obtain ⟨t', r', j0, j1, j2, j3, j4⟩ := ih (passV L o r).1 (passV L o r).2.1 (t + 1) (by omega) (by have := p3 hm; omega) p1 (i2 c2)
          exact ⟨t', r', j0, j1, by omega, j3, j4⟩
        · refine ⟨t, 0, h0, ?_, ?_, by omega, by omega⟩
          · have e : (passV L o r).2.1 = 0 := by omega
            cases n with
            | zero => exact i3
            | succ n => rw [fillV, if_neg c2]; exact i3
          · cases n with
            | zero => rw [fillV]; omega
            | succ n => rw [fillV, if_neg c2]; omega
      | false =>
        rw [if_neg (by simp)]
        exact ⟨t, (passV L o r).2.1, h0, i3, i1, p1, fun _ => i4 hm c⟩
    · rw [if_neg c]
      exact ⟨t, 0, h0, hL.half, by omega, by omega, by omega⟩
theorem level_zero : ∀ (L : List S38), (∀ l ∈ L, okL l = true) → Level 0 L (L.map (·.f0)) ∧ sumI (L.map (·.f0)) = sumP L := by
  intro L
  induction L with
  | nil => intro _; exact ⟨trivial, rfl⟩
  | cons l ls ih =>
    intro hok
    have hok1 := (okL_iff l).1 (hok l (by simp))
    obtain ⟨h1, h2⟩ := ih (fun a ha => hok a (by simp [ha]))
    refine ⟨⟨?_, h1⟩, ?_⟩
    · show l.f0 = min (capL l) (l.f0 + 0)
      unfold capL; omega
    · simp only [List.map_cons, sumI, sumP, h2]
theorem filled_level (L : List S38) (t : Int) (ht : 1 ≤ t) (ht2 : t ≤ 100) (hl : L.length ≤ 40) (hok : ∀ l ∈ L, okL l = true) :
    ∃ t' r', 0 ≤ t' ∧ 0 ≤ r' ∧ Half t' L (filledV L t) ∧ sumI (filledV L t) + r' = trucksV L t * t ∧ (0 < r' → AllCap L (filledV L t)) := by
  have hb := trucks_bounds L t ht ht2 hok (by omega)
  obtain ⟨z1, z2⟩ := level_zero L hok
  obtain ⟨t', r', j0, j1, j2, j3, j4⟩ := fill_level L hok ((trucksV L t * t - sumP L).toNat + 1) (L.map (·.f0)) (trucksV L t * t - sumP L) 0 (by omega) (by omega) (by omega) z1
  refine ⟨t', r', j0, j3, j1, ?_, j4⟩
  unfold filledV
  omega
theorem l01In_ev (a b c : Int) : spec_l01In.f a b c = some (decide (b ≤ a ∧ a ≤ c)) := by
  unfold spec_l01In.f
  by_cases h : a ≥ b
  · rw [if_pos h]; congr 1; rw [decide_eq_decide]; omega
  · rw [if_neg h]; congr 1; symm; rw [decide_eq_false_iff_not]; omega
theorem fillV_length (L : List S38) : ∀ (n : Nat) (o : List Int) (r : Int), 0 ≤ r → (fillV L n o r).length = o.length := by
  intro n
  induction n with
  | zero => intro o r h; rfl
  | succ n ih =>
    intro o r h
    obtain ⟨p1, p2, p3, p4⟩ := passV_room L o r h
    rw [fillV]
    split
    · split
      · rw [ih _ _ p1, p4]
      · exact p4
    · rfl
theorem spec_l2 (L : List S38) (T : Int) (v : List Int × Int × Int) : ∀ (ls : List S38) (xs : List Int) (q : List S38) (p : List Int) (r : Int) (m : Bool), L = q ++ ls → q.length = p.length → ls.length = xs.length → (∀ l ∈ ls, okL l = true) → (∀ x ∈ xs, 0 ≤ x) → 0 ≤ r → r ≤ 1000000 → (p ++ xs).length < 1000000 →
    Ev (fun k => spec_FillTrucks.l1 k L (p ++ (passV ls xs r).1) T (passV ls xs r).2.1 (m || (passV ls xs r).2.2)) v →
    Ev (fun k => spec_FillTrucks.l2 k L (p ++ xs) T r m (p.length : Int)) v := by
  intro ls
  induction ls with
  | nil =>
    intro xs q p r m hL hqp hlx hok hx hr0 hr1 hl h
    obtain rfl : xs = [] := List.eq_nil_of_length_eq_zero hlx.symm
    have h' : Ev (fun k => spec_FillTrucks.l1 k L (p ++ []) T r m) v := by simpa [passV] using h
    exact Ev.step (fun k => rfl) (Ev.neg (len_end p) (Ev.via h' (fun k => rfl)))
  | cons l ls ih =>
    intro xs q p r m hL hqp hlx hok hx hr0 hr1 hl h
    match xs, hlx with
    | x :: xs, hlx =>
      have hl' := hl
      rw [List.length_append, List.length_cons] at hl'
      have hok1 := (okL_iff l).1 (hok l (by simp))
      have hx0 := hx x (by simp)
      have hnext := fun (y r' : Int) (m' : Bool) => ih xs (q ++ [l]) (p ++ [y]) r' m' (by rw [hL, snoc]) (by simp [hqp]) (by simpa using hlx) (fun a ha => hok a (by simp [ha])) (fun a ha => hx a (by simp [ha]))
      refine Ev.step (fun k => rfl) (Ev.pos (len_lt p x xs) ?_)
      by_cases c1 : r > 0
      · rw [passV] at h
        rw [decide_eq_true c1]
        have hr : rd_T38 L (p.length : Int) = l := by rw [← hqp, hL]; exact rdT_mid q l ls
        have hlt : (p.length : Int) < (L.length : Int) := by rw [← hqp, hL]; exact len_lt q l ls
        refine Ev.step (fun k => rfl) (Ev.pos (len_lt p x xs) (Ev.pos hlt ?_))
        rw [hr, rd_mid, set_mid, w64 (x := (p.length : Int) + 1) (by omega) (by omega), w64 (x := l.f0 + l.f1) (by omega) (by omega)]
        by_cases c2 : x < l.f0 + l.f1
        · rw [if_pos ⟨by omega, c2⟩] at h
          refine Ev.pos c2 ?_
          rw [w64 (by omega) (by omega), w64 (by omega) (by omega), ← len_snoc p (x + 1), snoc p (x + 1) xs]
          refine hnext (x + 1) (r - 1) true (by omega) (by omega) (by rw [← snoc]; simpa using hl) ?_
          simpa using h
        · rw [if_neg (by omega)] at h
          refine Ev.neg c2 ?_
          rw [← len_snoc p x, snoc p x xs]
          refine hnext x r m (by omega) (by omega) (by rw [← snoc]; exact hl) ?_
          simpa using h
      · obtain rfl : r = 0 := by omega
        rw [passV_zero, Bool.or_false] at h
        rw [decide_eq_false c1]
        exact Ev.via h (fun k => rfl)
theorem spec_l1 (L : List S38) (T : Int) (hL : L.length < 100000) (hok : ∀ l ∈ L, okL l = true) : ∀ (n : Nat) (o : List Int) (r : Int), r.toNat < n → 0 ≤ r → r ≤ 1000000 → o.length = L.length → (∀ x ∈ o, 0 ≤ x) →
    Ev (fun k => spec_FillTrucks.l1 k L o T r true) (fillV L n o r, T, 0) := by
  intro n
  induction n with
  | zero => intro o r h; omega
  | succ n ih =>
    intro o r hn h0 h1 ho hx
    rw [fillV]
    refine Ev.via ?_ (fun k => rfl) (f := fun k => spec_FillTrucks.j2 k L o T r (decide (r > 0)))
    by_cases c : 0 < r
    · rw [show decide (r > 0) = true by simpa using c, if_pos c]
      refine Ev.via ?_ (fun k => rfl) (f := fun k => spec_FillTrucks.l2 k L o T r false 0)
      obtain ⟨p1, p2, p3, p4⟩ := passV_room L o r h0
      refine spec_l2 L T _ L o [] [] r false rfl rfl (by omega) hok hx h0 h1 (by simp; omega) ?_
      cases hm : (passV L o r).2.2 with
      | true =>
        rw [if_pos rfl]
        exact ih _ _ (by have := p3 hm; omega) p1 (by omega) (by simp; omega) (passV_nonneg L o r hx)
      | false =>
        rw [if_neg (by simp)]
        refine Ev.via (Ev.via (Ev.some' ?_) (fun k => rfl)) (fun k => rfl) (f := fun k => spec_FillTrucks.j2 k L ([] ++ (passV L o r).1) T (passV L o r).2.1 false)
        simp
    · rw [show decide (r > 0) = false by simpa using c, if_neg c]
      exact Ev.via (Ev.some' rfl) (fun k => rfl)
theorem spec_l0 (t : Int) (v : List Int × Int × Int) (ht : 1 ≤ t) (ht2 : t ≤ 100) : ∀ (ls q : List S38) (acc : List Int) (s : Int), acc.length = q.length → q.length + ls.length ≤ 40 → 0 ≤ s → s ≤ 1000 * q.length →
    (ls.all okL = true → Ev (fun k => spec_FillTrucks.l1 k (q ++ ls) (acc ++ ls.map (·.f0)) ((s + sumP ls + t - 1) / t) ((s + sumP ls + t - 1) / t * t - (s + sumP ls)) true) v) →
    (ls.all okL = false → v = ([], 0, 1)) →
    Ev (fun k => spec_FillTrucks.l0 k (q ++ ls) t acc s (q.length : Int)) v := by
  intro ls
  induction ls with
  | nil =>
    intro q acc s ha hl hs0 hs1 h _
    have h := h rfl
    simp only [List.length_nil] at hl
    refine Ev.step (fun k => rfl) (Ev.neg (len_end q) (Ev.neg (by omega) ?_))
    simp only [sumP, List.map_nil, List.append_nil, Int.add_zero] at h
    have e1 := Int.mul_ediv_add_emod (s + t - 1) t
    have e2 := Int.emod_nonneg (s + t - 1) (show t ≠ 0 by omega)
    have e3 := Int.emod_lt_of_pos (s + t - 1) (show 0 < t by omega)
    rw [Int.mul_comm] at e1
    have e4 : (s + t - 1) / t ≤ s + t - 1 := Int.ediv_le_self _ (by omega)
    have e5 : 0 ≤ (s + t - 1) / t := Int.ediv_nonneg (by omega) (by omega)
    rw [w64 (x := s + t) (by omega) (by omega), w64 (x := s + t - 1) (by omega) (by omega), Int.tdiv_eq_ediv_of_nonneg (by omega), w64 (x := (s + t - 1) / t) (by omega) (by omega), w64 (x := (s + t - 1) / t * t) (by omega) (by omega), w64 (by omega) (by omega), List.append_nil]
    exact h
  | cons l ls ih =>
    intro q acc s ha hl hs0 hs1 h hbad
    rw [List.length_cons] at hl
    refine Ev.step (fun k => rfl) (Ev.pos (len_lt q l ls) (Ev.pos (by omega) ?_))
    rw [rdT_mid]
    refine Ev.ret (l01In_ev _ _ _) ?_
    by_cases c1 : 0 ≤ l.f0 ∧ l.f0 ≤ 1000
    · refine Ev.pos (by simpa using c1) (Ev.ret (l01In_ev _ _ _) ?_)
      by_cases c2 : 0 ≤ l.f1 ∧ l.f1 ≤ 1000
      · have e : okL l = true := (okL_iff l).2 ⟨c1, c2⟩
        rw [List.all_cons, e, Bool.true_and] at h hbad
        refine Ev.pos (by simpa using c2) (Ev.pos (by omega) ?_)
        rw [w64 (by omega) (by omega), w64 (by omega) (by omega), ← len_snoc q l, snoc q l ls]
        refine ih (q ++ [l]) (acc ++ [l.f0]) (s + l.f0) (by simp [ha]) (by simp; omega) (by omega) (by simp; omega) (fun hall => ?_) hbad
        have h := h hall
        simp only [sumP, List.map_cons] at h
        rw [← snoc, show acc ++ [l.f0] ++ ls.map (·.f0) = acc ++ l.f0 :: ls.map (·.f0) by simp, show s + l.f0 + sumP ls = s + (l.f0 + sumP ls) by omega]
        exact h
      · have e : okL l = false := by
          cases hh : okL l with
          | false => rfl
          | true => exact absurd ((okL_iff l).1 hh).2 c2
        rw [List.all_cons, e, Bool.false_and] at hbad
        rw [hbad rfl]
        exact Ev.neg (by simpa using c2) (Ev.some' rfl)
    · have e : okL l = false := by
        cases hh : okL l with
        | false => rfl
        | true => exact absurd ((okL_iff l).1 hh).1 c1
      rw [List.all_cons, e, Bool.false_and] at hbad
      rw [hbad rfl]
      exact Ev.neg (by simpa using c1) (Ev.some' rfl)
theorem specFill_ev (L : List S38) (t : Int) : Ev (fun k => spec_FillTrucks.f k L t) (fillTrucksV L t) := by
  unfold spec_FillTrucks.f fillTrucksV
  by_cases c1 : 4096 < L.length
  · rw [if_pos c1]
    exact Ev.pos (by omega) (Ev.some' rfl)
  rw [if_neg c1]
  refine Ev.neg (by omega) ?_
  by_cases c2 : 40 < L.length
  · rw [if_pos c2]
    exact Ev.pos (by omega) (Ev.some' rfl)
  rw [if_neg c2]
  refine Ev.neg (by omega) (Ev.ret (l01In_ev _ _ _) ?_)
  by_cases c3 : 1 ≤ t ∧ t ≤ 100
  · rw [if_pos c3]
    refine Ev.pos (by simpa using c3) ?_
    refine spec_l0 t _ c3.1 c3.2 L [] [] 0 rfl (by simp; omega) (by omega) (by simp) (fun hall => ?_) (fun hall => by rw [if_neg (by simp [hall])])
    have hok := fun l hl => List.all_eq_true.1 hall l hl
    have hb := trucks_bounds L t c3.1 c3.2 hok (by omega)
    rw [if_pos hall, Int.zero_add, List.nil_append, List.nil_append]
    exact spec_l1 L _ (by omega) hok _ _ _ (Nat.lt_succ_self _) (by unfold trucksV at hb; omega) (by unfold trucksV at hb; omega) (by simp) (map_nonneg L hok)
  · rw [if_neg c3]
    exact Ev.neg (by simpa using c3) (Ev.some' rfl)
theorem fillTrucksV_length (L : List S38) (t : Int) : (fillTrucksV L t).1.length ≤ 40 := by
  unfold fillTrucksV
  split
  · simp
  split
  · simp
  split
  · split
    · rename_i h2 h3 h4
      have hok := fun l hl => List.all_eq_true.1 h4 l hl
      have hb := trucks_bounds L t h3.1 h3.2 hok (by omega)
      simp only [filledV]
      rw [fillV_length _ _ _ _ (by omega)]
      simp; omega
    · simp
  · simp
theorem FnExactFillTrucks : laws_FnExactFillTrucks.Pure := by
  intro l a hl _
  refine Ev.rounds (?_ : Ev (fun k => laws_FnExactFillTrucks.f k l a) true)
  unfold laws_FnExactFillTrucks.f
  obtain ⟨t, ht, h⟩ := szLoadS_ev l hl.1
  refine Ev.ret ht ?_
  rcases h with h | ⟨h, h2⟩
  · exact Ev.pos h (Ev.some' rfl)
  refine Ev.neg h ?_
  have tR := toLoadS_ev l h2
  generalize hL : l.map toLoadV = L at tR
  have hlen : L.length = l.length := by rw [← hL]; simp
  have eL := eqLoadS_ev L (by omega)
  have mL := markLoadS_ev L 1 (by omega) (by omega) (by omega)
  have sp := specFill_ev L a
  have im := implFill_ev L a (by omega)
  have hn := fillTrucksV_length L a
  generalize fillTrucksV L a = v at sp im hn
  obtain ⟨o, u, c⟩ := v
  have eq := eqIntS_ev o o (by simp only at hn; omega)
  have mo := markIntS_ev o 1 (by simp only at hn; omega) (by omega) (by simp only at hn; omega)
  have he := heldIntS_ev o.length 1 (by omega) (by simp only at hn; omega)
  repeat' (first
    | exact Ev.some' rfl
    | with_reducible assumption
    | (with_reducible refine Ev.bind (by with_reducible assumption) ?_)
    | (with_reducible refine Ev.ret (by with_reducible assumption) ?_)
    | (refine Ev.pos (by first | with_reducible rfl | with_reducible assumption | omega | (simp; done) | (simp; omega)) ?_)
    | (refine Ev.neg (by first | with_reducible assumption | omega | (simp; done) | (simp; omega)) ?_)
    | (refine Ev.up1 ?_; simp only [laws_FnExactFillTrucks.j0, laws_FnExactFillTrucks.j1, laws_FnExactFillTrucks.j2]))

end Go.Proofs.Ythhdcjdlcfbkdaa.Pure
