/- Of a drawn right week and holidays the program's next day is the first of its days, and the days of two stretches are those of both: the law's plain statement, with no condition. -/
import Derived.Test.YthhdcjdlcfbkdaaXFnDaysx4
import Derived.Test.YthhdcjdlcfbkdaaAx
import Derived.Test.YthhdcjdlcfbkdaaIdx
namespace Go.Proofs.Ythhdcjdlcfbkdaa.Pure
open Go.RowKit Go.Proofs.Ythhdcjdlcfbkdaa.XFnDays Go.Proofs.YthhdcjdlcfbkdaaW.PrintWords Go.Proofs.YthhdcjdlcfbkdaaW.PrintLast
open Go.Proofs.YthhdcjdlcfbkdaaW.Ax Go.Proofs.YthhdcjdlcfbkdaaW.Idx
set_option linter.unusedVariables false
set_option linter.unusedSimpArgs false
/-- In bounds, and each above the one ahead. -/
def risP (lo hi : Int) : Option Int → List Int → Bool
  | _, [] => true
  | o, x :: a => decide (lo ≤ x ∧ x ≤ hi) && ((match o with | none => true | some y => decide (y < x)) && risP lo hi (some x) a)
theorem rd_prev (q : List Int) (y : Int) (r : List Int) : rd ((q ++ [y]) ++ r) (((q ++ [y]).length : Int) - 1) = y := by
  rw [len_snoc, show (q.length : Int) + 1 - 1 = (q.length : Int) by omega, ← snoc]
  exact rd_mid q y r
theorem within_ev (a b c : Int) : impl_within.f a b c = some (decide (b ≤ a ∧ a ≤ c)) := by
  unfold impl_within.f
  by_cases h : a ≥ b
  · rw [if_pos h]; congr 1; rw [decide_eq_decide]; omega
  · rw [if_neg h]; congr 1; symm; rw [decide_eq_false_iff_not]; omega
theorem isRising_l0 (lo hi : Int) : ∀ (a p : List Int), (p ++ a).length < 4611686018427387904 →
    Ev (fun k => impl_isRising.l0 k (p ++ a) lo hi (p ++ a) ((p ++ a).length : Int) (p.length : Int)) (risP lo hi p.getLast? a) := by
  intro a
  induction a with
  | nil => intro p hl; exact Ev.step (fun k => rfl) (Ev.neg (len_end p) (Ev.some' rfl))
  | cons x a ih =>
    intro p hl
    have hl' := hl
    rw [List.length_append, List.length_cons] at hl'
    have hnext := ih (p ++ [x]) (by rw [← snoc]; exact hl)
    rw [← snoc, len_snoc, List.getLast?_concat] at hnext
    refine Ev.step (fun k => rfl) (Ev.pos (len_lt p x a) (Ev.pos (by omega) (Ev.pos (len_lt p x a) (Ev.ret (within_ev _ _ _) ?_))))
    rw [rd_mid p x a]
    by_cases hin : lo ≤ x ∧ x ≤ hi
    · refine Ev.pos (by simpa using hin) ?_
      rcases List.eq_nil_or_concat p with rfl | ⟨q, y, rfl⟩
      · refine Ev.neg (by simp) ?_
        rw [w64 (by simp) (by simp)]
        refine Ev.eq hnext ?_
        simp [risP, hin]
      · rw [List.concat_eq_append] at *
        have hlen : ((q ++ [y]).length : Int) = (q.length : Int) + 1 := len_snoc q y
        refine Ev.pos (by omega) ?_
        rw [w64 (x := ((q ++ [y]).length : Int) - 1) (by omega) (by omega), rd_prev]
        refine Ev.pos (by omega) (Ev.pos (by simp only [List.length_append, List.length_cons, List.length_nil]; omega) ?_)
        by_cases hyx : y ≥ x
        · refine Ev.pos hyx (Ev.some' ?_)
          simp [risP, show ¬ y < x by omega]
        · refine Ev.neg hyx ?_
          rw [w64 (by omega) (by omega)]
          refine Ev.eq hnext ?_
          simp [risP, hin, show y < x by omega]
    · refine Ev.neg (by simpa using hin) (Ev.some' ?_)
      simp [risP, hin]
theorem isRising_ev (lo hi : Int) (l : List Int) (hl : l.length < 4611686018427387904) : Ev (fun k => impl_isRising.f k l lo hi) (risP lo hi none l) := by
  unfold impl_isRising.f
  exact isRising_l0 lo hi l [] hl
/-- A week and holidays are right. -/
def daysB (w : List Bool) (h : List Int) : Bool := decide (w.length = 7) && (decide (h.length ≤ 60) && risP 0 100000 none h)
theorem areDays_ev (w : List Bool) (h : List Int) (hl : h.length < 4611686018427387904) : Ev (fun k => impl_areDays.f k w h) (daysB w h) := by
  unfold impl_areDays.f daysB
  by_cases c : (w.length : Int) = 7
  · refine Ev.pos c ?_
    by_cases d : h.length ≤ 60
    · refine Ev.pos (by omega) (Ev.bind (isRising_ev 0 100000 h hl) (Ev.some' ?_))
      simp [show w.length = 7 by omega, d]
    · refine Ev.neg (by omega) (Ev.some' ?_)
      simp [d]
  · refine Ev.neg c (Ev.some' ?_)
    simp [show ¬ w.length = 7 by omega]
/-- A day is open. -/
def openB (w : List Bool) (h : List Int) (d : Int) : Bool := rdOf false w (d % 7) && !(h.contains d)
theorem Index_l0 (x : Int) : ∀ (a p : List Int), (p ++ a).length < 4611686018427387904 →
    ∃ r, Ev (fun k => slices_Index_int_int.l0 k (p ++ a) x ((p ++ a).length : Int) (p.length : Int)) r ∧ (decide (r ≥ 0) = a.contains x) := by
  intro a
  induction a with
  | nil => intro p hl; exact ⟨-1, Ev.step (fun k => rfl) (Ev.neg (len_end p) (Ev.some' rfl)), by simp⟩
  | cons y a ih =>
    intro p hl
    have hl' := hl
    rw [List.length_append, List.length_cons] at hl'
    by_cases e : x = y
    · refine ⟨p.length, Ev.step (fun k => rfl) (Ev.pos (len_lt p y a) (Ev.pos (by omega) (Ev.pos (len_lt p y a) (Ev.pos (by rw [rd_mid]; exact e) (Ev.some' rfl))))), ?_⟩
      simp [e]
    · obtain ⟨r, hr, hd⟩ := ih (p ++ [y]) (by rw [← snoc]; exact hl)
      refine ⟨r, Ev.step (fun k => rfl) (Ev.pos (len_lt p y a) (Ev.pos (by omega) (Ev.pos (len_lt p y a) (Ev.neg (by rw [rd_mid]; exact e) ?_)))), ?_⟩
      · rw [w64 (by omega) (by omega), ← len_snoc p y, snoc p y a]
        exact hr
      · rw [hd]
        simp [e]
theorem Contains_ev (x : Int) (h : List Int) (hl : h.length < 4611686018427387904) : Ev (fun k => slices_Contains_int_int.f k h x) (h.contains x) := by
  obtain ⟨r, hr, hd⟩ := Index_l0 x h [] hl
  unfold slices_Contains_int_int.f slices_Index_int_int.f
  exact Ev.bind hr (Ev.some' hd)
theorem isOpen_ev (w : List Bool) (h : List Int) (d : Int) (hw : w.length = 7) (hl : h.length < 4611686018427387904) (h0 : 0 ≤ d) : Ev (fun k => impl_isOpen.f k w h d) (openB w h d) := by
  unfold impl_isOpen.f openB
  rw [Int.tmod_eq_emod_of_nonneg h0]
  refine Ev.pos (by omega) (Ev.pos (by omega) ?_)
  cases hc : rdOf false w (d % 7) with
  | true => exact Ev.pos (by rfl) (Ev.bind (Contains_ev d h hl) (Ev.some' (by simp)))
  | false => exact Ev.neg (by simp) (Ev.some' (by simp))
/-- The open days of n days from d on. -/
def delV (w : List Bool) (h : List Int) : Nat → Int → List Int
  | 0, _ => []
  | n + 1, d => if openB w h d = true then d :: delV w h n (d + 1) else delV w h n (d + 1)
theorem delV_length (w : List Bool) (h : List Int) (n : Nat) : ∀ d, (delV w h n d).length ≤ n := by
  induction n with
  | zero => intro d; simp [delV]
  | succ n ih => intro d; have := ih (d + 1); rw [delV]; split <;> simp <;> omega
theorem implDel_l0 (w : List Bool) (h : List Int) (e : Int) (hw : w.length = 7) (hl : h.length < 4611686018427387904) (h1 : e ≤ 4611686018427387904) : ∀ (n : Nat) (d : Int) (acc : List Int), 0 ≤ d → d + n = e → acc.length + n < 1000000 →
    Ev (fun k => impl_DeliveryDays.l0 k w h e acc d) (acc ++ delV w h n d, 0) := by
  intro n
  induction n with
  | zero =>
    intro d acc hd hn ha
    exact Ev.step (fun k => rfl) (Ev.neg (show ¬ d < e by omega) (Ev.some' (by simp [delV])))
  | succ n ih =>
    intro d acc hd hn ha
    refine Ev.step (fun k => rfl) (Ev.pos (show d < e by omega) (Ev.bind (isOpen_ev w h d hw hl (by omega)) ?_))
    rw [delV]
    by_cases c : openB w h d = true
    · rw [if_pos c]
      refine Ev.pos c (Ev.pos (by omega) ?_)
      rw [w64 (by omega) (by omega)]
      exact Ev.eq (ih (d + 1) (acc ++ [d]) (by omega) (by omega) (by simp; omega)) (by simp)
    · rw [if_neg c]
      refine Ev.neg c ?_
      rw [w64 (by omega) (by omega)]
      exact ih (d + 1) acc (by omega) (by omega) (by omega)
/-- What both answer. -/
def delivV (w : List Bool) (h : List Int) (a b : Int) : List Int × Int :=
  if 4096 < w.length ∨ 4096 < h.length then ([], 2) else if daysB w h = true then (if 0 ≤ a ∧ a ≤ b ∧ b ≤ 100000 ∧ b - a ≤ 400 then (delV w h (b - a).toNat a, 0) else ([], 5)) else ([], 1)
theorem delivV_length (w : List Bool) (h : List Int) (a b : Int) : (delivV w h a b).1.length ≤ 400 := by
  unfold delivV
  split
  · simp
  · split
    · split
      · have := delV_length w h (b - a).toNat a
        simp only
        omega
      · simp
    · simp
theorem daysB_seven {w : List Bool} {h : List Int} (d : daysB w h = true) : w.length = 7 := by
  unfold daysB at d
  simp only [Bool.and_eq_true, decide_eq_true_eq] at d
  exact d.1
theorem implDel_ev (w : List Bool) (h : List Int) (a b : Int) (hl : h.length < 4611686018427387904) (ha : -9223372036854775808 ≤ a ∧ a ≤ 9223372036854775807) : Ev (fun k => impl_DeliveryDays.f k w h a b) (delivV w h a b) := by
  have main : w.length ≤ 4096 → h.length ≤ 4096 → Ev (fun k => impl_DeliveryDays.j0 k w h a b false) (delivV w h a b) := by
    intro c1 c2
    unfold delivV
    rw [if_neg (by omega)]
    refine Ev.via (Ev.bind (areDays_ev w h hl) ?_) (fun k => rfl)
    by_cases d : daysB w h = true
    · rw [if_pos d]
      refine Ev.pos d ?_
      by_cases e1 : a < 0
      · rw [if_neg (by omega)]
        exact Ev.pos e1 (Ev.some' rfl)
      refine Ev.neg e1 ?_
      by_cases e2 : a > b
      · rw [if_neg (by omega)]
        exact Ev.pos e2 (Ev.some' rfl)
      refine Ev.neg e2 ?_
      by_cases e3 : b > 100000
      · rw [if_neg (by omega)]
        exact Ev.pos e3 (Ev.some' rfl)
      refine Ev.neg e3 ?_
      rw [w64 (by omega) (by omega)]
      by_cases e4 : b - a > 400
      · rw [if_neg (by omega)]
        exact Ev.pos e4 (Ev.some' rfl)
      · rw [if_pos (by omega)]
        exact Ev.neg e4 (Ev.eq (implDel_l0 w h b (daysB_seven d) hl (by omega) (b - a).toNat a [] (by omega) (by omega) (by simp; omega)) (by simp))
    · rw [if_neg d]
      exact Ev.neg d (Ev.some' rfl)
  unfold impl_DeliveryDays.f impl_isList_bool.f impl_isList_int.f
  refine Ev.ret rfl ?_
  by_cases c1 : w.length ≤ 4096
  · refine Ev.pos (by simp; omega) (Ev.ret rfl ?_)
    by_cases c2 : h.length ≤ 4096
    · rw [show (!decide ((h.length : Int) ≤ 4096)) = false by simp; omega]
      exact main c1 c2
    · rw [show (!decide ((h.length : Int) ≤ 4096)) = true by simp; omega]
      refine Ev.via (Ev.some' ?_) (fun k => rfl)
      unfold delivV; rw [if_pos (by omega)]
  · refine Ev.neg (by simp; omega) (Ev.via (Ev.some' ?_) (fun k => rfl))
    unfold delivV; rw [if_pos (by omega)]
/-- The first open day of n days from d on. -/
def nxtV (w : List Bool) (h : List Int) : Nat → Int → Int × Int
  | 0, _ => (0, 8)
  | n + 1, d => if openB w h d = true then (d, 0) else nxtV w h n (d + 1)
theorem implNext_l0 (w : List Bool) (h : List Int) (a : Int) (hw : w.length = 7) (hl : h.length < 4611686018427387904) (h0 : 0 ≤ a) (h1 : a ≤ 100000) : ∀ (n : Nat) (i : Int), 0 ≤ i → i + n = 400 →
    Ev (fun k => impl_NextDay.l0 k w h a i) (nxtV w h n (a + i)) := by
  intro n
  induction n with
  | zero =>
    intro i hd hn
    exact Ev.step (fun k => rfl) (Ev.neg (by omega) (Ev.some' rfl))
  | succ n ih =>
    intro i hd hn
    refine Ev.step (fun k => rfl) (Ev.pos (by omega) ?_)
    rw [w64 (x := a + i) (by omega) (by omega)]
    refine Ev.bind (isOpen_ev w h (a + i) hw hl (by omega)) ?_
    rw [nxtV]
    by_cases c : openB w h (a + i) = true
    · rw [if_pos c]; exact Ev.pos c (Ev.some' rfl)
    · rw [if_neg c]
      refine Ev.neg c ?_
      rw [w64 (by omega) (by omega), show a + i + 1 = a + (i + 1) by omega]
      exact ih (i + 1) (by omega) (by omega)
/-- What both answer. -/
def nextV (w : List Bool) (h : List Int) (a : Int) : Int × Int :=
  if 4096 < w.length ∨ 4096 < h.length then (0, 2) else if daysB w h = true then (if 0 ≤ a ∧ a ≤ 100000 then nxtV w h 400 a else (0, 5)) else (0, 1)
theorem implNext_ev (w : List Bool) (h : List Int) (a : Int) (hl : h.length < 4611686018427387904) : Ev (fun k => impl_NextDay.f k w h a) (nextV w h a) := by
  have main : w.length ≤ 4096 → h.length ≤ 4096 → Ev (fun k => impl_NextDay.j0 k w h a false) (nextV w h a) := by
    intro c1 c2
    unfold nextV
    rw [if_neg (by omega)]
    refine Ev.via (Ev.bind (areDays_ev w h hl) ?_) (fun k => rfl)
    by_cases d : daysB w h = true
    · rw [if_pos d]
      refine Ev.pos d (Ev.ret (within_ev _ _ _) ?_)
      have hw : w.length = 7 := by
        unfold daysB at d
        simp only [Bool.and_eq_true, decide_eq_true_eq] at d
        exact d.1
      by_cases e : 0 ≤ a ∧ a ≤ 100000
      · rw [if_pos e]
        refine Ev.pos (by simpa using e) (Ev.eq (implNext_l0 w h a hw hl e.1 e.2 400 0 (by omega) (by omega)) (by rw [Int.add_zero]))
      · rw [if_neg e]
        exact Ev.neg (by simpa using e) (Ev.some' rfl)
    · rw [if_neg d]
      exact Ev.neg d (Ev.some' rfl)
  unfold impl_NextDay.f impl_isList_bool.f impl_isList_int.f
  refine Ev.ret rfl ?_
  by_cases c1 : w.length ≤ 4096
  · refine Ev.pos (by simp; omega) (Ev.ret rfl ?_)
    by_cases c2 : h.length ≤ 4096
    · rw [show (!decide ((h.length : Int) ≤ 4096)) = false by simp; omega]
      exact main c1 c2
    · rw [show (!decide ((h.length : Int) ≤ 4096)) = true by simp; omega]
      refine Ev.via (Ev.some' ?_) (fun k => rfl)
      unfold nextV; rw [if_pos (by omega)]
  · refine Ev.neg (by simp; omega) (Ev.via (Ev.some' ?_) (fun k => rfl))
    unfold nextV; rw [if_pos (by omega)]
/-- A source of draws: its code's bytes, its place (at most N), its seed. -/
def Srd (c : List Int) (a s N : Int) : Prop := (∀ x ∈ c, 0 ≤ x ∧ x ≤ 255) ∧ 0 ≤ a ∧ a ≤ N ∧ 0 ≤ s ∧ s ≤ 2147483647
theorem Srd.mono {c : List Int} {a s N M : Int} (h : Srd c a s N) (hM : N ≤ M) : Srd c a s M := ⟨h.1, h.2.1, by have := h.2.2.1; omega, h.2.2.2⟩
theorem rd_byte {c : List Int} (hc : ∀ x ∈ c, 0 ≤ x ∧ x ≤ 255) (i : Int) : 0 ≤ rd c i ∧ rd c i ≤ 255 := by
  unfold rd
  rw [List.getD_eq_getElem?_getD]
  cases h : c[i.toNat]? with
  | none => simp
  | some x => simpa using hc x (List.mem_of_getElem? h)
theorem byte_ok {c : List Int} {a s N : Int} (h : Srd c a s N) (hN : N ≤ 1000000000) : ∃ v s', spec_l00Src_byte.f c a s = some (v, a + 1, s') ∧ 0 ≤ v ∧ v ≤ 255 ∧ Srd c (a + 1) s' (N + 1) := by
  obtain ⟨hc, h0, h1, h2, h3⟩ := h
  unfold spec_l00Src_byte.f
  rw [w64 (x := a + 1) (by omega) (by omega), w64 (x := a + 1 - 1) (by omega) (by omega), show a + 1 - 1 = a by omega]
  have hb := rd_byte hc a
  generalize rd c a = b at hb
  rw [w64 (x := b) (by omega) (by omega), w64 (x := s * 31) (by omega) (by omega), w64 (x := s * 31 + b) (by omega) (by omega), w64 (x := s * 31 + b + 7) (by omega) (by omega), Int.tmod_eq_emod_of_nonneg (show 0 ≤ s * 31 + b + 7 by omega)]
  rw [w64 (x := s * 1103515245) (by omega) (by omega), w64 (x := s * 1103515245 + 12345) (by omega) (by omega), Int.tmod_eq_emod_of_nonneg (show 0 ≤ s * 1103515245 + 12345 by omega)]
  have e := Int.emod_nonneg (s * 1103515245 + 12345) (show (2147483648 : Int) ≠ 0 by decide)
  have e2 := Int.emod_lt_of_pos (s * 1103515245 + 12345) (show (0 : Int) < 2147483648 by decide)
  have f := Int.emod_nonneg (s * 31 + b + 7) (show (2147483648 : Int) ≠ 0 by decide)
  have f2 := Int.emod_lt_of_pos (s * 31 + b + 7) (show (0 : Int) < 2147483648 by decide)
  generalize (s * 1103515245 + 12345) % 2147483648 = t at e e2 ⊢
  generalize (s * 31 + b + 7) % 2147483648 = u at f f2 ⊢
  by_cases c1 : a + 1 ≤ (c.length : Int)
  · rw [if_pos c1, if_pos h0, if_pos (by omega)]
    exact ⟨_, _, rfl, hb.1, hb.2, hc, by omega, by omega, by omega, by omega⟩
  · rw [if_neg c1]
    by_cases c2 : a + 1 > 3000
    · rw [if_pos c2]
      exact ⟨_, _, rfl, by omega, by omega, hc, by omega, by omega, by omega, by omega⟩
    · rw [if_neg c2, Int.tdiv_eq_ediv_of_nonneg (by omega), w64 (by omega) (by omega), Int.tmod_eq_emod_of_nonneg (by omega)]
      exact ⟨_, _, rfl, by omega, by omega, hc, by omega, by omega, by omega, by omega⟩
theorem next_ok {c : List Int} {a s N : Int} (n : Int) (h : Srd c a s N) (hN : N ≤ 900000000) (h1 : 1 ≤ n) (h2 : n ≤ 16777216) : ∃ v a' s', spec_l00Src_next.f c a s n = some (v, a', s') ∧ 0 ≤ v ∧ v < n ∧ Srd c a' s' (N + 3) := by
  unfold spec_l00Src_next.f
  by_cases c1 : n ≤ 1
  · rw [if_pos c1]
    exact ⟨_, _, _, rfl, by omega, by omega, h.mono (by omega)⟩
  · rw [if_neg c1]
    obtain ⟨v, s1, hv, v0, v1, S1⟩ := byte_ok h (by omega)
    simp only [hv, Option.bind_some]
    have g := Int.emod_nonneg v (show n ≠ 0 by omega)
    have g2 := Int.emod_lt_of_pos v (show 0 < n by omega)
    by_cases c2 : n ≤ 256
    · rw [if_pos c2, if_neg (by omega), Int.tmod_eq_emod_of_nonneg (by omega)]
      exact ⟨_, _, _, rfl, g, g2, S1.mono (by omega)⟩
    · rw [if_neg c2]
      obtain ⟨x, s2, hx, x0, x1, S2⟩ := byte_ok S1 (by omega)
      simp only [hx, Option.bind_some]
      obtain ⟨y, s3, hy, y0, y1, S3⟩ := byte_ok S2 (by omega)
      simp only [hy, Option.bind_some]
      rw [if_neg (by omega)]
      rw [w64 (x := v * 65536) (by omega) (by omega), w64 (x := x * 256) (by omega) (by omega), w64 (x := v * 65536 + x * 256) (by omega) (by omega), w64 (by omega) (by omega), Int.tmod_eq_emod_of_nonneg (by omega)]
      exact ⟨_, _, _, rfl, Int.emod_nonneg _ (by omega), Int.emod_lt_of_pos _ (by omega), S3.mono (by omega)⟩
theorem source_ok (l : List Int) (h : ∀ x ∈ l, (Lit.int .u8 x).wf = true) : ∃ s, spec_l00Source.f l = some (l, 0, s) ∧ Srd l 0 s 0 := by
  refine ⟨_, rfl, fun x hx => bounds_u8 (h x hx), by omega, by omega, ?_, ?_⟩ <;> omega
theorem size_ok {c : List Int} (a s m : Int) (hc : c.length ≤ 1048576) (hm : 1 ≤ m) : ∃ v, spec_l00Src_size.f c a s m = some (v, a, s) ∧ 1 ≤ v ∧ v ≤ m := by
  unfold spec_l00Src_size.f
  rw [w64 (x := (c.length : Int) / 12) (by omega) (by omega), w64 (by omega) (by omega)]
  refine ⟨_, rfl, ?_, ?_⟩ <;> (unfold mn; split <;> omega)
theorem at_ok {c : List Int} (hc : ∀ x ∈ c, 0 ≤ x ∧ x ≤ 255) (i n : Int) (h0 : 0 ≤ i) (h1 : i ≤ 1000000) (hn : 1 ≤ n) : ∃ v, laws_at.f c i n = some v ∧ 0 ≤ v ∧ v < n := by
  unfold laws_at.f
  by_cases c1 : n ≤ 1
  · rw [if_pos c1]
    exact ⟨_, rfl, by omega, by omega⟩
  rw [if_neg c1]
  by_cases c2 : (c.length : Int) = 0
  · rw [if_pos c2, if_neg (by omega), w64 (by omega) (by omega), Int.tmod_eq_emod_of_nonneg (by omega)]
    exact ⟨_, rfl, Int.emod_nonneg _ (by omega), Int.emod_lt_of_pos _ (by omega)⟩
  · rw [if_neg c2]
    have e1 := Int.emod_nonneg i c2
    have e2 := Int.emod_lt_of_pos i (show (0 : Int) < (c.length : Int) by omega)
    have f1 := Int.emod_nonneg (i + 1) c2
    have f2 := Int.emod_lt_of_pos (i + 1) (show (0 : Int) < (c.length : Int) by omega)
    have g1 : 0 ≤ i / (c.length : Int) := Int.ediv_nonneg h0 (by omega)
    have g2 : i / (c.length : Int) ≤ i := Int.ediv_le_self _ h0
    rw [w64 (x := i + 1) (by omega) (by omega), Int.tmod_eq_emod_of_nonneg h0, Int.tmod_eq_emod_of_nonneg (show 0 ≤ i + 1 by omega), Int.tdiv_eq_ediv_of_nonneg h0]
    have b1 := rd_byte hc (i % (c.length : Int))
    have b2 := rd_byte hc ((i + 1) % (c.length : Int))
    generalize rd c (i % (c.length : Int)) = x at b1 ⊢
    generalize rd c ((i + 1) % (c.length : Int)) = y at b2 ⊢
    generalize i / (c.length : Int) = z at g1 g2 ⊢
    rw [if_pos e1, if_pos e2, if_pos f1, if_pos f2, if_neg (by omega), w64 (x := x) (by omega) (by omega), w64 (x := y) (by omega) (by omega), w64 (x := z) (by omega) (by omega), w64 (x := x * 31) (by omega) (by omega), w64 (x := x * 31 + y) (by omega) (by omega), w64 (by omega) (by omega), Int.tmod_eq_emod_of_nonneg (by omega)]
    exact ⟨_, rfl, Int.emod_nonneg _ (by omega), Int.emod_lt_of_pos _ (by omega)⟩
theorem sameInts_l0 : ∀ (a p : List Int), (p ++ a).length < 4611686018427387904 → Ev (fun k => laws_sameInts.l0 k (p ++ a) (p ++ a) (p.length : Int)) true := by
  intro a
  induction a with
  | nil => intro p hl; exact Ev.step (fun k => rfl) (Ev.neg (len_end p) (Ev.some' rfl))
  | cons x a ih =>
    intro p hl
    have hl' := hl
    rw [List.length_append, List.length_cons] at hl'
    refine Ev.step (fun k => rfl) (Ev.pos (len_lt p x a) (Ev.pos (by omega) (Ev.pos (len_lt p x a) (Ev.pos rfl ?_))))
    rw [w64 (by omega) (by omega), ← len_snoc p x, snoc p x a]
    exact ih (p ++ [x]) (by rw [← snoc]; exact hl)
theorem sameInts_ev (a : List Int) (hl : a.length < 4611686018427387904) : Ev (fun k => laws_sameInts.f k a a) true := by
  unfold laws_sameInts.f
  exact Ev.pos rfl (sameInts_l0 a [] hl)

theorem delV_mem (w : List Bool) (h : List Int) (n : Nat) : ∀ d x, x ∈ delV w h n d → d ≤ x ∧ x < d + n ∧ openB w h x = true := by
  induction n with
  | zero => intro d x hx; simp [delV] at hx
  | succ n ih =>
    intro d x hx
    rw [delV] at hx
    by_cases c : openB w h d = true
    · rw [if_pos c] at hx
      rcases List.mem_cons.1 hx with rfl | hx
      · exact ⟨by omega, by omega, c⟩
      · obtain ⟨h1, h2, h3⟩ := ih _ _ hx
        exact ⟨by omega, by omega, h3⟩
    · rw [if_neg c] at hx
      obtain ⟨h1, h2, h3⟩ := ih _ _ hx
      exact ⟨by omega, by omega, h3⟩
theorem delV_append (w : List Bool) (h : List Int) (m n : Nat) : ∀ d, delV w h (m + n) d = delV w h m d ++ delV w h n (d + m) := by
  induction m with
  | zero => intro d; simp [delV]
  | succ m ih =>
    intro d
    rw [show m + 1 + n = (m + n) + 1 by omega, delV, delV, ih, show d + 1 + (m : Int) = d + ((m + 1 : Nat) : Int) by omega]
    split <;> simp
theorem delV_sorted (w : List Bool) (h : List Int) (n : Nat) : ∀ d (q r : List Int) (y x : Int), delV w h n d = q ++ y :: x :: r → y < x := by
  induction n with
  | zero => intro d q r y x e; simp [delV] at e
  | succ n ih =>
    intro d q r y x e
    rw [delV] at e
    by_cases c : openB w h d = true
    · rw [if_pos c] at e
      cases q with
      | nil =>
        simp only [List.nil_append, List.cons.injEq] at e
        obtain ⟨rfl, e⟩ := e
        have := delV_mem w h n (d + 1) x (by rw [e]; simp)
        omega
      | cons z q =>
        simp only [List.cons_append, List.cons.injEq] at e
        exact ih _ q r y x e.2
    · rw [if_neg c] at e
      exact ih _ q r y x e
theorem nxtV_eq (w : List Bool) (h : List Int) (n : Nat) : ∀ d, nxtV w h n d = match delV w h n d with | [] => (0, 8) | x :: _ => (x, 0) := by
  induction n with
  | zero => intro d; rfl
  | succ n ih =>
    intro d
    rw [nxtV, delV]
    by_cases c : openB w h d = true
    · rw [if_pos c, if_pos c]
    · rw [if_neg c, if_neg c, ih]
theorem risP_snoc (lo hi x : Int) (hx : lo ≤ x ∧ x ≤ hi) : ∀ (a : List Int) (o : Option Int), risP lo hi o a = true → (∀ y ∈ a, y < x) → (∀ y, o = some y → y < x) → risP lo hi o (a ++ [x]) = true := by
  intro a
  induction a with
  | nil =>
    intro o _ _ ho
    simp only [List.nil_append, risP, decide_eq_true hx, Bool.true_and, Bool.and_true]
    cases o with
    | none => rfl
    | some y => exact decide_eq_true (ho y rfl)
  | cons z a ih =>
    intro o h1 h2 ho
    simp only [List.cons_append, risP, Bool.and_eq_true] at h1 ⊢
    exact ⟨h1.1, h1.2.1, ih (some z) h1.2.2 (fun y hy => h2 y (by simp [hy])) (fun y hy => by cases hy; exact h2 z (by simp))⟩
theorem week_l1 (c : List Int) (w : List Bool) (hw : w.length = 7) (hcl : c.length ≤ 1048576) : ∀ (n : Nat) (acc : List Int) (a : Int) (i s : Int) (N : Int), Srd c i s N → N + 3 * n ≤ 1000000 → 0 ≤ a → a + 10 * n ≤ 1000 → acc.length + n ≤ 60 → risP 0 100000 none acc = true → (∀ y ∈ acc, y < a) →
    ∃ h d, Ev (fun k => spec_WeekOf.l1 k w acc a (n : Int) c i s) (w, h, d) ∧ daysB w h = true ∧ 0 ≤ d ∧ d < 60 := by
  intro n
  induction n with
  | zero =>
    intro acc a i s N S hN ha hb hl hr hlt
    obtain ⟨v, a1, s1, e1, v0, v1, S1⟩ := next_ok 60 S (by omega) (by omega) (by omega)
    refine ⟨acc, v, Ev.step (fun k => rfl) (Ev.neg (by omega) (Ev.ret e1 (Ev.some' rfl))), ?_, v0, v1⟩
    unfold daysB
    simp only [Bool.and_eq_true, decide_eq_true_eq]
    first | exact ⟨hw, by omega, hr⟩ | exact ⟨⟨hw, by omega⟩, hr⟩
  | succ n ih =>
    intro acc a i s N S hN ha hb hl hr hlt
    obtain ⟨v, a1, s1, e1, v0, v1, S1⟩ := next_ok 6 S (by omega) (by omega) (by omega)
    obtain ⟨h, d, g1, g2⟩ := ih (acc ++ [a]) (a + (1 + v)) a1 s1 (N + 3) S1 (by omega) (by omega) (by omega) (by simp; omega) (risP_snoc 0 100000 a (by omega) acc none hr hlt (by simp)) (fun y hy => by
      rcases List.mem_append.1 hy with hy | hy
      · have := hlt y hy; omega
      · simp at hy; omega)
    refine ⟨h, d, Ev.step (fun k => rfl) (Ev.pos (by omega) (Ev.pos (by omega) (Ev.ret e1 ?_))), g2⟩
    simp only
    rw [w64 (x := 1 + v) (by omega) (by omega), w64 (x := a + (1 + v)) (by omega) (by omega), w64 (by omega) (by omega), show ((n + 1 : Nat) : Int) - 1 = (n : Int) by omega]
    exact g1
theorem week_l0 (c : List Int) (hcl : c.length ≤ 1048576) : ∀ (n : Nat) (acc : List Bool) (i s : Int) (N : Int), Srd c i s N → N + 3 * n ≤ 1000 → acc.length + n = 7 →
    ∃ w h d, Ev (fun k => spec_WeekOf.l0 k acc (acc.length : Int) c i s) (w, h, d) ∧ daysB w h = true ∧ 0 ≤ d ∧ d < 60 := by
  intro n
  induction n with
  | zero =>
    intro acc i s N S hN hl
    obtain ⟨v1, a1, s1, e1, l1, u1, S1⟩ := next_ok 9 S (by omega) (by omega) (by omega)
    obtain ⟨z, ez, z0, z1⟩ := size_ok (c := c) a1 s1 8 hcl (by omega)
    obtain ⟨v2, a2, s2, e2, l2, u2, S2⟩ := next_ok (z + 1) S1 (by omega) (by omega) (by omega)
    obtain ⟨h, d, g1, g2⟩ := week_l1 c acc (by omega) hcl v2.toNat [] v1 a2 s2 _ S2 (by omega) l1 (by omega) (by simp; omega) rfl (by simp)
    rw [show ((v2.toNat : Nat) : Int) = v2 by omega] at g1
    refine ⟨acc, h, d, Ev.step (fun k => rfl) (Ev.neg (by omega) (Ev.ret e1 (Ev.ret ez ?_))), g2⟩
    simp only
    rw [w64 (x := z + 1) (by omega) (by omega)]
    exact Ev.ret e2 g1
  | succ n ih =>
    intro acc i s N S hN hl
    obtain ⟨v, a1, s1, e1, v0, v1, S1⟩ := next_ok 3 S (by omega) (by omega) (by omega)
    have ec : spec_l00Src_chance.f c i s 3 = some (v == wrap64 (3 - 1), a1, s1) := by unfold spec_l00Src_chance.f; rw [e1]; rfl
    obtain ⟨w, h, d, g1, g2⟩ := ih (acc ++ [v == wrap64 (3 - 1)]) a1 s1 (N + 3) S1 (by omega) (by simp; omega)
    refine ⟨w, h, d, Ev.step (fun k => rfl) (Ev.pos (by omega) (Ev.ret ec (Ev.pos (by omega) ?_))), g2⟩
    simp only
    rw [w64 (x := (acc.length : Int) + 1) (by omega) (by omega), ← len_snoc acc (v == wrap64 (3 - 1))]
    exact g1
theorem WeekOf_ok (c : List Int) (hc : ∀ x ∈ c, (Lit.int .u8 x).wf = true) (hcl : c.length ≤ 1048576) : ∃ w h d, Ev (fun k => spec_WeekOf.f k c) (w, h, d) ∧ daysB w h = true ∧ 0 ≤ d ∧ d < 60 := by
  obtain ⟨s, hs, S0⟩ := source_ok c hc
  obtain ⟨w, h, d, g1, g2⟩ := week_l0 c hcl 7 [] 0 s 0 S0 (by omega) (by simp)
  unfold spec_WeekOf.f
  exact ⟨w, h, d, Ev.ret hs g1, g2⟩
theorem law_l1 (w : List Bool) (A : List Int) (p r : List Int) (x : Int) (hA : A = p ++ x :: r) (H : List Int) (v : Bool) (hgo : Ev (fun k => laws_FnDays.l0 k w H A (wrap64 ((p.length : Int) + 1))) v) (hl : H.length < 1000000) :
    ∀ (b q : List Int), H = q ++ b → H.contains x = false → Ev (fun k => laws_FnDays.l1 k w H A (p.length : Int) (q.length : Int)) v := by
  intro b
  induction b with
  | nil =>
    intro q hq _
    rw [List.append_nil] at hq
    subst hq
    exact Ev.step (fun k => rfl) (Ev.neg (show ¬ (H.length : Int) < (H.length : Int) by omega) hgo)
  | cons y b ih =>
    intro q hq hx
    have h1 : (q.length : Int) < (H.length : Int) := by rw [hq]; exact len_lt q y b
    have h2 : (p.length : Int) < (A.length : Int) := by rw [hA]; exact len_lt p x r
    have h3 : rd H (q.length : Int) = y := by rw [hq]; exact rd_mid q y b
    have h4 : rd A (p.length : Int) = x := by rw [hA]; exact rd_mid p x r
    have h5 : y ≠ x := by
      rintro rfl
      rw [hq] at hx
      simp at hx
    refine Ev.step (fun k => rfl) (Ev.pos h1 (Ev.pos (by omega) (Ev.pos (by omega) (Ev.pos h2 (Ev.neg (by rw [h3, h4]; exact h5) ?_)))))
    rw [w64 (by omega) (by omega), ← len_snoc q y]
    exact ih (q ++ [y]) (by rw [hq, snoc]) hx
theorem law_l0 (w : List Bool) (H : List Int) (hw : w.length = 7) (hl : H.length < 1000000) (n : Nat) (d : Int) (hd : 0 ≤ d) (hA : (delV w H n d).length < 1000000) :
    ∀ (a p : List Int), delV w H n d = p ++ a → Ev (fun k => laws_FnDays.l0 k w H (delV w H n d) (p.length : Int)) true := by
  intro a
  induction a with
  | nil =>
    intro p hp
    rw [List.append_nil] at hp
    exact Ev.step (fun k => rfl) (Ev.neg (by rw [hp]; omega) (Ev.some' rfl))
  | cons x a ih =>
    intro p hp
    have hlt : (p.length : Int) < ((delV w H n d).length : Int) := by rw [hp]; exact len_lt p x a
    have hrd : rd (delV w H n d) (p.length : Int) = x := by rw [hp]; exact rd_mid p x a
    obtain ⟨m1, m2, m3⟩ := delV_mem w H n d x (by rw [hp]; simp)
    unfold openB at m3
    simp only [Bool.and_eq_true, Bool.not_eq_true'] at m3
    have hnext : Ev (fun k => laws_FnDays.l0 k w H (delV w H n d) (wrap64 ((p.length : Int) + 1))) true := by
      rw [w64 (by omega) (by omega), ← len_snoc p x]
      exact ih (p ++ [x]) (by rw [hp, snoc])
    have hin : Ev (fun k => laws_FnDays.j4 k w H (delV w H n d) (p.length : Int) false) true :=
      Ev.via (law_l1 w _ p a x hp H true hnext hl H [] rfl m3.2) (fun k => rfl)
    refine Ev.step (fun k => rfl) (Ev.pos hlt (Ev.pos (by omega) ?_))
    rw [hrd, Int.tmod_eq_emod_of_nonneg (by omega)]
    refine Ev.pos (by omega) (Ev.pos (by omega) (Ev.pos m3.1 ?_))
    rcases List.eq_nil_or_concat p with rfl | ⟨q, y, rfl⟩
    · exact Ev.neg (by simp) hin
    · rw [List.concat_eq_append] at *
      have hlen : ((q ++ [y]).length : Int) = (q.length : Int) + 1 := len_snoc q y
      refine Ev.pos (by omega) ?_
      rw [w64 (x := ((q ++ [y]).length : Int) - 1) (by omega) (by omega)]
      refine Ev.pos (by omega) (Ev.pos (by omega) ?_)
      have hy : y < x := delV_sorted w H n d q a y x (by rw [hp]; simp)
      rw [show rd (delV w H n d) (((q ++ [y]).length : Int) - 1) = y by rw [hp]; exact rd_prev q y (x :: a), show decide (y ≥ x) = false by simp; omega]
      exact hin
theorem FnDays : laws_FnDays.Pure := by
  intro c m hc hm
  refine Ev.rounds (?_ : Ev (fun k => laws_FnDays.f k c m) true)
  unfold laws_FnDays.f
  by_cases c1 : (c.length : Int) > 1048576
  · exact Ev.pos c1 (Ev.via (Ev.some' rfl) (fun k => rfl))
  refine Ev.neg c1 ?_
  by_cases c2 : (m.length : Int) > 1048576
  · rw [decide_eq_true c2]
    exact Ev.via (Ev.some' rfl) (fun k => rfl)
  rw [decide_eq_false c2]
  obtain ⟨w, h, d, hW, hd, d0, d1⟩ := WeekOf_ok c hc.2 (by omega)
  have hw := daysB_seven hd
  have hhl : h.length ≤ 60 := by
    unfold daysB at hd
    simp only [Bool.and_eq_true, decide_eq_true_eq] at hd
    first | exact hd.2.1 | exact hd.1.2
  have del : ∀ a b : Int, 0 ≤ a → a ≤ b → b ≤ 100000 → b - a ≤ 400 → Ev (fun k => impl_DeliveryDays.f k w h a b) (delV w h (b - a).toNat a, 0) := by
    intro a b g0 g1 g2 g3
    refine Ev.eq (implDel_ev w h a b (by omega) (by omega)) ?_
    unfold delivV
    rw [if_neg (by omega), if_pos hd, if_pos ⟨g0, g1, g2, g3⟩]
  have nxt : Ev (fun k => impl_NextDay.f k w h d) (nxtV w h 400 d) := by
    refine Ev.eq (implNext_ev w h d (by omega)) ?_
    unfold nextV
    rw [if_neg (by omega), if_pos hd, if_pos (by omega)]
  refine Ev.via (Ev.bind hW ?_) (fun k => rfl)
  simp only
  rw [w64 (x := d + 400) (by omega) (by omega)]
  refine Ev.bind (del d (d + 400) (by omega) (by omega) (by omega) (by omega)) (Ev.bind nxt ?_)
  rw [show (d + 400 - d).toNat = 400 by omega, nxtV_eq]
  simp only
  obtain ⟨v, hv, v0, v1⟩ := at_ok (c := m) (fun x hx => bounds_u8 (hm.2 x hx)) 0 400 (by omega) (by omega) (by omega)
  have hlen := delV_length w h 400 d
  have l1 := delV_length w h v.toNat d
  have l2 := delV_length w h (400 - v).toNat (d + v)
  have happ : delV w h v.toNat d ++ delV w h (400 - v).toNat (d + v) = delV w h 400 d := by
    rw [show (400 : Nat) = v.toNat + (400 - v).toNat by omega, delV_append, show ((v.toNat : Nat) : Int) = v by omega]
  have fin : Ev (fun k => laws_FnDays.j1 k m w h d (delV w h 400 d) false) true := by
    refine Ev.via (Ev.ret hv ?_) (fun k => rfl)
    rw [w64 (x := d + v) (by omega) (by omega), w64 (x := d + 400) (by omega) (by omega)]
    refine Ev.bind (del d (d + v) (by omega) (by omega) (by omega) (by omega)) (Ev.bind (del (d + v) (d + 400) (by omega) (by omega) (by omega) (by omega)) ?_)
    rw [show (d + v - d).toNat = v.toNat by omega, show (d + 400 - (d + v)).toNat = (400 - v).toNat by omega]
    refine Ev.pos rfl (Ev.pos rfl (Ev.ret rfl (Ev.pos (by simp; omega) (Ev.ret rfl (Ev.pos (by simp; omega) ?_)))))
    simp only [List.nil_append]
    rw [happ]
    refine Ev.bind (sameInts_ev _ (by omega)) ?_
    exact Ev.via (law_l0 w h hw (by omega) 400 d d0 (by omega) _ [] rfl) (fun k => rfl)
  refine Ev.pos (by first | rfl | trivial) ?_
  cases hq : delV w h 400 d with
  | nil =>
    rw [hq] at fin
    refine Ev.neg (by simp) (Ev.neg (by simp) fin)
  | cons x r =>
    rw [hq] at fin
    refine Ev.neg (by first | omega | (simp; done) | (simp; omega)) (Ev.pos (by first | omega | (simp; done) | (simp; omega)) (Ev.pos (by first | omega | (simp; done) | (simp; omega)) (Ev.pos (by first | omega | (simp; done) | (simp; omega)) ?_)))
    rw [show (x != rd (x :: r) 0) = false by simp [rd]]
    exact fin

end Go.Proofs.Ythhdcjdlcfbkdaa.Pure
