/- The program's FacingsOK and the reference's answer alike for all arguments, and change none: the law's plain statement, with no condition. -/
import Derived.Test.YtecbcibblmknpaaXFnExactFacingsOKx8
import Derived.Test.YtecbcibblmknpaaAx
import Derived.Test.YtecbcibblmknpaaIdx
namespace Go.Proofs.Ytecbcibblmknpaa.Pure
open Go.RowKit Go.Proofs.Ytecbcibblmknpaa.XFnExactFacingsOK Go.Proofs.YtecbcibblmknpaaW.PrintWords Go.Proofs.YtecbcibblmknpaaW.PrintLast
open Go.Proofs.YtecbcibblmknpaaW.Ax Go.Proofs.YtecbcibblmknpaaW.Idx
set_option linter.unusedVariables false
set_option linter.unusedSimpArgs false
theorem toIntS_l0 : ∀ (a p t : List Int), t.length = a.length → (p ++ a).length < 4611686018427387904 →
    Ev (fun k => laws_toIntS.l0 k (p ++ a) (p ++ t) (p.length : Int)) (p ++ a) := by
  intro a
  induction a with
  | nil =>
    intro p t ht hl
    obtain rfl : t = [] := List.eq_nil_of_length_eq_zero ht
    exact Ev.step (fun k => rfl) (Ev.neg (len_end p) (Ev.some' rfl))
  | cons x a ih =>
    intro p t ht hl
    match t, ht with
    | y :: t, ht =>
      have hl' : (p ++ x :: a).length < 4611686018427387904 := hl
      rw [List.length_append, List.length_cons] at hl'
      refine Ev.step (fun k => rfl) (Ev.pos (len_lt p x a) (Ev.pos (by omega) (Ev.pos (len_lt p y t) ?_)))
      rw [rd_mid p x a, set_mid, w64 (by omega) (by omega), ← len_snoc p x, snoc p x a, snoc p x t]
      exact ih (p ++ [x]) t (by simpa using ht) (by rw [← snoc]; exact hl)
theorem toIntS_ev (a : List Int) (hl : a.length ≤ 1048576) : Ev (fun k => laws_toIntS.f k a) a := by
  unfold laws_toIntS.f
  refine Ev.pos (by omega) (Ev.pos (by omega) ?_)
  rw [Int.toNat_natCast]
  exact toIntS_l0 a [] (List.replicate a.length 0) (by simp) (by simp; omega)
theorem eqIntS_l0 : ∀ (a b p q : List Int), p.length = q.length → a.length = b.length → (p ++ a).length < 4611686018427387904 →
    Ev (fun k => laws_eqIntS.l0 k (p ++ a) (q ++ b) (p.length : Int)) (decide (a = b)) := by
  intro a
  induction a with
  | nil =>
    intro b p q hpq hab hl
    obtain rfl : b = [] := List.eq_nil_of_length_eq_zero hab.symm
    refine Ev.step (fun k => rfl) (Ev.neg (len_end p) (Ev.some' rfl))
  | cons x a ih =>
    intro b p q hpq hab hl
    match b, hab with
    | y :: b, hab =>
      have hq : ((p.length : Int)) < ((q ++ y :: b).length : Int) := by rw [hpq]; exact len_lt q y b
      have hl' : (p ++ x :: a).length < 4611686018427387904 := hl
      rw [List.length_append, List.length_cons] at hl'
      refine Ev.step (fun k => rfl) (Ev.pos (len_lt p x a) (Ev.pos (by omega) (Ev.pos hq ?_)))
      rw [rd_mid p x a, hpq, rd_mid q y b, ← hpq]
      by_cases e : x = y
      · subst e
        refine Ev.pos (by rfl) ?_
        rw [w64 (by omega) (by omega), ← len_snoc p x, snoc p, snoc q]
        exact Ev.eq (ih b (p ++ [x]) (q ++ [x]) (by simp [hpq]) (by simpa using hab) (by rw [← snoc]; exact hl)) (by simp)
      · exact Ev.neg e (Ev.some' (by simp [e]))
theorem eqIntS_ev (a b : List Int) (hl : a.length < 4611686018427387904) : Ev (fun k => laws_eqIntS.f k a b) (decide (a = b)) := by
  unfold laws_eqIntS.f
  by_cases h : (a.length : Int) = (b.length : Int)
  · exact Ev.pos h (eqIntS_l0 a b [] [] rfl (by omega) hl)
  · refine Ev.neg h (Ev.some' ?_)
    symm
    rw [decide_eq_false_iff_not]
    rintro rfl
    exact h rfl
theorem within_ev (a b c : Int) : impl_within.f a b c = some (decide (b ≤ a ∧ a ≤ c)) := by
  unfold impl_within.f
  by_cases h : a ≥ b
  · rw [if_pos h]; congr 1; rw [decide_eq_decide]; omega
  · rw [if_neg h]; congr 1; symm; rw [decide_eq_false_iff_not]; omega
theorem l01In_ev (a b c : Int) : spec_l01In.f a b c = some (decide (b ≤ a ∧ a ≤ c)) := by
  unfold spec_l01In.f
  by_cases h : a ≥ b
  · rw [if_pos h]; congr 1; rw [decide_eq_decide]; omega
  · rw [if_neg h]; congr 1; symm; rw [decide_eq_false_iff_not]; omega
/-! ### names -/
def codeP (m : Int) : Prop := (192 ≤ m ∧ m ≤ 591 ∧ m ≠ 215 ∧ m ≠ 247) ∨ (913 ≤ m ∧ m ≤ 969) ∨ (1040 ≤ m ∧ m ≤ 1103)
instance (m : Int) : Decidable (codeP m) := by unfold codeP; exact inferInstance
def wideP (c n : Int) : Prop := (194 ≤ c ∧ c ≤ 223) ∧ (128 ≤ n ∧ n ≤ 191) ∧ codeP ((c - 192) * 64 + n - 128)
instance (c n : Int) : Decidable (wideP c n) := by unfold wideP; exact inferInstance
def plainP (c : Int) : Prop := (97 ≤ c ∧ c ≤ 122) ∨ (65 ≤ c ∧ c ≤ 90) ∨ c = 95
instance (c : Int) : Decidable (plainP c) := by unfold plainP; exact inferInstance
def digitP (c : Int) : Prop := 48 ≤ c ∧ c ≤ 57
instance (c : Int) : Decidable (digitP c) := by unfold digitP; exact inferInstance
/-- The rest of a name, from place i on. -/
def nameB (s : ByteArray) : Nat → Nat → Bool
  | 0, _ => true
  | d + 1, i => if s.size ≤ i then true else if plainP (bt s i) ∨ (0 < i ∧ digitP (bt s i)) then nameB s d (i + 1) else if i + 1 < s.size ∧ wideP (bt s i) (bt s ((i + 1 : Nat) : Int)) then nameB s d (i + 2) else false
theorem someD {b : Bool} {P : Prop} [Decidable P] (h : b = true ↔ P) : some b = some (decide P) := by
  by_cases c : P
  · rw [decide_eq_true c, h.2 c]
  · rw [decide_eq_false c]
    cases b with
    | false => rfl
    | true => exact absurd (h.1 rfl) c
theorem isLetter_ev (c : Int) : impl_isLetter.f c = some (decide (plainP c)) := by
  unfold impl_isLetter.f
  repeat' split
  all_goals (refine someD ?_; unfold plainP; (try simp only [beq_iff_eq]); first | omega | (simp; omega))
theorem isDigit_ev (c : Int) : impl_isDigit.f c = some (decide (digitP c)) := by
  unfold impl_isDigit.f
  repeat' split
  all_goals (refine someD ?_; unfold digitP; (try simp only [decide_eq_true_eq]); first | omega | (simp; omega))
theorem or6 {x y : Int} (hx₀ : 0 ≤ x) (hx : x % 64 = 0) (hx₁ : x < 1000000) (h₀ : 0 ≤ y) (h₁ : y < 64) : Go.bits .or .i64 x y = x + y :=
  Go.bits_join .i64 31 (by decide) (fun n a b => by rw [Go.IntKind.wrap_i64]; omega) 6 x y hx₀ hx (by omega) h₀ h₁ (by omega)
theorem code_eq (c n : Int) (hc : 194 ≤ c ∧ c ≤ 223) (hn : 128 ≤ n ∧ n ≤ 191) : Go.bits .or .i64 (wrap64 ((wrap64 (Go.bits .and .u8 c 31)) * 64)) (wrap64 (Go.bits .and .u8 n 63)) = (c - 192) * 64 + n - 128 := by
  have e1 : Go.bits .and .u8 c 31 = c % 32 := Go.u8_and31 c (by omega) (by omega)
  have e2 : Go.bits .and .u8 n 63 = n % 64 := Go.u8_and63 n (by omega) (by omega)
  rw [e1, e2, w64 (x := c % 32) (by omega) (by omega), w64 (x := n % 64) (by omega) (by omega), w64 (x := c % 32 * 64) (by omega) (by omega), or6 (by omega) (by omega) (by omega) (by omega) (by omega)]
  omega
theorem code_ev (m : Int) : ((impl_within.f m 192 591).bind fun t137 => (if t137 = true then (if m = 215 then ((impl_within.f m 913 969).bind fun t138 => (if t138 = true then (some true) else ((impl_within.f m 1040 1103).bind fun t139 => (some t139)))) else (if m = 247 then ((impl_within.f m 913 969).bind fun t140 => (if t140 = true then (some true) else ((impl_within.f m 1040 1103).bind fun t141 => (some t141)))) else (some true))) else ((impl_within.f m 913 969).bind fun t142 => (if t142 = true then (some true) else ((impl_within.f m 1040 1103).bind fun t143 => (some t143)))))) = some (decide (codeP m)) := by
  simp only [within_ev, Option.bind_some]
  simp only [decide_eq_true_eq]
  repeat' split
  all_goals (refine someD ?_; unfold codeP; (try simp only [decide_eq_true_eq]); first | omega | (simp; omega))
theorem wide_ev (s : ByteArray) (h : s.size = 2) : Ev (fun k => impl_isWideLetter.f k s) (decide (wideP (bt s 0) (bt s 1))) := by
  unfold impl_isWideLetter.f
  have hj : ∀ b : Bool, b = false ∨ b = true := by intro b; cases b <;> simp
  have hbad : ¬ wideP (bt s 0) (bt s 1) → Ev (fun k => impl_isWideLetter.j0 k s true) (decide (wideP (bt s 0) (bt s 1))) := fun h => Ev.via (Ev.some' (decide_eq_false h).symm) (fun k => rfl)
  refine Ev.pos (by omega) ?_
  by_cases c1 : bt s 0 < 194
  · exact Ev.pos c1 (hbad (fun h => by have := h.1; omega))
  refine Ev.neg c1 ?_
  by_cases c2 : bt s 0 > 223
  · exact Ev.pos c2 (hbad (fun h => by have := h.1; omega))
  refine Ev.neg c2 (Ev.pos (by omega) ?_)
  by_cases c3 : bt s 1 < 128
  · exact Ev.pos c3 (hbad (fun h => by have := h.2.1; omega))
  refine Ev.neg c3 ?_
  by_cases c4 : bt s 1 > 191
  · rw [decide_eq_true c4]
    exact hbad (fun h => by have := h.2.1; omega)
  rw [decide_eq_false c4]
  refine Ev.up1 ?_
  simp only [impl_isWideLetter.j0, if_neg ff]
  rw [code_eq _ _ (by omega) (by omega)]
  refine Ev.pos (by omega) (Ev.pos (by omega) ?_)
  have hw : wideP (bt s 0) (bt s 1) ↔ codeP ((bt s 0 - 192) * 64 + bt s 1 - 128) := ⟨fun h => h.2.2, fun h => ⟨by omega, by omega, h⟩⟩
  rw [decide_eq_decide.2 hw]
  exact Ev.const (code_ev _)
theorem bt_extract (s : ByteArray) (i : Nat) (h : i + 2 ≤ s.size) : (s.extract i (i + 2)).size = 2 ∧ bt (s.extract i (i + 2)) 0 = bt s (i : Int) ∧ bt (s.extract i (i + 2)) 1 = bt s ((i + 1 : Nat) : Int) := by
  have hs : (s.extract i (i + 2)).size = 2 := by rw [ByteArray.size_extract]; omega
  refine ⟨hs, ?_, ?_⟩
  · unfold bt
    rw [dif_pos (by rw [hs]; decide), dif_pos (by rw [Int.toNat_natCast]; omega)]
    rw [ByteArray.getElem_extract]
    congr 2
  · unfold bt
    rw [dif_pos (by rw [hs]; decide), dif_pos (by rw [Int.toNat_natCast]; omega)]
    rw [ByteArray.getElem_extract]
    congr 2
theorem impl_name_l0 (s : ByteArray) (hs : s.size ≤ 40) : ∀ (d i : Nat), s.size ≤ i + d → i ≤ 50 → Ev (fun k => impl_NameOK.l0 k s (i : Int)) (nameB s d i) := by
  intro d
  induction d with
  | zero => intro i h hi; exact Ev.step (fun k => rfl) (Ev.neg (show ¬ (i : Int) < (s.size : Int) by omega) (Ev.some' rfl))
  | succ d ih =>
    intro i h hi
    rw [nameB]
    by_cases c0 : s.size ≤ i
    · rw [if_pos c0]
      exact Ev.step (fun k => rfl) (Ev.neg (show ¬ (i : Int) < (s.size : Int) by omega) (Ev.some' rfl))
    rw [if_neg c0]
    have hgo : Ev (fun k => impl_NameOK.j1 k s (i : Int) true) (nameB s d (i + 1)) := by
      refine Ev.via (f := fun k => impl_NameOK.l0 k s (wrap64 ((i : Int) + 1))) ?_ (fun k => rfl)
      rw [w64n (by omega)]
      exact ih (i + 1) (by omega) (by omega)
    have hwide : Ev (fun k => impl_NameOK.j1 k s (i : Int) false) (if i + 1 < s.size ∧ wideP (bt s (i : Int)) (bt s ((i + 1 : Nat) : Int)) then nameB s d (i + 2) else false) := by
      refine Ev.up1 ?_
      simp only [impl_NameOK.j1, if_neg ff]
      rw [w64n (by omega), show wrap64 ((i : Int) + 2) = ((i + 2 : Nat) : Int) by rw [w64 (by omega) (by omega)]; omega, Int.toNat_natCast, Int.toNat_natCast, w64n (by omega)]
      by_cases c1 : i + 1 < s.size
      · obtain ⟨x1, x2, x3⟩ := bt_extract s i (by omega)
        have wv := wide_ev _ x1
        rw [x2, x3] at wv
        refine Ev.pos (by omega) (Ev.pos (by omega) (Ev.pos (by omega) (Ev.pos (by omega) (Ev.bind wv ?_))))
        by_cases c2 : wideP (bt s (i : Int)) (bt s ((i + 1 : Nat) : Int))
        · rw [if_pos ⟨c1, c2⟩]
          exact Ev.pos (decide_eq_true c2) (ih (i + 2) (by omega) (by omega))
        · rw [if_neg (fun h => c2 h.2)]
          exact Ev.neg (by rw [decide_eq_false c2]; exact ff) (Ev.some' rfl)
      · rw [if_neg (fun h => c1 h.1)]
        exact Ev.neg (by omega) (Ev.some' rfl)
    refine Ev.step (fun k => rfl) (Ev.pos (show (i : Int) < (s.size : Int) by omega) (Ev.pos (by omega) (Ev.ret (isLetter_ev _) ?_)))
    by_cases c1 : plainP (bt s (i : Int))
    · rw [if_pos (.inl c1)]
      exact Ev.pos (decide_eq_true c1) hgo
    refine Ev.neg (by simp [c1]) ?_
    by_cases c2 : (i : Int) > 0
    · refine Ev.pos c2 (Ev.ret (isDigit_ev _) ?_)
      by_cases c3 : digitP (bt s (i : Int))
      · rw [if_pos (.inr ⟨by omega, c3⟩), decide_eq_true c3]
        exact hgo
      · rw [if_neg (fun h => h.elim c1 (fun h => c3 h.2)), decide_eq_false c3]
        exact hwide
    · rw [if_neg (fun h => h.elim c1 (fun h => c2 (by omega)))]
      exact Ev.neg c2 hwide
def nameOKV (s : ByteArray) : Bool := decide (1 ≤ s.size ∧ s.size ≤ 40) && nameB s s.size 0
theorem implName_ev (s : ByteArray) : Ev (fun k => impl_NameOK.f k s) (nameOKV s) := by
  unfold impl_NameOK.f nameOKV
  refine Ev.ret (within_ev _ _ _) ?_
  by_cases c : 1 ≤ s.size ∧ s.size ≤ 40
  · rw [decide_eq_true c, Bool.true_and]
    exact Ev.pos (by simp; omega) (impl_name_l0 s c.2 s.size 0 (by omega) (by omega))
  · rw [decide_eq_false c, Bool.false_and]
    exact Ev.neg (by simp; omega) (Ev.some' rfl)
def letV (s : ByteArray) (i : Nat) : Int := if plainP (bt s (i : Int)) then 1 else if i + 1 < s.size ∧ wideP (bt s (i : Int)) (bt s ((i + 1 : Nat) : Int)) then 2 else 0
theorem specLetter_ev (s : ByteArray) (i : Nat) (hi : i < s.size) (hs : s.size ≤ 40) : Ev (fun k => spec_l00Letter.f k s (i : Int)) (letV s i) := by
  have hr := bt_range s (i : Int)
  have hr2 := bt_range s ((i + 1 : Nat) : Int)
  have hw : wrap64 ((i : Int) + 1) = ((i + 1 : Nat) : Int) := w64n (by omega)
  have hyes : plainP (bt s (i : Int)) → Ev (fun k => spec_l00Letter.j0 k s (i : Int) (bt s (i : Int)) true) (letV s i) := by
    intro h
    unfold letV
    rw [if_pos h]
    exact Ev.via (Ev.some' rfl) (fun k => rfl)
  have hno : ¬ plainP (bt s (i : Int)) → Ev (fun k => spec_l00Letter.j0 k s (i : Int) (bt s (i : Int)) false) (letV s i) := by
    intro h
    unfold letV
    rw [if_neg h]
    have hbad : ¬ (i + 1 < s.size ∧ wideP (bt s (i : Int)) (bt s ((i + 1 : Nat) : Int))) → Ev (fun k => spec_l00Letter.j1 k s (i : Int) (bt s (i : Int)) true) (if i + 1 < s.size ∧ wideP (bt s (i : Int)) (bt s ((i + 1 : Nat) : Int)) then (2 : Int) else 0) := by
      intro h
      rw [if_neg h]
      exact Ev.via (Ev.some' rfl) (fun k => rfl)
    refine Ev.up1 ?_
    simp only [spec_l00Letter.j0, if_neg ff]
    rw [hw]
    by_cases c1 : bt s (i : Int) < 194
    · exact Ev.pos c1 (hbad (fun h => by have := h.2.1; omega))
    refine Ev.neg c1 ?_
    by_cases c2 : bt s (i : Int) > 223
    · exact Ev.pos c2 (hbad (fun h => by have := h.2.1; omega))
    refine Ev.neg c2 ?_
    by_cases c3 : ((i + 1 : Nat) : Int) ≥ (s.size : Int)
    · exact Ev.pos c3 (hbad (fun h => by have := h.1; omega))
    refine Ev.neg c3 (Ev.pos (by omega) (Ev.pos (by omega) ?_))
    by_cases c4 : bt s ((i + 1 : Nat) : Int) < 128
    · exact Ev.pos c4 (hbad (fun h => by have := h.2.2.1; omega))
    refine Ev.neg c4 ?_
    by_cases c5 : bt s ((i + 1 : Nat) : Int) > 191
    · rw [decide_eq_true c5]
      exact hbad (fun h => by have := h.2.2.1; omega)
    rw [decide_eq_false c5]
    refine Ev.up1 ?_
    simp only [spec_l00Letter.j1, if_neg ff]
    rw [hw]
    refine Ev.pos (by omega) (Ev.pos (by omega) ?_)
    rw [w64 (x := bt s (i : Int)) (by omega) (by omega), w64 (x := bt s (i : Int) - 192) (by omega) (by omega), w64 (x := (bt s (i : Int) - 192) * 64) (by omega) (by omega), w64 (x := bt s ((i + 1 : Nat) : Int)) (by omega) (by omega), w64 (x := (bt s (i : Int) - 192) * 64 + bt s ((i + 1 : Nat) : Int)) (by omega) (by omega), w64 (x := (bt s (i : Int) - 192) * 64 + bt s ((i + 1 : Nat) : Int) - 128) (by omega) (by omega)]
    have hv : (if i + 1 < s.size ∧ wideP (bt s (i : Int)) (bt s ((i + 1 : Nat) : Int)) then (2 : Int) else 0) = if codeP ((bt s (i : Int) - 192) * 64 + bt s ((i + 1 : Nat) : Int) - 128) then 2 else 0 := by
      by_cases h : codeP ((bt s (i : Int) - 192) * 64 + bt s ((i + 1 : Nat) : Int) - 128)
      · rw [if_pos h, if_pos ⟨by omega, by omega, by omega, h⟩]
      · rw [if_neg h, if_neg (fun g => h g.2.2.2)]
    rw [hv]
    refine Ev.const ?_
    have hc : ∀ m : Int, (192 ≤ m ∧ m ≤ 591 ∧ m ≠ 215 ∧ m ≠ 247) ∨ (913 ≤ m ∧ m ≤ 969) ∨ (1040 ≤ m ∧ m ≤ 1103) ↔ codeP m := fun m => Iff.rfl
    repeat' split
    all_goals first | rfl | (exfalso; simp only [← hc] at *; omega)
  unfold spec_l00Letter.f
  refine Ev.pos (by omega) (Ev.pos (by omega) ?_)
  have hp : ∀ c : Int, (97 ≤ c ∧ c ≤ 122) ∨ (65 ≤ c ∧ c ≤ 90) ∨ c = 95 ↔ plainP c := fun c => Iff.rfl
  have hlast : ¬ ((97 ≤ bt s (i : Int) ∧ bt s (i : Int) ≤ 122) ∨ (65 ≤ bt s (i : Int) ∧ bt s (i : Int) ≤ 90)) → Ev (fun k => spec_l00Letter.j0 k s (i : Int) (bt s (i : Int)) (bt s (i : Int) == 95)) (letV s i) := by
    intro h
    by_cases c : bt s (i : Int) = 95
    · rw [beq_iff_eq.2 c]
      exact hyes ((hp _).1 (by omega))
    · rw [show (bt s (i : Int) == 95) = false by simpa using c]
      exact hno (fun g => by have := (hp _).2 g; omega)
  by_cases a1 : bt s (i : Int) ≥ 97
  · refine Ev.pos a1 ?_
    by_cases a2 : bt s (i : Int) ≤ 122
    · exact Ev.pos a2 (hyes ((hp _).1 (by omega)))
    · refine Ev.neg a2 (Ev.pos (by omega) (Ev.neg (by omega) (hlast (by omega))))
  · refine Ev.neg a1 ?_
    by_cases a3 : bt s (i : Int) ≥ 65
    · refine Ev.pos a3 ?_
      by_cases a4 : bt s (i : Int) ≤ 90
      · exact Ev.pos a4 (hyes ((hp _).1 (by omega)))
      · exact Ev.neg a4 (hlast (by omega))
    · exact Ev.neg a3 (hlast (by omega))
theorem spec_word (s : ByteArray) (hs : s.size ≤ 40) : ∀ (d i : Nat), s.size ≤ i + d → i ≤ s.size → ∃ r : Int, Ev (fun k => spec_l00Word.l0 k s 0 (i : Int)) r ∧ (r == (s.size : Int)) = nameB s d i := by
  intro d
  induction d with
  | zero =>
    intro i h hi
    refine ⟨wrap64 ((i : Int) - 0), Ev.step (fun k => rfl) (Ev.neg (show ¬ (i : Int) < (s.size : Int) by omega) (Ev.some' rfl)), ?_⟩
    rw [w64 (by omega) (by omega), nameB]
    simp; omega
  | succ d ih =>
    intro i h hi
    rw [nameB]
    by_cases c0 : s.size ≤ i
    · rw [if_pos c0]
      refine ⟨wrap64 ((i : Int) - 0), Ev.step (fun k => rfl) (Ev.neg (show ¬ (i : Int) < (s.size : Int) by omega) (Ev.some' rfl)), ?_⟩
      rw [w64 (by omega) (by omega)]
      simp; omega
    rw [if_neg c0]
    have hl := specLetter_ev s i (by omega) hs
    unfold letV at hl
    by_cases c1 : plainP (bt s (i : Int))
    · rw [if_pos c1] at hl
      rw [if_pos (.inl c1)]
      obtain ⟨r, h1, h2⟩ := ih (i + 1) (by omega) (by omega)
      refine ⟨r, Ev.step (fun k => rfl) (Ev.pos (show (i : Int) < (s.size : Int) by omega) (Ev.bind hl (Ev.neg (by decide) ?_))), h2⟩
      refine Ev.via (f := fun k => spec_l00Word.l0 k s 0 (wrap64 ((i : Int) + 1))) ?_ (fun k => rfl)
      rw [w64n (by omega)]
      exact h1
    rw [if_neg c1] at hl
    by_cases c2 : i + 1 < s.size ∧ wideP (bt s (i : Int)) (bt s ((i + 1 : Nat) : Int))
    · rw [if_pos c2] at hl
      rw [if_neg (fun h => h.elim c1 (fun h => by have a := h.2; have b := c2.2.1; unfold digitP at a; omega)), if_pos c2]
      obtain ⟨r, h1, h2⟩ := ih (i + 2) (by omega) (by omega)
      refine ⟨r, Ev.step (fun k => rfl) (Ev.pos (show (i : Int) < (s.size : Int) by omega) (Ev.bind hl (Ev.neg (by decide) ?_))), h2⟩
      refine Ev.via (f := fun k => spec_l00Word.l0 k s 0 (wrap64 ((i : Int) + 2))) ?_ (fun k => rfl)
      rw [show wrap64 ((i : Int) + 2) = ((i + 2 : Nat) : Int) by rw [w64 (by omega) (by omega)]; omega]
      exact h1
    rw [if_neg c2] at hl
    have hstop : ∀ x : Bool, x = (((i : Int) == (s.size : Int))) → Ev (fun k => spec_l00Word.j1 k s 0 (i : Int) 0 false) (i : Int) ∧ x = false := by
      intro x hx
      refine ⟨Ev.via (f := fun _ => some (wrap64 ((i : Int) - 0))) (Ev.some' (by rw [w64 (by omega) (by omega)]; omega)) (fun k => rfl), ?_⟩
      rw [hx]
      simp; omega
    obtain ⟨hs1, hs2⟩ := hstop _ rfl
    by_cases c3 : (i : Int) > 0
    · by_cases c4 : digitP (bt s (i : Int))
      · rw [if_pos (.inr ⟨by omega, c4⟩)]
        obtain ⟨r, h1, h2⟩ := ih (i + 1) (by omega) (by omega)
        have a4 : 48 ≤ bt s (i : Int) ∧ bt s (i : Int) ≤ 57 := c4
        refine ⟨r, Ev.step (fun k => rfl) (Ev.pos (show (i : Int) < (s.size : Int) by omega) (Ev.bind hl (Ev.pos rfl (Ev.pos c3 (Ev.pos (by omega) (Ev.pos a4.1 ?_)))))), h2⟩
        rw [decide_eq_true a4.2]
        refine Ev.via (f := fun k => spec_l00Word.l0 k s 0 (wrap64 ((i : Int) + 1))) ?_ (fun k => rfl)
        rw [w64n (by omega)]
        exact h1
      · rw [if_neg (fun h => h.elim c1 (fun h => c4 h.2)), if_neg c2]
        refine ⟨(i : Int), Ev.step (fun k => rfl) (Ev.pos (show (i : Int) < (s.size : Int) by omega) (Ev.bind hl (Ev.pos rfl (Ev.pos c3 (Ev.pos (by omega) ?_))))), hs2⟩
        by_cases c5 : bt s (i : Int) ≥ 48
        · refine Ev.pos c5 ?_
          rw [decide_eq_false (fun h => c4 ⟨c5, h⟩)]
          exact hs1
        · exact Ev.neg c5 hs1
    · rw [if_neg (fun h => h.elim c1 (fun h => c3 (by omega))), if_neg c2]
      exact ⟨(i : Int), Ev.step (fun k => rfl) (Ev.pos (show (i : Int) < (s.size : Int) by omega) (Ev.bind hl (Ev.pos rfl (Ev.neg c3 hs1)))), hs2⟩
theorem specName_ev (s : ByteArray) : Ev (fun k => spec_NameOK.f k s) (nameOKV s) := by
  unfold spec_NameOK.f nameOKV
  by_cases c1 : (s.size : Int) > 0
  · refine Ev.pos c1 ?_
    by_cases c2 : (s.size : Int) ≤ 40
    · refine Ev.pos c2 ?_
      obtain ⟨r, h1, h2⟩ := spec_word s (by omega) s.size 0 (by omega) (by omega)
      rw [decide_eq_true (show 1 ≤ s.size ∧ s.size ≤ 40 by omega), Bool.true_and]
      exact Ev.bind h1 (Ev.some' h2)
    · rw [decide_eq_false (fun h => c2 (by omega)), Bool.false_and]
      exact Ev.neg c2 (Ev.some' rfl)
  · rw [decide_eq_false (fun h => c1 (by omega)), Bool.false_and]
    exact Ev.neg c1 (Ev.some' rfl)

theorem rdF_mid (p : List S50) (x : S50) (r : List S50) : rd_T50 (p ++ x :: r) (p.length : Int) = x := getD_mid p x r z50
theorem rdl_mid (p : List S49) (x : S49) (r : List S49) : rd_T49 (p ++ x :: r) (p.length : Int) = x := getD_mid p x r z49
def gainsB (l : List Int) : Bool := l.all fun n => decide (0 ≤ n ∧ n ≤ 100000)
def okF (f : S50) : Bool := nameOKV f.f0 && decide (1 ≤ f.f1 ∧ f.f1 ≤ 2000) && decide (1 ≤ f.f3.length ∧ f.f3.length ≤ 6) && decide (0 ≤ f.f2 ∧ f.f2 ≤ (f.f3.length : Int)) && gainsB f.f3
/-- No name is among those before it. -/
def distB : List ByteArray → List ByteArray → Bool
  | _, [] => true
  | p, x :: a => (p.all fun y => decide (y.toList ≠ x.toList)) && distB (p ++ [x]) a
def facB : List S50 → List S50 → Bool
  | _, [] => true
  | p, x :: a => okF x && (p.all fun y => decide (y.f0.toList ≠ x.f0.toList)) && facB (p ++ [x]) a
theorem facB_eq : ∀ (a p : List S50), facB p a = (a.all okF && distB (p.map (·.f0)) (a.map (·.f0))) := by
  intro a
  induction a with
  | nil => intro p; rfl
  | cons x a ih =>
    intro p
    rw [facB, ih, List.all_cons, List.map_cons, distB, List.map_append, List.map_cons, List.map_nil, List.all_map]
    simp only [Function.comp_def]
    cases okF x <;> cases (p.all fun y => decide (y.f0.toList ≠ x.f0.toList)) <;> simp
theorem gains_idx : ∀ (a p : List Int), (p ++ a).length < 1000000 → ∃ r : Int, Ev (fun k => slices_IndexFunc_int_int.l0 k (p ++ a) ((p ++ a).length : Int) (p.length : Int)) r ∧ decide (r ≥ 0) = !gainsB a := by
  intro a
  induction a with
  | nil => intro p hl; exact ⟨-1, Ev.step (fun k => rfl) (Ev.neg (len_end p) (Ev.some' rfl)), rfl⟩
  | cons x a ih =>
    intro p hl
    have hl' := hl
    rw [List.length_append, List.length_cons] at hl'
    have hlit : impl_isFacing_1.f x = some (!decide (0 ≤ x ∧ x ≤ 100000)) := by
      unfold impl_isFacing_1.f
      rw [within_ev]; rfl
    by_cases c : 0 ≤ x ∧ x ≤ 100000
    · obtain ⟨r, h1, h2⟩ := ih (p ++ [x]) (by rw [← snoc]; exact hl)
      refine ⟨r, Ev.step (fun k => rfl) (Ev.pos (len_lt p x a) (Ev.pos (by omega) (Ev.pos (len_lt p x a) ?_))), ?_⟩
      · rw [rd_mid]
        refine Ev.ret hlit (Ev.neg (by rw [decide_eq_true c]; exact ff) ?_)
        rw [w64 (by omega) (by omega), ← len_snoc p x, snoc p x a]
        exact h1
      · rw [h2]
        unfold gainsB
        rw [List.all_cons, decide_eq_true c, Bool.true_and]
    · refine ⟨(p.length : Int), Ev.step (fun k => rfl) (Ev.pos (len_lt p x a) (Ev.pos (by omega) (Ev.pos (len_lt p x a) ?_))), ?_⟩
      · rw [rd_mid]
        exact Ev.ret hlit (Ev.pos (by rw [decide_eq_false c]; rfl) (Ev.some' rfl))
      · unfold gainsB
        rw [List.all_cons, decide_eq_false c, Bool.false_and]
        simp
theorem implFacing_ev (f : S50) : Ev (fun k => impl_isFacing.f k f.f0 f.f1 f.f2 f.f3) (okF f) := by
  unfold impl_isFacing.f okF
  refine Ev.bind (implName_ev f.f0) ?_
  cases nameOKV f.f0 with
  | false => exact Ev.neg ff (Ev.some' rfl)
  | true =>
    refine Ev.pos rfl (Ev.ret (within_ev _ _ _) ?_)
    by_cases c1 : 1 ≤ f.f1 ∧ f.f1 ≤ 2000
    · rw [decide_eq_true c1]
      refine Ev.pos rfl (Ev.ret (within_ev _ _ _) ?_)
      by_cases c2 : 1 ≤ f.f3.length ∧ f.f3.length ≤ 6
      · rw [decide_eq_true c2]
        refine Ev.pos (by simp; omega) (Ev.ret (within_ev _ _ _) ?_)
        by_cases c3 : 0 ≤ f.f2 ∧ f.f2 ≤ (f.f3.length : Int)
        · rw [decide_eq_true c3]
          refine Ev.pos rfl ?_
          obtain ⟨r, h1, h2⟩ := gains_idx f.f3 [] (by simp; omega)
          refine Ev.bind (Ev.bind h1 (Ev.some' rfl) : Ev (fun k => slices_ContainsFunc_int_int.f k f.f3) (decide (r ≥ 0))) (Ev.some' ?_)
          rw [h2]; simp
        · rw [decide_eq_false c3]
          exact Ev.neg ff (Ev.some' rfl)
      · rw [decide_eq_false c2]
        exact Ev.neg (by simp; omega) (Ev.some' rfl)
    · rw [decide_eq_false c1]
      exact Ev.neg ff (Ev.some' rfl)
theorem rdB_mid (p : List ByteArray) (x : ByteArray) (r : List ByteArray) : rdOf ByteArray.empty (p ++ x :: r) (p.length : Int) = x := getD_mid p x r ByteArray.empty
theorem has_name (x : ByteArray) : ∀ (a p : List ByteArray), (p ++ a).length < 1000000 → ∃ r : Int, Ev (fun k => slices_Index_string_string.l0 k (p ++ a) x ((p ++ a).length : Int) (p.length : Int)) r ∧ decide (r ≥ 0) = !(a.all fun y => decide (y.toList ≠ x.toList)) := by
  intro a
  induction a with
  | nil => intro p hl; exact ⟨-1, Ev.step (fun k => rfl) (Ev.neg (len_end p) (Ev.some' rfl)), rfl⟩
  | cons y a ih =>
    intro p hl
    have hl' := hl
    rw [List.length_append, List.length_cons] at hl'
    by_cases c : x.toList = y.toList
    · refine ⟨(p.length : Int), Ev.step (fun k => rfl) (Ev.pos (len_lt p y a) (Ev.pos (by omega) (Ev.pos (len_lt p y a) ?_))), ?_⟩
      · rw [rdB_mid]
        exact Ev.pos c (Ev.some' rfl)
      · simp [c]
    · obtain ⟨r, h1, h2⟩ := ih (p ++ [y]) (by rw [← snoc]; exact hl)
      refine ⟨r, Ev.step (fun k => rfl) (Ev.pos (len_lt p y a) (Ev.pos (by omega) (Ev.pos (len_lt p y a) ?_))), ?_⟩
      · rw [rdB_mid]
        refine Ev.neg c ?_
        rw [w64 (by omega) (by omega), ← len_snoc p y, snoc p y a]
        exact h1
      · have hn : y.toList ≠ x.toList := fun h => c h.symm
        rw [h2, List.all_cons, decide_eq_true hn, Bool.true_and]
theorem twice_l0 : ∀ (a p : List ByteArray), (p ++ a).length < 1000000 → Ev (fun k => impl_hasTwice_string.l0 k (p ++ a) (p ++ a) ((p ++ a).length : Int) (p.length : Int)) (!distB p a) := by
  intro a
  induction a with
  | nil => intro p hl; exact Ev.step (fun k => rfl) (Ev.neg (len_end p) (Ev.some' rfl))
  | cons x a ih =>
    intro p hl
    have hl' := hl
    rw [List.length_append, List.length_cons] at hl'
    obtain ⟨r, h1, h2⟩ := has_name x p [] (by simp; omega)
    have hc : Ev (fun k => slices_Contains_string_string.f k p x) (decide (r ≥ 0)) := Ev.bind h1 (Ev.some' rfl)
    rw [h2] at hc
    refine Ev.step (fun k => rfl) (Ev.pos (len_lt p x a) (Ev.pos (by omega) (Ev.pos (len_lt p x a) (Ev.pos (by have := len_lt p x a; omega) ?_))))
    rw [rdB_mid, Int.toNat_natCast, List.take_left]
    refine Ev.bind hc ?_
    rw [distB]
    cases (p.all fun y => decide (y.toList ≠ x.toList)) with
    | false => exact Ev.pos rfl (Ev.some' rfl)
    | true =>
      refine Ev.neg ff ?_
      rw [w64 (by omega) (by omega), ← len_snoc p x, snoc p x a, Bool.true_and]
      exact ih (p ++ [x]) (by rw [← snoc]; exact hl)
theorem implFac_l0 (L : List S50) : ∀ (a p : List S50), (p ++ a).length < 1000 → L = p ++ a →
    Ev (fun k => impl_FacingsOK.l0 k (p.map (·.f0)) (p ++ a) ((p ++ a).length : Int) (p.length : Int)) (a.all okF && distB [] (L.map (·.f0))) := by
  intro a
  induction a with
  | nil =>
    intro p hl hL
    rw [List.append_nil] at hL
    subst hL
    have htw : Ev (fun k => impl_hasTwice_string.f k (L.map (·.f0))) (!distB [] (L.map (·.f0))) := by
      have h := twice_l0 (L.map fun x : S50 => x.f0) [] (by simp at hl; simp; omega)
      exact h
    refine Ev.step (fun k => rfl) (Ev.neg (len_end L) (Ev.bind htw (Ev.some' ?_)))
    simp
  | cons x a ih =>
    intro p hl hL
    have hl' := hl
    rw [List.length_append, List.length_cons] at hl'
    refine Ev.step (fun k => rfl) (Ev.pos (len_lt p x a) (Ev.pos (by omega) (Ev.pos (len_lt p x a) ?_)))
    rw [rdF_mid]
    refine Ev.bind (implFacing_ev x) ?_
    rw [List.all_cons]
    cases okF x with
    | false => exact Ev.neg ff (Ev.some' rfl)
    | true =>
      refine Ev.pos rfl (Ev.pos (by simp; omega) ?_)
      rw [w64 (by omega) (by omega), ← len_snoc p x, snoc p x a, Bool.true_and, show p.map (·.f0) ++ [x.f0] = (p ++ [x]).map (·.f0) by simp]
      exact ih (p ++ [x]) (by rw [← snoc]; exact hl) (by rw [hL, snoc])
def facingsV (l : List S50) : Bool := decide (l.length ≤ 12) && facB [] l
theorem implFacings_ev (l : List S50) : Ev (fun k => impl_FacingsOK.f k l) (facingsV l) := by
  unfold impl_FacingsOK.f facingsV
  by_cases c : (l.length : Int) > 12
  · rw [decide_eq_false (by omega), Bool.false_and]
    exact Ev.pos c (Ev.some' rfl)
  · rw [decide_eq_true (by omega), Bool.true_and, facB_eq]
    exact Ev.neg c (implFac_l0 l l [] (by simp; omega) rfl)
theorem spec_gains (L : List S50) (x : Int) (n : ByteArray) (u w : Int) (v : Bool) : ∀ (b q : List Int), (q ++ b).length < 1000000 →
    (gainsB b = true → Ev (fun k => spec_FacingsOK.l2 k L x 0 n u w (q ++ b)) v) → (gainsB b = false → v = false) → Ev (fun k => spec_FacingsOK.l1 k L x (q.length : Int) n u w (q ++ b)) v := by
  intro b
  induction b with
  | nil => intro q hl h _; exact Ev.step (fun k => rfl) (Ev.neg (len_end q) (h rfl))
  | cons y b ih =>
    intro q hl h hbad
    have hl' := hl
    rw [List.length_append, List.length_cons] at hl'
    refine Ev.step (fun k => rfl) (Ev.pos (len_lt q y b) (Ev.pos (by omega) (Ev.ret (l01In_ev _ _ _) ?_)))
    rw [rd_mid]
    by_cases c : 0 ≤ y ∧ y ≤ 100000
    · refine Ev.pos (decide_eq_true c) ?_
      have e : gainsB (y :: b) = gainsB b := by
        unfold gainsB
        rw [List.all_cons, decide_eq_true c, Bool.true_and]
      rw [e] at h hbad
      rw [w64 (by omega) (by omega), ← len_snoc q y, snoc q y b]
      exact ih (q ++ [y]) (by rw [← snoc]; exact hl) (fun g => by rw [← snoc]; exact h g) hbad
    · rw [hbad (by unfold gainsB; rw [List.all_cons, decide_eq_false c, Bool.false_and])]
      exact Ev.neg (by rw [decide_eq_false c]; exact ff) (Ev.some' rfl)
theorem spec_dist (n : ByteArray) (u w : Int) (g : List Int) (v : Bool) (P r : List S50) (hP : P.length < 1000) (hr : 0 < r.length) : ∀ (b q : List S50), P = q ++ b →
    ((b.all fun y => decide (y.f0.toList ≠ n.toList)) = true → Ev (fun k => spec_FacingsOK.l0 k (P ++ r) (wrap64 ((P.length : Int) + 1))) v) → ((b.all fun y => decide (y.f0.toList ≠ n.toList)) = false → v = false) →
    Ev (fun k => spec_FacingsOK.l2 k (P ++ r) (P.length : Int) (q.length : Int) n u w g) v := by
  intro b
  induction b with
  | nil =>
    intro q hq h _
    rw [List.append_nil] at hq
    subst hq
    exact Ev.step (fun k => rfl) (Ev.neg (show ¬ (P.length : Int) < (P.length : Int) by omega) (h rfl))
  | cons y b ih =>
    intro q hq h hbad
    have hlt : (q.length : Int) < (P.length : Int) := by rw [hq]; exact len_lt q y b
    have hrd : rd_T50 (P ++ r) (q.length : Int) = y := by rw [hq, List.append_assoc]; exact rdF_mid q y (b ++ r)
    refine Ev.step (fun k => rfl) (Ev.pos hlt (Ev.pos (by omega) (Ev.pos (by rw [List.length_append]; omega) ?_)))
    rw [hrd]
    by_cases c : y.f0.toList = n.toList
    · rw [hbad (by rw [List.all_cons, decide_eq_false (fun h => h c), Bool.false_and])]
      exact Ev.pos c (Ev.some' rfl)
    · have hn : y.f0.toList ≠ n.toList := c
      rw [List.all_cons, decide_eq_true hn, Bool.true_and] at h hbad
      refine Ev.neg c ?_
      rw [w64 (by omega) (by omega), ← len_snoc q y]
      exact ih (q ++ [y]) (by rw [hq, snoc]) h hbad
theorem spec_l0 : ∀ (a p : List S50), (p ++ a).length < 1000 → Ev (fun k => spec_FacingsOK.l0 k (p ++ a) (p.length : Int)) (facB p a) := by
  intro a
  induction a with
  | nil => intro p hl; exact Ev.step (fun k => rfl) (Ev.neg (len_end p) (Ev.some' rfl))
  | cons x a ih =>
    intro p hl
    have hl' := hl
    rw [List.length_append, List.length_cons] at hl'
    have hbad : okF x = false → Ev (fun k => spec_FacingsOK.j1 k (p ++ x :: a) (p.length : Int) true x.f0 x.f1 x.f2 x.f3) (facB p (x :: a)) := by
      intro h
      rw [facB, h, Bool.false_and, Bool.false_and]
      exact Ev.via (Ev.some' rfl) (fun k => rfl)
    refine Ev.step (fun k => rfl) (Ev.pos (len_lt p x a) (Ev.pos (by omega) ?_))
    rw [rdF_mid]
    refine Ev.bind (specName_ev x.f0) ?_
    by_cases c0 : nameOKV x.f0 = true
    · refine Ev.pos c0 (Ev.ret (l01In_ev _ _ _) ?_)
      by_cases c1 : 1 ≤ x.f1 ∧ x.f1 ≤ 2000
      · refine Ev.pos (decide_eq_true c1) ?_
        by_cases c2 : (x.f3.length : Int) < 1
        · exact Ev.pos c2 (hbad (by unfold okF; rw [decide_eq_false (show ¬ (1 ≤ x.f3.length ∧ x.f3.length ≤ 6) by omega)]; simp))
        refine Ev.neg c2 ?_
        by_cases c3 : (x.f3.length : Int) > 6
        · exact Ev.pos c3 (hbad (by unfold okF; rw [decide_eq_false (show ¬ (1 ≤ x.f3.length ∧ x.f3.length ≤ 6) by omega)]; simp))
        refine Ev.neg c3 (Ev.ret (l01In_ev _ _ _) ?_)
        by_cases c4 : 0 ≤ x.f2 ∧ x.f2 ≤ (x.f3.length : Int)
        · rw [show (!decide (0 ≤ x.f2 ∧ x.f2 ≤ (x.f3.length : Int))) = false by rw [decide_eq_true c4]; rfl]
          have e : okF x = gainsB x.f3 := by
            unfold okF
            rw [c0, decide_eq_true c1, decide_eq_true (show 1 ≤ x.f3.length ∧ x.f3.length ≤ 6 by omega), decide_eq_true c4]
            simp
          refine Ev.via (f := fun k => spec_FacingsOK.l1 k (p ++ x :: a) (p.length : Int) 0 x.f0 x.f1 x.f2 x.f3) ?_ (fun k => rfl)
          refine spec_gains _ _ x.f0 x.f1 x.f2 _ x.f3 [] (by simp; omega) (fun hg => ?_) (fun hg => by rw [facB, e, hg, Bool.false_and, Bool.false_and])
          rw [facB, e, hg, Bool.true_and]
          refine spec_dist x.f0 x.f1 x.f2 _ _ p (x :: a) (by omega) (by simp) p [] rfl (fun hd => ?_) (fun hd => by rw [hd, Bool.false_and])
          rw [hd, Bool.true_and, w64 (by omega) (by omega), ← len_snoc p x, snoc p x a]
          exact ih (p ++ [x]) (by rw [← snoc]; exact hl)
        · rw [show (!decide (0 ≤ x.f2 ∧ x.f2 ≤ (x.f3.length : Int))) = true by rw [decide_eq_false c4]; rfl]
          exact hbad (by unfold okF; rw [decide_eq_false c4]; simp)
      · exact Ev.neg (by rw [decide_eq_false c1]; exact ff) (hbad (by unfold okF; rw [decide_eq_false c1]; simp))
    · exact Ev.neg c0 (hbad (by unfold okF; rw [show nameOKV x.f0 = false by simpa using c0]; simp))
theorem specFacings_ev (l : List S50) : Ev (fun k => spec_FacingsOK.f k l) (facingsV l) := by
  unfold spec_FacingsOK.f facingsV
  by_cases c : (l.length : Int) > 12
  · rw [decide_eq_false (by omega), Bool.false_and]
    exact Ev.pos c (Ev.some' rfl)
  · rw [decide_eq_true (by omega), Bool.true_and]
    exact Ev.neg c (spec_l0 l [] (by simp; omega))
/-! ### the law's own -/
def toFacingV (x : S49) : S50 := ⟨x.f0, x.f1, x.f2, x.f3⟩
theorem toFacingS_l0 : ∀ (a p : List S49) (t : List S50), t.length = a.length → (p ++ a).length < 4611686018427387904 → (∀ x ∈ a, x.f3.length ≤ 1048576) →
    Ev (fun k => laws_toFacingS.l0 k (p ++ a) (p.map toFacingV ++ t) (p.length : Int)) ((p ++ a).map toFacingV) := by
  intro a
  induction a with
  | nil =>
    intro p t ht hl _
    obtain rfl : t = [] := List.eq_nil_of_length_eq_zero ht
    exact Ev.step (fun k => rfl) (Ev.neg (len_end p) (Ev.some' (by simp)))
  | cons x a ih =>
    intro p t ht hl hx
    match t, ht with
    | y :: t, ht =>
      have hl' : (p ++ x :: a).length < 4611686018427387904 := hl
      rw [List.length_append, List.length_cons] at hl'
      have ht1 : Ev (fun k => laws_toFacing.f k x.f0 x.f1 x.f2 x.f3) (x.f0, x.f1, x.f2, x.f3) := Ev.bind (toIntS_ev x.f3 (hx x (by simp))) (Ev.some' rfl)
      refine Ev.step (fun k => rfl) (Ev.pos (len_lt p x a) (Ev.pos (by omega) ?_))
      rw [rdl_mid]
      refine Ev.bind ht1 (Ev.pos (by simp; omega) ?_)
      have hs : (p.map toFacingV ++ y :: t).set (p.length : Int).toNat ⟨x.f0, x.f1, x.f2, x.f3⟩ = p.map toFacingV ++ toFacingV x :: t := by
        rw [show (p.length : Int) = ((p.map toFacingV).length : Int) by simp]
        exact set_mid _ _ _ _
      simp only
      rw [hs, w64 (by omega) (by omega), ← len_snoc p x, snoc p x a, snoc _ (toFacingV x) t]
      rw [show p.map toFacingV ++ [toFacingV x] = (p ++ [x]).map toFacingV by simp]
      exact ih (p ++ [x]) t (by simpa using ht) (by rw [← snoc]; exact hl) (fun z hz => hx z (by simp [hz]))
theorem toFacingS_ev (a : List S49) (hl : a.length ≤ 1048576) (hx : ∀ x ∈ a, x.f3.length ≤ 1048576) : Ev (fun k => laws_toFacingS.f k a) (a.map toFacingV) := by
  unfold laws_toFacingS.f
  refine Ev.pos (by omega) (Ev.pos (by omega) ?_)
  rw [Int.toNat_natCast]
  exact toFacingS_l0 a [] (List.replicate a.length z50) (by simp) (by simp; omega) hx
theorem eqFacing_ev (x : S50) (hx : x.f3.length ≤ 1048576) : Ev (fun k => laws_eqFacing.f k x.f0 x.f1 x.f2 x.f3 x.f0 x.f1 x.f2 x.f3) true := by
  unfold laws_eqFacing.f
  refine Ev.pos rfl (Ev.pos rfl (Ev.pos rfl (Ev.bind (eqIntS_ev x.f3 x.f3 (by omega)) (Ev.pos (by simp) (Ev.some' rfl)))))
theorem eqFacingS_l0 : ∀ (a p : List S50), (p ++ a).length < 4611686018427387904 → (∀ x ∈ a, x.f3.length ≤ 1048576) →
    Ev (fun k => laws_eqFacingS.l0 k (p ++ a) (p ++ a) (p.length : Int)) true := by
  intro a
  induction a with
  | nil => intro p hl _; exact Ev.step (fun k => rfl) (Ev.neg (len_end p) (Ev.some' rfl))
  | cons x a ih =>
    intro p hl hx
    have hl' : (p ++ x :: a).length < 4611686018427387904 := hl
    rw [List.length_append, List.length_cons] at hl'
    refine Ev.step (fun k => rfl) (Ev.pos (len_lt p x a) (Ev.pos (by omega) (Ev.pos (len_lt p x a) ?_)))
    rw [rdF_mid]
    refine Ev.bind (eqFacing_ev x (hx x (by simp))) (Ev.pos rfl ?_)
    rw [w64 (by omega) (by omega), ← len_snoc p x, snoc p x a]
    exact ih (p ++ [x]) (by rw [← snoc]; exact hl) (fun z hz => hx z (by simp [hz]))
theorem eqFacingS_ev (a : List S50) (hl : a.length < 4611686018427387904) (hx : ∀ x ∈ a, x.f3.length ≤ 1048576) : Ev (fun k => laws_eqFacingS.f k a a) true := by
  unfold laws_eqFacingS.f
  exact Ev.pos rfl (eqFacingS_l0 a [] hl hx)
theorem szFacing_ok (x : S49) (hx : x.f0.size ≤ 9223372036854775807 ∧ x.f3.length ≤ 9223372036854775807) (n : Int) (h0 : 0 ≤ n) (h1 : n ≤ 1048576) : ∃ r, laws_szFacing.f x.f0 x.f1 x.f2 x.f3 n = some r ∧ (r < 0 ∨ (0 ≤ r ∧ r ≤ n ∧ x.f3.length ≤ 1048576)) := by
  unfold laws_szFacing.f laws_szIntS.f
  rw [w64 (x := n - (x.f0.size : Int)) (by omega) (by omega)]
  by_cases c : n - (x.f0.size : Int) < 0
  · rw [if_pos c]; exact ⟨_, rfl, .inl (by omega)⟩
  rw [if_neg c, w64 (x := n - (x.f0.size : Int) - (x.f3.length : Int)) (by omega) (by omega)]
  by_cases d : n - (x.f0.size : Int) - (x.f3.length : Int) < 0
  · rw [if_pos d]; exact ⟨-1, rfl, .inl (by omega)⟩
  · rw [if_neg d]
    refine ⟨n - (x.f0.size : Int) - (x.f3.length : Int), ?_, .inr ⟨by omega, by omega, by omega⟩⟩
    rw [Option.bind_some, if_neg d]
theorem szFacingS_l0 : ∀ (a p : List S49) (n : Int), (p ++ a).length < 4611686018427387904 → 0 ≤ n → n ≤ 1048576 → (∀ x ∈ a, x.f0.size ≤ 9223372036854775807 ∧ x.f3.length ≤ 9223372036854775807) →
    ∃ r, Ev (fun k => laws_szFacingS.l0 k (p ++ a) n (p.length : Int)) r ∧ (r < 0 ∨ (0 ≤ r ∧ ∀ x ∈ a, x.f3.length ≤ 1048576)) := by
  intro a
  induction a with
  | nil => intro p n hl h0 h1 _; exact ⟨n, Ev.step (fun k => rfl) (Ev.neg (len_end p) (Ev.some' rfl)), .inr ⟨h0, by simp⟩⟩
  | cons x a ih =>
    intro p n hl h0 h1 hx
    have hl' : (p ++ x :: a).length < 4611686018427387904 := hl
    rw [List.length_append, List.length_cons] at hl'
    obtain ⟨r, e, hr⟩ := szFacing_ok x (hx x (by simp)) n h0 h1
    rcases hr with hr | ⟨r0, r1, r2⟩
    · refine ⟨-1, Ev.step (fun k => rfl) (Ev.pos (len_lt p x a) (Ev.pos (by omega) ?_)), .inl (by omega)⟩
      rw [rdl_mid]
      exact Ev.ret e (Ev.pos hr (Ev.some' rfl))
    · obtain ⟨q, g1, g2⟩ := ih (p ++ [x]) r (by rw [← snoc]; exact hl) r0 (by omega) (fun z hz => hx z (by simp [hz]))
      refine ⟨q, Ev.step (fun k => rfl) (Ev.pos (len_lt p x a) (Ev.pos (by omega) ?_)), ?_⟩
      · rw [rdl_mid]
        refine Ev.ret e (Ev.neg (by omega) ?_)
        rw [w64 (by omega) (by omega), ← len_snoc p x, snoc p x a]
        exact g1
      · rcases g2 with g2 | ⟨g2, g3⟩
        · exact .inl g2
        · refine .inr ⟨g2, fun z hz => ?_⟩
          rcases List.mem_cons.1 hz with rfl | hz
          · exact r2
          · exact g3 z hz
theorem szFacingS_ev (l : List S49) (hl : l.length ≤ 9223372036854775807) (hx : ∀ x ∈ l, x.f0.size ≤ 9223372036854775807 ∧ x.f3.length ≤ 9223372036854775807) :
    ∃ r, Ev (fun k => laws_szFacingS.f k l 1048576) r ∧ (r < 0 ∨ (¬ r < 0 ∧ l.length ≤ 1048576 ∧ ∀ x ∈ l, x.f3.length ≤ 1048576)) := by
  unfold laws_szFacingS.f
  rw [w64 (by omega) (by omega)]
  by_cases h : (1048576 : Int) - (l.length : Int) < 0
  · exact ⟨-1, Ev.pos h (Ev.some' rfl), .inl (by omega)⟩
  · obtain ⟨r, h1, h2⟩ := szFacingS_l0 l [] (1048576 - (l.length : Int)) (by simp; omega) (by omega) (by omega) hx
    refine ⟨r, Ev.neg h h1, ?_⟩
    rcases h2 with h2 | ⟨h2, h3⟩
    · exact .inl h2
    · exact .inr ⟨by omega, by omega, h3⟩
theorem FnExactFacingsOK : laws_FnExactFacingsOK.Pure := by
  intro l hl
  refine Ev.rounds (?_ : Ev (fun k => laws_FnExactFacingsOK.f k l) true)
  unfold laws_FnExactFacingsOK.f
  obtain ⟨t, ht, h⟩ := szFacingS_ev l hl.1 (fun x hx => ⟨(hl.2 x hx).1, (hl.2 x hx).2.2.2.1⟩)
  refine Ev.bind ht ?_
  rcases h with h | ⟨h, h2, h3⟩
  · exact Ev.pos h (Ev.some' rfl)
  refine Ev.neg h ?_
  have tR := toFacingS_ev l h2 h3
  have h4 : ∀ x ∈ l.map toFacingV, x.f3.length ≤ 1048576 := by
    intro x hx
    obtain ⟨y, hy, rfl⟩ := List.mem_map.1 hx
    exact h3 y hy
  have eF := eqFacingS_ev (l.map toFacingV) (by simp; omega) h4
  refine Ev.bind tR (Ev.bind (specFacings_ev _) (Ev.bind tR (Ev.bind (implFacings_ev _) (Ev.neg (by simp) (Ev.bind tR (Ev.bind eF (Ev.pos rfl (Ev.some' rfl))))))))

end Go.Proofs.Ytecbcibblmknpaa.Pure
