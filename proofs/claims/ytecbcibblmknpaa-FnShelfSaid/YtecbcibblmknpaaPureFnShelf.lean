/- Of drawn facings no counts that fit gain more than the program's best, which fits, and more width never gains less: the law's plain statement, with no condition. -/
import Derived.Test.YtecbcibblmknpaaXFnShelfx16
import Derived.Test.YtecbcibblmknpaaAx
import Derived.Test.YtecbcibblmknpaaIdx
namespace Go.Proofs.Ytecbcibblmknpaa.Pure
open Go.RowKit Go.Proofs.Ytecbcibblmknpaa.XFnShelf Go.Proofs.YtecbcibblmknpaaW.PrintWords Go.Proofs.YtecbcibblmknpaaW.PrintLast
open Go.Proofs.YtecbcibblmknpaaW.Ax Go.Proofs.YtecbcibblmknpaaW.Idx
set_option linter.unusedVariables false
set_option linter.unusedSimpArgs false
theorem within_ev (a b c : Int) : impl_within.f a b c = some (decide (b ≤ a ∧ a ≤ c)) := by
  unfold impl_within.f
  by_cases h : a ≥ b
  · rw [if_pos h]; congr 1; rw [decide_eq_decide]; omega
  · rw [if_neg h]; congr 1; symm; rw [decide_eq_false_iff_not]; omega
theorem l01In_ev (a b c : Int) : spec_l01In.f a b c = some (decide (b ≤ a ∧ a ≤ c)) := by
  unfold spec_l01In.f
  by_cases h : a ≥ b
  · rw [if_pos h]; congr 1; rw [decide_eq_decide]; omega
  · rw [if_neg h]; congr 1; symm; rw [decide_eq_false_iff_not]; omega
/-! ### names -/
def codeP (m : Int) : Prop := (192 ≤ m ∧ m ≤ 591 ∧ m ≠ 215 ∧ m ≠ 247) ∨ (913 ≤ m ∧ m ≤ 969) ∨ (1040 ≤ m ∧ m ≤ 1103)
instance (m : Int) : Decidable (codeP m) := by unfold codeP; exact inferInstance
def wideP (c n : Int) : Prop := (194 ≤ c ∧ c ≤ 223) ∧ (128 ≤ n ∧ n ≤ 191) ∧ codeP ((c - 192) * 64 + n - 128)
instance (c n : Int) : Decidable (wideP c n) := by unfold wideP; exact inferInstance
def plainP (c : Int) : Prop := (97 ≤ c ∧ c ≤ 122) ∨ (65 ≤ c ∧ c ≤ 90) ∨ c = 95
instance (c : Int) : Decidable (plainP c) := by unfold plainP; exact inferInstance
def digitP (c : Int) : Prop := 48 ≤ c ∧ c ≤ 57
instance (c : Int) : Decidable (digitP c) := by unfold digitP; exact inferInstance
/-- The rest of a name, from place i on. -/
def nameB (s : ByteArray) : Nat → Nat → Bool
  | 0, _ => true
  | d + 1, i => if s.size ≤ i then true else if plainP (bt s i) ∨ (0 < i ∧ digitP (bt s i)) then nameB s d (i + 1) else if i + 1 < s.size ∧ wideP (bt s i) (bt s ((i + 1 : Nat) : Int)) then nameB s d (i + 2) else false
theorem someD {b : Bool} {P : Prop} [Decidable P] (h : b = true ↔ P) : some b = some (decide P) := by
  by_cases c : P
  · rw [decide_eq_true c, h.2 c]
  · rw [decide_eq_false c]
    cases b with
    | false => rfl
    | true => exact absurd (h.1 rfl) c
theorem isLetter_ev (c : Int) : impl_isLetter.f c = some (decide (plainP c)) := by
  unfold impl_isLetter.f
  repeat' split
  all_goals (refine someD ?_; unfold plainP; (try simp only [beq_iff_eq]); first | omega | (simp; omega))
theorem isDigit_ev (c : Int) : impl_isDigit.f c = some (decide (digitP c)) := by
  unfold impl_isDigit.f
  repeat' split
  all_goals (refine someD ?_; unfold digitP; (try simp only [decide_eq_true_eq]); first | omega | (simp; omega))
theorem or6 {x y : Int} (hx₀ : 0 ≤ x) (hx : x % 64 = 0) (hx₁ : x < 1000000) (h₀ : 0 ≤ y) (h₁ : y < 64) : Go.bits .or .i64 x y = x + y :=
  Go.bits_join .i64 31 (by decide) (fun n a b => by rw [Go.IntKind.wrap_i64]; omega) 6 x y hx₀ hx (by omega) h₀ h₁ (by omega)
theorem code_eq (c n : Int) (hc : 194 ≤ c ∧ c ≤ 223) (hn : 128 ≤ n ∧ n ≤ 191) : Go.bits .or .i64 (wrap64 ((wrap64 (Go.bits .and .u8 c 31)) * 64)) (wrap64 (Go.bits .and .u8 n 63)) = (c - 192) * 64 + n - 128 := by
  have e1 : Go.bits .and .u8 c 31 = c % 32 := Go.u8_and31 c (by omega) (by omega)
  have e2 : Go.bits .and .u8 n 63 = n % 64 := Go.u8_and63 n (by omega) (by omega)
  rw [e1, e2, w64 (x := c % 32) (by omega) (by omega), w64 (x := n % 64) (by omega) (by omega), w64 (x := c % 32 * 64) (by omega) (by omega), or6 (by omega) (by omega) (by omega) (by omega) (by omega)]
  omega
theorem code_ev (m : Int) : ((impl_within.f m 192 591).bind fun t137 => (if t137 = true then (if m = 215 then ((impl_within.f m 913 969).bind fun t138 => (if t138 = true then (some true) else ((impl_within.f m 1040 1103).bind fun t139 => (some t139)))) else (if m = 247 then ((impl_within.f m 913 969).bind fun t140 => (if t140 = true then (some true) else ((impl_within.f m 1040 1103).bind fun t141 => (some t141)))) else (some true))) else ((impl_within.f m 913 969).bind fun t142 => (if t142 = true then (some true) else ((impl_within.f m 1040 1103).bind fun t143 => (some t143)))))) = some (decide (codeP m)) := by
  simp only [within_ev, Option.bind_some]
  simp only [decide_eq_true_eq]
  repeat' split
  all_goals (refine someD ?_; unfold codeP; (try simp only [decide_eq_true_eq]); first | omega | (simp; omega))
theorem wide_ev (s : ByteArray) (h : s.size = 2) : Ev (fun k => impl_isWideLetter.f k s) (decide (wideP (bt s 0) (bt s 1))) := by
  unfold impl_isWideLetter.f
  have hj : ∀ b : Bool, b = false ∨ b = true := by intro b; cases b <;> simp
  have hbad : ¬ wideP (bt s 0) (bt s 1) → Ev (fun k => impl_isWideLetter.j0 k s true) (decide (wideP (bt s 0) (bt s 1))) := fun h => Ev.via (Ev.some' (decide_eq_false h).symm) (fun k => rfl)
  refine Ev.pos (by omega) ?_
  by_cases c1 : bt s 0 < 194
  · exact Ev.pos c1 (hbad (fun h => by have := h.1; omega))
  refine Ev.neg c1 ?_
  by_cases c2 : bt s 0 > 223
  · exact Ev.pos c2 (hbad (fun h => by have := h.1; omega))
  refine Ev.neg c2 (Ev.pos (by omega) ?_)
  by_cases c3 : bt s 1 < 128
  · exact Ev.pos c3 (hbad (fun h => by have := h.2.1; omega))
  refine Ev.neg c3 ?_
  by_cases c4 : bt s 1 > 191
  · rw [decide_eq_true c4]
    exact hbad (fun h => by have := h.2.1; omega)
  rw [decide_eq_false c4]
  refine Ev.up1 ?_
  simp only [impl_isWideLetter.j0, if_neg ff]
  rw [code_eq _ _ (by omega) (by omega)]
  refine Ev.pos (by omega) (Ev.pos (by omega) ?_)
  have hw : wideP (bt s 0) (bt s 1) ↔ codeP ((bt s 0 - 192) * 64 + bt s 1 - 128) := ⟨fun h => h.2.2, fun h => ⟨by omega, by omega, h⟩⟩
  rw [decide_eq_decide.2 hw]
  exact Ev.const (code_ev _)
theorem bt_extract (s : ByteArray) (i : Nat) (h : i + 2 ≤ s.size) : (s.extract i (i + 2)).size = 2 ∧ bt (s.extract i (i + 2)) 0 = bt s (i : Int) ∧ bt (s.extract i (i + 2)) 1 = bt s ((i + 1 : Nat) : Int) := by
  have hs : (s.extract i (i + 2)).size = 2 := by rw [ByteArray.size_extract]; omega
  refine ⟨hs, ?_, ?_⟩
  · unfold bt
    rw [dif_pos (by rw [hs]; decide), dif_pos (by rw [Int.toNat_natCast]; omega)]
    rw [ByteArray.getElem_extract]
    congr 2
  · unfold bt
    rw [dif_pos (by rw [hs]; decide), dif_pos (by rw [Int.toNat_natCast]; omega)]
    rw [ByteArray.getElem_extract]
    congr 2
theorem impl_name_l0 (s : ByteArray) (hs : s.size ≤ 40) : ∀ (d i : Nat), s.size ≤ i + d → i ≤ 50 → Ev (fun k => impl_NameOK.l0 k s (i : Int)) (nameB s d i) := by
  intro d
  induction d with
  | zero => intro i h hi; exact Ev.step (fun k => rfl) (Ev.neg (show ¬ (i : Int) < (s.size : Int) by omega) (Ev.some' rfl))
  | succ d ih =>
    intro i h hi
    rw [nameB]
    by_cases c0 : s.size ≤ i
    · rw [if_pos c0]
      exact Ev.step (fun k => rfl) (Ev.neg (show ¬ (i : Int) < (s.size : Int) by omega) (Ev.some' rfl))
    rw [if_neg c0]
    have hgo : Ev (fun k => impl_NameOK.j1 k s (i : Int) true) (nameB s d (i + 1)) := by
      refine Ev.via (f := fun k => impl_NameOK.l0 k s (wrap64 ((i : Int) + 1))) ?_ (fun k => rfl)
      rw [w64n (by omega)]
      exact ih (i + 1) (by omega) (by omega)
    have hwide : Ev (fun k => impl_NameOK.j1 k s (i : Int) false) (if i + 1 < s.size ∧ wideP (bt s (i : Int)) (bt s ((i + 1 : Nat) : Int)) then nameB s d (i + 2) else false) := by
      refine Ev.up1 ?_
      simp only [impl_NameOK.j1, if_neg ff]
      rw [w64n (by omega), show wrap64 ((i : Int) + 2) = ((i + 2 : Nat) : Int) by rw [w64 (by omega) (by omega)]; omega, Int.toNat_natCast, Int.toNat_natCast, w64n (by omega)]
      by_cases c1 : i + 1 < s.size
      · obtain ⟨x1, x2, x3⟩ := bt_extract s i (by omega)
        have wv := wide_ev _ x1
        rw [x2, x3] at wv
        refine Ev.pos (by omega) (Ev.pos (by omega) (Ev.pos (by omega) (Ev.pos (by omega) (Ev.bind wv ?_))))
        by_cases c2 : wideP (bt s (i : Int)) (bt s ((i + 1 : Nat) : Int))
        · rw [if_pos ⟨c1, c2⟩]
          exact Ev.pos (decide_eq_true c2) (ih (i + 2) (by omega) (by omega))
        · rw [if_neg (fun h => c2 h.2)]
          exact Ev.neg (by rw [decide_eq_false c2]; exact ff) (Ev.some' rfl)
      · rw [if_neg (fun h => c1 h.1)]
        exact Ev.neg (by omega) (Ev.some' rfl)
    refine Ev.step (fun k => rfl) (Ev.pos (show (i : Int) < (s.size : Int) by omega) (Ev.pos (by omega) (Ev.ret (isLetter_ev _) ?_)))
    by_cases c1 : plainP (bt s (i : Int))
    · rw [if_pos (.inl c1)]
      exact Ev.pos (decide_eq_true c1) hgo
    refine Ev.neg (by simp [c1]) ?_
    by_cases c2 : (i : Int) > 0
    · refine Ev.pos c2 (Ev.ret (isDigit_ev _) ?_)
      by_cases c3 : digitP (bt s (i : Int))
      · rw [if_pos (.inr ⟨by omega, c3⟩), decide_eq_true c3]
        exact hgo
      · rw [if_neg (fun h => h.elim c1 (fun h => c3 h.2)), decide_eq_false c3]
        exact hwide
    · rw [if_neg (fun h => h.elim c1 (fun h => c2 (by omega)))]
      exact Ev.neg c2 hwide
def nameOKV (s : ByteArray) : Bool := decide (1 ≤ s.size ∧ s.size ≤ 40) && nameB s s.size 0
theorem implName_ev (s : ByteArray) : Ev (fun k => impl_NameOK.f k s) (nameOKV s) := by
  unfold impl_NameOK.f nameOKV
  refine Ev.ret (within_ev _ _ _) ?_
  by_cases c : 1 ≤ s.size ∧ s.size ≤ 40
  · rw [decide_eq_true c, Bool.true_and]
    exact Ev.pos (by simp; omega) (impl_name_l0 s c.2 s.size 0 (by omega) (by omega))
  · rw [decide_eq_false c, Bool.false_and]
    exact Ev.neg (by simp; omega) (Ev.some' rfl)
def letV (s : ByteArray) (i : Nat) : Int := if plainP (bt s (i : Int)) then 1 else if i + 1 < s.size ∧ wideP (bt s (i : Int)) (bt s ((i + 1 : Nat) : Int)) then 2 else 0
theorem specLetter_ev (s : ByteArray) (i : Nat) (hi : i < s.size) (hs : s.size ≤ 40) : Ev (fun k => spec_l00Letter.f k s (i : Int)) (letV s i) := by
  have hr := bt_range s (i : Int)
  have hr2 := bt_range s ((i + 1 : Nat) : Int)
  have hw : wrap64 ((i : Int) + 1) = ((i + 1 : Nat) : Int) := w64n (by omega)
  have hyes : plainP (bt s (i : Int)) → Ev (fun k => spec_l00Letter.j0 k s (i : Int) (bt s (i : Int)) true) (letV s i) := by
    intro h
    unfold letV
    rw [if_pos h]
    exact Ev.via (Ev.some' rfl) (fun k => rfl)
  have hno : ¬ plainP (bt s (i : Int)) → Ev (fun k => spec_l00Letter.j0 k s (i : Int) (bt s (i : Int)) false) (letV s i) := by
    intro h
    unfold letV
    rw [if_neg h]
    have hbad : ¬ (i + 1 < s.size ∧ wideP (bt s (i : Int)) (bt s ((i + 1 : Nat) : Int))) → Ev (fun k => spec_l00Letter.j1 k s (i : Int) (bt s (i : Int)) true) (if i + 1 < s.size ∧ wideP (bt s (i : Int)) (bt s ((i + 1 : Nat) : Int)) then (2 : Int) else 0) := by
      intro h
      rw [if_neg h]
      exact Ev.via (Ev.some' rfl) (fun k => rfl)
    refine Ev.up1 ?_
    simp only [spec_l00Letter.j0, if_neg ff]
    rw [hw]
    by_cases c1 : bt s (i : Int) < 194
    · exact Ev.pos c1 (hbad (fun h => by have := h.2.1; omega))
    refine Ev.neg c1 ?_
    by_cases c2 : bt s (i : Int) > 223
    · exact Ev.pos c2 (hbad (fun h => by have := h.2.1; omega))
    refine Ev.neg c2 ?_
    by_cases c3 : ((i + 1 : Nat) : Int) ≥ (s.size : Int)
    · exact Ev.pos c3 (hbad (fun h => by have := h.1; omega))
    refine Ev.neg c3 (Ev.pos (by omega) (Ev.pos (by omega) ?_))
    by_cases c4 : bt s ((i + 1 : Nat) : Int) < 128
    · exact Ev.pos c4 (hbad (fun h => by have := h.2.2.1; omega))
    refine Ev.neg c4 ?_
    by_cases c5 : bt s ((i + 1 : Nat) : Int) > 191
    · rw [decide_eq_true c5]
      exact hbad (fun h => by have := h.2.2.1; omega)
    rw [decide_eq_false c5]
    refine Ev.up1 ?_
    simp only [spec_l00Letter.j1, if_neg ff]
    rw [hw]
    refine Ev.pos (by omega) (Ev.pos (by omega) ?_)
    rw [w64 (x := bt s (i : Int)) (by omega) (by omega), w64 (x := bt s (i : Int) - 192) (by omega) (by omega), w64 (x := (bt s (i : Int) - 192) * 64) (by omega) (by omega), w64 (x := bt s ((i + 1 : Nat) : Int)) (by omega) (by omega), w64 (x := (bt s (i : Int) - 192) * 64 + bt s ((i + 1 : Nat) : Int)) (by omega) (by omega), w64 (x := (bt s (i : Int) - 192) * 64 + bt s ((i + 1 : Nat) : Int) - 128) (by omega) (by omega)]
    have hv : (if i + 1 < s.size ∧ wideP (bt s (i : Int)) (bt s ((i + 1 : Nat) : Int)) then (2 : Int) else 0) = if codeP ((bt s (i : Int) - 192) * 64 + bt s ((i + 1 : Nat) : Int) - 128) then 2 else 0 := by
      by_cases h : codeP ((bt s (i : Int) - 192) * 64 + bt s ((i + 1 : Nat) : Int) - 128)
      · rw [if_pos h, if_pos ⟨by omega, by omega, by omega, h⟩]
      · rw [if_neg h, if_neg (fun g => h g.2.2.2)]
    rw [hv]
    refine Ev.const ?_
    have hc : ∀ m : Int, (192 ≤ m ∧ m ≤ 591 ∧ m ≠ 215 ∧ m ≠ 247) ∨ (913 ≤ m ∧ m ≤ 969) ∨ (1040 ≤ m ∧ m ≤ 1103) ↔ codeP m := fun m => Iff.rfl
    repeat' split
    all_goals first | rfl | (exfalso; simp only [← hc] at *; omega)
  unfold spec_l00Letter.f
  refine Ev.pos (by omega) (Ev.pos (by omega) ?_)
  have hp : ∀ c : Int, (97 ≤ c ∧ c ≤ 122) ∨ (65 ≤ c ∧ c ≤ 90) ∨ c = 95 ↔ plainP c := fun c => Iff.rfl
  have hlast : ¬ ((97 ≤ bt s (i : Int) ∧ bt s (i : Int) ≤ 122) ∨ (65 ≤ bt s (i : Int) ∧ bt s (i : Int) ≤ 90)) → Ev (fun k => spec_l00Letter.j0 k s (i : Int) (bt s (i : Int)) (bt s (i : Int) == 95)) (letV s i) := by
    intro h
    by_cases c : bt s (i : Int) = 95
    · rw [beq_iff_eq.2 c]
      exact hyes ((hp _).1 (by omega))
    · rw [show (bt s (i : Int) == 95) = false by simpa using c]
      exact hno (fun g => by have := (hp _).2 g; omega)
  by_cases a1 : bt s (i : Int) ≥ 97
  · refine Ev.pos a1 ?_
    by_cases a2 : bt s (i : Int) ≤ 122
    · exact Ev.pos a2 (hyes ((hp _).1 (by omega)))
    · refine Ev.neg a2 (Ev.pos (by omega) (Ev.neg (by omega) (hlast (by omega))))
  · refine Ev.neg a1 ?_
    by_cases a3 : bt s (i : Int) ≥ 65
    · refine Ev.pos a3 ?_
      by_cases a4 : bt s (i : Int) ≤ 90
      · exact Ev.pos a4 (hyes ((hp _).1 (by omega)))
      · exact Ev.neg a4 (hlast (by omega))
    · exact Ev.neg a3 (hlast (by omega))
theorem spec_word (s : ByteArray) (hs : s.size ≤ 40) : ∀ (d i : Nat), s.size ≤ i + d → i ≤ s.size → ∃ r : Int, Ev (fun k => spec_l00Word.l0 k s 0 (i : Int)) r ∧ (r == (s.size : Int)) = nameB s d i := by
  intro d
  induction d with
  | zero =>
    intro i h hi
    refine ⟨wrap64 ((i : Int) - 0), Ev.step (fun k => rfl) (Ev.neg (show ¬ (i : Int) < (s.size : Int) by omega) (Ev.some' rfl)), ?_⟩
    rw [w64 (by omega) (by omega), nameB]
    simp; omega
  | succ d ih =>
    intro i h hi
    rw [nameB]
    by_cases c0 : s.size ≤ i
    · rw [if_pos c0]
      refine ⟨wrap64 ((i : Int) - 0), Ev.step (fun k => rfl) (Ev.neg (show ¬ (i : Int) < (s.size : Int) by omega) (Ev.some' rfl)), ?_⟩
      rw [w64 (by omega) (by omega)]
      simp; omega
    rw [if_neg c0]
    have hl := specLetter_ev s i (by omega) hs
    unfold letV at hl
    by_cases c1 : plainP (bt s (i : Int))
    · rw [if_pos c1] at hl
      rw [if_pos (.inl c1)]
      obtain ⟨r, h1, h2⟩ := ih (i + 1) (by omega) (by omega)
      refine ⟨r, Ev.step (fun k => rfl) (Ev.pos (show (i : Int) < (s.size : Int) by omega) (Ev.bind hl (Ev.neg (by decide) ?_))), h2⟩
      refine Ev.via (f := fun k => spec_l00Word.l0 k s 0 (wrap64 ((i : Int) + 1))) ?_ (fun k => rfl)
      rw [w64n (by omega)]
      exact h1
    rw [if_neg c1] at hl
    by_cases c2 : i + 1 < s.size ∧ wideP (bt s (i : Int)) (bt s ((i + 1 : Nat) : Int))
    · rw [if_pos c2] at hl
      rw [if_neg (fun h => h.elim c1 (fun h => by have a := h.2; have b := c2.2.1; unfold digitP at a; omega)), if_pos c2]
      obtain ⟨r, h1, h2⟩ := ih (i + 2) (by omega) (by omega)
      refine ⟨r, Ev.step (fun k => rfl) (Ev.pos (show (i : Int) < (s.size : Int) by omega) (Ev.bind hl (Ev.neg (by decide) ?_))), h2⟩
      refine Ev.via (f := fun k => spec_l00Word.l0 k s 0 (wrap64 ((i : Int) + 2))) ?_ (fun k => rfl)
      rw [show wrap64 ((i : Int) + 2) = ((i + 2 : Nat) : Int) by rw [w64 (by omega) (by omega)]; omega]
      exact h1
    rw [if_neg c2] at hl
    have hstop : ∀ x : Bool, x = (((i : Int) == (s.size : Int))) → Ev (fun k => spec_l00Word.j1 k s 0 (i : Int) 0 false) (i : Int) ∧ x = false := by
      intro x hx
      refine ⟨Ev.via (f := fun _ => some (wrap64 ((i : Int) - 0))) (Ev.some' (by rw [w64 (by omega) (by omega)]; omega)) (fun k => rfl), ?_⟩
      rw [hx]
      simp; omega
    obtain ⟨hs1, hs2⟩ := hstop _ rfl
    by_cases c3 : (i : Int) > 0
    · by_cases c4 : digitP (bt s (i : Int))
      · rw [if_pos (.inr ⟨by omega, c4⟩)]
        obtain ⟨r, h1, h2⟩ := ih (i + 1) (by omega) (by omega)
        have a4 : 48 ≤ bt s (i : Int) ∧ bt s (i : Int) ≤ 57 := c4
        refine ⟨r, Ev.step (fun k => rfl) (Ev.pos (show (i : Int) < (s.size : Int) by omega) (Ev.bind hl (Ev.pos rfl (Ev.pos c3 (Ev.pos (by omega) (Ev.pos a4.1 ?_)))))), h2⟩
        rw [decide_eq_true a4.2]
        refine Ev.via (f := fun k => spec_l00Word.l0 k s 0 (wrap64 ((i : Int) + 1))) ?_ (fun k => rfl)
        rw [w64n (by omega)]
        exact h1
      · rw [if_neg (fun h => h.elim c1 (fun h => c4 h.2)), if_neg c2]
        refine ⟨(i : Int), Ev.step (fun k => rfl) (Ev.pos (show (i : Int) < (s.size : Int) by omega) (Ev.bind hl (Ev.pos rfl (Ev.pos c3 (Ev.pos (by omega) ?_))))), hs2⟩
        by_cases c5 : bt s (i : Int) ≥ 48
        · refine Ev.pos c5 ?_
          rw [decide_eq_false (fun h => c4 ⟨c5, h⟩)]
          exact hs1
        · exact Ev.neg c5 hs1
    · rw [if_neg (fun h => h.elim c1 (fun h => c3 (by omega))), if_neg c2]
      exact ⟨(i : Int), Ev.step (fun k => rfl) (Ev.pos (show (i : Int) < (s.size : Int) by omega) (Ev.bind hl (Ev.pos rfl (Ev.neg c3 hs1)))), hs2⟩
theorem specName_ev (s : ByteArray) : Ev (fun k => spec_NameOK.f k s) (nameOKV s) := by
  unfold spec_NameOK.f nameOKV
  by_cases c1 : (s.size : Int) > 0
  · refine Ev.pos c1 ?_
    by_cases c2 : (s.size : Int) ≤ 40
    · refine Ev.pos c2 ?_
      obtain ⟨r, h1, h2⟩ := spec_word s (by omega) s.size 0 (by omega) (by omega)
      rw [decide_eq_true (show 1 ≤ s.size ∧ s.size ≤ 40 by omega), Bool.true_and]
      exact Ev.bind h1 (Ev.some' h2)
    · rw [decide_eq_false (fun h => c2 (by omega)), Bool.false_and]
      exact Ev.neg c2 (Ev.some' rfl)
  · rw [decide_eq_false (fun h => c1 (by omega)), Bool.false_and]
    exact Ev.neg c1 (Ev.some' rfl)
theorem rdF_mid (p : List S50) (x : S50) (r : List S50) : rd_T50 (p ++ x :: r) (p.length : Int) = x := getD_mid p x r z50
def gainsB (l : List Int) : Bool := l.all fun n => decide (0 ≤ n ∧ n ≤ 100000)
def okF (f : S50) : Bool := nameOKV f.f0 && decide (1 ≤ f.f1 ∧ f.f1 ≤ 2000) && decide (1 ≤ f.f3.length ∧ f.f3.length ≤ 6) && decide (0 ≤ f.f2 ∧ f.f2 ≤ (f.f3.length : Int)) && gainsB f.f3
/-- No name is among those before it. -/
def distB : List ByteArray → List ByteArray → Bool
  | _, [] => true
  | p, x :: a => (p.all fun y => decide (y.toList ≠ x.toList)) && distB (p ++ [x]) a
def facB : List S50 → List S50 → Bool
  | _, [] => true
  | p, x :: a => okF x && (p.all fun y => decide (y.f0.toList ≠ x.f0.toList)) && facB (p ++ [x]) a
theorem facB_eq : ∀ (a p : List S50), facB p a = (a.all okF && distB (p.map (·.f0)) (a.map (·.f0))) := by
  intro a
  induction a with
  | nil => intro p; rfl
  | cons x a ih =>
    intro p
    rw [facB, ih, List.all_cons, List.map_cons, distB, List.map_append, List.map_cons, List.map_nil, List.all_map]
    simp only [Function.comp_def]
    cases okF x <;> cases (p.all fun y => decide (y.f0.toList ≠ x.f0.toList)) <;> simp
theorem gains_idx : ∀ (a p : List Int), (p ++ a).length < 1000000 → ∃ r : Int, Ev (fun k => slices_IndexFunc_int_int.l0 k (p ++ a) ((p ++ a).length : Int) (p.length : Int)) r ∧ decide (r ≥ 0) = !gainsB a := by
  intro a
  induction a with
  | nil => intro p hl; exact ⟨-1, Ev.step (fun k => rfl) (Ev.neg (len_end p) (Ev.some' rfl)), rfl⟩
  | cons x a ih =>
    intro p hl
    have hl' := hl
    rw [List.length_append, List.length_cons] at hl'
    have hlit : impl_isFacing_1.f x = some (!decide (0 ≤ x ∧ x ≤ 100000)) := by
      unfold impl_isFacing_1.f
      rw [within_ev]; rfl
    by_cases c : 0 ≤ x ∧ x ≤ 100000
    · obtain ⟨r, h1, h2⟩ := ih (p ++ [x]) (by rw [← snoc]; exact hl)
      refine ⟨r, Ev.step (fun k => rfl) (Ev.pos (len_lt p x a) (Ev.pos (by omega) (Ev.pos (len_lt p x a) ?_))), ?_⟩
      · rw [rd_mid]
        refine Ev.ret hlit (Ev.neg (by rw [decide_eq_true c]; exact ff) ?_)
        rw [w64 (by omega) (by omega), ← len_snoc p x, snoc p x a]
        exact h1
      · rw [h2]
        unfold gainsB
        rw [List.all_cons, decide_eq_true c, Bool.true_and]
    · refine ⟨(p.length : Int), Ev.step (fun k => rfl) (Ev.pos (len_lt p x a) (Ev.pos (by omega) (Ev.pos (len_lt p x a) ?_))), ?_⟩
      · rw [rd_mid]
        exact Ev.ret hlit (Ev.pos (by rw [decide_eq_false c]; rfl) (Ev.some' rfl))
      · unfold gainsB
        rw [List.all_cons, decide_eq_false c, Bool.false_and]
        simp
theorem implFacing_ev (f : S50) : Ev (fun k => impl_isFacing.f k f.f0 f.f1 f.f2 f.f3) (okF f) := by
  unfold impl_isFacing.f okF
  refine Ev.bind (implName_ev f.f0) ?_
  cases nameOKV f.f0 with
  | false => exact Ev.neg ff (Ev.some' rfl)
  | true =>
    refine Ev.pos rfl (Ev.ret (within_ev _ _ _) ?_)
    by_cases c1 : 1 ≤ f.f1 ∧ f.f1 ≤ 2000
    · rw [decide_eq_true c1]
      refine Ev.pos rfl (Ev.ret (within_ev _ _ _) ?_)
      by_cases c2 : 1 ≤ f.f3.length ∧ f.f3.length ≤ 6
      · rw [decide_eq_true c2]
        refine Ev.pos (by simp; omega) (Ev.ret (within_ev _ _ _) ?_)
        by_cases c3 : 0 ≤ f.f2 ∧ f.f2 ≤ (f.f3.length : Int)
        · rw [decide_eq_true c3]
          refine Ev.pos rfl ?_
          obtain ⟨r, h1, h2⟩ := gains_idx f.f3 [] (by simp; omega)
          refine Ev.bind (Ev.bind h1 (Ev.some' rfl) : Ev (fun k => slices_ContainsFunc_int_int.f k f.f3) (decide (r ≥ 0))) (Ev.some' ?_)
          rw [h2]; simp
        · rw [decide_eq_false c3]
          exact Ev.neg ff (Ev.some' rfl)
      · rw [decide_eq_false c2]
        exact Ev.neg (by simp; omega) (Ev.some' rfl)
    · rw [decide_eq_false c1]
      exact Ev.neg ff (Ev.some' rfl)
theorem rdB_mid (p : List ByteArray) (x : ByteArray) (r : List ByteArray) : rdOf ByteArray.empty (p ++ x :: r) (p.length : Int) = x := getD_mid p x r ByteArray.empty
theorem has_name (x : ByteArray) : ∀ (a p : List ByteArray), (p ++ a).length < 1000000 → ∃ r : Int, Ev (fun k => slices_Index_string_string.l0 k (p ++ a) x ((p ++ a).length : Int) (p.length : Int)) r ∧ decide (r ≥ 0) = !(a.all fun y => decide (y.toList ≠ x.toList)) := by
  intro a
  induction a with
  | nil => intro p hl; exact ⟨-1, Ev.step (fun k => rfl) (Ev.neg (len_end p) (Ev.some' rfl)), rfl⟩
  | cons y a ih =>
    intro p hl
    have hl' := hl
    rw [List.length_append, List.length_cons] at hl'
    by_cases c : x.toList = y.toList
    · refine ⟨(p.length : Int), Ev.step (fun k => rfl) (Ev.pos (len_lt p y a) (Ev.pos (by omega) (Ev.pos (len_lt p y a) ?_))), ?_⟩
      · rw [rdB_mid]
        exact Ev.pos c (Ev.some' rfl)
      · simp [c]
    · obtain ⟨r, h1, h2⟩ := ih (p ++ [y]) (by rw [← snoc]; exact hl)
      refine ⟨r, Ev.step (fun k => rfl) (Ev.pos (len_lt p y a) (Ev.pos (by omega) (Ev.pos (len_lt p y a) ?_))), ?_⟩
      · rw [rdB_mid]
        refine Ev.neg c ?_
        rw [w64 (by omega) (by omega), ← len_snoc p y, snoc p y a]
        exact h1
      · have hn : y.toList ≠ x.toList := fun h => c h.symm
        rw [h2, List.all_cons, decide_eq_true hn, Bool.true_and]
theorem twice_l0 : ∀ (a p : List ByteArray), (p ++ a).length < 1000000 → Ev (fun k => impl_hasTwice_string.l0 k (p ++ a) (p ++ a) ((p ++ a).length : Int) (p.length : Int)) (!distB p a) := by
  intro a
  induction a with
  | nil => intro p hl; exact Ev.step (fun k => rfl) (Ev.neg (len_end p) (Ev.some' rfl))
  | cons x a ih =>
    intro p hl
    have hl' := hl
    rw [List.length_append, List.length_cons] at hl'
    obtain ⟨r, h1, h2⟩ := has_name x p [] (by simp; omega)
    have hc : Ev (fun k => slices_Contains_string_string.f k p x) (decide (r ≥ 0)) := Ev.bind h1 (Ev.some' rfl)
    rw [h2] at hc
    refine Ev.step (fun k => rfl) (Ev.pos (len_lt p x a) (Ev.pos (by omega) (Ev.pos (len_lt p x a) (Ev.pos (by have := len_lt p x a; omega) ?_))))
    rw [rdB_mid, Int.toNat_natCast, List.take_left]
    refine Ev.bind hc ?_
    rw [distB]
    cases (p.all fun y => decide (y.toList ≠ x.toList)) with
    | false => exact Ev.pos rfl (Ev.some' rfl)
    | true =>
      refine Ev.neg ff ?_
      rw [w64 (by omega) (by omega), ← len_snoc p x, snoc p x a, Bool.true_and]
      exact ih (p ++ [x]) (by rw [← snoc]; exact hl)
theorem implFac_l0 (L : List S50) : ∀ (a p : List S50), (p ++ a).length < 1000 → L = p ++ a →
    Ev (fun k => impl_FacingsOK.l0 k (p.map (·.f0)) (p ++ a) ((p ++ a).length : Int) (p.length : Int)) (a.all okF && distB [] (L.map (·.f0))) := by
  intro a
  induction a with
  | nil =>
    intro p hl hL
    rw [List.append_nil] at hL
    subst hL
    have htw : Ev (fun k => impl_hasTwice_string.f k (L.map (·.f0))) (!distB [] (L.map (·.f0))) := by
      have h := twice_l0 (L.map fun x : S50 => x.f0) [] (by simp at hl; simp; omega)
      exact h
    refine Ev.step (fun k => rfl) (Ev.neg (len_end L) (Ev.bind htw (Ev.some' ?_)))
    simp
  | cons x a ih =>
    intro p hl hL
    have hl' := hl
    rw [List.length_append, List.length_cons] at hl'
    refine Ev.step (fun k => rfl) (Ev.pos (len_lt p x a) (Ev.pos (by omega) (Ev.pos (len_lt p x a) ?_)))
    rw [rdF_mid]
    refine Ev.bind (implFacing_ev x) ?_
    rw [List.all_cons]
    cases okF x with
    | false => exact Ev.neg ff (Ev.some' rfl)
    | true =>
      refine Ev.pos rfl (Ev.pos (by simp; omega) ?_)
      rw [w64 (by omega) (by omega), ← len_snoc p x, snoc p x a, Bool.true_and, show p.map (·.f0) ++ [x.f0] = (p ++ [x]).map (·.f0) by simp]
      exact ih (p ++ [x]) (by rw [← snoc]; exact hl) (by rw [hL, snoc])
def facingsV (l : List S50) : Bool := decide (l.length ≤ 12) && facB [] l
theorem implFacings_ev (l : List S50) : Ev (fun k => impl_FacingsOK.f k l) (facingsV l) := by
  unfold impl_FacingsOK.f facingsV
  by_cases c : (l.length : Int) > 12
  · rw [decide_eq_false (by omega), Bool.false_and]
    exact Ev.pos c (Ev.some' rfl)
  · rw [decide_eq_true (by omega), Bool.true_and, facB_eq]
    exact Ev.neg c (implFac_l0 l l [] (by simp; omega) rfl)
theorem spec_gains (L : List S50) (x : Int) (n : ByteArray) (u w : Int) (v : Bool) : ∀ (b q : List Int), (q ++ b).length < 1000000 →
    (gainsB b = true → Ev (fun k => spec_FacingsOK.l2 k L x 0 n u w (q ++ b)) v) → (gainsB b = false → v = false) → Ev (fun k => spec_FacingsOK.l1 k L x (q.length : Int) n u w (q ++ b)) v := by
  intro b
  induction b with
  | nil => intro q hl h _; exact Ev.step (fun k => rfl) (Ev.neg (len_end q) (h rfl))
  | cons y b ih =>
    intro q hl h hbad
    have hl' := hl
    rw [List.length_append, List.length_cons] at hl'
    refine Ev.step (fun k => rfl) (Ev.pos (len_lt q y b) (Ev.pos (by omega) (Ev.ret (l01In_ev _ _ _) ?_)))
    rw [rd_mid]
    by_cases c : 0 ≤ y ∧ y ≤ 100000
    · refine Ev.pos (decide_eq_true c) ?_
      have e : gainsB (y :: b) = gainsB b := by
        unfold gainsB
        rw [List.all_cons, decide_eq_true c, Bool.true_and]
      rw [e] at h hbad
      rw [w64 (by omega) (by omega), ← len_snoc q y, snoc q y b]
      exact ih (q ++ [y]) (by rw [← snoc]; exact hl) (fun g => by rw [← snoc]; exact h g) hbad
    · rw [hbad (by unfold gainsB; rw [List.all_cons, decide_eq_false c, Bool.false_and])]
      exact Ev.neg (by rw [decide_eq_false c]; exact ff) (Ev.some' rfl)
theorem spec_dist (n : ByteArray) (u w : Int) (g : List Int) (v : Bool) (P r : List S50) (hP : P.length < 1000) (hr : 0 < r.length) : ∀ (b q : List S50), P = q ++ b →
    ((b.all fun y => decide (y.f0.toList ≠ n.toList)) = true → Ev (fun k => spec_FacingsOK.l0 k (P ++ r) (wrap64 ((P.length : Int) + 1))) v) → ((b.all fun y => decide (y.f0.toList ≠ n.toList)) = false → v = false) →
    Ev (fun k => spec_FacingsOK.l2 k (P ++ r) (P.length : Int) (q.length : Int) n u w g) v := by
  intro b
  induction b with
  | nil =>
    intro q hq h _
    rw [List.append_nil] at hq
    subst hq
    exact Ev.step (fun k => rfl) (Ev.neg (show ¬ (P.length : Int) < (P.length : Int) by omega) (h rfl))
  | cons y b ih =>
    intro q hq h hbad
    have hlt : (q.length : Int) < (P.length : Int) := by rw [hq]; exact len_lt q y b
    have hrd : rd_T50 (P ++ r) (q.length : Int) = y := by rw [hq, List.append_assoc]; exact rdF_mid q y (b ++ r)
    refine Ev.step (fun k => rfl) (Ev.pos hlt (Ev.pos (by omega) (Ev.pos (by rw [List.length_append]; omega) ?_)))
    rw [hrd]
    by_cases c : y.f0.toList = n.toList
    · rw [hbad (by rw [List.all_cons, decide_eq_false (fun h => h c), Bool.false_and])]
      exact Ev.pos c (Ev.some' rfl)
    · have hn : y.f0.toList ≠ n.toList := c
      rw [List.all_cons, decide_eq_true hn, Bool.true_and] at h hbad
      refine Ev.neg c ?_
      rw [w64 (by omega) (by omega), ← len_snoc q y]
      exact ih (q ++ [y]) (by rw [hq, snoc]) h hbad
theorem spec_l0 : ∀ (a p : List S50), (p ++ a).length < 1000 → Ev (fun k => spec_FacingsOK.l0 k (p ++ a) (p.length : Int)) (facB p a) := by
  intro a
  induction a with
  | nil => intro p hl; exact Ev.step (fun k => rfl) (Ev.neg (len_end p) (Ev.some' rfl))
  | cons x a ih =>
    intro p hl
    have hl' := hl
    rw [List.length_append, List.length_cons] at hl'
    have hbad : okF x = false → Ev (fun k => spec_FacingsOK.j1 k (p ++ x :: a) (p.length : Int) true x.f0 x.f1 x.f2 x.f3) (facB p (x :: a)) := by
      intro h
      rw [facB, h, Bool.false_and, Bool.false_and]
      exact Ev.via (Ev.some' rfl) (fun k => rfl)
    refine Ev.step (fun k => rfl) (Ev.pos (len_lt p x a) (Ev.pos (by omega) ?_))
    rw [rdF_mid]
    refine Ev.bind (specName_ev x.f0) ?_
    by_cases c0 : nameOKV x.f0 = true
    · refine Ev.pos c0 (Ev.ret (l01In_ev _ _ _) ?_)
      by_cases c1 : 1 ≤ x.f1 ∧ x.f1 ≤ 2000
      · refine Ev.pos (decide_eq_true c1) ?_
        by_cases c2 : (x.f3.length : Int) < 1
        · exact Ev.pos c2 (hbad (by unfold okF; rw [decide_eq_false (show ¬ (1 ≤ x.f3.length ∧ x.f3.length ≤ 6) by omega)]; simp))
        refine Ev.neg c2 ?_
        by_cases c3 : (x.f3.length : Int) > 6
        · exact Ev.pos c3 (hbad (by unfold okF; rw [decide_eq_false (show ¬ (1 ≤ x.f3.length ∧ x.f3.length ≤ 6) by omega)]; simp))
        refine Ev.neg c3 (Ev.ret (l01In_ev _ _ _) ?_)
        by_cases c4 : 0 ≤ x.f2 ∧ x.f2 ≤ (x.f3.length : Int)
        · rw [show (!decide (0 ≤ x.f2 ∧ x.f2 ≤ (x.f3.length : Int))) = false by rw [decide_eq_true c4]; rfl]
          have e : okF x = gainsB x.f3 := by
            unfold okF
            rw [c0, decide_eq_true c1, decide_eq_true (show 1 ≤ x.f3.length ∧ x.f3.length ≤ 6 by omega), decide_eq_true c4]
            simp
          refine Ev.via (f := fun k => spec_FacingsOK.l1 k (p ++ x :: a) (p.length : Int) 0 x.f0 x.f1 x.f2 x.f3) ?_ (fun k => rfl)
          refine spec_gains _ _ x.f0 x.f1 x.f2 _ x.f3 [] (by simp; omega) (fun hg => ?_) (fun hg => by rw [facB, e, hg, Bool.false_and, Bool.false_and])
          rw [facB, e, hg, Bool.true_and]
          refine spec_dist x.f0 x.f1 x.f2 _ _ p (x :: a) (by omega) (by simp) p [] rfl (fun hd => ?_) (fun hd => by rw [hd, Bool.false_and])
          rw [hd, Bool.true_and, w64 (by omega) (by omega), ← len_snoc p x, snoc p x a]
          exact ih (p ++ [x]) (by rw [← snoc]; exact hl)
        · rw [show (!decide (0 ≤ x.f2 ∧ x.f2 ≤ (x.f3.length : Int))) = true by rw [decide_eq_false c4]; rfl]
          exact hbad (by unfold okF; rw [decide_eq_false c4]; simp)
      · exact Ev.neg (by rw [decide_eq_false c1]; exact ff) (hbad (by unfold okF; rw [decide_eq_false c1]; simp))
    · exact Ev.neg c0 (hbad (by unfold okF; rw [show nameOKV x.f0 = false by simpa using c0]; simp))
theorem specFacings_ev (l : List S50) : Ev (fun k => spec_FacingsOK.f k l) (facingsV l) := by
  unfold spec_FacingsOK.f facingsV
  by_cases c : (l.length : Int) > 12
  · rw [decide_eq_false (by omega), Bool.false_and]
    exact Ev.pos c (Ev.some' rfl)
  · rw [decide_eq_true (by omega), Bool.true_and]
    exact Ev.neg c (spec_l0 l [] (by simp; omega))
theorem rdf_nat (l : List S50) (i : Nat) : rd_T50 l (i : Int) = l.getD i z50 := by
  unfold rd_T50
  rw [Int.toNat_natCast]
theorem rdL_mid (p : List (List Int)) (x : List Int) (r : List (List Int)) : rd_L2 (p ++ x :: r) (p.length : Int) = x := getD_mid p x r []
theorem rdL_mid1 (p : List (List Int)) (x y : List Int) (r : List (List Int)) : rd_L2 (p ++ x :: y :: r) ((p.length : Int) + 1) = y := by
  rw [show p ++ x :: y :: r = (p ++ [x]) ++ y :: r by simp, show (p.length : Int) + 1 = ((p ++ [x]).length : Int) by simp]
  exact rdL_mid _ _ _
/-! ### sums of gains -/
def sumG : List Int → Int
  | [] => 0
  | x :: l => x + sumG l
/-- What n pieces gain. -/
def gainV (g : List Int) (n : Nat) : Int := sumG (g.take n)
def gOK (g : List Int) : Prop := g.length ≤ 6 ∧ ∀ x ∈ g, 0 ≤ x ∧ x ≤ 100000
theorem sumG_bd : ∀ l : List Int, (∀ x ∈ l, 0 ≤ x ∧ x ≤ 100000) → 0 ≤ sumG l ∧ sumG l ≤ 100000 * l.length := by
  intro l
  induction l with
  | nil => intro _; simp [sumG]
  | cons x l ih =>
    intro h
    have h1 := ih (fun y hy => h y (List.mem_cons_of_mem x hy))
    have h2 := h x (by simp)
    rw [sumG, List.length_cons]
    omega
theorem gainV_bd {g : List Int} (h : gOK g) (n : Nat) : 0 ≤ gainV g n ∧ gainV g n ≤ 600000 := by
  have h1 := sumG_bd (g.take n) (fun x hx => h.2 x (List.mem_of_mem_take hx))
  have h2 : (g.take n).length ≤ 6 := by rw [List.length_take]; have := h.1; omega
  unfold gainV
  omega
theorem sumOf_l0 : ∀ (a p : List Int) (s : Int), (p ++ a).length ≤ 100 → (∀ x ∈ a, 0 ≤ x ∧ x ≤ 100000) → 0 ≤ s → s ≤ 100000 * p.length →
    Ev (fun k => impl_sumOf.l0 k s (p ++ a) ((p ++ a).length : Int) (p.length : Int)) (s + sumG a) := by
  intro a
  induction a with
  | nil => intro p s _ _ _ _; exact Ev.step (fun k => rfl) (Ev.neg (len_end p) (Ev.some' (by simp [sumG])))
  | cons x a ih =>
    intro p s hl hb h0 h1
    have hl' := hl
    rw [List.length_append, List.length_cons] at hl'
    have hx := hb x (by simp)
    refine Ev.step (fun k => rfl) (Ev.pos (len_lt p x a) (Ev.pos (by omega) (Ev.pos (len_lt p x a) ?_)))
    rw [rd_mid, w64 (x := s + x) (by omega) (by omega), w64 (by omega) (by omega), ← len_snoc p x, snoc p x a]
    refine Ev.eq (ih (p ++ [x]) (s + x) (by rw [← snoc]; exact hl) (fun y hy => hb y (List.mem_cons_of_mem x hy)) (by omega) (by simp; omega)) ?_
    rw [sumG]
    omega
theorem sumOf_ev (l : List Int) (h : l.length ≤ 100) (hb : ∀ x ∈ l, 0 ≤ x ∧ x ≤ 100000) : Ev (fun k => impl_sumOf.f k l) (sumG l) := by
  refine Ev.eq (sumOf_l0 l [] 0 (by simpa using h) hb (by omega) (by simp)) ?_
  omega
theorem sumTake_ev {g : List Int} (h : gOK g) (n : Nat) : Ev (fun k => impl_sumOf.f k (g.take n)) (gainV g n) := by
  have h2 : (g.take n).length ≤ 6 := by rw [List.length_take]; have := h.1; omega
  exact sumOf_ev _ (by omega) (fun x hx => h.2 x (List.mem_of_mem_take hx))
theorem gainV_succ (g : List Int) (n : Nat) (h : n < g.length) : gainV g (n + 1) = gainV g n + g.getD n 0 := by
  unfold gainV
  induction g generalizing n with
  | nil => simp at h
  | cons x g ih =>
    cases n with
    | zero => simp [sumG]
    | succ n =>
      rw [List.take_succ_cons, sumG, ih n (by simpa using h), List.take_succ_cons, sumG, List.getD_cons_succ]
      omega
theorem getD_bd {g : List Int} (h : gOK g) (n : Nat) : 0 ≤ g.getD n 0 ∧ g.getD n 0 ≤ 100000 := by
  rw [List.getD_eq_getElem?_getD]
  cases e : g[n]? with
  | none => simp
  | some x => simpa using h.2 x (List.mem_of_getElem? e)
theorem specGain_ev {g : List Int} (h : gOK g) (nm : ByteArray) (a b : Int) (n : Nat) (hn : n ≤ g.length) : Ev (fun k => spec_l13Gain.f k nm a b g (n : Int)) (gainV g n) := by
  have h6 := h.1
  have key : ∀ d i, i + d = n → Ev (fun k => spec_l13Gain.l0 k (n : Int) (gainV g i) (i : Int) nm a b g) (gainV g n) := by
    intro d
    induction d with
    | zero =>
      intro i hi
      obtain rfl : i = n := by omega
      exact Ev.step (fun k => rfl) (Ev.neg (by omega) (Ev.some' rfl))
    | succ d ih =>
      intro i hi
      have h1 := gainV_bd h i
      have h2 := getD_bd h i
      refine Ev.step (fun k => rfl) (Ev.pos (by omega) (Ev.pos (by omega) (Ev.pos (by omega) ?_)))
      rw [rd_nat, w64 (by omega) (by omega), w64n (by omega), ← gainV_succ g i (by omega)]
      exact ih (i + 1) (by omega)
  exact key n 0 (by omega)
/-! ### the most that a width gains -/
/-- A facing that is right. -/
def fOK (f : S50) : Prop := (1 ≤ f.f1 ∧ f.f1 ≤ 2000) ∧ 0 ≤ f.f2 ∧ f.f2 ≤ (f.f3.length : Int) ∧ gOK f.f3
theorem fOK_of {f : S50} (h : okF f = true) : fOK f := by
  unfold okF at h
  simp only [Bool.and_eq_true, decide_eq_true_eq] at h
  refine ⟨h.1.1.1.2, h.1.2.1, h.1.2.2, h.1.1.2.2, fun x hx => ?_⟩
  have := List.all_eq_true.1 h.2 x hx
  simpa using this
theorem facB_ok (a p : List S50) (h : facB p a = true) : ∀ f ∈ a, fOK f := by
  rw [facB_eq, Bool.and_eq_true] at h
  exact fun f hf => fOK_of (List.all_eq_true.1 h.1 f hf)
/-- The best of n, n + 1, .. pieces (d numbers), or what there was. -/
def upV (nx : Nat → Int) (f : S50) (w : Nat) : Nat → Nat → Int → Int
  | 0, _, cur => cur
  | d + 1, n, cur => if n * f.f1.toNat ≤ w then upV nx f w d (n + 1) (if 0 ≤ nx (w - n * f.f1.toNat) then mx cur (nx (w - n * f.f1.toNat) + gainV f.f3 n) else cur) else cur
def valV : List S50 → Nat → Int
  | [], _ => 0
  | f :: fs, w => upV (valV fs) f w (f.f3.length + 1 - f.f2.toNat) f.f2.toNat (-1)
theorem mx_ge (a b : Int) : a ≤ mx a b ∧ b ≤ mx a b ∧ (mx a b = a ∨ mx a b = b) := by
  unfold mx
  split <;> omega
theorem upV_cur (nx : Nat → Int) (f : S50) (w : Nat) : ∀ d n cur, cur ≤ upV nx f w d n cur := by
  intro d
  induction d with
  | zero => intro n cur; exact Int.le_refl _
  | succ d ih =>
    intro n cur
    rw [upV]
    split
    · refine Int.le_trans ?_ (ih _ _)
      split
      · exact (mx_ge _ _).1
      · exact Int.le_refl _
    · exact Int.le_refl _
theorem upV_ge (nx : Nat → Int) (f : S50) (w : Nat) : ∀ d n cur m, n ≤ m → m < n + d → m * f.f1.toNat ≤ w → 0 ≤ nx (w - m * f.f1.toNat) → nx (w - m * f.f1.toNat) + gainV f.f3 m ≤ upV nx f w d n cur := by
  intro d
  induction d with
  | zero => intro n cur m h1 h2; omega
  | succ d ih =>
    intro n cur m h1 h2 h3 h4
    rw [upV]
    have hnm : n * f.f1.toNat ≤ m * f.f1.toNat := Nat.mul_le_mul_right _ h1
    rw [if_pos (by omega)]
    by_cases e : n = m
    · subst e
      rw [if_pos h4]
      exact Int.le_trans (mx_ge _ _).2.1 (upV_cur _ _ _ _ _ _)
    · exact ih _ _ m (by omega) (by omega) h3 h4
theorem upV_hit (nx : Nat → Int) (f : S50) (w : Nat) : ∀ d n cur, upV nx f w d n cur = cur ∨ ∃ m, n ≤ m ∧ m < n + d ∧ m * f.f1.toNat ≤ w ∧ 0 ≤ nx (w - m * f.f1.toNat) ∧ upV nx f w d n cur = nx (w - m * f.f1.toNat) + gainV f.f3 m := by
  intro d
  induction d with
  | zero => intro n cur; exact .inl rfl
  | succ d ih =>
    intro n cur
    rw [upV]
    by_cases c : n * f.f1.toNat ≤ w
    · rw [if_pos c]
      by_cases c2 : 0 ≤ nx (w - n * f.f1.toNat)
      · rw [if_pos c2]
        rcases ih (n + 1) (mx cur (nx (w - n * f.f1.toNat) + gainV f.f3 n)) with h | ⟨m, h1, h2, h3⟩
        · rcases (mx_ge cur (nx (w - n * f.f1.toNat) + gainV f.f3 n)).2.2 with e | e
          · exact .inl (h.trans e)
          · exact .inr ⟨n, Nat.le_refl _, by omega, c, c2, h.trans e⟩
        · exact .inr ⟨m, by omega, by omega, h3⟩
      · rw [if_neg c2]
        rcases ih (n + 1) cur with h | ⟨m, h1, h2, h3⟩
        · exact .inl h
        · exact .inr ⟨m, by omega, by omega, h3⟩
    · rw [if_neg c]
      exact .inl rfl
theorem valV_bd : ∀ fs : List S50, (∀ f ∈ fs, fOK f) → ∀ w, -1 ≤ valV fs w ∧ valV fs w ≤ 600000 * fs.length := by
  intro fs
  induction fs with
  | nil => intro _ w; simp [valV]
  | cons f fs ih =>
    intro h w
    have hf := h f (by simp)
    rw [valV, List.length_cons]
    rcases upV_hit (valV fs) f w (f.f3.length + 1 - f.f2.toNat) f.f2.toNat (-1) with e | ⟨m, h1, h2, h3, h4, e⟩
    · rw [e]; omega
    · rw [e]
      have g1 := ih (fun x hx => h x (List.mem_cons_of_mem f hx)) (w - m * f.f1.toNat)
      have g2 := gainV_bd hf.2.2.2 m
      omega
/-! ### counts -/
def okC : List S50 → List Int → Prop
  | [], [] => True
  | f :: fs, c :: cs => (f.f2 ≤ c ∧ c ≤ (f.f3.length : Int)) ∧ okC fs cs
  | _, _ => False
def usedV : List S50 → List Int → Int
  | f :: fs, c :: cs => c * f.f1 + usedV fs cs
  | _, _ => 0
def gainsV : List S50 → List Int → Int
  | f :: fs, c :: cs => gainV f.f3 c.toNat + gainsV fs cs
  | _, _ => 0
theorem okC_bd : ∀ (fs : List S50) (cs : List Int), (∀ f ∈ fs, fOK f) → okC fs cs → cs.length = fs.length ∧ 0 ≤ usedV fs cs ∧ usedV fs cs ≤ 12000 * fs.length ∧ 0 ≤ gainsV fs cs ∧ gainsV fs cs ≤ 600000 * fs.length := by
  intro fs
  induction fs with
  | nil => intro cs _ h; cases cs with
    | nil => simp [usedV, gainsV]
    | cons c cs => exact h.elim
  | cons f fs ih =>
    intro cs h hc
    cases cs with
    | nil => exact hc.elim
    | cons c cs =>
      have hf := h f (by simp)
      have g := ih cs (fun x hx => h x (List.mem_cons_of_mem f hx)) hc.2
      have g2 := gainV_bd hf.2.2.2 c.toNat
      have h6 := hf.2.2.2.1
      have hc1 := hc.1
      have hf1 := hf.1
      have hf2 := hf.2.1
      have hm : 0 ≤ c * f.f1 ∧ c * f.f1 ≤ 12000 := ⟨Int.mul_nonneg (by omega) (by omega), Int.le_trans (Int.mul_le_mul (c := 6) (d := 2000) (by omega) (by omega) (by omega) (by omega)) (by decide)⟩
      rw [usedV, gainsV, List.length_cons, List.length_cons]
      omega
/-- No right counts within a width gain more. -/
theorem valV_best : ∀ (fs : List S50) (cs : List Int) (w : Nat), (∀ f ∈ fs, fOK f) → okC fs cs → usedV fs cs ≤ w → gainsV fs cs ≤ valV fs w := by
  intro fs
  induction fs with
  | nil => intro cs w _ h _; cases cs with
    | nil => simp [gainsV, valV]
    | cons c cs => exact h.elim
  | cons f fs ih =>
    intro cs w h hc hu
    cases cs with
    | nil => exact hc.elim
    | cons c cs =>
      have hf := h f (by simp)
      have hfs : ∀ x ∈ fs, fOK x := fun x hx => h x (List.mem_cons_of_mem f hx)
      have g := okC_bd fs cs hfs hc.2
      have hc1 := hc.1
      rw [usedV] at hu
      obtain ⟨m, rfl⟩ : ∃ m : Nat, c = (m : Int) := ⟨c.toNat, by have := hf.2.1; omega⟩
      obtain ⟨v, hv⟩ : ∃ v : Nat, f.f1 = (v : Int) := ⟨f.f1.toNat, by have := hf.1; omega⟩
      have hmv : (m : Int) * f.f1 = ((m * f.f1.toNat : Nat) : Int) := by rw [hv, Int.toNat_natCast, Int.natCast_mul]
      rw [hmv] at hu
      have hi := ih cs (w - m * f.f1.toNat) hfs hc.2 (by omega)
      rw [gainsV, valV, Int.toNat_natCast]
      have h2 := upV_ge (valV fs) f w (f.f3.length + 1 - f.f2.toNat) f.f2.toNat (-1) m (by omega) (by have := hf.2; omega) (by omega) (by omega)
      omega
/-- The count that is taken: the first from n down that comes to the best. -/
def pickV (nx : Nat → Int) (f : S50) (w : Nat) (v : Int) : Nat → Nat
  | 0 => 0
  | n + 1 => if 0 ≤ nx (w - (n + 1) * f.f1.toNat) ∧ nx (w - (n + 1) * f.f1.toNat) + gainV f.f3 (n + 1) = v then n + 1 else pickV nx f w v n
def hitP (nx : Nat → Int) (f : S50) (w : Nat) (v : Int) (n : Nat) : Prop := 0 ≤ nx (w - n * f.f1.toNat) ∧ nx (w - n * f.f1.toNat) + gainV f.f3 n = v
theorem pickV_spec (nx : Nat → Int) (f : S50) (w : Nat) (v : Int) : ∀ n m, m ≤ n → hitP nx f w v m → hitP nx f w v (pickV nx f w v n) ∧ m ≤ pickV nx f w v n ∧ pickV nx f w v n ≤ n := by
  intro n
  induction n with
  | zero => intro m h1 h2; obtain rfl : m = 0 := by omega
            exact ⟨h2, Nat.le_refl _, Nat.le_refl _⟩
  | succ n ih =>
    intro m h1 h2
    rw [pickV]
    by_cases c : 0 ≤ nx (w - (n + 1) * f.f1.toNat) ∧ nx (w - (n + 1) * f.f1.toNat) + gainV f.f3 (n + 1) = v
    · rw [if_pos c]
      exact ⟨c, h1, Nat.le_refl _⟩
    · rw [if_neg c]
      have hm : m ≠ n + 1 := by rintro rfl; exact c h2
      obtain ⟨g1, g2, g3⟩ := ih m (by omega) h2
      exact ⟨g1, g2, by omega⟩
/-- From where it is looked down. -/
def topV (f : S50) (w : Nat) : Nat := Nat.min f.f3.length (w / f.f1.toNat)
def pkV (fs : List S50) (f : S50) (w : Nat) : Nat := pickV (valV fs) f w (valV (f :: fs) w) (topV f w)
def cntV : List S50 → Nat → List Int
  | [], _ => []
  | f :: fs, w => (pkV fs f w : Int) :: cntV fs (w - pkV fs f w * f.f1.toNat)
theorem pk_ok {fs : List S50} {f : S50} {w : Nat} (hf : fOK f) (hv : 0 ≤ valV (f :: fs) w) :
    hitP (valV fs) f w (valV (f :: fs) w) (pkV fs f w) ∧ f.f2 ≤ (pkV fs f w : Int) ∧ pkV fs f w ≤ topV f w ∧ pkV fs f w * f.f1.toNat ≤ w ∧ pkV fs f w ≤ f.f3.length := by
  have hv0 : 0 < f.f1.toNat := by have := hf.1; omega
  have key : ∃ m : Nat, f.f2 ≤ (m : Int) ∧ m ≤ topV f w ∧ hitP (valV fs) f w (valV (f :: fs) w) m := by
    have e := upV_hit (valV fs) f w (f.f3.length + 1 - f.f2.toNat) f.f2.toNat (-1)
    rcases e with e | ⟨m, h1, h2, h3, h4, e⟩
    · have : valV (f :: fs) w = -1 := e
      omega
    · refine ⟨m, by omega, ?_, h4, e.symm⟩
      unfold topV
      have h5 : m ≤ w / f.f1.toNat := (Nat.le_div_iff_mul_le hv0).2 h3
      exact (Nat.le_min (a := m) (b := f.f3.length) (c := w / f.f1.toNat)).2 ⟨(by have := hf.2; omega), h5⟩
  obtain ⟨m, h1, h2, h3⟩ := key
  obtain ⟨g1, g2, g3⟩ := pickV_spec (valV fs) f w (valV (f :: fs) w) (topV f w) m h2 h3
  have h6 : topV f w ≤ w / f.f1.toNat := Nat.min_le_right _ _
  have h7 : topV f w ≤ f.f3.length := Nat.min_le_left _ _
  exact ⟨g1, by have : m ≤ pkV fs f w := g2; omega, g3, (Nat.le_div_iff_mul_le hv0).1 (Nat.le_trans g3 h6), Nat.le_trans g3 h7⟩
theorem cntV_ok : ∀ (fs : List S50) (w : Nat), (∀ f ∈ fs, fOK f) → 0 ≤ valV fs w → okC fs (cntV fs w) ∧ usedV fs (cntV fs w) ≤ w ∧ gainsV fs (cntV fs w) = valV fs w := by
  intro fs
  induction fs with
  | nil => intro w _ _; exact ⟨trivial, by simp [usedV], by simp [gainsV, valV]⟩
  | cons f fs ih =>
    intro w h hv
    have hf := h f (by simp)
    obtain ⟨g1, g2, g3, g4, g5⟩ := pk_ok hf hv
    obtain ⟨i1, i2, i3⟩ := ih (w - pkV fs f w * f.f1.toNat) (fun x hx => h x (List.mem_cons_of_mem f hx)) g1.1
    obtain ⟨v, hv'⟩ : ∃ v : Nat, f.f1 = (v : Int) := ⟨f.f1.toNat, by have := hf.1; omega⟩
    have hmv : (pkV fs f w : Int) * f.f1 = ((pkV fs f w * f.f1.toNat : Nat) : Int) := by rw [hv', Int.toNat_natCast, Int.natCast_mul]
    refine ⟨⟨⟨g2, by omega⟩, i1⟩, ?_, ?_⟩
    · rw [cntV, usedV, hmv]
      omega
    · rw [cntV, gainsV, Int.toNat_natCast, i3]
      have := g1.2
      omega
theorem valV_wider (fs : List S50) (w w' : Nat) (h : ∀ f ∈ fs, fOK f) (hw : w ≤ w') : valV fs w ≤ valV fs w' := by
  by_cases c : 0 ≤ valV fs w
  · obtain ⟨h1, h2, h3⟩ := cntV_ok fs w h c
    rw [← h3]
    exact valV_best fs _ w' h h1 (by omega)
  · have := (valV_bd fs h w).1
    have := (valV_bd fs h w').1
    omega
/-! ### the table -/
def rowV (fs : List S50) (W : Nat) : List Int := (List.range (W + 1)).map (valV fs)
def tabV (W : Nat) : List S50 → List (List Int)
  | [] => [rowV [] W]
  | f :: fs => rowV (f :: fs) W :: tabV W fs
theorem rowV_len (fs : List S50) (W : Nat) : (rowV fs W).length = W + 1 := by simp [rowV]
theorem rowV_at (fs : List S50) (W w : Nat) (h : w ≤ W) : rd (rowV fs W) (w : Int) = valV fs w := by
  rw [rd_nat]
  unfold rowV
  rw [List.getD_eq_getElem?_getD, List.getElem?_map, List.getElem?_range (by omega)]
  rfl
theorem rowV_nil (W : Nat) : rowV [] W = List.replicate (W + 1) 0 := by
  unfold rowV
  rw [List.eq_replicate_iff]
  refine ⟨by simp, fun x hx => ?_⟩
  obtain ⟨y, _, rfl⟩ := List.mem_map.1 hx
  rfl
theorem tabV_ne (W : Nat) (fs : List S50) : ∃ T, tabV W fs = rowV fs W :: T := by
  cases fs with
  | nil => exact ⟨_, rfl⟩
  | cons f fs => exact ⟨_, rfl⟩
theorem tabV_len (W : Nat) (fs : List S50) : (tabV W fs).length = fs.length + 1 := by
  induction fs with
  | nil => rfl
  | cons f fs ih => rw [tabV, List.length_cons, ih, List.length_cons]
theorem tabV_at (W : Nat) : ∀ (p fs : List S50), rd_L2 (tabV W (p ++ fs)) (p.length : Int) = rowV fs W := by
  intro p
  induction p with
  | nil => intro fs; obtain ⟨T, e⟩ := tabV_ne W fs; rw [List.nil_append, e]; rfl
  | cons f p ih =>
    intro fs
    have := ih fs
    unfold rd_L2 at this ⊢
    rw [List.cons_append, tabV, List.length_cons, Int.toNat_natCast, List.getD_cons_succ]
    rw [Int.toNat_natCast] at this
    exact this
theorem repeat_m1 (W : Nat) (hW : W ≤ 10000) : slices_Repeat_int_int.f [(-1)] (wrap64 ((W : Int) + 1)) = some (List.replicate (W + 1) (-1)) := by
  rw [w64 (by omega) (by omega)]
  unfold slices_Repeat_int_int.f
  rw [if_pos ⟨rfl, by omega, by omega⟩, show ((W : Int) + 1).toNat = W + 1 by omega]
  rfl
theorem nmul {f : S50} (hf : fOK f) (n : Nat) : (n : Int) * f.f1 = ((n * f.f1.toNat : Nat) : Int) := by
  obtain ⟨v, hv⟩ : ∃ v : Nat, f.f1 = (v : Int) := ⟨f.f1.toNat, by have := hf.1; omega⟩
  rw [hv, Int.toNat_natCast, Int.natCast_mul]
theorem nmul_le {f : S50} (hf : fOK f) (n : Nat) (hn : n ≤ 7) : n * f.f1.toNat ≤ 14000 := Nat.le_trans (Nat.mul_le_mul hn (show f.f1.toNat ≤ 2000 by have := hf.1; omega)) (by decide)
section
variable (L A : List (S50)) (fs : List S50) (f : S50) (T B : List (List Int)) (W : Nat)
variable (hf : fOK f) (hfs : ∀ x ∈ fs, fOK x) (hl : fs.length ≤ 12) (hA : T.length ≤ 12) (hW : W ≤ 2100)
include hf hfs hl hA hW
theorem imp_l2 (pre post : List Int) (hp : pre.length + 1 + post.length = W + 1) {r : List (List Int)} : ∀ d n cur, n + d = f.f3.length + 1 → -1 ≤ cur → cur ≤ 100000000 →
    Ev (fun k => impl_bestGains.l1 k L (W : Int) (T ++ (pre ++ upV (valV fs) f pre.length d n cur :: post) :: rowV fs W :: B) (T.length : Int) ((W : Int) + 1) ((pre.length : Int) + 1) f.f0 f.f1 f.f2 f.f3) r →
    Ev (fun k => impl_bestGains.l2 k L (W : Int) (T ++ (pre ++ cur :: post) :: rowV fs W :: B) (T.length : Int) (pre.length : Int) (n : Int) ((W : Int) + 1) (pre.length : Int) f.f0 f.f1 f.f2 f.f3) r := by
  have h6 := hf.2.2.2.1
  have hw1 : wrap64 ((T.length : Int) + 1) = (T.length : Int) + 1 := w64 (by omega) (by omega)
  have hw4 : wrap64 ((pre.length : Int) + 1) = (pre.length : Int) + 1 := w64 (by omega) (by omega)
  intro d
  induction d with
  | zero =>
    intro n cur hn h0 h1 h
    refine Ev.step (fun k => rfl) (Ev.neg (by omega) ?_)
    refine Ev.via (f := fun k => impl_bestGains.l1 k L (W : Int) (T ++ (pre ++ cur :: post) :: rowV fs W :: B) (T.length : Int) ((W : Int) + 1) (wrap64 ((pre.length : Int) + 1)) f.f0 f.f1 f.f2 f.f3) ?_ (fun k => rfl)
    rw [hw4]
    exact h
  | succ d ih =>
    intro n cur hn h0 h1 h
    have hm := nmul_le hf n (by omega)
    have hw2 : wrap64 ((n : Int) * f.f1) = ((n * f.f1.toNat : Nat) : Int) := by rw [nmul hf n]; exact w64 (by omega) (by omega)
    rw [upV] at h
    refine Ev.step (fun k => rfl) (Ev.pos (by omega) ?_)
    rw [hw2]
    by_cases c : n * f.f1.toNat ≤ pre.length
    · rw [if_pos c] at h
      have hw3 : wrap64 ((pre.length : Int) - ((n * f.f1.toNat : Nat) : Int)) = ((pre.length - n * f.f1.toNat : Nat) : Int) := by rw [w64 (by omega) (by omega)]; omega
      have hr1 : rd_L2 (T ++ (pre ++ cur :: post) :: rowV fs W :: B) ((T.length : Int) + 1) = rowV fs W := rdL_mid1 _ _ _ _
      have hr0 : rd_L2 (T ++ (pre ++ cur :: post) :: rowV fs W :: B) (T.length : Int) = pre ++ cur :: post := rdL_mid _ _ _
      have hv := rowV_at fs W (pre.length - n * f.f1.toNat) (by omega)
      have hb := valV_bd fs hfs (pre.length - n * f.f1.toNat)
      have hlen : ((pre ++ cur :: post).length : Int) = (W : Int) + 1 := by rw [List.length_append, List.length_cons]; omega
      have hT : (T.length : Int) + 1 < ((T ++ (pre ++ cur :: post) :: rowV fs W :: B).length : Int) := by rw [List.length_append, List.length_cons, List.length_cons]; omega
      refine Ev.step (fun k => rfl) (Ev.pos (decide_eq_true (by omega)) ?_)
      simp only [hw1, hw2, hw3, hr1, hr0, hv]
      refine Ev.pos (by omega) (Ev.pos hT (Ev.pos (by omega) (Ev.pos (by rw [rowV_len]; omega) ?_)))
      by_cases c2 : 0 ≤ valV fs (pre.length - n * f.f1.toNat)
      · rw [if_pos c2] at h
        have hg := gainV_bd hf.2.2.2 n
        refine Ev.pos c2 (Ev.pos (by omega) (Ev.pos (by omega) (Ev.pos (by omega) (Ev.pos (by omega) (Ev.pos (by omega) (Ev.pos (by omega) ?_))))))
        rw [Int.toNat_natCast]
        refine Ev.bind (sumTake_ev hf.2.2.2 n) ?_
        rw [rd_mid, w64 (x := valV fs (pre.length - n * f.f1.toNat) + gainV f.f3 n) (by omega) (by omega), show (pre ++ cur :: post).set (pre.length : Int).toNat (mx cur (valV fs (pre.length - n * f.f1.toNat) + gainV f.f3 n)) = pre ++ (mx cur (valV fs (pre.length - n * f.f1.toNat) + gainV f.f3 n)) :: post from set_mid _ _ _ _, set_mid, w64n (by omega)]
        have hmx := mx_ge cur (valV fs (pre.length - n * f.f1.toNat) + gainV f.f3 n)
        exact ih (n + 1) _ (by omega) (by omega) (by omega) h
      · rw [if_neg c2] at h
        refine Ev.neg (by omega) ?_
        rw [w64n (by omega)]
        exact ih (n + 1) cur (by omega) h0 h1 h
    · rw [if_neg c] at h
      refine Ev.step (fun k => rfl) (Ev.neg (by rw [decide_eq_false (by omega)]; exact ff) ?_)
      rw [hw4]
      exact h
theorem imp_l1 {r : List (List Int)} : ∀ e w, w + e = W + 1 →
    Ev (fun k => impl_bestGains.l0 k L (W : Int) (T ++ rowV (f :: fs) W :: rowV fs W :: B) (wrap64 ((T.length : Int) - 1))) r →
    Ev (fun k => impl_bestGains.l1 k L (W : Int) (T ++ ((List.range w).map (valV (f :: fs)) ++ List.replicate e (-1)) :: rowV fs W :: B) (T.length : Int) ((W : Int) + 1) (w : Int) f.f0 f.f1 f.f2 f.f3) r := by
  intro e
  induction e with
  | zero =>
    intro w hw h
    obtain rfl : w = W + 1 := by omega
    refine Ev.step (fun k => rfl) (Ev.neg (by omega) ?_)
    rw [show List.replicate 0 (-1 : Int) = [] from rfl, List.append_nil]
    exact h
  | succ e ih =>
    intro w hw h
    have hpl : ((List.range w).map (valV (f :: fs))).length = w := by simp
    refine Ev.step (fun k => rfl) (Ev.pos (by omega) ?_)
    rw [List.replicate_succ]
    have key := imp_l2 L fs f T B W hf hfs hl hA hW ((List.range w).map (valV (f :: fs))) (List.replicate e (-1)) (by simp; omega) (r := r) (f.f3.length + 1 - f.f2.toNat) f.f2.toNat (-1) (by have := hf.2; omega) (by omega) (by omega)
    rw [hpl, show ((f.f2.toNat : Nat) : Int) = f.f2 by have := hf.2.1; omega] at key
    refine key ?_
    have := ih (w + 1) (by omega) h
    rw [List.range_succ, List.map_append, List.append_assoc] at this
    exact this
end
theorem drop_at (L : List S50) (n : Nat) (h : n < L.length) : L.drop n = L.getD n z50 :: L.drop (n + 1) := by
  rw [List.drop_eq_getElem_cons h, List.getD_eq_getElem?_getD, List.getElem?_eq_getElem h]
  rfl
theorem rep_snoc {α : Type} (n : Nat) (a : α) : List.replicate (n + 1) a = List.replicate n a ++ [a] := List.replicate_succ' ..
theorem imp_l0 (L : List S50) (hL : ∀ x ∈ L, fOK x) (hl : L.length ≤ 12) (W : Nat) (hW : W ≤ 2100) : ∀ n, n ≤ L.length →
    Ev (fun k => impl_bestGains.l0 k L (W : Int) (List.replicate n [] ++ tabV W (L.drop n)) ((n : Int) - 1)) (tabV W L) := by
  intro n
  induction n with
  | zero =>
    intro _
    exact Ev.step (fun k => rfl) (Ev.some' rfl)
  | succ n ih =>
    intro hn
    have hd := drop_at L n (by omega)
    obtain ⟨B, hB⟩ := tabV_ne W (L.drop (n + 1))
    have hf : fOK (L.getD n z50) := hL _ (by rw [List.getD_eq_getElem?_getD, List.getElem?_eq_getElem (by omega)]; exact List.getElem_mem _)
    have hfs : ∀ x ∈ L.drop (n + 1), fOK x := fun x hx => hL x (List.mem_of_mem_drop hx)
    have e1 : (((n + 1 : Nat) : Int) - 1) = ((List.replicate n ([] : List Int)).length : Int) := by rw [List.length_replicate]; omega
    have e2 : ((List.replicate n ([] : List Int)).length : Int) = (n : Int) := by simp
    have ih := ih (by omega)
    rw [hd, tabV, hB] at ih
    rw [rep_snoc, List.append_assoc, hB, e1]
    refine Ev.step (fun k => rfl) (Ev.pos (by rw [e2]; omega) (Ev.ret (repeat_m1 W (by omega)) (Ev.pos (by simp <;> omega) ?_)))
    refine Ev.ret rfl ?_
    rw [show [([] : List Int)] ++ rowV (L.drop (n + 1)) W :: B = [] :: rowV (L.drop (n + 1)) W :: B from rfl, set_mid, rdL_mid, e2, rdf_nat, List.length_replicate, ← e2]
    have key := imp_l1 L (L.drop (n + 1)) (L.getD n z50) (List.replicate n []) B W hf hfs (by simp; omega) (by simp; omega) hW (r := tabV W L) (W + 1) 0 (by omega)
    rw [show (((W + 1 : Nat) : Int)) = (W : Int) + 1 by omega]
    refine key ?_
    rw [e2, w64 (by omega) (by omega)]
    exact ih
theorem bestGains_ev (L : List S50) (hL : ∀ x ∈ L, fOK x) (hl : L.length ≤ 12) (W : Nat) (hW : W ≤ 2100) : Ev (fun k => impl_bestGains.f k L (W : Int)) (tabV W L) := by
  unfold impl_bestGains.f
  have hw1 : wrap64 ((L.length : Int) + 1) = ((L.length + 1 : Nat) : Int) := w64n (by omega)
  have hw2 : wrap64 ((W : Int) + 1) = ((W + 1 : Nat) : Int) := w64n (by omega)
  rw [hw1, hw2, Int.toNat_natCast, Int.toNat_natCast]
  refine Ev.pos (by omega) (Ev.pos (by omega) (Ev.ret rfl (Ev.pos (by omega) (Ev.pos (by omega) (Ev.pos (by omega) (Ev.pos (by simp; omega) ?_))))))
  have hs : (List.replicate (L.length + 1) ([] : List Int)).set (L.length : Int).toNat (List.replicate (W + 1) 0) = List.replicate L.length [] ++ tabV W (L.drop L.length) := by
    have := set_mid (List.replicate L.length ([] : List Int)) [] (List.replicate (W + 1) 0) []
    rw [List.length_replicate] at this
    rw [rep_snoc, this, List.drop_length, tabV, rowV_nil]
  rw [hs, w64 (by omega) (by omega)]
  exact imp_l0 L hL hl W hW L.length (Nat.le_refl _)
/-! ### plans -/
theorem clone_ok (l : List Int) (h : l.length ≤ 1000) : slices_Clone_int_int.f l = some l := by
  unfold slices_Clone_int_int.f
  rw [if_pos (by omega)]
theorem plan_l0 : ∀ (a p : List S50) (b q cl : List Int) (u g : Int), (∀ f ∈ a, fOK f) → okC a b → p.length = q.length → (p ++ a).length ≤ 12 → 0 ≤ u → u ≤ 14000 * p.length → 0 ≤ g → g ≤ 600000 * p.length →
    Ev (fun k => impl_planOf.l0 k (q ++ b) (p ++ a) ((p ++ a).length : Int) (p.length : Int) cl u g) (cl, u + usedV a b, g + gainsV a b) := by
  intro a
  induction a with
  | nil =>
    intro p b q cl u g _ hc _ _ _ _ _ _
    cases b with
    | cons c b => exact hc.elim
    | nil => exact Ev.step (fun k => rfl) (Ev.neg (len_end p) (Ev.some' (by simp [usedV, gainsV])))
  | cons f a ih =>
    intro p b q cl u g hfa hc hpq hl hu0 hu1 hg0 hg1
    cases b with
    | nil => exact hc.elim
    | cons c b =>
      have hl' := hl
      rw [List.length_append, List.length_cons] at hl'
      have hf := hfa f (by simp)
      have h6 := hf.2.2.2.1
      have hc1 := hc.1
      obtain ⟨m, rfl⟩ : ∃ m : Nat, c = (m : Int) := ⟨c.toNat, by have := hf.2.1; omega⟩
      have hm := nmul_le hf m (by omega)
      have hgb := gainV_bd hf.2.2.2 m
      have hrd : rd (q ++ (m : Int) :: b) (p.length : Int) = (m : Int) := by rw [hpq]; exact rd_mid q _ b
      refine Ev.step (fun k => rfl) (Ev.pos (len_lt p f a) (Ev.pos (by omega) (Ev.pos (len_lt p f a) (Ev.pos (by rw [hpq]; exact len_lt q _ b) ?_))))
      rw [hrd, rdF_mid]
      refine Ev.pos (by omega) (Ev.pos (by omega) ?_)
      rw [Int.toNat_natCast]
      refine Ev.bind (sumTake_ev hf.2.2.2 m) ?_
      rw [nmul hf m, w64 (x := ((m * f.f1.toNat : Nat) : Int)) (by omega) (by omega), w64 (x := u + ((m * f.f1.toNat : Nat) : Int)) (by omega) (by omega), w64 (x := g + gainV f.f3 m) (by omega) (by omega), w64 (by omega) (by omega), ← len_snoc p f, snoc p f a, snoc q _ b]
      refine Ev.eq (ih (p ++ [f]) b (q ++ [(m : Int)]) cl _ _ (fun x hx => hfa x (List.mem_cons_of_mem f hx)) hc.2 (by simp [hpq]) (by rw [← snoc]; exact hl) (by omega) (by rw [List.length_append, List.length_singleton]; omega) (by omega) (by rw [List.length_append, List.length_singleton]; omega)) ?_
      rw [usedV, gainsV, nmul hf m, Int.toNat_natCast]
      simp only [Prod.mk.injEq, true_and]
      omega
theorem plan_ev (L : List S50) (cs : List Int) (hL : ∀ x ∈ L, fOK x) (hl : L.length ≤ 12) (hc : okC L cs) : Ev (fun k => impl_planOf.f k L cs) (cs, usedV L cs, gainsV L cs) := by
  have h1 := (okC_bd L cs hL hc).1
  unfold impl_planOf.f
  refine Ev.ret (clone_ok cs (by omega)) ?_
  refine Ev.eq (plan_l0 L [] cs [] cs 0 0 hL hc rfl (by simpa using hl) (by omega) (by simp) (by omega) (by simp)) ?_
  simp
theorem shelfCode_ev (L : List S50) (h : facingsV L = true) (w : Int) (h0 : 0 ≤ w) (h1 : w ≤ 2000) : Ev (fun k => impl_shelfCode.f k L w) 0 := by
  have hl : L.length ≤ 12 := by unfold facingsV at h; simp only [Bool.and_eq_true, decide_eq_true_eq] at h; exact h.1
  unfold impl_shelfCode.f
  refine Ev.ret (show impl_Facing.f L = some true by unfold impl_Facing.f; rw [decide_eq_true (by omega)]) (Ev.pos rfl (Ev.bind (implFacings_ev L) ?_))
  rw [h]
  refine Ev.pos rfl (Ev.ret (within_ev _ _ _) ?_)
  rw [decide_eq_true ⟨h0, h1⟩]
  exact Ev.pos rfl (Ev.some' rfl)
theorem facings_ok {L : List S50} (h : facingsV L = true) : L.length ≤ 12 ∧ ∀ x ∈ L, fOK x := by
  unfold facingsV at h
  simp only [Bool.and_eq_true, decide_eq_true_eq] at h
  exact ⟨h.1, facB_ok L [] h.2⟩
theorem shelfOf_l0 (L : List S50) (w : Int) (cs : List Int) {r : List Int × Int × Int × Int} (hE : Ev (fun k => (impl_planOf.f k L cs).bind fun bt => (if bt.2.1 > w then (some (([] : List Int), 0, 0, 14)) else (some (bt.1, bt.2.1, bt.2.2, 0)))) r) :
    ∀ (a p : List S50) (b q : List Int), (∀ f ∈ a, fOK f) → okC a b → p.length = q.length → (p ++ a).length ≤ 12 → cs = q ++ b →
    Ev (fun k => impl_ShelfOf.l0 k L w cs (p ++ a) ((p ++ a).length : Int) (p.length : Int)) r := by
  intro a
  induction a with
  | nil => intro p b q _ _ _ _ _; exact Ev.step (fun k => rfl) (Ev.neg (len_end p) hE)
  | cons f a ih =>
    intro p b q hfa hc hpq hl hcs
    cases b with
    | nil => exact hc.elim
    | cons c b =>
      have hl' := hl
      rw [List.length_append, List.length_cons] at hl'
      have hrd : rd cs (p.length : Int) = c := by rw [hpq, hcs]; exact rd_mid q _ b
      refine Ev.step (fun k => rfl) (Ev.pos (len_lt p f a) (Ev.pos (by omega) (Ev.pos (len_lt p f a) (Ev.pos (by rw [hpq, hcs]; exact len_lt q _ b) ?_))))
      rw [hrd, rdF_mid]
      refine Ev.ret (within_ev _ _ _) ?_
      rw [decide_eq_true hc.1]
      refine Ev.pos rfl ?_
      rw [w64 (by omega) (by omega), ← len_snoc p f, snoc p f a]
      exact ih (p ++ [f]) b (q ++ [c]) (fun x hx => hfa x (List.mem_cons_of_mem f hx)) hc.2 (by simp [hpq]) (by rw [← snoc]; exact hl) (by rw [hcs, snoc])
/-- Counts that are right: what the program says of them. -/
def shelfV (L : List S50) (w : Int) (cs : List Int) : List Int × Int × Int × Int := if usedV L cs > w then ([], 0, 0, 14) else (cs, usedV L cs, gainsV L cs, 0)
theorem shelfOf_ev (L : List S50) (h : facingsV L = true) (w : Int) (h0 : 0 ≤ w) (h1 : w ≤ 2000) (cs : List Int) (hc : okC L cs) : Ev (fun k => impl_ShelfOf.f k L w cs) (shelfV L w cs) := by
  obtain ⟨hl, hL⟩ := facings_ok h
  have hb := okC_bd L cs hL hc
  unfold impl_ShelfOf.f
  refine Ev.ret (show impl_isList_int.f cs = some true by unfold impl_isList_int.f; rw [decide_eq_true (by omega)]) (Ev.pos rfl (Ev.bind (shelfCode_ev L h w h0 h1) (Ev.pos rfl (Ev.pos (by omega) ?_))))
  refine shelfOf_l0 L w cs (Ev.bind (plan_ev L cs hL hl hc) ?_) L [] cs [] hL hc rfl (by simpa using hl) rfl
  unfold shelfV
  exact Ev.ite (fun _ => Ev.some' rfl) (fun _ => Ev.some' rfl)
/-! ### the program's best -/
theorem take_app (L : List S50) (p : List S50) (f : S50) (fs : List S50) (W : Nat) (h : L = p ++ f :: fs) : rd_L2 (tabV W L) (p.length : Int) = rowV (f :: fs) W ∧ rd_L2 (tabV W L) ((p.length : Int) + 1) = rowV fs W := by
  subst h
  refine ⟨tabV_at W p (f :: fs), ?_⟩
  have := tabV_at W (p ++ [f]) fs
  rw [List.append_assoc] at this
  rw [show (p.length : Int) + 1 = ((p ++ [f]).length : Int) by simp]
  exact this
section
variable (L p fs : List S50) (f : S50) (W : Nat) (hLe : L = p ++ f :: fs) (hL : ∀ x ∈ L, fOK x) (hl : L.length ≤ 12) (hW : W ≤ 2100)
include hLe hL hl hW
theorem best_step (w : Nat) (hw : w ≤ W) (cs : List Int) (hcs : cs.length ≤ 100) {r : List Int × Int × Int × Int} (n : Nat) (hnw : n * f.f1.toNat ≤ w) (hn : n ≤ f.f3.length)
    (hyes : hitP (valV fs) f w (valV (f :: fs) w) n → Ev (fun k => impl_BestShelf.l0 k L ((w - n * f.f1.toNat : Nat) : Int) (tabV W L) (cs ++ [(n : Int)]) L (L.length : Int) ((p.length : Int) + 1)) r)
    (hno : ¬ hitP (valV fs) f w (valV (f :: fs) w) n → Ev (fun k => impl_BestShelf.l1 k L (w : Int) (tabV W L) cs (p.length : Int) (wrap64 ((n : Int) - 1)) L (L.length : Int) (p.length : Int) f.f0 f.f1 f.f2 f.f3) r) :
    Ev (fun k => impl_BestShelf.l1 k L (w : Int) (tabV W L) cs (p.length : Int) (n : Int) L (L.length : Int) (p.length : Int) f.f0 f.f1 f.f2 f.f3) r := by
  have hf : fOK f := hL f (by rw [hLe]; simp)
  have hfs : ∀ x ∈ fs, fOK x := fun x hx => hL x (by rw [hLe]; simp [hx])
  have hpl : p.length + 1 + fs.length ≤ 12 := by rw [hLe, List.length_append, List.length_cons] at hl; omega
  have hw1 : wrap64 ((p.length : Int) + 1) = (p.length : Int) + 1 := w64 (by omega) (by omega)
  obtain ⟨hr0, hr1⟩ := take_app L p f fs W hLe
  have hT : ((tabV W L).length : Int) = (p.length : Int) + 1 + fs.length + 1 := by rw [tabV_len, hLe, List.length_append, List.length_cons]; omega
  have h6 := hf.2.2.2.1
  have hv := rowV_at fs W (w - n * f.f1.toNat) (by omega)
  have hv2 := rowV_at (f :: fs) W w hw
  have hb := valV_bd fs hfs (w - n * f.f1.toNat)
  have hg := gainV_bd hf.2.2.2 n
  have hw2 : wrap64 ((n : Int) * f.f1) = ((n * f.f1.toNat : Nat) : Int) := by rw [nmul hf n]; exact w64 (by omega) (by omega)
  have hw3 : wrap64 ((w : Int) - ((n * f.f1.toNat : Nat) : Int)) = ((w - n * f.f1.toNat : Nat) : Int) := by rw [w64 (by omega) (by omega)]; omega
  unfold hitP at hyes hno
  refine Ev.up1 ?_
  simp only [impl_BestShelf.l1, hw1, hw2, hw3, hr0, hr1, hv, hv2, rowV_len]
  refine Ev.pos (by omega) (Ev.pos (by omega) (Ev.pos (by omega) (Ev.pos (by omega) ?_)))
  by_cases c : valV fs (w - n * f.f1.toNat) < 0
  · exact Ev.pos c (hno (by omega))
  · refine Ev.neg c (Ev.pos (by omega) (Ev.pos (by omega) ?_))
    rw [Int.toNat_natCast]
    refine Ev.bind (sumTake_ev hf.2.2.2 n) ?_
    rw [w64 (x := valV fs (w - n * f.f1.toNat) + gainV f.f3 n) (by omega) (by omega)]
    refine Ev.pos (by omega) (Ev.pos (by omega) (Ev.pos (by omega) (Ev.pos (by omega) ?_)))
    by_cases c2 : valV fs (w - n * f.f1.toNat) + gainV f.f3 n = valV (f :: fs) w
    · exact Ev.pos c2 (Ev.pos (by omega) (hyes ⟨by omega, c2⟩))
    · exact Ev.neg c2 (hno (fun h => c2 h.2))
theorem best_l1 (w : Nat) (hw : w ≤ W) (cs : List Int) (hcs : cs.length ≤ 100) {r : List Int × Int × Int × Int} : ∀ n m, m ≤ n → n * f.f1.toNat ≤ w → n ≤ f.f3.length → hitP (valV fs) f w (valV (f :: fs) w) m →
    Ev (fun k => impl_BestShelf.l0 k L ((w - pickV (valV fs) f w (valV (f :: fs) w) n * f.f1.toNat : Nat) : Int) (tabV W L) (cs ++ [(pickV (valV fs) f w (valV (f :: fs) w) n : Int)]) L (L.length : Int) ((p.length : Int) + 1)) r →
    Ev (fun k => impl_BestShelf.l1 k L (w : Int) (tabV W L) cs (p.length : Int) (n : Int) L (L.length : Int) (p.length : Int) f.f0 f.f1 f.f2 f.f3) r := by
  intro n
  induction n with
  | zero =>
    intro m hm hnw hn hh h
    obtain rfl : m = 0 := by omega
    exact best_step L p fs f W hLe hL hl hW w hw cs hcs 0 hnw hn (fun _ => h) (fun g => absurd hh g)
  | succ n ih =>
    intro m hm hnw hn hh h
    rw [pickV] at h
    have hle : n * f.f1.toNat ≤ (n + 1) * f.f1.toNat := Nat.mul_le_mul_right _ (by omega)
    have h6 := (hL f (by rw [hLe]; simp)).2.2.2.1
    refine best_step L p fs f W hLe hL hl hW w hw cs hcs (n + 1) hnw hn (fun g => ?_) (fun g => ?_)
    · unfold hitP at g
      rw [if_pos g] at h
      exact h
    · have g' := g
      unfold hitP at g'
      rw [if_neg g'] at h
      rw [w64 (by omega) (by omega), show (((n + 1 : Nat) : Int) - 1) = (n : Int) by omega]
      exact ih m (by have : m ≠ n + 1 := by rintro rfl; exact g hh
                     omega) (by omega) (by omega) hh h
end
theorem top_eq {f : S50} (hf : fOK f) (w : Nat) (hw : w ≤ 100000) : mn (f.f3.length : Int) (wrap64 (Int.tdiv (w : Int) f.f1)) = (topV f w : Int) := by
  obtain ⟨v, hv⟩ : ∃ v : Nat, f.f1 = (v : Int) := ⟨f.f1.toNat, by have := hf.1; omega⟩
  have h6 := hf.2.2.2.1
  unfold topV
  have hq := Nat.div_le_self w v
  rw [hv, Int.tdiv_eq_ediv_of_nonneg (by omega), ← Int.natCast_ediv, Int.toNat_natCast]
  generalize w / v = q at hq ⊢
  rw [w64 (by omega) (by omega)]
  unfold mn
  show _ = ((min f.f3.length q : Nat) : Int)
  split <;> omega
theorem best_l0 (L : List S50) (hL : ∀ x ∈ L, fOK x) (hl : L.length ≤ 12) (W : Nat) (hW : W ≤ 2100) {r : List Int × Int × Int × Int} : ∀ (fs p : List S50) (w : Nat) (cs : List Int), L = p ++ fs → w ≤ W → cs.length = p.length → 0 ≤ valV fs w →
    Ev (fun k => (impl_planOf.f k L (cs ++ cntV fs w)).bind fun bt => some (bt.1, bt.2.1, bt.2.2, (0 : Int))) r →
    Ev (fun k => impl_BestShelf.l0 k L (w : Int) (tabV W L) cs L (L.length : Int) (p.length : Int)) r := by
  intro fs
  induction fs with
  | nil =>
    intro p w cs hLe hw hcs hv h
    rw [List.append_nil] at hLe
    rw [cntV, List.append_nil] at h
    exact Ev.step (fun k => rfl) (Ev.neg (by rw [hLe]; omega) h)
  | cons f fs ih =>
    intro p w cs hLe hw hcs hv h
    have hf : fOK f := hL f (by rw [hLe]; simp)
    have hlt : (p.length : Int) < (L.length : Int) := by rw [hLe]; exact len_lt p f fs
    have hrd : rd_T50 L (p.length : Int) = f := by rw [hLe]; exact rdF_mid p f fs
    obtain ⟨g1, g2, g3, g4, g5⟩ := pk_ok hf hv
    have htw : topV f w * f.f1.toNat ≤ w := (Nat.le_div_iff_mul_le (by have := hf.1; omega)).1 (Nat.min_le_right _ _)
    refine Ev.step (fun k => rfl) (Ev.pos hlt (Ev.pos (by omega) (Ev.pos hlt ?_)))
    rw [hrd]
    refine Ev.neg (by have := hf.1; omega) ?_
    rw [top_eq hf w (by omega)]
    refine best_l1 L p fs f W hLe hL hl hW w hw cs (by omega) (topV f w) (pkV fs f w) g3 htw (Nat.min_le_left _ _) g1 ?_
    have e : (p.length : Int) + 1 = ((p ++ [f]).length : Int) := by simp
    rw [e]
    refine ih (p ++ [f]) (w - pkV fs f w * f.f1.toNat) _ (by rw [hLe, snoc]) (by omega) (by simp [hcs]) g1.1 ?_
    rw [cntV] at h
    rw [List.append_assoc]
    exact h
/-- The program's best. -/
def bestV (L : List S50) (w : Nat) : List Int × Int × Int × Int := if valV L w < 0 then ([], 0, 0, 8) else (cntV L w, usedV L (cntV L w), gainsV L (cntV L w), 0)
theorem bestShelf_ev (L : List S50) (h : facingsV L = true) (w : Nat) (hw : w ≤ 2000) : Ev (fun k => impl_BestShelf.f k L (w : Int)) (bestV L w) := by
  obtain ⟨hl, hL⟩ := facings_ok h
  unfold impl_BestShelf.f
  refine Ev.bind (shelfCode_ev L h w (by omega) (by omega)) (Ev.pos rfl (Ev.bind (bestGains_ev L hL hl w (by omega)) ?_))
  have h0 : rd_L2 (tabV w L) 0 = rowV L w := tabV_at w [] L
  rw [h0, rowV_at L w w (Nat.le_refl _), rowV_len]
  refine Ev.pos (by rw [tabV_len]; omega) (Ev.pos (by omega) (Ev.pos (by omega) ?_))
  unfold bestV
  refine Ev.ite (fun c => Ev.some' rfl) (fun c => ?_)
  have hk := cntV_ok L w hL (by omega)
  exact best_l0 L hL hl w (by omega) L [] w [] rfl (Nat.le_refl _) rfl (by omega) (Ev.bind (plan_ev L (cntV L w) hL hl hk.1) (Ev.some' rfl))
section
variable (L p fs : List S50) (f : S50) (T B : List (List Int)) (W : Nat)
variable (hLe : L = p ++ f :: fs) (hL : ∀ x ∈ L, fOK x) (hl : L.length ≤ 12) (hT : T.length = p.length) (hW : W ≤ 2100)
include hLe hL hl hT hW
theorem spc_l2 (pre post : List Int) (hp : pre.length + 1 + post.length = W + 1) {r : List Int × Int × Int × Int} : ∀ d n cur, n + d = f.f3.length + 1 → -1 ≤ cur → cur ≤ 100000000 →
    Ev (fun k => spec_BestShelf.l1 k L (W : Int) (T ++ (pre ++ upV (valV fs) f pre.length d n cur :: post) :: rowV fs W :: B) (T.length : Int) ((pre.length : Int) + 1)) r →
    Ev (fun k => spec_BestShelf.l2 k L (W : Int) (T ++ (pre ++ cur :: post) :: rowV fs W :: B) (T.length : Int) (pre.length : Int) (n : Int)) r := by
  have hf : fOK f := hL f (by rw [hLe]; simp)
  have hfs : ∀ x ∈ fs, fOK x := fun x hx => hL x (by rw [hLe]; simp [hx])
  have hpl : p.length + 1 + fs.length ≤ 12 := by rw [hLe, List.length_append, List.length_cons] at hl; omega
  have hLl : L.length = p.length + 1 + fs.length := by rw [hLe, List.length_append, List.length_cons]; omega
  have hrd : rd_T50 L (T.length : Int) = f := by rw [hT, hLe]; exact rdF_mid p f fs
  have h6 := hf.2.2.2.1
  have hw1 : wrap64 ((T.length : Int) + 1) = (T.length : Int) + 1 := w64 (by omega) (by omega)
  have hw4 : wrap64 ((pre.length : Int) + 1) = (pre.length : Int) + 1 := w64 (by omega) (by omega)
  intro d
  induction d with
  | zero =>
    intro n cur hn h0 h1 h
    refine Ev.up1 ?_
    simp only [spec_BestShelf.l2, hrd]
    refine Ev.pos (by omega) (Ev.pos (by omega) (Ev.neg (by omega) ?_))
    refine Ev.via (f := fun k => spec_BestShelf.l1 k L (W : Int) (T ++ (pre ++ cur :: post) :: rowV fs W :: B) (T.length : Int) (wrap64 ((pre.length : Int) + 1))) ?_ (fun k => rfl)
    rw [hw4]
    exact h
  | succ d ih =>
    intro n cur hn h0 h1 h
    have hm := nmul_le hf n (by omega)
    have hw2 : wrap64 ((n : Int) * f.f1) = ((n * f.f1.toNat : Nat) : Int) := by rw [nmul hf n]; exact w64 (by omega) (by omega)
    rw [upV] at h
    refine Ev.up1 ?_
    simp only [spec_BestShelf.l2, hrd, hw2]
    refine Ev.pos (by omega) (Ev.pos (by omega) (Ev.pos (by omega) ?_))
    by_cases c : n * f.f1.toNat ≤ pre.length
    · rw [if_pos c] at h
      have hw3 : wrap64 ((pre.length : Int) - ((n * f.f1.toNat : Nat) : Int)) = ((pre.length - n * f.f1.toNat : Nat) : Int) := by rw [w64 (by omega) (by omega)]; omega
      have hr1 : rd_L2 (T ++ (pre ++ cur :: post) :: rowV fs W :: B) ((T.length : Int) + 1) = rowV fs W := rdL_mid1 _ _ _ _
      have hr0 : rd_L2 (T ++ (pre ++ cur :: post) :: rowV fs W :: B) (T.length : Int) = pre ++ cur :: post := rdL_mid _ _ _
      have hv := rowV_at fs W (pre.length - n * f.f1.toNat) (by omega)
      have hb := valV_bd fs hfs (pre.length - n * f.f1.toNat)
      have hlen : ((pre ++ cur :: post).length : Int) = (W : Int) + 1 := by rw [List.length_append, List.length_cons]; omega
      have hTl : (T.length : Int) + 1 < ((T ++ (pre ++ cur :: post) :: rowV fs W :: B).length : Int) := by rw [List.length_append, List.length_cons, List.length_cons]; omega
      refine Ev.up1 ?_
      simp only [spec_BestShelf.j3, hrd, hw1, hw2, hw3, hr1, hr0, hv]
      refine Ev.pos (decide_eq_true (by omega)) (Ev.pos (by omega) (Ev.pos hTl (Ev.pos (by omega) (Ev.pos (by omega) (Ev.pos (by omega) (Ev.pos (by rw [rowV_len]; omega) ?_))))))
      by_cases c2 : 0 ≤ valV fs (pre.length - n * f.f1.toNat)
      · rw [if_pos c2] at h
        have hg := gainV_bd hf.2.2.2 n
        refine Ev.pos c2 (Ev.pos (by omega) (Ev.pos (by omega) (Ev.pos (by omega) ?_)))
        refine Ev.bind (specGain_ev hf.2.2.2 f.f0 f.f1 f.f2 n (by omega)) ?_
        rw [rd_mid, w64 (x := valV fs (pre.length - n * f.f1.toNat) + gainV f.f3 n) (by omega) (by omega), show (pre ++ cur :: post).set (pre.length : Int).toNat (mx cur (valV fs (pre.length - n * f.f1.toNat) + gainV f.f3 n)) = pre ++ (mx cur (valV fs (pre.length - n * f.f1.toNat) + gainV f.f3 n)) :: post from set_mid _ _ _ _, set_mid, w64n (by omega)]
        have hmx := mx_ge cur (valV fs (pre.length - n * f.f1.toNat) + gainV f.f3 n)
        exact ih (n + 1) _ (by omega) (by omega) (by omega) h
      · rw [if_neg c2] at h
        refine Ev.neg (by omega) ?_
        rw [w64n (by omega)]
        exact ih (n + 1) cur (by omega) h0 h1 h
    · rw [if_neg c] at h
      refine Ev.up1 ?_
      simp only [spec_BestShelf.j3, hw4]
      exact Ev.neg (by rw [decide_eq_false (by omega)]; exact ff) h
theorem spc_l1 {r : List Int × Int × Int × Int} : ∀ e w, w + e = W + 1 →
    Ev (fun k => spec_BestShelf.l0 k L (W : Int) (T ++ rowV (f :: fs) W :: rowV fs W :: B) (wrap64 ((T.length : Int) - 1))) r →
    Ev (fun k => spec_BestShelf.l1 k L (W : Int) (T ++ ((List.range w).map (valV (f :: fs)) ++ List.replicate e 0) :: rowV fs W :: B) (T.length : Int) (w : Int)) r := by
  intro e
  have hf : fOK f := hL f (by rw [hLe]; simp)
  have hLl : L.length = p.length + 1 + fs.length := by rw [hLe, List.length_append, List.length_cons]; omega
  have hrd : rd_T50 L (T.length : Int) = f := by rw [hT, hLe]; exact rdF_mid p f fs
  induction e with
  | zero =>
    intro w hw h
    obtain rfl : w = W + 1 := by omega
    refine Ev.step (fun k => rfl) (Ev.neg (by omega) ?_)
    rw [show List.replicate 0 (0 : Int) = [] from rfl, List.append_nil]
    exact h
  | succ e ih =>
    intro w hw h
    have hpl : ((List.range w).map (valV (f :: fs))).length = w := by simp
    have hr0 : rd_L2 (T ++ ((List.range w).map (valV (f :: fs)) ++ 0 :: List.replicate e 0) :: rowV fs W :: B) (T.length : Int) = (List.range w).map (valV (f :: fs)) ++ 0 :: List.replicate e 0 := rdL_mid _ _ _
    have hlen : (((List.range w).map (valV (f :: fs)) ++ 0 :: List.replicate e 0).length : Int) = (W : Int) + 1 := by rw [List.length_append, List.length_cons, hpl, List.length_replicate]; omega
    have hTl : (T.length : Int) < ((T ++ ((List.range w).map (valV (f :: fs)) ++ 0 :: List.replicate e 0) :: rowV fs W :: B).length : Int) := by rw [List.length_append, List.length_cons, List.length_cons]; omega
    have hset : ((List.range w).map (valV (f :: fs)) ++ 0 :: List.replicate e 0).set (w : Int).toNat (-1) = (List.range w).map (valV (f :: fs)) ++ (-1) :: List.replicate e 0 := by
      have := set_mid ((List.range w).map (valV (f :: fs))) 0 (-1) (List.replicate e 0)
      rw [hpl] at this
      exact this
    rw [List.replicate_succ]
    refine Ev.up1 ?_
    simp only [spec_BestShelf.l1, hr0, hrd, hlen]
    refine Ev.pos (by omega) (Ev.pos (by omega) (Ev.pos hTl (Ev.pos (by omega) (Ev.pos (by omega) (Ev.pos (by omega) ?_)))))
    rw [hset, set_mid]
    have key := spc_l2 L p fs f T B W hLe hL hl hT hW ((List.range w).map (valV (f :: fs))) (List.replicate e 0) (by simp; omega) (r := r) (f.f3.length + 1 - f.f2.toNat) f.f2.toNat (-1) (by have := hf.2; omega) (by omega) (by omega)
    rw [hpl, show ((f.f2.toNat : Nat) : Int) = f.f2 by have := hf.2.1; omega] at key
    refine key ?_
    have := ih (w + 1) (by omega) h
    rw [List.range_succ, List.map_append, List.append_assoc] at this
    exact this
end
theorem spc_l0 (L : List S50) (hL : ∀ x ∈ L, fOK x) (hl : L.length ≤ 12) (W : Nat) (hW : W ≤ 2100) {r : List Int × Int × Int × Int} (h : Ev (fun k => spec_BestShelf.l0 k L (W : Int) (tabV W L) (-1)) r) : ∀ n, n ≤ L.length →
    Ev (fun k => spec_BestShelf.l0 k L (W : Int) (List.replicate n [] ++ tabV W (L.drop n)) ((n : Int) - 1)) r := by
  intro n
  induction n with
  | zero =>
    intro _
    exact h
  | succ n ih =>
    intro hn
    have hd := drop_at L n (by omega)
    obtain ⟨B, hB⟩ := tabV_ne W (L.drop (n + 1))
    have hLe : L = L.take n ++ L.getD n z50 :: L.drop (n + 1) := by rw [← hd, List.take_append_drop]
    have e1 : (((n + 1 : Nat) : Int) - 1) = ((List.replicate n ([] : List Int)).length : Int) := by rw [List.length_replicate]; omega
    have e2 : ((List.replicate n ([] : List Int)).length : Int) = (n : Int) := by simp
    have ih := ih (by omega)
    rw [hd, tabV, hB] at ih
    have hw2 : wrap64 ((W : Int) + 1) = ((W + 1 : Nat) : Int) := w64n (by omega)
    rw [rep_snoc, List.append_assoc, hB, e1, show [([] : List Int)] ++ rowV (L.drop (n + 1)) W :: B = [] :: rowV (L.drop (n + 1)) W :: B from rfl]
    refine Ev.up1 ?_
    simp only [spec_BestShelf.l0, hw2, Int.toNat_natCast (W + 1)]
    refine Ev.pos (by omega) (Ev.pos (by omega) (Ev.pos (by omega) (Ev.pos (by omega) (Ev.pos (by rw [List.length_append, List.length_cons]; omega) ?_))))
    rw [set_mid]
    refine spc_l1 L (L.take n) (L.drop (n + 1)) (L.getD n z50) (List.replicate n []) B W hLe hL hl (by simp; omega) hW (W + 1) 0 (by omega) ?_
    rw [e2, w64 (by omega) (by omega)]
    exact ih
theorem specTab_ev (L : List S50) (h : facingsV L = true) (w : Nat) (hw : w ≤ 2000) {r : List Int × Int × Int × Int} (hr : Ev (fun k => spec_BestShelf.l0 k L (w : Int) (tabV w L) (-1)) r) : Ev (fun k => spec_BestShelf.f k L (w : Int)) r := by
  obtain ⟨hl, hL⟩ := facings_ok h
  have hw1 : wrap64 ((L.length : Int) + 1) = ((L.length + 1 : Nat) : Int) := w64n (by omega)
  have hw2 : wrap64 ((w : Int) + 1) = ((w + 1 : Nat) : Int) := w64n (by omega)
  unfold spec_BestShelf.f
  refine Ev.neg (by omega) (Ev.bind (specFacings_ev L) (Ev.pos h (Ev.ret (l01In_ev _ _ _) (Ev.pos (decide_eq_true ⟨by omega, by omega⟩) ?_))))
  rw [hw1, hw2, Int.toNat_natCast, Int.toNat_natCast]
  refine Ev.pos (by omega) (Ev.pos (by omega) (Ev.ret rfl (Ev.pos (by omega) (Ev.pos (by omega) (Ev.pos (by omega) (Ev.pos (by simp; omega) ?_))))))
  have hs : (List.replicate (L.length + 1) ([] : List Int)).set (L.length : Int).toNat (List.replicate (w + 1) 0) = List.replicate L.length [] ++ tabV w (L.drop L.length) := by
    have := set_mid (List.replicate L.length ([] : List Int)) [] (List.replicate (w + 1) 0) []
    rw [List.length_replicate] at this
    rw [rep_snoc, this, List.drop_length, tabV, rowV_nil]
  rw [hs, w64 (by omega) (by omega)]
  exact spc_l0 L hL hl w (by omega) hr L.length (Nat.le_refl _)
theorem specNone_ev (L : List S50) (h : facingsV L = true) (w : Nat) (hw : w ≤ 2000) (hv : valV L w < 0) : Ev (fun k => spec_BestShelf.f k L (w : Int)) ([], 0, 0, 8) := by
  refine specTab_ev L h w hw ?_
  have h0 : rd_L2 (tabV w L) 0 = rowV L w := tabV_at w [] L
  refine Ev.up1 ?_
  simp only [spec_BestShelf.l0, h0, rowV_at L w w (Nat.le_refl _), rowV_len, tabV_len]
  exact Ev.neg (by omega) (Ev.pos (by omega) (Ev.pos (by omega) (Ev.pos (by omega) (Ev.pos hv (Ev.some' rfl)))))
/-- A source of draws: its code's bytes, its place (at most N), its seed. -/
def Srd (c : List Int) (a s N : Int) : Prop := (∀ x ∈ c, 0 ≤ x ∧ x ≤ 255) ∧ 0 ≤ a ∧ a ≤ N ∧ 0 ≤ s ∧ s ≤ 2147483647
theorem Srd.mono {c : List Int} {a s N M : Int} (h : Srd c a s N) (hM : N ≤ M) : Srd c a s M := ⟨h.1, h.2.1, by have := h.2.2.1; omega, h.2.2.2⟩
theorem rd_byte {c : List Int} (hc : ∀ x ∈ c, 0 ≤ x ∧ x ≤ 255) (i : Int) : 0 ≤ rd c i ∧ rd c i ≤ 255 := by
  unfold rd
  rw [List.getD_eq_getElem?_getD]
  cases h : c[i.toNat]? with
  | none => simp
  | some x => simpa using hc x (List.mem_of_getElem? h)
theorem byte_ok {c : List Int} {a s N : Int} (h : Srd c a s N) (hN : N ≤ 1000000000) : ∃ v s', spec_l00Src_byte.f c a s = some (v, a + 1, s') ∧ 0 ≤ v ∧ v ≤ 255 ∧ Srd c (a + 1) s' (N + 1) := by
  obtain ⟨hc, h0, h1, h2, h3⟩ := h
  unfold spec_l00Src_byte.f
  rw [w64 (x := a + 1) (by omega) (by omega), w64 (x := a + 1 - 1) (by omega) (by omega), show a + 1 - 1 = a by omega]
  have hb := rd_byte hc a
  generalize rd c a = b at hb
  rw [w64 (x := b) (by omega) (by omega), w64 (x := s * 31) (by omega) (by omega), w64 (x := s * 31 + b) (by omega) (by omega), w64 (x := s * 31 + b + 7) (by omega) (by omega), Int.tmod_eq_emod_of_nonneg (show 0 ≤ s * 31 + b + 7 by omega)]
  rw [w64 (x := s * 1103515245) (by omega) (by omega), w64 (x := s * 1103515245 + 12345) (by omega) (by omega), Int.tmod_eq_emod_of_nonneg (show 0 ≤ s * 1103515245 + 12345 by omega)]
  have e := Int.emod_nonneg (s * 1103515245 + 12345) (show (2147483648 : Int) ≠ 0 by decide)
  have e2 := Int.emod_lt_of_pos (s * 1103515245 + 12345) (show (0 : Int) < 2147483648 by decide)
  have f := Int.emod_nonneg (s * 31 + b + 7) (show (2147483648 : Int) ≠ 0 by decide)
  have f2 := Int.emod_lt_of_pos (s * 31 + b + 7) (show (0 : Int) < 2147483648 by decide)
  generalize (s * 1103515245 + 12345) % 2147483648 = t at e e2 ⊢
  generalize (s * 31 + b + 7) % 2147483648 = u at f f2 ⊢
  by_cases c1 : a + 1 ≤ (c.length : Int)
  · rw [if_pos c1, if_pos h0, if_pos (by omega)]
    exact ⟨_, _, rfl, hb.1, hb.2, hc, by omega, by omega, by omega, by omega⟩
  · rw [if_neg c1]
    by_cases c2 : a + 1 > 3000
    · rw [if_pos c2]
      exact ⟨_, _, rfl, by omega, by omega, hc, by omega, by omega, by omega, by omega⟩
    · rw [if_neg c2, Int.tdiv_eq_ediv_of_nonneg (by omega), w64 (by omega) (by omega), Int.tmod_eq_emod_of_nonneg (by omega)]
      exact ⟨_, _, rfl, by omega, by omega, hc, by omega, by omega, by omega, by omega⟩
theorem next_ok {c : List Int} {a s N : Int} (n : Int) (h : Srd c a s N) (hN : N ≤ 900000000) (h1 : 1 ≤ n) (h2 : n ≤ 16777216) : ∃ v a' s', spec_l00Src_next.f c a s n = some (v, a', s') ∧ 0 ≤ v ∧ v < n ∧ Srd c a' s' (N + 3) := by
  unfold spec_l00Src_next.f
  by_cases c1 : n ≤ 1
  · rw [if_pos c1]
    exact ⟨_, _, _, rfl, by omega, by omega, h.mono (by omega)⟩
  · rw [if_neg c1]
    obtain ⟨v, s1, hv, v0, v1, S1⟩ := byte_ok h (by omega)
    simp only [hv, Option.bind_some]
    have g := Int.emod_nonneg v (show n ≠ 0 by omega)
    have g2 := Int.emod_lt_of_pos v (show 0 < n by omega)
    by_cases c2 : n ≤ 256
    · rw [if_pos c2, if_neg (by omega), Int.tmod_eq_emod_of_nonneg (by omega)]
      exact ⟨_, _, _, rfl, g, g2, S1.mono (by omega)⟩
    · rw [if_neg c2]
      obtain ⟨x, s2, hx, x0, x1, S2⟩ := byte_ok S1 (by omega)
      simp only [hx, Option.bind_some]
      obtain ⟨y, s3, hy, y0, y1, S3⟩ := byte_ok S2 (by omega)
      simp only [hy, Option.bind_some]
      rw [if_neg (by omega)]
      rw [w64 (x := v * 65536) (by omega) (by omega), w64 (x := x * 256) (by omega) (by omega), w64 (x := v * 65536 + x * 256) (by omega) (by omega), w64 (by omega) (by omega), Int.tmod_eq_emod_of_nonneg (by omega)]
      exact ⟨_, _, _, rfl, Int.emod_nonneg _ (by omega), Int.emod_lt_of_pos _ (by omega), S3.mono (by omega)⟩
theorem source_ok (l : List Int) (h : ∀ x ∈ l, (Lit.int .u8 x).wf = true) : ∃ s, spec_l00Source.f l = some (l, 0, s) ∧ Srd l 0 s 0 := by
  refine ⟨_, rfl, fun x hx => bounds_u8 (h x hx), by omega, by omega, ?_, ?_⟩ <;> omega
theorem size_ok {c : List Int} (a s m : Int) (hc : c.length ≤ 1048576) (hm : 1 ≤ m) : ∃ v, spec_l00Src_size.f c a s m = some (v, a, s) ∧ 1 ≤ v ∧ v ≤ m := by
  unfold spec_l00Src_size.f
  rw [w64 (x := (c.length : Int) / 12) (by omega) (by omega), w64 (by omega) (by omega)]
  refine ⟨_, rfl, ?_, ?_⟩ <;> (unfold mn; split <;> omega)

/-! ### what is drawn -/
def nmV (n : Nat) : ByteArray := (⟨#[102]⟩ : ByteArray) ++ strOfNums [wrap64 (48 + (n : Int)) % 256]
theorem digits_ev (n : Nat) (h : n ≤ 9) : Ev (fun k => spec_l00Digits.f k (n : Int)) (strOfNums [wrap64 (48 + (n : Int)) % 256]) :=
  Ev.step (fun k => rfl) (Ev.neg (by omega) (Ev.neg (by omega) (Ev.pos (by omega) (Ev.some' rfl))))
theorem dig_size (n : Nat) (h : n ≤ 9) : (strOfNums [wrap64 (48 + (n : Int)) % 256]).size = 1 := by
  match n, h with
  | 0, _ | 1, _ | 2, _ | 3, _ | 4, _ | 5, _ | 6, _ | 7, _ | 8, _ | 9, _ => rfl
theorem nm_ok : ∀ n, n < 6 → nameOKV (nmV n) = true := by decide +kernel
theorem nm_dist : ∀ n, n ≤ 6 → distB [] ((List.range n).map nmV) = true := by decide +kernel
/-- A drawn facing, but for its name. -/
def drF (f : S50) : Prop := (1 ≤ f.f1 ∧ f.f1 ≤ 2000) ∧ (1 ≤ f.f3.length ∧ f.f3.length ≤ 4) ∧ (0 ≤ f.f2 ∧ f.f2 ≤ 1) ∧ ∀ x ∈ f.f3, 0 ≤ x ∧ x ≤ 100000
theorem draw_l1 (c : List Int) (nm : ByteArray) (wd : Int) (hwd : 1 ≤ wd ∧ wd ≤ 2000) : ∀ (d : Nat) (i s N : Int) (g : List Int), Srd c i s N → N + 5 * (d : Int) + 10 ≤ 1000000 → g.length + d ≤ 4 → 1 ≤ g.length + d → (∀ x ∈ g, 0 ≤ x ∧ x ≤ 100000) →
    ∃ f i' s', f.f0 = nm ∧ drF f ∧ Srd c i' s' (N + 5 * (d : Int) + 5) ∧ ∀ (acc : List S50) (m : Int) (r : List S50 × Int × Int), acc.length ≤ 10 → Ev (fun k => spec_l00Src_facings.l0 k (acc ++ [f]) (wrap64 (m - 1)) c i' s') r →
      Ev (fun k => spec_l00Src_facings.l1 k acc m ((d : Int) - 1) c i s nm wd 0 g) r := by
  intro d
  induction d with
  | zero =>
    intro i s N g hS hN hg hg1 hb
    obtain ⟨x, i2, s2, e2, l2, u2, S2⟩ := next_ok 3 hS (by omega) (by omega) (by omega)
    have hw : wrap64 (Int.tdiv x 2) = x / 2 := by rw [Int.tdiv_eq_ediv_of_nonneg (by omega)]; exact w64 (by omega) (by omega)
    refine ⟨⟨nm, wd, x / 2, g⟩, i2, s2, rfl, ⟨hwd, ⟨by simp only; omega, by simp only; omega⟩, ⟨by simp only; omega, by simp only; omega⟩, hb⟩, S2.mono (by omega), fun acc m r hacc h => ?_⟩
    refine Ev.up1 ?_
    simp only [spec_l00Src_facings.l1]
    refine Ev.neg (by omega) (Ev.ret e2 (Ev.pos (by omega) ?_))
    simp only [hw]
    exact h
  | succ d ih =>
    intro i s N g hS hN hg hg1 hb
    obtain ⟨x, i2, s2, e2, l2, u2, S2⟩ := next_ok 90 hS (by omega) (by omega) (by omega)
    have e : wrap64 ((((d + 1 : Nat) : Int) - 1) - 1) = (d : Int) - 1 := by rw [w64 (by omega) (by omega)]; omega
    obtain ⟨f, i', s', f0, fd, S3, hf⟩ := ih i2 s2 (N + 3) (g ++ [x]) S2 (by omega) (by rw [List.length_append, List.length_singleton]; omega) (by rw [List.length_append, List.length_singleton]; omega) (fun y hy => by
      rcases List.mem_append.1 hy with hy | hy
      · exact hb y hy
      · rw [List.mem_singleton.1 hy]; omega)
    refine ⟨f, i', s', f0, fd, S3.mono (by omega), fun acc m r hacc h => ?_⟩
    refine Ev.up1 ?_
    simp only [spec_l00Src_facings.l1, e]
    exact Ev.pos (by omega) (Ev.ret e2 (Ev.pos (by omega) (hf acc m r hacc h)))
/-- Drawn facings: named in their order. -/
def drL (acc : List S50) : Prop := acc.map (·.f0) = (List.range acc.length).map nmV ∧ ∀ f ∈ acc, drF f
theorem draw_l0 (c : List Int) : ∀ (d : Nat) (i s N : Int) (acc : List S50), acc.length + d ≤ 6 → drL acc → Srd c i s N → N + 50 * (d : Int) ≤ 1000 →
    ∃ L i' s', Ev (fun k => spec_l00Src_facings.l0 k acc (d : Int) c i s) (L, i', s') ∧ L.length ≤ 6 ∧ drL L ∧ Srd c i' s' (N + 50 * (d : Int)) := by
  intro d
  induction d with
  | zero =>
    intro i s N acc hl hd hS hN
    exact ⟨acc, i, s, Ev.up1 (by simp only [spec_l00Src_facings.l0]; exact Ev.neg (by omega) (Ev.some' rfl)), by omega, hd, hS.mono (by omega)⟩
  | succ d ih =>
    intro i s N acc hl hd hS hN
    obtain ⟨x, i1, s1, e1, l1, u1, S1⟩ := next_ok 40 hS (by omega) (by omega) (by omega)
    obtain ⟨y, i2, s2, e2, l2, u2, S2⟩ := next_ok 4 S1 (by omega) (by omega) (by omega)
    obtain ⟨q, rfl⟩ : ∃ q : Nat, y = (q : Int) := ⟨y.toNat, by omega⟩
    have hw : wrap64 (5 + x) = 5 + x := w64 (by omega) (by omega)
    have hw2 : wrap64 ((((d + 1 : Nat) : Int)) - 1) = (d : Int) := by rw [w64 (by omega) (by omega)]; omega
    obtain ⟨f, i3, s3, f0, fd, S3, hf⟩ := draw_l1 c (nmV acc.length) (5 + x) (by omega) (q + 1) i2 s2 (N + 3 + 3) [] S2 (by omega) (by simp; omega) (by simp) (by simp)
    obtain ⟨L, i', s', g1, g2, g3, g4⟩ := ih i3 s3 _ (acc ++ [f]) (by simp; omega) (by
      refine ⟨?_, fun z hz => ?_⟩
      · rw [List.map_append, hd.1, List.length_append, List.length_singleton, List.range_succ, List.map_append, List.map_cons, List.map_nil, f0]; rfl
      · rcases List.mem_append.1 hz with hz | hz
        · exact hd.2 z hz
        · rw [List.mem_singleton.1 hz]; exact fd) (S3.mono (M := N + 50) (by omega)) (by omega)
    refine ⟨L, i', s', Ev.up1 ?_, g2, g3, g4.mono (by omega)⟩
    simp only [spec_l00Src_facings.l0]
    refine Ev.pos (by omega) (Ev.bind (digits_ev acc.length (by omega)) (Ev.pos (by rw [dig_size _ (by omega)]; omega) (Ev.ret e1 (Ev.ret e2 ?_))))
    simp only [hw]
    have := hf acc ((d + 1 : Nat) : Int) _ (by omega) (by rw [hw2]; exact g1)
    rw [show (((q + 1 : Nat) : Int) - 1) = (q : Int) by omega] at this
    exact this
theorem drL_ok {L : List S50} (h : drL L) (hl : L.length ≤ 6) : facingsV L = true := by
  unfold facingsV
  rw [decide_eq_true (by omega), Bool.true_and, facB_eq, h.1, List.map_nil, nm_dist L.length hl, Bool.and_true, List.all_eq_true]
  intro f hf
  have hd := h.2 f hf
  have hn : nameOKV f.f0 = true := by
    have hm : f.f0 ∈ L.map (·.f0) := List.mem_map.2 ⟨f, hf, rfl⟩
    rw [h.1, List.mem_map] at hm
    obtain ⟨n, hn, e⟩ := hm
    rw [← e]
    exact nm_ok n (by have := List.mem_range.1 hn; omega)
  unfold okF gainsB
  simp only [Bool.and_eq_true, decide_eq_true_eq, List.all_eq_true]
  exact ⟨⟨⟨⟨hn, hd.1⟩, hd.2.1.1, by have := hd.2.1.2; omega⟩, hd.2.2.1.1, by have := hd.2.2.1.2; have := hd.2.1.1; omega⟩, hd.2.2.2⟩
theorem facings_draw (c : List Int) (s : Int) (hc : c.length ≤ 1048576) (hS : Srd c 0 s 0) : ∃ L i' s', Ev (fun k => spec_l00Src_facings.f k c 0 s) (L, i', s') ∧ L.length ≤ 6 ∧ drL L ∧ Srd c i' s' 500 := by
  obtain ⟨v, e1, l1, u1⟩ := size_ok (0 : Int) s 6 hc (by omega)
  have hw : wrap64 (v + 1) = v + 1 := w64 (by omega) (by omega)
  obtain ⟨x, i2, s2, e2, l2, u2, S2⟩ := next_ok (v + 1) hS (by omega) (by omega) (by omega)
  obtain ⟨q, rfl⟩ : ∃ q : Nat, x = (q : Int) := ⟨x.toNat, by omega⟩
  obtain ⟨L, i', s', g1, g2, g3, g4⟩ := draw_l0 c q i2 s2 3 [] (by simp; omega) ⟨rfl, by simp⟩ S2 (by omega)
  refine ⟨L, i', s', ?_, g2, g3, g4.mono (by omega)⟩
  unfold spec_l00Src_facings.f
  refine Ev.ret e1 ?_
  simp only [hw]
  exact Ev.ret e2 g1
theorem okC_app : ∀ (a : List S50) (b : List Int) (f : S50) (x : Int), okC a b → f.f2 ≤ x → x ≤ (f.f3.length : Int) → okC (a ++ [f]) (b ++ [x]) := by
  intro a
  induction a with
  | nil => intro b f x h h1 h2; cases b with
    | nil => exact ⟨⟨h1, h2⟩, trivial⟩
    | cons c b => exact h.elim
  | cons g a ih =>
    intro b f x h h1 h2
    cases b with
    | nil => exact h.elim
    | cons c b => exact ⟨h.1, ih b f x h.2 h1 h2⟩
theorem facOf_l0 (c : List Int) {L : List S50} (hd : drL L) (hl : L.length ≤ 6) : ∀ (a p : List S50) (cs : List Int) (i s N : Int), L = p ++ a → okC p cs → cs.length = p.length → Srd c i s N → N + 5 * (a.length : Int) ≤ 100000 →
    ∃ w cs', Ev (fun k => spec_FacingsOf.l0 k L cs (p.length : Int) c i s) (L, w, cs') ∧ okC L cs' ∧ 0 ≤ w ∧ w < 260 := by
  intro a
  induction a with
  | nil =>
    intro p cs i s N hp hc hcl hS hN
    rw [List.append_nil] at hp
    subst hp
    obtain ⟨x, i2, s2, e2, l2, u2, S2⟩ := next_ok 260 hS (by simp at hN; omega) (by omega) (by omega)
    refine ⟨x, cs, Ev.up1 ?_, hc, l2, u2⟩
    simp only [spec_FacingsOf.l0]
    exact Ev.neg (by omega) (Ev.ret e2 (Ev.some' rfl))
  | cons f a ih =>
    intro p cs i s N hp hc hcl hS hN
    rw [List.length_cons] at hN
    have hlt : (p.length : Int) < (L.length : Int) := by rw [hp]; exact len_lt p f a
    have hrd : rd_T50 L (p.length : Int) = f := by rw [hp]; exact rdF_mid p f a
    have hf := hd.2 f (by rw [hp]; simp)
    have h1 := hf.2.1
    have h2 := hf.2.2.1
    have hw : wrap64 (wrap64 ((f.f3.length : Int) - f.f2) + 1) = (f.f3.length : Int) - f.f2 + 1 := by rw [w64 (x := (f.f3.length : Int) - f.f2) (by omega) (by omega), w64 (by omega) (by omega)]
    obtain ⟨x, i2, s2, e2, l2, u2, S2⟩ := next_ok ((f.f3.length : Int) - f.f2 + 1) hS (by omega) (by omega) (by omega)
    obtain ⟨w, cs', g1, g2, g3⟩ := ih (p ++ [f]) (cs ++ [f.f2 + x]) i2 s2 (N + 3) (by rw [hp, snoc]) (okC_app p cs f _ hc (by omega) (by omega)) (by simp [hcl]) S2 (by omega)
    refine ⟨w, cs', Ev.up1 ?_, g2, g3⟩
    simp only [spec_FacingsOf.l0, hrd, hw]
    refine Ev.pos hlt (Ev.pos (by omega) (Ev.ret e2 (Ev.pos (by rw [hcl]; omega) ?_)))
    simp only
    rw [w64 (x := f.f2 + x) (by omega) (by omega), w64 (by omega) (by omega), ← len_snoc p f]
    exact g1
theorem facOf_ok (l : List Int) (hl : l.length ≤ 1048576) (h : ∀ x ∈ l, (Lit.int .u8 x).wf = true) : ∃ (L : List S50) (w : Nat) (cs : List Int), Ev (fun k => spec_FacingsOf.f k l) (L, (w : Int), cs) ∧ facingsV L = true ∧ okC L cs ∧ w ≤ 260 := by
  obtain ⟨s, hs, S0⟩ := source_ok l h
  obtain ⟨L, i', s', h1, h2, h3, h4⟩ := facings_draw l s hl S0
  obtain ⟨w, cs, g1, g2, g3, g4⟩ := facOf_l0 l h3 h2 L [] [] i' s' 500 rfl trivial rfl h4 (by omega)
  obtain ⟨w', rfl⟩ : ∃ q : Nat, w = (q : Int) := ⟨w.toNat, by omega⟩
  refine ⟨L, w', cs, ?_, drL_ok h3 h2, g2, by omega⟩
  unfold spec_FacingsOf.f
  exact Ev.ret hs (Ev.bind h1 g1)
/-! ### the law -/
theorem law_j0 {L : List S50} (h : facingsV L = true) (w : Nat) (hw : w ≤ 260) (hv : 0 ≤ valV L w) (c7 : Int) (x0 : List Int) (x1 x2 : Int) (h2 : c7 = 0 → x2 ≤ valV L w) :
    Ev (fun k => laws_FnShelf.j0 k L (w : Int) c7 0 false x0 x1 x2 (cntV L w) (usedV L (cntV L w)) (gainsV L (cntV L w))) true := by
  obtain ⟨hl, hL⟩ := facings_ok h
  obtain ⟨k1, k2, k3⟩ := cntV_ok L w hL hv
  have hs := shelfOf_ev L h (w : Int) (by omega) (by omega) (cntV L w) k1
  have hvV : shelfV L (w : Int) (cntV L w) = (cntV L w, usedV L (cntV L w), gainsV L (cntV L w), 0) := by unfold shelfV; rw [if_neg (by omega)]
  rw [hvV] at hs
  have hwide := valV_wider L w (w + 7) hL (by omega)
  obtain ⟨m1, m2, m3⟩ := cntV_ok L (w + 7) hL (by omega)
  have hb := bestShelf_ev L h (w + 7) (by omega)
  have hbV : bestV L (w + 7) = (cntV L (w + 7), usedV L (cntV L (w + 7)), gainsV L (cntV L (w + 7)), 0) := by unfold bestV; rw [if_neg (by omega)]
  rw [hbV] at hb
  have hw7 : wrap64 ((w : Int) + 7) = ((w + 7 : Nat) : Int) := by rw [w64 (by omega) (by omega)]; omega
  refine Ev.up1 ?_
  simp only [laws_FnShelf.j0, hw7]
  refine Ev.neg ff (Ev.pos trivial (Ev.bind hs (Ev.pos rfl (Ev.pos rfl (Ev.pos rfl (Ev.neg (by omega) ?_))))))
  have hend : Ev (fun k => (impl_BestShelf.f k L ((w + 7 : Nat) : Int)).bind fun bt => if bt.2.2.2 = 0 then some (decide (bt.2.2.1 ≥ gainsV L (cntV L w))) else some false) true :=
    Ev.bind hb (Ev.pos rfl (Ev.some' (decide_eq_true (by simp only; omega))))
  by_cases c : c7 = 0
  · exact Ev.pos c (Ev.neg (by have := h2 c; omega) hend)
  · exact Ev.neg c hend
theorem law_ev (l : List Int) (h : ∀ x ∈ l, (Lit.int .u8 x).wf = true) : Ev (fun k => laws_FnShelf.f k l) true := by
  unfold laws_FnShelf.f
  by_cases c0 : (l.length : Int) > 1048576
  · exact Ev.pos c0 (Ev.some' rfl)
  refine Ev.neg c0 ?_
  obtain ⟨L, w, cs, d1, d2, d3, d4⟩ := facOf_ok l (by omega) h
  obtain ⟨hl, hL⟩ := facings_ok d2
  have hbd := okC_bd L cs hL d3
  have hF := implFacings_ev L
  rw [d2] at hF
  refine Ev.bind d1 (Ev.bind (shelfOf_ev L d2 (w : Int) (by omega) (by omega) cs d3) (Ev.bind (bestShelf_ev L d2 w (by omega)) (Ev.bind hF (Ev.pos rfl ?_))))
  by_cases hv : 0 ≤ valV L w
  · have hbV : bestV L w = (cntV L w, usedV L (cntV L w), gainsV L (cntV L w), 0) := by unfold bestV; rw [if_neg (by omega)]
    rw [hbV]
    unfold shelfV
    by_cases cu : usedV L cs > w
    · rw [if_pos cu]
      exact Ev.neg (by decide) (Ev.pos rfl (law_j0 d2 w d4 hv _ _ _ _ (fun e => absurd e (by decide))))
    · rw [if_neg cu]
      exact Ev.pos rfl (law_j0 d2 w d4 hv _ _ _ _ (fun _ => valV_best L cs w hL d3 (by omega)))
  · have hbV : bestV L w = ([], 0, 0, 8) := by unfold bestV; rw [if_pos (by omega)]
    rw [hbV]
    have cu : usedV L cs > w := by
      refine Int.lt_of_not_ge (fun hge => hv ?_)
      have := valV_best L cs w hL d3 hge
      omega
    unfold shelfV
    rw [if_pos cu]
    refine Ev.neg (by decide) (Ev.pos rfl (Ev.up1 ?_))
    simp only [laws_FnShelf.j0]
    exact Ev.neg ff (Ev.neg (by decide) (Ev.bind (specNone_ev L d2 w (by omega) (by omega)) (Ev.some' rfl)))
theorem FnShelf : laws_FnShelf.Pure := by
  intro l h
  exact (law_ev l h.2).rounds

end Go.Proofs.Ytecbcibblmknpaa.Pure
