/- At every two lists the program's Settle answers as the reference's, changes none and shares nothing: the law's plain statement, with no condition. -/
import Derived.Test.YtikbfbangjjfkaaXFnExactSettlex11
import Derived.Test.YtikbfbangjjfkaaAx
import Derived.Test.YtikbfbangjjfkaaIdx
namespace Go.Proofs.Ytikbfbangjjfkaa.Pure
open Go.RowKit Go.Proofs.Ytikbfbangjjfkaa.XFnExactSettle Go.Proofs.YtikbfbangjjfkaaW.PrintWords Go.Proofs.YtikbfbangjjfkaaW.PrintLast
open Go.Proofs.YtikbfbangjjfkaaW.Ax Go.Proofs.YtikbfbangjjfkaaW.Idx
set_option linter.unusedVariables false
set_option linter.unusedSimpArgs false
theorem within_ev (a b c : Int) : impl_within.f a b c = some (decide (b ≤ a ∧ a ≤ c)) := by
  unfold impl_within.f
  by_cases h : a ≥ b
  · rw [if_pos h]; congr 1; rw [decide_eq_decide]; omega
  · rw [if_neg h]; congr 1; symm; rw [decide_eq_false_iff_not]; omega
theorem l01In_ev (a b c : Int) : spec_l01In.f a b c = some (decide (b ≤ a ∧ a ≤ c)) := by
  unfold spec_l01In.f
  by_cases h : a ≥ b
  · rw [if_pos h]; congr 1; rw [decide_eq_decide]; omega
  · rw [if_neg h]; congr 1; symm; rw [decide_eq_false_iff_not]; omega
/-! ### names -/
def codeP (m : Int) : Prop := (192 ≤ m ∧ m ≤ 591 ∧ m ≠ 215 ∧ m ≠ 247) ∨ (913 ≤ m ∧ m ≤ 969) ∨ (1040 ≤ m ∧ m ≤ 1103)
instance (m : Int) : Decidable (codeP m) := by unfold codeP; exact inferInstance
def wideP (c n : Int) : Prop := (194 ≤ c ∧ c ≤ 223) ∧ (128 ≤ n ∧ n ≤ 191) ∧ codeP ((c - 192) * 64 + n - 128)
instance (c n : Int) : Decidable (wideP c n) := by unfold wideP; exact inferInstance
def plainP (c : Int) : Prop := (97 ≤ c ∧ c ≤ 122) ∨ (65 ≤ c ∧ c ≤ 90) ∨ c = 95
instance (c : Int) : Decidable (plainP c) := by unfold plainP; exact inferInstance
def digitP (c : Int) : Prop := 48 ≤ c ∧ c ≤ 57
instance (c : Int) : Decidable (digitP c) := by unfold digitP; exact inferInstance
/-- The rest of a name, from place i on. -/
def nameB (s : ByteArray) : Nat → Nat → Bool
  | 0, _ => true
  | d + 1, i => if s.size ≤ i then true else if plainP (bt s i) ∨ (0 < i ∧ digitP (bt s i)) then nameB s d (i + 1) else if i + 1 < s.size ∧ wideP (bt s i) (bt s ((i + 1 : Nat) : Int)) then nameB s d (i + 2) else false
theorem someD {b : Bool} {P : Prop} [Decidable P] (h : b = true ↔ P) : some b = some (decide P) := by
  by_cases c : P
  · rw [decide_eq_true c, h.2 c]
  · rw [decide_eq_false c]
    cases b with
    | false => rfl
    | true => exact absurd (h.1 rfl) c
theorem isLetter_ev (c : Int) : impl_isLetter.f c = some (decide (plainP c)) := by
  unfold impl_isLetter.f
  repeat' split
  all_goals (refine someD ?_; unfold plainP; (try simp only [beq_iff_eq]); first | omega | (simp; omega))
theorem isDigit_ev (c : Int) : impl_isDigit.f c = some (decide (digitP c)) := by
  unfold impl_isDigit.f
  repeat' split
  all_goals (refine someD ?_; unfold digitP; (try simp only [decide_eq_true_eq]); first | omega | (simp; omega))
theorem or6 {x y : Int} (hx₀ : 0 ≤ x) (hx : x % 64 = 0) (hx₁ : x < 1000000) (h₀ : 0 ≤ y) (h₁ : y < 64) : Go.bits .or .i64 x y = x + y :=
  Go.bits_join .i64 31 (by decide) (fun n a b => by rw [Go.IntKind.wrap_i64]; omega) 6 x y hx₀ hx (by omega) h₀ h₁ (by omega)
theorem code_eq (c n : Int) (hc : 194 ≤ c ∧ c ≤ 223) (hn : 128 ≤ n ∧ n ≤ 191) : Go.bits .or .i64 (wrap64 ((wrap64 (Go.bits .and .u8 c 31)) * 64)) (wrap64 (Go.bits .and .u8 n 63)) = (c - 192) * 64 + n - 128 := by
  have e1 : Go.bits .and .u8 c 31 = c % 32 := Go.u8_and31 c (by omega) (by omega)
  have e2 : Go.bits .and .u8 n 63 = n % 64 := Go.u8_and63 n (by omega) (by omega)
  rw [e1, e2, w64 (x := c % 32) (by omega) (by omega), w64 (x := n % 64) (by omega) (by omega), w64 (x := c % 32 * 64) (by omega) (by omega), or6 (by omega) (by omega) (by omega) (by omega) (by omega)]
  omega
theorem code_ev (m : Int) : ((impl_within.f m 192 591).bind fun t137 => (if t137 = true then (if m = 215 then ((impl_within.f m 913 969).bind fun t138 => (if t138 = true then (some true) else ((impl_within.f m 1040 1103).bind fun t139 => (some t139)))) else (if m = 247 then ((impl_within.f m 913 969).bind fun t140 => (if t140 = true then (some true) else ((impl_within.f m 1040 1103).bind fun t141 => (some t141)))) else (some true))) else ((impl_within.f m 913 969).bind fun t142 => (if t142 = true then (some true) else ((impl_within.f m 1040 1103).bind fun t143 => (some t143)))))) = some (decide (codeP m)) := by
  simp only [within_ev, Option.bind_some]
  simp only [decide_eq_true_eq]
  repeat' split
  all_goals (refine someD ?_; unfold codeP; (try simp only [decide_eq_true_eq]); first | omega | (simp; omega))
theorem wide_ev (s : ByteArray) (h : s.size = 2) : Ev (fun k => impl_isWideLetter.f k s) (decide (wideP (bt s 0) (bt s 1))) := by
  unfold impl_isWideLetter.f
  have hj : ∀ b : Bool, b = false ∨ b = true := by intro b; cases b <;> simp
  have hbad : ¬ wideP (bt s 0) (bt s 1) → Ev (fun k => impl_isWideLetter.j0 k s true) (decide (wideP (bt s 0) (bt s 1))) := fun h => Ev.via (Ev.some' (decide_eq_false h).symm) (fun k => rfl)
  refine Ev.pos (by omega) ?_
  by_cases c1 : bt s 0 < 194
  · exact Ev.pos c1 (hbad (fun h => by have := h.1; omega))
  refine Ev.neg c1 ?_
  by_cases c2 : bt s 0 > 223
  · exact Ev.pos c2 (hbad (fun h => by have := h.1; omega))
  refine Ev.neg c2 (Ev.pos (by omega) ?_)
  by_cases c3 : bt s 1 < 128
  · exact Ev.pos c3 (hbad (fun h => by have := h.2.1; omega))
  refine Ev.neg c3 ?_
  by_cases c4 : bt s 1 > 191
  · rw [decide_eq_true c4]
    exact hbad (fun h => by have := h.2.1; omega)
  rw [decide_eq_false c4]
  refine Ev.up1 ?_
  simp only [impl_isWideLetter.j0, if_neg ff]
  rw [code_eq _ _ (by omega) (by omega)]
  refine Ev.pos (by omega) (Ev.pos (by omega) ?_)
  have hw : wideP (bt s 0) (bt s 1) ↔ codeP ((bt s 0 - 192) * 64 + bt s 1 - 128) := ⟨fun h => h.2.2, fun h => ⟨by omega, by omega, h⟩⟩
  rw [decide_eq_decide.2 hw]
  exact Ev.const (code_ev _)
theorem bt_extract (s : ByteArray) (i : Nat) (h : i + 2 ≤ s.size) : (s.extract i (i + 2)).size = 2 ∧ bt (s.extract i (i + 2)) 0 = bt s (i : Int) ∧ bt (s.extract i (i + 2)) 1 = bt s ((i + 1 : Nat) : Int) := by
  have hs : (s.extract i (i + 2)).size = 2 := by rw [ByteArray.size_extract]; omega
  refine ⟨hs, ?_, ?_⟩
  · unfold bt
    rw [dif_pos (by rw [hs]; decide), dif_pos (by rw [Int.toNat_natCast]; omega)]
    rw [ByteArray.getElem_extract]
    congr 2
  · unfold bt
    rw [dif_pos (by rw [hs]; decide), dif_pos (by rw [Int.toNat_natCast]; omega)]
    rw [ByteArray.getElem_extract]
    congr 2
theorem impl_name_l0 (s : ByteArray) (hs : s.size ≤ 40) : ∀ (d i : Nat), s.size ≤ i + d → i ≤ 50 → Ev (fun k => impl_NameOK.l0 k s (i : Int)) (nameB s d i) := by
  intro d
  induction d with
  | zero => intro i h hi; exact Ev.step (fun k => rfl) (Ev.neg (show ¬ (i : Int) < (s.size : Int) by omega) (Ev.some' rfl))
  | succ d ih =>
    intro i h hi
    rw [nameB]
    by_cases c0 : s.size ≤ i
    · rw [if_pos c0]
      exact Ev.step (fun k => rfl) (Ev.neg (show ¬ (i : Int) < (s.size : Int) by omega) (Ev.some' rfl))
    rw [if_neg c0]
    have hgo : Ev (fun k => impl_NameOK.j1 k s (i : Int) true) (nameB s d (i + 1)) := by
      refine Ev.via (f := fun k => impl_NameOK.l0 k s (wrap64 ((i : Int) + 1))) ?_ (fun k => rfl)
      rw [w64n (by omega)]
      exact ih (i + 1) (by omega) (by omega)
    have hwide : Ev (fun k => impl_NameOK.j1 k s (i : Int) false) (if i + 1 < s.size ∧ wideP (bt s (i : Int)) (bt s ((i + 1 : Nat) : Int)) then nameB s d (i + 2) else false) := by
      refine Ev.up1 ?_
      simp only [impl_NameOK.j1, if_neg ff]
      rw [w64n (by omega), show wrap64 ((i : Int) + 2) = ((i + 2 : Nat) : Int) by rw [w64 (by omega) (by omega)]; omega, Int.toNat_natCast, Int.toNat_natCast, w64n (by omega)]
      by_cases c1 : i + 1 < s.size
      · obtain ⟨x1, x2, x3⟩ := bt_extract s i (by omega)
        have wv := wide_ev _ x1
        rw [x2, x3] at wv
        refine Ev.pos (by omega) (Ev.pos (by omega) (Ev.pos (by omega) (Ev.pos (by omega) (Ev.bind wv ?_))))
        by_cases c2 : wideP (bt s (i : Int)) (bt s ((i + 1 : Nat) : Int))
        · rw [if_pos ⟨c1, c2⟩]
          exact Ev.pos (decide_eq_true c2) (ih (i + 2) (by omega) (by omega))
        · rw [if_neg (fun h => c2 h.2)]
          exact Ev.neg (by rw [decide_eq_false c2]; exact ff) (Ev.some' rfl)
      · rw [if_neg (fun h => c1 h.1)]
        exact Ev.neg (by omega) (Ev.some' rfl)
    refine Ev.step (fun k => rfl) (Ev.pos (show (i : Int) < (s.size : Int) by omega) (Ev.pos (by omega) (Ev.ret (isLetter_ev _) ?_)))
    by_cases c1 : plainP (bt s (i : Int))
    · rw [if_pos (.inl c1)]
      exact Ev.pos (decide_eq_true c1) hgo
    refine Ev.neg (by simp [c1]) ?_
    by_cases c2 : (i : Int) > 0
    · refine Ev.pos c2 (Ev.ret (isDigit_ev _) ?_)
      by_cases c3 : digitP (bt s (i : Int))
      · rw [if_pos (.inr ⟨by omega, c3⟩), decide_eq_true c3]
        exact hgo
      · rw [if_neg (fun h => h.elim c1 (fun h => c3 h.2)), decide_eq_false c3]
        exact hwide
    · rw [if_neg (fun h => h.elim c1 (fun h => c2 (by omega)))]
      exact Ev.neg c2 hwide
def nameOKV (s : ByteArray) : Bool := decide (1 ≤ s.size ∧ s.size ≤ 40) && nameB s s.size 0
theorem implName_ev (s : ByteArray) : Ev (fun k => impl_NameOK.f k s) (nameOKV s) := by
  unfold impl_NameOK.f nameOKV
  refine Ev.ret (within_ev _ _ _) ?_
  by_cases c : 1 ≤ s.size ∧ s.size ≤ 40
  · rw [decide_eq_true c, Bool.true_and]
    exact Ev.pos (by simp; omega) (impl_name_l0 s c.2 s.size 0 (by omega) (by omega))
  · rw [decide_eq_false c, Bool.false_and]
    exact Ev.neg (by simp; omega) (Ev.some' rfl)
def letV (s : ByteArray) (i : Nat) : Int := if plainP (bt s (i : Int)) then 1 else if i + 1 < s.size ∧ wideP (bt s (i : Int)) (bt s ((i + 1 : Nat) : Int)) then 2 else 0
theorem specLetter_ev (s : ByteArray) (i : Nat) (hi : i < s.size) (hs : s.size ≤ 40) : Ev (fun k => spec_l00Letter.f k s (i : Int)) (letV s i) := by
  have hr := bt_range s (i : Int)
  have hr2 := bt_range s ((i + 1 : Nat) : Int)
  have hw : wrap64 ((i : Int) + 1) = ((i + 1 : Nat) : Int) := w64n (by omega)
  have hyes : plainP (bt s (i : Int)) → Ev (fun k => spec_l00Letter.j0 k s (i : Int) (bt s (i : Int)) true) (letV s i) := by
    intro h
    unfold letV
    rw [if_pos h]
    exact Ev.via (Ev.some' rfl) (fun k => rfl)
  have hno : ¬ plainP (bt s (i : Int)) → Ev (fun k => spec_l00Letter.j0 k s (i : Int) (bt s (i : Int)) false) (letV s i) := by
    intro h
    unfold letV
    rw [if_neg h]
    have hbad : ¬ (i + 1 < s.size ∧ wideP (bt s (i : Int)) (bt s ((i + 1 : Nat) : Int))) → Ev (fun k => spec_l00Letter.j1 k s (i : Int) (bt s (i : Int)) true) (if i + 1 < s.size ∧ wideP (bt s (i : Int)) (bt s ((i + 1 : Nat) : Int)) then (2 : Int) else 0) := by
      intro h
      rw [if_neg h]
      exact Ev.via (Ev.some' rfl) (fun k => rfl)
    refine Ev.up1 ?_
    simp only [spec_l00Letter.j0, if_neg ff]
    rw [hw]
    by_cases c1 : bt s (i : Int) < 194
    · exact Ev.pos c1 (hbad (fun h => by have := h.2.1; omega))
    refine Ev.neg c1 ?_
    by_cases c2 : bt s (i : Int) > 223
    · exact Ev.pos c2 (hbad (fun h => by have := h.2.1; omega))
    refine Ev.neg c2 ?_
    by_cases c3 : ((i + 1 : Nat) : Int) ≥ (s.size : Int)
    · exact Ev.pos c3 (hbad (fun h => by have := h.1; omega))
    refine Ev.neg c3 (Ev.pos (by omega) (Ev.pos (by omega) ?_))
    by_cases c4 : bt s ((i + 1 : Nat) : Int) < 128
    · exact Ev.pos c4 (hbad (fun h => by have := h.2.2.1; omega))
    refine Ev.neg c4 ?_
    by_cases c5 : bt s ((i + 1 : Nat) : Int) > 191
    · rw [decide_eq_true c5]
      exact hbad (fun h => by have := h.2.2.1; omega)
    rw [decide_eq_false c5]
    refine Ev.up1 ?_
    simp only [spec_l00Letter.j1, if_neg ff]
    rw [hw]
    refine Ev.pos (by omega) (Ev.pos (by omega) ?_)
    rw [w64 (x := bt s (i : Int)) (by omega) (by omega), w64 (x := bt s (i : Int) - 192) (by omega) (by omega), w64 (x := (bt s (i : Int) - 192) * 64) (by omega) (by omega), w64 (x := bt s ((i + 1 : Nat) : Int)) (by omega) (by omega), w64 (x := (bt s (i : Int) - 192) * 64 + bt s ((i + 1 : Nat) : Int)) (by omega) (by omega), w64 (x := (bt s (i : Int) - 192) * 64 + bt s ((i + 1 : Nat) : Int) - 128) (by omega) (by omega)]
    have hv : (if i + 1 < s.size ∧ wideP (bt s (i : Int)) (bt s ((i + 1 : Nat) : Int)) then (2 : Int) else 0) = if codeP ((bt s (i : Int) - 192) * 64 + bt s ((i + 1 : Nat) : Int) - 128) then 2 else 0 := by
      by_cases h : codeP ((bt s (i : Int) - 192) * 64 + bt s ((i + 1 : Nat) : Int) - 128)
      · rw [if_pos h, if_pos ⟨by omega, by omega, by omega, h⟩]
      · rw [if_neg h, if_neg (fun g => h g.2.2.2)]
    rw [hv]
    refine Ev.const ?_
    have hc : ∀ m : Int, (192 ≤ m ∧ m ≤ 591 ∧ m ≠ 215 ∧ m ≠ 247) ∨ (913 ≤ m ∧ m ≤ 969) ∨ (1040 ≤ m ∧ m ≤ 1103) ↔ codeP m := fun m => Iff.rfl
    repeat' split
    all_goals first | rfl | (exfalso; simp only [← hc] at *; omega)
  unfold spec_l00Letter.f
  refine Ev.pos (by omega) (Ev.pos (by omega) ?_)
  have hp : ∀ c : Int, (97 ≤ c ∧ c ≤ 122) ∨ (65 ≤ c ∧ c ≤ 90) ∨ c = 95 ↔ plainP c := fun c => Iff.rfl
  have hlast : ¬ ((97 ≤ bt s (i : Int) ∧ bt s (i : Int) ≤ 122) ∨ (65 ≤ bt s (i : Int) ∧ bt s (i : Int) ≤ 90)) → Ev (fun k => spec_l00Letter.j0 k s (i : Int) (bt s (i : Int)) (bt s (i : Int) == 95)) (letV s i) := by
    intro h
    by_cases c : bt s (i : Int) = 95
    · rw [beq_iff_eq.2 c]
      exact hyes ((hp _).1 (by omega))
    · rw [show (bt s (i : Int) == 95) = false by simpa using c]
      exact hno (fun g => by have := (hp _).2 g; omega)
  by_cases a1 : bt s (i : Int) ≥ 97
  · refine Ev.pos a1 ?_
    by_cases a2 : bt s (i : Int) ≤ 122
    · exact Ev.pos a2 (hyes ((hp _).1 (by omega)))
    · refine Ev.neg a2 (Ev.pos (by omega) (Ev.neg (by omega) (hlast (by omega))))
  · refine Ev.neg a1 ?_
    by_cases a3 : bt s (i : Int) ≥ 65
    · refine Ev.pos a3 ?_
      by_cases a4 : bt s (i : Int) ≤ 90
      · exact Ev.pos a4 (hyes ((hp _).1 (by omega)))
      · exact Ev.neg a4 (hlast (by omega))
    · exact Ev.neg a3 (hlast (by omega))
theorem spec_word (s : ByteArray) (hs : s.size ≤ 40) : ∀ (d i : Nat), s.size ≤ i + d → i ≤ s.size → ∃ r : Int, Ev (fun k => spec_l00Word.l0 k s 0 (i : Int)) r ∧ (r == (s.size : Int)) = nameB s d i := by
  intro d
  induction d with
  | zero =>
    intro i h hi
    refine ⟨wrap64 ((i : Int) - 0), Ev.step (fun k => rfl) (Ev.neg (show ¬ (i : Int) < (s.size : Int) by omega) (Ev.some' rfl)), ?_⟩
    rw [w64 (by omega) (by omega), nameB]
    simp; omega
  | succ d ih =>
    intro i h hi
    rw [nameB]
    by_cases c0 : s.size ≤ i
    · rw [if_pos c0]
      refine ⟨wrap64 ((i : Int) - 0), Ev.step (fun k => rfl) (Ev.neg (show ¬ (i : Int) < (s.size : Int) by omega) (Ev.some' rfl)), ?_⟩
      rw [w64 (by omega) (by omega)]
      simp; omega
    rw [if_neg c0]
    have hl := specLetter_ev s i (by omega) hs
    unfold letV at hl
    by_cases c1 : plainP (bt s (i : Int))
    · rw [if_pos c1] at hl
      rw [if_pos (.inl c1)]
      obtain ⟨r, h1, h2⟩ := ih (i + 1) (by omega) (by omega)
      refine ⟨r, Ev.step (fun k => rfl) (Ev.pos (show (i : Int) < (s.size : Int) by omega) (Ev.bind hl (Ev.neg (by decide) ?_))), h2⟩
      refine Ev.via (f := fun k => spec_l00Word.l0 k s 0 (wrap64 ((i : Int) + 1))) ?_ (fun k => rfl)
      rw [w64n (by omega)]
      exact h1
    rw [if_neg c1] at hl
    by_cases c2 : i + 1 < s.size ∧ wideP (bt s (i : Int)) (bt s ((i + 1 : Nat) : Int))
    · rw [if_pos c2] at hl
      rw [if_neg (fun h => h.elim c1 (fun h => by have a := h.2; have b := c2.2.1; unfold digitP at a; omega)), if_pos c2]
      obtain ⟨r, h1, h2⟩ := ih (i + 2) (by omega) (by omega)
      refine ⟨r, Ev.step (fun k => rfl) (Ev.pos (show (i : Int) < (s.size : Int) by omega) (Ev.bind hl (Ev.neg (by decide) ?_))), h2⟩
      refine Ev.via (f := fun k => spec_l00Word.l0 k s 0 (wrap64 ((i : Int) + 2))) ?_ (fun k => rfl)
      rw [show wrap64 ((i : Int) + 2) = ((i + 2 : Nat) : Int) by rw [w64 (by omega) (by omega)]; omega]
      exact h1
    rw [if_neg c2] at hl
    have hstop : ∀ x : Bool, x = (((i : Int) == (s.size : Int))) → Ev (fun k => spec_l00Word.j1 k s 0 (i : Int) 0 false) (i : Int) ∧ x = false := by
      intro x hx
      refine ⟨Ev.via (f := fun _ => some (wrap64 ((i : Int) - 0))) (Ev.some' (by rw [w64 (by omega) (by omega)]; omega)) (fun k => rfl), ?_⟩
      rw [hx]
      simp; omega
    obtain ⟨hs1, hs2⟩ := hstop _ rfl
    by_cases c3 : (i : Int) > 0
    · by_cases c4 : digitP (bt s (i : Int))
      · rw [if_pos (.inr ⟨by omega, c4⟩)]
        obtain ⟨r, h1, h2⟩ := ih (i + 1) (by omega) (by omega)
        have a4 : 48 ≤ bt s (i : Int) ∧ bt s (i : Int) ≤ 57 := c4
        refine ⟨r, Ev.step (fun k => rfl) (Ev.pos (show (i : Int) < (s.size : Int) by omega) (Ev.bind hl (Ev.pos rfl (Ev.pos c3 (Ev.pos (by omega) (Ev.pos a4.1 ?_)))))), h2⟩
        rw [decide_eq_true a4.2]
        refine Ev.via (f := fun k => spec_l00Word.l0 k s 0 (wrap64 ((i : Int) + 1))) ?_ (fun k => rfl)
        rw [w64n (by omega)]
        exact h1
      · rw [if_neg (fun h => h.elim c1 (fun h => c4 h.2)), if_neg c2]
        refine ⟨(i : Int), Ev.step (fun k => rfl) (Ev.pos (show (i : Int) < (s.size : Int) by omega) (Ev.bind hl (Ev.pos rfl (Ev.pos c3 (Ev.pos (by omega) ?_))))), hs2⟩
        by_cases c5 : bt s (i : Int) ≥ 48
        · refine Ev.pos c5 ?_
          rw [decide_eq_false (fun h => c4 ⟨c5, h⟩)]
          exact hs1
        · exact Ev.neg c5 hs1
    · rw [if_neg (fun h => h.elim c1 (fun h => c3 (by omega))), if_neg c2]
      exact ⟨(i : Int), Ev.step (fun k => rfl) (Ev.pos (show (i : Int) < (s.size : Int) by omega) (Ev.bind hl (Ev.pos rfl (Ev.neg c3 hs1)))), hs2⟩
theorem specName_ev (s : ByteArray) : Ev (fun k => spec_NameOK.f k s) (nameOKV s) := by
  unfold spec_NameOK.f nameOKV
  by_cases c1 : (s.size : Int) > 0
  · refine Ev.pos c1 ?_
    by_cases c2 : (s.size : Int) ≤ 40
    · refine Ev.pos c2 ?_
      obtain ⟨r, h1, h2⟩ := spec_word s (by omega) s.size 0 (by omega) (by omega)
      rw [decide_eq_true (show 1 ≤ s.size ∧ s.size ≤ 40 by omega), Bool.true_and]
      exact Ev.bind h1 (Ev.some' h2)
    · rw [decide_eq_false (fun h => c2 (by omega)), Bool.false_and]
      exact Ev.neg c2 (Ev.some' rfl)
  · rw [decide_eq_false (fun h => c1 (by omega)), Bool.false_and]
    exact Ev.neg c1 (Ev.some' rfl)
theorem eqIntS_l0 : ∀ (a b p q : List Int), p.length = q.length → a.length = b.length → (p ++ a).length < 4611686018427387904 →
    Ev (fun k => laws_eqIntS.l0 k (p ++ a) (q ++ b) (p.length : Int)) (decide (a = b)) := by
  intro a
  induction a with
  | nil =>
    intro b p q hpq hab hl
    obtain rfl : b = [] := List.eq_nil_of_length_eq_zero hab.symm
    refine Ev.step (fun k => rfl) (Ev.neg (len_end p) (Ev.some' rfl))
  | cons x a ih =>
    intro b p q hpq hab hl
    match b, hab with
    | y :: b, hab =>
      have hq : ((p.length : Int)) < ((q ++ y :: b).length : Int) := by rw [hpq]; exact len_lt q y b
      have hl' : (p ++ x :: a).length < 4611686018427387904 := hl
      rw [List.length_append, List.length_cons] at hl'
      refine Ev.step (fun k => rfl) (Ev.pos (len_lt p x a) (Ev.pos (by omega) (Ev.pos hq ?_)))
      rw [rd_mid p x a, hpq, rd_mid q y b, ← hpq]
      by_cases e : x = y
      · subst e
        refine Ev.pos (by rfl) ?_
        rw [w64 (by omega) (by omega), ← len_snoc p x, snoc p, snoc q]
        exact Ev.eq (ih b (p ++ [x]) (q ++ [x]) (by simp [hpq]) (by simpa using hab) (by rw [← snoc]; exact hl)) (by simp)
      · exact Ev.neg e (Ev.some' (by simp [e]))
theorem eqIntS_ev (a b : List Int) (hl : a.length < 4611686018427387904) : Ev (fun k => laws_eqIntS.f k a b) (decide (a = b)) := by
  unfold laws_eqIntS.f
  by_cases h : (a.length : Int) = (b.length : Int)
  · exact Ev.pos h (eqIntS_l0 a b [] [] rfl (by omega) hl)
  · refine Ev.neg h (Ev.some' ?_)
    symm
    rw [decide_eq_false_iff_not]
    rintro rfl
    exact h rfl
theorem markIntS_l0 : ∀ (a p : List Int) (c : Int), (p ++ a).length < 4611686018427387904 → 0 ≤ c → c + a.length < 4611686018427387904 →
    Ev (fun k => laws_markIntS.l0 k (p ++ a) c (p.length : Int)) (c + a.length, p ++ iota c a.length) := by
  intro a
  induction a with
  | nil =>
    intro p c hl h0 hc
    exact Ev.step (fun k => rfl) (Ev.neg (len_end p) (Ev.some' (by simp [iota])))
  | cons x a ih =>
    intro p c hl h0 hc
    have hl' : (p ++ x :: a).length < 4611686018427387904 := hl
    rw [List.length_append, List.length_cons] at hl'
    rw [List.length_cons] at hc
    refine Ev.step (fun k => rfl) (Ev.pos (len_lt p x a) (Ev.pos (by omega) ?_))
    rw [set_mid, w64 (by omega) (by omega), w64 (by omega) (by omega), ← len_snoc p c, snoc p c a]
    refine Ev.eq (ih (p ++ [c]) (c + 1) (by simp; omega) (by omega) (by omega)) ?_
    rw [← snoc, List.length_cons, iota]
    congr 1
    omega
theorem markIntS_ev (a : List Int) (c : Int) (hl : a.length < 4611686018427387904) (h0 : 0 ≤ c) (hc : c + a.length < 4611686018427387904) : Ev (fun k => laws_markIntS.f k a c) (c + a.length, iota c a.length) := by
  unfold laws_markIntS.f
  exact markIntS_l0 a [] c hl h0 hc
theorem rdL_mid (p : List (List Int)) (x : List Int) (r : List (List Int)) : rd_L3 (p ++ x :: r) (p.length : Int) = x := getD_mid p x r []
theorem eqIntS_same (a : List Int) (h : a.length < 4611686018427387904) : Ev (fun k => laws_eqIntS.f k a a) true := Ev.eq (eqIntS_ev a a h) (by simp)
def sumLen : List (List Int) → Nat
  | [] => 0
  | x :: a => x.length + sumLen a
theorem sumLen_mem : ∀ (a : List (List Int)) (x : List Int), x ∈ a → x.length ≤ sumLen a := by
  intro a
  induction a with
  | nil => intro x hx; cases hx
  | cons y a ih =>
    intro x hx
    rw [sumLen]
    rcases List.mem_cons.1 hx with rfl | hx
    · omega
    · have := ih x hx; omega
theorem eqIntSS_l0 : ∀ (a p : List (List Int)), (p ++ a).length < 4611686018427387904 → (∀ x ∈ a, x.length ≤ 1048576) →
    Ev (fun k => laws_eqIntSS.l0 k (p ++ a) (p ++ a) (p.length : Int)) true := by
  intro a
  induction a with
  | nil => intro p hl _; exact Ev.step (fun k => rfl) (Ev.neg (len_end p) (Ev.some' rfl))
  | cons x a ih =>
    intro p hl hx
    have hl' : (p ++ x :: a).length < 4611686018427387904 := hl
    rw [List.length_append, List.length_cons] at hl'
    have h1 := hx x (by simp)
    refine Ev.step (fun k => rfl) (Ev.pos (len_lt p x a) (Ev.pos (by omega) (Ev.pos (len_lt p x a) ?_)))
    rw [rdL_mid]
    refine Ev.bind (eqIntS_same x (by omega)) (Ev.pos rfl ?_)
    rw [w64 (by omega) (by omega), ← len_snoc p x, snoc p x a]
    exact ih (p ++ [x]) (by rw [← snoc]; exact hl) (fun z hz => hx z (by simp [hz]))
theorem eqIntSS_ev (a : List (List Int)) (hl : a.length < 4611686018427387904) (hx : ∀ x ∈ a, x.length ≤ 1048576) : Ev (fun k => laws_eqIntSS.f k a a) true := by
  unfold laws_eqIntSS.f
  exact Ev.pos rfl (eqIntSS_l0 a [] hl hx)
theorem heldIntS_l0 : ∀ (n : Nat) (p : List Int) (c : Int), (p.length + n) < 4611686018427387904 → 0 ≤ c → c + n < 4611686018427387904 →
    Ev (fun k => laws_heldIntS.l0 k (p ++ iota c n) c (p.length : Int)) (c + n) := by
  intro n
  induction n with
  | zero =>
    intro p c hl h0 hc
    exact Ev.step (fun k => rfl) (Ev.neg (len_end p) (Ev.some' (by simp)))
  | succ n ih =>
    intro p c hl h0 hc
    rw [iota]
    refine Ev.step (fun k => rfl) (Ev.pos (len_lt p c _) (Ev.pos (by omega) (Ev.pos (rd_mid p c _) ?_)))
    rw [w64 (by omega) (by omega), w64 (by omega) (by omega), ← len_snoc p c, snoc p c]
    exact Ev.eq (ih (p ++ [c]) (c + 1) (by simp; omega) (by omega) (by omega)) (by omega)
theorem heldIntS_ev (n : Nat) (c : Int) (h0 : 0 ≤ c) (hc : c + n < 4611686018427387904) : Ev (fun k => laws_heldIntS.f k (iota c n) c) (c + n) := by
  unfold laws_heldIntS.f
  exact heldIntS_l0 n [] c (by simp; omega) h0 hc
theorem rd_Settled_mid (p : List S33) (x : S33) (r : List S33) : rd_T33 (p ++ x :: r) (p.length : Int) = x := getD_mid p x r z33
theorem rd_Settled_nat (l : List S33) (i : Nat) : rd_T33 l (i : Int) = l.getD i z33 := by
  unfold rd_T33
  rw [Int.toNat_natCast]
theorem rdl_Settled_mid (p : List S55) (x : S55) (r : List S55) : rd_T55 (p ++ x :: r) (p.length : Int) = x := getD_mid p x r z55
def toSettledV (x : S55) : S33 := ⟨x.f0, x.f1⟩
theorem toSettled_ev (x : S55) : laws_toSettled.f x.f0 x.f1 = some (x.f0, x.f1) := rfl
theorem toSettledS_l0 : ∀ (a p : List S55) (t : List S33), t.length = a.length → (p ++ a).length < 4611686018427387904 →
    Ev (fun k => laws_toSettledS.l0 k (p ++ a) (p.map toSettledV ++ t) (p.length : Int)) ((p ++ a).map toSettledV) := by
  intro a
  induction a with
  | nil =>
    intro p t ht hl
    obtain rfl : t = [] := List.eq_nil_of_length_eq_zero ht
    exact Ev.step (fun k => rfl) (Ev.neg (len_end p) (Ev.some' (by simp)))
  | cons x a ih =>
    intro p t ht hl
    match t, ht with
    | y :: t, ht =>
      have hl' : (p ++ x :: a).length < 4611686018427387904 := hl
      rw [List.length_append, List.length_cons] at hl'
      refine Ev.step (fun k => rfl) (Ev.pos (len_lt p x a) (Ev.pos (by omega) ?_))
      rw [rdl_Settled_mid]
      refine Ev.ret (toSettled_ev x) (Ev.pos (by simp; omega) ?_)
      have hs : (p.map toSettledV ++ y :: t).set (p.length : Int).toNat ⟨x.f0, x.f1⟩ = p.map toSettledV ++ toSettledV x :: t := by
        rw [show (p.length : Int) = ((p.map toSettledV).length : Int) by simp]
        exact set_mid _ _ _ _
      rw [hs, w64 (by omega) (by omega), ← len_snoc p x, snoc p x a, snoc _ (toSettledV x) t]
      rw [show p.map toSettledV ++ [toSettledV x] = (p ++ [x]).map toSettledV by simp]
      exact ih (p ++ [x]) t (by simpa using ht) (by rw [← snoc]; exact hl)
theorem toSettledS_ev (a : List S55) (hl : a.length ≤ 1048576) : Ev (fun k => laws_toSettledS.f k a) (a.map toSettledV) := by
  unfold laws_toSettledS.f
  refine Ev.pos (by omega) (Ev.pos (by omega) ?_)
  rw [Int.toNat_natCast]
  exact toSettledS_l0 a [] (List.replicate a.length z33) (by simp) (by simp; omega)
theorem eqSettled_ev (x : S33) : laws_eqSettled.f x.f0 x.f1 x.f0 x.f1 = some true := by
  unfold laws_eqSettled.f
  simp
theorem eqSettledS_l0 : ∀ (a p : List S33), (p ++ a).length < 4611686018427387904 →
    Ev (fun k => laws_eqSettledS.l0 k (p ++ a) (p ++ a) (p.length : Int)) true := by
  intro a
  induction a with
  | nil =>
    intro p hl
    exact Ev.step (fun k => rfl) (Ev.neg (len_end p) (Ev.some' rfl))
  | cons x a ih =>
    intro p hl
    have hl' : (p ++ x :: a).length < 4611686018427387904 := hl
    rw [List.length_append, List.length_cons] at hl'
    refine Ev.step (fun k => rfl) (Ev.pos (len_lt p x a) (Ev.pos (by omega) (Ev.pos (len_lt p x a) ?_)))
    rw [rd_Settled_mid]
    refine Ev.ret (eqSettled_ev x) (Ev.pos (by first | rfl | trivial) ?_)
    rw [w64 (by omega) (by omega), ← len_snoc p x, snoc p x a]
    exact ih (p ++ [x]) (by rw [← snoc]; exact hl)
theorem eqSettledS_ev (a : List S33) (hl : a.length < 4611686018427387904) : Ev (fun k => laws_eqSettledS.f k a a) true := by
  unfold laws_eqSettledS.f
  exact Ev.pos (by first | rfl | trivial) (eqSettledS_l0 a [] hl)
theorem strOne_size (z : Int) : (strOfNums [z]).size = 1 := rfl
theorem markText_l0 : ∀ (n : Nat) (x : Int) (s : ByteArray), 0 ≤ x → x < 10 ^ n → s.size + n ≤ 1000 → ∃ t, Ev (fun k => laws_markText.l0 k x s) t := by
  intro n
  induction n with
  | zero =>
    intro x s h0 h1 hs
    refine ⟨_, Ev.step (fun k => rfl) (Ev.neg (by omega) (Ev.pos (by omega) (Ev.some' rfl)))⟩
  | succ n ih =>
    intro x s h0 h1 hs
    by_cases c : x > 0
    · have hd : wrap64 (Int.tdiv x 10) = x / 10 ∨ True := .inr trivial
      have h2 : Int.tdiv x 10 = x / 10 := Int.tdiv_eq_ediv_of_nonneg h0
      by_cases hb : x ≤ 9223372036854775807
      · have hw : wrap64 (Int.tdiv x 10) = x / 10 := by rw [h2]; exact w64 (by omega) (by omega)
        have h3 : x / 10 < 10 ^ n := by
          rw [Int.pow_succ] at h1
          omega
        obtain ⟨t, ht⟩ := ih (x / 10) (strOfNums [wrap64 (48 + Int.tmod x 10) % 256] ++ s) (by omega) h3 (by rw [ByteArray.size_append, strOne_size]; omega)
        refine ⟨t, Ev.step (fun k => rfl) (Ev.pos c (Ev.ret rfl (Ev.pos (by rw [strOne_size]; omega) ?_)))⟩
        rw [hw]
        exact ht
      · have hz : -9223372036854775808 ≤ wrap64 (Int.tdiv x 10) ∧ wrap64 (Int.tdiv x 10) ≤ 9223372036854775807 := by unfold wrap64; omega
        have h5 : Int.tdiv x 10 = x / 10 := h2
        have h3 : x / 10 < 10 ^ n := by
          rw [Int.pow_succ] at h1
          omega
        by_cases h6 : 0 ≤ wrap64 (Int.tdiv x 10)
        · obtain ⟨t, ht⟩ := ih (wrap64 (Int.tdiv x 10)) (strOfNums [wrap64 (48 + Int.tmod x 10) % 256] ++ s) h6 (by
            have : wrap64 (Int.tdiv x 10) ≤ x / 10 := by rw [h2]; unfold wrap64; omega
            omega) (by rw [ByteArray.size_append, strOne_size]; omega)
          exact ⟨t, Ev.step (fun k => rfl) (Ev.pos c (Ev.ret rfl (Ev.pos (by rw [strOne_size]; omega) ht)))⟩
        · exact ⟨_, Ev.step (fun k => rfl) (Ev.pos c (Ev.ret rfl (Ev.pos (by rw [strOne_size]; omega) (Ev.step (fun k => rfl) (Ev.neg (by omega) (Ev.pos (by rw [ByteArray.size_append, strOne_size]; omega) (Ev.some' rfl)))))))⟩
    · exact ⟨_, Ev.step (fun k => rfl) (Ev.neg c (Ev.pos (by omega) (Ev.some' rfl)))⟩
theorem markText_ev (x : Int) (h1 : x < 10 ^ 19) : ∃ t, Ev (fun k => laws_markText.f k x) t := by
  unfold laws_markText.f
  by_cases c : x ≤ 0
  · exact ⟨_, Ev.pos c (Ev.some' rfl)⟩
  · obtain ⟨t, ht⟩ := markText_l0 19 x ⟨#[]⟩ (by omega) h1 (by decide)
    exact ⟨t, Ev.neg c ht⟩

theorem getD_cut {α : Type} (p : List α) (x : α) (r : List α) (d : α) : (p ++ x :: r).getD p.length d = x := by
  have := getD_mid p x r d
  rwa [Int.toNat_natCast] at this
theorem rdB_nat (l : List Bool) (i : Nat) : rdOf false l (i : Int) = l.getD i false := by
  unfold rdOf
  rw [Int.toNat_natCast]
def sameS (x y : S33) : Bool := x.f0.toList == y.f0.toList && (x.f1 == y.f1)
def qS (bank : List S33) (T : List Bool) (x : S33) (b : Nat) : Bool := !(T.getD b false) && sameS (bank.getD b z33) x
def findQ (q : Nat → Bool) : Nat → Nat → Option Nat
  | _, 0 => none
  | b, n + 1 => if q b = true then some b else findQ q (b + 1) n
theorem findQ_none (q : Nat → Bool) : ∀ (n b : Nat), (∀ c, b ≤ c → c < b + n → q c = false) → findQ q b n = none := by
  intro n
  induction n with
  | zero => intro b _; rfl
  | succ n ih =>
    intro b h
    rw [findQ, if_neg (by rw [h b (Nat.le_refl _) (by omega)]; exact ff)]
    exact ih (b + 1) (fun c h1 h2 => h c (by omega) (by omega))
theorem findQ_some (q : Nat → Bool) (f : Nat) (hf : q f = true) : ∀ (n b : Nat), b ≤ f → f < b + n → (∀ c, b ≤ c → c < f → q c = false) → findQ q b n = some f := by
  intro n
  induction n with
  | zero => intro b h1 h2 _; omega
  | succ n ih =>
    intro b h1 h2 h
    rw [findQ]
    by_cases e : b = f
    · subst e
      rw [if_pos hf]
    · rw [if_neg (by rw [h b (Nat.le_refl _) (by omega)]; exact ff)]
      exact ih (b + 1) (by omega) (by omega) (fun c h1 h2 => h c (by omega) (by omega))
/-- What is paired, what is left of the first list, what is taken, the sum. -/
def settleV (bank : List S33) : List S33 → Nat → List (List Int) → List Int → List Bool → Int → List (List Int) × List Int × List Bool × Int
  | [], _, P, M, T, D => (P, M, T, D)
  | x :: a, i, P, M, T, D => match findQ (qS bank T x) 0 bank.length with
    | none => settleV bank a (i + 1) P (M ++ [(i : Int)]) T (wrap64 (D + x.f1))
    | some f => settleV bank a (i + 1) (P ++ [[(i : Int), (f : Int)]]) M (T.set f true) (wrap64 (D + x.f1))
def bankV (T : List Bool) : List S33 → Nat → List Int → Int → List Int × Int
  | [], _, B, D => (B, D)
  | y :: a, n, B, D => bankV T a (n + 1) (if T.getD n false = true then B else B ++ [(n : Int)]) (wrap64 (D - y.f1))
def outV (bank : List S33) (s : List (List Int) × List Int × List Bool × Int) : List (List Int) × List Int × List Int × Int × Int := (s.1, s.2.1, (bankV s.2.2.1 bank 0 [] s.2.2.2).1, (bankV s.2.2.1 bank 0 [] s.2.2.2).2, 0)
theorem settleV_none {bank a : List S33} {x : S33} {i : Nat} {P : List (List Int)} {M : List Int} {T : List Bool} {D : Int} (h : ∀ b, b < bank.length → qS bank T x b = false) : settleV bank (x :: a) i P M T D = settleV bank a (i + 1) P (M ++ [(i : Int)]) T (wrap64 (D + x.f1)) := by
  rw [settleV, findQ_none _ _ _ (fun c _ h2 => h c (by omega))]
theorem settleV_some {bank a : List S33} {x : S33} {i f : Nat} {P : List (List Int)} {M : List Int} {T : List Bool} {D : Int} (hf : f < bank.length) (hq : qS bank T x f = true) (h : ∀ b, b < f → qS bank T x b = false) : settleV bank (x :: a) i P M T D = settleV bank a (i + 1) (P ++ [[(i : Int), (f : Int)]]) M (T.set f true) (wrap64 (D + x.f1)) := by
  rw [settleV, findQ_some _ f hq _ _ (Nat.zero_le _) (by omega) (fun c _ h2 => h c h2)]
theorem settleV_len (bank : List S33) : ∀ (a : List S33) (i : Nat) (P : List (List Int)) (M : List Int) (T : List Bool) (D : Int), (∀ r ∈ P, r.length = 2) → (settleV bank a i P M T D).1.length ≤ P.length + a.length ∧ (settleV bank a i P M T D).2.1.length ≤ M.length + a.length ∧ ∀ r ∈ (settleV bank a i P M T D).1, r.length = 2 := by
  intro a
  induction a with
  | nil => intro i P M T D h; exact ⟨Nat.le_refl _, Nat.le_refl _, h⟩
  | cons x a ih =>
    intro i P M T D h
    rw [settleV]
    cases findQ (qS bank T x) 0 bank.length with
    | none =>
      have := ih (i + 1) P (M ++ [(i : Int)]) T (wrap64 (D + x.f1)) h
      simp only [List.length_append, List.length_cons, List.length_nil] at this ⊢
      exact ⟨by omega, by omega, this.2.2⟩
    | some f =>
      have := ih (i + 1) (P ++ [[(i : Int), (f : Int)]]) M (T.set f true) (wrap64 (D + x.f1)) (fun r hr => by
        rcases List.mem_append.1 hr with h1 | h1
        · exact h r h1
        · rw [List.mem_singleton.1 h1]; rfl)
      simp only [List.length_append, List.length_cons, List.length_nil] at this ⊢
      exact ⟨by omega, by omega, this.2.2⟩
theorem bankV_len (T : List Bool) : ∀ (a : List S33) (n : Nat) (B : List Int) (D : Int), (bankV T a n B D).1.length ≤ B.length + a.length := by
  intro a
  induction a with
  | nil => intro n B D; exact Nat.le_refl _
  | cons y a ih =>
    intro n B D
    have := ih (n + 1) (if T.getD n false = true then B else B ++ [(n : Int)]) (wrap64 (D - y.f1))
    rw [bankV, List.length_cons]
    by_cases h : T.getD n false = true
    · rw [if_pos h] at this ⊢; omega
    · rw [if_neg h] at this ⊢; rw [List.length_append, List.length_singleton] at this; omega
/-! ### the program -/
theorem l1_found (bank mine : List S33) (T : List Bool) (i f n D : Int) (P : List (List Int)) (M : List Int) (x : S33) (R : List (List Int) × List Int × List Int × Int × Int) (hf : 0 ≤ f) (hfT : f < (T.length : Int)) (hP : P.length < 1000)
    (hc : Ev (fun k => impl_Settle.l0 k bank (T.set f.toNat true) mine n (wrap64 (i + 1)) (P ++ [[i, f]]) M D) R) :
    ∀ (a p : List S33), p ++ a = bank → bank.length < 1000000 → Ev (fun k => impl_Settle.l1 k bank T i f mine n i bank (bank.length : Int) (p.length : Int) P M D x.f0 x.f1) R := by
  intro a
  induction a with
  | nil =>
    intro p hp hl
    subst hp
    exact Ev.step (fun k => rfl) (Ev.neg (len_end p) (Ev.neg (show ¬ f < 0 by omega) (Ev.pos hf (Ev.pos hfT (Ev.pos (by omega) hc)))))
  | cons y a ih =>
    intro p hp hl
    have hlt : (p.length : Int) < (bank.length : Int) := by rw [← hp]; exact len_lt p y a
    refine Ev.step (fun k => rfl) (Ev.pos hlt (Ev.pos (by omega) (Ev.pos hlt (Ev.neg (show ¬ f < 0 by omega) ?_))))
    rw [w64 (by omega) (by omega), ← len_snoc p y]
    exact ih (p ++ [y]) (by rw [← snoc]; exact hp) hl
theorem l1_search (bank mine : List S33) (T : List Bool) (i n D : Int) (P : List (List Int)) (M : List Int) (x : S33) (R : List (List Int) × List Int × List Int × Int × Int) (hT : T.length = bank.length) (hP : P.length < 1000) (hM : M.length < 1000) (hl : bank.length < 1000000)
    (hN : (∀ b, b < bank.length → qS bank T x b = false) → Ev (fun k => impl_Settle.l0 k bank T mine n (wrap64 (i + 1)) P (M ++ [i]) D) R)
    (hF : ∀ f : Nat, f < bank.length → qS bank T x f = true → (∀ b, b < f → qS bank T x b = false) → Ev (fun k => impl_Settle.l0 k bank (T.set f true) mine n (wrap64 (i + 1)) (P ++ [[i, (f : Int)]]) M D) R) :
    ∀ (a p : List S33), p ++ a = bank → (∀ b, b < p.length → qS bank T x b = false) → Ev (fun k => impl_Settle.l1 k bank T i (-1) mine n i bank (bank.length : Int) (p.length : Int) P M D x.f0 x.f1) R := by
  intro a
  induction a with
  | nil =>
    intro p hp hq
    rw [List.append_nil] at hp
    subst hp
    refine Ev.step (fun k => rfl) (Ev.neg (by omega) (Ev.pos (by omega) (Ev.pos (by omega) (hN hq))))
  | cons y a ih =>
    intro p hp hq
    have hlt : (p.length : Int) < (bank.length : Int) := by rw [← hp]; exact len_lt p y a
    have hy : bank.getD p.length z33 = y := by rw [← hp]; exact getD_cut p y a _
    have hnext : qS bank T x p.length = false → Ev (fun k => impl_Settle.l1 k bank T i (-1) mine n i bank (bank.length : Int) (wrap64 ((p.length : Int) + 1)) P M D x.f0 x.f1) R := by
      intro h
      rw [w64 (by omega) (by omega), ← len_snoc p y]
      refine ih (p ++ [y]) (by rw [← snoc]; exact hp) (fun b hb => ?_)
      rw [List.length_append, List.length_singleton] at hb
      by_cases e : b = p.length
      · rw [e]; exact h
      · exact hq b (by omega)
    refine Ev.step (fun k => rfl) (Ev.pos hlt (Ev.pos (by omega) (Ev.pos hlt (Ev.pos (by omega) (Ev.pos (by omega) ?_)))))
    rw [rdB_nat, rd_Settled_nat, hy]
    cases ht : T.getD p.length false with
    | true => exact Ev.pos rfl (hnext (by unfold qS; rw [ht]; rfl))
    | false =>
      refine Ev.neg ff ?_
      cases hs : sameS y x with
      | true =>
        have hqt : qS bank T x p.length = true := by unfold qS; rw [ht, hy, hs]; rfl
        refine Ev.pos hs ?_
        rw [w64 (by omega) (by omega), ← len_snoc p y]
        refine l1_found bank mine T i (p.length : Int) n D P M x R (by omega) (by omega) hP ?_ a (p ++ [y]) (by rw [← snoc]; exact hp) hl
        rw [Int.toNat_natCast]
        exact hF p.length (by omega) hqt hq
      | false =>
        exact Ev.neg (by unfold sameS at hs; rw [hs]; exact ff) (hnext (by unfold qS; rw [ht, hy, hs]; rfl))
theorem impl_l2 (bank : List S33) (T : List Bool) (P : List (List Int)) (M : List Int) (hl : bank.length < 1000) (hT : T.length = bank.length) : ∀ (a p : List S33) (B : List Int) (D : Int), p ++ a = bank → B.length ≤ p.length →
    Ev (fun k => impl_Settle.l2 k T bank (bank.length : Int) (p.length : Int) P M B D) (P, M, (bankV T a p.length B D).1, (bankV T a p.length B D).2, 0) := by
  intro a
  induction a with
  | nil =>
    intro p B D hp hB
    rw [List.append_nil] at hp
    subst hp
    exact Ev.step (fun k => rfl) (Ev.neg (by omega) (Ev.some' rfl))
  | cons y a ih =>
    intro p B D hp hB
    have hlt : (p.length : Int) < (bank.length : Int) := by rw [← hp]; exact len_lt p y a
    have hy : bank.getD p.length z33 = y := by rw [← hp]; exact getD_cut p y a _
    have hi := fun B' hB' => ih (p ++ [y]) B' (wrap64 (D - y.f1)) (by rw [← snoc]; exact hp) hB'
    rw [show (p ++ [y]).length = p.length + 1 by simp] at hi
    refine Ev.step (fun k => rfl) (Ev.pos hlt (Ev.pos (by omega) (Ev.pos hlt (Ev.pos (by omega) ?_))))
    rw [rdB_nat, rd_Settled_nat, hy, w64n (by omega), bankV]
    by_cases hb : T.getD p.length false = true
    · rw [if_pos hb]
      exact Ev.pos hb (hi B (by omega))
    · rw [if_neg hb]
      exact Ev.neg hb (Ev.pos (by omega) (hi (B ++ [(p.length : Int)]) (by simp; omega)))
theorem first_or_none (q : Nat → Bool) : ∀ n, (∃ f, f < n ∧ q f = true ∧ ∀ b, b < f → q b = false) ∨ ∀ b, b < n → q b = false := by
  intro n
  induction n with
  | zero => exact .inr (fun b hb => absurd hb (Nat.not_lt_zero b))
  | succ n ih =>
    rcases ih with ⟨f, h1, h2, h3⟩ | h
    · exact .inl ⟨f, by omega, h2, h3⟩
    · cases hq : q n with
      | true => exact .inl ⟨n, by omega, hq, h⟩
      | false =>
        refine .inr (fun b hb => ?_)
        by_cases e : b = n
        · rw [e]; exact hq
        · exact h b (by omega)
theorem impl_l0 (mine bank : List S33) (hm : mine.length < 100) (hb : bank.length < 100) : ∀ (a p : List S33) (P : List (List Int)) (M : List Int) (T : List Bool) (D : Int), p ++ a = mine → T.length = bank.length → P.length ≤ p.length → M.length ≤ p.length →
    Ev (fun k => impl_Settle.l0 k bank T mine (mine.length : Int) (p.length : Int) P M D) (outV bank (settleV bank a p.length P M T D)) := by
  intro a
  induction a with
  | nil =>
    intro p P M T D hp hT hP hM
    rw [List.append_nil] at hp
    subst hp
    exact Ev.step (fun k => rfl) (Ev.neg (by omega) (impl_l2 bank T P M (by omega) hT bank [] [] D rfl (by simp)))
  | cons x a ih =>
    intro p P M T D hp hT hP hM
    have hlt : (p.length : Int) < (mine.length : Int) := by rw [← hp]; exact len_lt p x a
    have hx : rd_T33 mine (p.length : Int) = x := by rw [← hp]; exact rd_Settled_mid p x a
    have hplen : (p ++ [x]).length = p.length + 1 := by simp
    refine Ev.step (fun k => rfl) (Ev.pos hlt (Ev.pos (by omega) (Ev.pos hlt ?_)))
    rw [hx]
    refine l1_search bank mine T (p.length : Int) (mine.length : Int) (wrap64 (D + x.f1)) P M x _ hT (by omega) (by omega) (by omega) (fun hN => ?_) (fun f hf hq hF => ?_) bank [] rfl (fun b hb => absurd hb (Nat.not_lt_zero b))
    · rw [settleV_none hN, w64n (by omega), ← hplen]
      exact ih (p ++ [x]) P _ T _ (by rw [← snoc]; exact hp) hT (by omega) (by rw [List.length_append, hplen, List.length_singleton]; omega)
    · rw [settleV_some hf hq hF, w64n (by omega), ← hplen]
      exact ih (p ++ [x]) _ M _ _ (by rw [← snoc]; exact hp) (by rw [List.length_set]; exact hT) (by rw [List.length_append, hplen, List.length_singleton]; omega) (by omega)
/-! ### the reference -/
theorem s_end (bank mine : List S33) (T : List Bool) (i f : Nat) (b : Int) (D : Int) (P : List (List Int)) (M : List Int) (x : S33) (R : List (List Int) × List Int × List Int × Int × Int) (hi : i < mine.length) (hx : rd_T33 mine (i : Int) = x) (hfT : f < T.length) (hP : P.length < 1000)
    (hc : Ev (fun k => spec_Settle.l0 k mine bank (T.set f true) (wrap64 ((i : Int) + 1)) (P ++ [[(i : Int), (f : Int)]]) M (wrap64 (D + x.f1))) R) : Ev (fun k => spec_Settle.l1 k mine bank T (i : Int) (f : Int) b P M D) R := by
  have hj : Ev (fun k => spec_Settle.j5 k mine bank T (i : Int) (f : Int) b false P M D) R := by
    refine Ev.up1 ?_
    simp only [spec_Settle.j5]
    refine Ev.neg ff (Ev.pos (by omega) (Ev.pos (by omega) (Ev.neg (by omega) (Ev.pos (by omega) (Ev.pos (by omega) (Ev.pos (by omega) ?_))))))
    rw [hx, Int.toNat_natCast]
    exact hc
  refine Ev.up1 ?_
  simp only [spec_Settle.l1]
  by_cases h : b < (bank.length : Int)
  · refine Ev.pos h ?_
    rw [decide_eq_false (by omega)]
    exact hj
  · exact Ev.neg h hj
theorem s_search (bank mine : List S33) (T : List Bool) (i : Nat) (D : Int) (P : List (List Int)) (M : List Int) (x : S33) (R : List (List Int) × List Int × List Int × Int × Int) (hi : i < mine.length) (hx : rd_T33 mine (i : Int) = x) (hT : T.length = bank.length) (hP : P.length < 1000) (hM : M.length < 1000) (hl : bank.length < 1000000)
    (hN : (∀ b, b < bank.length → qS bank T x b = false) → Ev (fun k => spec_Settle.l0 k mine bank T (wrap64 ((i : Int) + 1)) P (M ++ [(i : Int)]) (wrap64 (D + x.f1))) R)
    (hF : ∀ f : Nat, f < bank.length → qS bank T x f = true → (∀ b, b < f → qS bank T x b = false) → Ev (fun k => spec_Settle.l0 k mine bank (T.set f true) (wrap64 ((i : Int) + 1)) (P ++ [[(i : Int), (f : Int)]]) M (wrap64 (D + x.f1))) R) :
    ∀ (a p : List S33), p ++ a = bank → (∀ b, b < p.length → qS bank T x b = false) → Ev (fun k => spec_Settle.l1 k mine bank T (i : Int) (-1) (p.length : Int) P M D) R := by
  intro a
  induction a with
  | nil =>
    intro p hp hq
    rw [List.append_nil] at hp
    subst hp
    refine Ev.up1 ?_
    simp only [spec_Settle.l1]
    refine Ev.neg (by omega) (Ev.up1 ?_)
    simp only [spec_Settle.j5]
    refine Ev.neg ff (Ev.pos (by omega) (Ev.pos (by omega) (Ev.pos (by omega) (Ev.pos (by omega) ?_))))
    rw [hx]
    exact hN hq
  | cons y a ih =>
    intro p hp hq
    have hlt : (p.length : Int) < (bank.length : Int) := by rw [← hp]; exact len_lt p y a
    have hy : bank.getD p.length z33 = y := by rw [← hp]; exact getD_cut p y a _
    have hnext : qS bank T x p.length = false → Ev (fun k => spec_Settle.l1 k mine bank T (i : Int) (-1) (wrap64 ((p.length : Int) + 1)) P M D) R := by
      intro h
      rw [w64 (by omega) (by omega), ← len_snoc p y]
      refine ih (p ++ [y]) (by rw [← snoc]; exact hp) (fun b hb => ?_)
      rw [List.length_append, List.length_singleton] at hb
      by_cases e : b = p.length
      · rw [e]; exact h
      · exact hq b (by omega)
    refine Ev.up1 ?_
    simp only [spec_Settle.l1]
    refine Ev.pos hlt ?_
    rw [decide_eq_true (by omega)]
    refine Ev.up1 ?_
    simp only [spec_Settle.j5]
    refine Ev.pos trivial (Ev.pos (by omega) (Ev.pos (by omega) ?_))
    rw [rdB_nat]
    cases ht : T.getD p.length false with
    | true => exact Ev.pos rfl (hnext (by unfold qS; rw [ht]; rfl))
    | false =>
      refine Ev.neg ff (Ev.pos hlt (Ev.pos (by omega) (Ev.pos (by omega) ?_)))
      rw [hx, rd_Settled_nat, hy]
      cases hs : sameS y x with
      | true =>
        have hqt : qS bank T x p.length = true := by unfold qS; rw [ht, hy, hs]; rfl
        exact Ev.pos hs (s_end bank mine T i p.length _ D P M x R hi hx (by omega) hP (hF p.length (by omega) hqt hq))
      | false =>
        exact Ev.neg (by unfold sameS at hs; rw [hs]; exact ff) (hnext (by unfold qS; rw [ht, hy, hs]; rfl))
theorem spec_l2 (bank : List S33) (T : List Bool) (P : List (List Int)) (M : List Int) (hl : bank.length < 1000) (hT : T.length = bank.length) : ∀ (a p : List S33) (B : List Int) (D : Int), p ++ a = bank → B.length ≤ p.length →
    Ev (fun k => spec_Settle.l2 k bank T (p.length : Int) P M B D) (P, M, (bankV T a p.length B D).1, (bankV T a p.length B D).2, 0) := by
  intro a
  induction a with
  | nil =>
    intro p B D hp hB
    rw [List.append_nil] at hp
    subst hp
    refine Ev.up1 ?_
    simp only [spec_Settle.l2]
    exact Ev.neg (by omega) (Ev.some' rfl)
  | cons y a ih =>
    intro p B D hp hB
    have hlt : (p.length : Int) < (bank.length : Int) := by rw [← hp]; exact len_lt p y a
    have hy : bank.getD p.length z33 = y := by rw [← hp]; exact getD_cut p y a _
    have hi := fun B' hB' => ih (p ++ [y]) B' (wrap64 (D - y.f1)) (by rw [← snoc]; exact hp) hB'
    rw [show (p ++ [y]).length = p.length + 1 by simp] at hi
    refine Ev.up1 ?_
    simp only [spec_Settle.l2]
    refine Ev.pos hlt (Ev.pos (by omega) (Ev.pos (by omega) ?_))
    rw [rdB_nat, rd_Settled_nat, hy, w64n (by omega), bankV]
    by_cases hb : T.getD p.length false = true
    · rw [if_pos hb]
      exact Ev.pos hb (hi B (by omega))
    · rw [if_neg hb]
      exact Ev.neg hb (Ev.pos (by omega) (hi (B ++ [(p.length : Int)]) (by simp; omega)))
theorem spec_l0 (mine bank : List S33) (hm : mine.length < 100) (hb : bank.length < 100) : ∀ (a p : List S33) (P : List (List Int)) (M : List Int) (T : List Bool) (D : Int), p ++ a = mine → T.length = bank.length → P.length ≤ p.length → M.length ≤ p.length →
    Ev (fun k => spec_Settle.l0 k mine bank T (p.length : Int) P M D) (outV bank (settleV bank a p.length P M T D)) := by
  intro a
  induction a with
  | nil =>
    intro p P M T D hp hT hP hM
    rw [List.append_nil] at hp
    subst hp
    refine Ev.up1 ?_
    simp only [spec_Settle.l0]
    exact Ev.neg (by omega) (spec_l2 bank T P M (by omega) hT bank [] [] D rfl (by simp))
  | cons x a ih =>
    intro p P M T D hp hT hP hM
    have hlt : (p.length : Int) < (mine.length : Int) := by rw [← hp]; exact len_lt p x a
    have hx : rd_T33 mine (p.length : Int) = x := by rw [← hp]; exact rd_Settled_mid p x a
    have hplen : (p ++ [x]).length = p.length + 1 := by simp
    refine Ev.up1 ?_
    simp only [spec_Settle.l0]
    refine Ev.pos hlt ?_
    refine s_search bank mine T p.length D P M x _ (by omega) hx hT (by omega) (by omega) (by omega) (fun hN => ?_) (fun f hf hq hF => ?_) bank [] rfl (fun b hb => absurd hb (Nat.not_lt_zero b))
    · rw [settleV_none hN, w64n (by omega), ← hplen]
      exact ih (p ++ [x]) P _ T _ (by rw [← snoc]; exact hp) hT (by omega) (by rw [List.length_append, hplen, List.length_singleton]; omega)
    · rw [settleV_some hf hq hF, w64n (by omega), ← hplen]
      exact ih (p ++ [x]) _ M _ _ (by rw [← snoc]; exact hp) (by rw [List.length_set]; exact hT) (by rw [List.length_append, hplen, List.length_singleton]; omega) (by omega)
/-! ### right lists -/
def okS (x : S33) : Bool := nameOKV x.f0 && decide (-1000000000 ≤ x.f1 ∧ x.f1 ≤ 1000000000)
theorem wrong_ev (x : S33) : Ev (fun k => impl_Settle_1.f k x.f0 x.f1) (!okS x) := by
  unfold impl_Settle_1.f okS
  refine Ev.bind (implName_ev x.f0) ?_
  cases nameOKV x.f0 with
  | false => exact Ev.neg ff (Ev.some' rfl)
  | true =>
    refine Ev.pos rfl (Ev.ret (a := decide (-1000000000 ≤ x.f1 ∧ x.f1 ≤ 1000000000)) ?_ (Ev.some' (by rw [Bool.true_and])))
    unfold impl_isMoney.f
    rw [within_ev, Option.bind_some]
theorem idx_l0 : ∀ (a p : List S33), (p ++ a).length < 1000000 → ∃ r : Int, Ev (fun k => impl_Settled_41.l0 k (p ++ a) ((p ++ a).length : Int) (p.length : Int)) r ∧ decide (r ≥ 0) = !(a.all okS) := by
  intro a
  induction a with
  | nil => intro p hl; exact ⟨-1, Ev.step (fun k => rfl) (Ev.neg (len_end p) (Ev.some' rfl)), by simp⟩
  | cons x a ih =>
    intro p hl
    have hl' := hl
    rw [List.length_append, List.length_cons] at hl'
    obtain ⟨r, hr, hd⟩ := ih (p ++ [x]) (by rw [← snoc]; exact hl)
    have hw := wrong_ev x
    cases hx : okS x with
    | false =>
      rw [hx] at hw
      refine ⟨(p.length : Int), Ev.step (fun k => rfl) (Ev.pos (len_lt p x a) (Ev.pos (by omega) (Ev.pos (len_lt p x a) ?_))), ?_⟩
      · rw [rd_Settled_mid]
        exact Ev.bind hw (Ev.pos rfl (Ev.some' rfl))
      · rw [List.all_cons, hx]; simp
    | true =>
      rw [hx] at hw
      refine ⟨r, Ev.step (fun k => rfl) (Ev.pos (len_lt p x a) (Ev.pos (by omega) (Ev.pos (len_lt p x a) ?_))), by rw [hd, List.all_cons, hx, Bool.true_and]⟩
      rw [rd_Settled_mid]
      refine Ev.bind hw (Ev.neg ff ?_)
      rw [w64 (by omega) (by omega), ← len_snoc p x, snoc p x a]
      exact hr
theorem has_ev (l : List S33) (hl : l.length < 1000000) : Ev (fun k => impl_Settled_24.f k l) (!(l.all okS)) := by
  obtain ⟨r, hr, hd⟩ := idx_l0 l [] hl
  exact Ev.bind hr (Ev.some' hd)
theorem right_l0 : ∀ (a p : List S33), (p ++ a).length < 1000000 → Ev (fun k => spec_l11Right.l0 k (p ++ a) (p.length : Int)) (a.all okS) := by
  intro a
  induction a with
  | nil => intro p hl; exact Ev.step (fun k => rfl) (Ev.neg (len_end p) (Ev.some' rfl))
  | cons x a ih =>
    intro p hl
    have hl' := hl
    rw [List.length_append, List.length_cons] at hl'
    have hr := ih (p ++ [x]) (by rw [← snoc]; exact hl)
    rw [← snoc, show (p ++ [x]).length = p.length + 1 by simp] at hr
    refine Ev.step (fun k => rfl) (Ev.pos (len_lt p x a) (Ev.pos (by omega) ?_))
    rw [rd_Settled_mid, List.all_cons, okS]
    refine Ev.bind (specName_ev x.f0) ?_
    cases nameOKV x.f0 with
    | false => rw [Bool.false_and, Bool.false_and]; exact Ev.neg ff (Ev.some' rfl)
    | true =>
      rw [Bool.true_and]
      have hm : spec_l01Money.f x.f1 = some (decide (-1000000000 ≤ x.f1 ∧ x.f1 ≤ 1000000000)) := by
        unfold spec_l01Money.f
        rw [l01In_ev]
        rfl
      refine Ev.pos rfl (Ev.ret hm ?_)
      cases hd : decide (-1000000000 ≤ x.f1 ∧ x.f1 ≤ 1000000000) with
      | false => rw [Bool.false_and]; exact Ev.neg ff (Ev.some' rfl)
      | true =>
        rw [Bool.true_and]
        refine Ev.pos rfl ?_
        rw [w64n (by omega)]
        exact hr
/-- What Settle answers. -/
def settleJ (mine bank : List S33) : List (List Int) × List Int × List Int × Int × Int :=
  if (mine.length : Int) > 4096 ∨ (bank.length : Int) > 4096 then ([], [], [], 0, 2) else if (mine.length : Int) > 60 ∨ (bank.length : Int) > 60 then ([], [], [], 0, 9) else if (mine.all okS && bank.all okS) = true then outV bank (settleV bank mine 0 [] [] (List.replicate bank.length false) 0) else ([], [], [], 0, 1)
theorem implSettle_ev (mine bank : List S33) : Ev (fun k => impl_Settle.f k mine bank) (settleJ mine bank) := by
  have bad : Ev (fun k => impl_Settle.j0 k mine bank true) ([], [], [], 0, 2) := Ev.up1 (by simp only [impl_Settle.j0]; exact Ev.pos trivial (Ev.some' rfl))
  have bad2 : Ev (fun k => impl_Settle.j1 k mine bank true) ([], [], [], 0, 9) := Ev.up1 (by simp only [impl_Settle.j1]; exact Ev.pos trivial (Ev.some' rfl))
  unfold impl_Settle.f settleJ
  refine Ev.ret rfl ?_
  by_cases c1 : (mine.length : Int) > 4096
  · rw [if_pos (Or.inl c1), decide_eq_false (by omega)]
    exact Ev.neg ff bad
  rw [decide_eq_true (by omega)]
  refine Ev.pos rfl (Ev.ret rfl ?_)
  by_cases c2 : (bank.length : Int) > 4096
  · rw [if_pos (Or.inr c2), decide_eq_false (by omega)]
    exact bad
  rw [if_neg (by omega), decide_eq_true (by omega)]
  refine Ev.up1 ?_
  simp only [impl_Settle.j0]
  refine Ev.neg ff ?_
  by_cases c3 : (mine.length : Int) > 60
  · rw [if_pos (Or.inl c3)]
    exact Ev.pos c3 bad2
  refine Ev.neg c3 ?_
  by_cases c4 : (bank.length : Int) > 60
  · rw [if_pos (Or.inr c4), decide_eq_true c4]
    exact bad2
  rw [if_neg (by omega), decide_eq_false c4]
  refine Ev.up1 ?_
  simp only [impl_Settle.j1]
  refine Ev.neg ff (Ev.bind (has_ev mine (by omega)) ?_)
  cases mine.all okS with
  | false => rw [Bool.false_and, if_neg ff]; exact Ev.pos rfl (Ev.some' rfl)
  | true =>
    refine Ev.neg ff (Ev.bind (has_ev bank (by omega)) ?_)
    cases bank.all okS with
    | false => rw [Bool.and_false, if_neg ff]; exact Ev.pos rfl (Ev.some' rfl)
    | true =>
      rw [Bool.and_true, if_pos rfl]
      refine Ev.neg ff (Ev.pos (by omega) (Ev.pos (by omega) ?_))
      rw [Int.toNat_natCast]
      exact impl_l0 mine bank (by omega) (by omega) mine [] [] [] _ 0 rfl (by simp) (by simp) (by simp)
theorem specSettle_ev (mine bank : List S33) : Ev (fun k => spec_Settle.f k mine bank) (settleJ mine bank) := by
  have bad : Ev (fun k => spec_Settle.j0 k mine bank true) ([], [], [], 0, 2) := Ev.up1 (by simp only [spec_Settle.j0]; exact Ev.pos trivial (Ev.some' rfl))
  have bad2 : Ev (fun k => spec_Settle.j1 k mine bank true) ([], [], [], 0, 9) := Ev.up1 (by simp only [spec_Settle.j1]; exact Ev.pos trivial (Ev.some' rfl))
  have bad3 : Ev (fun k => spec_Settle.j2 k mine bank true) ([], [], [], 0, 1) := Ev.up1 (by simp only [spec_Settle.j2]; exact Ev.pos trivial (Ev.some' rfl))
  unfold spec_Settle.f settleJ
  by_cases c1 : (mine.length : Int) > 4096
  · rw [if_pos (Or.inl c1)]
    exact Ev.pos c1 bad
  refine Ev.neg c1 ?_
  by_cases c2 : (bank.length : Int) > 4096
  · rw [if_pos (Or.inr c2), decide_eq_true c2]
    exact bad
  rw [if_neg (by omega), decide_eq_false c2]
  refine Ev.up1 ?_
  simp only [spec_Settle.j0]
  refine Ev.neg ff ?_
  by_cases c3 : (mine.length : Int) > 60
  · rw [if_pos (Or.inl c3)]
    exact Ev.pos c3 bad2
  refine Ev.neg c3 ?_
  by_cases c4 : (bank.length : Int) > 60
  · rw [if_pos (Or.inr c4), decide_eq_true c4]
    exact bad2
  rw [if_neg (by omega), decide_eq_false c4]
  refine Ev.up1 ?_
  simp only [spec_Settle.j1]
  refine Ev.neg ff (Ev.bind (right_l0 mine [] (by simp; omega)) ?_)
  cases mine.all okS with
  | false => rw [Bool.false_and, if_neg ff]; exact Ev.neg ff bad3
  | true =>
    refine Ev.pos rfl (Ev.bind (right_l0 bank [] (by simp; omega)) ?_)
    cases bank.all okS with
    | false => rw [Bool.and_false, if_neg ff]; exact bad3
    | true =>
      rw [Bool.and_true, if_pos rfl]
      refine Ev.up1 ?_
      simp only [Bool.not_true, spec_Settle.j2]
      refine Ev.neg ff (Ev.pos (by omega) (Ev.pos (by omega) ?_))
      rw [Int.toNat_natCast]
      exact spec_l0 mine bank (by omega) (by omega) mine [] [] [] _ 0 rfl (by simp) (by simp) (by simp)
theorem settleJ_len (mine bank : List S33) : (settleJ mine bank).1.length ≤ 60 ∧ (settleJ mine bank).2.1.length ≤ 60 ∧ (settleJ mine bank).2.2.1.length ≤ 60 ∧ ∀ r ∈ (settleJ mine bank).1, r.length = 2 := by
  have no : ∀ c : Int, (([], [], [], 0, c) : List (List Int) × List Int × List Int × Int × Int).1.length ≤ 60 ∧ (([], [], [], 0, c) : List (List Int) × List Int × List Int × Int × Int).2.1.length ≤ 60 ∧ (([], [], [], 0, c) : List (List Int) × List Int × List Int × Int × Int).2.2.1.length ≤ 60 ∧ ∀ r ∈ (([], [], [], 0, c) : List (List Int) × List Int × List Int × Int × Int).1, r.length = 2 := fun c => ⟨Nat.zero_le _, Nat.zero_le _, Nat.zero_le _, fun r hr => by cases hr⟩
  unfold settleJ
  by_cases c1 : (mine.length : Int) > 4096 ∨ (bank.length : Int) > 4096
  · rw [if_pos c1]; exact no 2
  rw [if_neg c1]
  by_cases c2 : (mine.length : Int) > 60 ∨ (bank.length : Int) > 60
  · rw [if_pos c2]; exact no 9
  rw [if_neg c2]
  by_cases c3 : (mine.all okS && bank.all okS) = true
  · rw [if_pos c3]
    obtain ⟨h1, h2, h3⟩ := settleV_len bank mine 0 [] [] (List.replicate bank.length false) 0 (fun r hr => by cases hr)
    have h4 := bankV_len (settleV bank mine 0 [] [] (List.replicate bank.length false) 0).2.2.1 bank 0 [] (settleV bank mine 0 [] [] (List.replicate bank.length false) 0).2.2.2
    rw [List.length_nil] at h1 h2 h4
    exact ⟨by show (settleV bank mine 0 [] [] (List.replicate bank.length false) 0).1.length ≤ 60; omega, by show (settleV bank mine 0 [] [] (List.replicate bank.length false) 0).2.1.length ≤ 60; omega, by show (bankV _ bank 0 [] _).1.length ≤ 60; omega, h3⟩
  · rw [if_neg c3]; exact no 1
/-! ### the law's own -/
theorem szS_l0 : ∀ (a p : List S55) (b : Int), (p ++ a).length < 4611686018427387904 → 0 ≤ b → b ≤ 1048576 → (∀ x ∈ a, x.f0.size ≤ 9223372036854775807) → ∃ r, Ev (fun k => laws_szSettledS.l0 k (p ++ a) b (p.length : Int)) r ∧ (r < 0 ∨ (0 ≤ r ∧ r ≤ 1048576)) := by
  intro a
  induction a with
  | nil => intro p b _ h0 h1 _; exact ⟨_, Ev.step (fun k => rfl) (Ev.neg (len_end p) (Ev.some' rfl)), .inr ⟨h0, h1⟩⟩
  | cons x a ih =>
    intro p b hl h0 h1 hx
    have hl' := hl
    rw [List.length_append, List.length_cons] at hl'
    have hs := hx x (by simp)
    have r1 : rd_T55 (p ++ x :: a) (p.length : Int) = x := getD_mid p x a z55
    have e1 : ∃ t : Int, laws_szSettled.f x.f0 x.f1 b = some t ∧ (t < 0 ∨ (0 ≤ t ∧ t ≤ 1048576)) := by
      unfold laws_szSettled.f
      rw [w64 (by omega) (by omega)]
      by_cases c : b - (x.f0.size : Int) < 0
      · rw [if_pos c]; exact ⟨_, rfl, .inl (by omega)⟩
      · rw [if_neg c]; exact ⟨_, rfl, .inr (by omega)⟩
    obtain ⟨t, e1, e2⟩ := e1
    by_cases c : t < 0
    · refine ⟨-1, Ev.step (fun k => rfl) (Ev.pos (len_lt p x a) (Ev.pos (by omega) ?_)), .inl (by omega)⟩
      rw [r1]
      exact Ev.ret e1 (Ev.pos c (Ev.some' rfl))
    · obtain ⟨r, hr, hd⟩ := ih (p ++ [x]) t (by rw [← snoc]; exact hl) (by omega) (by omega) (fun y hy => hx y (by simp [hy]))
      refine ⟨r, Ev.step (fun k => rfl) (Ev.pos (len_lt p x a) (Ev.pos (by omega) ?_)), hd⟩
      rw [r1]
      refine Ev.ret e1 (Ev.neg c ?_)
      rw [w64 (by omega) (by omega), ← len_snoc p x, snoc p x a]
      exact hr
theorem szS_ev (l : List S55) (b : Int) (hb : 0 ≤ b ∧ b ≤ 1048576) (hl : l.length ≤ 9223372036854775807) (hx : ∀ x ∈ l, x.f0.size ≤ 9223372036854775807) : ∃ r, Ev (fun k => laws_szSettledS.f k l b) r ∧ (r < 0 ∨ (l.length ≤ 1048576 ∧ 0 ≤ r ∧ r ≤ 1048576)) := by
  unfold laws_szSettledS.f
  rw [w64 (by omega) (by omega)]
  by_cases c : b - (l.length : Int) < 0
  · exact ⟨-1, Ev.pos c (Ev.some' rfl), .inl (by omega)⟩
  · obtain ⟨r, hr, hd⟩ := szS_l0 l [] (b - (l.length : Int)) (by simp; omega) (by omega) (by omega) hx
    exact ⟨r, Ev.neg c hr, hd.imp id (fun h => ⟨by omega, h⟩)⟩
theorem markS_l0 : ∀ (a p : List S33) (c : Int), (p ++ a).length < 1000000000 → 0 ≤ c → c + 2 * a.length < 1000000000000 →
    ∃ b : List S33, Ev (fun k => laws_markSettledS.l0 k (p ++ a) c (p.length : Int)) (c + 2 * a.length, p ++ b) := by
  intro a
  induction a with
  | nil => intro p c hl h0 hc; exact ⟨[], Ev.step (fun k => rfl) (Ev.neg (len_end p) (Ev.some' (by simp)))⟩
  | cons x a ih =>
    intro p c hl h0 hc
    have hl' := hl
    rw [List.length_append, List.length_cons] at hl'
    rw [List.length_cons] at hc
    have hpp : (10 : Int) ^ 19 = 10000000000000000000 := by decide
    obtain ⟨t, ht⟩ := markText_ev c (by omega)
    have e1 : wrap64 (c + 1) = c + 1 := w64 (by omega) (by omega)
    have e2 : wrap64 (c + 1 + 1) = c + 2 := by rw [w64 (by omega) (by omega)]; omega
    obtain ⟨b, g1⟩ := ih (p ++ [⟨t, c + 1⟩]) (c + 2) (by simp; omega) (by omega) (by omega)
    refine ⟨⟨t, c + 1⟩ :: b, ?_⟩
    refine Ev.step (fun k => rfl) (Ev.pos (len_lt p x a) (Ev.bind ht (Ev.pos (by omega) ?_)))
    refine Ev.ret rfl ?_
    simp only [set_mid, rd_Settled_mid, e1, e2]
    rw [w64 (x := (p.length : Int) + 1) (by omega) (by omega), ← len_snoc p (⟨t, c + 1⟩ : S33), snoc p]
    refine Ev.eq g1 ?_
    rw [← snoc, List.length_cons]
    congr 1
    omega
theorem markS_ev (a : List S33) (c : Int) (hl : a.length ≤ 1048576) (h0 : 0 ≤ c) (hc : c ≤ 100000000) : ∃ b : List S33, Ev (fun k => laws_markSettledS.f k a c) (c + 2 * (a.length : Int), b) := by
  unfold laws_markSettledS.f
  obtain ⟨b, h⟩ := markS_l0 a [] c (by simp; omega) h0 (by omega)
  exact ⟨b, h⟩
def markSS : List (List Int) → Int → List (List Int)
  | [], _ => []
  | x :: a, c => iota c x.length :: markSS a (c + x.length)
theorem mss_ev : ∀ (a p : List (List Int)) (c : Int), (p ++ a).length < 1000000 → 0 ≤ c → c + sumLen a < 1000000000000 → Ev (fun k => laws_FnExactSettle.mss k (p ++ a) c (p.length : Int)) (c + sumLen a, p ++ markSS a c) := by
  intro a
  induction a with
  | nil => intro p c hl h0 hc; exact Ev.step (fun k => rfl) (Ev.neg (len_end p) (Ev.some' (by simp [sumLen, markSS])))
  | cons x a ih =>
    intro p c hl h0 hc
    have hl' := hl
    rw [List.length_append, List.length_cons] at hl'
    have hsl : sumLen (x :: a) = x.length + sumLen a := rfl
    have h1 := ih (p ++ [iota c x.length]) (c + x.length) (by simp; omega) (by omega) (by omega)
    rw [← snoc, show (p ++ [iota c x.length]).length = p.length + 1 by simp] at h1
    refine Ev.step (fun k => rfl) (Ev.pos (len_lt p x a) ?_)
    rw [getD_mid p x a []]
    refine Ev.bind (markIntS_ev x c (by omega) h0 (by omega)) ?_
    rw [set_mid, w64n (by omega)]
    refine Ev.eq h1 ?_
    rw [hsl, ← snoc, markSS]
    congr 1
    omega
theorem markSS_len : ∀ (a : List (List Int)) (c : Int), (markSS a c).length = a.length ∧ sumLen (markSS a c) = sumLen a := by
  intro a
  induction a with
  | nil => intro c; exact ⟨rfl, rfl⟩
  | cons x a ih =>
    intro c
    obtain ⟨h1, h2⟩ := ih (c + x.length)
    refine ⟨by rw [markSS, List.length_cons, h1, List.length_cons], ?_⟩
    show (iota c x.length).length + sumLen (markSS a (c + x.length)) = x.length + sumLen a
    rw [h2, iota_length]
theorem heldSS_l0 : ∀ (a p : List (List Int)) (c : Int), (p.length + a.length) < 1000000 → 0 ≤ c → c + sumLen a < 1000000000000 → ∀ q : List (List Int), q.length = p.length → Ev (fun k => laws_heldIntSS.l0 k (q ++ markSS a c) c (q.length : Int)) (c + sumLen a) := by
  intro a
  induction a with
  | nil => intro p c hl h0 hc q hq; exact Ev.step (fun k => rfl) (Ev.neg (by rw [markSS]; exact len_end q) (Ev.some' (by simp [sumLen])))
  | cons x a ih =>
    intro p c hl h0 hc q hq
    rw [List.length_cons] at hl
    have hsl : sumLen (x :: a) = x.length + sumLen a := rfl
    have h1 := ih (p ++ [x]) (c + x.length) (by simp; omega) (by omega) (by omega) (q ++ [iota c x.length]) (by simp [hq])
    rw [← snoc, show (q ++ [iota c x.length]).length = q.length + 1 by simp] at h1
    rw [markSS]
    refine Ev.step (fun k => rfl) (Ev.pos (len_lt q _ _) (Ev.pos (by omega) ?_))
    rw [rdL_mid]
    refine Ev.bind (heldIntS_ev x.length c h0 (by omega)) (Ev.neg (by omega) ?_)
    rw [w64n (by omega)]
    exact Ev.eq h1 (by rw [hsl]; omega)
theorem heldSS_ev (a : List (List Int)) (c : Int) (hl : a.length < 1000000) (h0 : 0 ≤ c) (hc : c + sumLen a < 1000000000000) : Ev (fun k => laws_heldIntSS.f k (markSS a c) c) (c + sumLen a) := by
  unfold laws_heldIntSS.f
  exact heldSS_l0 a [] c (by simpa using hl) h0 hc [] rfl
theorem sumLen_le : ∀ (a : List (List Int)) (n : Nat), (∀ x ∈ a, x.length ≤ n) → sumLen a ≤ n * a.length := by
  intro a
  induction a with
  | nil => intro n _; simp [sumLen]
  | cons x a ih =>
    intro n h
    have h1 := h x (by simp)
    have h2 := ih n (fun y hy => h y (by simp [hy]))
    show x.length + sumLen a ≤ n * (a.length + 1)
    rw [Nat.mul_succ]
    omega
theorem FnExactSettle : laws_FnExactSettle.Pure := by
  intro L1 L2 hL1 hL2
  refine Ev.rounds (?_ : Ev (fun k => laws_FnExactSettle.f k L1 L2) true)
  unfold laws_FnExactSettle.f
  obtain ⟨r, hr, h⟩ := szS_ev L1 1048576 (by omega) hL1.1 (fun x hx => (hL1.2 x hx).1)
  refine Ev.bind hr ?_
  by_cases c : r < 0
  · exact Ev.pos c (Ev.some' rfl)
  obtain ⟨hl1, h0, h1⟩ := h.resolve_left c
  refine Ev.neg c ?_
  obtain ⟨r2, hr2, h2⟩ := szS_ev L2 r ⟨h0, h1⟩ hL2.1 (fun x hx => (hL2.2 x hx).1)
  refine Ev.bind hr2 ?_
  by_cases c2 : r2 < 0
  · exact Ev.pos c2 (Ev.some' rfl)
  obtain ⟨hl2, _, _⟩ := h2.resolve_left c2
  refine Ev.neg c2 (Ev.bind (toSettledS_ev L1 hl1) (Ev.bind (toSettledS_ev L2 hl2) ?_))
  have hm : (L1.map toSettledV).length ≤ 1048576 := by rw [List.length_map]; exact hl1
  have hb : (L2.map toSettledV).length ≤ 1048576 := by rw [List.length_map]; exact hl2
  generalize L1.map toSettledV = mine at hm ⊢
  generalize L2.map toSettledV = bank at hb ⊢
  refine Ev.bind (specSettle_ev mine bank) (Ev.bind (implSettle_ev mine bank) ?_)
  obtain ⟨n1, n2, n3, n4⟩ := settleJ_len mine bank
  generalize settleJ mine bank = v at n1 n2 n3 n4 ⊢
  have hsl := sumLen_le v.1 2 (fun x hx => Nat.le_of_eq (n4 x hx))
  have eM : Ev (fun k => laws_eqMatch.f k v.1 v.2.1 v.2.2.1 v.2.2.2.1 v.1 v.2.1 v.2.2.1 v.2.2.2.1) true := by
    unfold laws_eqMatch.f
    exact Ev.bind (eqIntSS_ev v.1 (by omega) (fun x hx => by have := n4 x hx; omega)) (Ev.pos rfl (Ev.bind (eqIntS_same v.2.1 (by omega)) (Ev.pos rfl (Ev.bind (eqIntS_same v.2.2.1 (by omega)) (Ev.pos rfl (Ev.pos rfl (Ev.some' rfl)))))))
  obtain ⟨b1, hb1⟩ := markS_ev mine 1 hm (by omega) (by omega)
  obtain ⟨b2, hb2⟩ := markS_ev bank (1 + 2 * (mine.length : Int)) hb (by omega) (by omega)
  have mm : Ev (fun k => laws_FnExactSettle.mm k v.1 v.2.1 v.2.2.1 1) (1 + (sumLen v.1 : Int) + (v.2.1.length : Int) + (v.2.2.1.length : Int), markSS v.1 1, iota (1 + (sumLen v.1 : Int)) v.2.1.length, iota (1 + (sumLen v.1 : Int) + (v.2.1.length : Int)) v.2.2.1.length) := by
    unfold laws_FnExactSettle.mm
    exact Ev.bind (mss_ev v.1 [] 1 (by simp; omega) (by omega) (by omega)) (Ev.bind (markIntS_ev v.2.1 _ (by omega) (by omega) (by omega)) (Ev.bind (markIntS_ev v.2.2.1 _ (by omega) (by omega) (by omega)) (Ev.some' rfl)))
  have hM : Ev (fun k => laws_heldMatch.f k (markSS v.1 1) (iota (1 + (sumLen v.1 : Int)) v.2.1.length) (iota (1 + (sumLen v.1 : Int) + (v.2.1.length : Int)) v.2.2.1.length) v.2.2.2.1 1) (1 + (sumLen v.1 : Int) + (v.2.1.length : Int) + (v.2.2.1.length : Int)) := by
    unfold laws_heldMatch.f
    exact Ev.bind (heldSS_ev v.1 1 (by omega) (by omega) (by omega)) (Ev.neg (by omega) (Ev.bind (heldIntS_ev _ _ (by omega) (by omega)) (Ev.neg (by omega) (Ev.bind (heldIntS_ev _ _ (by omega) (by omega)) (Ev.neg (by omega) (Ev.some' rfl))))))
  refine Ev.bind eM (Ev.bind (eqSettledS_ev mine (by omega)) (Ev.bind (eqSettledS_ev bank (by omega)) (Ev.bind hb1 (Ev.bind hb2 (Ev.bind mm (Ev.bind hM (Ev.some' ?_)))))))
  simp only [Bool.and_eq_true, decide_eq_true_eq, Bool.true_and, decide_true]
  exact ⟨by omega, by omega, trivial⟩

end Go.Proofs.Ytikbfbangjjfkaa.Pure
