/- At every argument the program's BestShelf answers as the reference's: the law's plain statement, with no condition. -/
import Derived.Test.YtecbcibblmknpaaXFnExactBestShelfx15
import Derived.Test.YtecbcibblmknpaaAx
import Derived.Test.YtecbcibblmknpaaIdx
namespace Go.Proofs.Ytecbcibblmknpaa.Pure
open Go.RowKit Go.Proofs.Ytecbcibblmknpaa.XFnExactBestShelf Go.Proofs.YtecbcibblmknpaaW.PrintWords Go.Proofs.YtecbcibblmknpaaW.PrintLast
open Go.Proofs.YtecbcibblmknpaaW.Ax Go.Proofs.YtecbcibblmknpaaW.Idx
set_option linter.unusedVariables false
set_option linter.unusedSimpArgs false
theorem within_ev (a b c : Int) : impl_within.f a b c = some (decide (b ≤ a ∧ a ≤ c)) := by
  unfold impl_within.f
  by_cases h : a ≥ b
  · rw [if_pos h]; congr 1; rw [decide_eq_decide]; omega
  · rw [if_neg h]; congr 1; symm; rw [decide_eq_false_iff_not]; omega
theorem l01In_ev (a b c : Int) : spec_l01In.f a b c = some (decide (b ≤ a ∧ a ≤ c)) := by
  unfold spec_l01In.f
  by_cases h : a ≥ b
  · rw [if_pos h]; congr 1; rw [decide_eq_decide]; omega
  · rw [if_neg h]; congr 1; symm; rw [decide_eq_false_iff_not]; omega
/-! ### names -/
def codeP (m : Int) : Prop := (192 ≤ m ∧ m ≤ 591 ∧ m ≠ 215 ∧ m ≠ 247) ∨ (913 ≤ m ∧ m ≤ 969) ∨ (1040 ≤ m ∧ m ≤ 1103)
instance (m : Int) : Decidable (codeP m) := by unfold codeP; exact inferInstance
def wideP (c n : Int) : Prop := (194 ≤ c ∧ c ≤ 223) ∧ (128 ≤ n ∧ n ≤ 191) ∧ codeP ((c - 192) * 64 + n - 128)
instance (c n : Int) : Decidable (wideP c n) := by unfold wideP; exact inferInstance
def plainP (c : Int) : Prop := (97 ≤ c ∧ c ≤ 122) ∨ (65 ≤ c ∧ c ≤ 90) ∨ c = 95
instance (c : Int) : Decidable (plainP c) := by unfold plainP; exact inferInstance
def digitP (c : Int) : Prop := 48 ≤ c ∧ c ≤ 57
instance (c : Int) : Decidable (digitP c) := by unfold digitP; exact inferInstance
/-- The rest of a name, from place i on. -/
def nameB (s : ByteArray) : Nat → Nat → Bool
  | 0, _ => true
  | d + 1, i => if s.size ≤ i then true else if plainP (bt s i) ∨ (0 < i ∧ digitP (bt s i)) then nameB s d (i + 1) else if i + 1 < s.size ∧ wideP (bt s i) (bt s ((i + 1 : Nat) : Int)) then nameB s d (i + 2) else false
theorem someD {b : Bool} {P : Prop} [Decidable P] (h : b = true ↔ P) : some b = some (decide P) := by
  by_cases c : P
  · rw [decide_eq_true c, h.2 c]
  · rw [decide_eq_false c]
    cases b with
    | false => rfl
    | true => exact absurd (h.1 rfl) c
theorem isLetter_ev (c : Int) : impl_isLetter.f c = some (decide (plainP c)) := by
  unfold impl_isLetter.f
  repeat' split
  all_goals (refine someD ?_; unfold plainP; (try simp only [beq_iff_eq]); first | omega | (simp; omega))
theorem isDigit_ev (c : Int) : impl_isDigit.f c = some (decide (digitP c)) := by
  unfold impl_isDigit.f
  repeat' split
  all_goals (refine someD ?_; unfold digitP; (try simp only [decide_eq_true_eq]); first | omega | (simp; omega))
theorem or6 {x y : Int} (hx₀ : 0 ≤ x) (hx : x % 64 = 0) (hx₁ : x < 1000000) (h₀ : 0 ≤ y) (h₁ : y < 64) : Go.bits .or .i64 x y = x + y :=
  Go.bits_join .i64 31 (by decide) (fun n a b => by rw [Go.IntKind.wrap_i64]; omega) 6 x y hx₀ hx (by omega) h₀ h₁ (by omega)
theorem code_eq (c n : Int) (hc : 194 ≤ c ∧ c ≤ 223) (hn : 128 ≤ n ∧ n ≤ 191) : Go.bits .or .i64 (wrap64 ((wrap64 (Go.bits .and .u8 c 31)) * 64)) (wrap64 (Go.bits .and .u8 n 63)) = (c - 192) * 64 + n - 128 := by
  have e1 : Go.bits .and .u8 c 31 = c % 32 := Go.u8_and31 c (by omega) (by omega)
  have e2 : Go.bits .and .u8 n 63 = n % 64 := Go.u8_and63 n (by omega) (by omega)
  rw [e1, e2, w64 (x := c % 32) (by omega) (by omega), w64 (x := n % 64) (by omega) (by omega), w64 (x := c % 32 * 64) (by omega) (by omega), or6 (by omega) (by omega) (by omega) (by omega) (by omega)]
  omega
theorem code_ev (m : Int) : ((impl_within.f m 192 591).bind fun t137 => (if t137 = true then (if m = 215 then ((impl_within.f m 913 969).bind fun t138 => (if t138 = true then (some true) else ((impl_within.f m 1040 1103).bind fun t139 => (some t139)))) else (if m = 247 then ((impl_within.f m 913 969).bind fun t140 => (if t140 = true then (some true) else ((impl_within.f m 1040 1103).bind fun t141 => (some t141)))) else (some true))) else ((impl_within.f m 913 969).bind fun t142 => (if t142 = true then (some true) else ((impl_within.f m 1040 1103).bind fun t143 => (some t143)))))) = some (decide (codeP m)) := by
  simp only [within_ev, Option.bind_some]
  simp only [decide_eq_true_eq]
  repeat' split
  all_goals (refine someD ?_; unfold codeP; (try simp only [decide_eq_true_eq]); first | omega | (simp; omega))
theorem wide_ev (s : ByteArray) (h : s.size = 2) : Ev (fun k => impl_isWideLetter.f k s) (decide (wideP (bt s 0) (bt s 1))) := by
  unfold impl_isWideLetter.f
  have hj : ∀ b : Bool, b = false ∨ b = true := by intro b; cases b <;> simp
  have hbad : ¬ wideP (bt s 0) (bt s 1) → Ev (fun k => impl_isWideLetter.j0 k s true) (decide (wideP (bt s 0) (bt s 1))) := fun h => Ev.via (Ev.some' (decide_eq_false h).symm) (fun k => rfl)
  refine Ev.pos (by omega) ?_
  by_cases c1 : bt s 0 < 194
  · exact Ev.pos c1 (hbad (fun h => by have := h.1; omega))
  refine Ev.neg c1 ?_
  by_cases c2 : bt s 0 > 223
  · exact Ev.pos c2 (hbad (fun h => by have := h.1; omega))
  refine Ev.neg c2 (Ev.pos (by omega) ?_)
  by_cases c3 : bt s 1 < 128
  · exact Ev.pos c3 (hbad (fun h => by have := h.2.1; omega))
  refine Ev.neg c3 ?_
  by_cases c4 : bt s 1 > 191
  · rw [decide_eq_true c4]
    exact hbad (fun h => by have := h.2.1; omega)
  rw [decide_eq_false c4]
  refine Ev.up1 ?_
  simp only [impl_isWideLetter.j0, if_neg ff]
  rw [code_eq _ _ (by omega) (by omega)]
  refine Ev.pos (by omega) (Ev.pos (by omega) ?_)
  have hw : wideP (bt s 0) (bt s 1) ↔ codeP ((bt s 0 - 192) * 64 + bt s 1 - 128) := ⟨fun h => h.2.2, fun h => ⟨by omega, by omega, h⟩⟩
  rw [decide_eq_decide.2 hw]
  exact Ev.const (code_ev _)
theorem bt_extract (s : ByteArray) (i : Nat) (h : i + 2 ≤ s.size) : (s.extract i (i + 2)).size = 2 ∧ bt (s.extract i (i + 2)) 0 = bt s (i : Int) ∧ bt (s.extract i (i + 2)) 1 = bt s ((i + 1 : Nat) : Int) := by
  have hs : (s.extract i (i + 2)).size = 2 := by rw [ByteArray.size_extract]; omega
  refine ⟨hs, ?_, ?_⟩
  · unfold bt
    rw [dif_pos (by rw [hs]; decide), dif_pos (by rw [Int.toNat_natCast]; omega)]
    rw [ByteArray.getElem_extract]
    congr 2
  · unfold bt
    rw [dif_pos (by rw [hs]; decide), dif_pos (by rw [Int.toNat_natCast]; omega)]
    rw [ByteArray.getElem_extract]
    congr 2
theorem impl_name_l0 (s : ByteArray) (hs : s.size ≤ 40) : ∀ (d i : Nat), s.size ≤ i + d → i ≤ 50 → Ev (fun k => impl_NameOK.l0 k s (i : Int)) (nameB s d i) := by
  intro d
  induction d with
  | zero => intro i h hi; exact Ev.step (fun k => rfl) (Ev.neg (show ¬ (i : Int) < (s.size : Int) by omega) (Ev.some' rfl))
  | succ d ih =>
    intro i h hi
    rw [nameB]
    by_cases c0 : s.size ≤ i
    · rw [if_pos c0]
      exact Ev.step (fun k => rfl) (Ev.neg (show ¬ (i : Int) < (s.size : Int) by omega) (Ev.some' rfl))
    rw [if_neg c0]
    have hgo : Ev (fun k => impl_NameOK.j1 k s (i : Int) true) (nameB s d (i + 1)) := by
      refine Ev.via (f := fun k => impl_NameOK.l0 k s (wrap64 ((i : Int) + 1))) ?_ (fun k => rfl)
      rw [w64n (by omega)]
      exact ih (i + 1) (by omega) (by omega)
    have hwide : Ev (fun k => impl_NameOK.j1 k s (i : Int) false) (if i + 1 < s.size ∧ wideP (bt s (i : Int)) (bt s ((i + 1 : Nat) : Int)) then nameB s d (i + 2) else false) := by
      refine Ev.up1 ?_
      simp only [impl_NameOK.j1, if_neg ff]
      rw [w64n (by omega), show wrap64 ((i : Int) + 2) = ((i + 2 : Nat) : Int) by rw [w64 (by omega) (by omega)]; omega, Int.toNat_natCast, Int.toNat_natCast, w64n (by omega)]
      by_cases c1 : i + 1 < s.size
      · obtain ⟨x1, x2, x3⟩ := bt_extract s i (by omega)
        have wv := wide_ev _ x1
        rw [x2, x3] at wv
        refine Ev.pos (by omega) (Ev.pos (by omega) (Ev.pos (by omega) (Ev.pos (by omega) (Ev.bind wv ?_))))
        by_cases c2 : wideP (bt s (i : Int)) (bt s ((i + 1 : Nat) : Int))
        · rw [if_pos ⟨c1, c2⟩]
          exact Ev.pos (decide_eq_true c2) (ih (i + 2) (by omega) (by omega))
        · rw [if_neg (fun h => c2 h.2)]
          exact Ev.neg (by rw [decide_eq_false c2]; exact ff) (Ev.some' rfl)
      · rw [if_neg (fun h => c1 h.1)]
        exact Ev.neg (by omega) (Ev.some' rfl)
    refine Ev.step (fun k => rfl) (Ev.pos (show (i : Int) < (s.size : Int) by omega) (Ev.pos (by omega) (Ev.ret (isLetter_ev _) ?_)))
    by_cases c1 : plainP (bt s (i : Int))
    · rw [if_pos (.inl c1)]
      exact Ev.pos (decide_eq_true c1) hgo
    refine Ev.neg (by simp [c1]) ?_
    by_cases c2 : (i : Int) > 0
    · refine Ev.pos c2 (Ev.ret (isDigit_ev _) ?_)
      by_cases c3 : digitP (bt s (i : Int))
      · rw [if_pos (.inr ⟨by omega, c3⟩), decide_eq_true c3]
        exact hgo
      · rw [if_neg (fun h => h.elim c1 (fun h => c3 h.2)), decide_eq_false c3]
        exact hwide
    · rw [if_neg (fun h => h.elim c1 (fun h => c2 (by omega)))]
      exact Ev.neg c2 hwide
def nameOKV (s : ByteArray) : Bool := decide (1 ≤ s.size ∧ s.size ≤ 40) && nameB s s.size 0
theorem implName_ev (s : ByteArray) : Ev (fun k => impl_NameOK.f k s) (nameOKV s) := by
  unfold impl_NameOK.f nameOKV
  refine Ev.ret (within_ev _ _ _) ?_
  by_cases c : 1 ≤ s.size ∧ s.size ≤ 40
  · rw [decide_eq_true c, Bool.true_and]
    exact Ev.pos (by simp; omega) (impl_name_l0 s c.2 s.size 0 (by omega) (by omega))
  · rw [decide_eq_false c, Bool.false_and]
    exact Ev.neg (by simp; omega) (Ev.some' rfl)
def letV (s : ByteArray) (i : Nat) : Int := if plainP (bt s (i : Int)) then 1 else if i + 1 < s.size ∧ wideP (bt s (i : Int)) (bt s ((i + 1 : Nat) : Int)) then 2 else 0
theorem specLetter_ev (s : ByteArray) (i : Nat) (hi : i < s.size) (hs : s.size ≤ 40) : Ev (fun k => spec_l00Letter.f k s (i : Int)) (letV s i) := by
  have hr := bt_range s (i : Int)
  have hr2 := bt_range s ((i + 1 : Nat) : Int)
  have hw : wrap64 ((i : Int) + 1) = ((i + 1 : Nat) : Int) := w64n (by omega)
  have hyes : plainP (bt s (i : Int)) → Ev (fun k => spec_l00Letter.j0 k s (i : Int) (bt s (i : Int)) true) (letV s i) := by
    intro h
    unfold letV
    rw [if_pos h]
    exact Ev.via (Ev.some' rfl) (fun k => rfl)
  have hno : ¬ plainP (bt s (i : Int)) → Ev (fun k => spec_l00Letter.j0 k s (i : Int) (bt s (i : Int)) false) (letV s i) := by
    intro h
    unfold letV
    rw [if_neg h]
    have hbad : ¬ (i + 1 < s.size ∧ wideP (bt s (i : Int)) (bt s ((i + 1 : Nat) : Int))) → Ev (fun k => spec_l00Letter.j1 k s (i : Int) (bt s (i : Int)) true) (if i + 1 < s.size ∧ wideP (bt s (i : Int)) (bt s ((i + 1 : Nat) : Int)) then (2 : Int) else 0) := by
      intro h
      rw [if_neg h]
      exact Ev.via (Ev.some' rfl) (fun k => rfl)
    refine Ev.up1 ?_
    simp only [spec_l00Letter.j0, if_neg ff]
    rw [hw]
    by_cases c1 : bt s (i : Int) < 194
    · exact Ev.pos c1 (hbad (fun h => by have := h.2.1; omega))
    refine Ev.neg c1 ?_
    by_cases c2 : bt s (i : Int) > 223
    · exact Ev.pos c2 (hbad (fun h => by have := h.2.1; omega))
    refine Ev.neg c2 ?_
    by_cases c3 : ((i + 1 : Nat) : Int) ≥ (s.size : Int)
    · exact Ev.pos c3 (hbad (fun h => by have := h.1; omega))
    refine Ev.neg c3 (Ev.pos (by omega) (Ev.pos (by omega) ?_))
    by_cases c4 : bt s ((i + 1 : Nat) : Int) < 128
    · exact Ev.pos c4 (hbad (fun h => by have := h.2.2.1; omega))
    refine Ev.neg c4 ?_
    by_cases c5 : bt s ((i + 1 : Nat) : Int) > 191
    · rw [decide_eq_true c5]
      exact hbad (fun h => by have := h.2.2.1; omega)
    rw [decide_eq_false c5]
    refine Ev.up1 ?_
    simp only [spec_l00Letter.j1, if_neg ff]
    rw [hw]
    refine Ev.pos (by omega) (Ev.pos (by omega) ?_)
    rw [w64 (x := bt s (i : Int)) (by omega) (by omega), w64 (x := bt s (i : Int) - 192) (by omega) (by omega), w64 (x := (bt s (i : Int) - 192) * 64) (by omega) (by omega), w64 (x := bt s ((i + 1 : Nat) : Int)) (by omega) (by omega), w64 (x := (bt s (i : Int) - 192) * 64 + bt s ((i + 1 : Nat) : Int)) (by omega) (by omega), w64 (x := (bt s (i : Int) - 192) * 64 + bt s ((i + 1 : Nat) : Int) - 128) (by omega) (by omega)]
    have hv : (if i + 1 < s.size ∧ wideP (bt s (i : Int)) (bt s ((i + 1 : Nat) : Int)) then (2 : Int) else 0) = if codeP ((bt s (i : Int) - 192) * 64 + bt s ((i + 1 : Nat) : Int) - 128) then 2 else 0 := by
      by_cases h : codeP ((bt s (i : Int) - 192) * 64 + bt s ((i + 1 : Nat) : Int) - 128)
      · rw [if_pos h, if_pos ⟨by omega, by omega, by omega, h⟩]
      · rw [if_neg h, if_neg (fun g => h g.2.2.2)]
    rw [hv]
    refine Ev.const ?_
    have hc : ∀ m : Int, (192 ≤ m ∧ m ≤ 591 ∧ m ≠ 215 ∧ m ≠ 247) ∨ (913 ≤ m ∧ m ≤ 969) ∨ (1040 ≤ m ∧ m ≤ 1103) ↔ codeP m := fun m => Iff.rfl
    repeat' split
    all_goals first | rfl | (exfalso; simp only [← hc] at *; omega)
  unfold spec_l00Letter.f
  refine Ev.pos (by omega) (Ev.pos (by omega) ?_)
  have hp : ∀ c : Int, (97 ≤ c ∧ c ≤ 122) ∨ (65 ≤ c ∧ c ≤ 90) ∨ c = 95 ↔ plainP c := fun c => Iff.rfl
  have hlast : ¬ ((97 ≤ bt s (i : Int) ∧ bt s (i : Int) ≤ 122) ∨ (65 ≤ bt s (i : Int) ∧ bt s (i : Int) ≤ 90)) → Ev (fun k => spec_l00Letter.j0 k s (i : Int) (bt s (i : Int)) (bt s (i : Int) == 95)) (letV s i) := by
    intro h
    by_cases c : bt s (i : Int) = 95
    · rw [beq_iff_eq.2 c]
      exact hyes ((hp _).1 (by omega))
    · rw [show (bt s (i : Int) == 95) = false by simpa using c]
      exact hno (fun g => by have := (hp _).2 g; omega)
  by_cases a1 : bt s (i : Int) ≥ 97
  · refine Ev.pos a1 ?_
    by_cases a2 : bt s (i : Int) ≤ 122
    · exact Ev.pos a2 (hyes ((hp _).1 (by omega)))
    · refine Ev.neg a2 (Ev.pos (by omega) (Ev.neg (by omega) (hlast (by omega))))
  · refine Ev.neg a1 ?_
    by_cases a3 : bt s (i : Int) ≥ 65
    · refine Ev.pos a3 ?_
      by_cases a4 : bt s (i : Int) ≤ 90
      · exact Ev.pos a4 (hyes ((hp _).1 (by omega)))
      · exact Ev.neg a4 (hlast (by omega))
    · exact Ev.neg a3 (hlast (by omega))
theorem spec_word (s : ByteArray) (hs : s.size ≤ 40) : ∀ (d i : Nat), s.size ≤ i + d → i ≤ s.size → ∃ r : Int, Ev (fun k => spec_l00Word.l0 k s 0 (i : Int)) r ∧ (r == (s.size : Int)) = nameB s d i := by
  intro d
  induction d with
  | zero =>
    intro i h hi
    refine ⟨wrap64 ((i : Int) - 0), Ev.step (fun k => rfl) (Ev.neg (show ¬ (i : Int) < (s.size : Int) by omega) (Ev.some' rfl)), ?_⟩
    rw [w64 (by omega) (by omega), nameB]
    simp; omega
  | succ d ih =>
    intro i h hi
    rw [nameB]
    by_cases c0 : s.size ≤ i
    · rw [if_pos c0]
      refine ⟨wrap64 ((i : Int) - 0), Ev.step (fun k => rfl) (Ev.neg (show ¬ (i : Int) < (s.size : Int) by omega) (Ev.some' rfl)), ?_⟩
      rw [w64 (by omega) (by omega)]
      simp; omega
    rw [if_neg c0]
    have hl := specLetter_ev s i (by omega) hs
    unfold letV at hl
    by_cases c1 : plainP (bt s (i : Int))
    · rw [if_pos c1] at hl
      rw [if_pos (.inl c1)]
      obtain ⟨r, h1, h2⟩ := ih (i + 1) (by omega) (by omega)
      refine ⟨r, Ev.step (fun k => rfl) (Ev.pos (show (i : Int) < (s.size : Int) by omega) (Ev.bind hl (Ev.neg (by decide) ?_))), h2⟩
      refine Ev.via (f := fun k => spec_l00Word.l0 k s 0 (wrap64 ((i : Int) + 1))) ?_ (fun k => rfl)
      rw [w64n (by omega)]
      exact h1
    rw [if_neg c1] at hl
    by_cases c2 : i + 1 < s.size ∧ wideP (bt s (i : Int)) (bt s ((i + 1 : Nat) : Int))
    · rw [if_pos c2] at hl
      rw [if_neg (fun h => h.elim c1 (fun h => by have a := h.2; have b := c2.2.1; unfold digitP at a; omega)), if_pos c2]
      obtain ⟨r, h1, h2⟩ := ih (i + 2) (by omega) (by omega)
      refine ⟨r, Ev.step (fun k => rfl) (Ev.pos (show (i : Int) < (s.size : Int) by omega) (Ev.bind hl (Ev.neg (by decide) ?_))), h2⟩
      refine Ev.via (f := fun k => spec_l00Word.l0 k s 0 (wrap64 ((i : Int) + 2))) ?_ (fun k => rfl)
      rw [show wrap64 ((i : Int) + 2) = ((i + 2 : Nat) : Int) by rw [w64 (by omega) (by omega)]; omega]
      exact h1
    rw [if_neg c2] at hl
    have hstop : ∀ x : Bool, x = (((i : Int) == (s.size : Int))) → Ev (fun k => spec_l00Word.j1 k s 0 (i : Int) 0 false) (i : Int) ∧ x = false := by
      intro x hx
      refine ⟨Ev.via (f := fun _ => some (wrap64 ((i : Int) - 0))) (Ev.some' (by rw [w64 (by omega) (by omega)]; omega)) (fun k => rfl), ?_⟩
      rw [hx]
      simp; omega
    obtain ⟨hs1, hs2⟩ := hstop _ rfl
    by_cases c3 : (i : Int) > 0
    · by_cases c4 : digitP (bt s (i : Int))
      · rw [if_pos (.inr ⟨by omega, c4⟩)]
        obtain ⟨r, h1, h2⟩ := ih (i + 1) (by omega) (by omega)
        have a4 : 48 ≤ bt s (i : Int) ∧ bt s (i : Int) ≤ 57 := c4
        refine ⟨r, Ev.step (fun k => rfl) (Ev.pos (show (i : Int) < (s.size : Int) by omega) (Ev.bind hl (Ev.pos rfl (Ev.pos c3 (Ev.pos (by omega) (Ev.pos a4.1 ?_)))))), h2⟩
        rw [decide_eq_true a4.2]
        refine Ev.via (f := fun k => spec_l00Word.l0 k s 0 (wrap64 ((i : Int) + 1))) ?_ (fun k => rfl)
        rw [w64n (by omega)]
        exact h1
      · rw [if_neg (fun h => h.elim c1 (fun h => c4 h.2)), if_neg c2]
        refine ⟨(i : Int), Ev.step (fun k => rfl) (Ev.pos (show (i : Int) < (s.size : Int) by omega) (Ev.bind hl (Ev.pos rfl (Ev.pos c3 (Ev.pos (by omega) ?_))))), hs2⟩
        by_cases c5 : bt s (i : Int) ≥ 48
        · refine Ev.pos c5 ?_
          rw [decide_eq_false (fun h => c4 ⟨c5, h⟩)]
          exact hs1
        · exact Ev.neg c5 hs1
    · rw [if_neg (fun h => h.elim c1 (fun h => c3 (by omega))), if_neg c2]
      exact ⟨(i : Int), Ev.step (fun k => rfl) (Ev.pos (show (i : Int) < (s.size : Int) by omega) (Ev.bind hl (Ev.pos rfl (Ev.neg c3 hs1)))), hs2⟩
theorem specName_ev (s : ByteArray) : Ev (fun k => spec_NameOK.f k s) (nameOKV s) := by
  unfold spec_NameOK.f nameOKV
  by_cases c1 : (s.size : Int) > 0
  · refine Ev.pos c1 ?_
    by_cases c2 : (s.size : Int) ≤ 40
    · refine Ev.pos c2 ?_
      obtain ⟨r, h1, h2⟩ := spec_word s (by omega) s.size 0 (by omega) (by omega)
      rw [decide_eq_true (show 1 ≤ s.size ∧ s.size ≤ 40 by omega), Bool.true_and]
      exact Ev.bind h1 (Ev.some' h2)
    · rw [decide_eq_false (fun h => c2 (by omega)), Bool.false_and]
      exact Ev.neg c2 (Ev.some' rfl)
  · rw [decide_eq_false (fun h => c1 (by omega)), Bool.false_and]
    exact Ev.neg c1 (Ev.some' rfl)
theorem rdF_mid (p : List S50) (x : S50) (r : List S50) : rd_T50 (p ++ x :: r) (p.length : Int) = x := getD_mid p x r z50
def gainsB (l : List Int) : Bool := l.all fun n => decide (0 ≤ n ∧ n ≤ 100000)
def okF (f : S50) : Bool := nameOKV f.f0 && decide (1 ≤ f.f1 ∧ f.f1 ≤ 2000) && decide (1 ≤ f.f3.length ∧ f.f3.length ≤ 6) && decide (0 ≤ f.f2 ∧ f.f2 ≤ (f.f3.length : Int)) && gainsB f.f3
/-- No name is among those before it. -/
def distB : List ByteArray → List ByteArray → Bool
  | _, [] => true
  | p, x :: a => (p.all fun y => decide (y.toList ≠ x.toList)) && distB (p ++ [x]) a
def facB : List S50 → List S50 → Bool
  | _, [] => true
  | p, x :: a => okF x && (p.all fun y => decide (y.f0.toList ≠ x.f0.toList)) && facB (p ++ [x]) a
theorem facB_eq : ∀ (a p : List S50), facB p a = (a.all okF && distB (p.map (·.f0)) (a.map (·.f0))) := by
  intro a
  induction a with
  | nil => intro p; rfl
  | cons x a ih =>
    intro p
    rw [facB, ih, List.all_cons, List.map_cons, distB, List.map_append, List.map_cons, List.map_nil, List.all_map]
    simp only [Function.comp_def]
    cases okF x <;> cases (p.all fun y => decide (y.f0.toList ≠ x.f0.toList)) <;> simp
theorem gains_idx : ∀ (a p : List Int), (p ++ a).length < 1000000 → ∃ r : Int, Ev (fun k => slices_IndexFunc_int_int.l0 k (p ++ a) ((p ++ a).length : Int) (p.length : Int)) r ∧ decide (r ≥ 0) = !gainsB a := by
  intro a
  induction a with
  | nil => intro p hl; exact ⟨-1, Ev.step (fun k => rfl) (Ev.neg (len_end p) (Ev.some' rfl)), rfl⟩
  | cons x a ih =>
    intro p hl
    have hl' := hl
    rw [List.length_append, List.length_cons] at hl'
    have hlit : impl_isFacing_1.f x = some (!decide (0 ≤ x ∧ x ≤ 100000)) := by
      unfold impl_isFacing_1.f
      rw [within_ev]; rfl
    by_cases c : 0 ≤ x ∧ x ≤ 100000
    · obtain ⟨r, h1, h2⟩ := ih (p ++ [x]) (by rw [← snoc]; exact hl)
      refine ⟨r, Ev.step (fun k => rfl) (Ev.pos (len_lt p x a) (Ev.pos (by omega) (Ev.pos (len_lt p x a) ?_))), ?_⟩
      · rw [rd_mid]
        refine Ev.ret hlit (Ev.neg (by rw [decide_eq_true c]; exact ff) ?_)
        rw [w64 (by omega) (by omega), ← len_snoc p x, snoc p x a]
        exact h1
      · rw [h2]
        unfold gainsB
        rw [List.all_cons, decide_eq_true c, Bool.true_and]
    · refine ⟨(p.length : Int), Ev.step (fun k => rfl) (Ev.pos (len_lt p x a) (Ev.pos (by omega) (Ev.pos (len_lt p x a) ?_))), ?_⟩
      · rw [rd_mid]
        exact Ev.ret hlit (Ev.pos (by rw [decide_eq_false c]; rfl) (Ev.some' rfl))
      · unfold gainsB
        rw [List.all_cons, decide_eq_false c, Bool.false_and]
        simp
theorem implFacing_ev (f : S50) : Ev (fun k => impl_isFacing.f k f.f0 f.f1 f.f2 f.f3) (okF f) := by
  unfold impl_isFacing.f okF
  refine Ev.bind (implName_ev f.f0) ?_
  cases nameOKV f.f0 with
  | false => exact Ev.neg ff (Ev.some' rfl)
  | true =>
    refine Ev.pos rfl (Ev.ret (within_ev _ _ _) ?_)
    by_cases c1 : 1 ≤ f.f1 ∧ f.f1 ≤ 2000
    · rw [decide_eq_true c1]
      refine Ev.pos rfl (Ev.ret (within_ev _ _ _) ?_)
      by_cases c2 : 1 ≤ f.f3.length ∧ f.f3.length ≤ 6
      · rw [decide_eq_true c2]
        refine Ev.pos (by simp; omega) (Ev.ret (within_ev _ _ _) ?_)
        by_cases c3 : 0 ≤ f.f2 ∧ f.f2 ≤ (f.f3.length : Int)
        · rw [decide_eq_true c3]
          refine Ev.pos rfl ?_
          obtain ⟨r, h1, h2⟩ := gains_idx f.f3 [] (by simp; omega)
          refine Ev.bind (Ev.bind h1 (Ev.some' rfl) : Ev (fun k => slices_ContainsFunc_int_int.f k f.f3) (decide (r ≥ 0))) (Ev.some' ?_)
          rw [h2]; simp
        · rw [decide_eq_false c3]
          exact Ev.neg ff (Ev.some' rfl)
      · rw [decide_eq_false c2]
        exact Ev.neg (by simp; omega) (Ev.some' rfl)
    · rw [decide_eq_false c1]
      exact Ev.neg ff (Ev.some' rfl)
theorem rdB_mid (p : List ByteArray) (x : ByteArray) (r : List ByteArray) : rdOf ByteArray.empty (p ++ x :: r) (p.length : Int) = x := getD_mid p x r ByteArray.empty
theorem has_name (x : ByteArray) : ∀ (a p : List ByteArray), (p ++ a).length < 1000000 → ∃ r : Int, Ev (fun k => slices_Index_string_string.l0 k (p ++ a) x ((p ++ a).length : Int) (p.length : Int)) r ∧ decide (r ≥ 0) = !(a.all fun y => decide (y.toList ≠ x.toList)) := by
  intro a
  induction a with
  | nil => intro p hl; exact ⟨-1, Ev.step (fun k => rfl) (Ev.neg (len_end p) (Ev.some' rfl)), rfl⟩
  | cons y a ih =>
    intro p hl
    have hl' := hl
    rw [List.length_append, List.length_cons] at hl'
    by_cases c : x.toList = y.toList
    · refine ⟨(p.length : Int), Ev.step (fun k => rfl) (Ev.pos (len_lt p y a) (Ev.pos (by omega) (Ev.pos (len_lt p y a) ?_))), ?_⟩
      · rw [rdB_mid]
        exact Ev.pos c (Ev.some' rfl)
      · simp [c]
    · obtain ⟨r, h1, h2⟩ := ih (p ++ [y]) (by rw [← snoc]; exact hl)
      refine ⟨r, Ev.step (fun k => rfl) (Ev.pos (len_lt p y a) (Ev.pos (by omega) (Ev.pos (len_lt p y a) ?_))), ?_⟩
      · rw [rdB_mid]
        refine Ev.neg c ?_
        rw [w64 (by omega) (by omega), ← len_snoc p y, snoc p y a]
        exact h1
      · have hn : y.toList ≠ x.toList := fun h => c h.symm
        rw [h2, List.all_cons, decide_eq_true hn, Bool.true_and]
theorem twice_l0 : ∀ (a p : List ByteArray), (p ++ a).length < 1000000 → Ev (fun k => impl_hasTwice_string.l0 k (p ++ a) (p ++ a) ((p ++ a).length : Int) (p.length : Int)) (!distB p a) := by
  intro a
  induction a with
  | nil => intro p hl; exact Ev.step (fun k => rfl) (Ev.neg (len_end p) (Ev.some' rfl))
  | cons x a ih =>
    intro p hl
    have hl' := hl
    rw [List.length_append, List.length_cons] at hl'
    obtain ⟨r, h1, h2⟩ := has_name x p [] (by simp; omega)
    have hc : Ev (fun k => slices_Contains_string_string.f k p x) (decide (r ≥ 0)) := Ev.bind h1 (Ev.some' rfl)
    rw [h2] at hc
    refine Ev.step (fun k => rfl) (Ev.pos (len_lt p x a) (Ev.pos (by omega) (Ev.pos (len_lt p x a) (Ev.pos (by have := len_lt p x a; omega) ?_))))
    rw [rdB_mid, Int.toNat_natCast, List.take_left]
    refine Ev.bind hc ?_
    rw [distB]
    cases (p.all fun y => decide (y.toList ≠ x.toList)) with
    | false => exact Ev.pos rfl (Ev.some' rfl)
    | true =>
      refine Ev.neg ff ?_
      rw [w64 (by omega) (by omega), ← len_snoc p x, snoc p x a, Bool.true_and]
      exact ih (p ++ [x]) (by rw [← snoc]; exact hl)
theorem implFac_l0 (L : List S50) : ∀ (a p : List S50), (p ++ a).length < 1000 → L = p ++ a →
    Ev (fun k => impl_FacingsOK.l0 k (p.map (·.f0)) (p ++ a) ((p ++ a).length : Int) (p.length : Int)) (a.all okF && distB [] (L.map (·.f0))) := by
  intro a
  induction a with
  | nil =>
    intro p hl hL
    rw [List.append_nil] at hL
    subst hL
    have htw : Ev (fun k => impl_hasTwice_string.f k (L.map (·.f0))) (!distB [] (L.map (·.f0))) := by
      have h := twice_l0 (L.map fun x : S50 => x.f0) [] (by simp at hl; simp; omega)
      exact h
    refine Ev.step (fun k => rfl) (Ev.neg (len_end L) (Ev.bind htw (Ev.some' ?_)))
    simp
  | cons x a ih =>
    intro p hl hL
    have hl' := hl
    rw [List.length_append, List.length_cons] at hl'
    refine Ev.step (fun k => rfl) (Ev.pos (len_lt p x a) (Ev.pos (by omega) (Ev.pos (len_lt p x a) ?_)))
    rw [rdF_mid]
    refine Ev.bind (implFacing_ev x) ?_
    rw [List.all_cons]
    cases okF x with
    | false => exact Ev.neg ff (Ev.some' rfl)
    | true =>
      refine Ev.pos rfl (Ev.pos (by simp; omega) ?_)
      rw [w64 (by omega) (by omega), ← len_snoc p x, snoc p x a, Bool.true_and, show p.map (·.f0) ++ [x.f0] = (p ++ [x]).map (·.f0) by simp]
      exact ih (p ++ [x]) (by rw [← snoc]; exact hl) (by rw [hL, snoc])
def facingsV (l : List S50) : Bool := decide (l.length ≤ 12) && facB [] l
theorem implFacings_ev (l : List S50) : Ev (fun k => impl_FacingsOK.f k l) (facingsV l) := by
  unfold impl_FacingsOK.f facingsV
  by_cases c : (l.length : Int) > 12
  · rw [decide_eq_false (by omega), Bool.false_and]
    exact Ev.pos c (Ev.some' rfl)
  · rw [decide_eq_true (by omega), Bool.true_and, facB_eq]
    exact Ev.neg c (implFac_l0 l l [] (by simp; omega) rfl)
theorem spec_gains (L : List S50) (x : Int) (n : ByteArray) (u w : Int) (v : Bool) : ∀ (b q : List Int), (q ++ b).length < 1000000 →
    (gainsB b = true → Ev (fun k => spec_FacingsOK.l2 k L x 0 n u w (q ++ b)) v) → (gainsB b = false → v = false) → Ev (fun k => spec_FacingsOK.l1 k L x (q.length : Int) n u w (q ++ b)) v := by
  intro b
  induction b with
  | nil => intro q hl h _; exact Ev.step (fun k => rfl) (Ev.neg (len_end q) (h rfl))
  | cons y b ih =>
    intro q hl h hbad
    have hl' := hl
    rw [List.length_append, List.length_cons] at hl'
    refine Ev.step (fun k => rfl) (Ev.pos (len_lt q y b) (Ev.pos (by omega) (Ev.ret (l01In_ev _ _ _) ?_)))
    rw [rd_mid]
    by_cases c : 0 ≤ y ∧ y ≤ 100000
    · refine Ev.pos (decide_eq_true c) ?_
      have e : gainsB (y :: b) = gainsB b := by
        unfold gainsB
        rw [List.all_cons, decide_eq_true c, Bool.true_and]
      rw [e] at h hbad
      rw [w64 (by omega) (by omega), ← len_snoc q y, snoc q y b]
      exact ih (q ++ [y]) (by rw [← snoc]; exact hl) (fun g => by rw [← snoc]; exact h g) hbad
    · rw [hbad (by unfold gainsB; rw [List.all_cons, decide_eq_false c, Bool.false_and])]
      exact Ev.neg (by rw [decide_eq_false c]; exact ff) (Ev.some' rfl)
theorem spec_dist (n : ByteArray) (u w : Int) (g : List Int) (v : Bool) (P r : List S50) (hP : P.length < 1000) (hr : 0 < r.length) : ∀ (b q : List S50), P = q ++ b →
    ((b.all fun y => decide (y.f0.toList ≠ n.toList)) = true → Ev (fun k => spec_FacingsOK.l0 k (P ++ r) (wrap64 ((P.length : Int) + 1))) v) → ((b.all fun y => decide (y.f0.toList ≠ n.toList)) = false → v = false) →
    Ev (fun k => spec_FacingsOK.l2 k (P ++ r) (P.length : Int) (q.length : Int) n u w g) v := by
  intro b
  induction b with
  | nil =>
    intro q hq h _
    rw [List.append_nil] at hq
    subst hq
    exact Ev.step (fun k => rfl) (Ev.neg (show ¬ (P.length : Int) < (P.length : Int) by omega) (h rfl))
  | cons y b ih =>
    intro q hq h hbad
    have hlt : (q.length : Int) < (P.length : Int) := by rw [hq]; exact len_lt q y b
    have hrd : rd_T50 (P ++ r) (q.length : Int) = y := by rw [hq, List.append_assoc]; exact rdF_mid q y (b ++ r)
    refine Ev.step (fun k => rfl) (Ev.pos hlt (Ev.pos (by omega) (Ev.pos (by rw [List.length_append]; omega) ?_)))
    rw [hrd]
    by_cases c : y.f0.toList = n.toList
    · rw [hbad (by rw [List.all_cons, decide_eq_false (fun h => h c), Bool.false_and])]
      exact Ev.pos c (Ev.some' rfl)
    · have hn : y.f0.toList ≠ n.toList := c
      rw [List.all_cons, decide_eq_true hn, Bool.true_and] at h hbad
      refine Ev.neg c ?_
      rw [w64 (by omega) (by omega), ← len_snoc q y]
      exact ih (q ++ [y]) (by rw [hq, snoc]) h hbad
theorem spec_l0 : ∀ (a p : List S50), (p ++ a).length < 1000 → Ev (fun k => spec_FacingsOK.l0 k (p ++ a) (p.length : Int)) (facB p a) := by
  intro a
  induction a with
  | nil => intro p hl; exact Ev.step (fun k => rfl) (Ev.neg (len_end p) (Ev.some' rfl))
  | cons x a ih =>
    intro p hl
    have hl' := hl
    rw [List.length_append, List.length_cons] at hl'
    have hbad : okF x = false → Ev (fun k => spec_FacingsOK.j1 k (p ++ x :: a) (p.length : Int) true x.f0 x.f1 x.f2 x.f3) (facB p (x :: a)) := by
      intro h
      rw [facB, h, Bool.false_and, Bool.false_and]
      exact Ev.via (Ev.some' rfl) (fun k => rfl)
    refine Ev.step (fun k => rfl) (Ev.pos (len_lt p x a) (Ev.pos (by omega) ?_))
    rw [rdF_mid]
    refine Ev.bind (specName_ev x.f0) ?_
    by_cases c0 : nameOKV x.f0 = true
    · refine Ev.pos c0 (Ev.ret (l01In_ev _ _ _) ?_)
      by_cases c1 : 1 ≤ x.f1 ∧ x.f1 ≤ 2000
      · refine Ev.pos (decide_eq_true c1) ?_
        by_cases c2 : (x.f3.length : Int) < 1
        · exact Ev.pos c2 (hbad (by unfold okF; rw [decide_eq_false (show ¬ (1 ≤ x.f3.length ∧ x.f3.length ≤ 6) by omega)]; simp))
        refine Ev.neg c2 ?_
        by_cases c3 : (x.f3.length : Int) > 6
        · exact Ev.pos c3 (hbad (by unfold okF; rw [decide_eq_false (show ¬ (1 ≤ x.f3.length ∧ x.f3.length ≤ 6) by omega)]; simp))
        refine Ev.neg c3 (Ev.ret (l01In_ev _ _ _) ?_)
        by_cases c4 : 0 ≤ x.f2 ∧ x.f2 ≤ (x.f3.length : Int)
        · rw [show (!decide (0 ≤ x.f2 ∧ x.f2 ≤ (x.f3.length : Int))) = false by rw [decide_eq_true c4]; rfl]
          have e : okF x = gainsB x.f3 := by
            unfold okF
            rw [c0, decide_eq_true c1, decide_eq_true (show 1 ≤ x.f3.length ∧ x.f3.length ≤ 6 by omega), decide_eq_true c4]
            simp
          refine Ev.via (f := fun k => spec_FacingsOK.l1 k (p ++ x :: a) (p.length : Int) 0 x.f0 x.f1 x.f2 x.f3) ?_ (fun k => rfl)
          refine spec_gains _ _ x.f0 x.f1 x.f2 _ x.f3 [] (by simp; omega) (fun hg => ?_) (fun hg => by rw [facB, e, hg, Bool.false_and, Bool.false_and])
          rw [facB, e, hg, Bool.true_and]
          refine spec_dist x.f0 x.f1 x.f2 _ _ p (x :: a) (by omega) (by simp) p [] rfl (fun hd => ?_) (fun hd => by rw [hd, Bool.false_and])
          rw [hd, Bool.true_and, w64 (by omega) (by omega), ← len_snoc p x, snoc p x a]
          exact ih (p ++ [x]) (by rw [← snoc]; exact hl)
        · rw [show (!decide (0 ≤ x.f2 ∧ x.f2 ≤ (x.f3.length : Int))) = true by rw [decide_eq_false c4]; rfl]
          exact hbad (by unfold okF; rw [decide_eq_false c4]; simp)
      · exact Ev.neg (by rw [decide_eq_false c1]; exact ff) (hbad (by unfold okF; rw [decide_eq_false c1]; simp))
    · exact Ev.neg c0 (hbad (by unfold okF; rw [show nameOKV x.f0 = false by simpa using c0]; simp))
theorem specFacings_ev (l : List S50) : Ev (fun k => spec_FacingsOK.f k l) (facingsV l) := by
  unfold spec_FacingsOK.f facingsV
  by_cases c : (l.length : Int) > 12
  · rw [decide_eq_false (by omega), Bool.false_and]
    exact Ev.pos c (Ev.some' rfl)
  · rw [decide_eq_true (by omega), Bool.true_and]
    exact Ev.neg c (spec_l0 l [] (by simp; omega))
theorem rdf_nat (l : List S50) (i : Nat) : rd_T50 l (i : Int) = l.getD i z50 := by
  unfold rd_T50
  rw [Int.toNat_natCast]
theorem rdL_mid (p : List (List Int)) (x : List Int) (r : List (List Int)) : rd_L2 (p ++ x :: r) (p.length : Int) = x := getD_mid p x r []
theorem rdL_mid1 (p : List (List Int)) (x y : List Int) (r : List (List Int)) : rd_L2 (p ++ x :: y :: r) ((p.length : Int) + 1) = y := by
  rw [show p ++ x :: y :: r = (p ++ [x]) ++ y :: r by simp, show (p.length : Int) + 1 = ((p ++ [x]).length : Int) by simp]
  exact rdL_mid _ _ _
/-! ### sums of gains -/
def sumG : List Int → Int
  | [] => 0
  | x :: l => x + sumG l
/-- What n pieces gain. -/
def gainV (g : List Int) (n : Nat) : Int := sumG (g.take n)
def gOK (g : List Int) : Prop := g.length ≤ 6 ∧ ∀ x ∈ g, 0 ≤ x ∧ x ≤ 100000
theorem sumG_bd : ∀ l : List Int, (∀ x ∈ l, 0 ≤ x ∧ x ≤ 100000) → 0 ≤ sumG l ∧ sumG l ≤ 100000 * l.length := by
  intro l
  induction l with
  | nil => intro _; simp [sumG]
  | cons x l ih =>
    intro h
    have h1 := ih (fun y hy => h y (List.mem_cons_of_mem x hy))
    have h2 := h x (by simp)
    rw [sumG, List.length_cons]
    omega
theorem gainV_bd {g : List Int} (h : gOK g) (n : Nat) : 0 ≤ gainV g n ∧ gainV g n ≤ 600000 := by
  have h1 := sumG_bd (g.take n) (fun x hx => h.2 x (List.mem_of_mem_take hx))
  have h2 : (g.take n).length ≤ 6 := by rw [List.length_take]; have := h.1; omega
  unfold gainV
  omega
theorem sumOf_l0 : ∀ (a p : List Int) (s : Int), (p ++ a).length ≤ 100 → (∀ x ∈ a, 0 ≤ x ∧ x ≤ 100000) → 0 ≤ s → s ≤ 100000 * p.length →
    Ev (fun k => impl_sumOf.l0 k s (p ++ a) ((p ++ a).length : Int) (p.length : Int)) (s + sumG a) := by
  intro a
  induction a with
  | nil => intro p s _ _ _ _; exact Ev.step (fun k => rfl) (Ev.neg (len_end p) (Ev.some' (by simp [sumG])))
  | cons x a ih =>
    intro p s hl hb h0 h1
    have hl' := hl
    rw [List.length_append, List.length_cons] at hl'
    have hx := hb x (by simp)
    refine Ev.step (fun k => rfl) (Ev.pos (len_lt p x a) (Ev.pos (by omega) (Ev.pos (len_lt p x a) ?_)))
    rw [rd_mid, w64 (x := s + x) (by omega) (by omega), w64 (by omega) (by omega), ← len_snoc p x, snoc p x a]
    refine Ev.eq (ih (p ++ [x]) (s + x) (by rw [← snoc]; exact hl) (fun y hy => hb y (List.mem_cons_of_mem x hy)) (by omega) (by simp; omega)) ?_
    rw [sumG]
    omega
theorem sumOf_ev (l : List Int) (h : l.length ≤ 100) (hb : ∀ x ∈ l, 0 ≤ x ∧ x ≤ 100000) : Ev (fun k => impl_sumOf.f k l) (sumG l) := by
  refine Ev.eq (sumOf_l0 l [] 0 (by simpa using h) hb (by omega) (by simp)) ?_
  omega
theorem sumTake_ev {g : List Int} (h : gOK g) (n : Nat) : Ev (fun k => impl_sumOf.f k (g.take n)) (gainV g n) := by
  have h2 : (g.take n).length ≤ 6 := by rw [List.length_take]; have := h.1; omega
  exact sumOf_ev _ (by omega) (fun x hx => h.2 x (List.mem_of_mem_take hx))
theorem gainV_succ (g : List Int) (n : Nat) (h : n < g.length) : gainV g (n + 1) = gainV g n + g.getD n 0 := by
  unfold gainV
  induction g generalizing n with
  | nil => simp at h
  | cons x g ih =>
    cases n with
    | zero => simp [sumG]
    | succ n =>
      rw [List.take_succ_cons, sumG, ih n (by simpa using h), List.take_succ_cons, sumG, List.getD_cons_succ]
      omega
theorem getD_bd {g : List Int} (h : gOK g) (n : Nat) : 0 ≤ g.getD n 0 ∧ g.getD n 0 ≤ 100000 := by
  rw [List.getD_eq_getElem?_getD]
  cases e : g[n]? with
  | none => simp
  | some x => simpa using h.2 x (List.mem_of_getElem? e)
theorem specGain_ev {g : List Int} (h : gOK g) (nm : ByteArray) (a b : Int) (n : Nat) (hn : n ≤ g.length) : Ev (fun k => spec_l13Gain.f k nm a b g (n : Int)) (gainV g n) := by
  have h6 := h.1
  have key : ∀ d i, i + d = n → Ev (fun k => spec_l13Gain.l0 k (n : Int) (gainV g i) (i : Int) nm a b g) (gainV g n) := by
    intro d
    induction d with
    | zero =>
      intro i hi
      obtain rfl : i = n := by omega
      exact Ev.step (fun k => rfl) (Ev.neg (by omega) (Ev.some' rfl))
    | succ d ih =>
      intro i hi
      have h1 := gainV_bd h i
      have h2 := getD_bd h i
      refine Ev.step (fun k => rfl) (Ev.pos (by omega) (Ev.pos (by omega) (Ev.pos (by omega) ?_)))
      rw [rd_nat, w64 (by omega) (by omega), w64n (by omega), ← gainV_succ g i (by omega)]
      exact ih (i + 1) (by omega)
  exact key n 0 (by omega)
/-! ### the most that a width gains -/
/-- A facing that is right. -/
def fOK (f : S50) : Prop := (1 ≤ f.f1 ∧ f.f1 ≤ 2000) ∧ 0 ≤ f.f2 ∧ f.f2 ≤ (f.f3.length : Int) ∧ gOK f.f3
theorem fOK_of {f : S50} (h : okF f = true) : fOK f := by
  unfold okF at h
  simp only [Bool.and_eq_true, decide_eq_true_eq] at h
  refine ⟨h.1.1.1.2, h.1.2.1, h.1.2.2, h.1.1.2.2, fun x hx => ?_⟩
  have := List.all_eq_true.1 h.2 x hx
  simpa using this
theorem facB_ok (a p : List S50) (h : facB p a = true) : ∀ f ∈ a, fOK f := by
  rw [facB_eq, Bool.and_eq_true] at h
  exact fun f hf => fOK_of (List.all_eq_true.1 h.1 f hf)
/-- The best of n, n + 1, .. pieces (d numbers), or what there was. -/
def upV (nx : Nat → Int) (f : S50) (w : Nat) : Nat → Nat → Int → Int
  | 0, _, cur => cur
  | d + 1, n, cur => if n * f.f1.toNat ≤ w then upV nx f w d (n + 1) (if 0 ≤ nx (w - n * f.f1.toNat) then mx cur (nx (w - n * f.f1.toNat) + gainV f.f3 n) else cur) else cur
def valV : List S50 → Nat → Int
  | [], _ => 0
  | f :: fs, w => upV (valV fs) f w (f.f3.length + 1 - f.f2.toNat) f.f2.toNat (-1)
theorem mx_ge (a b : Int) : a ≤ mx a b ∧ b ≤ mx a b ∧ (mx a b = a ∨ mx a b = b) := by
  unfold mx
  split <;> omega
theorem upV_cur (nx : Nat → Int) (f : S50) (w : Nat) : ∀ d n cur, cur ≤ upV nx f w d n cur := by
  intro d
  induction d with
  | zero => intro n cur; exact Int.le_refl _
  | succ d ih =>
    intro n cur
    rw [upV]
    split
    · refine Int.le_trans ?_ (ih _ _)
      split
      · exact (mx_ge _ _).1
      · exact Int.le_refl _
    · exact Int.le_refl _
theorem upV_ge (nx : Nat → Int) (f : S50) (w : Nat) : ∀ d n cur m, n ≤ m → m < n + d → m * f.f1.toNat ≤ w → 0 ≤ nx (w - m * f.f1.toNat) → nx (w - m * f.f1.toNat) + gainV f.f3 m ≤ upV nx f w d n cur := by
  intro d
  induction d with
  | zero => intro n cur m h1 h2; omega
  | succ d ih =>
    intro n cur m h1 h2 h3 h4
    rw [upV]
    have hnm : n * f.f1.toNat ≤ m * f.f1.toNat := Nat.mul_le_mul_right _ h1
    rw [if_pos (by omega)]
    by_cases e : n = m
    · subst e
      rw [if_pos h4]
      exact Int.le_trans (mx_ge _ _).2.1 (upV_cur _ _ _ _ _ _)
    · exact ih _ _ m (by omega) (by omega) h3 h4
theorem upV_hit (nx : Nat → Int) (f : S50) (w : Nat) : ∀ d n cur, upV nx f w d n cur = cur ∨ ∃ m, n ≤ m ∧ m < n + d ∧ m * f.f1.toNat ≤ w ∧ 0 ≤ nx (w - m * f.f1.toNat) ∧ upV nx f w d n cur = nx (w - m * f.f1.toNat) + gainV f.f3 m := by
  intro d
  induction d with
  | zero => intro n cur; exact .inl rfl
  | succ d ih =>
    intro n cur
    rw [upV]
    by_cases c : n * f.f1.toNat ≤ w
    · rw [if_pos c]
      by_cases c2 : 0 ≤ nx (w - n * f.f1.toNat)
      · rw [if_pos c2]
        rcases ih (n + 1) (mx cur (nx (w - n * f.f1.toNat) + gainV f.f3 n)) with h | ⟨m, h1, h2, h3⟩
        · rcases (mx_ge cur (nx (w - n * f.f1.toNat) + gainV f.f3 n)).2.2 with e | e
          · exact .inl (h.trans e)
          · exact .inr ⟨n, Nat.le_refl _, by omega, c, c2, h.trans e⟩
        · exact .inr ⟨m, by omega, by omega, h3⟩
      · rw [if_neg c2]
        rcases ih (n + 1) cur with h | ⟨m, h1, h2, h3⟩
        · exact .inl h
        · exact .inr ⟨m, by omega, by omega, h3⟩
    · rw [if_neg c]
      exact .inl rfl
theorem valV_bd : ∀ fs : List S50, (∀ f ∈ fs, fOK f) → ∀ w, -1 ≤ valV fs w ∧ valV fs w ≤ 600000 * fs.length := by
  intro fs
  induction fs with
  | nil => intro _ w; simp [valV]
  | cons f fs ih =>
    intro h w
    have hf := h f (by simp)
    rw [valV, List.length_cons]
    rcases upV_hit (valV fs) f w (f.f3.length + 1 - f.f2.toNat) f.f2.toNat (-1) with e | ⟨m, h1, h2, h3, h4, e⟩
    · rw [e]; omega
    · rw [e]
      have g1 := ih (fun x hx => h x (List.mem_cons_of_mem f hx)) (w - m * f.f1.toNat)
      have g2 := gainV_bd hf.2.2.2 m
      omega
/-! ### counts -/
def okC : List S50 → List Int → Prop
  | [], [] => True
  | f :: fs, c :: cs => (f.f2 ≤ c ∧ c ≤ (f.f3.length : Int)) ∧ okC fs cs
  | _, _ => False
def usedV : List S50 → List Int → Int
  | f :: fs, c :: cs => c * f.f1 + usedV fs cs
  | _, _ => 0
def gainsV : List S50 → List Int → Int
  | f :: fs, c :: cs => gainV f.f3 c.toNat + gainsV fs cs
  | _, _ => 0
theorem okC_bd : ∀ (fs : List S50) (cs : List Int), (∀ f ∈ fs, fOK f) → okC fs cs → cs.length = fs.length ∧ 0 ≤ usedV fs cs ∧ usedV fs cs ≤ 12000 * fs.length ∧ 0 ≤ gainsV fs cs ∧ gainsV fs cs ≤ 600000 * fs.length := by
  intro fs
  induction fs with
  | nil => intro cs _ h; cases cs with
    | nil => simp [usedV, gainsV]
    | cons c cs => exact h.elim
  | cons f fs ih =>
    intro cs h hc
    cases cs with
    | nil => exact hc.elim
    | cons c cs =>
      have hf := h f (by simp)
      have g := ih cs (fun x hx => h x (List.mem_cons_of_mem f hx)) hc.2
      have g2 := gainV_bd hf.2.2.2 c.toNat
      have h6 := hf.2.2.2.1
      have hc1 := hc.1
      have hf1 := hf.1
      have hf2 := hf.2.1
      have hm : 0 ≤ c * f.f1 ∧ c * f.f1 ≤ 12000 := ⟨Int.mul_nonneg (by omega) (by omega), Int.le_trans (Int.mul_le_mul (c := 6) (d := 2000) (by omega) (by omega) (by omega) (by omega)) (by decide)⟩
      rw [usedV, gainsV, List.length_cons, List.length_cons]
      omega
/-- No right counts within a width gain more. -/
theorem valV_best : ∀ (fs : List S50) (cs : List Int) (w : Nat), (∀ f ∈ fs, fOK f) → okC fs cs → usedV fs cs ≤ w → gainsV fs cs ≤ valV fs w := by
  intro fs
  induction fs with
  | nil => intro cs w _ h _; cases cs with
    | nil => simp [gainsV, valV]
    | cons c cs => exact h.elim
  | cons f fs ih =>
    intro cs w h hc hu
    cases cs with
    | nil => exact hc.elim
    | cons c cs =>
      have hf := h f (by simp)
      have hfs : ∀ x ∈ fs, fOK x := fun x hx => h x (List.mem_cons_of_mem f hx)
      have g := okC_bd fs cs hfs hc.2
      have hc1 := hc.1
      rw [usedV] at hu
      obtain ⟨m, rfl⟩ : ∃ m : Nat, c = (m : Int) := ⟨c.toNat, by have := hf.2.1; omega⟩
      obtain ⟨v, hv⟩ : ∃ v : Nat, f.f1 = (v : Int) := ⟨f.f1.toNat, by have := hf.1; omega⟩
      have hmv : (m : Int) * f.f1 = ((m * f.f1.toNat : Nat) : Int) := by rw [hv, Int.toNat_natCast, Int.natCast_mul]
      rw [hmv] at hu
      have hi := ih cs (w - m * f.f1.toNat) hfs hc.2 (by omega)
      rw [gainsV, valV, Int.toNat_natCast]
      have h2 := upV_ge (valV fs) f w (f.f3.length + 1 - f.f2.toNat) f.f2.toNat (-1) m (by omega) (by have := hf.2; omega) (by omega) (by omega)
      omega
/-- The count that is taken: the first from n down that comes to the best. -/
def pickV (nx : Nat → Int) (f : S50) (w : Nat) (v : Int) : Nat → Nat
  | 0 => 0
  | n + 1 => if 0 ≤ nx (w - (n + 1) * f.f1.toNat) ∧ nx (w - (n + 1) * f.f1.toNat) + gainV f.f3 (n + 1) = v then n + 1 else pickV nx f w v n
def hitP (nx : Nat → Int) (f : S50) (w : Nat) (v : Int) (n : Nat) : Prop := 0 ≤ nx (w - n * f.f1.toNat) ∧ nx (w - n * f.f1.toNat) + gainV f.f3 n = v
theorem pickV_spec (nx : Nat → Int) (f : S50) (w : Nat) (v : Int) : ∀ n m, m ≤ n → hitP nx f w v m → hitP nx f w v (pickV nx f w v n) ∧ m ≤ pickV nx f w v n ∧ pickV nx f w v n ≤ n := by
  intro n
  induction n with
  | zero => intro m h1 h2; obtain rfl : m = 0 := by omega
            exact ⟨h2, Nat.le_refl _, Nat.le_refl _⟩
  | succ n ih =>
    intro m h1 h2
    rw [pickV]
    by_cases c : 0 ≤ nx (w - (n + 1) * f.f1.toNat) ∧ nx (w - (n + 1) * f.f1.toNat) + gainV f.f3 (n + 1) = v
    · rw [if_pos c]
      exact ⟨c, h1, Nat.le_refl _⟩
    · rw [if_neg c]
      have hm : m ≠ n + 1 := by rintro rfl; exact c h2
      obtain ⟨g1, g2, g3⟩ := ih m (by omega) h2
      exact ⟨g1, g2, by omega⟩
/-- From where it is looked down. -/
def topV (f : S50) (w : Nat) : Nat := Nat.min f.f3.length (w / f.f1.toNat)
def pkV (fs : List S50) (f : S50) (w : Nat) : Nat := pickV (valV fs) f w (valV (f :: fs) w) (topV f w)
def cntV : List S50 → Nat → List Int
  | [], _ => []
  | f :: fs, w => (pkV fs f w : Int) :: cntV fs (w - pkV fs f w * f.f1.toNat)
theorem pk_ok {fs : List S50} {f : S50} {w : Nat} (hf : fOK f) (hv : 0 ≤ valV (f :: fs) w) :
    hitP (valV fs) f w (valV (f :: fs) w) (pkV fs f w) ∧ f.f2 ≤ (pkV fs f w : Int) ∧ pkV fs f w ≤ topV f w ∧ pkV fs f w * f.f1.toNat ≤ w ∧ pkV fs f w ≤ f.f3.length := by
  have hv0 : 0 < f.f1.toNat := by have := hf.1; omega
  have key : ∃ m : Nat, f.f2 ≤ (m : Int) ∧ m ≤ topV f w ∧ hitP (valV fs) f w (valV (f :: fs) w) m := by
    have e := upV_hit (valV fs) f w (f.f3.length + 1 - f.f2.toNat) f.f2.toNat (-1)
    rcases e with e | ⟨m, h1, h2, h3, h4, e⟩
    · have : valV (f :: fs) w = -1 := e
      omega
    · refine ⟨m, by omega, ?_, h4, e.symm⟩
      unfold topV
      have h5 : m ≤ w / f.f1.toNat := (Nat.le_div_iff_mul_le hv0).2 h3
      exact (Nat.le_min (a := m) (b := f.f3.length) (c := w / f.f1.toNat)).2 ⟨(by have := hf.2; omega), h5⟩
  obtain ⟨m, h1, h2, h3⟩ := key
  obtain ⟨g1, g2, g3⟩ := pickV_spec (valV fs) f w (valV (f :: fs) w) (topV f w) m h2 h3
  have h6 : topV f w ≤ w / f.f1.toNat := Nat.min_le_right _ _
  have h7 : topV f w ≤ f.f3.length := Nat.min_le_left _ _
  exact ⟨g1, by have : m ≤ pkV fs f w := g2; omega, g3, (Nat.le_div_iff_mul_le hv0).1 (Nat.le_trans g3 h6), Nat.le_trans g3 h7⟩
theorem cntV_ok : ∀ (fs : List S50) (w : Nat), (∀ f ∈ fs, fOK f) → 0 ≤ valV fs w → okC fs (cntV fs w) ∧ usedV fs (cntV fs w) ≤ w ∧ gainsV fs (cntV fs w) = valV fs w := by
  intro fs
  induction fs with
  | nil => intro w _ _; exact ⟨trivial, by simp [usedV], by simp [gainsV, valV]⟩
  | cons f fs ih =>
    intro w h hv
    have hf := h f (by simp)
    obtain ⟨g1, g2, g3, g4, g5⟩ := pk_ok hf hv
    obtain ⟨i1, i2, i3⟩ := ih (w - pkV fs f w * f.f1.toNat) (fun x hx => h x (List.mem_cons_of_mem f hx)) g1.1
    obtain ⟨v, hv'⟩ : ∃ v : Nat, f.f1 = (v : Int) := ⟨f.f1.toNat, by have := hf.1; omega⟩
    have hmv : (pkV fs f w : Int) * f.f1 = ((pkV fs f w * f.f1.toNat : Nat) : Int) := by rw [hv', Int.toNat_natCast, Int.natCast_mul]
    refine ⟨⟨⟨g2, by omega⟩, i1⟩, ?_, ?_⟩
    · rw [cntV, usedV, hmv]
      omega
    · rw [cntV, gainsV, Int.toNat_natCast, i3]
      have := g1.2
      omega
theorem valV_wider (fs : List S50) (w w' : Nat) (h : ∀ f ∈ fs, fOK f) (hw : w ≤ w') : valV fs w ≤ valV fs w' := by
  by_cases c : 0 ≤ valV fs w
  · obtain ⟨h1, h2, h3⟩ := cntV_ok fs w h c
    rw [← h3]
    exact valV_best fs _ w' h h1 (by omega)
  · have := (valV_bd fs h w).1
    have := (valV_bd fs h w').1
    omega
/-! ### the table -/
def rowV (fs : List S50) (W : Nat) : List Int := (List.range (W + 1)).map (valV fs)
def tabV (W : Nat) : List S50 → List (List Int)
  | [] => [rowV [] W]
  | f :: fs => rowV (f :: fs) W :: tabV W fs
theorem rowV_len (fs : List S50) (W : Nat) : (rowV fs W).length = W + 1 := by simp [rowV]
theorem rowV_at (fs : List S50) (W w : Nat) (h : w ≤ W) : rd (rowV fs W) (w : Int) = valV fs w := by
  rw [rd_nat]
  unfold rowV
  rw [List.getD_eq_getElem?_getD, List.getElem?_map, List.getElem?_range (by omega)]
  rfl
theorem rowV_nil (W : Nat) : rowV [] W = List.replicate (W + 1) 0 := by
  unfold rowV
  rw [List.eq_replicate_iff]
  refine ⟨by simp, fun x hx => ?_⟩
  obtain ⟨y, _, rfl⟩ := List.mem_map.1 hx
  rfl
theorem tabV_ne (W : Nat) (fs : List S50) : ∃ T, tabV W fs = rowV fs W :: T := by
  cases fs with
  | nil => exact ⟨_, rfl⟩
  | cons f fs => exact ⟨_, rfl⟩
theorem tabV_len (W : Nat) (fs : List S50) : (tabV W fs).length = fs.length + 1 := by
  induction fs with
  | nil => rfl
  | cons f fs ih => rw [tabV, List.length_cons, ih, List.length_cons]
theorem tabV_at (W : Nat) : ∀ (p fs : List S50), rd_L2 (tabV W (p ++ fs)) (p.length : Int) = rowV fs W := by
  intro p
  induction p with
  | nil => intro fs; obtain ⟨T, e⟩ := tabV_ne W fs; rw [List.nil_append, e]; rfl
  | cons f p ih =>
    intro fs
    have := ih fs
    unfold rd_L2 at this ⊢
    rw [List.cons_append, tabV, List.length_cons, Int.toNat_natCast, List.getD_cons_succ]
    rw [Int.toNat_natCast] at this
    exact this
theorem repeat_m1 (W : Nat) (hW : W ≤ 10000) : slices_Repeat_int_int.f [(-1)] (wrap64 ((W : Int) + 1)) = some (List.replicate (W + 1) (-1)) := by
  rw [w64 (by omega) (by omega)]
  unfold slices_Repeat_int_int.f
  rw [if_pos ⟨rfl, by omega, by omega⟩, show ((W : Int) + 1).toNat = W + 1 by omega]
  rfl
theorem nmul {f : S50} (hf : fOK f) (n : Nat) : (n : Int) * f.f1 = ((n * f.f1.toNat : Nat) : Int) := by
  obtain ⟨v, hv⟩ : ∃ v : Nat, f.f1 = (v : Int) := ⟨f.f1.toNat, by have := hf.1; omega⟩
  rw [hv, Int.toNat_natCast, Int.natCast_mul]
theorem nmul_le {f : S50} (hf : fOK f) (n : Nat) (hn : n ≤ 7) : n * f.f1.toNat ≤ 14000 := Nat.le_trans (Nat.mul_le_mul hn (show f.f1.toNat ≤ 2000 by have := hf.1; omega)) (by decide)
section
variable (L A : List (S50)) (fs : List S50) (f : S50) (T B : List (List Int)) (W : Nat)
variable (hf : fOK f) (hfs : ∀ x ∈ fs, fOK x) (hl : fs.length ≤ 12) (hA : T.length ≤ 12) (hW : W ≤ 2100)
include hf hfs hl hA hW
theorem imp_l2 (pre post : List Int) (hp : pre.length + 1 + post.length = W + 1) {r : List (List Int)} : ∀ d n cur, n + d = f.f3.length + 1 → -1 ≤ cur → cur ≤ 100000000 →
    Ev (fun k => impl_bestGains.l1 k L (W : Int) (T ++ (pre ++ upV (valV fs) f pre.length d n cur :: post) :: rowV fs W :: B) (T.length : Int) ((W : Int) + 1) ((pre.length : Int) + 1) f.f0 f.f1 f.f2 f.f3) r →
    Ev (fun k => impl_bestGains.l2 k L (W : Int) (T ++ (pre ++ cur :: post) :: rowV fs W :: B) (T.length : Int) (pre.length : Int) (n : Int) ((W : Int) + 1) (pre.length : Int) f.f0 f.f1 f.f2 f.f3) r := by
  have h6 := hf.2.2.2.1
  have hw1 : wrap64 ((T.length : Int) + 1) = (T.length : Int) + 1 := w64 (by omega) (by omega)
  have hw4 : wrap64 ((pre.length : Int) + 1) = (pre.length : Int) + 1 := w64 (by omega) (by omega)
  intro d
  induction d with
  | zero =>
    intro n cur hn h0 h1 h
    refine Ev.step (fun k => rfl) (Ev.neg (by omega) ?_)
    refine Ev.via (f := fun k => impl_bestGains.l1 k L (W : Int) (T ++ (pre ++ cur :: post) :: rowV fs W :: B) (T.length : Int) ((W : Int) + 1) (wrap64 ((pre.length : Int) + 1)) f.f0 f.f1 f.f2 f.f3) ?_ (fun k => rfl)
    rw [hw4]
    exact h
  | succ d ih =>
    intro n cur hn h0 h1 h
    have hm := nmul_le hf n (by omega)
    have hw2 : wrap64 ((n : Int) * f.f1) = ((n * f.f1.toNat : Nat) : Int) := by rw [nmul hf n]; exact w64 (by omega) (by omega)
    rw [upV] at h
    refine Ev.step (fun k => rfl) (Ev.pos (by omega) ?_)
    rw [hw2]
    by_cases c : n * f.f1.toNat ≤ pre.length
    · rw [if_pos c] at h
      have hw3 : wrap64 ((pre.length : Int) - ((n * f.f1.toNat : Nat) : Int)) = ((pre.length - n * f.f1.toNat : Nat) : Int) := by rw [w64 (by omega) (by omega)]; omega
      have hr1 : rd_L2 (T ++ (pre ++ cur :: post) :: rowV fs W :: B) ((T.length : Int) + 1) = rowV fs W := rdL_mid1 _ _ _ _
      have hr0 : rd_L2 (T ++ (pre ++ cur :: post) :: rowV fs W :: B) (T.length : Int) = pre ++ cur :: post := rdL_mid _ _ _
      have hv := rowV_at fs W (pre.length - n * f.f1.toNat) (by omega)
      have hb := valV_bd fs hfs (pre.length - n * f.f1.toNat)
      have hlen : ((pre ++ cur :: post).length : Int) = (W : Int) + 1 := by rw [List.length_append, List.length_cons]; omega
      have hT : (T.length : Int) + 1 < ((T ++ (pre ++ cur :: post) :: rowV fs W :: B).length : Int) := by rw [List.length_append, List.length_cons, List.length_cons]; omega
      refine Ev.step (fun k => rfl) (Ev.pos (decide_eq_true (by omega)) ?_)
      simp only [hw1, hw2, hw3, hr1, hr0, hv]
      refine Ev.pos (by omega) (Ev.pos hT (Ev.pos (by omega) (Ev.pos (by rw [rowV_len]; omega) ?_)))
      by_cases c2 : 0 ≤ valV fs (pre.length - n * f.f1.toNat)
      · rw [if_pos c2] at h
        have hg := gainV_bd hf.2.2.2 n
        refine Ev.pos c2 (Ev.pos (by omega) (Ev.pos (by omega) (Ev.pos (by omega) (Ev.pos (by omega) (Ev.pos (by omega) (Ev.pos (by omega) ?_))))))
        rw [Int.toNat_natCast]
        refine Ev.bind (sumTake_ev hf.2.2.2 n) ?_
        rw [rd_mid, w64 (x := valV fs (pre.length - n * f.f1.toNat) + gainV f.f3 n) (by omega) (by omega), show (pre ++ cur :: post).set (pre.length : Int).toNat (mx cur (valV fs (pre.length - n * f.f1.toNat) + gainV f.f3 n)) = pre ++ (mx cur (valV fs (pre.length - n * f.f1.toNat) + gainV f.f3 n)) :: post from set_mid _ _ _ _, set_mid, w64n (by omega)]
        have hmx := mx_ge cur (valV fs (pre.length - n * f.f1.toNat) + gainV f.f3 n)
        exact ih (n + 1) _ (by omega) (by omega) (by omega) h
      · rw [if_neg c2] at h
        refine Ev.neg (by omega) ?_
        rw [w64n (by omega)]
        exact ih (n + 1) cur (by omega) h0 h1 h
    · rw [if_neg c] at h
      refine Ev.step (fun k => rfl) (Ev.neg (by rw [decide_eq_false (by omega)]; exact ff) ?_)
      rw [hw4]
      exact h
theorem imp_l1 {r : List (List Int)} : ∀ e w, w + e = W + 1 →
    Ev (fun k => impl_bestGains.l0 k L (W : Int) (T ++ rowV (f :: fs) W :: rowV fs W :: B) (wrap64 ((T.length : Int) - 1))) r →
    Ev (fun k => impl_bestGains.l1 k L (W : Int) (T ++ ((List.range w).map (valV (f :: fs)) ++ List.replicate e (-1)) :: rowV fs W :: B) (T.length : Int) ((W : Int) + 1) (w : Int) f.f0 f.f1 f.f2 f.f3) r := by
  intro e
  induction e with
  | zero =>
    intro w hw h
    obtain rfl : w = W + 1 := by omega
    refine Ev.step (fun k => rfl) (Ev.neg (by omega) ?_)
    rw [show List.replicate 0 (-1 : Int) = [] from rfl, List.append_nil]
    exact h
  | succ e ih =>
    intro w hw h
    have hpl : ((List.range w).map (valV (f :: fs))).length = w := by simp
    refine Ev.step (fun k => rfl) (Ev.pos (by omega) ?_)
    rw [List.replicate_succ]
    have key := imp_l2 L fs f T B W hf hfs hl hA hW ((List.range w).map (valV (f :: fs))) (List.replicate e (-1)) (by simp; omega) (r := r) (f.f3.length + 1 - f.f2.toNat) f.f2.toNat (-1) (by have := hf.2; omega) (by omega) (by omega)
    rw [hpl, show ((f.f2.toNat : Nat) : Int) = f.f2 by have := hf.2.1; omega] at key
    refine key ?_
    have := ih (w + 1) (by omega) h
    rw [List.range_succ, List.map_append, List.append_assoc] at this
    exact this
end
theorem drop_at (L : List S50) (n : Nat) (h : n < L.length) : L.drop n = L.getD n z50 :: L.drop (n + 1) := by
  rw [List.drop_eq_getElem_cons h, List.getD_eq_getElem?_getD, List.getElem?_eq_getElem h]
  rfl
theorem rep_snoc {α : Type} (n : Nat) (a : α) : List.replicate (n + 1) a = List.replicate n a ++ [a] := List.replicate_succ' ..
theorem imp_l0 (L : List S50) (hL : ∀ x ∈ L, fOK x) (hl : L.length ≤ 12) (W : Nat) (hW : W ≤ 2100) : ∀ n, n ≤ L.length →
    Ev (fun k => impl_bestGains.l0 k L (W : Int) (List.replicate n [] ++ tabV W (L.drop n)) ((n : Int) - 1)) (tabV W L) := by
  intro n
  induction n with
  | zero =>
    intro _
    exact Ev.step (fun k => rfl) (Ev.some' rfl)
  | succ n ih =>
    intro hn
    have hd := drop_at L n (by omega)
    obtain ⟨B, hB⟩ := tabV_ne W (L.drop (n + 1))
    have hf : fOK (L.getD n z50) := hL _ (by rw [List.getD_eq_getElem?_getD, List.getElem?_eq_getElem (by omega)]; exact List.getElem_mem _)
    have hfs : ∀ x ∈ L.drop (n + 1), fOK x := fun x hx => hL x (List.mem_of_mem_drop hx)
    have e1 : (((n + 1 : Nat) : Int) - 1) = ((List.replicate n ([] : List Int)).length : Int) := by rw [List.length_replicate]; omega
    have e2 : ((List.replicate n ([] : List Int)).length : Int) = (n : Int) := by simp
    have ih := ih (by omega)
    rw [hd, tabV, hB] at ih
    rw [rep_snoc, List.append_assoc, hB, e1]
    refine Ev.step (fun k => rfl) (Ev.pos (by rw [e2]; omega) (Ev.ret (repeat_m1 W (by omega)) (Ev.pos (by simp <;> omega) ?_)))
    refine Ev.ret rfl ?_
    rw [show [([] : List Int)] ++ rowV (L.drop (n + 1)) W :: B = [] :: rowV (L.drop (n + 1)) W :: B from rfl, set_mid, rdL_mid, e2, rdf_nat, List.length_replicate, ← e2]
    have key := imp_l1 L (L.drop (n + 1)) (L.getD n z50) (List.replicate n []) B W hf hfs (by simp; omega) (by simp; omega) hW (r := tabV W L) (W + 1) 0 (by omega)
    rw [show (((W + 1 : Nat) : Int)) = (W : Int) + 1 by omega]
    refine key ?_
    rw [e2, w64 (by omega) (by omega)]
    exact ih
theorem bestGains_ev (L : List S50) (hL : ∀ x ∈ L, fOK x) (hl : L.length ≤ 12) (W : Nat) (hW : W ≤ 2100) : Ev (fun k => impl_bestGains.f k L (W : Int)) (tabV W L) := by
  unfold impl_bestGains.f
  have hw1 : wrap64 ((L.length : Int) + 1) = ((L.length + 1 : Nat) : Int) := w64n (by omega)
  have hw2 : wrap64 ((W : Int) + 1) = ((W + 1 : Nat) : Int) := w64n (by omega)
  rw [hw1, hw2, Int.toNat_natCast, Int.toNat_natCast]
  refine Ev.pos (by omega) (Ev.pos (by omega) (Ev.ret rfl (Ev.pos (by omega) (Ev.pos (by omega) (Ev.pos (by omega) (Ev.pos (by simp; omega) ?_))))))
  have hs : (List.replicate (L.length + 1) ([] : List Int)).set (L.length : Int).toNat (List.replicate (W + 1) 0) = List.replicate L.length [] ++ tabV W (L.drop L.length) := by
    have := set_mid (List.replicate L.length ([] : List Int)) [] (List.replicate (W + 1) 0) []
    rw [List.length_replicate] at this
    rw [rep_snoc, this, List.drop_length, tabV, rowV_nil]
  rw [hs, w64 (by omega) (by omega)]
  exact imp_l0 L hL hl W hW L.length (Nat.le_refl _)
/-! ### plans -/
theorem clone_ok (l : List Int) (h : l.length ≤ 1000) : slices_Clone_int_int.f l = some l := by
  unfold slices_Clone_int_int.f
  rw [if_pos (by omega)]
theorem plan_l0 : ∀ (a p : List S50) (b q cl : List Int) (u g : Int), (∀ f ∈ a, fOK f) → okC a b → p.length = q.length → (p ++ a).length ≤ 12 → 0 ≤ u → u ≤ 14000 * p.length → 0 ≤ g → g ≤ 600000 * p.length →
    Ev (fun k => impl_planOf.l0 k (q ++ b) (p ++ a) ((p ++ a).length : Int) (p.length : Int) cl u g) (cl, u + usedV a b, g + gainsV a b) := by
  intro a
  induction a with
  | nil =>
    intro p b q cl u g _ hc _ _ _ _ _ _
    cases b with
    | cons c b => exact hc.elim
    | nil => exact Ev.step (fun k => rfl) (Ev.neg (len_end p) (Ev.some' (by simp [usedV, gainsV])))
  | cons f a ih =>
    intro p b q cl u g hfa hc hpq hl hu0 hu1 hg0 hg1
    cases b with
    | nil => exact hc.elim
    | cons c b =>
      have hl' := hl
      rw [List.length_append, List.length_cons] at hl'
      have hf := hfa f (by simp)
      have h6 := hf.2.2.2.1
      have hc1 := hc.1
      obtain ⟨m, rfl⟩ : ∃ m : Nat, c = (m : Int) := ⟨c.toNat, by have := hf.2.1; omega⟩
      have hm := nmul_le hf m (by omega)
      have hgb := gainV_bd hf.2.2.2 m
      have hrd : rd (q ++ (m : Int) :: b) (p.length : Int) = (m : Int) := by rw [hpq]; exact rd_mid q _ b
      refine Ev.step (fun k => rfl) (Ev.pos (len_lt p f a) (Ev.pos (by omega) (Ev.pos (len_lt p f a) (Ev.pos (by rw [hpq]; exact len_lt q _ b) ?_))))
      rw [hrd, rdF_mid]
      refine Ev.pos (by omega) (Ev.pos (by omega) ?_)
      rw [Int.toNat_natCast]
      refine Ev.bind (sumTake_ev hf.2.2.2 m) ?_
      rw [nmul hf m, w64 (x := ((m * f.f1.toNat : Nat) : Int)) (by omega) (by omega), w64 (x := u + ((m * f.f1.toNat : Nat) : Int)) (by omega) (by omega), w64 (x := g + gainV f.f3 m) (by omega) (by omega), w64 (by omega) (by omega), ← len_snoc p f, snoc p f a, snoc q _ b]
      refine Ev.eq (ih (p ++ [f]) b (q ++ [(m : Int)]) cl _ _ (fun x hx => hfa x (List.mem_cons_of_mem f hx)) hc.2 (by simp [hpq]) (by rw [← snoc]; exact hl) (by omega) (by rw [List.length_append, List.length_singleton]; omega) (by omega) (by rw [List.length_append, List.length_singleton]; omega)) ?_
      rw [usedV, gainsV, nmul hf m, Int.toNat_natCast]
      simp only [Prod.mk.injEq, true_and]
      omega
theorem plan_ev (L : List S50) (cs : List Int) (hL : ∀ x ∈ L, fOK x) (hl : L.length ≤ 12) (hc : okC L cs) : Ev (fun k => impl_planOf.f k L cs) (cs, usedV L cs, gainsV L cs) := by
  have h1 := (okC_bd L cs hL hc).1
  unfold impl_planOf.f
  refine Ev.ret (clone_ok cs (by omega)) ?_
  refine Ev.eq (plan_l0 L [] cs [] cs 0 0 hL hc rfl (by simpa using hl) (by omega) (by simp) (by omega) (by simp)) ?_
  simp
theorem shelfCode_ev (L : List S50) (h : facingsV L = true) (w : Int) (h0 : 0 ≤ w) (h1 : w ≤ 2000) : Ev (fun k => impl_shelfCode.f k L w) 0 := by
  have hl : L.length ≤ 12 := by unfold facingsV at h; simp only [Bool.and_eq_true, decide_eq_true_eq] at h; exact h.1
  unfold impl_shelfCode.f
  refine Ev.ret (show impl_Facing.f L = some true by unfold impl_Facing.f; rw [decide_eq_true (by omega)]) (Ev.pos rfl (Ev.bind (implFacings_ev L) ?_))
  rw [h]
  refine Ev.pos rfl (Ev.ret (within_ev _ _ _) ?_)
  rw [decide_eq_true ⟨h0, h1⟩]
  exact Ev.pos rfl (Ev.some' rfl)
theorem facings_ok {L : List S50} (h : facingsV L = true) : L.length ≤ 12 ∧ ∀ x ∈ L, fOK x := by
  unfold facingsV at h
  simp only [Bool.and_eq_true, decide_eq_true_eq] at h
  exact ⟨h.1, facB_ok L [] h.2⟩
/-- Counts that are right: what the program says of them. -/
def shelfV (L : List S50) (w : Int) (cs : List Int) : List Int × Int × Int × Int := if usedV L cs > w then ([], 0, 0, 14) else (cs, usedV L cs, gainsV L cs, 0)
/-! ### the program's best -/
theorem take_app (L : List S50) (p : List S50) (f : S50) (fs : List S50) (W : Nat) (h : L = p ++ f :: fs) : rd_L2 (tabV W L) (p.length : Int) = rowV (f :: fs) W ∧ rd_L2 (tabV W L) ((p.length : Int) + 1) = rowV fs W := by
  subst h
  refine ⟨tabV_at W p (f :: fs), ?_⟩
  have := tabV_at W (p ++ [f]) fs
  rw [List.append_assoc] at this
  rw [show (p.length : Int) + 1 = ((p ++ [f]).length : Int) by simp]
  exact this
section
variable (L p fs : List S50) (f : S50) (W : Nat) (hLe : L = p ++ f :: fs) (hL : ∀ x ∈ L, fOK x) (hl : L.length ≤ 12) (hW : W ≤ 2100)
include hLe hL hl hW
theorem best_step (w : Nat) (hw : w ≤ W) (cs : List Int) (hcs : cs.length ≤ 100) {r : List Int × Int × Int × Int} (n : Nat) (hnw : n * f.f1.toNat ≤ w) (hn : n ≤ f.f3.length)
    (hyes : hitP (valV fs) f w (valV (f :: fs) w) n → Ev (fun k => impl_BestShelf.l0 k L ((w - n * f.f1.toNat : Nat) : Int) (tabV W L) (cs ++ [(n : Int)]) L (L.length : Int) ((p.length : Int) + 1)) r)
    (hno : ¬ hitP (valV fs) f w (valV (f :: fs) w) n → Ev (fun k => impl_BestShelf.l1 k L (w : Int) (tabV W L) cs (p.length : Int) (wrap64 ((n : Int) - 1)) L (L.length : Int) (p.length : Int) f.f0 f.f1 f.f2 f.f3) r) :
    Ev (fun k => impl_BestShelf.l1 k L (w : Int) (tabV W L) cs (p.length : Int) (n : Int) L (L.length : Int) (p.length : Int) f.f0 f.f1 f.f2 f.f3) r := by
  have hf : fOK f := hL f (by rw [hLe]; simp)
  have hfs : ∀ x ∈ fs, fOK x := fun x hx => hL x (by rw [hLe]; simp [hx])
  have hpl : p.length + 1 + fs.length ≤ 12 := by rw [hLe, List.length_append, List.length_cons] at hl; omega
  have hw1 : wrap64 ((p.length : Int) + 1) = (p.length : Int) + 1 := w64 (by omega) (by omega)
  obtain ⟨hr0, hr1⟩ := take_app L p f fs W hLe
  have hT : ((tabV W L).length : Int) = (p.length : Int) + 1 + fs.length + 1 := by rw [tabV_len, hLe, List.length_append, List.length_cons]; omega
  have h6 := hf.2.2.2.1
  have hv := rowV_at fs W (w - n * f.f1.toNat) (by omega)
  have hv2 := rowV_at (f :: fs) W w hw
  have hb := valV_bd fs hfs (w - n * f.f1.toNat)
  have hg := gainV_bd hf.2.2.2 n
  have hw2 : wrap64 ((n : Int) * f.f1) = ((n * f.f1.toNat : Nat) : Int) := by rw [nmul hf n]; exact w64 (by omega) (by omega)
  have hw3 : wrap64 ((w : Int) - ((n * f.f1.toNat : Nat) : Int)) = ((w - n * f.f1.toNat : Nat) : Int) := by rw [w64 (by omega) (by omega)]; omega
  unfold hitP at hyes hno
  refine Ev.up1 ?_
  simp only [impl_BestShelf.l1, hw1, hw2, hw3, hr0, hr1, hv, hv2, rowV_len]
  refine Ev.pos (by omega) (Ev.pos (by omega) (Ev.pos (by omega) (Ev.pos (by omega) ?_)))
  by_cases c : valV fs (w - n * f.f1.toNat) < 0
  · exact Ev.pos c (hno (by omega))
  · refine Ev.neg c (Ev.pos (by omega) (Ev.pos (by omega) ?_))
    rw [Int.toNat_natCast]
    refine Ev.bind (sumTake_ev hf.2.2.2 n) ?_
    rw [w64 (x := valV fs (w - n * f.f1.toNat) + gainV f.f3 n) (by omega) (by omega)]
    refine Ev.pos (by omega) (Ev.pos (by omega) (Ev.pos (by omega) (Ev.pos (by omega) ?_)))
    by_cases c2 : valV fs (w - n * f.f1.toNat) + gainV f.f3 n = valV (f :: fs) w
    · exact Ev.pos c2 (Ev.pos (by omega) (hyes ⟨by omega, c2⟩))
    · exact Ev.neg c2 (hno (fun h => c2 h.2))
theorem best_l1 (w : Nat) (hw : w ≤ W) (cs : List Int) (hcs : cs.length ≤ 100) {r : List Int × Int × Int × Int} : ∀ n m, m ≤ n → n * f.f1.toNat ≤ w → n ≤ f.f3.length → hitP (valV fs) f w (valV (f :: fs) w) m →
    Ev (fun k => impl_BestShelf.l0 k L ((w - pickV (valV fs) f w (valV (f :: fs) w) n * f.f1.toNat : Nat) : Int) (tabV W L) (cs ++ [(pickV (valV fs) f w (valV (f :: fs) w) n : Int)]) L (L.length : Int) ((p.length : Int) + 1)) r →
    Ev (fun k => impl_BestShelf.l1 k L (w : Int) (tabV W L) cs (p.length : Int) (n : Int) L (L.length : Int) (p.length : Int) f.f0 f.f1 f.f2 f.f3) r := by
  intro n
  induction n with
  | zero =>
    intro m hm hnw hn hh h
    obtain rfl : m = 0 := by omega
    exact best_step L p fs f W hLe hL hl hW w hw cs hcs 0 hnw hn (fun _ => h) (fun g => absurd hh g)
  | succ n ih =>
    intro m hm hnw hn hh h
    rw [pickV] at h
    have hle : n * f.f1.toNat ≤ (n + 1) * f.f1.toNat := Nat.mul_le_mul_right _ (by omega)
    have h6 := (hL f (by rw [hLe]; simp)).2.2.2.1
    refine best_step L p fs f W hLe hL hl hW w hw cs hcs (n + 1) hnw hn (fun g => ?_) (fun g => ?_)
    · unfold hitP at g
      rw [if_pos g] at h
      exact h
    · have g' := g
      unfold hitP at g'
      rw [if_neg g'] at h
      rw [w64 (by omega) (by omega), show (((n + 1 : Nat) : Int) - 1) = (n : Int) by omega]
      exact ih m (by have : m ≠ n + 1 := by rintro rfl; exact g hh
                     omega) (by omega) (by omega) hh h
end
theorem top_eq {f : S50} (hf : fOK f) (w : Nat) (hw : w ≤ 100000) : mn (f.f3.length : Int) (wrap64 (Int.tdiv (w : Int) f.f1)) = (topV f w : Int) := by
  obtain ⟨v, hv⟩ : ∃ v : Nat, f.f1 = (v : Int) := ⟨f.f1.toNat, by have := hf.1; omega⟩
  have h6 := hf.2.2.2.1
  unfold topV
  have hq := Nat.div_le_self w v
  rw [hv, Int.tdiv_eq_ediv_of_nonneg (by omega), ← Int.natCast_ediv, Int.toNat_natCast]
  generalize w / v = q at hq ⊢
  rw [w64 (by omega) (by omega)]
  unfold mn
  show _ = ((min f.f3.length q : Nat) : Int)
  split <;> omega
theorem best_l0 (L : List S50) (hL : ∀ x ∈ L, fOK x) (hl : L.length ≤ 12) (W : Nat) (hW : W ≤ 2100) {r : List Int × Int × Int × Int} : ∀ (fs p : List S50) (w : Nat) (cs : List Int), L = p ++ fs → w ≤ W → cs.length = p.length → 0 ≤ valV fs w →
    Ev (fun k => (impl_planOf.f k L (cs ++ cntV fs w)).bind fun bt => some (bt.1, bt.2.1, bt.2.2, (0 : Int))) r →
    Ev (fun k => impl_BestShelf.l0 k L (w : Int) (tabV W L) cs L (L.length : Int) (p.length : Int)) r := by
  intro fs
  induction fs with
  | nil =>
    intro p w cs hLe hw hcs hv h
    rw [List.append_nil] at hLe
    rw [cntV, List.append_nil] at h
    exact Ev.step (fun k => rfl) (Ev.neg (by rw [hLe]; omega) h)
  | cons f fs ih =>
    intro p w cs hLe hw hcs hv h
    have hf : fOK f := hL f (by rw [hLe]; simp)
    have hlt : (p.length : Int) < (L.length : Int) := by rw [hLe]; exact len_lt p f fs
    have hrd : rd_T50 L (p.length : Int) = f := by rw [hLe]; exact rdF_mid p f fs
    obtain ⟨g1, g2, g3, g4, g5⟩ := pk_ok hf hv
    have htw : topV f w * f.f1.toNat ≤ w := (Nat.le_div_iff_mul_le (by have := hf.1; omega)).1 (Nat.min_le_right _ _)
    refine Ev.step (fun k => rfl) (Ev.pos hlt (Ev.pos (by omega) (Ev.pos hlt ?_)))
    rw [hrd]
    refine Ev.neg (by have := hf.1; omega) ?_
    rw [top_eq hf w (by omega)]
    refine best_l1 L p fs f W hLe hL hl hW w hw cs (by omega) (topV f w) (pkV fs f w) g3 htw (Nat.min_le_left _ _) g1 ?_
    have e : (p.length : Int) + 1 = ((p ++ [f]).length : Int) := by simp
    rw [e]
    refine ih (p ++ [f]) (w - pkV fs f w * f.f1.toNat) _ (by rw [hLe, snoc]) (by omega) (by simp [hcs]) g1.1 ?_
    rw [cntV] at h
    rw [List.append_assoc]
    exact h
/-- The program's best. -/
def bestV (L : List S50) (w : Nat) : List Int × Int × Int × Int := if valV L w < 0 then ([], 0, 0, 8) else (cntV L w, usedV L (cntV L w), gainsV L (cntV L w), 0)
theorem bestShelf_ev (L : List S50) (h : facingsV L = true) (w : Nat) (hw : w ≤ 2000) : Ev (fun k => impl_BestShelf.f k L (w : Int)) (bestV L w) := by
  obtain ⟨hl, hL⟩ := facings_ok h
  unfold impl_BestShelf.f
  refine Ev.bind (shelfCode_ev L h w (by omega) (by omega)) (Ev.pos rfl (Ev.bind (bestGains_ev L hL hl w (by omega)) ?_))
  have h0 : rd_L2 (tabV w L) 0 = rowV L w := tabV_at w [] L
  rw [h0, rowV_at L w w (Nat.le_refl _), rowV_len]
  refine Ev.pos (by rw [tabV_len]; omega) (Ev.pos (by omega) (Ev.pos (by omega) ?_))
  unfold bestV
  refine Ev.ite (fun c => Ev.some' rfl) (fun c => ?_)
  have hk := cntV_ok L w hL (by omega)
  exact best_l0 L hL hl w (by omega) L [] w [] rfl (Nat.le_refl _) rfl (by omega) (Ev.bind (plan_ev L (cntV L w) hL hl hk.1) (Ev.some' rfl))
section
variable (L p fs : List S50) (f : S50) (T B : List (List Int)) (W : Nat)
variable (hLe : L = p ++ f :: fs) (hL : ∀ x ∈ L, fOK x) (hl : L.length ≤ 12) (hT : T.length = p.length) (hW : W ≤ 2100)
include hLe hL hl hT hW
theorem spc_l2 (pre post : List Int) (hp : pre.length + 1 + post.length = W + 1) {r : List Int × Int × Int × Int} : ∀ d n cur, n + d = f.f3.length + 1 → -1 ≤ cur → cur ≤ 100000000 →
    Ev (fun k => spec_BestShelf.l1 k L (W : Int) (T ++ (pre ++ upV (valV fs) f pre.length d n cur :: post) :: rowV fs W :: B) (T.length : Int) ((pre.length : Int) + 1)) r →
    Ev (fun k => spec_BestShelf.l2 k L (W : Int) (T ++ (pre ++ cur :: post) :: rowV fs W :: B) (T.length : Int) (pre.length : Int) (n : Int)) r := by
  have hf : fOK f := hL f (by rw [hLe]; simp)
  have hfs : ∀ x ∈ fs, fOK x := fun x hx => hL x (by rw [hLe]; simp [hx])
  have hpl : p.length + 1 + fs.length ≤ 12 := by rw [hLe, List.length_append, List.length_cons] at hl; omega
  have hLl : L.length = p.length + 1 + fs.length := by rw [hLe, List.length_append, List.length_cons]; omega
  have hrd : rd_T50 L (T.length : Int) = f := by rw [hT, hLe]; exact rdF_mid p f fs
  have h6 := hf.2.2.2.1
  have hw1 : wrap64 ((T.length : Int) + 1) = (T.length : Int) + 1 := w64 (by omega) (by omega)
  have hw4 : wrap64 ((pre.length : Int) + 1) = (pre.length : Int) + 1 := w64 (by omega) (by omega)
  intro d
  induction d with
  | zero =>
    intro n cur hn h0 h1 h
    refine Ev.up1 ?_
    simp only [spec_BestShelf.l2, hrd]
    refine Ev.pos (by omega) (Ev.pos (by omega) (Ev.neg (by omega) ?_))
    refine Ev.via (f := fun k => spec_BestShelf.l1 k L (W : Int) (T ++ (pre ++ cur :: post) :: rowV fs W :: B) (T.length : Int) (wrap64 ((pre.length : Int) + 1))) ?_ (fun k => rfl)
    rw [hw4]
    exact h
  | succ d ih =>
    intro n cur hn h0 h1 h
    have hm := nmul_le hf n (by omega)
    have hw2 : wrap64 ((n : Int) * f.f1) = ((n * f.f1.toNat : Nat) : Int) := by rw [nmul hf n]; exact w64 (by omega) (by omega)
    rw [upV] at h
    refine Ev.up1 ?_
    simp only [spec_BestShelf.l2, hrd, hw2]
    refine Ev.pos (by omega) (Ev.pos (by omega) (Ev.pos (by omega) ?_))
    by_cases c : n * f.f1.toNat ≤ pre.length
    · rw [if_pos c] at h
      have hw3 : wrap64 ((pre.length : Int) - ((n * f.f1.toNat : Nat) : Int)) = ((pre.length - n * f.f1.toNat : Nat) : Int) := by rw [w64 (by omega) (by omega)]; omega
      have hr1 : rd_L2 (T ++ (pre ++ cur :: post) :: rowV fs W :: B) ((T.length : Int) + 1) = rowV fs W := rdL_mid1 _ _ _ _
      have hr0 : rd_L2 (T ++ (pre ++ cur :: post) :: rowV fs W :: B) (T.length : Int) = pre ++ cur :: post := rdL_mid _ _ _
      have hv := rowV_at fs W (pre.length - n * f.f1.toNat) (by omega)
      have hb := valV_bd fs hfs (pre.length - n * f.f1.toNat)
      have hlen : ((pre ++ cur :: post).length : Int) = (W : Int) + 1 := by rw [List.length_append, List.length_cons]; omega
      have hTl : (T.length : Int) + 1 < ((T ++ (pre ++ cur :: post) :: rowV fs W :: B).length : Int) := by rw [List.length_append, List.length_cons, List.length_cons]; omega
      refine Ev.up1 ?_
      simp only [spec_BestShelf.j3, hrd, hw1, hw2, hw3, hr1, hr0, hv]
      refine Ev.pos (decide_eq_true (by omega)) (Ev.pos (by omega) (Ev.pos hTl (Ev.pos (by omega) (Ev.pos (by omega) (Ev.pos (by omega) (Ev.pos (by rw [rowV_len]; omega) ?_))))))
      by_cases c2 : 0 ≤ valV fs (pre.length - n * f.f1.toNat)
      · rw [if_pos c2] at h
        have hg := gainV_bd hf.2.2.2 n
        refine Ev.pos c2 (Ev.pos (by omega) (Ev.pos (by omega) (Ev.pos (by omega) ?_)))
        refine Ev.bind (specGain_ev hf.2.2.2 f.f0 f.f1 f.f2 n (by omega)) ?_
        rw [rd_mid, w64 (x := valV fs (pre.length - n * f.f1.toNat) + gainV f.f3 n) (by omega) (by omega), show (pre ++ cur :: post).set (pre.length : Int).toNat (mx cur (valV fs (pre.length - n * f.f1.toNat) + gainV f.f3 n)) = pre ++ (mx cur (valV fs (pre.length - n * f.f1.toNat) + gainV f.f3 n)) :: post from set_mid _ _ _ _, set_mid, w64n (by omega)]
        have hmx := mx_ge cur (valV fs (pre.length - n * f.f1.toNat) + gainV f.f3 n)
        exact ih (n + 1) _ (by omega) (by omega) (by omega) h
      · rw [if_neg c2] at h
        refine Ev.neg (by omega) ?_
        rw [w64n (by omega)]
        exact ih (n + 1) cur (by omega) h0 h1 h
    · rw [if_neg c] at h
      refine Ev.up1 ?_
      simp only [spec_BestShelf.j3, hw4]
      exact Ev.neg (by rw [decide_eq_false (by omega)]; exact ff) h
theorem spc_l1 {r : List Int × Int × Int × Int} : ∀ e w, w + e = W + 1 →
    Ev (fun k => spec_BestShelf.l0 k L (W : Int) (T ++ rowV (f :: fs) W :: rowV fs W :: B) (wrap64 ((T.length : Int) - 1))) r →
    Ev (fun k => spec_BestShelf.l1 k L (W : Int) (T ++ ((List.range w).map (valV (f :: fs)) ++ List.replicate e 0) :: rowV fs W :: B) (T.length : Int) (w : Int)) r := by
  intro e
  have hf : fOK f := hL f (by rw [hLe]; simp)
  have hLl : L.length = p.length + 1 + fs.length := by rw [hLe, List.length_append, List.length_cons]; omega
  have hrd : rd_T50 L (T.length : Int) = f := by rw [hT, hLe]; exact rdF_mid p f fs
  induction e with
  | zero =>
    intro w hw h
    obtain rfl : w = W + 1 := by omega
    refine Ev.step (fun k => rfl) (Ev.neg (by omega) ?_)
    rw [show List.replicate 0 (0 : Int) = [] from rfl, List.append_nil]
    exact h
  | succ e ih =>
    intro w hw h
    have hpl : ((List.range w).map (valV (f :: fs))).length = w := by simp
    have hr0 : rd_L2 (T ++ ((List.range w).map (valV (f :: fs)) ++ 0 :: List.replicate e 0) :: rowV fs W :: B) (T.length : Int) = (List.range w).map (valV (f :: fs)) ++ 0 :: List.replicate e 0 := rdL_mid _ _ _
    have hlen : (((List.range w).map (valV (f :: fs)) ++ 0 :: List.replicate e 0).length : Int) = (W : Int) + 1 := by rw [List.length_append, List.length_cons, hpl, List.length_replicate]; omega
    have hTl : (T.length : Int) < ((T ++ ((List.range w).map (valV (f :: fs)) ++ 0 :: List.replicate e 0) :: rowV fs W :: B).length : Int) := by rw [List.length_append, List.length_cons, List.length_cons]; omega
    have hset : ((List.range w).map (valV (f :: fs)) ++ 0 :: List.replicate e 0).set (w : Int).toNat (-1) = (List.range w).map (valV (f :: fs)) ++ (-1) :: List.replicate e 0 := by
      have := set_mid ((List.range w).map (valV (f :: fs))) 0 (-1) (List.replicate e 0)
      rw [hpl] at this
      exact this
    rw [List.replicate_succ]
    refine Ev.up1 ?_
    simp only [spec_BestShelf.l1, hr0, hrd, hlen]
    refine Ev.pos (by omega) (Ev.pos (by omega) (Ev.pos hTl (Ev.pos (by omega) (Ev.pos (by omega) (Ev.pos (by omega) ?_)))))
    rw [hset, set_mid]
    have key := spc_l2 L p fs f T B W hLe hL hl hT hW ((List.range w).map (valV (f :: fs))) (List.replicate e 0) (by simp; omega) (r := r) (f.f3.length + 1 - f.f2.toNat) f.f2.toNat (-1) (by have := hf.2; omega) (by omega) (by omega)
    rw [hpl, show ((f.f2.toNat : Nat) : Int) = f.f2 by have := hf.2.1; omega] at key
    refine key ?_
    have := ih (w + 1) (by omega) h
    rw [List.range_succ, List.map_append, List.append_assoc] at this
    exact this
end
theorem spc_l0 (L : List S50) (hL : ∀ x ∈ L, fOK x) (hl : L.length ≤ 12) (W : Nat) (hW : W ≤ 2100) {r : List Int × Int × Int × Int} (h : Ev (fun k => spec_BestShelf.l0 k L (W : Int) (tabV W L) (-1)) r) : ∀ n, n ≤ L.length →
    Ev (fun k => spec_BestShelf.l0 k L (W : Int) (List.replicate n [] ++ tabV W (L.drop n)) ((n : Int) - 1)) r := by
  intro n
  induction n with
  | zero =>
    intro _
    exact h
  | succ n ih =>
    intro hn
    have hd := drop_at L n (by omega)
    obtain ⟨B, hB⟩ := tabV_ne W (L.drop (n + 1))
    have hLe : L = L.take n ++ L.getD n z50 :: L.drop (n + 1) := by rw [← hd, List.take_append_drop]
    have e1 : (((n + 1 : Nat) : Int) - 1) = ((List.replicate n ([] : List Int)).length : Int) := by rw [List.length_replicate]; omega
    have e2 : ((List.replicate n ([] : List Int)).length : Int) = (n : Int) := by simp
    have ih := ih (by omega)
    rw [hd, tabV, hB] at ih
    have hw2 : wrap64 ((W : Int) + 1) = ((W + 1 : Nat) : Int) := w64n (by omega)
    rw [rep_snoc, List.append_assoc, hB, e1, show [([] : List Int)] ++ rowV (L.drop (n + 1)) W :: B = [] :: rowV (L.drop (n + 1)) W :: B from rfl]
    refine Ev.up1 ?_
    simp only [spec_BestShelf.l0, hw2, Int.toNat_natCast (W + 1)]
    refine Ev.pos (by omega) (Ev.pos (by omega) (Ev.pos (by omega) (Ev.pos (by omega) (Ev.pos (by rw [List.length_append, List.length_cons]; omega) ?_))))
    rw [set_mid]
    refine spc_l1 L (L.take n) (L.drop (n + 1)) (L.getD n z50) (List.replicate n []) B W hLe hL hl (by simp; omega) hW (W + 1) 0 (by omega) ?_
    rw [e2, w64 (by omega) (by omega)]
    exact ih
theorem specTab_ev (L : List S50) (h : facingsV L = true) (w : Nat) (hw : w ≤ 2000) {r : List Int × Int × Int × Int} (hr : Ev (fun k => spec_BestShelf.l0 k L (w : Int) (tabV w L) (-1)) r) : Ev (fun k => spec_BestShelf.f k L (w : Int)) r := by
  obtain ⟨hl, hL⟩ := facings_ok h
  have hw1 : wrap64 ((L.length : Int) + 1) = ((L.length + 1 : Nat) : Int) := w64n (by omega)
  have hw2 : wrap64 ((w : Int) + 1) = ((w + 1 : Nat) : Int) := w64n (by omega)
  unfold spec_BestShelf.f
  refine Ev.neg (by omega) (Ev.bind (specFacings_ev L) (Ev.pos h (Ev.ret (l01In_ev _ _ _) (Ev.pos (decide_eq_true ⟨by omega, by omega⟩) ?_))))
  rw [hw1, hw2, Int.toNat_natCast, Int.toNat_natCast]
  refine Ev.pos (by omega) (Ev.pos (by omega) (Ev.ret rfl (Ev.pos (by omega) (Ev.pos (by omega) (Ev.pos (by omega) (Ev.pos (by simp; omega) ?_))))))
  have hs : (List.replicate (L.length + 1) ([] : List Int)).set (L.length : Int).toNat (List.replicate (w + 1) 0) = List.replicate L.length [] ++ tabV w (L.drop L.length) := by
    have := set_mid (List.replicate L.length ([] : List Int)) [] (List.replicate (w + 1) 0) []
    rw [List.length_replicate] at this
    rw [rep_snoc, this, List.drop_length, tabV, rowV_nil]
  rw [hs, w64 (by omega) (by omega)]
  exact spc_l0 L hL hl w (by omega) hr L.length (Nat.le_refl _)
theorem specNone_ev (L : List S50) (h : facingsV L = true) (w : Nat) (hw : w ≤ 2000) (hv : valV L w < 0) : Ev (fun k => spec_BestShelf.f k L (w : Int)) ([], 0, 0, 8) := by
  refine specTab_ev L h w hw ?_
  have h0 : rd_L2 (tabV w L) 0 = rowV L w := tabV_at w [] L
  refine Ev.up1 ?_
  simp only [spec_BestShelf.l0, h0, rowV_at L w w (Nat.le_refl _), rowV_len, tabV_len]
  exact Ev.neg (by omega) (Ev.pos (by omega) (Ev.pos (by omega) (Ev.pos (by omega) (Ev.pos hv (Ev.some' rfl)))))
theorem spcOf_l0 (L : List S50) (w : Int) (cs : List Int) (hL : ∀ x ∈ L, fOK x) (hl : L.length ≤ 12) {r : List Int × Int × Int × Int} : ∀ (a p : List S50) (b q : List Int) (u g : Int), L = p ++ a → cs = q ++ b → p.length = q.length → a.length = b.length → 0 ≤ u → u ≤ 14000 * p.length → 0 ≤ g → g ≤ 600000 * p.length →
    (okC a b → r = if u + usedV a b > w then ([], 0, 0, 14) else (cs, u + usedV a b, g + gainsV a b, 0)) → (¬ okC a b → r = ([], 0, 0, 3)) →
    Ev (fun k => spec_ShelfOf.l0 k L w cs (p.length : Int) q u g) r := by
  intro a
  induction a with
  | nil =>
    intro p b q u g hLe hcs hpq hab hu0 hu1 hg0 hg1 h1 _
    obtain rfl : b = [] := List.eq_nil_of_length_eq_zero hab.symm
    rw [h1 trivial]
    rw [List.append_nil] at hLe hcs
    refine Ev.up1 ?_
    simp only [spec_ShelfOf.l0, usedV, gainsV, Int.add_zero]
    rw [← hcs]
    refine Ev.neg (by rw [hLe]; omega) (Ev.ite (fun _ => Ev.some' rfl) (fun _ => Ev.some' rfl))
  | cons f a ih =>
    intro p b q u g hLe hcs hpq hab hu0 hu1 hg0 hg1 h1 h2
    cases b with
    | nil => simp at hab
    | cons c b =>
      have hf : fOK f := hL f (by rw [hLe]; simp)
      have h6 := hf.2.2.2.1
      have hll : L.length = p.length + (a.length + 1) := by rw [hLe, List.length_append, List.length_cons]
      have hlt : (p.length : Int) < (L.length : Int) := by rw [hLe]; exact len_lt p f a
      have hltc : (p.length : Int) < (cs.length : Int) := by rw [hcs, hpq]; exact len_lt q c b
      have hrd : rd_T50 L (p.length : Int) = f := by rw [hLe]; exact rdF_mid p f a
      have hrc : rd cs (p.length : Int) = c := by rw [hcs, hpq]; exact rd_mid q c b
      refine Ev.up1 ?_
      simp only [spec_ShelfOf.l0, hrd, hrc]
      refine Ev.pos hlt (Ev.pos (by omega) (Ev.pos hltc (Ev.ret (l01In_ev _ _ _) ?_)))
      by_cases hc : f.f2 ≤ c ∧ c ≤ (f.f3.length : Int)
      · obtain ⟨m, rfl⟩ : ∃ m : Nat, c = (m : Int) := ⟨c.toNat, by have := hf.2.1; omega⟩
        have hm := nmul_le hf m (by omega)
        have hgb := gainV_bd hf.2.2.2 m
        refine Ev.pos (decide_eq_true hc) (Ev.pos (by omega) (Ev.bind (specGain_ev hf.2.2.2 f.f0 f.f1 f.f2 m (by omega)) ?_))
        rw [nmul hf m, w64 (x := ((m * f.f1.toNat : Nat) : Int)) (by omega) (by omega), w64 (x := u + ((m * f.f1.toNat : Nat) : Int)) (by omega) (by omega), w64 (x := g + gainV f.f3 m) (by omega) (by omega), w64 (by omega) (by omega), ← len_snoc p f]
        refine ih (p ++ [f]) b (q ++ [(m : Int)]) _ _ (by rw [hLe, snoc]) (by rw [hcs, snoc]) (by simp [hpq]) (by simpa using hab) (by omega) (by rw [List.length_append, List.length_singleton]; omega) (by omega) (by rw [List.length_append, List.length_singleton]; omega) (fun hk => ?_) (fun hk => h2 (fun h => hk h.2))
        rw [h1 ⟨hc, hk⟩, usedV, gainsV, nmul hf m, Int.toNat_natCast, Int.add_assoc, Int.add_assoc]
      · rw [h2 (fun h => hc h.1)]
        exact Ev.neg (by rw [decide_eq_false hc]; exact ff) (Ev.some' rfl)
theorem facing_ev (L : List S50) : impl_Facing.f L = some (decide ((L.length : Int) ≤ 4096)) := rfl
theorem specShelf_ok (L : List S50) (h : facingsV L = true) (w : Int) (h0 : 0 ≤ w) (h1 : w ≤ 2000) (cs : List Int) (hc : okC L cs) : Ev (fun k => spec_ShelfOf.f k L w cs) (shelfV L w cs) := by
  obtain ⟨hl, hL⟩ := facings_ok h
  have hb := okC_bd L cs hL hc
  have hG := specFacings_ev L
  rw [h] at hG
  unfold spec_ShelfOf.f
  refine Ev.neg (by omega) ?_
  rw [decide_eq_false (by omega)]
  refine Ev.up1 ?_
  simp only [spec_ShelfOf.j0]
  refine Ev.neg ff (Ev.bind hG (Ev.pos rfl (Ev.ret (l01In_ev _ _ _) (Ev.pos (decide_eq_true ⟨h0, h1⟩) (Ev.pos (by omega) ?_)))))
  refine spcOf_l0 L w cs hL hl L [] cs [] 0 0 rfl rfl rfl (by omega) (by omega) (by simp) (by omega) (by simp) (fun _ => ?_) (fun g => absurd hc g)
  unfold shelfV
  rw [Int.zero_add, Int.zero_add]
section
variable (L p fs : List S50) (f : S50) (W : Nat) (hLe : L = p ++ f :: fs) (hL : ∀ x ∈ L, fOK x) (hl : L.length ≤ 12) (hW : W ≤ 2100)
include hLe hL hl hW
theorem pick_step (w : Nat) (hw : w ≤ W) (cs : List Int) (hcs : cs.length ≤ 100) {r : List Int × Int × Int × Int} (n : Nat) (hn : n ≤ f.f3.length)
    (hyes : n * f.f1.toNat ≤ w → hitP (valV fs) f w (valV (f :: fs) w) n → Ev (fun k => spec_BestShelf.l3 k L (W : Int) (tabV W L) (cs ++ [(n : Int)]) ((w - n * f.f1.toNat : Nat) : Int) ((p.length : Int) + 1)) r)
    (hno : ¬ (n * f.f1.toNat ≤ w ∧ hitP (valV fs) f w (valV (f :: fs) w) n) → Ev (fun k => spec_BestShelf.l4 k L (W : Int) (tabV W L) cs (w : Int) (p.length : Int) (wrap64 ((n : Int) - 1))) r) :
    Ev (fun k => spec_BestShelf.l4 k L (W : Int) (tabV W L) cs (w : Int) (p.length : Int) (n : Int)) r := by
  have hf : fOK f := hL f (by rw [hLe]; simp)
  have hfs : ∀ x ∈ fs, fOK x := fun x hx => hL x (by rw [hLe]; simp [hx])
  have hpl : p.length + 1 + fs.length ≤ 12 := by rw [hLe, List.length_append, List.length_cons] at hl; omega
  have hLl : L.length = p.length + 1 + fs.length := by rw [hLe, List.length_append, List.length_cons]; omega
  have hrd : rd_T50 L (p.length : Int) = f := by rw [hLe]; exact rdF_mid p f fs
  have hw1 : wrap64 ((p.length : Int) + 1) = (p.length : Int) + 1 := w64 (by omega) (by omega)
  obtain ⟨hr0, hr1⟩ := take_app L p f fs W hLe
  have hT : ((tabV W L).length : Int) = (p.length : Int) + 1 + fs.length + 1 := by rw [tabV_len]; omega
  have h6 := hf.2.2.2.1
  have hm := nmul_le hf n (by omega)
  have hg := gainV_bd hf.2.2.2 n
  have hw2 : wrap64 ((n : Int) * f.f1) = ((n * f.f1.toNat : Nat) : Int) := by rw [nmul hf n]; exact w64 (by omega) (by omega)
  refine Ev.up1 ?_
  by_cases cw : n * f.f1.toNat ≤ w
  · have hw3 : wrap64 ((w : Int) - ((n * f.f1.toNat : Nat) : Int)) = ((w - n * f.f1.toNat : Nat) : Int) := by rw [w64 (by omega) (by omega)]; omega
    have hv := rowV_at fs W (w - n * f.f1.toNat) (by omega)
    have hv2 := rowV_at (f :: fs) W w hw
    have hb := valV_bd fs hfs (w - n * f.f1.toNat)
    unfold hitP at hyes hno
    simp only [spec_BestShelf.l4, hrd, hw1, hw2, hw3, hr0, hr1, hv, hv2, rowV_len]
    refine Ev.pos (by omega) (Ev.pos (by omega) (Ev.neg (by omega) (Ev.pos (by omega) (Ev.pos (by omega) (Ev.pos (by omega) (Ev.pos (by omega) ?_))))))
    by_cases c : valV fs (w - n * f.f1.toNat) < 0
    · exact Ev.pos c (hno (by omega))
    · refine Ev.neg c (Ev.bind (specGain_ev hf.2.2.2 f.f0 f.f1 f.f2 n hn) ?_)
      rw [w64 (x := valV fs (w - n * f.f1.toNat) + gainV f.f3 n) (by omega) (by omega)]
      refine Ev.pos (by omega) (Ev.pos (by omega) (Ev.pos (by omega) ?_))
      by_cases c2 : valV fs (w - n * f.f1.toNat) + gainV f.f3 n = valV (f :: fs) w
      · exact Ev.pos c2 (Ev.pos (by omega) (hyes cw ⟨by omega, c2⟩))
      · exact Ev.neg c2 (hno (fun h => c2 h.2.2))
  · simp only [spec_BestShelf.l4, hrd, hw2]
    exact Ev.pos (by omega) (Ev.pos (by omega) (Ev.pos (by omega) (hno (fun h => cw h.1))))
theorem pick_l4 (w : Nat) (hw : w ≤ W) (cs : List Int) (hcs : cs.length ≤ 100) {r : List Int × Int × Int × Int} : ∀ n m, m ≤ n → n ≤ f.f3.length → m * f.f1.toNat ≤ w → hitP (valV fs) f w (valV (f :: fs) w) m →
    Ev (fun k => spec_BestShelf.l3 k L (W : Int) (tabV W L) (cs ++ [(pickV (valV fs) f w (valV (f :: fs) w) (Nat.min n (w / f.f1.toNat)) : Int)]) ((w - pickV (valV fs) f w (valV (f :: fs) w) (Nat.min n (w / f.f1.toNat)) * f.f1.toNat : Nat) : Int) ((p.length : Int) + 1)) r →
    Ev (fun k => spec_BestShelf.l4 k L (W : Int) (tabV W L) cs (w : Int) (p.length : Int) (n : Int)) r := by
  have hf : fOK f := hL f (by rw [hLe]; simp)
  have h1 : 0 < f.f1.toNat := by have := hf.1; omega
  intro n
  induction n with
  | zero =>
    intro m hm hn hmw hh h
    obtain rfl : m = 0 := by omega
    rw [show Nat.min 0 (w / f.f1.toNat) = 0 from Nat.min_eq_left (Nat.zero_le _)] at h
    exact pick_step L p fs f W hLe hL hl hW w hw cs hcs 0 hn (fun _ _ => h) (fun g => absurd ⟨hmw, hh⟩ g)
  | succ n ih =>
    intro m hm hn hmw hh h
    have h6 := hf.2.2.2.1
    have hle := Nat.le_div_iff_mul_le (x := n + 1) (y := w) h1
    have next : ∀ (_ : m ≠ n + 1), Ev (fun k => spec_BestShelf.l3 k L (W : Int) (tabV W L) (cs ++ [(pickV (valV fs) f w (valV (f :: fs) w) (Nat.min n (w / f.f1.toNat)) : Int)]) ((w - pickV (valV fs) f w (valV (f :: fs) w) (Nat.min n (w / f.f1.toNat)) * f.f1.toNat : Nat) : Int) ((p.length : Int) + 1)) r → Ev (fun k => spec_BestShelf.l4 k L (W : Int) (tabV W L) cs (w : Int) (p.length : Int) (wrap64 (((n + 1 : Nat) : Int) - 1))) r := fun hne hr => by
      rw [w64 (by omega) (by omega), show (((n + 1 : Nat) : Int) - 1) = (n : Int) by omega]
      exact ih m (by omega) (by omega) hmw hh hr
    by_cases cw : (n + 1) * f.f1.toNat ≤ w
    · have hq := hle.2 cw
      have e1 : Nat.min (n + 1) (w / f.f1.toNat) = n + 1 := Nat.min_eq_left hq
      have e2 : Nat.min n (w / f.f1.toNat) = n := Nat.min_eq_left (by omega)
      rw [e1, pickV] at h
      rw [e2] at next
      refine pick_step L p fs f W hLe hL hl hW w hw cs hcs (n + 1) hn (fun _ g => ?_) (fun g => ?_)
      · unfold hitP at g
        rw [if_pos g] at h
        exact h
      · have g' : ¬ (0 ≤ valV fs (w - (n + 1) * f.f1.toNat) ∧ valV fs (w - (n + 1) * f.f1.toNat) + gainV f.f3 (n + 1) = valV (f :: fs) w) := fun h2 => g ⟨cw, h2⟩
        rw [if_neg g'] at h
        exact next (by rintro rfl; exact g ⟨cw, hh⟩) h
    · have hq : w / f.f1.toNat ≤ n := by
        have := mt hle.1 cw
        omega
      have e1 : Nat.min (n + 1) (w / f.f1.toNat) = w / f.f1.toNat := Nat.min_eq_right (by omega)
      have e2 : Nat.min n (w / f.f1.toNat) = w / f.f1.toNat := Nat.min_eq_right hq
      rw [e1] at h
      rw [e2] at next
      exact pick_step L p fs f W hLe hL hl hW w hw cs hcs (n + 1) hn (fun g _ => absurd g cw) (fun _ => next (by rintro rfl; exact cw hmw) h)
end
theorem pick_l3 (L : List S50) (hL : ∀ x ∈ L, fOK x) (hl : L.length ≤ 12) (W : Nat) (hW : W ≤ 2100) {r : List Int × Int × Int × Int} : ∀ (fs p : List S50) (w : Nat) (cs : List Int), L = p ++ fs → w ≤ W → cs.length = p.length → 0 ≤ valV fs w →
    Ev (fun k => (spec_ShelfOf.f k L (W : Int) (cs ++ cntV fs w)).bind fun bt => some (bt.1, bt.2.1, bt.2.2.1, bt.2.2.2)) r →
    Ev (fun k => spec_BestShelf.l3 k L (W : Int) (tabV W L) cs (w : Int) (p.length : Int)) r := by
  intro fs
  induction fs with
  | nil =>
    intro p w cs hLe hw hcs hv h
    rw [List.append_nil] at hLe
    rw [cntV, List.append_nil] at h
    exact Ev.step (fun k => rfl) (Ev.neg (by rw [hLe]; omega) h)
  | cons f fs ih =>
    intro p w cs hLe hw hcs hv h
    have hf : fOK f := hL f (by rw [hLe]; simp)
    have hlt : (p.length : Int) < (L.length : Int) := by rw [hLe]; exact len_lt p f fs
    have hrd : rd_T50 L (p.length : Int) = f := by rw [hLe]; exact rdF_mid p f fs
    obtain ⟨g1, g2, g3, g4, g5⟩ := pk_ok hf hv
    have hkw : pkV fs f w * f.f1.toNat ≤ w := Nat.le_trans (Nat.mul_le_mul_right _ g3) ((Nat.le_div_iff_mul_le (by have := hf.1; omega)).1 (Nat.min_le_right _ _))
    refine Ev.step (fun k => rfl) (Ev.pos hlt (Ev.pos (by omega) ?_))
    rw [hrd]
    refine pick_l4 L p fs f W hLe hL hl hW w hw cs (by omega) f.f3.length (pkV fs f w) (Nat.le_trans g3 (Nat.min_le_left _ _)) (Nat.le_refl _) hkw g1 ?_
    have e : (p.length : Int) + 1 = ((p ++ [f]).length : Int) := by simp
    rw [e]
    refine ih (p ++ [f]) (w - pkV fs f w * f.f1.toNat) _ (by rw [hLe, snoc]) (by omega) (by simp [hcs]) g1.1 ?_
    rw [cntV] at h
    rw [List.append_assoc]
    exact h
theorem specBest_ev (L : List S50) (h : facingsV L = true) (w : Nat) (hw : w ≤ 2000) : Ev (fun k => spec_BestShelf.f k L (w : Int)) (bestV L w) := by
  obtain ⟨hl, hL⟩ := facings_ok h
  unfold bestV
  by_cases hv : valV L w < 0
  · rw [if_pos hv]
    exact specNone_ev L h w hw hv
  rw [if_neg hv]
  have hk := cntV_ok L w hL (by omega)
  have hs := specShelf_ok L h (w : Int) (by omega) (by omega) (cntV L w) hk.1
  have hsV : shelfV L (w : Int) (cntV L w) = (cntV L w, usedV L (cntV L w), gainsV L (cntV L w), 0) := by unfold shelfV; rw [if_neg (by omega)]
  rw [hsV] at hs
  refine specTab_ev L h w hw ?_
  have h0 : rd_L2 (tabV w L) 0 = rowV L w := tabV_at w [] L
  refine Ev.up1 ?_
  simp only [spec_BestShelf.l0, h0, rowV_at L w w (Nat.le_refl _), rowV_len, tabV_len]
  refine Ev.neg (by omega) (Ev.pos (by omega) (Ev.pos (by omega) (Ev.pos (by omega) (Ev.neg hv ?_))))
  exact pick_l3 L hL hl w (by omega) L [] w [] rfl (Nat.le_refl _) rfl (by omega) (Ev.bind hs (Ev.some' rfl))
theorem bestV_len (L : List S50) (h : facingsV L = true) (w : Nat) : (bestV L w).1.length ≤ 4096 := by
  obtain ⟨hl, hL⟩ := facings_ok h
  unfold bestV
  split
  · simp
  · have := okC_bd L _ hL (cntV_ok L w hL (by omega)).1
    simp only; omega
/-- The program's and the reference's best, for any width. -/
theorem best_both (L : List S50) (w : Int) : ∃ v : List Int × Int × Int × Int, Ev (fun k => spec_BestShelf.f k L w) v ∧ Ev (fun k => impl_BestShelf.f k L w) v ∧ v.1.length ≤ 4096 := by
  have hcode : ∀ c : Int, c ≠ 0 → Ev (fun k => impl_shelfCode.f k L w) c → Ev (fun k => impl_BestShelf.f k L w) ([], 0, 0, c) := fun c hc h => by
    unfold impl_BestShelf.f
    exact Ev.bind h (Ev.neg hc (Ev.some' rfl))
  by_cases c2 : (L.length : Int) ≤ 4096
  · have hF := implFacings_ev L
    have hG := specFacings_ev L
    cases c3 : facingsV L with
    | false =>
      rw [c3] at hF hG
      refine ⟨([], 0, 0, 1), ?_, hcode 1 (by decide) ?_, by simp⟩
      · unfold spec_BestShelf.f
        exact Ev.neg (by omega) (Ev.bind hG (Ev.neg ff (Ev.some' rfl)))
      · unfold impl_shelfCode.f
        exact Ev.ret (facing_ev L) (Ev.pos (decide_eq_true c2) (Ev.bind hF (Ev.neg ff (Ev.some' rfl))))
    | true =>
      by_cases c4 : 0 ≤ w ∧ w ≤ 2000
      · obtain ⟨u, rfl⟩ : ∃ u : Nat, w = (u : Int) := ⟨w.toNat, by omega⟩
        exact ⟨bestV L u, specBest_ev L c3 u (by omega), bestShelf_ev L c3 u (by omega), bestV_len L c3 u⟩
      · rw [c3] at hF hG
        refine ⟨([], 0, 0, 5), ?_, hcode 5 (by decide) ?_, by simp⟩
        · unfold spec_BestShelf.f
          exact Ev.neg (by omega) (Ev.bind hG (Ev.pos rfl (Ev.ret (l01In_ev _ _ _) (Ev.neg (by rw [decide_eq_false c4]; exact ff) (Ev.some' rfl)))))
        · unfold impl_shelfCode.f
          exact Ev.ret (facing_ev L) (Ev.pos (decide_eq_true c2) (Ev.bind hF (Ev.pos rfl (Ev.ret (within_ev _ _ _) (Ev.neg (by rw [decide_eq_false c4]; exact ff) (Ev.some' rfl))))))
  · refine ⟨([], 0, 0, 2), ?_, hcode 2 (by decide) ?_, by simp⟩
    · unfold spec_BestShelf.f
      exact Ev.pos (by omega) (Ev.some' rfl)
    · unfold impl_shelfCode.f
      exact Ev.ret (facing_ev L) (Ev.neg (by rw [decide_eq_false c2]; exact ff) (Ev.some' rfl))
theorem toIntS_l0 : ∀ (a p t : List Int), t.length = a.length → (p ++ a).length < 4611686018427387904 →
    Ev (fun k => laws_toIntS.l0 k (p ++ a) (p ++ t) (p.length : Int)) (p ++ a) := by
  intro a
  induction a with
  | nil =>
    intro p t ht hl
    obtain rfl : t = [] := List.eq_nil_of_length_eq_zero ht
    exact Ev.step (fun k => rfl) (Ev.neg (len_end p) (Ev.some' rfl))
  | cons x a ih =>
    intro p t ht hl
    match t, ht with
    | y :: t, ht =>
      have hl' : (p ++ x :: a).length < 4611686018427387904 := hl
      rw [List.length_append, List.length_cons] at hl'
      refine Ev.step (fun k => rfl) (Ev.pos (len_lt p x a) (Ev.pos (by omega) (Ev.pos (len_lt p y t) ?_)))
      rw [rd_mid p x a, set_mid, w64 (by omega) (by omega), ← len_snoc p x, snoc p x a, snoc p x t]
      exact ih (p ++ [x]) t (by simpa using ht) (by rw [← snoc]; exact hl)
theorem toIntS_ev (a : List Int) (hl : a.length ≤ 1048576) : Ev (fun k => laws_toIntS.f k a) a := by
  unfold laws_toIntS.f
  refine Ev.pos (by omega) (Ev.pos (by omega) ?_)
  rw [Int.toNat_natCast]
  exact toIntS_l0 a [] (List.replicate a.length 0) (by simp) (by simp; omega)
theorem eqIntS_l0 : ∀ (a b p q : List Int), p.length = q.length → a.length = b.length → (p ++ a).length < 4611686018427387904 →
    Ev (fun k => laws_eqIntS.l0 k (p ++ a) (q ++ b) (p.length : Int)) (decide (a = b)) := by
  intro a
  induction a with
  | nil =>
    intro b p q hpq hab hl
    obtain rfl : b = [] := List.eq_nil_of_length_eq_zero hab.symm
    refine Ev.step (fun k => rfl) (Ev.neg (len_end p) (Ev.some' rfl))
  | cons x a ih =>
    intro b p q hpq hab hl
    match b, hab with
    | y :: b, hab =>
      have hq : ((p.length : Int)) < ((q ++ y :: b).length : Int) := by rw [hpq]; exact len_lt q y b
      have hl' : (p ++ x :: a).length < 4611686018427387904 := hl
      rw [List.length_append, List.length_cons] at hl'
      refine Ev.step (fun k => rfl) (Ev.pos (len_lt p x a) (Ev.pos (by omega) (Ev.pos hq ?_)))
      rw [rd_mid p x a, hpq, rd_mid q y b, ← hpq]
      by_cases e : x = y
      · subst e
        refine Ev.pos (by rfl) ?_
        rw [w64 (by omega) (by omega), ← len_snoc p x, snoc p, snoc q]
        exact Ev.eq (ih b (p ++ [x]) (q ++ [x]) (by simp [hpq]) (by simpa using hab) (by rw [← snoc]; exact hl)) (by simp)
      · exact Ev.neg e (Ev.some' (by simp [e]))
theorem eqIntS_ev (a b : List Int) (hl : a.length < 4611686018427387904) : Ev (fun k => laws_eqIntS.f k a b) (decide (a = b)) := by
  unfold laws_eqIntS.f
  by_cases h : (a.length : Int) = (b.length : Int)
  · exact Ev.pos h (eqIntS_l0 a b [] [] rfl (by omega) hl)
  · refine Ev.neg h (Ev.some' ?_)
    symm
    rw [decide_eq_false_iff_not]
    rintro rfl
    exact h rfl
/-! ### the law's own -/
theorem rdl_mid (p : List S49) (x : S49) (r : List S49) : rd_T49 (p ++ x :: r) (p.length : Int) = x := getD_mid p x r z49
def toFacingV (x : S49) : S50 := ⟨x.f0, x.f1, x.f2, x.f3⟩
theorem toFacingS_l0 : ∀ (a p : List S49) (t : List S50), t.length = a.length → (p ++ a).length < 4611686018427387904 → (∀ x ∈ a, x.f3.length ≤ 1048576) →
    Ev (fun k => laws_toFacingS.l0 k (p ++ a) (p.map toFacingV ++ t) (p.length : Int)) ((p ++ a).map toFacingV) := by
  intro a
  induction a with
  | nil =>
    intro p t ht hl _
    obtain rfl : t = [] := List.eq_nil_of_length_eq_zero ht
    exact Ev.step (fun k => rfl) (Ev.neg (len_end p) (Ev.some' (by simp)))
  | cons x a ih =>
    intro p t ht hl hx
    match t, ht with
    | y :: t, ht =>
      have hl' : (p ++ x :: a).length < 4611686018427387904 := hl
      rw [List.length_append, List.length_cons] at hl'
      have ht1 : Ev (fun k => laws_toFacing.f k x.f0 x.f1 x.f2 x.f3) (x.f0, x.f1, x.f2, x.f3) := Ev.bind (toIntS_ev x.f3 (hx x (by simp))) (Ev.some' rfl)
      refine Ev.step (fun k => rfl) (Ev.pos (len_lt p x a) (Ev.pos (by omega) ?_))
      rw [rdl_mid]
      refine Ev.bind ht1 (Ev.pos (by simp; omega) ?_)
      have hs : (p.map toFacingV ++ y :: t).set (p.length : Int).toNat ⟨x.f0, x.f1, x.f2, x.f3⟩ = p.map toFacingV ++ toFacingV x :: t := by
        rw [show (p.length : Int) = ((p.map toFacingV).length : Int) by simp]
        exact set_mid _ _ _ _
      simp only
      rw [hs, w64 (by omega) (by omega), ← len_snoc p x, snoc p x a, snoc _ (toFacingV x) t]
      rw [show p.map toFacingV ++ [toFacingV x] = (p ++ [x]).map toFacingV by simp]
      exact ih (p ++ [x]) t (by simpa using ht) (by rw [← snoc]; exact hl) (fun z hz => hx z (by simp [hz]))
theorem toFacingS_ev (a : List S49) (hl : a.length ≤ 1048576) (hx : ∀ x ∈ a, x.f3.length ≤ 1048576) : Ev (fun k => laws_toFacingS.f k a) (a.map toFacingV) := by
  unfold laws_toFacingS.f
  refine Ev.pos (by omega) (Ev.pos (by omega) ?_)
  rw [Int.toNat_natCast]
  exact toFacingS_l0 a [] (List.replicate a.length z50) (by simp) (by simp; omega) hx
theorem eqFacing_ev (x : S50) (hx : x.f3.length ≤ 1048576) : Ev (fun k => laws_eqFacing.f k x.f0 x.f1 x.f2 x.f3 x.f0 x.f1 x.f2 x.f3) true := by
  unfold laws_eqFacing.f
  refine Ev.pos rfl (Ev.pos rfl (Ev.pos rfl (Ev.bind (eqIntS_ev x.f3 x.f3 (by omega)) (Ev.pos (by simp) (Ev.some' rfl)))))
theorem eqFacingS_l0 : ∀ (a p : List S50), (p ++ a).length < 4611686018427387904 → (∀ x ∈ a, x.f3.length ≤ 1048576) →
    Ev (fun k => laws_eqFacingS.l0 k (p ++ a) (p ++ a) (p.length : Int)) true := by
  intro a
  induction a with
  | nil => intro p hl _; exact Ev.step (fun k => rfl) (Ev.neg (len_end p) (Ev.some' rfl))
  | cons x a ih =>
    intro p hl hx
    have hl' : (p ++ x :: a).length < 4611686018427387904 := hl
    rw [List.length_append, List.length_cons] at hl'
    refine Ev.step (fun k => rfl) (Ev.pos (len_lt p x a) (Ev.pos (by omega) (Ev.pos (len_lt p x a) ?_)))
    rw [rdF_mid]
    refine Ev.bind (eqFacing_ev x (hx x (by simp))) (Ev.pos rfl ?_)
    rw [w64 (by omega) (by omega), ← len_snoc p x, snoc p x a]
    exact ih (p ++ [x]) (by rw [← snoc]; exact hl) (fun z hz => hx z (by simp [hz]))
theorem eqFacingS_ev (a : List S50) (hl : a.length < 4611686018427387904) (hx : ∀ x ∈ a, x.f3.length ≤ 1048576) : Ev (fun k => laws_eqFacingS.f k a a) true := by
  unfold laws_eqFacingS.f
  exact Ev.pos rfl (eqFacingS_l0 a [] hl hx)
theorem szFacing_ok (x : S49) (hx : x.f0.size ≤ 9223372036854775807 ∧ x.f3.length ≤ 9223372036854775807) (n : Int) (h0 : 0 ≤ n) (h1 : n ≤ 1048576) : ∃ r, laws_szFacing.f x.f0 x.f1 x.f2 x.f3 n = some r ∧ (r < 0 ∨ (0 ≤ r ∧ r ≤ n ∧ x.f3.length ≤ 1048576)) := by
  unfold laws_szFacing.f laws_szIntS.f
  rw [w64 (x := n - (x.f0.size : Int)) (by omega) (by omega)]
  by_cases c : n - (x.f0.size : Int) < 0
  · rw [if_pos c]; exact ⟨_, rfl, .inl (by omega)⟩
  rw [if_neg c, w64 (x := n - (x.f0.size : Int) - (x.f3.length : Int)) (by omega) (by omega)]
  by_cases d : n - (x.f0.size : Int) - (x.f3.length : Int) < 0
  · rw [if_pos d]; exact ⟨-1, rfl, .inl (by omega)⟩
  · rw [if_neg d]
    refine ⟨n - (x.f0.size : Int) - (x.f3.length : Int), ?_, .inr ⟨by omega, by omega, by omega⟩⟩
    rw [Option.bind_some, if_neg d]
theorem szFacingS_l0 : ∀ (a p : List S49) (n : Int), (p ++ a).length < 4611686018427387904 → 0 ≤ n → n ≤ 1048576 → (∀ x ∈ a, x.f0.size ≤ 9223372036854775807 ∧ x.f3.length ≤ 9223372036854775807) →
    ∃ r, Ev (fun k => laws_szFacingS.l0 k (p ++ a) n (p.length : Int)) r ∧ (r < 0 ∨ (0 ≤ r ∧ ∀ x ∈ a, x.f3.length ≤ 1048576)) := by
  intro a
  induction a with
  | nil => intro p n hl h0 h1 _; exact ⟨n, Ev.step (fun k => rfl) (Ev.neg (len_end p) (Ev.some' rfl)), .inr ⟨h0, by simp⟩⟩
  | cons x a ih =>
    intro p n hl h0 h1 hx
    have hl' : (p ++ x :: a).length < 4611686018427387904 := hl
    rw [List.length_append, List.length_cons] at hl'
    obtain ⟨r, e, hr⟩ := szFacing_ok x (hx x (by simp)) n h0 h1
    rcases hr with hr | ⟨r0, r1, r2⟩
    · refine ⟨-1, Ev.step (fun k => rfl) (Ev.pos (len_lt p x a) (Ev.pos (by omega) ?_)), .inl (by omega)⟩
      rw [rdl_mid]
      exact Ev.ret e (Ev.pos hr (Ev.some' rfl))
    · obtain ⟨q, g1, g2⟩ := ih (p ++ [x]) r (by rw [← snoc]; exact hl) r0 (by omega) (fun z hz => hx z (by simp [hz]))
      refine ⟨q, Ev.step (fun k => rfl) (Ev.pos (len_lt p x a) (Ev.pos (by omega) ?_)), ?_⟩
      · rw [rdl_mid]
        refine Ev.ret e (Ev.neg (by omega) ?_)
        rw [w64 (by omega) (by omega), ← len_snoc p x, snoc p x a]
        exact g1
      · rcases g2 with g2 | ⟨g2, g3⟩
        · exact .inl g2
        · refine .inr ⟨g2, fun z hz => ?_⟩
          rcases List.mem_cons.1 hz with rfl | hz
          · exact r2
          · exact g3 z hz
theorem szFacingS_ev (l : List S49) (hl : l.length ≤ 9223372036854775807) (hx : ∀ x ∈ l, x.f0.size ≤ 9223372036854775807 ∧ x.f3.length ≤ 9223372036854775807) :
    ∃ r, Ev (fun k => laws_szFacingS.f k l 1048576) r ∧ (r < 0 ∨ (¬ r < 0 ∧ l.length ≤ 1048576 ∧ ∀ x ∈ l, x.f3.length ≤ 1048576)) := by
  unfold laws_szFacingS.f
  rw [w64 (by omega) (by omega)]
  by_cases h : (1048576 : Int) - (l.length : Int) < 0
  · exact ⟨-1, Ev.pos h (Ev.some' rfl), .inl (by omega)⟩
  · obtain ⟨r, h1, h2⟩ := szFacingS_l0 l [] (1048576 - (l.length : Int)) (by simp; omega) (by omega) (by omega) hx
    refine ⟨r, Ev.neg h h1, ?_⟩
    rcases h2 with h2 | ⟨h2, h3⟩
    · exact .inl h2
    · exact .inr ⟨by omega, by omega, h3⟩
theorem strOne_size (z : Int) : (strOfNums [z]).size = 1 := rfl
theorem markText_l0 : ∀ (n : Nat) (x : Int) (s : ByteArray), 0 ≤ x → x < 10 ^ n → s.size + n ≤ 1000 → ∃ t, Ev (fun k => laws_markText.l0 k x s) t := by
  intro n
  induction n with
  | zero =>
    intro x s h0 h1 hs
    refine ⟨_, Ev.step (fun k => rfl) (Ev.neg (by omega) (Ev.pos (by omega) (Ev.some' rfl)))⟩
  | succ n ih =>
    intro x s h0 h1 hs
    by_cases c : x > 0
    · have hd : wrap64 (Int.tdiv x 10) = x / 10 ∨ True := .inr trivial
      have h2 : Int.tdiv x 10 = x / 10 := Int.tdiv_eq_ediv_of_nonneg h0
      by_cases hb : x ≤ 9223372036854775807
      · have hw : wrap64 (Int.tdiv x 10) = x / 10 := by rw [h2]; exact w64 (by omega) (by omega)
        have h3 : x / 10 < 10 ^ n := by
          rw [Int.pow_succ] at h1
          omega
        obtain ⟨t, ht⟩ := ih (x / 10) (strOfNums [wrap64 (48 + Int.tmod x 10) % 256] ++ s) (by omega) h3 (by rw [ByteArray.size_append, strOne_size]; omega)
        refine ⟨t, Ev.step (fun k => rfl) (Ev.pos c (Ev.ret rfl (Ev.pos (by rw [strOne_size]; omega) ?_)))⟩
        rw [hw]
        exact ht
      · have hz : -9223372036854775808 ≤ wrap64 (Int.tdiv x 10) ∧ wrap64 (Int.tdiv x 10) ≤ 9223372036854775807 := by unfold wrap64; omega
        have h5 : Int.tdiv x 10 = x / 10 := h2
        have h3 : x / 10 < 10 ^ n := by
          rw [Int.pow_succ] at h1
          omega
        by_cases h6 : 0 ≤ wrap64 (Int.tdiv x 10)
        · obtain ⟨t, ht⟩ := ih (wrap64 (Int.tdiv x 10)) (strOfNums [wrap64 (48 + Int.tmod x 10) % 256] ++ s) h6 (by
            have : wrap64 (Int.tdiv x 10) ≤ x / 10 := by rw [h2]; unfold wrap64; omega
            omega) (by rw [ByteArray.size_append, strOne_size]; omega)
          exact ⟨t, Ev.step (fun k => rfl) (Ev.pos c (Ev.ret rfl (Ev.pos (by rw [strOne_size]; omega) ht)))⟩
        · exact ⟨_, Ev.step (fun k => rfl) (Ev.pos c (Ev.ret rfl (Ev.pos (by rw [strOne_size]; omega) (Ev.step (fun k => rfl) (Ev.neg (by omega) (Ev.pos (by rw [ByteArray.size_append, strOne_size]; omega) (Ev.some' rfl)))))))⟩
    · exact ⟨_, Ev.step (fun k => rfl) (Ev.neg c (Ev.pos (by omega) (Ev.some' rfl)))⟩
theorem markText_ev (x : Int) (h1 : x < 10 ^ 19) : ∃ t, Ev (fun k => laws_markText.f k x) t := by
  unfold laws_markText.f
  by_cases c : x ≤ 0
  · exact ⟨_, Ev.pos c (Ev.some' rfl)⟩
  · obtain ⟨t, ht⟩ := markText_l0 19 x ⟨#[]⟩ (by omega) h1 (by decide)
    exact ⟨t, Ev.neg c ht⟩
theorem markIntS_l0 : ∀ (a p : List Int) (c : Int), (p ++ a).length < 4611686018427387904 → 0 ≤ c → c + a.length < 4611686018427387904 →
    Ev (fun k => laws_markIntS.l0 k (p ++ a) c (p.length : Int)) (c + a.length, p ++ iota c a.length) := by
  intro a
  induction a with
  | nil =>
    intro p c hl h0 hc
    exact Ev.step (fun k => rfl) (Ev.neg (len_end p) (Ev.some' (by simp [iota])))
  | cons x a ih =>
    intro p c hl h0 hc
    have hl' : (p ++ x :: a).length < 4611686018427387904 := hl
    rw [List.length_append, List.length_cons] at hl'
    rw [List.length_cons] at hc
    refine Ev.step (fun k => rfl) (Ev.pos (len_lt p x a) (Ev.pos (by omega) ?_))
    rw [set_mid, w64 (by omega) (by omega), w64 (by omega) (by omega), ← len_snoc p c, snoc p c a]
    refine Ev.eq (ih (p ++ [c]) (c + 1) (by simp; omega) (by omega) (by omega)) ?_
    rw [← snoc, List.length_cons, iota]
    congr 1
    omega
theorem markIntS_ev (a : List Int) (c : Int) (hl : a.length < 4611686018427387904) (h0 : 0 ≤ c) (hc : c + a.length < 4611686018427387904) : Ev (fun k => laws_markIntS.f k a c) (c + a.length, iota c a.length) := by
  unfold laws_markIntS.f
  exact markIntS_l0 a [] c hl h0 hc
theorem heldIntS_l0 : ∀ (n : Nat) (p : List Int) (c : Int), (p.length + n) < 4611686018427387904 → 0 ≤ c → c + n < 4611686018427387904 →
    Ev (fun k => laws_heldIntS.l0 k (p ++ iota c n) c (p.length : Int)) (c + n) := by
  intro n
  induction n with
  | zero =>
    intro p c hl h0 hc
    exact Ev.step (fun k => rfl) (Ev.neg (len_end p) (Ev.some' (by simp)))
  | succ n ih =>
    intro p c hl h0 hc
    rw [iota]
    refine Ev.step (fun k => rfl) (Ev.pos (len_lt p c _) (Ev.pos (by omega) (Ev.pos (rd_mid p c _) ?_)))
    rw [w64 (by omega) (by omega), w64 (by omega) (by omega), ← len_snoc p c, snoc p c]
    exact Ev.eq (ih (p ++ [c]) (c + 1) (by simp; omega) (by omega) (by omega)) (by omega)
theorem heldIntS_ev (n : Nat) (c : Int) (h0 : 0 ≤ c) (hc : c + n < 4611686018427387904) : Ev (fun k => laws_heldIntS.f k (iota c n) c) (c + n) := by
  unfold laws_heldIntS.f
  exact heldIntS_l0 n [] c (by simp; omega) h0 hc
theorem markFac_l0 : ∀ (a p : List S50) (c : Int), (∀ x ∈ a, x.f3.length ≤ 1048576) → (p ++ a).length ≤ 1048576 → 0 ≤ c → c ≤ 1048580 * p.length + 100 →
    ∃ r, Ev (fun k => laws_markFacingS.l0 k (p ++ a) c (p.length : Int)) r ∧ c ≤ r ∧ r ≤ 1048580 * (p ++ a).length + 100 := by
  intro a
  induction a with
  | nil =>
    intro p c hx hl h0 hc
    exact ⟨c, Ev.step (fun k => rfl) (Ev.neg (len_end p) (Ev.some' rfl)), by omega, by simpa using hc⟩
  | cons x a ih =>
    intro p c hx hl h0 hc
    have hl' := hl
    rw [List.length_append, List.length_cons] at hl'
    have hx3 := hx x (by simp)
    have hpp : (10 : Int) ^ 19 = 10000000000000000000 := by decide
    obtain ⟨t, ht⟩ := markText_ev c (by omega)
    have hm := markIntS_ev x.f3 (c + 3) (by omega) (by omega) (by omega)
    obtain ⟨r, g1, g2, g3⟩ := ih (p ++ [x]) (c + 3 + x.f3.length) (fun z hz => hx z (by simp [hz])) (by rw [← snoc]; exact hl) (by omega) (by rw [List.length_append, List.length_singleton]; omega)
    refine ⟨r, Ev.step (fun k => rfl) (Ev.pos (len_lt p x a) (Ev.bind ht ?_)), by omega, by rw [snoc]; exact g3⟩
    rw [w64 (x := c + 1) (by omega) (by omega), w64 (x := c + 1 + 1) (by omega) (by omega), w64 (x := c + 1 + 1 + 1) (by omega) (by omega), show c + 1 + 1 + 1 = c + 3 by omega, rdF_mid]
    refine Ev.bind hm ?_
    rw [w64 (by omega) (by omega), ← len_snoc p x, snoc p x a]
    exact g1
theorem markFac_ev (l : List S50) (hx : ∀ x ∈ l, x.f3.length ≤ 1048576) (hl : l.length ≤ 1048576) : ∃ r, Ev (fun k => laws_markFacingS.f k l 1) r ∧ 1 ≤ r ∧ r ≤ 2000000000000 := by
  obtain ⟨r, h1, h2, h3⟩ := markFac_l0 l [] 1 hx hl (by omega) (by simp)
  exact ⟨r, h1, h2, by rw [List.nil_append] at h3; omega⟩
theorem eqPlan_ev (l : List Int) (u g : Int) (hl : l.length ≤ 1048576) : Ev (fun k => laws_eqShelfPlan.f k l u g l u g) true := by
  unfold laws_eqShelfPlan.f
  exact Ev.bind (eqIntS_ev l l (by omega)) (Ev.pos (by simp) (Ev.pos rfl (Ev.pos rfl (Ev.some' rfl))))
theorem markPlan_ev (l : List Int) (u g : Int) (hl : l.length ≤ 1048576) : Ev (fun k => laws_markShelfPlan.f k l u g 1) (1 + (l.length : Int), iota 1 l.length) := by
  unfold laws_markShelfPlan.f
  exact Ev.bind (markIntS_ev l 1 (by omega) (by omega) (by omega)) (Ev.some' rfl)
theorem heldPlan_ev (n : Nat) (u g : Int) (hl : n ≤ 1048576) : Ev (fun k => laws_heldShelfPlan.f k (iota 1 n) u g 1) (1 + (n : Int)) := by
  unfold laws_heldShelfPlan.f
  exact Ev.bind (heldIntS_ev n 1 (by omega) (by omega)) (Ev.neg (by omega) (Ev.some' rfl))

theorem FnExactBestShelf : laws_FnExactBestShelf.Pure := by
  intro l w hl _
  refine Ev.rounds (?_ : Ev (fun k => laws_FnExactBestShelf.f k l w) true)
  unfold laws_FnExactBestShelf.f
  obtain ⟨t, ht, h⟩ := szFacingS_ev l hl.1 (fun x hx => ⟨(hl.2 x hx).1, (hl.2 x hx).2.2.2.1⟩)
  refine Ev.bind ht ?_
  rcases h with h | ⟨h, h2, h3⟩
  · exact Ev.pos h (Ev.some' rfl)
  refine Ev.neg h ?_
  have tR := toFacingS_ev l h2 h3
  have h4 : ∀ x ∈ l.map toFacingV, x.f3.length ≤ 1048576 := by
    intro x hx
    obtain ⟨y, hy, rfl⟩ := List.mem_map.1 hx
    exact h3 y hy
  have eF := eqFacingS_ev (l.map toFacingV) (by simp; omega) h4
  obtain ⟨⟨v, u, g, e⟩, s1, s2, s3⟩ := best_both (l.map toFacingV) w
  simp only at s3
  have eP := eqPlan_ev v u g (by omega)
  have mP := markPlan_ev v u g (by omega)
  have hP := heldPlan_ev v.length u g (by omega)
  obtain ⟨r, m1, m2, m3⟩ := markFac_ev (l.map toFacingV) h4 (by simpa using h2)
  have ne : (e != e) = false := by simp
  refine Ev.bind tR (Ev.bind s1 (Ev.bind tR (Ev.bind s2 (Ev.bind eP (Ev.pos rfl (Ev.up1 ?_))))))
  simp only [laws_FnExactBestShelf.j0, ne]
  refine Ev.neg ff (Ev.bind tR (Ev.bind eF (Ev.pos rfl (Ev.bind m1 (Ev.neg (by omega) (Ev.bind eP (Ev.pos rfl (Ev.up1 ?_))))))))
  simp only [laws_FnExactBestShelf.j1]
  refine Ev.neg ff (Ev.bind mP (Ev.bind hP (Ev.neg (by omega) (Ev.pos rfl (Ev.bind tR (Ev.bind s2 (Ev.bind eP (Ev.pos rfl (Ev.up1 ?_)))))))))
  simp only [laws_FnExactBestShelf.j2, ne]
  exact Ev.neg ff (Ev.bind hP (Ev.neg (by omega) (Ev.pos rfl (Ev.some' rfl))))

end Go.Proofs.Ytecbcibblmknpaa.Pure
