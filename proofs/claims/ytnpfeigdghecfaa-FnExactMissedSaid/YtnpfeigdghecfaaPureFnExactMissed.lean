/- The program's Missed and the reference's answer alike for all lists and shops, and change none: the law's plain statement, with no condition. -/
import Derived.Test.YtnpfeigdghecfaaXFnExactMissedx9
import Derived.Test.YtnpfeigdghecfaaAx
import Derived.Test.YtnpfeigdghecfaaIdx
namespace Go.Proofs.Ytnpfeigdghecfaa.Pure
open Go.RowKit Go.Proofs.Ytnpfeigdghecfaa.XFnExactMissed Go.Proofs.YtnpfeigdghecfaaW.PrintWords Go.Proofs.YtnpfeigdghecfaaW.PrintLast
open Go.Proofs.YtnpfeigdghecfaaW.Ax Go.Proofs.YtnpfeigdghecfaaW.Idx
set_option linter.unusedVariables false
set_option linter.unusedSimpArgs false
theorem rd_Event_mid (p : List S40) (x : S40) (r : List S40) : rd_T40 (p ++ x :: r) (p.length : Int) = x := getD_mid p x r z40
theorem rd_Event_nat (l : List S40) (i : Nat) : rd_T40 l (i : Int) = l.getD i z40 := by
  unfold rd_T40
  rw [Int.toNat_natCast]
theorem within_ev (a b c : Int) : impl_within.f a b c = some (decide (b ≤ a ∧ a ≤ c)) := by
  unfold impl_within.f
  by_cases h : a ≥ b
  · rw [if_pos h]; congr 1; rw [decide_eq_decide]; omega
  · rw [if_neg h]; congr 1; symm; rw [decide_eq_false_iff_not]; omega
theorem l01In_ev (a b c : Int) : spec_l01In.f a b c = some (decide (b ≤ a ∧ a ≤ c)) := by
  unfold spec_l01In.f
  by_cases h : a ≥ b
  · rw [if_pos h]; congr 1; rw [decide_eq_decide]; omega
  · rw [if_neg h]; congr 1; symm; rw [decide_eq_false_iff_not]; omega
/-! ### names -/
def codeP (m : Int) : Prop := (192 ≤ m ∧ m ≤ 591 ∧ m ≠ 215 ∧ m ≠ 247) ∨ (913 ≤ m ∧ m ≤ 969) ∨ (1040 ≤ m ∧ m ≤ 1103)
instance (m : Int) : Decidable (codeP m) := by unfold codeP; exact inferInstance
def wideP (c n : Int) : Prop := (194 ≤ c ∧ c ≤ 223) ∧ (128 ≤ n ∧ n ≤ 191) ∧ codeP ((c - 192) * 64 + n - 128)
instance (c n : Int) : Decidable (wideP c n) := by unfold wideP; exact inferInstance
def plainP (c : Int) : Prop := (97 ≤ c ∧ c ≤ 122) ∨ (65 ≤ c ∧ c ≤ 90) ∨ c = 95
instance (c : Int) : Decidable (plainP c) := by unfold plainP; exact inferInstance
def digitP (c : Int) : Prop := 48 ≤ c ∧ c ≤ 57
instance (c : Int) : Decidable (digitP c) := by unfold digitP; exact inferInstance
/-- The rest of a name, from place i on. -/
def nameB (s : ByteArray) : Nat → Nat → Bool
  | 0, _ => true
  | d + 1, i => if s.size ≤ i then true else if plainP (bt s i) ∨ (0 < i ∧ digitP (bt s i)) then nameB s d (i + 1) else if i + 1 < s.size ∧ wideP (bt s i) (bt s ((i + 1 : Nat) : Int)) then nameB s d (i + 2) else false
theorem someD {b : Bool} {P : Prop} [Decidable P] (h : b = true ↔ P) : some b = some (decide P) := by
  by_cases c : P
  · rw [decide_eq_true c, h.2 c]
  · rw [decide_eq_false c]
    cases b with
    | false => rfl
    | true => exact absurd (h.1 rfl) c
theorem isLetter_ev (c : Int) : impl_isLetter.f c = some (decide (plainP c)) := by
  unfold impl_isLetter.f
  repeat' split
  all_goals (refine someD ?_; unfold plainP; (try simp only [beq_iff_eq]); first | omega | (simp; omega))
theorem isDigit_ev (c : Int) : impl_isDigit.f c = some (decide (digitP c)) := by
  unfold impl_isDigit.f
  repeat' split
  all_goals (refine someD ?_; unfold digitP; (try simp only [decide_eq_true_eq]); first | omega | (simp; omega))
theorem or6 {x y : Int} (hx₀ : 0 ≤ x) (hx : x % 64 = 0) (hx₁ : x < 1000000) (h₀ : 0 ≤ y) (h₁ : y < 64) : Go.bits .or .i64 x y = x + y :=
  Go.bits_join .i64 31 (by decide) (fun n a b => by rw [Go.IntKind.wrap_i64]; omega) 6 x y hx₀ hx (by omega) h₀ h₁ (by omega)
theorem code_eq (c n : Int) (hc : 194 ≤ c ∧ c ≤ 223) (hn : 128 ≤ n ∧ n ≤ 191) : Go.bits .or .i64 (wrap64 ((wrap64 (Go.bits .and .u8 c 31)) * 64)) (wrap64 (Go.bits .and .u8 n 63)) = (c - 192) * 64 + n - 128 := by
  have e1 : Go.bits .and .u8 c 31 = c % 32 := Go.u8_and31 c (by omega) (by omega)
  have e2 : Go.bits .and .u8 n 63 = n % 64 := Go.u8_and63 n (by omega) (by omega)
  rw [e1, e2, w64 (x := c % 32) (by omega) (by omega), w64 (x := n % 64) (by omega) (by omega), w64 (x := c % 32 * 64) (by omega) (by omega), or6 (by omega) (by omega) (by omega) (by omega) (by omega)]
  omega
theorem code_ev (m : Int) : ((impl_within.f m 192 591).bind fun t137 => (if t137 = true then (if m = 215 then ((impl_within.f m 913 969).bind fun t138 => (if t138 = true then (some true) else ((impl_within.f m 1040 1103).bind fun t139 => (some t139)))) else (if m = 247 then ((impl_within.f m 913 969).bind fun t140 => (if t140 = true then (some true) else ((impl_within.f m 1040 1103).bind fun t141 => (some t141)))) else (some true))) else ((impl_within.f m 913 969).bind fun t142 => (if t142 = true then (some true) else ((impl_within.f m 1040 1103).bind fun t143 => (some t143)))))) = some (decide (codeP m)) := by
  simp only [within_ev, Option.bind_some]
  simp only [decide_eq_true_eq]
  repeat' split
  all_goals (refine someD ?_; unfold codeP; (try simp only [decide_eq_true_eq]); first | omega | (simp; omega))
theorem wide_ev (s : ByteArray) (h : s.size = 2) : Ev (fun k => impl_isWideLetter.f k s) (decide (wideP (bt s 0) (bt s 1))) := by
  unfold impl_isWideLetter.f
  have hj : ∀ b : Bool, b = false ∨ b = true := by intro b; cases b <;> simp
  have hbad : ¬ wideP (bt s 0) (bt s 1) → Ev (fun k => impl_isWideLetter.j0 k s true) (decide (wideP (bt s 0) (bt s 1))) := fun h => Ev.via (Ev.some' (decide_eq_false h).symm) (fun k => rfl)
  refine Ev.pos (by omega) ?_
  by_cases c1 : bt s 0 < 194
  · exact Ev.pos c1 (hbad (fun h => by have := h.1; omega))
  refine Ev.neg c1 ?_
  by_cases c2 : bt s 0 > 223
  · exact Ev.pos c2 (hbad (fun h => by have := h.1; omega))
  refine Ev.neg c2 (Ev.pos (by omega) ?_)
  by_cases c3 : bt s 1 < 128
  · exact Ev.pos c3 (hbad (fun h => by have := h.2.1; omega))
  refine Ev.neg c3 ?_
  by_cases c4 : bt s 1 > 191
  · rw [decide_eq_true c4]
    exact hbad (fun h => by have := h.2.1; omega)
  rw [decide_eq_false c4]
  refine Ev.up1 ?_
  simp only [impl_isWideLetter.j0, if_neg ff]
  rw [code_eq _ _ (by omega) (by omega)]
  refine Ev.pos (by omega) (Ev.pos (by omega) ?_)
  have hw : wideP (bt s 0) (bt s 1) ↔ codeP ((bt s 0 - 192) * 64 + bt s 1 - 128) := ⟨fun h => h.2.2, fun h => ⟨by omega, by omega, h⟩⟩
  rw [decide_eq_decide.2 hw]
  exact Ev.const (code_ev _)
theorem bt_extract (s : ByteArray) (i : Nat) (h : i + 2 ≤ s.size) : (s.extract i (i + 2)).size = 2 ∧ bt (s.extract i (i + 2)) 0 = bt s (i : Int) ∧ bt (s.extract i (i + 2)) 1 = bt s ((i + 1 : Nat) : Int) := by
  have hs : (s.extract i (i + 2)).size = 2 := by rw [ByteArray.size_extract]; omega
  refine ⟨hs, ?_, ?_⟩
  · unfold bt
    rw [dif_pos (by rw [hs]; decide), dif_pos (by rw [Int.toNat_natCast]; omega)]
    rw [ByteArray.getElem_extract]
    congr 2
  · unfold bt
    rw [dif_pos (by rw [hs]; decide), dif_pos (by rw [Int.toNat_natCast]; omega)]
    rw [ByteArray.getElem_extract]
    congr 2
theorem impl_name_l0 (s : ByteArray) (hs : s.size ≤ 40) : ∀ (d i : Nat), s.size ≤ i + d → i ≤ 50 → Ev (fun k => impl_NameOK.l0 k s (i : Int)) (nameB s d i) := by
  intro d
  induction d with
  | zero => intro i h hi; exact Ev.step (fun k => rfl) (Ev.neg (show ¬ (i : Int) < (s.size : Int) by omega) (Ev.some' rfl))
  | succ d ih =>
    intro i h hi
    rw [nameB]
    by_cases c0 : s.size ≤ i
    · rw [if_pos c0]
      exact Ev.step (fun k => rfl) (Ev.neg (show ¬ (i : Int) < (s.size : Int) by omega) (Ev.some' rfl))
    rw [if_neg c0]
    have hgo : Ev (fun k => impl_NameOK.j1 k s (i : Int) true) (nameB s d (i + 1)) := by
      refine Ev.via (f := fun k => impl_NameOK.l0 k s (wrap64 ((i : Int) + 1))) ?_ (fun k => rfl)
      rw [w64n (by omega)]
      exact ih (i + 1) (by omega) (by omega)
    have hwide : Ev (fun k => impl_NameOK.j1 k s (i : Int) false) (if i + 1 < s.size ∧ wideP (bt s (i : Int)) (bt s ((i + 1 : Nat) : Int)) then nameB s d (i + 2) else false) := by
      refine Ev.up1 ?_
      simp only [impl_NameOK.j1, if_neg ff]
      rw [w64n (by omega), show wrap64 ((i : Int) + 2) = ((i + 2 : Nat) : Int) by rw [w64 (by omega) (by omega)]; omega, Int.toNat_natCast, Int.toNat_natCast, w64n (by omega)]
      by_cases c1 : i + 1 < s.size
      · obtain ⟨x1, x2, x3⟩ := bt_extract s i (by omega)
        have wv := wide_ev _ x1
        rw [x2, x3] at wv
        refine Ev.pos (by omega) (Ev.pos (by omega) (Ev.pos (by omega) (Ev.pos (by omega) (Ev.bind wv ?_))))
        by_cases c2 : wideP (bt s (i : Int)) (bt s ((i + 1 : Nat) : Int))
        · rw [if_pos ⟨c1, c2⟩]
          exact Ev.pos (decide_eq_true c2) (ih (i + 2) (by omega) (by omega))
        · rw [if_neg (fun h => c2 h.2)]
          exact Ev.neg (by rw [decide_eq_false c2]; exact ff) (Ev.some' rfl)
      · rw [if_neg (fun h => c1 h.1)]
        exact Ev.neg (by omega) (Ev.some' rfl)
    refine Ev.step (fun k => rfl) (Ev.pos (show (i : Int) < (s.size : Int) by omega) (Ev.pos (by omega) (Ev.ret (isLetter_ev _) ?_)))
    by_cases c1 : plainP (bt s (i : Int))
    · rw [if_pos (.inl c1)]
      exact Ev.pos (decide_eq_true c1) hgo
    refine Ev.neg (by simp [c1]) ?_
    by_cases c2 : (i : Int) > 0
    · refine Ev.pos c2 (Ev.ret (isDigit_ev _) ?_)
      by_cases c3 : digitP (bt s (i : Int))
      · rw [if_pos (.inr ⟨by omega, c3⟩), decide_eq_true c3]
        exact hgo
      · rw [if_neg (fun h => h.elim c1 (fun h => c3 h.2)), decide_eq_false c3]
        exact hwide
    · rw [if_neg (fun h => h.elim c1 (fun h => c2 (by omega)))]
      exact Ev.neg c2 hwide
def nameOKV (s : ByteArray) : Bool := decide (1 ≤ s.size ∧ s.size ≤ 40) && nameB s s.size 0
theorem implName_ev (s : ByteArray) : Ev (fun k => impl_NameOK.f k s) (nameOKV s) := by
  unfold impl_NameOK.f nameOKV
  refine Ev.ret (within_ev _ _ _) ?_
  by_cases c : 1 ≤ s.size ∧ s.size ≤ 40
  · rw [decide_eq_true c, Bool.true_and]
    exact Ev.pos (by simp; omega) (impl_name_l0 s c.2 s.size 0 (by omega) (by omega))
  · rw [decide_eq_false c, Bool.false_and]
    exact Ev.neg (by simp; omega) (Ev.some' rfl)
def letV (s : ByteArray) (i : Nat) : Int := if plainP (bt s (i : Int)) then 1 else if i + 1 < s.size ∧ wideP (bt s (i : Int)) (bt s ((i + 1 : Nat) : Int)) then 2 else 0
theorem specLetter_ev (s : ByteArray) (i : Nat) (hi : i < s.size) (hs : s.size ≤ 40) : Ev (fun k => spec_l00Letter.f k s (i : Int)) (letV s i) := by
  have hr := bt_range s (i : Int)
  have hr2 := bt_range s ((i + 1 : Nat) : Int)
  have hw : wrap64 ((i : Int) + 1) = ((i + 1 : Nat) : Int) := w64n (by omega)
  have hyes : plainP (bt s (i : Int)) → Ev (fun k => spec_l00Letter.j0 k s (i : Int) (bt s (i : Int)) true) (letV s i) := by
    intro h
    unfold letV
    rw [if_pos h]
    exact Ev.via (Ev.some' rfl) (fun k => rfl)
  have hno : ¬ plainP (bt s (i : Int)) → Ev (fun k => spec_l00Letter.j0 k s (i : Int) (bt s (i : Int)) false) (letV s i) := by
    intro h
    unfold letV
    rw [if_neg h]
    have hbad : ¬ (i + 1 < s.size ∧ wideP (bt s (i : Int)) (bt s ((i + 1 : Nat) : Int))) → Ev (fun k => spec_l00Letter.j1 k s (i : Int) (bt s (i : Int)) true) (if i + 1 < s.size ∧ wideP (bt s (i : Int)) (bt s ((i + 1 : Nat) : Int)) then (2 : Int) else 0) := by
      intro h
      rw [if_neg h]
      exact Ev.via (Ev.some' rfl) (fun k => rfl)
    refine Ev.up1 ?_
    simp only [spec_l00Letter.j0, if_neg ff]
    rw [hw]
    by_cases c1 : bt s (i : Int) < 194
    · exact Ev.pos c1 (hbad (fun h => by have := h.2.1; omega))
    refine Ev.neg c1 ?_
    by_cases c2 : bt s (i : Int) > 223
    · exact Ev.pos c2 (hbad (fun h => by have := h.2.1; omega))
    refine Ev.neg c2 ?_
    by_cases c3 : ((i + 1 : Nat) : Int) ≥ (s.size : Int)
    · exact Ev.pos c3 (hbad (fun h => by have := h.1; omega))
    refine Ev.neg c3 (Ev.pos (by omega) (Ev.pos (by omega) ?_))
    by_cases c4 : bt s ((i + 1 : Nat) : Int) < 128
    · exact Ev.pos c4 (hbad (fun h => by have := h.2.2.1; omega))
    refine Ev.neg c4 ?_
    by_cases c5 : bt s ((i + 1 : Nat) : Int) > 191
    · rw [decide_eq_true c5]
      exact hbad (fun h => by have := h.2.2.1; omega)
    rw [decide_eq_false c5]
    refine Ev.up1 ?_
    simp only [spec_l00Letter.j1, if_neg ff]
    rw [hw]
    refine Ev.pos (by omega) (Ev.pos (by omega) ?_)
    rw [w64 (x := bt s (i : Int)) (by omega) (by omega), w64 (x := bt s (i : Int) - 192) (by omega) (by omega), w64 (x := (bt s (i : Int) - 192) * 64) (by omega) (by omega), w64 (x := bt s ((i + 1 : Nat) : Int)) (by omega) (by omega), w64 (x := (bt s (i : Int) - 192) * 64 + bt s ((i + 1 : Nat) : Int)) (by omega) (by omega), w64 (x := (bt s (i : Int) - 192) * 64 + bt s ((i + 1 : Nat) : Int) - 128) (by omega) (by omega)]
    have hv : (if i + 1 < s.size ∧ wideP (bt s (i : Int)) (bt s ((i + 1 : Nat) : Int)) then (2 : Int) else 0) = if codeP ((bt s (i : Int) - 192) * 64 + bt s ((i + 1 : Nat) : Int) - 128) then 2 else 0 := by
      by_cases h : codeP ((bt s (i : Int) - 192) * 64 + bt s ((i + 1 : Nat) : Int) - 128)
      · rw [if_pos h, if_pos ⟨by omega, by omega, by omega, h⟩]
      · rw [if_neg h, if_neg (fun g => h g.2.2.2)]
    rw [hv]
    refine Ev.const ?_
    have hc : ∀ m : Int, (192 ≤ m ∧ m ≤ 591 ∧ m ≠ 215 ∧ m ≠ 247) ∨ (913 ≤ m ∧ m ≤ 969) ∨ (1040 ≤ m ∧ m ≤ 1103) ↔ codeP m := fun m => Iff.rfl
    repeat' split
    all_goals first | rfl | (exfalso; simp only [← hc] at *; omega)
  unfold spec_l00Letter.f
  refine Ev.pos (by omega) (Ev.pos (by omega) ?_)
  have hp : ∀ c : Int, (97 ≤ c ∧ c ≤ 122) ∨ (65 ≤ c ∧ c ≤ 90) ∨ c = 95 ↔ plainP c := fun c => Iff.rfl
  have hlast : ¬ ((97 ≤ bt s (i : Int) ∧ bt s (i : Int) ≤ 122) ∨ (65 ≤ bt s (i : Int) ∧ bt s (i : Int) ≤ 90)) → Ev (fun k => spec_l00Letter.j0 k s (i : Int) (bt s (i : Int)) (bt s (i : Int) == 95)) (letV s i) := by
    intro h
    by_cases c : bt s (i : Int) = 95
    · rw [beq_iff_eq.2 c]
      exact hyes ((hp _).1 (by omega))
    · rw [show (bt s (i : Int) == 95) = false by simpa using c]
      exact hno (fun g => by have := (hp _).2 g; omega)
  by_cases a1 : bt s (i : Int) ≥ 97
  · refine Ev.pos a1 ?_
    by_cases a2 : bt s (i : Int) ≤ 122
    · exact Ev.pos a2 (hyes ((hp _).1 (by omega)))
    · refine Ev.neg a2 (Ev.pos (by omega) (Ev.neg (by omega) (hlast (by omega))))
  · refine Ev.neg a1 ?_
    by_cases a3 : bt s (i : Int) ≥ 65
    · refine Ev.pos a3 ?_
      by_cases a4 : bt s (i : Int) ≤ 90
      · exact Ev.pos a4 (hyes ((hp _).1 (by omega)))
      · exact Ev.neg a4 (hlast (by omega))
    · exact Ev.neg a3 (hlast (by omega))
theorem spec_word (s : ByteArray) (hs : s.size ≤ 40) : ∀ (d i : Nat), s.size ≤ i + d → i ≤ s.size → ∃ r : Int, Ev (fun k => spec_l00Word.l0 k s 0 (i : Int)) r ∧ (r == (s.size : Int)) = nameB s d i := by
  intro d
  induction d with
  | zero =>
    intro i h hi
    refine ⟨wrap64 ((i : Int) - 0), Ev.step (fun k => rfl) (Ev.neg (show ¬ (i : Int) < (s.size : Int) by omega) (Ev.some' rfl)), ?_⟩
    rw [w64 (by omega) (by omega), nameB]
    simp; omega
  | succ d ih =>
    intro i h hi
    rw [nameB]
    by_cases c0 : s.size ≤ i
    · rw [if_pos c0]
      refine ⟨wrap64 ((i : Int) - 0), Ev.step (fun k => rfl) (Ev.neg (show ¬ (i : Int) < (s.size : Int) by omega) (Ev.some' rfl)), ?_⟩
      rw [w64 (by omega) (by omega)]
      simp; omega
    rw [if_neg c0]
    have hl := specLetter_ev s i (by omega) hs
    unfold letV at hl
    by_cases c1 : plainP (bt s (i : Int))
    · rw [if_pos c1] at hl
      rw [if_pos (.inl c1)]
      obtain ⟨r, h1, h2⟩ := ih (i + 1) (by omega) (by omega)
      refine ⟨r, Ev.step (fun k => rfl) (Ev.pos (show (i : Int) < (s.size : Int) by omega) (Ev.bind hl (Ev.neg (by decide) ?_))), h2⟩
      refine Ev.via (f := fun k => spec_l00Word.l0 k s 0 (wrap64 ((i : Int) + 1))) ?_ (fun k => rfl)
      rw [w64n (by omega)]
      exact h1
    rw [if_neg c1] at hl
    by_cases c2 : i + 1 < s.size ∧ wideP (bt s (i : Int)) (bt s ((i + 1 : Nat) : Int))
    · rw [if_pos c2] at hl
      rw [if_neg (fun h => h.elim c1 (fun h => by have a := h.2; have b := c2.2.1; unfold digitP at a; omega)), if_pos c2]
      obtain ⟨r, h1, h2⟩ := ih (i + 2) (by omega) (by omega)
      refine ⟨r, Ev.step (fun k => rfl) (Ev.pos (show (i : Int) < (s.size : Int) by omega) (Ev.bind hl (Ev.neg (by decide) ?_))), h2⟩
      refine Ev.via (f := fun k => spec_l00Word.l0 k s 0 (wrap64 ((i : Int) + 2))) ?_ (fun k => rfl)
      rw [show wrap64 ((i : Int) + 2) = ((i + 2 : Nat) : Int) by rw [w64 (by omega) (by omega)]; omega]
      exact h1
    rw [if_neg c2] at hl
    have hstop : ∀ x : Bool, x = (((i : Int) == (s.size : Int))) → Ev (fun k => spec_l00Word.j1 k s 0 (i : Int) 0 false) (i : Int) ∧ x = false := by
      intro x hx
      refine ⟨Ev.via (f := fun _ => some (wrap64 ((i : Int) - 0))) (Ev.some' (by rw [w64 (by omega) (by omega)]; omega)) (fun k => rfl), ?_⟩
      rw [hx]
      simp; omega
    obtain ⟨hs1, hs2⟩ := hstop _ rfl
    by_cases c3 : (i : Int) > 0
    · by_cases c4 : digitP (bt s (i : Int))
      · rw [if_pos (.inr ⟨by omega, c4⟩)]
        obtain ⟨r, h1, h2⟩ := ih (i + 1) (by omega) (by omega)
        have a4 : 48 ≤ bt s (i : Int) ∧ bt s (i : Int) ≤ 57 := c4
        refine ⟨r, Ev.step (fun k => rfl) (Ev.pos (show (i : Int) < (s.size : Int) by omega) (Ev.bind hl (Ev.pos rfl (Ev.pos c3 (Ev.pos (by omega) (Ev.pos a4.1 ?_)))))), h2⟩
        rw [decide_eq_true a4.2]
        refine Ev.via (f := fun k => spec_l00Word.l0 k s 0 (wrap64 ((i : Int) + 1))) ?_ (fun k => rfl)
        rw [w64n (by omega)]
        exact h1
      · rw [if_neg (fun h => h.elim c1 (fun h => c4 h.2)), if_neg c2]
        refine ⟨(i : Int), Ev.step (fun k => rfl) (Ev.pos (show (i : Int) < (s.size : Int) by omega) (Ev.bind hl (Ev.pos rfl (Ev.pos c3 (Ev.pos (by omega) ?_))))), hs2⟩
        by_cases c5 : bt s (i : Int) ≥ 48
        · refine Ev.pos c5 ?_
          rw [decide_eq_false (fun h => c4 ⟨c5, h⟩)]
          exact hs1
        · exact Ev.neg c5 hs1
    · rw [if_neg (fun h => h.elim c1 (fun h => c3 (by omega))), if_neg c2]
      exact ⟨(i : Int), Ev.step (fun k => rfl) (Ev.pos (show (i : Int) < (s.size : Int) by omega) (Ev.bind hl (Ev.pos rfl (Ev.neg c3 hs1)))), hs2⟩
theorem specName_ev (s : ByteArray) : Ev (fun k => spec_NameOK.f k s) (nameOKV s) := by
  unfold spec_NameOK.f nameOKV
  by_cases c1 : (s.size : Int) > 0
  · refine Ev.pos c1 ?_
    by_cases c2 : (s.size : Int) ≤ 40
    · refine Ev.pos c2 ?_
      obtain ⟨r, h1, h2⟩ := spec_word s (by omega) s.size 0 (by omega) (by omega)
      rw [decide_eq_true (show 1 ≤ s.size ∧ s.size ≤ 40 by omega), Bool.true_and]
      exact Ev.bind h1 (Ev.some' h2)
    · rw [decide_eq_false (fun h => c2 (by omega)), Bool.false_and]
      exact Ev.neg c2 (Ev.some' rfl)
  · rw [decide_eq_false (fun h => c1 (by omega)), Bool.false_and]
    exact Ev.neg c1 (Ev.some' rfl)
/-! ### events -/
def kindP (e : S40) : Prop := (e.f3 = 3 ∧ e.f5 = 0) ∨ ((e.f3 = 1 ∨ e.f3 = 2) ∧ 1 ≤ e.f5 ∧ e.f5 ≤ 1000000)
instance (e : S40) : Decidable (kindP e) := by unfold kindP; exact inferInstance
def evB (e : S40) : Bool := decide (1 ≤ e.f0 ∧ e.f0 ≤ 9) && (decide (1 ≤ e.f1 ∧ e.f1 ≤ 120) && (decide (0 ≤ e.f2 ∧ e.f2 ≤ 1000000000) && (nameOKV e.f4 && decide (kindP e))))
theorem evB_rng {e : S40} (h : evB e = true) : (1 ≤ e.f0 ∧ e.f0 ≤ 9) ∧ (1 ≤ e.f1 ∧ e.f1 ≤ 120) := by
  unfold evB at h
  simp only [Bool.and_eq_true, decide_eq_true_eq] at h
  exact ⟨h.1, h.2.1⟩
theorem implKind_ev (e : S40) : Ev (fun k => impl_isEvent.j0 k false e.f0 e.f1 e.f2 e.f3 e.f4 e.f5) (decide (kindP e)) := by
  refine Ev.up1 ?_
  simp only [impl_isEvent.j0, if_neg ff]
  have hj : ∀ b : Bool, Ev (fun k => impl_isEvent.j1 k e.f3 b e.f0 e.f1 e.f2 e.f3 e.f4 e.f5) (if b = true then decide (1 ≤ e.f5 ∧ e.f5 ≤ 1000000) else if e.f3 = 3 then (e.f5 == 0) else false) := by
    intro b
    refine Ev.up1 ?_
    simp only [impl_isEvent.j1]
    refine Ev.ite (fun _ => Ev.ret (within_ev _ _ _) (Ev.some' rfl)) (fun _ => Ev.ite (fun _ => Ev.some' rfl) (fun _ => Ev.some' rfl))
  by_cases c1 : e.f3 = 1
  · refine Ev.pos c1 (Ev.eq (hj _) ?_)
    rw [if_pos (by simp [c1])]
    rw [decide_eq_decide]
    unfold kindP
    omega
  · refine Ev.neg c1 (Ev.eq (hj _) ?_)
    by_cases c2 : e.f3 = 2
    · rw [if_pos (by simp [c2]), decide_eq_decide]
      unfold kindP
      omega
    · rw [if_neg (by simp [c2])]
      by_cases c3 : e.f3 = 3
      · rw [if_pos c3, Bool.beq_eq_decide_eq, decide_eq_decide]
        unfold kindP
        omega
      · rw [if_neg c3]
        symm
        rw [decide_eq_false_iff_not]
        unfold kindP
        omega
theorem specKind_ev (e : S40) : Ev (fun k => spec_l12Right.j0 k false e.f0 e.f1 e.f2 e.f3 e.f4 e.f5) (decide (kindP e)) := by
  refine Ev.up1 ?_
  simp only [spec_l12Right.j0, if_neg ff]
  by_cases c3 : e.f3 = 3
  · refine Ev.pos c3 (Ev.some' ?_)
    rw [Bool.beq_eq_decide_eq, decide_eq_decide]
    unfold kindP
    omega
  refine Ev.neg c3 ?_
  by_cases c1 : e.f3 = 1
  · refine Ev.pos c1 (Ev.ret (l01In_ev _ _ _) (Ev.some' ?_))
    rw [decide_eq_decide]
    unfold kindP
    omega
  refine Ev.neg c1 ?_
  by_cases c2 : e.f3 = 2
  · refine Ev.pos c2 (Ev.ret (l01In_ev _ _ _) (Ev.some' ?_))
    rw [decide_eq_decide]
    unfold kindP
    omega
  refine Ev.neg c2 (Ev.some' ?_)
  symm
  rw [decide_eq_false_iff_not]
  unfold kindP
  omega
theorem implEvent_ev (e : S40) : Ev (fun k => impl_isEvent.f k e.f0 e.f1 e.f2 e.f3 e.f4 e.f5) (evB e) := by
  unfold impl_isEvent.f evB
  have hbad : Ev (fun k => impl_isEvent.j0 k true e.f0 e.f1 e.f2 e.f3 e.f4 e.f5) false := Ev.via (Ev.some' rfl) (fun k => rfl)
  refine Ev.ret (within_ev _ _ _) ?_
  by_cases c1 : 1 ≤ e.f0 ∧ e.f0 ≤ 9
  · rw [decide_eq_true c1, Bool.true_and]
    refine Ev.pos rfl (Ev.ret (within_ev _ _ _) ?_)
    by_cases c2 : 1 ≤ e.f1 ∧ e.f1 ≤ 120
    · rw [decide_eq_true c2, Bool.true_and]
      refine Ev.pos rfl (Ev.ret (within_ev _ _ _) ?_)
      by_cases c3 : 0 ≤ e.f2 ∧ e.f2 ≤ 1000000000
      · rw [decide_eq_true c3, Bool.true_and]
        refine Ev.pos rfl (Ev.bind (implName_ev e.f4) ?_)
        cases nameOKV e.f4 with
        | true => exact implKind_ev e
        | false => exact hbad
      · rw [decide_eq_false c3, Bool.false_and]
        exact Ev.neg ff hbad
    · rw [decide_eq_false c2, Bool.false_and]
      exact Ev.neg ff hbad
  · rw [decide_eq_false c1, Bool.false_and]
    exact Ev.neg ff hbad
theorem specRight_ev (e : S40) : Ev (fun k => spec_l12Right.f k e.f0 e.f1 e.f2 e.f3 e.f4 e.f5) (evB e) := by
  unfold spec_l12Right.f evB
  have hbad : Ev (fun k => spec_l12Right.j0 k true e.f0 e.f1 e.f2 e.f3 e.f4 e.f5) false := Ev.via (Ev.some' rfl) (fun k => rfl)
  refine Ev.ret (l01In_ev _ _ _) ?_
  by_cases c1 : 1 ≤ e.f0 ∧ e.f0 ≤ 9
  · rw [decide_eq_true c1, Bool.true_and]
    refine Ev.pos rfl (Ev.ret (l01In_ev _ _ _) ?_)
    by_cases c2 : 1 ≤ e.f1 ∧ e.f1 ≤ 120
    · rw [decide_eq_true c2, Bool.true_and]
      refine Ev.pos rfl (Ev.ret (l01In_ev _ _ _) ?_)
      by_cases c3 : 0 ≤ e.f2 ∧ e.f2 ≤ 1000000000
      · rw [decide_eq_true c3, Bool.true_and]
        refine Ev.pos rfl (Ev.bind (specName_ev e.f4) ?_)
        cases nameOKV e.f4 with
        | true => exact specKind_ev e
        | false => exact hbad
      · rw [decide_eq_false c3, Bool.false_and]
        exact Ev.neg ff hbad
    · rw [decide_eq_false c2, Bool.false_and]
      exact Ev.neg ff hbad
  · rw [decide_eq_false c1, Bool.false_and]
    exact Ev.neg ff hbad
/-- Ahead: by time, shop, number. -/
def aheadP (a b : S40) : Prop := a.f2 < b.f2 ∨ (a.f2 = b.f2 ∧ (a.f0 < b.f0 ∨ (a.f0 = b.f0 ∧ a.f1 < b.f1)))
instance (a b : S40) : Decidable (aheadP a b) := by unfold aheadP; exact inferInstance
theorem specAhead_ev (a b : S40) : spec_l12Ahead.f a.f0 a.f1 a.f2 a.f3 a.f4 a.f5 b.f0 b.f1 b.f2 b.f3 b.f4 b.f5 = some (decide (aheadP a b)) := by
  unfold spec_l12Ahead.f
  repeat' split
  all_goals (congr 1; rw [decide_eq_decide]; unfold aheadP; omega)
def c3V (a b : Int) : Int := if a < b then -1 else if a > b then 1 else 0
theorem compare_ev (a b : Int) : cmp_Compare_int.f a b = some (c3V a b) := by
  unfold cmp_Compare_int.f cmp_isNaN_int.f c3V
  simp only [bne_self_eq_false, Option.bind_some, if_neg ff]
  repeat' split
  all_goals rfl
theorem or_ev (x y z : Int) : Ev (fun k => cmp_Or_int.f k [x, y, z]) (if x = 0 then (if y = 0 then z else y) else x) := by
  unfold cmp_Or_int.f
  have h0 : rd [x, y, z] 0 = x := rfl
  have h1 : rd [x, y, z] 1 = y := rfl
  have h2 : rd [x, y, z] 2 = z := rfl
  refine Ev.step (fun k => rfl) (Ev.pos (by simp) (Ev.pos (by omega) (Ev.pos (by simp) ?_)))
  rw [h0]
  refine Ev.ite (fun _ => ?_) (fun _ => Ev.some' rfl)
  rw [show wrap64 (0 + 1) = 1 from w64 (by omega) (by omega)]
  refine Ev.step (fun k => rfl) (Ev.pos (by simp) (Ev.pos (by omega) (Ev.pos (by simp) ?_)))
  rw [h1]
  refine Ev.ite (fun _ => ?_) (fun _ => Ev.some' rfl)
  rw [show wrap64 (1 + 1) = 2 from w64 (by omega) (by omega)]
  refine Ev.step (fun k => rfl) (Ev.pos (by simp) (Ev.pos (by omega) (Ev.pos (by simp) ?_)))
  rw [h2]
  by_cases c : z = 0
  · refine Ev.pos c ?_
    rw [show wrap64 (2 + 1) = 3 from w64 (by omega) (by omega)]
    exact Ev.step (fun k => rfl) (Ev.neg (by simp) (Ev.some' c.symm))
  · exact Ev.neg c (Ev.some' rfl)
def cmpV (a b : S40) : Int := if c3V a.f2 b.f2 = 0 then (if c3V a.f0 b.f0 = 0 then c3V a.f1 b.f1 else c3V a.f0 b.f0) else c3V a.f2 b.f2
theorem implCmp_ev (a b : S40) : Ev (fun k => impl_compareEvents.f k a.f0 a.f1 a.f2 a.f3 a.f4 a.f5 b.f0 b.f1 b.f2 b.f3 b.f4 b.f5) (cmpV a b) := by
  unfold impl_compareEvents.f
  exact Ev.ret (compare_ev _ _) (Ev.ret (compare_ev _ _) (Ev.ret (compare_ev _ _) (Ev.bind (or_ev _ _ _) (Ev.some' rfl))))
theorem cmpV_iff (a b : S40) : cmpV a b ≥ 0 ↔ ¬ aheadP a b := by
  unfold cmpV c3V aheadP
  constructor
  · intro h
    repeat' split at h
    all_goals omega
  · intro h
    repeat' split
    all_goals omega
def lessB (x y : S40) : Bool := decide (y.f0 = x.f0 → y.f1 < x.f1)
def prevB (p : List S40) (x : S40) : Bool := match p.getLast? with
  | none => true
  | some y => decide (aheadP y x)
def okV : List S40 → List S40 → Bool
  | _, [] => true
  | p, x :: a => if evB x = true then (if prevB p x = true then (if p.all (lessB x) = true then okV (p ++ [x]) a else false) else false) else false
theorem s_l1 (p a : List S40) (x : S40) (v : Bool) (hl : (p ++ x :: a).length ≤ 120) (hv : Ev (fun k => spec_EventsOK.l0 k (p ++ x :: a) ((p.length : Int) + 1)) v) : ∀ (t q : List S40), p = q ++ t →
    Ev (fun k => spec_EventsOK.l1 k (p ++ x :: a) (p.length : Int) (q.length : Int)) (if t.all (lessB x) = true then v else false) := by
  have hl' := hl
  rw [List.length_append, List.length_cons] at hl'
  intro t
  induction t with
  | nil =>
    intro q e
    rw [List.append_nil] at e
    refine Ev.step (fun k => rfl) (Ev.neg (by rw [e]; omega) ?_)
    rw [w64 (by omega) (by omega)]
    exact Ev.eq hv (by simp)
  | cons y t ih =>
    intro q e
    have hq : p ++ x :: a = q ++ y :: (t ++ x :: a) := by rw [e]; simp
    have hlp : p.length = q.length + (t.length + 1) := by rw [e]; simp
    have r1 : rd_T40 (p ++ x :: a) (q.length : Int) = y := by rw [hq]; exact rd_Event_mid q y _
    refine Ev.step (fun k => rfl) (Ev.pos (by omega) (Ev.pos (by omega) (Ev.pos (by rw [List.length_append, List.length_cons]; omega) (Ev.pos (by omega) (Ev.pos (len_lt p x a) ?_)))))
    rw [r1, rd_Event_mid]
    have hn := ih (q ++ [y]) (by rw [e]; simp)
    rw [len_snoc] at hn
    rw [w64 (x := (q.length : Int) + 1) (by omega) (by omega), List.all_cons]
    by_cases c : y.f0 = x.f0
    · refine Ev.pos c ?_
      by_cases c2 : y.f1 ≥ x.f1
      · refine Ev.pos c2 (Ev.some' ?_)
        rw [show lessB x y = false from decide_eq_false (fun h => by have := h c; omega)]
        rfl
      · refine Ev.neg c2 (Ev.eq hn ?_)
        rw [show lessB x y = true from decide_eq_true (fun _ => by omega), Bool.true_and]
    · refine Ev.neg c (Ev.eq hn ?_)
      rw [show lessB x y = true from decide_eq_true (fun h => absurd h c), Bool.true_and]
theorem prevB_snoc (q : List S40) (y x : S40) : prevB (q ++ [y]) x = decide (aheadP y x) := by
  unfold prevB
  rw [List.getLast?_append]
  rfl
theorem specEvents_l0 : ∀ (a p : List S40), (p ++ a).length ≤ 120 → Ev (fun k => spec_EventsOK.l0 k (p ++ a) (p.length : Int)) (okV p a) := by
  intro a
  induction a with
  | nil => intro p hl; exact Ev.step (fun k => rfl) (Ev.neg (len_end p) (Ev.some' rfl))
  | cons x a ih =>
    intro p hl
    have hl' := hl
    rw [List.length_append, List.length_cons] at hl'
    rw [okV]
    refine Ev.step (fun k => rfl) (Ev.pos (len_lt p x a) (Ev.pos (by omega) ?_))
    rw [rd_Event_mid]
    refine Ev.bind (specRight_ev x) ?_
    have hgo : Ev (fun k => spec_EventsOK.j1 k (p ++ x :: a) (p.length : Int) false) (if p.all (lessB x) = true then okV (p ++ [x]) a else false) := by
      refine Ev.via (f := fun k => spec_EventsOK.l1 k (p ++ x :: a) (p.length : Int) 0) ?_ (fun k => rfl)
      refine s_l1 p a x _ hl ?_ p [] rfl
      have := ih (p ++ [x]) (by rw [← snoc]; exact hl)
      rw [← snoc, len_snoc] at this
      exact this
    have hbad : Ev (fun k => spec_EventsOK.j1 k (p ++ x :: a) (p.length : Int) true) false := Ev.via (Ev.some' rfl) (fun k => rfl)
    refine Ev.ite (fun _ => ?_) (fun _ => hbad)
    rcases List.eq_nil_or_concat p with e | ⟨q, y, e⟩
    · subst e
      exact Ev.neg (by simp) (Ev.eq hgo (by rw [if_pos (show prevB [] x = true from rfl)]))
    · rw [List.concat_eq_append] at e
      have hlp : p.length = q.length + 1 := by rw [e]; simp
      have hq : p ++ x :: a = q ++ y :: (x :: a) := by rw [e]; simp
      have r1 : rd_T40 (p ++ x :: a) (q.length : Int) = y := by rw [hq]; exact rd_Event_mid q y _
      have hpv : prevB p x = decide (aheadP y x) := by rw [e]; exact prevB_snoc q y x
      refine Ev.pos (by omega) ?_
      rw [w64 (x := (p.length : Int) - 1) (by omega) (by omega), show (p.length : Int) - 1 = (q.length : Int) by omega]
      refine Ev.pos (by omega) (Ev.pos (by rw [List.length_append, List.length_cons]; omega) ?_)
      rw [r1]
      refine Ev.ret (specAhead_ev y x) ?_
      rw [hpv]
      by_cases c : aheadP y x
      · rw [decide_eq_true c, if_pos rfl]
        exact hgo
      · rw [decide_eq_false c, if_neg ff]
        exact hbad
theorem specEvents_ev (l : List S40) : Ev (fun k => spec_EventsOK.f k l) (if (l.length : Int) > 120 then false else okV [] l) := by
  unfold spec_EventsOK.f
  refine Ev.ite (fun _ => Ev.some' rfl) (fun h => ?_)
  have := specEvents_l0 l [] (by simp; omega)
  exact this
/-- The map: by shop, the greatest number so far. -/
def mInv (p : List S40) (m : Int → Int) : Prop := ∀ s v : Int, 1 ≤ v → (m s ≥ v ↔ ∃ y ∈ p, y.f0 = s ∧ y.f1 ≥ v)
theorem mInv_snoc {p : List S40} {m : Int → Int} (h : mInv p m) (x : S40) (hx : ¬ m x.f0 ≥ x.f1) : mInv (p ++ [x]) (fun s => if s = x.f0 then x.f1 else m s) := by
  intro s v hv
  by_cases e : s = x.f0
  · subst e
    simp only [if_pos]
    constructor
    · intro g
      exact ⟨x, by simp, rfl, g⟩
    · rintro ⟨y, hy, e1, e2⟩
      rcases List.mem_append.1 hy with hy | hy
      · have := (h x.f0 v hv).2 ⟨y, hy, e1, e2⟩
        omega
      · obtain rfl := List.mem_singleton.1 hy
        exact e2
  · simp only [if_neg e]
    rw [h s v hv]
    constructor
    · rintro ⟨y, hy, g⟩
      exact ⟨y, by simp [hy], g⟩
    · rintro ⟨y, hy, e1, e2⟩
      rcases List.mem_append.1 hy with hy | hy
      · exact ⟨y, hy, e1, e2⟩
      · obtain rfl := List.mem_singleton.1 hy
        exact absurd e1.symm e
theorem mInv_all {p : List S40} {m : Int → Int} (h : mInv p m) (x : S40) (hx : 1 ≤ x.f1) : p.all (lessB x) = true ↔ ¬ m x.f0 ≥ x.f1 := by
  rw [h x.f0 x.f1 hx, List.all_eq_true]
  constructor
  · rintro g ⟨y, hy, e1, e2⟩
    have := of_decide_eq_true (g y hy) e1
    omega
  · intro g y hy
    refine decide_eq_true (fun e => ?_)
    by_cases c : y.f1 ≥ x.f1
    · exact absurd ⟨y, hy, e, c⟩ g
    · omega
theorem implEvents_l0 : ∀ (a p : List S40) (m : Int → Int), (p ++ a).length ≤ 120 → mInv p m → Ev (fun k => impl_EventsOK.l0 k (p ++ a) m (p.length : Int)) (okV p a) := by
  intro a
  induction a with
  | nil => intro p m hl _; exact Ev.step (fun k => rfl) (Ev.neg (len_end p) (Ev.some' rfl))
  | cons x a ih =>
    intro p m hl hm
    have hl' := hl
    rw [List.length_append, List.length_cons] at hl'
    rw [okV]
    refine Ev.step (fun k => rfl) (Ev.pos (len_lt p x a) ?_)
    rw [rd_Event_mid]
    refine Ev.bind (implEvent_ev x) ?_
    refine Ev.ite (fun hb => ?_) (fun _ => Ev.some' rfl)
    have hr := evB_rng hb
    have hrest : ∀ c : Int, (c ≥ 0 ↔ prevB p x = false) → Ev (fun k => if c ≥ 0 then (some false) else (if (1 ≤ x.f0 ∧ x.f0 ≤ 9) ∧ (1 ≤ x.f1 ∧ x.f1 ≤ 120) then (if m x.f0 ≥ x.f1 then (some false) else (impl_EventsOK.l0 k (p ++ x :: a) (fun s => if s = x.f0 then x.f1 else m s) ((p.length : Int) + 1))) else (none))) (if prevB p x = true then (if p.all (lessB x) = true then okV (p ++ [x]) a else false) else false) := by
      intro c hc
      by_cases h1 : c ≥ 0
      · refine Ev.pos h1 (Ev.some' ?_)
        rw [hc.1 h1, if_neg ff]
      refine Ev.neg h1 (Ev.pos hr ?_)
      have hp : prevB p x = true := by
        cases g : prevB p x with
        | true => rfl
        | false => exact absurd (hc.2 g) h1
      rw [if_pos hp]
      by_cases h2 : m x.f0 ≥ x.f1
      · refine Ev.pos h2 (Ev.some' ?_)
        rw [if_neg (fun g => (mInv_all hm x hr.2.1).1 g h2)]
      · refine Ev.neg h2 ?_
        rw [if_pos ((mInv_all hm x hr.2.1).2 h2)]
        have := ih (p ++ [x]) _ (by rw [← snoc]; exact hl) (mInv_snoc hm x h2)
        rw [← snoc, len_snoc] at this
        exact this
    rcases List.eq_nil_or_concat p with e | ⟨q, y, e⟩
    · have h0 : ¬ (0 : Int) < (p.length : Int) := by rw [e]; simp
      refine Ev.bind (g := fun k => if (0 : Int) < (p.length : Int) then _ else some (-1)) (a := -1) (Ev.neg h0 (Ev.some' rfl)) (hrest (-1) ?_)
      rw [e]
      exact ⟨fun h => by omega, fun h => by cases h⟩
    · rw [List.concat_eq_append] at e
      have hlp : p.length = q.length + 1 := by rw [e]; simp
      have hq : p ++ x :: a = q ++ y :: (x :: a) := by rw [e]; simp
      have r1 : rd_T40 (p ++ x :: a) (q.length : Int) = y := by rw [hq]; exact rd_Event_mid q y _
      have hpv : prevB p x = decide (aheadP y x) := by rw [e]; exact prevB_snoc q y x
      rw [show (p.length : Int) - 1 = (q.length : Int) by omega, r1]
      refine Ev.bind (Ev.pos (by omega) (implCmp_ev y x)) (hrest _ ?_)
      rw [cmpV_iff, hpv, decide_eq_false_iff_not]
theorem implEvents_ev (l : List S40) : Ev (fun k => impl_EventsOK.f k l) (if (l.length : Int) > 120 then false else okV [] l) := by
  unfold impl_EventsOK.f
  refine Ev.ite (fun _ => Ev.some' rfl) (fun h => ?_)
  exact implEvents_l0 l [] _ (by simp; omega) (fun s v hv => ⟨fun g => by omega, fun ⟨y, hy, _⟩ => by cases hy⟩)
theorem szEventS_l0 : ∀ (a p : List S38) (b : Int), (p ++ a).length < 4611686018427387904 → 0 ≤ b → b ≤ 1048576 → (∀ x ∈ a, x.f4.size ≤ 9223372036854775807) → ∃ r, Ev (fun k => laws_szEventS.l0 k (p ++ a) b (p.length : Int)) r := by
  intro a
  induction a with
  | nil => intro p b _ _ _ _; exact ⟨_, Ev.step (fun k => rfl) (Ev.neg (len_end p) (Ev.some' rfl))⟩
  | cons x a ih =>
    intro p b hl h0 h1 hx
    have hl' := hl
    rw [List.length_append, List.length_cons] at hl'
    have hs := hx x (by simp)
    have r1 : rd_T38 (p ++ x :: a) (p.length : Int) = x := getD_mid p x a z38
    have e1 : ∃ t : Int, laws_szEvent.f x.f0 x.f1 x.f2 x.f3 x.f4 x.f5 b = some t ∧ (t < 0 ∨ (0 ≤ t ∧ t ≤ 1048576)) := by
      unfold laws_szEvent.f
      rw [w64 (by omega) (by omega)]
      by_cases c : b - (x.f4.size : Int) < 0
      · rw [if_pos c]; exact ⟨_, rfl, .inl (by omega)⟩
      · rw [if_neg c]; exact ⟨_, rfl, .inr (by omega)⟩
    obtain ⟨t, e1, e2⟩ := e1
    by_cases c : t < 0
    · refine ⟨-1, Ev.step (fun k => rfl) (Ev.pos (len_lt p x a) (Ev.pos (by omega) ?_))⟩
      rw [r1]
      exact Ev.ret e1 (Ev.pos c (Ev.some' rfl))
    · obtain ⟨r, hr⟩ := ih (p ++ [x]) t (by rw [← snoc]; exact hl) (by omega) (by omega) (fun y hy => hx y (by simp [hy]))
      refine ⟨r, Ev.step (fun k => rfl) (Ev.pos (len_lt p x a) (Ev.pos (by omega) ?_))⟩
      rw [r1]
      refine Ev.ret e1 (Ev.neg c ?_)
      rw [w64 (by omega) (by omega), ← len_snoc p x, snoc p x a]
      exact hr
theorem szEventS_ev (l : List S38) (b : Int) (hb : 0 ≤ b ∧ b ≤ 1048576) (hl : l.length ≤ 9223372036854775807) (hx : ∀ x ∈ l, x.f4.size ≤ 9223372036854775807) : ∃ r, Ev (fun k => laws_szEventS.f k l b) r ∧ (r < 0 ∨ l.length ≤ 1048576) := by
  unfold laws_szEventS.f
  rw [w64 (by omega) (by omega)]
  by_cases c : b - (l.length : Int) < 0
  · exact ⟨-1, Ev.pos c (Ev.some' rfl), .inl (by omega)⟩
  · obtain ⟨r, hr⟩ := szEventS_l0 l [] (b - (l.length : Int)) (by simp; omega) (by omega) (by omega) hx
    exact ⟨r, Ev.neg c hr, .inr (by omega)⟩
theorem rdl_Event_mid (p : List S38) (x : S38) (r : List S38) : rd_T38 (p ++ x :: r) (p.length : Int) = x := getD_mid p x r z38
def toEventV (x : S38) : S40 := ⟨x.f0, x.f1, x.f2, x.f3, x.f4, x.f5⟩
theorem toEvent_ev (x : S38) : laws_toEvent.f x.f0 x.f1 x.f2 x.f3 x.f4 x.f5 = some (x.f0, x.f1, x.f2, x.f3, x.f4, x.f5) := rfl
theorem toEventS_l0 : ∀ (a p : List S38) (t : List S40), t.length = a.length → (p ++ a).length < 4611686018427387904 →
    Ev (fun k => laws_toEventS.l0 k (p ++ a) (p.map toEventV ++ t) (p.length : Int)) ((p ++ a).map toEventV) := by
  intro a
  induction a with
  | nil =>
    intro p t ht hl
    obtain rfl : t = [] := List.eq_nil_of_length_eq_zero ht
    exact Ev.step (fun k => rfl) (Ev.neg (len_end p) (Ev.some' (by simp)))
  | cons x a ih =>
    intro p t ht hl
    match t, ht with
    | y :: t, ht =>
      have hl' : (p ++ x :: a).length < 4611686018427387904 := hl
      rw [List.length_append, List.length_cons] at hl'
      refine Ev.step (fun k => rfl) (Ev.pos (len_lt p x a) (Ev.pos (by omega) ?_))
      rw [rdl_Event_mid]
      refine Ev.ret (toEvent_ev x) (Ev.pos (by simp; omega) ?_)
      have hs : (p.map toEventV ++ y :: t).set (p.length : Int).toNat ⟨x.f0, x.f1, x.f2, x.f3, x.f4, x.f5⟩ = p.map toEventV ++ toEventV x :: t := by
        rw [show (p.length : Int) = ((p.map toEventV).length : Int) by simp]
        exact set_mid _ _ _ _
      rw [hs, w64 (by omega) (by omega), ← len_snoc p x, snoc p x a, snoc _ (toEventV x) t]
      rw [show p.map toEventV ++ [toEventV x] = (p ++ [x]).map toEventV by simp]
      exact ih (p ++ [x]) t (by simpa using ht) (by rw [← snoc]; exact hl)
theorem toEventS_ev (a : List S38) (hl : a.length ≤ 1048576) : Ev (fun k => laws_toEventS.f k a) (a.map toEventV) := by
  unfold laws_toEventS.f
  refine Ev.pos (by omega) (Ev.pos (by omega) ?_)
  rw [Int.toNat_natCast]
  exact toEventS_l0 a [] (List.replicate a.length z40) (by simp) (by simp; omega)
theorem eqEvent_ev (x : S40) : laws_eqEvent.f x.f0 x.f1 x.f2 x.f3 x.f4 x.f5 x.f0 x.f1 x.f2 x.f3 x.f4 x.f5 = some true := by
  unfold laws_eqEvent.f
  simp
theorem eqEventS_l0 : ∀ (a p : List S40), (p ++ a).length < 4611686018427387904 →
    Ev (fun k => laws_eqEventS.l0 k (p ++ a) (p ++ a) (p.length : Int)) true := by
  intro a
  induction a with
  | nil =>
    intro p hl
    exact Ev.step (fun k => rfl) (Ev.neg (len_end p) (Ev.some' rfl))
  | cons x a ih =>
    intro p hl
    have hl' : (p ++ x :: a).length < 4611686018427387904 := hl
    rw [List.length_append, List.length_cons] at hl'
    refine Ev.step (fun k => rfl) (Ev.pos (len_lt p x a) (Ev.pos (by omega) (Ev.pos (len_lt p x a) ?_)))
    rw [rd_Event_mid]
    refine Ev.ret (eqEvent_ev x) (Ev.pos (by first | rfl | trivial) ?_)
    rw [w64 (by omega) (by omega), ← len_snoc p x, snoc p x a]
    exact ih (p ++ [x]) (by rw [← snoc]; exact hl)
theorem eqEventS_ev (a : List S40) (hl : a.length < 4611686018427387904) : Ev (fun k => laws_eqEventS.f k a a) true := by
  unfold laws_eqEventS.f
  exact Ev.pos (by first | rfl | trivial) (eqEventS_l0 a [] hl)

def missV (s : Int) : Int → List S40 → Int × Int
  | _, [] => (0, 8)
  | n, x :: a => if x.f0 = s then (if x.f1 = n then missV s (n + 1) a else (n, 0)) else missV s n a
theorem specMissed_l0 (s : Int) : ∀ (a p : List S40) (n : Int), (p ++ a).length ≤ 120 → 0 ≤ n → n ≤ p.length → Ev (fun k => spec_Missed.l0 k (p ++ a) s n (p.length : Int)) (missV s (n + 1) a) := by
  intro a
  induction a with
  | nil => intro p n hl _ _; exact Ev.step (fun k => rfl) (Ev.neg (len_end p) (Ev.some' rfl))
  | cons x a ih =>
    intro p n hl h0 h1
    have hl' := hl
    rw [List.length_append, List.length_cons] at hl'
    rw [missV]
    have hn := fun m (g0 : 0 ≤ m) (g1 : m ≤ (p.length : Int) + 1) => ih (p ++ [x]) m (by rw [← snoc]; exact hl) g0 (by rw [len_snoc]; exact g1)
    simp only [← snoc, len_snoc] at hn
    refine Ev.step (fun k => rfl) (Ev.pos (len_lt p x a) (Ev.pos (by omega) ?_))
    rw [rd_Event_mid, w64 (x := n + 1) (by omega) (by omega), w64 (x := (p.length : Int) + 1) (by omega) (by omega)]
    by_cases c : x.f0 = s
    · rw [if_pos c]
      refine Ev.pos c ?_
      by_cases c2 : x.f1 = n + 1
      · rw [if_pos c2]
        refine Ev.pos c2 ?_
        rw [c2]
        exact hn (n + 1) (by omega) (by omega)
      · rw [if_neg c2]
        exact Ev.neg c2 (Ev.some' rfl)
    · rw [if_neg c]
      exact Ev.neg c (hn n h0 (by omega))
theorem implMissed_l0 (s : Int) : ∀ (a p : List S40) (n : Int), (p ++ a).length ≤ 120 → 0 ≤ n → n ≤ p.length + 1 → Ev (fun k => impl_Missed.l0 k s n (p ++ a) ((p ++ a).length : Int) (p.length : Int)) (missV s n a) := by
  intro a
  induction a with
  | nil => intro p n hl _ _; exact Ev.step (fun k => rfl) (Ev.neg (len_end p) (Ev.some' rfl))
  | cons x a ih =>
    intro p n hl h0 h1
    have hl' := hl
    rw [List.length_append, List.length_cons] at hl'
    rw [missV]
    have hn := fun m (g0 : 0 ≤ m) (g1 : m ≤ (p.length : Int) + 2) => ih (p ++ [x]) m (by rw [← snoc]; exact hl) g0 (by rw [len_snoc]; omega)
    simp only [← snoc, len_snoc] at hn
    refine Ev.step (fun k => rfl) (Ev.pos (len_lt p x a) (Ev.pos (by omega) (Ev.pos (len_lt p x a) ?_)))
    rw [rd_Event_mid, w64 (x := n + 1) (by omega) (by omega), w64 (x := (p.length : Int) + 1) (by omega) (by omega)]
    by_cases c : x.f0 = s
    · rw [if_pos c]
      refine Ev.pos c ?_
      by_cases c2 : x.f1 = n
      · rw [if_pos c2]
        exact Ev.pos c2 (hn (n + 1) (by omega) (by omega))
      · rw [if_neg c2]
        exact Ev.neg c2 (Ev.some' rfl)
    · rw [if_neg c]
      exact Ev.neg c (hn n h0 (by omega))
def missedV (s : Int) (l : List S40) : Int × Int := if (l.length : Int) > 4096 then (0, 2) else if (if (l.length : Int) > 120 then false else okV [] l) = true then missV s 1 l else (0, 1)
theorem okV_len {l : List S40} (h : (if (l.length : Int) > 120 then false else okV [] l) = true) : l.length ≤ 120 := by
  by_cases c : (l.length : Int) > 120
  · rw [if_pos c] at h; cases h
  · omega
theorem specMissed_ev (s : Int) (l : List S40) : Ev (fun k => spec_Missed.f k l s) (missedV s l) := by
  unfold spec_Missed.f missedV
  refine Ev.ite (fun _ => Ev.some' rfl) (fun _ => Ev.bind (specEvents_ev l) (Ev.ite (fun h => ?_) (fun _ => Ev.some' rfl)))
  have := okV_len h
  exact specMissed_l0 s l [] 0 (by simp; omega) (by omega) (by simp)
theorem implMissed_ev (s : Int) (l : List S40) : Ev (fun k => impl_Missed.f k l s) (missedV s l) := by
  unfold impl_Missed.f missedV
  have e : impl_Event.f l = some (decide ((l.length : Int) ≤ 4096)) := rfl
  refine Ev.ret e ?_
  by_cases c : (l.length : Int) > 4096
  · rw [if_pos c]
    exact Ev.neg (by simp; omega) (Ev.some' rfl)
  · rw [if_neg c]
    refine Ev.pos (by simp; omega) (Ev.bind (implEvents_ev l) (Ev.ite (fun h => ?_) (fun _ => Ev.some' rfl)))
    have := okV_len h
    exact implMissed_l0 s l [] 1 (by simp; omega) (by omega) (by simp)
theorem FnExactMissed : laws_FnExactMissed.Pure := by
  rintro l s ⟨hl, hw⟩ _
  refine Ev.rounds (?_ : Ev (fun k => laws_FnExactMissed.f k l s) true)
  unfold laws_FnExactMissed.f
  obtain ⟨r, er, hr⟩ := szEventS_ev l 1048576 (by omega) hl (fun x hx => (hw x hx).2.2.2.2.1)
  refine Ev.bind er ?_
  by_cases h : r < 0
  · exact Ev.pos h (Ev.some' rfl)
  refine Ev.neg h ?_
  have tE := toEventS_ev l (by omega)
  have sp := specMissed_ev s (l.map toEventV)
  have im := implMissed_ev s (l.map toEventV)
  have eE := eqEventS_ev (l.map toEventV) (by simp; omega)
  generalize missedV s (l.map toEventV) = v at sp im
  obtain ⟨a, b⟩ := v
  refine Ev.bind tE (Ev.bind sp (Ev.bind tE (Ev.bind im (Ev.pos (by first | rfl | trivial) ?_))))
  rw [show (b != b) = false by simp]
  exact Ev.via (Ev.bind tE (Ev.bind eE (Ev.pos (by first | rfl | trivial) (Ev.some' rfl)))) (fun k => rfl)

end Go.Proofs.Ytnpfeigdghecfaa.Pure
