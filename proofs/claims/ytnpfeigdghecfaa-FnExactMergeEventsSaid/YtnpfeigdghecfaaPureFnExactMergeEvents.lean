/- The program's MergeEvents and the reference's answer alike for all lists, and change none: the law's plain statement, with no condition. -/
import Derived.Test.YtnpfeigdghecfaaXFnExactMergeEventsx14
import Derived.Test.YtnpfeigdghecfaaAx
import Derived.Test.YtnpfeigdghecfaaIdx
namespace Go.Proofs.Ytnpfeigdghecfaa.Pure
open Go.RowKit Go.Proofs.Ytnpfeigdghecfaa.XFnExactMergeEvents Go.Proofs.YtnpfeigdghecfaaW.PrintWords Go.Proofs.YtnpfeigdghecfaaW.PrintLast
open Go.Proofs.YtnpfeigdghecfaaW.Ax Go.Proofs.YtnpfeigdghecfaaW.Idx
set_option linter.unusedVariables false
set_option linter.unusedSimpArgs false
theorem rd_Event_mid (p : List S40) (x : S40) (r : List S40) : rd_T40 (p ++ x :: r) (p.length : Int) = x := getD_mid p x r z40
theorem rd_Event_nat (l : List S40) (i : Nat) : rd_T40 l (i : Int) = l.getD i z40 := by
  unfold rd_T40
  rw [Int.toNat_natCast]
theorem within_ev (a b c : Int) : impl_within.f a b c = some (decide (b ≤ a ∧ a ≤ c)) := by
  unfold impl_within.f
  by_cases h : a ≥ b
  · rw [if_pos h]; congr 1; rw [decide_eq_decide]; omega
  · rw [if_neg h]; congr 1; symm; rw [decide_eq_false_iff_not]; omega
theorem l01In_ev (a b c : Int) : spec_l01In.f a b c = some (decide (b ≤ a ∧ a ≤ c)) := by
  unfold spec_l01In.f
  by_cases h : a ≥ b
  · rw [if_pos h]; congr 1; rw [decide_eq_decide]; omega
  · rw [if_neg h]; congr 1; symm; rw [decide_eq_false_iff_not]; omega
/-! ### names -/
def codeP (m : Int) : Prop := (192 ≤ m ∧ m ≤ 591 ∧ m ≠ 215 ∧ m ≠ 247) ∨ (913 ≤ m ∧ m ≤ 969) ∨ (1040 ≤ m ∧ m ≤ 1103)
instance (m : Int) : Decidable (codeP m) := by unfold codeP; exact inferInstance
def wideP (c n : Int) : Prop := (194 ≤ c ∧ c ≤ 223) ∧ (128 ≤ n ∧ n ≤ 191) ∧ codeP ((c - 192) * 64 + n - 128)
instance (c n : Int) : Decidable (wideP c n) := by unfold wideP; exact inferInstance
def plainP (c : Int) : Prop := (97 ≤ c ∧ c ≤ 122) ∨ (65 ≤ c ∧ c ≤ 90) ∨ c = 95
instance (c : Int) : Decidable (plainP c) := by unfold plainP; exact inferInstance
def digitP (c : Int) : Prop := 48 ≤ c ∧ c ≤ 57
instance (c : Int) : Decidable (digitP c) := by unfold digitP; exact inferInstance
/-- The rest of a name, from place i on. -/
def nameB (s : ByteArray) : Nat → Nat → Bool
  | 0, _ => true
  | d + 1, i => if s.size ≤ i then true else if plainP (bt s i) ∨ (0 < i ∧ digitP (bt s i)) then nameB s d (i + 1) else if i + 1 < s.size ∧ wideP (bt s i) (bt s ((i + 1 : Nat) : Int)) then nameB s d (i + 2) else false
theorem someD {b : Bool} {P : Prop} [Decidable P] (h : b = true ↔ P) : some b = some (decide P) := by
  by_cases c : P
  · rw [decide_eq_true c, h.2 c]
  · rw [decide_eq_false c]
    cases b with
    | false => rfl
    | true => exact absurd (h.1 rfl) c
theorem isLetter_ev (c : Int) : impl_isLetter.f c = some (decide (plainP c)) := by
  unfold impl_isLetter.f
  repeat' split
  all_goals (refine someD ?_; unfold plainP; (try simp only [beq_iff_eq]); first | omega | (simp; omega))
theorem isDigit_ev (c : Int) : impl_isDigit.f c = some (decide (digitP c)) := by
  unfold impl_isDigit.f
  repeat' split
  all_goals (refine someD ?_; unfold digitP; (try simp only [decide_eq_true_eq]); first | omega | (simp; omega))
theorem or6 {x y : Int} (hx₀ : 0 ≤ x) (hx : x % 64 = 0) (hx₁ : x < 1000000) (h₀ : 0 ≤ y) (h₁ : y < 64) : Go.bits .or .i64 x y = x + y :=
  Go.bits_join .i64 31 (by decide) (fun n a b => by rw [Go.IntKind.wrap_i64]; omega) 6 x y hx₀ hx (by omega) h₀ h₁ (by omega)
theorem code_eq (c n : Int) (hc : 194 ≤ c ∧ c ≤ 223) (hn : 128 ≤ n ∧ n ≤ 191) : Go.bits .or .i64 (wrap64 ((wrap64 (Go.bits .and .u8 c 31)) * 64)) (wrap64 (Go.bits .and .u8 n 63)) = (c - 192) * 64 + n - 128 := by
  have e1 : Go.bits .and .u8 c 31 = c % 32 := Go.u8_and31 c (by omega) (by omega)
  have e2 : Go.bits .and .u8 n 63 = n % 64 := Go.u8_and63 n (by omega) (by omega)
  rw [e1, e2, w64 (x := c % 32) (by omega) (by omega), w64 (x := n % 64) (by omega) (by omega), w64 (x := c % 32 * 64) (by omega) (by omega), or6 (by omega) (by omega) (by omega) (by omega) (by omega)]
  omega
theorem code_ev (m : Int) : ((impl_within.f m 192 591).bind fun t137 => (if t137 = true then (if m = 215 then ((impl_within.f m 913 969).bind fun t138 => (if t138 = true then (some true) else ((impl_within.f m 1040 1103).bind fun t139 => (some t139)))) else (if m = 247 then ((impl_within.f m 913 969).bind fun t140 => (if t140 = true then (some true) else ((impl_within.f m 1040 1103).bind fun t141 => (some t141)))) else (some true))) else ((impl_within.f m 913 969).bind fun t142 => (if t142 = true then (some true) else ((impl_within.f m 1040 1103).bind fun t143 => (some t143)))))) = some (decide (codeP m)) := by
  simp only [within_ev, Option.bind_some]
  simp only [decide_eq_true_eq]
  repeat' split
  all_goals (refine someD ?_; unfold codeP; (try simp only [decide_eq_true_eq]); first | omega | (simp; omega))
theorem wide_ev (s : ByteArray) (h : s.size = 2) : Ev (fun k => impl_isWideLetter.f k s) (decide (wideP (bt s 0) (bt s 1))) := by
  unfold impl_isWideLetter.f
  have hj : ∀ b : Bool, b = false ∨ b = true := by intro b; cases b <;> simp
  have hbad : ¬ wideP (bt s 0) (bt s 1) → Ev (fun k => impl_isWideLetter.j0 k s true) (decide (wideP (bt s 0) (bt s 1))) := fun h => Ev.via (Ev.some' (decide_eq_false h).symm) (fun k => rfl)
  refine Ev.pos (by omega) ?_
  by_cases c1 : bt s 0 < 194
  · exact Ev.pos c1 (hbad (fun h => by have := h.1; omega))
  refine Ev.neg c1 ?_
  by_cases c2 : bt s 0 > 223
  · exact Ev.pos c2 (hbad (fun h => by have := h.1; omega))
  refine Ev.neg c2 (Ev.pos (by omega) ?_)
  by_cases c3 : bt s 1 < 128
  · exact Ev.pos c3 (hbad (fun h => by have := h.2.1; omega))
  refine Ev.neg c3 ?_
  by_cases c4 : bt s 1 > 191
  · rw [decide_eq_true c4]
    exact hbad (fun h => by have := h.2.1; omega)
  rw [decide_eq_false c4]
  refine Ev.up1 ?_
  simp only [impl_isWideLetter.j0, if_neg ff]
  rw [code_eq _ _ (by omega) (by omega)]
  refine Ev.pos (by omega) (Ev.pos (by omega) ?_)
  have hw : wideP (bt s 0) (bt s 1) ↔ codeP ((bt s 0 - 192) * 64 + bt s 1 - 128) := ⟨fun h => h.2.2, fun h => ⟨by omega, by omega, h⟩⟩
  rw [decide_eq_decide.2 hw]
  exact Ev.const (code_ev _)
theorem bt_extract (s : ByteArray) (i : Nat) (h : i + 2 ≤ s.size) : (s.extract i (i + 2)).size = 2 ∧ bt (s.extract i (i + 2)) 0 = bt s (i : Int) ∧ bt (s.extract i (i + 2)) 1 = bt s ((i + 1 : Nat) : Int) := by
  have hs : (s.extract i (i + 2)).size = 2 := by rw [ByteArray.size_extract]; omega
  refine ⟨hs, ?_, ?_⟩
  · unfold bt
    rw [dif_pos (by rw [hs]; decide), dif_pos (by rw [Int.toNat_natCast]; omega)]
    rw [ByteArray.getElem_extract]
    congr 2
  · unfold bt
    rw [dif_pos (by rw [hs]; decide), dif_pos (by rw [Int.toNat_natCast]; omega)]
    rw [ByteArray.getElem_extract]
    congr 2
theorem impl_name_l0 (s : ByteArray) (hs : s.size ≤ 40) : ∀ (d i : Nat), s.size ≤ i + d → i ≤ 50 → Ev (fun k => impl_NameOK.l0 k s (i : Int)) (nameB s d i) := by
  intro d
  induction d with
  | zero => intro i h hi; exact Ev.step (fun k => rfl) (Ev.neg (show ¬ (i : Int) < (s.size : Int) by omega) (Ev.some' rfl))
  | succ d ih =>
    intro i h hi
    rw [nameB]
    by_cases c0 : s.size ≤ i
    · rw [if_pos c0]
      exact Ev.step (fun k => rfl) (Ev.neg (show ¬ (i : Int) < (s.size : Int) by omega) (Ev.some' rfl))
    rw [if_neg c0]
    have hgo : Ev (fun k => impl_NameOK.j1 k s (i : Int) true) (nameB s d (i + 1)) := by
      refine Ev.via (f := fun k => impl_NameOK.l0 k s (wrap64 ((i : Int) + 1))) ?_ (fun k => rfl)
      rw [w64n (by omega)]
      exact ih (i + 1) (by omega) (by omega)
    have hwide : Ev (fun k => impl_NameOK.j1 k s (i : Int) false) (if i + 1 < s.size ∧ wideP (bt s (i : Int)) (bt s ((i + 1 : Nat) : Int)) then nameB s d (i + 2) else false) := by
      refine Ev.up1 ?_
      simp only [impl_NameOK.j1, if_neg ff]
      rw [w64n (by omega), show wrap64 ((i : Int) + 2) = ((i + 2 : Nat) : Int) by rw [w64 (by omega) (by omega)]; omega, Int.toNat_natCast, Int.toNat_natCast, w64n (by omega)]
      by_cases c1 : i + 1 < s.size
      · obtain ⟨x1, x2, x3⟩ := bt_extract s i (by omega)
        have wv := wide_ev _ x1
        rw [x2, x3] at wv
        refine Ev.pos (by omega) (Ev.pos (by omega) (Ev.pos (by omega) (Ev.pos (by omega) (Ev.bind wv ?_))))
        by_cases c2 : wideP (bt s (i : Int)) (bt s ((i + 1 : Nat) : Int))
        · rw [if_pos ⟨c1, c2⟩]
          exact Ev.pos (decide_eq_true c2) (ih (i + 2) (by omega) (by omega))
        · rw [if_neg (fun h => c2 h.2)]
          exact Ev.neg (by rw [decide_eq_false c2]; exact ff) (Ev.some' rfl)
      · rw [if_neg (fun h => c1 h.1)]
        exact Ev.neg (by omega) (Ev.some' rfl)
    refine Ev.step (fun k => rfl) (Ev.pos (show (i : Int) < (s.size : Int) by omega) (Ev.pos (by omega) (Ev.ret (isLetter_ev _) ?_)))
    by_cases c1 : plainP (bt s (i : Int))
    · rw [if_pos (.inl c1)]
      exact Ev.pos (decide_eq_true c1) hgo
    refine Ev.neg (by simp [c1]) ?_
    by_cases c2 : (i : Int) > 0
    · refine Ev.pos c2 (Ev.ret (isDigit_ev _) ?_)
      by_cases c3 : digitP (bt s (i : Int))
      · rw [if_pos (.inr ⟨by omega, c3⟩), decide_eq_true c3]
        exact hgo
      · rw [if_neg (fun h => h.elim c1 (fun h => c3 h.2)), decide_eq_false c3]
        exact hwide
    · rw [if_neg (fun h => h.elim c1 (fun h => c2 (by omega)))]
      exact Ev.neg c2 hwide
def nameOKV (s : ByteArray) : Bool := decide (1 ≤ s.size ∧ s.size ≤ 40) && nameB s s.size 0
theorem implName_ev (s : ByteArray) : Ev (fun k => impl_NameOK.f k s) (nameOKV s) := by
  unfold impl_NameOK.f nameOKV
  refine Ev.ret (within_ev _ _ _) ?_
  by_cases c : 1 ≤ s.size ∧ s.size ≤ 40
  · rw [decide_eq_true c, Bool.true_and]
    exact Ev.pos (by simp; omega) (impl_name_l0 s c.2 s.size 0 (by omega) (by omega))
  · rw [decide_eq_false c, Bool.false_and]
    exact Ev.neg (by simp; omega) (Ev.some' rfl)
def letV (s : ByteArray) (i : Nat) : Int := if plainP (bt s (i : Int)) then 1 else if i + 1 < s.size ∧ wideP (bt s (i : Int)) (bt s ((i + 1 : Nat) : Int)) then 2 else 0
theorem specLetter_ev (s : ByteArray) (i : Nat) (hi : i < s.size) (hs : s.size ≤ 40) : Ev (fun k => spec_l00Letter.f k s (i : Int)) (letV s i) := by
  have hr := bt_range s (i : Int)
  have hr2 := bt_range s ((i + 1 : Nat) : Int)
  have hw : wrap64 ((i : Int) + 1) = ((i + 1 : Nat) : Int) := w64n (by omega)
  have hyes : plainP (bt s (i : Int)) → Ev (fun k => spec_l00Letter.j0 k s (i : Int) (bt s (i : Int)) true) (letV s i) := by
    intro h
    unfold letV
    rw [if_pos h]
    exact Ev.via (Ev.some' rfl) (fun k => rfl)
  have hno : ¬ plainP (bt s (i : Int)) → Ev (fun k => spec_l00Letter.j0 k s (i : Int) (bt s (i : Int)) false) (letV s i) := by
    intro h
    unfold letV
    rw [if_neg h]
    have hbad : ¬ (i + 1 < s.size ∧ wideP (bt s (i : Int)) (bt s ((i + 1 : Nat) : Int))) → Ev (fun k => spec_l00Letter.j1 k s (i : Int) (bt s (i : Int)) true) (if i + 1 < s.size ∧ wideP (bt s (i : Int)) (bt s ((i + 1 : Nat) : Int)) then (2 : Int) else 0) := by
      intro h
      rw [if_neg h]
      exact Ev.via (Ev.some' rfl) (fun k => rfl)
    refine Ev.up1 ?_
    simp only [spec_l00Letter.j0, if_neg ff]
    rw [hw]
    by_cases c1 : bt s (i : Int) < 194
    · exact Ev.pos c1 (hbad (fun h => by have := h.2.1; omega))
    refine Ev.neg c1 ?_
    by_cases c2 : bt s (i : Int) > 223
    · exact Ev.pos c2 (hbad (fun h => by have := h.2.1; omega))
    refine Ev.neg c2 ?_
    by_cases c3 : ((i + 1 : Nat) : Int) ≥ (s.size : Int)
    · exact Ev.pos c3 (hbad (fun h => by have := h.1; omega))
    refine Ev.neg c3 (Ev.pos (by omega) (Ev.pos (by omega) ?_))
    by_cases c4 : bt s ((i + 1 : Nat) : Int) < 128
    · exact Ev.pos c4 (hbad (fun h => by have := h.2.2.1; omega))
    refine Ev.neg c4 ?_
    by_cases c5 : bt s ((i + 1 : Nat) : Int) > 191
    · rw [decide_eq_true c5]
      exact hbad (fun h => by have := h.2.2.1; omega)
    rw [decide_eq_false c5]
    refine Ev.up1 ?_
    simp only [spec_l00Letter.j1, if_neg ff]
    rw [hw]
    refine Ev.pos (by omega) (Ev.pos (by omega) ?_)
    rw [w64 (x := bt s (i : Int)) (by omega) (by omega), w64 (x := bt s (i : Int) - 192) (by omega) (by omega), w64 (x := (bt s (i : Int) - 192) * 64) (by omega) (by omega), w64 (x := bt s ((i + 1 : Nat) : Int)) (by omega) (by omega), w64 (x := (bt s (i : Int) - 192) * 64 + bt s ((i + 1 : Nat) : Int)) (by omega) (by omega), w64 (x := (bt s (i : Int) - 192) * 64 + bt s ((i + 1 : Nat) : Int) - 128) (by omega) (by omega)]
    have hv : (if i + 1 < s.size ∧ wideP (bt s (i : Int)) (bt s ((i + 1 : Nat) : Int)) then (2 : Int) else 0) = if codeP ((bt s (i : Int) - 192) * 64 + bt s ((i + 1 : Nat) : Int) - 128) then 2 else 0 := by
      by_cases h : codeP ((bt s (i : Int) - 192) * 64 + bt s ((i + 1 : Nat) : Int) - 128)
      · rw [if_pos h, if_pos ⟨by omega, by omega, by omega, h⟩]
      · rw [if_neg h, if_neg (fun g => h g.2.2.2)]
    rw [hv]
    refine Ev.const ?_
    have hc : ∀ m : Int, (192 ≤ m ∧ m ≤ 591 ∧ m ≠ 215 ∧ m ≠ 247) ∨ (913 ≤ m ∧ m ≤ 969) ∨ (1040 ≤ m ∧ m ≤ 1103) ↔ codeP m := fun m => Iff.rfl
    repeat' split
    all_goals first | rfl | (exfalso; simp only [← hc] at *; omega)
  unfold spec_l00Letter.f
  refine Ev.pos (by omega) (Ev.pos (by omega) ?_)
  have hp : ∀ c : Int, (97 ≤ c ∧ c ≤ 122) ∨ (65 ≤ c ∧ c ≤ 90) ∨ c = 95 ↔ plainP c := fun c => Iff.rfl
  have hlast : ¬ ((97 ≤ bt s (i : Int) ∧ bt s (i : Int) ≤ 122) ∨ (65 ≤ bt s (i : Int) ∧ bt s (i : Int) ≤ 90)) → Ev (fun k => spec_l00Letter.j0 k s (i : Int) (bt s (i : Int)) (bt s (i : Int) == 95)) (letV s i) := by
    intro h
    by_cases c : bt s (i : Int) = 95
    · rw [beq_iff_eq.2 c]
      exact hyes ((hp _).1 (by omega))
    · rw [show (bt s (i : Int) == 95) = false by simpa using c]
      exact hno (fun g => by have := (hp _).2 g; omega)
  by_cases a1 : bt s (i : Int) ≥ 97
  · refine Ev.pos a1 ?_
    by_cases a2 : bt s (i : Int) ≤ 122
    · exact Ev.pos a2 (hyes ((hp _).1 (by omega)))
    · refine Ev.neg a2 (Ev.pos (by omega) (Ev.neg (by omega) (hlast (by omega))))
  · refine Ev.neg a1 ?_
    by_cases a3 : bt s (i : Int) ≥ 65
    · refine Ev.pos a3 ?_
      by_cases a4 : bt s (i : Int) ≤ 90
      · exact Ev.pos a4 (hyes ((hp _).1 (by omega)))
      · exact Ev.neg a4 (hlast (by omega))
    · exact Ev.neg a3 (hlast (by omega))
theorem spec_word (s : ByteArray) (hs : s.size ≤ 40) : ∀ (d i : Nat), s.size ≤ i + d → i ≤ s.size → ∃ r : Int, Ev (fun k => spec_l00Word.l0 k s 0 (i : Int)) r ∧ (r == (s.size : Int)) = nameB s d i := by
  intro d
  induction d with
  | zero =>
    intro i h hi
    refine ⟨wrap64 ((i : Int) - 0), Ev.step (fun k => rfl) (Ev.neg (show ¬ (i : Int) < (s.size : Int) by omega) (Ev.some' rfl)), ?_⟩
    rw [w64 (by omega) (by omega), nameB]
    simp; omega
  | succ d ih =>
    intro i h hi
    rw [nameB]
    by_cases c0 : s.size ≤ i
    · rw [if_pos c0]
      refine ⟨wrap64 ((i : Int) - 0), Ev.step (fun k => rfl) (Ev.neg (show ¬ (i : Int) < (s.size : Int) by omega) (Ev.some' rfl)), ?_⟩
      rw [w64 (by omega) (by omega)]
      simp; omega
    rw [if_neg c0]
    have hl := specLetter_ev s i (by omega) hs
    unfold letV at hl
    by_cases c1 : plainP (bt s (i : Int))
    · rw [if_pos c1] at hl
      rw [if_pos (.inl c1)]
      obtain ⟨r, h1, h2⟩ := ih (i + 1) (by omega) (by omega)
      refine ⟨r, Ev.step (fun k => rfl) (Ev.pos (show (i : Int) < (s.size : Int) by omega) (Ev.bind hl (Ev.neg (by decide) ?_))), h2⟩
      refine Ev.via (f := fun k => spec_l00Word.l0 k s 0 (wrap64 ((i : Int) + 1))) ?_ (fun k => rfl)
      rw [w64n (by omega)]
      exact h1
    rw [if_neg c1] at hl
    by_cases c2 : i + 1 < s.size ∧ wideP (bt s (i : Int)) (bt s ((i + 1 : Nat) : Int))
    · rw [if_pos c2] at hl
      rw [if_neg (fun h => h.elim c1 (fun h => by have a := h.2; have b := c2.2.1; unfold digitP at a; omega)), if_pos c2]
      obtain ⟨r, h1, h2⟩ := ih (i + 2) (by omega) (by omega)
      refine ⟨r, Ev.step (fun k => rfl) (Ev.pos (show (i : Int) < (s.size : Int) by omega) (Ev.bind hl (Ev.neg (by decide) ?_))), h2⟩
      refine Ev.via (f := fun k => spec_l00Word.l0 k s 0 (wrap64 ((i : Int) + 2))) ?_ (fun k => rfl)
      rw [show wrap64 ((i : Int) + 2) = ((i + 2 : Nat) : Int) by rw [w64 (by omega) (by omega)]; omega]
      exact h1
    rw [if_neg c2] at hl
    have hstop : ∀ x : Bool, x = (((i : Int) == (s.size : Int))) → Ev (fun k => spec_l00Word.j1 k s 0 (i : Int) 0 false) (i : Int) ∧ x = false := by
      intro x hx
      refine ⟨Ev.via (f := fun _ => some (wrap64 ((i : Int) - 0))) (Ev.some' (by rw [w64 (by omega) (by omega)]; omega)) (fun k => rfl), ?_⟩
      rw [hx]
      simp; omega
    obtain ⟨hs1, hs2⟩ := hstop _ rfl
    by_cases c3 : (i : Int) > 0
    · by_cases c4 : digitP (bt s (i : Int))
      · rw [if_pos (.inr ⟨by omega, c4⟩)]
        obtain ⟨r, h1, h2⟩ := ih (i + 1) (by omega) (by omega)
        have a4 : 48 ≤ bt s (i : Int) ∧ bt s (i : Int) ≤ 57 := c4
        refine ⟨r, Ev.step (fun k => rfl) (Ev.pos (show (i : Int) < (s.size : Int) by omega) (Ev.bind hl (Ev.pos rfl (Ev.pos c3 (Ev.pos (by omega) (Ev.pos a4.1 ?_)))))), h2⟩
        rw [decide_eq_true a4.2]
        refine Ev.via (f := fun k => spec_l00Word.l0 k s 0 (wrap64 ((i : Int) + 1))) ?_ (fun k => rfl)
        rw [w64n (by omega)]
        exact h1
      · rw [if_neg (fun h => h.elim c1 (fun h => c4 h.2)), if_neg c2]
        refine ⟨(i : Int), Ev.step (fun k => rfl) (Ev.pos (show (i : Int) < (s.size : Int) by omega) (Ev.bind hl (Ev.pos rfl (Ev.pos c3 (Ev.pos (by omega) ?_))))), hs2⟩
        by_cases c5 : bt s (i : Int) ≥ 48
        · refine Ev.pos c5 ?_
          rw [decide_eq_false (fun h => c4 ⟨c5, h⟩)]
          exact hs1
        · exact Ev.neg c5 hs1
    · rw [if_neg (fun h => h.elim c1 (fun h => c3 (by omega))), if_neg c2]
      exact ⟨(i : Int), Ev.step (fun k => rfl) (Ev.pos (show (i : Int) < (s.size : Int) by omega) (Ev.bind hl (Ev.pos rfl (Ev.neg c3 hs1)))), hs2⟩
theorem specName_ev (s : ByteArray) : Ev (fun k => spec_NameOK.f k s) (nameOKV s) := by
  unfold spec_NameOK.f nameOKV
  by_cases c1 : (s.size : Int) > 0
  · refine Ev.pos c1 ?_
    by_cases c2 : (s.size : Int) ≤ 40
    · refine Ev.pos c2 ?_
      obtain ⟨r, h1, h2⟩ := spec_word s (by omega) s.size 0 (by omega) (by omega)
      rw [decide_eq_true (show 1 ≤ s.size ∧ s.size ≤ 40 by omega), Bool.true_and]
      exact Ev.bind h1 (Ev.some' h2)
    · rw [decide_eq_false (fun h => c2 (by omega)), Bool.false_and]
      exact Ev.neg c2 (Ev.some' rfl)
  · rw [decide_eq_false (fun h => c1 (by omega)), Bool.false_and]
    exact Ev.neg c1 (Ev.some' rfl)
/-! ### events -/
def kindP (e : S40) : Prop := (e.f3 = 3 ∧ e.f5 = 0) ∨ ((e.f3 = 1 ∨ e.f3 = 2) ∧ 1 ≤ e.f5 ∧ e.f5 ≤ 1000000)
instance (e : S40) : Decidable (kindP e) := by unfold kindP; exact inferInstance
def evB (e : S40) : Bool := decide (1 ≤ e.f0 ∧ e.f0 ≤ 9) && (decide (1 ≤ e.f1 ∧ e.f1 ≤ 120) && (decide (0 ≤ e.f2 ∧ e.f2 ≤ 1000000000) && (nameOKV e.f4 && decide (kindP e))))
theorem evB_rng {e : S40} (h : evB e = true) : (1 ≤ e.f0 ∧ e.f0 ≤ 9) ∧ (1 ≤ e.f1 ∧ e.f1 ≤ 120) := by
  unfold evB at h
  simp only [Bool.and_eq_true, decide_eq_true_eq] at h
  exact ⟨h.1, h.2.1⟩
theorem implKind_ev (e : S40) : Ev (fun k => impl_isEvent.j0 k false e.f0 e.f1 e.f2 e.f3 e.f4 e.f5) (decide (kindP e)) := by
  refine Ev.up1 ?_
  simp only [impl_isEvent.j0, if_neg ff]
  have hj : ∀ b : Bool, Ev (fun k => impl_isEvent.j1 k e.f3 b e.f0 e.f1 e.f2 e.f3 e.f4 e.f5) (if b = true then decide (1 ≤ e.f5 ∧ e.f5 ≤ 1000000) else if e.f3 = 3 then (e.f5 == 0) else false) := by
    intro b
    refine Ev.up1 ?_
    simp only [impl_isEvent.j1]
    refine Ev.ite (fun _ => Ev.ret (within_ev _ _ _) (Ev.some' rfl)) (fun _ => Ev.ite (fun _ => Ev.some' rfl) (fun _ => Ev.some' rfl))
  by_cases c1 : e.f3 = 1
  · refine Ev.pos c1 (Ev.eq (hj _) ?_)
    rw [if_pos (by simp [c1])]
    rw [decide_eq_decide]
    unfold kindP
    omega
  · refine Ev.neg c1 (Ev.eq (hj _) ?_)
    by_cases c2 : e.f3 = 2
    · rw [if_pos (by simp [c2]), decide_eq_decide]
      unfold kindP
      omega
    · rw [if_neg (by simp [c2])]
      by_cases c3 : e.f3 = 3
      · rw [if_pos c3, Bool.beq_eq_decide_eq, decide_eq_decide]
        unfold kindP
        omega
      · rw [if_neg c3]
        symm
        rw [decide_eq_false_iff_not]
        unfold kindP
        omega
theorem specKind_ev (e : S40) : Ev (fun k => spec_l12Right.j0 k false e.f0 e.f1 e.f2 e.f3 e.f4 e.f5) (decide (kindP e)) := by
  refine Ev.up1 ?_
  simp only [spec_l12Right.j0, if_neg ff]
  by_cases c3 : e.f3 = 3
  · refine Ev.pos c3 (Ev.some' ?_)
    rw [Bool.beq_eq_decide_eq, decide_eq_decide]
    unfold kindP
    omega
  refine Ev.neg c3 ?_
  by_cases c1 : e.f3 = 1
  · refine Ev.pos c1 (Ev.ret (l01In_ev _ _ _) (Ev.some' ?_))
    rw [decide_eq_decide]
    unfold kindP
    omega
  refine Ev.neg c1 ?_
  by_cases c2 : e.f3 = 2
  · refine Ev.pos c2 (Ev.ret (l01In_ev _ _ _) (Ev.some' ?_))
    rw [decide_eq_decide]
    unfold kindP
    omega
  refine Ev.neg c2 (Ev.some' ?_)
  symm
  rw [decide_eq_false_iff_not]
  unfold kindP
  omega
theorem implEvent_ev (e : S40) : Ev (fun k => impl_isEvent.f k e.f0 e.f1 e.f2 e.f3 e.f4 e.f5) (evB e) := by
  unfold impl_isEvent.f evB
  have hbad : Ev (fun k => impl_isEvent.j0 k true e.f0 e.f1 e.f2 e.f3 e.f4 e.f5) false := Ev.via (Ev.some' rfl) (fun k => rfl)
  refine Ev.ret (within_ev _ _ _) ?_
  by_cases c1 : 1 ≤ e.f0 ∧ e.f0 ≤ 9
  · rw [decide_eq_true c1, Bool.true_and]
    refine Ev.pos rfl (Ev.ret (within_ev _ _ _) ?_)
    by_cases c2 : 1 ≤ e.f1 ∧ e.f1 ≤ 120
    · rw [decide_eq_true c2, Bool.true_and]
      refine Ev.pos rfl (Ev.ret (within_ev _ _ _) ?_)
      by_cases c3 : 0 ≤ e.f2 ∧ e.f2 ≤ 1000000000
      · rw [decide_eq_true c3, Bool.true_and]
        refine Ev.pos rfl (Ev.bind (implName_ev e.f4) ?_)
        cases nameOKV e.f4 with
        | true => exact implKind_ev e
        | false => exact hbad
      · rw [decide_eq_false c3, Bool.false_and]
        exact Ev.neg ff hbad
    · rw [decide_eq_false c2, Bool.false_and]
      exact Ev.neg ff hbad
  · rw [decide_eq_false c1, Bool.false_and]
    exact Ev.neg ff hbad
theorem specRight_ev (e : S40) : Ev (fun k => spec_l12Right.f k e.f0 e.f1 e.f2 e.f3 e.f4 e.f5) (evB e) := by
  unfold spec_l12Right.f evB
  have hbad : Ev (fun k => spec_l12Right.j0 k true e.f0 e.f1 e.f2 e.f3 e.f4 e.f5) false := Ev.via (Ev.some' rfl) (fun k => rfl)
  refine Ev.ret (l01In_ev _ _ _) ?_
  by_cases c1 : 1 ≤ e.f0 ∧ e.f0 ≤ 9
  · rw [decide_eq_true c1, Bool.true_and]
    refine Ev.pos rfl (Ev.ret (l01In_ev _ _ _) ?_)
    by_cases c2 : 1 ≤ e.f1 ∧ e.f1 ≤ 120
    · rw [decide_eq_true c2, Bool.true_and]
      refine Ev.pos rfl (Ev.ret (l01In_ev _ _ _) ?_)
      by_cases c3 : 0 ≤ e.f2 ∧ e.f2 ≤ 1000000000
      · rw [decide_eq_true c3, Bool.true_and]
        refine Ev.pos rfl (Ev.bind (specName_ev e.f4) ?_)
        cases nameOKV e.f4 with
        | true => exact specKind_ev e
        | false => exact hbad
      · rw [decide_eq_false c3, Bool.false_and]
        exact Ev.neg ff hbad
    · rw [decide_eq_false c2, Bool.false_and]
      exact Ev.neg ff hbad
  · rw [decide_eq_false c1, Bool.false_and]
    exact Ev.neg ff hbad
/-- Ahead: by time, shop, number. -/
def aheadP (a b : S40) : Prop := a.f2 < b.f2 ∨ (a.f2 = b.f2 ∧ (a.f0 < b.f0 ∨ (a.f0 = b.f0 ∧ a.f1 < b.f1)))
instance (a b : S40) : Decidable (aheadP a b) := by unfold aheadP; exact inferInstance
theorem specAhead_ev (a b : S40) : spec_l12Ahead.f a.f0 a.f1 a.f2 a.f3 a.f4 a.f5 b.f0 b.f1 b.f2 b.f3 b.f4 b.f5 = some (decide (aheadP a b)) := by
  unfold spec_l12Ahead.f
  repeat' split
  all_goals (congr 1; rw [decide_eq_decide]; unfold aheadP; omega)
def c3V (a b : Int) : Int := if a < b then -1 else if a > b then 1 else 0
theorem compare_ev (a b : Int) : cmp_Compare_int.f a b = some (c3V a b) := by
  unfold cmp_Compare_int.f cmp_isNaN_int.f c3V
  simp only [bne_self_eq_false, Option.bind_some, if_neg ff]
  repeat' split
  all_goals rfl
theorem or_ev (x y z : Int) : Ev (fun k => cmp_Or_int.f k [x, y, z]) (if x = 0 then (if y = 0 then z else y) else x) := by
  unfold cmp_Or_int.f
  have h0 : rd [x, y, z] 0 = x := rfl
  have h1 : rd [x, y, z] 1 = y := rfl
  have h2 : rd [x, y, z] 2 = z := rfl
  refine Ev.step (fun k => rfl) (Ev.pos (by simp) (Ev.pos (by omega) (Ev.pos (by simp) ?_)))
  rw [h0]
  refine Ev.ite (fun _ => ?_) (fun _ => Ev.some' rfl)
  rw [show wrap64 (0 + 1) = 1 from w64 (by omega) (by omega)]
  refine Ev.step (fun k => rfl) (Ev.pos (by simp) (Ev.pos (by omega) (Ev.pos (by simp) ?_)))
  rw [h1]
  refine Ev.ite (fun _ => ?_) (fun _ => Ev.some' rfl)
  rw [show wrap64 (1 + 1) = 2 from w64 (by omega) (by omega)]
  refine Ev.step (fun k => rfl) (Ev.pos (by simp) (Ev.pos (by omega) (Ev.pos (by simp) ?_)))
  rw [h2]
  by_cases c : z = 0
  · refine Ev.pos c ?_
    rw [show wrap64 (2 + 1) = 3 from w64 (by omega) (by omega)]
    exact Ev.step (fun k => rfl) (Ev.neg (by simp) (Ev.some' c.symm))
  · exact Ev.neg c (Ev.some' rfl)
def cmpV (a b : S40) : Int := if c3V a.f2 b.f2 = 0 then (if c3V a.f0 b.f0 = 0 then c3V a.f1 b.f1 else c3V a.f0 b.f0) else c3V a.f2 b.f2
theorem implCmp_ev (a b : S40) : Ev (fun k => impl_compareEvents.f k a.f0 a.f1 a.f2 a.f3 a.f4 a.f5 b.f0 b.f1 b.f2 b.f3 b.f4 b.f5) (cmpV a b) := by
  unfold impl_compareEvents.f
  exact Ev.ret (compare_ev _ _) (Ev.ret (compare_ev _ _) (Ev.ret (compare_ev _ _) (Ev.bind (or_ev _ _ _) (Ev.some' rfl))))
theorem cmpV_iff (a b : S40) : cmpV a b ≥ 0 ↔ ¬ aheadP a b := by
  unfold cmpV c3V aheadP
  constructor
  · intro h
    repeat' split at h
    all_goals omega
  · intro h
    repeat' split
    all_goals omega
def lessB (x y : S40) : Bool := decide (y.f0 = x.f0 → y.f1 < x.f1)
def prevB (p : List S40) (x : S40) : Bool := match p.getLast? with
  | none => true
  | some y => decide (aheadP y x)
def okV : List S40 → List S40 → Bool
  | _, [] => true
  | p, x :: a => if evB x = true then (if prevB p x = true then (if p.all (lessB x) = true then okV (p ++ [x]) a else false) else false) else false
theorem s_l1 (p a : List S40) (x : S40) (v : Bool) (hl : (p ++ x :: a).length ≤ 120) (hv : Ev (fun k => spec_EventsOK.l0 k (p ++ x :: a) ((p.length : Int) + 1)) v) : ∀ (t q : List S40), p = q ++ t →
    Ev (fun k => spec_EventsOK.l1 k (p ++ x :: a) (p.length : Int) (q.length : Int)) (if t.all (lessB x) = true then v else false) := by
  have hl' := hl
  rw [List.length_append, List.length_cons] at hl'
  intro t
  induction t with
  | nil =>
    intro q e
    rw [List.append_nil] at e
    refine Ev.step (fun k => rfl) (Ev.neg (by rw [e]; omega) ?_)
    rw [w64 (by omega) (by omega)]
    exact Ev.eq hv (by simp)
  | cons y t ih =>
    intro q e
    have hq : p ++ x :: a = q ++ y :: (t ++ x :: a) := by rw [e]; simp
    have hlp : p.length = q.length + (t.length + 1) := by rw [e]; simp
    have r1 : rd_T40 (p ++ x :: a) (q.length : Int) = y := by rw [hq]; exact rd_Event_mid q y _
    refine Ev.step (fun k => rfl) (Ev.pos (by omega) (Ev.pos (by omega) (Ev.pos (by rw [List.length_append, List.length_cons]; omega) (Ev.pos (by omega) (Ev.pos (len_lt p x a) ?_)))))
    rw [r1, rd_Event_mid]
    have hn := ih (q ++ [y]) (by rw [e]; simp)
    rw [len_snoc] at hn
    rw [w64 (x := (q.length : Int) + 1) (by omega) (by omega), List.all_cons]
    by_cases c : y.f0 = x.f0
    · refine Ev.pos c ?_
      by_cases c2 : y.f1 ≥ x.f1
      · refine Ev.pos c2 (Ev.some' ?_)
        rw [show lessB x y = false from decide_eq_false (fun h => by have := h c; omega)]
        rfl
      · refine Ev.neg c2 (Ev.eq hn ?_)
        rw [show lessB x y = true from decide_eq_true (fun _ => by omega), Bool.true_and]
    · refine Ev.neg c (Ev.eq hn ?_)
      rw [show lessB x y = true from decide_eq_true (fun h => absurd h c), Bool.true_and]
theorem prevB_snoc (q : List S40) (y x : S40) : prevB (q ++ [y]) x = decide (aheadP y x) := by
  unfold prevB
  rw [List.getLast?_append]
  rfl
theorem specEvents_l0 : ∀ (a p : List S40), (p ++ a).length ≤ 120 → Ev (fun k => spec_EventsOK.l0 k (p ++ a) (p.length : Int)) (okV p a) := by
  intro a
  induction a with
  | nil => intro p hl; exact Ev.step (fun k => rfl) (Ev.neg (len_end p) (Ev.some' rfl))
  | cons x a ih =>
    intro p hl
    have hl' := hl
    rw [List.length_append, List.length_cons] at hl'
    rw [okV]
    refine Ev.step (fun k => rfl) (Ev.pos (len_lt p x a) (Ev.pos (by omega) ?_))
    rw [rd_Event_mid]
    refine Ev.bind (specRight_ev x) ?_
    have hgo : Ev (fun k => spec_EventsOK.j1 k (p ++ x :: a) (p.length : Int) false) (if p.all (lessB x) = true then okV (p ++ [x]) a else false) := by
      refine Ev.via (f := fun k => spec_EventsOK.l1 k (p ++ x :: a) (p.length : Int) 0) ?_ (fun k => rfl)
      refine s_l1 p a x _ hl ?_ p [] rfl
      have := ih (p ++ [x]) (by rw [← snoc]; exact hl)
      rw [← snoc, len_snoc] at this
      exact this
    have hbad : Ev (fun k => spec_EventsOK.j1 k (p ++ x :: a) (p.length : Int) true) false := Ev.via (Ev.some' rfl) (fun k => rfl)
    refine Ev.ite (fun _ => ?_) (fun _ => hbad)
    rcases List.eq_nil_or_concat p with e | ⟨q, y, e⟩
    · subst e
      exact Ev.neg (by simp) (Ev.eq hgo (by rw [if_pos (show prevB [] x = true from rfl)]))
    · rw [List.concat_eq_append] at e
      have hlp : p.length = q.length + 1 := by rw [e]; simp
      have hq : p ++ x :: a = q ++ y :: (x :: a) := by rw [e]; simp
      have r1 : rd_T40 (p ++ x :: a) (q.length : Int) = y := by rw [hq]; exact rd_Event_mid q y _
      have hpv : prevB p x = decide (aheadP y x) := by rw [e]; exact prevB_snoc q y x
      refine Ev.pos (by omega) ?_
      rw [w64 (x := (p.length : Int) - 1) (by omega) (by omega), show (p.length : Int) - 1 = (q.length : Int) by omega]
      refine Ev.pos (by omega) (Ev.pos (by rw [List.length_append, List.length_cons]; omega) ?_)
      rw [r1]
      refine Ev.ret (specAhead_ev y x) ?_
      rw [hpv]
      by_cases c : aheadP y x
      · rw [decide_eq_true c, if_pos rfl]
        exact hgo
      · rw [decide_eq_false c, if_neg ff]
        exact hbad
theorem specEvents_ev (l : List S40) : Ev (fun k => spec_EventsOK.f k l) (if (l.length : Int) > 120 then false else okV [] l) := by
  unfold spec_EventsOK.f
  refine Ev.ite (fun _ => Ev.some' rfl) (fun h => ?_)
  have := specEvents_l0 l [] (by simp; omega)
  exact this
/-- The map: by shop, the greatest number so far. -/
def mInv (p : List S40) (m : Int → Int) : Prop := ∀ s v : Int, 1 ≤ v → (m s ≥ v ↔ ∃ y ∈ p, y.f0 = s ∧ y.f1 ≥ v)
theorem mInv_snoc {p : List S40} {m : Int → Int} (h : mInv p m) (x : S40) (hx : ¬ m x.f0 ≥ x.f1) : mInv (p ++ [x]) (fun s => if s = x.f0 then x.f1 else m s) := by
  intro s v hv
  by_cases e : s = x.f0
  · subst e
    simp only [if_pos]
    constructor
    · intro g
      exact ⟨x, by simp, rfl, g⟩
    · rintro ⟨y, hy, e1, e2⟩
      rcases List.mem_append.1 hy with hy | hy
      · have := (h x.f0 v hv).2 ⟨y, hy, e1, e2⟩
        omega
      · obtain rfl := List.mem_singleton.1 hy
        exact e2
  · simp only [if_neg e]
    rw [h s v hv]
    constructor
    · rintro ⟨y, hy, g⟩
      exact ⟨y, by simp [hy], g⟩
    · rintro ⟨y, hy, e1, e2⟩
      rcases List.mem_append.1 hy with hy | hy
      · exact ⟨y, hy, e1, e2⟩
      · obtain rfl := List.mem_singleton.1 hy
        exact absurd e1.symm e
theorem mInv_all {p : List S40} {m : Int → Int} (h : mInv p m) (x : S40) (hx : 1 ≤ x.f1) : p.all (lessB x) = true ↔ ¬ m x.f0 ≥ x.f1 := by
  rw [h x.f0 x.f1 hx, List.all_eq_true]
  constructor
  · rintro g ⟨y, hy, e1, e2⟩
    have := of_decide_eq_true (g y hy) e1
    omega
  · intro g y hy
    refine decide_eq_true (fun e => ?_)
    by_cases c : y.f1 ≥ x.f1
    · exact absurd ⟨y, hy, e, c⟩ g
    · omega
theorem implEvents_l0 : ∀ (a p : List S40) (m : Int → Int), (p ++ a).length ≤ 120 → mInv p m → Ev (fun k => impl_EventsOK.l0 k (p ++ a) m (p.length : Int)) (okV p a) := by
  intro a
  induction a with
  | nil => intro p m hl _; exact Ev.step (fun k => rfl) (Ev.neg (len_end p) (Ev.some' rfl))
  | cons x a ih =>
    intro p m hl hm
    have hl' := hl
    rw [List.length_append, List.length_cons] at hl'
    rw [okV]
    refine Ev.step (fun k => rfl) (Ev.pos (len_lt p x a) ?_)
    rw [rd_Event_mid]
    refine Ev.bind (implEvent_ev x) ?_
    refine Ev.ite (fun hb => ?_) (fun _ => Ev.some' rfl)
    have hr := evB_rng hb
    have hrest : ∀ c : Int, (c ≥ 0 ↔ prevB p x = false) → Ev (fun k => if c ≥ 0 then (some false) else (if (1 ≤ x.f0 ∧ x.f0 ≤ 9) ∧ (1 ≤ x.f1 ∧ x.f1 ≤ 120) then (if m x.f0 ≥ x.f1 then (some false) else (impl_EventsOK.l0 k (p ++ x :: a) (fun s => if s = x.f0 then x.f1 else m s) ((p.length : Int) + 1))) else (none))) (if prevB p x = true then (if p.all (lessB x) = true then okV (p ++ [x]) a else false) else false) := by
      intro c hc
      by_cases h1 : c ≥ 0
      · refine Ev.pos h1 (Ev.some' ?_)
        rw [hc.1 h1, if_neg ff]
      refine Ev.neg h1 (Ev.pos hr ?_)
      have hp : prevB p x = true := by
        cases g : prevB p x with
        | true => rfl
        | false => exact absurd (hc.2 g) h1
      rw [if_pos hp]
      by_cases h2 : m x.f0 ≥ x.f1
      · refine Ev.pos h2 (Ev.some' ?_)
        rw [if_neg (fun g => (mInv_all hm x hr.2.1).1 g h2)]
      · refine Ev.neg h2 ?_
        rw [if_pos ((mInv_all hm x hr.2.1).2 h2)]
        have := ih (p ++ [x]) _ (by rw [← snoc]; exact hl) (mInv_snoc hm x h2)
        rw [← snoc, len_snoc] at this
        exact this
    rcases List.eq_nil_or_concat p with e | ⟨q, y, e⟩
    · have h0 : ¬ (0 : Int) < (p.length : Int) := by rw [e]; simp
      refine Ev.bind (g := fun k => if (0 : Int) < (p.length : Int) then _ else some (-1)) (a := -1) (Ev.neg h0 (Ev.some' rfl)) (hrest (-1) ?_)
      rw [e]
      exact ⟨fun h => by omega, fun h => by cases h⟩
    · rw [List.concat_eq_append] at e
      have hlp : p.length = q.length + 1 := by rw [e]; simp
      have hq : p ++ x :: a = q ++ y :: (x :: a) := by rw [e]; simp
      have r1 : rd_T40 (p ++ x :: a) (q.length : Int) = y := by rw [hq]; exact rd_Event_mid q y _
      have hpv : prevB p x = decide (aheadP y x) := by rw [e]; exact prevB_snoc q y x
      rw [show (p.length : Int) - 1 = (q.length : Int) by omega, r1]
      refine Ev.bind (Ev.pos (by omega) (implCmp_ev y x)) (hrest _ ?_)
      rw [cmpV_iff, hpv, decide_eq_false_iff_not]
theorem implEvents_ev (l : List S40) : Ev (fun k => impl_EventsOK.f k l) (if (l.length : Int) > 120 then false else okV [] l) := by
  unfold impl_EventsOK.f
  refine Ev.ite (fun _ => Ev.some' rfl) (fun h => ?_)
  exact implEvents_l0 l [] _ (by simp; omega) (fun s v hv => ⟨fun g => by omega, fun ⟨y, hy, _⟩ => by cases hy⟩)
theorem szEventR_l0 : ∀ (a p : List S38) (b : Int), (p ++ a).length < 4611686018427387904 → 0 ≤ b → b ≤ 1048576 → (∀ x ∈ a, x.f4.size ≤ 9223372036854775807) → ∃ r, Ev (fun k => laws_szEventS.l0 k (p ++ a) b (p.length : Int)) r ∧ (r < 0 ∨ (0 ≤ r ∧ r ≤ 1048576)) := by
  intro a
  induction a with
  | nil => intro p b _ h0 h1 _; exact ⟨_, Ev.step (fun k => rfl) (Ev.neg (len_end p) (Ev.some' rfl)), .inr ⟨h0, h1⟩⟩
  | cons x a ih =>
    intro p b hl h0 h1 hx
    have hl' := hl
    rw [List.length_append, List.length_cons] at hl'
    have hs := hx x (by simp)
    have r1 : rd_T38 (p ++ x :: a) (p.length : Int) = x := getD_mid p x a z38
    have e1 : ∃ t : Int, laws_szEvent.f x.f0 x.f1 x.f2 x.f3 x.f4 x.f5 b = some t ∧ (t < 0 ∨ (0 ≤ t ∧ t ≤ 1048576)) := by
      unfold laws_szEvent.f
      rw [w64 (by omega) (by omega)]
      by_cases c : b - (x.f4.size : Int) < 0
      · rw [if_pos c]; exact ⟨_, rfl, .inl (by omega)⟩
      · rw [if_neg c]; exact ⟨_, rfl, .inr (by omega)⟩
    obtain ⟨t, e1, e2⟩ := e1
    by_cases c : t < 0
    · refine ⟨-1, Ev.step (fun k => rfl) (Ev.pos (len_lt p x a) (Ev.pos (by omega) ?_)), .inl (by omega)⟩
      rw [r1]
      exact Ev.ret e1 (Ev.pos c (Ev.some' rfl))
    · obtain ⟨r, hr, hb⟩ := ih (p ++ [x]) t (by rw [← snoc]; exact hl) (by omega) (by omega) (fun y hy => hx y (by simp [hy]))
      refine ⟨r, Ev.step (fun k => rfl) (Ev.pos (len_lt p x a) (Ev.pos (by omega) ?_)), hb⟩
      rw [r1]
      refine Ev.ret e1 (Ev.neg c ?_)
      rw [w64 (by omega) (by omega), ← len_snoc p x, snoc p x a]
      exact hr
theorem szEventR_ev (l : List S38) (b : Int) (hb : 0 ≤ b ∧ b ≤ 1048576) (hl : l.length ≤ 9223372036854775807) (hx : ∀ x ∈ l, x.f4.size ≤ 9223372036854775807) : ∃ r, Ev (fun k => laws_szEventS.f k l b) r ∧ (r < 0 ∨ (l.length ≤ 1048576 ∧ 0 ≤ r ∧ r ≤ 1048576)) := by
  unfold laws_szEventS.f
  rw [w64 (by omega) (by omega)]
  by_cases c : b - (l.length : Int) < 0
  · exact ⟨-1, Ev.pos c (Ev.some' rfl), .inl (by omega)⟩
  · obtain ⟨r, hr, hq⟩ := szEventR_l0 l [] (b - (l.length : Int)) (by simp; omega) (by omega) (by omega) hx
    exact ⟨r, Ev.neg c hr, hq.imp id (fun h => ⟨by omega, h⟩)⟩
theorem rdl_Event_mid (p : List S38) (x : S38) (r : List S38) : rd_T38 (p ++ x :: r) (p.length : Int) = x := getD_mid p x r z38
def toEventV (x : S38) : S40 := ⟨x.f0, x.f1, x.f2, x.f3, x.f4, x.f5⟩
theorem toEvent_ev (x : S38) : laws_toEvent.f x.f0 x.f1 x.f2 x.f3 x.f4 x.f5 = some (x.f0, x.f1, x.f2, x.f3, x.f4, x.f5) := rfl
theorem toEventS_l0 : ∀ (a p : List S38) (t : List S40), t.length = a.length → (p ++ a).length < 4611686018427387904 →
    Ev (fun k => laws_toEventS.l0 k (p ++ a) (p.map toEventV ++ t) (p.length : Int)) ((p ++ a).map toEventV) := by
  intro a
  induction a with
  | nil =>
    intro p t ht hl
    obtain rfl : t = [] := List.eq_nil_of_length_eq_zero ht
    exact Ev.step (fun k => rfl) (Ev.neg (len_end p) (Ev.some' (by simp)))
  | cons x a ih =>
    intro p t ht hl
    match t, ht with
    | y :: t, ht =>
      have hl' : (p ++ x :: a).length < 4611686018427387904 := hl
      rw [List.length_append, List.length_cons] at hl'
      refine Ev.step (fun k => rfl) (Ev.pos (len_lt p x a) (Ev.pos (by omega) ?_))
      rw [rdl_Event_mid]
      refine Ev.ret (toEvent_ev x) (Ev.pos (by simp; omega) ?_)
      have hs : (p.map toEventV ++ y :: t).set (p.length : Int).toNat ⟨x.f0, x.f1, x.f2, x.f3, x.f4, x.f5⟩ = p.map toEventV ++ toEventV x :: t := by
        rw [show (p.length : Int) = ((p.map toEventV).length : Int) by simp]
        exact set_mid _ _ _ _
      rw [hs, w64 (by omega) (by omega), ← len_snoc p x, snoc p x a, snoc _ (toEventV x) t]
      rw [show p.map toEventV ++ [toEventV x] = (p ++ [x]).map toEventV by simp]
      exact ih (p ++ [x]) t (by simpa using ht) (by rw [← snoc]; exact hl)
theorem toEventS_ev (a : List S38) (hl : a.length ≤ 1048576) : Ev (fun k => laws_toEventS.f k a) (a.map toEventV) := by
  unfold laws_toEventS.f
  refine Ev.pos (by omega) (Ev.pos (by omega) ?_)
  rw [Int.toNat_natCast]
  exact toEventS_l0 a [] (List.replicate a.length z40) (by simp) (by simp; omega)
theorem eqEvent_ev (x : S40) : laws_eqEvent.f x.f0 x.f1 x.f2 x.f3 x.f4 x.f5 x.f0 x.f1 x.f2 x.f3 x.f4 x.f5 = some true := by
  unfold laws_eqEvent.f
  simp
theorem eqEventS_l0 : ∀ (a p : List S40), (p ++ a).length < 4611686018427387904 →
    Ev (fun k => laws_eqEventS.l0 k (p ++ a) (p ++ a) (p.length : Int)) true := by
  intro a
  induction a with
  | nil =>
    intro p hl
    exact Ev.step (fun k => rfl) (Ev.neg (len_end p) (Ev.some' rfl))
  | cons x a ih =>
    intro p hl
    have hl' : (p ++ x :: a).length < 4611686018427387904 := hl
    rw [List.length_append, List.length_cons] at hl'
    refine Ev.step (fun k => rfl) (Ev.pos (len_lt p x a) (Ev.pos (by omega) (Ev.pos (len_lt p x a) ?_)))
    rw [rd_Event_mid]
    refine Ev.ret (eqEvent_ev x) (Ev.pos (by first | rfl | trivial) ?_)
    rw [w64 (by omega) (by omega), ← len_snoc p x, snoc p x a]
    exact ih (p ++ [x]) (by rw [← snoc]; exact hl)
theorem eqEventS_ev (a : List S40) (hl : a.length < 4611686018427387904) : Ev (fun k => laws_eqEventS.f k a a) true := by
  unfold laws_eqEventS.f
  exact Ev.pos (by first | rfl | trivial) (eqEventS_l0 a [] hl)
theorem strOne_size (z : Int) : (strOfNums [z]).size = 1 := rfl
theorem markText_l0 : ∀ (n : Nat) (x : Int) (s : ByteArray), 0 ≤ x → x < 10 ^ n → s.size + n ≤ 1000 → ∃ t, Ev (fun k => laws_markText.l0 k x s) t := by
  intro n
  induction n with
  | zero =>
    intro x s h0 h1 hs
    refine ⟨_, Ev.step (fun k => rfl) (Ev.neg (by omega) (Ev.pos (by omega) (Ev.some' rfl)))⟩
  | succ n ih =>
    intro x s h0 h1 hs
    by_cases c : x > 0
    · have hd : wrap64 (Int.tdiv x 10) = x / 10 ∨ True := .inr trivial
      have h2 : Int.tdiv x 10 = x / 10 := Int.tdiv_eq_ediv_of_nonneg h0
      by_cases hb : x ≤ 9223372036854775807
      · have hw : wrap64 (Int.tdiv x 10) = x / 10 := by rw [h2]; exact w64 (by omega) (by omega)
        have h3 : x / 10 < 10 ^ n := by
          rw [Int.pow_succ] at h1
          omega
        obtain ⟨t, ht⟩ := ih (x / 10) (strOfNums [wrap64 (48 + Int.tmod x 10) % 256] ++ s) (by omega) h3 (by rw [ByteArray.size_append, strOne_size]; omega)
        refine ⟨t, Ev.step (fun k => rfl) (Ev.pos c (Ev.ret rfl (Ev.pos (by rw [strOne_size]; omega) ?_)))⟩
        rw [hw]
        exact ht
      · have hz : -9223372036854775808 ≤ wrap64 (Int.tdiv x 10) ∧ wrap64 (Int.tdiv x 10) ≤ 9223372036854775807 := by unfold wrap64; omega
        have h5 : Int.tdiv x 10 = x / 10 := h2
        have h3 : x / 10 < 10 ^ n := by
          rw [Int.pow_succ] at h1
          omega
        by_cases h6 : 0 ≤ wrap64 (Int.tdiv x 10)
        · obtain ⟨t, ht⟩ := ih (wrap64 (Int.tdiv x 10)) (strOfNums [wrap64 (48 + Int.tmod x 10) % 256] ++ s) h6 (by
            have : wrap64 (Int.tdiv x 10) ≤ x / 10 := by rw [h2]; unfold wrap64; omega
            omega) (by rw [ByteArray.size_append, strOne_size]; omega)
          exact ⟨t, Ev.step (fun k => rfl) (Ev.pos c (Ev.ret rfl (Ev.pos (by rw [strOne_size]; omega) ht)))⟩
        · exact ⟨_, Ev.step (fun k => rfl) (Ev.pos c (Ev.ret rfl (Ev.pos (by rw [strOne_size]; omega) (Ev.step (fun k => rfl) (Ev.neg (by omega) (Ev.pos (by rw [ByteArray.size_append, strOne_size]; omega) (Ev.some' rfl)))))))⟩
    · exact ⟨_, Ev.step (fun k => rfl) (Ev.neg c (Ev.pos (by omega) (Ev.some' rfl)))⟩
theorem markText_ev (x : Int) (h1 : x < 10 ^ 19) : ∃ t, Ev (fun k => laws_markText.f k x) t := by
  unfold laws_markText.f
  by_cases c : x ≤ 0
  · exact ⟨_, Ev.pos c (Ev.some' rfl)⟩
  · obtain ⟨t, ht⟩ := markText_l0 19 x ⟨#[]⟩ (by omega) h1 (by decide)
    exact ⟨t, Ev.neg c ht⟩
theorem setE_mid (p : List S40) (x y : S40) (r : List S40) : (p ++ x :: r).set (p.length : Int).toNat y = p ++ y :: r := set_mid p x y r
def isMark (c : Int) (y : S40) : Prop := y.f0 = c ∧ y.f1 = c + 1 ∧ y.f2 = c + 2 ∧ y.f3 = c + 3 ∧ Ev (fun k => laws_markText.f k (c + 4)) y.f4 ∧ y.f5 = c + 5
def areMarks : List S40 → Int → Prop
  | [], _ => True
  | y :: a, c => isMark c y ∧ areMarks a (c + 6)
theorem markEventS_l0 : ∀ (a p : List S40) (c : Int), (p ++ a).length < 1000000000 → 0 ≤ c → c + 6 * a.length < 1000000000000 →
    ∃ b : List S40, Ev (fun k => laws_markEventS.l0 k (p ++ a) c (p.length : Int)) (c + 6 * a.length, p ++ b) ∧ b.length = a.length ∧ areMarks b c := by
  intro a
  induction a with
  | nil =>
    intro p c hl h0 hc
    exact ⟨[], Ev.step (fun k => rfl) (Ev.neg (len_end p) (Ev.some' (by simp))), rfl, trivial⟩
  | cons x a ih =>
    intro p c hl h0 hc
    have hl' := hl
    rw [List.length_append, List.length_cons] at hl'
    rw [List.length_cons] at hc
    have hpp : (10 : Int) ^ 19 = 10000000000000000000 := by decide
    obtain ⟨t, ht⟩ := markText_ev (c + 4) (by omega)
    have e1 : wrap64 (c + 1) = c + 1 := w64 (by omega) (by omega)
    have e2 : wrap64 (c + 1 + 1) = c + 2 := by rw [w64 (by omega) (by omega)]; omega
    have e3 : wrap64 (c + 2 + 1) = c + 3 := by rw [w64 (by omega) (by omega)]; omega
    have e4 : wrap64 (c + 3 + 1) = c + 4 := by rw [w64 (by omega) (by omega)]; omega
    have e5 : wrap64 (c + 4 + 1) = c + 5 := by rw [w64 (by omega) (by omega)]; omega
    have e6 : wrap64 (c + 5 + 1) = c + 6 := by rw [w64 (by omega) (by omega)]; omega
    obtain ⟨b, g1, g2, g3⟩ := ih (p ++ [⟨c, c + 1, c + 2, c + 3, t, c + 5⟩]) (c + 6) (by simp; omega) (by omega) (by omega)
    refine ⟨⟨c, c + 1, c + 2, c + 3, t, c + 5⟩ :: b, ?_, by simp [g2], ⟨rfl, rfl, rfl, rfl, ht, rfl⟩, g3⟩
    refine Ev.step (fun k => rfl) (Ev.pos (len_lt p x a) (Ev.pos (by omega) (Ev.ret rfl (Ev.ret rfl (Ev.ret rfl (Ev.ret rfl ?_))))))
    simp only [e1, e2, e3, e4, e5, e6, setE_mid, rd_Event_mid]
    refine Ev.bind ht (Ev.ret rfl ?_)
    simp only [setE_mid, rd_Event_mid]
    rw [w64 (by omega) (by omega), ← len_snoc p (⟨c, c + 1, c + 2, c + 3, t, c + 5⟩ : S40), snoc p]
    refine Ev.eq g1 ?_
    rw [← snoc, List.length_cons]
    congr 1
    omega
theorem markEventS_ev (a : List S40) (c : Int) (h0 : 0 ≤ c) (hc : c ≤ 10000000) (hl : a.length ≤ 1048576) : ∃ b : List S40, Ev (fun k => laws_markEventS.f k a c) (c + 6 * (a.length : Int), b) ∧ b.length = a.length ∧ areMarks b c := by
  unfold laws_markEventS.f
  exact markEventS_l0 a [] c (by simp; omega) h0 (by omega)
theorem heldEventS_l0 : ∀ (a p : List S40) (c : Int), (p ++ a).length < 1000000000 → 0 ≤ c → c + 6 * a.length < 1000000000000 → areMarks a c →
    Ev (fun k => laws_heldEventS.l0 k (p ++ a) c (p.length : Int)) (c + 6 * a.length) := by
  intro a
  induction a with
  | nil =>
    intro p c hl h0 hc _
    exact Ev.step (fun k => rfl) (Ev.neg (len_end p) (Ev.some' (by simp)))
  | cons x a ih =>
    intro p c hl h0 hc hm
    have hl' := hl
    rw [List.length_append, List.length_cons] at hl'
    rw [List.length_cons] at hc
    have e1 : wrap64 (c + 1) = c + 1 := w64 (by omega) (by omega)
    have e2 : wrap64 (c + 1 + 1) = c + 2 := by rw [w64 (by omega) (by omega)]; omega
    have e3 : wrap64 (c + 2 + 1) = c + 3 := by rw [w64 (by omega) (by omega)]; omega
    have e4 : wrap64 (c + 3 + 1) = c + 4 := by rw [w64 (by omega) (by omega)]; omega
    have e5 : wrap64 (c + 4 + 1) = c + 5 := by rw [w64 (by omega) (by omega)]; omega
    have e6 : wrap64 (c + 5 + 1) = c + 6 := by rw [w64 (by omega) (by omega)]; omega
    obtain ⟨⟨m0, m1, m2, m3, m4, m5⟩, mr⟩ := hm
    have g1 := ih (p ++ [x]) (c + 6) (by simp; omega) (by omega) (by omega) mr
    refine Ev.step (fun k => rfl) (Ev.pos (len_lt p x a) (Ev.pos (by omega) ?_))
    simp only [e1, e2, e3, e4, e5, e6, rd_Event_mid]
    refine Ev.pos m0 (Ev.pos m1 (Ev.pos m2 (Ev.pos m3 (Ev.bind m4 (Ev.pos rfl (Ev.pos m5 ?_))))))
    rw [w64 (by omega) (by omega), ← len_snoc p x, snoc p x]
    refine Ev.eq g1 ?_
    rw [List.length_cons]
    omega
theorem heldEventS_ev (a : List S40) (hl : a.length ≤ 1048576) (h : areMarks a 1) : Ev (fun k => laws_heldEventS.f k a 1) (1 + 6 * (a.length : Int)) := by
  unfold laws_heldEventS.f
  exact heldEventS_l0 a [] 1 (by simp; omega) (by omega) (by omega) h
def sameP (x y : S40) : Prop := x.f0 = y.f0 ∧ x.f1 = y.f1
instance (x y : S40) : Decidable (sameP x y) := by unfold sameP; exact inferInstance
def eqP (x y : S40) : Prop := x.f0 = y.f0 ∧ x.f1 = y.f1 ∧ x.f2 = y.f2 ∧ x.f3 = y.f3 ∧ x.f4 = y.f4 ∧ x.f5 = y.f5
instance (x y : S40) : Decidable (eqP x y) := by unfold eqP; exact inferInstance
theorem eqP_iff {x y : S40} : eqP x y ↔ x = y := by
  constructor
  · rintro ⟨h0, h1, h2, h3, h4, h5⟩
    cases x
    cases y
    simp only at h0 h1 h2 h3 h4 h5
    subst h0 h1 h2 h3 h4 h5
    rfl
  · rintro rfl
    exact ⟨rfl, rfl, rfl, rfl, rfl, rfl⟩
def mergeV : List S40 → List S40 → List S40
  | [], b => b
  | x :: a, b => match b with
    | [] => x :: a
    | y :: b' => if eqP x y then x :: mergeV a b' else if aheadP x y then x :: mergeV a (y :: b') else y :: mergeV (x :: a) b'
  termination_by a b => a.length + b.length
theorem ahead_irrefl (x : S40) : ¬ aheadP x x := by unfold aheadP; omega
theorem ahead_trans {x y z : S40} (h1 : aheadP x y) (h2 : aheadP y z) : aheadP x z := by unfold aheadP at *; omega
theorem ahead_tot {x y : S40} (h : ¬ sameP x y) : aheadP x y ∨ aheadP y x := by unfold aheadP sameP at *; omega
theorem mergeV_nil (b : List S40) : mergeV [] b = b := by rw [mergeV.eq_def]
theorem mergeV_nil2 (a : List S40) : mergeV a [] = a := by rw [mergeV.eq_def]; cases a <;> rfl
theorem mergeV_cons (x y : S40) (a b : List S40) : mergeV (x :: a) (y :: b) = if eqP x y then x :: mergeV a b else if aheadP x y then x :: mergeV a (y :: b) else y :: mergeV (x :: a) b := by rw [mergeV.eq_def]
theorem mergeV_facts : ∀ (n : Nat) (A B : List S40), A.length + B.length ≤ n → A.Pairwise aheadP → B.Pairwise aheadP → (∀ x ∈ A, ∀ y ∈ B, sameP x y → x = y) → (∀ z, z ∈ mergeV A B ↔ z ∈ A ∨ z ∈ B) ∧ (mergeV A B).Pairwise aheadP := by
  intro n
  induction n with
  | zero =>
    intro A B hn hA hB _
    obtain rfl : A = [] := List.eq_nil_of_length_eq_zero (by omega)
    rw [mergeV_nil]
    exact ⟨by simp, hB⟩
  | succ n ih =>
    intro A B hn hA hB hc
    rcases A with _ | ⟨x, a⟩
    · rw [mergeV_nil]
      exact ⟨by simp, hB⟩
    rcases B with _ | ⟨y, b⟩
    · rw [mergeV_nil2]
      exact ⟨by simp, hA⟩
    rw [mergeV_cons]
    rw [List.length_cons, List.length_cons] at hn
    have hA' := List.pairwise_cons.1 hA
    have hB' := List.pairwise_cons.1 hB
    by_cases c : eqP x y
    · rw [if_pos c]
      obtain rfl := eqP_iff.1 c
      obtain ⟨h1, h2⟩ := ih a b (by omega) hA'.2 hB'.2 (fun u hu v hv => hc u (List.mem_cons_of_mem _ hu) v (List.mem_cons_of_mem _ hv))
      refine ⟨fun z => ?_, List.pairwise_cons.2 ⟨fun z hz => ?_, h2⟩⟩
      · simp only [List.mem_cons, h1]
        grind
      · rcases (h1 z).1 hz with h | h
        · exact hA'.1 z h
        · exact hB'.1 z h
    · rw [if_neg c]
      have hns : ¬ sameP x y := fun h => c (eqP_iff.2 (hc x (by simp) y (by simp) h))
      by_cases c2 : aheadP x y
      · rw [if_pos c2]
        obtain ⟨h1, h2⟩ := ih a (y :: b) (by simp; omega) hA'.2 hB (fun u hu v hv => hc u (List.mem_cons_of_mem _ hu) v hv)
        refine ⟨fun z => ?_, List.pairwise_cons.2 ⟨fun z hz => ?_, h2⟩⟩
        · simp only [List.mem_cons, h1]
          grind
        · rcases (h1 z).1 hz with h | h
          · exact hA'.1 z h
          · rcases List.mem_cons.1 h with rfl | h
            · exact c2
            · exact ahead_trans c2 (hB'.1 z h)
      · rw [if_neg c2]
        have c3 := (ahead_tot hns).resolve_left c2
        obtain ⟨h1, h2⟩ := ih (x :: a) b (by simp; omega) hA hB'.2 (fun u hu v hv => hc u hu v (List.mem_cons_of_mem _ hv))
        refine ⟨fun z => ?_, List.pairwise_cons.2 ⟨fun z hz => ?_, h2⟩⟩
        · simp only [List.mem_cons, h1]
          grind
        · rcases (h1 z).1 hz with h | h
          · rcases List.mem_cons.1 h with rfl | h
            · exact c3
            · exact ahead_trans c3 (hA'.1 z h)
          · exact hB'.1 z h
theorem nodup_of_ahead {l : List S40} (h : l.Pairwise aheadP) : l.Nodup := List.Pairwise.imp (fun {a b} (hab : aheadP a b) (e : a = b) => ahead_irrefl b (by rw [e] at hab; exact hab)) h
def addV (A B : List S40) : List S40 := A ++ B.filter (fun e => ! A.any (fun x => decide (sameP x e)))
theorem merge_sorted {A B d : List S40} (hA : A.Pairwise aheadP) (hB : B.Pairwise aheadP) (uA : A.Pairwise (fun x y => ¬ sameP x y)) (uB : B.Pairwise (fun x y => ¬ sameP x y)) (hc : ∀ x ∈ A, ∀ y ∈ B, sameP x y → x = y)
    (hp : d.Perm (addV A B)) (hs : d.Pairwise (fun x y => ¬ aheadP y x)) : d = mergeV A B := by
  obtain ⟨h1, h2⟩ := mergeV_facts _ A B (Nat.le_refl _) hA hB hc
  have hmem : ∀ z, z ∈ addV A B ↔ z ∈ A ∨ z ∈ B := by
    intro z
    simp only [addV, List.mem_append, List.mem_filter, Bool.not_eq_true', List.any_eq_false, decide_eq_true_eq]
    constructor
    · rintro (h | ⟨h, _⟩)
      · exact .inl h
      · exact .inr h
    · rintro (h | h)
      · exact .inl h
      · by_cases c : ∃ x ∈ A, sameP x z
        · obtain ⟨x, hx, hsm⟩ := c
          exact .inl (hc x hx z h hsm ▸ hx)
        · exact .inr ⟨h, fun x hx hsm => c ⟨x, hx, hsm⟩⟩
  have hnd : (addV A B).Nodup := by
    refine List.nodup_append.2 ⟨nodup_of_ahead hA, (nodup_of_ahead hB).filter _, ?_⟩
    intro x hx y hy e
    subst e
    rw [List.mem_filter, Bool.not_eq_true', List.any_eq_false] at hy
    exact hy.2 x hx (decide_eq_true ⟨rfl, rfl⟩)
  have hdn : d.Nodup := hp.nodup_iff.2 hnd
  have hkey : ∀ x ∈ d, ∀ y ∈ d, x ≠ y → ¬ sameP x y := by
    have sep : ∀ (l : List S40), l.Pairwise (fun x y => ¬ sameP x y) → ∀ x ∈ l, ∀ y ∈ l, x ≠ y → ¬ sameP x y := by
      intro l
      induction l with
      | nil => intro _ x hx; cases hx
      | cons a l ih =>
        intro h x hx y hy hne
        obtain ⟨h1, h2⟩ := List.pairwise_cons.1 h
        rcases List.mem_cons.1 hx with ex | hx' <;> rcases List.mem_cons.1 hy with ey | hy'
        · exact absurd (ex.trans ey.symm) hne
        · rw [ex]; exact h1 y hy'
        · rw [ey]; exact fun e => h1 x hx' ⟨e.1.symm, e.2.symm⟩
        · exact ih h2 x hx' y hy' hne
    intro x hx y hy hne hsm
    rcases (hmem x).1 (hp.mem_iff.1 hx) with h | h <;> rcases (hmem y).1 (hp.mem_iff.1 hy) with g | g
    · exact sep A uA x h y g hne hsm
    · exact hne (hc x h y g hsm)
    · exact hne (hc y g x h ⟨hsm.1.symm, hsm.2.symm⟩).symm
    · exact sep B uB x h y g hne hsm
  have hd : d.Pairwise aheadP := by
    refine List.pairwise_iff_forall_sublist.2 ?_
    intro x y hxy
    have hne : x ≠ y := by
      have := List.pairwise_iff_forall_sublist.1 hdn hxy
      exact this
    have hx : x ∈ d := hxy.subset (by simp)
    have hy : y ∈ d := hxy.subset (by simp)
    exact (ahead_tot (hkey x hx y hy hne)).resolve_right (List.pairwise_iff_forall_sublist.1 hs hxy)
  have hpm : d.Perm (mergeV A B) := by
    refine (List.perm_ext_iff_of_nodup hdn (nodup_of_ahead h2)).2 ?_
    intro z
    rw [h1, ← hmem, hp.mem_iff]
  exact List.Perm.eq_of_pairwise (fun a b _ _ hab hba => absurd (ahead_trans hab hba) (ahead_irrefl a)) hd h2 hpm

theorem bytes_eq {a b : ByteArray} : a.toList = b.toList ↔ a = b := by
  constructor
  · intro h
    rw [Lib.toList_data, Lib.toList_data] at h
    exact ByteArray.ext (Array.ext' h)
  · intro h
    rw [h]
theorem eqB {x y : S40} : ((x.f0 == y.f0) && ((x.f1 == y.f1) && ((x.f2 == y.f2) && ((x.f3 == y.f3) && ((x.f4.toList == y.f4.toList) && (x.f5 == y.f5)))))) = decide (eqP x y) := by
  rw [Bool.eq_iff_iff]
  simp only [Bool.and_eq_true, beq_iff_eq, decide_eq_true_eq, bytes_eq]
  rfl
theorem neB {x y : S40} : (!(x.f0 == y.f0) || (!(x.f1 == y.f1) || (!(x.f2 == y.f2) || (!(x.f3 == y.f3) || (!(x.f4.toList == y.f4.toList) || !(x.f5 == y.f5)))))) = !decide (eqP x y) := by
  rw [← eqB]
  simp only [Bool.not_and]
def clashV (A B : List S40) : Bool := A.any (fun x => B.any (fun y => decide (sameP x y) && !decide (eqP x y)))
def okEv (l : List S40) : Bool := if (l.length : Int) > 120 then false else okV [] l
def finV (o : List S40) : List S40 × Int := if (o.length : Int) > 120 then ([], 9) else if okEv o = true then (o, 0) else ([], 12)
def mergedV (A B : List S40) : List S40 × Int :=
  if (A.length : Int) > 4096 then ([], 2) else if (B.length : Int) > 4096 then ([], 2) else if okEv A = true then (if okEv B = true then (if clashV A B = true then ([], 3) else finV (mergeV A B)) else ([], 1)) else ([], 1)
theorem okEv_len {l : List S40} (h : okEv l = true) : l.length ≤ 120 := by
  unfold okEv at h
  by_cases c : (l.length : Int) > 120
  · rw [if_pos c] at h; cases h
  · omega
/-! ### the reference -/
theorem len_same {α : Type} (p : List α) : (p.length : Int) = ((p ++ ([] : List α)).length : Int) := by simp
theorem len_diff {α : Type} (p : List α) (x : α) (r : List α) : ¬ (p.length : Int) = ((p ++ x :: r).length : Int) := by simp; omega
theorem specMerge_l2 : ∀ (n : Nat) (a b p q out : List S40), a.length + b.length ≤ n → (p ++ a).length ≤ 120 → (q ++ b).length ≤ 120 → out.length ≤ p.length + q.length → Ev (fun k => spec_MergeEvents.l2 k (p ++ a) (q ++ b) [] out (p.length : Int) (q.length : Int)) (finV (out ++ mergeV a b)) := by
  intro n
  induction n with
  | zero =>
    intro a b p q out hn hp hq ho
    obtain rfl : a = [] := List.eq_nil_of_length_eq_zero (by omega)
    obtain rfl : b = [] := List.eq_nil_of_length_eq_zero (by rw [List.length_nil] at hn; omega)
    refine Ev.step (fun k => rfl) (Ev.neg (len_end p) (Ev.step (fun k => rfl) (Ev.neg (by rw [decide_eq_false (len_end q)]; exact ff) ?_)))
    rw [mergeV_nil, List.append_nil]
    unfold finV
    exact Ev.ite (fun _ => Ev.some' rfl) (fun _ => Ev.bind (specEvents_ev out) (Ev.ite (fun _ => Ev.some' rfl) (fun _ => Ev.some' rfl)))
  | succ n ih =>
    intro a b p q out hn hp hq ho
    have hp' := hp
    have hq' := hq
    rw [List.length_append] at hp' hq'
    rcases a with _ | ⟨x, a⟩
    · rcases b with _ | ⟨y, b⟩
      · exact ih [] [] p q out (by simp only [List.length_nil]; omega) hp hq ho
      · rw [List.length_cons] at hn hq'
        refine Ev.step (fun k => rfl) (Ev.neg (len_end p) (Ev.step (fun k => rfl) (Ev.pos (decide_eq_true (len_lt q y b)) (Ev.pos (len_same p) (Ev.pos (by omega) (Ev.pos (len_lt q y b) (Ev.pos (by omega) ?_)))))))
        rw [rd_Event_mid, w64 (x := (q.length : Int) + 1) (by omega) (by omega), ← len_snoc q y, snoc q y b]
        refine Ev.eq (ih [] b p (q ++ [y]) (out ++ [y]) (by simp only [List.length_nil] at hn ⊢; omega) hp (by rw [← snoc]; exact hq) (by simp; omega)) ?_
        rw [mergeV_nil, mergeV_nil, ← snoc]
    · rw [List.length_cons] at hn hp'
      have hstep : ∀ {v : List S40 × Int}, Ev (fun k => spec_MergeEvents.j5 k (p ++ x :: a) (q ++ b) [] out (p.length : Int) (q.length : Int) true) v → Ev (fun k => spec_MergeEvents.l2 k (p ++ x :: a) (q ++ b) [] out (p.length : Int) (q.length : Int)) v :=
        fun h => Ev.step (fun k => rfl) (Ev.pos (len_lt p x a) h)
      have hx : Ev (fun k => spec_MergeEvents.l2 k (p ++ x :: a) (q ++ b) [] (out ++ [x]) (wrap64 ((p.length : Int) + 1)) (q.length : Int)) (finV (out ++ x :: mergeV a b)) := by
        rw [w64 (x := (p.length : Int) + 1) (by omega) (by omega), ← len_snoc p x, snoc p x a]
        refine Ev.eq (ih a b (p ++ [x]) q (out ++ [x]) (by omega) (by rw [← snoc]; exact hp) hq (by simp; omega)) ?_
        rw [← snoc]
      rcases b with _ | ⟨y, b⟩
      · refine hstep (Ev.step (fun k => rfl) (Ev.neg (len_diff p x a) (Ev.pos (len_same q) (Ev.pos (by omega) (Ev.pos (len_lt p x a) (Ev.pos (by omega) ?_))))))
        rw [rd_Event_mid]
        refine Ev.eq hx ?_
        rw [mergeV_nil2, mergeV_nil2]
      · rw [List.length_cons] at hn hq'
        refine hstep (Ev.step (fun k => rfl) (Ev.neg (len_diff p x a) (Ev.neg (len_diff q y b) (Ev.pos (by omega) (Ev.pos (len_lt p x a) (Ev.pos (by omega) (Ev.pos (len_lt q y b) ?_)))))))
        rw [rd_Event_mid, rd_Event_mid, mergeV_cons]
        by_cases c : eqP x y
        · rw [if_pos c]
          refine Ev.pos (eqB.trans (decide_eq_true c)) (Ev.pos (by omega) ?_)
          rw [w64 (x := (p.length : Int) + 1) (by omega) (by omega), w64 (x := (q.length : Int) + 1) (by omega) (by omega), ← len_snoc p x, snoc p x a, ← len_snoc q y, snoc q y b]
          refine Ev.eq (ih a b (p ++ [x]) (q ++ [y]) (out ++ [x]) (by omega) (by rw [← snoc]; exact hp) (by rw [← snoc]; exact hq) (by simp; omega)) ?_
          rw [← snoc]
        · rw [if_neg c]
          refine Ev.neg (by rw [eqB, decide_eq_false c]; exact ff) (Ev.ret (specAhead_ev x y) ?_)
          by_cases c2 : aheadP x y
          · rw [if_pos c2]
            exact Ev.pos (decide_eq_true c2) (Ev.pos (by omega) hx)
          · rw [if_neg c2]
            refine Ev.neg (by rw [decide_eq_false c2]; exact ff) (Ev.pos (by omega) ?_)
            rw [w64 (x := (q.length : Int) + 1) (by omega) (by omega), ← len_snoc q y, snoc q y b]
            refine Ev.eq (ih (x :: a) b p (q ++ [y]) (out ++ [y]) (by simp; omega) hp (by rw [← snoc]; exact hq) (by simp; omega)) ?_
            rw [← snoc]
theorem specMerge_l1 (p a B : List S40) (x : S40) (hp : (p ++ x :: a).length ≤ 120) (v : List S40 × Int) (hv : Ev (fun k => spec_MergeEvents.l0 k (p ++ x :: a) B [] (wrap64 ((p.length : Int) + 1))) v) : ∀ (b q : List S40), B = q ++ b → B.length ≤ 120 →
    Ev (fun k => spec_MergeEvents.l1 k (p ++ x :: a) B [] (p.length : Int) (q.length : Int)) (if b.any (fun y => decide (sameP x y) && !decide (eqP x y)) = true then ([], 3) else v) := by
  intro b
  induction b with
  | nil =>
    intro q e hB
    subst e
    exact Ev.step (fun k => rfl) (Ev.neg (len_end q) (Ev.eq hv (by simp)))
  | cons y b ih =>
    intro q e hB
    have hn := ih (q ++ [y]) (by rw [e]; simp) hB
    rw [len_snoc] at hn
    subst e
    have hB' := hB
    rw [List.length_append, List.length_cons] at hB'
    refine Ev.step (fun k => rfl) (Ev.pos (len_lt q y b) (Ev.pos (by omega) (Ev.pos (len_lt p x a) (Ev.pos (by omega) ?_))))
    rw [rd_Event_mid, rd_Event_mid, List.any_cons, w64 (x := (q.length : Int) + 1) (by omega) (by omega)]
    have hskip : ¬ sameP x y → (if (decide (sameP x y) && !decide (eqP x y) || b.any (fun y => decide (sameP x y) && !decide (eqP x y))) = true then (([] : List S40), (3 : Int)) else v) = (if b.any (fun y => decide (sameP x y) && !decide (eqP x y)) = true then ([], 3) else v) := by
      intro h
      rw [decide_eq_false h, Bool.false_and, Bool.false_or]
    by_cases c : x.f0 = y.f0
    · refine Ev.pos c ?_
      by_cases c2 : x.f1 = y.f1
      · refine Ev.pos c2 ?_
        rw [decide_eq_true (show sameP x y from ⟨c, c2⟩), Bool.true_and]
        by_cases c3 : eqP x y
        · refine Ev.neg (by rw [neB, decide_eq_true c3]; exact ff) ?_
          rw [decide_eq_true c3, Bool.not_true, Bool.false_or]
          exact hn
        · refine Ev.pos (by rw [neB, decide_eq_false c3]; rfl) (Ev.some' ?_)
          rw [decide_eq_false c3, Bool.not_false, Bool.true_or, if_pos rfl]
      · rw [hskip (fun h => c2 h.2)]
        exact Ev.neg c2 hn
    · rw [hskip (fun h => c h.1)]
      exact Ev.neg c hn
theorem specMerge_l0 (A B : List S40) (hA : A.length ≤ 120) (hB : B.length ≤ 120) : ∀ (a p : List S40), A = p ++ a →
    Ev (fun k => spec_MergeEvents.l0 k A B [] (p.length : Int)) (if clashV a B = true then ([], 3) else finV (mergeV A B)) := by
  intro a
  induction a with
  | nil =>
    intro p e
    have h2 := specMerge_l2 _ A B [] [] [] (Nat.le_refl _) (by simpa using hA) (by simpa using hB) (by simp)
    simp only [List.nil_append, List.length_nil] at h2
    refine Ev.step (fun k => rfl) (Ev.neg (by rw [e]; exact len_end p) ?_)
    exact Ev.eq h2 (by simp [clashV])
  | cons x a ih =>
    intro p e
    have hn := ih (p ++ [x]) (by rw [e]; simp)
    rw [len_snoc] at hn
    subst e
    have hA' := hA
    rw [List.length_append, List.length_cons] at hA'
    rw [← w64 (x := (p.length : Int) + 1) (by omega) (by omega)] at hn
    have h1 := specMerge_l1 p a B x hA _ hn B [] rfl hB
    refine Ev.step (fun k => rfl) (Ev.pos (len_lt p x a) (Ev.eq h1 ?_))
    unfold clashV
    rw [List.any_cons]
    by_cases c : B.any (fun y => decide (sameP x y) && !decide (eqP x y)) = true
    · rw [if_pos c, c, Bool.true_or, if_pos rfl]
    · rw [if_neg c]
      rw [Bool.not_eq_true] at c
      rw [c, Bool.false_or]
theorem specMerge_ev (A B : List S40) : Ev (fun k => spec_MergeEvents.f k A B) (mergedV A B) := by
  unfold spec_MergeEvents.f mergedV
  refine Ev.ret rfl ?_
  by_cases c : (A.length : Int) > 4096
  · rw [if_pos c]
    exact Ev.pos c (Ev.step (fun k => rfl) (Ev.some' rfl))
  rw [if_neg c]
  refine Ev.neg c ?_
  by_cases c2 : (B.length : Int) > 4096
  · rw [if_pos c2]
    exact Ev.step (fun k => rfl) (Ev.pos (decide_eq_true c2) (Ev.some' rfl))
  rw [if_neg c2]
  refine Ev.step (fun k => rfl) (Ev.neg (by rw [decide_eq_false c2]; exact ff) (Ev.bind (specEvents_ev A) (Ev.ite (fun h => Ev.bind (specEvents_ev B) ?_) (fun _ => Ev.step (fun k => rfl) (Ev.some' rfl)))))
  by_cases h2 : okEv B = true
  · rw [if_pos h2]
    refine Ev.step (fun k => rfl) (Ev.neg (by show ¬ (!okEv B) = true; rw [h2]; exact ff) ?_)
    exact specMerge_l0 A B (okEv_len h) (okEv_len h2) A [] rfl
  · rw [if_neg h2]
    refine Ev.step (fun k => rfl) (Ev.pos (by show (!okEv B) = true; rw [Bool.not_eq_true] at h2; rw [h2]; rfl) (Ev.some' rfl))
/-! ### what a right list is -/
theorem okV_facts : ∀ (a p : List S40), okV p a = true → p.Pairwise aheadP → p.Pairwise (fun x y => ¬ sameP x y) → (p ++ a).Pairwise aheadP ∧ (p ++ a).Pairwise (fun x y => ¬ sameP x y) := by
  intro a
  induction a with
  | nil =>
    intro p _ h1 h2
    rw [List.append_nil]
    exact ⟨h1, h2⟩
  | cons x a ih =>
    intro p h h1 h2
    rw [okV] at h
    by_cases c1 : evB x = true
    rotate_left
    · rw [if_neg c1] at h; cases h
    rw [if_pos c1] at h
    by_cases c2 : prevB p x = true
    rotate_left
    · rw [if_neg c2] at h; cases h
    rw [if_pos c2] at h
    by_cases c3 : p.all (lessB x) = true
    rotate_left
    · rw [if_neg c3] at h; cases h
    rw [if_pos c3] at h
    rw [snoc]
    refine ih (p ++ [x]) h (List.pairwise_append.2 ⟨h1, List.pairwise_singleton _ _, ?_⟩) (List.pairwise_append.2 ⟨h2, List.pairwise_singleton _ _, ?_⟩)
    · intro y hy z hz
      rw [List.mem_singleton] at hz
      subst hz
      rcases List.eq_nil_or_concat p with rfl | ⟨q, w, rfl⟩
      · cases hy
      rw [List.concat_eq_append] at *
      rw [prevB_snoc, decide_eq_true_eq] at c2
      rcases List.mem_append.1 hy with hy | hy
      · exact ahead_trans ((List.pairwise_append.1 h1).2.2 y hy w (by simp)) c2
      · rw [List.mem_singleton] at hy
        rw [hy]
        exact c2
    · intro y hy z hz hs
      rw [List.mem_singleton] at hz
      subst hz
      have := List.all_eq_true.1 c3 y hy
      unfold lessB at this
      rw [decide_eq_true_eq] at this
      have h5 := this hs.1
      have h6 := hs.2
      omega
theorem okEv_facts {l : List S40} (h : okEv l = true) : l.Pairwise aheadP ∧ l.Pairwise (fun x y => ¬ sameP x y) := by
  have hl := okEv_len h
  unfold okEv at h
  rw [if_neg (by omega)] at h
  exact okV_facts l [] h List.Pairwise.nil List.Pairwise.nil
/-! ### the program -/
theorem sort_lt (x y : S40) : Go.Proofs.ltOf impl_Event_28.cf x y = decide (aheadP x y) := impl_Event_28.lt x y
theorem sort_ev (A B O : List S40) (hO : O = addV A B) (hA : okEv A = true) (hB : okEv B = true) (hc : clashV A B = false) : impl_Event_28.f O = some (mergeV A B) ∧ (mergeV A B).length = O.length := by
  subst hO
  obtain ⟨pA, uA⟩ := okEv_facts hA
  obtain ⟨pB, uB⟩ := okEv_facts hB
  have lA := okEv_len hA
  have lB := okEv_len hB
  have hcc : ∀ x ∈ A, ∀ y ∈ B, sameP x y → x = y := by
    intro x hx y hy hs
    unfold clashV at hc
    have h1 := List.any_eq_false.1 hc x hx
    rw [Bool.not_eq_true] at h1
    have h2 := List.any_eq_false.1 h1 y hy
    rw [decide_eq_true hs, Bool.true_and] at h2
    by_cases c : eqP x y
    · exact eqP_iff.1 c
    · exact absurd (by rw [decide_eq_false c]; rfl) h2
  have hlen : (addV A B).length ≤ 240 := by
    unfold addV
    rw [List.length_append]
    have := List.length_filter_le (fun e => ! A.any (fun x => decide (sameP x e))) B
    omega
  unfold impl_Event_28.f
  rw [if_pos (by omega)]
  by_cases c0 : (addV A B).length = 0
  · rw [if_pos c0]
    have e : addV A B = [] := List.eq_nil_of_length_eq_zero c0
    have h0 : ([] : List S40) = mergeV A B := merge_sorted pA pB uA uB hcc (by rw [e]) List.Pairwise.nil
    rw [← h0, e]
    exact ⟨rfl, rfl⟩
  rw [if_neg c0]
  have hps := Go.Sort.pdq_sorts (Go.Proofs.ltOf impl_Event_28.cf) impl_Event_28.swo (addV A B).toArray 0 (addV A B).toArray.size (Lib.bitLen (addV A B).toArray.size) true true (Nat.zero_le _) (Nat.le_refl _) (.inl rfl)
  generalize Go.Sort.pdq (Go.Proofs.ltOf impl_Event_28.cf) (addV A B).toArray 0 (addV A B).toArray.size (Lib.bitLen (addV A B).toArray.size) true true = d at hps ⊢
  obtain ⟨⟨hs, _, hperm⟩, hsort⟩ := hps
  have hsz : d.size = (addV A B).toArray.size := hs
  rw [← hsz, Array.extract_size] at hperm
  rw [hsz, Array.extract_size] at hperm
  have hpp : d.toList.Perm (addV A B) := by simpa using hperm
  have hm : d.toList = mergeV A B := by
    refine merge_sorted pA pB uA uB hcc hpp ?_
    rw [List.pairwise_iff_getElem]
    intro i j hi hj hij
    rw [Array.length_toList] at hi hj
    have h1 := hsort i j (Nat.zero_le _) hij (by rw [← hsz]; exact hj)
    rw [sort_lt, decide_eq_false_iff_not, getElem!_pos d i hi, getElem!_pos d j hj] at h1
    simpa using h1
  rw [hm] at hpp ⊢
  exact ⟨rfl, hpp.length_eq⟩
theorem idx_at {p : S40 → Bool} {l : List S40} {i : Int} (h : idxV p l = i) (h0 : 0 ≤ i) : ∃ x ∈ l, rd_T40 l i = x ∧ p x = true := by
  unfold idxV at h
  cases c : l.findIdx? p with
  | none =>
    rw [c] at h
    simp only at h
    omega
  | some j =>
    rw [c] at h
    rw [List.findIdx?_eq_some_iff_getElem] at c
    obtain ⟨hj, hp, _⟩ := c
    simp only at h
    subst h
    exact ⟨l[j], List.getElem_mem hj, by rw [rd_Event_nat, List.getD_eq_getElem?_getD, List.getElem?_eq_getElem hj]; rfl, hp⟩
theorem sep_same : ∀ (l : List S40), l.Pairwise (fun x y => ¬ sameP x y) → ∀ x ∈ l, ∀ y ∈ l, sameP x y → x = y := by
  intro l
  induction l with
  | nil => intro _ x hx; cases hx
  | cons a l ih =>
    intro h x hx y hy hs
    obtain ⟨h1, h2⟩ := List.pairwise_cons.1 h
    rcases List.mem_cons.1 hx with ex | hx' <;> rcases List.mem_cons.1 hy with ey | hy'
    · exact ex.trans ey.symm
    · exact absurd (ex ▸ hs) (h1 y hy')
    · exact absurd (show sameP a x from ey ▸ ⟨hs.1.symm, hs.2.symm⟩) (h1 x hx')
    · exact ih h2 x hx' y hy' hs
theorem implMerge_l0 (A B : List S40) (hA : okEv A = true) (hB : okEv B = true) : ∀ (b q O : List S40), B = q ++ b → O = addV A q → clashV A q = false →
    Ev (fun k => impl_MergeEvents.l0 k A O B (B.length : Int) (q.length : Int)) (if clashV A B = true then ([], 3) else finV (mergeV A B)) := by
  have lA := okEv_len hA
  have lB := okEv_len hB
  intro b
  induction b with
  | nil =>
    intro q O e hO hc
    rw [List.append_nil] at e
    subst e
    refine Ev.step (fun k => rfl) (Ev.neg (by omega) (Ev.ret (sort_ev A B O hO hA hB hc).1 ?_))
    rw [if_neg (by rw [hc]; exact ff)]
    have hlen : O.length = (mergeV A B).length := (sort_ev A B O hO hA hB hc).2.symm
    unfold finV
    rw [hlen]
    exact Ev.ite (fun _ => Ev.some' rfl) (fun _ => Ev.bind (implEvents_ev _) (Ev.ite (fun _ => Ev.some' rfl) (fun _ => Ev.some' rfl)))
  | cons y b ih =>
    intro q O e hO hc
    have hn := fun O2 h1 h2 => ih (q ++ [y]) O2 (by rw [e]; simp) h1 h2
    rw [len_snoc] at hn
    have hq : q.length < B.length := by rw [e]; simp
    have ry : rd_T40 B (q.length : Int) = y := by rw [e]; exact rd_Event_mid q y b
    have lO : O.length ≤ 240 := by
      rw [hO]
      unfold addV
      rw [List.length_append]
      have := List.length_filter_le (fun e => ! A.any (fun x => decide (sameP x e))) q
      omega
    have cl2 : clashV A (q ++ [y]) = A.any (fun x => decide (sameP x y) && !decide (eqP x y)) := by
      unfold clashV at hc ⊢
      rw [Bool.eq_iff_iff]
      simp only [List.any_eq_true, List.any_append, List.any_cons, List.any_nil, Bool.or_false, Bool.or_eq_true]
      constructor
      · rintro ⟨x, hx, h | h⟩
        · exact absurd (List.any_eq_true.2 h) (List.any_eq_false.1 hc x hx)
        · exact ⟨x, hx, h⟩
      · rintro ⟨x, hx, h⟩
        exact ⟨x, hx, .inr h⟩
    refine Ev.step (fun k => rfl) (Ev.pos (by omega) (Ev.pos (by omega) (Ev.pos (by omega) (Ev.ret rfl ?_))))
    rw [ry, w64 (x := (q.length : Int) + 1) (by omega) (by omega)]
    have hpp : impl_Event_26.p y.f0 y.f1 = (fun x => decide (sameP x y)) := by
      funext x
      unfold impl_Event_26.p
      rw [Bool.eq_iff_iff]
      simp only [Bool.and_eq_true, beq_iff_eq, decide_eq_true_eq]
      rfl
    rw [hpp]
    generalize hi : idxV (fun x => decide (sameP x y)) A = i
    have hany := idxV_any (fun x => decide (sameP x y)) A
    have hlt := idxV_lt (fun x => decide (sameP x y)) A
    rw [hi] at hany hlt
    by_cases c : i < 0
    · refine Ev.pos c (Ev.pos (by omega) ?_)
      have hno : A.any (fun x => decide (sameP x y)) = false := by
        rw [← hany]
        exact decide_eq_false (by omega)
      refine hn (O ++ [y]) ?_ ?_
      · rw [hO]
        unfold addV
        rw [List.filter_append, List.append_assoc]
        congr 2
        rw [List.filter_cons_of_pos (by rw [hno]; rfl)]
        rfl
      · rw [cl2]
        rw [List.any_eq_false] at hno ⊢
        intro x hx
        have := hno x hx
        rw [Bool.not_eq_true] at this ⊢
        rw [this, Bool.false_and]
    · refine Ev.neg c (Ev.pos (by omega) (Ev.pos (by omega) ?_))
      obtain ⟨x, hx, rx, hsx⟩ : ∃ x ∈ A, rd_T40 A i = x ∧ sameP x y := by
        obtain ⟨x, hx, rx, hp⟩ := idx_at hi (by omega)
        exact ⟨x, hx, rx, of_decide_eq_true hp⟩
      rw [rx]
      have hmem : A.any (fun x => decide (sameP x y)) = true := List.any_eq_true.2 ⟨x, hx, decide_eq_true hsx⟩
      by_cases c2 : eqP x y
      · refine Ev.neg (by rw [neB, decide_eq_true c2]; exact ff) (hn O ?_ ?_)
        · rw [hO]
          unfold addV
          rw [List.filter_append]
          rw [List.filter_cons_of_neg (by rw [hmem]; exact ff), List.filter_nil, List.append_nil]
        · rw [cl2, List.any_eq_false]
          intro z hz
          by_cases c3 : sameP z y
          · have : z = x := sep_same A (okEv_facts hA).2 z hz x hx ⟨c3.1.trans hsx.1.symm, c3.2.trans hsx.2.symm⟩
            rw [this, decide_eq_true c2, Bool.not_true, Bool.and_false]
            exact ff
          · rw [decide_eq_false c3, Bool.false_and]
            exact ff
      · refine Ev.pos (by rw [neB, decide_eq_false c2]; rfl) (Ev.some' ?_)
        have : clashV A B = true := by
          unfold clashV
          exact List.any_eq_true.2 ⟨x, hx, List.any_eq_true.2 ⟨y, by rw [e]; simp, by rw [decide_eq_true hsx, decide_eq_false c2]; rfl⟩⟩
        rw [if_pos this]
theorem implMerge_ev (A B : List S40) : Ev (fun k => impl_MergeEvents.f k A B) (mergedV A B) := by
  unfold impl_MergeEvents.f mergedV
  have e : ∀ l, impl_Event_24.f l = some (decide ((l.length : Int) ≤ 4096)) := fun _ => rfl
  refine Ev.ret (e A) ?_
  by_cases c : (A.length : Int) > 4096
  · rw [if_pos c]
    exact Ev.neg (by rw [decide_eq_false (by omega)]; exact ff) (Ev.step (fun k => rfl) (Ev.some' rfl))
  rw [if_neg c]
  refine Ev.pos (decide_eq_true (by omega)) (Ev.ret (e B) ?_)
  by_cases c2 : (B.length : Int) > 4096
  · rw [if_pos c2]
    exact Ev.step (fun k => rfl) (Ev.pos (by rw [decide_eq_false (by omega)]; rfl) (Ev.some' rfl))
  rw [if_neg c2]
  refine Ev.step (fun k => rfl) (Ev.neg (by rw [decide_eq_true (by omega)]; exact ff) (Ev.bind (implEvents_ev A) (Ev.ite (fun h => Ev.bind (implEvents_ev B) (Ev.ite (fun h2 => ?_) (fun _ => Ev.some' rfl))) (fun _ => Ev.some' rfl))))
  have lA := okEv_len h
  have ec : impl_Event_25.f A = some A := by
    unfold impl_Event_25.f
    rw [if_pos (by omega)]
  exact Ev.ret ec (implMerge_l0 A B h h2 B [] A rfl (by simp [addV]) (by simp [clashV]))
theorem mergedV_len (A B : List S40) : (mergedV A B).1.length ≤ 120 := by
  unfold mergedV finV
  repeat' split
  all_goals simp only [List.length_nil]
  all_goals omega
theorem FnExactMergeEvents : laws_FnExactMergeEvents.Pure := by
  rintro L1 L2 ⟨hL1, hw1⟩ ⟨hL2, hw2⟩
  refine Ev.rounds (?_ : Ev (fun k => laws_FnExactMergeEvents.f k L1 L2) true)
  unfold laws_FnExactMergeEvents.f
  obtain ⟨r, hr, h⟩ := szEventR_ev L1 1048576 (by omega) hL1 (fun x hx => (hw1 x hx).2.2.2.2.1)
  refine Ev.bind hr ?_
  by_cases c : r < 0
  · exact Ev.pos c (Ev.some' rfl)
  obtain ⟨hl1, h0, h1⟩ := h.resolve_left c
  obtain ⟨r2, hr2, h2⟩ := szEventR_ev L2 r ⟨h0, h1⟩ hL2 (fun x hx => (hw2 x hx).2.2.2.2.1)
  refine Ev.neg c (Ev.bind hr2 ?_)
  by_cases c2 : r2 < 0
  · exact Ev.pos c2 (Ev.some' rfl)
  obtain ⟨hl2, _, _⟩ := h2.resolve_left c2
  have tA := toEventS_ev L1 hl1
  have tB := toEventS_ev L2 hl2
  have hm : (L1.map toEventV).length ≤ 1048576 := by rw [List.length_map]; exact hl1
  have hb : (L2.map toEventV).length ≤ 1048576 := by rw [List.length_map]; exact hl2
  generalize L1.map toEventV = A at tA hm
  generalize L2.map toEventV = B at tB hb
  have sp := specMerge_ev A B
  have im := implMerge_ev A B
  have n1 := mergedV_len A B
  generalize mergedV A B = v at sp im n1
  have eV := eqEventS_ev v.1 (by omega)
  obtain ⟨b1, hb1, _, _⟩ := markEventS_ev A 1 (by omega) (by omega) hm
  obtain ⟨b2, hb2, _, _⟩ := markEventS_ev B (1 + 6 * (A.length : Int)) (by omega) (by omega) hb
  obtain ⟨b3, hb3, l3, m3⟩ := markEventS_ev v.1 1 (by omega) (by omega) (by omega)
  have hd := heldEventS_ev b3 (by omega) m3
  rw [l3] at hd
  have ne : (v.2 != v.2) = false := by simp
  refine Ev.neg c2 (Ev.bind tA (Ev.bind tB (Ev.bind sp (Ev.bind tA (Ev.bind tB (Ev.bind im (Ev.bind eV (Ev.pos tt ?_))))))))
  refine Ev.step (fun k => rfl) (Ev.neg (by rw [ne]; exact ff) (Ev.bind tA (Ev.bind (eqEventS_ev A (by omega)) (Ev.pos tt (Ev.bind tB (Ev.bind (eqEventS_ev B (by omega)) (Ev.pos tt (Ev.bind hb1 (Ev.bind hb2 (Ev.neg (by omega) (Ev.bind eV (Ev.pos tt ?_))))))))))))
  refine Ev.step (fun k => rfl) (Ev.neg (by rw [ne]; exact ff) (Ev.bind hb3 (Ev.bind hd (Ev.neg (by omega) (Ev.pos rfl (Ev.bind tA (Ev.bind tB (Ev.bind im (Ev.bind eV (Ev.pos tt ?_))))))))))
  exact Ev.step (fun k => rfl) (Ev.neg (by rw [ne]; exact ff) (Ev.bind hd (Ev.neg (by omega) (Ev.pos rfl (Ev.some' rfl)))))

end Go.Proofs.Ytnpfeigdghecfaa.Pure
