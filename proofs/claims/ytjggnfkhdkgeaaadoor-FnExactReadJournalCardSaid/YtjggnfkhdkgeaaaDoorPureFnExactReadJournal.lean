/- At every argument the program's ReadJournal answers as the reference's: the law's plain statement, with no condition. -/
import Derived.Test.YtjggnfkhdkgeaaaDoorXFnExactReadJournalx10
import Derived.Test.YtjggnfkhdkgeaaaDoorAx
import Derived.Test.YtjggnfkhdkgeaaaDoorIdx
import Derived.Lib.ItoaLen
import Derived.Lib.AtoiAllCases
import Derived.Lib.SplitLaws
namespace Go.Proofs.YtjggnfkhdkgeaaaDoor.Pure
open Go.RowKit Go.Proofs.YtjggnfkhdkgeaaaDoor.XFnExactReadJournal Go.Proofs.YtjggnfkhdkgeaaaDoorW.PrintWords Go.Proofs.YtjggnfkhdkgeaaaDoorW.PrintLast
open Go.Proofs.YtjggnfkhdkgeaaaDoorW.Ax Go.Proofs.YtjggnfkhdkgeaaaDoorW.Idx
set_option linter.unusedVariables false
set_option linter.unusedSimpArgs false
theorem within_ev (a b c : Int) : impl_within.f a b c = some (decide (b ≤ a ∧ a ≤ c)) := by
  unfold impl_within.f
  by_cases h : a ≥ b
  · rw [if_pos h]; congr 1; rw [decide_eq_decide]; omega
  · rw [if_neg h]; congr 1; symm; rw [decide_eq_false_iff_not]; omega
theorem l01In_ev (a b c : Int) : spec_l01In.f a b c = some (decide (b ≤ a ∧ a ≤ c)) := by
  unfold spec_l01In.f
  by_cases h : a ≥ b
  · rw [if_pos h]; congr 1; rw [decide_eq_decide]; omega
  · rw [if_neg h]; congr 1; symm; rw [decide_eq_false_iff_not]; omega
/-! ### numerals -/
def numV (n : Int) : ByteArray := ⟨(Lib.itoa n).toArray⟩
theorem numV_size (n : Int) (h0 : -9223372036854775808 ≤ n) (h1 : n ≤ 9223372036854775807) : (numV n).size ≤ 21 := by
  have := Lib.itoa_length_le n h0 h1
  simpa [numV, ByteArray.size] using this
theorem app_bytes (a b : List UInt8) : (⟨a.toArray⟩ : ByteArray) ++ (⟨b.toArray⟩ : ByteArray) = ⟨(a ++ b).toArray⟩ := by
  apply ByteArray.ext
  simp
theorem bytes_size (a : List UInt8) : (⟨a.toArray⟩ : ByteArray).size = a.length := by simp [ByteArray.size]
theorem digit_ev (u : Nat) : strOfNums [wrap64 (48 + ((u % 10 : Nat) : Int)) % 256] = ⟨[UInt8.ofNat (48 + u % 10)].toArray⟩ := by
  rw [w64 (by omega) (by omega), show (48 + ((u % 10 : Nat) : Int)) % 256 = ((48 + u % 10 : Nat) : Int) by omega]
  show (⟨#[UInt8.ofNat (((48 + u % 10 : Nat) : Int)).toNat]⟩ : ByteArray) = _
  rw [Int.toNat_natCast]
theorem digits_nat : ∀ u : Nat, u < 18446744073709551616 → u ≤ 9223372036854775807 → Ev (fun k => spec_l00Digits.f k (u : Int)) ⟨(Lib.decDigits u).toArray⟩ := by
  intro u
  induction u using Nat.strongRecOn with
  | _ u ih =>
    intro h h2
    by_cases c : u < 10
    · refine Ev.step (fun k => rfl) (Ev.neg (by omega) (Ev.neg (by omega) (Ev.pos (by omega) (Ev.some' ?_))))
      have := digit_ev u
      rw [Nat.mod_eq_of_lt c] at this
      rw [this, Lib.decDigits, dif_pos c]
    · have hw : wrap64 (Int.tdiv (u : Int) 10) = ((u / 10 : Nat) : Int) := by
        rw [Int.tdiv_eq_ediv_of_nonneg (by omega), w64 (by omega) (by omega)]
        omega
      have hm : Int.tmod (u : Int) 10 = ((u % 10 : Nat) : Int) := by
        rw [Int.tmod_eq_emod_of_nonneg (by omega)]
        omega
      have hl : (Lib.decDigits (u / 10)).length ≤ 20 := by
        rw [Lib.decDigits_length]
        exact Lib.nDigits_le20 _ (by omega)
      have h10 := ih (u / 10) (by omega) (by omega) (by omega)
      refine Ev.step (fun k => rfl) (Ev.neg (by omega) (Ev.neg (by omega) (Ev.neg (by omega) ?_)))
      rw [hw, hm]
      refine Ev.bind h10 (Ev.ret rfl ?_)
      rw [digit_ev u]
      refine Ev.pos (by rw [bytes_size, bytes_size]; simp only [List.length_cons, List.length_nil]; omega) (Ev.some' ?_)
      rw [app_bytes, Lib.decDigits.eq_1 u, dif_neg c]
theorem digits_ev (n : Int) (h0 : -9223372036854775808 ≤ n) (h1 : n ≤ 9223372036854775807) : Ev (fun k => spec_l00Digits.f k n) (numV n) := by
  unfold numV
  by_cases c : n < 0
  · by_cases c2 : n = -9223372036854775808
    · subst c2
      refine Ev.step (fun k => rfl) (Ev.pos rfl (Ev.some' ?_))
      congr 1
      simp [Lib.itoa, Lib.decDigits]
    · have hn : wrap64 (-n) = ((n.natAbs : Nat) : Int) := by rw [w64 (by omega) (by omega)]; omega
      refine Ev.step (fun k => rfl) (Ev.neg c2 (Ev.pos c ?_))
      rw [hn]
      have hl : (Lib.decDigits n.natAbs).length ≤ 20 := by
        rw [Lib.decDigits_length]
        exact Lib.nDigits_le20 _ (by omega)
      refine Ev.bind (digits_nat n.natAbs (by omega) (by omega)) (Ev.pos (by rw [bytes_size]; omega) (Ev.some' ?_))
      rw [show (⟨#[45]⟩ : ByteArray) = ⟨[(45 : UInt8)].toArray⟩ from rfl, app_bytes, Lib.itoa, if_pos c]
      rfl
  · obtain ⟨u, rfl⟩ : ∃ u : Nat, n = (u : Int) := ⟨n.toNat, by omega⟩
    refine Ev.eq (digits_nat u (by omega) (by omega)) ?_
    rw [Lib.itoa, if_neg c, Int.toNat_natCast]
theorem itoa_ev (n : Int) (h0 : -9223372036854775808 ≤ n) (h1 : n ≤ 9223372036854775807) : strconv_Itoa_40.f n = some (numV n) := by
  unfold strconv_Itoa_40.f
  rw [if_pos ⟨h0, h1⟩]
  rfl
/-! ### heads and sums -/
def spV : ByteArray := ⟨#[32]⟩
def headV (x : S33) : ByteArray := (((((numV x.f0 ++ spV) ++ numV x.f1) ++ spV) ++ numV x.f2) ++ spV) ++ x.f3
def intP (n : Int) : Prop := -9223372036854775808 ≤ n ∧ n ≤ 9223372036854775807
def wfE (x : S33) : Prop := intP x.f0 ∧ intP x.f1 ∧ intP x.f2 ∧ intP x.f4 ∧ x.f3.size ≤ 9223372036854775807
theorem headV_size (x : S33) (h : wfE x) (h3 : x.f3.size ≤ 80) : (headV x).size ≤ 200 := by
  have s0 := numV_size x.f0 h.1.1 h.1.2
  have s1 := numV_size x.f1 h.2.1.1 h.2.1.2
  have s2 := numV_size x.f2 h.2.2.1.1 h.2.2.1.2
  have hs : spV.size = 1 := rfl
  unfold headV
  simp only [ByteArray.size_append]
  omega
theorem headOf_ev (x : S33) (h : wfE x) (h3 : x.f3.size ≤ 80) : impl_headOf.f x.f0 x.f1 x.f2 x.f3 x.f4 = some (headV x) := by
  have s0 := numV_size x.f0 h.1.1 h.1.2
  have s1 := numV_size x.f1 h.2.1.1 h.2.1.2
  have s2 := numV_size x.f2 h.2.2.1.1 h.2.2.1.2
  have hs : spV.size = 1 := rfl
  unfold impl_headOf.f headV
  rw [itoa_ev _ h.1.1 h.1.2, itoa_ev _ h.2.1.1 h.2.1.2, itoa_ev _ h.2.2.1.1 h.2.2.1.2, show (⟨#[32]⟩ : ByteArray) = spV from rfl]
  simp only [Option.bind_some, ByteArray.size_append]
  rw [if_pos (by omega), if_pos (by omega), if_pos (by omega), if_pos (by omega), if_pos (by omega), if_pos (by omega)]
theorem specHead_ev (x : S33) (h : wfE x) (h3 : x.f3.size ≤ 80) : Ev (fun k => spec_l10Head.f k x.f0 x.f1 x.f2 x.f3 x.f4) (headV x) := by
  have s0 := numV_size x.f0 h.1.1 h.1.2
  have s1 := numV_size x.f1 h.2.1.1 h.2.1.2
  have s2 := numV_size x.f2 h.2.2.1.1 h.2.2.1.2
  have hs : spV.size = 1 := rfl
  unfold spec_l10Head.f headV
  rw [show (⟨#[32]⟩ : ByteArray) = spV from rfl]
  simp only [ByteArray.size_append]
  exact Ev.bind (digits_ev _ h.1.1 h.1.2) (Ev.pos (by omega) (Ev.bind (digits_ev _ h.2.1.1 h.2.1.2) (Ev.pos (by omega) (Ev.pos (by omega) (Ev.bind (digits_ev _ h.2.2.1.1 h.2.2.1.2) (Ev.pos (by omega) (Ev.pos (by omega) (Ev.pos (by omega) (Ev.some' rfl)))))))))
def stepV (s c : Int) : Int := Int.tmod (wrap64 ((wrap64 ((wrap64 (257 * s)) + (wrap64 c))) + 1)) 998244353
def sumV : Nat → Int → ByteArray → Nat → Int
  | 0, s, _, _ => s
  | d + 1, s, b, i => sumV d (stepV s (bt b i)) b (i + 1)
theorem chained_l0 (b : ByteArray) (hb : b.size < 1000000) : ∀ (d : Nat) (s : Int) (i : Nat), i + d = b.size → Ev (fun k => impl_chained.l0 k s b (b.size : Int) (i : Int)) (sumV d s b i) := by
  intro d
  induction d with
  | zero => intro s i h; exact Ev.step (fun k => rfl) (Ev.neg (by omega) (Ev.some' rfl))
  | succ d ih =>
    intro s i h
    refine Ev.step (fun k => rfl) (Ev.pos (by omega) (Ev.pos (by omega) (Ev.pos (by omega) ?_)))
    rw [w64n (by omega)]
    exact ih (stepV s (bt b i)) (i + 1) (by omega)
theorem chained_ev (s : Int) (b : ByteArray) (hb : b.size < 1000000) : Ev (fun k => impl_chained.f k s b) (sumV b.size s b 0) := chained_l0 b hb b.size s 0 (by omega)
theorem specSum_l0 (b : ByteArray) (hb : b.size < 1000000) : ∀ (d : Nat) (s : Int) (i : Nat), i + d = b.size → Ev (fun k => spec_l10Sum.l0 k s b (i : Int)) (sumV d s b i) := by
  intro d
  induction d with
  | zero => intro s i h; exact Ev.step (fun k => rfl) (Ev.neg (by omega) (Ev.some' rfl))
  | succ d ih =>
    intro s i h
    refine Ev.step (fun k => rfl) (Ev.pos (by omega) (Ev.pos (by omega) ?_))
    rw [w64n (by omega), Int.mul_comm s 257]
    exact ih (stepV s (bt b i)) (i + 1) (by omega)
def nextV (s : Int) (x : S33) : Int := sumV (headV x).size s (headV x) 0
theorem specSum_ev (s : Int) (x : S33) (h : wfE x) (h3 : x.f3.size ≤ 80) : Ev (fun k => spec_l10Sum.f k s x.f0 x.f1 x.f2 x.f3 x.f4) (nextV s x) := by
  have := headV_size x h h3
  unfold spec_l10Sum.f
  exact Ev.bind (specHead_ev x h h3) (specSum_l0 (headV x) (by omega) (headV x).size s 0 (by omega))
/-! ### right entries -/
def bytesB (s : ByteArray) : Nat → Nat → Bool
  | 0, _ => true
  | d + 1, i => decide (32 ≤ bt s i ∧ bt s i ≤ 126) && bytesB s d (i + 1)
def rightV (x : S33) : Bool := decide (1 ≤ x.f1 ∧ x.f1 ≤ 9) && (decide (-1000000000 ≤ x.f2 ∧ x.f2 ≤ 1000000000) && (decide (x.f3.size ≤ 80) && bytesB x.f3 x.f3.size 0))
theorem right_size {x : S33} (h : rightV x = true) : x.f3.size ≤ 80 := by
  unfold rightV at h
  simp only [Bool.and_eq_true, decide_eq_true_eq] at h
  exact h.2.2.1
theorem isMoney_ev (n : Int) : impl_isMoney.f n = some (decide (-1000000000 ≤ n ∧ n ≤ 1000000000)) := by
  unfold impl_isMoney.f
  rw [within_ev]
  rfl
theorem money_ev (n : Int) : spec_l01Money.f n = some (decide (-1000000000 ≤ n ∧ n ≤ 1000000000)) := by
  unfold spec_l01Money.f
  rw [l01In_ev]
  rfl
theorem isEntry_l0 (s : ByteArray) (hs : s.size ≤ 80) (a b c e : Int) : ∀ (d i : Nat), i + d = s.size → Ev (fun k => impl_isEntry.l0 k (s.size : Int) (i : Int) a b c s e) (bytesB s d i) := by
  intro d
  induction d with
  | zero => intro i h; exact Ev.up1 (by simp only [impl_isEntry.l0]; exact Ev.neg (by omega) (Ev.some' rfl))
  | succ d ih =>
    intro i h
    have hb := bt_range s (i : Int)
    refine Ev.up1 ?_
    simp only [impl_isEntry.l0]
    refine Ev.pos (by omega) (Ev.pos (by omega) (Ev.pos (by omega) ?_))
    rw [w64 (x := bt s i) (by omega) (by omega)]
    refine Ev.ret (within_ev _ _ _) ?_
    rw [bytesB, w64n (by omega)]
    by_cases c1 : 32 ≤ bt s i ∧ bt s i ≤ 126
    · rw [decide_eq_true c1]
      exact Ev.pos rfl (ih (i + 1) (by omega))
    · rw [decide_eq_false c1]
      exact Ev.neg ff (Ev.some' rfl)
theorem isEntry_ev (x : S33) : Ev (fun k => impl_isEntry.f k x.f0 x.f1 x.f2 x.f3 x.f4) (rightV x) := by
  have hbad : Ev (fun k => impl_isEntry.j0 k true x.f0 x.f1 x.f2 x.f3 x.f4) false := Ev.up1 (by simp only [impl_isEntry.j0]; exact Ev.pos trivial (Ev.some' rfl))
  unfold impl_isEntry.f rightV
  refine Ev.ret (within_ev _ _ _) ?_
  by_cases c1 : 1 ≤ x.f1 ∧ x.f1 ≤ 9
  · rw [decide_eq_true c1]
    refine Ev.pos rfl (Ev.ret (isMoney_ev _) ?_)
    by_cases c2 : -1000000000 ≤ x.f2 ∧ x.f2 ≤ 1000000000
    · rw [decide_eq_true c2]
      refine Ev.pos rfl ?_
      by_cases c3 : x.f3.size ≤ 80
      · rw [decide_eq_true c3, decide_eq_false (show ¬ (x.f3.size : Int) > 80 by omega)]
        refine Ev.up1 ?_
        simp only [impl_isEntry.j0]
        exact Ev.neg ff (isEntry_l0 x.f3 c3 _ _ _ _ x.f3.size 0 (by omega))
      · rw [decide_eq_false c3, decide_eq_true (show (x.f3.size : Int) > 80 by omega)]
        exact hbad
    · rw [decide_eq_false c2]
      exact Ev.neg ff hbad
  · rw [decide_eq_false c1]
    exact Ev.neg ff hbad
theorem right_l0 (s : ByteArray) (hs : s.size ≤ 80) (a b c e : Int) : ∀ (d i : Nat), i + d = s.size → Ev (fun k => spec_l10Right.l0 k (i : Int) a b c s e) (bytesB s d i) := by
  intro d
  induction d with
  | zero => intro i h; exact Ev.up1 (by simp only [spec_l10Right.l0]; exact Ev.neg (by omega) (Ev.some' rfl))
  | succ d ih =>
    intro i h
    refine Ev.up1 ?_
    simp only [spec_l10Right.l0]
    refine Ev.pos (by omega) (Ev.pos (by omega) ?_)
    rw [bytesB, w64n (by omega)]
    by_cases c1 : bt s i < 32
    · rw [decide_eq_false (by omega)]
      exact Ev.pos c1 (Ev.some' rfl)
    · refine Ev.neg c1 ?_
      by_cases c2 : bt s i > 126
      · rw [decide_eq_false (by omega)]
        exact Ev.pos c2 (Ev.some' rfl)
      · rw [decide_eq_true (by omega)]
        exact Ev.neg c2 (ih (i + 1) (by omega))
theorem right_ev (x : S33) : Ev (fun k => spec_l10Right.f k x.f0 x.f1 x.f2 x.f3 x.f4) (rightV x) := by
  have hbad : Ev (fun k => spec_l10Right.j0 k true x.f0 x.f1 x.f2 x.f3 x.f4) false := Ev.up1 (by simp only [spec_l10Right.j0]; exact Ev.pos trivial (Ev.some' rfl))
  unfold spec_l10Right.f rightV
  refine Ev.ret (l01In_ev _ _ _) ?_
  by_cases c1 : 1 ≤ x.f1 ∧ x.f1 ≤ 9
  · rw [decide_eq_true c1]
    refine Ev.pos rfl (Ev.ret (money_ev _) ?_)
    by_cases c2 : -1000000000 ≤ x.f2 ∧ x.f2 ≤ 1000000000
    · rw [decide_eq_true c2]
      refine Ev.pos rfl ?_
      by_cases c3 : x.f3.size ≤ 80
      · rw [decide_eq_true c3, decide_eq_false (show ¬ (x.f3.size : Int) > 80 by omega)]
        refine Ev.up1 ?_
        simp only [spec_l10Right.j0]
        exact Ev.neg ff (right_l0 x.f3 c3 _ _ _ _ x.f3.size 0 (by omega))
      · rw [decide_eq_false c3, decide_eq_true (show (x.f3.size : Int) > 80 by omega)]
        exact hbad
    · rw [decide_eq_false c2]
      exact Ev.neg ff hbad
  · rw [decide_eq_false c1]
    exact Ev.neg ff hbad
/-! ### a journal looked through -/
def checkV : List S33 → Nat → Int → Int × Int
  | [], _, _ => (0, 0)
  | x :: a, i, s => if rightV x = true then (if x.f0 = ((i + 1 : Nat) : Int) then (if x.f4 = nextV s x then checkV a (i + 1) (nextV s x) else (15, (i : Int))) else (3, (i : Int))) else (1, (i : Int))
theorem rd_Entry_mid (p : List S33) (x : S33) (r : List S33) : rd_T33 (p ++ x :: r) (p.length : Int) = x := getD_mid p x r z33
theorem rd_Entry_nat (l : List S33) (i : Nat) : rd_T33 l (i : Int) = l.getD i z33 := by
  unfold rd_T33
  rw [Int.toNat_natCast]
theorem check_l0 : ∀ (a p : List S33) (s : Int), (∀ x ∈ a, wfE x) → (p ++ a).length < 1000 → Ev (fun k => impl_checkJournal.l0 k s (p ++ a) ((p ++ a).length : Int) (p.length : Int)) (checkV a p.length s) := by
  intro a
  induction a with
  | nil => intro p s _ _; exact Ev.step (fun k => rfl) (Ev.neg (len_end p) (Ev.some' rfl))
  | cons x a ih =>
    intro p s hw hl
    have hl' := hl
    rw [List.length_append, List.length_cons] at hl'
    have hx := hw x (by simp)
    refine Ev.step (fun k => rfl) (Ev.pos (len_lt p x a) (Ev.pos (by omega) (Ev.pos (len_lt p x a) ?_)))
    rw [rd_Entry_mid, checkV]
    refine Ev.bind (isEntry_ev x) (Ev.ite (fun c1 => ?_) (fun _ => Ev.some' rfl))
    have h3 := right_size c1
    have hz := headV_size x hx h3
    rw [w64n (by omega)]
    refine Ev.ite (fun c2 => ?_) (fun _ => Ev.some' rfl)
    refine Ev.ret (headOf_ev x hx h3) (Ev.bind (chained_ev s (headV x) (by omega)) ?_)
    refine Ev.ite (fun c3 => ?_) (fun _ => Ev.some' rfl)
    have := ih (p ++ [x]) (nextV s x) (fun z hz => hw z (by simp [hz])) (by rw [← snoc]; exact hl)
    rw [← snoc, len_snoc, show (p ++ [x]).length = p.length + 1 by simp] at this
    exact this
theorem specCheck_l0 : ∀ (a p : List S33) (s : Int), (∀ x ∈ a, wfE x) → (p ++ a).length < 1000 → Ev (fun k => spec_CheckJournal.l0 k (p ++ a) s (p.length : Int)) (checkV a p.length s) := by
  intro a
  induction a with
  | nil => intro p s _ _; exact Ev.step (fun k => rfl) (Ev.neg (len_end p) (Ev.some' rfl))
  | cons x a ih =>
    intro p s hw hl
    have hl' := hl
    rw [List.length_append, List.length_cons] at hl'
    have hx := hw x (by simp)
    refine Ev.step (fun k => rfl) (Ev.pos (len_lt p x a) (Ev.pos (by omega) ?_))
    rw [rd_Entry_mid, checkV]
    refine Ev.bind (right_ev x) (Ev.ite (fun c1 => ?_) (fun _ => Ev.some' rfl))
    have h3 := right_size c1
    rw [w64n (by omega)]
    refine Ev.ite (fun c2 => ?_) (fun _ => Ev.some' rfl)
    refine Ev.bind (specSum_ev s x hx h3) ?_
    refine Ev.ite (fun c3 => ?_) (fun _ => Ev.some' rfl)
    have := ih (p ++ [x]) (nextV s x) (fun z hz => hw z (by simp [hz])) (by rw [← snoc]; exact hl)
    rw [← snoc, len_snoc, show (p ++ [x]).length = p.length + 1 by simp] at this
    exact this
/-- What is said of any list. -/
def checkJ (l : List S33) : Int × Int := if (l.length : Int) > 4096 then (2, 0) else if (l.length : Int) > 200 then (9, 0) else checkV l 0 1
theorem specCheck_ev (l : List S33) (hw : ∀ x ∈ l, wfE x) : Ev (fun k => spec_CheckJournal.f k l) (checkJ l) := by
  unfold spec_CheckJournal.f checkJ
  exact Ev.ite (fun _ => Ev.some' rfl) (fun _ => Ev.ite (fun _ => Ev.some' rfl) (fun c2 => specCheck_l0 l [] 1 hw (by simp; omega)))
/-! ### numerals read -/
def isDig (c : UInt8) : Bool := decide (48 ≤ c.toNat ∧ c.toNat ≤ 57)
def valD (a : Nat) (l : List UInt8) : Nat := l.foldl (fun a c => a * 10 + (c.toNat - 48)) a
def natOK (l : List UInt8) : Prop := l ≠ [] ∧ l.length ≤ 18 ∧ l.all isDig = true ∧ (l.head? = some 48 → l.length = 1)
instance (l : List UInt8) : Decidable (natOK l) := by unfold natOK; exact inferInstance
def natR (l : List UInt8) : Option Nat := if natOK l then some (valD 0 l) else none
def minusR : Option Nat → Option Int
  | some u => if u = 0 then none else some (-(u : Int))
  | none => none
def plusR : Option Nat → Option Int
  | some u => some (u : Int)
  | none => none
def numR : List UInt8 → Option Int
  | [] => none
  | c :: r => if c = 45 then minusR (natR r) else plusR (natR (c :: r))
theorem valD_cons (a : Nat) (c : UInt8) (r : List UInt8) : valD a (c :: r) = valD (a * 10 + (c.toNat - 48)) r := List.foldl_cons ..
theorem valD_snoc (c : UInt8) : ∀ (l : List UInt8) (a : Nat), valD a (l ++ [c]) = valD a l * 10 + (c.toNat - 48) := by
  intro l
  induction l with
  | nil => intro a; rfl
  | cons x l ih => intro a; exact ih _
theorem valD_ge : ∀ (l : List UInt8) (a : Nat), a ≤ valD a l := by
  intro l
  induction l with
  | nil => intro a; exact Nat.le_refl _
  | cons x l ih => intro a; have := ih (a * 10 + (x.toNat - 48)); rw [valD_cons]; omega
theorem dig_back {c : UInt8} (h : isDig c = true) : UInt8.ofNat (48 + (c.toNat - 48)) = c := by
  unfold isDig at h
  rw [decide_eq_true_eq] at h
  rw [show 48 + (c.toNat - 48) = c.toNat by omega]
  simp
theorem all_cons' {c : UInt8} {r : List UInt8} (h : (c :: r).all isDig = true) : isDig c = true ∧ r.all isDig = true := by
  rw [List.all_cons, Bool.and_eq_true] at h
  exact h
theorem isDig_iff {c : UInt8} (h : isDig c = true) : 48 ≤ c.toNat ∧ c.toNat ≤ 57 := by
  unfold isDig at h
  rw [decide_eq_true_eq] at h
  exact h
theorem dec_of : ∀ (n : Nat) (l : List UInt8), l.length = n → l ≠ [] → l.all isDig = true → (l.head? = some 48 → l.length = 1) → Lib.decDigits (valD 0 l) = l := by
  intro n
  induction n with
  | zero => intro l hl hne; exact absurd (List.eq_nil_of_length_eq_zero hl) hne
  | succ n ih =>
    intro l hl hne ha hh
    obtain ⟨p, c, rfl⟩ : ∃ p c, l = p ++ [c] := ⟨l.dropLast, l.getLast hne, (List.dropLast_concat_getLast hne).symm⟩
    rw [List.all_append, Bool.and_eq_true] at ha
    obtain ⟨hp, hc⟩ := ha
    have hc : isDig c = true := by simpa using hc
    have hc2 : 48 ≤ c.toNat ∧ c.toNat ≤ 57 := by unfold isDig at hc; simpa using hc
    rw [valD_snoc]
    cases p with
    | nil =>
      show Lib.decDigits (0 * 10 + (c.toNat - 48)) = [c]
      rw [Nat.zero_mul, Nat.zero_add, Lib.decDigits_one (by omega), dig_back hc]
    | cons x p =>
      have hx : x ≠ 48 := fun e => by
        have := hh (by simp [e])
        simp at this
      have hxd : isDig x = true := by simpa using (List.all_eq_true.1 hp) x (by simp)
      have hx2 : 48 ≤ x.toNat ∧ x.toNat ≤ 57 := by unfold isDig at hxd; simpa using hxd
      have hx3 : x.toNat ≠ 48 := fun e => hx (UInt8.toNat_inj.1 (by rw [e]; rfl))
      have hv : 1 ≤ valD 0 (x :: p) := by
        have := valD_ge p (0 * 10 + (x.toNat - 48))
        rw [valD_cons]
        omega
      have hi := ih (x :: p) (by simpa using hl) (by simp) hp (fun e => absurd (by simpa using e) hx)
      generalize valD 0 (x :: p) = v at hv hi ⊢
      rw [Lib.decDigits, dif_neg (by omega), show (v * 10 + (c.toNat - 48)) / 10 = v by omega, show (v * 10 + (c.toNat - 48)) % 10 = c.toNat - 48 by omega, hi, dig_back hc]
theorem ofNat_toNat {d : Nat} (h : d < 10) : (UInt8.ofNat (48 + d)).toNat = 48 + d := by
  rw [UInt8.toNat_ofNat']
  omega
theorem dig_ok {d : Nat} (h : d < 10) : isDig (UInt8.ofNat (48 + d)) = true := by
  unfold isDig
  rw [ofNat_toNat h, decide_eq_true_eq]
  omega
theorem dec_digs (u : Nat) : (Lib.decDigits u).all isDig = true ∧ Lib.decDigits u ≠ [] ∧ valD 0 (Lib.decDigits u) = u ∧ ((Lib.decDigits u).head? = some 48 → u = 0) := by
  induction u using Nat.strongRecOn with
  | _ u ih =>
    by_cases h : u < 10
    · rw [Lib.decDigits_one h]
      refine ⟨by simpa using dig_ok h, by simp, ?_, fun e => ?_⟩
      · show 0 * 10 + ((UInt8.ofNat (48 + u)).toNat - 48) = u
        rw [ofNat_toNat h]
        omega
      · have e2 : UInt8.ofNat (48 + u) = 48 := by simpa using e
        have := ofNat_toNat h
        rw [e2] at this
        have e3 : (48 : UInt8).toNat = 48 := rfl
        omega
    · obtain ⟨h1, h2, h3, h4⟩ := ih (u / 10) (by omega)
      rw [Lib.decDigits, dif_neg h]
      refine ⟨?_, by simp, ?_, fun e => ?_⟩
      · rw [List.all_append, h1]
        simpa using dig_ok (show u % 10 < 10 by omega)
      · rw [valD_snoc, h3, ofNat_toNat (by omega)]
        omega
      · have : (Lib.decDigits (u / 10)).head? = some 48 := by
          cases hd : Lib.decDigits (u / 10) with
          | nil => exact absurd hd h2
          | cons x t => rw [hd] at e; simpa using e
        have := h4 this
        omega
theorem natR_dec (u : Nat) : natR (Lib.decDigits u) = if (Lib.decDigits u).length ≤ 18 then some u else none := by
  obtain ⟨h1, h2, h3, h4⟩ := dec_digs u
  unfold natR
  by_cases c : (Lib.decDigits u).length ≤ 18
  · have e4 : (Lib.decDigits u).head? = some 48 → (Lib.decDigits u).length = 1 := fun e => by
      rw [Lib.decDigits_length, h4 e]
      exact Lib.nDigits_small (by omega)
    rw [if_pos c, if_pos ⟨h2, c, h1, e4⟩, h3]
  · rw [if_neg c, if_neg fun e => c e.2.1]
theorem natR_some {l : List UInt8} {u : Nat} (h : natR l = some u) : l = Lib.decDigits u ∧ l.length ≤ 18 ∧ l.all isDig = true ∧ l ≠ [] ∧ u < 1000000000000000000 ∧ u = valD 0 l := by
  unfold natR at h
  split at h
  · rename_i c
    obtain ⟨c1, c2, c3, c4⟩ := c
    cases h
    have e := dec_of l.length l rfl c1 c3 c4
    refine ⟨e.symm, c2, c3, c1, ?_, rfl⟩
    have h1 := Lib.lt_pow_nDigits (valD 0 l)
    rw [← Lib.decDigits_length, e] at h1
    have h2 : 10 ^ l.length ≤ 10 ^ 18 := Nat.pow_le_pow_right (by omega) c2
    omega
  · cases h
theorem parse_ok : ∀ (l : List UInt8) (a j : Nat), l.all isDig = true → a < 10 ^ j → j + l.length ≤ 18 → Lib.parseUint10 a l = .ok (valD a l) := by
  intro l
  induction l with
  | nil => intro a j _ _ _; rfl
  | cons c l ih =>
    intro a j ha hj hl
    rw [List.all_cons, Bool.and_eq_true] at ha
    have hc2 : 48 ≤ c.toNat ∧ c.toNat ≤ 57 := by have := ha.1; unfold isDig at this; simpa using this
    rw [List.length_cons] at hl
    have hp : 10 ^ j ≤ 10 ^ 17 := Nat.pow_le_pow_right (by omega) (by omega)
    have hp2 : (10 : Nat) ^ 17 = 100000000000000000 := by decide
    rw [Lib.parseUint10, if_pos hc2, if_neg (by omega), if_neg (by omega), valD_cons]
    exact ih _ (j + 1) ha.2 (by rw [Nat.pow_succ]; omega) (by omega)
theorem parseMag_ok {l : List UInt8} {u : Nat} (h : natR l = some u) : Lib.parseMag l = .ok u := by
  obtain ⟨h1, h2, h3, h4, h5, h6⟩ := natR_some h
  unfold Lib.parseMag
  rw [if_neg h4, parse_ok l 0 0 h3 (by decide) (by omega), ← h6]
theorem numR_some {l : List UInt8} {v : Int} (h : numR l = some v) : l = Lib.itoa v ∧ l.length ≤ 19 ∧ Lib.atoiAll l = .ok v ∧ -1000000000000000000 < v ∧ v < 1000000000000000000 ∧ (Lib.decDigits v.natAbs).length ≤ 18 := by
  cases l with
  | nil => cases h
  | cons c r =>
    rw [numR] at h
    split at h
    · rename_i c1
      subst c1
      cases hn : natR r with
      | none => rw [hn] at h; cases h
      | some u =>
        rw [hn, minusR] at h
        split at h
        · cases h
        · rename_i c2
          injection h with h
          subst h
          obtain ⟨h1, h2, h3, h4, h5, h6⟩ := natR_some hn
          have e1 : (-(u : Int)).natAbs = u := by omega
          refine ⟨?_, by rw [List.length_cons]; omega, ?_, by omega, by omega, ?_⟩
          · rw [Lib.itoa, if_pos (by omega), e1, ← h1]
          · rw [Lib.atoiAll_minus, parseMag_ok hn, Lib.signed, if_neg (by omega)]
          · rw [e1, ← h1]
            exact h2
    · rename_i c1
      cases hn : natR (c :: r) with
      | none => rw [hn] at h; cases h
      | some u =>
        rw [hn, plusR] at h
        injection h with h
        subst h
        obtain ⟨h1, h2, h3, h4, h5, h6⟩ := natR_some hn
        have hc2 : 48 ≤ c.toNat ∧ c.toNat ≤ 57 := by
          rw [List.all_cons, Bool.and_eq_true] at h3
          have := h3.1
          unfold isDig at this
          simpa using this
        have e1 : ((u : Int)).natAbs = u := by omega
        refine ⟨?_, by omega, ?_, by omega, by omega, ?_⟩
        · rw [Lib.itoa, if_neg (by omega), Int.toNat_natCast, ← h1]
        · rw [Lib.atoiAll_plain c r (by omega) (by omega), parseMag_ok hn, Lib.signless, if_neg (by omega)]
        · rw [e1, ← h1]
          exact h2
theorem numR_itoa (n : Int) (h : (Lib.decDigits n.natAbs).length ≤ 18) : numR (Lib.itoa n) = some n := by
  by_cases c : n < 0
  · rw [Lib.itoa, if_pos c, numR, if_pos rfl, natR_dec, if_pos h, minusR, if_neg (by omega)]
    congr 1
    omega
  · rw [Lib.itoa, if_neg c]
    have e1 : n.toNat = n.natAbs := by omega
    rw [e1]
    obtain ⟨h1, h2, h3, h4⟩ := dec_digs n.natAbs
    cases hd : Lib.decDigits n.natAbs with
    | nil => exact absurd hd h2
    | cons x t =>
      rw [hd] at h1 h
      have hx : isDig x = true := by
        rw [List.all_cons, Bool.and_eq_true] at h1
        exact h1.1
      have hx2 : 48 ≤ x.toNat ∧ x.toNat ≤ 57 := by unfold isDig at hx; simpa using hx
      have hx3 : x ≠ 45 := fun e => by
        rw [e] at hx2
        have : (45 : UInt8).toNat = 45 := rfl
        omega
      rw [numR, if_neg hx3, ← hd, natR_dec, hd, if_pos h, plusR]
      congr 1
      omega
/-- Where Atoi gives a number that is written so again, and no longer than 18 digits, that number is read. -/
theorem numR_back {l : List UInt8} {v : Int} (h : Lib.itoa v = l) (h2 : (Lib.decDigits v.natAbs).length ≤ 18) : numR l = some v := by
  rw [← h]
  exact numR_itoa v h2
/-! ### a number read: both sides -/
theorem size_len (a : ByteArray) : a.size = a.data.toList.length := Lib.size_eq a
theorem trim_minus (a : ByteArray) (r : List UInt8) (h : a.data.toList = 45 :: r) : ∃ t, strings_TrimPrefix.f a (⟨#[45]⟩ : ByteArray) = some t ∧ t.size = r.length := by
  have hs : a.size = r.length + 1 := by
    rw [size_len, h]
    rfl
  refine ⟨a.extract 1 a.size, ?_, by rw [ByteArray.size_extract]; omega⟩
  have e1 : ((⟨#[45]⟩ : ByteArray).size : Int) = 1 := rfl
  have e2 : ((a.extract 0 ((1 : Int)).toNat).toList == (⟨#[45]⟩ : ByteArray).toList) = true := by
    rw [Lib.toList_data, Lib.toList_data, Lib.extract_from_zero, h]
    rfl
  unfold strings_TrimPrefix.f stringslite_TrimPrefix.f stringslite_HasPrefix.f
  rw [e1, if_pos (by omega), if_pos (by omega), if_pos (by omega), Option.bind_some, e2, if_pos rfl, if_pos (by omega), if_pos (by omega)]
  rfl
theorem trim_other (a : ByteArray) (h : a.data.toList.head? ≠ some 45) : strings_TrimPrefix.f a (⟨#[45]⟩ : ByteArray) = some a := by
  have e1 : ((⟨#[45]⟩ : ByteArray).size : Int) = 1 := rfl
  unfold strings_TrimPrefix.f stringslite_TrimPrefix.f stringslite_HasPrefix.f
  rw [e1]
  by_cases c : (a.size : Int) ≥ 1
  · have e2 : ((a.extract 0 ((1 : Int)).toNat).toList == (⟨#[45]⟩ : ByteArray).toList) = false := by
      rw [Lib.toList_data, Lib.toList_data, Lib.extract_from_zero, Bool.eq_false_iff]
      intro e
      have e := eq_of_beq e
      cases hl : a.data.toList with
      | nil => rw [hl] at e; cases e
      | cons x l =>
        rw [hl] at e h
        have : x = 45 := by
          have := congrArg List.head? e
          simpa using this
        exact h (by simp [this])
    rw [if_pos c, if_pos (by omega), if_pos (by omega), Option.bind_some, e2, if_neg ff]
    rfl
  · rw [if_neg c, Option.bind_some, if_neg ff]
    rfl
def goodN (o : Option Int) (r : Int × Bool) : Prop := match o with
  | some v => r = (v, true)
  | none => r.2 = false
theorem head_dec (u : Nat) : (Lib.decDigits u).head? ≠ some 45 := by
  obtain ⟨h1, h2, _, _⟩ := dec_digs u
  cases hd : Lib.decDigits u with
  | nil => simp
  | cons x t =>
    rw [hd] at h1
    have hx := isDig_iff (all_cons' h1).1
    intro e
    have : x = 45 := by simpa using e
    rw [this] at hx
    have : (45 : UInt8).toNat = 45 := rfl
    omega
/-- The numeral of v without its sign is as long as its digits. -/
theorem trim_itoa (a : ByteArray) (v : Int) (h : a.data.toList = Lib.itoa v) : ∃ t, strings_TrimPrefix.f a (⟨#[45]⟩ : ByteArray) = some t ∧ t.size = (Lib.decDigits v.natAbs).length := by
  by_cases c : v < 0
  · rw [Lib.itoa, if_pos c] at h
    exact trim_minus a _ h
  · rw [Lib.itoa, if_neg c, show v.toNat = v.natAbs by omega] at h
    exact ⟨a, trim_other a (by rw [h]; exact head_dec _), by rw [size_len, h]⟩
theorem readNumber_ev (a : ByteArray) : ∃ r, impl_readNumber.f a = some r ∧ goodN (numR a.data.toList) r := by
  unfold impl_readNumber.f
  by_cases c : (a.size : Int) > 19
  · refine ⟨(0, false), if_pos c, ?_⟩
    cases hn : numR a.data.toList with
    | none => rfl
    | some v =>
      have := (numR_some hn).2.1
      rw [← size_len] at this
      omega
  rw [if_neg c]
  rcases hq : Lib.atoiAll a.data.toList with v | _ | _
  rotate_left 1
  · refine ⟨(0, false), rfl, ?_⟩
    cases hn : numR a.data.toList with
    | none => rfl
    | some v => rw [(numR_some hn).2.2.1] at hq; cases hq
  · refine ⟨(Lib.atoiSat a.data.toList, false), rfl, ?_⟩
    cases hn : numR a.data.toList with
    | none => rfl
    | some v => rw [(numR_some hn).2.2.1] at hq; cases hq
  · obtain ⟨b0, b1⟩ := Lib.atoiAll_bounds hq
    show ∃ r, ((strconv_Itoa_40.f v).bind fun st => if st.toList = a.toList then ((strings_TrimPrefix.f a (⟨#[45]⟩ : ByteArray)).bind fun t => some (v, decide ((t.size : Int) ≤ 18))) else some (v, false)) = some r ∧ _
    rw [itoa_ev v b0 b1, Option.bind_some]
    have en : (numV v).toList = Lib.itoa v := by rw [Lib.toList_data]; simp [numV]
    rw [en, Lib.toList_data]
    by_cases c2 : Lib.itoa v = a.data.toList
    · rw [if_pos c2]
      obtain ⟨t, ht, hts⟩ := trim_itoa a v c2.symm
      rw [ht, Option.bind_some, hts]
      refine ⟨_, rfl, ?_⟩
      by_cases c3 : (Lib.decDigits v.natAbs).length ≤ 18
      · rw [numR_back c2 c3, decide_eq_true (show (((Lib.decDigits v.natAbs).length : Nat) : Int) ≤ 18 by omega)]
        rfl
      · cases hn : numR a.data.toList with
        | none => exact decide_eq_false (by omega)
        | some x =>
          have hx := (numR_some hn)
          have : x = v := by
            have := hx.2.2.1
            rw [hq] at this
            cases this
            rfl
          subst this
          exact absurd hx.2.2.2.2.2 c3
    · rw [if_neg c2]
      refine ⟨_, rfl, ?_⟩
      cases hn : numR a.data.toList with
      | none => rfl
      | some x =>
        have hx := (numR_some hn)
        have : x = v := by
          have := hx.2.2.1
          rw [hq] at this
          cases this
          rfl
        subst this
        exact absurd hx.1.symm c2
/-! #### the reference's -/
theorem bt_cons (a : ByteArray) (i : Nat) (c : UInt8) (r : List UInt8) (h : a.data.toList.drop i = c :: r) : i < a.size ∧ bt a (i : Int) = (c.toNat : Int) ∧ a.data.toList.drop (i + 1) = r := by
  have hl : i < a.size := by
    rw [size_len]
    rcases Nat.lt_or_ge i a.data.toList.length with q | q
    · exact q
    · rw [List.drop_eq_nil_of_le q] at h; cases h
  refine ⟨hl, ?_, ?_⟩
  · have h2 : a.data.toList[i]? = some c := by
      have : (a.data.toList.drop i)[0]? = some c := by rw [h]; rfl
      simpa using this
    unfold bt
    rw [Int.toNat_natCast, dif_pos hl]
    have h3 : a[i] = c := by
      have : a.data.toList[i]'(by rw [← size_len]; exact hl) = c := by
        rw [List.getElem?_eq_getElem (by rw [← size_len]; exact hl)] at h2
        exact Option.some.inj h2
      rw [← this]
      simp [ByteArray.getElem_eq_getElem_data]
    rw [h3]
  · have := congrArg List.tail h
    simpa using this
theorem num_l0 (sg : Int) (hsg : sg = 1 ∨ sg = -1) (a : ByteArray) (ha : a.size ≤ 18) : ∀ (l : List UInt8) (i v : Nat), a.data.toList.drop i = l → i ≤ a.size → v < 10 ^ i →
    Ev (fun k => spec_l00Number.l0 k a sg (v : Int) (i : Int)) (if l.all isDig = true then (sg * ((valD v l : Nat) : Int), true) else (0, false)) := by
  intro l
  induction l with
  | nil =>
    intro i v hd hi hv
    have hl : ¬ i < a.size := by
      intro q
      rw [size_len] at q
      have := List.drop_eq_nil_iff.1 hd
      omega
    have hp : 10 ^ i ≤ 10 ^ 18 := Nat.pow_le_pow_right (by omega) (by omega)
    have hp2 : (10 : Nat) ^ 18 = 1000000000000000000 := by decide
    refine Ev.up1 ?_
    simp only [spec_l00Number.l0]
    refine Ev.neg (by omega) (Ev.some' ?_)
    rw [if_pos (by rfl)]
    show (wrap64 (sg * (v : Int)), true) = (sg * (v : Int), true)
    rcases hsg with rfl | rfl
    · rw [w64 (by omega) (by omega)]
    · rw [w64 (by omega) (by omega)]
  | cons c l ih =>
    intro i v hd hi hv
    obtain ⟨h1, h2, h3⟩ := bt_cons a i c l hd
    have hp : 10 ^ i ≤ 10 ^ 17 := Nat.pow_le_pow_right (by omega) (by omega)
    have hp2 : (10 : Nat) ^ 17 = 100000000000000000 := by decide
    have hc := UInt8.toNat_lt c
    refine Ev.up1 ?_
    simp only [spec_l00Number.l0]
    refine Ev.pos (by omega) (Ev.pos (by omega) ?_)
    rw [h2]
    by_cases c1 : (c.toNat : Int) < 48
    · refine Ev.pos c1 (Ev.some' ?_)
      rw [if_neg]
      intro q
      have := isDig_iff (all_cons' q).1
      omega
    refine Ev.neg c1 ?_
    by_cases c2 : (c.toNat : Int) > 57
    · refine Ev.pos c2 (Ev.some' ?_)
      rw [if_neg]
      intro q
      have := isDig_iff (all_cons' q).1
      omega
    refine Ev.neg c2 ?_
    rw [w64n (by omega), w64 (x := (c.toNat : Int)) (by omega) (by omega), w64 (x := (v : Int) * 10) (by omega) (by omega), w64 (x := (v : Int) * 10 + (c.toNat : Int)) (by omega) (by omega), w64 (by omega) (by omega), show (v : Int) * 10 + (c.toNat : Int) - 48 = ((v * 10 + (c.toNat - 48) : Nat) : Int) by omega]
    have hdig : isDig c = true := by unfold isDig; rw [decide_eq_true_eq]; omega
    have := ih (i + 1) (v * 10 + (c.toNat - 48)) h3 (by omega) (by rw [Nat.pow_succ]; omega)
    rw [List.all_cons, hdig, Bool.true_and, valD_cons]
    exact this
def outN (o : Option Int) : Int × Bool := match o with
  | some v => (v, true)
  | none => (0, false)
theorem num_j1 (sg : Int) (hsg : sg = 1 ∨ sg = -1) (a : ByteArray) : Ev (fun k => spec_l00Number.j1 k a sg) (outN (if sg < 0 then minusR (natR a.data.toList) else plusR (natR a.data.toList))) := by
  have hbad : Ev (fun k => spec_l00Number.j2 k a sg true) (0, false) := Ev.up1 (by simp only [spec_l00Number.j2]; exact Ev.pos trivial (Ev.some' rfl))
  have none_of : natR a.data.toList = none → outN (if sg < 0 then minusR (natR a.data.toList) else plusR (natR a.data.toList)) = (0, false) := by
    intro h
    rw [h]
    split <;> rfl
  refine Ev.up1 ?_
  simp only [spec_l00Number.j1]
  by_cases c0 : (a.size : Int) = 0
  · refine Ev.pos c0 (Ev.eq hbad (none_of ?_).symm)
    unfold natR
    rw [if_neg]
    rintro ⟨h1, _⟩
    exact h1 (List.eq_nil_of_length_eq_zero (by rw [← size_len]; omega))
  refine Ev.neg c0 ?_
  by_cases c1 : (a.size : Int) > 18
  · refine Ev.pos c1 (Ev.eq hbad (none_of ?_).symm)
    unfold natR
    rw [if_neg]
    rintro ⟨_, h1, _⟩
    rw [← size_len] at h1
    omega
  refine Ev.neg c1 (Ev.pos (by omega) ?_)
  obtain ⟨c, r, hd⟩ : ∃ c r, a.data.toList = c :: r := by
    cases h : a.data.toList with
    | nil => rw [size_len, h] at c0; exact absurd rfl c0
    | cons c r => exact ⟨c, r, rfl⟩
  have hb : bt a 0 = (c.toNat : Int) := (bt_cons a 0 c r (by simpa using hd)).2.1
  rw [hb]
  have hlen : a.size = (c :: r).length := by rw [size_len, hd]
  have c48 : (c.toNat : Int) = 48 ↔ c = 48 := by
    constructor
    · intro h
      exact UInt8.toNat_inj.1 (by have : (48 : UInt8).toNat = 48 := rfl; omega)
    · intro h
      rw [h]
      rfl
  have fin : (c = 48 → a.size = 1) → (c = 48 → 0 < sg) → Ev (fun k => spec_l00Number.j2 k a sg false) (outN (if sg < 0 then minusR (natR a.data.toList) else plusR (natR a.data.toList))) := by
    intro q1 q2
    refine Ev.up1 ?_
    simp only [spec_l00Number.j2]
    refine Ev.neg ff (Ev.eq (num_l0 sg hsg a (by omega) a.data.toList 0 0 (by simp) (by omega) (by decide)) ?_)
    have hne : a.data.toList ≠ [] := by rw [hd]; simp
    have hle : a.data.toList.length ≤ 18 := by rw [← size_len]; omega
    unfold natR
    by_cases ca : a.data.toList.all isDig = true
    · have ok : natOK a.data.toList := ⟨hne, hle, ca, fun e => by rw [← size_len]; exact q1 (by rw [hd] at e; simpa using e)⟩
      rw [if_pos ca, if_pos ok]
      rcases hsg with rfl | rfl
      · rw [if_neg (by omega)]
        show _ = (((valD 0 a.data.toList : Nat) : Int), true)
        rw [Int.one_mul]
      · have hv : valD 0 a.data.toList ≠ 0 := by
          rw [hd]
          intro e
          have hx : c ≠ 48 := fun e => absurd (q2 e) (by omega)
          have hxd := isDig_iff (all_cons' (by rw [hd] at ca; exact ca)).1
          have hx3 : c.toNat ≠ 48 := fun e => hx (UInt8.toNat_inj.1 (by rw [e]; rfl))
          have := valD_ge r (0 * 10 + (c.toNat - 48))
          rw [valD_cons] at e
          omega
        rw [if_pos (by omega)]
        show _ = outN (minusR (some _))
        rw [minusR, if_neg hv]
        show _ = (-((valD 0 a.data.toList : Nat) : Int), true)
        rw [show ((-1 : Int)) * ((valD 0 a.data.toList : Nat) : Int) = -((valD 0 a.data.toList : Nat) : Int) by omega]
    · rw [if_neg ca, if_neg (show ¬ natOK _ from fun h => ca h.2.2.1)]
      split <;> rfl
  by_cases c2 : (c.toNat : Int) = 48
  · refine Ev.pos c2 ?_
    have e48 := c48.1 c2
    by_cases c3 : (a.size : Int) > 1
    · refine Ev.pos c3 (Ev.eq hbad (none_of ?_).symm)
      unfold natR
      rw [if_neg]
      rintro ⟨_, _, _, h⟩
      have := h (by rw [hd, e48]; rfl)
      rw [← size_len] at this
      omega
    · refine Ev.neg c3 ?_
      rcases hsg with rfl | rfl
      · rw [decide_eq_false (by omega)]
        exact fin (fun _ => by omega) (fun _ => by omega)
      · rw [decide_eq_true (by omega)]
        refine Ev.eq hbad ?_
        rw [if_pos (by omega)]
        have hr : r = [] := List.eq_nil_of_length_eq_zero (by rw [List.length_cons] at hlen; omega)
        rw [hd, hr, e48]
        rfl
  · refine Ev.neg c2 (fin (fun e => absurd (c48.2 e) c2) (fun e => absurd (c48.2 e) c2))
theorem number_ev (a : ByteArray) : Ev (fun k => spec_l00Number.f k a) (outN (numR a.data.toList)) := by
  unfold spec_l00Number.f
  cases hd : a.data.toList with
  | nil =>
    have hs : (a.size : Int) = 0 := by rw [size_len, hd]; rfl
    refine Ev.neg (by omega) (Ev.up1 ?_)
    simp only [spec_l00Number.j0]
    refine Ev.neg ff (Ev.eq (num_j1 1 (Or.inl rfl) a) ?_)
    rw [hd]
    rfl
  | cons c r =>
    have hs : a.size = r.length + 1 := by rw [size_len, hd]; rfl
    have hb : bt a 0 = (c.toNat : Int) := (bt_cons a 0 c r (by simpa using hd)).2.1
    refine Ev.pos (by omega) (Ev.pos (by omega) (Ev.up1 ?_))
    rw [hb]
    simp only [spec_l00Number.j0]
    by_cases c1 : c = 45
    · subst c1
      refine Ev.pos rfl (Ev.pos (by omega) (Ev.eq (num_j1 (-1) (Or.inr rfl) _) ?_))
      rw [numR, if_pos rfl, if_pos (by omega), Lib.extract_to_end, hd]
      rfl
    · refine Ev.neg ?_ (Ev.eq (num_j1 1 (Or.inl rfl) a) ?_)
      · intro e
        have e := eq_of_beq e
        exact c1 (UInt8.toNat_inj.1 (by have : (45 : UInt8).toNat = 45 := rfl; omega))
      · rw [numR, if_neg c1, if_neg (by omega), hd]
/-! ### cut at a byte -/
theorem ba_ext {a b : ByteArray} (h : a.data.toList = b.data.toList) : a = b := ByteArray.ext (Array.ext' h)
theorem bt_get (a : ByteArray) (i : Nat) (h : i < a.size) : ∃ x, a.data.toList[i]? = some x ∧ bt a (i : Int) = (x.toNat : Int) := by
  cases hd : a.data.toList.drop i with
  | nil =>
    rw [size_len] at h
    have := List.drop_eq_nil_iff.1 hd
    omega
  | cons x r =>
    refine ⟨x, ?_, (bt_cons a i x r hd).2.1⟩
    have : (a.data.toList.drop i)[0]? = some x := by rw [hd]; rfl
    simpa using this
theorem indexB_one (s : ByteArray) (c : UInt8) : Lib.indexB s ⟨#[c]⟩ = Lib.indexByte s.data.toList c := Lib.index_one _ _
theorem indexB_at (s : ByteArray) (c : UInt8) (i : Nat) (h : s.data.toList[i]? = some c) (hn : ∀ j, j < i → s.data.toList[j]? ≠ some c) : Lib.indexB s ⟨#[c]⟩ = i := by
  rw [indexB_one]
  have hge := Lib.indexByte_ge s.data.toList c
  by_cases hm : Lib.indexByte s.data.toList c = -1
  · exact absurd h (Lib.indexByte_none hm i)
  · obtain ⟨o, ho⟩ : ∃ o : Nat, Lib.indexByte s.data.toList c = o := ⟨(Lib.indexByte s.data.toList c).toNat, by omega⟩
    obtain ⟨h1, h2⟩ := Lib.indexByte_some ho
    rw [ho]
    rcases Nat.lt_trichotomy o i with q | q | q
    · exact absurd h1 (hn o q)
    · rw [q]
    · exact absurd h (h2 i q)
theorem indexB_no (s : ByteArray) (c : UInt8) (hn : ∀ j, j < s.size → s.data.toList[j]? ≠ some c) : Lib.indexB s ⟨#[c]⟩ = -1 := by
  rw [indexB_one]
  have hge := Lib.indexByte_ge s.data.toList c
  by_cases hm : Lib.indexByte s.data.toList c = -1
  · exact hm
  · obtain ⟨o, ho⟩ : ∃ o : Nat, Lib.indexByte s.data.toList c = o := ⟨(Lib.indexByte s.data.toList c).toNat, by omega⟩
    obtain ⟨h1, h2⟩ := Lib.indexByte_some ho
    have : o < s.size := by
      rw [size_len]
      rcases Nat.lt_or_ge o s.data.toList.length with q | q
      · exact q
      · rw [List.getElem?_eq_none q] at h1; cases h1
    exact absurd h1 (hn o this)
def cutV (c : UInt8) (t : ByteArray) : List ByteArray := Lib.splitB ⟨#[c]⟩ 0 (Lib.countB t ⟨#[c]⟩) t
theorem cutV_len (c : UInt8) (t : ByteArray) : 1 ≤ (cutV c t).length ∧ (cutV c t).length ≤ t.size + 1 := by
  have h := Lib.splitB_all ⟨#[c]⟩ (Nat.le_refl 1) 0 (Lib.countB t ⟨#[c]⟩) t rfl
  have h2 := Lib.countB_le ⟨#[c]⟩ (Nat.le_refl 1) t.size t (Nat.le_refl _)
  unfold cutV
  omega
theorem splitB_size (sep : ByteArray) : ∀ (k : Nat) (s : ByteArray), ∀ p ∈ Lib.splitB sep 0 k s, p.size ≤ s.size := by
  intro k
  induction k with
  | zero =>
    intro s p hp
    rw [Lib.splitB_zero] at hp
    have : p = s := by simpa using hp
    rw [this]
    exact Nat.le_refl _
  | succ k ih =>
    intro s p hp
    rcases Lib.indexB_cases s sep with h | ⟨i, h, _⟩
    · rw [Lib.splitB_miss sep 0 _ s h] at hp
      have : p = s := by simpa using hp
      rw [this]
      exact Nat.le_refl _
    · rw [Lib.splitB_hit sep 0 k s i h] at hp
      rcases List.mem_cons.1 hp with rfl | hp
      · rw [ByteArray.size_extract]; omega
      · have := ih _ p hp
        rw [ByteArray.size_extract] at this
        omega
theorem get_extract (s : ByteArray) (f j : Nat) : (s.extract f s.size).data.toList[j]? = s.data.toList[f + j]? := by
  rw [Lib.extract_to_end, List.getElem?_drop]
theorem specCut_l0 (s : ByteArray) (hs : s.size ≤ 1048576) (c : UInt8) : ∀ (d i f : Nat) (parts : List ByteArray), i + d = s.size → f ≤ i → (∀ j, f ≤ j → j < i → s.data.toList[j]? ≠ some c) → parts.length ≤ i →
    Ev (fun k => spec_l00Cut.l0 k s (c.toNat : Int) parts (f : Int) (i : Int)) (parts ++ cutV c (s.extract f s.size)) := by
  intro d
  induction d with
  | zero =>
    intro i f parts hi hf hn hp
    refine Ev.step (fun k => rfl) (Ev.neg (by omega) (Ev.pos (by omega) (Ev.pos (by omega) (Ev.pos (by omega) (Ev.some' ?_)))))
    rw [Int.toNat_natCast]
    have hx : Lib.indexB (s.extract f s.size) ⟨#[c]⟩ = -1 := by
      refine indexB_no _ c fun j hj => ?_
      rw [ByteArray.size_extract] at hj
      rw [get_extract]
      exact hn (f + j) (by omega) (by omega)
    unfold cutV
    rw [Lib.countB_miss _ _ hx, Lib.splitB_zero]
  | succ d ih =>
    intro i f parts hi hf hn hp
    obtain ⟨x, hx, hb⟩ := bt_get s i (by omega)
    refine Ev.step (fun k => rfl) (Ev.pos (by omega) (Ev.pos (by omega) ?_))
    rw [hb, w64n (by omega)]
    by_cases c1 : x = c
    · subst c1
      refine Ev.pos rfl (Ev.pos (by omega) (Ev.pos (by omega) (Ev.pos (by omega) (Ev.pos (by omega) ?_))))
      rw [Int.toNat_natCast, Int.toNat_natCast]
      have hix : Lib.indexB (s.extract f s.size) ⟨#[x]⟩ = ((i - f : Nat) : Int) := by
        refine indexB_at _ x (i - f) ?_ fun j hj => ?_
        · rw [get_extract, show f + (i - f) = i by omega]; exact hx
        · rw [get_extract]; exact hn (f + j) (by omega) (by omega)
      have e1 : (s.extract f s.size).extract (i - f + 1) (s.extract f s.size).size = s.extract (i + 1) s.size := by
        apply ba_ext
        rw [Lib.extract_to_end, Lib.extract_to_end, Lib.extract_to_end, List.drop_drop, show f + (i - f + 1) = i + 1 by omega]
      have e2 : (s.extract f s.size).extract 0 (i - f) = s.extract f i := by
        apply ba_ext
        rw [Lib.extract_from_zero, Lib.extract_to_end, Lib.extract_data]
      have := ih (i + 1) (i + 1) (parts ++ [s.extract f i]) (by omega) (Nat.le_refl _) (fun j h1 h2 => by omega) (by rw [List.length_append, List.length_singleton]; omega)
      refine Ev.eq this ?_
      have h3 : cutV x (s.extract f s.size) = s.extract f i :: cutV x (s.extract (i + 1) s.size) := by
        unfold cutV
        rw [Lib.countB_hit _ ⟨#[x]⟩ (i - f) (Nat.le_refl 1) hix, show (⟨#[x]⟩ : ByteArray).size = 1 from rfl, Nat.add_comm 1, Lib.splitB_hit _ 0 _ _ (i - f) hix, show (⟨#[x]⟩ : ByteArray).size = 1 from rfl, Nat.add_zero, e1, e2]
      rw [h3]
      simp
    · refine Ev.neg (fun e => c1 (UInt8.toNat_inj.1 (by omega))) ?_
      exact ih (i + 1) f parts (by omega) (by omega) (fun j h1 h2 => by
        rcases Nat.lt_or_ge j i with q | q
        · exact hn j h1 q
        · obtain rfl : j = i := by omega
          rw [hx]
          intro e
          exact c1 (Option.some.inj e)) (by omega)
theorem ext_all (s : ByteArray) : s.extract 0 s.size = s := by
  apply ba_ext
  rw [Lib.extract_to_end, List.drop_zero]
theorem specCut_ev (s : ByteArray) (hs : s.size ≤ 1048576) (c : UInt8) : Ev (fun k => spec_l00Cut.f k s (c.toNat : Int)) (cutV c s) := by
  have := specCut_l0 s hs c s.size 0 0 [] (by omega) (by omega) (fun j h1 h2 => by omega) (by simp)
  rw [ext_all] at this
  exact this
/-- The lines: an empty one at the end is none. -/
def linesV (a : ByteArray) : List ByteArray := if (rdOf ByteArray.empty (cutV 10 a) (((cutV 10 a).length : Int) - 1)).toList = ([] : List UInt8) then (cutV 10 a).take ((((cutV 10 a).length : Int) - 1) : Int).toNat else cutV 10 a
theorem linesV_len (a : ByteArray) : (linesV a).length ≤ a.size + 1 := by
  have := (cutV_len 10 a).2
  unfold linesV
  split
  · rw [List.length_take]; omega
  · exact this
theorem linesV_size (a : ByteArray) : ∀ p ∈ linesV a, p.size ≤ a.size := by
  intro p hp
  have : p ∈ cutV 10 a := by
    unfold linesV at hp
    split at hp
    · exact List.mem_of_mem_take hp
    · exact hp
  exact splitB_size _ _ _ p this
theorem implLines_ev (a : ByteArray) (ha : a.size ≤ 1048576) : impl_linesOf.f a = some (linesV a) := by
  have hl := cutV_len 10 a
  unfold impl_linesOf.f linesV
  rw [show strings_Split.f a (⟨#[10]⟩ : ByteArray) = some (cutV 10 a) from if_pos ⟨by omega, Nat.le_refl 1⟩, Option.bind_some, w64 (by omega) (by omega)]
  generalize cutV 10 a = v at hl ⊢
  rw [if_pos (by omega), if_pos (by omega)]
  split
  · rw [if_pos (by omega)]
  · rfl
theorem specLines_ev (a : ByteArray) (ha : a.size ≤ 1048576) : Ev (fun k => spec_l06Lines.f k a) (linesV a) := by
  have hl := cutV_len 10 a
  unfold spec_l06Lines.f linesV
  refine Ev.bind (specCut_ev a ha 10) ?_
  generalize cutV 10 a = v at hl ⊢
  rw [w64 (by omega) (by omega)]
  exact Ev.pos (by omega) (Ev.pos (by omega) (Ev.ite (fun _ => Ev.pos (by omega) (Ev.some' rfl)) (fun _ => Ev.some' rfl)))
/-! ### an entry read -/
def readV : Nat → ByteArray → Option (List Int × ByteArray)
  | 0, s => some ([], s)
  | d + 1, s => if Lib.indexB s spV = -1 then none else (numR (s.extract 0 (Lib.indexB s spV).toNat).data.toList).bind fun v => (readV d (s.extract ((Lib.indexB s spV).toNat + 1) s.size)).bind fun y => some (v :: y.1, y.2)
theorem readV_miss {d : Nat} {s : ByteArray} (h : Lib.indexB s spV = -1) : readV (d + 1) s = none := by rw [readV, if_pos h]
theorem readV_hit {d : Nat} {s : ByteArray} {i : Nat} (h : Lib.indexB s spV = i) : readV (d + 1) s = (numR (s.extract 0 i).data.toList).bind fun v => (readV d (s.extract (i + 1) s.size)).bind fun y => some (v :: y.1, y.2) := by
  rw [readV, if_neg (by omega), h, Int.toNat_natCast]
theorem readV_some : ∀ (d : Nat) (s : ByteArray) (vs : List Int) (r : ByteArray), readV d s = some (vs, r) → d ≤ s.size ∧ vs.length = d ∧ (∀ v ∈ vs, intP v) ∧ r.size ≤ s.size := by
  intro d
  induction d with
  | zero =>
    intro s vs r h
    cases h
    exact ⟨Nat.zero_le _, rfl, by simp, Nat.le_refl _⟩
  | succ d ih =>
    intro s vs r h
    rcases Lib.indexB_cases s spV with hm | ⟨i, hi, hr⟩
    · rw [readV_miss hm] at h; cases h
    · rw [readV_hit hi] at h
      have e1 : spV.size = 1 := rfl
      cases hn : numR (s.extract 0 i).data.toList with
      | none => rw [hn] at h; cases h
      | some v =>
        rw [hn, Option.bind_some] at h
        cases hq : readV d (s.extract (i + 1) s.size) with
        | none => rw [hq] at h; cases h
        | some y =>
          rw [hq, Option.bind_some] at h
          cases h
          obtain ⟨h1, h2, h3, h4⟩ := ih _ y.1 y.2 hq
          rw [ByteArray.size_extract] at h1 h4
          have hb := numR_some hn
          refine ⟨by omega, by simp [h2], ?_, by omega⟩
          intro z hz
          rcases List.mem_cons.1 hz with rfl | hz
          · exact ⟨by omega, by omega⟩
          · exact h3 z hz
def failV : Int × Int × Int × ByteArray × Int × Bool := (0, 0, 0, (⟨#[]⟩ : ByteArray), 0, false)
def doneV (vs : List Int) (r : ByteArray) : Int × Int × Int × ByteArray × Int × Bool := (rd vs 1, rd vs 2, rd vs 3, r, rd vs 0, true)
def outV (acc : List Int) (o : Option (List Int × ByteArray)) : Int × Int × Int × ByteArray × Int × Bool := match o with
  | some y => doneV (acc ++ y.1) y.2
  | none => failV
theorem snoc_of {l : List ByteArray} {d : Nat} (h : l.length = d + 1) : ∃ ps r, l = ps ++ [r] ∧ ps.length = d := by
  have hne : l ≠ [] := fun e => by rw [e] at h; cases h
  exact ⟨l.dropLast, l.getLast hne, (List.dropLast_concat_getLast hne).symm, by rw [List.length_dropLast]; omega⟩
theorem split_read : ∀ (d : Nat) (s : ByteArray),
    (∃ ps vs r, readV d s = some (vs, r) ∧ Lib.splitB spV 0 d s = ps ++ [r] ∧ ps.length = d ∧ ps.map (fun p => numR p.data.toList) = vs.map some) ∨
    (readV d s = none ∧ ((Lib.splitB spV 0 d s).length ≠ d + 1 ∨ ∃ ps r, Lib.splitB spV 0 d s = ps ++ [r] ∧ ps.length = d ∧ ∃ p ∈ ps, numR p.data.toList = none)) := by
  intro d
  induction d with
  | zero => intro s; exact Or.inl ⟨[], [], s, rfl, rfl, rfl, rfl⟩
  | succ d ih =>
    intro s
    rcases Lib.indexB_cases s spV with hm | ⟨i, hi, hr⟩
    · refine Or.inr ⟨readV_miss hm, Or.inl ?_⟩
      rw [Lib.splitB_miss _ _ _ _ hm]
      simp
    · have e1 : spV.size = 1 := rfl
      rw [Lib.splitB_hit _ _ _ _ i hi, readV_hit hi, e1, Nat.add_zero]
      cases hn : numR (s.extract 0 i).data.toList with
      | none =>
        refine Or.inr ⟨rfl, ?_⟩
        by_cases hl : (Lib.splitB spV 0 d (s.extract (i + 1) s.size)).length = d + 1
        · obtain ⟨ps, r, h1, h2⟩ := snoc_of hl
          exact Or.inr ⟨s.extract 0 i :: ps, r, by rw [h1]; rfl, by simp [h2], s.extract 0 i, by simp, hn⟩
        · exact Or.inl (by rw [List.length_cons]; omega)
      | some v =>
        rw [Option.bind_some]
        rcases ih (s.extract (i + 1) s.size) with ⟨ps, vs, r, h1, h2, h3, h4⟩ | ⟨h1, h2⟩
        · refine Or.inl ⟨s.extract 0 i :: ps, v :: vs, r, by rw [h1]; rfl, by rw [h2]; rfl, by simp [h3], ?_⟩
          rw [List.map_cons, List.map_cons, h4, hn]
        · refine Or.inr ⟨by rw [h1]; rfl, ?_⟩
          rcases h2 with h2 | ⟨ps, r, h2, h3, p, hp, h4⟩
          · exact Or.inl (by rw [List.length_cons]; omega)
          · exact Or.inr ⟨s.extract 0 i :: ps, r, by rw [h2]; rfl, by simp [h3], p, by simp [hp], h4⟩
theorem entry_l0 (x4 : List ByteArray) (h4 : x4.length = 5) : ∀ (a p : List ByteArray) (acc : List Int), (p ++ a).length = 4 → acc.length = p.length →
    (∀ vs : List Int, a.map (fun p => numR p.data.toList) = vs.map some → Ev (fun k => impl_entryOf.l0 k x4 acc (p ++ a) ((p ++ a).length : Int) (p.length : Int)) (doneV (acc ++ vs) (rdOf ByteArray.empty x4 4))) ∧
    ((∃ q ∈ a, numR q.data.toList = none) → Ev (fun k => impl_entryOf.l0 k x4 acc (p ++ a) ((p ++ a).length : Int) (p.length : Int)) failV) := by
  intro a
  induction a with
  | nil =>
    intro p acc hl ha
    refine ⟨fun vs hv => ?_, fun ⟨q, hq, _⟩ => by cases hq⟩
    obtain rfl : vs = [] := by
      cases vs with
      | nil => rfl
      | cons _ _ => cases hv
    rw [List.append_nil] at hl ⊢
    refine Ev.step (fun k => rfl) (Ev.neg (by omega) (Ev.pos (by omega) (Ev.pos (by omega) (Ev.pos (by omega) (Ev.pos (by omega) (Ev.pos (by omega) (Ev.some' ?_)))))))
    rw [doneV, List.append_nil]
  | cons x a ih =>
    intro p acc hl ha
    have hl' := hl
    rw [List.length_append, List.length_cons] at hl'
    obtain ⟨r, hr, hg⟩ := readNumber_ev x
    have head : ∀ v, numR x.data.toList = some v → ∀ w, Ev (fun k => impl_entryOf.l0 k x4 (acc ++ [v]) ((p ++ [x]) ++ a) (((p ++ [x]) ++ a).length : Int) ((p ++ [x]).length : Int)) w → Ev (fun k => impl_entryOf.l0 k x4 acc (p ++ x :: a) ((p ++ x :: a).length : Int) (p.length : Int)) w := by
      intro v hv w hw
      rw [hv] at hg
      have hg : r = (v, true) := hg
      subst hg
      refine Ev.step (fun k => rfl) (Ev.pos (len_lt p x a) (Ev.pos (by omega) (Ev.pos (len_lt p x a) ?_)))
      rw [rdOf_mid]
      refine Ev.ret hr (Ev.pos rfl (Ev.pos (by omega) ?_))
      rw [w64 (by omega) (by omega), ← len_snoc p x, snoc p x a]
      exact hw
    have hih := fun v => ih (p ++ [x]) (acc ++ [v]) (by rw [← snoc]; exact hl) (by simp [ha])
    refine ⟨fun vs hv => ?_, fun ⟨q, hq, hqn⟩ => ?_⟩
    · cases vs with
      | nil => cases hv
      | cons v vs =>
        rw [List.map_cons, List.map_cons] at hv
        injection hv with hv1 hv2
        refine head v hv1 _ ?_
        have := (hih v).1 vs hv2
        rw [List.append_assoc acc [v] vs] at this
        exact this
    · cases hx : numR x.data.toList with
      | some v =>
        rcases List.mem_cons.1 hq with rfl | hq
        · rw [hx] at hqn; cases hqn
        · exact head v hx _ ((hih v).2 ⟨q, hq, hqn⟩)
      | none =>
        rw [hx] at hg
        refine Ev.step (fun k => rfl) (Ev.pos (len_lt p x a) (Ev.pos (by omega) (Ev.pos (len_lt p x a) ?_)))
        rw [rdOf_mid]
        refine Ev.ret hr (Ev.neg ?_ (Ev.some' rfl))
        rw [show r.2 = false from hg]
        exact ff
theorem implEntry_ev (s : ByteArray) (hs : s.size ≤ 1048576) : Ev (fun k => impl_entryOf.f k s) (outV [] (readV 4 s)) := by
  unfold impl_entryOf.f
  have hsp : strings_SplitN.f s (⟨#[32]⟩ : ByteArray) 5 = some (Lib.splitB spV 0 (min 5 (s.size + 1) - 1) s) := if_pos ⟨by omega, Nat.le_refl 1, by omega, by omega⟩
  refine Ev.ret hsp ?_
  by_cases c4 : s.size < 4
  · have hl := Lib.splitB_length_le spV 0 (min 5 (s.size + 1) - 1) s
    have hn : readV 4 s = none := by
      cases h : readV 4 s with
      | none => rfl
      | some y => have := (readV_some 4 s y.1 y.2 h).1; omega
    rw [hn]
    exact Ev.neg (by omega) (Ev.some' rfl)
  rw [show min 5 (s.size + 1) - 1 = 4 by omega]
  rcases split_read 4 s with ⟨ps, vs, r, h1, h2, h3, h4⟩ | ⟨h1, h2⟩
  · rw [h1, h2]
    have hlen : (ps ++ [r]).length = 5 := by simp [h3]
    refine Ev.pos (by omega) (Ev.pos (by omega) (Ev.ret rfl ?_))
    have ht : (ps ++ [r]).take 4 = ps := by rw [← h3]; simp
    rw [ht]
    refine Ev.eq ((entry_l0 (ps ++ [r]) hlen ps [] [] (by simpa using h3) rfl).1 vs h4) ?_
    have hr : rdOf ByteArray.empty (ps ++ [r]) 4 = r := by
      have := rdOf_mid ByteArray.empty ps r []
      rw [h3] at this
      exact this
    rw [hr]
    rfl
  · rw [h1]
    rcases h2 with h2 | ⟨ps, r, h2, h3, h5⟩
    · exact Ev.neg (by omega) (Ev.some' rfl)
    · rw [h2]
      have hlen : (ps ++ [r]).length = 5 := by simp [h3]
      refine Ev.pos (by omega) (Ev.pos (by omega) (Ev.ret rfl ?_))
      have ht : (ps ++ [r]).take 4 = ps := by rw [← h3]; simp
      rw [ht]
      exact (entry_l0 (ps ++ [r]) hlen ps [] [] (by simpa using h3) rfl).2 h5
theorem specEntry_l0 : ∀ (d n : Nat) (s : ByteArray) (acc : List Int), n + d = 4 → acc.length = n → s.size ≤ 1048576 →
    Ev (fun k => spec_l10Read.l0 k s acc (n : Int)) (outV acc (readV d s)) := by
  intro d
  induction d with
  | zero =>
    intro n s acc hn ha hs
    refine Ev.up1 ?_
    simp only [spec_l10Read.l0]
    refine Ev.neg (by omega) (Ev.pos (by omega) (Ev.pos (by omega) (Ev.pos (by omega) (Ev.pos (by omega) (Ev.some' ?_)))))
    show _ = doneV (acc ++ []) s
    rw [List.append_nil]
    rfl
  | succ d ih =>
    intro n s acc hn ha hs
    refine Ev.up1 ?_
    simp only [spec_l10Read.l0]
    refine Ev.pos (by omega) ?_
    have loop : ∀ (e i : Nat), i + e = s.size → (∀ j, j < i → s.data.toList[j]? ≠ some 32) → Ev (fun k => spec_l10Read.l1 k s acc (n : Int) (i : Int)) (outV acc (readV (d + 1) s)) := by
      intro e
      induction e with
      | zero =>
        intro i hi hno
        have hm : Lib.indexB s spV = -1 := indexB_no s 32 fun j hj => hno j (by omega)
        rw [readV_miss hm]
        refine Ev.up1 ?_
        simp only [spec_l10Read.l1]
        refine Ev.neg (by omega) (Ev.pos (by omega) (Ev.pos (by omega) (Ev.bind (number_ev _) ?_)))
        cases numR (s.extract 0 ((i : Int)).toNat).data.toList with
        | none => exact Ev.neg ff (Ev.some' rfl)
        | some v => exact Ev.pos rfl (Ev.pos (by omega) (Ev.some' rfl))
      | succ e ihe =>
        intro i hi hno
        obtain ⟨x, hx, hb⟩ := bt_get s i (by omega)
        refine Ev.up1 ?_
        simp only [spec_l10Read.l1]
        refine Ev.pos (by omega) (Ev.pos (by omega) ?_)
        rw [hb, w64n (by omega)]
        by_cases c1 : x = 32
        · subst c1
          have hm : Lib.indexB s spV = (i : Int) := indexB_at s 32 i hx hno
          rw [readV_hit hm]
          refine Ev.pos rfl (Ev.pos (by omega) ?_)
          rw [Int.toNat_natCast]
          refine Ev.bind (number_ev _) ?_
          cases hv : numR (s.extract 0 i).data.toList with
          | none => exact Ev.neg ff (Ev.some' rfl)
          | some v =>
            refine Ev.pos rfl (Ev.neg (by omega) (Ev.pos (by omega) (Ev.pos (by omega) (Ev.pos (by omega) ?_))))
            rw [w64n (by omega), Int.toNat_natCast, Option.bind_some]
            have := ih (n + 1) (s.extract (i + 1) s.size) (acc ++ [v]) (by omega) (by simp [ha]) (by rw [ByteArray.size_extract]; omega)
            refine Ev.eq this ?_
            cases readV d (s.extract (i + 1) s.size) with
            | none => rfl
            | some y =>
              show doneV ((acc ++ [v]) ++ y.1) y.2 = doneV (acc ++ (v :: y.1)) y.2
              rw [← snoc]
        · refine Ev.neg (fun e => c1 (UInt8.toNat_inj.1 (by have : (32 : UInt8).toNat = 32 := rfl; omega))) ?_
          exact ihe (i + 1) (by omega) (fun j hj => by
            rcases Nat.lt_or_ge j i with q | q
            · exact hno j q
            · obtain rfl : j = i := by omega
              rw [hx]
              intro e
              exact c1 (Option.some.inj e))
    exact loop s.size 0 (by omega) (fun j hj => by omega)
theorem specEntry_ev (s : ByteArray) (hs : s.size ≤ 1048576) : Ev (fun k => spec_l10Read.f k s) (outV [] (readV 4 s)) := specEntry_l0 4 0 s [] rfl rfl hs
/-! ### all lines -/
def entV (y : List Int × ByteArray) : S33 := ⟨rd y.1 1, rd y.1 2, rd y.1 3, y.2, rd y.1 0⟩
theorem entV_wf {s : ByteArray} {y : List Int × ByteArray} (h : readV 4 s = some y) (hs : s.size ≤ 1048576) : wfE (entV y) := by
  obtain ⟨_, h2, h3, h4⟩ := readV_some 4 s y.1 y.2 h
  have g : ∀ i : Nat, i < 4 → intP (rd y.1 (i : Int)) := by
    intro i hi
    rw [rd_nat, List.getD_eq_getElem?_getD, List.getElem?_eq_getElem (by omega)]
    exact h3 _ (List.getElem_mem _)
  exact ⟨g 1 (by omega), g 2 (by omega), g 3 (by omega), g 0 (by omega), by show y.2.size ≤ _; omega⟩
def endV (acc : List S33) : List S33 × Int × Int := if (checkV acc 0 1).1 = 0 then (acc, 0, 0) else ([], (checkV acc 0 1).1, wrap64 ((checkV acc 0 1).2 + 1))
def allV : List ByteArray → Nat → List S33 → List S33 × Int × Int
  | [], _, acc => endV acc
  | x :: a, i, acc => match readV 4 x with
    | some y => allV a (i + 1) (acc ++ [entV y])
    | none => ([], 4, ((i + 1 : Nat) : Int))
theorem allV_len : ∀ (a : List ByteArray) (i : Nat) (acc : List S33), (allV a i acc).1.length ≤ acc.length + a.length := by
  intro a
  induction a with
  | nil =>
    intro i acc
    show (endV acc).1.length ≤ _
    unfold endV
    split <;> simp
  | cons x a ih =>
    intro i acc
    rw [allV]
    cases readV 4 x with
    | none => simp
    | some y =>
      have := ih (i + 1) (acc ++ [entV y])
      simp only [List.length_append, List.length_cons, List.length_nil] at this ⊢
      omega
theorem implRead_l0 : ∀ (a p : List ByteArray) (acc : List S33), (p ++ a).length ≤ 200 → acc.length = p.length → (∀ x ∈ a, x.size ≤ 1048576) → (∀ x ∈ acc, wfE x) →
    Ev (fun k => impl_ReadJournal.l0 k acc (p ++ a) ((p ++ a).length : Int) (p.length : Int)) (allV a p.length acc) := by
  intro a
  induction a with
  | nil =>
    intro p acc hl ha _ hw
    rw [List.append_nil] at hl
    have hc : Ev (fun k => impl_checkJournal.f k acc) (checkV acc 0 1) := by
      unfold impl_checkJournal.f
      exact Ev.neg (by omega) (check_l0 acc [] 1 hw (by simp; omega))
    refine Ev.step (fun k => rfl) (Ev.neg (len_end p) (Ev.bind hc ?_))
    show Ev _ (endV acc)
    unfold endV
    exact Ev.ite (fun _ => Ev.some' rfl) (fun _ => Ev.some' rfl)
  | cons x a ih =>
    intro p acc hl ha hs hw
    have hl' := hl
    rw [List.length_append, List.length_cons] at hl'
    refine Ev.step (fun k => rfl) (Ev.pos (len_lt p x a) (Ev.pos (by omega) (Ev.pos (len_lt p x a) ?_)))
    rw [rdOf_mid]
    refine Ev.bind (implEntry_ev x (hs x (by simp))) ?_
    rw [allV]
    cases hr : readV 4 x with
    | none =>
      refine Ev.neg ff (Ev.some' ?_)
      rw [w64n (by omega)]
    | some y =>
      refine Ev.pos rfl (Ev.pos (by omega) ?_)
      have := ih (p ++ [x]) (acc ++ [entV y]) (by rw [← snoc]; exact hl) (by simp [ha]) (fun z hz => hs z (by simp [hz])) (fun z hz => by
        rcases List.mem_append.1 hz with hz | hz
        · exact hw z hz
        · obtain rfl : z = entV y := by simpa using hz
          exact entV_wf hr (hs x (by simp)))
      rw [← snoc, len_snoc, show (p ++ [x]).length = p.length + 1 by simp] at this
      rw [w64 (by omega) (by omega)]
      exact this
theorem specRead_l0 : ∀ (a p : List ByteArray) (acc : List S33), (p ++ a).length ≤ 200 → acc.length = p.length → (∀ x ∈ a, x.size ≤ 1048576) → (∀ x ∈ acc, wfE x) →
    Ev (fun k => spec_ReadJournal.l0 k [] (p ++ a) acc (p.length : Int)) (allV a p.length acc) := by
  intro a
  induction a with
  | nil =>
    intro p acc hl ha _ hw
    rw [List.append_nil] at hl
    have hc : Ev (fun k => spec_CheckJournal.f k acc) (checkV acc 0 1) := by
      unfold spec_CheckJournal.f
      exact Ev.neg (by omega) (Ev.neg (by omega) (specCheck_l0 acc [] 1 hw (by simp; omega)))
    refine Ev.step (fun k => rfl) (Ev.neg (len_end p) (Ev.bind hc ?_))
    show Ev _ (endV acc)
    unfold endV
    exact Ev.ite (fun _ => Ev.some' rfl) (fun _ => Ev.some' rfl)
  | cons x a ih =>
    intro p acc hl ha hs hw
    have hl' := hl
    rw [List.length_append, List.length_cons] at hl'
    refine Ev.step (fun k => rfl) (Ev.pos (len_lt p x a) (Ev.pos (by omega) ?_))
    rw [rdOf_mid]
    refine Ev.bind (specEntry_ev x (hs x (by simp))) ?_
    rw [allV]
    cases hr : readV 4 x with
    | none =>
      refine Ev.neg ff (Ev.some' ?_)
      rw [w64n (by omega)]
    | some y =>
      refine Ev.pos rfl (Ev.pos (by omega) ?_)
      have := ih (p ++ [x]) (acc ++ [entV y]) (by rw [← snoc]; exact hl) (by simp [ha]) (fun z hz => hs z (by simp [hz])) (fun z hz => by
        rcases List.mem_append.1 hz with hz | hz
        · exact hw z hz
        · obtain rfl : z = entV y := by simpa using hz
          exact entV_wf hr (hs x (by simp)))
      rw [← snoc, len_snoc] at this
      rw [w64 (by omega) (by omega)]
      exact Ev.eq this (by simp)
/-- What is read from any text. -/
def readJ (a : ByteArray) : List S33 × Int × Int := if (a.size : Int) > 65536 then ([], 2, 0) else if ((linesV a).length : Int) > 200 then ([], 9, 0) else allV (linesV a) 0 []
theorem readJ_len (a : ByteArray) : (readJ a).1.length ≤ 200 := by
  unfold readJ
  split
  · simp
  · split
    · simp
    · have := allV_len (linesV a) 0 []
      rw [List.length_nil] at this
      omega
theorem areTexts_ev (a : ByteArray) : Ev (fun k => impl_areTexts.f k [a]) (decide ((a.size : Int) ≤ 65536)) := by
  unfold impl_areTexts.f slices_ContainsFunc_string_string.f slices_IndexFunc_string_string.f
  by_cases c : (a.size : Int) > 65536
  · rw [decide_eq_false (show ¬ (a.size : Int) ≤ 65536 by omega)]
    refine Ev.bind (a := true) (Ev.bind (a := (0 : Int)) ?_ (Ev.some' rfl)) (Ev.some' rfl)
    refine Ev.step (fun k => rfl) (Ev.pos (by simp) (Ev.pos (by omega) (Ev.pos (by simp) (Ev.ret rfl (Ev.pos ?_ (Ev.some' rfl))))))
    exact decide_eq_true c
  · rw [decide_eq_true (show (a.size : Int) ≤ 65536 by omega)]
    refine Ev.bind (a := false) (Ev.bind (a := (-1 : Int)) ?_ (Ev.some' rfl)) (Ev.some' rfl)
    refine Ev.step (fun k => rfl) (Ev.pos (by simp) (Ev.pos (by omega) (Ev.pos (by simp) (Ev.ret rfl (Ev.neg ?_ ?_)))))
    · show ¬ decide ((a.size : Int) > 65536) = true
      rw [decide_eq_false c]
      exact ff
    · rw [w64 (by omega) (by omega)]
      exact Ev.step (fun k => rfl) (Ev.neg (by simp) (Ev.some' rfl))
theorem implReadJ_ev (a : ByteArray) (ha : a.size ≤ 1048576) : Ev (fun k => impl_ReadJournal.f k a) (readJ a) := by
  unfold impl_ReadJournal.f readJ
  refine Ev.bind (areTexts_ev a) ?_
  by_cases c : (a.size : Int) > 65536
  · rw [if_pos c, decide_eq_false (by omega)]
    exact Ev.neg ff (Ev.some' rfl)
  rw [if_neg c, decide_eq_true (by omega)]
  refine Ev.pos rfl (Ev.ret (implLines_ev a ha) (Ev.ite (fun _ => Ev.some' rfl) (fun c2 => ?_)))
  exact implRead_l0 (linesV a) [] [] (by simp; omega) rfl (fun x hx => by have := linesV_size a x hx; omega) (by simp)
theorem specReadJ_ev (a : ByteArray) (ha : a.size ≤ 1048576) : Ev (fun k => spec_ReadJournal.f k a) (readJ a) := by
  unfold spec_ReadJournal.f readJ
  refine Ev.ret rfl (Ev.ite (fun _ => Ev.some' rfl) (fun c => ?_))
  refine Ev.bind (specLines_ev a ha) (Ev.ite (fun _ => Ev.some' rfl) (fun c2 => ?_))
  exact specRead_l0 (linesV a) [] [] (by simp; omega) rfl (fun x hx => by have := linesV_size a x hx; omega) (by simp)
theorem eqEntry_ev (x : S33) : laws_eqEntry.f x.f0 x.f1 x.f2 x.f3 x.f4 x.f0 x.f1 x.f2 x.f3 x.f4 = some true := by
  unfold laws_eqEntry.f
  simp
theorem eqEntryS_l0 : ∀ (a p : List S33), (p ++ a).length < 4611686018427387904 →
    Ev (fun k => laws_eqEntryS.l0 k (p ++ a) (p ++ a) (p.length : Int)) true := by
  intro a
  induction a with
  | nil =>
    intro p hl
    exact Ev.step (fun k => rfl) (Ev.neg (len_end p) (Ev.some' rfl))
  | cons x a ih =>
    intro p hl
    have hl' : (p ++ x :: a).length < 4611686018427387904 := hl
    rw [List.length_append, List.length_cons] at hl'
    refine Ev.step (fun k => rfl) (Ev.pos (len_lt p x a) (Ev.pos (by omega) (Ev.pos (len_lt p x a) ?_)))
    rw [rd_Entry_mid]
    refine Ev.ret (eqEntry_ev x) (Ev.pos (by first | rfl | trivial) ?_)
    rw [w64 (by omega) (by omega), ← len_snoc p x, snoc p x a]
    exact ih (p ++ [x]) (by rw [← snoc]; exact hl)
theorem eqEntryS_ev (a : List S33) (hl : a.length < 4611686018427387904) : Ev (fun k => laws_eqEntryS.f k a a) true := by
  unfold laws_eqEntryS.f
  exact Ev.pos (by first | rfl | trivial) (eqEntryS_l0 a [] hl)
theorem strOne_size (z : Int) : (strOfNums [z]).size = 1 := rfl
theorem markText_l0 : ∀ (n : Nat) (x : Int) (s : ByteArray), 0 ≤ x → x < 10 ^ n → s.size + n ≤ 1000 → ∃ t, Ev (fun k => laws_markText.l0 k x s) t := by
  intro n
  induction n with
  | zero =>
    intro x s h0 h1 hs
    refine ⟨_, Ev.step (fun k => rfl) (Ev.neg (by omega) (Ev.pos (by omega) (Ev.some' rfl)))⟩
  | succ n ih =>
    intro x s h0 h1 hs
    by_cases c : x > 0
    · have hd : wrap64 (Int.tdiv x 10) = x / 10 ∨ True := .inr trivial
      have h2 : Int.tdiv x 10 = x / 10 := Int.tdiv_eq_ediv_of_nonneg h0
      by_cases hb : x ≤ 9223372036854775807
      · have hw : wrap64 (Int.tdiv x 10) = x / 10 := by rw [h2]; exact w64 (by omega) (by omega)
        have h3 : x / 10 < 10 ^ n := by
          rw [Int.pow_succ] at h1
          omega
        obtain ⟨t, ht⟩ := ih (x / 10) (strOfNums [wrap64 (48 + Int.tmod x 10) % 256] ++ s) (by omega) h3 (by rw [ByteArray.size_append, strOne_size]; omega)
        refine ⟨t, Ev.step (fun k => rfl) (Ev.pos c (Ev.ret rfl (Ev.pos (by rw [strOne_size]; omega) ?_)))⟩
        rw [hw]
        exact ht
      · have hz : -9223372036854775808 ≤ wrap64 (Int.tdiv x 10) ∧ wrap64 (Int.tdiv x 10) ≤ 9223372036854775807 := by unfold wrap64; omega
        have h5 : Int.tdiv x 10 = x / 10 := h2
        have h3 : x / 10 < 10 ^ n := by
          rw [Int.pow_succ] at h1
          omega
        by_cases h6 : 0 ≤ wrap64 (Int.tdiv x 10)
        · obtain ⟨t, ht⟩ := ih (wrap64 (Int.tdiv x 10)) (strOfNums [wrap64 (48 + Int.tmod x 10) % 256] ++ s) h6 (by
            have : wrap64 (Int.tdiv x 10) ≤ x / 10 := by rw [h2]; unfold wrap64; omega
            omega) (by rw [ByteArray.size_append, strOne_size]; omega)
          exact ⟨t, Ev.step (fun k => rfl) (Ev.pos c (Ev.ret rfl (Ev.pos (by rw [strOne_size]; omega) ht)))⟩
        · exact ⟨_, Ev.step (fun k => rfl) (Ev.pos c (Ev.ret rfl (Ev.pos (by rw [strOne_size]; omega) (Ev.step (fun k => rfl) (Ev.neg (by omega) (Ev.pos (by rw [ByteArray.size_append, strOne_size]; omega) (Ev.some' rfl)))))))⟩
    · exact ⟨_, Ev.step (fun k => rfl) (Ev.neg c (Ev.pos (by omega) (Ev.some' rfl)))⟩
theorem markText_ev (x : Int) (h1 : x < 10 ^ 19) : ∃ t, Ev (fun k => laws_markText.f k x) t := by
  unfold laws_markText.f
  by_cases c : x ≤ 0
  · exact ⟨_, Ev.pos c (Ev.some' rfl)⟩
  · obtain ⟨t, ht⟩ := markText_l0 19 x ⟨#[]⟩ (by omega) h1 (by decide)
    exact ⟨t, Ev.neg c ht⟩
theorem setE_mid (p : List S33) (x y : S33) (r : List S33) : (p ++ x :: r).set (p.length : Int).toNat y = p ++ y :: r := set_mid p x y r
def isMark (c : Int) (y : S33) : Prop := y.f0 = c ∧ y.f1 = c + 1 ∧ y.f2 = c + 2 ∧ Ev (fun k => laws_markText.f k (c + 3)) y.f3 ∧ y.f4 = c + 4
def areMarks : List S33 → Int → Prop
  | [], _ => True
  | y :: a, c => isMark c y ∧ areMarks a (c + 5)
theorem markEntryS_l0 : ∀ (a p : List S33) (c : Int), (p ++ a).length < 1000000000 → 0 ≤ c → c + 5 * a.length < 1000000000000 →
    ∃ b : List S33, Ev (fun k => laws_markEntryS.l0 k (p ++ a) c (p.length : Int)) (c + 5 * a.length, p ++ b) ∧ b.length = a.length ∧ areMarks b c := by
  intro a
  induction a with
  | nil =>
    intro p c hl h0 hc
    exact ⟨[], Ev.step (fun k => rfl) (Ev.neg (len_end p) (Ev.some' (by simp))), rfl, trivial⟩
  | cons x a ih =>
    intro p c hl h0 hc
    have hl' := hl
    rw [List.length_append, List.length_cons] at hl'
    rw [List.length_cons] at hc
    have hpp : (10 : Int) ^ 19 = 10000000000000000000 := by decide
    obtain ⟨t, ht⟩ := markText_ev (c + 3) (by omega)
    have e1 : wrap64 (c + 1) = c + 1 := w64 (by omega) (by omega)
    have e2 : wrap64 (c + 1 + 1) = c + 2 := by rw [w64 (by omega) (by omega)]; omega
    have e3 : wrap64 (c + 2 + 1) = c + 3 := by rw [w64 (by omega) (by omega)]; omega
    have e4 : wrap64 (c + 3 + 1) = c + 4 := by rw [w64 (by omega) (by omega)]; omega
    have e5 : wrap64 (c + 4 + 1) = c + 5 := by rw [w64 (by omega) (by omega)]; omega
    obtain ⟨b, g1, g2, g3⟩ := ih (p ++ [⟨c, c + 1, c + 2, t, c + 4⟩]) (c + 5) (by simp; omega) (by omega) (by omega)
    refine ⟨⟨c, c + 1, c + 2, t, c + 4⟩ :: b, ?_, by simp [g2], ⟨rfl, rfl, rfl, ht, rfl⟩, g3⟩
    refine Ev.step (fun k => rfl) (Ev.pos (len_lt p x a) (Ev.pos (by omega) (Ev.ret rfl (Ev.ret rfl (Ev.ret rfl ?_)))))
    simp only [e1, e2, e3, e4, e5, setE_mid, rd_Entry_mid]
    refine Ev.bind ht (Ev.ret rfl ?_)
    simp only [setE_mid, rd_Entry_mid]
    rw [w64 (by omega) (by omega), ← len_snoc p (⟨c, c + 1, c + 2, t, c + 4⟩ : S33), snoc p]
    refine Ev.eq g1 ?_
    rw [← snoc, List.length_cons]
    congr 1
    omega
theorem markEntryS_ev (a : List S33) (hl : a.length ≤ 1048576) : ∃ b : List S33, Ev (fun k => laws_markEntryS.f k a 1) (1 + 5 * (a.length : Int), b) ∧ b.length = a.length ∧ areMarks b 1 := by
  unfold laws_markEntryS.f
  exact markEntryS_l0 a [] 1 (by simp; omega) (by omega) (by omega)
theorem heldEntryS_l0 : ∀ (a p : List S33) (c : Int), (p ++ a).length < 1000000000 → 0 ≤ c → c + 5 * a.length < 1000000000000 → areMarks a c →
    Ev (fun k => laws_heldEntryS.l0 k (p ++ a) c (p.length : Int)) (c + 5 * a.length) := by
  intro a
  induction a with
  | nil =>
    intro p c hl h0 hc _
    exact Ev.step (fun k => rfl) (Ev.neg (len_end p) (Ev.some' (by simp)))
  | cons x a ih =>
    intro p c hl h0 hc hm
    have hl' := hl
    rw [List.length_append, List.length_cons] at hl'
    rw [List.length_cons] at hc
    have e1 : wrap64 (c + 1) = c + 1 := w64 (by omega) (by omega)
    have e2 : wrap64 (c + 1 + 1) = c + 2 := by rw [w64 (by omega) (by omega)]; omega
    have e3 : wrap64 (c + 2 + 1) = c + 3 := by rw [w64 (by omega) (by omega)]; omega
    have e4 : wrap64 (c + 3 + 1) = c + 4 := by rw [w64 (by omega) (by omega)]; omega
    have e5 : wrap64 (c + 4 + 1) = c + 5 := by rw [w64 (by omega) (by omega)]; omega
    obtain ⟨⟨m0, m1, m2, m3, m4⟩, mr⟩ := hm
    have g1 := ih (p ++ [x]) (c + 5) (by simp; omega) (by omega) (by omega) mr
    refine Ev.step (fun k => rfl) (Ev.pos (len_lt p x a) (Ev.pos (by omega) ?_))
    simp only [e1, e2, e3, e4, e5, rd_Entry_mid]
    refine Ev.pos m0 (Ev.pos m1 (Ev.pos m2 (Ev.bind m3 (Ev.pos rfl (Ev.pos m4 ?_)))))
    rw [w64 (by omega) (by omega), ← len_snoc p x, snoc p x]
    refine Ev.eq g1 ?_
    rw [List.length_cons]
    omega
theorem heldEntryS_ev (a : List S33) (hl : a.length ≤ 1048576) (h : areMarks a 1) : Ev (fun k => laws_heldEntryS.f k a 1) (1 + 5 * (a.length : Int)) := by
  unfold laws_heldEntryS.f
  exact heldEntryS_l0 a [] 1 (by simp; omega) (by omega) (by omega) h

theorem FnExactReadJournal : laws_FnExactReadJournal.Pure := by
  intro a _
  refine Ev.rounds (?_ : Ev (fun k => laws_FnExactReadJournal.f k a) true)
  unfold laws_FnExactReadJournal.f
  by_cases c : (a.size : Int) > 1048576
  · exact Ev.pos c (Ev.some' rfl)
  have iJ := implReadJ_ev a (by omega)
  have sJ := specReadJ_ev a (by omega)
  have hl := readJ_len a
  generalize readJ a = v at iJ sJ hl
  have eE := eqEntryS_ev v.1 (by omega)
  obtain ⟨b2, n1, n2, n3⟩ := markEntryS_ev v.1 (by omega)
  have hH := heldEntryS_ev b2 (by omega) n3
  rw [n2] at hH
  have ne : (v.2.2 != v.2.2) = false := by simp
  refine Ev.neg c (Ev.bind sJ (Ev.bind iJ (Ev.bind eE (Ev.pos rfl (Ev.pos rfl (Ev.up1 ?_))))))
  simp only [laws_FnExactReadJournal.j0, ne]
  refine Ev.neg ff (Ev.bind n1 (Ev.bind hH (Ev.neg (by omega) (Ev.pos rfl (Ev.bind iJ (Ev.bind eE (Ev.pos rfl (Ev.pos rfl (Ev.up1 ?_)))))))))
  simp only [laws_FnExactReadJournal.j1, ne]
  exact Ev.neg ff (Ev.bind hH (Ev.neg (by omega) (Ev.pos rfl (Ev.some' rfl))))

end Go.Proofs.YtjggnfkhdkgeaaaDoor.Pure
