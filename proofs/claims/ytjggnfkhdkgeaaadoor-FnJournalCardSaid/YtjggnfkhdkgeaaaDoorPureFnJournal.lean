/- At every two codes the law FnJournal holds: its plain statement, with no condition. -/
import Derived.Test.YtjggnfkhdkgeaaaDoorXFnJournalx10
import Derived.Test.YtjggnfkhdkgeaaaDoorAx
import Derived.Test.YtjggnfkhdkgeaaaDoorIdx
import Derived.Lib.ItoaLen
import Derived.Lib.AtoiAllCases
import Derived.Lib.SplitLaws
namespace Go.Proofs.YtjggnfkhdkgeaaaDoor.Pure
open Go.RowKit Go.Proofs.YtjggnfkhdkgeaaaDoor.XFnJournal Go.Proofs.YtjggnfkhdkgeaaaDoorW.PrintWords Go.Proofs.YtjggnfkhdkgeaaaDoorW.PrintLast
open Go.Proofs.YtjggnfkhdkgeaaaDoorW.Ax Go.Proofs.YtjggnfkhdkgeaaaDoorW.Idx
set_option linter.unusedVariables false
set_option linter.unusedSimpArgs false
theorem within_ev (a b c : Int) : impl_within.f a b c = some (decide (b ≤ a ∧ a ≤ c)) := by
  unfold impl_within.f
  by_cases h : a ≥ b
  · rw [if_pos h]; congr 1; rw [decide_eq_decide]; omega
  · rw [if_neg h]; congr 1; symm; rw [decide_eq_false_iff_not]; omega
theorem l01In_ev (a b c : Int) : spec_l01In.f a b c = some (decide (b ≤ a ∧ a ≤ c)) := by
  unfold spec_l01In.f
  by_cases h : a ≥ b
  · rw [if_pos h]; congr 1; rw [decide_eq_decide]; omega
  · rw [if_neg h]; congr 1; symm; rw [decide_eq_false_iff_not]; omega
/-! ### numerals -/
def numV (n : Int) : ByteArray := ⟨(Lib.itoa n).toArray⟩
theorem numV_size (n : Int) (h0 : -9223372036854775808 ≤ n) (h1 : n ≤ 9223372036854775807) : (numV n).size ≤ 21 := by
  have := Lib.itoa_length_le n h0 h1
  simpa [numV, ByteArray.size] using this
theorem app_bytes (a b : List UInt8) : (⟨a.toArray⟩ : ByteArray) ++ (⟨b.toArray⟩ : ByteArray) = ⟨(a ++ b).toArray⟩ := by
  apply ByteArray.ext
  simp
theorem bytes_size (a : List UInt8) : (⟨a.toArray⟩ : ByteArray).size = a.length := by simp [ByteArray.size]
theorem digit_ev (u : Nat) : strOfNums [wrap64 (48 + ((u % 10 : Nat) : Int)) % 256] = ⟨[UInt8.ofNat (48 + u % 10)].toArray⟩ := by
  rw [w64 (by omega) (by omega), show (48 + ((u % 10 : Nat) : Int)) % 256 = ((48 + u % 10 : Nat) : Int) by omega]
  show (⟨#[UInt8.ofNat (((48 + u % 10 : Nat) : Int)).toNat]⟩ : ByteArray) = _
  rw [Int.toNat_natCast]
theorem digits_nat : ∀ u : Nat, u < 18446744073709551616 → u ≤ 9223372036854775807 → Ev (fun k => spec_l00Digits.f k (u : Int)) ⟨(Lib.decDigits u).toArray⟩ := by
  intro u
  induction u using Nat.strongRecOn with
  | _ u ih =>
    intro h h2
    by_cases c : u < 10
    · refine Ev.step (fun k => rfl) (Ev.neg (by omega) (Ev.neg (by omega) (Ev.pos (by omega) (Ev.some' ?_))))
      have := digit_ev u
      rw [Nat.mod_eq_of_lt c] at this
      rw [this, Lib.decDigits, dif_pos c]
    · have hw : wrap64 (Int.tdiv (u : Int) 10) = ((u / 10 : Nat) : Int) := by
        rw [Int.tdiv_eq_ediv_of_nonneg (by omega), w64 (by omega) (by omega)]
        omega
      have hm : Int.tmod (u : Int) 10 = ((u % 10 : Nat) : Int) := by
        rw [Int.tmod_eq_emod_of_nonneg (by omega)]
        omega
      have hl : (Lib.decDigits (u / 10)).length ≤ 20 := by
        rw [Lib.decDigits_length]
        exact Lib.nDigits_le20 _ (by omega)
      have h10 := ih (u / 10) (by omega) (by omega) (by omega)
      refine Ev.step (fun k => rfl) (Ev.neg (by omega) (Ev.neg (by omega) (Ev.neg (by omega) ?_)))
      rw [hw, hm]
      refine Ev.bind h10 (Ev.ret rfl ?_)
      rw [digit_ev u]
      refine Ev.pos (by rw [bytes_size, bytes_size]; simp only [List.length_cons, List.length_nil]; omega) (Ev.some' ?_)
      rw [app_bytes, Lib.decDigits.eq_1 u, dif_neg c]
theorem digits_ev (n : Int) (h0 : -9223372036854775808 ≤ n) (h1 : n ≤ 9223372036854775807) : Ev (fun k => spec_l00Digits.f k n) (numV n) := by
  unfold numV
  by_cases c : n < 0
  · by_cases c2 : n = -9223372036854775808
    · subst c2
      refine Ev.step (fun k => rfl) (Ev.pos rfl (Ev.some' ?_))
      congr 1
      simp [Lib.itoa, Lib.decDigits]
    · have hn : wrap64 (-n) = ((n.natAbs : Nat) : Int) := by rw [w64 (by omega) (by omega)]; omega
      refine Ev.step (fun k => rfl) (Ev.neg c2 (Ev.pos c ?_))
      rw [hn]
      have hl : (Lib.decDigits n.natAbs).length ≤ 20 := by
        rw [Lib.decDigits_length]
        exact Lib.nDigits_le20 _ (by omega)
      refine Ev.bind (digits_nat n.natAbs (by omega) (by omega)) (Ev.pos (by rw [bytes_size]; omega) (Ev.some' ?_))
      rw [show (⟨#[45]⟩ : ByteArray) = ⟨[(45 : UInt8)].toArray⟩ from rfl, app_bytes, Lib.itoa, if_pos c]
      rfl
  · obtain ⟨u, rfl⟩ : ∃ u : Nat, n = (u : Int) := ⟨n.toNat, by omega⟩
    refine Ev.eq (digits_nat u (by omega) (by omega)) ?_
    rw [Lib.itoa, if_neg c, Int.toNat_natCast]
theorem itoa_ev (n : Int) (h0 : -9223372036854775808 ≤ n) (h1 : n ≤ 9223372036854775807) : strconv_Itoa_40.f n = some (numV n) := by
  unfold strconv_Itoa_40.f
  rw [if_pos ⟨h0, h1⟩]
  rfl
/-! ### heads and sums -/
def spV : ByteArray := ⟨#[32]⟩
def headV (x : S33) : ByteArray := (((((numV x.f0 ++ spV) ++ numV x.f1) ++ spV) ++ numV x.f2) ++ spV) ++ x.f3
def intP (n : Int) : Prop := -9223372036854775808 ≤ n ∧ n ≤ 9223372036854775807
def wfE (x : S33) : Prop := intP x.f0 ∧ intP x.f1 ∧ intP x.f2 ∧ intP x.f4 ∧ x.f3.size ≤ 9223372036854775807
theorem headV_size (x : S33) (h : wfE x) (h3 : x.f3.size ≤ 80) : (headV x).size ≤ 200 := by
  have s0 := numV_size x.f0 h.1.1 h.1.2
  have s1 := numV_size x.f1 h.2.1.1 h.2.1.2
  have s2 := numV_size x.f2 h.2.2.1.1 h.2.2.1.2
  have hs : spV.size = 1 := rfl
  unfold headV
  simp only [ByteArray.size_append]
  omega
theorem headOf_ev (x : S33) (h : wfE x) (h3 : x.f3.size ≤ 80) : impl_headOf.f x.f0 x.f1 x.f2 x.f3 x.f4 = some (headV x) := by
  have s0 := numV_size x.f0 h.1.1 h.1.2
  have s1 := numV_size x.f1 h.2.1.1 h.2.1.2
  have s2 := numV_size x.f2 h.2.2.1.1 h.2.2.1.2
  have hs : spV.size = 1 := rfl
  unfold impl_headOf.f headV
  rw [itoa_ev _ h.1.1 h.1.2, itoa_ev _ h.2.1.1 h.2.1.2, itoa_ev _ h.2.2.1.1 h.2.2.1.2, show (⟨#[32]⟩ : ByteArray) = spV from rfl]
  simp only [Option.bind_some, ByteArray.size_append]
  rw [if_pos (by omega), if_pos (by omega), if_pos (by omega), if_pos (by omega), if_pos (by omega), if_pos (by omega)]
theorem specHead_ev (x : S33) (h : wfE x) (h3 : x.f3.size ≤ 80) : Ev (fun k => spec_l10Head.f k x.f0 x.f1 x.f2 x.f3 x.f4) (headV x) := by
  have s0 := numV_size x.f0 h.1.1 h.1.2
  have s1 := numV_size x.f1 h.2.1.1 h.2.1.2
  have s2 := numV_size x.f2 h.2.2.1.1 h.2.2.1.2
  have hs : spV.size = 1 := rfl
  unfold spec_l10Head.f headV
  rw [show (⟨#[32]⟩ : ByteArray) = spV from rfl]
  simp only [ByteArray.size_append]
  exact Ev.bind (digits_ev _ h.1.1 h.1.2) (Ev.pos (by omega) (Ev.bind (digits_ev _ h.2.1.1 h.2.1.2) (Ev.pos (by omega) (Ev.pos (by omega) (Ev.bind (digits_ev _ h.2.2.1.1 h.2.2.1.2) (Ev.pos (by omega) (Ev.pos (by omega) (Ev.pos (by omega) (Ev.some' rfl)))))))))
def stepV (s c : Int) : Int := Int.tmod (wrap64 ((wrap64 ((wrap64 (257 * s)) + (wrap64 c))) + 1)) 998244353
def sumV : Nat → Int → ByteArray → Nat → Int
  | 0, s, _, _ => s
  | d + 1, s, b, i => sumV d (stepV s (bt b i)) b (i + 1)
theorem chained_l0 (b : ByteArray) (hb : b.size < 1000000) : ∀ (d : Nat) (s : Int) (i : Nat), i + d = b.size → Ev (fun k => impl_chained.l0 k s b (b.size : Int) (i : Int)) (sumV d s b i) := by
  intro d
  induction d with
  | zero => intro s i h; exact Ev.step (fun k => rfl) (Ev.neg (by omega) (Ev.some' rfl))
  | succ d ih =>
    intro s i h
    refine Ev.step (fun k => rfl) (Ev.pos (by omega) (Ev.pos (by omega) (Ev.pos (by omega) ?_)))
    rw [w64n (by omega)]
    exact ih (stepV s (bt b i)) (i + 1) (by omega)
theorem chained_ev (s : Int) (b : ByteArray) (hb : b.size < 1000000) : Ev (fun k => impl_chained.f k s b) (sumV b.size s b 0) := chained_l0 b hb b.size s 0 (by omega)
theorem specSum_l0 (b : ByteArray) (hb : b.size < 1000000) : ∀ (d : Nat) (s : Int) (i : Nat), i + d = b.size → Ev (fun k => spec_l10Sum.l0 k s b (i : Int)) (sumV d s b i) := by
  intro d
  induction d with
  | zero => intro s i h; exact Ev.step (fun k => rfl) (Ev.neg (by omega) (Ev.some' rfl))
  | succ d ih =>
    intro s i h
    refine Ev.step (fun k => rfl) (Ev.pos (by omega) (Ev.pos (by omega) ?_))
    rw [w64n (by omega), Int.mul_comm s 257]
    exact ih (stepV s (bt b i)) (i + 1) (by omega)
def nextV (s : Int) (x : S33) : Int := sumV (headV x).size s (headV x) 0
theorem specSum_ev (s : Int) (x : S33) (h : wfE x) (h3 : x.f3.size ≤ 80) : Ev (fun k => spec_l10Sum.f k s x.f0 x.f1 x.f2 x.f3 x.f4) (nextV s x) := by
  have := headV_size x h h3
  unfold spec_l10Sum.f
  exact Ev.bind (specHead_ev x h h3) (specSum_l0 (headV x) (by omega) (headV x).size s 0 (by omega))
/-! ### right entries -/
def bytesB (s : ByteArray) : Nat → Nat → Bool
  | 0, _ => true
  | d + 1, i => decide (32 ≤ bt s i ∧ bt s i ≤ 126) && bytesB s d (i + 1)
def rightV (x : S33) : Bool := decide (1 ≤ x.f1 ∧ x.f1 ≤ 9) && (decide (-1000000000 ≤ x.f2 ∧ x.f2 ≤ 1000000000) && (decide (x.f3.size ≤ 80) && bytesB x.f3 x.f3.size 0))
theorem right_size {x : S33} (h : rightV x = true) : x.f3.size ≤ 80 := by
  unfold rightV at h
  simp only [Bool.and_eq_true, decide_eq_true_eq] at h
  exact h.2.2.1
theorem isMoney_ev (n : Int) : impl_isMoney.f n = some (decide (-1000000000 ≤ n ∧ n ≤ 1000000000)) := by
  unfold impl_isMoney.f
  rw [within_ev]
  rfl
theorem money_ev (n : Int) : spec_l01Money.f n = some (decide (-1000000000 ≤ n ∧ n ≤ 1000000000)) := by
  unfold spec_l01Money.f
  rw [l01In_ev]
  rfl
theorem isEntry_l0 (s : ByteArray) (hs : s.size ≤ 80) (a b c e : Int) : ∀ (d i : Nat), i + d = s.size → Ev (fun k => impl_isEntry.l0 k (s.size : Int) (i : Int) a b c s e) (bytesB s d i) := by
  intro d
  induction d with
  | zero => intro i h; exact Ev.up1 (by simp only [impl_isEntry.l0]; exact Ev.neg (by omega) (Ev.some' rfl))
  | succ d ih =>
    intro i h
    have hb := bt_range s (i : Int)
    refine Ev.up1 ?_
    simp only [impl_isEntry.l0]
    refine Ev.pos (by omega) (Ev.pos (by omega) (Ev.pos (by omega) ?_))
    rw [w64 (x := bt s i) (by omega) (by omega)]
    refine Ev.ret (within_ev _ _ _) ?_
    rw [bytesB, w64n (by omega)]
    by_cases c1 : 32 ≤ bt s i ∧ bt s i ≤ 126
    · rw [decide_eq_true c1]
      exact Ev.pos rfl (ih (i + 1) (by omega))
    · rw [decide_eq_false c1]
      exact Ev.neg ff (Ev.some' rfl)
theorem isEntry_ev (x : S33) : Ev (fun k => impl_isEntry.f k x.f0 x.f1 x.f2 x.f3 x.f4) (rightV x) := by
  have hbad : Ev (fun k => impl_isEntry.j0 k true x.f0 x.f1 x.f2 x.f3 x.f4) false := Ev.up1 (by simp only [impl_isEntry.j0]; exact Ev.pos trivial (Ev.some' rfl))
  unfold impl_isEntry.f rightV
  refine Ev.ret (within_ev _ _ _) ?_
  by_cases c1 : 1 ≤ x.f1 ∧ x.f1 ≤ 9
  · rw [decide_eq_true c1]
    refine Ev.pos rfl (Ev.ret (isMoney_ev _) ?_)
    by_cases c2 : -1000000000 ≤ x.f2 ∧ x.f2 ≤ 1000000000
    · rw [decide_eq_true c2]
      refine Ev.pos rfl ?_
      by_cases c3 : x.f3.size ≤ 80
      · rw [decide_eq_true c3, decide_eq_false (show ¬ (x.f3.size : Int) > 80 by omega)]
        refine Ev.up1 ?_
        simp only [impl_isEntry.j0]
        exact Ev.neg ff (isEntry_l0 x.f3 c3 _ _ _ _ x.f3.size 0 (by omega))
      · rw [decide_eq_false c3, decide_eq_true (show (x.f3.size : Int) > 80 by omega)]
        exact hbad
    · rw [decide_eq_false c2]
      exact Ev.neg ff hbad
  · rw [decide_eq_false c1]
    exact Ev.neg ff hbad
theorem right_l0 (s : ByteArray) (hs : s.size ≤ 80) (a b c e : Int) : ∀ (d i : Nat), i + d = s.size → Ev (fun k => spec_l10Right.l0 k (i : Int) a b c s e) (bytesB s d i) := by
  intro d
  induction d with
  | zero => intro i h; exact Ev.up1 (by simp only [spec_l10Right.l0]; exact Ev.neg (by omega) (Ev.some' rfl))
  | succ d ih =>
    intro i h
    refine Ev.up1 ?_
    simp only [spec_l10Right.l0]
    refine Ev.pos (by omega) (Ev.pos (by omega) ?_)
    rw [bytesB, w64n (by omega)]
    by_cases c1 : bt s i < 32
    · rw [decide_eq_false (by omega)]
      exact Ev.pos c1 (Ev.some' rfl)
    · refine Ev.neg c1 ?_
      by_cases c2 : bt s i > 126
      · rw [decide_eq_false (by omega)]
        exact Ev.pos c2 (Ev.some' rfl)
      · rw [decide_eq_true (by omega)]
        exact Ev.neg c2 (ih (i + 1) (by omega))
theorem right_ev (x : S33) : Ev (fun k => spec_l10Right.f k x.f0 x.f1 x.f2 x.f3 x.f4) (rightV x) := by
  have hbad : Ev (fun k => spec_l10Right.j0 k true x.f0 x.f1 x.f2 x.f3 x.f4) false := Ev.up1 (by simp only [spec_l10Right.j0]; exact Ev.pos trivial (Ev.some' rfl))
  unfold spec_l10Right.f rightV
  refine Ev.ret (l01In_ev _ _ _) ?_
  by_cases c1 : 1 ≤ x.f1 ∧ x.f1 ≤ 9
  · rw [decide_eq_true c1]
    refine Ev.pos rfl (Ev.ret (money_ev _) ?_)
    by_cases c2 : -1000000000 ≤ x.f2 ∧ x.f2 ≤ 1000000000
    · rw [decide_eq_true c2]
      refine Ev.pos rfl ?_
      by_cases c3 : x.f3.size ≤ 80
      · rw [decide_eq_true c3, decide_eq_false (show ¬ (x.f3.size : Int) > 80 by omega)]
        refine Ev.up1 ?_
        simp only [spec_l10Right.j0]
        exact Ev.neg ff (right_l0 x.f3 c3 _ _ _ _ x.f3.size 0 (by omega))
      · rw [decide_eq_false c3, decide_eq_true (show (x.f3.size : Int) > 80 by omega)]
        exact hbad
    · rw [decide_eq_false c2]
      exact Ev.neg ff hbad
  · rw [decide_eq_false c1]
    exact Ev.neg ff hbad
/-! ### a journal looked through -/
def checkV : List S33 → Nat → Int → Int × Int
  | [], _, _ => (0, 0)
  | x :: a, i, s => if rightV x = true then (if x.f0 = ((i + 1 : Nat) : Int) then (if x.f4 = nextV s x then checkV a (i + 1) (nextV s x) else (15, (i : Int))) else (3, (i : Int))) else (1, (i : Int))
theorem rd_Entry_mid (p : List S33) (x : S33) (r : List S33) : rd_T33 (p ++ x :: r) (p.length : Int) = x := getD_mid p x r z33
theorem rd_Entry_nat (l : List S33) (i : Nat) : rd_T33 l (i : Int) = l.getD i z33 := by
  unfold rd_T33
  rw [Int.toNat_natCast]
theorem check_l0 : ∀ (a p : List S33) (s : Int), (∀ x ∈ a, wfE x) → (p ++ a).length < 1000 → Ev (fun k => impl_checkJournal.l0 k s (p ++ a) ((p ++ a).length : Int) (p.length : Int)) (checkV a p.length s) := by
  intro a
  induction a with
  | nil => intro p s _ _; exact Ev.step (fun k => rfl) (Ev.neg (len_end p) (Ev.some' rfl))
  | cons x a ih =>
    intro p s hw hl
    have hl' := hl
    rw [List.length_append, List.length_cons] at hl'
    have hx := hw x (by simp)
    refine Ev.step (fun k => rfl) (Ev.pos (len_lt p x a) (Ev.pos (by omega) (Ev.pos (len_lt p x a) ?_)))
    rw [rd_Entry_mid, checkV]
    refine Ev.bind (isEntry_ev x) (Ev.ite (fun c1 => ?_) (fun _ => Ev.some' rfl))
    have h3 := right_size c1
    have hz := headV_size x hx h3
    rw [w64n (by omega)]
    refine Ev.ite (fun c2 => ?_) (fun _ => Ev.some' rfl)
    refine Ev.ret (headOf_ev x hx h3) (Ev.bind (chained_ev s (headV x) (by omega)) ?_)
    refine Ev.ite (fun c3 => ?_) (fun _ => Ev.some' rfl)
    have := ih (p ++ [x]) (nextV s x) (fun z hz => hw z (by simp [hz])) (by rw [← snoc]; exact hl)
    rw [← snoc, len_snoc, show (p ++ [x]).length = p.length + 1 by simp] at this
    exact this
/-- What is said of any list. -/
def checkJ (l : List S33) : Int × Int := if (l.length : Int) > 4096 then (2, 0) else if (l.length : Int) > 200 then (9, 0) else checkV l 0 1
theorem implCheck_ev (l : List S33) (hw : ∀ x ∈ l, wfE x) : Ev (fun k => impl_CheckJournal.f k l) (checkJ l) := by
  unfold impl_CheckJournal.f checkJ
  refine Ev.ret (a := decide ((l.length : Int) ≤ 4096)) rfl ?_
  by_cases c1 : (l.length : Int) > 4096
  · rw [if_pos c1, decide_eq_false (by omega)]
    exact Ev.neg ff (Ev.some' rfl)
  · rw [if_neg c1, decide_eq_true (by omega)]
    refine Ev.pos rfl (Ev.bind (a := if (l.length : Int) > 200 then (9, 0) else checkV l 0 1) ?_ (Ev.some' rfl))
    unfold impl_checkJournal.f
    exact Ev.ite (fun _ => Ev.some' rfl) (fun c2 => check_l0 l [] 1 hw (by simp; omega))
def setV (x : S33) (i : Nat) : S33 := ⟨((i + 1 : Nat) : Int), x.f1, x.f2, x.f3, x.f4⟩
/-- The chain from place i on, and the sum behind it. -/
def linkV (x : S33) (i : Nat) (s : Int) : S33 := ⟨((i + 1 : Nat) : Int), x.f1, x.f2, x.f3, nextV s (setV x i)⟩
def chainV : List S33 → Nat → Int → List S33
  | [], _, _ => []
  | x :: a, i, s => linkV x i s :: chainV a (i + 1) (nextV s (setV x i))
theorem chainV_len : ∀ (a : List S33) (i : Nat) (s : Int), (chainV a i s).length = a.length := by
  intro a
  induction a with
  | nil => intro i s; rfl
  | cons x a ih => intro i s; simp [chainV, ih]
theorem wf_set {x : S33} (h : wfE x) {i : Nat} (hi : i < 1000000) : wfE (setV x i) := by
  refine ⟨⟨?_, ?_⟩, h.2.1, h.2.2.1, h.2.2.2.1, h.2.2.2.2⟩ <;> (unfold setV; simp only; omega)
theorem isEntryC_ev (x : S33) : Ev (fun k => impl_Chain_1.f k x.f0 x.f1 x.f2 x.f3 x.f4) (!rightV x) := by
  unfold impl_Chain_1.f
  exact Ev.bind (isEntry_ev x) (Ev.some' rfl)
theorem implChain_l0 : ∀ (a p o : List S33) (s : Int), (∀ x ∈ a, wfE x ∧ rightV x = true) → (p ++ a).length < 1000 → o.length = p.length →
    Ev (fun k => impl_Chain.l0 k o s (p ++ a) ((p ++ a).length : Int) (p.length : Int)) (o ++ chainV a p.length s, 0) := by
  intro a
  induction a with
  | nil => intro p o s _ _ _; exact Ev.step (fun k => rfl) (Ev.neg (len_end p) (Ev.some' (by simp [chainV])))
  | cons x a ih =>
    intro p o s hw hl ho
    have hl' := hl
    rw [List.length_append, List.length_cons] at hl'
    obtain ⟨hx, hr⟩ := hw x (by simp)
    have h3 : (setV x p.length).f3.size ≤ 80 := right_size hr
    have hx2 := wf_set (i := p.length) hx (by omega)
    have hz := headV_size (setV x p.length) hx2 h3
    refine Ev.step (fun k => rfl) (Ev.pos (len_lt p x a) (Ev.pos (by omega) (Ev.pos (len_lt p x a) ?_)))
    rw [rd_Entry_mid, w64n (by omega)]
    refine Ev.ret (headOf_ev (setV x p.length) hx2 h3) (Ev.bind (chained_ev s _ (by omega)) (Ev.pos (by omega) ?_))
    have := ih (p ++ [x]) (o ++ [linkV x p.length s]) (nextV s (setV x p.length)) (fun z hz => hw z (by simp [hz])) (by rw [← snoc]; exact hl) (by simp [ho])
    rw [← snoc, show (p ++ [x]).length = p.length + 1 by simp, List.append_assoc] at this
    exact this
theorem specChain_l0 : ∀ (a p o : List S33) (s : Int), (∀ x ∈ a, wfE x) → (p ++ a).length < 1000 → o.length = p.length →
    Ev (fun k => spec_Chain.l0 k (p ++ a) o s (p.length : Int)) (if a.all rightV = true then (o ++ chainV a p.length s, 0) else ([], 1)) := by
  intro a
  induction a with
  | nil => intro p o s _ _ _; exact Ev.step (fun k => rfl) (Ev.neg (len_end p) (Ev.some' (by simp [chainV])))
  | cons x a ih =>
    intro p o s hw hl ho
    have hl' := hl
    rw [List.length_append, List.length_cons] at hl'
    have hx := hw x (by simp)
    refine Ev.step (fun k => rfl) (Ev.pos (len_lt p x a) (Ev.pos (by omega) ?_))
    rw [rd_Entry_mid, w64n (by omega)]
    refine Ev.bind (right_ev x) ?_
    cases hr : rightV x with
    | false =>
      rw [List.all_cons, hr, Bool.false_and]
      exact Ev.neg ff (Ev.some' rfl)
    | true =>
      have h3 : (setV x p.length).f3.size ≤ 80 := right_size hr
      have hx2 := wf_set (i := p.length) hx (by omega)
      rw [List.all_cons, hr, Bool.true_and]
      refine Ev.pos rfl (Ev.bind (specSum_ev s (setV x p.length) hx2 h3) (Ev.pos (by omega) ?_))
      have := ih (p ++ [x]) (o ++ [linkV x p.length s]) (nextV s (setV x p.length)) (fun z hz => hw z (by simp [hz])) (by rw [← snoc]; exact hl) (by simp [ho])
      rw [← snoc, show (p ++ [x]).length = p.length + 1 by simp, List.append_assoc] at this
      exact this
theorem idxBad_l0 : ∀ (a p : List S33), (p ++ a).length < 1000000 → ∃ r : Int, Ev (fun k => impl_Entry_55.l0 k (p ++ a) ((p ++ a).length : Int) (p.length : Int)) r ∧ decide (r ≥ 0) = !(a.all rightV) := by
  intro a
  induction a with
  | nil => intro p hl; exact ⟨-1, Ev.step (fun k => rfl) (Ev.neg (len_end p) (Ev.some' rfl)), rfl⟩
  | cons x a ih =>
    intro p hl
    have hl' := hl
    rw [List.length_append, List.length_cons] at hl'
    cases hr : rightV x with
    | true =>
      obtain ⟨r, h1, h2⟩ := ih (p ++ [x]) (by rw [← snoc]; exact hl)
      refine ⟨r, Ev.step (fun k => rfl) (Ev.pos (len_lt p x a) (Ev.pos (by omega) (Ev.pos (len_lt p x a) ?_))), ?_⟩
      · rw [rd_Entry_mid]
        refine Ev.bind (isEntryC_ev x) (Ev.neg (by rw [hr]; exact ff) ?_)
        rw [w64 (by omega) (by omega), ← len_snoc p x, snoc p x a]
        exact h1
      · rw [h2, List.all_cons, hr, Bool.true_and]
    | false =>
      refine ⟨(p.length : Int), Ev.step (fun k => rfl) (Ev.pos (len_lt p x a) (Ev.pos (by omega) (Ev.pos (len_lt p x a) ?_))), ?_⟩
      · rw [rd_Entry_mid]
        exact Ev.bind (isEntryC_ev x) (Ev.pos (by rw [hr]; rfl) (Ev.some' rfl))
      · rw [List.all_cons, hr, Bool.false_and]
        simp
/-- What is made of any list. -/
def chainJ (l : List S33) : List S33 × Int := if (l.length : Int) > 4096 then ([], 2) else if (l.length : Int) > 200 then ([], 9) else if l.all rightV = true then (chainV l 0 1, 0) else ([], 1)
theorem chainJ_len (l : List S33) : (chainJ l).1.length ≤ 4096 := by
  unfold chainJ
  split
  · simp
  · split
    · simp
    · split
      · simp only [chainV_len]; omega
      · simp
theorem specChain_ev (l : List S33) (hw : ∀ x ∈ l, wfE x) : Ev (fun k => spec_Chain.f k l) (chainJ l) := by
  unfold spec_Chain.f chainJ
  exact Ev.ite (fun _ => Ev.some' rfl) (fun _ => Ev.ite (fun _ => Ev.some' rfl) (fun c2 => specChain_l0 l [] [] 1 hw (by simp; omega) rfl))
theorem implChain_ev (l : List S33) (hw : ∀ x ∈ l, wfE x) : Ev (fun k => impl_Chain.f k l) (chainJ l) := by
  unfold impl_Chain.f chainJ
  refine Ev.ret (show impl_Entry_27.f l = some (decide ((l.length : Int) ≤ 4096)) from rfl) ?_
  by_cases c1 : (l.length : Int) > 4096
  · rw [if_pos c1, decide_eq_false (by omega)]
    exact Ev.neg ff (Ev.some' rfl)
  rw [if_neg c1, decide_eq_true (by omega)]
  refine Ev.pos rfl (Ev.ite (fun _ => Ev.some' rfl) (fun c2 => ?_))
  obtain ⟨r, h1, h2⟩ := idxBad_l0 l [] (by simp; omega)
  have hc : Ev (fun k => impl_Entry_28.f k l) (decide (r ≥ 0)) := Ev.bind h1 (Ev.some' rfl)
  rw [h2] at hc
  refine Ev.bind hc ?_
  cases hr : l.all rightV with
  | false => exact Ev.pos rfl (Ev.some' rfl)
  | true => exact Ev.neg ff (implChain_l0 l [] [] 1 (fun x hx => ⟨hw x hx, List.all_eq_true.1 hr x hx⟩) (by simp; omega) rfl)
def nlV : ByteArray := ⟨#[10]⟩
def lineV (x : S33) : ByteArray := (((numV x.f4 ++ spV) ++ headV x) ++ nlV)
def textV : List S33 → ByteArray → ByteArray
  | [], t => t
  | x :: a, t => textV a (t ++ lineV x)
theorem lineV_size (x : S33) (h : wfE x) (h3 : x.f3.size ≤ 80) : (lineV x).size ≤ 300 := by
  have s := headV_size x h h3
  have s4 := numV_size x.f4 h.2.2.2.1.1 h.2.2.2.1.2
  have e1 : spV.size = 1 := rfl
  have e2 : nlV.size = 1 := rfl
  unfold lineV
  simp only [ByteArray.size_append]
  omega
theorem implText_l0 : ∀ (a p : List S33) (t : ByteArray), (∀ x ∈ a, wfE x ∧ x.f3.size ≤ 80) → (p ++ a).length < 1000 → t.size ≤ 300 * p.length →
    Ev (fun k => impl_JournalText.l0 k (p ++ a) t (p.length : Int)) (textV a t) := by
  intro a
  induction a with
  | nil => intro p t _ _ _; exact Ev.step (fun k => rfl) (Ev.neg (len_end p) (Ev.some' rfl))
  | cons x a ih =>
    intro p t hw hl ht
    have hl' := hl
    rw [List.length_append, List.length_cons] at hl'
    obtain ⟨hx, h3⟩ := hw x (by simp)
    have s := headV_size x hx h3
    have s4 := numV_size x.f4 hx.2.2.2.1.1 hx.2.2.2.1.2
    have sl := lineV_size x hx h3
    refine Ev.step (fun k => rfl) (Ev.pos (len_lt p x a) ?_)
    rw [rd_Entry_mid, w64 (by omega) (by omega), ← len_snoc p x, snoc p x a]
    refine Ev.ret (itoa_ev _ hx.2.2.2.1.1 hx.2.2.2.1.2) (Ev.ret (headOf_ev x hx h3) (Ev.pos (by omega) (Ev.pos (show t.size + (lineV x).size ≤ 140737488355328 by omega) ?_)))
    exact ih (p ++ [x]) (t ++ lineV x) (fun z hz => hw z (by simp [hz])) (by rw [← snoc]; exact hl) (by rw [ByteArray.size_append, List.length_append, List.length_singleton]; omega)
theorem app_assoc (a b c : ByteArray) : (a ++ b) ++ c = a ++ (b ++ c) := by
  apply ByteArray.ext
  simp
theorem checkV_ok : ∀ (a : List S33) (i : Nat) (s : Int), (checkV a i s).1 = 0 → ∀ x ∈ a, x.f3.size ≤ 80 := by
  intro a
  induction a with
  | nil => intro i s _ x hx; cases hx
  | cons y a ih =>
    intro i s h x hx
    rw [checkV] at h
    by_cases c1 : rightV y = true
    · rw [if_pos c1] at h
      by_cases c2 : y.f0 = ((i + 1 : Nat) : Int)
      · rw [if_pos c2] at h
        by_cases c3 : y.f4 = nextV s y
        · rw [if_pos c3] at h
          rcases List.mem_cons.1 hx with rfl | hx
          · exact right_size c1
          · exact ih _ _ h x hx
        · rw [if_neg c3] at h
          exact absurd h (show ¬ (15 : Int) = 0 by decide)
      · rw [if_neg c2] at h
        exact absurd h (show ¬ (3 : Int) = 0 by decide)
    · rw [if_neg c1] at h
      exact absurd h (show ¬ (1 : Int) = 0 by decide)
theorem checkJ_ok {l : List S33} (h : (checkJ l).1 = 0) : l.length ≤ 200 ∧ ∀ x ∈ l, x.f3.size ≤ 80 := by
  unfold checkJ at h
  split at h
  · exact absurd h (by decide)
  · split at h
    · exact absurd h (by decide)
    · exact ⟨by omega, checkV_ok l 0 1 h⟩
def textJ (l : List S33) : ByteArray × Int := if (checkJ l).1 = 0 then (textV l ⟨#[]⟩, 0) else (⟨#[]⟩, (checkJ l).1)
theorem implText_ev (l : List S33) (hw : ∀ x ∈ l, wfE x) : Ev (fun k => impl_JournalText.f k l) (textJ l) := by
  unfold impl_JournalText.f textJ
  refine Ev.bind (implCheck_ev l hw) (Ev.ite (fun h => ?_) (fun _ => Ev.some' rfl))
  obtain ⟨h1, h2⟩ := checkJ_ok h
  exact Ev.bind (implText_l0 l [] ⟨#[]⟩ (fun x hx => ⟨hw x hx, h2 x hx⟩) (by simp; omega) (Nat.zero_le _)) (Ev.some' rfl)
def countV : List S33 → Int → Int
  | [], c => c
  | x :: a, c => countV a (wrap64 (c - x.f2))
theorem implCount_l0 : ∀ (a p : List S33) (c : Int), (p ++ a).length < 1000000 → Ev (fun k => impl_Counted.l0 k c (p ++ a) ((p ++ a).length : Int) (p.length : Int)) (countV a c, 0) := by
  intro a
  induction a with
  | nil => intro p c _; exact Ev.step (fun k => rfl) (Ev.neg (len_end p) (Ev.some' rfl))
  | cons x a ih =>
    intro p c hl
    have hl' := hl
    rw [List.length_append, List.length_cons] at hl'
    refine Ev.step (fun k => rfl) (Ev.pos (len_lt p x a) (Ev.pos (by omega) (Ev.pos (len_lt p x a) ?_)))
    rw [rd_Entry_mid, w64 (x := (p.length : Int) + 1) (by omega) (by omega), ← len_snoc p x, snoc p x a]
    exact ih (p ++ [x]) _ (by rw [← snoc]; exact hl)
theorem checkJ_len {l : List S33} (h : (checkJ l).1 = 0) : l.length < 1000000 := by
  unfold checkJ at h
  split at h
  · exact absurd h (by decide)
  · omega
def countedJ (l : List S33) (c : Int) : Int × Int := if (checkJ l).1 = 0 then (if -1000000000 ≤ c ∧ c ≤ 1000000000 then (countV l c, 0) else (0, 5)) else (0, (checkJ l).1)
theorem implCounted_ev (l : List S33) (c : Int) (hw : ∀ x ∈ l, wfE x) : Ev (fun k => impl_Counted.f k l c) (countedJ l c) := by
  unfold impl_Counted.f countedJ
  refine Ev.bind (implCheck_ev l hw) (Ev.ite (fun h => Ev.ret (isMoney_ev c) ?_) (fun _ => Ev.some' rfl))
  by_cases h2 : -1000000000 ≤ c ∧ c ≤ 1000000000
  · rw [if_pos h2]
    exact Ev.pos (decide_eq_true h2) (implCount_l0 l [] c (checkJ_len h))
  · rw [if_neg h2]
    exact Ev.neg (by rw [decide_eq_false h2]; exact ff) (Ev.some' rfl)
/-! ### numerals read -/
def isDig (c : UInt8) : Bool := decide (48 ≤ c.toNat ∧ c.toNat ≤ 57)
def valD (a : Nat) (l : List UInt8) : Nat := l.foldl (fun a c => a * 10 + (c.toNat - 48)) a
def natOK (l : List UInt8) : Prop := l ≠ [] ∧ l.length ≤ 18 ∧ l.all isDig = true ∧ (l.head? = some 48 → l.length = 1)
instance (l : List UInt8) : Decidable (natOK l) := by unfold natOK; exact inferInstance
def natR (l : List UInt8) : Option Nat := if natOK l then some (valD 0 l) else none
def minusR : Option Nat → Option Int
  | some u => if u = 0 then none else some (-(u : Int))
  | none => none
def plusR : Option Nat → Option Int
  | some u => some (u : Int)
  | none => none
def numR : List UInt8 → Option Int
  | [] => none
  | c :: r => if c = 45 then minusR (natR r) else plusR (natR (c :: r))
theorem valD_cons (a : Nat) (c : UInt8) (r : List UInt8) : valD a (c :: r) = valD (a * 10 + (c.toNat - 48)) r := List.foldl_cons ..
theorem valD_snoc (c : UInt8) : ∀ (l : List UInt8) (a : Nat), valD a (l ++ [c]) = valD a l * 10 + (c.toNat - 48) := by
  intro l
  induction l with
  | nil => intro a; rfl
  | cons x l ih => intro a; exact ih _
theorem valD_ge : ∀ (l : List UInt8) (a : Nat), a ≤ valD a l := by
  intro l
  induction l with
  | nil => intro a; exact Nat.le_refl _
  | cons x l ih => intro a; have := ih (a * 10 + (x.toNat - 48)); rw [valD_cons]; omega
theorem dig_back {c : UInt8} (h : isDig c = true) : UInt8.ofNat (48 + (c.toNat - 48)) = c := by
  unfold isDig at h
  rw [decide_eq_true_eq] at h
  rw [show 48 + (c.toNat - 48) = c.toNat by omega]
  simp
theorem all_cons' {c : UInt8} {r : List UInt8} (h : (c :: r).all isDig = true) : isDig c = true ∧ r.all isDig = true := by
  rw [List.all_cons, Bool.and_eq_true] at h
  exact h
theorem isDig_iff {c : UInt8} (h : isDig c = true) : 48 ≤ c.toNat ∧ c.toNat ≤ 57 := by
  unfold isDig at h
  rw [decide_eq_true_eq] at h
  exact h
theorem dec_of : ∀ (n : Nat) (l : List UInt8), l.length = n → l ≠ [] → l.all isDig = true → (l.head? = some 48 → l.length = 1) → Lib.decDigits (valD 0 l) = l := by
  intro n
  induction n with
  | zero => intro l hl hne; exact absurd (List.eq_nil_of_length_eq_zero hl) hne
  | succ n ih =>
    intro l hl hne ha hh
    obtain ⟨p, c, rfl⟩ : ∃ p c, l = p ++ [c] := ⟨l.dropLast, l.getLast hne, (List.dropLast_concat_getLast hne).symm⟩
    rw [List.all_append, Bool.and_eq_true] at ha
    obtain ⟨hp, hc⟩ := ha
    have hc : isDig c = true := by simpa using hc
    have hc2 : 48 ≤ c.toNat ∧ c.toNat ≤ 57 := by unfold isDig at hc; simpa using hc
    rw [valD_snoc]
    cases p with
    | nil =>
      show Lib.decDigits (0 * 10 + (c.toNat - 48)) = [c]
      rw [Nat.zero_mul, Nat.zero_add, Lib.decDigits_one (by omega), dig_back hc]
    | cons x p =>
      have hx : x ≠ 48 := fun e => by
        have := hh (by simp [e])
        simp at this
      have hxd : isDig x = true := by simpa using (List.all_eq_true.1 hp) x (by simp)
      have hx2 : 48 ≤ x.toNat ∧ x.toNat ≤ 57 := by unfold isDig at hxd; simpa using hxd
      have hx3 : x.toNat ≠ 48 := fun e => hx (UInt8.toNat_inj.1 (by rw [e]; rfl))
      have hv : 1 ≤ valD 0 (x :: p) := by
        have := valD_ge p (0 * 10 + (x.toNat - 48))
        rw [valD_cons]
        omega
      have hi := ih (x :: p) (by simpa using hl) (by simp) hp (fun e => absurd (by simpa using e) hx)
      generalize valD 0 (x :: p) = v at hv hi ⊢
      rw [Lib.decDigits, dif_neg (by omega), show (v * 10 + (c.toNat - 48)) / 10 = v by omega, show (v * 10 + (c.toNat - 48)) % 10 = c.toNat - 48 by omega, hi, dig_back hc]
theorem ofNat_toNat {d : Nat} (h : d < 10) : (UInt8.ofNat (48 + d)).toNat = 48 + d := by
  rw [UInt8.toNat_ofNat']
  omega
theorem dig_ok {d : Nat} (h : d < 10) : isDig (UInt8.ofNat (48 + d)) = true := by
  unfold isDig
  rw [ofNat_toNat h, decide_eq_true_eq]
  omega
theorem dec_digs (u : Nat) : (Lib.decDigits u).all isDig = true ∧ Lib.decDigits u ≠ [] ∧ valD 0 (Lib.decDigits u) = u ∧ ((Lib.decDigits u).head? = some 48 → u = 0) := by
  induction u using Nat.strongRecOn with
  | _ u ih =>
    by_cases h : u < 10
    · rw [Lib.decDigits_one h]
      refine ⟨by simpa using dig_ok h, by simp, ?_, fun e => ?_⟩
      · show 0 * 10 + ((UInt8.ofNat (48 + u)).toNat - 48) = u
        rw [ofNat_toNat h]
        omega
      · have e2 : UInt8.ofNat (48 + u) = 48 := by simpa using e
        have := ofNat_toNat h
        rw [e2] at this
        have e3 : (48 : UInt8).toNat = 48 := rfl
        omega
    · obtain ⟨h1, h2, h3, h4⟩ := ih (u / 10) (by omega)
      rw [Lib.decDigits, dif_neg h]
      refine ⟨?_, by simp, ?_, fun e => ?_⟩
      · rw [List.all_append, h1]
        simpa using dig_ok (show u % 10 < 10 by omega)
      · rw [valD_snoc, h3, ofNat_toNat (by omega)]
        omega
      · have : (Lib.decDigits (u / 10)).head? = some 48 := by
          cases hd : Lib.decDigits (u / 10) with
          | nil => exact absurd hd h2
          | cons x t => rw [hd] at e; simpa using e
        have := h4 this
        omega
theorem natR_dec (u : Nat) : natR (Lib.decDigits u) = if (Lib.decDigits u).length ≤ 18 then some u else none := by
  obtain ⟨h1, h2, h3, h4⟩ := dec_digs u
  unfold natR
  by_cases c : (Lib.decDigits u).length ≤ 18
  · have e4 : (Lib.decDigits u).head? = some 48 → (Lib.decDigits u).length = 1 := fun e => by
      rw [Lib.decDigits_length, h4 e]
      exact Lib.nDigits_small (by omega)
    rw [if_pos c, if_pos ⟨h2, c, h1, e4⟩, h3]
  · rw [if_neg c, if_neg fun e => c e.2.1]
theorem natR_some {l : List UInt8} {u : Nat} (h : natR l = some u) : l = Lib.decDigits u ∧ l.length ≤ 18 ∧ l.all isDig = true ∧ l ≠ [] ∧ u < 1000000000000000000 ∧ u = valD 0 l := by
  unfold natR at h
  split at h
  · rename_i c
    obtain ⟨c1, c2, c3, c4⟩ := c
    cases h
    have e := dec_of l.length l rfl c1 c3 c4
    refine ⟨e.symm, c2, c3, c1, ?_, rfl⟩
    have h1 := Lib.lt_pow_nDigits (valD 0 l)
    rw [← Lib.decDigits_length, e] at h1
    have h2 : 10 ^ l.length ≤ 10 ^ 18 := Nat.pow_le_pow_right (by omega) c2
    omega
  · cases h
theorem parse_ok : ∀ (l : List UInt8) (a j : Nat), l.all isDig = true → a < 10 ^ j → j + l.length ≤ 18 → Lib.parseUint10 a l = .ok (valD a l) := by
  intro l
  induction l with
  | nil => intro a j _ _ _; rfl
  | cons c l ih =>
    intro a j ha hj hl
    rw [List.all_cons, Bool.and_eq_true] at ha
    have hc2 : 48 ≤ c.toNat ∧ c.toNat ≤ 57 := by have := ha.1; unfold isDig at this; simpa using this
    rw [List.length_cons] at hl
    have hp : 10 ^ j ≤ 10 ^ 17 := Nat.pow_le_pow_right (by omega) (by omega)
    have hp2 : (10 : Nat) ^ 17 = 100000000000000000 := by decide
    rw [Lib.parseUint10, if_pos hc2, if_neg (by omega), if_neg (by omega), valD_cons]
    exact ih _ (j + 1) ha.2 (by rw [Nat.pow_succ]; omega) (by omega)
theorem parseMag_ok {l : List UInt8} {u : Nat} (h : natR l = some u) : Lib.parseMag l = .ok u := by
  obtain ⟨h1, h2, h3, h4, h5, h6⟩ := natR_some h
  unfold Lib.parseMag
  rw [if_neg h4, parse_ok l 0 0 h3 (by decide) (by omega), ← h6]
theorem numR_some {l : List UInt8} {v : Int} (h : numR l = some v) : l = Lib.itoa v ∧ l.length ≤ 19 ∧ Lib.atoiAll l = .ok v ∧ -1000000000000000000 < v ∧ v < 1000000000000000000 ∧ (Lib.decDigits v.natAbs).length ≤ 18 := by
  cases l with
  | nil => cases h
  | cons c r =>
    rw [numR] at h
    split at h
    · rename_i c1
      subst c1
      cases hn : natR r with
      | none => rw [hn] at h; cases h
      | some u =>
        rw [hn, minusR] at h
        split at h
        · cases h
        · rename_i c2
          injection h with h
          subst h
          obtain ⟨h1, h2, h3, h4, h5, h6⟩ := natR_some hn
          have e1 : (-(u : Int)).natAbs = u := by omega
          refine ⟨?_, by rw [List.length_cons]; omega, ?_, by omega, by omega, ?_⟩
          · rw [Lib.itoa, if_pos (by omega), e1, ← h1]
          · rw [Lib.atoiAll_minus, parseMag_ok hn, Lib.signed, if_neg (by omega)]
          · rw [e1, ← h1]
            exact h2
    · rename_i c1
      cases hn : natR (c :: r) with
      | none => rw [hn] at h; cases h
      | some u =>
        rw [hn, plusR] at h
        injection h with h
        subst h
        obtain ⟨h1, h2, h3, h4, h5, h6⟩ := natR_some hn
        have hc2 : 48 ≤ c.toNat ∧ c.toNat ≤ 57 := by
          rw [List.all_cons, Bool.and_eq_true] at h3
          have := h3.1
          unfold isDig at this
          simpa using this
        have e1 : ((u : Int)).natAbs = u := by omega
        refine ⟨?_, by omega, ?_, by omega, by omega, ?_⟩
        · rw [Lib.itoa, if_neg (by omega), Int.toNat_natCast, ← h1]
        · rw [Lib.atoiAll_plain c r (by omega) (by omega), parseMag_ok hn, Lib.signless, if_neg (by omega)]
        · rw [e1, ← h1]
          exact h2
theorem numR_itoa (n : Int) (h : (Lib.decDigits n.natAbs).length ≤ 18) : numR (Lib.itoa n) = some n := by
  by_cases c : n < 0
  · rw [Lib.itoa, if_pos c, numR, if_pos rfl, natR_dec, if_pos h, minusR, if_neg (by omega)]
    congr 1
    omega
  · rw [Lib.itoa, if_neg c]
    have e1 : n.toNat = n.natAbs := by omega
    rw [e1]
    obtain ⟨h1, h2, h3, h4⟩ := dec_digs n.natAbs
    cases hd : Lib.decDigits n.natAbs with
    | nil => exact absurd hd h2
    | cons x t =>
      rw [hd] at h1 h
      have hx : isDig x = true := by
        rw [List.all_cons, Bool.and_eq_true] at h1
        exact h1.1
      have hx2 : 48 ≤ x.toNat ∧ x.toNat ≤ 57 := by unfold isDig at hx; simpa using hx
      have hx3 : x ≠ 45 := fun e => by
        rw [e] at hx2
        have : (45 : UInt8).toNat = 45 := rfl
        omega
      rw [numR, if_neg hx3, ← hd, natR_dec, hd, if_pos h, plusR]
      congr 1
      omega
/-- Where Atoi gives a number that is written so again, and no longer than 18 digits, that number is read. -/
theorem numR_back {l : List UInt8} {v : Int} (h : Lib.itoa v = l) (h2 : (Lib.decDigits v.natAbs).length ≤ 18) : numR l = some v := by
  rw [← h]
  exact numR_itoa v h2
theorem size_len (a : ByteArray) : a.size = a.data.toList.length := Lib.size_eq a
theorem bt_cons (a : ByteArray) (i : Nat) (c : UInt8) (r : List UInt8) (h : a.data.toList.drop i = c :: r) : i < a.size ∧ bt a (i : Int) = (c.toNat : Int) ∧ a.data.toList.drop (i + 1) = r := by
  have hl : i < a.size := by
    rw [size_len]
    rcases Nat.lt_or_ge i a.data.toList.length with q | q
    · exact q
    · rw [List.drop_eq_nil_of_le q] at h; cases h
  refine ⟨hl, ?_, ?_⟩
  · have h2 : a.data.toList[i]? = some c := by
      have : (a.data.toList.drop i)[0]? = some c := by rw [h]; rfl
      simpa using this
    unfold bt
    rw [Int.toNat_natCast, dif_pos hl]
    have h3 : a[i] = c := by
      have : a.data.toList[i]'(by rw [← size_len]; exact hl) = c := by
        rw [List.getElem?_eq_getElem (by rw [← size_len]; exact hl)] at h2
        exact Option.some.inj h2
      rw [← this]
      simp [ByteArray.getElem_eq_getElem_data]
    rw [h3]
  · have := congrArg List.tail h
    simpa using this
theorem ba_ext {a b : ByteArray} (h : a.data.toList = b.data.toList) : a = b := ByteArray.ext (Array.ext' h)
theorem bt_get (a : ByteArray) (i : Nat) (h : i < a.size) : ∃ x, a.data.toList[i]? = some x ∧ bt a (i : Int) = (x.toNat : Int) := by
  cases hd : a.data.toList.drop i with
  | nil =>
    rw [size_len] at h
    have := List.drop_eq_nil_iff.1 hd
    omega
  | cons x r =>
    refine ⟨x, ?_, (bt_cons a i x r hd).2.1⟩
    have : (a.data.toList.drop i)[0]? = some x := by rw [hd]; rfl
    simpa using this
/-! ### bytes of joined texts -/
theorem bt_opt (a : ByteArray) (i : Nat) : bt a (i : Int) = (((a.data.toList[i]?).map UInt8.toNat).getD 0 : Nat) := by
  by_cases h : i < a.size
  · obtain ⟨x, hx, hb⟩ := bt_get a i h
    rw [hb, hx]
    rfl
  · have : a.data.toList[i]? = none := List.getElem?_eq_none (by rw [← size_len]; omega)
    rw [this]
    unfold bt
    rw [Int.toNat_natCast, dif_neg h]
    rfl
theorem app_list (a b : ByteArray) : (a ++ b).data.toList = a.data.toList ++ b.data.toList := by simp
theorem bt_app_l (a b : ByteArray) (i : Nat) (h : i < a.size) : bt (a ++ b) (i : Int) = bt a (i : Int) := by
  rw [bt_opt, bt_opt, app_list, List.getElem?_append_left (by rw [← size_len]; exact h)]
theorem bt_app_r (a b : ByteArray) (i : Nat) (h : a.size ≤ i) : bt (a ++ b) (i : Int) = bt b ((i - a.size : Nat) : Int) := by
  rw [bt_opt, bt_opt, app_list, List.getElem?_append_right (by rw [← size_len]; exact h), ← size_len]
theorem bt_ext (a : ByteArray) (n i : Nat) (h : i < n) : bt (a.extract 0 n) (i : Int) = bt a (i : Int) := by
  rw [bt_opt, bt_opt, Lib.extract_from_zero, List.getElem?_take_of_lt h]
theorem ext_app (a b : ByteArray) : (a ++ b).extract 0 a.size = a := by
  apply ba_ext
  rw [Lib.extract_from_zero, app_list, size_len]
  exact List.take_left
/-! ### a number read: both sides -/
theorem trim_minus (a : ByteArray) (r : List UInt8) (h : a.data.toList = 45 :: r) : ∃ t, strings_TrimPrefix.f a (⟨#[45]⟩ : ByteArray) = some t ∧ t.size = r.length := by
  have hs : a.size = r.length + 1 := by
    rw [size_len, h]
    rfl
  refine ⟨a.extract 1 a.size, ?_, by rw [ByteArray.size_extract]; omega⟩
  have e1 : ((⟨#[45]⟩ : ByteArray).size : Int) = 1 := rfl
  have e2 : ((a.extract 0 ((1 : Int)).toNat).toList == (⟨#[45]⟩ : ByteArray).toList) = true := by
    rw [Lib.toList_data, Lib.toList_data, Lib.extract_from_zero, h]
    rfl
  unfold strings_TrimPrefix.f stringslite_TrimPrefix.f stringslite_HasPrefix.f
  rw [e1, if_pos (by omega), if_pos (by omega), if_pos (by omega), Option.bind_some, e2, if_pos rfl, if_pos (by omega), if_pos (by omega)]
  rfl
theorem trim_other (a : ByteArray) (h : a.data.toList.head? ≠ some 45) : strings_TrimPrefix.f a (⟨#[45]⟩ : ByteArray) = some a := by
  have e1 : ((⟨#[45]⟩ : ByteArray).size : Int) = 1 := rfl
  unfold strings_TrimPrefix.f stringslite_TrimPrefix.f stringslite_HasPrefix.f
  rw [e1]
  by_cases c : (a.size : Int) ≥ 1
  · have e2 : ((a.extract 0 ((1 : Int)).toNat).toList == (⟨#[45]⟩ : ByteArray).toList) = false := by
      rw [Lib.toList_data, Lib.toList_data, Lib.extract_from_zero, Bool.eq_false_iff]
      intro e
      have e := eq_of_beq e
      cases hl : a.data.toList with
      | nil => rw [hl] at e; cases e
      | cons x l =>
        rw [hl] at e h
        have : x = 45 := by
          have := congrArg List.head? e
          simpa using this
        exact h (by simp [this])
    rw [if_pos c, if_pos (by omega), if_pos (by omega), Option.bind_some, e2, if_neg ff]
    rfl
  · rw [if_neg c, Option.bind_some, if_neg ff]
    rfl
def goodN (o : Option Int) (r : Int × Bool) : Prop := match o with
  | some v => r = (v, true)
  | none => r.2 = false
theorem head_dec (u : Nat) : (Lib.decDigits u).head? ≠ some 45 := by
  obtain ⟨h1, h2, _, _⟩ := dec_digs u
  cases hd : Lib.decDigits u with
  | nil => simp
  | cons x t =>
    rw [hd] at h1
    have hx := isDig_iff (all_cons' h1).1
    intro e
    have : x = 45 := by simpa using e
    rw [this] at hx
    have : (45 : UInt8).toNat = 45 := rfl
    omega
/-- The numeral of v without its sign is as long as its digits. -/
theorem trim_itoa (a : ByteArray) (v : Int) (h : a.data.toList = Lib.itoa v) : ∃ t, strings_TrimPrefix.f a (⟨#[45]⟩ : ByteArray) = some t ∧ t.size = (Lib.decDigits v.natAbs).length := by
  by_cases c : v < 0
  · rw [Lib.itoa, if_pos c] at h
    exact trim_minus a _ h
  · rw [Lib.itoa, if_neg c, show v.toNat = v.natAbs by omega] at h
    exact ⟨a, trim_other a (by rw [h]; exact head_dec _), by rw [size_len, h]⟩
theorem readNumber_ev (a : ByteArray) : ∃ r, impl_readNumber.f a = some r ∧ goodN (numR a.data.toList) r := by
  unfold impl_readNumber.f
  by_cases c : (a.size : Int) > 19
  · refine ⟨(0, false), if_pos c, ?_⟩
    cases hn : numR a.data.toList with
    | none => rfl
    | some v =>
      have := (numR_some hn).2.1
      rw [← size_len] at this
      omega
  rw [if_neg c]
  rcases hq : Lib.atoiAll a.data.toList with v | _ | _
  rotate_left 1
  · refine ⟨(0, false), rfl, ?_⟩
    cases hn : numR a.data.toList with
    | none => rfl
    | some v => rw [(numR_some hn).2.2.1] at hq; cases hq
  · refine ⟨(Lib.atoiSat a.data.toList, false), rfl, ?_⟩
    cases hn : numR a.data.toList with
    | none => rfl
    | some v => rw [(numR_some hn).2.2.1] at hq; cases hq
  · obtain ⟨b0, b1⟩ := Lib.atoiAll_bounds hq
    show ∃ r, ((strconv_Itoa_40.f v).bind fun st => if st.toList = a.toList then ((strings_TrimPrefix.f a (⟨#[45]⟩ : ByteArray)).bind fun t => some (v, decide ((t.size : Int) ≤ 18))) else some (v, false)) = some r ∧ _
    rw [itoa_ev v b0 b1, Option.bind_some]
    have en : (numV v).toList = Lib.itoa v := by rw [Lib.toList_data]; simp [numV]
    rw [en, Lib.toList_data]
    by_cases c2 : Lib.itoa v = a.data.toList
    · rw [if_pos c2]
      obtain ⟨t, ht, hts⟩ := trim_itoa a v c2.symm
      rw [ht, Option.bind_some, hts]
      refine ⟨_, rfl, ?_⟩
      by_cases c3 : (Lib.decDigits v.natAbs).length ≤ 18
      · rw [numR_back c2 c3, decide_eq_true (show (((Lib.decDigits v.natAbs).length : Nat) : Int) ≤ 18 by omega)]
        rfl
      · cases hn : numR a.data.toList with
        | none => exact decide_eq_false (by omega)
        | some x =>
          have hx := (numR_some hn)
          have : x = v := by
            have := hx.2.2.1
            rw [hq] at this
            cases this
            rfl
          subst this
          exact absurd hx.2.2.2.2.2 c3
    · rw [if_neg c2]
      refine ⟨_, rfl, ?_⟩
      cases hn : numR a.data.toList with
      | none => rfl
      | some x =>
        have hx := (numR_some hn)
        have : x = v := by
          have := hx.2.2.1
          rw [hq] at this
          cases this
          rfl
        subst this
        exact absurd hx.1.symm c2
/-! #### the reference's -/
def outN (o : Option Int) : Int × Bool := match o with
  | some v => (v, true)
  | none => (0, false)
theorem areTexts_ev (a : ByteArray) : Ev (fun k => impl_areTexts.f k [a]) (decide ((a.size : Int) ≤ 65536)) := by
  unfold impl_areTexts.f slices_ContainsFunc_string_string.f slices_IndexFunc_string_string.f
  by_cases c : (a.size : Int) > 65536
  · rw [decide_eq_false (show ¬ (a.size : Int) ≤ 65536 by omega)]
    refine Ev.bind (a := true) (Ev.bind (a := (0 : Int)) ?_ (Ev.some' rfl)) (Ev.some' rfl)
    refine Ev.step (fun k => rfl) (Ev.pos (by simp) (Ev.pos (by omega) (Ev.pos (by simp) (Ev.ret rfl (Ev.pos ?_ (Ev.some' rfl))))))
    exact decide_eq_true c
  · rw [decide_eq_true (show (a.size : Int) ≤ 65536 by omega)]
    refine Ev.bind (a := false) (Ev.bind (a := (-1 : Int)) ?_ (Ev.some' rfl)) (Ev.some' rfl)
    refine Ev.step (fun k => rfl) (Ev.pos (by simp) (Ev.pos (by omega) (Ev.pos (by simp) (Ev.ret rfl (Ev.neg ?_ ?_)))))
    · show ¬ decide ((a.size : Int) > 65536) = true
      rw [decide_eq_false c]
      exact ff
    · rw [w64 (by omega) (by omega)]
      exact Ev.step (fun k => rfl) (Ev.neg (by simp) (Ev.some' rfl))
/-! ### cut at a byte -/
theorem indexB_one (s : ByteArray) (c : UInt8) : Lib.indexB s ⟨#[c]⟩ = Lib.indexByte s.data.toList c := Lib.index_one _ _
theorem indexB_at (s : ByteArray) (c : UInt8) (i : Nat) (h : s.data.toList[i]? = some c) (hn : ∀ j, j < i → s.data.toList[j]? ≠ some c) : Lib.indexB s ⟨#[c]⟩ = i := by
  rw [indexB_one]
  have hge := Lib.indexByte_ge s.data.toList c
  by_cases hm : Lib.indexByte s.data.toList c = -1
  · exact absurd h (Lib.indexByte_none hm i)
  · obtain ⟨o, ho⟩ : ∃ o : Nat, Lib.indexByte s.data.toList c = o := ⟨(Lib.indexByte s.data.toList c).toNat, by omega⟩
    obtain ⟨h1, h2⟩ := Lib.indexByte_some ho
    rw [ho]
    rcases Nat.lt_trichotomy o i with q | q | q
    · exact absurd h1 (hn o q)
    · rw [q]
    · exact absurd h (h2 i q)
theorem indexB_no (s : ByteArray) (c : UInt8) (hn : ∀ j, j < s.size → s.data.toList[j]? ≠ some c) : Lib.indexB s ⟨#[c]⟩ = -1 := by
  rw [indexB_one]
  have hge := Lib.indexByte_ge s.data.toList c
  by_cases hm : Lib.indexByte s.data.toList c = -1
  · exact hm
  · obtain ⟨o, ho⟩ : ∃ o : Nat, Lib.indexByte s.data.toList c = o := ⟨(Lib.indexByte s.data.toList c).toNat, by omega⟩
    obtain ⟨h1, h2⟩ := Lib.indexByte_some ho
    have : o < s.size := by
      rw [size_len]
      rcases Nat.lt_or_ge o s.data.toList.length with q | q
      · exact q
      · rw [List.getElem?_eq_none q] at h1; cases h1
    exact absurd h1 (hn o this)
def cutV (c : UInt8) (t : ByteArray) : List ByteArray := Lib.splitB ⟨#[c]⟩ 0 (Lib.countB t ⟨#[c]⟩) t
theorem cutV_len (c : UInt8) (t : ByteArray) : 1 ≤ (cutV c t).length ∧ (cutV c t).length ≤ t.size + 1 := by
  have h := Lib.splitB_all ⟨#[c]⟩ (Nat.le_refl 1) 0 (Lib.countB t ⟨#[c]⟩) t rfl
  have h2 := Lib.countB_le ⟨#[c]⟩ (Nat.le_refl 1) t.size t (Nat.le_refl _)
  unfold cutV
  omega
theorem splitB_size (sep : ByteArray) : ∀ (k : Nat) (s : ByteArray), ∀ p ∈ Lib.splitB sep 0 k s, p.size ≤ s.size := by
  intro k
  induction k with
  | zero =>
    intro s p hp
    rw [Lib.splitB_zero] at hp
    have : p = s := by simpa using hp
    rw [this]
    exact Nat.le_refl _
  | succ k ih =>
    intro s p hp
    rcases Lib.indexB_cases s sep with h | ⟨i, h, _⟩
    · rw [Lib.splitB_miss sep 0 _ s h] at hp
      have : p = s := by simpa using hp
      rw [this]
      exact Nat.le_refl _
    · rw [Lib.splitB_hit sep 0 k s i h] at hp
      rcases List.mem_cons.1 hp with rfl | hp
      · rw [ByteArray.size_extract]; omega
      · have := ih _ p hp
        rw [ByteArray.size_extract] at this
        omega
theorem get_extract (s : ByteArray) (f j : Nat) : (s.extract f s.size).data.toList[j]? = s.data.toList[f + j]? := by
  rw [Lib.extract_to_end, List.getElem?_drop]
theorem ext_all (s : ByteArray) : s.extract 0 s.size = s := by
  apply ba_ext
  rw [Lib.extract_to_end, List.drop_zero]
/-- The lines: an empty one at the end is none. -/
def linesV (a : ByteArray) : List ByteArray := if (rdOf ByteArray.empty (cutV 10 a) (((cutV 10 a).length : Int) - 1)).toList = ([] : List UInt8) then (cutV 10 a).take ((((cutV 10 a).length : Int) - 1) : Int).toNat else cutV 10 a
theorem linesV_len (a : ByteArray) : (linesV a).length ≤ a.size + 1 := by
  have := (cutV_len 10 a).2
  unfold linesV
  split
  · rw [List.length_take]; omega
  · exact this
theorem linesV_size (a : ByteArray) : ∀ p ∈ linesV a, p.size ≤ a.size := by
  intro p hp
  have : p ∈ cutV 10 a := by
    unfold linesV at hp
    split at hp
    · exact List.mem_of_mem_take hp
    · exact hp
  exact splitB_size _ _ _ p this
theorem implLines_ev (a : ByteArray) (ha : a.size ≤ 1048576) : impl_linesOf.f a = some (linesV a) := by
  have hl := cutV_len 10 a
  unfold impl_linesOf.f linesV
  rw [show strings_Split.f a (⟨#[10]⟩ : ByteArray) = some (cutV 10 a) from if_pos ⟨by omega, Nat.le_refl 1⟩, Option.bind_some, w64 (by omega) (by omega)]
  generalize cutV 10 a = v at hl ⊢
  rw [if_pos (by omega), if_pos (by omega)]
  split
  · rw [if_pos (by omega)]
  · rfl
/-! ### an entry read -/
def readV : Nat → ByteArray → Option (List Int × ByteArray)
  | 0, s => some ([], s)
  | d + 1, s => if Lib.indexB s spV = -1 then none else (numR (s.extract 0 (Lib.indexB s spV).toNat).data.toList).bind fun v => (readV d (s.extract ((Lib.indexB s spV).toNat + 1) s.size)).bind fun y => some (v :: y.1, y.2)
theorem readV_miss {d : Nat} {s : ByteArray} (h : Lib.indexB s spV = -1) : readV (d + 1) s = none := by rw [readV, if_pos h]
theorem readV_hit {d : Nat} {s : ByteArray} {i : Nat} (h : Lib.indexB s spV = i) : readV (d + 1) s = (numR (s.extract 0 i).data.toList).bind fun v => (readV d (s.extract (i + 1) s.size)).bind fun y => some (v :: y.1, y.2) := by
  rw [readV, if_neg (by omega), h, Int.toNat_natCast]
theorem readV_some : ∀ (d : Nat) (s : ByteArray) (vs : List Int) (r : ByteArray), readV d s = some (vs, r) → d ≤ s.size ∧ vs.length = d ∧ (∀ v ∈ vs, intP v) ∧ r.size ≤ s.size := by
  intro d
  induction d with
  | zero =>
    intro s vs r h
    cases h
    exact ⟨Nat.zero_le _, rfl, by simp, Nat.le_refl _⟩
  | succ d ih =>
    intro s vs r h
    rcases Lib.indexB_cases s spV with hm | ⟨i, hi, hr⟩
    · rw [readV_miss hm] at h; cases h
    · rw [readV_hit hi] at h
      have e1 : spV.size = 1 := rfl
      cases hn : numR (s.extract 0 i).data.toList with
      | none => rw [hn] at h; cases h
      | some v =>
        rw [hn, Option.bind_some] at h
        cases hq : readV d (s.extract (i + 1) s.size) with
        | none => rw [hq] at h; cases h
        | some y =>
          rw [hq, Option.bind_some] at h
          cases h
          obtain ⟨h1, h2, h3, h4⟩ := ih _ y.1 y.2 hq
          rw [ByteArray.size_extract] at h1 h4
          have hb := numR_some hn
          refine ⟨by omega, by simp [h2], ?_, by omega⟩
          intro z hz
          rcases List.mem_cons.1 hz with rfl | hz
          · exact ⟨by omega, by omega⟩
          · exact h3 z hz
def failV : Int × Int × Int × ByteArray × Int × Bool := (0, 0, 0, (⟨#[]⟩ : ByteArray), 0, false)
def doneV (vs : List Int) (r : ByteArray) : Int × Int × Int × ByteArray × Int × Bool := (rd vs 1, rd vs 2, rd vs 3, r, rd vs 0, true)
def outV (acc : List Int) (o : Option (List Int × ByteArray)) : Int × Int × Int × ByteArray × Int × Bool := match o with
  | some y => doneV (acc ++ y.1) y.2
  | none => failV
theorem snoc_of {l : List ByteArray} {d : Nat} (h : l.length = d + 1) : ∃ ps r, l = ps ++ [r] ∧ ps.length = d := by
  have hne : l ≠ [] := fun e => by rw [e] at h; cases h
  exact ⟨l.dropLast, l.getLast hne, (List.dropLast_concat_getLast hne).symm, by rw [List.length_dropLast]; omega⟩
theorem split_read : ∀ (d : Nat) (s : ByteArray),
    (∃ ps vs r, readV d s = some (vs, r) ∧ Lib.splitB spV 0 d s = ps ++ [r] ∧ ps.length = d ∧ ps.map (fun p => numR p.data.toList) = vs.map some) ∨
    (readV d s = none ∧ ((Lib.splitB spV 0 d s).length ≠ d + 1 ∨ ∃ ps r, Lib.splitB spV 0 d s = ps ++ [r] ∧ ps.length = d ∧ ∃ p ∈ ps, numR p.data.toList = none)) := by
  intro d
  induction d with
  | zero => intro s; exact Or.inl ⟨[], [], s, rfl, rfl, rfl, rfl⟩
  | succ d ih =>
    intro s
    rcases Lib.indexB_cases s spV with hm | ⟨i, hi, hr⟩
    · refine Or.inr ⟨readV_miss hm, Or.inl ?_⟩
      rw [Lib.splitB_miss _ _ _ _ hm]
      simp
    · have e1 : spV.size = 1 := rfl
      rw [Lib.splitB_hit _ _ _ _ i hi, readV_hit hi, e1, Nat.add_zero]
      cases hn : numR (s.extract 0 i).data.toList with
      | none =>
        refine Or.inr ⟨rfl, ?_⟩
        by_cases hl : (Lib.splitB spV 0 d (s.extract (i + 1) s.size)).length = d + 1
        · obtain ⟨ps, r, h1, h2⟩ := snoc_of hl
          exact Or.inr ⟨s.extract 0 i :: ps, r, by rw [h1]; rfl, by simp [h2], s.extract 0 i, by simp, hn⟩
        · exact Or.inl (by rw [List.length_cons]; omega)
      | some v =>
        rw [Option.bind_some]
        rcases ih (s.extract (i + 1) s.size) with ⟨ps, vs, r, h1, h2, h3, h4⟩ | ⟨h1, h2⟩
        · refine Or.inl ⟨s.extract 0 i :: ps, v :: vs, r, by rw [h1]; rfl, by rw [h2]; rfl, by simp [h3], ?_⟩
          rw [List.map_cons, List.map_cons, h4, hn]
        · refine Or.inr ⟨by rw [h1]; rfl, ?_⟩
          rcases h2 with h2 | ⟨ps, r, h2, h3, p, hp, h4⟩
          · exact Or.inl (by rw [List.length_cons]; omega)
          · exact Or.inr ⟨s.extract 0 i :: ps, r, by rw [h2]; rfl, by simp [h3], p, by simp [hp], h4⟩
theorem entry_l0 (x4 : List ByteArray) (h4 : x4.length = 5) : ∀ (a p : List ByteArray) (acc : List Int), (p ++ a).length = 4 → acc.length = p.length →
    (∀ vs : List Int, a.map (fun p => numR p.data.toList) = vs.map some → Ev (fun k => impl_entryOf.l0 k x4 acc (p ++ a) ((p ++ a).length : Int) (p.length : Int)) (doneV (acc ++ vs) (rdOf ByteArray.empty x4 4))) ∧
    ((∃ q ∈ a, numR q.data.toList = none) → Ev (fun k => impl_entryOf.l0 k x4 acc (p ++ a) ((p ++ a).length : Int) (p.length : Int)) failV) := by
  intro a
  induction a with
  | nil =>
    intro p acc hl ha
    refine ⟨fun vs hv => ?_, fun ⟨q, hq, _⟩ => by cases hq⟩
    obtain rfl : vs = [] := by
      cases vs with
      | nil => rfl
      | cons _ _ => cases hv
    rw [List.append_nil] at hl ⊢
    refine Ev.step (fun k => rfl) (Ev.neg (by omega) (Ev.pos (by omega) (Ev.pos (by omega) (Ev.pos (by omega) (Ev.pos (by omega) (Ev.pos (by omega) (Ev.some' ?_)))))))
    rw [doneV, List.append_nil]
  | cons x a ih =>
    intro p acc hl ha
    have hl' := hl
    rw [List.length_append, List.length_cons] at hl'
    obtain ⟨r, hr, hg⟩ := readNumber_ev x
    have head : ∀ v, numR x.data.toList = some v → ∀ w, Ev (fun k => impl_entryOf.l0 k x4 (acc ++ [v]) ((p ++ [x]) ++ a) (((p ++ [x]) ++ a).length : Int) ((p ++ [x]).length : Int)) w → Ev (fun k => impl_entryOf.l0 k x4 acc (p ++ x :: a) ((p ++ x :: a).length : Int) (p.length : Int)) w := by
      intro v hv w hw
      rw [hv] at hg
      have hg : r = (v, true) := hg
      subst hg
      refine Ev.step (fun k => rfl) (Ev.pos (len_lt p x a) (Ev.pos (by omega) (Ev.pos (len_lt p x a) ?_)))
      rw [rdOf_mid]
      refine Ev.ret hr (Ev.pos rfl (Ev.pos (by omega) ?_))
      rw [w64 (by omega) (by omega), ← len_snoc p x, snoc p x a]
      exact hw
    have hih := fun v => ih (p ++ [x]) (acc ++ [v]) (by rw [← snoc]; exact hl) (by simp [ha])
    refine ⟨fun vs hv => ?_, fun ⟨q, hq, hqn⟩ => ?_⟩
    · cases vs with
      | nil => cases hv
      | cons v vs =>
        rw [List.map_cons, List.map_cons] at hv
        injection hv with hv1 hv2
        refine head v hv1 _ ?_
        have := (hih v).1 vs hv2
        rw [List.append_assoc acc [v] vs] at this
        exact this
    · cases hx : numR x.data.toList with
      | some v =>
        rcases List.mem_cons.1 hq with rfl | hq
        · rw [hx] at hqn; cases hqn
        · exact head v hx _ ((hih v).2 ⟨q, hq, hqn⟩)
      | none =>
        rw [hx] at hg
        refine Ev.step (fun k => rfl) (Ev.pos (len_lt p x a) (Ev.pos (by omega) (Ev.pos (len_lt p x a) ?_)))
        rw [rdOf_mid]
        refine Ev.ret hr (Ev.neg ?_ (Ev.some' rfl))
        rw [show r.2 = false from hg]
        exact ff
theorem implEntry_ev (s : ByteArray) (hs : s.size ≤ 1048576) : Ev (fun k => impl_entryOf.f k s) (outV [] (readV 4 s)) := by
  unfold impl_entryOf.f
  have hsp : strings_SplitN.f s (⟨#[32]⟩ : ByteArray) 5 = some (Lib.splitB spV 0 (min 5 (s.size + 1) - 1) s) := if_pos ⟨by omega, Nat.le_refl 1, by omega, by omega⟩
  refine Ev.ret hsp ?_
  by_cases c4 : s.size < 4
  · have hl := Lib.splitB_length_le spV 0 (min 5 (s.size + 1) - 1) s
    have hn : readV 4 s = none := by
      cases h : readV 4 s with
      | none => rfl
      | some y => have := (readV_some 4 s y.1 y.2 h).1; omega
    rw [hn]
    exact Ev.neg (by omega) (Ev.some' rfl)
  rw [show min 5 (s.size + 1) - 1 = 4 by omega]
  rcases split_read 4 s with ⟨ps, vs, r, h1, h2, h3, h4⟩ | ⟨h1, h2⟩
  · rw [h1, h2]
    have hlen : (ps ++ [r]).length = 5 := by simp [h3]
    refine Ev.pos (by omega) (Ev.pos (by omega) (Ev.ret rfl ?_))
    have ht : (ps ++ [r]).take 4 = ps := by rw [← h3]; simp
    rw [ht]
    refine Ev.eq ((entry_l0 (ps ++ [r]) hlen ps [] [] (by simpa using h3) rfl).1 vs h4) ?_
    have hr : rdOf ByteArray.empty (ps ++ [r]) 4 = r := by
      have := rdOf_mid ByteArray.empty ps r []
      rw [h3] at this
      exact this
    rw [hr]
    rfl
  · rw [h1]
    rcases h2 with h2 | ⟨ps, r, h2, h3, h5⟩
    · exact Ev.neg (by omega) (Ev.some' rfl)
    · rw [h2]
      have hlen : (ps ++ [r]).length = 5 := by simp [h3]
      refine Ev.pos (by omega) (Ev.pos (by omega) (Ev.ret rfl ?_))
      have ht : (ps ++ [r]).take 4 = ps := by rw [← h3]; simp
      rw [ht]
      exact (entry_l0 (ps ++ [r]) hlen ps [] [] (by simpa using h3) rfl).2 h5
/-! ### all lines -/
def entV (y : List Int × ByteArray) : S33 := ⟨rd y.1 1, rd y.1 2, rd y.1 3, y.2, rd y.1 0⟩
theorem entV_wf {s : ByteArray} {y : List Int × ByteArray} (h : readV 4 s = some y) (hs : s.size ≤ 1048576) : wfE (entV y) := by
  obtain ⟨_, h2, h3, h4⟩ := readV_some 4 s y.1 y.2 h
  have g : ∀ i : Nat, i < 4 → intP (rd y.1 (i : Int)) := by
    intro i hi
    rw [rd_nat, List.getD_eq_getElem?_getD, List.getElem?_eq_getElem (by omega)]
    exact h3 _ (List.getElem_mem _)
  exact ⟨g 1 (by omega), g 2 (by omega), g 3 (by omega), g 0 (by omega), by show y.2.size ≤ _; omega⟩
def endV (acc : List S33) : List S33 × Int × Int := if (checkV acc 0 1).1 = 0 then (acc, 0, 0) else ([], (checkV acc 0 1).1, wrap64 ((checkV acc 0 1).2 + 1))
def allV : List ByteArray → Nat → List S33 → List S33 × Int × Int
  | [], _, acc => endV acc
  | x :: a, i, acc => match readV 4 x with
    | some y => allV a (i + 1) (acc ++ [entV y])
    | none => ([], 4, ((i + 1 : Nat) : Int))
theorem allV_len : ∀ (a : List ByteArray) (i : Nat) (acc : List S33), (allV a i acc).1.length ≤ acc.length + a.length := by
  intro a
  induction a with
  | nil =>
    intro i acc
    show (endV acc).1.length ≤ _
    unfold endV
    split <;> simp
  | cons x a ih =>
    intro i acc
    rw [allV]
    cases readV 4 x with
    | none => simp
    | some y =>
      have := ih (i + 1) (acc ++ [entV y])
      simp only [List.length_append, List.length_cons, List.length_nil] at this ⊢
      omega
theorem implRead_l0 : ∀ (a p : List ByteArray) (acc : List S33), (p ++ a).length ≤ 200 → acc.length = p.length → (∀ x ∈ a, x.size ≤ 1048576) → (∀ x ∈ acc, wfE x) →
    Ev (fun k => impl_ReadJournal.l0 k acc (p ++ a) ((p ++ a).length : Int) (p.length : Int)) (allV a p.length acc) := by
  intro a
  induction a with
  | nil =>
    intro p acc hl ha _ hw
    rw [List.append_nil] at hl
    have hc : Ev (fun k => impl_checkJournal.f k acc) (checkV acc 0 1) := by
      unfold impl_checkJournal.f
      exact Ev.neg (by omega) (check_l0 acc [] 1 hw (by simp; omega))
    refine Ev.step (fun k => rfl) (Ev.neg (len_end p) (Ev.bind hc ?_))
    show Ev _ (endV acc)
    unfold endV
    exact Ev.ite (fun _ => Ev.some' rfl) (fun _ => Ev.some' rfl)
  | cons x a ih =>
    intro p acc hl ha hs hw
    have hl' := hl
    rw [List.length_append, List.length_cons] at hl'
    refine Ev.step (fun k => rfl) (Ev.pos (len_lt p x a) (Ev.pos (by omega) (Ev.pos (len_lt p x a) ?_)))
    rw [rdOf_mid]
    refine Ev.bind (implEntry_ev x (hs x (by simp))) ?_
    rw [allV]
    cases hr : readV 4 x with
    | none =>
      refine Ev.neg ff (Ev.some' ?_)
      rw [w64n (by omega)]
    | some y =>
      refine Ev.pos rfl (Ev.pos (by omega) ?_)
      have := ih (p ++ [x]) (acc ++ [entV y]) (by rw [← snoc]; exact hl) (by simp [ha]) (fun z hz => hs z (by simp [hz])) (fun z hz => by
        rcases List.mem_append.1 hz with hz | hz
        · exact hw z hz
        · obtain rfl : z = entV y := by simpa using hz
          exact entV_wf hr (hs x (by simp)))
      rw [← snoc, len_snoc, show (p ++ [x]).length = p.length + 1 by simp] at this
      rw [w64 (by omega) (by omega)]
      exact this
/-- What is read from any text. -/
def readJ (a : ByteArray) : List S33 × Int × Int := if (a.size : Int) > 65536 then ([], 2, 0) else if ((linesV a).length : Int) > 200 then ([], 9, 0) else allV (linesV a) 0 []
theorem readJ_len (a : ByteArray) : (readJ a).1.length ≤ 200 := by
  unfold readJ
  split
  · simp
  · split
    · simp
    · have := allV_len (linesV a) 0 []
      rw [List.length_nil] at this
      omega
theorem implReadJ_ev (a : ByteArray) (ha : a.size ≤ 1048576) : Ev (fun k => impl_ReadJournal.f k a) (readJ a) := by
  unfold impl_ReadJournal.f readJ
  refine Ev.bind (areTexts_ev a) ?_
  by_cases c : (a.size : Int) > 65536
  · rw [if_pos c, decide_eq_false (by omega)]
    exact Ev.neg ff (Ev.some' rfl)
  rw [if_neg c, decide_eq_true (by omega)]
  refine Ev.pos rfl (Ev.ret (implLines_ev a ha) (Ev.ite (fun _ => Ev.some' rfl) (fun c2 => ?_)))
  exact implRead_l0 (linesV a) [] [] (by simp; omega) rfl (fun x hx => by have := linesV_size a x hx; omega) (by simp)
/-- A source of draws: its code's bytes, its place (at most N), its seed. -/
def Srd (c : List Int) (a s N : Int) : Prop := (∀ x ∈ c, 0 ≤ x ∧ x ≤ 255) ∧ 0 ≤ a ∧ a ≤ N ∧ 0 ≤ s ∧ s ≤ 2147483647
theorem Srd.mono {c : List Int} {a s N M : Int} (h : Srd c a s N) (hM : N ≤ M) : Srd c a s M := ⟨h.1, h.2.1, by have := h.2.2.1; omega, h.2.2.2⟩
theorem rd_byte {c : List Int} (hc : ∀ x ∈ c, 0 ≤ x ∧ x ≤ 255) (i : Int) : 0 ≤ rd c i ∧ rd c i ≤ 255 := by
  unfold rd
  rw [List.getD_eq_getElem?_getD]
  cases h : c[i.toNat]? with
  | none => simp
  | some x => simpa using hc x (List.mem_of_getElem? h)
theorem byte_ok {c : List Int} {a s N : Int} (h : Srd c a s N) (hN : N ≤ 1000000000) : ∃ v s', spec_l00Src_byte.f c a s = some (v, a + 1, s') ∧ 0 ≤ v ∧ v ≤ 255 ∧ Srd c (a + 1) s' (N + 1) := by
  obtain ⟨hc, h0, h1, h2, h3⟩ := h
  unfold spec_l00Src_byte.f
  rw [w64 (x := a + 1) (by omega) (by omega), w64 (x := a + 1 - 1) (by omega) (by omega), show a + 1 - 1 = a by omega]
  have hb := rd_byte hc a
  generalize rd c a = b at hb
  rw [w64 (x := b) (by omega) (by omega), w64 (x := s * 31) (by omega) (by omega), w64 (x := s * 31 + b) (by omega) (by omega), w64 (x := s * 31 + b + 7) (by omega) (by omega), Int.tmod_eq_emod_of_nonneg (show 0 ≤ s * 31 + b + 7 by omega)]
  rw [w64 (x := s * 1103515245) (by omega) (by omega), w64 (x := s * 1103515245 + 12345) (by omega) (by omega), Int.tmod_eq_emod_of_nonneg (show 0 ≤ s * 1103515245 + 12345 by omega)]
  have e := Int.emod_nonneg (s * 1103515245 + 12345) (show (2147483648 : Int) ≠ 0 by decide)
  have e2 := Int.emod_lt_of_pos (s * 1103515245 + 12345) (show (0 : Int) < 2147483648 by decide)
  have f := Int.emod_nonneg (s * 31 + b + 7) (show (2147483648 : Int) ≠ 0 by decide)
  have f2 := Int.emod_lt_of_pos (s * 31 + b + 7) (show (0 : Int) < 2147483648 by decide)
  generalize (s * 1103515245 + 12345) % 2147483648 = t at e e2 ⊢
  generalize (s * 31 + b + 7) % 2147483648 = u at f f2 ⊢
  by_cases c1 : a + 1 ≤ (c.length : Int)
  · rw [if_pos c1, if_pos h0, if_pos (by omega)]
    exact ⟨_, _, rfl, hb.1, hb.2, hc, by omega, by omega, by omega, by omega⟩
  · rw [if_neg c1]
    by_cases c2 : a + 1 > 3000
    · rw [if_pos c2]
      exact ⟨_, _, rfl, by omega, by omega, hc, by omega, by omega, by omega, by omega⟩
    · rw [if_neg c2, Int.tdiv_eq_ediv_of_nonneg (by omega), w64 (by omega) (by omega), Int.tmod_eq_emod_of_nonneg (by omega)]
      exact ⟨_, _, rfl, by omega, by omega, hc, by omega, by omega, by omega, by omega⟩
theorem next_ok {c : List Int} {a s N : Int} (n : Int) (h : Srd c a s N) (hN : N ≤ 900000000) (h1 : 1 ≤ n) (h2 : n ≤ 16777216) : ∃ v a' s', spec_l00Src_next.f c a s n = some (v, a', s') ∧ 0 ≤ v ∧ v < n ∧ Srd c a' s' (N + 3) := by
  unfold spec_l00Src_next.f
  by_cases c1 : n ≤ 1
  · rw [if_pos c1]
    exact ⟨_, _, _, rfl, by omega, by omega, h.mono (by omega)⟩
  · rw [if_neg c1]
    obtain ⟨v, s1, hv, v0, v1, S1⟩ := byte_ok h (by omega)
    simp only [hv, Option.bind_some]
    have g := Int.emod_nonneg v (show n ≠ 0 by omega)
    have g2 := Int.emod_lt_of_pos v (show 0 < n by omega)
    by_cases c2 : n ≤ 256
    · rw [if_pos c2, if_neg (by omega), Int.tmod_eq_emod_of_nonneg (by omega)]
      exact ⟨_, _, _, rfl, g, g2, S1.mono (by omega)⟩
    · rw [if_neg c2]
      obtain ⟨x, s2, hx, x0, x1, S2⟩ := byte_ok S1 (by omega)
      simp only [hx, Option.bind_some]
      obtain ⟨y, s3, hy, y0, y1, S3⟩ := byte_ok S2 (by omega)
      simp only [hy, Option.bind_some]
      rw [if_neg (by omega)]
      rw [w64 (x := v * 65536) (by omega) (by omega), w64 (x := x * 256) (by omega) (by omega), w64 (x := v * 65536 + x * 256) (by omega) (by omega), w64 (by omega) (by omega), Int.tmod_eq_emod_of_nonneg (by omega)]
      exact ⟨_, _, _, rfl, Int.emod_nonneg _ (by omega), Int.emod_lt_of_pos _ (by omega), S3.mono (by omega)⟩
theorem source_ok (l : List Int) (h : ∀ x ∈ l, (Lit.int .u8 x).wf = true) : ∃ s, spec_l00Source.f l = some (l, 0, s) ∧ Srd l 0 s 0 := by
  refine ⟨_, rfl, fun x hx => bounds_u8 (h x hx), by omega, by omega, ?_, ?_⟩ <;> omega
theorem size_ok {c : List Int} (a s m : Int) (hc : c.length ≤ 1048576) (hm : 1 ≤ m) : ∃ v, spec_l00Src_size.f c a s m = some (v, a, s) ∧ 1 ≤ v ∧ v ≤ m := by
  unfold spec_l00Src_size.f
  rw [w64 (x := (c.length : Int) / 12) (by omega) (by omega), w64 (by omega) (by omega)]
  refine ⟨_, rfl, ?_, ?_⟩ <;> (unfold mn; split <;> omega)
theorem at_ok {c : List Int} (hc : ∀ x ∈ c, 0 ≤ x ∧ x ≤ 255) (i n : Int) (h0 : 0 ≤ i) (h1 : i ≤ 1000000) (hn : 1 ≤ n) : ∃ v, laws_at.f c i n = some v ∧ 0 ≤ v ∧ v < n := by
  unfold laws_at.f
  by_cases c1 : n ≤ 1
  · rw [if_pos c1]
    exact ⟨_, rfl, by omega, by omega⟩
  rw [if_neg c1]
  by_cases c2 : (c.length : Int) = 0
  · rw [if_pos c2, if_neg (by omega), w64 (by omega) (by omega), Int.tmod_eq_emod_of_nonneg (by omega)]
    exact ⟨_, rfl, Int.emod_nonneg _ (by omega), Int.emod_lt_of_pos _ (by omega)⟩
  · rw [if_neg c2]
    have e1 := Int.emod_nonneg i c2
    have e2 := Int.emod_lt_of_pos i (show (0 : Int) < (c.length : Int) by omega)
    have f1 := Int.emod_nonneg (i + 1) c2
    have f2 := Int.emod_lt_of_pos (i + 1) (show (0 : Int) < (c.length : Int) by omega)
    have g1 : 0 ≤ i / (c.length : Int) := Int.ediv_nonneg h0 (by omega)
    have g2 : i / (c.length : Int) ≤ i := Int.ediv_le_self _ h0
    rw [w64 (x := i + 1) (by omega) (by omega), Int.tmod_eq_emod_of_nonneg h0, Int.tmod_eq_emod_of_nonneg (show 0 ≤ i + 1 by omega), Int.tdiv_eq_ediv_of_nonneg h0]
    have b1 := rd_byte hc (i % (c.length : Int))
    have b2 := rd_byte hc ((i + 1) % (c.length : Int))
    generalize rd c (i % (c.length : Int)) = x at b1 ⊢
    generalize rd c ((i + 1) % (c.length : Int)) = y at b2 ⊢
    generalize i / (c.length : Int) = z at g1 g2 ⊢
    rw [if_pos e1, if_pos e2, if_pos f1, if_pos f2, if_neg (by omega), w64 (x := x) (by omega) (by omega), w64 (x := y) (by omega) (by omega), w64 (x := z) (by omega) (by omega), w64 (x := x * 31) (by omega) (by omega), w64 (x := x * 31 + y) (by omega) (by omega), w64 (by omega) (by omega), Int.tmod_eq_emod_of_nonneg (by omega)]
    exact ⟨_, rfl, Int.emod_nonneg _ (by omega), Int.emod_lt_of_pos _ (by omega)⟩
def turnV (t : ByteArray) (q : Nat) (d : Int) : ByteArray := strOfNums ((bytesOf t).set q d)
theorem turn_list (t : ByteArray) (q : Nat) (d : Int) : (turnV t q d).data.toList = t.data.toList.set q (UInt8.ofNat d.toNat) := by
  unfold turnV strOfNums bytesOf
  simp only [List.map_set, List.map_map]
  congr 1
  conv => rhs; rw [← List.map_id t.data.toList]
  apply List.map_congr_left
  intro x _
  show UInt8.ofNat ((x.toNat : Int)).toNat = id x
  rw [Int.toNat_natCast]
  simp
theorem turn_size (t : ByteArray) (q : Nat) (d : Int) : (turnV t q d).size = t.size := by rw [size_len, turn_list, List.length_set, ← size_len]
theorem turn_bt (t : ByteArray) (q : Nat) (d : Int) (h0 : 0 ≤ d) (h1 : d < 256) (hq : q < t.size) (j : Nat) : bt (turnV t q d) (j : Int) = if j = q then d else bt t (j : Int) := by
  rw [bt_opt, bt_opt, turn_list, List.getElem?_set]
  by_cases c : q = j
  · subst c
    rw [if_pos rfl, if_pos rfl, if_pos (by rw [← size_len]; exact hq)]
    show (((UInt8.ofNat d.toNat).toNat : Nat) : Int) = d
    rw [UInt8.toNat_ofNat']
    omega
  · rw [if_neg c, if_neg (fun e => c e.symm)]

/-! ### sums -/
theorem step_eq {s c : Int} (h0 : 0 ≤ s) (h1 : s < 998244353) (c0 : 0 ≤ c) (c1 : c ≤ 255) : stepV s c = (257 * s + c + 1) % 998244353 := by
  unfold stepV
  rw [w64 (x := 257 * s) (by omega) (by omega), w64 (x := c) (by omega) (by omega), w64 (x := 257 * s + c) (by omega) (by omega), w64 (by omega) (by omega), Int.tmod_eq_emod_of_nonneg (by omega)]
theorem step_range {s c : Int} (h0 : 0 ≤ s) (h1 : s < 998244353) (c0 : 0 ≤ c) (c1 : c ≤ 255) : 0 ≤ stepV s c ∧ stepV s c < 998244353 := by
  rw [step_eq h0 h1 c0 c1]
  omega
theorem sum_range (b : ByteArray) : ∀ (d i : Nat) (s : Int), 0 ≤ s → s < 998244353 → 0 ≤ sumV d s b i ∧ sumV d s b i < 998244353 := by
  intro d
  induction d with
  | zero => intro i s h0 h1; exact ⟨h0, h1⟩
  | succ d ih =>
    intro i s h0 h1
    have hb := bt_range b (i : Int)
    have := step_range h0 h1 hb.1 hb.2
    exact ih (i + 1) _ this.1 this.2
theorem sum_far (b b' : ByteArray) : ∀ (d i : Nat) (s s' : Int), 0 ≤ s → s < 998244353 → 0 ≤ s' → s' < 998244353 → s ≠ s' → (∀ j : Nat, i ≤ j → bt b' (j : Int) = bt b (j : Int)) → sumV d s b i ≠ sumV d s' b' i := by
  intro d
  induction d with
  | zero => intro i s s' _ _ _ _ h _; exact h
  | succ d ih =>
    intro i s s' h0 h1 g0 g1 hne hb
    have r := bt_range b (i : Int)
    rw [sumV, sumV, hb i (Nat.le_refl _)]
    have a1 := step_range h0 h1 r.1 r.2
    have a2 := step_range g0 g1 r.1 r.2
    refine ih (i + 1) _ _ a1.1 a1.2 a2.1 a2.2 ?_ (fun j hj => hb j (by omega))
    rw [step_eq h0 h1 r.1 r.2, step_eq g0 g1 r.1 r.2]
    omega
theorem sum_turn (b b' : ByteArray) (m n : Nat) (hm : m < n) (hb : ∀ j : Nat, j ≠ m → bt b' (j : Int) = bt b (j : Int)) (hne : bt b' (m : Int) ≠ bt b (m : Int)) : ∀ (d i : Nat) (s : Int), i + d = n → i ≤ m → 0 ≤ s → s < 998244353 → sumV d s b i ≠ sumV d s b' i := by
  intro d
  induction d with
  | zero => intro i s h h2 _ _; omega
  | succ d ih =>
    intro i s h h2 h0 h1
    have r := bt_range b (i : Int)
    have r' := bt_range b' (i : Int)
    rw [sumV, sumV]
    by_cases c : i = m
    · subst c
      have a1 := step_range h0 h1 r.1 r.2
      have a2 := step_range h0 h1 r'.1 r'.2
      refine sum_far b b' d (i + 1) _ _ a1.1 a1.2 a2.1 a2.2 ?_ (fun j hj => hb j (by omega))
      rw [step_eq h0 h1 r.1 r.2, step_eq h0 h1 r'.1 r'.2]
      omega
    · rw [hb i c]
      have a1 := step_range h0 h1 r.1 r.2
      exact ih (i + 1) _ (by omega) (by omega) a1.1 a1.2
theorem next_range {s : Int} (x : S33) (h0 : 0 ≤ s) (h1 : s < 998244353) : 0 ≤ nextV s x ∧ nextV s x < 998244353 := sum_range _ _ _ _ h0 h1
/-! ### a journal that is a chain -/
def D (x : S33) : Prop := wfE x ∧ rightV x = true ∧ -1000 ≤ x.f2 ∧ x.f2 ≤ 3000
theorem chain_D : ∀ (a : List S33) (i : Nat) (s : Int), (∀ x ∈ a, D x) → i + a.length < 1000 → 0 ≤ s → s < 998244353 → (∀ x ∈ chainV a i s, D x) ∧ checkV (chainV a i s) i s = (0, 0) := by
  intro a
  induction a with
  | nil => intro i s _ _ _ _; exact ⟨fun x hx => (by cases hx), rfl⟩
  | cons x a ih =>
    intro i s hD hl h0 h1
    rw [List.length_cons] at hl
    obtain ⟨d1, d2, d3, d4⟩ := hD x (by simp)
    have hn := next_range (setV x i) h0 h1
    obtain ⟨i1, i2⟩ := ih (i + 1) (nextV s (setV x i)) (fun z hz => hD z (by simp [hz])) (by omega) hn.1 hn.2
    have hx : D (linkV x i s) := by
      refine ⟨⟨⟨?_, ?_⟩, d1.2.1, d1.2.2.1, ⟨?_, ?_⟩, d1.2.2.2.2⟩, d2, d3, d4⟩
      · show -9223372036854775808 ≤ ((i + 1 : Nat) : Int); omega
      · show ((i + 1 : Nat) : Int) ≤ 9223372036854775807; omega
      · show -9223372036854775808 ≤ nextV s (setV x i); omega
      · show nextV s (setV x i) ≤ 9223372036854775807; omega
    refine ⟨fun z hz => ?_, ?_⟩
    · rw [chainV] at hz
      rcases List.mem_cons.1 hz with rfl | hz
      · exact hx
      · exact i1 z hz
    · rw [chainV, checkV, if_pos hx.2.1, if_pos (show (linkV x i s).f0 = ((i + 1 : Nat) : Int) from rfl)]
      have : nextV s (linkV x i s) = nextV s (setV x i) := rfl
      rw [this, if_pos (show (linkV x i s).f4 = nextV s (setV x i) from rfl)]
      exact i2
theorem check_split : ∀ (p : List S33) (x : S33) (r : List S33) (i : Nat) (s : Int), checkV (p ++ x :: r) i s = (0, 0) → 0 ≤ s → s < 998244353 →
    ∃ s', 0 ≤ s' ∧ s' < 998244353 ∧ (∀ t, checkV (p ++ t) i s = checkV t (i + p.length) s') ∧ rightV x = true ∧ x.f0 = ((i + p.length + 1 : Nat) : Int) ∧ x.f4 = nextV s' x ∧ checkV r (i + p.length + 1) (nextV s' x) = (0, 0) := by
  have one : ∀ (x : S33) (r : List S33) (i : Nat) (s : Int), checkV (x :: r) i s = (0, 0) → rightV x = true ∧ x.f0 = ((i + 1 : Nat) : Int) ∧ x.f4 = nextV s x ∧ checkV r (i + 1) (nextV s x) = (0, 0) := by
    intro x r i s h
    rw [checkV] at h
    by_cases c1 : rightV x = true
    · rw [if_pos c1] at h
      by_cases c2 : x.f0 = ((i + 1 : Nat) : Int)
      · rw [if_pos c2] at h
        by_cases c3 : x.f4 = nextV s x
        · rw [if_pos c3] at h
          exact ⟨c1, c2, c3, h⟩
        · rw [if_neg c3] at h
          have := congrArg Prod.fst h
          exact absurd this (show ¬ (15 : Int) = 0 by decide)
      · rw [if_neg c2] at h
        have := congrArg Prod.fst h
        exact absurd this (show ¬ (3 : Int) = 0 by decide)
    · rw [if_neg c1] at h
      have := congrArg Prod.fst h
      exact absurd this (show ¬ (1 : Int) = 0 by decide)
  intro p
  induction p with
  | nil =>
    intro x r i s h h0 h1
    obtain ⟨c1, c2, c3, c4⟩ := one x r i s h
    exact ⟨s, h0, h1, fun t => rfl, c1, c2, c3, c4⟩
  | cons y p ih =>
    intro x r i s h h0 h1
    obtain ⟨c1, c2, c3, c4⟩ := one y (p ++ x :: r) i s h
    have hn := next_range y h0 h1
    obtain ⟨s', g0, g1, g2, g3, g4, g5, g6⟩ := ih x r (i + 1) (nextV s y) c4 hn.1 hn.2
    have e : i + 1 + p.length = i + (y :: p).length := by rw [List.length_cons]; omega
    rw [e] at g2 g4 g6
    refine ⟨s', g0, g1, fun t => ?_, g3, g4, g5, g6⟩
    rw [List.cons_append, checkV, if_pos c1, if_pos c2, if_pos c3]
    exact g2 t
/-! ### texts of entries -/
def okB (c : UInt8) : Bool := decide (32 ≤ c.toNat ∧ c.toNat ≤ 126)
theorem bytesB_list (s : ByteArray) : ∀ (l : List UInt8) (i : Nat), s.data.toList.drop i = l → bytesB s l.length i = l.all okB := by
  intro l
  induction l with
  | nil => intro i _; rfl
  | cons c l ih =>
    intro i h
    obtain ⟨h1, h2, h3⟩ := bt_cons s i c l h
    rw [List.length_cons, bytesB, h2, List.all_cons, ih (i + 1) h3]
    congr 1
    unfold okB
    rw [decide_eq_decide]
    omega
theorem text_ok (s : ByteArray) : bytesB s s.size 0 = s.data.toList.all okB := by
  have := bytesB_list s s.data.toList 0 (by simp)
  rw [← size_len] at this
  exact this
theorem right_text {x : S33} (h : rightV x = true) : x.f3.data.toList.all okB = true ∧ (1 ≤ x.f1 ∧ x.f1 ≤ 9) ∧ (-1000000000 ≤ x.f2 ∧ x.f2 ≤ 1000000000) := by
  unfold rightV at h
  simp only [Bool.and_eq_true, decide_eq_true_eq] at h
  rw [text_ok] at h
  exact ⟨h.2.2.2, h.1, h.2.1⟩
theorem right_of {x : S33} (h1 : 1 ≤ x.f1 ∧ x.f1 ≤ 9) (h2 : -1000000000 ≤ x.f2 ∧ x.f2 ≤ 1000000000) (h3 : x.f3.size ≤ 80) (h4 : x.f3.data.toList.all okB = true) : rightV x = true := by
  unfold rightV
  rw [text_ok, h4, decide_eq_true h1, decide_eq_true h2, decide_eq_true h3]
  rfl
theorem D_of (v w : Int) (q : ByteArray) (hv : 0 ≤ v ∧ v < 9) (hw : -1000 ≤ w ∧ w ≤ 3000) (hq : q.size ≤ 80) (h4 : q.data.toList.all okB = true) : D ⟨0, wrap64 (1 + v), w, q, 0⟩ := by
  have e : wrap64 (1 + v) = 1 + v := w64 (by omega) (by omega)
  rw [e]
  refine ⟨⟨⟨?_, ?_⟩, ⟨?_, ?_⟩, ⟨?_, ?_⟩, ⟨?_, ?_⟩, ?_⟩, right_of ⟨?_, ?_⟩ ⟨?_, ?_⟩ hq h4, ?_, ?_⟩ <;> (simp only; omega)
/-! ### drawn entries -/
theorem entries_l0 {c : List Int} : ∀ (d : Nat) (p : List S33) (a s N : Int), Srd c a s N → N + 100 * d ≤ 100000 → p.length + d ≤ 1000 →
    ∃ l a' s', Ev (fun k => spec_l00Src_entries.l0 k p (d : Int) c a s) (p ++ l, a', s') ∧ l.length = d ∧ (∀ x ∈ l, D x) ∧ Srd c a' s' (N + 100 * d) := by
  intro d
  induction d with
  | zero =>
    intro p a s N hS _ _
    exact ⟨[], a, s, Ev.step (fun k => rfl) (Ev.neg (by omega) (Ev.some' (by rw [List.append_nil]))), rfl, fun x hx => (by cases hx), by simpa using hS⟩
  | succ d ih =>
    intro p a s N hS hN hp
    obtain ⟨v, a1, s1, hv, v0, v1, S1⟩ := next_ok 9 hS (by omega) (by omega) (by omega)
    obtain ⟨w, a2, s2, hw, w0, w1, S2⟩ := next_ok 3000 S1 (by omega) (by omega) (by omega)
    obtain ⟨u, a3, s3, hu, u0, u1, S3⟩ := next_ok 6 S2 (by omega) (by omega) (by omega)
    have hq : ∃ q : ByteArray, rdOf ByteArray.empty ([(⟨#[]⟩ : ByteArray), (⟨#[115, 97, 108, 101]⟩ : ByteArray), (⟨#[118, 111, 105, 100, 32, 51]⟩ : ByteArray), (⟨#[100, 114, 97, 119, 101, 114, 32, 111, 112, 101, 110]⟩ : ByteArray), (⟨#[32, 116, 119, 111, 32, 32, 98, 108, 97, 110, 107, 115, 32]⟩ : ByteArray), (⟨#[126]⟩ : ByteArray)] : List ByteArray) u = q ∧ q.size ≤ 80 ∧ q.data.toList.all okB = true := by
      have : u = 0 ∨ u = 1 ∨ u = 2 ∨ u = 3 ∨ u = 4 ∨ u = 5 := by omega
      rcases this with rfl | rfl | rfl | rfl | rfl | rfl <;> exact ⟨_, rfl, by decide, by decide⟩
    obtain ⟨q, hq, q1, q2⟩ := hq
    have hpick : spec_l00Src_pick.f c a2 s2 ([(⟨#[]⟩ : ByteArray), (⟨#[115, 97, 108, 101]⟩ : ByteArray), (⟨#[118, 111, 105, 100, 32, 51]⟩ : ByteArray), (⟨#[100, 114, 97, 119, 101, 114, 32, 111, 112, 101, 110]⟩ : ByteArray), (⟨#[32, 116, 119, 111, 32, 32, 98, 108, 97, 110, 107, 115, 32]⟩ : ByteArray), (⟨#[126]⟩ : ByteArray)] : List ByteArray) = some (q, a3, s3) := by
      unfold spec_l00Src_pick.f
      rw [if_neg (by simp)]
      have e6 : ((([(⟨#[]⟩ : ByteArray), (⟨#[115, 97, 108, 101]⟩ : ByteArray), (⟨#[118, 111, 105, 100, 32, 51]⟩ : ByteArray), (⟨#[100, 114, 97, 119, 101, 114, 32, 111, 112, 101, 110]⟩ : ByteArray), (⟨#[32, 116, 119, 111, 32, 32, 98, 108, 97, 110, 107, 115, 32]⟩ : ByteArray), (⟨#[126]⟩ : ByteArray)] : List ByteArray).length : Nat) : Int) = 6 := rfl
      rw [e6, hu, Option.bind_some, if_pos u0, if_pos u1, hq]
    have ew : wrap64 (w - 900) = w - 900 := w64 (by omega) (by omega)
    obtain ⟨l, a4, s4, hl, l1, l2, S4⟩ := ih (p ++ [⟨0, wrap64 (1 + v), w - 900, q, 0⟩]) a3 s3 (N + 3 + 3 + 3) S3 (by omega) (by simp; omega)
    refine ⟨⟨0, wrap64 (1 + v), w - 900, q, 0⟩ :: l, a4, s4, Ev.step (fun k => rfl) (Ev.pos (by omega) (Ev.ret hv (Ev.ret hw (Ev.ret hpick (Ev.pos (by omega) ?_))))), by simp [l1], ?_, S4.mono (by omega)⟩
    · rw [w64 (x := ((d + 1 : Nat) : Int) - 1) (by omega) (by omega), show ((d + 1 : Nat) : Int) - 1 = (d : Int) by omega, ew]
      refine Ev.eq hl ?_
      rw [← snoc]
    · intro x hx
      rcases List.mem_cons.1 hx with rfl | hx
      · exact D_of v (w - 900) q ⟨v0, v1⟩ ⟨by omega, by omega⟩ q1 q2
      · exact l2 x hx
theorem num_all (n : Int) (c : UInt8 → Bool) (h45 : c 45 = true) (hd : ∀ x, isDig x = true → c x = true) : (Lib.itoa n).all c = true := by
  rw [List.all_eq_true]
  have hx : ∀ u x, x ∈ Lib.decDigits u → c x = true := fun u x hx => hd x (List.all_eq_true.1 (dec_digs u).1 x hx)
  intro x h
  unfold Lib.itoa at h
  split at h
  · rcases List.mem_cons.1 h with rfl | h
    · exact h45
    · exact hx _ _ h
  · exact hx _ _ h
theorem num_list (n : Int) : (numV n).data.toList = Lib.itoa n := by simp [numV]
theorem entries_ok (code : List Int) (hz : code.length ≤ 1048576) (hc : ∀ x ∈ code, (Lit.int .u8 x).wf = true) : ∃ l, Ev (fun k => spec_EntriesOf.f k code) l ∧ 1 ≤ l.length ∧ l.length ≤ 10 ∧ ∀ x ∈ l, D x := by
  obtain ⟨s, hs, S0⟩ := source_ok code hc
  obtain ⟨v, hv, v0, v1⟩ := size_ok 0 s 9 hz (by omega)
  obtain ⟨u, a1, s1, hu, u0, u1, S1⟩ := next_ok (v + 1) S0 (by omega) (by omega) (by omega)
  obtain ⟨n, rfl⟩ : ∃ n : Nat, u = n := ⟨u.toNat, by omega⟩
  obtain ⟨l, a2, s2, hl, l1, l2, S2⟩ := entries_l0 n [] a1 s1 (0 + 3) S1 (by omega) (by simp; omega)
  rw [List.nil_append] at hl
  have hE : Ev (fun k => spec_l00Src_entries.f k code 0 s) (l, a2, s2) := by
    unfold spec_l00Src_entries.f
    refine Ev.ret hv (Ev.ret (by simp only; rw [w64 (by omega) (by omega)]; exact hu) hl)
  obtain ⟨w, a3, s3, hw, w0, w1, S3⟩ := next_ok 9 S2 (by omega) (by omega) (by omega)
  obtain ⟨x, a4, s4, hx, x0, x1, S4⟩ := next_ok 900 S3 (by omega) (by omega) (by omega)
  obtain ⟨y, a5, s5, hy, y0, y1, S5⟩ := next_ok 900 S4 (by omega) (by omega) (by omega)
  have hns := numV_size y (by omega) (by omega)
  have hz : ((⟨#[115, 97, 108, 101, 32]⟩ : ByteArray) ++ numV y).size = 5 + (numV y).size := by rw [ByteArray.size_append]; rfl
  have hd : D ⟨0, wrap64 (1 + w), x, (⟨#[115, 97, 108, 101, 32]⟩ : ByteArray) ++ numV y, 0⟩ := by
    refine D_of w x _ ⟨w0, w1⟩ ⟨by omega, by omega⟩ (by omega) ?_
    rw [app_list, List.all_append, num_list, num_all y okB rfl (fun z hz => by have := isDig_iff hz; unfold okB; exact decide_eq_true (by omega))]
    rfl
  refine ⟨l ++ [⟨0, wrap64 (1 + w), x, (⟨#[115, 97, 108, 101, 32]⟩ : ByteArray) ++ numV y, 0⟩], ?_, by simp, by simp; omega, fun z hz => ?_⟩
  · unfold spec_EntriesOf.f
    exact Ev.ret hs (Ev.bind hE (Ev.ret hw (Ev.ret hx (Ev.ret hy (Ev.bind (digits_ev y (by omega) (by omega)) (Ev.pos (by omega) (Ev.pos (by show l.length < _; omega) (Ev.some' rfl))))))))
  · rcases List.mem_append.1 hz with hz | hz
    · exact l2 z hz
    · obtain rfl : z = _ := by simpa using hz
      exact hd
/-! ### there and back -/
def wordV (x : S33) : ByteArray := (numV x.f4 ++ spV) ++ headV x
theorem word_list (x : S33) : (wordV x).data.toList = Lib.itoa x.f4 ++ 32 :: (Lib.itoa x.f0 ++ 32 :: (Lib.itoa x.f1 ++ 32 :: (Lib.itoa x.f2 ++ 32 :: x.f3.data.toList))) := by
  unfold wordV headV
  simp only [app_list, num_list, List.append_assoc]
  rfl
theorem no_in_num (c : UInt8) (h : c.toNat < 45) (n : Int) : c ∉ Lib.itoa n := by
  intro hm
  have := num_all n (fun x => decide (45 ≤ x.toNat)) rfl (fun x hx => by have := isDig_iff hx; exact decide_eq_true (by omega))
  have := of_decide_eq_true (List.all_eq_true.1 this c hm)
  omega
theorem index_app (c : UInt8) (w r : List UInt8) (s : ByteArray) (hs : s.data.toList = w ++ c :: r) (hw : c ∉ w) : Lib.indexB s ⟨#[c]⟩ = ((w.length : Nat) : Int) := by
  refine indexB_at s c w.length ?_ fun j hj => ?_
  · rw [hs, List.getElem?_append_right (Nat.le_refl _), Nat.sub_self]
    rfl
  · rw [hs, List.getElem?_append_left hj]
    intro e
    exact hw (List.mem_of_getElem? e)
theorem nd_le : ∀ (k u : Nat), u < 10 ^ (k + 1) → Lib.nDigits u ≤ k + 1 := by
  intro k
  induction k with
  | zero => intro u h; rw [Lib.nDigits_small (by omega)]; omega
  | succ k ih =>
    intro u h
    by_cases c : u < 10
    · rw [Lib.nDigits_small c]; omega
    · rw [Lib.nDigits_big c]
      have := ih (u / 10) (by rw [Nat.pow_succ] at h; omega)
      omega
theorem readV_num {d : Nat} {s : ByteArray} {n : Int} {r : List UInt8} (hs : s.data.toList = Lib.itoa n ++ 32 :: r) (hn : n.natAbs < 1000000000000000000) : readV (d + 1) s = (readV d ⟨r.toArray⟩).bind fun y => some (n :: y.1, y.2) := by
  have hi := index_app 32 (Lib.itoa n) r s hs (no_in_num 32 (by decide) n)
  rw [readV_hit hi]
  have e1 : (s.extract 0 (Lib.itoa n).length).data.toList = Lib.itoa n := by rw [Lib.extract_from_zero, hs]; exact List.take_left
  have e2 : s.extract ((Lib.itoa n).length + 1) s.size = ⟨r.toArray⟩ := by
    apply ba_ext
    rw [Lib.extract_to_end, hs, List.drop_append, List.drop_of_length_le (by omega)]
    simp
  rw [e1, e2, numR_itoa n (by rw [Lib.decDigits_length]; exact nd_le 17 _ (by simpa using hn))]
  rfl
theorem read_word (x : S33) (h0 : x.f0.natAbs < 1000000000000000000) (h1 : x.f1.natAbs < 1000000000000000000) (h2 : x.f2.natAbs < 1000000000000000000) (h4 : x.f4.natAbs < 1000000000000000000) : readV 4 (wordV x) = some ([x.f4, x.f0, x.f1, x.f2], x.f3) := by
  rw [readV_num (word_list x) h4, readV_num (d := 2) (n := x.f0) rfl h0, readV_num (d := 1) (n := x.f1) rfl h1, readV_num (d := 0) (n := x.f2) rfl h2]
  rfl
def joinV : List S33 → ByteArray
  | [] => ⟨#[]⟩
  | x :: a => lineV x ++ joinV a
theorem text_join : ∀ (a : List S33) (t : ByteArray), textV a t = t ++ joinV a := by
  intro a
  induction a with
  | nil => intro t; apply ba_ext; rw [app_list]; show t.data.toList = t.data.toList ++ []; rw [List.append_nil]
  | cons x a ih => intro t; rw [textV, ih, joinV, app_assoc]
theorem join_size : ∀ (a : List S33), (∀ x ∈ a, D x) → (joinV a).size ≤ 300 * a.length := by
  intro a
  induction a with
  | nil => intro _; exact Nat.le_refl _
  | cons x a ih =>
    intro h
    obtain ⟨d1, d2, _⟩ := h x (by simp)
    have := lineV_size x d1 (right_size d2)
    have := ih (fun z hz => h z (by simp [hz]))
    rw [joinV, ByteArray.size_append, List.length_cons]
    omega
theorem cut_join : ∀ (a : List S33), (∀ x ∈ a, D x) → cutV 10 (joinV a) = a.map wordV ++ [⟨#[]⟩] := by
  intro a
  induction a with
  | nil =>
    intro _
    have hm : Lib.indexB (joinV []) ⟨#[10]⟩ = -1 := indexB_no _ 10 (fun j hj => absurd hj (Nat.not_lt_zero j))
    unfold cutV
    rw [Lib.countB_miss _ _ hm]
    rfl
  | cons x a ih =>
    intro h
    obtain ⟨d1, d2, _⟩ := h x (by simp)
    have hs : (joinV (x :: a)).data.toList = (wordV x).data.toList ++ 10 :: (joinV a).data.toList := by
      rw [joinV]
      unfold lineV wordV
      simp only [app_list, List.append_assoc]
      rfl
    have hno : (10 : UInt8) ∉ (wordV x).data.toList := by
      rw [word_list]
      have n10 := no_in_num 10 (by decide)
      have ht : (10 : UInt8) ∉ x.f3.data.toList := fun hm => by
        have := List.all_eq_true.1 (right_text d2).1 10 hm
        exact absurd this (by decide)
      simp only [List.mem_append, List.mem_cons, not_or]
      exact ⟨n10 _, by decide, n10 _, by decide, n10 _, by decide, n10 _, by decide, ht⟩
    have hi := index_app 10 _ _ _ hs hno
    have e1 : (joinV (x :: a)).extract 0 (wordV x).data.toList.length = wordV x := by
      apply ba_ext
      rw [Lib.extract_from_zero, hs]
      exact List.take_left
    have e2 : (joinV (x :: a)).extract ((wordV x).data.toList.length + 1) (joinV (x :: a)).size = joinV a := by
      apply ba_ext
      rw [Lib.extract_to_end, hs, List.drop_append, List.drop_of_length_le (by omega)]
      simp
    have : cutV 10 (joinV (x :: a)) = wordV x :: cutV 10 (joinV a) := by
      unfold cutV
      rw [Lib.countB_hit _ ⟨#[10]⟩ _ (Nat.le_refl 1) hi, show (⟨#[10]⟩ : ByteArray).size = 1 from rfl, Nat.add_comm 1, Lib.splitB_hit _ 0 _ _ _ hi, show (⟨#[10]⟩ : ByteArray).size = 1 from rfl, Nat.add_zero, e1, e2]
    rw [this, ih (fun z hz => h z (by simp [hz]))]
    rfl
theorem lines_join (a : List S33) (h : ∀ x ∈ a, D x) : linesV (joinV a) = a.map wordV := by
  unfold linesV
  rw [cut_join a h]
  have e : (((a.map wordV ++ [(⟨#[]⟩ : ByteArray)]).length : Nat) : Int) - 1 = ((a.map wordV).length : Int) := by simp
  rw [e, rdOf_mid, if_pos (Lib.toList_data _), Int.toNat_natCast, List.take_left]
theorem all_join : ∀ (a : List S33) (i : Nat) (acc : List S33), (∀ x ∈ a, D x ∧ x.f0.natAbs < 1000000000000000000 ∧ x.f4.natAbs < 1000000000000000000) → allV (a.map wordV) i acc = endV (acc ++ a) := by
  intro a
  induction a with
  | nil => intro i acc _; rw [List.append_nil]; rfl
  | cons x a ih =>
    intro i acc h
    obtain ⟨⟨d1, d2, d3, d4⟩, h0, h4⟩ := h x (by simp)
    have hr := (right_text d2).2.1
    rw [List.map_cons, allV, read_word x h0 (by omega) (by omega) h4]
    show allV (a.map wordV) (i + 1) (acc ++ [entV ([x.f4, x.f0, x.f1, x.f2], x.f3)]) = _
    rw [ih (i + 1) _ (fun z hz => h z (by simp [hz])), ← snoc]
    rfl
/-! ### what the law asks -/
theorem same_l0 : ∀ (a p : List S33), (p ++ a).length < 1000000 → Ev (fun k => laws_sameEntries.l0 k (p ++ a) (p ++ a) (p.length : Int)) true := by
  intro a
  induction a with
  | nil => intro p _; exact Ev.step (fun k => rfl) (Ev.neg (len_end p) (Ev.some' rfl))
  | cons x a ih =>
    intro p hl
    have hl' := hl
    rw [List.length_append, List.length_cons] at hl'
    refine Ev.step (fun k => rfl) (Ev.pos (len_lt p x a) (Ev.pos (by omega) (Ev.pos (len_lt p x a) ?_)))
    rw [rd_Entry_mid]
    refine Ev.neg (by simp) ?_
    rw [w64 (by omega) (by omega), ← len_snoc p x, snoc p x a]
    exact ih (p ++ [x]) (by rw [← snoc]; exact hl)
theorem same_ev (a : List S33) (h : a.length < 1000000) : Ev (fun k => laws_sameEntries.f k a a) true := by
  unfold laws_sameEntries.f
  exact Ev.pos rfl (same_l0 a [] h)
def sumF : List S33 → Int
  | [] => 0
  | x :: a => x.f2 + sumF a
theorem sumF_range : ∀ (a : List S33), (∀ x ∈ a, D x) → -1000 * (a.length : Int) ≤ sumF a ∧ sumF a ≤ 3000 * (a.length : Int) := by
  intro a
  induction a with
  | nil => intro _; exact ⟨Int.le_refl _, Int.le_refl _⟩
  | cons x a ih =>
    intro h
    obtain ⟨_, _, d3, d4⟩ := h x (by simp)
    have := ih (fun z hz => h z (by simp [hz]))
    rw [sumF, List.length_cons]
    omega
theorem count_back : ∀ (a : List S33) (c : Int), (∀ x ∈ a, D x) → a.length ≤ 1000 → -100000 ≤ c → c ≤ 100000 → countV a (sumF a + c) = c := by
  intro a
  induction a with
  | nil => intro c _ _ _ _; show 0 + c = c; omega
  | cons x a ih =>
    intro c h hl h0 h1
    obtain ⟨_, _, d3, d4⟩ := h x (by simp)
    have hr := sumF_range a (fun z hz => h z (by simp [hz]))
    rw [List.length_cons] at hl
    rw [countV, sumF, w64 (by omega) (by omega), show x.f2 + sumF a + c - x.f2 = sumF a + c by omega]
    exact ih c (fun z hz => h z (by simp [hz])) (by omega) h0 h1
theorem add_l0 (more : List Int) (r : Bool) (L : List S33) (hr : Ev (fun k => laws_FnJournal.l0 k more L (sumF L) (L.length : Int)) r) : ∀ (a p : List S33), p ++ a = L → (∀ x ∈ L, D x) → L.length ≤ 1000 → Ev (fun k => laws_FnJournal.l0 k more L (sumF p) (p.length : Int)) r := by
  intro a
  induction a with
  | nil => intro p h _ _; rw [List.append_nil] at h; rw [h]; exact hr
  | cons x a ih =>
    intro p h hD hl
    have hlen : L.length = p.length + (a.length + 1) := by rw [← h, List.length_append, List.length_cons]
    have hp := sumF_range p (fun z hz => hD z (by rw [← h]; simp [hz]))
    obtain ⟨_, _, d3, d4⟩ := hD x (by rw [← h]; simp)
    have app : ∀ q : List S33, sumF (q ++ [x]) = sumF q + x.f2 := by
      intro q
      induction q with
      | nil => show x.f2 + 0 = 0 + x.f2; omega
      | cons y q ihq => rw [List.cons_append, sumF, sumF, ihq]; omega
    have hx : rd_T33 L (p.length : Int) = x := by rw [← h]; exact rd_Entry_mid p x a
    have := ih (p ++ [x]) (by rw [← snoc]; exact h) hD hl
    rw [app, show (p ++ [x]).length = p.length + 1 by simp] at this
    refine Ev.up1 ?_
    simp only [laws_FnJournal.l0]
    refine Ev.pos (by omega) (Ev.pos (by omega) ?_)
    rw [hx, w64 (x := sumF p + x.f2) (by omega) (by omega), w64n (by omega)]
    exact this
theorem FnJournal : laws_FnJournal.Pure := by
  intro code more hc hm
  refine Ev.rounds (?_ : Ev (fun k => laws_FnJournal.f k code more) true)
  have hmb : ∀ x ∈ more, 0 ≤ x ∧ x ≤ 255 := fun x hx => bounds_u8 (hm.2 x hx)
  have skip : Ev (fun k => laws_FnJournal.j0 k code more true) true := Ev.up1 (by simp only [laws_FnJournal.j0]; exact Ev.pos trivial (Ev.some' rfl))
  unfold laws_FnJournal.f
  by_cases c1 : (code.length : Int) > 1048576
  · exact Ev.pos c1 skip
  refine Ev.neg c1 ?_
  by_cases c2 : (more.length : Int) > 1048576
  · rw [decide_eq_true c2]; exact skip
  rw [decide_eq_false c2]
  obtain ⟨E, hE, E1, E2, ED⟩ := entries_ok code (by omega) hc.2
  have hw : ∀ x ∈ E, wfE x := fun x hx => (ED x hx).1
  obtain ⟨LD, Lc⟩ := chain_D E 0 1 ED (by omega) (by omega) (by omega)
  have hJ : chainJ E = (chainV E 0 1, 0) := by
    unfold chainJ
    rw [if_neg (by omega), if_neg (by omega), if_pos (List.all_eq_true.2 fun x hx => (ED x hx).2.1)]
  have hlen := chainV_len E 0 1
  have iC := implChain_ev E hw
  have sC := specChain_ev E hw
  rw [hJ] at iC sC
  generalize hL : chainV E 0 1 = L at LD Lc hlen iC sC
  have hLw : ∀ x ∈ L, wfE x := fun x hx => (LD x hx).1
  have hcJ : checkJ L = (0, 0) := by
    unfold checkJ
    rw [if_neg (by omega), if_neg (by omega), Lc]
  have hT : textJ L = (joinV L, 0) := by
    unfold textJ
    rw [hcJ, if_pos rfl, text_join]
    rw [show (⟨#[]⟩ : ByteArray) ++ joinV L = joinV L from by apply ba_ext; rw [app_list]; rfl]
  have iT := implText_ev L hLw
  rw [hT] at iT
  have hjs := join_size L LD
  have hsplit : ∀ x ∈ L, x.f0.natAbs < 1000000000000000000 ∧ x.f4.natAbs < 1000000000000000000 := by
    intro x hx
    obtain ⟨p, r, rfl⟩ := List.append_of_mem hx
    obtain ⟨s', g0, g1, _, _, g4, g5, _⟩ := check_split p x r 0 1 Lc (by omega) (by omega)
    have := next_range x g0 g1
    have hl : p.length ≤ 10 := by rw [List.length_append] at hlen; omega
    omega
  have hR : readJ (joinV L) = (L, 0, 0) := by
    unfold readJ
    rw [if_neg (by omega), lines_join L LD, if_neg (by rw [List.length_map]; omega), all_join L 0 [] (fun x hx => ⟨LD x hx, hsplit x hx⟩), List.nil_append]
    unfold endV
    rw [Lc, if_pos rfl]
  have iR := implReadJ_ev (joinV L) (by omega)
  rw [hR] at iR
  have eS := same_ev L (by omega)
  have hsr := sumF_range L LD
  refine Ev.up1 ?_
  simp only [laws_FnJournal.j0]
  refine Ev.neg ff (Ev.bind hE (Ev.bind iC (Ev.bind hE (Ev.bind sC (Ev.pos rfl (Ev.bind eS (Ev.up1 ?_)))))))
  simp only [laws_FnJournal.j1]
  refine Ev.neg (by simp) (Ev.bind iT (Ev.bind iR (Ev.pos rfl (Ev.pos rfl (Ev.pos rfl (Ev.bind eS (Ev.up1 ?_)))))))
  simp only [laws_FnJournal.j2]
  refine Ev.neg (by simp) (add_l0 more true L ?_ L [] rfl LD (by omega))
  obtain ⟨t, ht, t0, t1⟩ := at_ok hmb 3 900 (by omega) (by omega) (by omega)
  have hct : countedJ L (sumF L + (t - 300)) = (t - 300, 0) := by
    unfold countedJ
    rw [hcJ, if_pos rfl, if_pos ⟨by omega, by omega⟩, count_back L (t - 300) LD (by omega) (by omega) (by omega)]
  have iN := implCounted_ev L (sumF L + (t - 300)) hLw
  rw [hct] at iN
  refine Ev.up1 ?_
  simp only [laws_FnJournal.l0]
  refine Ev.neg (by omega) (Ev.ret ht ?_)
  rw [w64 (x := t - 300) (by omega) (by omega), w64 (x := sumF L + (t - 300)) (by omega) (by omega)]
  refine Ev.bind iN (Ev.pos rfl (Ev.up1 ?_))
  simp only [laws_FnJournal.j4]
  refine Ev.neg (by simp) ?_
  obtain ⟨q, hq, q0, q1⟩ := at_ok hmb 0 (L.length : Int) (by omega) (by omega) (by omega)
  obtain ⟨n, rfl⟩ : ∃ n : Nat, q = n := ⟨q.toNat, by omega⟩
  have hn : n < L.length := by omega
  obtain ⟨p, x, r, hpx, hpl⟩ : ∃ p x r, L = p ++ x :: r ∧ p.length = n := ⟨L.take n, L[n], L.drop (n + 1), by rw [← List.drop_eq_getElem_cons hn]; exact (List.take_append_drop n L).symm, by rw [List.length_take]; omega⟩
  subst hpl
  rw [hpx] at Lc
  obtain ⟨s', g0, g1, g2, g3, g4, g5, g6⟩ := check_split p x r 0 1 Lc (by omega) (by omega)
  rw [Nat.zero_add] at g4 g6
  have xD := LD x (by rw [hpx]; simp)
  have h80 := right_size g3
  -- the entry left out
  have less : Ev (fun k => laws_FnJournal.j5 k L (p.length : Int)) true := by
    refine Ev.up1 ?_
    simp only [laws_FnJournal.j5]
    rw [w64n (by omega)]
    by_cases c3 : ((p.length + 1 : Nat) : Int) < (L.length : Int)
    · refine Ev.pos c3 (Ev.ret rfl (Ev.pos (by omega) (Ev.pos (by omega) (Ev.ret rfl (Ev.pos (by simp only [List.length_nil, List.length_take]; omega) (Ev.ret rfl (Ev.pos (by omega) (Ev.pos (by omega) (Ev.ret rfl (Ev.pos (by simp only [List.length_append, List.length_nil, List.length_take, List.length_drop]; omega) ?_))))))))))
      rw [Int.toNat_natCast, Int.toNat_natCast, List.nil_append]
      have e1 : L.take p.length = p := by rw [hpx]; exact List.take_left
      have e2 : L.drop (p.length + 1) = r := by rw [hpx, List.drop_append, List.drop_of_length_le (by omega)]; simp
      rw [e1, e2]
      cases r with
      | nil => rw [hpx, List.length_append, List.length_singleton] at c3; omega
      | cons y r =>
        have hyD := LD y (by rw [hpx]; simp)
        have hw2 : ∀ z ∈ p ++ y :: r, wfE z := fun z hz => hLw z (by rw [hpx]; simp only [List.mem_append, List.mem_cons] at hz ⊢; rcases hz with hz | hz | hz <;> simp [hz])
        have hy0 : y.f0 = ((p.length + 2 : Nat) : Int) := by
          rw [checkV, if_pos hyD.2.1] at g6
          by_cases c4 : y.f0 = ((p.length + 1 + 1 : Nat) : Int)
          · omega
          · rw [if_neg c4] at g6
            have := congrArg Prod.fst g6
            exact absurd this (show ¬ (3 : Int) = 0 by decide)
        have hck : checkJ (p ++ y :: r) = (3, (p.length : Int)) := by
          have hz : (p ++ y :: r).length ≤ 10 := by rw [hpx] at hlen; simp at hlen ⊢; omega
          unfold checkJ
          rw [if_neg (by omega), if_neg (by omega), g2, Nat.zero_add, checkV, if_pos hyD.2.1, if_neg (by omega)]
        have iK := implCheck_ev (p ++ y :: r) hw2
        rw [hck] at iK
        exact Ev.bind iK (Ev.pos rfl (Ev.pos rfl (Ev.some' rfl)))
    · exact Ev.neg c3 (Ev.some' rfl)
  have hxr : rd_T33 ([] ++ L) (p.length : Int) = x := by rw [List.nil_append, hpx]; exact rd_Entry_mid p x r
  refine Ev.ret hq (Ev.ret rfl (Ev.pos (by simp; omega) (Ev.ret rfl (Ev.pos q0 (Ev.pos (by simpa using q1) ?_)))))
  rw [hxr]
  refine Ev.pos (by omega) (Ev.ret rfl ?_)
  by_cases c3 : (((bytesOf x.f3).length : Nat) : Int) > 0
  rotate_left
  · exact Ev.neg c3 less
  refine Ev.pos c3 ?_
  rw [bytesOf_length] at c3 ⊢
  obtain ⟨u, hu, u0, u1⟩ := at_ok hmb 1 (x.f3.size : Int) (by omega) (by omega) (by omega)
  obtain ⟨v, hv, v0, v1⟩ := at_ok hmb 2 94 (by omega) (by omega) (by omega)
  obtain ⟨j, rfl⟩ : ∃ j : Nat, u = j := ⟨u.toNat, by omega⟩
  have hj : j < x.f3.size := by omega
  refine Ev.ret hu (Ev.pos u0 (Ev.pos u1 (Ev.ret hv ?_)))
  have hb : 32 ≤ bt x.f3 (j : Int) ∧ bt x.f3 (j : Int) ≤ 126 := by
    obtain ⟨z, hz, hzb⟩ := bt_get x.f3 j hj
    have := of_decide_eq_true (List.all_eq_true.1 (right_text g3).1 z (List.mem_of_getElem? hz))
    rw [hzb]
    omega
  rw [rd_bytesOf, Int.toNat_natCast, Int.toNat_natCast]
  generalize hbx : bt x.f3 (j : Int) = b at hb
  rw [w64 (x := b) (by omega) (by omega), w64 (x := b - 32) (by omega) (by omega), w64 (x := b - 32 + 1) (by omega) (by omega), w64 (x := b - 32 + 1 + v) (by omega) (by omega), Int.tmod_eq_emod_of_nonneg (by omega), w64 (by omega) (by omega)]
  have hvd : ((32 + (b - 32 + 1 + v) % 95) % 256) = 32 + (b - 32 + 1 + v) % 95 := by omega
  rw [hvd, List.nil_append]
  generalize hdv : 32 + (b - 32 + 1 + v) % 95 = dv at *
  have d0 : 32 ≤ dv ∧ dv ≤ 126 ∧ dv ≠ b := by omega
  have tz := turn_size x.f3 j dv
  have tb := turn_bt x.f3 j dv (by omega) (by omega) hj
  show Ev (fun k => (impl_CheckJournal.f k (L.set p.length ⟨x.f0, x.f1, x.f2, turnV x.f3 j dv, x.f4⟩)).bind _) true
  have hset : L.set p.length ⟨x.f0, x.f1, x.f2, turnV x.f3 j dv, x.f4⟩ = p ++ (⟨x.f0, x.f1, x.f2, turnV x.f3 j dv, x.f4⟩ : S33) :: r := by
    rw [hpx, List.set_append_right _ _ (Nat.le_refl _), Nat.sub_self]
    rfl
  rw [hset]
  have hr' : rightV (⟨x.f0, x.f1, x.f2, turnV x.f3 j dv, x.f4⟩ : S33) = true := by
    refine right_of (right_text g3).2.1 (right_text g3).2.2 (by show (turnV x.f3 j dv).size ≤ 80; omega) ?_
    show (turnV x.f3 j dv).data.toList.all okB = true
    rw [turn_list, List.all_eq_true]
    intro z hz
    rcases List.mem_or_eq_of_mem_set hz with hz | rfl
    · exact List.all_eq_true.1 (right_text g3).1 z hz
    · unfold okB
      rw [UInt8.toNat_ofNat']
      exact decide_eq_true (by omega)
  have hne : nextV s' (⟨x.f0, x.f1, x.f2, turnV x.f3 j dv, x.f4⟩ : S33) ≠ nextV s' x := by
    have hP : ∀ y : ByteArray, headV (⟨x.f0, x.f1, x.f2, y, x.f4⟩ : S33) = (((((numV x.f0 ++ spV) ++ numV x.f1) ++ spV) ++ numV x.f2) ++ spV) ++ y := fun y => rfl
    have hx' : headV x = (((((numV x.f0 ++ spV) ++ numV x.f1) ++ spV) ++ numV x.f2) ++ spV) ++ x.f3 := rfl
    unfold nextV
    rw [hP, hx']
    generalize (((((numV x.f0 ++ spV) ++ numV x.f1) ++ spV) ++ numV x.f2) ++ spV) = P
    rw [ByteArray.size_append, ByteArray.size_append, tz]
    refine (sum_turn (P ++ x.f3) (P ++ turnV x.f3 j dv) (P.size + j) (P.size + x.f3.size) (by omega) ?_ ?_ (P.size + x.f3.size) 0 s' (by omega) (by omega) g0 g1).symm
    · intro i hi
      by_cases ci : i < P.size
      · rw [bt_app_l _ _ _ ci, bt_app_l _ _ _ ci]
      · rw [bt_app_r _ _ _ (by omega), bt_app_r _ _ _ (by omega), tb, if_neg (by omega)]
    · rw [bt_app_r _ _ _ (by omega), bt_app_r _ _ _ (by omega), show P.size + j - P.size = j by omega, tb, if_pos rfl, hbx]
      exact d0.2.2
  have hw3 : ∀ z ∈ p ++ (⟨x.f0, x.f1, x.f2, turnV x.f3 j dv, x.f4⟩ : S33) :: r, wfE z := by
    intro z hz
    rcases List.mem_append.1 hz with hz | hz
    · exact hLw z (by rw [hpx]; simp [hz])
    · rcases List.mem_cons.1 hz with rfl | hz
      · exact ⟨xD.1.1, xD.1.2.1, xD.1.2.2.1, xD.1.2.2.2.1, by show (turnV x.f3 j dv).size ≤ _; omega⟩
      · exact hLw z (by rw [hpx]; simp [hz])
  have hck : checkJ (p ++ (⟨x.f0, x.f1, x.f2, turnV x.f3 j dv, x.f4⟩ : S33) :: r) = (15, (p.length : Int)) := by
    have hz : (p ++ (⟨x.f0, x.f1, x.f2, turnV x.f3 j dv, x.f4⟩ : S33) :: r).length ≤ 10 := by rw [hpx] at hlen; simp at hlen ⊢; omega
    unfold checkJ
    rw [if_neg (by omega), if_neg (by omega), g2, Nat.zero_add, checkV, if_pos hr', if_pos g4, if_neg (by rw [show (⟨x.f0, x.f1, x.f2, turnV x.f3 j dv, x.f4⟩ : S33).f4 = x.f4 from rfl, g5]; exact hne.symm)]
  have iK := implCheck_ev _ hw3
  rw [hck] at iK
  exact Ev.bind iK (Ev.pos rfl (Ev.pos rfl less))

end Go.Proofs.YtjggnfkhdkgeaaaDoor.Pure
