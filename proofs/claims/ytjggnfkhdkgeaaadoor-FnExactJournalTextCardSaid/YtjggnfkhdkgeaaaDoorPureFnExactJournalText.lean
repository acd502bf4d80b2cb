/- At every argument the program's JournalText answers as the reference's: the law's plain statement, with no condition. -/
import Derived.Test.YtjggnfkhdkgeaaaDoorXFnExactJournalTextx6
import Derived.Test.YtjggnfkhdkgeaaaDoorAx
import Derived.Test.YtjggnfkhdkgeaaaDoorIdx
import Derived.Lib.ItoaLen
namespace Go.Proofs.YtjggnfkhdkgeaaaDoor.Pure
open Go.RowKit Go.Proofs.YtjggnfkhdkgeaaaDoor.XFnExactJournalText Go.Proofs.YtjggnfkhdkgeaaaDoorW.PrintWords Go.Proofs.YtjggnfkhdkgeaaaDoorW.PrintLast
open Go.Proofs.YtjggnfkhdkgeaaaDoorW.Ax Go.Proofs.YtjggnfkhdkgeaaaDoorW.Idx
set_option linter.unusedVariables false
set_option linter.unusedSimpArgs false
theorem within_ev (a b c : Int) : impl_within.f a b c = some (decide (b ≤ a ∧ a ≤ c)) := by
  unfold impl_within.f
  by_cases h : a ≥ b
  · rw [if_pos h]; congr 1; rw [decide_eq_decide]; omega
  · rw [if_neg h]; congr 1; symm; rw [decide_eq_false_iff_not]; omega
theorem l01In_ev (a b c : Int) : spec_l01In.f a b c = some (decide (b ≤ a ∧ a ≤ c)) := by
  unfold spec_l01In.f
  by_cases h : a ≥ b
  · rw [if_pos h]; congr 1; rw [decide_eq_decide]; omega
  · rw [if_neg h]; congr 1; symm; rw [decide_eq_false_iff_not]; omega
/-! ### numerals -/
def numV (n : Int) : ByteArray := ⟨(Lib.itoa n).toArray⟩
theorem numV_size (n : Int) (h0 : -9223372036854775808 ≤ n) (h1 : n ≤ 9223372036854775807) : (numV n).size ≤ 21 := by
  have := Lib.itoa_length_le n h0 h1
  simpa [numV, ByteArray.size] using this
theorem app_bytes (a b : List UInt8) : (⟨a.toArray⟩ : ByteArray) ++ (⟨b.toArray⟩ : ByteArray) = ⟨(a ++ b).toArray⟩ := by
  apply ByteArray.ext
  simp
theorem bytes_size (a : List UInt8) : (⟨a.toArray⟩ : ByteArray).size = a.length := by simp [ByteArray.size]
theorem digit_ev (u : Nat) : strOfNums [wrap64 (48 + ((u % 10 : Nat) : Int)) % 256] = ⟨[UInt8.ofNat (48 + u % 10)].toArray⟩ := by
  rw [w64 (by omega) (by omega), show (48 + ((u % 10 : Nat) : Int)) % 256 = ((48 + u % 10 : Nat) : Int) by omega]
  show (⟨#[UInt8.ofNat (((48 + u % 10 : Nat) : Int)).toNat]⟩ : ByteArray) = _
  rw [Int.toNat_natCast]
theorem digits_nat : ∀ u : Nat, u < 18446744073709551616 → u ≤ 9223372036854775807 → Ev (fun k => spec_l00Digits.f k (u : Int)) ⟨(Lib.decDigits u).toArray⟩ := by
  intro u
  induction u using Nat.strongRecOn with
  | _ u ih =>
    intro h h2
    by_cases c : u < 10
    · refine Ev.step (fun k => rfl) (Ev.neg (by omega) (Ev.neg (by omega) (Ev.pos (by omega) (Ev.some' ?_))))
      have := digit_ev u
      rw [Nat.mod_eq_of_lt c] at this
      rw [this, Lib.decDigits, dif_pos c]
    · have hw : wrap64 (Int.tdiv (u : Int) 10) = ((u / 10 : Nat) : Int) := by
        rw [Int.tdiv_eq_ediv_of_nonneg (by omega), w64 (by omega) (by omega)]
        omega
      have hm : Int.tmod (u : Int) 10 = ((u % 10 : Nat) : Int) := by
        rw [Int.tmod_eq_emod_of_nonneg (by omega)]
        omega
      have hl : (Lib.decDigits (u / 10)).length ≤ 20 := by
        rw [Lib.decDigits_length]
        exact Lib.nDigits_le20 _ (by omega)
      have h10 := ih (u / 10) (by omega) (by omega) (by omega)
      refine Ev.step (fun k => rfl) (Ev.neg (by omega) (Ev.neg (by omega) (Ev.neg (by omega) ?_)))
      rw [hw, hm]
      refine Ev.bind h10 (Ev.ret rfl ?_)
      rw [digit_ev u]
      refine Ev.pos (by rw [bytes_size, bytes_size]; simp only [List.length_cons, List.length_nil]; omega) (Ev.some' ?_)
      rw [app_bytes, Lib.decDigits.eq_1 u, dif_neg c]
theorem digits_ev (n : Int) (h0 : -9223372036854775808 ≤ n) (h1 : n ≤ 9223372036854775807) : Ev (fun k => spec_l00Digits.f k n) (numV n) := by
  unfold numV
  by_cases c : n < 0
  · by_cases c2 : n = -9223372036854775808
    · subst c2
      refine Ev.step (fun k => rfl) (Ev.pos rfl (Ev.some' ?_))
      congr 1
      simp [Lib.itoa, Lib.decDigits]
    · have hn : wrap64 (-n) = ((n.natAbs : Nat) : Int) := by rw [w64 (by omega) (by omega)]; omega
      refine Ev.step (fun k => rfl) (Ev.neg c2 (Ev.pos c ?_))
      rw [hn]
      have hl : (Lib.decDigits n.natAbs).length ≤ 20 := by
        rw [Lib.decDigits_length]
        exact Lib.nDigits_le20 _ (by omega)
      refine Ev.bind (digits_nat n.natAbs (by omega) (by omega)) (Ev.pos (by rw [bytes_size]; omega) (Ev.some' ?_))
      rw [show (⟨#[45]⟩ : ByteArray) = ⟨[(45 : UInt8)].toArray⟩ from rfl, app_bytes, Lib.itoa, if_pos c]
      rfl
  · obtain ⟨u, rfl⟩ : ∃ u : Nat, n = (u : Int) := ⟨n.toNat, by omega⟩
    refine Ev.eq (digits_nat u (by omega) (by omega)) ?_
    rw [Lib.itoa, if_neg c, Int.toNat_natCast]
theorem itoa_ev (n : Int) (h0 : -9223372036854775808 ≤ n) (h1 : n ≤ 9223372036854775807) : strconv_Itoa_40.f n = some (numV n) := by
  unfold strconv_Itoa_40.f
  rw [if_pos ⟨h0, h1⟩]
  rfl
/-! ### heads and sums -/
def spV : ByteArray := ⟨#[32]⟩
def headV (x : S33) : ByteArray := (((((numV x.f0 ++ spV) ++ numV x.f1) ++ spV) ++ numV x.f2) ++ spV) ++ x.f3
def intP (n : Int) : Prop := -9223372036854775808 ≤ n ∧ n ≤ 9223372036854775807
def wfE (x : S33) : Prop := intP x.f0 ∧ intP x.f1 ∧ intP x.f2 ∧ intP x.f4 ∧ x.f3.size ≤ 9223372036854775807
theorem headV_size (x : S33) (h : wfE x) (h3 : x.f3.size ≤ 80) : (headV x).size ≤ 200 := by
  have s0 := numV_size x.f0 h.1.1 h.1.2
  have s1 := numV_size x.f1 h.2.1.1 h.2.1.2
  have s2 := numV_size x.f2 h.2.2.1.1 h.2.2.1.2
  have hs : spV.size = 1 := rfl
  unfold headV
  simp only [ByteArray.size_append]
  omega
theorem headOf_ev (x : S33) (h : wfE x) (h3 : x.f3.size ≤ 80) : impl_headOf.f x.f0 x.f1 x.f2 x.f3 x.f4 = some (headV x) := by
  have s0 := numV_size x.f0 h.1.1 h.1.2
  have s1 := numV_size x.f1 h.2.1.1 h.2.1.2
  have s2 := numV_size x.f2 h.2.2.1.1 h.2.2.1.2
  have hs : spV.size = 1 := rfl
  unfold impl_headOf.f headV
  rw [itoa_ev _ h.1.1 h.1.2, itoa_ev _ h.2.1.1 h.2.1.2, itoa_ev _ h.2.2.1.1 h.2.2.1.2, show (⟨#[32]⟩ : ByteArray) = spV from rfl]
  simp only [Option.bind_some, ByteArray.size_append]
  rw [if_pos (by omega), if_pos (by omega), if_pos (by omega), if_pos (by omega), if_pos (by omega), if_pos (by omega)]
theorem specHead_ev (x : S33) (h : wfE x) (h3 : x.f3.size ≤ 80) : Ev (fun k => spec_l10Head.f k x.f0 x.f1 x.f2 x.f3 x.f4) (headV x) := by
  have s0 := numV_size x.f0 h.1.1 h.1.2
  have s1 := numV_size x.f1 h.2.1.1 h.2.1.2
  have s2 := numV_size x.f2 h.2.2.1.1 h.2.2.1.2
  have hs : spV.size = 1 := rfl
  unfold spec_l10Head.f headV
  rw [show (⟨#[32]⟩ : ByteArray) = spV from rfl]
  simp only [ByteArray.size_append]
  exact Ev.bind (digits_ev _ h.1.1 h.1.2) (Ev.pos (by omega) (Ev.bind (digits_ev _ h.2.1.1 h.2.1.2) (Ev.pos (by omega) (Ev.pos (by omega) (Ev.bind (digits_ev _ h.2.2.1.1 h.2.2.1.2) (Ev.pos (by omega) (Ev.pos (by omega) (Ev.pos (by omega) (Ev.some' rfl)))))))))
def stepV (s c : Int) : Int := Int.tmod (wrap64 ((wrap64 ((wrap64 (257 * s)) + (wrap64 c))) + 1)) 998244353
def sumV : Nat → Int → ByteArray → Nat → Int
  | 0, s, _, _ => s
  | d + 1, s, b, i => sumV d (stepV s (bt b i)) b (i + 1)
theorem chained_l0 (b : ByteArray) (hb : b.size < 1000000) : ∀ (d : Nat) (s : Int) (i : Nat), i + d = b.size → Ev (fun k => impl_chained.l0 k s b (b.size : Int) (i : Int)) (sumV d s b i) := by
  intro d
  induction d with
  | zero => intro s i h; exact Ev.step (fun k => rfl) (Ev.neg (by omega) (Ev.some' rfl))
  | succ d ih =>
    intro s i h
    refine Ev.step (fun k => rfl) (Ev.pos (by omega) (Ev.pos (by omega) (Ev.pos (by omega) ?_)))
    rw [w64n (by omega)]
    exact ih (stepV s (bt b i)) (i + 1) (by omega)
theorem chained_ev (s : Int) (b : ByteArray) (hb : b.size < 1000000) : Ev (fun k => impl_chained.f k s b) (sumV b.size s b 0) := chained_l0 b hb b.size s 0 (by omega)
theorem specSum_l0 (b : ByteArray) (hb : b.size < 1000000) : ∀ (d : Nat) (s : Int) (i : Nat), i + d = b.size → Ev (fun k => spec_l10Sum.l0 k s b (i : Int)) (sumV d s b i) := by
  intro d
  induction d with
  | zero => intro s i h; exact Ev.step (fun k => rfl) (Ev.neg (by omega) (Ev.some' rfl))
  | succ d ih =>
    intro s i h
    refine Ev.step (fun k => rfl) (Ev.pos (by omega) (Ev.pos (by omega) ?_))
    rw [w64n (by omega), Int.mul_comm s 257]
    exact ih (stepV s (bt b i)) (i + 1) (by omega)
def nextV (s : Int) (x : S33) : Int := sumV (headV x).size s (headV x) 0
theorem specSum_ev (s : Int) (x : S33) (h : wfE x) (h3 : x.f3.size ≤ 80) : Ev (fun k => spec_l10Sum.f k s x.f0 x.f1 x.f2 x.f3 x.f4) (nextV s x) := by
  have := headV_size x h h3
  unfold spec_l10Sum.f
  exact Ev.bind (specHead_ev x h h3) (specSum_l0 (headV x) (by omega) (headV x).size s 0 (by omega))
/-! ### right entries -/
def bytesB (s : ByteArray) : Nat → Nat → Bool
  | 0, _ => true
  | d + 1, i => decide (32 ≤ bt s i ∧ bt s i ≤ 126) && bytesB s d (i + 1)
def rightV (x : S33) : Bool := decide (1 ≤ x.f1 ∧ x.f1 ≤ 9) && (decide (-1000000000 ≤ x.f2 ∧ x.f2 ≤ 1000000000) && (decide (x.f3.size ≤ 80) && bytesB x.f3 x.f3.size 0))
theorem right_size {x : S33} (h : rightV x = true) : x.f3.size ≤ 80 := by
  unfold rightV at h
  simp only [Bool.and_eq_true, decide_eq_true_eq] at h
  exact h.2.2.1
theorem isMoney_ev (n : Int) : impl_isMoney.f n = some (decide (-1000000000 ≤ n ∧ n ≤ 1000000000)) := by
  unfold impl_isMoney.f
  rw [within_ev]
  rfl
theorem money_ev (n : Int) : spec_l01Money.f n = some (decide (-1000000000 ≤ n ∧ n ≤ 1000000000)) := by
  unfold spec_l01Money.f
  rw [l01In_ev]
  rfl
theorem isEntry_l0 (s : ByteArray) (hs : s.size ≤ 80) (a b c e : Int) : ∀ (d i : Nat), i + d = s.size → Ev (fun k => impl_isEntry.l0 k (s.size : Int) (i : Int) a b c s e) (bytesB s d i) := by
  intro d
  induction d with
  | zero => intro i h; exact Ev.up1 (by simp only [impl_isEntry.l0]; exact Ev.neg (by omega) (Ev.some' rfl))
  | succ d ih =>
    intro i h
    have hb := bt_range s (i : Int)
    refine Ev.up1 ?_
    simp only [impl_isEntry.l0]
    refine Ev.pos (by omega) (Ev.pos (by omega) (Ev.pos (by omega) ?_))
    rw [w64 (x := bt s i) (by omega) (by omega)]
    refine Ev.ret (within_ev _ _ _) ?_
    rw [bytesB, w64n (by omega)]
    by_cases c1 : 32 ≤ bt s i ∧ bt s i ≤ 126
    · rw [decide_eq_true c1]
      exact Ev.pos rfl (ih (i + 1) (by omega))
    · rw [decide_eq_false c1]
      exact Ev.neg ff (Ev.some' rfl)
theorem isEntry_ev (x : S33) : Ev (fun k => impl_isEntry.f k x.f0 x.f1 x.f2 x.f3 x.f4) (rightV x) := by
  have hbad : Ev (fun k => impl_isEntry.j0 k true x.f0 x.f1 x.f2 x.f3 x.f4) false := Ev.up1 (by simp only [impl_isEntry.j0]; exact Ev.pos trivial (Ev.some' rfl))
  unfold impl_isEntry.f rightV
  refine Ev.ret (within_ev _ _ _) ?_
  by_cases c1 : 1 ≤ x.f1 ∧ x.f1 ≤ 9
  · rw [decide_eq_true c1]
    refine Ev.pos rfl (Ev.ret (isMoney_ev _) ?_)
    by_cases c2 : -1000000000 ≤ x.f2 ∧ x.f2 ≤ 1000000000
    · rw [decide_eq_true c2]
      refine Ev.pos rfl ?_
      by_cases c3 : x.f3.size ≤ 80
      · rw [decide_eq_true c3, decide_eq_false (show ¬ (x.f3.size : Int) > 80 by omega)]
        refine Ev.up1 ?_
        simp only [impl_isEntry.j0]
        exact Ev.neg ff (isEntry_l0 x.f3 c3 _ _ _ _ x.f3.size 0 (by omega))
      · rw [decide_eq_false c3, decide_eq_true (show (x.f3.size : Int) > 80 by omega)]
        exact hbad
    · rw [decide_eq_false c2]
      exact Ev.neg ff hbad
  · rw [decide_eq_false c1]
    exact Ev.neg ff hbad
theorem right_l0 (s : ByteArray) (hs : s.size ≤ 80) (a b c e : Int) : ∀ (d i : Nat), i + d = s.size → Ev (fun k => spec_l10Right.l0 k (i : Int) a b c s e) (bytesB s d i) := by
  intro d
  induction d with
  | zero => intro i h; exact Ev.up1 (by simp only [spec_l10Right.l0]; exact Ev.neg (by omega) (Ev.some' rfl))
  | succ d ih =>
    intro i h
    refine Ev.up1 ?_
    simp only [spec_l10Right.l0]
    refine Ev.pos (by omega) (Ev.pos (by omega) ?_)
    rw [bytesB, w64n (by omega)]
    by_cases c1 : bt s i < 32
    · rw [decide_eq_false (by omega)]
      exact Ev.pos c1 (Ev.some' rfl)
    · refine Ev.neg c1 ?_
      by_cases c2 : bt s i > 126
      · rw [decide_eq_false (by omega)]
        exact Ev.pos c2 (Ev.some' rfl)
      · rw [decide_eq_true (by omega)]
        exact Ev.neg c2 (ih (i + 1) (by omega))
theorem right_ev (x : S33) : Ev (fun k => spec_l10Right.f k x.f0 x.f1 x.f2 x.f3 x.f4) (rightV x) := by
  have hbad : Ev (fun k => spec_l10Right.j0 k true x.f0 x.f1 x.f2 x.f3 x.f4) false := Ev.up1 (by simp only [spec_l10Right.j0]; exact Ev.pos trivial (Ev.some' rfl))
  unfold spec_l10Right.f rightV
  refine Ev.ret (l01In_ev _ _ _) ?_
  by_cases c1 : 1 ≤ x.f1 ∧ x.f1 ≤ 9
  · rw [decide_eq_true c1]
    refine Ev.pos rfl (Ev.ret (money_ev _) ?_)
    by_cases c2 : -1000000000 ≤ x.f2 ∧ x.f2 ≤ 1000000000
    · rw [decide_eq_true c2]
      refine Ev.pos rfl ?_
      by_cases c3 : x.f3.size ≤ 80
      · rw [decide_eq_true c3, decide_eq_false (show ¬ (x.f3.size : Int) > 80 by omega)]
        refine Ev.up1 ?_
        simp only [spec_l10Right.j0]
        exact Ev.neg ff (right_l0 x.f3 c3 _ _ _ _ x.f3.size 0 (by omega))
      · rw [decide_eq_false c3, decide_eq_true (show (x.f3.size : Int) > 80 by omega)]
        exact hbad
    · rw [decide_eq_false c2]
      exact Ev.neg ff hbad
  · rw [decide_eq_false c1]
    exact Ev.neg ff hbad
/-! ### a journal looked through -/
def checkV : List S33 → Nat → Int → Int × Int
  | [], _, _ => (0, 0)
  | x :: a, i, s => if rightV x = true then (if x.f0 = ((i + 1 : Nat) : Int) then (if x.f4 = nextV s x then checkV a (i + 1) (nextV s x) else (15, (i : Int))) else (3, (i : Int))) else (1, (i : Int))
theorem rd_Entry_mid (p : List S33) (x : S33) (r : List S33) : rd_T33 (p ++ x :: r) (p.length : Int) = x := getD_mid p x r z33
theorem rd_Entry_nat (l : List S33) (i : Nat) : rd_T33 l (i : Int) = l.getD i z33 := by
  unfold rd_T33
  rw [Int.toNat_natCast]
theorem check_l0 : ∀ (a p : List S33) (s : Int), (∀ x ∈ a, wfE x) → (p ++ a).length < 1000 → Ev (fun k => impl_checkJournal.l0 k s (p ++ a) ((p ++ a).length : Int) (p.length : Int)) (checkV a p.length s) := by
  intro a
  induction a with
  | nil => intro p s _ _; exact Ev.step (fun k => rfl) (Ev.neg (len_end p) (Ev.some' rfl))
  | cons x a ih =>
    intro p s hw hl
    have hl' := hl
    rw [List.length_append, List.length_cons] at hl'
    have hx := hw x (by simp)
    refine Ev.step (fun k => rfl) (Ev.pos (len_lt p x a) (Ev.pos (by omega) (Ev.pos (len_lt p x a) ?_)))
    rw [rd_Entry_mid, checkV]
    refine Ev.bind (isEntry_ev x) (Ev.ite (fun c1 => ?_) (fun _ => Ev.some' rfl))
    have h3 := right_size c1
    have hz := headV_size x hx h3
    rw [w64n (by omega)]
    refine Ev.ite (fun c2 => ?_) (fun _ => Ev.some' rfl)
    refine Ev.ret (headOf_ev x hx h3) (Ev.bind (chained_ev s (headV x) (by omega)) ?_)
    refine Ev.ite (fun c3 => ?_) (fun _ => Ev.some' rfl)
    have := ih (p ++ [x]) (nextV s x) (fun z hz => hw z (by simp [hz])) (by rw [← snoc]; exact hl)
    rw [← snoc, len_snoc, show (p ++ [x]).length = p.length + 1 by simp] at this
    exact this
theorem specCheck_l0 : ∀ (a p : List S33) (s : Int), (∀ x ∈ a, wfE x) → (p ++ a).length < 1000 → Ev (fun k => spec_CheckJournal.l0 k (p ++ a) s (p.length : Int)) (checkV a p.length s) := by
  intro a
  induction a with
  | nil => intro p s _ _; exact Ev.step (fun k => rfl) (Ev.neg (len_end p) (Ev.some' rfl))
  | cons x a ih =>
    intro p s hw hl
    have hl' := hl
    rw [List.length_append, List.length_cons] at hl'
    have hx := hw x (by simp)
    refine Ev.step (fun k => rfl) (Ev.pos (len_lt p x a) (Ev.pos (by omega) ?_))
    rw [rd_Entry_mid, checkV]
    refine Ev.bind (right_ev x) (Ev.ite (fun c1 => ?_) (fun _ => Ev.some' rfl))
    have h3 := right_size c1
    rw [w64n (by omega)]
    refine Ev.ite (fun c2 => ?_) (fun _ => Ev.some' rfl)
    refine Ev.bind (specSum_ev s x hx h3) ?_
    refine Ev.ite (fun c3 => ?_) (fun _ => Ev.some' rfl)
    have := ih (p ++ [x]) (nextV s x) (fun z hz => hw z (by simp [hz])) (by rw [← snoc]; exact hl)
    rw [← snoc, len_snoc, show (p ++ [x]).length = p.length + 1 by simp] at this
    exact this
/-- What is said of any list. -/
def checkJ (l : List S33) : Int × Int := if (l.length : Int) > 4096 then (2, 0) else if (l.length : Int) > 200 then (9, 0) else checkV l 0 1
theorem implCheck_ev (l : List S33) (hw : ∀ x ∈ l, wfE x) : Ev (fun k => impl_CheckJournal.f k l) (checkJ l) := by
  unfold impl_CheckJournal.f checkJ
  refine Ev.ret (show impl_Entry.f l = some (decide ((l.length : Int) ≤ 4096)) from rfl) ?_
  by_cases c1 : (l.length : Int) > 4096
  · rw [if_pos c1, decide_eq_false (by omega)]
    exact Ev.neg ff (Ev.some' rfl)
  · rw [if_neg c1, decide_eq_true (by omega)]
    refine Ev.pos rfl (Ev.bind (a := if (l.length : Int) > 200 then (9, 0) else checkV l 0 1) ?_ (Ev.some' rfl))
    unfold impl_checkJournal.f
    exact Ev.ite (fun _ => Ev.some' rfl) (fun c2 => check_l0 l [] 1 hw (by simp; omega))
theorem specCheck_ev (l : List S33) (hw : ∀ x ∈ l, wfE x) : Ev (fun k => spec_CheckJournal.f k l) (checkJ l) := by
  unfold spec_CheckJournal.f checkJ
  exact Ev.ite (fun _ => Ev.some' rfl) (fun _ => Ev.ite (fun _ => Ev.some' rfl) (fun c2 => specCheck_l0 l [] 1 hw (by simp; omega)))
theorem rdl_Entry_mid (p : List S73) (x : S73) (r : List S73) : rd_T73 (p ++ x :: r) (p.length : Int) = x := getD_mid p x r z73
def toEntryV (x : S73) : S33 := ⟨x.f0, x.f1, x.f2, x.f3, x.f4⟩
theorem toEntry_ev (x : S73) : laws_toEntry.f x.f0 x.f1 x.f2 x.f3 x.f4 = some (x.f0, x.f1, x.f2, x.f3, x.f4) := rfl
theorem toEntryS_l0 : ∀ (a p : List S73) (t : List S33), t.length = a.length → (p ++ a).length < 4611686018427387904 →
    Ev (fun k => laws_toEntryS.l0 k (p ++ a) (p.map toEntryV ++ t) (p.length : Int)) ((p ++ a).map toEntryV) := by
  intro a
  induction a with
  | nil =>
    intro p t ht hl
    obtain rfl : t = [] := List.eq_nil_of_length_eq_zero ht
    exact Ev.step (fun k => rfl) (Ev.neg (len_end p) (Ev.some' (by simp)))
  | cons x a ih =>
    intro p t ht hl
    match t, ht with
    | y :: t, ht =>
      have hl' : (p ++ x :: a).length < 4611686018427387904 := hl
      rw [List.length_append, List.length_cons] at hl'
      refine Ev.step (fun k => rfl) (Ev.pos (len_lt p x a) (Ev.pos (by omega) ?_))
      rw [rdl_Entry_mid]
      refine Ev.ret (toEntry_ev x) (Ev.pos (by simp; omega) ?_)
      have hs : (p.map toEntryV ++ y :: t).set (p.length : Int).toNat ⟨x.f0, x.f1, x.f2, x.f3, x.f4⟩ = p.map toEntryV ++ toEntryV x :: t := by
        rw [show (p.length : Int) = ((p.map toEntryV).length : Int) by simp]
        exact set_mid _ _ _ _
      rw [hs, w64 (by omega) (by omega), ← len_snoc p x, snoc p x a, snoc _ (toEntryV x) t]
      rw [show p.map toEntryV ++ [toEntryV x] = (p ++ [x]).map toEntryV by simp]
      exact ih (p ++ [x]) t (by simpa using ht) (by rw [← snoc]; exact hl)
theorem toEntryS_ev (a : List S73) (hl : a.length ≤ 1048576) : Ev (fun k => laws_toEntryS.f k a) (a.map toEntryV) := by
  unfold laws_toEntryS.f
  refine Ev.pos (by omega) (Ev.pos (by omega) ?_)
  rw [Int.toNat_natCast]
  exact toEntryS_l0 a [] (List.replicate a.length z33) (by simp) (by simp; omega)
theorem eqEntry_ev (x : S33) : laws_eqEntry.f x.f0 x.f1 x.f2 x.f3 x.f4 x.f0 x.f1 x.f2 x.f3 x.f4 = some true := by
  unfold laws_eqEntry.f
  simp
theorem eqEntryS_l0 : ∀ (a p : List S33), (p ++ a).length < 4611686018427387904 →
    Ev (fun k => laws_eqEntryS.l0 k (p ++ a) (p ++ a) (p.length : Int)) true := by
  intro a
  induction a with
  | nil =>
    intro p hl
    exact Ev.step (fun k => rfl) (Ev.neg (len_end p) (Ev.some' rfl))
  | cons x a ih =>
    intro p hl
    have hl' : (p ++ x :: a).length < 4611686018427387904 := hl
    rw [List.length_append, List.length_cons] at hl'
    refine Ev.step (fun k => rfl) (Ev.pos (len_lt p x a) (Ev.pos (by omega) (Ev.pos (len_lt p x a) ?_)))
    rw [rd_Entry_mid]
    refine Ev.ret (eqEntry_ev x) (Ev.pos (by first | rfl | trivial) ?_)
    rw [w64 (by omega) (by omega), ← len_snoc p x, snoc p x a]
    exact ih (p ++ [x]) (by rw [← snoc]; exact hl)
theorem eqEntryS_ev (a : List S33) (hl : a.length < 4611686018427387904) : Ev (fun k => laws_eqEntryS.f k a a) true := by
  unfold laws_eqEntryS.f
  exact Ev.pos (by first | rfl | trivial) (eqEntryS_l0 a [] hl)
theorem szEntryS_l0 : ∀ (a p : List S73) (b : Int), (p ++ a).length < 4611686018427387904 → 0 ≤ b → b ≤ 1048576 → (∀ x ∈ a, x.f3.size ≤ 9223372036854775807) → ∃ r, Ev (fun k => laws_szEntryS.l0 k (p ++ a) b (p.length : Int)) r := by
  intro a
  induction a with
  | nil => intro p b _ _ _ _; exact ⟨_, Ev.step (fun k => rfl) (Ev.neg (len_end p) (Ev.some' rfl))⟩
  | cons x a ih =>
    intro p b hl h0 h1 hx
    have hl' := hl
    rw [List.length_append, List.length_cons] at hl'
    have hs := hx x (by simp)
    have r1 : rd_T73 (p ++ x :: a) (p.length : Int) = x := getD_mid p x a z73
    have e1 : ∃ t : Int, laws_szEntry.f x.f0 x.f1 x.f2 x.f3 x.f4 b = some t ∧ (t < 0 ∨ (0 ≤ t ∧ t ≤ 1048576)) := by
      unfold laws_szEntry.f
      rw [w64 (by omega) (by omega)]
      by_cases c : b - (x.f3.size : Int) < 0
      · rw [if_pos c]; exact ⟨_, rfl, .inl (by omega)⟩
      · rw [if_neg c]; exact ⟨_, rfl, .inr (by omega)⟩
    obtain ⟨t, e1, e2⟩ := e1
    by_cases c : t < 0
    · refine ⟨-1, Ev.step (fun k => rfl) (Ev.pos (len_lt p x a) (Ev.pos (by omega) ?_))⟩
      rw [r1]
      exact Ev.ret e1 (Ev.pos c (Ev.some' rfl))
    · obtain ⟨r, hr⟩ := ih (p ++ [x]) t (by rw [← snoc]; exact hl) (by omega) (by omega) (fun y hy => hx y (by simp [hy]))
      refine ⟨r, Ev.step (fun k => rfl) (Ev.pos (len_lt p x a) (Ev.pos (by omega) ?_))⟩
      rw [r1]
      refine Ev.ret e1 (Ev.neg c ?_)
      rw [w64 (by omega) (by omega), ← len_snoc p x, snoc p x a]
      exact hr
theorem szEntryS_ev (l : List S73) (b : Int) (hb : 0 ≤ b ∧ b ≤ 1048576) (hl : l.length ≤ 9223372036854775807) (hx : ∀ x ∈ l, x.f3.size ≤ 9223372036854775807) : ∃ r, Ev (fun k => laws_szEntryS.f k l b) r ∧ (r < 0 ∨ l.length ≤ 1048576) := by
  unfold laws_szEntryS.f
  rw [w64 (by omega) (by omega)]
  by_cases c : b - (l.length : Int) < 0
  · exact ⟨-1, Ev.pos c (Ev.some' rfl), .inl (by omega)⟩
  · obtain ⟨r, hr⟩ := szEntryS_l0 l [] (b - (l.length : Int)) (by simp; omega) (by omega) (by omega) hx
    exact ⟨r, Ev.neg c hr, .inr (by omega)⟩
theorem wfE_of {l : List S73} (h : ∀ x ∈ l, wfT73 x) : ∀ x ∈ l.map toEntryV, wfE x := by
  intro x hx
  obtain ⟨y, hy, rfl⟩ := List.mem_map.1 hx
  have := h y hy
  exact ⟨i64_wf this.1, i64_wf this.2.1, i64_wf this.2.2.1, i64_wf this.2.2.2.2, this.2.2.2.1⟩
def nlV : ByteArray := ⟨#[10]⟩
def lineV (x : S33) : ByteArray := (((numV x.f4 ++ spV) ++ headV x) ++ nlV)
def textV : List S33 → ByteArray → ByteArray
  | [], t => t
  | x :: a, t => textV a (t ++ lineV x)
theorem lineV_size (x : S33) (h : wfE x) (h3 : x.f3.size ≤ 80) : (lineV x).size ≤ 300 := by
  have s := headV_size x h h3
  have s4 := numV_size x.f4 h.2.2.2.1.1 h.2.2.2.1.2
  have e1 : spV.size = 1 := rfl
  have e2 : nlV.size = 1 := rfl
  unfold lineV
  simp only [ByteArray.size_append]
  omega
theorem implText_l0 : ∀ (a p : List S33) (t : ByteArray), (∀ x ∈ a, wfE x ∧ x.f3.size ≤ 80) → (p ++ a).length < 1000 → t.size ≤ 300 * p.length →
    Ev (fun k => impl_JournalText.l0 k (p ++ a) t (p.length : Int)) (textV a t) := by
  intro a
  induction a with
  | nil => intro p t _ _ _; exact Ev.step (fun k => rfl) (Ev.neg (len_end p) (Ev.some' rfl))
  | cons x a ih =>
    intro p t hw hl ht
    have hl' := hl
    rw [List.length_append, List.length_cons] at hl'
    obtain ⟨hx, h3⟩ := hw x (by simp)
    have s := headV_size x hx h3
    have s4 := numV_size x.f4 hx.2.2.2.1.1 hx.2.2.2.1.2
    have sl := lineV_size x hx h3
    refine Ev.step (fun k => rfl) (Ev.pos (len_lt p x a) ?_)
    rw [rd_Entry_mid, w64 (by omega) (by omega), ← len_snoc p x, snoc p x a]
    refine Ev.ret (itoa_ev _ hx.2.2.2.1.1 hx.2.2.2.1.2) (Ev.ret (headOf_ev x hx h3) (Ev.pos (by omega) (Ev.pos (show t.size + (lineV x).size ≤ 140737488355328 by omega) ?_)))
    exact ih (p ++ [x]) (t ++ lineV x) (fun z hz => hw z (by simp [hz])) (by rw [← snoc]; exact hl) (by rw [ByteArray.size_append, List.length_append, List.length_singleton]; omega)
theorem app_assoc (a b c : ByteArray) : (a ++ b) ++ c = a ++ (b ++ c) := by
  apply ByteArray.ext
  simp
theorem checkV_ok : ∀ (a : List S33) (i : Nat) (s : Int), (checkV a i s).1 = 0 → ∀ x ∈ a, x.f3.size ≤ 80 := by
  intro a
  induction a with
  | nil => intro i s _ x hx; cases hx
  | cons y a ih =>
    intro i s h x hx
    rw [checkV] at h
    by_cases c1 : rightV y = true
    · rw [if_pos c1] at h
      by_cases c2 : y.f0 = ((i + 1 : Nat) : Int)
      · rw [if_pos c2] at h
        by_cases c3 : y.f4 = nextV s y
        · rw [if_pos c3] at h
          rcases List.mem_cons.1 hx with rfl | hx
          · exact right_size c1
          · exact ih _ _ h x hx
        · rw [if_neg c3] at h
          exact absurd h (show ¬ (15 : Int) = 0 by decide)
      · rw [if_neg c2] at h
        exact absurd h (show ¬ (3 : Int) = 0 by decide)
    · rw [if_neg c1] at h
      exact absurd h (show ¬ (1 : Int) = 0 by decide)
theorem checkJ_ok {l : List S33} (h : (checkJ l).1 = 0) : l.length ≤ 200 ∧ ∀ x ∈ l, x.f3.size ≤ 80 := by
  unfold checkJ at h
  split at h
  · exact absurd h (by decide)
  · split at h
    · exact absurd h (by decide)
    · exact ⟨by omega, checkV_ok l 0 1 h⟩
def textJ (l : List S33) : ByteArray × Int := if (checkJ l).1 = 0 then (textV l ⟨#[]⟩, 0) else (⟨#[]⟩, (checkJ l).1)
theorem implText_ev (l : List S33) (hw : ∀ x ∈ l, wfE x) : Ev (fun k => impl_JournalText.f k l) (textJ l) := by
  unfold impl_JournalText.f textJ
  refine Ev.bind (implCheck_ev l hw) (Ev.ite (fun h => ?_) (fun _ => Ev.some' rfl))
  obtain ⟨h1, h2⟩ := checkJ_ok h
  exact Ev.bind (implText_l0 l [] ⟨#[]⟩ (fun x hx => ⟨hw x hx, h2 x hx⟩) (by simp; omega) (Nat.zero_le _)) (Ev.some' rfl)
theorem specText_l0 : ∀ (a p : List S33) (t : ByteArray), (∀ x ∈ a, wfE x ∧ x.f3.size ≤ 80) → (p ++ a).length < 1000 → t.size ≤ 300 * p.length →
    Ev (fun k => spec_JournalText.l0 k (p ++ a) t (p.length : Int)) (textV a t, 0) := by
  intro a
  induction a with
  | nil => intro p t _ _ _; exact Ev.step (fun k => rfl) (Ev.neg (len_end p) (Ev.some' rfl))
  | cons x a ih =>
    intro p t hw hl ht
    have hl' := hl
    rw [List.length_append, List.length_cons] at hl'
    obtain ⟨hx, h3⟩ := hw x (by simp)
    have s := headV_size x hx h3
    have s4 := numV_size x.f4 hx.2.2.2.1.1 hx.2.2.2.1.2
    have sl := lineV_size x hx h3
    have e1 : spV.size = 1 := rfl
    refine Ev.step (fun k => rfl) (Ev.pos (len_lt p x a) (Ev.pos (by omega) ?_))
    rw [rd_Entry_mid, w64 (by omega) (by omega), ← len_snoc p x, snoc p x a]
    refine Ev.bind (digits_ev _ hx.2.2.2.1.1 hx.2.2.2.1.2) (Ev.pos (by omega) (Ev.bind (specHead_ev x hx h3) (Ev.pos (show (numV x.f4 ++ spV).size + (headV x).size ≤ 9223372036854775807 by rw [ByteArray.size_append]; omega) (Ev.pos (show ((numV x.f4 ++ spV) ++ headV x).size + 1 ≤ 9223372036854775807 by rw [ByteArray.size_append, ByteArray.size_append]; omega) (Ev.pos (show t.size + (lineV x).size ≤ 9223372036854775807 by omega) ?_)))))
    exact ih (p ++ [x]) (t ++ lineV x) (fun z hz => hw z (by simp [hz])) (by rw [← snoc]; exact hl) (by rw [ByteArray.size_append, List.length_append, List.length_singleton]; omega)
theorem specText_ev (l : List S33) (hw : ∀ x ∈ l, wfE x) : Ev (fun k => spec_JournalText.f k l) (textJ l) := by
  unfold spec_JournalText.f textJ
  refine Ev.bind (specCheck_ev l hw) (Ev.ite (fun h => ?_) (fun _ => Ev.some' rfl))
  obtain ⟨h1, h2⟩ := checkJ_ok h
  exact specText_l0 l [] ⟨#[]⟩ (fun x hx => ⟨hw x hx, h2 x hx⟩) (by simp; omega) (Nat.zero_le _)

theorem FnExactJournalText : laws_FnExactJournalText.Pure := by
  intro l hl
  refine Ev.rounds (?_ : Ev (fun k => laws_FnExactJournalText.f k l) true)
  unfold laws_FnExactJournalText.f
  obtain ⟨r, hr, h⟩ := szEntryS_ev l 1048576 (by omega) hl.1 (fun x hx => (hl.2 x hx).2.2.2.1)
  refine Ev.bind hr ?_
  by_cases c : r < 0
  · exact Ev.pos c (Ev.some' rfl)
  have h2 : l.length ≤ 1048576 := h.resolve_left c
  have tR := toEntryS_ev l h2
  have hw := wfE_of hl.2
  have eE := eqEntryS_ev (l.map toEntryV) (by simp; omega)
  refine Ev.neg c (Ev.bind tR (Ev.bind (specText_ev _ hw) (Ev.bind tR (Ev.bind (implText_ev _ hw) (Ev.pos rfl (Ev.up1 ?_))))))
  simp only [laws_FnExactJournalText.j0]
  exact Ev.neg (by simp) (Ev.bind tR (Ev.bind eE (Ev.pos rfl (Ev.some' rfl))))

end Go.Proofs.YtjggnfkhdkgeaaaDoor.Pure
