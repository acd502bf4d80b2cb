/- At every argument the program's ItemsOK answers as the reference's: the law's plain statement, with no condition. -/
import Derived.Test.YtglfajnagdpkeaaDoorXFnExactItemsOKx8
import Derived.Test.YtglfajnagdpkeaaDoorAx
import Derived.Test.YtglfajnagdpkeaaDoorIdx
import Derived.Lib.ItoaLen
import Derived.Lib.AtoiAllCases
namespace Go.Proofs.YtglfajnagdpkeaaDoor.Pure
open Go.RowKit Go.Proofs.YtglfajnagdpkeaaDoor.XFnExactItemsOK Go.Proofs.YtglfajnagdpkeaaDoorW.PrintWords Go.Proofs.YtglfajnagdpkeaaDoorW.PrintLast
open Go.Proofs.YtglfajnagdpkeaaDoorW.Ax Go.Proofs.YtglfajnagdpkeaaDoorW.Idx
set_option linter.unusedVariables false
set_option linter.unusedSimpArgs false
/-! ### numerals read -/
def isDig (c : UInt8) : Bool := decide (48 ≤ c.toNat ∧ c.toNat ≤ 57)
def valD (a : Nat) (l : List UInt8) : Nat := l.foldl (fun a c => a * 10 + (c.toNat - 48)) a
def natOK (l : List UInt8) : Prop := l ≠ [] ∧ l.length ≤ 18 ∧ l.all isDig = true ∧ (l.head? = some 48 → l.length = 1)
instance (l : List UInt8) : Decidable (natOK l) := by unfold natOK; exact inferInstance
def natR (l : List UInt8) : Option Nat := if natOK l then some (valD 0 l) else none
def minusR : Option Nat → Option Int
  | some u => if u = 0 then none else some (-(u : Int))
  | none => none
def plusR : Option Nat → Option Int
  | some u => some (u : Int)
  | none => none
def numR : List UInt8 → Option Int
  | [] => none
  | c :: r => if c = 45 then minusR (natR r) else plusR (natR (c :: r))
theorem valD_cons (a : Nat) (c : UInt8) (r : List UInt8) : valD a (c :: r) = valD (a * 10 + (c.toNat - 48)) r := List.foldl_cons ..
theorem valD_snoc (c : UInt8) : ∀ (l : List UInt8) (a : Nat), valD a (l ++ [c]) = valD a l * 10 + (c.toNat - 48) := by
  intro l
  induction l with
  | nil => intro a; rfl
  | cons x l ih => intro a; exact ih _
theorem valD_ge : ∀ (l : List UInt8) (a : Nat), a ≤ valD a l := by
  intro l
  induction l with
  | nil => intro a; exact Nat.le_refl _
  | cons x l ih => intro a; have := ih (a * 10 + (x.toNat - 48)); rw [valD_cons]; omega
theorem dig_back {c : UInt8} (h : isDig c = true) : UInt8.ofNat (48 + (c.toNat - 48)) = c := by
  unfold isDig at h
  rw [decide_eq_true_eq] at h
  rw [show 48 + (c.toNat - 48) = c.toNat by omega]
  simp
theorem all_cons' {c : UInt8} {r : List UInt8} (h : (c :: r).all isDig = true) : isDig c = true ∧ r.all isDig = true := by
  rw [List.all_cons, Bool.and_eq_true] at h
  exact h
theorem isDig_iff {c : UInt8} (h : isDig c = true) : 48 ≤ c.toNat ∧ c.toNat ≤ 57 := by
  unfold isDig at h
  rw [decide_eq_true_eq] at h
  exact h
theorem dec_of : ∀ (n : Nat) (l : List UInt8), l.length = n → l ≠ [] → l.all isDig = true → (l.head? = some 48 → l.length = 1) → Lib.decDigits (valD 0 l) = l := by
  intro n
  induction n with
  | zero => intro l hl hne; exact absurd (List.eq_nil_of_length_eq_zero hl) hne
  | succ n ih =>
    intro l hl hne ha hh
    obtain ⟨p, c, rfl⟩ : ∃ p c, l = p ++ [c] := ⟨l.dropLast, l.getLast hne, (List.dropLast_concat_getLast hne).symm⟩
    rw [List.all_append, Bool.and_eq_true] at ha
    obtain ⟨hp, hc⟩ := ha
    have hc : isDig c = true := by simpa using hc
    have hc2 : 48 ≤ c.toNat ∧ c.toNat ≤ 57 := by unfold isDig at hc; simpa using hc
    rw [valD_snoc]
    cases p with
    | nil =>
      show Lib.decDigits (0 * 10 + (c.toNat - 48)) = [c]
      rw [Nat.zero_mul, Nat.zero_add, Lib.decDigits_one (by omega), dig_back hc]
    | cons x p =>
      have hx : x ≠ 48 := fun e => by
        have := hh (by simp [e])
        simp at this
      have hxd : isDig x = true := by simpa using (List.all_eq_true.1 hp) x (by simp)
      have hx2 : 48 ≤ x.toNat ∧ x.toNat ≤ 57 := by unfold isDig at hxd; simpa using hxd
      have hx3 : x.toNat ≠ 48 := fun e => hx (UInt8.toNat_inj.1 (by rw [e]; rfl))
      have hv : 1 ≤ valD 0 (x :: p) := by
        have := valD_ge p (0 * 10 + (x.toNat - 48))
        rw [valD_cons]
        omega
      have hi := ih (x :: p) (by simpa using hl) (by simp) hp (fun e => absurd (by simpa using e) hx)
      generalize valD 0 (x :: p) = v at hv hi ⊢
      rw [Lib.decDigits, dif_neg (by omega), show (v * 10 + (c.toNat - 48)) / 10 = v by omega, show (v * 10 + (c.toNat - 48)) % 10 = c.toNat - 48 by omega, hi, dig_back hc]
theorem ofNat_toNat {d : Nat} (h : d < 10) : (UInt8.ofNat (48 + d)).toNat = 48 + d := by
  rw [UInt8.toNat_ofNat']
  omega
theorem dig_ok {d : Nat} (h : d < 10) : isDig (UInt8.ofNat (48 + d)) = true := by
  unfold isDig
  rw [ofNat_toNat h, decide_eq_true_eq]
  omega
theorem dec_digs (u : Nat) : (Lib.decDigits u).all isDig = true ∧ Lib.decDigits u ≠ [] ∧ valD 0 (Lib.decDigits u) = u ∧ ((Lib.decDigits u).head? = some 48 → u = 0) := by
  induction u using Nat.strongRecOn with
  | _ u ih =>
    by_cases h : u < 10
    · rw [Lib.decDigits_one h]
      refine ⟨by simpa using dig_ok h, by simp, ?_, fun e => ?_⟩
      · show 0 * 10 + ((UInt8.ofNat (48 + u)).toNat - 48) = u
        rw [ofNat_toNat h]
        omega
      · have e2 : UInt8.ofNat (48 + u) = 48 := by simpa using e
        have := ofNat_toNat h
        rw [e2] at this
        have e3 : (48 : UInt8).toNat = 48 := rfl
        omega
    · obtain ⟨h1, h2, h3, h4⟩ := ih (u / 10) (by omega)
      rw [Lib.decDigits, dif_neg h]
      refine ⟨?_, by simp, ?_, fun e => ?_⟩
      · rw [List.all_append, h1]
        simpa using dig_ok (show u % 10 < 10 by omega)
      · rw [valD_snoc, h3, ofNat_toNat (by omega)]
        omega
      · have : (Lib.decDigits (u / 10)).head? = some 48 := by
          cases hd : Lib.decDigits (u / 10) with
          | nil => exact absurd hd h2
          | cons x t => rw [hd] at e; simpa using e
        have := h4 this
        omega
theorem natR_dec (u : Nat) : natR (Lib.decDigits u) = if (Lib.decDigits u).length ≤ 18 then some u else none := by
  obtain ⟨h1, h2, h3, h4⟩ := dec_digs u
  unfold natR
  by_cases c : (Lib.decDigits u).length ≤ 18
  · have e4 : (Lib.decDigits u).head? = some 48 → (Lib.decDigits u).length = 1 := fun e => by
      rw [Lib.decDigits_length, h4 e]
      exact Lib.nDigits_small (by omega)
    rw [if_pos c, if_pos ⟨h2, c, h1, e4⟩, h3]
  · rw [if_neg c, if_neg fun e => c e.2.1]
theorem natR_some {l : List UInt8} {u : Nat} (h : natR l = some u) : l = Lib.decDigits u ∧ l.length ≤ 18 ∧ l.all isDig = true ∧ l ≠ [] ∧ u < 1000000000000000000 ∧ u = valD 0 l := by
  unfold natR at h
  split at h
  · rename_i c
    obtain ⟨c1, c2, c3, c4⟩ := c
    cases h
    have e := dec_of l.length l rfl c1 c3 c4
    refine ⟨e.symm, c2, c3, c1, ?_, rfl⟩
    have h1 := Lib.lt_pow_nDigits (valD 0 l)
    rw [← Lib.decDigits_length, e] at h1
    have h2 : 10 ^ l.length ≤ 10 ^ 18 := Nat.pow_le_pow_right (by omega) c2
    omega
  · cases h
theorem parse_ok : ∀ (l : List UInt8) (a j : Nat), l.all isDig = true → a < 10 ^ j → j + l.length ≤ 18 → Lib.parseUint10 a l = .ok (valD a l) := by
  intro l
  induction l with
  | nil => intro a j _ _ _; rfl
  | cons c l ih =>
    intro a j ha hj hl
    rw [List.all_cons, Bool.and_eq_true] at ha
    have hc2 : 48 ≤ c.toNat ∧ c.toNat ≤ 57 := by have := ha.1; unfold isDig at this; simpa using this
    rw [List.length_cons] at hl
    have hp : 10 ^ j ≤ 10 ^ 17 := Nat.pow_le_pow_right (by omega) (by omega)
    have hp2 : (10 : Nat) ^ 17 = 100000000000000000 := by decide
    rw [Lib.parseUint10, if_pos hc2, if_neg (by omega), if_neg (by omega), valD_cons]
    exact ih _ (j + 1) ha.2 (by rw [Nat.pow_succ]; omega) (by omega)
theorem parseMag_ok {l : List UInt8} {u : Nat} (h : natR l = some u) : Lib.parseMag l = .ok u := by
  obtain ⟨h1, h2, h3, h4, h5, h6⟩ := natR_some h
  unfold Lib.parseMag
  rw [if_neg h4, parse_ok l 0 0 h3 (by decide) (by omega), ← h6]
theorem numR_some {l : List UInt8} {v : Int} (h : numR l = some v) : l = Lib.itoa v ∧ l.length ≤ 19 ∧ Lib.atoiAll l = .ok v ∧ -1000000000000000000 < v ∧ v < 1000000000000000000 ∧ (Lib.decDigits v.natAbs).length ≤ 18 := by
  cases l with
  | nil => cases h
  | cons c r =>
    rw [numR] at h
    split at h
    · rename_i c1
      subst c1
      cases hn : natR r with
      | none => rw [hn] at h; cases h
      | some u =>
        rw [hn, minusR] at h
        split at h
        · cases h
        · rename_i c2
          injection h with h
          subst h
          obtain ⟨h1, h2, h3, h4, h5, h6⟩ := natR_some hn
          have e1 : (-(u : Int)).natAbs = u := by omega
          refine ⟨?_, by rw [List.length_cons]; omega, ?_, by omega, by omega, ?_⟩
          · rw [Lib.itoa, if_pos (by omega), e1, ← h1]
          · rw [Lib.atoiAll_minus, parseMag_ok hn, Lib.signed, if_neg (by omega)]
          · rw [e1, ← h1]
            exact h2
    · rename_i c1
      cases hn : natR (c :: r) with
      | none => rw [hn] at h; cases h
      | some u =>
        rw [hn, plusR] at h
        injection h with h
        subst h
        obtain ⟨h1, h2, h3, h4, h5, h6⟩ := natR_some hn
        have hc2 : 48 ≤ c.toNat ∧ c.toNat ≤ 57 := by
          rw [List.all_cons, Bool.and_eq_true] at h3
          have := h3.1
          unfold isDig at this
          simpa using this
        have e1 : ((u : Int)).natAbs = u := by omega
        refine ⟨?_, by omega, ?_, by omega, by omega, ?_⟩
        · rw [Lib.itoa, if_neg (by omega), Int.toNat_natCast, ← h1]
        · rw [Lib.atoiAll_plain c r (by omega) (by omega), parseMag_ok hn, Lib.signless, if_neg (by omega)]
        · rw [e1, ← h1]
          exact h2
theorem numR_itoa (n : Int) (h : (Lib.decDigits n.natAbs).length ≤ 18) : numR (Lib.itoa n) = some n := by
  by_cases c : n < 0
  · rw [Lib.itoa, if_pos c, numR, if_pos rfl, natR_dec, if_pos h, minusR, if_neg (by omega)]
    congr 1
    omega
  · rw [Lib.itoa, if_neg c]
    have e1 : n.toNat = n.natAbs := by omega
    rw [e1]
    obtain ⟨h1, h2, h3, h4⟩ := dec_digs n.natAbs
    cases hd : Lib.decDigits n.natAbs with
    | nil => exact absurd hd h2
    | cons x t =>
      rw [hd] at h1 h
      have hx : isDig x = true := by
        rw [List.all_cons, Bool.and_eq_true] at h1
        exact h1.1
      have hx2 : 48 ≤ x.toNat ∧ x.toNat ≤ 57 := by unfold isDig at hx; simpa using hx
      have hx3 : x ≠ 45 := fun e => by
        rw [e] at hx2
        have : (45 : UInt8).toNat = 45 := rfl
        omega
      rw [numR, if_neg hx3, ← hd, natR_dec, hd, if_pos h, plusR]
      congr 1
      omega
/-- Where Atoi gives a number that is written so again, and no longer than 18 digits, that number is read. -/
theorem numR_back {l : List UInt8} {v : Int} (h : Lib.itoa v = l) (h2 : (Lib.decDigits v.natAbs).length ≤ 18) : numR l = some v := by
  rw [← h]
  exact numR_itoa v h2
theorem size_len (a : ByteArray) : a.size = a.data.toList.length := Lib.size_eq a
theorem bt_cons (a : ByteArray) (i : Nat) (c : UInt8) (r : List UInt8) (h : a.data.toList.drop i = c :: r) : i < a.size ∧ bt a (i : Int) = (c.toNat : Int) ∧ a.data.toList.drop (i + 1) = r := by
  have hl : i < a.size := by
    rw [size_len]
    rcases Nat.lt_or_ge i a.data.toList.length with q | q
    · exact q
    · rw [List.drop_eq_nil_of_le q] at h; cases h
  refine ⟨hl, ?_, ?_⟩
  · have h2 : a.data.toList[i]? = some c := by
      have : (a.data.toList.drop i)[0]? = some c := by rw [h]; rfl
      simpa using this
    unfold bt
    rw [Int.toNat_natCast, dif_pos hl]
    have h3 : a[i] = c := by
      have : a.data.toList[i]'(by rw [← size_len]; exact hl) = c := by
        rw [List.getElem?_eq_getElem (by rw [← size_len]; exact hl)] at h2
        exact Option.some.inj h2
      rw [← this]
      simp [ByteArray.getElem_eq_getElem_data]
    rw [h3]
  · have := congrArg List.tail h
    simpa using this
theorem ba_ext {a b : ByteArray} (h : a.data.toList = b.data.toList) : a = b := ByteArray.ext (Array.ext' h)
theorem bt_get (a : ByteArray) (i : Nat) (h : i < a.size) : ∃ x, a.data.toList[i]? = some x ∧ bt a (i : Int) = (x.toNat : Int) := by
  cases hd : a.data.toList.drop i with
  | nil =>
    rw [size_len] at h
    have := List.drop_eq_nil_iff.1 hd
    omega
  | cons x r =>
    refine ⟨x, ?_, (bt_cons a i x r hd).2.1⟩
    have : (a.data.toList.drop i)[0]? = some x := by rw [hd]; rfl
    simpa using this
theorem within_ev (a b c : Int) : impl_within.f a b c = some (decide (b ≤ a ∧ a ≤ c)) := by
  unfold impl_within.f
  by_cases h : a ≥ b
  · rw [if_pos h]; congr 1; rw [decide_eq_decide]; omega
  · rw [if_neg h]; congr 1; symm; rw [decide_eq_false_iff_not]; omega
theorem l01In_ev (a b c : Int) : spec_l01In.f a b c = some (decide (b ≤ a ∧ a ≤ c)) := by
  unfold spec_l01In.f
  by_cases h : a ≥ b
  · rw [if_pos h]; congr 1; rw [decide_eq_decide]; omega
  · rw [if_neg h]; congr 1; symm; rw [decide_eq_false_iff_not]; omega
/-! ### digits -/
def digsV (a : ByteArray) : Bool := a.data.toList.all isDig
theorem specAll_l0 (a : ByteArray) (ha : a.size < 4611686018427387904) : ∀ (l : List UInt8) (i : Nat), a.data.toList.drop i = l → i ≤ a.size → Ev (fun k => spec_l02All.l0 k a (i : Int)) (l.all isDig) := by
  intro l
  induction l with
  | nil =>
    intro i hd hi
    have hl : ¬ i < a.size := by
      intro q
      rw [size_len] at q
      have := List.drop_eq_nil_iff.1 hd
      omega
    exact Ev.step (fun k => rfl) (Ev.neg (by omega) (Ev.some' rfl))
  | cons c l ih =>
    intro i hd hi
    obtain ⟨h1, h2, h3⟩ := bt_cons a i c l hd
    refine Ev.step (fun k => rfl) (Ev.pos (by omega) (Ev.pos (by omega) ?_))
    rw [h2, List.all_cons]
    by_cases c1 : (c.toNat : Int) < 48
    · refine Ev.pos c1 (Ev.some' ?_)
      rw [show isDig c = false from decide_eq_false (by omega), Bool.false_and]
    refine Ev.neg c1 ?_
    by_cases c2 : (c.toNat : Int) > 57
    · refine Ev.pos c2 (Ev.some' ?_)
      rw [show isDig c = false from decide_eq_false (by omega), Bool.false_and]
    refine Ev.neg c2 ?_
    rw [w64n (by omega), show isDig c = true from decide_eq_true (by omega), Bool.true_and]
    exact ih (i + 1) h3 (by omega)
theorem specAll_ev (a : ByteArray) (ha : a.size < 4611686018427387904) : Ev (fun k => spec_l02All.f k a) (digsV a) := specAll_l0 a ha _ 0 (by simp) (by omega)
theorem areDigits_ev (a : ByteArray) (ha : a.size < 4611686018427387904) : impl_areDigits.f a = some (digsV a) := if_pos ha
theorem digs_bt {a : ByteArray} (h : digsV a = true) {i : Nat} (hi : i < a.size) : 48 ≤ bt a (i : Int) ∧ bt a (i : Int) ≤ 57 := by
  obtain ⟨x, hx, hb⟩ := bt_get a i hi
  have := isDig_iff (List.all_eq_true.1 h x (List.mem_of_getElem? hx))
  rw [hb]
  omega
theorem digs_ext {a : ByteArray} (h : digsV a = true) (p q : Nat) : digsV (a.extract p q) = true := by
  unfold digsV at *
  rw [Lib.extract_data, List.all_eq_true]
  intro x hx
  exact List.all_eq_true.1 h x (List.mem_of_mem_drop (List.mem_of_mem_take hx))
theorem valD_lt : ∀ (l : List UInt8) (a j : Nat), l.all isDig = true → a < 10 ^ j → valD a l < 10 ^ (j + l.length) := by
  intro l
  induction l with
  | nil => intro a j _ h; exact h
  | cons c l ih =>
    intro a j ha h
    obtain ⟨h1, h2⟩ := all_cons' ha
    have h1 := isDig_iff h1
    have := ih (a * 10 + (c.toNat - 48)) (j + 1) h2 (by rw [Nat.pow_succ]; omega)
    rw [valD_cons, List.length_cons, show j + (l.length + 1) = j + 1 + l.length by omega]
    exact this
theorem atoi_digs (l : List UInt8) (h0 : l ≠ []) (h1 : l.all isDig = true) (h2 : l.length ≤ 18) : Lib.atoiAll l = .ok ((valD 0 l : Nat) : Int) := by
  have hp : Lib.parseMag l = .ok (valD 0 l) := by
    unfold Lib.parseMag
    rw [if_neg h0, parse_ok l 0 0 h1 (by decide) (by omega)]
  have hv := valD_lt l 0 0 h1 (by decide)
  have hq : 10 ^ (0 + l.length) ≤ 10 ^ 18 := Nat.pow_le_pow_right (by omega) (by omega)
  cases l with
  | nil => exact absurd rfl h0
  | cons c r =>
    have hc := isDig_iff (all_cons' h1).1
    rw [Lib.atoiAll_plain c r (by omega) (by omega), hp, Lib.signless, if_neg (by omega)]
/-! ### the check digit -/
def sumC (s : ByteArray) : Nat → Nat → Int → Int
  | 0, _, a => a
  | d + 1, i, a => sumC s d (i + 1) (a + (if i % 2 = 0 then 3 else 1) * (bt s ((s.size - 1 - i : Nat) : Int) - 48))
def endC (n : Int) : Int := Int.tmod (10 - Int.tmod n 10) 10
def chkV (s : ByteArray) : Int := endC (sumC s s.size 0 0)
theorem endC_ev {n : Int} (h : 0 ≤ n) : Int.tmod (wrap64 (10 - (Int.tmod n 10))) 10 = endC n := by
  have : Int.tmod n 10 = n % 10 := Int.tmod_eq_emod_of_nonneg h
  unfold endC
  rw [w64 (by omega) (by omega)]
theorem specCheck_l0 (s : ByteArray) (hs : s.size ≤ 1048576) (hd : digsV s = true) : ∀ (d i : Nat) (a : Int), i + d = s.size → 0 ≤ a → a ≤ 27 * i → Ev (fun k => spec_l02Check.l0 k s a (i : Int)) (endC (sumC s d i a)) := by
  intro d
  induction d with
  | zero =>
    intro i a h h0 h1
    refine Ev.step (fun k => rfl) (Ev.neg (by omega) (Ev.some' ?_))
    exact endC_ev h0
  | succ d ih =>
    intro i a h h0 h1
    have hb := digs_bt hd (show s.size - 1 - i < s.size by omega)
    have e1 : wrap64 ((wrap64 ((s.size : Int) - 1)) - (i : Int)) = ((s.size - 1 - i : Nat) : Int) := by
      rw [w64 (x := (s.size : Int) - 1) (by omega) (by omega), w64 (by omega) (by omega)]
      omega
    have e2 : Int.tmod (i : Int) 2 = ((i % 2 : Nat) : Int) := by rw [Int.tmod_eq_emod_of_nonneg (by omega)]; omega
    refine Ev.step (fun k => rfl) (Ev.pos (by omega) ?_)
    rw [e1, e2]
    refine Ev.pos (by omega) (Ev.pos (by omega) ?_)
    rw [sumC]
    generalize bt s ((s.size - 1 - i : Nat) : Int) = x at hb ⊢
    by_cases c : i % 2 = 0
    · rw [if_pos c]
      refine Ev.pos (by omega) ?_
      rw [w64n (by omega), w64 (x := x) (by omega) (by omega), w64 (x := x - 48) (by omega) (by omega), w64 (x := 3 * (x - 48)) (by omega) (by omega), w64 (by omega) (by omega)]
      exact ih (i + 1) _ (by omega) (by omega) (by omega)
    · rw [if_neg c]
      refine Ev.neg (by omega) ?_
      rw [w64n (by omega), w64 (x := x) (by omega) (by omega), w64 (x := x - 48) (by omega) (by omega), w64 (by omega) (by omega)]
      have := ih (i + 1) (a + 1 * (x - 48)) (by omega) (by omega) (by omega)
      rw [Int.one_mul] at this ⊢
      exact this
theorem specCheck_ev (s : ByteArray) (hs : s.size ≤ 1048576) (hd : digsV s = true) : Ev (fun k => spec_l02Check.f k s) (chkV s) := specCheck_l0 s hs hd s.size 0 0 (by omega) (by omega) (by omega)
theorem implCheck_l0 (s : ByteArray) (hs : s.size ≤ 1048576) (hd : digsV s = true) : ∀ (d i : Nat) (a : Int), i + d = s.size → 0 ≤ a → a ≤ 27 * i → Ev (fun k => impl_checkOf.l0 k s a (if i % 2 = 0 then 3 else 1) ((s.size : Int) - 1 - (i : Int))) (endC (sumC s d i a)) := by
  intro d
  induction d with
  | zero =>
    intro i a h h0 h1
    refine Ev.step (fun k => rfl) (Ev.neg (by omega) (Ev.some' ?_))
    exact endC_ev h0
  | succ d ih =>
    intro i a h h0 h1
    have hb := digs_bt hd (show s.size - 1 - i < s.size by omega)
    rw [sumC]
    have e0 : (s.size : Int) - 1 - (i : Int) = ((s.size - 1 - i : Nat) : Int) := by omega
    have ih := ih (i + 1)
    rw [e0]
    refine Ev.step (fun k => rfl) (Ev.pos (by omega) (Ev.pos (by omega) (Ev.pos (by omega) ?_)))
    generalize hx : bt s ((s.size - 1 - i : Nat) : Int) = x at hb ⊢
    have e3 : (x - 48) % 256 = x - 48 := by omega
    have e4 : wrap64 (((s.size - 1 - i : Nat) : Int) - 1) = (s.size : Int) - 1 - ((i + 1 : Nat) : Int) := by rw [w64 (by omega) (by omega)]; omega
    rw [e3, e4]
    by_cases c : i % 2 = 0
    · rw [if_pos c]
      rw [w64 (x := 3 * (x - 48)) (by omega) (by omega), w64 (x := a + 3 * (x - 48)) (by omega) (by omega), w64 (x := (4 : Int) - 3) (by omega) (by omega)]
      have := ih (a + 3 * (x - 48)) (by omega) (by omega) (by omega)
      rw [if_neg (by omega)] at this
      exact this
    · rw [if_neg c]
      rw [w64 (x := 1 * (x - 48)) (by omega) (by omega), w64 (x := a + 1 * (x - 48)) (by omega) (by omega), w64 (x := (4 : Int) - 1) (by omega) (by omega)]
      have := ih (a + 1 * (x - 48)) (by omega) (by omega) (by omega)
      rw [if_pos (by omega)] at this
      exact this
theorem implCheck_ev (s : ByteArray) (hs : s.size ≤ 1048576) (hd : digsV s = true) : Ev (fun k => impl_checkOf.f k s) (chkV s) := by
  unfold impl_checkOf.f
  rw [w64 (by omega) (by omega)]
  have := implCheck_l0 s hs hd s.size 0 0 (by omega) (by omega) (by omega)
  rw [if_pos rfl, show (s.size : Int) - 1 - ((0 : Nat) : Int) = (s.size : Int) - 1 by omega] at this
  exact this
/-! ### a code read -/
def failS (c : Int) : Int × ByteArray × Int × Int := (0, (⟨#[]⟩ : ByteArray), 0, c)
def num5 (a : ByteArray) : Int := ((valD 0 (a.extract 7 12).data.toList : Nat) : Int)
def innerS (a : ByteArray) : Int × ByteArray × Int × Int := if chkV (a.extract 0 (a.size - 1)) = bt a ((a.size - 1 : Nat) : Int) - 48 then (if a.size = 8 ∨ bt a 0 ≠ 50 then (1, a, 0, 0) else if bt a 1 > 49 then failS 13 else (2 + (bt a 1 - 48), a.extract 2 7, num5 a, 0)) else failS 15
def scanV (a : ByteArray) : Int × ByteArray × Int × Int := if (a.size = 8 ∨ a.size = 13) ∧ digsV a = true then innerS a else failS 4
theorem numberOf_ev (a : ByteArray) (h : digsV a = true) (h5 : a.size = 5) : impl_numberOf.f a = some ((valD 0 a.data.toList : Nat) : Int) := by
  have hl : a.data.toList.length = 5 := by rw [← size_len, h5]
  unfold impl_numberOf.f
  rw [if_pos (by omega), atoi_digs _ (fun e => by rw [e] at hl; cases hl) h (by omega)]
  rfl
theorem implScan_j0 (a : ByteArray) (hs : a.size = 8 ∨ a.size = 13) (hd : digsV a = true) : Ev (fun k => impl_readScan.j0 k a ((a.size : Int) - 1) false) (innerS a) := by
  have hk := implCheck_ev (a.extract 0 (a.size - 1)) (by rw [ByteArray.size_extract]; omega) (digs_ext hd _ _)
  have hb := digs_bt hd (show a.size - 1 < a.size by omega)
  have hb0 : 48 ≤ bt a 0 ∧ bt a 0 ≤ 57 := digs_bt hd (show 0 < a.size by omega)
  have hb1 : 48 ≤ bt a 1 ∧ bt a 1 ≤ 57 := digs_bt hd (show 1 < a.size by omega)
  have e0 : (a.size : Int) - 1 = ((a.size - 1 : Nat) : Int) := by omega
  unfold innerS
  rw [e0]
  refine Ev.up1 ?_
  simp only [impl_readScan.j0]
  refine Ev.neg ff (Ev.pos (by omega) (Ev.pos (by omega) (Ev.pos (by omega) ?_)))
  rw [Int.toNat_natCast]
  refine Ev.bind hk ?_
  generalize chkV (a.extract 0 (a.size - 1)) = q
  generalize bt a ((a.size - 1 : Nat) : Int) = z at hb ⊢
  rw [show (z - 48) % 256 = z - 48 by omega]
  by_cases c : q = z - 48
  rotate_left
  · rw [if_neg c]
    exact Ev.neg (fun e => c e.symm) (Ev.some' rfl)
  rw [if_pos c]
  refine Ev.pos c.symm ?_
  have one : Ev (fun k => impl_readScan.j1 k a true) (1, a, 0, 0) := Ev.up1 (by simp only [impl_readScan.j1]; exact Ev.pos trivial (Ev.some' rfl))
  by_cases c8 : a.size = 8
  · rw [if_pos (Or.inl c8)]
    exact Ev.pos (by omega) one
  refine Ev.neg (by omega) (Ev.pos (by omega) ?_)
  by_cases c50 : bt a 0 = 50
  rotate_left
  · rw [if_pos (Or.inr c50), show (bt a 0 != 50) = true from bne_iff_ne.2 c50]
    exact one
  rw [if_neg (fun e => e.elim c8 (fun h => h c50)), show (bt a 0 != 50) = false from bne_eq_false_iff_eq.2 c50]
  refine Ev.up1 ?_
  simp only [impl_readScan.j1]
  refine Ev.neg ff (Ev.pos (by omega) ?_)
  by_cases c1 : bt a 1 > 49
  · exact Ev.eq (Ev.pos c1 (Ev.some' rfl)) (if_pos c1).symm
  refine Ev.eq (Ev.neg c1 (Ev.pos (by first | trivial | omega) (Ev.pos (by omega) (Ev.pos (by first | trivial | omega) (Ev.pos (by omega) ?_))))) (if_neg c1).symm
  refine Ev.ret (numberOf_ev (a.extract 7 12) (digs_ext hd _ _) (by rw [ByteArray.size_extract]; omega)) (Ev.some' ?_)
  rw [show (bt a 1 - 48) % 256 = bt a 1 - 48 by omega]
  rfl
theorem implScan_ev (a : ByteArray) : Ev (fun k => impl_readScan.f k a) (scanV a) := by
  have bad : ∀ n : Int, Ev (fun k => impl_readScan.j0 k a n true) (failS 4) := fun n => Ev.up1 (by simp only [impl_readScan.j0]; exact Ev.pos trivial (Ev.some' rfl))
  unfold impl_readScan.f scanV
  by_cases c : a.size = 8 ∨ a.size = 13
  · have hj : ∀ b : Bool, digsV a = b → Ev (fun k => impl_readScan.j0 k a (wrap64 ((a.size : Int) - 1)) (!b)) (if (a.size = 8 ∨ a.size = 13) ∧ digsV a = true then innerS a else failS 4) := by
      intro b hb
      cases b with
      | true => rw [if_pos ⟨c, hb⟩, w64 (by omega) (by omega)]; exact implScan_j0 a c hb
      | false => rw [if_neg (fun e => by rw [hb] at e; exact ff e.2)]; exact bad _
    rcases c with c8 | c13
    · exact Ev.pos (by omega) (Ev.ret (areDigits_ev a (by omega)) (hj _ rfl))
    · exact Ev.neg (by omega) (Ev.pos (by omega) (Ev.ret (areDigits_ev a (by omega)) (hj _ rfl)))
  · rw [if_neg (fun e => c e.1)]
    exact Ev.neg (by omega) (Ev.neg (by omega) (bad _))
theorem specNum_l0 (a : ByteArray) (hs : a.size = 13) (hd : digsV a = true) (F : Int → Int × ByteArray × Int × Int) (hF : ∀ v : Int, Ev (fun k => spec_ReadScan.l0 k a v 12) (F v)) : ∀ (r : List UInt8) (i v : Nat), 7 ≤ i → i ≤ 12 → (a.data.toList.drop i).take (12 - i) = r → v < 10 ^ (i - 7) → Ev (fun k => spec_ReadScan.l0 k a (v : Int) (i : Int)) (F ((valD v r : Nat) : Int)) := by
  intro r
  induction r with
  | nil =>
    intro i v h7 h12 hr hv
    have : i = 12 := by
      have := congrArg List.length hr
      rw [List.length_take, List.length_drop, ← size_len, hs, List.length_nil] at this
      omega
    subst this
    exact hF _
  | cons c r ih =>
    intro i v h7 h12 hr hv
    have hi : i < 12 := by
      have := congrArg List.length hr
      rw [List.length_take, List.length_drop, ← size_len, hs, List.length_cons] at this
      omega
    obtain ⟨c', l', hcl⟩ : ∃ c' l', a.data.toList.drop i = c' :: l' := by
      cases h : a.data.toList.drop i with
      | nil => rw [h] at hr; simp at hr
      | cons c' l' => exact ⟨c', l', rfl⟩
    obtain ⟨h1, h2, h3⟩ := bt_cons a i c' l' hcl
    have hb := digs_bt hd h1
    rw [hcl, show 12 - i = (12 - (i + 1)) + 1 by omega, List.take_succ_cons] at hr
    injection hr with hc hr
    subst hc
    have hp : 10 ^ (i - 7) ≤ 10 ^ 5 := Nat.pow_le_pow_right (by omega) (by omega)
    rw [h2] at hb
    refine Ev.up1 ?_
    simp only [spec_ReadScan.l0]
    refine Ev.pos (by omega) (Ev.pos (by omega) (Ev.pos (by omega) ?_))
    rw [h2, w64n (by omega), w64 (x := (c'.toNat : Int)) (by omega) (by omega), w64 (x := (v : Int) * 10) (by omega) (by omega), w64 (x := (v : Int) * 10 + (c'.toNat : Int)) (by omega) (by omega), w64 (by omega) (by omega), show (v : Int) * 10 + (c'.toNat : Int) - 48 = ((v * 10 + (c'.toNat - 48) : Nat) : Int) by omega, valD_cons]
    exact ih (i + 1) (v * 10 + (c'.toNat - 48)) (by omega) (by omega) (by rw [h3]; exact hr) (by rw [show i + 1 - 7 = i - 7 + 1 by omega, Nat.pow_succ]; omega)
theorem specScan_j0 (a : ByteArray) (hs : a.size = 8 ∨ a.size = 13) (hd : digsV a = true) : Ev (fun k => spec_ReadScan.j0 k a (a.size : Int) false) (innerS a) := by
  have hk := specCheck_ev (a.extract 0 (a.size - 1)) (by rw [ByteArray.size_extract]; omega) (digs_ext hd _ _)
  have hb := digs_bt hd (show a.size - 1 < a.size by omega)
  have hb1 : 48 ≤ bt a 1 ∧ bt a 1 ≤ 57 := digs_bt hd (show 1 < a.size by omega)
  have e0 : wrap64 ((a.size : Int) - 1) = ((a.size - 1 : Nat) : Int) := by rw [w64 (by omega) (by omega)]; omega
  unfold innerS
  refine Ev.up1 ?_
  simp only [spec_ReadScan.j0]
  rw [e0]
  refine Ev.neg ff (Ev.pos (by omega) (Ev.pos (by omega) ?_))
  rw [Int.toNat_natCast]
  refine Ev.bind hk (Ev.pos (by omega) ?_)
  generalize chkV (a.extract 0 (a.size - 1)) = q
  generalize bt a ((a.size - 1 : Nat) : Int) = z at hb ⊢
  rw [w64 (x := z) (by omega) (by omega), w64 (by omega) (by omega)]
  refine Ev.ite (fun _ => ?_) (fun _ => Ev.some' rfl)
  have one : Ev (fun k => spec_ReadScan.j1 k a true) (1, a, 0, 0) := Ev.up1 (by simp only [spec_ReadScan.j1]; exact Ev.pos trivial (Ev.some' rfl))
  by_cases c8 : a.size = 8
  · rw [if_pos (Or.inl c8)]
    exact Ev.pos (by omega) one
  have h13 : a.size = 13 := hs.resolve_left c8
  refine Ev.neg (by omega) (Ev.pos (by omega) ?_)
  by_cases c50 : bt a 0 = 50
  rotate_left
  · rw [if_pos (Or.inr c50), show (bt a 0 != 50) = true from bne_iff_ne.2 c50]
    exact one
  rw [if_neg (fun e => e.elim c8 (fun h => h c50)), show (bt a 0 != 50) = false from bne_eq_false_iff_eq.2 c50]
  refine Ev.up1 ?_
  simp only [spec_ReadScan.j1]
  refine Ev.neg ff ?_
  have hF : ∀ v : Int, Ev (fun k => spec_ReadScan.l0 k a v 12) (if bt a 1 > 49 then failS 13 else (2 + (bt a 1 - 48), a.extract 2 7, v, 0)) := by
    intro v
    refine Ev.up1 ?_
    simp only [spec_ReadScan.l0]
    refine Ev.neg (by omega) (Ev.pos (by omega) ?_)
    by_cases d1 : bt a 1 = 48
    · refine Ev.eq (Ev.pos d1 (Ev.pos (by first | trivial | omega) (Ev.pos (by omega) (Ev.some' (r' := (2 + (bt a 1 - 48), a.extract 2 7, v, 0)) (by rw [d1]; rfl))))) (if_neg (by omega)).symm
    · refine Ev.neg d1 ?_
      by_cases d2 : bt a 1 = 49
      · refine Ev.eq (Ev.pos d2 (Ev.pos (by first | trivial | omega) (Ev.pos (by omega) (Ev.some' (r' := (2 + (bt a 1 - 48), a.extract 2 7, v, 0)) (by rw [d2]; rfl))))) (if_neg (by omega)).symm
      · exact Ev.eq (Ev.neg d2 (Ev.some' rfl)) (if_pos (by omega)).symm
  have := specNum_l0 a h13 hd _ hF _ 7 0 (by omega) (by omega) rfl (by decide)
  unfold num5
  rw [Lib.extract_data]
  exact this
theorem specScan_ev (a : ByteArray) (ha : a.size ≤ 65536) : Ev (fun k => spec_ReadScan.f k a) (scanV a) := by
  have bad : ∀ n : Int, Ev (fun k => spec_ReadScan.j0 k a n true) (failS 4) := fun n => Ev.up1 (by simp only [spec_ReadScan.j0]; exact Ev.pos trivial (Ev.some' rfl))
  unfold spec_ReadScan.f scanV
  refine Ev.neg (by omega) ?_
  by_cases c : a.size = 8 ∨ a.size = 13
  · have hj : ∀ b : Bool, digsV a = b → Ev (fun k => spec_ReadScan.j0 k a (a.size : Int) (!b)) (if (a.size = 8 ∨ a.size = 13) ∧ digsV a = true then innerS a else failS 4) := by
      intro b hb
      cases b with
      | true => rw [if_pos ⟨c, hb⟩]; exact specScan_j0 a c hb
      | false => rw [if_neg (fun e => by rw [hb] at e; exact ff e.2)]; exact bad _
    rcases c with c8 | c13
    · exact Ev.pos (by omega) (Ev.bind (specAll_ev a (by omega)) (hj _ rfl))
    · exact Ev.neg (by omega) (Ev.pos (by omega) (Ev.bind (specAll_ev a (by omega)) (hj _ rfl)))
  · rw [if_neg (fun e => c e.1)]
    exact Ev.neg (by omega) (Ev.neg (by omega) (bad _))
theorem specScan_long (a : ByteArray) (ha : ¬ a.size ≤ 65536) : Ev (fun k => spec_ReadScan.f k a) (failS 2) := by
  unfold spec_ReadScan.f
  exact Ev.pos (by omega) (Ev.some' rfl)
theorem szItemS_l0 : ∀ (a p : List S43) (b : Int), (p ++ a).length < 4611686018427387904 → 0 ≤ b → b ≤ 1048576 → (∀ x ∈ a, x.f0.size ≤ 9223372036854775807) → ∃ r, Ev (fun k => laws_szItemS.l0 k (p ++ a) b (p.length : Int)) r := by
  intro a
  induction a with
  | nil => intro p b _ _ _ _; exact ⟨_, Ev.step (fun k => rfl) (Ev.neg (len_end p) (Ev.some' rfl))⟩
  | cons x a ih =>
    intro p b hl h0 h1 hx
    have hl' := hl
    rw [List.length_append, List.length_cons] at hl'
    have hs := hx x (by simp)
    have r1 : rd_T43 (p ++ x :: a) (p.length : Int) = x := getD_mid p x a z43
    have e1 : ∃ t : Int, laws_szItem.f x.f0 x.f1 x.f2 x.f3 x.f4 b = some t ∧ (t < 0 ∨ (0 ≤ t ∧ t ≤ 1048576)) := by
      unfold laws_szItem.f
      rw [w64 (by omega) (by omega)]
      by_cases c : b - (x.f0.size : Int) < 0
      · rw [if_pos c]; exact ⟨_, rfl, .inl (by omega)⟩
      · rw [if_neg c]; exact ⟨_, rfl, .inr (by omega)⟩
    obtain ⟨t, e1, e2⟩ := e1
    by_cases c : t < 0
    · refine ⟨-1, Ev.step (fun k => rfl) (Ev.pos (len_lt p x a) (Ev.pos (by omega) ?_))⟩
      rw [r1]
      exact Ev.ret e1 (Ev.pos c (Ev.some' rfl))
    · obtain ⟨r, hr⟩ := ih (p ++ [x]) t (by rw [← snoc]; exact hl) (by omega) (by omega) (fun y hy => hx y (by simp [hy]))
      refine ⟨r, Ev.step (fun k => rfl) (Ev.pos (len_lt p x a) (Ev.pos (by omega) ?_))⟩
      rw [r1]
      refine Ev.ret e1 (Ev.neg c ?_)
      rw [w64 (by omega) (by omega), ← len_snoc p x, snoc p x a]
      exact hr
theorem szItemS_ev (l : List S43) (b : Int) (hb : 0 ≤ b ∧ b ≤ 1048576) (hl : l.length ≤ 9223372036854775807) (hx : ∀ x ∈ l, x.f0.size ≤ 9223372036854775807) : ∃ r, Ev (fun k => laws_szItemS.f k l b) r ∧ (r < 0 ∨ l.length ≤ 1048576) := by
  unfold laws_szItemS.f
  rw [w64 (by omega) (by omega)]
  by_cases c : b - (l.length : Int) < 0
  · exact ⟨-1, Ev.pos c (Ev.some' rfl), .inl (by omega)⟩
  · obtain ⟨r, hr⟩ := szItemS_l0 l [] (b - (l.length : Int)) (by simp; omega) (by omega) (by omega) hx
    exact ⟨r, Ev.neg c hr, .inr (by omega)⟩
theorem rd_Item_mid (p : List S45) (x : S45) (r : List S45) : rd_T45 (p ++ x :: r) (p.length : Int) = x := getD_mid p x r z45
theorem rd_Item_nat (l : List S45) (i : Nat) : rd_T45 l (i : Int) = l.getD i z45 := by
  unfold rd_T45
  rw [Int.toNat_natCast]
theorem rdl_Item_mid (p : List S43) (x : S43) (r : List S43) : rd_T43 (p ++ x :: r) (p.length : Int) = x := getD_mid p x r z43
def toItemV (x : S43) : S45 := ⟨x.f0, x.f1, x.f2, x.f3, x.f4⟩
theorem toItem_ev (x : S43) : laws_toItem.f x.f0 x.f1 x.f2 x.f3 x.f4 = some (x.f0, x.f1, x.f2, x.f3, x.f4) := rfl
theorem toItemS_l0 : ∀ (a p : List S43) (t : List S45), t.length = a.length → (p ++ a).length < 4611686018427387904 →
    Ev (fun k => laws_toItemS.l0 k (p ++ a) (p.map toItemV ++ t) (p.length : Int)) ((p ++ a).map toItemV) := by
  intro a
  induction a with
  | nil =>
    intro p t ht hl
    obtain rfl : t = [] := List.eq_nil_of_length_eq_zero ht
    exact Ev.step (fun k => rfl) (Ev.neg (len_end p) (Ev.some' (by simp)))
  | cons x a ih =>
    intro p t ht hl
    match t, ht with
    | y :: t, ht =>
      have hl' : (p ++ x :: a).length < 4611686018427387904 := hl
      rw [List.length_append, List.length_cons] at hl'
      refine Ev.step (fun k => rfl) (Ev.pos (len_lt p x a) (Ev.pos (by omega) ?_))
      rw [rdl_Item_mid]
      refine Ev.ret (toItem_ev x) (Ev.pos (by simp; omega) ?_)
      have hs : (p.map toItemV ++ y :: t).set (p.length : Int).toNat ⟨x.f0, x.f1, x.f2, x.f3, x.f4⟩ = p.map toItemV ++ toItemV x :: t := by
        rw [show (p.length : Int) = ((p.map toItemV).length : Int) by simp]
        exact set_mid _ _ _ _
      rw [hs, w64 (by omega) (by omega), ← len_snoc p x, snoc p x a, snoc _ (toItemV x) t]
      rw [show p.map toItemV ++ [toItemV x] = (p ++ [x]).map toItemV by simp]
      exact ih (p ++ [x]) t (by simpa using ht) (by rw [← snoc]; exact hl)
theorem toItemS_ev (a : List S43) (hl : a.length ≤ 1048576) : Ev (fun k => laws_toItemS.f k a) (a.map toItemV) := by
  unfold laws_toItemS.f
  refine Ev.pos (by omega) (Ev.pos (by omega) ?_)
  rw [Int.toNat_natCast]
  exact toItemS_l0 a [] (List.replicate a.length z45) (by simp) (by simp; omega)
theorem eqItem_ev (x : S45) : laws_eqItem.f x.f0 x.f1 x.f2 x.f3 x.f4 x.f0 x.f1 x.f2 x.f3 x.f4 = some true := by
  unfold laws_eqItem.f
  simp
theorem eqItemS_l0 : ∀ (a p : List S45), (p ++ a).length < 4611686018427387904 →
    Ev (fun k => laws_eqItemS.l0 k (p ++ a) (p ++ a) (p.length : Int)) true := by
  intro a
  induction a with
  | nil =>
    intro p hl
    exact Ev.step (fun k => rfl) (Ev.neg (len_end p) (Ev.some' rfl))
  | cons x a ih =>
    intro p hl
    have hl' : (p ++ x :: a).length < 4611686018427387904 := hl
    rw [List.length_append, List.length_cons] at hl'
    refine Ev.step (fun k => rfl) (Ev.pos (len_lt p x a) (Ev.pos (by omega) (Ev.pos (len_lt p x a) ?_)))
    rw [rd_Item_mid]
    refine Ev.ret (eqItem_ev x) (Ev.pos (by first | rfl | trivial) ?_)
    rw [w64 (by omega) (by omega), ← len_snoc p x, snoc p x a]
    exact ih (p ++ [x]) (by rw [← snoc]; exact hl)
theorem eqItemS_ev (a : List S45) (hl : a.length < 4611686018427387904) : Ev (fun k => laws_eqItemS.f k a a) true := by
  unfold laws_eqItemS.f
  exact Ev.pos (by first | rfl | trivial) (eqItemS_l0 a [] hl)

/-! ### items -/
def codeV (a : ByteArray) : Bool := if a.size = 5 then digsV a else (decide ((scanV a).2.2.2 = 0) && decide ((scanV a).1 = 1))
def inV (a b c : Int) : Bool := decide (b ≤ a ∧ a ≤ c)
def itemV (x : S45) : Bool := codeV x.f0 && (inV x.f1 0 1000000 && (inV x.f2 0 1000000 && (inV x.f3 1 9 && inV x.f4 0 120)))
theorem itemCode_ev (a : ByteArray) : Ev (fun k => impl_isItemCode.f k a) (codeV a) := by
  unfold impl_isItemCode.f codeV
  by_cases c : a.size = 5
  · rw [if_pos c]
    exact Ev.pos (by omega) (Ev.ret (areDigits_ev a (by omega)) (Ev.some' rfl))
  · rw [if_neg c]
    refine Ev.neg (by omega) (Ev.bind (implScan_ev a) ?_)
    by_cases c2 : (scanV a).2.2.2 = 0
    · rw [decide_eq_true c2, Bool.true_and]
      exact Ev.pos c2 (Ev.some' (by rw [Bool.eq_iff_iff]; simp))
    · rw [decide_eq_false c2]
      exact Ev.neg c2 (Ev.some' rfl)
theorem specItem_ev (x : S45) : Ev (fun k => spec_l08Item.f k x.f0 x.f1 x.f2 x.f3 x.f4) (itemV x) := by
  have hj : Ev (fun k => spec_l08Item.j0 k x.f0 x.f1 x.f2 x.f3 x.f4) (inV x.f1 0 1000000 && (inV x.f2 0 1000000 && (inV x.f3 1 9 && inV x.f4 0 120))) := by
    refine Ev.step (fun k => rfl) (Ev.ret (l01In_ev _ _ _) ?_)
    show Ev _ (inV x.f1 0 1000000 && _)
    cases h1 : inV x.f1 0 1000000 with
    | false => exact Ev.neg (by rw [show decide (0 ≤ x.f1 ∧ x.f1 ≤ 1000000) = false from h1]; exact ff) (Ev.some' rfl)
    | true =>
      refine Ev.pos h1 (Ev.ret (l01In_ev _ _ _) ?_)
      cases h2 : inV x.f2 0 1000000 with
      | false => exact Ev.neg (by rw [show decide (0 ≤ x.f2 ∧ x.f2 ≤ 1000000) = false from h2]; exact ff) (Ev.some' rfl)
      | true =>
        refine Ev.pos h2 (Ev.ret (l01In_ev _ _ _) ?_)
        cases h3 : inV x.f3 1 9 with
        | false => exact Ev.neg (by rw [show decide (1 ≤ x.f3 ∧ x.f3 ≤ 9) = false from h3]; exact ff) (Ev.some' rfl)
        | true => exact Ev.pos h3 (Ev.ret (l01In_ev _ _ _) (Ev.some' rfl))
  unfold spec_l08Item.f itemV codeV
  by_cases c : x.f0.size = 5
  · rw [if_pos c]
    refine Ev.pos (by omega) (Ev.bind (specAll_ev _ (by omega)) ?_)
    cases hd : digsV x.f0 with
    | false => exact Ev.neg ff (Ev.some' rfl)
    | true => exact Ev.pos rfl hj
  · rw [if_neg c]
    refine Ev.neg (by omega) ?_
    by_cases cs : x.f0.size ≤ 65536
    · refine Ev.bind (specScan_ev _ cs) ?_
      by_cases c2 : (scanV x.f0).2.2.2 = 0
      · refine Ev.pos c2 ?_
        by_cases c3 : (scanV x.f0).1 = 1
        · rw [decide_eq_true c2, decide_eq_true c3]
          exact Ev.pos c3 hj
        · rw [decide_eq_false c3, Bool.and_false, Bool.false_and]
          exact Ev.neg c3 (Ev.some' rfl)
      · rw [decide_eq_false c2, Bool.false_and, Bool.false_and]
        exact Ev.neg c2 (Ev.some' rfl)
    · have hf : scanV x.f0 = failS 4 := if_neg (fun e => by omega)
      rw [hf, show decide ((failS 4).2.2.2 = 0) = false from rfl, Bool.false_and, Bool.false_and]
      exact Ev.bind (specScan_long _ cs) (Ev.neg (show ¬ ((failS 2).2.2.2 = 0) by decide) (Ev.some' rfl))
def sameV (c : ByteArray) (x : S45) : Bool := x.f0.toList == c.toList
theorem idx_mid (p : S45 → Bool) (a : List S45) (x : S45) (b : List S45) (hx : p x = true) : (idxV p (a ++ x :: b) = (a.length : Int)) ↔ a.any p = false := by
  have hlen : a.length < (a ++ x :: b).length := by simp
  constructor
  · intro h
    unfold idxV at h
    cases hf : (a ++ x :: b).findIdx? p with
    | none => rw [hf] at h; simp only at h; omega
    | some i =>
      rw [hf] at h
      simp only at h
      have hi : i = a.length := by omega
      subst hi
      obtain ⟨h1, h2, h3⟩ := List.findIdx?_eq_some_iff_getElem.1 hf
      rw [List.any_eq_false]
      intro y hy
      obtain ⟨j, hj, rfl⟩ := List.getElem_of_mem hy
      have := h3 j hj
      rw [List.getElem_append_left hj] at this
      exact this
  · intro h
    refine idxV_hit p _ z45 a.length hlen ?_ fun j hj => ?_
    · have : (a ++ x :: b).getD a.length z45 = x := by simp [List.getD_eq_getElem?_getD]
      rw [this]
      exact hx
    · have : (a ++ x :: b).getD j z45 = a[j] := by rw [List.getD_eq_getElem?_getD, List.getElem?_append_left hj, List.getElem?_eq_getElem hj]; rfl
      rw [this]
      simpa using List.any_eq_false.1 h a[j] (List.getElem_mem hj)
def allV : List S45 → List S45 → Bool
  | _, [] => true
  | p, x :: a => (itemV x && !(p.any (sameV x.f0))) && allV (p ++ [x]) a
theorem implItems_l0 : ∀ (a p : List S45), (p ++ a).length < 4611686018427387904 → Ev (fun k => impl_ItemsOK.l0 k (p ++ a) (p ++ a) ((p ++ a).length : Int) (p.length : Int)) (allV p a && decide (((p ++ a).length : Int) ≤ 40)) := by
  intro a
  induction a with
  | nil => intro p _; exact Ev.step (fun k => rfl) (Ev.neg (len_end p) (Ev.some' rfl))
  | cons x a ih =>
    intro p hl
    have hl' := hl
    rw [List.length_append, List.length_cons] at hl'
    refine Ev.step (fun k => rfl) (Ev.pos (len_lt p x a) (Ev.pos (by omega) (Ev.pos (len_lt p x a) ?_)))
    rw [rd_Item_mid]
    refine Ev.ret (show impl_itemAt.f (p ++ x :: a) x.f0 = some (idxV (sameV x.f0) (p ++ x :: a)) from rfl) ?_
    have hm := idx_mid (sameV x.f0) p x a (by simp [sameV])
    rw [allV]
    cases hp : p.any (sameV x.f0) with
    | true =>
      rw [show (itemV x && !true) = false by simp, Bool.false_and, Bool.false_and]
      exact Ev.neg (fun e => by rw [hm.1 e] at hp; cases hp) (Ev.some' rfl)
    | false =>
      rw [show (itemV x && !false) = itemV x by simp]
      refine Ev.pos (hm.2 hp) (Ev.bind (itemCode_ev x.f0) ?_)
      unfold itemV
      cases h0 : codeV x.f0 with
      | false => exact Ev.neg ff (Ev.some' rfl)
      | true =>
        refine Ev.pos rfl (Ev.ret (within_ev _ _ _) ?_)
        cases h1 : inV x.f1 0 1000000 with
        | false => exact Ev.neg (by rw [show decide (0 ≤ x.f1 ∧ x.f1 ≤ 1000000) = false from h1]; exact ff) (Ev.some' rfl)
        | true =>
          refine Ev.pos h1 (Ev.ret (within_ev _ _ _) ?_)
          cases h2 : inV x.f2 0 1000000 with
          | false => exact Ev.neg (by rw [show decide (0 ≤ x.f2 ∧ x.f2 ≤ 1000000) = false from h2]; exact ff) (Ev.some' rfl)
          | true =>
            refine Ev.pos h2 (Ev.ret (within_ev _ _ _) ?_)
            cases h3 : inV x.f3 1 9 with
            | false => exact Ev.neg (by rw [show decide (1 ≤ x.f3 ∧ x.f3 ≤ 9) = false from h3]; exact ff) (Ev.some' rfl)
            | true =>
              refine Ev.pos h3 (Ev.ret (within_ev _ _ _) ?_)
              cases h4 : inV x.f4 0 120 with
              | false => exact Ev.neg (by rw [show decide (0 ≤ x.f4 ∧ x.f4 ≤ 120) = false from h4]; exact ff) (Ev.some' rfl)
              | true =>
                refine Ev.pos h4 ?_
                rw [w64 (by omega) (by omega), ← len_snoc p x, snoc p x a]
                exact ih (p ++ [x]) (by rw [← snoc]; exact hl)
theorem find_l0 (c : ByteArray) : ∀ (a p : List S45), (p ++ a).length < 4611686018427387904 → ∃ r : Int, Ev (fun k => spec_l08Find.l0 k (p ++ a) c (p.length : Int)) r ∧ decide (r ≥ 0) = a.any (sameV c) := by
  intro a
  induction a with
  | nil => intro p _; exact ⟨-1, Ev.step (fun k => rfl) (Ev.neg (len_end p) (Ev.some' rfl)), rfl⟩
  | cons x a ih =>
    intro p hl
    have hl' := hl
    rw [List.length_append, List.length_cons] at hl'
    by_cases h : x.f0.toList = c.toList
    · refine ⟨(p.length : Int), Ev.step (fun k => rfl) (Ev.pos (len_lt p x a) (Ev.pos (by omega) ?_)), ?_⟩
      · rw [rd_Item_mid]
        exact Ev.pos h (Ev.some' rfl)
      · rw [List.any_cons, show sameV c x = true from beq_iff_eq.2 h, Bool.true_or]
        exact decide_eq_true (by omega)
    · obtain ⟨r, h1, h2⟩ := ih (p ++ [x]) (by rw [← snoc]; exact hl)
      refine ⟨r, Ev.step (fun k => rfl) (Ev.pos (len_lt p x a) (Ev.pos (by omega) ?_)), ?_⟩
      · rw [rd_Item_mid]
        refine Ev.neg h ?_
        rw [w64 (by omega) (by omega), ← len_snoc p x, snoc p x a]
        exact h1
      · rw [h2, List.any_cons, show sameV c x = false from beq_eq_false_iff_ne.2 h, Bool.false_or]
theorem specItems_l0 : ∀ (a p : List S45), (p ++ a).length < 1000 → Ev (fun k => spec_ItemsOK.l0 k (p ++ a) (p.length : Int)) (allV p a) := by
  intro a
  induction a with
  | nil => intro p _; exact Ev.step (fun k => rfl) (Ev.neg (len_end p) (Ev.some' rfl))
  | cons x a ih =>
    intro p hl
    have hl' := hl
    rw [List.length_append, List.length_cons] at hl'
    refine Ev.step (fun k => rfl) (Ev.pos (len_lt p x a) (Ev.pos (by omega) ?_))
    rw [rd_Item_mid, allV]
    refine Ev.bind (specItem_ev x) ?_
    cases hi : itemV x with
    | false => exact Ev.neg ff (Ev.some' rfl)
    | true =>
      refine Ev.pos rfl (Ev.pos (by have := len_lt p x a; omega) ?_)
      rw [Int.toNat_natCast, List.take_left]
      obtain ⟨r, h1, h2⟩ := find_l0 x.f0 p [] (by simp; omega)
      refine Ev.bind h1 ?_
      cases hp : p.any (sameV x.f0) with
      | true =>
        rw [hp] at h2
        exact Ev.pos (of_decide_eq_true h2) (Ev.some' rfl)
      | false =>
        rw [hp] at h2
        refine Ev.neg (of_decide_eq_false h2) ?_
        rw [w64 (by omega) (by omega), ← len_snoc p x, snoc p x a]
        exact ih (p ++ [x]) (by rw [← snoc]; exact hl)
theorem specItems_ev (l : List S45) : Ev (fun k => spec_ItemsOK.f k l) (allV [] l && decide ((l.length : Int) ≤ 40)) := by
  unfold spec_ItemsOK.f
  by_cases c : (l.length : Int) > 40
  · rw [decide_eq_false (by omega), Bool.and_false]
    exact Ev.pos c (Ev.some' rfl)
  · rw [decide_eq_true (by omega), Bool.and_true]
    exact Ev.neg c (specItems_l0 l [] (by simp; omega))
theorem FnExactItemsOK : laws_FnExactItemsOK.Pure := by
  intro l hl
  refine Ev.rounds (?_ : Ev (fun k => laws_FnExactItemsOK.f k l) true)
  unfold laws_FnExactItemsOK.f
  obtain ⟨r, hr, h⟩ := szItemS_ev l 1048576 (by omega) hl.1 (fun x hx => (hl.2 x hx).1)
  refine Ev.bind hr ?_
  by_cases c : r < 0
  · exact Ev.pos c (Ev.some' rfl)
  have h2 : l.length ≤ 1048576 := h.resolve_left c
  have tR := toItemS_ev l h2
  have eE := eqItemS_ev (l.map toItemV) (by simp; omega)
  have iE := implItems_l0 (l.map toItemV) [] (by simp; omega)
  refine Ev.neg c (Ev.bind tR (Ev.bind (specItems_ev _) (Ev.bind tR (Ev.bind iE (Ev.neg (by simp) (Ev.bind tR (Ev.bind eE (Ev.pos rfl (Ev.some' rfl)))))))))

end Go.Proofs.YtglfajnagdpkeaaDoor.Pure
