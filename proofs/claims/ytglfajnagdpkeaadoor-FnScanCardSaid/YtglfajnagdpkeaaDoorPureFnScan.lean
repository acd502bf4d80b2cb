/- At every two codes the law FnScan holds: its plain statement, with no condition. -/
import Derived.Test.YtglfajnagdpkeaaDoorXFnScanx8
import Derived.Test.YtglfajnagdpkeaaDoorAx
import Derived.Test.YtglfajnagdpkeaaDoorIdx
import Derived.Lib.ItoaLen
import Derived.Lib.AtoiAllCases
namespace Go.Proofs.YtglfajnagdpkeaaDoor.Pure
open Go.RowKit Go.Proofs.YtglfajnagdpkeaaDoor.XFnScan Go.Proofs.YtglfajnagdpkeaaDoorW.PrintWords Go.Proofs.YtglfajnagdpkeaaDoorW.PrintLast
open Go.Proofs.YtglfajnagdpkeaaDoorW.Ax Go.Proofs.YtglfajnagdpkeaaDoorW.Idx
set_option linter.unusedVariables false
set_option linter.unusedSimpArgs false
/-! ### numerals read -/
def isDig (c : UInt8) : Bool := decide (48 ≤ c.toNat ∧ c.toNat ≤ 57)
def valD (a : Nat) (l : List UInt8) : Nat := l.foldl (fun a c => a * 10 + (c.toNat - 48)) a
def natOK (l : List UInt8) : Prop := l ≠ [] ∧ l.length ≤ 18 ∧ l.all isDig = true ∧ (l.head? = some 48 → l.length = 1)
instance (l : List UInt8) : Decidable (natOK l) := by unfold natOK; exact inferInstance
def natR (l : List UInt8) : Option Nat := if natOK l then some (valD 0 l) else none
def minusR : Option Nat → Option Int
  | some u => if u = 0 then none else some (-(u : Int))
  | none => none
def plusR : Option Nat → Option Int
  | some u => some (u : Int)
  | none => none
def numR : List UInt8 → Option Int
  | [] => none
  | c :: r => if c = 45 then minusR (natR r) else plusR (natR (c :: r))
theorem valD_cons (a : Nat) (c : UInt8) (r : List UInt8) : valD a (c :: r) = valD (a * 10 + (c.toNat - 48)) r := List.foldl_cons ..
theorem valD_snoc (c : UInt8) : ∀ (l : List UInt8) (a : Nat), valD a (l ++ [c]) = valD a l * 10 + (c.toNat - 48) := by
  intro l
  induction l with
  | nil => intro a; rfl
  | cons x l ih => intro a; exact ih _
theorem valD_ge : ∀ (l : List UInt8) (a : Nat), a ≤ valD a l := by
  intro l
  induction l with
  | nil => intro a; exact Nat.le_refl _
  | cons x l ih => intro a; have := ih (a * 10 + (x.toNat - 48)); rw [valD_cons]; omega
theorem dig_back {c : UInt8} (h : isDig c = true) : UInt8.ofNat (48 + (c.toNat - 48)) = c := by
  unfold isDig at h
  rw [decide_eq_true_eq] at h
  rw [show 48 + (c.toNat - 48) = c.toNat by omega]
  simp
theorem all_cons' {c : UInt8} {r : List UInt8} (h : (c :: r).all isDig = true) : isDig c = true ∧ r.all isDig = true := by
  rw [List.all_cons, Bool.and_eq_true] at h
  exact h
theorem isDig_iff {c : UInt8} (h : isDig c = true) : 48 ≤ c.toNat ∧ c.toNat ≤ 57 := by
  unfold isDig at h
  rw [decide_eq_true_eq] at h
  exact h
theorem dec_of : ∀ (n : Nat) (l : List UInt8), l.length = n → l ≠ [] → l.all isDig = true → (l.head? = some 48 → l.length = 1) → Lib.decDigits (valD 0 l) = l := by
  intro n
  induction n with
  | zero => intro l hl hne; exact absurd (List.eq_nil_of_length_eq_zero hl) hne
  | succ n ih =>
    intro l hl hne ha hh
    obtain ⟨p, c, rfl⟩ : ∃ p c, l = p ++ [c] := ⟨l.dropLast, l.getLast hne, (List.dropLast_concat_getLast hne).symm⟩
    rw [List.all_append, Bool.and_eq_true] at ha
    obtain ⟨hp, hc⟩ := ha
    have hc : isDig c = true := by simpa using hc
    have hc2 : 48 ≤ c.toNat ∧ c.toNat ≤ 57 := by unfold isDig at hc; simpa using hc
    rw [valD_snoc]
    cases p with
    | nil =>
      show Lib.decDigits (0 * 10 + (c.toNat - 48)) = [c]
      rw [Nat.zero_mul, Nat.zero_add, Lib.decDigits_one (by omega), dig_back hc]
    | cons x p =>
      have hx : x ≠ 48 := fun e => by
        have := hh (by simp [e])
        simp at this
      have hxd : isDig x = true := by simpa using (List.all_eq_true.1 hp) x (by simp)
      have hx2 : 48 ≤ x.toNat ∧ x.toNat ≤ 57 := by unfold isDig at hxd; simpa using hxd
      have hx3 : x.toNat ≠ 48 := fun e => hx (UInt8.toNat_inj.1 (by rw [e]; rfl))
      have hv : 1 ≤ valD 0 (x :: p) := by
        have := valD_ge p (0 * 10 + (x.toNat - 48))
        rw [valD_cons]
        omega
      have hi := ih (x :: p) (by simpa using hl) (by simp) hp (fun e => absurd (by simpa using e) hx)
      generalize valD 0 (x :: p) = v at hv hi ⊢
      rw [Lib.decDigits, dif_neg (by omega), show (v * 10 + (c.toNat - 48)) / 10 = v by omega, show (v * 10 + (c.toNat - 48)) % 10 = c.toNat - 48 by omega, hi, dig_back hc]
theorem ofNat_toNat {d : Nat} (h : d < 10) : (UInt8.ofNat (48 + d)).toNat = 48 + d := by
  rw [UInt8.toNat_ofNat']
  omega
theorem dig_ok {d : Nat} (h : d < 10) : isDig (UInt8.ofNat (48 + d)) = true := by
  unfold isDig
  rw [ofNat_toNat h, decide_eq_true_eq]
  omega
theorem dec_digs (u : Nat) : (Lib.decDigits u).all isDig = true ∧ Lib.decDigits u ≠ [] ∧ valD 0 (Lib.decDigits u) = u ∧ ((Lib.decDigits u).head? = some 48 → u = 0) := by
  induction u using Nat.strongRecOn with
  | _ u ih =>
    by_cases h : u < 10
    · rw [Lib.decDigits_one h]
      refine ⟨by simpa using dig_ok h, by simp, ?_, fun e => ?_⟩
      · show 0 * 10 + ((UInt8.ofNat (48 + u)).toNat - 48) = u
        rw [ofNat_toNat h]
        omega
      · have e2 : UInt8.ofNat (48 + u) = 48 := by simpa using e
        have := ofNat_toNat h
        rw [e2] at this
        have e3 : (48 : UInt8).toNat = 48 := rfl
        omega
    · obtain ⟨h1, h2, h3, h4⟩ := ih (u / 10) (by omega)
      rw [Lib.decDigits, dif_neg h]
      refine ⟨?_, by simp, ?_, fun e => ?_⟩
      · rw [List.all_append, h1]
        simpa using dig_ok (show u % 10 < 10 by omega)
      · rw [valD_snoc, h3, ofNat_toNat (by omega)]
        omega
      · have : (Lib.decDigits (u / 10)).head? = some 48 := by
          cases hd : Lib.decDigits (u / 10) with
          | nil => exact absurd hd h2
          | cons x t => rw [hd] at e; simpa using e
        have := h4 this
        omega
theorem natR_dec (u : Nat) : natR (Lib.decDigits u) = if (Lib.decDigits u).length ≤ 18 then some u else none := by
  obtain ⟨h1, h2, h3, h4⟩ := dec_digs u
  unfold natR
  by_cases c : (Lib.decDigits u).length ≤ 18
  · have e4 : (Lib.decDigits u).head? = some 48 → (Lib.decDigits u).length = 1 := fun e => by
      rw [Lib.decDigits_length, h4 e]
      exact Lib.nDigits_small (by omega)
    rw [if_pos c, if_pos ⟨h2, c, h1, e4⟩, h3]
  · rw [if_neg c, if_neg fun e => c e.2.1]
theorem natR_some {l : List UInt8} {u : Nat} (h : natR l = some u) : l = Lib.decDigits u ∧ l.length ≤ 18 ∧ l.all isDig = true ∧ l ≠ [] ∧ u < 1000000000000000000 ∧ u = valD 0 l := by
  unfold natR at h
  split at h
  · rename_i c
    obtain ⟨c1, c2, c3, c4⟩ := c
    cases h
    have e := dec_of l.length l rfl c1 c3 c4
    refine ⟨e.symm, c2, c3, c1, ?_, rfl⟩
    have h1 := Lib.lt_pow_nDigits (valD 0 l)
    rw [← Lib.decDigits_length, e] at h1
    have h2 : 10 ^ l.length ≤ 10 ^ 18 := Nat.pow_le_pow_right (by omega) c2
    omega
  · cases h
theorem parse_ok : ∀ (l : List UInt8) (a j : Nat), l.all isDig = true → a < 10 ^ j → j + l.length ≤ 18 → Lib.parseUint10 a l = .ok (valD a l) := by
  intro l
  induction l with
  | nil => intro a j _ _ _; rfl
  | cons c l ih =>
    intro a j ha hj hl
    rw [List.all_cons, Bool.and_eq_true] at ha
    have hc2 : 48 ≤ c.toNat ∧ c.toNat ≤ 57 := by have := ha.1; unfold isDig at this; simpa using this
    rw [List.length_cons] at hl
    have hp : 10 ^ j ≤ 10 ^ 17 := Nat.pow_le_pow_right (by omega) (by omega)
    have hp2 : (10 : Nat) ^ 17 = 100000000000000000 := by decide
    rw [Lib.parseUint10, if_pos hc2, if_neg (by omega), if_neg (by omega), valD_cons]
    exact ih _ (j + 1) ha.2 (by rw [Nat.pow_succ]; omega) (by omega)
theorem parseMag_ok {l : List UInt8} {u : Nat} (h : natR l = some u) : Lib.parseMag l = .ok u := by
  obtain ⟨h1, h2, h3, h4, h5, h6⟩ := natR_some h
  unfold Lib.parseMag
  rw [if_neg h4, parse_ok l 0 0 h3 (by decide) (by omega), ← h6]
theorem numR_some {l : List UInt8} {v : Int} (h : numR l = some v) : l = Lib.itoa v ∧ l.length ≤ 19 ∧ Lib.atoiAll l = .ok v ∧ -1000000000000000000 < v ∧ v < 1000000000000000000 ∧ (Lib.decDigits v.natAbs).length ≤ 18 := by
  cases l with
  | nil => cases h
  | cons c r =>
    rw [numR] at h
    split at h
    · rename_i c1
      subst c1
      cases hn : natR r with
      | none => rw [hn] at h; cases h
      | some u =>
        rw [hn, minusR] at h
        split at h
        · cases h
        · rename_i c2
          injection h with h
          subst h
          obtain ⟨h1, h2, h3, h4, h5, h6⟩ := natR_some hn
          have e1 : (-(u : Int)).natAbs = u := by omega
          refine ⟨?_, by rw [List.length_cons]; omega, ?_, by omega, by omega, ?_⟩
          · rw [Lib.itoa, if_pos (by omega), e1, ← h1]
          · rw [Lib.atoiAll_minus, parseMag_ok hn, Lib.signed, if_neg (by omega)]
          · rw [e1, ← h1]
            exact h2
    · rename_i c1
      cases hn : natR (c :: r) with
      | none => rw [hn] at h; cases h
      | some u =>
        rw [hn, plusR] at h
        injection h with h
        subst h
        obtain ⟨h1, h2, h3, h4, h5, h6⟩ := natR_some hn
        have hc2 : 48 ≤ c.toNat ∧ c.toNat ≤ 57 := by
          rw [List.all_cons, Bool.and_eq_true] at h3
          have := h3.1
          unfold isDig at this
          simpa using this
        have e1 : ((u : Int)).natAbs = u := by omega
        refine ⟨?_, by omega, ?_, by omega, by omega, ?_⟩
        · rw [Lib.itoa, if_neg (by omega), Int.toNat_natCast, ← h1]
        · rw [Lib.atoiAll_plain c r (by omega) (by omega), parseMag_ok hn, Lib.signless, if_neg (by omega)]
        · rw [e1, ← h1]
          exact h2
theorem numR_itoa (n : Int) (h : (Lib.decDigits n.natAbs).length ≤ 18) : numR (Lib.itoa n) = some n := by
  by_cases c : n < 0
  · rw [Lib.itoa, if_pos c, numR, if_pos rfl, natR_dec, if_pos h, minusR, if_neg (by omega)]
    congr 1
    omega
  · rw [Lib.itoa, if_neg c]
    have e1 : n.toNat = n.natAbs := by omega
    rw [e1]
    obtain ⟨h1, h2, h3, h4⟩ := dec_digs n.natAbs
    cases hd : Lib.decDigits n.natAbs with
    | nil => exact absurd hd h2
    | cons x t =>
      rw [hd] at h1 h
      have hx : isDig x = true := by
        rw [List.all_cons, Bool.and_eq_true] at h1
        exact h1.1
      have hx2 : 48 ≤ x.toNat ∧ x.toNat ≤ 57 := by unfold isDig at hx; simpa using hx
      have hx3 : x ≠ 45 := fun e => by
        rw [e] at hx2
        have : (45 : UInt8).toNat = 45 := rfl
        omega
      rw [numR, if_neg hx3, ← hd, natR_dec, hd, if_pos h, plusR]
      congr 1
      omega
/-- Where Atoi gives a number that is written so again, and no longer than 18 digits, that number is read. -/
theorem numR_back {l : List UInt8} {v : Int} (h : Lib.itoa v = l) (h2 : (Lib.decDigits v.natAbs).length ≤ 18) : numR l = some v := by
  rw [← h]
  exact numR_itoa v h2
theorem size_len (a : ByteArray) : a.size = a.data.toList.length := Lib.size_eq a
theorem bt_cons (a : ByteArray) (i : Nat) (c : UInt8) (r : List UInt8) (h : a.data.toList.drop i = c :: r) : i < a.size ∧ bt a (i : Int) = (c.toNat : Int) ∧ a.data.toList.drop (i + 1) = r := by
  have hl : i < a.size := by
    rw [size_len]
    rcases Nat.lt_or_ge i a.data.toList.length with q | q
    · exact q
    · rw [List.drop_eq_nil_of_le q] at h; cases h
  refine ⟨hl, ?_, ?_⟩
  · have h2 : a.data.toList[i]? = some c := by
      have : (a.data.toList.drop i)[0]? = some c := by rw [h]; rfl
      simpa using this
    unfold bt
    rw [Int.toNat_natCast, dif_pos hl]
    have h3 : a[i] = c := by
      have : a.data.toList[i]'(by rw [← size_len]; exact hl) = c := by
        rw [List.getElem?_eq_getElem (by rw [← size_len]; exact hl)] at h2
        exact Option.some.inj h2
      rw [← this]
      simp [ByteArray.getElem_eq_getElem_data]
    rw [h3]
  · have := congrArg List.tail h
    simpa using this
theorem ba_ext {a b : ByteArray} (h : a.data.toList = b.data.toList) : a = b := ByteArray.ext (Array.ext' h)
theorem bt_get (a : ByteArray) (i : Nat) (h : i < a.size) : ∃ x, a.data.toList[i]? = some x ∧ bt a (i : Int) = (x.toNat : Int) := by
  cases hd : a.data.toList.drop i with
  | nil =>
    rw [size_len] at h
    have := List.drop_eq_nil_iff.1 hd
    omega
  | cons x r =>
    refine ⟨x, ?_, (bt_cons a i x r hd).2.1⟩
    have : (a.data.toList.drop i)[0]? = some x := by rw [hd]; rfl
    simpa using this
theorem within_ev (a b c : Int) : impl_within.f a b c = some (decide (b ≤ a ∧ a ≤ c)) := by
  unfold impl_within.f
  by_cases h : a ≥ b
  · rw [if_pos h]; congr 1; rw [decide_eq_decide]; omega
  · rw [if_neg h]; congr 1; symm; rw [decide_eq_false_iff_not]; omega
/-! ### digits -/
def digsV (a : ByteArray) : Bool := a.data.toList.all isDig
theorem specAll_l0 (a : ByteArray) (ha : a.size < 4611686018427387904) : ∀ (l : List UInt8) (i : Nat), a.data.toList.drop i = l → i ≤ a.size → Ev (fun k => spec_l02All.l0 k a (i : Int)) (l.all isDig) := by
  intro l
  induction l with
  | nil =>
    intro i hd hi
    have hl : ¬ i < a.size := by
      intro q
      rw [size_len] at q
      have := List.drop_eq_nil_iff.1 hd
      omega
    exact Ev.step (fun k => rfl) (Ev.neg (by omega) (Ev.some' rfl))
  | cons c l ih =>
    intro i hd hi
    obtain ⟨h1, h2, h3⟩ := bt_cons a i c l hd
    refine Ev.step (fun k => rfl) (Ev.pos (by omega) (Ev.pos (by omega) ?_))
    rw [h2, List.all_cons]
    by_cases c1 : (c.toNat : Int) < 48
    · refine Ev.pos c1 (Ev.some' ?_)
      rw [show isDig c = false from decide_eq_false (by omega), Bool.false_and]
    refine Ev.neg c1 ?_
    by_cases c2 : (c.toNat : Int) > 57
    · refine Ev.pos c2 (Ev.some' ?_)
      rw [show isDig c = false from decide_eq_false (by omega), Bool.false_and]
    refine Ev.neg c2 ?_
    rw [w64n (by omega), show isDig c = true from decide_eq_true (by omega), Bool.true_and]
    exact ih (i + 1) h3 (by omega)
theorem specAll_ev (a : ByteArray) (ha : a.size < 4611686018427387904) : Ev (fun k => spec_l02All.f k a) (digsV a) := specAll_l0 a ha _ 0 (by simp) (by omega)
theorem areDigits_ev (a : ByteArray) (ha : a.size < 4611686018427387904) : impl_areDigits.f a = some (digsV a) := if_pos ha
theorem digs_bt {a : ByteArray} (h : digsV a = true) {i : Nat} (hi : i < a.size) : 48 ≤ bt a (i : Int) ∧ bt a (i : Int) ≤ 57 := by
  obtain ⟨x, hx, hb⟩ := bt_get a i hi
  have := isDig_iff (List.all_eq_true.1 h x (List.mem_of_getElem? hx))
  rw [hb]
  omega
theorem digs_ext {a : ByteArray} (h : digsV a = true) (p q : Nat) : digsV (a.extract p q) = true := by
  unfold digsV at *
  rw [Lib.extract_data, List.all_eq_true]
  intro x hx
  exact List.all_eq_true.1 h x (List.mem_of_mem_drop (List.mem_of_mem_take hx))
theorem valD_lt : ∀ (l : List UInt8) (a j : Nat), l.all isDig = true → a < 10 ^ j → valD a l < 10 ^ (j + l.length) := by
  intro l
  induction l with
  | nil => intro a j _ h; exact h
  | cons c l ih =>
    intro a j ha h
    obtain ⟨h1, h2⟩ := all_cons' ha
    have h1 := isDig_iff h1
    have := ih (a * 10 + (c.toNat - 48)) (j + 1) h2 (by rw [Nat.pow_succ]; omega)
    rw [valD_cons, List.length_cons, show j + (l.length + 1) = j + 1 + l.length by omega]
    exact this
theorem atoi_digs (l : List UInt8) (h0 : l ≠ []) (h1 : l.all isDig = true) (h2 : l.length ≤ 18) : Lib.atoiAll l = .ok ((valD 0 l : Nat) : Int) := by
  have hp : Lib.parseMag l = .ok (valD 0 l) := by
    unfold Lib.parseMag
    rw [if_neg h0, parse_ok l 0 0 h1 (by decide) (by omega)]
  have hv := valD_lt l 0 0 h1 (by decide)
  have hq : 10 ^ (0 + l.length) ≤ 10 ^ 18 := Nat.pow_le_pow_right (by omega) (by omega)
  cases l with
  | nil => exact absurd rfl h0
  | cons c r =>
    have hc := isDig_iff (all_cons' h1).1
    rw [Lib.atoiAll_plain c r (by omega) (by omega), hp, Lib.signless, if_neg (by omega)]
/-! ### the check digit -/
def sumC (s : ByteArray) : Nat → Nat → Int → Int
  | 0, _, a => a
  | d + 1, i, a => sumC s d (i + 1) (a + (if i % 2 = 0 then 3 else 1) * (bt s ((s.size - 1 - i : Nat) : Int) - 48))
def endC (n : Int) : Int := Int.tmod (10 - Int.tmod n 10) 10
def chkV (s : ByteArray) : Int := endC (sumC s s.size 0 0)
theorem endC_ev {n : Int} (h : 0 ≤ n) : Int.tmod (wrap64 (10 - (Int.tmod n 10))) 10 = endC n := by
  have : Int.tmod n 10 = n % 10 := Int.tmod_eq_emod_of_nonneg h
  unfold endC
  rw [w64 (by omega) (by omega)]
theorem specCheck_l0 (s : ByteArray) (hs : s.size ≤ 1048576) (hd : digsV s = true) : ∀ (d i : Nat) (a : Int), i + d = s.size → 0 ≤ a → a ≤ 27 * i → Ev (fun k => spec_l02Check.l0 k s a (i : Int)) (endC (sumC s d i a)) := by
  intro d
  induction d with
  | zero =>
    intro i a h h0 h1
    refine Ev.step (fun k => rfl) (Ev.neg (by omega) (Ev.some' ?_))
    exact endC_ev h0
  | succ d ih =>
    intro i a h h0 h1
    have hb := digs_bt hd (show s.size - 1 - i < s.size by omega)
    have e1 : wrap64 ((wrap64 ((s.size : Int) - 1)) - (i : Int)) = ((s.size - 1 - i : Nat) : Int) := by
      rw [w64 (x := (s.size : Int) - 1) (by omega) (by omega), w64 (by omega) (by omega)]
      omega
    have e2 : Int.tmod (i : Int) 2 = ((i % 2 : Nat) : Int) := by rw [Int.tmod_eq_emod_of_nonneg (by omega)]; omega
    refine Ev.step (fun k => rfl) (Ev.pos (by omega) ?_)
    rw [e1, e2]
    refine Ev.pos (by omega) (Ev.pos (by omega) ?_)
    rw [sumC]
    generalize bt s ((s.size - 1 - i : Nat) : Int) = x at hb ⊢
    by_cases c : i % 2 = 0
    · rw [if_pos c]
      refine Ev.pos (by omega) ?_
      rw [w64n (by omega), w64 (x := x) (by omega) (by omega), w64 (x := x - 48) (by omega) (by omega), w64 (x := 3 * (x - 48)) (by omega) (by omega), w64 (by omega) (by omega)]
      exact ih (i + 1) _ (by omega) (by omega) (by omega)
    · rw [if_neg c]
      refine Ev.neg (by omega) ?_
      rw [w64n (by omega), w64 (x := x) (by omega) (by omega), w64 (x := x - 48) (by omega) (by omega), w64 (by omega) (by omega)]
      have := ih (i + 1) (a + 1 * (x - 48)) (by omega) (by omega) (by omega)
      rw [Int.one_mul] at this ⊢
      exact this
theorem specCheck_ev (s : ByteArray) (hs : s.size ≤ 1048576) (hd : digsV s = true) : Ev (fun k => spec_l02Check.f k s) (chkV s) := specCheck_l0 s hs hd s.size 0 0 (by omega) (by omega) (by omega)
theorem implCheck_l0 (s : ByteArray) (hs : s.size ≤ 1048576) (hd : digsV s = true) : ∀ (d i : Nat) (a : Int), i + d = s.size → 0 ≤ a → a ≤ 27 * i → Ev (fun k => impl_checkOf.l0 k s a (if i % 2 = 0 then 3 else 1) ((s.size : Int) - 1 - (i : Int))) (endC (sumC s d i a)) := by
  intro d
  induction d with
  | zero =>
    intro i a h h0 h1
    refine Ev.step (fun k => rfl) (Ev.neg (by omega) (Ev.some' ?_))
    exact endC_ev h0
  | succ d ih =>
    intro i a h h0 h1
    have hb := digs_bt hd (show s.size - 1 - i < s.size by omega)
    rw [sumC]
    have e0 : (s.size : Int) - 1 - (i : Int) = ((s.size - 1 - i : Nat) : Int) := by omega
    have ih := ih (i + 1)
    rw [e0]
    refine Ev.step (fun k => rfl) (Ev.pos (by omega) (Ev.pos (by omega) (Ev.pos (by omega) ?_)))
    generalize hx : bt s ((s.size - 1 - i : Nat) : Int) = x at hb ⊢
    have e3 : (x - 48) % 256 = x - 48 := by omega
    have e4 : wrap64 (((s.size - 1 - i : Nat) : Int) - 1) = (s.size : Int) - 1 - ((i + 1 : Nat) : Int) := by rw [w64 (by omega) (by omega)]; omega
    rw [e3, e4]
    by_cases c : i % 2 = 0
    · rw [if_pos c]
      rw [w64 (x := 3 * (x - 48)) (by omega) (by omega), w64 (x := a + 3 * (x - 48)) (by omega) (by omega), w64 (x := (4 : Int) - 3) (by omega) (by omega)]
      have := ih (a + 3 * (x - 48)) (by omega) (by omega) (by omega)
      rw [if_neg (by omega)] at this
      exact this
    · rw [if_neg c]
      rw [w64 (x := 1 * (x - 48)) (by omega) (by omega), w64 (x := a + 1 * (x - 48)) (by omega) (by omega), w64 (x := (4 : Int) - 1) (by omega) (by omega)]
      have := ih (a + 1 * (x - 48)) (by omega) (by omega) (by omega)
      rw [if_pos (by omega)] at this
      exact this
theorem implCheck_ev (s : ByteArray) (hs : s.size ≤ 1048576) (hd : digsV s = true) : Ev (fun k => impl_checkOf.f k s) (chkV s) := by
  unfold impl_checkOf.f
  rw [w64 (by omega) (by omega)]
  have := implCheck_l0 s hs hd s.size 0 0 (by omega) (by omega) (by omega)
  rw [if_pos rfl, show (s.size : Int) - 1 - ((0 : Nat) : Int) = (s.size : Int) - 1 by omega] at this
  exact this
/-! ### a code read -/
def failS (c : Int) : Int × ByteArray × Int × Int := (0, (⟨#[]⟩ : ByteArray), 0, c)
def num5 (a : ByteArray) : Int := ((valD 0 (a.extract 7 12).data.toList : Nat) : Int)
def innerS (a : ByteArray) : Int × ByteArray × Int × Int := if chkV (a.extract 0 (a.size - 1)) = bt a ((a.size - 1 : Nat) : Int) - 48 then (if a.size = 8 ∨ bt a 0 ≠ 50 then (1, a, 0, 0) else if bt a 1 > 49 then failS 13 else (2 + (bt a 1 - 48), a.extract 2 7, num5 a, 0)) else failS 15
def scanV (a : ByteArray) : Int × ByteArray × Int × Int := if (a.size = 8 ∨ a.size = 13) ∧ digsV a = true then innerS a else failS 4
theorem numberOf_ev (a : ByteArray) (h : digsV a = true) (h5 : a.size = 5) : impl_numberOf.f a = some ((valD 0 a.data.toList : Nat) : Int) := by
  have hl : a.data.toList.length = 5 := by rw [← size_len, h5]
  unfold impl_numberOf.f
  rw [if_pos (by omega), atoi_digs _ (fun e => by rw [e] at hl; cases hl) h (by omega)]
  rfl
theorem implScan_j0 (a : ByteArray) (hs : a.size = 8 ∨ a.size = 13) (hd : digsV a = true) : Ev (fun k => impl_readScan.j0 k a ((a.size : Int) - 1) false) (innerS a) := by
  have hk := implCheck_ev (a.extract 0 (a.size - 1)) (by rw [ByteArray.size_extract]; omega) (digs_ext hd _ _)
  have hb := digs_bt hd (show a.size - 1 < a.size by omega)
  have hb0 : 48 ≤ bt a 0 ∧ bt a 0 ≤ 57 := digs_bt hd (show 0 < a.size by omega)
  have hb1 : 48 ≤ bt a 1 ∧ bt a 1 ≤ 57 := digs_bt hd (show 1 < a.size by omega)
  have e0 : (a.size : Int) - 1 = ((a.size - 1 : Nat) : Int) := by omega
  unfold innerS
  rw [e0]
  refine Ev.up1 ?_
  simp only [impl_readScan.j0]
  refine Ev.neg ff (Ev.pos (by omega) (Ev.pos (by omega) (Ev.pos (by omega) ?_)))
  rw [Int.toNat_natCast]
  refine Ev.bind hk ?_
  generalize chkV (a.extract 0 (a.size - 1)) = q
  generalize bt a ((a.size - 1 : Nat) : Int) = z at hb ⊢
  rw [show (z - 48) % 256 = z - 48 by omega]
  by_cases c : q = z - 48
  rotate_left
  · rw [if_neg c]
    exact Ev.neg (fun e => c e.symm) (Ev.some' rfl)
  rw [if_pos c]
  refine Ev.pos c.symm ?_
  have one : Ev (fun k => impl_readScan.j1 k a true) (1, a, 0, 0) := Ev.up1 (by simp only [impl_readScan.j1]; exact Ev.pos trivial (Ev.some' rfl))
  by_cases c8 : a.size = 8
  · rw [if_pos (Or.inl c8)]
    exact Ev.pos (by omega) one
  refine Ev.neg (by omega) (Ev.pos (by omega) ?_)
  by_cases c50 : bt a 0 = 50
  rotate_left
  · rw [if_pos (Or.inr c50), show (bt a 0 != 50) = true from bne_iff_ne.2 c50]
    exact one
  rw [if_neg (fun e => e.elim c8 (fun h => h c50)), show (bt a 0 != 50) = false from bne_eq_false_iff_eq.2 c50]
  refine Ev.up1 ?_
  simp only [impl_readScan.j1]
  refine Ev.neg ff (Ev.pos (by omega) ?_)
  by_cases c1 : bt a 1 > 49
  · exact Ev.eq (Ev.pos c1 (Ev.some' rfl)) (if_pos c1).symm
  refine Ev.eq (Ev.neg c1 (Ev.pos (by first | trivial | omega) (Ev.pos (by omega) (Ev.pos (by first | trivial | omega) (Ev.pos (by omega) ?_))))) (if_neg c1).symm
  refine Ev.ret (numberOf_ev (a.extract 7 12) (digs_ext hd _ _) (by rw [ByteArray.size_extract]; omega)) (Ev.some' ?_)
  rw [show (bt a 1 - 48) % 256 = bt a 1 - 48 by omega]
  rfl
theorem implScan_ev (a : ByteArray) : Ev (fun k => impl_readScan.f k a) (scanV a) := by
  have bad : ∀ n : Int, Ev (fun k => impl_readScan.j0 k a n true) (failS 4) := fun n => Ev.up1 (by simp only [impl_readScan.j0]; exact Ev.pos trivial (Ev.some' rfl))
  unfold impl_readScan.f scanV
  by_cases c : a.size = 8 ∨ a.size = 13
  · have hj : ∀ b : Bool, digsV a = b → Ev (fun k => impl_readScan.j0 k a (wrap64 ((a.size : Int) - 1)) (!b)) (if (a.size = 8 ∨ a.size = 13) ∧ digsV a = true then innerS a else failS 4) := by
      intro b hb
      cases b with
      | true => rw [if_pos ⟨c, hb⟩, w64 (by omega) (by omega)]; exact implScan_j0 a c hb
      | false => rw [if_neg (fun e => by rw [hb] at e; exact ff e.2)]; exact bad _
    rcases c with c8 | c13
    · exact Ev.pos (by omega) (Ev.ret (areDigits_ev a (by omega)) (hj _ rfl))
    · exact Ev.neg (by omega) (Ev.pos (by omega) (Ev.ret (areDigits_ev a (by omega)) (hj _ rfl)))
  · rw [if_neg (fun e => c e.1)]
    exact Ev.neg (by omega) (Ev.neg (by omega) (bad _))
theorem specNum_l0 (a : ByteArray) (hs : a.size = 13) (hd : digsV a = true) (F : Int → Int × ByteArray × Int × Int) (hF : ∀ v : Int, Ev (fun k => spec_ReadScan.l0 k a v 12) (F v)) : ∀ (r : List UInt8) (i v : Nat), 7 ≤ i → i ≤ 12 → (a.data.toList.drop i).take (12 - i) = r → v < 10 ^ (i - 7) → Ev (fun k => spec_ReadScan.l0 k a (v : Int) (i : Int)) (F ((valD v r : Nat) : Int)) := by
  intro r
  induction r with
  | nil =>
    intro i v h7 h12 hr hv
    have : i = 12 := by
      have := congrArg List.length hr
      rw [List.length_take, List.length_drop, ← size_len, hs, List.length_nil] at this
      omega
    subst this
    exact hF _
  | cons c r ih =>
    intro i v h7 h12 hr hv
    have hi : i < 12 := by
      have := congrArg List.length hr
      rw [List.length_take, List.length_drop, ← size_len, hs, List.length_cons] at this
      omega
    obtain ⟨c', l', hcl⟩ : ∃ c' l', a.data.toList.drop i = c' :: l' := by
      cases h : a.data.toList.drop i with
      | nil => rw [h] at hr; simp at hr
      | cons c' l' => exact ⟨c', l', rfl⟩
    obtain ⟨h1, h2, h3⟩ := bt_cons a i c' l' hcl
    have hb := digs_bt hd h1
    rw [hcl, show 12 - i = (12 - (i + 1)) + 1 by omega, List.take_succ_cons] at hr
    injection hr with hc hr
    subst hc
    have hp : 10 ^ (i - 7) ≤ 10 ^ 5 := Nat.pow_le_pow_right (by omega) (by omega)
    rw [h2] at hb
    refine Ev.up1 ?_
    simp only [spec_ReadScan.l0]
    refine Ev.pos (by omega) (Ev.pos (by omega) (Ev.pos (by omega) ?_))
    rw [h2, w64n (by omega), w64 (x := (c'.toNat : Int)) (by omega) (by omega), w64 (x := (v : Int) * 10) (by omega) (by omega), w64 (x := (v : Int) * 10 + (c'.toNat : Int)) (by omega) (by omega), w64 (by omega) (by omega), show (v : Int) * 10 + (c'.toNat : Int) - 48 = ((v * 10 + (c'.toNat - 48) : Nat) : Int) by omega, valD_cons]
    exact ih (i + 1) (v * 10 + (c'.toNat - 48)) (by omega) (by omega) (by rw [h3]; exact hr) (by rw [show i + 1 - 7 = i - 7 + 1 by omega, Nat.pow_succ]; omega)
theorem specScan_j0 (a : ByteArray) (hs : a.size = 8 ∨ a.size = 13) (hd : digsV a = true) : Ev (fun k => spec_ReadScan.j0 k a (a.size : Int) false) (innerS a) := by
  have hk := specCheck_ev (a.extract 0 (a.size - 1)) (by rw [ByteArray.size_extract]; omega) (digs_ext hd _ _)
  have hb := digs_bt hd (show a.size - 1 < a.size by omega)
  have hb1 : 48 ≤ bt a 1 ∧ bt a 1 ≤ 57 := digs_bt hd (show 1 < a.size by omega)
  have e0 : wrap64 ((a.size : Int) - 1) = ((a.size - 1 : Nat) : Int) := by rw [w64 (by omega) (by omega)]; omega
  unfold innerS
  refine Ev.up1 ?_
  simp only [spec_ReadScan.j0]
  rw [e0]
  refine Ev.neg ff (Ev.pos (by omega) (Ev.pos (by omega) ?_))
  rw [Int.toNat_natCast]
  refine Ev.bind hk (Ev.pos (by omega) ?_)
  generalize chkV (a.extract 0 (a.size - 1)) = q
  generalize bt a ((a.size - 1 : Nat) : Int) = z at hb ⊢
  rw [w64 (x := z) (by omega) (by omega), w64 (by omega) (by omega)]
  refine Ev.ite (fun _ => ?_) (fun _ => Ev.some' rfl)
  have one : Ev (fun k => spec_ReadScan.j1 k a true) (1, a, 0, 0) := Ev.up1 (by simp only [spec_ReadScan.j1]; exact Ev.pos trivial (Ev.some' rfl))
  by_cases c8 : a.size = 8
  · rw [if_pos (Or.inl c8)]
    exact Ev.pos (by omega) one
  have h13 : a.size = 13 := hs.resolve_left c8
  refine Ev.neg (by omega) (Ev.pos (by omega) ?_)
  by_cases c50 : bt a 0 = 50
  rotate_left
  · rw [if_pos (Or.inr c50), show (bt a 0 != 50) = true from bne_iff_ne.2 c50]
    exact one
  rw [if_neg (fun e => e.elim c8 (fun h => h c50)), show (bt a 0 != 50) = false from bne_eq_false_iff_eq.2 c50]
  refine Ev.up1 ?_
  simp only [spec_ReadScan.j1]
  refine Ev.neg ff ?_
  have hF : ∀ v : Int, Ev (fun k => spec_ReadScan.l0 k a v 12) (if bt a 1 > 49 then failS 13 else (2 + (bt a 1 - 48), a.extract 2 7, v, 0)) := by
    intro v
    refine Ev.up1 ?_
    simp only [spec_ReadScan.l0]
    refine Ev.neg (by omega) (Ev.pos (by omega) ?_)
    by_cases d1 : bt a 1 = 48
    · refine Ev.eq (Ev.pos d1 (Ev.pos (by first | trivial | omega) (Ev.pos (by omega) (Ev.some' (r' := (2 + (bt a 1 - 48), a.extract 2 7, v, 0)) (by rw [d1]; rfl))))) (if_neg (by omega)).symm
    · refine Ev.neg d1 ?_
      by_cases d2 : bt a 1 = 49
      · refine Ev.eq (Ev.pos d2 (Ev.pos (by first | trivial | omega) (Ev.pos (by omega) (Ev.some' (r' := (2 + (bt a 1 - 48), a.extract 2 7, v, 0)) (by rw [d2]; rfl))))) (if_neg (by omega)).symm
      · exact Ev.eq (Ev.neg d2 (Ev.some' rfl)) (if_pos (by omega)).symm
  have := specNum_l0 a h13 hd _ hF _ 7 0 (by omega) (by omega) rfl (by decide)
  unfold num5
  rw [Lib.extract_data]
  exact this
theorem specScan_ev (a : ByteArray) (ha : a.size ≤ 65536) : Ev (fun k => spec_ReadScan.f k a) (scanV a) := by
  have bad : ∀ n : Int, Ev (fun k => spec_ReadScan.j0 k a n true) (failS 4) := fun n => Ev.up1 (by simp only [spec_ReadScan.j0]; exact Ev.pos trivial (Ev.some' rfl))
  unfold spec_ReadScan.f scanV
  refine Ev.neg (by omega) ?_
  by_cases c : a.size = 8 ∨ a.size = 13
  · have hj : ∀ b : Bool, digsV a = b → Ev (fun k => spec_ReadScan.j0 k a (a.size : Int) (!b)) (if (a.size = 8 ∨ a.size = 13) ∧ digsV a = true then innerS a else failS 4) := by
      intro b hb
      cases b with
      | true => rw [if_pos ⟨c, hb⟩]; exact specScan_j0 a c hb
      | false => rw [if_neg (fun e => by rw [hb] at e; exact ff e.2)]; exact bad _
    rcases c with c8 | c13
    · exact Ev.pos (by omega) (Ev.bind (specAll_ev a (by omega)) (hj _ rfl))
    · exact Ev.neg (by omega) (Ev.pos (by omega) (Ev.bind (specAll_ev a (by omega)) (hj _ rfl)))
  · rw [if_neg (fun e => c e.1)]
    exact Ev.neg (by omega) (Ev.neg (by omega) (bad _))
theorem specScan_long (a : ByteArray) (ha : ¬ a.size ≤ 65536) : Ev (fun k => spec_ReadScan.f k a) (failS 2) := by
  unfold spec_ReadScan.f
  exact Ev.pos (by omega) (Ev.some' rfl)
/-- A source of draws: its code's bytes, its place (at most N), its seed. -/
def Srd (c : List Int) (a s N : Int) : Prop := (∀ x ∈ c, 0 ≤ x ∧ x ≤ 255) ∧ 0 ≤ a ∧ a ≤ N ∧ 0 ≤ s ∧ s ≤ 2147483647
theorem Srd.mono {c : List Int} {a s N M : Int} (h : Srd c a s N) (hM : N ≤ M) : Srd c a s M := ⟨h.1, h.2.1, by have := h.2.2.1; omega, h.2.2.2⟩
theorem rd_byte {c : List Int} (hc : ∀ x ∈ c, 0 ≤ x ∧ x ≤ 255) (i : Int) : 0 ≤ rd c i ∧ rd c i ≤ 255 := by
  unfold rd
  rw [List.getD_eq_getElem?_getD]
  cases h : c[i.toNat]? with
  | none => simp
  | some x => simpa using hc x (List.mem_of_getElem? h)
theorem byte_ok {c : List Int} {a s N : Int} (h : Srd c a s N) (hN : N ≤ 1000000000) : ∃ v s', spec_l00Src_byte.f c a s = some (v, a + 1, s') ∧ 0 ≤ v ∧ v ≤ 255 ∧ Srd c (a + 1) s' (N + 1) := by
  obtain ⟨hc, h0, h1, h2, h3⟩ := h
  unfold spec_l00Src_byte.f
  rw [w64 (x := a + 1) (by omega) (by omega), w64 (x := a + 1 - 1) (by omega) (by omega), show a + 1 - 1 = a by omega]
  have hb := rd_byte hc a
  generalize rd c a = b at hb
  rw [w64 (x := b) (by omega) (by omega), w64 (x := s * 31) (by omega) (by omega), w64 (x := s * 31 + b) (by omega) (by omega), w64 (x := s * 31 + b + 7) (by omega) (by omega), Int.tmod_eq_emod_of_nonneg (show 0 ≤ s * 31 + b + 7 by omega)]
  rw [w64 (x := s * 1103515245) (by omega) (by omega), w64 (x := s * 1103515245 + 12345) (by omega) (by omega), Int.tmod_eq_emod_of_nonneg (show 0 ≤ s * 1103515245 + 12345 by omega)]
  have e := Int.emod_nonneg (s * 1103515245 + 12345) (show (2147483648 : Int) ≠ 0 by decide)
  have e2 := Int.emod_lt_of_pos (s * 1103515245 + 12345) (show (0 : Int) < 2147483648 by decide)
  have f := Int.emod_nonneg (s * 31 + b + 7) (show (2147483648 : Int) ≠ 0 by decide)
  have f2 := Int.emod_lt_of_pos (s * 31 + b + 7) (show (0 : Int) < 2147483648 by decide)
  generalize (s * 1103515245 + 12345) % 2147483648 = t at e e2 ⊢
  generalize (s * 31 + b + 7) % 2147483648 = u at f f2 ⊢
  by_cases c1 : a + 1 ≤ (c.length : Int)
  · rw [if_pos c1, if_pos h0, if_pos (by omega)]
    exact ⟨_, _, rfl, hb.1, hb.2, hc, by omega, by omega, by omega, by omega⟩
  · rw [if_neg c1]
    by_cases c2 : a + 1 > 3000
    · rw [if_pos c2]
      exact ⟨_, _, rfl, by omega, by omega, hc, by omega, by omega, by omega, by omega⟩
    · rw [if_neg c2, Int.tdiv_eq_ediv_of_nonneg (by omega), w64 (by omega) (by omega), Int.tmod_eq_emod_of_nonneg (by omega)]
      exact ⟨_, _, rfl, by omega, by omega, hc, by omega, by omega, by omega, by omega⟩
theorem next_ok {c : List Int} {a s N : Int} (n : Int) (h : Srd c a s N) (hN : N ≤ 900000000) (h1 : 1 ≤ n) (h2 : n ≤ 16777216) : ∃ v a' s', spec_l00Src_next.f c a s n = some (v, a', s') ∧ 0 ≤ v ∧ v < n ∧ Srd c a' s' (N + 3) := by
  unfold spec_l00Src_next.f
  by_cases c1 : n ≤ 1
  · rw [if_pos c1]
    exact ⟨_, _, _, rfl, by omega, by omega, h.mono (by omega)⟩
  · rw [if_neg c1]
    obtain ⟨v, s1, hv, v0, v1, S1⟩ := byte_ok h (by omega)
    simp only [hv, Option.bind_some]
    have g := Int.emod_nonneg v (show n ≠ 0 by omega)
    have g2 := Int.emod_lt_of_pos v (show 0 < n by omega)
    by_cases c2 : n ≤ 256
    · rw [if_pos c2, if_neg (by omega), Int.tmod_eq_emod_of_nonneg (by omega)]
      exact ⟨_, _, _, rfl, g, g2, S1.mono (by omega)⟩
    · rw [if_neg c2]
      obtain ⟨x, s2, hx, x0, x1, S2⟩ := byte_ok S1 (by omega)
      simp only [hx, Option.bind_some]
      obtain ⟨y, s3, hy, y0, y1, S3⟩ := byte_ok S2 (by omega)
      simp only [hy, Option.bind_some]
      rw [if_neg (by omega)]
      rw [w64 (x := v * 65536) (by omega) (by omega), w64 (x := x * 256) (by omega) (by omega), w64 (x := v * 65536 + x * 256) (by omega) (by omega), w64 (by omega) (by omega), Int.tmod_eq_emod_of_nonneg (by omega)]
      exact ⟨_, _, _, rfl, Int.emod_nonneg _ (by omega), Int.emod_lt_of_pos _ (by omega), S3.mono (by omega)⟩
theorem source_ok (l : List Int) (h : ∀ x ∈ l, (Lit.int .u8 x).wf = true) : ∃ s, spec_l00Source.f l = some (l, 0, s) ∧ Srd l 0 s 0 := by
  refine ⟨_, rfl, fun x hx => bounds_u8 (h x hx), by omega, by omega, ?_, ?_⟩ <;> omega
theorem at_ok {c : List Int} (hc : ∀ x ∈ c, 0 ≤ x ∧ x ≤ 255) (i n : Int) (h0 : 0 ≤ i) (h1 : i ≤ 1000000) (hn : 1 ≤ n) : ∃ v, laws_at.f c i n = some v ∧ 0 ≤ v ∧ v < n := by
  unfold laws_at.f
  by_cases c1 : n ≤ 1
  · rw [if_pos c1]
    exact ⟨_, rfl, by omega, by omega⟩
  rw [if_neg c1]
  by_cases c2 : (c.length : Int) = 0
  · rw [if_pos c2, if_neg (by omega), w64 (by omega) (by omega), Int.tmod_eq_emod_of_nonneg (by omega)]
    exact ⟨_, rfl, Int.emod_nonneg _ (by omega), Int.emod_lt_of_pos _ (by omega)⟩
  · rw [if_neg c2]
    have e1 := Int.emod_nonneg i c2
    have e2 := Int.emod_lt_of_pos i (show (0 : Int) < (c.length : Int) by omega)
    have f1 := Int.emod_nonneg (i + 1) c2
    have f2 := Int.emod_lt_of_pos (i + 1) (show (0 : Int) < (c.length : Int) by omega)
    have g1 : 0 ≤ i / (c.length : Int) := Int.ediv_nonneg h0 (by omega)
    have g2 : i / (c.length : Int) ≤ i := Int.ediv_le_self _ h0
    rw [w64 (x := i + 1) (by omega) (by omega), Int.tmod_eq_emod_of_nonneg h0, Int.tmod_eq_emod_of_nonneg (show 0 ≤ i + 1 by omega), Int.tdiv_eq_ediv_of_nonneg h0]
    have b1 := rd_byte hc (i % (c.length : Int))
    have b2 := rd_byte hc ((i + 1) % (c.length : Int))
    generalize rd c (i % (c.length : Int)) = x at b1 ⊢
    generalize rd c ((i + 1) % (c.length : Int)) = y at b2 ⊢
    generalize i / (c.length : Int) = z at g1 g2 ⊢
    rw [if_pos e1, if_pos e2, if_pos f1, if_pos f2, if_neg (by omega), w64 (x := x) (by omega) (by omega), w64 (x := y) (by omega) (by omega), w64 (x := z) (by omega) (by omega), w64 (x := x * 31) (by omega) (by omega), w64 (x := x * 31 + y) (by omega) (by omega), w64 (by omega) (by omega), Int.tmod_eq_emod_of_nonneg (by omega)]
    exact ⟨_, rfl, Int.emod_nonneg _ (by omega), Int.emod_lt_of_pos _ (by omega)⟩
theorem areTexts_ev (a : ByteArray) : Ev (fun k => impl_areTexts.f k [a]) (decide ((a.size : Int) ≤ 65536)) := by
  unfold impl_areTexts.f slices_ContainsFunc_string_string.f slices_IndexFunc_string_string.f
  by_cases c : (a.size : Int) > 65536
  · rw [decide_eq_false (show ¬ (a.size : Int) ≤ 65536 by omega)]
    refine Ev.bind (a := true) (Ev.bind (a := (0 : Int)) ?_ (Ev.some' rfl)) (Ev.some' rfl)
    refine Ev.step (fun k => rfl) (Ev.pos (by simp) (Ev.pos (by omega) (Ev.pos (by simp) (Ev.ret rfl (Ev.pos ?_ (Ev.some' rfl))))))
    exact decide_eq_true c
  · rw [decide_eq_true (show (a.size : Int) ≤ 65536 by omega)]
    refine Ev.bind (a := false) (Ev.bind (a := (-1 : Int)) ?_ (Ev.some' rfl)) (Ev.some' rfl)
    refine Ev.step (fun k => rfl) (Ev.pos (by simp) (Ev.pos (by omega) (Ev.pos (by simp) (Ev.ret rfl (Ev.neg ?_ ?_)))))
    · show ¬ decide ((a.size : Int) > 65536) = true
      rw [decide_eq_false c]
      exact ff
    · rw [w64 (by omega) (by omega)]
      exact Ev.step (fun k => rfl) (Ev.neg (by simp) (Ev.some' rfl))

/-! ### bytes of joined texts -/
theorem bt_opt (a : ByteArray) (i : Nat) : bt a (i : Int) = (((a.data.toList[i]?).map UInt8.toNat).getD 0 : Nat) := by
  by_cases h : i < a.size
  · obtain ⟨x, hx, hb⟩ := bt_get a i h
    rw [hb, hx]
    rfl
  · have : a.data.toList[i]? = none := List.getElem?_eq_none (by rw [← size_len]; omega)
    rw [this]
    unfold bt
    rw [Int.toNat_natCast, dif_neg h]
    rfl
theorem app_list (a b : ByteArray) : (a ++ b).data.toList = a.data.toList ++ b.data.toList := by simp
theorem bt_app_l (a b : ByteArray) (i : Nat) (h : i < a.size) : bt (a ++ b) (i : Int) = bt a (i : Int) := by
  rw [bt_opt, bt_opt, app_list, List.getElem?_append_left (by rw [← size_len]; exact h)]
theorem bt_app_r (a b : ByteArray) (i : Nat) (h : a.size ≤ i) : bt (a ++ b) (i : Int) = bt b ((i - a.size : Nat) : Int) := by
  rw [bt_opt, bt_opt, app_list, List.getElem?_append_right (by rw [← size_len]; exact h), ← size_len]
theorem bt_ext (a : ByteArray) (n i : Nat) (h : i < n) : bt (a.extract 0 n) (i : Int) = bt a (i : Int) := by
  rw [bt_opt, bt_opt, Lib.extract_from_zero, List.getElem?_take_of_lt h]
theorem digs_app {a b : ByteArray} (ha : digsV a = true) (hb : digsV b = true) : digsV (a ++ b) = true := by
  unfold digsV at *
  rw [app_list, List.all_append, ha, hb]
  rfl
theorem ext_app (a b : ByteArray) : (a ++ b).extract 0 a.size = a := by
  apply ba_ext
  rw [Lib.extract_from_zero, app_list, size_len]
  exact List.take_left
/-! ### one digit -/
def oneV (n : Nat) : ByteArray := ⟨#[UInt8.ofNat (48 + n)]⟩
theorem one_size (n : Nat) : (oneV n).size = 1 := rfl
theorem one_digs {n : Nat} (h : n < 10) : digsV (oneV n) = true := by
  show (isDig (UInt8.ofNat (48 + n)) && true) = true
  rw [dig_ok h]
  rfl
theorem one_bt {n : Nat} (h : n < 10) : bt (oneV n) 0 = 48 + (n : Int) := by
  show (((UInt8.ofNat (48 + n)).toNat : Nat) : Int) = _
  rw [ofNat_toNat h]
  omega
theorem digit1_ev {v : Int} (h0 : 0 ≤ v) (h1 : v < 10) : Ev (fun k => spec_l00Digits.f k v) (oneV v.toNat) := by
  obtain ⟨n, rfl⟩ : ∃ n : Nat, v = n := ⟨v.toNat, by omega⟩
  refine Ev.step (fun k => rfl) (Ev.neg (by omega) (Ev.neg (by omega) (Ev.pos (by omega) (Ev.some' ?_))))
  rw [w64 (by omega) (by omega), Int.toNat_natCast, show (48 + (n : Int)) % 256 = ((48 + n : Nat) : Int) by omega]
  show (⟨#[UInt8.ofNat (((48 + n : Nat) : Int)).toNat]⟩ : ByteArray) = _
  rw [Int.toNat_natCast]
  rfl
theorem itoa1_ev {v : Int} (h0 : 0 ≤ v) (h1 : v < 10) : strconv_Itoa_31.f v = some (oneV v.toNat) := by
  unfold strconv_Itoa_31.f
  rw [if_pos ⟨by omega, by omega⟩, Lib.itoa, if_neg (by omega), Lib.decDigits_one (by omega)]
  rfl
theorem sumC_ge (s : ByteArray) (hd : digsV s = true) : ∀ (d i : Nat) (a : Int), i + d = s.size → 0 ≤ a → 0 ≤ sumC s d i a := by
  intro d
  induction d with
  | zero => intro i a _ h; exact h
  | succ d ih =>
    intro i a h h0
    have hb := digs_bt hd (show s.size - 1 - i < s.size by omega)
    rw [sumC]
    refine ih (i + 1) _ (by omega) ?_
    split <;> omega
theorem chk_eq (s : ByteArray) (hd : digsV s = true) : chkV s = (10 - (sumC s s.size 0 0) % 10) % 10 := by
  have := sumC_ge s hd s.size 0 0 (by omega) (by omega)
  unfold chkV endC
  rw [Int.tmod_eq_emod_of_nonneg this, Int.tmod_eq_emod_of_nonneg (by omega)]
theorem chk_range (s : ByteArray) (hd : digsV s = true) : 0 ≤ chkV s ∧ chkV s < 10 := by
  rw [chk_eq s hd]
  omega
/-! ### a drawn code -/
def goodT (t : ByteArray) : Prop := (t.size = 8 ∨ t.size = 13) ∧ digsV t = true ∧ chkV (t.extract 0 (t.size - 1)) = bt t ((t.size - 1 : Nat) : Int) - 48 ∧ (bt t 0 = 50 → t.size = 13 → bt t 1 ≤ 49)
theorem good_of (b : ByteArray) (hs : b.size = 7 ∨ b.size = 12) (hd : digsV b = true) (h2 : bt b 0 = 50 → b.size = 12 → bt b 1 ≤ 49) : goodT (b ++ oneV (chkV b).toNat) := by
  have hc := chk_range b hd
  have hz : (b ++ oneV (chkV b).toNat).size = b.size + 1 := by rw [ByteArray.size_append, one_size]
  have e0 : bt (b ++ oneV (chkV b).toNat) 0 = bt b 0 := bt_app_l b _ 0 (by omega)
  have e1 : bt (b ++ oneV (chkV b).toNat) 1 = bt b 1 := bt_app_l b _ 1 (by omega)
  refine ⟨by omega, digs_app hd (one_digs (by omega)), ?_, ?_⟩
  · rw [hz, Nat.add_sub_cancel, ext_app, bt_app_r b _ b.size (Nat.le_refl _), Nat.sub_self]
    rw [show ((0 : Nat) : Int) = 0 from rfl, one_bt (by omega)]
    omega
  · rw [e0, e1, hz]
    exact fun h h' => h2 h (by omega)
theorem digs_l0 {c : List Int} : ∀ (d : Nat) (t : ByteArray) (a s N : Int), Srd c a s N → N + 3 * d ≤ 1000 → t.size + d ≤ 1000 → ∃ x a' s' , Ev (fun k => spec_l00Src_digits.l0 k (d : Int) t c a s) (t ++ x, a', s') ∧ x.size = d ∧ digsV x = true ∧ Srd c a' s' (N + 3 * d) := by
  intro d
  induction d with
  | zero =>
    intro t a s N hS _ _
    refine ⟨⟨#[]⟩, a, s, Ev.step (fun k => rfl) (Ev.neg (by omega) (Ev.some' ?_)), rfl, rfl, by simpa using hS⟩
    rw [show t ++ (⟨#[]⟩ : ByteArray) = t from by apply ba_ext; rw [app_list]; simp]
  | succ d ih =>
    intro t a s N hS hN ht
    obtain ⟨v, a1, s1, hv, v0, v1, S1⟩ := next_ok 10 hS (by omega) (by omega) (by omega)
    obtain ⟨x, a2, s2, hx, x1, x2, S2⟩ := ih (t ++ oneV v.toNat) a1 s1 (N + 3) S1 (by omega) (by rw [ByteArray.size_append, one_size]; omega)
    refine ⟨oneV v.toNat ++ x, a2, s2, Ev.step (fun k => rfl) (Ev.pos (by omega) (Ev.ret hv (Ev.bind (digit1_ev v0 v1) (Ev.pos (by rw [one_size]; omega) ?_)))), by rw [ByteArray.size_append, one_size]; omega, digs_app (one_digs (by omega)) x2, S2.mono (by omega)⟩
    rw [w64 (by omega) (by omega), show ((d + 1 : Nat) : Int) - 1 = (d : Int) by omega]
    refine Ev.eq hx ?_
    rw [show (t ++ oneV v.toNat) ++ x = t ++ (oneV v.toNat ++ x) from by apply ba_ext; simp only [app_list, List.append_assoc]]
theorem digs_ok {c : List Int} {a s N : Int} (d : Nat) (hS : Srd c a s N) (hN : N ≤ 100) (hd : d ≤ 100) : ∃ x a' s' , Ev (fun k => spec_l00Src_digits.f k c a s (d : Int)) (x, a', s') ∧ x.size = d ∧ digsV x = true := by
  obtain ⟨x, a', s', h1, h2, h3, _⟩ := digs_l0 d ⟨#[]⟩ a s N hS (by omega) (show 0 + d ≤ 1000 by omega)
  refine ⟨x, a', s', Ev.eq h1 ?_, h2, h3⟩
  rw [show (⟨#[]⟩ : ByteArray) ++ x = x from by apply ba_ext; rw [app_list]; rfl]
theorem close_ev (b : ByteArray) (hs : b.size = 7 ∨ b.size = 12) (hd : digsV b = true) (a s : Int) : Ev (fun k => (spec_l02Check.f k b).bind fun t => (spec_l00Digits.f k t).bind fun u => if b.size + u.size ≤ 9223372036854775807 then some (b ++ u, a, s) else none) (b ++ oneV (chkV b).toNat, a, s) := by
  have hc := chk_range b hd
  exact Ev.bind (specCheck_ev b (by omega) hd) (Ev.bind (digit1_ev hc.1 hc.2) (Ev.pos (by rw [one_size]; omega) (Ev.some' rfl)))
theorem scan_ok {c : List Int} {s : Int} (hS : Srd c 0 s 0) : ∃ t a' s', Ev (fun k => spec_l00Src_scan.f k c 0 s) (t, a', s') ∧ goodT t := by
  obtain ⟨v, a1, s1, hv, v0, v1, S1⟩ := next_ok 4 hS (by omega) (by omega) (by omega)
  have two : ∀ (q : ByteArray), q.size = 2 → digsV q = true → bt q 1 ≤ 49 → ∀ x : ByteArray, x.size = 10 → digsV x = true → goodT ((q ++ x) ++ oneV (chkV (q ++ x)).toNat) := by
    intro q q1 q2 q3 x x1 x2
    refine good_of _ (Or.inr (by rw [ByteArray.size_append]; omega)) (digs_app q2 x2) fun _ _ => ?_
    have : bt (q ++ x) 1 = bt q 1 := bt_app_l q x 1 (by omega)
    omega
  unfold spec_l00Src_scan.f
  by_cases c0 : v = 0
  · obtain ⟨x, a2, s2, hx, x1, x2⟩ := digs_ok 7 S1 (by omega) (by omega)
    exact ⟨_, _, _, Ev.ret hv (Ev.pos c0 (Ev.bind hx (close_ev x (Or.inl x1) x2 a2 s2))), good_of x (Or.inl x1) x2 (fun _ h => by omega)⟩
  by_cases c1 : v = 1
  · obtain ⟨x, a2, s2, hx, x1, x2⟩ := digs_ok 10 S1 (by omega) (by omega)
    exact ⟨_, _, _, Ev.ret hv (Ev.neg c0 (Ev.pos c1 (Ev.bind hx (Ev.pos (by show 2 + x.size ≤ _; omega) (close_ev ((⟨#[50, 48]⟩ : ByteArray) ++ x) (Or.inr (by rw [ByteArray.size_append, x1]; rfl)) (digs_app rfl x2) a2 s2))))), two _ rfl rfl (by decide) x x1 x2⟩
  by_cases c2 : v = 2
  · obtain ⟨x, a2, s2, hx, x1, x2⟩ := digs_ok 10 S1 (by omega) (by omega)
    exact ⟨_, _, _, Ev.ret hv (Ev.neg c0 (Ev.neg c1 (Ev.pos c2 (Ev.bind hx (Ev.pos (by show 2 + x.size ≤ _; omega) (close_ev ((⟨#[50, 49]⟩ : ByteArray) ++ x) (Or.inr (by rw [ByteArray.size_append, x1]; rfl)) (digs_app rfl x2) a2 s2)))))), two _ rfl rfl (by decide) x x1 x2⟩
  obtain ⟨u, a2, s2, hu, u0, u1, S2⟩ := next_ok 5 S1 (by omega) (by omega) (by omega)
  have hp : ∃ q : ByteArray, rdOf ByteArray.empty ([(⟨#[52]⟩ : ByteArray), (⟨#[53, 48]⟩ : ByteArray), (⟨#[57, 55, 56]⟩ : ByteArray), (⟨#[51]⟩ : ByteArray), (⟨#[55]⟩ : ByteArray)] : List ByteArray) u = q ∧ 1 ≤ q.size ∧ q.size ≤ 3 ∧ digsV q = true ∧ bt q 0 ≠ 50 := by
    have : u = 0 ∨ u = 1 ∨ u = 2 ∨ u = 3 ∨ u = 4 := by omega
    rcases this with rfl | rfl | rfl | rfl | rfl
    · exact ⟨_, rfl, by decide, by decide, by decide, by decide⟩
    · exact ⟨_, rfl, by decide, by decide, by decide, by decide⟩
    · exact ⟨_, rfl, by decide, by decide, by decide, by decide⟩
    · exact ⟨_, rfl, by decide, by decide, by decide, by decide⟩
    · exact ⟨_, rfl, by decide, by decide, by decide, by decide⟩
  obtain ⟨q, hq, q1, q2, q3, q4⟩ := hp
  have hpick : spec_l00Src_pick.f c a1 s1 ([(⟨#[52]⟩ : ByteArray), (⟨#[53, 48]⟩ : ByteArray), (⟨#[57, 55, 56]⟩ : ByteArray), (⟨#[51]⟩ : ByteArray), (⟨#[55]⟩ : ByteArray)] : List ByteArray) = some (q, a2, s2) := by
    unfold spec_l00Src_pick.f
    rw [if_neg (by simp)]
    have e5 : ((([(⟨#[52]⟩ : ByteArray), (⟨#[53, 48]⟩ : ByteArray), (⟨#[57, 55, 56]⟩ : ByteArray), (⟨#[51]⟩ : ByteArray), (⟨#[55]⟩ : ByteArray)] : List ByteArray).length : Nat) : Int) = 5 := rfl
    rw [e5, hu, Option.bind_some, if_pos u0, if_pos u1, hq]
  obtain ⟨x, a3, s3, hx, x1, x2⟩ := digs_ok 12 S2 (by omega) (by omega)
  have hb : ((q ++ x).extract 0 12).size = 12 := by rw [ByteArray.size_extract, ByteArray.size_append]; omega
  refine ⟨_, _, _, Ev.ret hv (Ev.neg c0 (Ev.neg c1 (Ev.neg c2 (Ev.ret hpick (Ev.bind hx (Ev.pos (by show q.size + x.size ≤ _; omega) (Ev.pos (by first | trivial | omega) (Ev.pos (by show (12 : Int) ≤ ((q ++ x).size : Int); rw [ByteArray.size_append]; omega) (close_ev ((q ++ x).extract 0 12) (Or.inr hb) (digs_ext (digs_app q3 x2) _ _) a3 s3))))))))), good_of _ (Or.inr hb) (digs_ext (digs_app q3 x2) _ _) fun h => ?_⟩
  have e1 : bt ((q ++ x).extract 0 12) 0 = bt (q ++ x) 0 := bt_ext _ 12 0 (by omega)
  have e2 : bt (q ++ x) 0 = bt q 0 := bt_app_l q x 0 (by omega)
  omega
/-! ### reading and making -/
theorem implRead_ev (a : ByteArray) (ha : a.size ≤ 65536) : Ev (fun k => impl_ReadScan.f k a) (scanV a) := by
  unfold impl_ReadScan.f
  refine Ev.bind (areTexts_ev a) ?_
  rw [decide_eq_true (by omega)]
  exact Ev.pos rfl (Ev.bind (implScan_ev a) (Ev.some' rfl))
theorem goodS {t : ByteArray} (h : goodT t) : scanV t = if t.size = 8 ∨ bt t 0 ≠ 50 then (1, t, 0, 0) else (2 + (bt t 1 - 48), t.extract 2 7, num5 t, 0) := by
  obtain ⟨h1, h2, h3, h4⟩ := h
  unfold scanV innerS
  rw [if_pos ⟨h1, h2⟩, if_pos h3]
  by_cases c : t.size = 8 ∨ bt t 0 ≠ 50
  · rw [if_pos c, if_pos c]
  · have c' := not_or.1 c
    have := h4 (Decidable.not_not.1 c'.2) (h1.resolve_left c'.1)
    rw [if_neg c, if_neg c, if_neg (by omega)]
theorem valD_add : ∀ (r : List UInt8) (a : Nat), valD a r = a * 10 ^ r.length + valD 0 r := by
  intro r
  induction r with
  | nil => intro a; show a = a * 1 + 0; omega
  | cons c r ih =>
    intro a
    rw [valD_cons, valD_cons, ih (a * 10 + (c.toNat - 48)), ih (0 * 10 + (c.toNat - 48)), List.length_cons, Nat.pow_succ, Nat.add_mul, Nat.zero_mul, Nat.zero_add, Nat.mul_assoc, Nat.mul_comm 10 (10 ^ r.length)]
    omega
theorem tail5 (r : List UInt8) (h5 : r.length = 5) (hd : r.all isDig = true) : Lib.itoa (100000 + ((valD 0 r : Nat) : Int)) = 49 :: r := by
  have hv : valD 0 (49 :: r) = 100000 + valD 0 r := by
    rw [valD_cons, valD_add r, h5]
    rfl
  rw [Lib.itoa, if_neg (by omega), show (100000 + ((valD 0 r : Nat) : Int)).toNat = 100000 + valD 0 r by omega, ← hv]
  exact dec_of _ _ rfl (by simp) (by rw [List.all_cons, hd]; rfl) (fun e => absurd e (by simp))
theorem thirteen (l : List UInt8) (h : l.length = 13) : ∃ a0 a1 a2 a3 a4 a5 a6 a7 a8 a9 a10 a11 a12 : UInt8, l = [a0, a1, a2, a3, a4, a5, a6, a7, a8, a9, a10, a11, a12] := by
  match l, h with
  | [a0, a1, a2, a3, a4, a5, a6, a7, a8, a9, a10, a11, a12], _ => exact ⟨a0, a1, a2, a3, a4, a5, a6, a7, a8, a9, a10, a11, a12, rfl⟩
theorem u8_of {x : UInt8} {n : Nat} (h : (x.toNat : Int) = 48 + (n : Int)) : UInt8.ofNat (48 + n) = x := by
  rw [show 48 + n = x.toNat by omega]
  simp
theorem make_ev {t : ByteArray} (h : goodT t) : Ev (fun k => impl_MakeScan.f k (scanV t).1 (scanV t).2.1 (scanV t).2.2.1) (t, 0) := by
  have hs := goodS h
  have hread := implScan_ev t
  by_cases c : t.size = 8 ∨ bt t 0 ≠ 50
  · rw [if_pos c] at hs
    rw [hs] at hread ⊢
    unfold impl_MakeScan.f
    refine Ev.neg (by simp) (Ev.up1 ?_)
    simp only [impl_MakeScan.j0]
    exact Ev.neg (by simp) (Ev.bind hread (Ev.pos rfl (Ev.neg (by simp) (Ev.some' rfl))))
  · rw [if_neg c] at hs
    obtain ⟨h1, h2, h3, h4⟩ := h
    have c' := not_or.1 c
    have h50 : bt t 0 = 50 := Decidable.not_not.1 c'.2
    have h13 : t.size = 13 := h1.resolve_left c'.1
    have h49 := h4 h50 h13
    have hb1 : 48 ≤ bt t 1 ∧ bt t 1 ≤ 57 := digs_bt h2 (show 1 < t.size by omega)
    have hd0 := h2
    obtain ⟨a0, a1, a2, a3, a4, a5, a6, a7, a8, a9, a10, a11, a12, hl⟩ := thirteen t.data.toList (by rw [← size_len, h13])
    have ht : t = ⟨#[a0, a1, a2, a3, a4, a5, a6, a7, a8, a9, a10, a11, a12]⟩ := ba_ext (by rw [hl])
    have hr : (t.extract 7 12).data.toList = [a7, a8, a9, a10, a11] := by rw [Lib.extract_data, hl]; rfl
    have ha : (t.extract 2 7).data.toList = [a2, a3, a4, a5, a6] := by rw [Lib.extract_data, hl]; rfl
    have hdr : ([a7, a8, a9, a10, a11] : List UInt8).all isDig = true := by
      have := digs_ext h2 7 12
      unfold digsV at this
      rw [hr] at this
      exact this
    have hda := digs_ext h2 2 7
    have hp12 := digs_ext h2 0 (t.size - 1)
    have hb0 : (a0.toNat : Int) = 50 := by rw [← h50, show (0 : Int) = ((0 : Nat) : Int) from rfl, bt_opt, hl]; rfl
    have hbt1 : bt t 1 = (a1.toNat : Int) := by rw [show (1 : Int) = ((1 : Nat) : Int) from rfl, bt_opt, hl]; rfl
    have hb12 : bt t ((t.size - 1 : Nat) : Int) = (a12.toNat : Int) := by rw [bt_opt, hl, h13]; rfl
    have hc := chk_range _ hp12
    have hck := implCheck_ev (t.extract 0 (t.size - 1)) (by rw [ByteArray.size_extract]; omega) hp12
    have hp : (t.extract 0 (t.size - 1)).data.toList = [a0, a1, a2, a3, a4, a5, a6, a7, a8, a9, a10, a11] := by rw [Lib.extract_from_zero, hl, h13]; rfl
    rw [h13] at hck h3 hc hp hp12 hb12
    have hv0 : valD 0 [a7, a8, a9, a10, a11] < 100000 := by
      have := valD_lt [a7, a8, a9, a10, a11] 0 0 hdr (by decide)
      simpa using this
    have hn5 : num5 t = ((valD 0 [a7, a8, a9, a10, a11] : Nat) : Int) := by unfold num5; rw [hr]
    rw [hs] at hread ⊢
    have hz5 : (t.extract 2 7).size = 5 := by rw [ByteArray.size_extract]; omega
    have hI1 : strconv_Itoa_31.f (wrap64 (2 + (bt t 1 - 48) - 2)) = some ⟨#[a1]⟩ := by
      rw [w64 (by omega) (by omega), itoa1_ev (by omega) (by omega)]
      unfold oneV
      rw [u8_of (x := a1) (by omega)]
    have hI2 : strconv_Itoa_31.f (wrap64 (100000 + num5 t)) = some ⟨#[49, a7, a8, a9, a10, a11]⟩ := by
      rw [hn5, w64 (by omega) (by omega)]
      unfold strconv_Itoa_31.f
      rw [if_pos ⟨by omega, by omega⟩, tail5 _ rfl hdr]
    have hI3 : strconv_Itoa_31.f (chkV (t.extract 0 (13 - 1))) = some ⟨#[a12]⟩ := by
      rw [itoa1_ev hc.1 hc.2]
      unfold oneV
      rw [u8_of (x := a12) (by omega)]
    have e12 : ((((⟨#[50]⟩ : ByteArray) ++ ⟨#[a1]⟩) ++ t.extract 2 7) ++ (⟨#[49, a7, a8, a9, a10, a11]⟩ : ByteArray).extract 1 (⟨#[49, a7, a8, a9, a10, a11]⟩ : ByteArray).size) = t.extract 0 (13 - 1) := by
      apply ba_ext
      rw [hp]
      simp only [app_list, ha, Lib.extract_data]
      have : a0 = 50 := UInt8.toNat_inj.1 (by have : (50 : UInt8).toNat = 50 := rfl; omega)
      rw [this]
      rfl
    have e13 : t.extract 0 (13 - 1) ++ (⟨#[a12]⟩ : ByteArray) = t := by
      apply ba_ext
      rw [app_list, hp, hl]
      rfl
    have hj : Ev (fun k => impl_MakeScan.j0 k (t.extract 2 7) true (2 + (bt t 1 - 48)) (t.extract 2 7) (num5 t)) (t, 0) := by
      refine Ev.up1 ?_
      simp only [impl_MakeScan.j0]
      refine Ev.pos trivial (Ev.pos (by omega) (Ev.ret (areDigits_ev _ (by omega)) ?_))
      rw [hda]
      refine Ev.pos rfl (Ev.ret (within_ev _ _ _) ?_)
      rw [decide_eq_true (by omega)]
      refine Ev.up1 ?_
      simp only [impl_MakeScan.j1]
      refine Ev.neg ff (Ev.ret hI1 (Ev.pos (by show 1 + 1 ≤ 9223372036854775807; omega) (Ev.pos (by show 2 + (t.extract 2 7).size ≤ _; omega) (Ev.ret hI2 (Ev.pos (by show (1 : Int) ≤ 6; omega) (Ev.pos ?_ ?_))))))
      · rw [ByteArray.size_append, hz5]
        show 2 + 5 + 5 ≤ 9223372036854775807
        omega
      rw [e12]
      refine Ev.bind hck (Ev.ret hI3 (Ev.pos ?_ ?_))
      · rw [ByteArray.size_extract]
        show _ + 1 ≤ _
        omega
      rw [e13]
      exact Ev.bind hread (Ev.pos rfl (Ev.neg (by simp) (Ev.some' rfl)))
    unfold impl_MakeScan.f
    by_cases k2 : 2 + (bt t 1 - 48) = 2
    · exact Ev.pos k2 hj
    · refine Ev.neg k2 ?_
      rw [show ((2 + (bt t 1 - 48)) == 3) = true from beq_iff_eq.2 (by omega)]
      exact hj
theorem digit_ev {t : ByteArray} (h : goodT t) : Ev (fun k => impl_CheckDigit.f k (t.extract 0 (t.size - 1))) (bt t ((t.size - 1 : Nat) : Int) - 48, 0) := by
  obtain ⟨h1, h2, h3, h4⟩ := h
  have hz : (t.extract 0 (t.size - 1)).size = t.size - 1 := by rw [ByteArray.size_extract]; omega
  have hp := digs_ext h2 0 (t.size - 1)
  unfold impl_CheckDigit.f
  refine Ev.bind (areTexts_ev _) ?_
  rw [decide_eq_true (by omega)]
  refine Ev.pos rfl (Ev.ret (within_ev _ _ _) ?_)
  rw [decide_eq_true (by omega)]
  refine Ev.pos rfl (Ev.ret (areDigits_ev _ (by omega)) ?_)
  rw [hp]
  refine Ev.pos rfl (Ev.bind (implCheck_ev _ (by omega) hp) (Ev.some' ?_))
  rw [h3]
/-! ### a digit turned -/
theorem sum_same (s s' : ByteArray) (hz : s'.size = s.size) : ∀ (d i : Nat) (a a' : Int), i + d = s.size → (∀ j, j + i < s.size → bt s' (j : Int) = bt s (j : Int)) → sumC s' d i a' - sumC s d i a = a' - a := by
  intro d
  induction d with
  | zero => intro i a a' _ _; rfl
  | succ d ih =>
    intro i a a' h hb
    rw [sumC, sumC, hz, hb (s.size - 1 - i) (by omega)]
    rw [ih (i + 1) _ _ (by omega) (fun j hj => hb j (by omega))]
    omega
theorem sum_diff (s s' : ByteArray) (hz : s'.size = s.size) (q : Nat) (hq : q < s.size) (hb : ∀ j : Nat, j ≠ q → bt s' (j : Int) = bt s (j : Int)) : ∀ (d i : Nat) (a a' : Int), i + d = s.size → i + q < s.size → ∃ m : Int, (m = 1 ∨ m = 3) ∧ sumC s' d i a' - sumC s d i a = a' - a + m * (bt s' (q : Int) - bt s (q : Int)) := by
  intro d
  induction d with
  | zero => intro i a a' h h'; omega
  | succ d ih =>
    intro i a a' h hi
    rw [sumC, sumC, hz]
    by_cases c : s.size - 1 - i = q
    · rw [c, sum_same s s' hz d (i + 1) _ _ (by omega) (fun j hj => hb j (by omega))]
      by_cases ci : i % 2 = 0
      · rw [if_pos ci]
        exact ⟨3, Or.inr rfl, by rw [Int.mul_sub, Int.mul_sub, Int.mul_sub]; omega⟩
      · rw [if_neg ci]
        exact ⟨1, Or.inl rfl, by rw [Int.one_mul, Int.one_mul, Int.one_mul]; omega⟩
    · rw [hb _ c]
      obtain ⟨m, h1, h2⟩ := ih (i + 1) (a + (if i % 2 = 0 then 3 else 1) * (bt s ((s.size - 1 - i : Nat) : Int) - 48)) (a' + (if i % 2 = 0 then 3 else 1) * (bt s ((s.size - 1 - i : Nat) : Int) - 48)) (by omega) (by omega)
      exact ⟨m, h1, by rw [h2]; omega⟩
theorem chk_diff (s s' : ByteArray) (hz : s'.size = s.size) (hd : digsV s = true) (hd' : digsV s' = true) (q : Nat) (hq : q < s.size) (hb : ∀ j : Nat, j ≠ q → bt s' (j : Int) = bt s (j : Int)) (hne : bt s' (q : Int) ≠ bt s (q : Int)) : chkV s' ≠ chkV s := by
  obtain ⟨m, h1, h2⟩ := sum_diff s s' hz q hq hb s.size 0 0 0 (by omega) (by omega)
  have b1 := digs_bt hd hq
  have b2 := digs_bt hd' (show q < s'.size by omega)
  have g1 := sumC_ge s hd s.size 0 0 (by omega) (by omega)
  have g2 := sumC_ge s' hd' s'.size 0 0 (by omega) (by omega)
  rw [chk_eq s hd, chk_eq s' hd', hz]
  rw [hz] at g2
  generalize sumC s s.size 0 0 = S at h2 g1 ⊢
  generalize sumC s' s.size 0 0 = S' at h2 g2 ⊢
  rcases h1 with rfl | rfl <;> omega
def turnV (t : ByteArray) (q : Nat) (d : Int) : ByteArray := strOfNums ((bytesOf t).set q d)
theorem turn_list (t : ByteArray) (q : Nat) (d : Int) : (turnV t q d).data.toList = t.data.toList.set q (UInt8.ofNat d.toNat) := by
  unfold turnV strOfNums bytesOf
  simp only [List.map_set, List.map_map]
  congr 1
  conv => rhs; rw [← List.map_id t.data.toList]
  apply List.map_congr_left
  intro x _
  show UInt8.ofNat ((x.toNat : Int)).toNat = id x
  rw [Int.toNat_natCast]
  simp
theorem turn_size (t : ByteArray) (q : Nat) (d : Int) : (turnV t q d).size = t.size := by rw [size_len, turn_list, List.length_set, ← size_len]
theorem turn_bt (t : ByteArray) (q : Nat) (d : Int) (h0 : 0 ≤ d) (h1 : d < 256) (hq : q < t.size) (j : Nat) : bt (turnV t q d) (j : Int) = if j = q then d else bt t (j : Int) := by
  rw [bt_opt, bt_opt, turn_list, List.getElem?_set]
  by_cases c : q = j
  · subst c
    rw [if_pos rfl, if_pos rfl, if_pos (by rw [← size_len]; exact hq)]
    show (((UInt8.ofNat d.toNat).toNat : Nat) : Int) = d
    rw [UInt8.toNat_ofNat']
    omega
  · rw [if_neg c, if_neg (fun e => c e.symm)]
theorem turn_digs {t : ByteArray} (h : digsV t = true) (q : Nat) {d : Int} (h0 : 48 ≤ d) (h1 : d ≤ 57) : digsV (turnV t q d) = true := by
  unfold digsV at *
  rw [turn_list, List.all_eq_true]
  intro x hx
  rcases List.mem_or_eq_of_mem_set hx with hx | rfl
  · exact List.all_eq_true.1 h x hx
  · rw [show d.toNat = 48 + (d.toNat - 48) by omega]
    exact dig_ok (by omega)
theorem turned {t : ByteArray} (h : goodT t) (q : Nat) (hq : q < t.size) {d : Int} (h0 : 48 ≤ d) (h1 : d ≤ 57) (hne : d ≠ bt t (q : Int)) : (scanV (turnV t q d)).2.2.2 = 15 := by
  obtain ⟨g1, g2, g3, g4⟩ := h
  have hz := turn_size t q d
  have hb := turn_bt t q d (by omega) (by omega) hq
  have hd := turn_digs g2 q h0 h1
  unfold scanV innerS
  rw [if_pos ⟨by rw [hz]; exact g1, hd⟩, hz, if_neg]
  · rfl
  have hzE : (t.extract 0 (t.size - 1)).size = t.size - 1 := by rw [ByteArray.size_extract]; omega
  have hzE' : ((turnV t q d).extract 0 (t.size - 1)).size = t.size - 1 := by rw [ByteArray.size_extract, hz]; omega
  rw [hb (t.size - 1)]
  by_cases c : t.size - 1 = q
  · rw [if_pos c]
    have e : (turnV t q d).extract 0 (t.size - 1) = t.extract 0 (t.size - 1) := by
      apply ba_ext
      rw [Lib.extract_from_zero, Lib.extract_from_zero, turn_list, ← c, List.take_set_of_le (Nat.le_refl _)]
    rw [e, g3, c]
    omega
  · rw [if_neg c, ← g3]
    refine chk_diff (t.extract 0 (t.size - 1)) _ (by rw [hzE, hzE']) (digs_ext g2 _ _) (digs_ext hd _ _) q (by omega) ?_ ?_
    · intro j hj
      by_cases cj : j < t.size - 1
      · rw [bt_ext _ _ _ cj, bt_ext _ _ _ cj, hb j, if_neg hj]
      · have n1 : ∀ x : ByteArray, x.size = t.size - 1 → bt x (j : Int) = 0 := by
          intro x hx
          rw [bt_opt, List.getElem?_eq_none (by rw [← size_len]; omega)]
          rfl
        rw [n1 _ hzE, n1 _ hzE']
    · rw [bt_ext _ _ _ (by omega), bt_ext _ _ _ (by omega), hb q, if_pos rfl]
      exact hne
theorem FnScan : laws_FnScan.Pure := by
  intro code more hc hm
  refine Ev.rounds (?_ : Ev (fun k => laws_FnScan.f k code more) true)
  have hmb : ∀ x ∈ more, 0 ≤ x ∧ x ≤ 255 := fun x hx => bounds_u8 (hm.2 x hx)
  have skip : Ev (fun k => laws_FnScan.j0 k code more true) true := Ev.up1 (by simp only [laws_FnScan.j0]; exact Ev.pos trivial (Ev.some' rfl))
  unfold laws_FnScan.f
  by_cases c1 : (code.length : Int) > 1048576
  · exact Ev.pos c1 skip
  refine Ev.neg c1 ?_
  by_cases c2 : (more.length : Int) > 1048576
  · rw [decide_eq_true c2]; exact skip
  rw [decide_eq_false c2]
  obtain ⟨s, hs, S0⟩ := source_ok code hc.2
  obtain ⟨t, a', s', ht, hg⟩ := scan_ok S0
  have hof : Ev (fun k => spec_ScanOf.f k code) t := by
    unfold spec_ScanOf.f
    exact Ev.ret hs (Ev.bind ht (Ev.some' rfl))
  have hz : t.size = 8 ∨ t.size = 13 := hg.1
  have hcode : (scanV t).2.2.2 = 0 := by
    rw [goodS hg]
    split <;> rfl
  refine Ev.up1 ?_
  simp only [laws_FnScan.j0]
  refine Ev.neg ff (Ev.bind hof (Ev.bind (implRead_ev t (by omega)) (Ev.bind (specScan_ev t (by omega)) (Ev.pos rfl (Ev.up1 ?_)))))
  simp only [laws_FnScan.j1]
  refine Ev.neg (by simp) (Ev.pos hcode (Ev.bind (make_ev hg) (Ev.pos rfl (Ev.pos rfl (Ev.up1 ?_)))))
  simp only [laws_FnScan.j2]
  obtain ⟨q, hq, q0, q1⟩ := at_ok hmb 0 (t.size : Int) (by omega) (by omega) (by omega)
  obtain ⟨r, hr, r0, r1⟩ := at_ok hmb 1 9 (by omega) (by omega) (by omega)
  obtain ⟨p, rfl⟩ : ∃ p : Nat, q = p := ⟨q.toNat, by omega⟩
  have hp : p < t.size := by omega
  have hb := digs_bt hg.2.1 hp
  refine Ev.ret hq (Ev.pos (by omega) (Ev.ret rfl (Ev.pos q0 (Ev.pos (by rw [bytesOf_length]; omega) (Ev.ret hr ?_)))))
  rw [rd_bytesOf, Int.toNat_natCast]
  generalize hx : bt t (p : Int) = x at hb
  rw [w64 (x := x) (by omega) (by omega), w64 (x := x - 48) (by omega) (by omega), w64 (x := x - 48 + 1) (by omega) (by omega), w64 (x := x - 48 + 1 + r) (by omega) (by omega), Int.tmod_eq_emod_of_nonneg (by omega), w64 (by omega) (by omega)]
  have hv : ((48 + (x - 48 + 1 + r) % 10) % 256) = 48 + (x - 48 + 1 + r) % 10 := by omega
  rw [hv]
  have hturn := turned hg p hp (d := 48 + (x - 48 + 1 + r) % 10) (by omega) (by omega) (by rw [hx]; omega)
  have hread := implRead_ev (turnV t p (48 + (x - 48 + 1 + r) % 10)) (by rw [turn_size]; omega)
  have e1 : wrap64 ((t.size : Int) - 1) = ((t.size - 1 : Nat) : Int) := by rw [w64 (by omega) (by omega)]; omega
  have hl := digs_bt hg.2.1 (show t.size - 1 < t.size by omega)
  refine Ev.bind hread (Ev.pos hturn ?_)
  rw [e1, Int.toNat_natCast]
  refine Ev.pos (by omega) (Ev.pos (by omega) (Ev.bind (digit_ev hg) (Ev.pos rfl (Ev.pos (by omega) (Ev.some' ?_)))))
  rw [w64 (x := bt t _) (by omega) (by omega), w64 (by omega) (by omega)]
  simp

end Go.Proofs.YtglfajnagdpkeaaDoor.Pure
