/- Three drawn right lists: the program says the same whatever the order of their lines; where all three are one list all is right: the law's plain statement, with no condition. -/
import Derived.Test.YtkiooiijnolocaaXFnThreeWayx7
import Derived.Test.YtkiooiijnolocaaAx
import Derived.Test.YtkiooiijnolocaaIdx
import Derived.Lib.SlicesCompact
import Derived.Lib.RowBridge
import Derived.Sort.Walk0
namespace Go.Proofs.Ytkiooiijnolocaa.Pure
open Go.RowKit Go.Proofs.Ytkiooiijnolocaa.XFnThreeWay Go.Proofs.YtkiooiijnolocaaW.PrintWords Go.Proofs.YtkiooiijnolocaaW.PrintLast
open Go.Proofs.YtkiooiijnolocaaW.Ax Go.Proofs.YtkiooiijnolocaaW.Idx
set_option linter.unusedVariables false
set_option linter.unusedSimpArgs false
theorem within_ev (a b c : Int) : impl_within.f a b c = some (decide (b ≤ a ∧ a ≤ c)) := by
  unfold impl_within.f
  by_cases h : a ≥ b
  · rw [if_pos h]; congr 1; rw [decide_eq_decide]; omega
  · rw [if_neg h]; congr 1; symm; rw [decide_eq_false_iff_not]; omega
/-! ### names -/
def codeP (m : Int) : Prop := (192 ≤ m ∧ m ≤ 591 ∧ m ≠ 215 ∧ m ≠ 247) ∨ (913 ≤ m ∧ m ≤ 969) ∨ (1040 ≤ m ∧ m ≤ 1103)
instance (m : Int) : Decidable (codeP m) := by unfold codeP; exact inferInstance
def wideP (c n : Int) : Prop := (194 ≤ c ∧ c ≤ 223) ∧ (128 ≤ n ∧ n ≤ 191) ∧ codeP ((c - 192) * 64 + n - 128)
instance (c n : Int) : Decidable (wideP c n) := by unfold wideP; exact inferInstance
def plainP (c : Int) : Prop := (97 ≤ c ∧ c ≤ 122) ∨ (65 ≤ c ∧ c ≤ 90) ∨ c = 95
instance (c : Int) : Decidable (plainP c) := by unfold plainP; exact inferInstance
def digitP (c : Int) : Prop := 48 ≤ c ∧ c ≤ 57
instance (c : Int) : Decidable (digitP c) := by unfold digitP; exact inferInstance
/-- The rest of a name, from place i on. -/
def nameB (s : ByteArray) : Nat → Nat → Bool
  | 0, _ => true
  | d + 1, i => if s.size ≤ i then true else if plainP (bt s i) ∨ (0 < i ∧ digitP (bt s i)) then nameB s d (i + 1) else if i + 1 < s.size ∧ wideP (bt s i) (bt s ((i + 1 : Nat) : Int)) then nameB s d (i + 2) else false
theorem someD {b : Bool} {P : Prop} [Decidable P] (h : b = true ↔ P) : some b = some (decide P) := by
  by_cases c : P
  · rw [decide_eq_true c, h.2 c]
  · rw [decide_eq_false c]
    cases b with
    | false => rfl
    | true => exact absurd (h.1 rfl) c
theorem isLetter_ev (c : Int) : impl_isLetter.f c = some (decide (plainP c)) := by
  unfold impl_isLetter.f
  repeat' split
  all_goals (refine someD ?_; unfold plainP; (try simp only [beq_iff_eq]); first | omega | (simp; omega))
theorem isDigit_ev (c : Int) : impl_isDigit.f c = some (decide (digitP c)) := by
  unfold impl_isDigit.f
  repeat' split
  all_goals (refine someD ?_; unfold digitP; (try simp only [decide_eq_true_eq]); first | omega | (simp; omega))
theorem or6 {x y : Int} (hx₀ : 0 ≤ x) (hx : x % 64 = 0) (hx₁ : x < 1000000) (h₀ : 0 ≤ y) (h₁ : y < 64) : Go.bits .or .i64 x y = x + y :=
  Go.bits_join .i64 31 (by decide) (fun n a b => by rw [Go.IntKind.wrap_i64]; omega) 6 x y hx₀ hx (by omega) h₀ h₁ (by omega)
theorem code_eq (c n : Int) (hc : 194 ≤ c ∧ c ≤ 223) (hn : 128 ≤ n ∧ n ≤ 191) : Go.bits .or .i64 (wrap64 ((wrap64 (Go.bits .and .u8 c 31)) * 64)) (wrap64 (Go.bits .and .u8 n 63)) = (c - 192) * 64 + n - 128 := by
  have e1 : Go.bits .and .u8 c 31 = c % 32 := Go.u8_and31 c (by omega) (by omega)
  have e2 : Go.bits .and .u8 n 63 = n % 64 := Go.u8_and63 n (by omega) (by omega)
  rw [e1, e2, w64 (x := c % 32) (by omega) (by omega), w64 (x := n % 64) (by omega) (by omega), w64 (x := c % 32 * 64) (by omega) (by omega), or6 (by omega) (by omega) (by omega) (by omega) (by omega)]
  omega
theorem code_ev (m : Int) : ((impl_within.f m 192 591).bind fun t137 => (if t137 = true then (if m = 215 then ((impl_within.f m 913 969).bind fun t138 => (if t138 = true then (some true) else ((impl_within.f m 1040 1103).bind fun t139 => (some t139)))) else (if m = 247 then ((impl_within.f m 913 969).bind fun t140 => (if t140 = true then (some true) else ((impl_within.f m 1040 1103).bind fun t141 => (some t141)))) else (some true))) else ((impl_within.f m 913 969).bind fun t142 => (if t142 = true then (some true) else ((impl_within.f m 1040 1103).bind fun t143 => (some t143)))))) = some (decide (codeP m)) := by
  simp only [within_ev, Option.bind_some]
  simp only [decide_eq_true_eq]
  repeat' split
  all_goals (refine someD ?_; unfold codeP; (try simp only [decide_eq_true_eq]); first | omega | (simp; omega))
theorem wide_ev (s : ByteArray) (h : s.size = 2) : Ev (fun k => impl_isWideLetter.f k s) (decide (wideP (bt s 0) (bt s 1))) := by
  unfold impl_isWideLetter.f
  have hj : ∀ b : Bool, b = false ∨ b = true := by intro b; cases b <;> simp
  have hbad : ¬ wideP (bt s 0) (bt s 1) → Ev (fun k => impl_isWideLetter.j0 k s true) (decide (wideP (bt s 0) (bt s 1))) := fun h => Ev.via (Ev.some' (decide_eq_false h).symm) (fun k => rfl)
  refine Ev.pos (by omega) ?_
  by_cases c1 : bt s 0 < 194
  · exact Ev.pos c1 (hbad (fun h => by have := h.1; omega))
  refine Ev.neg c1 ?_
  by_cases c2 : bt s 0 > 223
  · exact Ev.pos c2 (hbad (fun h => by have := h.1; omega))
  refine Ev.neg c2 (Ev.pos (by omega) ?_)
  by_cases c3 : bt s 1 < 128
  · exact Ev.pos c3 (hbad (fun h => by have := h.2.1; omega))
  refine Ev.neg c3 ?_
  by_cases c4 : bt s 1 > 191
  · rw [decide_eq_true c4]
    exact hbad (fun h => by have := h.2.1; omega)
  rw [decide_eq_false c4]
  refine Ev.up1 ?_
  simp only [impl_isWideLetter.j0, if_neg ff]
  rw [code_eq _ _ (by omega) (by omega)]
  refine Ev.pos (by omega) (Ev.pos (by omega) ?_)
  have hw : wideP (bt s 0) (bt s 1) ↔ codeP ((bt s 0 - 192) * 64 + bt s 1 - 128) := ⟨fun h => h.2.2, fun h => ⟨by omega, by omega, h⟩⟩
  rw [decide_eq_decide.2 hw]
  exact Ev.const (code_ev _)
theorem bt_extract (s : ByteArray) (i : Nat) (h : i + 2 ≤ s.size) : (s.extract i (i + 2)).size = 2 ∧ bt (s.extract i (i + 2)) 0 = bt s (i : Int) ∧ bt (s.extract i (i + 2)) 1 = bt s ((i + 1 : Nat) : Int) := by
  have hs : (s.extract i (i + 2)).size = 2 := by rw [ByteArray.size_extract]; omega
  refine ⟨hs, ?_, ?_⟩
  · unfold bt
    rw [dif_pos (by rw [hs]; decide), dif_pos (by rw [Int.toNat_natCast]; omega)]
    rw [ByteArray.getElem_extract]
    congr 2
  · unfold bt
    rw [dif_pos (by rw [hs]; decide), dif_pos (by rw [Int.toNat_natCast]; omega)]
    rw [ByteArray.getElem_extract]
    congr 2
theorem impl_name_l0 (s : ByteArray) (hs : s.size ≤ 40) : ∀ (d i : Nat), s.size ≤ i + d → i ≤ 50 → Ev (fun k => impl_NameOK.l0 k s (i : Int)) (nameB s d i) := by
  intro d
  induction d with
  | zero => intro i h hi; exact Ev.step (fun k => rfl) (Ev.neg (show ¬ (i : Int) < (s.size : Int) by omega) (Ev.some' rfl))
  | succ d ih =>
    intro i h hi
    rw [nameB]
    by_cases c0 : s.size ≤ i
    · rw [if_pos c0]
      exact Ev.step (fun k => rfl) (Ev.neg (show ¬ (i : Int) < (s.size : Int) by omega) (Ev.some' rfl))
    rw [if_neg c0]
    have hgo : Ev (fun k => impl_NameOK.j1 k s (i : Int) true) (nameB s d (i + 1)) := by
      refine Ev.via (f := fun k => impl_NameOK.l0 k s (wrap64 ((i : Int) + 1))) ?_ (fun k => rfl)
      rw [w64n (by omega)]
      exact ih (i + 1) (by omega) (by omega)
    have hwide : Ev (fun k => impl_NameOK.j1 k s (i : Int) false) (if i + 1 < s.size ∧ wideP (bt s (i : Int)) (bt s ((i + 1 : Nat) : Int)) then nameB s d (i + 2) else false) := by
      refine Ev.up1 ?_
      simp only [impl_NameOK.j1, if_neg ff]
      rw [w64n (by omega), show wrap64 ((i : Int) + 2) = ((i + 2 : Nat) : Int) by rw [w64 (by omega) (by omega)]; omega, Int.toNat_natCast, Int.toNat_natCast, w64n (by omega)]
      by_cases c1 : i + 1 < s.size
      · obtain ⟨x1, x2, x3⟩ := bt_extract s i (by omega)
        have wv := wide_ev _ x1
        rw [x2, x3] at wv
        refine Ev.pos (by omega) (Ev.pos (by omega) (Ev.pos (by omega) (Ev.pos (by omega) (Ev.bind wv ?_))))
        by_cases c2 : wideP (bt s (i : Int)) (bt s ((i + 1 : Nat) : Int))
        · rw [if_pos ⟨c1, c2⟩]
          exact Ev.pos (decide_eq_true c2) (ih (i + 2) (by omega) (by omega))
        · rw [if_neg (fun h => c2 h.2)]
          exact Ev.neg (by rw [decide_eq_false c2]; exact ff) (Ev.some' rfl)
      · rw [if_neg (fun h => c1 h.1)]
        exact Ev.neg (by omega) (Ev.some' rfl)
    refine Ev.step (fun k => rfl) (Ev.pos (show (i : Int) < (s.size : Int) by omega) (Ev.pos (by omega) (Ev.ret (isLetter_ev _) ?_)))
    by_cases c1 : plainP (bt s (i : Int))
    · rw [if_pos (.inl c1)]
      exact Ev.pos (decide_eq_true c1) hgo
    refine Ev.neg (by simp [c1]) ?_
    by_cases c2 : (i : Int) > 0
    · refine Ev.pos c2 (Ev.ret (isDigit_ev _) ?_)
      by_cases c3 : digitP (bt s (i : Int))
      · rw [if_pos (.inr ⟨by omega, c3⟩), decide_eq_true c3]
        exact hgo
      · rw [if_neg (fun h => h.elim c1 (fun h => c3 h.2)), decide_eq_false c3]
        exact hwide
    · rw [if_neg (fun h => h.elim c1 (fun h => c2 (by omega)))]
      exact Ev.neg c2 hwide
def nameOKV (s : ByteArray) : Bool := decide (1 ≤ s.size ∧ s.size ≤ 40) && nameB s s.size 0
theorem implName_ev (s : ByteArray) : Ev (fun k => impl_NameOK.f k s) (nameOKV s) := by
  unfold impl_NameOK.f nameOKV
  refine Ev.ret (within_ev _ _ _) ?_
  by_cases c : 1 ≤ s.size ∧ s.size ≤ 40
  · rw [decide_eq_true c, Bool.true_and]
    exact Ev.pos (by simp; omega) (impl_name_l0 s c.2 s.size 0 (by omega) (by omega))
  · rw [decide_eq_false c, Bool.false_and]
    exact Ev.neg (by simp; omega) (Ev.some' rfl)
def letV (s : ByteArray) (i : Nat) : Int := if plainP (bt s (i : Int)) then 1 else if i + 1 < s.size ∧ wideP (bt s (i : Int)) (bt s ((i + 1 : Nat) : Int)) then 2 else 0
def gainsB (l : List Int) : Bool := l.all fun n => decide (0 ≤ n ∧ n ≤ 100000)
/-- No name is among those before it. -/
def distB : List ByteArray → List ByteArray → Bool
  | _, [] => true
  | p, x :: a => (p.all fun y => decide (y.toList ≠ x.toList)) && distB (p ++ [x]) a
theorem rdB_mid (p : List ByteArray) (x : ByteArray) (r : List ByteArray) : rdOf ByteArray.empty (p ++ x :: r) (p.length : Int) = x := getD_mid p x r ByteArray.empty
theorem has_name (x : ByteArray) : ∀ (a p : List ByteArray), (p ++ a).length < 1000000 → ∃ r : Int, Ev (fun k => slices_Index_string_string.l0 k (p ++ a) x ((p ++ a).length : Int) (p.length : Int)) r ∧ decide (r ≥ 0) = !(a.all fun y => decide (y.toList ≠ x.toList)) := by
  intro a
  induction a with
  | nil => intro p hl; exact ⟨-1, Ev.step (fun k => rfl) (Ev.neg (len_end p) (Ev.some' rfl)), rfl⟩
  | cons y a ih =>
    intro p hl
    have hl' := hl
    rw [List.length_append, List.length_cons] at hl'
    by_cases c : x.toList = y.toList
    · refine ⟨(p.length : Int), Ev.step (fun k => rfl) (Ev.pos (len_lt p y a) (Ev.pos (by omega) (Ev.pos (len_lt p y a) ?_))), ?_⟩
      · rw [rdB_mid]
        exact Ev.pos c (Ev.some' rfl)
      · simp [c]
    · obtain ⟨r, h1, h2⟩ := ih (p ++ [y]) (by rw [← snoc]; exact hl)
      refine ⟨r, Ev.step (fun k => rfl) (Ev.pos (len_lt p y a) (Ev.pos (by omega) (Ev.pos (len_lt p y a) ?_))), ?_⟩
      · rw [rdB_mid]
        refine Ev.neg c ?_
        rw [w64 (by omega) (by omega), ← len_snoc p y, snoc p y a]
        exact h1
      · have hn : y.toList ≠ x.toList := fun h => c h.symm
        rw [h2, List.all_cons, decide_eq_true hn, Bool.true_and]
theorem twice_l0 : ∀ (a p : List ByteArray), (p ++ a).length < 1000000 → Ev (fun k => impl_hasTwice_string.l0 k (p ++ a) (p ++ a) ((p ++ a).length : Int) (p.length : Int)) (!distB p a) := by
  intro a
  induction a with
  | nil => intro p hl; exact Ev.step (fun k => rfl) (Ev.neg (len_end p) (Ev.some' rfl))
  | cons x a ih =>
    intro p hl
    have hl' := hl
    rw [List.length_append, List.length_cons] at hl'
    obtain ⟨r, h1, h2⟩ := has_name x p [] (by simp; omega)
    have hc : Ev (fun k => slices_Contains_string_string.f k p x) (decide (r ≥ 0)) := Ev.bind h1 (Ev.some' rfl)
    rw [h2] at hc
    refine Ev.step (fun k => rfl) (Ev.pos (len_lt p x a) (Ev.pos (by omega) (Ev.pos (len_lt p x a) (Ev.pos (by have := len_lt p x a; omega) ?_))))
    rw [rdB_mid, Int.toNat_natCast, List.take_left]
    refine Ev.bind hc ?_
    rw [distB]
    cases (p.all fun y => decide (y.toList ≠ x.toList)) with
    | false => exact Ev.pos rfl (Ev.some' rfl)
    | true =>
      refine Ev.neg ff ?_
      rw [w64 (by omega) (by omega), ← len_snoc p x, snoc p x a, Bool.true_and]
      exact ih (p ++ [x]) (by rw [← snoc]; exact hl)
/-- A source of draws: its code's bytes, its place (at most N), its seed. -/
def Srd (c : List Int) (a s N : Int) : Prop := (∀ x ∈ c, 0 ≤ x ∧ x ≤ 255) ∧ 0 ≤ a ∧ a ≤ N ∧ 0 ≤ s ∧ s ≤ 2147483647
theorem Srd.mono {c : List Int} {a s N M : Int} (h : Srd c a s N) (hM : N ≤ M) : Srd c a s M := ⟨h.1, h.2.1, by have := h.2.2.1; omega, h.2.2.2⟩
theorem rd_byte {c : List Int} (hc : ∀ x ∈ c, 0 ≤ x ∧ x ≤ 255) (i : Int) : 0 ≤ rd c i ∧ rd c i ≤ 255 := by
  unfold rd
  rw [List.getD_eq_getElem?_getD]
  cases h : c[i.toNat]? with
  | none => simp
  | some x => simpa using hc x (List.mem_of_getElem? h)
theorem byte_ok {c : List Int} {a s N : Int} (h : Srd c a s N) (hN : N ≤ 1000000000) : ∃ v s', spec_l00Src_byte.f c a s = some (v, a + 1, s') ∧ 0 ≤ v ∧ v ≤ 255 ∧ Srd c (a + 1) s' (N + 1) := by
  obtain ⟨hc, h0, h1, h2, h3⟩ := h
  unfold spec_l00Src_byte.f
  rw [w64 (x := a + 1) (by omega) (by omega), w64 (x := a + 1 - 1) (by omega) (by omega), show a + 1 - 1 = a by omega]
  have hb := rd_byte hc a
  generalize rd c a = b at hb
  rw [w64 (x := b) (by omega) (by omega), w64 (x := s * 31) (by omega) (by omega), w64 (x := s * 31 + b) (by omega) (by omega), w64 (x := s * 31 + b + 7) (by omega) (by omega), Int.tmod_eq_emod_of_nonneg (show 0 ≤ s * 31 + b + 7 by omega)]
  rw [w64 (x := s * 1103515245) (by omega) (by omega), w64 (x := s * 1103515245 + 12345) (by omega) (by omega), Int.tmod_eq_emod_of_nonneg (show 0 ≤ s * 1103515245 + 12345 by omega)]
  have e := Int.emod_nonneg (s * 1103515245 + 12345) (show (2147483648 : Int) ≠ 0 by decide)
  have e2 := Int.emod_lt_of_pos (s * 1103515245 + 12345) (show (0 : Int) < 2147483648 by decide)
  have f := Int.emod_nonneg (s * 31 + b + 7) (show (2147483648 : Int) ≠ 0 by decide)
  have f2 := Int.emod_lt_of_pos (s * 31 + b + 7) (show (0 : Int) < 2147483648 by decide)
  generalize (s * 1103515245 + 12345) % 2147483648 = t at e e2 ⊢
  generalize (s * 31 + b + 7) % 2147483648 = u at f f2 ⊢
  by_cases c1 : a + 1 ≤ (c.length : Int)
  · rw [if_pos c1, if_pos h0, if_pos (by omega)]
    exact ⟨_, _, rfl, hb.1, hb.2, hc, by omega, by omega, by omega, by omega⟩
  · rw [if_neg c1]
    by_cases c2 : a + 1 > 3000
    · rw [if_pos c2]
      exact ⟨_, _, rfl, by omega, by omega, hc, by omega, by omega, by omega, by omega⟩
    · rw [if_neg c2, Int.tdiv_eq_ediv_of_nonneg (by omega), w64 (by omega) (by omega), Int.tmod_eq_emod_of_nonneg (by omega)]
      exact ⟨_, _, rfl, by omega, by omega, hc, by omega, by omega, by omega, by omega⟩
theorem next_ok {c : List Int} {a s N : Int} (n : Int) (h : Srd c a s N) (hN : N ≤ 900000000) (h1 : 1 ≤ n) (h2 : n ≤ 16777216) : ∃ v a' s', spec_l00Src_next.f c a s n = some (v, a', s') ∧ 0 ≤ v ∧ v < n ∧ Srd c a' s' (N + 3) := by
  unfold spec_l00Src_next.f
  by_cases c1 : n ≤ 1
  · rw [if_pos c1]
    exact ⟨_, _, _, rfl, by omega, by omega, h.mono (by omega)⟩
  · rw [if_neg c1]
    obtain ⟨v, s1, hv, v0, v1, S1⟩ := byte_ok h (by omega)
    simp only [hv, Option.bind_some]
    have g := Int.emod_nonneg v (show n ≠ 0 by omega)
    have g2 := Int.emod_lt_of_pos v (show 0 < n by omega)
    by_cases c2 : n ≤ 256
    · rw [if_pos c2, if_neg (by omega), Int.tmod_eq_emod_of_nonneg (by omega)]
      exact ⟨_, _, _, rfl, g, g2, S1.mono (by omega)⟩
    · rw [if_neg c2]
      obtain ⟨x, s2, hx, x0, x1, S2⟩ := byte_ok S1 (by omega)
      simp only [hx, Option.bind_some]
      obtain ⟨y, s3, hy, y0, y1, S3⟩ := byte_ok S2 (by omega)
      simp only [hy, Option.bind_some]
      rw [if_neg (by omega)]
      rw [w64 (x := v * 65536) (by omega) (by omega), w64 (x := x * 256) (by omega) (by omega), w64 (x := v * 65536 + x * 256) (by omega) (by omega), w64 (by omega) (by omega), Int.tmod_eq_emod_of_nonneg (by omega)]
      exact ⟨_, _, _, rfl, Int.emod_nonneg _ (by omega), Int.emod_lt_of_pos _ (by omega), S3.mono (by omega)⟩
theorem source_ok (l : List Int) (h : ∀ x ∈ l, (Lit.int .u8 x).wf = true) : ∃ s, spec_l00Source.f l = some (l, 0, s) ∧ Srd l 0 s 0 := by
  refine ⟨_, rfl, fun x hx => bounds_u8 (h x hx), by omega, by omega, ?_, ?_⟩ <;> omega
theorem compact_facts (d : Array (List UInt8)) (hs : ∀ i j, i ≤ j → j < d.size → d[i]! ≤ d[j]!) : ∀ m, m ≤ d.size → (∀ z, z ∈ Lib.compactUpTo d m ↔ ∃ j, j < m ∧ d[j]! = z) ∧ (Lib.compactUpTo d m).Pairwise (· < ·) := by
  intro m
  induction m with
  | zero => intro _; exact ⟨fun z => ⟨fun h => by simp [Lib.compactUpTo] at h, fun ⟨j, hj, _⟩ => absurd hj (Nat.not_lt_zero _)⟩, by simp [Lib.compactUpTo]⟩
  | succ m ih =>
    intro hm
    obtain ⟨h1, h2⟩ := ih (by omega)
    rw [Lib.compactUpTo_succ]
    by_cases c : Lib.keeps d m = true
    · rw [if_pos c]
      have hc : m = 0 ∨ d[m]! ≠ d[m - 1]! := of_decide_eq_true c
      refine ⟨fun z => ?_, List.pairwise_append.2 ⟨h2, List.pairwise_singleton _ _, ?_⟩⟩
      · rw [List.mem_append, List.mem_singleton, h1]
        constructor
        · rintro (⟨j, hj, e⟩ | e)
          · exact ⟨j, by omega, e⟩
          · exact ⟨m, by omega, e.symm⟩
        · rintro ⟨j, hj, e⟩
          by_cases cj : j = m
          · exact .inr (by rw [← e, cj])
          · exact .inl ⟨j, by omega, e⟩
      · intro z hz y hy
        rw [List.mem_singleton] at hy
        subst hy
        obtain ⟨j, hj, rfl⟩ := (h1 z).1 hz
        have hne := hc.resolve_left (by omega)
        have l1 := hs j (m - 1) (by omega) (by omega)
        have l2 := hs (m - 1) m (by omega) (by omega)
        refine List.not_le.1 (fun h3 => hne ?_)
        exact List.le_antisymm (List.le_trans h3 l1) l2
    · rw [if_neg c, List.append_nil]
      have hc : ¬ (m = 0 ∨ d[m]! ≠ d[m - 1]!) := fun h => c (decide_eq_true h)
      have hm0 : m ≠ 0 := fun h => hc (.inl h)
      have he : d[m]! = d[m - 1]! := by
        by_cases q : d[m]! = d[m - 1]!
        · exact q
        · exact absurd (.inr q) hc
      refine ⟨fun z => ?_, h2⟩
      rw [h1]
      constructor
      · rintro ⟨j, hj, e⟩
        exact ⟨j, by omega, e⟩
      · rintro ⟨j, hj, e⟩
        by_cases cj : j = m
        · exact ⟨m - 1, by omega, by rw [← he, ← cj, e]⟩
        · exact ⟨j, by omega, e⟩
def csV (L : List (List UInt8)) : List (List UInt8) := Lib.compact (L.mergeSort (fun x y => decide (x ≤ y)))
theorem csV_facts (L : List (List UInt8)) : (∀ z, z ∈ csV L ↔ z ∈ L) ∧ (csV L).Pairwise (· < ·) := by
  unfold csV Lib.compact
  have hp : (L.mergeSort (fun x y => decide (x ≤ y))).Pairwise (fun x y => decide (x ≤ y) = true) := List.pairwise_mergeSort (fun a b c h1 h2 => by
      rw [decide_eq_true_eq] at *
      exact List.le_trans h1 h2) (fun a b => by
      rw [Bool.or_eq_true, decide_eq_true_eq, decide_eq_true_eq]
      exact List.le_total a b) L
  have hm := fun z => (List.mergeSort_perm L (fun x y => decide (x ≤ y))).mem_iff (a := z)
  generalize L.mergeSort (fun x y => decide (x ≤ y)) = S at hp hm
  have hs : ∀ i j, i ≤ j → j < S.toArray.size → S.toArray[i]! ≤ S.toArray[j]! := by
    intro i j hij hj
    have hjS : j < S.length := by simpa using hj
    have hiS : i < S.length := by omega
    rw [getElem!_pos S.toArray i (by simpa using hiS), getElem!_pos S.toArray j (by simpa using hjS)]
    simp only [List.getElem_toArray]
    by_cases c : i = j
    · subst c
      exact List.le_refl _
    · exact of_decide_eq_true (List.pairwise_iff_getElem.1 hp i j hiS hjS (by omega))
  obtain ⟨h1, h2⟩ := compact_facts S.toArray hs S.length (by simp)
  refine ⟨fun z => ?_, h2⟩
  rw [h1, ← hm, List.mem_iff_getElem]
  constructor
  · rintro ⟨j, hj, e⟩
    rw [getElem!_pos S.toArray j (by simpa using hj)] at e
    exact ⟨j, hj, by simpa using e⟩
  · rintro ⟨j, hj, e⟩
    exact ⟨j, hj, by rw [getElem!_pos S.toArray j (by simpa using hj)]; simpa using e⟩
theorem nodup_lt {X : List (List UInt8)} (h : X.Pairwise (· < ·)) : X.Nodup := List.Pairwise.imp (fun {a b} (hab : a < b) (e : a = b) => List.lt_irrefl b (by rw [e] at hab; exact hab)) h
theorem lt_unique {X Y : List (List UInt8)} (hX : X.Pairwise (· < ·)) (hY : Y.Pairwise (· < ·)) (h : ∀ z, z ∈ X ↔ z ∈ Y) : X = Y := by
  refine List.Perm.eq_of_pairwise (fun a b _ _ h1 h2 => absurd (List.lt_trans h1 h2) (List.lt_irrefl a)) hX hY ?_
  exact (List.perm_ext_iff_of_nodup (nodup_lt hX) (nodup_lt hY)).2 h
theorem csV_congr {L L' : List (List UInt8)} (h : ∀ z, z ∈ L ↔ z ∈ L') : csV L = csV L' :=
  lt_unique (csV_facts L).2 (csV_facts L').2 (fun z => by rw [(csV_facts L).1, (csV_facts L').1, h])
theorem csV_len {L M : List (List UInt8)} (hn : M.Nodup) (h : ∀ z, z ∈ L ↔ z ∈ M) : (csV L).length = M.length := by
  have : (csV L).Perm M := (List.perm_ext_iff_of_nodup (nodup_lt (csV_facts L).2) hn).2 (fun z => by rw [(csV_facts L).1, h])
  exact this.length_eq

abbrev D := S102
abbrev Vd := S51
/-! ### sorted texts, each once -/
/-! ### lists of lines -/
theorem rdD_mid (p : List D) (x : D) (r : List D) : rd_T102 (p ++ x :: r) (p.length : Int) = x := getD_mid p x r z102
theorem rdV_mid (p : List Vd) (x : Vd) (r : List Vd) : rd_T51 (p ++ x :: r) (p.length : Int) = x := getD_mid p x r z51
theorem rdN_mid (p : List ByteArray) (x : ByteArray) (r : List ByteArray) : rdOf ByteArray.empty (p ++ x :: r) (p.length : Int) = x := rdOf_mid _ p x r
theorem rdLL_mid (p : List (List D)) (x : List D) (r : List (List D)) : rd_L4 (p ++ x :: r) (p.length : Int) = x := getD_mid p x r []
def okDoc (x : D) : Prop := nameOKV x.f0 = true ∧ (1 ≤ x.f1 ∧ x.f1 ≤ 100000) ∧ (0 ≤ x.f2 ∧ x.f2 ≤ 1000000000)
def okDocs (l : List D) : Prop := l.length ≤ 4 ∧ (l.map (fun x => x.f0)).Nodup ∧ ∀ x ∈ l, okDoc x
theorem bytes_eq {a b : ByteArray} : a.toList = b.toList ↔ a = b := by
  constructor
  · intro h
    rw [Lib.toList_data, Lib.toList_data] at h
    exact ByteArray.ext (Array.ext' h)
  · intro h
    rw [h]
theorem dist_nodup : ∀ (a p : List ByteArray), (p ++ a).Nodup → distB p a = true := by
  intro a
  induction a with
  | nil => intro p _; rfl
  | cons x a ih =>
    intro p h
    have h1 : (p ++ [x] ++ a).Nodup := by simpa using h
    have h2 := ih (p ++ [x]) h1
    unfold distB
    rw [h2, Bool.and_true]
    rw [List.all_eq_true]
    intro y hy
    refine decide_eq_true (fun e => ?_)
    rw [List.nodup_append] at h
    first
      | exact h.2.2 y hy x (by simp) (bytes_eq.1 e)
      | exact h.2.2 y hy x (by simp) (bytes_eq.1 e).symm
theorem areDocs_l0 (L : List D) (hL : L.length ≤ 60) (hd : (L.map (fun x => x.f0)).Nodup) : ∀ (a p : List D), L = p ++ a → (∀ x ∈ a, okDoc x) → Ev (fun k => impl_areDocs.l0 k L (p.map (fun x => x.f0)) L (L.length : Int) (p.length : Int)) true := by
  intro a
  induction a with
  | nil =>
    intro p e _
    rw [List.append_nil] at e
    subst e
    have ht : Ev (fun k => impl_hasTwice_string.f k (L.map (fun x => x.f0))) (!distB [] (L.map (fun x => x.f0))) := by
      unfold impl_hasTwice_string.f
      exact twice_l0 (L.map (fun x => x.f0)) [] (by simp; omega)
    rw [dist_nodup _ [] hd] at ht
    exact Ev.step (fun k => rfl) (Ev.neg (by omega) (Ev.pos (by omega) (Ev.bind ht (Ev.some' rfl))))
  | cons x a ih =>
    intro p e h
    have hn := ih (p ++ [x]) (by rw [e]; simp) (fun y hy => h y (by simp [hy]))
    have hx := h x (by simp)
    rw [len_snoc, List.map_append] at hn
    have hlt : p.length < L.length := by rw [e]; simp
    have rx : rd_T102 L (p.length : Int) = x := by rw [e]; exact rdD_mid p x a
    refine Ev.step (fun k => rfl) (Ev.pos (by omega) (Ev.pos (by omega) (Ev.pos (by omega) ?_)))
    rw [rx]
    refine Ev.bind (implName_ev x.f0) (Ev.pos hx.1 (Ev.ret (within_ev _ _ _) (Ev.pos (decide_eq_true hx.2.1) (Ev.ret (within_ev _ _ _) (Ev.pos (decide_eq_true hx.2.2) (Ev.pos (by simp; omega) ?_))))))
    rw [w64 (by omega) (by omega)]
    exact hn
theorem areDocs_ev (L : List D) (h : okDocs L) : Ev (fun k => impl_areDocs.f k L) true := by
  unfold impl_areDocs.f
  exact areDocs_l0 L (by have := h.1; omega) h.2.1 L [] rfl h.2.2
/-! ### joined lists -/
def sumLen : List (List D) → Nat
  | [] => 0
  | x :: a => x.length + sumLen a
theorem cat_l1 (L : List (List D)) (hL : L.length ≤ 3) (hs : ∀ l ∈ L, l.length ≤ 4) : ∀ (a p : List (List D)) (acc : List D), L = p ++ a → acc.length ≤ 4 * p.length → Ev (fun k => impl_DocLine_56.l1 k acc L (L.length : Int) (p.length : Int)) (acc ++ a.flatten) := by
  intro a
  induction a with
  | nil =>
    intro p acc e _
    exact Ev.step (fun k => rfl) (Ev.neg (by rw [e]; simp) (Ev.some' (by simp)))
  | cons x a ih =>
    intro p acc e ha
    have hlt : p.length < L.length := by rw [e]; simp
    have hx := hs x (by rw [e]; simp)
    have rx : rd_L4 L (p.length : Int) = x := by rw [e]; exact rdLL_mid p x a
    have hn := ih (p ++ [x]) (acc ++ x) (by rw [e]; simp) (by rw [List.length_append, List.length_append, List.length_singleton]; omega)
    rw [len_snoc] at hn
    refine Ev.step (fun k => rfl) (Ev.pos (by omega) (Ev.pos (by omega) (Ev.pos (by omega) ?_)))
    rw [rx]
    refine Ev.pos (by omega) ?_
    rw [w64 (by omega) (by omega)]
    refine Ev.eq hn ?_
    rw [List.flatten_cons, List.append_assoc]
theorem cat_l0 (L : List (List D)) (hL : L.length ≤ 3) (hs : ∀ l ∈ L, l.length ≤ 4) : ∀ (a p : List (List D)) (n : Nat), L = p ++ a → n ≤ 4 * p.length → Ev (fun k => impl_DocLine_56.l0 k L (n : Int) L (L.length : Int) (p.length : Int)) L.flatten := by
  intro a
  induction a with
  | nil =>
    intro p n e hn
    have hg : impl_DocLine_81.f (n : Int) = some [] := by
      unfold impl_DocLine_81.f
      rw [if_pos (by have : p.length ≤ 3 := (by rw [e] at hL; simpa using hL); omega)]
    refine Ev.step (fun k => rfl) (Ev.neg (by rw [e]; simp) (Ev.ret hg ?_))
    exact cat_l1 L hL hs L [] [] rfl (by simp)
  | cons x a ih =>
    intro p n e hn
    have hlt : p.length < L.length := by rw [e]; simp
    have hx := hs x (by rw [e]; simp)
    have rx : rd_L4 L (p.length : Int) = x := by rw [e]; exact rdLL_mid p x a
    have hn' := ih (p ++ [x]) (n + x.length) (by rw [e]; simp) (by rw [List.length_append, List.length_singleton]; omega)
    rw [len_snoc] at hn'
    refine Ev.step (fun k => rfl) (Ev.pos (by omega) (Ev.pos (by omega) (Ev.pos (by omega) ?_)))
    rw [rx, show wrap64 ((n : Int) + (x.length : Int)) = ((n + x.length : Nat) : Int) from (w64 (by omega) (by omega)).trans (by omega), w64 (x := (p.length : Int) + 1) (by omega) (by omega)]
    exact Ev.neg (by omega) hn'
/-! ### what is said of an article -/
def lookV (l : List D) (a : ByteArray) : ByteArray × Int × Int × Bool := (impl_docAt.f l a).getD ((⟨#[]⟩ : ByteArray), 0, 0, false)
theorem docAt_cases (l : List D) (a : ByteArray) : (∃ x ∈ l, x.f0 = a ∧ impl_docAt.f l a = some (x.f0, x.f1, x.f2, true)) ∨ ((∀ x ∈ l, x.f0 ≠ a) ∧ impl_docAt.f l a = some ((⟨#[]⟩ : ByteArray), 0, 0, false)) := by
  unfold impl_docAt.f impl_DocLine_106.f
  have hp : ∀ x : D, impl_DocLine_106.p a x = true ↔ x.f0 = a := by
    intro x
    unfold impl_DocLine_106.p
    rw [beq_iff_eq, bytes_eq]
  generalize impl_DocLine_106.p a = P at hp
  unfold idxV
  cases c : l.findIdx? P with
  | none =>
    right
    rw [List.findIdx?_eq_none_iff] at c
    refine ⟨fun x hx e => ?_, rfl⟩
    have := c x hx
    rw [(hp x).2 e] at this
    cases this
  | some j =>
    left
    rw [List.findIdx?_eq_some_iff_getElem] at c
    obtain ⟨hj, hq, _⟩ := c
    have rx : rd_T102 l (j : Int) = l[j] := by
      unfold rd_T102
      rw [Int.toNat_natCast, List.getD_eq_getElem?_getD, List.getElem?_eq_getElem hj]
      rfl
    refine ⟨l[j], List.getElem_mem hj, (hp _).1 hq, ?_⟩
    change (if (j : Int) < 0 then some ((⟨#[]⟩ : ByteArray), (0 : Int), (0 : Int), false) else (if 0 ≤ (j : Int) then (if (j : Int) < (l.length : Int) then some ((rd_T102 l (j : Int)).f0, (rd_T102 l (j : Int)).f1, (rd_T102 l (j : Int)).f2, true) else none) else none)) = _
    rw [if_neg (by omega), if_pos (by omega), if_pos (by omega), rx]
theorem docAt_some (l : List D) (a : ByteArray) : impl_docAt.f l a = some (lookV l a) := by
  unfold lookV
  rcases docAt_cases l a with ⟨x, _, _, h⟩ | ⟨_, h⟩ <;> rw [h] <;> rfl
theorem dist_same : ∀ (l : List D), (l.map (fun x => x.f0)).Nodup → ∀ x ∈ l, ∀ y ∈ l, x.f0 = y.f0 → x = y := by
  intro l
  induction l with
  | nil => intro _ x hx; cases hx
  | cons a l ih =>
    intro h x hx y hy e
    rw [List.map_cons, List.nodup_cons] at h
    rcases List.mem_cons.1 hx with ex | hx' <;> rcases List.mem_cons.1 hy with ey | hy'
    · exact ex.trans ey.symm
    · exact absurd (List.mem_map.2 ⟨y, hy', by rw [← e, ex]⟩) h.1
    · exact absurd (List.mem_map.2 ⟨x, hx', by rw [e, ey]⟩) h.1
    · exact ih h.2 x hx' y hy' e
theorem look_same {l l' : List D} (hd : (l.map (fun x => x.f0)).Nodup) (hm : ∀ x, x ∈ l ↔ x ∈ l') (a : ByteArray) : lookV l a = lookV l' a := by
  unfold lookV
  rcases docAt_cases l a with ⟨x, hx, ex, h⟩ | ⟨hn, h⟩ <;> rcases docAt_cases l' a with ⟨y, hy, ey, g⟩ | ⟨gn, g⟩
  · obtain rfl := dist_same l hd x hx y ((hm y).2 hy) (ex.trans ey.symm)
    rw [h, g]
  · exact absurd ex (gn x ((hm x).1 hx))
  · exact absurd ey (hn y ((hm y).2 hy))
  · rw [h, g]
def verdV (o r i : ByteArray × Int × Int × Bool) : Int :=
  if o.2.2.2 = true then (if i.2.2.2 = true then (if r.2.2.2 = true then (if decide (r.2.1 < i.2.1) = true then 19 else if i.2.1 > o.2.1 then 9 else if wrap64 (i.2.2.1 * o.2.1) > wrap64 (o.2.2.1 * i.2.1) then 11 else 0) else 19) else 18) else 8
theorem verd_ev (a b c : List D) (n : ByteArray) : Ev (fun k => impl_verdictOf.f k a b c n) (verdV (lookV a n) (lookV b n) (lookV c n)) := by
  unfold impl_verdictOf.f verdV
  refine Ev.ret (docAt_some a n) (Ev.ret (docAt_some b n) (Ev.ret (docAt_some c n) ?_))
  generalize lookV a n = o
  generalize lookV b n = r
  generalize lookV c n = i
  refine Ev.ite (fun _ => Ev.ite (fun _ => Ev.ite (fun _ => ?_) (fun _ => ?_)) (fun _ => Ev.some' rfl)) (fun _ => Ev.some' rfl)
  · refine Ev.step (fun k => rfl) (Ev.ite (fun _ => Ev.some' rfl) (fun _ => Ev.ite (fun _ => Ev.some' rfl) (fun _ => Ev.ite (fun _ => Ev.some' rfl) (fun _ => Ev.some' rfl))))
  · exact Ev.step (fun k => rfl) (Ev.some' rfl)
def nm (l : List D) : List (List UInt8) := l.map (fun x => x.f0.data.toList)
def mkB (z : List UInt8) : ByteArray := ⟨z.toArray⟩
theorem mkB_eta (x : ByteArray) : mkB x.data.toList = x := by
  cases x
  rfl
def sayV (a b c : List D) (n : ByteArray) : Vd := ⟨n, verdV (lookV a n) (lookV b n) (lookV c n)⟩
def outV (a b c : List D) : List Vd := ((csV (nm (a ++ b ++ c))).map mkB).map (sayV a b c)
theorem three_l1 (a b c : List D) (N : List ByteArray) (hN : N.length ≤ 1000) : ∀ (t p : List ByteArray), N = p ++ t → Ev (fun k => impl_ThreeWay.l1 k a b c (p.map (sayV a b c)) N (N.length : Int) (p.length : Int)) (N.map (sayV a b c), 0) := by
  intro t
  induction t with
  | nil =>
    intro p e
    rw [List.append_nil] at e
    subst e
    exact Ev.step (fun k => rfl) (Ev.neg (by omega) (Ev.some' rfl))
  | cons x t ih =>
    intro p e
    have hlt : p.length < N.length := by rw [e]; simp
    have rx : rdOf ByteArray.empty N (p.length : Int) = x := by rw [e]; exact rdN_mid p x t
    have hn := ih (p ++ [x]) (by rw [e]; simp)
    rw [len_snoc, List.map_append] at hn
    refine Ev.step (fun k => rfl) (Ev.pos (by omega) (Ev.pos (by omega) (Ev.pos (by omega) ?_)))
    rw [rx]
    refine Ev.bind (verd_ev a b c x) (Ev.pos (by rw [List.length_map]; omega) ?_)
    rw [w64 (by omega) (by omega)]
    exact hn
theorem sort_f (L : List D) (hL : L.length ≤ 12) : ∃ S, slices_Sort_string_string.f (L.map (fun x => x.f0)) = some S ∧ slices_Compact_string_string.f S = some ((csV (nm L)).map mkB) := by
  refine ⟨((nm L).mergeSort (fun x y => decide (x ≤ y))).map mkB, ?_, ?_⟩
  · unfold slices_Sort_string_string.f
    rw [if_pos (by rw [List.length_map]; omega), List.map_map]
    rfl
  · unfold slices_Compact_string_string.f
    rw [if_pos (by rw [List.length_map, List.length_mergeSort]; unfold nm; rw [List.length_map]; omega), List.map_map]
    have e : ((fun x : ByteArray => x.data.toList) ∘ mkB) = id := by
      funext z
      simp [mkB]
    rw [e, List.map_id]
    rfl
theorem csV_le (L : List D) : (csV (nm L)).length ≤ L.length := by
  unfold csV
  refine Nat.le_trans (Lib.compact_length_le _) ?_
  rw [List.length_mergeSort]
  unfold nm
  rw [List.length_map]
  exact Nat.le_refl _
theorem three_l0 (a b c L : List D) (hL : L.length ≤ 12) : ∀ (t p : List D), L = p ++ t → Ev (fun k => impl_ThreeWay.l0 k a b c (p.map (fun x => x.f0)) L (L.length : Int) (p.length : Int)) (((csV (nm L)).map mkB).map (sayV a b c), 0) := by
  intro t
  induction t with
  | nil =>
    intro p e
    rw [List.append_nil] at e
    subst e
    obtain ⟨S, h1, h2⟩ := sort_f L hL
    refine Ev.step (fun k => rfl) (Ev.neg (by omega) (Ev.ret h1 (Ev.ret h2 ?_)))
    exact three_l1 a b c ((csV (nm L)).map mkB) (by rw [List.length_map]; have := csV_le L; omega) _ [] rfl
  | cons x t ih =>
    intro p e
    have hlt : p.length < L.length := by rw [e]; simp
    have rx : rd_T102 L (p.length : Int) = x := by rw [e]; exact rdD_mid p x t
    have hn := ih (p ++ [x]) (by rw [e]; simp)
    rw [len_snoc, List.map_append] at hn
    refine Ev.step (fun k => rfl) (Ev.pos (by omega) (Ev.pos (by omega) (Ev.pos (by omega) ?_)))
    rw [rx, w64 (x := (p.length : Int) + 1) (by omega) (by omega)]
    exact Ev.pos (by rw [List.length_map]; omega) hn
theorem three_ev (a b c : List D) (ha : okDocs a) (hb : okDocs b) (hc : okDocs c) : Ev (fun k => impl_ThreeWay.f k a b c) (outV a b c, 0) := by
  have la := ha.1
  have lb := hb.1
  have lc := hc.1
  have e : ∀ l, impl_DocLine_54.f l = some (decide ((l.length : Int) ≤ 4096)) := fun _ => rfl
  have ec : Ev (fun k => impl_DocLine_56.f k [a, b, c]) (a ++ b ++ c) := by
    unfold impl_DocLine_56.f
    refine Ev.eq (cat_l0 [a, b, c] (by simp) (fun l hl => ?_) [a, b, c] [] 0 rfl (Nat.zero_le _)) (by simp)
    rcases List.mem_cons.1 hl with rfl | hl
    · exact la
    rcases List.mem_cons.1 hl with rfl | hl
    · exact lb
    rw [List.mem_singleton] at hl
    rw [hl]
    exact lc
  unfold impl_ThreeWay.f outV
  refine Ev.ret (e a) (Ev.pos (decide_eq_true (by omega)) (Ev.ret (e b) (Ev.pos (decide_eq_true (by omega)) (Ev.ret (e c) ?_))))
  refine Ev.step (fun k => rfl) (Ev.neg (by rw [decide_eq_true (by omega)]; exact ff) (Ev.bind (areDocs_ev a ha) (Ev.pos tt (Ev.bind (areDocs_ev b hb) (Ev.pos tt (Ev.bind (areDocs_ev c hc) (Ev.pos tt (Ev.bind ec ?_))))))))
  exact three_l0 a b c (a ++ b ++ c) (by rw [List.length_append, List.length_append]; omega) (a ++ b ++ c) [] rfl
theorem okDocs_rev {l : List D} (h : okDocs l) : okDocs l.reverse := by
  refine ⟨by rw [List.length_reverse]; exact h.1, ?_, fun x hx => h.2.2 x (List.mem_reverse.1 hx)⟩
  rw [List.map_reverse]
  exact (List.reverse_perm _).nodup_iff.2 h.2.1
theorem out_same {a b c : List D} (ha : okDocs a) (hb : okDocs b) (hc : okDocs c) : outV a.reverse b.reverse c.reverse = outV a b c := by
  have hs : sayV a.reverse b.reverse c.reverse = sayV a b c := by
    funext n
    unfold sayV
    rw [look_same (okDocs_rev ha).2.1 (fun x => List.mem_reverse) n, look_same (okDocs_rev hb).2.1 (fun x => List.mem_reverse) n, look_same (okDocs_rev hc).2.1 (fun x => List.mem_reverse) n]
  unfold outV
  rw [hs, csV_congr (L := nm (a.reverse ++ b.reverse ++ c.reverse)) (L' := nm (a ++ b ++ c)) (fun z => by unfold nm; simp [List.mem_append, or_and_right, exists_or])]
theorem turned_l0 (l : List D) (hl : l.length ≤ 4) : ∀ (n : Nat) (acc : List D), n ≤ l.length → acc.length + n ≤ 4 → Ev (fun k => laws_turned.l0 k l acc ((n : Int) - 1)) (acc ++ (l.take n).reverse) := by
  intro n
  induction n with
  | zero => intro acc _ _; exact Ev.step (fun k => rfl) (Ev.neg (by omega) (Ev.some' (by simp)))
  | succ n ih =>
    intro acc h1 h2
    have rx : rd_T102 l (((n + 1 : Nat) : Int) - 1) = l[n]'(by omega) := by
      rw [show ((n + 1 : Nat) : Int) - 1 = (n : Int) by omega]
      unfold rd_T102
      rw [Int.toNat_natCast, List.getD_eq_getElem?_getD, List.getElem?_eq_getElem (by omega)]
      rfl
    refine Ev.step (fun k => rfl) (Ev.pos (by omega) (Ev.pos (by omega) (Ev.pos (by omega) (Ev.pos (by omega) ?_))))
    rw [rx, show wrap64 (((n + 1 : Nat) : Int) - 1 - 1) = (n : Int) - 1 from (w64 (by omega) (by omega)).trans (by omega)]
    refine Ev.eq (ih (acc ++ [l[n]'(by omega)]) (by omega) (by rw [List.length_append, List.length_singleton]; omega)) ?_
    rw [List.append_assoc]
    congr 1
    rw [List.take_succ_eq_append_getElem (by omega), List.reverse_append]
    rfl
theorem turned_ev (l : List D) (hl : l.length ≤ 4) : Ev (fun k => laws_turned.f k l) l.reverse := by
  unfold laws_turned.f
  rw [w64 (by omega) (by omega)]
  exact Ev.eq (turned_l0 l hl l.length [] (Nat.le_refl _) (by simpa using hl)) (by simp)
/-! ### the drawn lists -/
def four : List ByteArray := [(⟨#[109, 105, 108, 107]⟩ : ByteArray), (⟨#[98, 114, 111, 116]⟩ : ByteArray), (⟨#[107, 195, 164, 115, 101]⟩ : ByteArray), (⟨#[120]⟩ : ByteArray)]
theorem four_ok (i : Nat) (h : i < 4) : nameOKV (rdOf ByteArray.empty four (i : Int)) = true ∧ ¬ rdOf ByteArray.empty four (i : Int) ∈ four.take i ∧ rdOf ByteArray.empty four (i : Int) ∈ four.take (i + 1) := by
  refine ⟨?_, fun hm => ?_, ?_⟩
  · rcases i with _ | _ | _ | _ | i
    · decide +kernel
    · decide +kernel
    · decide +kernel
    · decide +kernel
    · omega
  · have h2 := List.mem_map_of_mem (f := fun b : ByteArray => b.data.toList) hm
    rcases i with _ | _ | _ | _ | i
    · exact absurd h2 (by decide +kernel)
    · exact absurd h2 (by decide +kernel)
    · exact absurd h2 (by decide +kernel)
    · exact absurd h2 (by decide +kernel)
    · omega
  · have e : rdOf ByteArray.empty four (i : Int) = four[i]'h := by
      unfold rdOf
      rw [Int.toNat_natCast, List.getD_eq_getElem?_getD, List.getElem?_eq_getElem (show i < four.length from h)]
      rfl
    rw [e]
    exact List.mem_take_iff_getElem.2 ⟨i, by show i < min (i + 1) 4; omega, rfl⟩
def Q (i : Nat) (l : List D) : Prop := l.length ≤ i ∧ (l.map (fun x => x.f0)).Nodup ∧ (∀ x ∈ l, okDoc x) ∧ ∀ x ∈ l, x.f0 ∈ four.take i
theorem chance_ok {c : List Int} {a s N : Int} (h : Srd c a s N) (hN : N ≤ 900000000) : ∃ b a' s', spec_l00Src_chance.f c a s 4 = some (b, a', s') ∧ Srd c a' s' (N + 3) := by
  obtain ⟨v, a', s', h1, _, _, h2⟩ := next_ok 4 h hN (by omega) (by omega)
  unfold spec_l00Src_chance.f
  rw [h1]
  exact ⟨_, _, _, rfl, h2⟩
theorem docs_l1 (c : List Int) (x6 : List (List D)) (h6 : x6.length ≤ 10) (x7 : Int) : ∀ (d i : Nat), i + d = 4 → ∀ (l : List D) (a s N : Int), Q i l → Srd c a s N → N + 9 * d ≤ 900000000 →
    ∃ l' a' s', Q 4 l' ∧ Srd c a' s' (N + 9 * d) ∧ ∀ v, Ev (fun k => spec_DocsOf.l0 k (x6 ++ [l']) (wrap64 (x7 + 1)) c a' s') v → Ev (fun k => spec_DocsOf.l1 k x6 x7 l four (i : Int) c a s) v := by
  intro d
  induction d with
  | zero =>
    intro i hi l a s N hq hs _
    obtain rfl : i = 4 := by omega
    exact ⟨l, a, s, hq, by simpa using hs, fun v hv => Ev.step (fun k => rfl) (Ev.neg (by omega) (Ev.pos (by omega) hv))⟩
  | succ d ih =>
    intro i hi l a s N hq hs hN
    obtain ⟨b, a1, s1, e1, hs1⟩ := chance_ok hs (by omega)
    have e64 : wrap64 ((i : Int) + 1) = ((i + 1 : Nat) : Int) := w64n (by omega)
    cases b with
    | true =>
      obtain ⟨l', a', s', q', hs', hv'⟩ := ih (i + 1) (by omega) l a1 s1 (N + 9) ⟨by have := hq.1; omega, hq.2.1, hq.2.2.1, fun x hx => List.mem_of_mem_take (i := i) (by rw [List.take_take]; simpa using hq.2.2.2 x hx)⟩ (hs1.mono (by omega)) (by omega)
      refine ⟨l', a', s', q', hs'.mono (by omega), fun v hv => ?_⟩
      refine Ev.step (fun k => rfl) (Ev.pos (by omega) (Ev.ret e1 (Ev.pos tt ?_)))
      rw [e64]
      exact hv' v hv
    | false =>
      obtain ⟨u, a2, s2, e2, u0, u1, hs2⟩ := next_ok 3 hs1 (by omega) (by omega) (by omega)
      obtain ⟨m, a3, s3, e3, m0, m1, hs3⟩ := next_ok 3 hs2 (by omega) (by omega) (by omega)
      obtain ⟨f1, f2, f3⟩ := four_ok i (by omega)
      have eu : wrap64 (10 + u) = 10 + u := w64 (by omega) (by omega)
      have em : wrap64 (1000 + wrap64 (100 * m)) = 1000 + 100 * m := by rw [w64 (x := 100 * m) (by omega) (by omega), w64 (by omega) (by omega)]
      have hq' : Q (i + 1) (l ++ [(⟨rdOf ByteArray.empty four (i : Int), 10 + u, 1000 + 100 * m⟩ : D)]) := by
        refine ⟨by rw [List.length_append, List.length_singleton]; have := hq.1; omega, ?_, ?_, ?_⟩
        · rw [List.map_append, List.nodup_append]
          refine ⟨hq.2.1, by simp, fun x hx y hy e => ?_⟩
          rw [List.map_singleton, List.mem_singleton] at hy
          obtain ⟨z, hz, ez⟩ := List.mem_map.1 hx
          have ee : z.f0 = rdOf ByteArray.empty four (i : Int) := ez.trans (e.trans hy)
          exact f2 (ee ▸ hq.2.2.2 z hz)
        · intro x hx
          rcases List.mem_append.1 hx with hx | hx
          · exact hq.2.2.1 x hx
          · rw [List.mem_singleton] at hx
            rw [hx]
            exact ⟨f1, ⟨by show 1 ≤ 10 + u; omega, by show 10 + u ≤ 100000; omega⟩, ⟨by show 0 ≤ 1000 + 100 * m; omega, by show 1000 + 100 * m ≤ 1000000000; omega⟩⟩
        · intro x hx
          rcases List.mem_append.1 hx with hx | hx
          · exact List.mem_of_mem_take (i := i) (by rw [List.take_take]; simpa using hq.2.2.2 x hx)
          · rw [List.mem_singleton] at hx
            rw [hx]
            exact f3
      obtain ⟨l', a', s', q', hs', hv'⟩ := ih (i + 1) (by omega) _ a3 s3 (N + 9) hq' (hs3.mono (by omega)) (by omega)
      refine ⟨l', a', s', q', hs'.mono (by omega), fun v hv => ?_⟩
      refine Ev.step (fun k => rfl) (Ev.pos (by omega) (Ev.ret e1 (Ev.neg ff (Ev.pos (by omega) (Ev.pos (by show (i : Int) < 4; omega) (Ev.ret e2 (Ev.ret e3 (Ev.pos (by have := hq.1; omega) ?_))))))))
      dsimp only
      rw [e64, eu, em]
      exact hv' v hv
theorem docs_l0 (c : List Int) : ∀ (d j : Nat), j + d = 3 → ∀ (x6 : List (List D)) (a s N : Int), x6.length = j → (∀ l ∈ x6, okDocs l) → Srd c a s N → N + 36 * d ≤ 900000000 →
    ∃ r, Ev (fun k => spec_DocsOf.l0 k x6 (j : Int) c a s) r ∧ r.length = 3 ∧ ∀ l ∈ r, okDocs l := by
  intro d
  induction d with
  | zero =>
    intro j hj x6 a s N h6 hq _ _
    exact ⟨x6, Ev.step (fun k => rfl) (Ev.neg (by omega) (Ev.some' rfl)), by omega, hq⟩
  | succ d ih =>
    intro j hj x6 a s N h6 hq hs hN
    obtain ⟨l', a', s', q', hs', hv⟩ := docs_l1 c x6 (by omega) (j : Int) 4 0 rfl [] a s N ⟨by simp, by simp, by simp, by simp⟩ hs (by omega)
    obtain ⟨r, h1, h2, h3⟩ := ih (j + 1) (by omega) (x6 ++ [l']) a' s' (N + 36) (by rw [List.length_append, List.length_singleton]; omega) (fun l hl => by
      rcases List.mem_append.1 hl with hl | hl
      · exact hq l hl
      · rw [List.mem_singleton] at hl
        rw [hl]
        exact ⟨q'.1, q'.2.1, q'.2.2.1⟩) (hs'.mono (by omega)) (by omega)
    refine ⟨r, Ev.step (fun k => rfl) (Ev.pos (by omega) (hv r ?_)), h2, h3⟩
    rw [w64n (by omega)]
    exact h1
theorem docs_ev (l : List Int) (h : ∀ x ∈ l, (Lit.int .u8 x).wf = true) : ∃ r, Ev (fun k => spec_DocsOf.f k l) r ∧ r.length = 3 ∧ ∀ x ∈ r, okDocs x := by
  obtain ⟨s, e, hs⟩ := source_ok l h
  obtain ⟨r, h1, h2, h3⟩ := docs_l0 l 3 0 rfl [] 0 s 0 rfl (fun l hl => by cases hl) hs (by omega)
  exact ⟨r, Ev.ret e h1, h2, h3⟩
/-! ### the law -/
theorem law_l1 (o : List Vd) (ho : o.length ≤ 100) (h0 : ∀ x ∈ o, x.f1 = 0) : ∀ (t p : List Vd), o = p ++ t → Ev (fun k => laws_FnThreeWay.l1 k o (p.length : Int)) true := by
  intro t
  induction t with
  | nil => intro p e; exact Ev.step (fun k => rfl) (Ev.neg (by rw [e]; simp) (Ev.some' rfl))
  | cons x t ih =>
    intro p e
    have hlt : p.length < o.length := by rw [e]; simp
    have rx : rd_T51 o (p.length : Int) = x := by rw [e]; exact rdV_mid p x t
    have hn := ih (p ++ [x]) (by rw [e]; simp)
    rw [len_snoc] at hn
    refine Ev.step (fun k => rfl) (Ev.pos (by omega) (Ev.pos (by omega) ?_))
    rw [rx, w64 (x := (p.length : Int) + 1) (by omega) (by omega)]
    exact Ev.pos (h0 x (by rw [e]; simp)) hn
theorem law_l0 (a : List D) (o : List Vd) (ho : o.length ≤ 100) (hs : o.Pairwise (fun x y => x.f0.data.toList < y.f0.data.toList)) (hend : Ev (fun k => (impl_ThreeWay.f k a a a).bind fun bt => (if bt.2 = 0 then (laws_FnThreeWay.j2 k bt.1 ((bt.1.length : Int) != (a.length : Int))) else (laws_FnThreeWay.j2 k bt.1 true))) true) :
    ∀ (t p : List Vd), o = p ++ t → Ev (fun k => laws_FnThreeWay.l0 k a o o (p.length : Int)) true := by
  intro t
  induction t with
  | nil => intro p e; exact Ev.step (fun k => rfl) (Ev.neg (by rw [e]; simp) hend)
  | cons x t ih =>
    intro p e
    have hlt : p.length < o.length := by rw [e]; simp
    have rx : rd_T51 o (p.length : Int) = x := by rw [e]; exact rdV_mid p x t
    have hn := ih (p ++ [x]) (by rw [e]; simp)
    rw [len_snoc] at hn
    refine Ev.step (fun k => rfl) (Ev.pos (by omega) (Ev.pos (by omega) (Ev.pos (by omega) (Ev.neg (by rw [rx]; simp) ?_))))
    rw [w64 (x := (p.length : Int) + 1) (by omega) (by omega)]
    by_cases c : (p.length : Int) > 0
    · refine Ev.pos c ?_
      rcases List.eq_nil_or_concat p with rfl | ⟨q, y, rfl⟩
      · simp at c
      rw [List.concat_eq_append] at *
      have ry : rd_T51 o (wrap64 (((q ++ [y]).length : Int) - 1)) = y := by
        rw [w64 (by omega) (by omega), e, show ((q ++ [y]).length : Int) - 1 = (q.length : Int) by rw [List.length_append, List.length_singleton]; omega, List.append_assoc]
        exact rdV_mid q y _
      have hxy : y.f0.data.toList < x.f0.data.toList := by
        rw [e] at hs
        exact (List.pairwise_append.1 hs).2.2 y (by simp) x (by simp)
      have ew : wrap64 (((q ++ [y]).length : Int) - 1) = (q.length : Int) := by rw [w64 (by omega) (by omega), List.length_append, List.length_singleton]; omega
      refine Ev.pos (by rw [ew]; omega) (Ev.pos (by rw [ew]; rw [List.length_append] at hlt; omega) ?_)
      rw [ry, rx]
      refine Ev.pos ?_ hn
      rw [Go.Proofs.bytesLess_eq, Lib.toList_data, Lib.toList_data]
      exact decide_eq_true hxy
    · exact Ev.neg c hn
theorem verd_self (a : List D) (n : ByteArray) (h : ∃ x ∈ a, x.f0 = n) : verdV (lookV a n) (lookV a n) (lookV a n) = 0 := by
  obtain ⟨x, hx, e⟩ := h
  have hl : (lookV a n).2.2.2 = true := by
    unfold lookV
    rcases docAt_cases a n with ⟨y, _, _, g⟩ | ⟨gn, _⟩
    · rw [g]; rfl
    · exact absurd e (gn x hx)
  unfold verdV
  rw [if_pos hl, if_pos hl, if_pos hl, if_neg (by rw [decide_eq_false (by omega)]; exact ff), if_neg (by omega), if_neg (by omega)]
theorem out_sorted (a b c : List D) : (outV a b c).Pairwise (fun x y => x.f0.data.toList < y.f0.data.toList) := by
  unfold outV
  rw [List.pairwise_map, List.pairwise_map]
  refine List.Pairwise.imp (fun {x y} h => ?_) (csV_facts (nm (a ++ b ++ c))).2
  show (mkB x).data.toList < (mkB y).data.toList
  simpa [mkB] using h
theorem out_len (a b c : List D) : (outV a b c).length ≤ (a ++ b ++ c).length := by
  unfold outV
  rw [List.length_map, List.length_map]
  exact csV_le _
theorem nm_nodup {a : List D} (h : (a.map (fun x => x.f0)).Nodup) : (nm a).Nodup := by
  have e : nm a = (a.map (fun x => x.f0)).map (fun x => x.data.toList) := by
    unfold nm
    rw [List.map_map]
    rfl
  rw [e]
  refine List.Pairwise.map _ (fun x y hxy he => hxy ?_) h
  rw [← mkB_eta x, ← mkB_eta y, he]
theorem FnThreeWay : laws_FnThreeWay.Pure := by
  rintro l ⟨hl, hw⟩
  refine Ev.rounds (?_ : Ev (fun k => laws_FnThreeWay.f k l) true)
  unfold laws_FnThreeWay.f
  by_cases c0 : (l.length : Int) > 1048576
  · exact Ev.pos c0 (Ev.some' rfl)
  obtain ⟨r, hr, hr3, hq⟩ := docs_ev l hw
  refine Ev.neg c0 (Ev.bind hr (Ev.pos hr3 ?_))
  obtain ⟨a, b, c, rfl⟩ : ∃ a b c, r = [a, b, c] := by
    rcases r with _ | ⟨a, _ | ⟨b, _ | ⟨c, _ | ⟨d, r⟩⟩⟩⟩
    · cases hr3
    · cases hr3
    · cases hr3
    · exact ⟨a, b, c, rfl⟩
    · simp at hr3
  have ha := hq a (by simp)
  have hb := hq b (by simp)
  have hc := hq c (by simp)
  show Ev (fun k => laws_FnThreeWay.g k a b c) true
  unfold laws_FnThreeWay.g
  have la := ha.1
  have lb := hb.1
  have lc := hc.1
  have t1 := three_ev a b c ha hb hc
  have t2 := three_ev a.reverse b.reverse c.reverse (okDocs_rev ha) (okDocs_rev hb) (okDocs_rev hc)
  rw [out_same ha hb hc] at t2
  have t3 := three_ev a a a ha ha ha
  have ho := out_len a b c
  rw [List.length_append, List.length_append] at ho
  have ho3 : (outV a a a).length = a.length := by
    unfold outV
    rw [List.length_map, List.length_map, csV_len (M := nm a) (nm_nodup ha.2.1) (fun z => by unfold nm; simp [List.mem_append])]
    unfold nm
    rw [List.length_map]
  have h0 : ∀ x ∈ outV a a a, x.f1 = 0 := by
    intro x hx
    unfold outV at hx
    obtain ⟨n, hn, rfl⟩ := List.mem_map.1 hx
    obtain ⟨z, hz, rfl⟩ := List.mem_map.1 hn
    have hz2 := ((csV_facts _).1 z).1 hz
    unfold nm at hz2
    obtain ⟨y, hy, ey⟩ := List.mem_map.1 hz2
    refine verd_self a (mkB z) ⟨y, ?_, ?_⟩
    · simpa using hy
    · rw [← ey, mkB_eta]
  refine Ev.bind t1 (Ev.bind (turned_ev a la) (Ev.bind (turned_ev b lb) (Ev.bind (turned_ev c lc) (Ev.bind t2 (Ev.pos rfl (Ev.pos rfl ?_))))))
  refine Ev.step (fun k => rfl) (Ev.neg (by simp) ?_)
  refine law_l0 a (outV a b c) (by omega) (out_sorted a b c) ?_ (outV a b c) [] rfl
  refine Ev.bind t3 (Ev.pos rfl ?_)
  refine Ev.step (fun k => rfl) (Ev.neg (by rw [ho3]; simp) ?_)
  exact law_l1 (outV a a a) (by omega) h0 (outV a a a) [] rfl

end Go.Proofs.Ytkiooiijnolocaa.Pure
