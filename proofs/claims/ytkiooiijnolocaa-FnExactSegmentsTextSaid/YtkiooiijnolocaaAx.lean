/- Plain lemmas on rounds, lists and numbers. -/
import Derived.Test.YtkiooiijnolocaaWMore
import Derived.OpenShut
namespace Go.Proofs.YtkiooiijnolocaaW.Ax
open Go.RowKit Go.Proofs.YtkiooiijnolocaaW.PrintWords Go.Proofs.YtkiooiijnolocaaW.PrintLast
set_option linter.unusedVariables false

section
variable {α β γ : Type}
theorem Ev.pos {c : Prop} [Decidable c] {A B : Nat → Option α} {r : α} (h : c) (k : Ev A r) : Ev (fun n => if c then A n else B n) r := Ev.congr (fun _ => if_pos h) k
theorem Ev.neg {c : Prop} [Decidable c] {A B : Nat → Option α} {r : α} (h : ¬ c) (k : Ev B r) : Ev (fun n => if c then A n else B n) r := Ev.congr (fun _ => if_neg h) k
/-- A call without rounds. -/
theorem Ev.ret {g : Option β} {f : Nat → β → Option α} {a : β} {r : α} (h : g = some a) (k : Ev (fun n => f n a) r) : Ev (fun n => g.bind (f n)) r := by
  subst h
  exact k
theorem Ev.eq {g : Nat → Option α} {r r' : α} (h : Ev g r) (e : r = r') : Ev g r' := e ▸ h
theorem Ev.const {g : Option α} {r : α} (h : g = some r) : Ev (fun _ => g) r := ⟨0, fun _ _ => h⟩
theorem Ev.some' {r r' : α} (h : r = r') : Ev (fun _ => some r) r' := h ▸ Ev.now r
/-- Another test of the same meaning. -/
theorem Ev.ite {c : Prop} [Decidable c] {A B : Nat → Option α} {a b : α} (hA : c → Ev A a) (hB : ¬ c → Ev B b) : Ev (fun n => if c then A n else B n) (if c then a else b) := by
  by_cases h : c
  · rw [if_pos h]; exact Ev.pos h (hA h)
  · rw [if_neg h]; exact Ev.neg h (hB h)
end

theorem Ev.via {α : Type} {g f : Nat → Option α} {r : α} (k : Ev f r) (h : ∀ k, g (k + 1) = f k) : Ev g r := Ev.step h k
theorem Ev.up1 {α : Type} {g : Nat → Option α} {r : α} (h : Ev (fun k => g (k + 1)) r) : Ev g r := Ev.step (fun _ => rfl) h
theorem ff : ¬ (false = true) := by simp
theorem tt : true = true := rfl

/-! ### numbers -/
theorem w64 {x : Int} (h0 : -9223372036854775808 ≤ x) (h1 : x ≤ 9223372036854775807) : wrap64 x = x := by
  unfold wrap64
  omega
theorem w64n {i : Nat} (h : i < 9223372036854775807) : wrap64 ((i : Int) + 1) = ((i + 1 : Nat) : Int) := by
  rw [w64 (by omega) (by omega)]
  omega
theorem i64_wf {x : Int} (h : (Lit.int .i64 x).wf = true) : -9223372036854775808 ≤ x ∧ x ≤ 9223372036854775807 := bounds_i64 h

/-! ### lists, cut at the place of a loop -/
section
variable {α : Type}
theorem getD_mid (pre : List α) (x : α) (post : List α) (d : α) : (pre ++ x :: post).getD (pre.length : Int).toNat d = x := by
  rw [Int.toNat_natCast, List.getD_eq_getElem?_getD, List.getElem?_append_right (Nat.le_refl _)]
  simp
theorem rd_mid (pre : List Int) (x : Int) (post : List Int) : rd (pre ++ x :: post) (pre.length : Int) = x := getD_mid pre x post 0
theorem rdOf_mid (d : α) (pre : List α) (x : α) (post : List α) : rdOf d (pre ++ x :: post) (pre.length : Int) = x := getD_mid pre x post d
theorem set_mid (pre : List α) (x y : α) (post : List α) : (pre ++ x :: post).set (pre.length : Int).toNat y = pre ++ y :: post := by
  rw [Int.toNat_natCast, List.set_append_right _ _ (Nat.le_refl _)]
  simp
theorem len_lt (pre : List α) (x : α) (post : List α) : (pre.length : Int) < ((pre ++ x :: post).length : Int) := by
  rw [List.length_append, List.length_cons]
  omega
theorem len_end (pre : List α) : ¬ (pre.length : Int) < ((pre ++ ([] : List α)).length : Int) := by
  rw [List.append_nil]
  omega
theorem snoc (pre : List α) (x : α) (post : List α) : pre ++ x :: post = (pre ++ [x]) ++ post := by simp
theorem len_snoc (pre : List α) (x : α) : ((pre ++ [x]).length : Int) = (pre.length : Int) + 1 := by
  rw [List.length_append]
  simp
theorem rd_nat (l : List Int) (i : Nat) : rd l (i : Int) = l.getD i 0 := by
  unfold rd
  rw [Int.toNat_natCast]
end
/-- Numbers rising by 1. -/
def iota (a : Int) : Nat → List Int
  | 0 => []
  | n + 1 => a :: iota (a + 1) n
theorem iota_length (a : Int) (n : Nat) : (iota a n).length = n := by
  induction n generalizing a with
  | zero => rfl
  | succ n ih => simp [iota, ih]
/-- A loop over places from 0 to n. -/
theorem Ev.up {α : Type} {g : Nat → Nat → Option α} {v : Nat → α} {n : Nat} (hend : Ev (fun k => g k n) (v n)) (hstep : ∀ i, i < n → Ev (fun k => g k (i + 1)) (v (i + 1)) → Ev (fun k => g k i) (v i)) :
    ∀ d i, i + d = n → Ev (fun k => g k i) (v i) := by
  intro d
  induction d with
  | zero => intro i h; obtain rfl : i = n := by omega
            exact hend
  | succ d ih => intro i h; exact hstep i (by omega) (ih (i + 1) (by omega))
end Go.Proofs.YtkiooiijnolocaaW.Ax
