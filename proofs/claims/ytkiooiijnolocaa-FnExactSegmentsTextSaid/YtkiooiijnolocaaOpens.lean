/- Plain lemmas: what is read as data at a type is told by the printed kinds. -/
import Derived.Test.YtkiooiijnolocaaWMore
import Derived.ChangeArms
import Derived.Deep.Slices
import Derived.Carry
import Derived.WideShapes
namespace Go.Proofs.YtkiooiijnolocaaW.Opens
open Go.RowKit Go.Proofs.YtkiooiijnolocaaW.PrintWords Go.ChangeShapes Go.WideShapes Go.Deep
set_option linter.unusedVariables false

/-- Whatever reads as data at type t is a value of kind d that keeps wf. -/
def Opens (P : Program) (t : TypeId) {α : Type} (d : Kd α) (wf : α → Prop) : Prop :=
  ∀ {H : Type} (enc : TypeId × Value → H) (w : World) (base : Nat) (spare : Nat → Bool) (held : Bool) (fuel : Nat) (cs : List Value) (x : DataW H × List MemPlace),
    DataW.trod enc P w base spare held fuel t cs = some x → ∃ a : α, d.K w a cs ∧ wf a

section
variable {P : Program} {t e : TypeId} {α β : Type} {d : Kd α} {wf : α → Prop}

theorem Opens.int {k : IntKind} (ht : P.underlying t = some (.int k)) : Opens P t (Kd.int k) (fun n => (Lit.int k n).wf = true) := by
  intro H enc w base spare held fuel cs x h
  obtain ⟨n, rfl, _, hw⟩ := DataW.trod_int ht h
  exact ⟨n, rfl, hw⟩

theorem Opens.bool (ht : P.underlying t = some .bool) : Opens P t Kd.bool (fun _ => True) := by
  intro H enc w base spare held fuel cs x h
  cases fuel with
  | zero => simp [DataW.trod] at h
  | succ n =>
    unfold DataW.trod at h
    rw [ht] at h
    split at h
    case h_1 b heq => exact ⟨b, rfl, trivial⟩
    all_goals simp_all

theorem Opens.string (ht : P.underlying t = some .string) : Opens P t Kd.string (fun s => s.size ≤ 9223372036854775807) := by
  intro H enc w base spare held fuel cs x h
  cases fuel with
  | zero => simp [DataW.trod] at h
  | succ n =>
    unfold DataW.trod at h
    rw [ht] at h
    split at h
    case h_4 s heq =>
      split at h
      · rename_i hs
        exact ⟨s, rfl, by simpa [maxLen] using hs⟩
      · cases h
    all_goals simp_all

theorem exists_list {α : Type} (n : Nat) (p : Nat → α → Prop) (h : ∀ i, i < n → ∃ a, p i a) : ∃ l : List α, l.length = n ∧ ∀ i a, l[i]? = some a → p i a := by
  induction n with
  | zero => exact ⟨[], rfl, fun i a h => by simp at h⟩
  | succ n ih =>
    obtain ⟨l, hl, hp⟩ := ih (fun i hi => h i (by omega))
    obtain ⟨a, ha⟩ := h n (by omega)
    refine ⟨l ++ [a], by simp [hl], fun i b hb => ?_⟩
    rcases Nat.lt_or_ge i l.length with hi | hi
    · rw [List.getElem?_append_left hi] at hb
      exact hp i b hb
    · rw [List.getElem?_append_right hi] at hb
      have hz : i - l.length = 0 := by
        rcases Nat.eq_zero_or_pos (i - l.length) with h0 | h0
        · exact h0
        · rw [List.getElem?_eq_none (by simp; omega)] at hb
          cases hb
      rw [hz] at hb
      simp at hb
      subst hb
      have : i = n := by omega
      subst this
      exact ha

theorem Opens.slice (ht : P.underlying t = some (.slice e)) (hE : Opens P e d wf) (hsz : P.cellsOf e = d.sz) :
    Opens P t (Kd.slice e d) (fun l => l.length ≤ 9223372036854775807 ∧ ∀ x ∈ l, wf x) := by
  intro H enc w base spare held fuel cs x h
  rcases open_slice ht h with ⟨rfl, _⟩ | ⟨a, len, cap, m, n, D, Pl, rfl, hb, hl, hm, hmm, rfl, hx⟩
  · exact ⟨[], ⟨none, 0, rfl, Nat.le_refl _, rfl, by simp, fun h => absurd h (by simp)⟩, by simp, by simp⟩
  · have hle : len ≤ m := by rw [hmm]; split <;> omega
    obtain ⟨l, hll, hp⟩ := exists_list len (fun i a' => ∃ cs', w.cells? base (a.add (i * P.cellsOf e)) (P.cellsOf e) = some cs' ∧ d.K w a' cs' ∧ wf a') (fun i hi => by
      obtain ⟨cs', h1, h2⟩ := hx i (by omega)
      obtain ⟨a', h3, h4⟩ := hE enc w base spare held n cs' _ h2
      exact ⟨a', cs', h1, h3, h4⟩)
    have hml : len ≤ 9223372036854775807 := by simp only [maxLen] at hm; omega
    refine ⟨l, ⟨some a, cap, by rw [hll], by omega, rfl, by omega, fun _ => ⟨a, rfl, fun j p hj => ?_⟩⟩, by omega, fun y hy => ?_⟩
    · obtain ⟨cs', h1, h2, _⟩ := hp j p hj
      obtain ⟨_, hcl, hat⟩ := World.cells?_some h1
      refine ⟨cs', by rw [← hsz, hcl], h2, fun i u hu => ?_⟩
      have hi : i < cs'.length := (List.getElem?_eq_some_iff.1 hu).1
      have := hat (i := i) (by omega)
      rw [hsz] at this
      rw [← Go.Deep.add_add, this, hu]
    · obtain ⟨j, hj⟩ := List.getElem?_of_mem hy
      obtain ⟨_, _, _, h3⟩ := hp j y hj
      exact h3

/-- The fields fs of a struct, from cell off on, read as d. -/
def OpensFs (P : Program) (fs : List Field) (off : Nat) {α : Type} (d : Kd α) (wf : α → Prop) : Prop :=
  ∀ {H : Type} (enc : TypeId × Value → H) (w : World) (base : Nat) (spare : Nat → Bool) (held : Bool) (fuel : Nat) (cs : List Value) (xs : List (DataW H × List MemPlace)),
    (∀ (i : Nat) (f : Field), fs[i]? = some f → DataW.trod enc P w base spare held fuel f.type ((cs.drop f.offset).take (P.cellsOf f.type)) = xs[i]?) → xs.length = fs.length →
    ∃ a : α, d.K w a ((cs.drop off).take d.sz) ∧ wf a

theorem OpensFs.one {f : Field} {off : Nat} (ho : f.offset = off) (hE : Opens P f.type d wf) (hsz : P.cellsOf f.type = d.sz) : OpensFs P [f] off d wf := by
  intro H enc w base spare held fuel cs xs h hl
  match xs, hl with
  | [x], _ =>
    have h0 := h 0 f rfl
    rw [ho, hsz] at h0
    exact hE enc w base spare held fuel _ x h0

theorem OpensFs.cons {d2 : Kd β} {wf2 : β → Prop} {f : Field} {fs : List Field} {off : Nat} (ho : f.offset = off) (hE : Opens P f.type d wf) (hsz : P.cellsOf f.type = d.sz) (hR : OpensFs P fs (off + d.sz) d2 wf2) :
    OpensFs P (f :: fs) off (Kd.pair d d2) (fun x => wf x.1 ∧ wf2 x.2) := by
  intro H enc w base spare held fuel cs xs h hl
  match xs, hl with
  | x :: xs, hl =>
    have h0 := h 0 f rfl
    rw [ho, hsz] at h0
    obtain ⟨a, ha, wa⟩ := hE enc w base spare held fuel _ x h0
    obtain ⟨b, hb, wb⟩ := hR enc w base spare held fuel cs xs (fun i g hg => by
      have := h (i + 1) g (by simpa using hg)
      simpa using this) (by simpa using hl)
    refine ⟨(a, b), ⟨(cs.drop off).take d.sz, (cs.drop (off + d.sz)).take d2.sz, ?_, ha, hb⟩, wa, wb⟩
    show (cs.drop off).take (d.sz + d2.sz) = _
    rw [List.take_add, List.drop_drop]

theorem Opens.struct {fs : Array Field} (ht : P.underlying t = some (.struct fs)) (hF : OpensFs P fs.toList 0 d wf) (hsz : P.cellsOf t = d.sz) : Opens P t d wf := by
  intro H enc w base spare held fuel cs x h
  obtain ⟨xs, n, rfl, hx, hlen, hxl, hf⟩ := DataW.trod_struct ht h
  obtain ⟨a, ha, wa⟩ := hF enc w base spare held n cs xs (fun i f hi => hf i f (by simpa using hi)) (by simpa using hxl)
  rw [List.drop_zero, List.take_of_length_le (by omega)] at ha
  exact ⟨a, ha, wa⟩

theorem Opens.iso {f : β → α} {g : α → β} (hfg : ∀ a, f (g a) = a) (h : Opens P t d wf) : Opens P t (Kd.iso d f) (fun b => wf (f b)) := by
  intro H enc w base spare held fuel cs x hx
  obtain ⟨a, ha, wa⟩ := h enc w base spare held fuel cs x hx
  exact ⟨g a, by show d.K w (f (g a)) cs; rw [hfg]; exact ha, by show wf (f (g a)); rw [hfg]; exact wa⟩

theorem Opens.mono {wf2 : α → Prop} (h : Opens P t d wf) (hw : ∀ a, wf a → wf2 a) : Opens P t d wf2 := by
  intro H enc w base spare held fuel cs x hx
  obtain ⟨a, ha, wa⟩ := h enc w base spare held fuel cs x hx
  exact ⟨a, ha, hw a wa⟩

/-- An argument of a kind: opened. -/
theorem Opens.arg {H : Type} {enc : TypeId × Value → H} {w : World} {base : Nat} {spare : Nat → Bool} {held : Bool} {v : Value} {x : DataW H} {ps : List MemPlace} (h : Opens P t d wf)
    (hx : DataW.Trod enc P w base spare held t v x ps) : ∃ a : α, d.K w a v.cells.toList ∧ wf a := by
  obtain ⟨fuel, hf⟩ := hx
  exact h enc w base spare held fuel _ _ hf
end
end Go.Proofs.YtkiooiijnolocaaW.Opens
