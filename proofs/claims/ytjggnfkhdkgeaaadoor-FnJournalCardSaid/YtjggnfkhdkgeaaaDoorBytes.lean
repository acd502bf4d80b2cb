/- A row of bytes that '[]byte(s)' has made: its block bears a conversion's mark (behind its cells), so it's no row of Kd.R; it is read, written and carried as one. -/
import Derived.Test.YtjggnfkhdkgeaaaDoorWMore
import Derived.Test.YtjggnfkhdkgeaaaDoorWLast
import Derived.Lib.AtoiErrMem
import Derived.Lib.ConvBytes
import Derived.Laws.AppendOwn
set_option linter.unusedVariables false
namespace Go.Proofs.YtjggnfkhdkgeaaaDoorW.PrintWords
open Go.RowKit
namespace Kd
/-- The row's block, and what its cells say. -/
def B (_d : Kd Int) (e : Nat) (w : World) (base : Nat) (ok : Nat → Prop) (v : Value) (xs : List Int) : Prop :=
  (∀ k, v.ownBlock = some k → ok k) ∧ ∃ (g cap : Nat) (cur : Array Value) (m : Nat), v = .slice (some ⟨g, 0, none⟩) xs.length cap ∧ base ≤ g ∧ w.heap[g]? = some (.cells cur e (m, m + 1)) ∧ xs.length ≤ m ∧ cur.size = m ∧ xs.length ≤ cap ∧ xs.length ≤ 9223372036854775807 ∧ ∀ j, j < xs.length → cur[j]? = some (.int .u8 (xs.getD j 0))
section
variable {d : Kd Int} {e : Nat} {w w1 : World} {base : Nat} {ok ok' : Nat → Prop} {v : Value} {xs : List Int}
theorem B_move (h : d.B e w base ok v xs) (hm : ∀ k, v.ownBlock = some k → w1.heap[k]? = w.heap[k]?) : d.B e w1 base ok v xs := by
  obtain ⟨h0, g, cap, cur, m, rfl, hb, hg, r⟩ := h
  exact ⟨h0, g, cap, cur, m, rfl, hb, (hm g rfl).trans hg, r⟩
theorem B_lt (h : d.B e w base ok v xs) : ∀ k, v.ownBlock = some k → k < w.heap.size := by
  obtain ⟨h0, g, cap, cur, m, rfl, hb, hg, r⟩ := h
  intro k hk
  obtain rfl : g = k := by simpa [Value.ownBlock] using hk
  exact blk_lt hg
theorem B_base (h : d.B e w base ok v xs) : ∀ k, v.ownBlock = some k → base ≤ k := by
  obtain ⟨h0, g, cap, cur, m, rfl, hb, hg, r⟩ := h
  intro k hk
  obtain rfl : g = k := by simpa [Value.ownBlock] using hk
  exact hb
theorem B_base2 (h : d.B e w base ok v xs) : v.ownBlock = none ∨ ∃ k, v.ownBlock = some k ∧ base ≤ k := by
  obtain ⟨h0, g, cap, cur, m, rfl, hb, hg, r⟩ := h
  exact .inr ⟨g, rfl, hb⟩
theorem B_mono (h : d.B e w base ok v xs) (hok : ∀ k, ok k → ok' k) : d.B e w base ok' v xs := ⟨fun k hk => hok k (h.1 k hk), h.2⟩
theorem B_lower {base' : Nat} (h : d.B e w base ok v xs) (hb : base' ≤ base) : d.B e w base' ok v xs := by
  obtain ⟨h0, g, cap, cur, m, rfl, hb', hg, r⟩ := h
  exact ⟨h0, g, cap, cur, m, rfl, Nat.le_trans hb hb', hg, r⟩
theorem B_below (h : d.B e w base ok v xs) (hb : Below w.heap.size w w1) : d.B e w1 base ok v xs := B_move h fun k hk => hb.block k (B_lt h k hk)
theorem B_alloc (h : d.B e w base ok v xs) (o : Obj) : d.B e (w.alloc o) base ok v xs := B_below h (below_alloc (Below.refl _ _) o)
theorem B_drew (h : d.B e w base ok v xs) : d.B e w.drew base ok v xs := B_below h (below_drew (Below.refl _ _))
theorem B_drewN (h : d.B e w base ok v xs) (m : Nat) : d.B e (w.drewN m) base ok v xs := B_below h (pw_below_drewN (Below.refl _ _) m)
theorem B_far (h : d.B e w base ok v xs) {p : Addr} (hok : ∀ k, ok k → k ≠ p.block) (u : Value) : d.B e (w.setCell p u) base ok v xs := B_move h fun k hk => Below.heap_setCell w p u k (hok k (h.1 k hk))
theorem B_grown (h : d.B e w base ok v xs) {row : Option Nat} (hg : w.grownBy w1 row) (hok : ∀ k, ok k → some k ≠ row) : d.B e w1 base ok v xs := B_move h fun k hk => hg.block k (B_lt h k hk) (hok k (h.1 k hk))
theorem B_ne (h : d.B e w base ok v xs) {g t : Nat} {cells : Array Value} (hb : w.heap[g]? = some (.cells cells t (0, 0))) (ht : e ≠ t) : some g ≠ v.ownBlock := by
  obtain ⟨h0, g', cap, cur, m, rfl, hb', hg, r⟩ := h
  intro he
  obtain rfl : g = g' := by simpa [Value.ownBlock] using he
  rw [hg] at hb
  injection hb with hb
  injection hb with _ hb
  exact ht hb
theorem B_types (h : d.B e w base ok v xs) {g t : Nat} {cells : Array Value} (hb : w.heap[g]? = some (.cells cells t (0, 0))) (ht : ∀ q, q ∈ [e] → q ≠ t) : d.B e w base (fun k => ok k ∧ k ≠ g) v xs := by
  refine ⟨fun k hk => ⟨h.1 k hk, ?_⟩, h.2⟩
  rintro rfl
  exact B_ne h hb (ht e (by simp)) hk.symm
theorem B_over' {d : Kd Int} {e e' : Nat} {W w1 : World} {base : Nat} {ok : Nat → Prop} {u v : Value} {xs : List Int} (h : d.B e W base ok u xs) (hty : ∀ k, v.ownBlock = some k → ∃ cells, W.heap[k]? = some (.cells cells e' (0, 0))) (ht : ∀ q, q ∈ [e] → q ≠ e') (hg : W.grownBy w1 v.ownBlock) : d.B e w1 base ok u xs := by
  refine B_move h fun k hk => hg.block k (B_lt h k hk) (fun he => ?_)
  obtain ⟨cells', hc'⟩ := hty k he.symm
  obtain ⟨h0, g, cap, cur, m, rfl, hb, hg', r⟩ := h
  obtain rfl : g = k := by simpa [Value.ownBlock] using hk
  rw [hg'] at hc'
  injection hc' with hc'
  injection hc' with _ hc'
  exact ht e (by simp) hc'
theorem R_typesB {α : Type} {d : Kd α} {e : Nat} {w : World} {base : Nat} {ok : Nat → Prop} {v : Value} {xs : List α} (h : d.R e w base ok v xs) {g t : Nat} {cells : Array Value} (hb : ∃ m, w.heap[g]? = some (.cells cells t (m, m + 1))) (ht : ∀ q, q ∈ e :: d.E → q ≠ t) : d.R e w base (fun k => ok k ∧ k ≠ g) v xs :=
  R_mono (R_bound h) (fun k hk => ⟨hk.1, by
    obtain ⟨_, _, _, q, hq, cells', hc⟩ := hk
    obtain ⟨m, hb⟩ := hb
    rintro rfl
    rw [hc] at hb
    injection hb with hb
    injection hb with _ hb
    exact ht q hq hb⟩)
theorem B_slice (h : d.B e w base ok v xs) : ∃ A c, v = .slice A xs.length c := by
  obtain ⟨h0, g, cap, cur, m, rfl, _⟩ := h
  exact ⟨_, cap, rfl⟩
theorem B_cell {g cap : Nat} (h : d.B e w base ok (.slice (some ⟨g, 0, none⟩) xs.length cap) xs) (j : Nat) (hj : j < xs.length) : w.cell? ⟨g, j, none⟩ = some (.int .u8 (xs.getD j 0)) := by
  obtain ⟨h0, g', cap', cur, m, he, hb, hg, h1, h2, h3, h4, hc⟩ := h
  injection he with he _ _
  obtain rfl : g = g' := by simpa using he
  rw [cell_of_row w g j cur e (m, m + 1) hg]
  exact hc j hj
theorem B_reads' {A : Option Addr} {n c : Nat} (h : d.B e w base ok (.slice A n c) xs) : n = xs.length ∧ n ≤ c ∧ (Kd.int .u8).C w A xs.length xs := by
  have h' := h
  obtain ⟨h0, g, cap, cur, m, he, hb, hg, h1, h2, h3, h4, hc⟩ := h
  injection he with he1 he2 he3
  subst he1; subst he2; subst he3
  refine ⟨rfl, h3, C_of_reads (readsInt_of.1 ⟨rfl, h4, fun _ => ⟨_, rfl, fun j hj => ?_⟩⟩)⟩
  rw [add_plain]
  exact B_cell h' j hj
theorem B_form (h : d.B e w base ok v xs) (hp : 0 < xs.length) : ∃ g cap, v = .slice (some ⟨g, 0, none⟩) xs.length cap ∧ base ≤ g ∧ g < w.heap.size ∧ ∃ cells, ∃ m, w.heap[g]? = some (.cells cells e (m, m + 1)) := by
  obtain ⟨h0, g, cap, cur, m, rfl, hb, hg, r⟩ := h
  exact ⟨g, cap, rfl, hb, blk_lt hg, cur, m, hg⟩
theorem B_celln (z : Int) {g cap n : Nat} (h : d.B e w base ok (.slice (some ⟨g, 0, none⟩) n cap) xs) (i : Int) (h0 : 0 ≤ i) (hi : i < n) : w.cell? ⟨g, i.toNat, none⟩ = some (.int .u8 (rdOf z xs i)) ∧ w.frozen? ⟨g, i.toNat, none⟩ = false := by
  obtain ⟨rfl, _, _⟩ := B_reads' h
  have hc := B_cell h i.toNat (by omega)
  obtain ⟨hh, g', cap', cur, m, he, hb, hg, h1, h2, h3, h4, _⟩ := h
  injection he with he _ _
  obtain rfl : g = g' := by simpa using he
  refine ⟨?_, ?_⟩
  · rw [hc]
    unfold rdOf
    rw [List.getD_eq_getElem?_getD, List.getD_eq_getElem?_getD, List.getElem?_eq_getElem (show i.toNat < xs.length by omega)]
    rfl
  · simp only [World.frozen?, hg]
    rw [Bool.and_eq_false_iff]
    left
    exact decide_eq_false (by simp; omega)
theorem B_putn {g cap n : Nat} (h : d.B e w base ok (.slice (some ⟨g, 0, none⟩) n cap) xs) (i : Int) (x : Int) : d.B e (w.setCell ⟨g, i.toNat, none⟩ (.int .u8 x)) base ok (.slice (some ⟨g, 0, none⟩) n cap) (xs.set i.toNat x) := by
  obtain ⟨h0, g', cap', cur, m, he, hb, hg, h1, h2, h3, h4, hc⟩ := h
  injection he with he1 he2 he3
  obtain rfl : g = g' := by simpa using he1
  subst he2; subst he3
  refine ⟨h0, g, cap, cur.setIfInBounds i.toNat (.int .u8 x), m, by rw [List.length_set], hb, ?_, by rw [List.length_set]; exact h1, by rw [Array.size_setIfInBounds]; exact h2, by rw [List.length_set]; exact h3, by rw [List.length_set]; exact h4, fun j hj => ?_⟩
  · unfold World.setCell
    simp only [Array.getElem?_modify, hg, if_true, Option.map_some]
    rfl
  · rw [List.length_set] at hj
    rw [Array.getElem?_setIfInBounds, List.getD_eq_getElem?_getD, List.getElem?_set]
    by_cases hij : i.toNat = j
    · subst hij
      rw [if_pos rfl, if_pos (by omega), if_pos rfl, if_pos hj]
      rfl
    · rw [if_neg hij, if_neg hij]
      have := hc j hj
      rw [List.getD_eq_getElem?_getD] at this
      exact this
end
section
variable {P : Program} {ops : Array Oper} {rest : List Oper} {o : Oper} {a : Act} {Q : Exit → Act → World → Prop}
theorem B_bytes (d : Kd Int) {w0 W : World} {base : Nat} (e : Nat) (hgd : o.guard = none) {N : Tmp} (hd : o.dst = some N) (src dst : TypeId) (x : Operand) (ho : o.op = .convert src dst x) (s : ByteArray) (hx : a.eval x = .string s) {u : TypeDesc}
    (hs : P.underlying src = some u) (hdt : P.underlying dst = some (.slice e)) (he : P.underlying e = some (.int .u8)) {ok : Nat → Prop} (hl : s.size ≤ 9223372036854775807) (hfresh : ok W.heap.size) (HB : Below base w0 W) (hbase : base ≤ W.heap.size)
    (h : ∀ v1 w1, d.B e w1 base ok v1 (bytesOf s) → Below base w0 w1 → W.grownBy w1 none → (∃ b, v1.ownBlock = some b ∧ W.heap.size ≤ b) → wpList P ops Q rest (a.put o.dst v1) w1) : wpList P ops Q (o :: rest) a W := by
  have hr := Lib.run_convert_string_bytes (P := P) W src dst e s hs hdt he
  have hlb := Lib.bytesWorld_below W e s
  have hsz : (Lib.bytesCells W e s).size = s.size + (grownCap W s.size 0 e - s.size) := by
    simp [Lib.bytesCells]
  refine event_run hgd (v := .slice (some ⟨W.heap.size, 0, none⟩) s.size (grownCap W s.size 0 e)) (w1 := Lib.bytesWorld W e s) ?_ (h _ _ ⟨fun k hk => ?_, W.heap.size, grownCap W s.size 0 e, Lib.bytesCells W e s, (Lib.bytesCells W e s).size, by rw [bytesOf_length], hbase, Lib.bytesWorld_at_new W e s, ?_, rfl, ?_, ?_, fun j hj => ?_⟩ ?_ ?_ ⟨W.heap.size, rfl, Nat.le_refl _⟩)
  · simp [execOp, ho, hx, hr]
  · obtain rfl : W.heap.size = k := by simpa [Value.ownBlock] using hk
    exact hfresh
  · rw [bytesOf_length, hsz]; omega
  · rw [bytesOf_length]; exact grownCap_ge W s.size 0 e
  · rw [bytesOf_length]; exact hl
  · rw [bytesOf_length] at hj
    have hc := Lib.bytesWorld_cell W e s j hj
    rw [cell_of_row _ _ _ _ _ _ (Lib.bytesWorld_at_new W e s)] at hc
    rw [hc]
    have h' : j < s.data.toList.length := by rw [data_length]; exact hj
    simp [bytesOf, List.getD_eq_getElem?_getD, List.getElem?_eq_getElem h']
  · exact HB.trans (hlb.mono hbase)
  · exact ⟨hlb.os, hlb.tape, hlb.output, hlb.size, fun k hk _ => hlb.block k hk⟩
theorem B_string {w : World} {base : Nat} {e e' src dst : TypeId} {d : Kd Int} {ok : Nat → Prop} {v : Value} {xs : List Int} (hs : P.underlying src = some (.slice e)) (he : P.underlying e = some (.int .u8)) (hd : P.underlying dst = some .string)
    (h : d.B e' w base ok v xs) : (convert src dst v).run P w = .ok (.string (strOfNums xs)) w := by
  obtain ⟨A, c, rfl⟩ := B_slice h
  have h2 := h
  obtain ⟨h0, g, cap, cur, m, he', _⟩ := h2
  injection he' with h1 _ h3
  subst h1; subst h3
  refine run_convert_bytes_arg w src e hs he g 0 xs.length c xs rfl (fun i hi => ?_) dst hd
  rw [Nat.zero_add]
  exact B_cell h i hi
end
end Kd
end Go.Proofs.YtjggnfkhdkgeaaaDoorW.PrintWords
