/- strings.byteStringReplacer: the table in the making: what an append of a text and a store of its replacement leave. -/
import Derived.Test.YtkiooiijnolocaaProg
import Derived.WalkKit
import Derived.Below
import Derived.Laws.OwnMore
import Derived.Laws.IdiomStrings
import Derived.Laws.AppendOwn
import Derived.Laws.CopyOwn
import Derived.Deep.WholeRow
set_option maxRecDepth 100000
set_option maxHeartbeats 1600000
set_option linter.unusedVariables false
set_option linter.unusedSimpArgs false
namespace Go.Proofs.Ytkiooiijnolocaa.Once
open Go.RowKit
/-- What a cell of the table holds. -/
def slotOf (d : Nat → Option (Nat × Nat)) (c : Nat) : Value := match d c with | some (k, cap) => .slice (some ⟨k, 0, none⟩) 2 cap | none => .slice none 0 0
/-- One more replacement. -/
def upd (d : Nat → Option (Nat × Nat)) (c : Nat) (v : Nat × Nat) : Nat → Option (Nat × Nat) := fun i => if i = c then some v else d i
/-- The table in the making: block B of 257 cells; its first 256 are what d says, the last is a row (block H) of texts. -/
structure Tb (w0 W : World) (B H m n : Nat) (d : Nat → Option (Nat × Nat)) (l : List Value) : Prop where
  bel : Below w0.heap.size w0 W
  loB : w0.heap.size ≤ B
  loH : w0.heap.size ≤ H
  ne : B ≠ H
  hiB : B < W.heap.size
  hiH : H < W.heap.size
  tab : ∀ c, c < 256 → W.cell? ⟨B, c, none⟩ = some (slotOf d c)
  top : W.cell? ⟨B, 256, none⟩ = some (.slice (some ⟨H, 0, none⟩) m 3)
  row : ∃ cur, W.heap[H]? = some (.cells cur 9 (0, 0)) ∧ cur.size = 3 ∧ cur.toList.take n = l
  fr : ∀ c, W.frozen? ⟨B, c, none⟩ = false
  rep : ∀ c k cap, d c = some (k, cap) → w0.heap.size ≤ k ∧ k < W.heap.size ∧ k ≠ B ∧ k ≠ H ∧ W.cell? ⟨k, 0, none⟩ = some (.int .u8 63) ∧ W.cell? ⟨k, 1, none⟩ = some (.int .u8 c)
  blk : ∃ c, W.heap[B]? = some (.cells c 175 (0, 0))
  mrk : ∀ c k cap, d c = some (k, cap) → ∃ v fr, W.heap[k]? = some (.cells v 5 fr) ∧ fr ≠ (0, 0)
theorem heap_setCell_same {w : World} {g i : Nat} {cur : Array Value} {t : TypeId} {fr : Nat × Nat} (v : Value) (hg : w.heap[g]? = some (.cells cur t fr)) : (w.setCell ⟨g, i, none⟩ v).heap[g]? = some (.cells (cur.setIfInBounds i v) t fr) := by
  rw [setCell_eq_setRow w g i cur t fr v hg]
  exact setRow_heap w g cur _ t fr hg
theorem zc (v : Value) : (Try.zeroCells175.toList.set 256 v).toArray = (Array.replicate 256 (Value.slice none 0 0)).push v := by
  have h : Try.zeroCells175.toList = List.replicate 256 (Value.slice none 0 0) ++ [Value.slice none 0 0] := by kernel_rfl
  rw [h, List.set_append_right _ _ (by simp)]
  simp [← List.toArray_replicate]
theorem tb_new (w : World) : Tb w ((w.alloc (.cells #[.string ⟨#[]⟩, .string ⟨#[]⟩, .string ⟨#[]⟩] 9)).alloc (.cells ((Try.zeroCells175.toList.set 256 (.slice (some ⟨w.heap.size, 0, none⟩) 0 3)).toArray) 175)) (w.heap.size + 1) w.heap.size 0 0 (fun _ => none) [] := by
  rw [zc]
  have hs : ∀ o : Obj, (w.alloc o).heap.size = w.heap.size + 1 := fun o => World.size_alloc _ _
  refine ⟨((Below.refl _ _).alloc (Nat.le_refl _) _).alloc (by rw [hs]; omega) _, Nat.le_succ _, Nat.le_refl _, by omega, by simp, by simp; omega, ?_, ?_, ?_, ?_, ?_, ?_, ?_⟩
  · intro c hc
    rw [World.cell?_alloc_at _ _ _ _ (by rw [hs])]
    rw [Array.getElem?_push, if_neg (by simp; omega)]
    simp [slotOf, hc]
  · rw [World.cell?_alloc_at _ _ _ _ (by rw [hs])]
    rw [Array.getElem?_push, if_pos (by simp)]
  · exact ⟨#[.string ⟨#[]⟩, .string ⟨#[]⟩, .string ⟨#[]⟩], (Below.heap_alloc _ _ _ (by rw [hs]; omega)).trans (heap_alloc_new w _), rfl, rfl⟩
  · intro c
    exact World.frozen?_alloc_at _ _ _ _ (by rw [hs])
  · intro c k cap h
    cases h
  · exact ⟨_, by rw [← hs (.cells #[.string ⟨#[]⟩, .string ⟨#[]⟩, .string ⟨#[]⟩] 9)]; exact heap_alloc_new _ _⟩
  · intro c k cap h
    cases h
/-- append of one text made of one byte. -/
theorem Tb.app {w0 W : World} {B H m n : Nat} {d : Nat → Option (Nat × Nat)} {l : List Value} (h : Tb w0 W B H m n d l) (hn : n < 3) (u : UInt8) :
    ∃ W2, (Builtin.append_ #[66, 66] 66 #[.slice (some ⟨H, 0, none⟩) n 3, .slice (some ⟨W.heap.size + 1, 0, none⟩) 1 1]).run Try.prog ((W.alloc (.cells #[.int .u8 u.toNat] 5)).alloc (.cells #[.string ⟨#[u]⟩] 9)) = .ok (.slice (some ⟨H, 0, none⟩) (n + 1) 3) W2 ∧ Tb w0 W2 B H m (n + 1) d (l ++ [.string ⟨#[u]⟩]) := by
  obtain ⟨i9, hi9, hj9⟩ := Option.map_eq_some_iff.1 (show (Try.prog.info? 9).map (fun i => i.size) = some 1 by kernel_rfl)
  obtain ⟨cur, hc, hs3, ht⟩ := h.row
  have hiH := h.hiH
  have hiB := h.hiB
  have hne := h.ne
  have hcells : ∀ k i, k < W.heap.size → ((W.alloc (.cells #[.int .u8 u.toNat] 5)).alloc (.cells #[.string ⟨#[u]⟩] 9)).cell? ⟨k, i, none⟩ = W.cell? ⟨k, i, none⟩ := by
    intro k i hk
    rw [World.cell?_alloc_past _ _ _ (by simp; omega), World.cell?_alloc_past _ _ _ hk]
  have hfrs : ∀ k i, k < W.heap.size → ((W.alloc (.cells #[.int .u8 u.toNat] 5)).alloc (.cells #[.string ⟨#[u]⟩] 9)).frozen? ⟨k, i, none⟩ = W.frozen? ⟨k, i, none⟩ := by
    intro k i hk
    rw [World.frozen?_alloc_past _ _ _ (by simp; omega), World.frozen?_alloc_past _ _ _ hk]
  have hh : ((W.alloc (.cells #[.int .u8 u.toNat] 5)).alloc (.cells #[.string ⟨#[u]⟩] 9)).heap[H]? = some (.cells cur 9 (0, 0)) := by
    rw [Below.heap_alloc _ _ _ (by simp; omega), Below.heap_alloc _ _ _ hiH]
    exact hc
  have hsz : ((W.alloc (.cells #[.int .u8 u.toNat] 5)).alloc (.cells #[.string ⟨#[u]⟩] 9)).heap.size = W.heap.size + 2 := by simp
  have hlast : ((W.alloc (.cells #[.int .u8 u.toNat] 5)).alloc (.cells #[.string ⟨#[u]⟩] 9)).cell? ⟨W.heap.size + 1, 0, none⟩ = some (.string ⟨#[u]⟩) := by
    rw [World.cell?_alloc_at _ _ _ _ (by simp)]
    rfl
  have hho : ∀ k, k < W.heap.size → ((W.alloc (.cells #[.int .u8 u.toNat] 5)).alloc (.cells #[.string ⟨#[u]⟩] 9)).heap[k]? = W.heap[k]? := by
    intro k hk
    rw [Below.heap_alloc _ _ _ (by simp; omega), Below.heap_alloc _ _ _ hk]
  have hbel := (h.bel.alloc (Nat.le_of_lt (Nat.lt_of_le_of_lt h.loB hiB)) (.cells #[.int .u8 u.toNat] 5)).alloc (by have := h.loB; simp; omega) (.cells #[.string ⟨#[u]⟩] 9)
  generalize ((W.alloc (.cells #[.int .u8 u.toNat] 5)).alloc (.cells #[.string ⟨#[u]⟩] 9)) = X at *
  have hl3 : cur.toList.length = 3 := by simpa using hs3
  refine ⟨_, run_append_room (P := Try.prog) X 66 66 9 i9 Try.underlying66 hi9 H n 3 cur hh ⟨W.heap.size + 1, 0, none⟩ 1 1 [.string ⟨#[u]⟩] (by simp [hj9]) ?_ (fun v hv => by rw [List.mem_singleton.1 hv]; rfl) (by omega) (by simp [hj9, hs3]; omega), ?_⟩
  · intro j v hj
    obtain rfl : j = 0 := by
      have := (List.getElem?_eq_some_iff.1 hj).1
      simpa using this
    rw [Addr.add_lit]
    simp only [List.getElem?_cons_zero, Option.some.injEq] at hj
    subst hj
    exact hlast
  · have hoth : ∀ k i cs, k ≠ H → (X.setRow H cs).cell? ⟨k, i, none⟩ = X.cell? ⟨k, i, none⟩ := fun k i cs hk => cell_setRow_other X H cs _ hk
    refine ⟨below_setRow hbel h.loH _, h.loB, h.loH, hne, ?_, ?_, ?_, ?_, ?_, ?_, ?_, ?_, ?_⟩
    · rw [setRow_size]; omega
    · rw [setRow_size]; omega
    · intro c hc'
      rw [hoth _ _ _ hne, hcells _ _ hiB]
      exact h.tab c hc'
    · rw [hoth _ _ _ hne, hcells _ _ hiB]
      exact h.top
    · refine ⟨_, setRow_heap X H cur _ 9 _ hh, ?_, ?_⟩
      · simp [hj9, hl3]; omega
      · rw [← ht, hj9]
        simp only [Nat.mul_one, List.length_singleton]
        have h1 : (cur.toList.take n ++ [Value.string ⟨#[u]⟩]).length = n + 1 := by simp; omega
        rw [List.take_append_of_le_length (by omega), List.take_of_length_le (by omega)]
    · intro c
      rw [World.frozen?_of_block (w := X) (setRow_other X H B _ hne), hfrs _ _ hiB]
      exact h.fr c
    · intro c k cap hd
      obtain ⟨a1, a2, a3, a4, a5, a6⟩ := h.rep c k cap hd
      refine ⟨a1, by rw [setRow_size]; omega, a3, a4, ?_, ?_⟩
      · rw [hoth _ _ _ a4, hcells _ _ a2]; exact a5
      · rw [hoth _ _ _ a4, hcells _ _ a2]; exact a6
    · obtain ⟨c, hc'⟩ := h.blk
      exact ⟨c, by rw [setRow_other X H B _ hne, hho _ hiB]; exact hc'⟩
    · intro c k cap hd
      obtain ⟨v, fr, hv, hf⟩ := h.mrk c k cap hd
      obtain ⟨a1, a2, a3, a4, a5, a6⟩ := h.rep c k cap hd
      exact ⟨v, fr, by rw [setRow_other X H k _ a4, hho _ a2]; exact hv, hf⟩
/-- The row's length stored, a replacement made and stored. -/
theorem Tb.put {w0 W : World} {B H m n : Nat} {d : Nat → Option (Nat × Nat)} {l : List Value} (h : Tb w0 W B H m n d l) (u : UInt8) (fr : Nat × Nat) (cap : Nat) (hfr : fr ≠ (0, 0)) :
    Tb w0 (((W.setCell ⟨B, 256, none⟩ (.slice (some ⟨H, 0, none⟩) n 3)).drew.alloc (.cells (bytesRow ⟨#[63, u]⟩ cap) 5 fr)).setCell ⟨B, u.toNat, none⟩ (.slice (some ⟨W.heap.size, 0, none⟩) 2 cap)) B H n n (upd d u.toNat (W.heap.size, cap)) l := by
  have hiH := h.hiH
  have hiB := h.hiB
  have hne := h.ne
  have hu : u.toNat < 256 := u.toNat_lt
  have hs1 : (W.setCell ⟨B, 256, none⟩ (.slice (some ⟨H, 0, none⟩) n 3)).drew.heap.size = W.heap.size := by simp [World.drew, World.setCell]
  have hB1 : ∀ i, i ≠ 256 → (W.setCell ⟨B, 256, none⟩ (.slice (some ⟨H, 0, none⟩) n 3)).drew.cell? ⟨B, i, none⟩ = W.cell? ⟨B, i, none⟩ := by
    intro i hi
    rw [World.cell?_drew, World.cell?_setCell_other _ _ _ _ (by intro e; injection e with _ e; exact hi e.symm)]
  have hB2 : (W.setCell ⟨B, 256, none⟩ (.slice (some ⟨H, 0, none⟩) n 3)).drew.cell? ⟨B, 256, none⟩ = some (.slice (some ⟨H, 0, none⟩) n 3) := by
    rw [World.cell?_drew]
    exact World.cell?_setCell_same _ _ _ h.top
  have hO : ∀ k i, k ≠ B → (W.setCell ⟨B, 256, none⟩ (.slice (some ⟨H, 0, none⟩) n 3)).drew.cell? ⟨k, i, none⟩ = W.cell? ⟨k, i, none⟩ := by
    intro k i hk
    rw [World.cell?_drew, World.cell?_setCell_other _ _ _ _ (by intro e; injection e with e; exact hk e.symm)]
  have hHh : (W.setCell ⟨B, 256, none⟩ (.slice (some ⟨H, 0, none⟩) n 3)).drew.heap[H]? = W.heap[H]? := by
    show (W.setCell ⟨B, 256, none⟩ (.slice (some ⟨H, 0, none⟩) n 3)).heap[H]? = _
    exact Below.heap_setCell _ _ _ _ (by simpa using hne.symm)
  have hF : ∀ i, (W.setCell ⟨B, 256, none⟩ (.slice (some ⟨H, 0, none⟩) n 3)).drew.frozen? ⟨B, i, none⟩ = false := by
    intro i
    show (W.setCell ⟨B, 256, none⟩ (.slice (some ⟨H, 0, none⟩) n 3)).frozen? ⟨B, i, none⟩ = false
    rw [World.frozen?_setCell]
    exact h.fr i
  have hXo : ∀ k, k ≠ B → (W.setCell ⟨B, 256, none⟩ (.slice (some ⟨H, 0, none⟩) n 3)).drew.heap[k]? = W.heap[k]? := fun k hk => Below.heap_setCell _ _ _ _ (by simpa using hk)
  have hXB : ∃ c, (W.setCell ⟨B, 256, none⟩ (.slice (some ⟨H, 0, none⟩) n 3)).drew.heap[B]? = some (.cells c 175 (0, 0)) := by
    obtain ⟨c, hc⟩ := h.blk
    exact ⟨_, heap_setCell_same _ hc⟩
  have hbel : Below w0.heap.size w0 (W.setCell ⟨B, 256, none⟩ (.slice (some ⟨H, 0, none⟩) n 3)).drew := by
    have := h.bel.setCell (p := ⟨B, 256, none⟩) h.loB (.slice (some ⟨H, 0, none⟩) n 3)
    exact ⟨this.os, this.tape, this.output, this.size, this.block⟩
  generalize (W.setCell ⟨B, 256, none⟩ (.slice (some ⟨H, 0, none⟩) n 3)).drew = X at *
  have hlo := h.loB
  have hsa : ∀ o : Obj, (X.alloc o).heap.size = W.heap.size + 1 := fun o => by rw [World.size_alloc, hs1]
  have hc0 : (X.alloc (.cells (bytesRow ⟨#[63, u]⟩ cap) 5 fr)).cell? ⟨W.heap.size, 0, none⟩ = some (.int .u8 63) := by
    have := World.cell?_alloc_mark X (bytesRow ⟨#[63, u]⟩ cap) 5 fr 0
    rw [hs1] at this
    rw [this, bytesRow_at _ _ _ (by simp)]
    simp
  have hc1 : (X.alloc (.cells (bytesRow ⟨#[63, u]⟩ cap) 5 fr)).cell? ⟨W.heap.size, 1, none⟩ = some (.int .u8 u.toNat) := by
    have := World.cell?_alloc_mark X (bytesRow ⟨#[63, u]⟩ cap) 5 fr 1
    rw [hs1] at this
    rw [this, bytesRow_at _ _ _ (by simp)]
    simp
  have hA : ∀ k i, k < W.heap.size → (X.alloc (.cells (bytesRow ⟨#[63, u]⟩ cap) 5 fr)).cell? ⟨k, i, none⟩ = X.cell? ⟨k, i, none⟩ := fun k i hk => World.cell?_alloc_past _ _ _ (by omega)
  have hAF : ∀ k i, k < W.heap.size → (X.alloc (.cells (bytesRow ⟨#[63, u]⟩ cap) 5 fr)).frozen? ⟨k, i, none⟩ = X.frozen? ⟨k, i, none⟩ := fun k i hk => World.frozen?_alloc_past _ _ _ (by omega)
  have hAH : ∀ k, k < W.heap.size → (X.alloc (.cells (bytesRow ⟨#[63, u]⟩ cap) 5 fr)).heap[k]? = X.heap[k]? := fun k hk => Below.heap_alloc _ _ _ (by omega)
  have hYn : (X.alloc (.cells (bytesRow ⟨#[63, u]⟩ cap) 5 fr)).heap[W.heap.size]? = some (.cells (bytesRow ⟨#[63, u]⟩ cap) 5 fr) := by
    have := heap_alloc_new X (.cells (bytesRow ⟨#[63, u]⟩ cap) 5 fr)
    rwa [hs1] at this
  have hbel2 := hbel.alloc (by omega) (.cells (bytesRow ⟨#[63, u]⟩ cap) 5 fr)
  have hsY : (X.alloc (.cells (bytesRow ⟨#[63, u]⟩ cap) 5 fr)).heap.size = W.heap.size + 1 := hsa _
  generalize (X.alloc (.cells (bytesRow ⟨#[63, u]⟩ cap) 5 fr)) = Y at *
  have hss : (Y.setCell ⟨B, u.toNat, none⟩ (.slice (some ⟨W.heap.size, 0, none⟩) 2 cap)).heap.size = W.heap.size + 1 := by simp [World.setCell, hsY]
  refine ⟨hbel2.setCell (p := ⟨B, u.toNat, none⟩) hlo _, h.loB, h.loH, hne, by omega, by omega, ?_, ?_, ?_, ?_, ?_, ?_, ?_⟩
  · intro c hc
    by_cases e : c = u.toNat
    · subst e
      rw [World.cell?_setCell_same _ _ _ (by rw [hA _ _ hiB, hB1 _ (by omega)]; exact h.tab _ hu)]
      simp [slotOf, upd]
    · rw [World.cell?_setCell_other _ _ _ _ (by intro e'; injection e' with _ e'; exact e e'.symm), hA _ _ hiB, hB1 _ (by omega), h.tab c hc]
      simp [slotOf, upd, e]
  · rw [World.cell?_setCell_other _ _ _ _ (by intro e'; injection e' with _ e'; omega), hA _ _ hiB]
    exact hB2
  · obtain ⟨cur, r1, r2, r3⟩ := h.row
    refine ⟨cur, ?_, r2, r3⟩
    rw [Below.heap_setCell _ _ _ _ (by simpa using hne.symm), hAH _ hiH, hHh]
    exact r1
  · intro c
    rw [World.frozen?_setCell, hAF _ _ hiB]
    exact hF c
  · intro c k cap' hd
    by_cases e : c = u.toNat
    · subst e
      simp only [upd, if_pos, Option.some.injEq, Prod.mk.injEq] at hd
      obtain ⟨rfl, rfl⟩ := hd
      have hoth : ∀ i, (Y.setCell ⟨B, u.toNat, none⟩ (.slice (some ⟨W.heap.size, 0, none⟩) 2 cap)).cell? ⟨W.heap.size, i, none⟩ = Y.cell? ⟨W.heap.size, i, none⟩ := fun i => World.cell?_setCell_other _ _ _ _ (by intro e'; injection e' with e'; omega)
      exact ⟨by omega, by omega, by omega, by omega, by rw [hoth]; exact hc0, by rw [hoth]; exact hc1⟩
    · simp only [upd, if_neg e] at hd
      obtain ⟨a1, a2, a3, a4, a5, a6⟩ := h.rep c k cap' hd
      have hoth : ∀ i, (Y.setCell ⟨B, u.toNat, none⟩ (.slice (some ⟨W.heap.size, 0, none⟩) 2 cap)).cell? ⟨k, i, none⟩ = Y.cell? ⟨k, i, none⟩ := fun i => World.cell?_setCell_other _ _ _ _ (by intro e'; injection e' with e'; exact a3 e'.symm)
      exact ⟨a1, by omega, a3, a4, by rw [hoth, hA _ _ a2, hO _ _ a3]; exact a5, by rw [hoth, hA _ _ a2, hO _ _ a3]; exact a6⟩
  · obtain ⟨c, hc⟩ := hXB
    exact ⟨_, heap_setCell_same _ ((hAH _ hiB).trans hc)⟩
  · intro c k cap' hd
    by_cases e : c = u.toNat
    · subst e
      simp only [upd, if_pos, Option.some.injEq, Prod.mk.injEq] at hd
      obtain ⟨rfl, rfl⟩ := hd
      exact ⟨_, fr, (Below.heap_setCell _ _ _ _ (by show W.heap.size ≠ B; omega)).trans hYn, hfr⟩
    · simp only [upd, if_neg e] at hd
      obtain ⟨v, f, hv, hf⟩ := h.mrk c k cap' hd
      obtain ⟨a1, a2, a3, a4, a5, a6⟩ := h.rep c k cap' hd
      exact ⟨v, f, by rw [Below.heap_setCell _ _ _ _ (by simpa using a3), hAH _ a2, hXo _ a3]; exact hv, hf⟩
/-- The same, in the walk's spelling. -/
theorem Tb.put2 {w0 W : World} {B H m n : Nat} {d : Nat → Option (Nat × Nat)} {l : List Value} (h : Tb w0 W B H m n d l) (u : UInt8) (fr : Nat × Nat) (cap : Nat) (hfr : fr ≠ (0, 0)) :
    Tb w0 (((W.setCell ⟨B, 256, none⟩ (.slice (some ⟨H, 0, none⟩) n 3)).setCell ⟨B, u.toNat, none⟩ (.slice (some ⟨W.heap.size, 0, none⟩) 2 cap)).alloc (.cells (bytesRow ⟨#[63, u]⟩ cap) 5 fr)).drew B H n n (upd d u.toNat (W.heap.size, cap)) l := by
  have h2 := h.put u fr cap hfr
  rw [World.alloc_drew, World.setCell_drew, World.setCell_alloc_past _ _ _ _ (by have := h.hiB; simpa [World.setCell] using this)] at h2
  exact h2
/-- The table of the three bytes + ? '. -/
def Tbl (w0 : World) (B : Nat) (W : World) : Prop := ∃ H d, Tb w0 W B H 3 3 d [.string ⟨#[39]⟩, .string ⟨#[63]⟩, .string ⟨#[43]⟩] ∧ ∀ c, (d c).isSome = decide (c = 39 ∨ c = 63 ∨ c = 43)
theorem Tbl.mk3 {w0 W : World} {B H : Nat} {y0 y1 y2 : Nat × Nat} (h : Tb w0 W B H 3 3 (upd (upd (upd (fun _ => none) 39 y0) 63 y1) 43 y2) ([] ++ [Value.string ⟨#[39]⟩] ++ [Value.string ⟨#[63]⟩] ++ [Value.string ⟨#[43]⟩])) : Tbl w0 B W := by
  refine ⟨H, _, h, fun c => ?_⟩
  by_cases h1 : c = 43
  · simp [upd, h1]
  · by_cases h2 : c = 63
    · simp [upd, h2]
    · by_cases h3 : c = 39
      · simp [upd, h3]
      · simp [upd, h1, h2, h3]
end Go.Proofs.Ytkiooiijnolocaa.Once
