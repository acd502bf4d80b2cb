/- A strings.Replacer of the six texts of the escape, built or not yet: what (*Replacer).Replace answers and leaves. -/
import Derived.Test.YtkiooiijnolocaaRepl
import Derived.Test.YtkiooiijnolocaaBuild
import Derived.Test.YtkiooiijnolocaaReplace
set_option maxRecDepth 100000
set_option maxHeartbeats 1600000
set_option linter.unusedVariables false
set_option linter.unusedSimpArgs false
namespace Go.Proofs.Ytkiooiijnolocaa.Once
open Go.RowKit
/-- The table as it lies, block by block. -/
structure TabH (W : World) (B H : Nat) (d : Nat → Option (Nat × Nat)) : Prop where
  tab : TabC W B H d
  blk : ∃ c, W.heap[B]? = some (.cells c 175 (0, 0))
  row : ∃ c, W.heap[H]? = some (.cells c 9 (0, 0))
  mrk : ∀ c k cap, d c = some (k, cap) → ∃ v fr, W.heap[k]? = some (.cells v 5 fr) ∧ fr ≠ (0, 0)
theorem TabC.same {w w1 : World} {B H : Nat} {d : Nat → Option (Nat × Nat)} (h : TabC w B H d) (hB : ∀ i, w1.cell? ⟨B, i, none⟩ = w.cell? ⟨B, i, none⟩) (hH : ∀ i, w1.cell? ⟨H, i, none⟩ = w.cell? ⟨H, i, none⟩) (hk : ∀ c k cap, d c = some (k, cap) → ∀ i, w1.cell? ⟨k, i, none⟩ = w.cell? ⟨k, i, none⟩) : TabC w1 B H d :=
  ⟨fun c hc => (hB c).trans (h.tab c hc), (hB 256).trans h.top, (hH 0).trans h.t0, (hH 1).trans h.t1, (hH 2).trans h.t2, fun c k cap e => ⟨(hk c k cap e 0).trans (h.rep c k cap e).1, (hk c k cap e 1).trans (h.rep c k cap e).2⟩, h.dom⟩
theorem TabH.same {w w1 : World} {B H : Nat} {d : Nat → Option (Nat × Nat)} (h : TabH w B H d) (hB : w1.heap[B]? = w.heap[B]?) (hH : w1.heap[H]? = w.heap[H]?) (hk : ∀ c k cap, d c = some (k, cap) → w1.heap[k]? = w.heap[k]?) : TabH w1 B H d := by
  refine ⟨h.tab.same (fun i => World.cell?_of_block (w := w) hB) (fun i => World.cell?_of_block (w := w) hH) (fun c k cap e i => World.cell?_of_block (w := w) (hk c k cap e)), ?_, ?_, ?_⟩
  · obtain ⟨c, hc⟩ := h.blk
    exact ⟨c, hB.trans hc⟩
  · obtain ⟨c, hc⟩ := h.row
    exact ⟨c, hH.trans hc⟩
  · intro c k cap e
    obtain ⟨v, fr, hv, hf⟩ := h.mrk c k cap e
    exact ⟨v, fr, (hk c k cap e).trans hv, hf⟩
theorem Tbl.tabH {w0 W : World} {B : Nat} (h : Tbl w0 B W) : ∃ H d, TabH W B H d ∧ w0.heap.size ≤ B ∧ w0.heap.size ≤ H ∧ (∀ c k cap, d c = some (k, cap) → w0.heap.size ≤ k) ∧ Below w0.heap.size w0 W := by
  obtain ⟨H, d, h, hd⟩ := h
  obtain ⟨cur, hc, hs, ht⟩ := h.row
  have hcur : cur.toList = [.string ⟨#[39]⟩, .string ⟨#[63]⟩, .string ⟨#[43]⟩] := by
    rw [List.take_of_length_le (by simp; omega)] at ht
    exact ht
  have hcell : ∀ i v, cur.toList[i]? = some v → W.cell? ⟨H, i, none⟩ = some v := by
    intro i v hv
    rw [cell_of_row W H i cur 9 (0, 0) hc]
    simpa using hv
  exact ⟨H, d, ⟨⟨h.tab, h.top, hcell 0 _ (by rw [hcur]; rfl), hcell 1 _ (by rw [hcur]; rfl), hcell 2 _ (by rw [hcur]; rfl), fun c k cap e => ⟨(h.rep c k cap e).2.2.2.2.1, (h.rep c k cap e).2.2.2.2.2⟩, hd⟩, h.blk, ⟨cur, hc⟩, h.mrk⟩, h.loB, h.loH, fun c k cap e => (h.rep c k cap e).1, h.bel⟩
/-- The Replacer at block b: not yet built, or built. -/
def RepS (W : World) (b : Nat) : Prop :=
  (∃ g co C, W.heap[b]? = some (.cells #[.int .u32 0, .int .i32 0, .int .u32 0, .nilIface, .slice (some ⟨g, 0, none⟩) 6 co] 130 (0, 0)) ∧ W.heap[g]? = some (.cells C 9 (0, 0)) ∧
    C[0]? = some (.string ⟨#[43]⟩) ∧ C[1]? = some (.string ⟨#[63, 43]⟩) ∧ C[2]? = some (.string ⟨#[63]⟩) ∧ C[3]? = some (.string ⟨#[63, 63]⟩) ∧ C[4]? = some (.string ⟨#[39]⟩) ∧ C[5]? = some (.string ⟨#[63, 39]⟩)) ∨
  (∃ B H d, W.heap[b]? = some (.cells #[.int .u32 1, .int .i32 0, .int .u32 0, .iface 176 (.pointer (some ⟨B, 0, none⟩)), .slice none 0 0] 130 (0, 0)) ∧ TabH W B H d)
/-- It stands where its blocks stand. -/
theorem RepS.same {w w1 : World} {b : Nat} (h : RepS w b) (hk : ∀ (k : Nat) (c : Array Value) (e : TypeId) (fr : Nat × Nat), w.heap[k]? = some (Obj.cells c e fr) → (e ≠ 5 ∨ fr ≠ (0, 0)) → e ≠ 86 → w1.heap[k]? = w.heap[k]?) : RepS w1 b := by
  rcases h with ⟨g, co, C, hb, hg, hc⟩ | ⟨B, H, d, hb, ht⟩
  · exact .inl ⟨g, co, C, (hk _ _ _ _ hb (.inl (by decide)) (by decide)).trans hb, (hk _ _ _ _ hg (.inl (by decide)) (by decide)).trans hg, hc⟩
  · refine .inr ⟨B, H, d, (hk _ _ _ _ hb (.inl (by decide)) (by decide)).trans hb, ht.same ?_ ?_ ?_⟩
    · obtain ⟨c, hc⟩ := ht.blk
      exact hk _ _ _ _ hc (.inl (by decide)) (by decide)
    · obtain ⟨c, hc⟩ := ht.row
      exact hk _ _ _ _ hc (.inl (by decide)) (by decide)
    · intro c k cap e
      obtain ⟨v, fr, hv, hf⟩ := ht.mrk c k cap e
      exact hk _ _ _ _ hv (.inr hf) (by decide)
theorem lt_of_heap {w : World} {k : Nat} {o : Obj} (h : w.heap[k]? = some o) : k < w.heap.size := (Array.getElem?_eq_some_iff.1 h).1
theorem RepS.below {w w1 : World} {b : Nat} (h : RepS w b) (hb : Below w.heap.size w w1) : RepS w1 b := h.same fun k c e fr hk _ _ => hb.block k (lt_of_heap hk)
theorem cell_heap {w : World} {b i : Nat} {cs : Array Value} {t : TypeId} {fr : Nat × Nat} {v : Value} (h : w.heap[b]? = some (.cells cs t fr)) (hv : cs[i]? = some v) : w.cell? ⟨b, i, none⟩ = some v := by
  rw [cell_of_row w b i cs t fr h]
  exact hv
/-- (*Replacer).Replace: the escape; the Replacer stands; nothing but its block turns. -/
theorem rep_calls (b : Nat) (s : ByteArray) (w : World) (h : RepS w b) (hs : 2 * s.size ≤ 140737488355328) :
    Calls Try.prog 48 #[.pointer (some ⟨b, 0, none⟩), .string s] w fun e w' => e = .returned (.string ⟨(escL s.data.toList).toArray⟩) ∧ RepS w' b ∧ w.grownBy w' (some b) := by
  have hF := h
  rcases h with ⟨g, co, C, hb, hg, a0, a1, a2, a3, a4, a5⟩ | ⟨B, H, d, hb, ht⟩
  · have hbl := lt_of_heap hb
    have hgl := lt_of_heap hg
    have hgb : g ≠ b := by
      intro e
      subst e
      rw [hb] at hg
      injection hg with hg
      injection hg with _ hg
      exact absurd hg (by decide)
    have hA : (w.setCell ⟨b, 1, none⟩ (.int .i32 1)).heap[b]? = some (.cells #[.int .u32 0, .int .i32 1, .int .u32 0, .nilIface, .slice (some ⟨g, 0, none⟩) 6 co] 130 (0, 0)) := heap_setCell_same _ hb
    have hAg : (w.setCell ⟨b, 1, none⟩ (.int .i32 1)).heap[g]? = some (.cells C 9 (0, 0)) := (Below.heap_setCell _ _ _ _ hgb).trans hg
    have hAs : (w.setCell ⟨b, 1, none⟩ (.int .i32 1)).heap.size = w.heap.size := by simp [World.setCell]
    refine replace_first b s _ (fun B w1 => Tbl (w.setCell ⟨b, 1, none⟩ (.int .i32 1)) B w1) (fun w' => RepS w' b ∧ w.grownBy w' (some b)) w (cell_heap hb rfl) (cell_heap hb rfl) (row_free hb 1) ?_ ?_ ?_
    · exact build1 b g co _ (cell_heap hA rfl) (cell_heap hAg a0) (cell_heap hAg a1) (cell_heap hAg a2) (cell_heap hAg a3) (cell_heap hAg a4) (cell_heap hAg a5) (by omega)
    · intro B w1 hT
      obtain ⟨H, d, -, -, -, -, hbel⟩ := hT.tabH
      have h1 : w1.heap[b]? = _ := (hbel.block b (by omega)).trans hA
      exact ⟨⟨cell_heap h1 rfl, row_free h1 0, cell_heap h1 rfl, row_free h1 1⟩, ⟨_, cell_heap h1 rfl⟩, row_free h1 3, ⟨_, cell_heap h1 rfl⟩, row_free h1 4⟩
    · intro B w1 hT
      obtain ⟨H, d, ht, hlB, hlH, hlk, hbel⟩ := hT.tabH
      have h1 : w1.heap[b]? = _ := (hbel.block b (by omega)).trans hA
      have h2 := heap_setCell_same (i := 3) (.iface 176 (.pointer (some ⟨B, 0, none⟩))) h1
      have h3 := heap_setCell_same (i := 4) (.slice none 0 0) h2
      have h3' : ((w1.setCell ⟨b, 3, none⟩ (.iface 176 (.pointer (some ⟨B, 0, none⟩)))).setCell ⟨b, 4, none⟩ (.slice none 0 0)).drew.heap[b]? = _ := h3
      have h4 := heap_setCell_same (i := 0) (.int .u32 1) h3'
      have h5 := heap_setCell_same (i := 1) (.int .i32 0) h4
      have ho : ∀ k, k ≠ b → ((((w1.setCell ⟨b, 3, none⟩ (.iface 176 (.pointer (some ⟨B, 0, none⟩)))).setCell ⟨b, 4, none⟩ (.slice none 0 0)).drew.setCell ⟨b, 0, none⟩ (.int .u32 1)).setCell ⟨b, 1, none⟩ (.int .i32 0)).heap[k]? = w1.heap[k]? := by
        intro k hk
        rw [Below.heap_setCell _ _ _ _ hk, Below.heap_setCell _ _ _ _ hk]
        exact (Below.heap_setCell _ _ _ _ hk).trans (Below.heap_setCell _ _ _ _ hk)
      have hsz : ((((w1.setCell ⟨b, 3, none⟩ (.iface 176 (.pointer (some ⟨B, 0, none⟩)))).setCell ⟨b, 4, none⟩ (.slice none 0 0)).drew.setCell ⟨b, 0, none⟩ (.int .u32 1)).setCell ⟨b, 1, none⟩ (.int .i32 0)).heap.size = w1.heap.size := by simp [World.setCell, World.drew]
      have hos : ((((w1.setCell ⟨b, 3, none⟩ (.iface 176 (.pointer (some ⟨B, 0, none⟩)))).setCell ⟨b, 4, none⟩ (.slice none 0 0)).drew.setCell ⟨b, 0, none⟩ (.int .u32 1)).setCell ⟨b, 1, none⟩ (.int .i32 0)).os = w1.os ∧ ((((w1.setCell ⟨b, 3, none⟩ (.iface 176 (.pointer (some ⟨B, 0, none⟩)))).setCell ⟨b, 4, none⟩ (.slice none 0 0)).drew.setCell ⟨b, 0, none⟩ (.int .u32 1)).setCell ⟨b, 1, none⟩ (.int .i32 0)).tape = w1.tape ∧ ((((w1.setCell ⟨b, 3, none⟩ (.iface 176 (.pointer (some ⟨B, 0, none⟩)))).setCell ⟨b, 4, none⟩ (.slice none 0 0)).drew.setCell ⟨b, 0, none⟩ (.int .u32 1)).setCell ⟨b, 1, none⟩ (.int .i32 0)).output = w1.output := ⟨rfl, rfl, rfl⟩
      generalize ((((w1.setCell ⟨b, 3, none⟩ (.iface 176 (.pointer (some ⟨B, 0, none⟩)))).setCell ⟨b, 4, none⟩ (.slice none 0 0)).drew.setCell ⟨b, 0, none⟩ (.int .u32 1)).setCell ⟨b, 1, none⟩ (.int .i32 0)) = wF at h5 ho hsz hos ⊢
      have htF : TabH wF B H d := ht.same (ho B (by omega)) (ho H (by omega)) (fun c k cap e => ho k (by have := hlk c k cap e; omega))
      refine (replace_tab B H d s wF htF.tab hs).mono ?_
      rintro e w' ⟨rfl, hb'⟩
      have hsz1 := hbel.size
      refine ⟨rfl, RepS.below (.inr ⟨B, H, d, h5, htF⟩) hb', ⟨hb'.os.trans (hos.1.trans hbel.os), hb'.tape.trans (hos.2.1.trans hbel.tape), hb'.output.trans (hos.2.2.trans hbel.output), ?_, ?_⟩⟩
      · have := hb'.size; omega
      · intro k hk hne
        have hkb : k ≠ b := fun e => hne (by rw [e])
        rw [hb'.block k (by omega), ho k hkb, hbel.block k (by omega)]
        exact Below.heap_setCell _ _ _ _ hkb
  · refine replace_done b B s _ (fun w' => RepS w' b ∧ w.grownBy w' (some b)) w (cell_heap hb rfl) (cell_heap hb rfl) ((replace_tab B H d s w ht.tab hs).mono ?_)
    rintro e w' ⟨rfl, hb'⟩
    exact ⟨rfl, hF.below hb', ⟨hb'.os, hb'.tape, hb'.output, hb'.size, fun k hk _ => hb'.block k hk⟩⟩
end Go.Proofs.Ytkiooiijnolocaa.Once
