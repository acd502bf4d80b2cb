-- PRINTED by xprint.py (our own program, over the kit's print.py)
import Derived.Lib.RowBridge
import Derived.Test.YtkiooiijnolocaaSort
import Derived.Test.YtkiooiijnolocaaXFnThreeWayx0
import Derived.Test.YtkiooiijnolocaaPu
namespace Go.Proofs.Ytkiooiijnolocaa.XFnThreeWay
open Go.RowKit Go.Proofs.YtkiooiijnolocaaW.PrintWords Go.Proofs.YtkiooiijnolocaaW.PrintLast Go.Proofs.YtkiooiijnolocaaW.PrintMore Go.Proofs.YtkiooiijnolocaaW.Idx
attribute [local go_sem] max2_int min2_int max_two min_two max_three min_three max_four min_four   -- for this text's walks alone
set_option linter.unusedVariables false
set_option linter.unusedSimpArgs false

/-! ### slices_Sort_string_string: function 57 -/
def slices_Sort_string_string.f (l0 : List ByteArray) : Option (List ByteArray) := if l0.length < 1000000 then some (((l0.map (fun x => x.data.toList)).mergeSort (fun x y => decide (x ≤ y))).map (fun x => (⟨x.toArray⟩ : ByteArray))) else none
theorem slices_Sort_string_string.eta (x : ByteArray) : (⟨x.data.toList.toArray⟩ : ByteArray) = x := by
 cases x
 rfl
/-- A row of texts of one's own, its block written anew. -/
theorem slices_Sort_string_string.rowput {P0 : Nat → Prop} {u : Value} {l0 : List ByteArray} {w0 w : World} (ho0 : Kd.R Kd.string 9 w w0.heap.size P0 u l0) (hne : l0.length ≠ 0) :
  ∃ (g cap : Nat), u = .slice (some ⟨g, 0, none⟩) l0.length cap ∧ P0 g ∧ w0.heap.size ≤ g ∧ g < w.heap.size ∧ l0.length ≤ cap ∧ Go.Sort.Holds Go.Proofs.encStr w g 0 (l0.map (fun x : ByteArray => x.data.toList)).toArray ∧
   ∀ (q : Nat) (os : Array Obj) (d : List (List UInt8)) (m : Nat), d.length = l0.length → m ≤ d.length →
    Kd.R Kd.string 9 (Go.Sort.grow (Go.Sort.putRow Go.Proofs.encStr (Go.Sort.ahead w q) g 0 d.toArray) os) w0.heap.size (fun k_ => k_ = g) (.slice (some ⟨g, 0, none⟩) m cap) ((d.take m).map (fun x => (⟨x.toArray⟩ : ByteArray))) ∧
    Kept w (Go.Sort.grow (Go.Sort.putRow Go.Proofs.encStr (Go.Sort.ahead w q) g 0 d.toArray) os) (fun k_ => k_ = g) ∧
    Below w0.heap.size w (Go.Sort.grow (Go.Sort.putRow Go.Proofs.encStr (Go.Sort.ahead w q) g 0 d.toArray) os) := by
 obtain ⟨h0, inner, ⟨hl, hcase⟩, hrp⟩ := ho0
 rcases hcase with ⟨rfl, hz⟩ | ⟨g, cap, cur, rfl, hbg, hg, hnc, hcm, hcs, htk⟩
 ·exact absurd hz hne
 have hPg : P0 g := h0 g rfl
 change inner.length = l0.length * 1 at hl
 change cur.size = cap * 1 at hcs
 change cur.toList.take (l0.length * 1) = inner at htk
 rw [Nat.mul_one] at hl hcs htk
 have hgl := blk_lt hg
 have hel : ∀ j (hj : j < l0.length), cur[j]? = some (.string l0[j]) := by
  intro j hj
  have e1 : (inner.drop (j * 1)).take 1 = [.string l0[j]] := hrp.2 j _ (List.getElem?_eq_getElem hj)
  have e2 : cur[j]? = inner[j]? := by rw [← htk, List.getElem?_take, if_pos hj, Array.getElem?_toList]
  have e3 : inner[j]? = ((inner.drop (j * 1)).take 1)[0]? := by
   rw [List.getElem?_take, if_pos (by omega), List.getElem?_drop, Nat.mul_one, Nat.add_zero]
  rw [e2, e3, e1]
  rfl
 refine ⟨g, cap, rfl, hPg, hbg, hgl, hnc, ?_, ?_⟩
 ·intro j hj
  have hj2 : j < l0.length := by simpa using hj
  refine ⟨?_, blk_frozen hg _⟩
  rw [Nat.zero_add, blk_cell hg, hel j hj2, getElem!_pos (l0.map (fun x : ByteArray => x.data.toList)).toArray j hj]
  simp only [List.getElem_toArray, List.getElem_map]
 intro q os d m hd hm
 have hblk : (Go.Sort.grow (Go.Sort.putRow Go.Proofs.encStr (Go.Sort.ahead w q) g 0 d.toArray) os).heap[g]? = some (.cells (Go.Sort.putCells Go.Proofs.encStr 0 d.toArray cur) 9 (0, 0)) := by
  show ((w.heap.modify g _) ++ os)[g]? = _
  rw [Array.getElem?_append_left (by simpa using hgl), Array.getElem?_modify, if_pos rfl, hg]
  rfl
 have hoth : ∀ k, k < w.heap.size → k ≠ g → (Go.Sort.grow (Go.Sort.putRow Go.Proofs.encStr (Go.Sort.ahead w q) g 0 d.toArray) os).heap[k]? = w.heap[k]? := by
  intro k hk hn
  show ((w.heap.modify g _) ++ os)[k]? = _
  rw [Array.getElem?_append_left (by simpa using hk), Array.getElem?_modify, if_neg (Ne.symm hn)]
 have hsz : w.heap.size ≤ (Go.Sort.grow (Go.Sort.putRow Go.Proofs.encStr (Go.Sort.ahead w q) g 0 d.toArray) os).heap.size := by
  show w.heap.size ≤ ((w.heap.modify g _) ++ os).size
  simp
 have hput : ∀ j (hj : j < d.length), (Go.Sort.putCells Go.Proofs.encStr 0 d.toArray cur)[j]? = some (.string ⟨d[j].toArray⟩) := by
  intro j hj
  unfold Go.Sort.putCells
  rw [Array.getElem?_mapIdx, Array.getElem?_eq_getElem (show j < cur.size by omega), Option.map_some, if_pos ⟨Nat.zero_le _, by simpa using hj⟩, Nat.sub_zero, getElem!_pos d.toArray j (by simpa using hj)]
  rfl
 have hlen : ((d.take m).map (fun x => (⟨x.toArray⟩ : ByteArray))).length = m := by rw [List.length_map, List.length_take]; omega
 have hps : (Go.Sort.putCells Go.Proofs.encStr 0 d.toArray cur).size = cap * 1 := by
  unfold Go.Sort.putCells
  rw [Array.size_mapIdx, hcs, Nat.mul_one]
 refine ⟨⟨fun k hk => ?_, (Go.Sort.putCells Go.Proofs.encStr 0 d.toArray cur).toList.take (m * 1), ⟨?_, .inr ⟨g, cap, _, ?_, hbg, hblk, ?_, hcm, hps, ?_⟩⟩, ?_, ?_⟩, ⟨hsz, fun k hk hn => hoth k hk hn⟩, ⟨rfl, rfl, rfl, hsz, fun k hk => hoth k (Nat.lt_of_lt_of_le hk (Nat.le_trans hbg (Nat.le_of_lt hgl))) (fun e => absurd hbg (Nat.not_le.2 (e ▸ hk)))⟩⟩
 ·have : some g = some k := hk
  exact (Option.some.inj this).symm
 ·show _ = ((d.take m).map (fun x => (⟨x.toArray⟩ : ByteArray))).length * 1
  rw [hlen, List.length_take, Array.length_toList, hps]
  omega
 ·rw [hlen]
 ·rw [hlen]; omega
 ·show List.take (((d.take m).map (fun x => (⟨x.toArray⟩ : ByteArray))).length * 1) _ = _
  rw [hlen]
 ·show _ = ((d.take m).map (fun x => (⟨x.toArray⟩ : ByteArray))).length * 1
  rw [hlen, List.length_take, Array.length_toList, hps]
  omega
 ·intro j p hp
  have hj : j < m := by
   have := (List.getElem?_eq_some_iff.1 hp).1
   rw [hlen] at this
   exact this
  have hjd : j < d.length := by omega
  have e1 : p = ⟨d[j].toArray⟩ := by
   rw [List.getElem?_map, List.getElem?_take, if_pos hj, List.getElem?_eq_getElem hjd] at hp
   exact (Option.some.inj hp).symm
  show (((Go.Sort.putCells Go.Proofs.encStr 0 d.toArray cur).toList.take (m * 1)).drop (j * 1)).take 1 = [Value.string p]
  rw [e1]
  apply List.ext_getElem?
  intro i
  rw [List.getElem?_take]
  by_cases hi : i < 1
  rotate_left
  ·rw [if_neg hi]
   symm
   exact List.getElem?_eq_none (by show 1 ≤ i; omega)

  obtain rfl : i = 0 := by omega
  rw [if_pos hi, List.getElem?_drop, List.getElem?_take, if_pos (by omega), Nat.mul_one, Nat.add_zero, Array.getElem?_toList, hput j hjd]
  rfl
set_option maxHeartbeats 8000000 in
set_option maxRecDepth 100000 in
theorem slices_Sort_string_string.calls (P0_ : Nat → Prop) (u9000_ : Value) (l0 : List ByteArray) (r : List ByteArray) (w0 w : World) (hB : Below w0.heap.size w0 w) (ho0 : Kd.R Kd.string 9 w w0.heap.size P0_ u9000_ l0) (h : slices_Sort_string_string.f l0 = some r) :
  Calls Try.prog 57 #[u9000_] w fun e w' => e = .returned (.tuple #[]) ∧ Kd.R Kd.string 9 w' w0.heap.size (fun k_ => (P0_ k_ ∨ w.heap.size ≤ k_)) u9000_ r ∧ Below w0.heap.size w0 w' ∧ Kept w w' (fun k_ => P0_ k_) := by
 unfold slices_Sort_string_string.f at h
 by_cases c1 : l0.length < 1000000
 rotate_left
 ·rw [if_neg c1] at h
  cases h
 rw [if_pos c1] at h
 obtain rfl := Option.some.inj h
 clear h
 by_cases c2 : l0.length = 0
 ·obtain rfl : l0 = [] := List.eq_nil_of_length_eq_zero c2
  obtain ⟨A, c, rfl⟩ := Kd.R_slice ho0
  refine (Try.slices_Sort_string_none A c w).mono ?_
  rintro e w' ⟨rfl, rfl⟩
  have e0 : ((([] : List ByteArray).map (fun x : ByteArray => x.data.toList)).mergeSort (fun x y => decide (x ≤ y))).map (fun x => (⟨x.toArray⟩ : ByteArray)) = [] := by simp
  rw [e0]
  exact ⟨rfl, Kd.R_mono ho0 (fun _ hk => .inl hk), hB, Kept.refl _ _⟩
 obtain ⟨g, cap, rfl, hPg, hbg, hgl, hnc, hH, hput⟩ := slices_Sort_string_string.rowput ho0 c2
 have hc := Try.slices_Sort_string g 0 cap (l0.map (fun x : ByteArray => x.data.toList)) w hH hgl (by rw [List.length_map]; omega)
 rw [List.length_map] at hc
 refine hc.mono ?_
 rintro e w' ⟨rfl, n, os, rfl⟩
 have hl : ((l0.map (fun x : ByteArray => x.data.toList)).mergeSort (fun x y => decide (x ≤ y))).length = l0.length := by rw [List.length_mergeSort, List.length_map]
 obtain ⟨hr, hk, hb⟩ := hput n os _ l0.length hl (by omega)
 rw [List.take_of_length_le (by omega)] at hr
 exact ⟨rfl, Kd.R_mono hr (fun k hk_ => .inl (hk_ ▸ hPg)), hB.trans hb, ⟨hk.1, fun k hk1 hk2 => hk.2 k hk1 (fun e => hk2 (e ▸ hPg))⟩⟩


/-! ### slices_Compact_string_string: function 58 -/
def slices_Compact_string_string.f (l0 : List ByteArray) : Option (List ByteArray) := if l0.length < 1000000 then some ((Lib.compact (l0.map (fun x => x.data.toList))).map (fun x => (⟨x.toArray⟩ : ByteArray))) else none
theorem slices_Compact_string_string.eta (x : ByteArray) : (⟨x.data.toList.toArray⟩ : ByteArray) = x := by
 cases x
 rfl
/-- A row of texts of one's own, its block written anew. -/
theorem slices_Compact_string_string.rowput {P0 : Nat → Prop} {u : Value} {l0 : List ByteArray} {w0 w : World} (ho0 : Kd.R Kd.string 9 w w0.heap.size P0 u l0) (hne : l0.length ≠ 0) :
  ∃ (g cap : Nat), u = .slice (some ⟨g, 0, none⟩) l0.length cap ∧ P0 g ∧ w0.heap.size ≤ g ∧ g < w.heap.size ∧ l0.length ≤ cap ∧ Go.Sort.Holds Go.Proofs.encStr w g 0 (l0.map (fun x : ByteArray => x.data.toList)).toArray ∧
   ∀ (q : Nat) (os : Array Obj) (d : List (List UInt8)) (m : Nat), d.length = l0.length → m ≤ d.length →
    Kd.R Kd.string 9 (Go.Sort.grow (Go.Sort.putRow Go.Proofs.encStr (Go.Sort.ahead w q) g 0 d.toArray) os) w0.heap.size (fun k_ => k_ = g) (.slice (some ⟨g, 0, none⟩) m cap) ((d.take m).map (fun x => (⟨x.toArray⟩ : ByteArray))) ∧
    Kept w (Go.Sort.grow (Go.Sort.putRow Go.Proofs.encStr (Go.Sort.ahead w q) g 0 d.toArray) os) (fun k_ => k_ = g) ∧
    Below w0.heap.size w (Go.Sort.grow (Go.Sort.putRow Go.Proofs.encStr (Go.Sort.ahead w q) g 0 d.toArray) os) := by
 obtain ⟨h0, inner, ⟨hl, hcase⟩, hrp⟩ := ho0
 rcases hcase with ⟨rfl, hz⟩ | ⟨g, cap, cur, rfl, hbg, hg, hnc, hcm, hcs, htk⟩
 ·exact absurd hz hne
 have hPg : P0 g := h0 g rfl
 change inner.length = l0.length * 1 at hl
 change cur.size = cap * 1 at hcs
 change cur.toList.take (l0.length * 1) = inner at htk
 rw [Nat.mul_one] at hl hcs htk
 have hgl := blk_lt hg
 have hel : ∀ j (hj : j < l0.length), cur[j]? = some (.string l0[j]) := by
  intro j hj
  have e1 : (inner.drop (j * 1)).take 1 = [.string l0[j]] := hrp.2 j _ (List.getElem?_eq_getElem hj)
  have e2 : cur[j]? = inner[j]? := by rw [← htk, List.getElem?_take, if_pos hj, Array.getElem?_toList]
  have e3 : inner[j]? = ((inner.drop (j * 1)).take 1)[0]? := by
   rw [List.getElem?_take, if_pos (by omega), List.getElem?_drop, Nat.mul_one, Nat.add_zero]
  rw [e2, e3, e1]
  rfl
 refine ⟨g, cap, rfl, hPg, hbg, hgl, hnc, ?_, ?_⟩
 ·intro j hj
  have hj2 : j < l0.length := by simpa using hj
  refine ⟨?_, blk_frozen hg _⟩
  rw [Nat.zero_add, blk_cell hg, hel j hj2, getElem!_pos (l0.map (fun x : ByteArray => x.data.toList)).toArray j hj]
  simp only [List.getElem_toArray, List.getElem_map]
 intro q os d m hd hm
 have hblk : (Go.Sort.grow (Go.Sort.putRow Go.Proofs.encStr (Go.Sort.ahead w q) g 0 d.toArray) os).heap[g]? = some (.cells (Go.Sort.putCells Go.Proofs.encStr 0 d.toArray cur) 9 (0, 0)) := by
  show ((w.heap.modify g _) ++ os)[g]? = _
  rw [Array.getElem?_append_left (by simpa using hgl), Array.getElem?_modify, if_pos rfl, hg]
  rfl
 have hoth : ∀ k, k < w.heap.size → k ≠ g → (Go.Sort.grow (Go.Sort.putRow Go.Proofs.encStr (Go.Sort.ahead w q) g 0 d.toArray) os).heap[k]? = w.heap[k]? := by
  intro k hk hn
  show ((w.heap.modify g _) ++ os)[k]? = _
  rw [Array.getElem?_append_left (by simpa using hk), Array.getElem?_modify, if_neg (Ne.symm hn)]
 have hsz : w.heap.size ≤ (Go.Sort.grow (Go.Sort.putRow Go.Proofs.encStr (Go.Sort.ahead w q) g 0 d.toArray) os).heap.size := by
  show w.heap.size ≤ ((w.heap.modify g _) ++ os).size
  simp
 have hput : ∀ j (hj : j < d.length), (Go.Sort.putCells Go.Proofs.encStr 0 d.toArray cur)[j]? = some (.string ⟨d[j].toArray⟩) := by
  intro j hj
  unfold Go.Sort.putCells
  rw [Array.getElem?_mapIdx, Array.getElem?_eq_getElem (show j < cur.size by omega), Option.map_some, if_pos ⟨Nat.zero_le _, by simpa using hj⟩, Nat.sub_zero, getElem!_pos d.toArray j (by simpa using hj)]
  rfl
 have hlen : ((d.take m).map (fun x => (⟨x.toArray⟩ : ByteArray))).length = m := by rw [List.length_map, List.length_take]; omega
 have hps : (Go.Sort.putCells Go.Proofs.encStr 0 d.toArray cur).size = cap * 1 := by
  unfold Go.Sort.putCells
  rw [Array.size_mapIdx, hcs, Nat.mul_one]
 refine ⟨⟨fun k hk => ?_, (Go.Sort.putCells Go.Proofs.encStr 0 d.toArray cur).toList.take (m * 1), ⟨?_, .inr ⟨g, cap, _, ?_, hbg, hblk, ?_, hcm, hps, ?_⟩⟩, ?_, ?_⟩, ⟨hsz, fun k hk hn => hoth k hk hn⟩, ⟨rfl, rfl, rfl, hsz, fun k hk => hoth k (Nat.lt_of_lt_of_le hk (Nat.le_trans hbg (Nat.le_of_lt hgl))) (fun e => absurd hbg (Nat.not_le.2 (e ▸ hk)))⟩⟩
 ·have : some g = some k := hk
  exact (Option.some.inj this).symm
 ·show _ = ((d.take m).map (fun x => (⟨x.toArray⟩ : ByteArray))).length * 1
  rw [hlen, List.length_take, Array.length_toList, hps]
  omega
 ·rw [hlen]
 ·rw [hlen]; omega
 ·show List.take (((d.take m).map (fun x => (⟨x.toArray⟩ : ByteArray))).length * 1) _ = _
  rw [hlen]
 ·show _ = ((d.take m).map (fun x => (⟨x.toArray⟩ : ByteArray))).length * 1
  rw [hlen, List.length_take, Array.length_toList, hps]
  omega
 ·intro j p hp
  have hj : j < m := by
   have := (List.getElem?_eq_some_iff.1 hp).1
   rw [hlen] at this
   exact this
  have hjd : j < d.length := by omega
  have e1 : p = ⟨d[j].toArray⟩ := by
   rw [List.getElem?_map, List.getElem?_take, if_pos hj, List.getElem?_eq_getElem hjd] at hp
   exact (Option.some.inj hp).symm
  show (((Go.Sort.putCells Go.Proofs.encStr 0 d.toArray cur).toList.take (m * 1)).drop (j * 1)).take 1 = [Value.string p]
  rw [e1]
  apply List.ext_getElem?
  intro i
  rw [List.getElem?_take]
  by_cases hi : i < 1
  rotate_left
  ·rw [if_neg hi]
   symm
   exact List.getElem?_eq_none (by show 1 ≤ i; omega)

  obtain rfl : i = 0 := by omega
  rw [if_pos hi, List.getElem?_drop, List.getElem?_take, if_pos (by omega), Nat.mul_one, Nat.add_zero, Array.getElem?_toList, hput j hjd]
  rfl
set_option maxHeartbeats 8000000 in
set_option maxRecDepth 100000 in
theorem slices_Compact_string_string.calls (P0_ : Nat → Prop) (u : Value) (l0 : List ByteArray) (r : List ByteArray) (w0 w : World) (hB : Below w0.heap.size w0 w) (ho0 : Kd.R Kd.string 9 w w0.heap.size P0_ u l0) (h : slices_Compact_string_string.f l0 = some r) :
  Calls Try.prog 58 #[u] w fun e w' => ∃ v : Value, e = .returned v ∧ v.ownBlock = u.ownBlock ∧ Kd.R Kd.string 9 w' w0.heap.size P0_ v r ∧ Below w0.heap.size w0 w' ∧ Kept w w' P0_ := by
 unfold slices_Compact_string_string.f at h
 by_cases c1 : l0.length < 1000000
 rotate_left
 ·rw [if_neg c1] at h
  cases h
 rw [if_pos c1] at h
 obtain rfl := Option.some.inj h
 clear h
 by_cases c2 : l0.length = 0
 ·obtain rfl : l0 = [] := List.eq_nil_of_length_eq_zero c2
  obtain ⟨A, c, rfl⟩ := Kd.R_slice ho0
  refine (Try.slices_Compact_string_empty A c w).mono ?_
  rintro e w' ⟨rfl, rfl⟩
  have e0 : (Lib.compact (([] : List ByteArray).map (fun x : ByteArray => x.data.toList))).map (fun x => (⟨x.toArray⟩ : ByteArray)) = [] := by rfl
  rw [e0]
  exact ⟨_, rfl, rfl, ho0, hB, Kept.refl _ _⟩
 obtain ⟨g, cap, rfl, hPg, hbg, hgl, hnc, hH, hput⟩ := slices_Compact_string_string.rowput ho0 c2
 have hle := Lib.compact_length_le (l0.map (fun x : ByteArray => x.data.toList))
 have hc := Try.slices_Compact_string g 0 cap (l0.map (fun x : ByteArray => x.data.toList)) w hH (by rw [List.length_map]; omega) (by rw [List.length_map]; exact hnc)
 rw [List.length_map] at hc hle
 refine hc.mono ?_
 rintro e w' ⟨rfl, n, rfl⟩
 have hl : (Lib.compact (l0.map (fun x : ByteArray => x.data.toList)) ++ List.replicate (l0.length - (Lib.compact (l0.map (fun x : ByteArray => x.data.toList))).length) []).length = l0.length := by rw [List.length_append, List.length_replicate]; omega
 obtain ⟨hr, hk, hb⟩ := hput n #[] _ (Lib.compact (l0.map (fun x : ByteArray => x.data.toList))).length hl (by rw [hl]; exact hle)
 rw [List.take_left' rfl] at hr
 have eg : ∀ X : World, Go.Sort.grow X #[] = X := fun X => by
  unfold Go.Sort.grow
  rw [Array.append_empty]
 rw [eg] at hr hk hb
 refine ⟨_, rfl, rfl, ?_, hB.trans hb, ⟨hk.1, fun k hk1 hk2 => hk.2 k hk1 (fun e => hk2 (e ▸ hPg))⟩⟩
 have hm := Kd.R_mono (ok' := P0_) hr (fun k hk_ => hk_ ▸ hPg)
 exact hm


/-! ### impl_DocLine_106: function 106 -/
def impl_DocLine_106.p (a : ByteArray) (x : S102) : Bool := x.f0.toList == a.toList
def impl_DocLine_106.f (l0 : List S102) (a1 : ByteArray) : Option Int := some (idxV (impl_DocLine_106.p a1) l0)
theorem impl_DocLine_106.lit (a : ByteArray) (x : S102) (B1 : Nat) (W : World) (hbx : W.heap[B1]? = some (.cells #[.string a] 9 (0, 0))) :
  Calls Try.prog 107 #[.agg #[.string x.f0, .int .i64 x.f1, .int .i64 x.f2], .pointer (some ⟨B1, 0, none⟩)] W fun e w' => e = .returned (.bool (impl_DocLine_106.p a x)) ∧ Below W.heap.size W w' := by
 have hu := Try.underlying102
 have HB := Aside0.mk (Below.refl W.heap.size W)
 have hlt := blk_lt hbx
 have h0 : W.cell? ⟨B1, 0, none⟩ = some (.string a) := (blk_cell hbx 0).trans rfl
 clear hbx
 unfold impl_DocLine_106.p
 go_enter Try.func107, Try.ntmps107
 go_wp2
 go_ret
 exact ⟨rfl, by repeat (first | exact HB.out | apply below_alloc | apply pw_below_drewN | apply below_drew1)⟩

theorem impl_DocLine_106.idx (p : S102 → Bool) (w : World) (B1 : Nat) (A0 : Option Addr) (c0 : Nat) (l0 : List S102) (hr0 : Kd.C k102 w A0 l0.length l0)
  (hg : ∀ (x : S102) (W : World), Below w.heap.size w W → Calls Try.prog 107 #[.agg #[.string x.f0, .int .i64 x.f1, .int .i64 x.f2], .pointer (some ⟨B1, 0, none⟩)] W fun e w' => e = .returned (.bool (p x)) ∧ Below w.heap.size w w') :
  Calls Try.prog 106 #[.slice A0 l0.length c0, .func (.func 107) #[] #[.pointer (some ⟨B1, 0, none⟩)]] w fun e w' => e = .returned (.int .i64 (idxV p l0)) ∧ Below w.heap.size w w' := by
 have hlen : l0.length ≤ 9223372036854775807 := hr0.2.1
 have HR0 := Aside0.mk hr0
 have HG := Aside0.mk hg
 clear hr0 hg
 go_enter Try.func106, Try.ntmps106
 go_wp2
 go_loopg [5, 8] l0.length (fun gg _ s8 wr => ∃ kk : Nat, kk ≤ l0.length ∧ l0.length - kk ≤ gg ∧ s8 = .int .i64 kk ∧ Aside0 (Below w.heap.size w wr) ∧ Aside0 (∀ j, j < kk → p (l0.getD j z102) = false))
 case atStart => exact ⟨0, Nat.zero_le _, by omega, rfl, ⟨Below.refl _ w⟩, ⟨fun j hj => absurd hj (Nat.not_lt_zero _)⟩⟩
 case round =>
  obtain ⟨kk, hkk, hgg, rfl, BW, AN⟩ := hrel
  by_cases hlt : kk < l0.length
  rotate_left
  ·have hltz : ¬ (kk : Int) < (l0.length : Int) := by omega
   have hk : kk = l0.length := by omega
   subst hk
   go_wp2
   go_ret
   exact ⟨by rw [idxV_miss p l0 z102 AN.out]; rfl, BW.out⟩

  have hltz : (kk : Int) < (l0.length : Int) := by omega
  obtain ⟨ad, e0, hx0, hx1, hx2⟩ := at_T102 (Kd.C_below HR0.out BW.out) kk (by omega) (by omega)
  cases e0
  simp only [Int.toNat_natCast] at hx0 hx1 hx2
  have hcall := HG.out (rd_T102 l0 kk) wr BW.out
  have HY : Aside0 (rd_T102 l0 kk = l0.getD kk z102) := ⟨by simp [rd_T102]⟩
  generalize hy : rd_T102 l0 kk = y at hcall hx0 hx1 hx2 HY
  clear hy
  cases hq : p y with
  | true =>
   rw [hq] at hcall
   go_wp2_with (go_at_call 107; refine hcall.mono ?_; rintro e w' ⟨rfl, hb'⟩)
   go_ret
   exact ⟨by rw [idxV_hit p l0 z102 kk hlt (by rw [← HY.out]; exact hq) AN.out]; rfl, hb'⟩
  | false =>
   rw [hq] at hcall
   go_wp2_with (go_at_call 107; refine hcall.mono ?_; rintro e w' ⟨rfl, hb'⟩)
   go_roundg (l0.length - (kk + 1))
   case measure => omega
   case rel =>
    refine ⟨kk + 1, by omega, by omega, by go_num, ⟨hb'⟩, ⟨fun j hj => ?_⟩⟩
    by_cases e : j = kk
    rotate_left
    ·exact AN.out j (by omega)
    subst e
    rw [← HY.out]; exact hq
set_option maxHeartbeats 8000000 in
set_option maxRecDepth 100000 in
theorem impl_DocLine_106.calls (A0 : Option Addr) (c0 : Nat) (l0 : List (S102)) (a1 : ByteArray) (r : Int) (G_ : Nat) (w : World) (hr0 : Kd.C k102 w A0 l0.length l0) (hc0 : l0.length ≤ c0) (hbx : w.heap[G_]? = some (.cells #[.string a1] 9 (0, 0))) (h : impl_DocLine_106.f l0 a1 = some r) :
  Calls Try.prog 106 #[.slice A0 l0.length c0, .func (.func 107) #[] #[.pointer (some ⟨G_, 0, none⟩)]] w fun e w' => e = .returned (.int .i64 r) ∧ Below w.heap.size w w' := by
 obtain rfl := Option.some.inj h
 clear h
 have HB := Aside0.mk hbx
 clear hbx
 refine (impl_DocLine_106.idx (impl_DocLine_106.p a1) w G_ A0 c0 l0 hr0 ?_).mono fun e w' ⟨he, hb⟩ => ⟨he, hb⟩
 intro x W hb
 exact (impl_DocLine_106.lit a1 x G_ W ((hb.block G_ (blk_lt HB.out)).trans HB.out)).mono fun e w' ⟨he, hd⟩ => ⟨he, hb.trans (hd.mono hb.size)⟩


-- NOT PRINTED: function 107 (impl_docAt_1)

/-! ### impl_docAt: function 84 -/
def impl_docAt.f (l0 : List (S102)) (a1 : ByteArray) : Option (ByteArray × Int × Int × Bool) := (impl_DocLine_106.f l0 a1).bind fun t186 => (if t186 < 0 then (some ((⟨#[]⟩ : ByteArray), 0, 0, false)) else (if 0 ≤ t186 then (if t186 < (l0.length : Int) then (some ((rd_T102 l0 t186).f0, (rd_T102 l0 t186).f1, (rd_T102 l0 t186).f2, true)) else (none)) else (none)))
set_option maxHeartbeats 8000000 in
set_option maxRecDepth 100000 in
theorem impl_docAt.calls (A0 : Option Addr) (c0 : Nat) (l0 : List (S102)) (a1 : ByteArray) (r1 : ByteArray) (r2 : Int) (r3 : Int) (r4 : Bool) (w : World) (hr0 : Kd.C k102 w A0 l0.length l0) (hc0 : l0.length ≤ c0) (h : impl_docAt.f l0 a1 = some (r1, r2, r3, r4)) :
  Calls Try.prog 84 #[.slice A0 l0.length c0, .string a1] w fun e w' => e = .returned (.tuple #[.agg #[.string r1, .int .i64 r2, .int .i64 r3], .bool r4]) ∧ Below w.heap.size w w' := by
 have hu102 := Try.underlying102
 have HR0 := Aside0.mk hr0
 have HC0 := Aside0.mk hc0
 clear hr0 hc0
 have HB := Aside0.mk (Below.refl w.heap.size w)
 have H : ((impl_DocLine_106.f l0 a1).bind fun t186 => (if t186 < 0 then (some ((⟨#[]⟩ : ByteArray), 0, 0, false)) else (if 0 ≤ t186 then (if t186 < (l0.length : Int) then (some ((rd_T102 l0 t186).f0, (rd_T102 l0 t186).f1, (rd_T102 l0 t186).f2, true)) else (none)) else (none)))) = some (r1, r2, r3, r4) := h
 clear h
 replace H := Option.bind_eq_some_iff.mp H
 obtain ⟨t186, A30, H⟩ := H
 replace H : (if t186 < 0 then (some ((⟨#[]⟩ : ByteArray), 0, 0, false)) else (if 0 ≤ t186 then (if t186 < (l0.length : Int) then (some ((rd_T102 l0 t186).f0, (rd_T102 l0 t186).f1, (rd_T102 l0 t186).f2, true)) else (none)) else (none))) = some (r1, r2, r3, r4) := H
 have A3 := Aside0.mk A30
 clear A30
 by_cases c4 : t186 < 0
 ·rw [if_pos c4] at H
  have c4b0 : decide (t186 < 0) = true := decide_eq_true c4
  clear c4
  simp only [Option.some.injEq, Prod.mk.injEq] at H
  obtain ⟨rfl, rfl, rfl, rfl⟩ := H
  go_enter Try.func84, Try.ntmps84
  go_wp2_with (first | ((with_reducible refine gate_dst (N := 3) rfl ?_); refine box_event ?hg (N := 3) ?hd (cs := #[.string a1]) (t := 9) ?hr ?_; (case hd => rfl); (case hg => rfl); (case hr => first | (go_simp; done) | (go_simp; rfl)); intro gb3 hg wbx hbox hb; have n0_ := Aside0.mk (below_step HB.out hb); have BX := Aside0.mk hbox; clear HB; have HB := n0_; clear n0_; clear hb hbox hg) | ((with_reducible refine gate_dst (N := 4) rfl ?_); refine box_event ?hg (N := 4) ?hd (cs := #[.string (⟨#[]⟩ : ByteArray), .int .i64 0, .int .i64 0]) (t := 102) ?hr ?_; (case hd => rfl); (case hg => rfl); (case hr => first | (go_simp; done) | (go_simp; rfl)); intro gb185 hg w5 hbox hb; have n_BX := Aside0.mk (blk_below (g := gb3) (o := .cells #[.string a1] 9 (0, 0)) BX.out hb); clear BX; have BX := n_BX; clear n_BX; have n0_ := Aside0.mk (below_step bl_ hb); have n1_ := Aside0.mk (hbox); have n2_ := Aside0.mk ((by rw [hg]; exact (below_size bl_) : w.heap.size ≤ gb185)); have n3_ := Aside0.mk ((by rw [hg]; exact (below_size bl_) : w.heap.size ≤ gb185)); clear HB; have HB := n0_; have BK185 := n1_; have GW185 := n2_; have GE185 := n3_; clear n0_ n1_ n2_ n3_; clear hb hbox hg) | ((with_reducible refine gate_callee (f := 106) rfl ?_); refine goesL_ (some 9) rfl rfl Try.func106 (by kernel_rfl) rfl #[.slice A0 l0.length c0, .func (.func 107) #[] #[.pointer (some ⟨gb3, 0, none⟩)]] rfl (by (try simp only [List.map_toArray, List.map_cons, List.map_nil]); first | done | rfl | (simp only [List.length_drop, List.length_take]; rfl)) ?_; (with_reducible refine (impl_DocLine_106.calls _ _ l0 a1 t186 gb3 _ ?side1 ?side2 ?side3 A3.out).mono ?_); (case side1 => repeat (first | exact (Kd.C_below HR0.out HB.out) | (with_reducible refine Kd.C_alloc ?_ _) | (with_reducible refine Kd.C_drewN ?_ _) | (with_reducible refine Kd.C_drew ?_))); (case side2 => exact HC0.out); (case side3 => exact (by (with_reducible repeat (first | refine blk_drewN ?_ _ | refine blk_drew ?_ | refine blk_alloc ?_ _)); exact BX.out)); rintro e w6 ⟨rfl, hb⟩; refine ⟨_, rfl, ?_⟩; have n0_ := Aside0.mk (blk_below (g := gb185) (o := .cells #[.string (⟨#[]⟩ : ByteArray), .int .i64 0, .int .i64 0] 102 (0, 0)) bk_ hb); have n1_ := Aside0.mk (below_step bl_ hb); clear BK185; clear HB; have BK185 := n0_; have HB := n1_; clear n0_ n1_; (try clear hb); (try clear hb2); (try clear hk); (try clear hi); have hcz7_0 : w6.cell? ⟨gb185, 0, none⟩ = some (.string (⟨#[]⟩ : ByteArray)) := (blk_cell BK185.out 0).trans rfl; have hcz7_1 : w6.cell? ⟨gb185, 1, none⟩ = some (.int .i64 0) := (blk_cell BK185.out 1).trans rfl; have hcz7_2 : w6.cell? ⟨gb185, 2, none⟩ = some (.int .i64 0) := (blk_cell BK185.out 2).trans rfl; have hfz7_0 := blk_frozen BK185.out 0; have hfz7_1 := blk_frozen BK185.out 1; have hfz7_2 := blk_frozen BK185.out 2))
  refine bodyPost_ret (results_ct rfl _ _ gb185 102 #[.string (⟨#[]⟩ : ByteArray), .int .i64 0, .int .i64 0] (0, 0) _ rfl (by (with_reducible repeat (first | refine blk_drewN ?_ _ | refine blk_drew ?_ | refine blk_alloc ?_ _)); refine blk_put (cs := #[.string (⟨#[]⟩ : ByteArray), .int .i64 0, .int .i64 0]) ?_ 2 _ rfl; (with_reducible repeat (first | refine blk_drewN ?_ _ | refine blk_drew ?_ | refine blk_alloc ?_ _)); refine blk_put (cs := #[.string (⟨#[]⟩ : ByteArray), .int .i64 0, .int .i64 0]) ?_ 1 _ rfl; (with_reducible repeat (first | refine blk_drewN ?_ _ | refine blk_drew ?_ | refine blk_alloc ?_ _)); refine blk_put (cs := #[.string (⟨#[]⟩ : ByteArray), .int .i64 0, .int .i64 0]) ?_ 0 _ rfl; (with_reducible repeat (first | refine blk_drewN ?_ _ | refine blk_drew ?_ | refine blk_alloc ?_ _)); exact BK185.out) Try.underlying102 rfl (by kernel_rfl)) rfl ?_
  exact ⟨by first | rfl | (simp [errW_none, errW_some] <;> rfl) | (simp [*, errW_none, errW_some] <;> rfl), by repeat (first | (with_reducible first | exact HB.out | apply below_alloc | apply pw_below_drewN | apply below_drew1 | refine below_set ?_ GE185.out) | exact HB.out)⟩
 rw [if_neg c4] at H
 have c4b0 : decide (t186 < 0) = false := decide_eq_false c4
 clear c4
 by_cases c8 : 0 ≤ t186
 rotate_left
 ·rw [if_neg c8] at H
  exact absurd H (by simp)

 rw [if_pos c8] at H
 have c8b0 : decide (0 ≤ t186) = true := decide_eq_true c8
 clear c8
 by_cases c9 : t186 < (l0.length : Int)
 rotate_left
 ·rw [if_neg c9] at H
  exact absurd H (by simp)
 rw [if_pos c9] at H
 have c9b0 : decide (t186 < (l0.length : Int)) = true := decide_eq_true c9
 clear c9
 simp only [Option.some.injEq, Prod.mk.injEq] at H
 obtain ⟨rfl, rfl, rfl, rfl⟩ := H
 go_enter Try.func84, Try.ntmps84
 go_wp2_with (first | ((with_reducible refine gate_dst (N := 3) rfl ?_); refine box_event ?hg (N := 3) ?hd (cs := #[.string a1]) (t := 9) ?hr ?_; (case hd => rfl); (case hg => rfl); (case hr => first | (go_simp; done) | (go_simp; rfl)); intro gb3 hg wbx hbox hb; have n0_ := Aside0.mk (below_step HB.out hb); have BX := Aside0.mk hbox; clear HB; have HB := n0_; clear n0_; clear hb hbox hg) | ((with_reducible refine gate_dst (N := 4) rfl ?_); refine box_event ?hg (N := 4) ?hd (cs := #[.string (⟨#[]⟩ : ByteArray), .int .i64 0, .int .i64 0]) (t := 102) ?hr ?_; (case hd => rfl); (case hg => rfl); (case hr => first | (go_simp; done) | (go_simp; rfl)); intro gb185 hg w10 hbox hb; have n_BX := Aside0.mk (blk_below (g := gb3) (o := .cells #[.string a1] 9 (0, 0)) BX.out hb); clear BX; have BX := n_BX; clear n_BX; have n0_ := Aside0.mk (below_step bl_ hb); have n1_ := Aside0.mk (hbox); have n2_ := Aside0.mk ((by rw [hg]; exact (below_size bl_) : w.heap.size ≤ gb185)); have n3_ := Aside0.mk ((by rw [hg]; exact (below_size bl_) : w.heap.size ≤ gb185)); clear HB; have HB := n0_; have BK185 := n1_; have GW185 := n2_; have GE185 := n3_; clear n0_ n1_ n2_ n3_; clear hb hbox hg) | ((with_reducible refine gate_callee (f := 106) rfl ?_); refine goesL_ (some 9) rfl rfl Try.func106 (by kernel_rfl) rfl #[.slice A0 l0.length c0, .func (.func 107) #[] #[.pointer (some ⟨gb3, 0, none⟩)]] rfl (by (try simp only [List.map_toArray, List.map_cons, List.map_nil]); first | done | rfl | (simp only [List.length_drop, List.length_take]; rfl)) ?_; (with_reducible refine (impl_DocLine_106.calls _ _ l0 a1 t186 gb3 _ ?side1 ?side2 ?side3 A3.out).mono ?_); (case side1 => repeat (first | exact (Kd.C_below HR0.out HB.out) | (with_reducible refine Kd.C_alloc ?_ _) | (with_reducible refine Kd.C_drewN ?_ _) | (with_reducible refine Kd.C_drew ?_))); (case side2 => exact HC0.out); (case side3 => exact (by (with_reducible repeat (first | refine blk_drewN ?_ _ | refine blk_drew ?_ | refine blk_alloc ?_ _)); exact BX.out)); rintro e w11 ⟨rfl, hb⟩; refine ⟨_, rfl, ?_⟩; have n0_ := Aside0.mk (blk_below (g := gb185) (o := .cells #[.string (⟨#[]⟩ : ByteArray), .int .i64 0, .int .i64 0] 102 (0, 0)) bk_ hb); have n1_ := Aside0.mk (below_step bl_ hb); clear BK185; clear HB; have BK185 := n0_; have HB := n1_; clear n0_ n1_; (try clear hb); (try clear hb2); (try clear hk); (try clear hi); have p187 : 0 ≤ (t186 : Int) := od_; have q187 : t186 < (l0.length : Int) := od_; obtain ⟨ad187, e187, hx187_0, hx187_1, hx187_2⟩ := at_T102 HR0.out t186 p187 q187; cases e187; replace hx187_0 := (HB.out.cell (World.block_lt_of_cell? w _ hx187_0)).trans hx187_0; replace hx187_1 := (HB.out.cell (World.block_lt_of_cell? w _ hx187_1)).trans hx187_1; replace hx187_2 := (HB.out.cell (World.block_lt_of_cell? w _ hx187_2)).trans hx187_2; replace p187 := eq_true p187; replace q187 := eq_true q187; have hcz12_0 : w11.cell? ⟨gb185, 0, none⟩ = some (.string (⟨#[]⟩ : ByteArray)) := (blk_cell BK185.out 0).trans rfl; have hcz12_1 : w11.cell? ⟨gb185, 1, none⟩ = some (.int .i64 0) := (blk_cell BK185.out 1).trans rfl; have hcz12_2 : w11.cell? ⟨gb185, 2, none⟩ = some (.int .i64 0) := (blk_cell BK185.out 2).trans rfl; have hfz12_0 := blk_frozen BK185.out 0; have hfz12_1 := blk_frozen BK185.out 1; have hfz12_2 := blk_frozen BK185.out 2))
 refine bodyPost_ret (results_ct rfl _ _ gb185 102 #[.string ((rd_T102 l0 t186).f0), .int .i64 ((rd_T102 l0 t186).f1), .int .i64 ((rd_T102 l0 t186).f2)] (0, 0) _ rfl (by (with_reducible repeat (first | refine blk_drewN ?_ _ | refine blk_drew ?_ | refine blk_alloc ?_ _)); refine blk_put (cs := #[.string ((rd_T102 l0 t186).f0), .int .i64 ((rd_T102 l0 t186).f1), .int .i64 0]) ?_ 2 _ rfl; (with_reducible repeat (first | refine blk_drewN ?_ _ | refine blk_drew ?_ | refine blk_alloc ?_ _)); refine blk_put (cs := #[.string ((rd_T102 l0 t186).f0), .int .i64 0, .int .i64 0]) ?_ 1 _ rfl; (with_reducible repeat (first | refine blk_drewN ?_ _ | refine blk_drew ?_ | refine blk_alloc ?_ _)); refine blk_put (cs := #[.string (⟨#[]⟩ : ByteArray), .int .i64 0, .int .i64 0]) ?_ 0 _ rfl; (with_reducible repeat (first | refine blk_drewN ?_ _ | refine blk_drew ?_ | refine blk_alloc ?_ _)); exact BK185.out) Try.underlying102 rfl (by kernel_rfl)) rfl ?_
 exact ⟨by first | rfl | (simp [errW_none, errW_some] <;> rfl) | (simp [*, errW_none, errW_some] <;> rfl), by repeat (first | (with_reducible first | exact HB.out | apply below_alloc | apply pw_below_drewN | apply below_drew1 | refine below_set ?_ GE185.out) | exact HB.out)⟩
/-! ### impl_verdictOf: function 59 -/
def impl_verdictOf.j0 : Nat → Bool → ByteArray → Int → Int → ByteArray → Int → Int → Option (Int)
 | 0, _, _, _, _, _, _, _ => none
 | k + 1, x39, x193000, x193001, x193002, x203000, x203001, x203002 => if x39 = true then (some 19) else (if x203001 > x193001 then (some 9) else (if (wrap64 (x203002 * x193001)) > (wrap64 (x193002 * x203001)) then (some 11) else (some 0)))
def impl_verdictOf.f (k : Nat) (l0 : List (S102)) (l1 : List (S102)) (l2 : List (S102)) (a3 : ByteArray) : Option (Int) := (impl_docAt.f l0 a3).bind fun bt188 => ((impl_docAt.f l1 a3).bind fun bt193 => ((impl_docAt.f l2 a3).bind fun bt198 => (if bt188.2.2.2 = true then (if bt198.2.2.2 = true then (if bt193.2.2.2 = true then (impl_verdictOf.j0 k (decide (bt193.2.1 < bt198.2.1)) bt188.1 bt188.2.1 bt188.2.2.1 bt198.1 bt198.2.1 bt198.2.2.1) else (impl_verdictOf.j0 k true bt188.1 bt188.2.1 bt188.2.2.1 bt198.1 bt198.2.1 bt198.2.2.1)) else (some 18)) else (some 8))))
theorem impl_verdictOf.mono_l : ∀ k, (∀ y0 y1 y2 y3 y4 y5 y6, LeO (impl_verdictOf.j0 k y0 y1 y2 y3 y4 y5 y6) (impl_verdictOf.j0 (k + 1) y0 y1 y2 y3 y4 y5 y6))
 | 0 => fun _ _ _ _ _ _ _ r h => by simp [impl_verdictOf.j0] at h
 | k + 1 => by
  have ih0 := impl_verdictOf.mono_l k
  ·intro y0 y1 y2 y3 y4 y5 y6
   unfold impl_verdictOf.j0
   repeat' first
   | (with_reducible exact ih0 _ _ _ _ _ _ _)
   | (with_reducible exact LeO.refl _)
   | (with_reducible exact LeO.none _)
   | (with_reducible refine LeO.ite ?_ ?_)
   | (with_reducible refine LeO.bind ?_ (fun _ => ?_))
   | exact ih0 _ _ _ _ _ _ _
   | exact LeO.none _
   | refine LeO.ite ?_ ?_
   | refine LeO.bind ?_ (fun _ => ?_)
theorem impl_verdictOf.mono : ∀ a0 a1 a2 a3 k, LeO (impl_verdictOf.f k a0 a1 a2 a3) (impl_verdictOf.f (k + 1) a0 a1 a2 a3) := by
 intro a0 a1 a2 a3 k
 have ih0 := impl_verdictOf.mono_l k
 unfold impl_verdictOf.f
 repeat' first
   | (with_reducible exact ih0 _ _ _ _ _ _ _)
   | (with_reducible exact LeO.refl _)
   | (with_reducible exact LeO.none _)
   | (with_reducible refine LeO.ite ?_ ?_)
   | (with_reducible refine LeO.bind ?_ (fun _ => ?_))
   | exact ih0 _ _ _ _ _ _ _
   | exact LeO.none _
   | refine LeO.ite ?_ ?_
   | refine LeO.bind ?_ (fun _ => ?_)
set_option maxHeartbeats 8000000 in
set_option maxRecDepth 100000 in
theorem impl_verdictOf.calls (k : Nat) (A0 : Option Addr) (c0 : Nat) (l0 : List (S102)) (A1 : Option Addr) (c1 : Nat) (l1 : List (S102)) (A2 : Option Addr) (c2 : Nat) (l2 : List (S102)) (a3 : ByteArray) (r : Int) (w : World) (hr0 : Kd.C k102 w A0 l0.length l0) (hc0 : l0.length ≤ c0) (hr1 : Kd.C k102 w A1 l1.length l1) (hc1 : l1.length ≤ c1) (hr2 : Kd.C k102 w A2 l2.length l2) (hc2 : l2.length ≤ c2) (h : impl_verdictOf.f k l0 l1 l2 a3 = some r) :
  Calls Try.prog 59 #[.slice A0 l0.length c0, .slice A1 l1.length c1, .slice A2 l2.length c2, .string a3] w fun e w' => e = .returned (.int .i64 r) ∧ Below w.heap.size w w' := by
 have hu102 := Try.underlying102
 have HR0 := Aside0.mk hr0
 have HC0 := Aside0.mk hc0
 clear hr0 hc0
 have HR1 := Aside0.mk hr1
 have HC1 := Aside0.mk hc1
 clear hr1 hc1
 have HR2 := Aside0.mk hr2
 have HC2 := Aside0.mk hc2
 clear hr2 hc2
 have HB := Aside0.mk (Below.refl w.heap.size w)
 have H : ((impl_docAt.f l0 a3).bind fun bt188 => ((impl_docAt.f l1 a3).bind fun bt193 => ((impl_docAt.f l2 a3).bind fun bt198 => (if bt188.2.2.2 = true then (if bt198.2.2.2 = true then (if bt193.2.2.2 = true then (impl_verdictOf.j0 k (decide (bt193.2.1 < bt198.2.1)) bt188.1 bt188.2.1 bt188.2.2.1 bt198.1 bt198.2.1 bt198.2.2.1) else (impl_verdictOf.j0 k true bt188.1 bt188.2.1 bt188.2.2.1 bt198.1 bt198.2.1 bt198.2.2.1)) else (some 18)) else (some 8))))) = some r := h
 clear h
 replace H := Option.bind_eq_some_iff.mp H
 obtain ⟨⟨t188, t189, t190, t191⟩, A50, H⟩ := H
 replace H : ((impl_docAt.f l1 a3).bind fun bt193 => ((impl_docAt.f l2 a3).bind fun bt198 => (if t191 = true then (if bt198.2.2.2 = true then (if bt193.2.2.2 = true then (impl_verdictOf.j0 k (decide (bt193.2.1 < bt198.2.1)) t188 t189 t190 bt198.1 bt198.2.1 bt198.2.2.1) else (impl_verdictOf.j0 k true t188 t189 t190 bt198.1 bt198.2.1 bt198.2.2.1)) else (some 18)) else (some 8)))) = some r := H
 have A5 := Aside0.mk A50
 clear A50
 replace H := Option.bind_eq_some_iff.mp H
 obtain ⟨⟨t193, t194, t195, t196⟩, A60, H⟩ := H
 replace H : ((impl_docAt.f l2 a3).bind fun bt198 => (if t191 = true then (if bt198.2.2.2 = true then (if t196 = true then (impl_verdictOf.j0 k (decide (t194 < bt198.2.1)) t188 t189 t190 bt198.1 bt198.2.1 bt198.2.2.1) else (impl_verdictOf.j0 k true t188 t189 t190 bt198.1 bt198.2.1 bt198.2.2.1)) else (some 18)) else (some 8))) = some r := H
 have A6 := Aside0.mk A60
 clear A60
 replace H := Option.bind_eq_some_iff.mp H
 obtain ⟨⟨t198, t199, t200, t201⟩, A70, H⟩ := H
 replace H : (if t191 = true then (if t201 = true then (if t196 = true then (impl_verdictOf.j0 k (decide (t194 < t199)) t188 t189 t190 t198 t199 t200) else (impl_verdictOf.j0 k true t188 t189 t190 t198 t199 t200)) else (some 18)) else (some 8)) = some r := H
 have A7 := Aside0.mk A70
 clear A70
 by_cases c8 : t191 = true
 rotate_left
 ·replace c8 := Bool.eq_false_iff.mpr c8
  subst c8
  have H1 : (some 8) = some r := by rw [if_neg (show ¬ (false = true) by decide)] at H; exact H
  clear H
  have H := H1
  clear H1
  obtain rfl := Option.some.inj H
  go_enter Try.func59, Try.ntmps59
  go_wp2_with (first | ((with_reducible refine gate_callee (f := 84) rfl ?_); refine goesL_ (some 18) rfl rfl Try.func84 (by kernel_rfl) rfl #[.slice A0 l0.length c0, .string a3] rfl (by (try simp only [List.map_toArray, List.map_cons, List.map_nil]); first | done | rfl | (simp only [List.length_drop, List.length_take]; rfl)) ?_; (with_reducible refine (impl_docAt.calls _ _ l0 a3 t188 t189 t190 false _ ?side1 ?side2 A5.out).mono ?_); (case side1 => repeat (first | exact HR0.out | (with_reducible refine Kd.C_alloc ?_ _) | (with_reducible refine Kd.C_drewN ?_ _) | (with_reducible refine Kd.C_drew ?_))); (case side2 => exact HC0.out); rintro e w59 ⟨rfl, hb⟩; refine ⟨_, rfl, ?_⟩; have n0_ := Aside0.mk (below_step bl_ hb); clear HB; have HB := n0_; clear n0_; (try clear hb); (try clear hb2); (try clear hk); (try clear hi)) | ((with_reducible refine gate_dst (N := 9) rfl ?_); refine box_event ?hg (N := 9) ?hd (cs := #[.string (⟨#[]⟩ : ByteArray), .int .i64 0, .int .i64 0]) (t := 102) ?hr ?_; (case hd => rfl); (case hg => rfl); (case hr => first | (go_simp; done) | (go_simp; rfl)); intro gb192 hg w60 hbox hb; have n0_ := Aside0.mk (below_step bl_ hb); have n1_ := Aside0.mk (hbox); have n2_ := Aside0.mk ((by rw [hg]; exact (below_size bl_) : w.heap.size ≤ gb192)); have n3_ := Aside0.mk ((by rw [hg]; exact (below_size bl_) : w.heap.size ≤ gb192)); clear HB; have HB := n0_; have BK192 := n1_; have GW192 := n2_; have GE192 := n3_; clear n0_ n1_ n2_ n3_; clear hb hbox hg; have hcz61_0 : w60.cell? ⟨gb192, 0, none⟩ = some (.string (⟨#[]⟩ : ByteArray)) := (blk_cell BK192.out 0).trans rfl; have hcz61_1 : w60.cell? ⟨gb192, 1, none⟩ = some (.int .i64 0) := (blk_cell BK192.out 1).trans rfl; have hcz61_2 : w60.cell? ⟨gb192, 2, none⟩ = some (.int .i64 0) := (blk_cell BK192.out 2).trans rfl; have hfz61_0 := blk_frozen BK192.out 0; have hfz61_1 := blk_frozen BK192.out 1; have hfz61_2 := blk_frozen BK192.out 2) | ((with_reducible refine gate_callee (f := 84) rfl ?_); refine goesL_ (some 24) rfl rfl Try.func84 (by kernel_rfl) rfl #[.slice A1 l1.length c1, .string a3] rfl (by (try simp only [List.map_toArray, List.map_cons, List.map_nil]); first | done | rfl | (simp only [List.length_drop, List.length_take]; rfl)) ?_; (with_reducible refine (impl_docAt.calls _ _ l1 a3 t193 t194 t195 t196 _ ?side1 ?side2 A6.out).mono ?_); (case side1 => exact Kd.C_below HR1.out bl_); (case side2 => exact HC1.out); rintro e w62 ⟨rfl, hb⟩; refine ⟨_, rfl, ?_⟩; have n0_ := Aside0.mk (blk_below (g := gb192) (o := .cells #[.string t188, .int .i64 t189, .int .i64 t190] 102 (0, 0)) (by (with_reducible repeat (first | refine blk_drewN ?_ _ | refine blk_drew ?_ | refine blk_alloc ?_ _)); refine blk_put (cs := #[.string t188, .int .i64 t189, .int .i64 0]) ?_ 2 _ rfl; (with_reducible repeat (first | refine blk_drewN ?_ _ | refine blk_drew ?_ | refine blk_alloc ?_ _)); refine blk_put (cs := #[.string t188, .int .i64 0, .int .i64 0]) ?_ 1 _ rfl; (with_reducible repeat (first | refine blk_drewN ?_ _ | refine blk_drew ?_ | refine blk_alloc ?_ _)); refine blk_put (cs := #[.string (⟨#[]⟩ : ByteArray), .int .i64 0, .int .i64 0]) ?_ 0 _ rfl; (with_reducible repeat (first | refine blk_drewN ?_ _ | refine blk_drew ?_ | refine blk_alloc ?_ _)); exact BK192.out) hb); have n1_ := Aside0.mk (below_step bl_ hb); clear BK192; clear HB; have BK192 := n0_; have HB := n1_; clear n0_ n1_; (try clear hb); (try clear hb2); (try clear hk); (try clear hi)) | ((with_reducible refine gate_dst (N := 11) rfl ?_); refine box_event ?hg (N := 11) ?hd (cs := #[.string (⟨#[]⟩ : ByteArray), .int .i64 0, .int .i64 0]) (t := 102) ?hr ?_; (case hd => rfl); (case hg => rfl); (case hr => first | (go_simp; done) | (go_simp; rfl)); intro gb197 hg w63 hbox hb; have n0_ := Aside0.mk (blk_below (g := gb192) (o := .cells #[.string t188, .int .i64 t189, .int .i64 t190] 102 (0, 0)) bk_ hb); have n1_ := Aside0.mk (below_step bl_ hb); have n2_ := Aside0.mk (hbox); have n3_ := Aside0.mk ((by rw [hg]; exact (below_size bl_) : w.heap.size ≤ gb197)); have n4_ := Aside0.mk ((by rw [hg]; exact (below_size bl_) : w.heap.size ≤ gb197)); have n5_ := Aside0.mk ((by rw [hg]; exact Nat.ne_of_lt (blk_lt (g := gb192) (o := .cells #[.string t188, .int .i64 t189, .int .i64 t190] 102 (0, 0)) bk_) : gb192 ≠ gb197)); have n6_ := Aside0.mk ((by rw [hg]; exact Nat.ne_of_gt (blk_lt (g := gb192) (o := .cells #[.string t188, .int .i64 t189, .int .i64 t190] 102 (0, 0)) bk_) : gb197 ≠ gb192)); clear BK192; clear HB; have BK192 := n0_; have HB := n1_; have BK197 := n2_; have GW197 := n3_; have GE197 := n4_; have NB192_197 := n5_; have NB197_192 := n6_; clear n0_ n1_ n2_ n3_ n4_ n5_ n6_; clear hb hbox hg; have hnb64 := NB197_192.out; have hnc64 := NB192_197.out; have hcz65_0 : w63.cell? ⟨gb197, 0, none⟩ = some (.string (⟨#[]⟩ : ByteArray)) := (blk_cell BK197.out 0).trans rfl; have hcz65_1 : w63.cell? ⟨gb197, 1, none⟩ = some (.int .i64 0) := (blk_cell BK197.out 1).trans rfl; have hcz65_2 : w63.cell? ⟨gb197, 2, none⟩ = some (.int .i64 0) := (blk_cell BK197.out 2).trans rfl; have hfz65_0 := blk_frozen BK197.out 0; have hfz65_1 := blk_frozen BK197.out 1; have hfz65_2 := blk_frozen BK197.out 2) | ((with_reducible refine gate_callee (f := 84) rfl ?_); refine goesL_ (some 30) rfl rfl Try.func84 (by kernel_rfl) rfl #[.slice A2 l2.length c2, .string a3] rfl (by (try simp only [List.map_toArray, List.map_cons, List.map_nil]); first | done | rfl | (simp only [List.length_drop, List.length_take]; rfl)) ?_; (with_reducible refine (impl_docAt.calls _ _ l2 a3 t198 t199 t200 t201 _ ?side1 ?side2 A7.out).mono ?_); (case side1 => exact Kd.C_below HR2.out bl_); (case side2 => exact HC2.out); rintro e w66 ⟨rfl, hb⟩; refine ⟨_, rfl, ?_⟩; have n0_ := Aside0.mk (blk_below (g := gb192) (o := .cells #[.string t188, .int .i64 t189, .int .i64 t190] 102 (0, 0)) (by (with_reducible repeat (first | refine blk_drewN ?_ _ | refine blk_drew ?_ | refine blk_alloc ?_ _)); refine blk_far ?_ NB192_197.out _; (with_reducible repeat (first | refine blk_drewN ?_ _ | refine blk_drew ?_ | refine blk_alloc ?_ _)); refine blk_far ?_ NB192_197.out _; (with_reducible repeat (first | refine blk_drewN ?_ _ | refine blk_drew ?_ | refine blk_alloc ?_ _)); exact blk_far bk_ NB192_197.out _) hb); have n1_ := Aside0.mk (blk_below (g := gb197) (o := .cells #[.string t193, .int .i64 t194, .int .i64 t195] 102 (0, 0)) (by (with_reducible repeat (first | refine blk_drewN ?_ _ | refine blk_drew ?_ | refine blk_alloc ?_ _)); refine blk_put (cs := #[.string t193, .int .i64 t194, .int .i64 0]) ?_ 2 _ rfl; (with_reducible repeat (first | refine blk_drewN ?_ _ | refine blk_drew ?_ | refine blk_alloc ?_ _)); refine blk_put (cs := #[.string t193, .int .i64 0, .int .i64 0]) ?_ 1 _ rfl; (with_reducible repeat (first | refine blk_drewN ?_ _ | refine blk_drew ?_ | refine blk_alloc ?_ _)); refine blk_put (cs := #[.string (⟨#[]⟩ : ByteArray), .int .i64 0, .int .i64 0]) ?_ 0 _ rfl; (with_reducible repeat (first | refine blk_drewN ?_ _ | refine blk_drew ?_ | refine blk_alloc ?_ _)); exact BK197.out) hb); have n2_ := Aside0.mk (below_step bl_ hb); clear BK192; clear BK197; clear HB; have BK192 := n0_; have BK197 := n1_; have HB := n2_; clear n0_ n1_ n2_; (try clear hb); (try clear hb2); (try clear hk); (try clear hi)) | ((with_reducible refine gate_dst (N := 13) rfl ?_); refine box_event ?hg (N := 13) ?hd (cs := #[.string (⟨#[]⟩ : ByteArray), .int .i64 0, .int .i64 0]) (t := 102) ?hr ?_; (case hd => rfl); (case hg => rfl); (case hr => first | (go_simp; done) | (go_simp; rfl)); intro gb202 hg w67 hbox hb; have n0_ := Aside0.mk (blk_below (g := gb192) (o := .cells #[.string t188, .int .i64 t189, .int .i64 t190] 102 (0, 0)) bk_ hb); have n1_ := Aside0.mk (blk_below (g := gb197) (o := .cells #[.string t193, .int .i64 t194, .int .i64 t195] 102 (0, 0)) bk_ hb); have n2_ := Aside0.mk (below_step bl_ hb); have n3_ := Aside0.mk (hbox); have n4_ := Aside0.mk ((by rw [hg]; exact (below_size bl_) : w.heap.size ≤ gb202)); have n5_ := Aside0.mk ((by rw [hg]; exact (below_size bl_) : w.heap.size ≤ gb202)); have n6_ := Aside0.mk ((by rw [hg]; exact Nat.ne_of_lt (blk_lt (g := gb192) (o := .cells #[.string t188, .int .i64 t189, .int .i64 t190] 102 (0, 0)) bk_) : gb192 ≠ gb202)); have n7_ := Aside0.mk ((by rw [hg]; exact Nat.ne_of_gt (blk_lt (g := gb192) (o := .cells #[.string t188, .int .i64 t189, .int .i64 t190] 102 (0, 0)) bk_) : gb202 ≠ gb192)); have n8_ := Aside0.mk ((by rw [hg]; exact Nat.ne_of_lt (blk_lt (g := gb197) (o := .cells #[.string t193, .int .i64 t194, .int .i64 t195] 102 (0, 0)) bk_) : gb197 ≠ gb202)); have n9_ := Aside0.mk ((by rw [hg]; exact Nat.ne_of_gt (blk_lt (g := gb197) (o := .cells #[.string t193, .int .i64 t194, .int .i64 t195] 102 (0, 0)) bk_) : gb202 ≠ gb197)); clear BK192; clear BK197; clear HB; have BK192 := n0_; have BK197 := n1_; have HB := n2_; have BK202 := n3_; have GW202 := n4_; have GE202 := n5_; have NB192_202 := n6_; have NB202_192 := n7_; have NB197_202 := n8_; have NB202_197 := n9_; clear n0_ n1_ n2_ n3_ n4_ n5_ n6_ n7_ n8_ n9_; clear hb hbox hg; have hnb68 := NB202_192.out; have hnc68 := NB192_202.out; have hnb69 := NB202_197.out; have hnc69 := NB197_202.out; have hcz70_0 : w67.cell? ⟨gb202, 0, none⟩ = some (.string (⟨#[]⟩ : ByteArray)) := (blk_cell BK202.out 0).trans rfl; have hcz70_1 : w67.cell? ⟨gb202, 1, none⟩ = some (.int .i64 0) := (blk_cell BK202.out 1).trans rfl; have hcz70_2 : w67.cell? ⟨gb202, 2, none⟩ = some (.int .i64 0) := (blk_cell BK202.out 2).trans rfl; have hfz70_0 := blk_frozen BK202.out 0; have hfz70_1 := blk_frozen BK202.out 1; have hfz70_2 := blk_frozen BK202.out 2))
  go_ret
  exact ⟨by first | rfl | (simp [errW_none, errW_some] <;> rfl) | (simp [*, errW_none, errW_some] <;> rfl), by repeat (first | (with_reducible first | exact HB.out | apply below_alloc | apply pw_below_drewN | apply below_drew1 | refine below_set ?_ GE192.out | refine below_set ?_ GE197.out | refine below_set ?_ GE202.out) | exact HB.out)⟩

 subst c8
 have H1 : (if t201 = true then (if t196 = true then (impl_verdictOf.j0 k (decide (t194 < t199)) t188 t189 t190 t198 t199 t200) else (impl_verdictOf.j0 k true t188 t189 t190 t198 t199 t200)) else (some 18)) = some r := by rw [if_pos rfl] at H; exact H
 clear H
 have H := H1
 clear H1
 by_cases c9 : t201 = true
 rotate_left
 ·replace c9 := Bool.eq_false_iff.mpr c9
  subst c9
  have H1 : (some 18) = some r := by rw [if_neg (show ¬ (false = true) by decide)] at H; exact H
  clear H
  have H := H1
  clear H1
  obtain rfl := Option.some.inj H
  go_enter Try.func59, Try.ntmps59
  go_wp2_with (first | ((with_reducible refine gate_callee (f := 84) rfl ?_); refine goesL_ (some 18) rfl rfl Try.func84 (by kernel_rfl) rfl #[.slice A0 l0.length c0, .string a3] rfl (by (try simp only [List.map_toArray, List.map_cons, List.map_nil]); first | done | rfl | (simp only [List.length_drop, List.length_take]; rfl)) ?_; (with_reducible refine (impl_docAt.calls _ _ l0 a3 t188 t189 t190 true _ ?side1 ?side2 A5.out).mono ?_); (case side1 => repeat (first | exact HR0.out | (with_reducible refine Kd.C_alloc ?_ _) | (with_reducible refine Kd.C_drewN ?_ _) | (with_reducible refine Kd.C_drew ?_))); (case side2 => exact HC0.out); rintro e w47 ⟨rfl, hb⟩; refine ⟨_, rfl, ?_⟩; have n0_ := Aside0.mk (below_step bl_ hb); clear HB; have HB := n0_; clear n0_; (try clear hb); (try clear hb2); (try clear hk); (try clear hi)) | ((with_reducible refine gate_dst (N := 9) rfl ?_); refine box_event ?hg (N := 9) ?hd (cs := #[.string (⟨#[]⟩ : ByteArray), .int .i64 0, .int .i64 0]) (t := 102) ?hr ?_; (case hd => rfl); (case hg => rfl); (case hr => first | (go_simp; done) | (go_simp; rfl)); intro gb192 hg w48 hbox hb; have n0_ := Aside0.mk (below_step bl_ hb); have n1_ := Aside0.mk (hbox); have n2_ := Aside0.mk ((by rw [hg]; exact (below_size bl_) : w.heap.size ≤ gb192)); have n3_ := Aside0.mk ((by rw [hg]; exact (below_size bl_) : w.heap.size ≤ gb192)); clear HB; have HB := n0_; have BK192 := n1_; have GW192 := n2_; have GE192 := n3_; clear n0_ n1_ n2_ n3_; clear hb hbox hg; have hcz49_0 : w48.cell? ⟨gb192, 0, none⟩ = some (.string (⟨#[]⟩ : ByteArray)) := (blk_cell BK192.out 0).trans rfl; have hcz49_1 : w48.cell? ⟨gb192, 1, none⟩ = some (.int .i64 0) := (blk_cell BK192.out 1).trans rfl; have hcz49_2 : w48.cell? ⟨gb192, 2, none⟩ = some (.int .i64 0) := (blk_cell BK192.out 2).trans rfl; have hfz49_0 := blk_frozen BK192.out 0; have hfz49_1 := blk_frozen BK192.out 1; have hfz49_2 := blk_frozen BK192.out 2) | ((with_reducible refine gate_callee (f := 84) rfl ?_); refine goesL_ (some 24) rfl rfl Try.func84 (by kernel_rfl) rfl #[.slice A1 l1.length c1, .string a3] rfl (by (try simp only [List.map_toArray, List.map_cons, List.map_nil]); first | done | rfl | (simp only [List.length_drop, List.length_take]; rfl)) ?_; (with_reducible refine (impl_docAt.calls _ _ l1 a3 t193 t194 t195 t196 _ ?side1 ?side2 A6.out).mono ?_); (case side1 => exact Kd.C_below HR1.out bl_); (case side2 => exact HC1.out); rintro e w50 ⟨rfl, hb⟩; refine ⟨_, rfl, ?_⟩; have n0_ := Aside0.mk (blk_below (g := gb192) (o := .cells #[.string t188, .int .i64 t189, .int .i64 t190] 102 (0, 0)) (by (with_reducible repeat (first | refine blk_drewN ?_ _ | refine blk_drew ?_ | refine blk_alloc ?_ _)); refine blk_put (cs := #[.string t188, .int .i64 t189, .int .i64 0]) ?_ 2 _ rfl; (with_reducible repeat (first | refine blk_drewN ?_ _ | refine blk_drew ?_ | refine blk_alloc ?_ _)); refine blk_put (cs := #[.string t188, .int .i64 0, .int .i64 0]) ?_ 1 _ rfl; (with_reducible repeat (first | refine blk_drewN ?_ _ | refine blk_drew ?_ | refine blk_alloc ?_ _)); refine blk_put (cs := #[.string (⟨#[]⟩ : ByteArray), .int .i64 0, .int .i64 0]) ?_ 0 _ rfl; (with_reducible repeat (first | refine blk_drewN ?_ _ | refine blk_drew ?_ | refine blk_alloc ?_ _)); exact BK192.out) hb); have n1_ := Aside0.mk (below_step bl_ hb); clear BK192; clear HB; have BK192 := n0_; have HB := n1_; clear n0_ n1_; (try clear hb); (try clear hb2); (try clear hk); (try clear hi)) | ((with_reducible refine gate_dst (N := 11) rfl ?_); refine box_event ?hg (N := 11) ?hd (cs := #[.string (⟨#[]⟩ : ByteArray), .int .i64 0, .int .i64 0]) (t := 102) ?hr ?_; (case hd => rfl); (case hg => rfl); (case hr => first | (go_simp; done) | (go_simp; rfl)); intro gb197 hg w51 hbox hb; have n0_ := Aside0.mk (blk_below (g := gb192) (o := .cells #[.string t188, .int .i64 t189, .int .i64 t190] 102 (0, 0)) bk_ hb); have n1_ := Aside0.mk (below_step bl_ hb); have n2_ := Aside0.mk (hbox); have n3_ := Aside0.mk ((by rw [hg]; exact (below_size bl_) : w.heap.size ≤ gb197)); have n4_ := Aside0.mk ((by rw [hg]; exact (below_size bl_) : w.heap.size ≤ gb197)); have n5_ := Aside0.mk ((by rw [hg]; exact Nat.ne_of_lt (blk_lt (g := gb192) (o := .cells #[.string t188, .int .i64 t189, .int .i64 t190] 102 (0, 0)) bk_) : gb192 ≠ gb197)); have n6_ := Aside0.mk ((by rw [hg]; exact Nat.ne_of_gt (blk_lt (g := gb192) (o := .cells #[.string t188, .int .i64 t189, .int .i64 t190] 102 (0, 0)) bk_) : gb197 ≠ gb192)); clear BK192; clear HB; have BK192 := n0_; have HB := n1_; have BK197 := n2_; have GW197 := n3_; have GE197 := n4_; have NB192_197 := n5_; have NB197_192 := n6_; clear n0_ n1_ n2_ n3_ n4_ n5_ n6_; clear hb hbox hg; have hnb52 := NB197_192.out; have hnc52 := NB192_197.out; have hcz53_0 : w51.cell? ⟨gb197, 0, none⟩ = some (.string (⟨#[]⟩ : ByteArray)) := (blk_cell BK197.out 0).trans rfl; have hcz53_1 : w51.cell? ⟨gb197, 1, none⟩ = some (.int .i64 0) := (blk_cell BK197.out 1).trans rfl; have hcz53_2 : w51.cell? ⟨gb197, 2, none⟩ = some (.int .i64 0) := (blk_cell BK197.out 2).trans rfl; have hfz53_0 := blk_frozen BK197.out 0; have hfz53_1 := blk_frozen BK197.out 1; have hfz53_2 := blk_frozen BK197.out 2) | ((with_reducible refine gate_callee (f := 84) rfl ?_); refine goesL_ (some 30) rfl rfl Try.func84 (by kernel_rfl) rfl #[.slice A2 l2.length c2, .string a3] rfl (by (try simp only [List.map_toArray, List.map_cons, List.map_nil]); first | done | rfl | (simp only [List.length_drop, List.length_take]; rfl)) ?_; (with_reducible refine (impl_docAt.calls _ _ l2 a3 t198 t199 t200 false _ ?side1 ?side2 A7.out).mono ?_); (case side1 => exact Kd.C_below HR2.out bl_); (case side2 => exact HC2.out); rintro e w54 ⟨rfl, hb⟩; refine ⟨_, rfl, ?_⟩; have n0_ := Aside0.mk (blk_below (g := gb192) (o := .cells #[.string t188, .int .i64 t189, .int .i64 t190] 102 (0, 0)) (by (with_reducible repeat (first | refine blk_drewN ?_ _ | refine blk_drew ?_ | refine blk_alloc ?_ _)); refine blk_far ?_ NB192_197.out _; (with_reducible repeat (first | refine blk_drewN ?_ _ | refine blk_drew ?_ | refine blk_alloc ?_ _)); refine blk_far ?_ NB192_197.out _; (with_reducible repeat (first | refine blk_drewN ?_ _ | refine blk_drew ?_ | refine blk_alloc ?_ _)); exact blk_far bk_ NB192_197.out _) hb); have n1_ := Aside0.mk (blk_below (g := gb197) (o := .cells #[.string t193, .int .i64 t194, .int .i64 t195] 102 (0, 0)) (by (with_reducible repeat (first | refine blk_drewN ?_ _ | refine blk_drew ?_ | refine blk_alloc ?_ _)); refine blk_put (cs := #[.string t193, .int .i64 t194, .int .i64 0]) ?_ 2 _ rfl; (with_reducible repeat (first | refine blk_drewN ?_ _ | refine blk_drew ?_ | refine blk_alloc ?_ _)); refine blk_put (cs := #[.string t193, .int .i64 0, .int .i64 0]) ?_ 1 _ rfl; (with_reducible repeat (first | refine blk_drewN ?_ _ | refine blk_drew ?_ | refine blk_alloc ?_ _)); refine blk_put (cs := #[.string (⟨#[]⟩ : ByteArray), .int .i64 0, .int .i64 0]) ?_ 0 _ rfl; (with_reducible repeat (first | refine blk_drewN ?_ _ | refine blk_drew ?_ | refine blk_alloc ?_ _)); exact BK197.out) hb); have n2_ := Aside0.mk (below_step bl_ hb); clear BK192; clear BK197; clear HB; have BK192 := n0_; have BK197 := n1_; have HB := n2_; clear n0_ n1_ n2_; (try clear hb); (try clear hb2); (try clear hk); (try clear hi)) | ((with_reducible refine gate_dst (N := 13) rfl ?_); refine box_event ?hg (N := 13) ?hd (cs := #[.string (⟨#[]⟩ : ByteArray), .int .i64 0, .int .i64 0]) (t := 102) ?hr ?_; (case hd => rfl); (case hg => rfl); (case hr => first | (go_simp; done) | (go_simp; rfl)); intro gb202 hg w55 hbox hb; have n0_ := Aside0.mk (blk_below (g := gb192) (o := .cells #[.string t188, .int .i64 t189, .int .i64 t190] 102 (0, 0)) bk_ hb); have n1_ := Aside0.mk (blk_below (g := gb197) (o := .cells #[.string t193, .int .i64 t194, .int .i64 t195] 102 (0, 0)) bk_ hb); have n2_ := Aside0.mk (below_step bl_ hb); have n3_ := Aside0.mk (hbox); have n4_ := Aside0.mk ((by rw [hg]; exact (below_size bl_) : w.heap.size ≤ gb202)); have n5_ := Aside0.mk ((by rw [hg]; exact (below_size bl_) : w.heap.size ≤ gb202)); have n6_ := Aside0.mk ((by rw [hg]; exact Nat.ne_of_lt (blk_lt (g := gb192) (o := .cells #[.string t188, .int .i64 t189, .int .i64 t190] 102 (0, 0)) bk_) : gb192 ≠ gb202)); have n7_ := Aside0.mk ((by rw [hg]; exact Nat.ne_of_gt (blk_lt (g := gb192) (o := .cells #[.string t188, .int .i64 t189, .int .i64 t190] 102 (0, 0)) bk_) : gb202 ≠ gb192)); have n8_ := Aside0.mk ((by rw [hg]; exact Nat.ne_of_lt (blk_lt (g := gb197) (o := .cells #[.string t193, .int .i64 t194, .int .i64 t195] 102 (0, 0)) bk_) : gb197 ≠ gb202)); have n9_ := Aside0.mk ((by rw [hg]; exact Nat.ne_of_gt (blk_lt (g := gb197) (o := .cells #[.string t193, .int .i64 t194, .int .i64 t195] 102 (0, 0)) bk_) : gb202 ≠ gb197)); clear BK192; clear BK197; clear HB; have BK192 := n0_; have BK197 := n1_; have HB := n2_; have BK202 := n3_; have GW202 := n4_; have GE202 := n5_; have NB192_202 := n6_; have NB202_192 := n7_; have NB197_202 := n8_; have NB202_197 := n9_; clear n0_ n1_ n2_ n3_ n4_ n5_ n6_ n7_ n8_ n9_; clear hb hbox hg; have hnb56 := NB202_192.out; have hnc56 := NB192_202.out; have hnb57 := NB202_197.out; have hnc57 := NB197_202.out; have hcz58_0 : w55.cell? ⟨gb202, 0, none⟩ = some (.string (⟨#[]⟩ : ByteArray)) := (blk_cell BK202.out 0).trans rfl; have hcz58_1 : w55.cell? ⟨gb202, 1, none⟩ = some (.int .i64 0) := (blk_cell BK202.out 1).trans rfl; have hcz58_2 : w55.cell? ⟨gb202, 2, none⟩ = some (.int .i64 0) := (blk_cell BK202.out 2).trans rfl; have hfz58_0 := blk_frozen BK202.out 0; have hfz58_1 := blk_frozen BK202.out 1; have hfz58_2 := blk_frozen BK202.out 2))
  go_ret
  exact ⟨by first | rfl | (simp [errW_none, errW_some] <;> rfl) | (simp [*, errW_none, errW_some] <;> rfl), by repeat (first | (with_reducible first | exact HB.out | apply below_alloc | apply pw_below_drewN | apply below_drew1 | refine below_set ?_ GE192.out | refine below_set ?_ GE197.out | refine below_set ?_ GE202.out) | exact HB.out)⟩
 subst c9
 have H1 : (if t196 = true then (impl_verdictOf.j0 k (decide (t194 < t199)) t188 t189 t190 t198 t199 t200) else (impl_verdictOf.j0 k true t188 t189 t190 t198 t199 t200)) = some r := by rw [if_pos rfl] at H; exact H
 clear H
 have H := H1
 clear H1
 have HC10 := Aside0.mk H
 clear H
 go_enter Try.func59, Try.ntmps59
 go_upto_region 8 with (first | ((with_reducible refine gate_callee (f := 84) rfl ?_); refine goesL_ (some 18) rfl rfl Try.func84 (by kernel_rfl) rfl #[.slice A0 l0.length c0, .string a3] rfl (by (try simp only [List.map_toArray, List.map_cons, List.map_nil]); first | done | rfl | (simp only [List.length_drop, List.length_take]; rfl)) ?_; (with_reducible refine (impl_docAt.calls _ _ l0 a3 t188 t189 t190 true _ ?side1 ?side2 A5.out).mono ?_); (case side1 => repeat (first | exact HR0.out | (with_reducible refine Kd.C_alloc ?_ _) | (with_reducible refine Kd.C_drewN ?_ _) | (with_reducible refine Kd.C_drew ?_))); (case side2 => exact HC0.out); rintro e w11 ⟨rfl, hb⟩; refine ⟨_, rfl, ?_⟩; have n0_ := Aside0.mk (below_step bl_ hb); clear HB; have HB := n0_; clear n0_; (try clear hb); (try clear hb2); (try clear hk); (try clear hi)) | ((with_reducible refine gate_dst (N := 9) rfl ?_); refine box_event ?hg (N := 9) ?hd (cs := #[.string (⟨#[]⟩ : ByteArray), .int .i64 0, .int .i64 0]) (t := 102) ?hr ?_; (case hd => rfl); (case hg => rfl); (case hr => first | (go_simp; done) | (go_simp; rfl)); intro gb192 hg w12 hbox hb; have n0_ := Aside0.mk (below_step bl_ hb); have n1_ := Aside0.mk (hbox); have n2_ := Aside0.mk ((by rw [hg]; exact (below_size bl_) : w.heap.size ≤ gb192)); have n3_ := Aside0.mk ((by rw [hg]; exact (below_size bl_) : w.heap.size ≤ gb192)); clear HB; have HB := n0_; have BK192 := n1_; have GW192 := n2_; have GE192 := n3_; clear n0_ n1_ n2_ n3_; clear hb hbox hg; have hcz13_0 : w12.cell? ⟨gb192, 0, none⟩ = some (.string (⟨#[]⟩ : ByteArray)) := (blk_cell BK192.out 0).trans rfl; have hcz13_1 : w12.cell? ⟨gb192, 1, none⟩ = some (.int .i64 0) := (blk_cell BK192.out 1).trans rfl; have hcz13_2 : w12.cell? ⟨gb192, 2, none⟩ = some (.int .i64 0) := (blk_cell BK192.out 2).trans rfl; have hfz13_0 := blk_frozen BK192.out 0; have hfz13_1 := blk_frozen BK192.out 1; have hfz13_2 := blk_frozen BK192.out 2) | ((with_reducible refine gate_callee (f := 84) rfl ?_); refine goesL_ (some 24) rfl rfl Try.func84 (by kernel_rfl) rfl #[.slice A1 l1.length c1, .string a3] rfl (by (try simp only [List.map_toArray, List.map_cons, List.map_nil]); first | done | rfl | (simp only [List.length_drop, List.length_take]; rfl)) ?_; (with_reducible refine (impl_docAt.calls _ _ l1 a3 t193 t194 t195 t196 _ ?side1 ?side2 A6.out).mono ?_); (case side1 => exact Kd.C_below HR1.out bl_); (case side2 => exact HC1.out); rintro e w14 ⟨rfl, hb⟩; refine ⟨_, rfl, ?_⟩; have n0_ := Aside0.mk (blk_below (g := gb192) (o := .cells #[.string t188, .int .i64 t189, .int .i64 t190] 102 (0, 0)) (by (with_reducible repeat (first | refine blk_drewN ?_ _ | refine blk_drew ?_ | refine blk_alloc ?_ _)); refine blk_put (cs := #[.string t188, .int .i64 t189, .int .i64 0]) ?_ 2 _ rfl; (with_reducible repeat (first | refine blk_drewN ?_ _ | refine blk_drew ?_ | refine blk_alloc ?_ _)); refine blk_put (cs := #[.string t188, .int .i64 0, .int .i64 0]) ?_ 1 _ rfl; (with_reducible repeat (first | refine blk_drewN ?_ _ | refine blk_drew ?_ | refine blk_alloc ?_ _)); refine blk_put (cs := #[.string (⟨#[]⟩ : ByteArray), .int .i64 0, .int .i64 0]) ?_ 0 _ rfl; (with_reducible repeat (first | refine blk_drewN ?_ _ | refine blk_drew ?_ | refine blk_alloc ?_ _)); exact BK192.out) hb); have n1_ := Aside0.mk (below_step bl_ hb); clear BK192; clear HB; have BK192 := n0_; have HB := n1_; clear n0_ n1_; (try clear hb); (try clear hb2); (try clear hk); (try clear hi)) | ((with_reducible refine gate_dst (N := 11) rfl ?_); refine box_event ?hg (N := 11) ?hd (cs := #[.string (⟨#[]⟩ : ByteArray), .int .i64 0, .int .i64 0]) (t := 102) ?hr ?_; (case hd => rfl); (case hg => rfl); (case hr => first | (go_simp; done) | (go_simp; rfl)); intro gb197 hg w15 hbox hb; have n0_ := Aside0.mk (blk_below (g := gb192) (o := .cells #[.string t188, .int .i64 t189, .int .i64 t190] 102 (0, 0)) bk_ hb); have n1_ := Aside0.mk (below_step bl_ hb); have n2_ := Aside0.mk (hbox); have n3_ := Aside0.mk ((by rw [hg]; exact (below_size bl_) : w.heap.size ≤ gb197)); have n4_ := Aside0.mk ((by rw [hg]; exact (below_size bl_) : w.heap.size ≤ gb197)); have n5_ := Aside0.mk ((by rw [hg]; exact Nat.ne_of_lt (blk_lt (g := gb192) (o := .cells #[.string t188, .int .i64 t189, .int .i64 t190] 102 (0, 0)) bk_) : gb192 ≠ gb197)); have n6_ := Aside0.mk ((by rw [hg]; exact Nat.ne_of_gt (blk_lt (g := gb192) (o := .cells #[.string t188, .int .i64 t189, .int .i64 t190] 102 (0, 0)) bk_) : gb197 ≠ gb192)); clear BK192; clear HB; have BK192 := n0_; have HB := n1_; have BK197 := n2_; have GW197 := n3_; have GE197 := n4_; have NB192_197 := n5_; have NB197_192 := n6_; clear n0_ n1_ n2_ n3_ n4_ n5_ n6_; clear hb hbox hg; have hnb16 := NB197_192.out; have hnc16 := NB192_197.out; have hcz17_0 : w15.cell? ⟨gb197, 0, none⟩ = some (.string (⟨#[]⟩ : ByteArray)) := (blk_cell BK197.out 0).trans rfl; have hcz17_1 : w15.cell? ⟨gb197, 1, none⟩ = some (.int .i64 0) := (blk_cell BK197.out 1).trans rfl; have hcz17_2 : w15.cell? ⟨gb197, 2, none⟩ = some (.int .i64 0) := (blk_cell BK197.out 2).trans rfl; have hfz17_0 := blk_frozen BK197.out 0; have hfz17_1 := blk_frozen BK197.out 1; have hfz17_2 := blk_frozen BK197.out 2) | ((with_reducible refine gate_callee (f := 84) rfl ?_); refine goesL_ (some 30) rfl rfl Try.func84 (by kernel_rfl) rfl #[.slice A2 l2.length c2, .string a3] rfl (by (try simp only [List.map_toArray, List.map_cons, List.map_nil]); first | done | rfl | (simp only [List.length_drop, List.length_take]; rfl)) ?_; (with_reducible refine (impl_docAt.calls _ _ l2 a3 t198 t199 t200 true _ ?side1 ?side2 A7.out).mono ?_); (case side1 => exact Kd.C_below HR2.out bl_); (case side2 => exact HC2.out); rintro e w18 ⟨rfl, hb⟩; refine ⟨_, rfl, ?_⟩; have n0_ := Aside0.mk (blk_below (g := gb192) (o := .cells #[.string t188, .int .i64 t189, .int .i64 t190] 102 (0, 0)) (by (with_reducible repeat (first | refine blk_drewN ?_ _ | refine blk_drew ?_ | refine blk_alloc ?_ _)); refine blk_far ?_ NB192_197.out _; (with_reducible repeat (first | refine blk_drewN ?_ _ | refine blk_drew ?_ | refine blk_alloc ?_ _)); refine blk_far ?_ NB192_197.out _; (with_reducible repeat (first | refine blk_drewN ?_ _ | refine blk_drew ?_ | refine blk_alloc ?_ _)); exact blk_far bk_ NB192_197.out _) hb); have n1_ := Aside0.mk (blk_below (g := gb197) (o := .cells #[.string t193, .int .i64 t194, .int .i64 t195] 102 (0, 0)) (by (with_reducible repeat (first | refine blk_drewN ?_ _ | refine blk_drew ?_ | refine blk_alloc ?_ _)); refine blk_put (cs := #[.string t193, .int .i64 t194, .int .i64 0]) ?_ 2 _ rfl; (with_reducible repeat (first | refine blk_drewN ?_ _ | refine blk_drew ?_ | refine blk_alloc ?_ _)); refine blk_put (cs := #[.string t193, .int .i64 0, .int .i64 0]) ?_ 1 _ rfl; (with_reducible repeat (first | refine blk_drewN ?_ _ | refine blk_drew ?_ | refine blk_alloc ?_ _)); refine blk_put (cs := #[.string (⟨#[]⟩ : ByteArray), .int .i64 0, .int .i64 0]) ?_ 0 _ rfl; (with_reducible repeat (first | refine blk_drewN ?_ _ | refine blk_drew ?_ | refine blk_alloc ?_ _)); exact BK197.out) hb); have n2_ := Aside0.mk (below_step bl_ hb); clear BK192; clear BK197; clear HB; have BK192 := n0_; have BK197 := n1_; have HB := n2_; clear n0_ n1_ n2_; (try clear hb); (try clear hb2); (try clear hk); (try clear hi)) | ((with_reducible refine gate_dst (N := 13) rfl ?_); refine box_event ?hg (N := 13) ?hd (cs := #[.string (⟨#[]⟩ : ByteArray), .int .i64 0, .int .i64 0]) (t := 102) ?hr ?_; (case hd => rfl); (case hg => rfl); (case hr => first | (go_simp; done) | (go_simp; rfl)); intro gb202 hg w19 hbox hb; have n0_ := Aside0.mk (blk_below (g := gb192) (o := .cells #[.string t188, .int .i64 t189, .int .i64 t190] 102 (0, 0)) bk_ hb); have n1_ := Aside0.mk (blk_below (g := gb197) (o := .cells #[.string t193, .int .i64 t194, .int .i64 t195] 102 (0, 0)) bk_ hb); have n2_ := Aside0.mk (below_step bl_ hb); have n3_ := Aside0.mk (hbox); have n4_ := Aside0.mk ((by rw [hg]; exact (below_size bl_) : w.heap.size ≤ gb202)); have n5_ := Aside0.mk ((by rw [hg]; exact (below_size bl_) : w.heap.size ≤ gb202)); have n6_ := Aside0.mk ((by rw [hg]; exact Nat.ne_of_lt (blk_lt (g := gb192) (o := .cells #[.string t188, .int .i64 t189, .int .i64 t190] 102 (0, 0)) bk_) : gb192 ≠ gb202)); have n7_ := Aside0.mk ((by rw [hg]; exact Nat.ne_of_gt (blk_lt (g := gb192) (o := .cells #[.string t188, .int .i64 t189, .int .i64 t190] 102 (0, 0)) bk_) : gb202 ≠ gb192)); have n8_ := Aside0.mk ((by rw [hg]; exact Nat.ne_of_lt (blk_lt (g := gb197) (o := .cells #[.string t193, .int .i64 t194, .int .i64 t195] 102 (0, 0)) bk_) : gb197 ≠ gb202)); have n9_ := Aside0.mk ((by rw [hg]; exact Nat.ne_of_gt (blk_lt (g := gb197) (o := .cells #[.string t193, .int .i64 t194, .int .i64 t195] 102 (0, 0)) bk_) : gb202 ≠ gb197)); clear BK192; clear BK197; clear HB; have BK192 := n0_; have BK197 := n1_; have HB := n2_; have BK202 := n3_; have GW202 := n4_; have GE202 := n5_; have NB192_202 := n6_; have NB202_192 := n7_; have NB197_202 := n8_; have NB202_197 := n9_; clear n0_ n1_ n2_ n3_ n4_ n5_ n6_ n7_ n8_ n9_; clear hb hbox hg; have hnb20 := NB202_192.out; have hnc20 := NB192_202.out; have hnb21 := NB202_197.out; have hnc21 := NB197_202.out; have hcz22_0 : w19.cell? ⟨gb202, 0, none⟩ = some (.string (⟨#[]⟩ : ByteArray)) := (blk_cell BK202.out 0).trans rfl; have hcz22_1 : w19.cell? ⟨gb202, 1, none⟩ = some (.int .i64 0) := (blk_cell BK202.out 1).trans rfl; have hcz22_2 : w19.cell? ⟨gb202, 2, none⟩ = some (.int .i64 0) := (blk_cell BK202.out 2).trans rfl; have hfz22_0 := blk_frozen BK202.out 0; have hfz22_1 := blk_frozen BK202.out 1; have hfz22_2 := blk_frozen BK202.out 2))
 (try simp only [Act.put, List.setIfInBounds_toArray, List.set_cons_zero, List.set_cons_succ])
 go_cut [39] (fun v39 wc => ∃ (kq : Nat) (x39_9 : Bool), v39 = .bool x39_9 ∧ Aside0 (impl_verdictOf.j0 kq x39_9 t188 t189 t190 t198 t199 t200 = some r) ∧ Aside0 (kq ≤ k) ∧ Aside0 (wc.heap[gb192]? = some (.cells #[.string t188, .int .i64 t189, .int .i64 t190] 102 (0, 0))) ∧ Aside0 (wc.heap[gb197]? = some (.cells #[.string t193, .int .i64 t194, .int .i64 t195] 102 (0, 0))) ∧ Aside0 (wc.heap[gb202]? = some (.cells #[.string t198, .int .i64 t199, .int .i64 t200] 102 (0, 0))) ∧ Aside0 (Below w.heap.size w wc))
 case first =>
  have H := HC10.out
  clear HC10
  by_cases c23 : t196 = true
  rotate_left
  ·replace c23 := Bool.eq_false_iff.mpr c23
   subst c23
   have H1 : (impl_verdictOf.j0 k true t188 t189 t190 t198 t199 t200) = some r := by rw [if_neg (show ¬ (false = true) by decide)] at H; exact H
   clear H
   have H := H1
   clear H1
   have H' := Aside0.mk H
   clear H
   go_wp2
   go_meet
   case rel => exact ⟨_, (true), (by first | rfl | (simp; done) | (simp [*]; done)), H', ⟨by first | omega | exact Nat.le_refl _⟩, ⟨by (with_reducible repeat (first | refine blk_drewN ?_ _ | refine blk_drew ?_ | refine blk_alloc ?_ _)); refine blk_far ?_ NB192_202.out _; (with_reducible repeat (first | refine blk_drewN ?_ _ | refine blk_drew ?_ | refine blk_alloc ?_ _)); refine blk_far ?_ NB192_202.out _; (with_reducible repeat (first | refine blk_drewN ?_ _ | refine blk_drew ?_ | refine blk_alloc ?_ _)); exact blk_far bk_ NB192_202.out _⟩, ⟨by (with_reducible repeat (first | refine blk_drewN ?_ _ | refine blk_drew ?_ | refine blk_alloc ?_ _)); refine blk_far ?_ NB197_202.out _; (with_reducible repeat (first | refine blk_drewN ?_ _ | refine blk_drew ?_ | refine blk_alloc ?_ _)); refine blk_far ?_ NB197_202.out _; (with_reducible repeat (first | refine blk_drewN ?_ _ | refine blk_drew ?_ | refine blk_alloc ?_ _)); exact blk_far bk_ NB197_202.out _⟩, ⟨by (with_reducible repeat (first | refine blk_drewN ?_ _ | refine blk_drew ?_ | refine blk_alloc ?_ _)); refine blk_put (cs := #[.string t198, .int .i64 t199, .int .i64 0]) ?_ 2 _ rfl; (with_reducible repeat (first | refine blk_drewN ?_ _ | refine blk_drew ?_ | refine blk_alloc ?_ _)); refine blk_put (cs := #[.string t198, .int .i64 0, .int .i64 0]) ?_ 1 _ rfl; (with_reducible repeat (first | refine blk_drewN ?_ _ | refine blk_drew ?_ | refine blk_alloc ?_ _)); refine blk_put (cs := #[.string (⟨#[]⟩ : ByteArray), .int .i64 0, .int .i64 0]) ?_ 0 _ rfl; (with_reducible repeat (first | refine blk_drewN ?_ _ | refine blk_drew ?_ | refine blk_alloc ?_ _)); exact BK202.out⟩, ⟨by repeat (first | (with_reducible first | exact HB.out | apply below_alloc | apply pw_below_drewN | apply below_drew1 | refine below_set ?_ GE192.out | refine below_set ?_ GE197.out | refine below_set ?_ GE202.out) | exact HB.out)⟩⟩
  subst c23
  have H1 : (impl_verdictOf.j0 k (decide (t194 < t199)) t188 t189 t190 t198 t199 t200) = some r := by rw [if_pos rfl] at H; exact H
  clear H
  have H := H1
  clear H1
  have H' := Aside0.mk H
  clear H
  have hnb24 := NB197_192.out
  have hnc24 := NB192_197.out
  have hnb25 := NB197_202.out
  have hnc25 := NB202_197.out
  have hcz26_0 : w19.cell? ⟨gb197, 0, none⟩ = some (.string t193) := (blk_cell BK197.out 0).trans rfl
  have hcz26_1 : w19.cell? ⟨gb197, 1, none⟩ = some (.int .i64 t194) := (blk_cell BK197.out 1).trans rfl
  have hcz26_2 : w19.cell? ⟨gb197, 2, none⟩ = some (.int .i64 t195) := (blk_cell BK197.out 2).trans rfl
  have hfz26_0 := blk_frozen BK197.out 0
  have hfz26_1 := blk_frozen BK197.out 1
  have hfz26_2 := blk_frozen BK197.out 2
  have hnb27 := NB202_192.out
  have hnc27 := NB192_202.out
  have hcz28_0 : w19.cell? ⟨gb202, 0, none⟩ = some (.string (⟨#[]⟩ : ByteArray)) := (blk_cell BK202.out 0).trans rfl
  have hcz28_1 : w19.cell? ⟨gb202, 1, none⟩ = some (.int .i64 0) := (blk_cell BK202.out 1).trans rfl
  have hcz28_2 : w19.cell? ⟨gb202, 2, none⟩ = some (.int .i64 0) := (blk_cell BK202.out 2).trans rfl
  have hfz28_0 := blk_frozen BK202.out 0
  have hfz28_1 := blk_frozen BK202.out 1
  have hfz28_2 := blk_frozen BK202.out 2
  go_wp2
  go_meet
  case rel => exact ⟨_, (decide (t194 < t199)), (by first | rfl | (simp; done) | (simp [*]; done)), H', ⟨by first | omega | exact Nat.le_refl _⟩, ⟨by (with_reducible repeat (first | refine blk_drewN ?_ _ | refine blk_drew ?_ | refine blk_alloc ?_ _)); refine blk_far ?_ NB192_202.out _; (with_reducible repeat (first | refine blk_drewN ?_ _ | refine blk_drew ?_ | refine blk_alloc ?_ _)); refine blk_far ?_ NB192_202.out _; (with_reducible repeat (first | refine blk_drewN ?_ _ | refine blk_drew ?_ | refine blk_alloc ?_ _)); exact blk_far bk_ NB192_202.out _⟩, ⟨by (with_reducible repeat (first | refine blk_drewN ?_ _ | refine blk_drew ?_ | refine blk_alloc ?_ _)); refine blk_far ?_ NB197_202.out _; (with_reducible repeat (first | refine blk_drewN ?_ _ | refine blk_drew ?_ | refine blk_alloc ?_ _)); refine blk_far ?_ NB197_202.out _; (with_reducible repeat (first | refine blk_drewN ?_ _ | refine blk_drew ?_ | refine blk_alloc ?_ _)); exact blk_far bk_ NB197_202.out _⟩, ⟨by (with_reducible repeat (first | refine blk_drewN ?_ _ | refine blk_drew ?_ | refine blk_alloc ?_ _)); refine blk_put (cs := #[.string t198, .int .i64 t199, .int .i64 0]) ?_ 2 _ rfl; (with_reducible repeat (first | refine blk_drewN ?_ _ | refine blk_drew ?_ | refine blk_alloc ?_ _)); refine blk_put (cs := #[.string t198, .int .i64 0, .int .i64 0]) ?_ 1 _ rfl; (with_reducible repeat (first | refine blk_drewN ?_ _ | refine blk_drew ?_ | refine blk_alloc ?_ _)); refine blk_put (cs := #[.string (⟨#[]⟩ : ByteArray), .int .i64 0, .int .i64 0]) ?_ 0 _ rfl; (with_reducible repeat (first | refine blk_drewN ?_ _ | refine blk_drew ?_ | refine blk_alloc ?_ _)); exact BK202.out⟩, ⟨by repeat (first | (with_reducible first | exact HB.out | apply below_alloc | apply pw_below_drewN | apply below_drew1 | refine below_set ?_ GE192.out | refine below_set ?_ GE197.out | refine below_set ?_ GE202.out) | exact HB.out)⟩⟩
 case rest =>
  clear HC10
  (try clear c1); (try clear c2); (try clear p2); (try clear c5); (try clear c8); (try clear c9); (try clear c16); (try clear c20); (try clear c21); (try clear c23); (try clear c24); (try clear c25); (try clear c27); (try clear hcz13_0); (try clear hcz13_1); (try clear hcz13_2); (try clear hcz17_0); (try clear hcz17_1); (try clear hcz17_2); (try clear hcz22_0); (try clear hcz22_1); (try clear hcz22_2); (try clear hcz26_0); (try clear hcz26_1); (try clear hcz26_2); (try clear hcz28_0); (try clear hcz28_1); (try clear hcz28_2); (try clear hfz13_0); (try clear hfz13_1); (try clear hfz13_2); (try clear hfz17_0); (try clear hfz17_1); (try clear hfz17_2); (try clear hfz22_0); (try clear hfz22_1); (try clear hfz22_2); (try clear hfz26_0); (try clear hfz26_1); (try clear hfz26_2); (try clear hfz28_0); (try clear hfz28_1); (try clear hfz28_2)
  obtain ⟨kq, x39_9, rfl, HA, HJ9, BK192, BK197, BK202, HB⟩ := hcut
  cases kq with
  | zero => exact absurd HA.out (by simp [impl_verdictOf.j0])
  | succ kj9 =>
   have H := HA.out
   clear HA
   simp only [impl_verdictOf.j0] at H
   by_cases c29 : x39_9 = true
   ·subst c29
    have H1 : (some 19) = some r := by rw [if_pos rfl] at H; exact H
    clear H
    have H := H1
    clear H1
    obtain rfl := Option.some.inj H
    go_wp2
    go_ret
    exact ⟨by first | rfl | (simp [errW_none, errW_some] <;> rfl) | (simp [*, errW_none, errW_some] <;> rfl), by repeat (first | (with_reducible first | exact HB.out | apply below_alloc | apply pw_below_drewN | apply below_drew1 | refine below_set ?_ GE192.out | refine below_set ?_ GE197.out | refine below_set ?_ GE202.out) | exact HB.out)⟩
   replace c29 := Bool.eq_false_iff.mpr c29
   subst c29
   have H1 : (if t199 > t189 then (some 9) else (if (wrap64 (t200 * t189)) > (wrap64 (t190 * t199)) then (some 11) else (some 0))) = some r := by rw [if_neg (show ¬ (false = true) by decide)] at H; exact H
   clear H
   have H := H1
   clear H1
   by_cases c30 : t199 > t189
   ·rw [if_pos c30] at H
    have c30b0 : decide (t189 < t199) = true := decide_eq_true c30
    clear c30
    obtain rfl := Option.some.inj H
    have hnb31 := NB202_192.out
    have hnc31 := NB192_202.out
    have hnb32 := NB202_197.out
    have hnc32 := NB197_202.out
    have hcz33_0 : wc.cell? ⟨gb202, 0, none⟩ = some (.string t198) := (blk_cell BK202.out 0).trans rfl
    have hcz33_1 : wc.cell? ⟨gb202, 1, none⟩ = some (.int .i64 t199) := (blk_cell BK202.out 1).trans rfl
    have hcz33_2 : wc.cell? ⟨gb202, 2, none⟩ = some (.int .i64 t200) := (blk_cell BK202.out 2).trans rfl
    have hfz33_0 := blk_frozen BK202.out 0
    have hfz33_1 := blk_frozen BK202.out 1
    have hfz33_2 := blk_frozen BK202.out 2
    have hnb34 := NB192_197.out
    have hnc34 := NB197_192.out
    have hcz35_0 : wc.cell? ⟨gb192, 0, none⟩ = some (.string t188) := (blk_cell BK192.out 0).trans rfl
    have hcz35_1 : wc.cell? ⟨gb192, 1, none⟩ = some (.int .i64 t189) := (blk_cell BK192.out 1).trans rfl
    have hcz35_2 : wc.cell? ⟨gb192, 2, none⟩ = some (.int .i64 t190) := (blk_cell BK192.out 2).trans rfl
    have hfz35_0 := blk_frozen BK192.out 0
    have hfz35_1 := blk_frozen BK192.out 1
    have hfz35_2 := blk_frozen BK192.out 2
    go_wp2
    go_ret
    exact ⟨by first | rfl | (simp [errW_none, errW_some] <;> rfl) | (simp [*, errW_none, errW_some] <;> rfl), by repeat (first | (with_reducible first | exact HB.out | apply below_alloc | apply pw_below_drewN | apply below_drew1 | refine below_set ?_ GE192.out | refine below_set ?_ GE197.out | refine below_set ?_ GE202.out) | exact HB.out)⟩
   rw [if_neg c30] at H
   have c30b0 : decide (t189 < t199) = false := decide_eq_false c30
   clear c30
   by_cases c36 : (wrap64 (t200 * t189)) > (wrap64 (t190 * t199))
   ·rw [if_pos c36] at H
    have c36b0 : decide ((wrap64 (t190 * t199)) < (wrap64 (t200 * t189))) = true := decide_eq_true c36
    clear c36
    obtain rfl := Option.some.inj H
    have hnb37 := NB202_192.out
    have hnc37 := NB192_202.out
    have hnb38 := NB202_197.out
    have hnc38 := NB197_202.out
    have hcz39_0 : wc.cell? ⟨gb202, 0, none⟩ = some (.string t198) := (blk_cell BK202.out 0).trans rfl
    have hcz39_1 : wc.cell? ⟨gb202, 1, none⟩ = some (.int .i64 t199) := (blk_cell BK202.out 1).trans rfl
    have hcz39_2 : wc.cell? ⟨gb202, 2, none⟩ = some (.int .i64 t200) := (blk_cell BK202.out 2).trans rfl
    have hfz39_0 := blk_frozen BK202.out 0
    have hfz39_1 := blk_frozen BK202.out 1
    have hfz39_2 := blk_frozen BK202.out 2
    have hnb40 := NB192_197.out
    have hnc40 := NB197_192.out
    have hcz41_0 : wc.cell? ⟨gb192, 0, none⟩ = some (.string t188) := (blk_cell BK192.out 0).trans rfl
    have hcz41_1 : wc.cell? ⟨gb192, 1, none⟩ = some (.int .i64 t189) := (blk_cell BK192.out 1).trans rfl
    have hcz41_2 : wc.cell? ⟨gb192, 2, none⟩ = some (.int .i64 t190) := (blk_cell BK192.out 2).trans rfl
    have hfz41_0 := blk_frozen BK192.out 0
    have hfz41_1 := blk_frozen BK192.out 1
    have hfz41_2 := blk_frozen BK192.out 2
    go_wp2
    go_ret
    exact ⟨by first | rfl | (simp [errW_none, errW_some] <;> rfl) | (simp [*, errW_none, errW_some] <;> rfl), by repeat (first | (with_reducible first | exact HB.out | apply below_alloc | apply pw_below_drewN | apply below_drew1 | refine below_set ?_ GE192.out | refine below_set ?_ GE197.out | refine below_set ?_ GE202.out) | exact HB.out)⟩
   rw [if_neg c36] at H
   have c36b0 : decide ((wrap64 (t190 * t199)) < (wrap64 (t200 * t189))) = false := decide_eq_false c36
   clear c36
   obtain rfl := Option.some.inj H
   have hnb42 := NB202_192.out
   have hnc42 := NB192_202.out
   have hnb43 := NB202_197.out
   have hnc43 := NB197_202.out
   have hcz44_0 : wc.cell? ⟨gb202, 0, none⟩ = some (.string t198) := (blk_cell BK202.out 0).trans rfl
   have hcz44_1 : wc.cell? ⟨gb202, 1, none⟩ = some (.int .i64 t199) := (blk_cell BK202.out 1).trans rfl
   have hcz44_2 : wc.cell? ⟨gb202, 2, none⟩ = some (.int .i64 t200) := (blk_cell BK202.out 2).trans rfl
   have hfz44_0 := blk_frozen BK202.out 0
   have hfz44_1 := blk_frozen BK202.out 1
   have hfz44_2 := blk_frozen BK202.out 2
   have hnb45 := NB192_197.out
   have hnc45 := NB197_192.out
   have hcz46_0 : wc.cell? ⟨gb192, 0, none⟩ = some (.string t188) := (blk_cell BK192.out 0).trans rfl
   have hcz46_1 : wc.cell? ⟨gb192, 1, none⟩ = some (.int .i64 t189) := (blk_cell BK192.out 1).trans rfl
   have hcz46_2 : wc.cell? ⟨gb192, 2, none⟩ = some (.int .i64 t190) := (blk_cell BK192.out 2).trans rfl
   have hfz46_0 := blk_frozen BK192.out 0
   have hfz46_1 := blk_frozen BK192.out 1
   have hfz46_2 := blk_frozen BK192.out 2
   go_wp2
   go_ret
   exact ⟨by first | rfl | (simp [errW_none, errW_some] <;> rfl) | (simp [*, errW_none, errW_some] <;> rfl), by repeat (first | (with_reducible first | exact HB.out | apply below_alloc | apply pw_below_drewN | apply below_drew1 | refine below_set ?_ GE192.out | refine below_set ?_ GE197.out | refine below_set ?_ GE202.out) | exact HB.out)⟩
end Go.Proofs.Ytkiooiijnolocaa.XFnThreeWay
