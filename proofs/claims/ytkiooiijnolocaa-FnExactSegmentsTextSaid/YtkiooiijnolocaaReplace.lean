/- (*strings.byteStringReplacer).Replace at the table of + ? ': each of these bytes gets a ? ahead of it. -/
import Derived.Test.YtkiooiijnolocaaTable
import Derived.Test.YtkiooiijnolocaaCount
import Derived.Deep.DeepCutAuto
import Derived.Deep.LoopGhost
import Derived.Deep.QuietTactic
import Derived.BigQuiet
import Derived.Deep.RegionLaw
import Derived.Laws.CopyOwn
import Derived.WalkSpells
set_option maxRecDepth 100000
set_option maxHeartbeats 4000000
set_option linter.unusedVariables false
set_option linter.unusedSimpArgs false
namespace Go.Proofs.Ytkiooiijnolocaa.Once
open Go.RowKit
/-- The three bytes. -/
def spc (u : UInt8) : Bool := u == 39 || u == 63 || u == 43
/-- A ? ahead of each of them. -/
def escL (l : List UInt8) : List UInt8 := l.flatMap fun u => if spc u then [63, u] else [u]
theorem length_escL (l : List UInt8) : (escL l).length = l.length + l.countP spc := by
  induction l with
  | nil => rfl
  | cons a l ih =>
    have e : escL (a :: l) = (if spc a then [63, a] else [a]) ++ escL l := rfl
    rw [e, List.length_append, ih, List.countP_cons]
    cases spc a <;> simp <;> omega
theorem escL_none {l : List UInt8} (h : l.countP spc = 0) : escL l = l := by
  induction l with
  | nil => rfl
  | cons a l ih =>
    have e : escL (a :: l) = (if spc a then [63, a] else [a]) ++ escL l := rfl
    rw [List.countP_cons] at h
    cases ha : spc a with
    | true => rw [ha] at h; simp at h
    | false => rw [e, ha, ih (by omega)]; rfl
theorem escL_snoc (l : List UInt8) (a : UInt8) : escL (l ++ [a]) = escL l ++ (if spc a then [63, a] else [a]) := by
  simp [escL]
theorem count3 (l : List UInt8) : l.count 39 + l.count 63 + l.count 43 = l.countP spc := by
  induction l with
  | nil => rfl
  | cons a l ih =>
    rw [List.count_cons, List.count_cons, List.count_cons, List.countP_cons, ← ih]
    unfold spc
    by_cases h1 : a = 39
    · subst h1; simp; omega
    · by_cases h2 : a = 63
      · subst h2; simp; omega
      · by_cases h3 : a = 43
        · subst h3; simp; omega
        · simp [h1, h2, h3]
theorem below_drewN {B : Nat} {w w1 : World} (h : Below B w w1) (n : Nat) : Below B w (w1.drewN n) := ⟨h.os, h.tape, h.output, h.size, h.block⟩
theorem byte_at (s : ByteArray) (i : Nat) (hi : i < s.size) : ∃ u : UInt8, (∀ h, (s[i]'h).toNat = u.toNat) ∧ s.data.toList.take (i + 1) = s.data.toList.take i ++ [u] := by
  refine ⟨s[i], fun _ => rfl, ?_⟩
  rw [List.take_succ_eq_append_getElem (by simpa using hi)]
  rfl
theorem wi1 (i : Nat) (h : i < 9223372036854775807) : wrap64 ((i : Int) + 1) = ((i + 1 : Nat) : Int) := by
  unfold wrap64
  omega
/-- The buffer: what is written, zeros behind it. -/
def rowOf (l : List UInt8) (N : Nat) : List Value := l.map (fun u => Value.int .u8 (u.toNat : Int)) ++ List.replicate (N - l.length) (.int .u8 0)
theorem length_rowOf {l : List UInt8} {N : Nat} (h : l.length ≤ N) : (rowOf l N).length = N := by simp [rowOf]; omega
theorem make_buf (N : Nat) (h : N ≤ 140737488355328) (W : World) : (Instr.makeSlice 42 (.int .i64 N) (.int .i64 N)).run Try.prog W = .ok (.slice (some ⟨W.heap.size, 0, none⟩) N N) (W.alloc (.cells (rowOf [] N).toArray 5)) := by
  obtain ⟨i5, hi5, hj5⟩ := Option.map_eq_some_iff.1 (show (Try.prog.info? 5).map (fun i => (i.zero, i.size, i.bytes)) = some (some (.int .u8 0), 1, 1) by kernel_rfl)
  simp only [Prod.mk.injEq] at hj5
  obtain ⟨hz, hs, hb⟩ := hj5
  have h := run_make (P := Try.prog) (w := W) 42 5 i5 _ Try.underlying42 hi5 hz .i64 .i64 N N (by omega) (by omega) (by rw [hb]; omega) (by omega)
  have hc : madeCells (Value.int .u8 0).cells ((N : Int).toNat * i5.size) = (rowOf [] N).toArray := by
    rw [hs]
    apply Array.ext
    · simp [madeCells, rowOf]
    · intro k h1 h2
      simp [madeCells, rowOf, Value.cells, Nat.mod_one]
  rw [hc] at h
  simpa using h
theorem put_row {W : World} {g N : Nat} {l : List UInt8} (u : UInt8) (hg : W.heap[g]? = some (.cells (rowOf l N).toArray 5 (0, 0))) (hm : l.length < N) : (W.setCell ⟨g, l.length, none⟩ (.int .u8 u.toNat)).heap[g]? = some (.cells (rowOf (l ++ [u]) N).toArray 5 (0, 0)) := by
  rw [setCell_eq_setRow W g l.length _ 5 (0, 0) _ hg, setRow_heap W g _ _ 5 (0, 0) hg]
  have e : ((rowOf l N).toArray.setIfInBounds l.length (.int .u8 u.toNat)) = (rowOf (l ++ [u]) N).toArray := by
    rw [List.setIfInBounds_toArray]
    congr 1
    obtain ⟨r, hr⟩ : ∃ r, N - l.length = r + 1 := ⟨N - l.length - 1, by omega⟩
    have h2 : N - (l ++ [u]).length = r := by simp; omega
    unfold rowOf
    rw [h2, hr, List.set_append_right _ _ (by simp), List.replicate_succ]
    simp
  rw [e]
theorem splice_row {l : List UInt8} {N : Nat} (u : UInt8) (hm : l.length + 2 ≤ N) : splice (rowOf l N) l.length [.int .u8 63, .int .u8 u.toNat] = rowOf (l ++ [63, u]) N := by
  unfold splice rowOf
  rw [List.take_append_of_le_length (by simp), List.take_of_length_le (by simp)]
  rw [List.drop_append, List.drop_eq_nil_of_le (by simp)]
  simp
  omega
theorem row_cell {W : World} {g N m : Nat} {l : List UInt8} (hg : W.heap[g]? = some (.cells (rowOf l N).toArray 5 (0, 0))) (hm : m < N) (hl : l.length ≤ N) : ∃ v, W.cell? ⟨g, m, none⟩ = some v := by
  rw [cell_of_row W g m _ 5 (0, 0) hg]
  have := length_rowOf hl
  exact ⟨_, by rw [List.getElem?_toArray]; exact List.getElem?_eq_getElem (by omega)⟩
theorem row_at {W : World} {g N m : Nat} {l : List UInt8} (hg : W.heap[g]? = some (.cells (rowOf l N).toArray 5 (0, 0))) (hm : m < l.length) : W.cell? ⟨g, m, none⟩ = some (.int .u8 (l[m].toNat : Int)) := by
  rw [cell_of_row W g m _ 5 (0, 0) hg, List.getElem?_toArray]
  unfold rowOf
  rw [List.getElem?_append_left (by simpa using hm)]
  simp [List.getElem?_eq_getElem hm]
theorem row_free {W : World} {g : Nat} {c : Array Value} {e : TypeId} (hg : W.heap[g]? = some (.cells c e (0, 0))) (m : Nat) : W.frozen? ⟨g, m, none⟩ = false := by
  simp [World.frozen?, hg]
theorem row_str {W : World} {g : Nat} {l : List UInt8} (hg : W.heap[g]? = some (.cells (rowOf l l.length).toArray 5 (0, 0))) : (convert 42 9 (.slice (some ⟨g, 0, none⟩) l.length l.length)).run Try.prog W = .ok (.string ⟨l.toArray⟩) W :=
  run_convert_bytes_back (P := Try.prog) W 42 9 5 ⟨g, 0, none⟩ l.length l Try.underlying42 Try.underlying5 Try.underlying9 (fun j hj => by
    rw [Addr.add_lit, Nat.zero_add]
    exact row_at hg hj)
/-- The table as it lies. -/
structure TabC (w : World) (B H : Nat) (d : Nat → Option (Nat × Nat)) : Prop where
  tab : ∀ c, c < 256 → w.cell? ⟨B, c, none⟩ = some (slotOf d c)
  top : w.cell? ⟨B, 256, none⟩ = some (.slice (some ⟨H, 0, none⟩) 3 3)
  t0 : w.cell? ⟨H, 0, none⟩ = some (.string ⟨#[39]⟩)
  t1 : w.cell? ⟨H, 1, none⟩ = some (.string ⟨#[63]⟩)
  t2 : w.cell? ⟨H, 2, none⟩ = some (.string ⟨#[43]⟩)
  rep : ∀ c k cap, d c = some (k, cap) → w.cell? ⟨k, 0, none⟩ = some (.int .u8 63) ∧ w.cell? ⟨k, 1, none⟩ = some (.int .u8 c)
  dom : ∀ c, (d c).isSome = decide (c = 39 ∨ c = 63 ∨ c = 43)
theorem TabC.later {w w1 : World} {B H : Nat} {d : Nat → Option (Nat × Nat)} (h : TabC w B H d) (hb : Below w.heap.size w w1) : TabC w1 B H d :=
  ⟨fun c hc => cell_later hb (h.tab c hc), cell_later hb h.top, cell_later hb h.t0, cell_later hb h.t1, cell_later hb h.t2, fun c k cap e => ⟨cell_later hb (h.rep c k cap e).1, cell_later hb (h.rep c k cap e).2⟩, h.dom⟩
theorem TabC.yes {w : World} {B H : Nat} {d : Nat → Option (Nat × Nat)} (h : TabC w B H d) (u : UInt8) (hu : spc u = true) : ∃ k cap, w.cell? ⟨B, u.toNat, none⟩ = some (.slice (some ⟨k, 0, none⟩) 2 cap) ∧ w.cell? ⟨k, 0, none⟩ = some (.int .u8 63) ∧ w.cell? ⟨k, 1, none⟩ = some (.int .u8 u.toNat) := by
  have hd : (d u.toNat).isSome = true := by
    rw [h.dom, decide_eq_true_eq]
    unfold spc at hu
    simp only [Bool.or_eq_true, beq_iff_eq] at hu
    rcases hu with (rfl | rfl) | rfl
    · exact .inl rfl
    · exact .inr (.inl rfl)
    · exact .inr (.inr rfl)
  obtain ⟨⟨k, cap⟩, hk⟩ := Option.isSome_iff_exists.1 hd
  have ht := h.tab u.toNat u.toNat_lt
  simp only [slotOf, hk] at ht
  exact ⟨k, cap, ht, h.rep _ _ _ hk⟩
theorem TabC.no {w : World} {B H : Nat} {d : Nat → Option (Nat × Nat)} (h : TabC w B H d) (u : UInt8) (hu : spc u = false) : w.cell? ⟨B, u.toNat, none⟩ = some (.slice none 0 0) := by
  have hd : d u.toNat = none := by
    rw [← Option.not_isSome_iff_eq_none, h.dom, decide_eq_true_eq]
    unfold spc at hu
    simp only [Bool.or_eq_false_iff, beq_eq_false_iff_ne, ne_eq] at hu
    rintro (e | e | e)
    · exact hu.1.1 (UInt8.toNat_inj.1 e)
    · exact hu.1.2 (UInt8.toNat_inj.1 e)
    · exact hu.2 (UInt8.toNat_inj.1 e)
  have ht := h.tab u.toNat u.toNat_lt
  simpa only [slotOf, hd] using ht
/-- How many of the first j of ' ? + there are. -/
def c1 (l : List UInt8) : Nat → Nat | 0 => 0 | 1 => l.count 39 | 2 => l.count 39 + l.count 63 | _ => l.countP spc
theorem c1_le (l : List UInt8) (j : Nat) : c1 l j ≤ l.countP spc := by
  have := count3 l
  rcases j with _ | _ | _ | j <;> simp [c1] <;> omega
theorem TabC.nth {w : World} {B H : Nat} {d : Nat → Option (Nat × Nat)} (h : TabC w B H d) (l : List UInt8) (j : Nat) (hj : j < 3) : ∃ u : UInt8, spc u = true ∧ w.cell? ⟨H, j, none⟩ = some (.string ⟨#[u]⟩) ∧ c1 l (j + 1) = c1 l j + l.count u := by
  have h3 := count3 l
  rcases j with _ | _ | _ | j
  · exact ⟨39, rfl, h.t0, by simp [c1]⟩
  · exact ⟨63, rfl, h.t1, rfl⟩
  · exact ⟨43, rfl, h.t2, by simp [c1]; omega⟩
  · omega
theorem replace_tab (B H : Nat) (d : Nat → Option (Nat × Nat)) (s : ByteArray) (w : World) (hC : TabC w B H d) (hs : 2 * s.size ≤ 140737488355328) :
    Calls Try.prog 175 #[.pointer (some ⟨B, 0, none⟩), .string s] w fun e w' => e = .returned (.string ⟨(escL s.data.toList).toArray⟩) ∧ Below w.heap.size w w' := by
  have q42 : ∀ (W : World) (a : Option Addr) (n c n' c' : Nat), (binOp .neq 42 (.slice a n c) (.slice none n' c')).run Try.prog W = .ok (.bool (!a.isNone)) W := fun W a n c n' c' => run_neq_slice_nil_any W _ _ a n c n' c' Try.underlying42
  have t1 := hC.top
  have HC : Hid (TabC w B H d) := hC
  have HS : Hid (2 * s.size ≤ 140737488355328) := hs
  clear hC hs
  go_enter Try.func175, Try.ntmps175
  go_upto_if 26 with fail
  go_cut [5, 6] (fun v5 v6 wx => ∃ n : Nat, Hid (n = s.data.toList.countP spc) ∧ v5 = .int .i64 ((s.size : Int) + (n : Int)) ∧ v6 = .bool (!decide (n = 0)) ∧ Below w.heap.size w wx)
  case first =>
    by_cases h24 : (24 : Int) ≤ (s.size : Int)
    · have b24 : decide ((24 : Int) ≤ (s.size : Int)) = true := decide_eq_true h24
      clear h24
      rw [b24]
      go_wp2
      go_loopg [5, 6, 32] 3 (fun kq v5 v6 v32 wr => ∃ j : Nat, v32 = .int .i64 j ∧ Hid (kq = 3 - j ∧ j ≤ 3) ∧ v5 = .int .i64 ((s.size : Int) + (c1 s.data.toList j : Int)) ∧ v6 = .bool (!decide (c1 s.data.toList j = 0)) ∧ Hid (Below w.heap.size w wr))
      case atStart => exact ⟨0, rfl, ⟨rfl, by omega⟩, by simp [c1], by simp [c1], Below.refl _ _⟩
      case round =>
        obtain ⟨j, rfl, HJ, rfl, rfl, HB⟩ := hrel
        have hC1 : Hid (TabC wr B H d) := HC.out.later HB.out
        by_cases hj : (j : Int) < 3
        · obtain ⟨u, hu, hx, hc⟩ := hC1.out.nth s.data.toList j (by omega)
          obtain ⟨k, cap, hk, -, -⟩ := hC1.out.yes u hu
          have hj0 : (0 : Int) ≤ (j : Int) := by omega
          have HCC : Hid (c1 s.data.toList (j + 1) = c1 s.data.toList j + s.data.toList.count u) := hc
          have HL : Hid (c1 s.data.toList (j + 1) ≤ s.size) := Nat.le_trans (c1_le _ _) (Nat.le_trans List.countP_le_length (by simp))
          have hu6 : (u.toNat : Int) < 256 := by have := u.toNat_lt; omega
          have z0 : ∀ h, ((⟨#[u]⟩ : ByteArray)[0]'h).toNat = u.toNat := fun _ => rfl
          obtain ⟨n, hn⟩ : ∃ n, n = s.data.toList.count u := ⟨_, rfl⟩
          have hcnt : Hid (∀ W, Calls Try.prog 177 #[.string s, .string ⟨#[u]⟩] W fun e w' => e = .returned (.int .i64 n) ∧ w' = W) := by
            intro W
            rw [hn]
            exact Try.strings_Count_one s u W
          rw [← hn] at HCC
          clear hn
          clear hc hu t1
          have t1 := hC1.out.top
          by_cases hc0 : (n : Int) = 0
          · go_wp2_with (go_at_call 177; refine (hcnt.out _).mono ?_; rintro e w' ⟨rfl, rfl⟩)
            go_roundg (3 - (j + 1))
            case measure => have := HJ.out; omega
            case rel =>
              have h1 : c1 s.data.toList (j + 1) = c1 s.data.toList j := by have := HCC.out; omega
              exact ⟨j + 1, by go_num, ⟨rfl, by omega⟩, by rw [h1], by rw [h1], HB⟩
          · go_wp2_with (go_at_call 177; refine (hcnt.out _).mono ?_; rintro e w' ⟨rfl, rfl⟩)
            go_quiet (fail)
            go_wp2
            go_roundg (3 - (j + 1))
            case measure => have := HJ.out; omega
            case rel =>
              have h1 := HCC.out
              have h2 := HL.out
              have h3 := HS.out
              refine ⟨j + 1, by go_num, ⟨rfl, by omega⟩, ?_, ?_, below_drewN HB.out nq⟩
              · rw [h1]
                congr 1
                unfold wrap64
                omega
              · rw [h1, decide_eq_false (by omega)]
                rfl
        · have hj3 : j = 3 := by have := HJ.out; omega
          subst hj3
          go_wp2
          go_meet
          exact ⟨_, rfl, rfl, rfl, HB.out⟩
    · have b24 : decide ((24 : Int) ≤ (s.size : Int)) = false := decide_eq_false h24
      clear h24
      rw [b24]
      go_wp2
      go_loopg [5, 6, 10] s.size (fun kq v5 v6 v10 wr => ∃ i n : Nat, v10 = .int .i64 i ∧ Hid (kq = s.size - i ∧ i ≤ s.size ∧ n = (s.data.toList.take i).countP spc) ∧ v5 = .int .i64 ((s.size : Int) + (n : Int)) ∧ v6 = .bool (!decide (n = 0)) ∧ Hid (Below w.heap.size w wr))
      case atStart => exact ⟨0, 0, rfl, ⟨rfl, Nat.zero_le _, rfl⟩, by simp, by simp, Below.refl _ _⟩
      case round =>
        obtain ⟨i, n, rfl, HJ, rfl, rfl, HB⟩ := hrel
        have hC1 : Hid (TabC wr B H d) := HC.out.later HB.out
        by_cases hi : (i : Int) < (s.size : Int)
        · have hi0 : (0 : Int) ≤ (i : Int) := by omega
          obtain ⟨u, hu, hn⟩ := byte_at s i (by omega)
          have HT : Hid ((s.data.toList.take (i + 1)).countP spc = (s.data.toList.take i).countP spc + (if spc u then 1 else 0)) := by
            show _ = _
            rw [hn, List.countP_append]
            simp [List.countP_cons]
          have HL : Hid ((s.data.toList.take (i + 1)).countP spc ≤ s.size) := Nat.le_trans List.countP_le_length (by simp; omega)
          have hu6 : (u.toNat : Int) < 256 := by have := u.toNat_lt; omega
          clear t1 hn
          cases hs : spc u with
          | true =>
            obtain ⟨k, cap, hk, -, -⟩ := hC1.out.yes u hs
            go_wp2
            go_roundg (s.size - (i + 1))
            case measure => have := HJ.out; omega
            case rel =>
              have h0 := HJ.out.2.2
              have h1 := HT.out
              have h2 := HL.out
              have h3 := HS.out
              rw [hs, if_pos rfl] at h1
              refine ⟨i + 1, n + 1, by rw [wi1 i (by omega)], ⟨rfl, by omega, by omega⟩, ?_, by rfl, HB⟩
              congr 1
              unfold wrap64
              omega
          | false =>
            have hk := hC1.out.no u hs
            go_wp2
            go_roundg (s.size - (i + 1))
            case measure => have := HJ.out; omega
            case rel =>
              have h0 := HJ.out.2.2
              have h1 := HT.out
              rw [hs, if_neg (by simp)] at h1
              have h3 := HS.out
              exact ⟨i + 1, n, by rw [wi1 i (by omega)], ⟨rfl, by omega, by omega⟩, rfl, rfl, HB⟩
        · go_wp2
          go_meet
          obtain ⟨h1, h2, h3⟩ := HJ.out
          rw [List.take_of_length_le (by simp; omega)] at h3
          exact ⟨n, h3, rfl, rfl, HB.out⟩
  case rest =>
    obtain ⟨n, HN, rfl, rfl, HB⟩ := hcut
    replace HB : Hid (Below w.heap.size w wc) := HB
    have hlen := length_escL s.data.toList
    by_cases h0 : n = 0
    · subst h0
      have he : Hid (escL s.data.toList = s.data.toList) := escL_none HN.out.symm
      clear hlen
      go_wp2
      go_ret
      refine ⟨?_, HB.out⟩
      rw [he.out]
      rfl
    · obtain ⟨N, hN⟩ : ∃ N, N = s.size + n := ⟨_, rfl⟩
      have hle : n ≤ s.size := by rw [HN.out]; exact Nat.le_trans List.countP_le_length (by simp)
      have HLN : Hid ((escL s.data.toList).length = N) := by
        show _ = _
        rw [hlen, hN, HN.out]
        simp
      have e1 : (s.size : Int) + (n : Int) = (N : Int) := by omega
      have HNS : Hid (N ≤ 140737488355328) := by
        have := HS.out
        show _ ≤ _
        omega
      have hmk := make_buf N HNS.out
      clear hlen
      rw [e1]
      have d0 : (!decide (n = 0)) = true := by rw [decide_eq_false h0]; rfl
      rw [d0]
      clear e1 hN hle h0 d0
      go_wp2
      have HG : Hid ((wc.alloc (.cells (rowOf [] N).toArray 5)).heap[wc.heap.size]? = some (.cells (rowOf [] N).toArray 5 (0, 0))) := heap_alloc_new wc _
      have HB1 : Hid (Below w.heap.size w (wc.alloc (.cells (rowOf [] N).toArray 5))) := HB.out.alloc HB.out.size _
      have HZ : Hid (w.heap.size ≤ wc.heap.size) := HB.out.size
      clear HB hmk
      generalize wc.alloc (.cells (rowOf [] N).toArray 5) = W1 at HG HB1 ⊢
      generalize wc.heap.size = g at HG HZ ⊢
      go_loopg [13, 14] s.size (fun kq v13 v14 wr => ∃ i m : Nat, v14 = .int .i64 i ∧ v13 = .int .i64 m ∧ Hid (kq = s.size - i ∧ i ≤ s.size ∧ m = (escL (s.data.toList.take i)).length) ∧ Hid (wr.heap[g]? = some (.cells (rowOf (escL (s.data.toList.take i)) N).toArray 5 (0, 0))) ∧ Hid (Below w.heap.size w wr))
      case atStart => exact ⟨0, 0, rfl, rfl, ⟨rfl, Nat.zero_le _, rfl⟩, HG, HB1⟩
      case round =>
        obtain ⟨i, m, rfl, rfl, HJ, HG2, HB⟩ := hrel
        clear HG HB1
        have hC1 : Hid (TabC wr B H d) := HC.out.later HB.out
        by_cases hi : (i : Int) < (s.size : Int)
        · have hi0 : (0 : Int) ≤ (i : Int) := by omega
          obtain ⟨u, hu, hn⟩ := byte_at s i (by omega)
          have HT : Hid (escL (s.data.toList.take (i + 1)) = escL (s.data.toList.take i) ++ (if spc u then [63, u] else [u])) := by
            show _ = _
            rw [hn, escL_snoc]
          have HL : Hid ((escL (s.data.toList.take (i + 1))).length ≤ N) := by
            show _ ≤ _
            rw [← HLN.out, length_escL, length_escL]
            have a1 : (s.data.toList.take (i + 1)).length ≤ s.data.toList.length := (List.take_sublist _ _).length_le
            have a2 : (s.data.toList.take (i + 1)).countP spc ≤ s.data.toList.countP spc := (List.take_sublist _ _).countP_le
            omega
          have hu6 : (u.toNat : Int) < 256 := by have := u.toNat_lt; omega
          clear t1 hn
          cases hs : spc u with
          | true =>
            obtain ⟨k, cap, hk, hk0, hk1⟩ := hC1.out.yes u hs
            have HM : Hid (m + 2 ≤ N) := by
              show _ ≤ _
              have h1 := HL.out
              rw [HT.out, hs, if_pos rfl, List.length_append, ← HJ.out.2.2] at h1
              simpa using h1
            have hm1 : (m : Int) ≤ (N : Int) := by have := HM.out; omega
            have hm2 : ¬ (N = m) := by have := HM.out; omega
            have hm0 : (0 : Int) ≤ (m : Int) := by omega
            have hsz1 : (Try.prog.info? 5).map (·.size) = some 1 := by kernel_rfl
            go_wp2
            go_region_law (refine step_copy_splice rfl (.tmp 105) (.tmp 111) 42 42 rfl 5 Try.underlying42 hsz1 _ _ _ _ _ _ rfl rfl g m (rowOf (escL (s.data.toList.take i)) N) 5 HG2.out [.int .u8 63, .int .u8 u.toNat] (by have h_ := HM.out; exact (Nat.min_eq_left (show 2 ≤ N - m by omega)).symm) (fun _ => ⟨rfl, _, rfl, fun j v hj => by (rcases j with _ | _ | j); (· simp at hj; subst hj; exact hk0); (· simp at hj; subst hj; exact hk1); (· simp at hj)⟩) (by rw [length_rowOf (by have := HM.out; have := HJ.out.2.2; omega)]; exact HM.out) (by simp [Value.oneCell']) w.heap.size w ⟨HB.out.os, HB.out.tape, HB.out.output, HB.out.size, HB.out.block⟩ HZ.out ?_; intro w4 hg4 hb4)
            go_wp2
            go_roundg (s.size - (i + 1))
            case measure => have := HJ.out; omega
            case rel =>
              obtain ⟨h1, h2, h3⟩ := HJ.out
              have h4 := HS.out
              have h5 := HNS.out
              have h6 := HM.out
              have h7 := HT.out
              rw [hs, if_pos rfl] at h7
              have h8 : w4.heap[g]? = _ := hg4
              rw [h3, splice_row u (by omega), ← h7] at h8
              refine ⟨i + 1, m + 2, by rw [wi1 i (by omega)], ?_, ⟨rfl, by omega, by rw [h7, List.length_append, ← h3]; rfl⟩, h8, hb4⟩
              congr 1
              try unfold wrap64
              try rw [IntKind.wrap_i64]
              omega
          | false =>
            have hk := hC1.out.no u hs
            have HM : Hid (m < N) := by
              show _ < _
              have h1 := HL.out
              rw [HT.out, hs, if_neg (by simp), List.length_append, ← HJ.out.2.2] at h1
              simp only [List.length_singleton] at h1
              omega
            have hm1 : (m : Int) < (N : Int) := by have := HM.out; omega
            have hm0 : (0 : Int) ≤ (m : Int) := by omega
            obtain ⟨v, hv⟩ := row_cell (m := m) HG2.out HM.out (by have := HM.out; have := HJ.out.2.2; omega)
            have hfz := row_free HG2.out m
            go_wp2
            go_roundg (s.size - (i + 1))
            case measure => have := HJ.out; omega
            case rel =>
              obtain ⟨h1, h2, h3⟩ := HJ.out
              have h4 := HS.out
              have h5 := HNS.out
              have h6 := HM.out
              have h7 := HT.out
              rw [hs, if_neg (by simp)] at h7
              have h8 := put_row u HG2.out (by omega)
              rw [← h3, ← h7] at h8
              exact ⟨i + 1, m + 1, by rw [wi1 i (by omega)], by rw [wi1 m (by omega)], ⟨rfl, by omega, by rw [h7, List.length_append, ← h3]; rfl⟩, h8, HB.out.setCell HZ.out _⟩
        · have HE : Hid (s.data.toList.take i = s.data.toList) := List.take_of_length_le (by simp; omega)
          have HG3 := HG2.out
          rw [HE.out, ← HLN.out] at HG3
          have hst := row_str HG3
          rw [HLN.out] at hst
          clear HG3
          go_wp2
          go_ret
          exact ⟨rfl, HB.out⟩
end Go.Proofs.Ytkiooiijnolocaa.Once
