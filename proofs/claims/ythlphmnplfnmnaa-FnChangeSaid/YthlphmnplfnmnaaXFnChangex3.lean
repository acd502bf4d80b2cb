-- PRINTED by xprint.py (our own program, over the kit's print.py)
import Derived.Test.YthlphmnplfnmnaaXFnChangex0
namespace Go.Proofs.Ythlphmnplfnmnaa.XFnChange
open Go.RowKit Go.Proofs.YthlphmnplfnmnaaW.PrintWords Go.Proofs.YthlphmnplfnmnaaW.PrintLast Go.Proofs.YthlphmnplfnmnaaW.PrintMore Go.Proofs.YthlphmnplfnmnaaW.Idx
attribute [local go_sem] max2_int min2_int max_two min_two max_three min_three max_four min_four   -- for this text's walks alone
set_option linter.unusedVariables false
set_option linter.unusedSimpArgs false

/-! ### spec_l09Fewest: function 45 -/
/-- The fewest coins for amount a, of the row ahead and fewer than n coins of value v; -1 where there are none. -/
def spec_l09Fewest.up (row : List Int) (v : Int) (a : Nat) : Nat → Int
  | 0 => -1
  | n + 1 => if 0 ≤ rd row ((a : Int) - (n : Int) * v) ∧ (spec_l09Fewest.up row v a n < 0 ∨ rd row ((a : Int) - (n : Int) * v) + (n : Int) < spec_l09Fewest.up row v a n) then rd row ((a : Int) - (n : Int) * v) + (n : Int) else spec_l09Fewest.up row v a n
def spec_l09Fewest.fin (row : List Int) (c : S60) (a : Nat) : Int := spec_l09Fewest.up row c.f0 a (Nat.min c.f1.toNat (a / c.f0.toNat) + 1)
def spec_l09Fewest.nxt (row : List Int) (c : S60) : List Int := (List.range row.length).map (spec_l09Fewest.fin row c)
def spec_l09Fewest.tab (row : List Int) : List S60 → List (List Int)
  | [] => [row]
  | c :: cs => row :: spec_l09Fewest.tab (spec_l09Fewest.nxt row c) cs
def spec_l09Fewest.begun (n i : Nat) : List Int := (List.range (n + 1)).map (fun j => if 0 < j ∧ j < i then -1 else 0)
def spec_l09Fewest.first (due : Int) : List Int := spec_l09Fewest.begun due.toNat (due.toNat + 1)
def spec_l09Fewest.good (due : Int) (l : List S60) : Prop := 0 ≤ due ∧ due ≤ 10000 ∧ l.length ≤ 12 ∧ ∀ c ∈ l, 1 ≤ c.f0 ∧ c.f0 ≤ 100000 ∧ 0 ≤ c.f1 ∧ c.f1 ≤ 60
instance (due : Int) (l : List S60) : Decidable (spec_l09Fewest.good due l) := by unfold spec_l09Fewest.good; exact inferInstance
def spec_l09Fewest.f (a0 : Int) (l1 : List S60) : Option (List (List Int)) := if spec_l09Fewest.good a0 l1 then some (spec_l09Fewest.tab (spec_l09Fewest.first a0) l1) else none
def spec_l09Fewest.cur (row : List Int) (l : List S60) : List Int := l.foldl spec_l09Fewest.nxt row
theorem spec_l09Fewest.tab_snoc : ∀ (l : List S60) (row : List Int) (c : S60), spec_l09Fewest.tab row (l ++ [c]) = spec_l09Fewest.tab row l ++ [spec_l09Fewest.nxt (spec_l09Fewest.cur row l) c] := by
  intro l
  induction l with
  | nil => intro row c; rfl
  | cons d l ih => intro row c; rw [List.cons_append, spec_l09Fewest.tab, spec_l09Fewest.tab, ih]; rfl
theorem spec_l09Fewest.cur_snoc (l : List S60) (row : List Int) (c : S60) : spec_l09Fewest.cur row (l ++ [c]) = spec_l09Fewest.nxt (spec_l09Fewest.cur row l) c := by unfold spec_l09Fewest.cur; rw [List.foldl_append]; rfl
theorem spec_l09Fewest.tab_len : ∀ (l : List S60) (row : List Int), (spec_l09Fewest.tab row l).length = l.length + 1 := by
  intro l
  induction l with
  | nil => intro row; rfl
  | cons d l ih => intro row; rw [spec_l09Fewest.tab, List.length_cons, ih, List.length_cons]
theorem spec_l09Fewest.nxt_len (row : List Int) (c : S60) : (spec_l09Fewest.nxt row c).length = row.length := by simp [spec_l09Fewest.nxt]
theorem spec_l09Fewest.cur_len : ∀ (l : List S60) (row : List Int), (spec_l09Fewest.cur row l).length = row.length := by
  intro l
  induction l with
  | nil => intro row; rfl
  | cons d l ih => intro row; show (spec_l09Fewest.cur (spec_l09Fewest.nxt row d) l).length = _; rw [ih, spec_l09Fewest.nxt_len]
def spec_l09Fewest.bd (row : List Int) (k : Nat) : Prop := ∀ i : Int, -1 ≤ rd row i ∧ rd row i ≤ 60 * (k : Int)
theorem spec_l09Fewest.bd_of {row : List Int} {k : Nat} (h : ∀ x ∈ row, -1 ≤ x ∧ x ≤ 60 * (k : Int)) : spec_l09Fewest.bd row k := by
  intro i
  unfold rd
  rw [List.getD_eq_getElem?_getD]
  cases e : row[i.toNat]? with
  | none => exact ⟨by decide, by show (0 : Int) ≤ _; omega⟩
  | some y => exact h y (List.mem_of_getElem? e)
theorem spec_l09Fewest.up_bd {row : List Int} {k : Nat} (h : spec_l09Fewest.bd row k) (v : Int) (a n : Nat) (hn : n ≤ 61) : -1 ≤ spec_l09Fewest.up row v a n ∧ spec_l09Fewest.up row v a n ≤ 60 * ((k + 1 : Nat) : Int) := by
  induction n with
  | zero => exact ⟨Int.le_refl _, by show (-1 : Int) ≤ _; omega⟩
  | succ n ih =>
    have := h ((a : Int) - (n : Int) * v)
    have ih := ih (by omega)
    rw [spec_l09Fewest.up]
    generalize rd row ((a : Int) - (n : Int) * v) = z at this ⊢
    split <;> omega
theorem spec_l09Fewest.nxt_bd {row : List Int} {k : Nat} (h : spec_l09Fewest.bd row k) {c : S60} (hc : 0 ≤ c.f1 ∧ c.f1 ≤ 60) : spec_l09Fewest.bd (spec_l09Fewest.nxt row c) (k + 1) := by
  refine spec_l09Fewest.bd_of (fun x hx => ?_)
  obtain ⟨a, _, rfl⟩ := List.mem_map.1 hx
  refine spec_l09Fewest.up_bd h _ _ _ ?_
  have : Nat.min c.f1.toNat (a / c.f0.toNat) ≤ c.f1.toNat := Nat.min_le_left _ _
  omega
theorem spec_l09Fewest.cur_bd : ∀ (l : List S60) {row : List Int} {k : Nat}, (∀ c ∈ l, 0 ≤ c.f1 ∧ c.f1 ≤ 60) → spec_l09Fewest.bd row k → spec_l09Fewest.bd (spec_l09Fewest.cur row l) (k + l.length) := by
  intro l
  induction l with
  | nil => intro row k hc h; exact h
  | cons d l ih =>
    intro row k hc h
    have := ih (fun c hcm => hc c (List.mem_cons_of_mem d hcm)) (spec_l09Fewest.nxt_bd h (hc d (by simp)))
    rw [List.length_cons, show k + (l.length + 1) = k + 1 + l.length by omega]
    exact this
theorem spec_l09Fewest.first_bd (due : Int) : spec_l09Fewest.bd (spec_l09Fewest.first due) 0 := by
  refine spec_l09Fewest.bd_of (fun x hx => ?_)
  obtain ⟨j, _, rfl⟩ := List.mem_map.1 hx
  split <;> omega
theorem spec_l09Fewest.begun_len (n i : Nat) : (spec_l09Fewest.begun n i).length = n + 1 := by simp [spec_l09Fewest.begun]
theorem spec_l09Fewest.begun_one (n : Nat) : spec_l09Fewest.begun n 1 = List.replicate (n + 1) 0 := by
  rw [List.eq_replicate_iff]
  refine ⟨spec_l09Fewest.begun_len _ _, fun b hb => ?_⟩
  obtain ⟨j, _, rfl⟩ := List.mem_map.1 hb
  exact if_neg (by omega)
theorem spec_l09Fewest.begun_step {n i : Nat} (h0 : 0 < i) (h : i ≤ n) : (spec_l09Fewest.begun n i).set i (-1) = spec_l09Fewest.begun n (i + 1) := by
  apply List.ext_getElem?
  intro j
  rw [List.getElem?_set]
  by_cases e : i = j
  · subst e
    rw [if_pos rfl, if_pos (by rw [spec_l09Fewest.begun_len]; omega)]
    unfold spec_l09Fewest.begun
    rw [List.getElem?_map, List.getElem?_range (by omega)]
    simp [h0]
  · rw [if_neg e]
    unfold spec_l09Fewest.begun
    rw [List.getElem?_map, List.getElem?_map]
    by_cases hj : j < n + 1
    · rw [List.getElem?_range hj]
      simp only [Option.map_some]
      congr 1
      by_cases h1 : 0 < j ∧ j < i
      · rw [if_pos h1, if_pos ⟨h1.1, by omega⟩]
      · rw [if_neg h1, if_neg (by omega)]
    · rw [List.getElem?_eq_none (by simpa using hj)]
      rfl
/-- The row in the making, the amounts below a being done. -/
def spec_l09Fewest.mid (row : List Int) (c : S60) (a : Nat) : List Int := (List.range a).map (spec_l09Fewest.fin row c) ++ List.replicate (row.length - a) 0
theorem spec_l09Fewest.mid_zero (row : List Int) (c : S60) : spec_l09Fewest.mid row c 0 = List.replicate row.length 0 := by simp [spec_l09Fewest.mid]
theorem spec_l09Fewest.mid_end (row : List Int) (c : S60) : spec_l09Fewest.mid row c row.length = spec_l09Fewest.nxt row c := by simp [spec_l09Fewest.mid, spec_l09Fewest.nxt]
theorem spec_l09Fewest.mid_len {row : List Int} {c : S60} {a : Nat} (h : a ≤ row.length) : (spec_l09Fewest.mid row c a).length = row.length := by simp [spec_l09Fewest.mid]; omega
theorem spec_l09Fewest.mid_step {row : List Int} {c : S60} {a : Nat} (h : a < row.length) : (spec_l09Fewest.mid row c a).set a (spec_l09Fewest.fin row c a) = spec_l09Fewest.mid row c (a + 1) := by
  apply List.ext_getElem?
  intro j
  rw [List.getElem?_set]
  by_cases e : a = j
  · subst e
    rw [if_pos rfl, if_pos (by rw [spec_l09Fewest.mid_len (by omega)]; exact h)]
    unfold spec_l09Fewest.mid
    rw [List.getElem?_append_left (by simp)]
    simp
  · rw [if_neg e]
    unfold spec_l09Fewest.mid
    by_cases hj : j < a
    · rw [List.getElem?_append_left (by simpa using hj), List.getElem?_append_left (by simp; omega)]
      simp [hj, show j < a + 1 by omega]
    · rw [List.getElem?_append_right (by simp; omega), List.getElem?_append_right (by simp; omega)]
      simp [List.getElem?_replicate]
      by_cases h9 : j - a < row.length - a
      · rw [if_pos h9, if_pos (by omega)]
      · rw [if_neg h9, if_neg (by omega)]
theorem spec_l09Fewest.cnt {c : S60} {a n : Nat} (h1 : 1 ≤ c.f0) (h2 : 0 ≤ c.f1) : n ≤ Nat.min c.f1.toNat (a / c.f0.toNat) ↔ (n : Int) ≤ c.f1 ∧ (n : Int) * c.f0 ≤ a := by
  obtain ⟨v, hv⟩ := Int.eq_ofNat_of_zero_le (show 0 ≤ c.f0 by omega)
  rw [hv, Int.toNat_natCast, show Nat.min c.f1.toNat (a / v) = min c.f1.toNat (a / v) from rfl, Nat.le_min, Nat.le_div_iff_mul_le (by omega)]
  constructor
  · rintro ⟨h3, h4⟩
    exact ⟨by omega, by exact_mod_cast h4⟩
  · rintro ⟨h3, h4⟩
    exact ⟨by omega, by exact_mod_cast h4⟩
theorem spec_l09Fewest.set_rd {L : List Int} {a : Nat} {x : Int} (h : a < L.length) : rdOf 0 (L.set a x) (a : Int) = x := by
  unfold rdOf
  rw [Int.toNat_natCast, List.getD_eq_getElem?_getD, List.getElem?_set, if_pos rfl, if_pos h]
  rfl
theorem spec_l09Fewest.lit1 {W : World} {base g n c : Nat} {row : List Int} (h : Kd.R (Kd.int .i64) 3 W base (fun k_ => k_ = g) (.slice (some ⟨g, 0, none⟩) n c) row) (hb : base ≤ W.heap.size) (hg : g < W.heap.size) :
    Kd.S (Kd.slice 3 (Kd.int .i64)) 48 (W.alloc (.cells #[.slice (some ⟨g, 0, none⟩) n c] 48)) base (fun _ => True) (.slice (some ⟨W.heap.size, 0, none⟩) 1 1) [row] := by
  refine ⟨fun _ => 0, fun _ _ => trivial, OwnRow.lit (ps := [(row, 0)]) W base (inner := [.slice (some ⟨g, 0, none⟩) n c]) (Reps.one ?_ (Reps.none _ _)) hb (by simp)⟩
  refine Kd.M_row (Kd.R_mono (Kd.R_alloc h _) (fun k_ hk => ⟨⟨trivial, ?_⟩, rfl⟩))
  intro e
  have e1 : k_ = g := hk
  have e2 : k_ = W.heap.size := Option.some.inj e
  omega
set_option maxHeartbeats 8000000 in
set_option maxRecDepth 100000 in
theorem spec_l09Fewest.calls (a0 : Int) (A1 : Option Addr) (c1 : Nat) (l1 : List (S60)) (r : List (List Int)) (w : World) (hr1 : Kd.C k60 w A1 l1.length l1) (hc1 : l1.length ≤ c1) (h : spec_l09Fewest.f a0 l1 = some r) :
    Calls Try.prog 45 #[.int .i64 a0, .slice A1 l1.length c1] w fun e w' => ∃ v0_ : Value, e = .returned (v0_) ∧ Kd.S (Kd.slice 3 (Kd.int .i64)) 48 w' w.heap.size (fun _ => True) v0_ r ∧ Below w.heap.size w w' := by
  unfold spec_l09Fewest.f at h
  by_cases hg : spec_l09Fewest.good a0 l1
  case neg =>
    rw [if_neg hg] at h
    cases h
  rw [if_pos hg] at h
  obtain rfl := Option.some.inj h
  clear h
  obtain ⟨h0, h1, hl, hc⟩ := hg
  obtain ⟨n0, rfl⟩ := Int.eq_ofNat_of_zero_le h0
  have HR0 := Aside0.mk hr1
  have HC := Aside0.mk hc
  have HL := Aside0.mk hl
  have HN := Aside0.mk (show n0 ≤ 10000 by omega)
  have hn1 : (n0 : Int) ≤ 10000 := h1
  have HB := Aside0.mk (Below.refl w.heap.size w)
  have HF : Aside0 (spec_l09Fewest.first (n0 : Int) = spec_l09Fewest.begun n0 (n0 + 1)) := ⟨by unfold spec_l09Fewest.first; rw [Int.toNat_natCast]⟩
  clear hr1 hc hl h0 h1 hc1
  go_enter Try.func45, Try.ntmps45
  go_wp2_with ((with_reducible refine gate_dst (N := 15) rfl ?_); refine Kd.R_make (Kd.int .i64) _ 3 rfl (N := 15) rfl 48 _ _ rfl ((n0 : Int) + 1) rfl rfl Try.underlying48 (.int .i64 0) 8 info3 rfl (by decide) (by omega) 0 (ok := fun _ => True) (okp := fun _ => True) rfl (fun _ hk => hk) trivial (by omega) (by have := HN.out; omega) HB.out (Nat.le_refl _) ?_; intro v1 w1 ho1 hb1 hg_ hnew_; clear hg_ hnew_; have ho2 := Kd.R_tight rfl ho1; obtain ⟨g1, cap1, hv1, hbg1, hlg1, cells1, hcl1⟩ := Kd.R_form ho1 (by simp); subst hv1; have HG1 := Aside0.mk hbg1; rw [List.length_replicate, show ((n0 : Int) + 1).toNat = n0 + 1 by omega] at ho2; have HO1 := Aside0.mk (show Kd.R (Kd.int .i64) 3 w1 w.heap.size (fun k_ => k_ = g1) (.slice (some ⟨g1, 0, none⟩) (n0 + 1) cap1) (spec_l09Fewest.begun n0 1) by rw [spec_l09Fewest.begun_one]; exact Kd.R_mono ho2 (fun k_ hk_ => Option.some.inj hk_)); have HB1 := Aside0.mk hb1; clear ho1 ho2 hb1 hbg1 hlg1 hcl1 cells1 HB; rw [List.length_replicate, show ((n0 : Int) + 1).toNat = n0 + 1 by omega])
  have hn0 : 0 ≤ (n0 : Int) := by omega
  go_loopg [6] (n0 + 1) (fun gg v6 wr => ∃ i : Nat, 1 ≤ i ∧ i ≤ n0 + 1 ∧ n0 + 1 - i ≤ gg ∧ v6 = .int .i64 i ∧ Aside0 (Kd.R (Kd.int .i64) 3 wr w.heap.size (fun k_ => k_ = g1) (.slice (some ⟨g1, 0, none⟩) (n0 + 1) cap1) (spec_l09Fewest.begun n0 i)) ∧ Aside0 (Below w.heap.size w wr))
  case atStart => exact ⟨1, Nat.le_refl _, by omega, by omega, rfl, HO1, HB1⟩
  case round =>
    clear HO1 HB1
    obtain ⟨i, hi0, hi, hgg, rfl, HO, HB⟩ := hrel
    by_cases hlt : i ≤ n0
    · have hltz : decide ((i : Int) ≤ (n0 : Int)) = true := decide_eq_true (by omega)
      obtain ⟨hx, hf⟩ := Kd.R_celln 0 HO.out (i : Int) (by omega) (by omega)
      rw [Int.toNat_natCast] at hx hf
      have hin : (i : Int) < ((n0 + 1 : Nat) : Int) := by omega
      have hin2 : (i : Int) < (n0 : Int) + 1 := by omega
      go_wp2
      go_roundg (n0 + 1 - (i + 1))
      case measure => omega
      case rel =>
        refine ⟨i + 1, by omega, by omega, Nat.le_refl _, by go_num, ⟨?_⟩, ⟨below_set HB.out HG1.out⟩⟩
        rw [← spec_l09Fewest.begun_step (by omega) hlt]
        have h_ := Kd.R_putn HO.out (i : Int) (-1)
        rw [Int.toNat_natCast] at h_
        exact h_
    · have hltz : decide ((i : Int) ≤ (n0 : Int)) = false := decide_eq_false (by omega)
      obtain rfl : i = n0 + 1 := by omega
      rw [← HF.out] at HO
      clear hi0 hi hgg hltz hlt
      go_wp2
      go_loopg [5, 7, 8] l1.length (fun gg v5 v7 v8 wr => ∃ k : Nat, k ≤ l1.length ∧ l1.length - k ≤ gg ∧ v8 = .int .i64 k ∧ Aside0 (Kd.R (Kd.int .i64) 3 wr w.heap.size (fun _ => True) v5 (spec_l09Fewest.cur (spec_l09Fewest.first (n0 : Int)) (l1.take k))) ∧ Aside0 (Kd.S (Kd.slice 3 (Kd.int .i64)) 48 wr w.heap.size (fun _ => True) v7 (spec_l09Fewest.tab (spec_l09Fewest.first (n0 : Int)) (l1.take k))) ∧ Aside0 (Below w.heap.size w wr))
      case atStart => exact ⟨0, Nat.zero_le _, by omega, rfl, ⟨Kd.R_alloc (Kd.R_mono HO.out (fun _ _ => trivial)) _⟩, ⟨spec_l09Fewest.lit1 HO.out (below_size HB.out) (Kd.R_lt HO.out _ rfl)⟩, ⟨below_alloc HB.out _⟩⟩
      case round =>
        clear HO HB
        obtain ⟨k, hk, hgg, rfl, HV, HS, HB⟩ := hrel
        by_cases hlt : k < l1.length
        · have hltz : decide ((k : Int) < (l1.length : Int)) = true := decide_eq_true (by omega)
          have HT := Aside0.mk (show l1.take (k + 1) = l1.take k ++ [rd_T60 l1 (k : Int)] by
            rw [List.take_succ_eq_append_getElem hlt]
            unfold rd_T60
            rw [Int.toNat_natCast, List.getD_eq_getElem?_getD, List.getElem?_eq_getElem hlt]
            rfl)
          obtain ⟨ad0, e0, hx0, hx1⟩ := at_T60 HR0.out (k : Int) (by omega) (by omega)
          cases e0
          simp only [Int.toNat_natCast] at hx0 hx1
          have hcb := HC.out (rd_T60 l1 (k : Int)) (by
            unfold rd_T60
            rw [Int.toNat_natCast, List.getD_eq_getElem?_getD, List.getElem?_eq_getElem hlt]
            exact List.getElem_mem hlt)
          generalize rd_T60 l1 (k : Int) = c at hx0 hx1 hcb HT
          have HX0 := Aside0.mk hx0
          have HX1 := Aside0.mk hx1
          obtain ⟨hc1, hc2, hc3, hc4⟩ := hcb
          have hXl := spec_l09Fewest.tab_len (l1.take k) (spec_l09Fewest.first (n0 : Int))
          have HCU := Aside0.mk (show (spec_l09Fewest.cur (spec_l09Fewest.first (n0 : Int)) (l1.take k)).length = n0 + 1 by rw [spec_l09Fewest.cur_len, HF.out, spec_l09Fewest.begun_len])
          have HBD := Aside0.mk (show spec_l09Fewest.bd (spec_l09Fewest.cur (spec_l09Fewest.first (n0 : Int)) (l1.take k)) 12 by
            have h_ := spec_l09Fewest.cur_bd (l1.take k) (fun c hcm => (HC.out c (List.mem_of_mem_take hcm)).2.2) (spec_l09Fewest.first_bd (n0 : Int))
            rw [List.length_take, Nat.min_eq_left (by omega)] at h_
            intro i_
            have h2_ := h_ i_
            have h3_ := HL.out
            omega)
          have HTS := Aside0.mk (spec_l09Fewest.tab_snoc (l1.take k) (spec_l09Fewest.first (n0 : Int)) c)
          have HCS := Aside0.mk (spec_l09Fewest.cur_snoc (l1.take k) (spec_l09Fewest.first (n0 : Int)) c)
          rw [List.length_take, Nat.min_eq_left (by omega)] at hXl
          generalize spec_l09Fewest.tab (spec_l09Fewest.first (n0 : Int)) (l1.take k) = X at HS hXl HTS
          generalize spec_l09Fewest.cur (spec_l09Fewest.first (n0 : Int)) (l1.take k) = cur at HV HCU HBD HTS HCS
          obtain ⟨Av, cv, hv6⟩ := Kd.S_slice HS.out
          subst hv6
          obtain ⟨Ar, cr, hvr⟩ := Kd.R_slice HV.out
          subst hvr
          have HXL := Aside0.mk hXl
          have hkl := HL.out
          have hkz : (k : Int) ≤ 12 := by omega
          obtain ⟨wo, rfl⟩ : ∃ wo : World, wo = wr := ⟨_, rfl⟩
          clear hXl hx0 hx1 hkl
          go_wp2_with ((with_reducible refine gate_dst (N := 34) rfl ?_); refine Kd.R_make (Kd.int .i64) (w0 := w) w.heap.size 3 rfl (N := 34) rfl 48 _ _ rfl ((n0 : Int) + 1) rfl rfl Try.underlying48 (.int .i64 0) 8 info3 rfl (by decide) (by omega) 0 (ok := fun k_ => wo.heap.size ≤ k_) (okp := fun _ => False) rfl (fun _ hk => hk.elim) (Nat.le_refl _) (by omega) (by have := HN.out; omega) HB.out (below_size HB.out) ?_; intro v3 w3 ho3 hb3 hg3 hnew3; have ho2 := Kd.R_tight rfl ho3; obtain ⟨g3, cap3, hv3, hbg3, hlg3, cells3, hcl3⟩ := Kd.R_form ho3 (by simp); subst hv3; have HG3 := Aside0.mk (show wo.heap.size ≤ g3 from ho3.1 _ rfl); rw [List.length_replicate, show ((n0 : Int) + 1).toNat = n0 + 1 by omega] at ho2; have HO3 := Aside0.mk (show Kd.R (Kd.int .i64) 3 w3 w.heap.size (fun k_ => k_ = g3) (.slice (some ⟨g3, 0, none⟩) (n0 + 1) cap3) (spec_l09Fewest.mid cur c 0) by rw [spec_l09Fewest.mid_zero, HCU.out]; exact Kd.R_mono ho2 (fun k_ hk_ => Option.some.inj hk_)); have HB3 := Aside0.mk hb3; have HV3 := Aside0.mk (Kd.R_mono (ok' := fun k_ => k_ ≠ g3) (Kd.R_grown (row := none) (Kd.R_bound HV.out) hg3 (fun k_ _ e_ => by cases e_)) (fun k_ hk_ e_ => by have h1_ := hk_.2.2.1; have h2_ := HG3.out; omega)); have HS3 := Aside0.mk (Kd.S_mono (ok' := fun k_ => k_ ≠ g3) (Kd.S_grown (row := none) (Kd.S_bound HS.out) hg3 (fun k_ _ e_ => by cases e_)) (fun k_ hk_ e_ => by have h1_ := hk_.2.2.1; have h2_ := HG3.out; omega)); have HGB := Aside0.mk (show w.heap.size ≤ g3 from Nat.le_trans (below_size HB.out) HG3.out); clear ho3 ho2 hb3 hg3 hnew3 hbg3 hlg3 hcl3 cells3 HB HV HS; rw [List.length_replicate, show ((n0 : Int) + 1).toNat = n0 + 1 by omega])
          clear HG3
          go_loopg [10] (n0 + 1) (fun gg2 v10 wr => ∃ a : Nat, a ≤ n0 + 1 ∧ n0 + 1 - a ≤ gg2 ∧ v10 = .int .i64 a ∧ Aside0 (Kd.R (Kd.int .i64) 3 wr w.heap.size (fun k_ => k_ = g3) (.slice (some ⟨g3, 0, none⟩) (n0 + 1) cap3) (spec_l09Fewest.mid cur c a)) ∧ Aside0 (Kd.R (Kd.int .i64) 3 wr w.heap.size (fun k_ => k_ ≠ g3) (.slice Ar cur.length cr) cur) ∧ Aside0 (Kd.S (Kd.slice 3 (Kd.int .i64)) 48 wr w.heap.size (fun k_ => k_ ≠ g3) (.slice Av X.length cv) X) ∧ Aside0 (Below w.heap.size w wr))
          case atStart => exact ⟨0, Nat.zero_le _, by omega, rfl, HO3, HV3, HS3, HB3⟩
          case round =>
            clear HO3 HV3 HS3 HB3
            obtain ⟨a, ha, hgg2, rfl, HO, HV, HS, HB⟩ := hrel
            have hal := HCU.out
            by_cases hla : a ≤ n0
            · have hlaz : decide ((a : Int) ≤ (n0 : Int)) = true := decide_eq_true (by omega)
              obtain ⟨hq1, hq5⟩ := Kd.R_celln 0 HO.out (a : Int) (by omega) (by omega)
              rw [Int.toNat_natCast] at hq1 hq5
              have haz : (a : Int) < (n0 : Int) + 1 := by omega
              have haz2 : (a : Int) < ((n0 + 1 : Nat) : Int) := by omega
              go_wp2
              obtain ⟨wm, rfl⟩ : ∃ wm : World, wm = wr := ⟨_, rfl⟩
              go_loopg [11] (Nat.min c.f1.toNat (a / c.f0.toNat) + 1) (fun gg3 v11 wr => ∃ m : Nat, m ≤ Nat.min c.f1.toNat (a / c.f0.toNat) + 1 ∧ Nat.min c.f1.toNat (a / c.f0.toNat) + 1 - m ≤ gg3 ∧ v11 = .int .i64 m ∧ Aside0 (Kd.R (Kd.int .i64) 3 wr w.heap.size (fun k_ => k_ = g3) (.slice (some ⟨g3, 0, none⟩) (n0 + 1) cap3) ((spec_l09Fewest.mid cur c a).set a (spec_l09Fewest.up cur c.f0 a m))) ∧ Aside0 (Kd.R (Kd.int .i64) 3 wr w.heap.size (fun k_ => k_ ≠ g3) (.slice Ar cur.length cr) cur) ∧ Aside0 (Kd.S (Kd.slice 3 (Kd.int .i64)) 48 wr w.heap.size (fun k_ => k_ ≠ g3) (.slice Av X.length cv) X) ∧ Aside0 (Below w.heap.size w wr))
              case atStart =>
                refine ⟨0, Nat.zero_le _, by omega, rfl, ⟨?_⟩, ⟨Kd.R_far (p := ⟨g3, a, none⟩) HV.out (fun k_ hk_ => hk_) _⟩, ⟨Kd.S_far (p := ⟨g3, a, none⟩) HS.out (fun k_ hk_ => hk_) _⟩, ⟨below_set HB.out HGB.out⟩⟩
                have h_ := Kd.R_putn HO.out (a : Int) (-1)
                rw [Int.toNat_natCast] at h_
                exact h_
              case round =>
                clear HO HV HS HB hq1 hq5
                obtain ⟨m, hm, hgg3, rfl, HO, HV, HS, HB⟩ := hrel
                have hx0 := HX0.out
                have hx1 := HX1.out
                replace hx0 := (HB.out.cell (World.block_lt_of_cell? w _ hx0)).trans hx0
                replace hx1 := (HB.out.cell (World.block_lt_of_cell? w _ hx1)).trans hx1
                have hklz : (k : Int) < (l1.length : Int) := by omega
                by_cases hn : m ≤ Nat.min c.f1.toNat (a / c.f0.toNat)
                · obtain ⟨hn1, hn2⟩ := (spec_l09Fewest.cnt hc1 hc3).1 hn
                  have hz1 : decide ((m : Int) ≤ c.f1) = true := decide_eq_true hn1
                  obtain ⟨p, hp⟩ : ∃ p : Int, (m : Int) * c.f0 = p := ⟨_, rfl⟩
                  rw [hp] at hn2
                  have hp0 : 0 ≤ p := by rw [← hp]; exact Int.mul_nonneg (by omega) (by omega)
                  have haN := HN.out
                  have hw1 : wrap64 ((m : Int) * c.f0) = p := by rw [hp]; unfold wrap64; omega
                  have hz2 : decide (p ≤ (a : Int)) = true := decide_eq_true (by omega)
                  obtain ⟨j, hj⟩ : ∃ j : Nat, (a : Int) - p = (j : Int) := ⟨((a : Int) - p).toNat, by omega⟩
                  have hjl : (j : Int) < (cur.length : Int) := by omega
                  have hw2 : wrap64 ((a : Int) - p) = (j : Int) := by rw [← hj]; unfold wrap64; omega
                  have hw2b : (a : Int) - p = (j : Int) := hj
                  obtain ⟨ad2, e3, hq3⟩ := Kd.at_int (Kd.R_reads' HV.out).2.2 (j : Int) (by omega) hjl
                  subst e3
                  rw [Int.toNat_natCast] at hq3
                  obtain ⟨hq1, hq5⟩ := Kd.R_celln 0 HO.out (a : Int) (by omega) (by omega)
                  rw [Int.toNat_natCast] at hq1 hq5
                  rw [spec_l09Fewest.set_rd (by rw [spec_l09Fewest.mid_len (by omega)]; omega)] at hq1
                  have HUP := Aside0.mk (show spec_l09Fewest.up cur c.f0 a (m + 1) = if 0 ≤ rd cur (j : Int) ∧ (spec_l09Fewest.up cur c.f0 a m < 0 ∨ rd cur (j : Int) + (m : Int) < spec_l09Fewest.up cur c.f0 a m) then rd cur (j : Int) + (m : Int) else spec_l09Fewest.up cur c.f0 a m by rw [spec_l09Fewest.up, hp, hj])
                  have hyb := HBD.out (j : Int)
                  have hmb : (m : Int) ≤ 60 := by omega
                  have hxb := spec_l09Fewest.up_bd HBD.out c.f0 a m (by omega)
                  generalize spec_l09Fewest.up cur c.f0 a m = x at hq1 HUP HO hxb
                  generalize rd cur (j : Int) = y at hq3 HUP hyb
                  obtain ⟨hyb1, hyb2⟩ := hyb
                  obtain ⟨hxb1, hxb2⟩ := hxb
                  have HMM := Aside0.mk hn
                  have HG3 := Aside0.mk hgg3
                  have haz : (a : Int) < (n0 : Int) + 1 := by omega
                  have haz2 : (a : Int) < ((n0 + 1 : Nat) : Int) := by omega
                  clear hp hj hgg3 hm hn hal haN hn1 hn2
                  by_cases hy0 : 0 ≤ y
                  · have hy0z : decide (0 ≤ y) = true := decide_eq_true hy0
                    by_cases hx00 : x < 0
                    · have hx0z : decide (x < 0) = true := decide_eq_true hx00
                      rw [if_pos ⟨hy0, .inl hx00⟩] at HUP
                      go_wp2
                      go_roundg (Nat.min c.f1.toNat (a / c.f0.toNat) + 1 - (m + 1))
                      case measure => have := HMM.out; have := HG3.out; omega
                      case rel =>
                        refine ⟨m + 1, by have := HMM.out; omega, Nat.le_refl _, by go_num, ⟨?_⟩, ⟨Kd.R_far (p := ⟨g3, a, none⟩) HV.out (fun k_ hk_ => hk_) _⟩, ⟨Kd.S_far (p := ⟨g3, a, none⟩) HS.out (fun k_ hk_ => hk_) _⟩, ⟨below_set HB.out HGB.out⟩⟩
                        rw [HUP.out]
                        have h_ := Kd.R_putn HO.out (a : Int) (y + (m : Int))
                        rw [Int.toNat_natCast, List.set_set] at h_
                        exact h_
                    · have hx0z : decide (x < 0) = false := decide_eq_false hx00
                      by_cases hyx : y + (m : Int) < x
                      · have hyxz : decide (y + (m : Int) < x) = true := decide_eq_true hyx
                        rw [if_pos ⟨hy0, .inr hyx⟩] at HUP
                        go_wp2
                        go_roundg (Nat.min c.f1.toNat (a / c.f0.toNat) + 1 - (m + 1))
                        case measure => have := HMM.out; have := HG3.out; omega
                        case rel =>
                          refine ⟨m + 1, by have := HMM.out; omega, Nat.le_refl _, by go_num, ⟨?_⟩, ⟨Kd.R_far (p := ⟨g3, a, none⟩) HV.out (fun k_ hk_ => hk_) _⟩, ⟨Kd.S_far (p := ⟨g3, a, none⟩) HS.out (fun k_ hk_ => hk_) _⟩, ⟨below_set HB.out HGB.out⟩⟩
                          rw [HUP.out]
                          have h_ := Kd.R_putn HO.out (a : Int) (y + (m : Int))
                          rw [Int.toNat_natCast, List.set_set] at h_
                          exact h_
                      · have hyxz : decide (y + (m : Int) < x) = false := decide_eq_false hyx
                        rw [if_neg (fun h => h.2.elim hx00 hyx)] at HUP
                        go_wp2
                        go_roundg (Nat.min c.f1.toNat (a / c.f0.toNat) + 1 - (m + 1))
                        case measure => have := HMM.out; have := HG3.out; omega
                        case rel => exact ⟨m + 1, by have := HMM.out; omega, Nat.le_refl _, by go_num, ⟨by rw [HUP.out]; exact HO.out⟩, HV, HS, HB⟩
                  · have hy0z : decide (0 ≤ y) = false := decide_eq_false hy0
                    rw [if_neg (fun h => hy0 h.1)] at HUP
                    go_wp2
                    go_roundg (Nat.min c.f1.toNat (a / c.f0.toNat) + 1 - (m + 1))
                    case measure => have := HMM.out; have := HG3.out; omega
                    case rel => exact ⟨m + 1, by have := HMM.out; omega, Nat.le_refl _, by go_num, ⟨by rw [HUP.out]; exact HO.out⟩, HV, HS, HB⟩
                · have hmM : m = Nat.min c.f1.toNat (a / c.f0.toNat) + 1 := by omega
                  have hfin : spec_l09Fewest.up cur c.f0 a m = spec_l09Fewest.fin cur c a := by rw [hmM]; rfl
                  have HO2 : Aside0 (Kd.R (Kd.int .i64) 3 wr w.heap.size (fun k_ => k_ = g3) (.slice (some ⟨g3, 0, none⟩) (n0 + 1) cap3) (spec_l09Fewest.mid cur c (a + 1))) := ⟨by rw [← spec_l09Fewest.mid_step (by omega), ← hfin]; exact HO.out⟩
                  have hnn : ¬ ((m : Int) ≤ c.f1 ∧ (m : Int) * c.f0 ≤ a) := fun h => hn ((spec_l09Fewest.cnt hc1 hc3).2 h)
                  have haN := HN.out
                  have HH := Aside0.mk hm
                  clear hfin hmM hm HO hgg3 hn
                  by_cases hn1 : (m : Int) ≤ c.f1
                  · have hz1 : decide ((m : Int) ≤ c.f1) = true := decide_eq_true hn1
                    obtain ⟨p, hp⟩ : ∃ p : Int, (m : Int) * c.f0 = p := ⟨_, rfl⟩
                    rw [hp] at hnn
                    have hpp : p ≤ 60 * 100000 := by rw [← hp]; exact Int.mul_le_mul (by omega) hc2 (by omega) (by omega)
                    have hp0 : 0 ≤ p := by rw [← hp]; exact Int.mul_nonneg (by omega) (by omega)
                    have hw1 : wrap64 ((m : Int) * c.f0) = p := by rw [hp]; unfold wrap64; omega
                    have hz2 : decide (p ≤ (a : Int)) = false := decide_eq_false (by omega)
                    have haz3 : (a : Int) ≤ 10000 := by omega
                    clear hp hnn hal haN hn1 hpp
                    go_wp2
                    go_roundg (n0 + 1 - (a + 1))
                    case measure => omega
                    case rel => exact ⟨a + 1, by omega, Nat.le_refl _, by go_num, HO2, HV, HS, HB⟩
                  · have hz1 : decide ((m : Int) ≤ c.f1) = false := decide_eq_false hn1
                    have haz3 : (a : Int) ≤ 10000 := by omega
                    clear hnn hal haN hn1
                    go_wp2
                    go_roundg (n0 + 1 - (a + 1))
                    case measure => omega
                    case rel => exact ⟨a + 1, by omega, Nat.le_refl _, by go_num, HO2, HV, HS, HB⟩
            · have hlaz : decide ((a : Int) ≤ (n0 : Int)) = false := decide_eq_false (by omega)
              obtain rfl : a = n0 + 1 := by omega
              have HO2 : Aside0 (Kd.R (Kd.int .i64) 3 wr w.heap.size (fun k_ => k_ = g3) (.slice (some ⟨g3, 0, none⟩) (n0 + 1) cap3) (spec_l09Fewest.nxt cur c)) := ⟨by rw [← spec_l09Fewest.mid_end, hal]; exact HO.out⟩
              clear HO
              go_wp2_with ((with_reducible refine gate_builtin (b := .append) (xs := #[.tmp 100, .tmp 102]) rfl ?_); at_builtin; refine Kd.S_append (Kd.slice 3 (Kd.int .i64)) (w0 := w) w.heap.size rfl (.tmp 100) (.tmp 102) 79 48 (.slice none 0 0) 24 rfl Try.underlying79 info48 rfl (by decide) (by omega) (.slice Av X.length cv) X (spec_l09Fewest.nxt cur c) [.slice (some ⟨g3, 0, none⟩) (n0 + 1) cap3] (fun _ => True) (fun k_ => k_ = g3) rfl rfl ?aP ?aK (fun _ _ => trivial) ?aO ?aB ?aS ?aL ?_; (case aP => exact Kd.M_row HO2.out); (case aK => exact fun k_ hk_ => ⟨trivial, fun e_ => (Kd.S_R HS.out).1 k_ e_.symm hk_⟩); (case aO => exact Kd.S_mono HS.out (fun k_ hk_ => ⟨trivial, hk_⟩)); (case aB => exact HB.out); (case aS => exact below_size HB.out); (case aL => (have := HXL.out; omega)); intro v9 w9 ho9 hb9 hg9 hat9; have HO9 := Aside0.mk ho9; have HB9 := Aside0.mk hb9; have HV9 := Aside0.mk (Kd.R_mono (ok' := fun _ => True) (Kd.R_over' HO2.out (Kd.S_typed HS.out) (by decide) hg9) (fun _ _ => trivial)); clear ho9 hb9 hg9 hat9)
              go_roundg (l1.length - (k + 1))
              case measure => omega
              case rel => exact ⟨k + 1, by omega, Nat.le_refl _, by go_num, ⟨by rw [HT.out, HCS.out]; exact HV9.out⟩, ⟨by rw [HT.out, HTS.out]; exact HO9.out⟩, HB9⟩
        · have hltz : decide ((k : Int) < (l1.length : Int)) = false := decide_eq_false (by omega)
          obtain rfl : k = l1.length := by omega
          rw [List.take_length] at HS
          go_wp2
          go_ret
          exact ⟨_, rfl, HS.out, HB.out⟩


end Go.Proofs.Ythlphmnplfnmnaa.XFnChange
