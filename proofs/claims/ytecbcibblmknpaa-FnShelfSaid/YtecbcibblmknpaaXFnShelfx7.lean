-- PRINTED by xprint.py (our own program, over the kit's print.py)
import Derived.Test.YtecbcibblmknpaaXFnShelfx0
import Derived.Test.YtecbcibblmknpaaPu
namespace Go.Proofs.Ytecbcibblmknpaa.XFnShelf
open Go.RowKit Go.Proofs.YtecbcibblmknpaaW.PrintWords Go.Proofs.YtecbcibblmknpaaW.PrintLast Go.Proofs.YtecbcibblmknpaaW.PrintMore Go.Proofs.YtecbcibblmknpaaW.Idx
attribute [local go_sem] max2_int min2_int max_two min_two max_three min_three max_four min_four   -- for this text's walks alone
set_option linter.unusedVariables false
set_option linter.unusedSimpArgs false

/-! ### bits_Mul32: function 62 -/
def bits_Mul32.f (a0 : Int) (a1 : Int) : Option (Int × Int) := some (((IntKind.u64.wrap ((IntKind.u64.wrap (a0)) * (IntKind.u64.wrap (a1)))) / 4294967296) % 4294967296, (IntKind.u64.wrap ((IntKind.u64.wrap (a0)) * (IntKind.u64.wrap (a1)))) % 4294967296)
set_option maxHeartbeats 8000000 in
set_option maxRecDepth 100000 in
theorem bits_Mul32.calls (a0 : Int) (a1 : Int) (r1 : Int) (r2 : Int) (w : World) (h : bits_Mul32.f a0 a1 = some (r1, r2)) :
  Calls Try.prog 62 #[.int .u32 a0, .int .u32 a1] w fun e w' => e = .returned (.tuple #[.int .u32 r1, .int .u32 r2]) ∧ Drawn0 w w' := by
 have H : (some (((IntKind.u64.wrap ((IntKind.u64.wrap (a0)) * (IntKind.u64.wrap (a1)))) / 4294967296) % 4294967296, (IntKind.u64.wrap ((IntKind.u64.wrap (a0)) * (IntKind.u64.wrap (a1)))) % 4294967296)) = some (r1, r2) := h
 clear h
 as_aux_lemma =>
  simp only [Option.some.injEq, Prod.mk.injEq] at H
  obtain ⟨rfl, rfl⟩ := H
  go_enter Try.func62, Try.ntmps62
  go_wp2
  go_ret2
  exact ⟨by first | rfl | (simp; done) | (simp [*]; done), by repeat (first | exact Drawn0.refl _ | apply Drawn0.step)⟩

/-! ### bits_Mul64: function 63 -/
def bits_Mul64.f (a0 : Int) (a1 : Int) : Option (Int × Int) := some (IntKind.u64.wrap ((IntKind.u64.wrap ((IntKind.u64.wrap ((a0 / 4294967296) * (a1 / 4294967296))) + ((IntKind.u64.wrap ((IntKind.u64.wrap ((a0 / 4294967296) * (Go.bits .and .u64 a1 4294967295))) + ((IntKind.u64.wrap ((Go.bits .and .u64 a0 4294967295) * (Go.bits .and .u64 a1 4294967295))) / 4294967296))) / 4294967296))) + ((IntKind.u64.wrap ((Go.bits .and .u64 (IntKind.u64.wrap ((IntKind.u64.wrap ((a0 / 4294967296) * (Go.bits .and .u64 a1 4294967295))) + ((IntKind.u64.wrap ((Go.bits .and .u64 a0 4294967295) * (Go.bits .and .u64 a1 4294967295))) / 4294967296))) 4294967295) + (IntKind.u64.wrap ((Go.bits .and .u64 a0 4294967295) * (a1 / 4294967296))))) / 4294967296)), IntKind.u64.wrap (a0 * a1))
set_option maxHeartbeats 8000000 in
set_option maxRecDepth 100000 in
theorem bits_Mul64.calls (a0 : Int) (a1 : Int) (r1 : Int) (r2 : Int) (w : World) (h : bits_Mul64.f a0 a1 = some (r1, r2)) :
  Calls Try.prog 63 #[.int .u64 a0, .int .u64 a1] w fun e w' => e = .returned (.tuple #[.int .u64 r1, .int .u64 r2]) ∧ Drawn0 w w' := by
 have H : (some (IntKind.u64.wrap ((IntKind.u64.wrap ((IntKind.u64.wrap ((a0 / 4294967296) * (a1 / 4294967296))) + ((IntKind.u64.wrap ((IntKind.u64.wrap ((a0 / 4294967296) * (Go.bits .and .u64 a1 4294967295))) + ((IntKind.u64.wrap ((Go.bits .and .u64 a0 4294967295) * (Go.bits .and .u64 a1 4294967295))) / 4294967296))) / 4294967296))) + ((IntKind.u64.wrap ((Go.bits .and .u64 (IntKind.u64.wrap ((IntKind.u64.wrap ((a0 / 4294967296) * (Go.bits .and .u64 a1 4294967295))) + ((IntKind.u64.wrap ((Go.bits .and .u64 a0 4294967295) * (Go.bits .and .u64 a1 4294967295))) / 4294967296))) 4294967295) + (IntKind.u64.wrap ((Go.bits .and .u64 a0 4294967295) * (a1 / 4294967296))))) / 4294967296)), IntKind.u64.wrap (a0 * a1))) = some (r1, r2) := h
 clear h
 as_aux_lemma =>
  simp only [Option.some.injEq, Prod.mk.injEq] at H
  obtain ⟨rfl, rfl⟩ := H
  go_enter Try.func63, Try.ntmps63
  go_wp2
  go_ret2
  exact ⟨by first | rfl | (simp; done) | (simp [*]; done), by repeat (first | exact Drawn0.refl _ | apply Drawn0.step)⟩

/-! ### bits_Mul: function 61 -/
def bits_Mul.f (a0 : Int) (a1 : Int) : Option (Int × Int) := (bits_Mul64.f a0 a1).bind fun bt241 => (some (bt241.1, bt241.2))
set_option maxHeartbeats 8000000 in
set_option maxRecDepth 100000 in
theorem bits_Mul.calls (a0 : Int) (a1 : Int) (r1 : Int) (r2 : Int) (w : World) (h : bits_Mul.f a0 a1 = some (r1, r2)) :
  Calls Try.prog 61 #[.int .u64 a0, .int .u64 a1] w fun e w' => e = .returned (.tuple #[.int .u64 r1, .int .u64 r2]) ∧ Drawn0 w w' := by
 have H : ((bits_Mul64.f a0 a1).bind fun bt241 => (some (bt241.1, bt241.2))) = some (r1, r2) := h
 clear h
 replace H := Option.bind_eq_some_iff.mp H
 obtain ⟨⟨t241, t242⟩, A30, H⟩ := H
 replace H : (some (t241, t242)) = some (r1, r2) := H
 have A3 := Aside0.mk A30
 clear A30
 as_aux_lemma =>
  simp only [Option.some.injEq, Prod.mk.injEq] at H
  obtain ⟨rfl, rfl⟩ := H
  go_enter Try.func61, Try.ntmps61
  go_wp2_with (first | ((with_reducible refine gate_callee (f := 63) rfl ?_); refine goesL_ (some 25) rfl rfl Try.func63 (by kernel_rfl) rfl #[.int .u64 a0, .int .u64 a1] rfl (by (try simp only [List.map_toArray, List.map_cons, List.map_nil]); first | done | rfl | (simp only [List.length_drop, List.length_take]; rfl)) ?_; (with_reducible refine (bits_Mul64.calls a0 a1 t241 t242 _ A3.out).mono ?_); rintro e w' ⟨rfl, ⟨nd, rfl⟩⟩; refine ⟨_, rfl, ?_⟩))
  go_ret2
  exact ⟨by first | rfl | (simp; done) | (simp [*]; done), by repeat (first | exact Drawn0.refl _ | apply Drawn0.step)⟩

/-! ### slices_Repeat_int_int: function 54 -/
def slices_Repeat_int_int.f (l0 : List Int) (a1 : Int) : Option (List Int) := if l0.length = 1 ∧ 1 ≤ a1 ∧ a1 ≤ 17592186044415 then some (List.replicate a1.toNat (rd l0 0)) else none

theorem slices_Repeat_int_int.hi (m : Int) (h0 : 0 ≤ m) (h1 : m ≤ 17592186044415) : bits_Mul.f 1 m = some (0, m) := by
 have wr : ∀ x : Int, 0 ≤ x → x < 18446744073709551616 → IntKind.u64.wrap x = x := by
  intro x a b
  simp only [IntKind.wrap, IntKind.bits, IntKind.signed]
  simp
  omega
 have e1 : Go.bits .and .u64 1 4294967295 = 1 := by decide
 have e0 : Go.bits .and .u64 0 4294967295 = 0 := by decide
 have em : Go.bits .and .u64 m 4294967295 = m % 4294967296 := by
  obtain ⟨k, rfl⟩ := Int.eq_ofNat_of_zero_le h0
  have h := u64_and_nat k 4294967295 (by omega) (by omega)
  rw [show ((4294967295 : Nat) : Int) = 4294967295 by rfl] at h
  rw [h, show (4294967295 : Nat) = 2 ^ 32 - 1 by decide, Nat.and_two_pow_sub_one_eq_mod]
  omega
 unfold bits_Mul.f bits_Mul64.f
 rw [e1, em]
 simp only [Option.bind_some, Int.one_mul, show (1 : Int) / 4294967296 = 0 by decide, Int.zero_mul]
 have hl := Int.emod_nonneg m (show (4294967296 : Int) ≠ 0 by decide)
 have hl2 := Int.emod_lt_of_pos m (show (0 : Int) < 4294967296 by decide)
 have hd : 0 ≤ m / 4294967296 := Int.ediv_nonneg h0 (by decide)
 have hd2 : m / 4294967296 ≤ m := Int.ediv_le_self _ h0
 rw [wr 0 (by decide) (by decide), wr (m % 4294967296) hl (by omega), show m % 4294967296 / 4294967296 = 0 by omega]
 have z0 : IntKind.u64.wrap 0 = 0 := wr 0 (by decide) (by decide)
 have zm : IntKind.u64.wrap (m / 4294967296) = m / 4294967296 := wr _ hd (by omega)
 have zz : m / 4294967296 / 4294967296 = 0 := by omega
 simp only [show (0 : Int) + 0 = 0 by rfl, z0, e0, zm, Int.zero_add, zz, show (0 : Int) / 4294967296 = 0 by decide, wr m h0 (by omega)]
theorem slices_Repeat_int_int.shape {w : World} {base e n : Nat} {v : Value} (h : Kd.R (Kd.int .i64) e w base (fun _ => True) v (List.replicate n 0)) (hn : 0 < n) :
  ∃ (g cap : Nat) (L : List Value), v = .slice (some ⟨g, 0, none⟩) n cap ∧ base ≤ g ∧ w.heap[g]? = some (.cells L.toArray e (0, 0)) ∧ n ≤ cap ∧ cap ≤ 9223372036854775807 ∧ L.length = cap := by
 have ho := Kd.own_of_R h
 rw [List.length_replicate] at ho
 rcases ho.2 with ⟨_, h0⟩ | ⟨g, cap, cur, rfl, hb, hg, hle, hm, hs, _⟩
 ·omega
 ·exact ⟨g, cap, cur.toList, rfl, hb, by simpa using hg, hle, by simpa [maxLen] using hm, by simpa using hs⟩
theorem slices_Repeat_int_int.fin {w : World} {base e n g cap : Nat} {L : List Value} (x : Int) (hb : base ≤ g) (hg : w.heap[g]? = some (.cells L.toArray e (0, 0))) (hL : L.length = cap) (hn : n ≤ cap) (hm : cap ≤ 9223372036854775807) (hx : ∀ j, j < n → L[j]? = some (.int .i64 x)) :
  Kd.R (Kd.int .i64) e w base (fun _ => True) (.slice (some ⟨g, 0, none⟩) n cap) (List.replicate n x) := by
 refine Kd.R_of_own ⟨by simp [encs], .inr ⟨g, cap, L.toArray, by rw [List.length_replicate], hb, hg, by rw [List.length_replicate]; exact hn, by simpa [maxLen] using hm, by simpa using hL, ?_⟩⟩ (fun _ _ => trivial)
 rw [List.length_replicate, Nat.mul_one]
 apply List.ext_getElem?
 intro j
 rw [List.getElem?_take]
 by_cases hj : j < n
 rotate_left
 ·rw [if_neg hj]
  simp [encs, hj]
 rw [if_pos hj, hx j hj]
 simp [encs, hj]
theorem slices_Repeat_int_int.spl {L : List Value} {kk mm : Nat} {v : Value} (hx : ∀ j, j < kk → L[j]? = some v) (hl : kk + mm ≤ L.length) : ∀ j, j < kk + mm → (splice L kk (List.replicate mm v))[j]? = some v := by
 intro j hj
 unfold splice
 have e : (L.take kk).length = kk := by rw [List.length_take]; omega
 by_cases h : j < kk
 ·rw [List.getElem?_append_left (by omega), List.getElem?_take, if_pos h, hx j h]
 rw [List.getElem?_append_right (by omega), e, List.getElem?_append_left (by rw [List.length_replicate]; omega), List.getElem?_replicate, if_pos (by omega)]
theorem slices_Repeat_int_int.rep {α : Type} {n j : Nat} {x v : α} (h : (List.replicate n x)[j]? = some v) : j < n ∧ v = x := by
 rw [List.getElem?_replicate] at h
 split at h
 ·injection h with h
  exact ⟨by assumption, h.symm⟩
 ·cases h
theorem slices_Repeat_int_int.mins {k n m : Nat} (hm : m = Nat.min k (n - k)) (h1 : 1 ≤ k) (h2 : k < n) : 1 ≤ m ∧ m ≤ k ∧ k + m ≤ n := by
 rcases Nat.le_total k (n - k) with h | h
 ·have e : Nat.min k (n - k) = k := Nat.min_eq_left h
  omega
 ·have e : Nat.min k (n - k) = n - k := Nat.min_eq_right h
  omega
theorem slices_Repeat_int_int.spl1 {L : List Value} {v : Value} (hl : 1 ≤ L.length) : ∀ j, j < 1 → (splice L 0 [v])[j]? = some v := slices_Repeat_int_int.spl (L := L) (kk := 0) (mm := 1) (fun j hj => absurd hj (Nat.not_lt_zero _)) (by omega)
theorem slices_Repeat_int_int.cells {W : World} {g e : Nat} {L : List Value} (h : W.heap[g]? = some (.cells L.toArray e (0, 0))) (j : Nat) (v : Value) (hv : L[j]? = some v) : W.cell? ((⟨g, 0, none⟩ : Addr).add j) = some v := by
 rw [add_plain, blk_cell h]
 simpa using hv

set_option maxHeartbeats 8000000 in
set_option maxRecDepth 100000 in
theorem slices_Repeat_int_int.calls (A0 : Option Addr) (c0 : Nat) (l0 : List Int) (a1 : Int) (r : List Int) (w : World) (hr0 : Kd.C (Kd.int .i64) w A0 l0.length l0) (hc0 : l0.length ≤ c0) (h : slices_Repeat_int_int.f l0 a1 = some r) :
  Calls Try.prog 54 #[.slice A0 l0.length c0, .int .i64 a1] w fun e w' => ∃ v0_ : Value, e = .returned (v0_) ∧ Kd.R (Kd.int .i64) 3 w' w.heap.size (fun _ => True) v0_ r ∧ Below w.heap.size w w' := by
 unfold slices_Repeat_int_int.f at h
 by_cases c1 : l0.length = 1 ∧ 1 ≤ a1 ∧ a1 ≤ 17592186044415
 rotate_left
 ·rw [if_neg c1] at h
  cases h


 rw [if_pos c1] at h
 obtain rfl := Option.some.inj h
 clear h
 obtain ⟨hl, h1, h2⟩ := c1
 match l0, hl with
 | [x], _ =>
  have HM := Aside0.mk (slices_Repeat_int_int.hi a1 (by omega) h2)
  obtain ⟨m, rfl⟩ := Int.eq_ofNat_of_zero_le (show 0 ≤ a1 by omega)
  have HB := Aside0.mk (Below.refl w.heap.size w)
  obtain ⟨ad, e0, hx0⟩ := Kd.at_int hr0 0 (by omega) (by simp)
  subst e0
  simp only [Int.reduceToNat] at hx0
  have HX := Aside0.mk hx0
  have H1 := Aside0.mk h1
  have H2 := Aside0.mk h2
  have b0 : 0 ≤ (m : Int) := by omega
  have b1 : (m : Int) ≤ 17592186044415 := h2
  have d0 : decide ((m : Int) < 0) = false := decide_eq_false (by omega)
  have s3 : IntKind.u64.wrap (m : Int) = (m : Int) := by
   simp only [IntKind.wrap, IntKind.bits, IntKind.signed]
   simp
   omega
  have s4 : IntKind.i64.wrap (m : Int) = (m : Int) := by
   rw [IntKind.wrap_i64]
   omega
  have s5 : decide (9223372036854775807 < (m : Int)) = false := decide_eq_false (by omega)
  have LB := Aside0.mk b0
  have LH := Aside0.mk b1
  clear hr0 hc0 hx0 h1 h2
  go_enter Try.func54, Try.ntmps54
  go_wp2_with (first
   | (go_at_call 61; refine (bits_Mul.calls _ _ _ _ _ HM.out).mono ?_; rintro e w' ⟨rfl, ⟨nd, rfl⟩⟩)
   | ((with_reducible refine gate_dst (N := 30) rfl ?_); refine Kd.R_make (Kd.int .i64) _ 3 rfl (N := 30) rfl 29 _ _ rfl (m : Int) rfl rfl Try.underlying29 (.int .i64 0) 8 info3 rfl (by decide) (by omega) 0 (ok := fun _ => True) (okp := fun _ => True) rfl (fun _ hk => hk) trivial LB.out (by have := LH.out; omega) (Below.refl _ _) (Nat.le_refl _) ?_; intro v1 w1 ho hb hg_ hnew_; clear hg_ hnew_; rw [Int.toNat_natCast] at ho; obtain ⟨g, cap, L, rfl, hbg, hg, hnc, hcm, hL⟩ := slices_Repeat_int_int.shape ho (by have := H1.out; omega); have n6_ := Aside0.mk (below_step bl_ hb); have HBG := Aside0.mk (Nat.le_trans (below_size bl_) hbg); have HG := Aside0.mk hg; have HNC := Aside0.mk hnc; have HCM := Aside0.mk hcm; have HL := Aside0.mk hL; clear HB; have HB := n6_; clear n6_; clear hb ho hbg hg hnc hcm hL)
   | ((with_reducible refine gate_builtin (b := .copy) (xs := #[.tmp 31, .tmp 32]) rfl ?_); refine wpList_copy_splice rfl (.tmp 31) (.tmp 32) 29 29 rfl 3 Try.underlying29 (by kernel_rfl) (some ⟨g, 0, none⟩) (some ad) m cap 1 c0 rfl rfl g 0 L 3 HG.out [.int .i64 x] (by have := H1.out; simp [Nat.min_def]; omega) (fun _ => ⟨rfl, ad, rfl, fun j v hj => ?_⟩) (by have := H1.out; have := HNC.out; have := HL.out; simp; omega) (by simp [Value.oneCell']) w.heap.size w HB.out HBG.out ?_; (exact (by cases j with | zero => (simp at hj; subst hj; exact (HB.out.cell (World.block_lt_of_cell? w _ HX.out)).trans HX.out) | succ j => (simp at hj))); intro w2 hg2 hb2; have n1_ := Aside0.mk hg2.out; have n2_ := Aside0.mk hb2; clear HG HB; have HG := n1_; have HB := n2_; clear n1_ n2_ hg2 hb2))
  have HM1 := Aside0.mk (show 1 ≤ m by have := H1.out; omega)
  clear HM HX
  go_loopg [8] m (fun gg s8 wr => ∃ (kk : Nat) (L' : List Value), s8 = .int .i64 kk ∧ 1 ≤ kk ∧ kk ≤ m ∧ m - kk ≤ gg ∧ Aside0 (wr.heap[g]? = some (.cells L'.toArray 3 (0, 0))) ∧ Aside0 (L'.length = cap) ∧ Aside0 (∀ j, j < kk → L'[j]? = some (.int .i64 x)) ∧ Aside0 (Below w.heap.size w wr))
  case atStart =>
   exact ⟨1, _, rfl, by omega, HM1.out, by omega, HG, ⟨by rw [length_splice _ _ _ (by have := HM1.out; have := HNC.out; have := HL.out; simp; omega)]; exact HL.out⟩, ⟨slices_Repeat_int_int.spl1 (by have := HM1.out; have := HNC.out; have := HL.out; omega)⟩, HB⟩
  case round =>
   clear HG HB HL
   obtain ⟨kk, L', rfl, hk1, hkm, hgg, HG, HL, HX, HB⟩ := hrel
   by_cases hlt : kk < m
   rotate_left
   ·have hltz : decide ((kk : Int) < (m : Int)) = false := decide_eq_false (by omega)
    obtain rfl : kk = m := by omega
    go_wp2
    go_ret
    exact ⟨_, by first | rfl | (simp; done) | (simp [*]; done), by rw [Int.toNat_natCast]; exact slices_Repeat_int_int.fin x HBG.out HG.out HL.out HNC.out HCM.out HX.out, HB.out⟩
   have hltz : decide ((kk : Int) < (m : Int)) = true := decide_eq_true (by omega)
   obtain ⟨mm, hmm⟩ : ∃ mm, mm = Nat.min kk (m - kk) := ⟨_, rfl⟩
   have hm1 : 1 ≤ mm ∧ mm ≤ kk ∧ kk + mm ≤ m := slices_Repeat_int_int.mins hmm hk1 hlt
   obtain ⟨i0, hi0, hz0, hz1, hz2⟩ := info_parts info3
   have hc1 : ∀ W : World, (Instr.slice 29 (.slice (some ⟨g, 0, none⟩) m cap) (some (.int .i64 (kk : Int))) none none).run Try.prog W = .ok (.slice (some ⟨g, kk, none⟩) (m - kk) (cap - kk)) W := by
    intro W
    rw [cut_from 29 3 .i64 Try.underlying29 hi0 1 hz1 (some ⟨g, 0, none⟩) m cap (kk : Int) (by omega) (by omega) W]
    rw [Int.toNat_natCast, if_neg (by have := HNC.out; omega), Nat.mul_one]
    simp only [Option.map_some, add_plain]
   have hc2 : ∀ W : World, (Instr.slice 29 (.slice (some ⟨g, 0, none⟩) m cap) none (some (.int .i64 (kk : Int))) none).run Try.prog W = .ok (.slice (some ⟨g, 0, none⟩) kk cap) W := by
    intro W
    rw [cut_to 29 3 .i64 Try.underlying29 hi0 (some ⟨g, 0, none⟩) m cap (kk : Int) (by omega) (by omega) HNC.out W, Int.toNat_natCast]
   have hsum : IntKind.i64.wrap ((kk : Int) + (mm : Int)) = ((kk + mm : Nat) : Int) := by
    rw [IntKind.wrap_i64]
    have := LH.out
    omega
   have hrun : ∀ W : World, Aside0 (W.heap[g]? = some (.cells L'.toArray 3 (0, 0))) → True := fun _ _ => trivial
   have GG := Aside0.mk hgg
   have MM := Aside0.mk hm1
   have ME := Aside0.mk hmm
   clear hgg hm1 hmm hi0 hz0 hz1 hz2 hrun
   go_wp2
   go_region_law (refine step_copy_splice rfl (.tmp 41) (.tmp 44) 29 29 rfl 3 Try.underlying29 (by kernel_rfl) (some ⟨g, kk, none⟩) (some ⟨g, 0, none⟩) (m - kk) (cap - kk) kk cap (by simp [Act.eval, Act.put]) (by simp [Act.eval, Act.put]) g kk L' 3 HG.out (List.replicate mm (.int .i64 x)) (by rw [List.length_replicate]; exact ME.out) (fun _ => ⟨rfl, _, rfl, fun j v hj => slices_Repeat_int_int.cells HG.out j v (by rw [(slices_Repeat_int_int.rep hj).2]; exact HX.out j (by have := (slices_Repeat_int_int.rep hj).1; have := MM.out; omega))⟩) (by rw [List.length_replicate]; have := MM.out; have := HNC.out; have := HL.out; omega) (by intro v hv; rw [List.mem_replicate] at hv; rw [hv.2]; rfl) w.heap.size w (by repeat (first | exact HB.out | apply pw_below_drewN | apply below_drew)) HBG.out ?_; intro w4 hg4 hb4)
   all_goals
    go_wp2
    go_roundg (m - (kk + mm))
    case measure => have := GG.out; have := MM.out; omega
    case rel => exact ⟨kk + mm, _, by first | rfl | (simp; done), by omega, MM.out.2.2, Nat.le_refl _, ⟨hg4.out⟩, ⟨by rw [length_splice _ _ _ (by rw [List.length_replicate]; have := MM.out; have := HNC.out; have := HL.out; omega)]; exact HL.out⟩, ⟨slices_Repeat_int_int.spl HX.out (by have := MM.out; have := HNC.out; have := HL.out; omega)⟩, ⟨hb4⟩⟩
end Go.Proofs.Ytecbcibblmknpaa.XFnShelf
