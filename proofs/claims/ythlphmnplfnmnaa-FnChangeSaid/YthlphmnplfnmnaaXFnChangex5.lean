-- PRINTED by xprint.py (our own program, over the kit's print.py)
import Derived.Test.YthlphmnplfnmnaaXFnChangex0
import Derived.Test.YthlphmnplfnmnaaXFnChangex4
namespace Go.Proofs.Ythlphmnplfnmnaa.XFnChange
open Go.RowKit Go.Proofs.YthlphmnplfnmnaaW.PrintWords Go.Proofs.YthlphmnplfnmnaaW.PrintLast Go.Proofs.YthlphmnplfnmnaaW.PrintMore Go.Proofs.YthlphmnplfnmnaaW.Idx
attribute [local go_sem] max2_int min2_int max_two min_two max_three min_three max_four min_four   -- for this text's walks alone
set_option linter.unusedVariables false
set_option linter.unusedSimpArgs false

/-! ### slices_Repeat_int_int: function 57 -/
def slices_Repeat_int_int.f (l0 : List Int) (a1 : Int) : Option (List Int) := if l0.length = 1 ∧ 1 ≤ a1 ∧ a1 ≤ 17592186044415 then some (List.replicate a1.toNat (rd l0 0)) else none

theorem slices_Repeat_int_int.hi (m : Int) (h0 : 0 ≤ m) (h1 : m ≤ 17592186044415) : bits_Mul.f 1 m = some (0, m) := by
  have wr : ∀ x : Int, 0 ≤ x → x < 18446744073709551616 → IntKind.u64.wrap x = x := by
    intro x a b
    simp only [IntKind.wrap, IntKind.bits, IntKind.signed]
    simp
    omega
  have e1 : Go.bits .and .u64 1 4294967295 = 1 := by decide
  have e0 : Go.bits .and .u64 0 4294967295 = 0 := by decide
  have em : Go.bits .and .u64 m 4294967295 = m % 4294967296 := by
    obtain ⟨k, rfl⟩ := Int.eq_ofNat_of_zero_le h0
    have h := u64_and_nat k 4294967295 (by omega) (by omega)
    rw [show ((4294967295 : Nat) : Int) = 4294967295 by rfl] at h
    rw [h, show (4294967295 : Nat) = 2 ^ 32 - 1 by decide, Nat.and_two_pow_sub_one_eq_mod]
    omega
  unfold bits_Mul.f bits_Mul64.f
  rw [e1, em]
  simp only [Option.bind_some, Int.one_mul, show (1 : Int) / 4294967296 = 0 by decide, Int.zero_mul]
  have hl := Int.emod_nonneg m (show (4294967296 : Int) ≠ 0 by decide)
  have hl2 := Int.emod_lt_of_pos m (show (0 : Int) < 4294967296 by decide)
  have hd : 0 ≤ m / 4294967296 := Int.ediv_nonneg h0 (by decide)
  have hd2 : m / 4294967296 ≤ m := Int.ediv_le_self _ h0
  rw [wr 0 (by decide) (by decide), wr (m % 4294967296) hl (by omega), show m % 4294967296 / 4294967296 = 0 by omega]
  have z0 : IntKind.u64.wrap 0 = 0 := wr 0 (by decide) (by decide)
  have zm : IntKind.u64.wrap (m / 4294967296) = m / 4294967296 := wr _ hd (by omega)
  have zz : m / 4294967296 / 4294967296 = 0 := by omega
  simp only [show (0 : Int) + 0 = 0 by rfl, z0, e0, zm, Int.zero_add, zz, show (0 : Int) / 4294967296 = 0 by decide, wr m h0 (by omega)]
theorem slices_Repeat_int_int.shape {w : World} {base e n : Nat} {v : Value} (h : Kd.R (Kd.int .i64) e w base (fun _ => True) v (List.replicate n 0)) (hn : 0 < n) :
    ∃ (g cap : Nat) (L : List Value), v = .slice (some ⟨g, 0, none⟩) n cap ∧ base ≤ g ∧ w.heap[g]? = some (.cells L.toArray e (0, 0)) ∧ n ≤ cap ∧ cap ≤ 9223372036854775807 ∧ L.length = cap := by
  have ho := Kd.own_of_R h
  rw [List.length_replicate] at ho
  rcases ho.2 with ⟨_, h0⟩ | ⟨g, cap, cur, rfl, hb, hg, hle, hm, hs, _⟩
  · omega
  · exact ⟨g, cap, cur.toList, rfl, hb, by simpa using hg, hle, by simpa [maxLen] using hm, by simpa using hs⟩
theorem slices_Repeat_int_int.fin {w : World} {base e n g cap : Nat} {L : List Value} (x : Int) (hb : base ≤ g) (hg : w.heap[g]? = some (.cells L.toArray e (0, 0))) (hL : L.length = cap) (hn : n ≤ cap) (hm : cap ≤ 9223372036854775807) (hx : ∀ j, j < n → L[j]? = some (.int .i64 x)) :
    Kd.R (Kd.int .i64) e w base (fun _ => True) (.slice (some ⟨g, 0, none⟩) n cap) (List.replicate n x) := by
  refine Kd.R_of_own ⟨by simp [encs], .inr ⟨g, cap, L.toArray, by rw [List.length_replicate], hb, hg, by rw [List.length_replicate]; exact hn, by simpa [maxLen] using hm, by simpa using hL, ?_⟩⟩ (fun _ _ => trivial)
  rw [List.length_replicate, Nat.mul_one]
  apply List.ext_getElem?
  intro j
  rw [List.getElem?_take]
  by_cases hj : j < n
  · rw [if_pos hj, hx j hj]
    simp [encs, hj]
  · rw [if_neg hj]
    simp [encs, hj]
theorem slices_Repeat_int_int.spl {L : List Value} {kk mm : Nat} {v : Value} (hx : ∀ j, j < kk → L[j]? = some v) (hl : kk + mm ≤ L.length) : ∀ j, j < kk + mm → (splice L kk (List.replicate mm v))[j]? = some v := by
  intro j hj
  unfold splice
  have e : (L.take kk).length = kk := by rw [List.length_take]; omega
  by_cases h : j < kk
  · rw [List.getElem?_append_left (by omega), List.getElem?_take, if_pos h, hx j h]
  · rw [List.getElem?_append_right (by omega), e, List.getElem?_append_left (by rw [List.length_replicate]; omega), List.getElem?_replicate, if_pos (by omega)]
theorem slices_Repeat_int_int.rep {α : Type} {n j : Nat} {x v : α} (h : (List.replicate n x)[j]? = some v) : j < n ∧ v = x := by
  rw [List.getElem?_replicate] at h
  split at h
  · injection h with h
    exact ⟨by assumption, h.symm⟩
  · cases h
theorem slices_Repeat_int_int.mins {k n m : Nat} (hm : m = Nat.min k (n - k)) (h1 : 1 ≤ k) (h2 : k < n) : 1 ≤ m ∧ m ≤ k ∧ k + m ≤ n := by
  rcases Nat.le_total k (n - k) with h | h
  · have e : Nat.min k (n - k) = k := Nat.min_eq_left h
    omega
  · have e : Nat.min k (n - k) = n - k := Nat.min_eq_right h
    omega
theorem slices_Repeat_int_int.spl1 {L : List Value} {v : Value} (hl : 1 ≤ L.length) : ∀ j, j < 1 → (splice L 0 [v])[j]? = some v := slices_Repeat_int_int.spl (L := L) (kk := 0) (mm := 1) (fun j hj => absurd hj (Nat.not_lt_zero _)) (by omega)
theorem slices_Repeat_int_int.cells {W : World} {g e : Nat} {L : List Value} (h : W.heap[g]? = some (.cells L.toArray e (0, 0))) (j : Nat) (v : Value) (hv : L[j]? = some v) : W.cell? ((⟨g, 0, none⟩ : Addr).add j) = some v := by
  rw [add_plain, blk_cell h]
  simpa using hv

set_option maxHeartbeats 8000000 in
set_option maxRecDepth 100000 in
theorem slices_Repeat_int_int.calls (A0 : Option Addr) (c0 : Nat) (l0 : List Int) (a1 : Int) (r : List Int) (w : World) (hr0 : Kd.C (Kd.int .i64) w A0 l0.length l0) (hc0 : l0.length ≤ c0) (h : slices_Repeat_int_int.f l0 a1 = some r) :
    Calls Try.prog 57 #[.slice A0 l0.length c0, .int .i64 a1] w fun e w' => ∃ v0_ : Value, e = .returned (v0_) ∧ Kd.R (Kd.int .i64) 3 w' w.heap.size (fun _ => True) v0_ r ∧ Below w.heap.size w w' := by
  unfold slices_Repeat_int_int.f at h
  by_cases c1 : l0.length = 1 ∧ 1 ≤ a1 ∧ a1 ≤ 17592186044415
  · rw [if_pos c1] at h
    obtain rfl := Option.some.inj h
    clear h
    obtain ⟨hl, h1, h2⟩ := c1
    match l0, hl with
    | [x], _ =>
      have HM := Aside0.mk (slices_Repeat_int_int.hi a1 (by omega) h2)
      obtain ⟨m, rfl⟩ := Int.eq_ofNat_of_zero_le (show 0 ≤ a1 by omega)
      have HB := Aside0.mk (Below.refl w.heap.size w)
      obtain ⟨ad, e0, hx0⟩ := Kd.at_int hr0 0 (by omega) (by simp)
      subst e0
      simp only [Int.reduceToNat] at hx0
      have HX := Aside0.mk hx0
      have H1 := Aside0.mk h1
      have H2 := Aside0.mk h2
      have b0 : 0 ≤ (m : Int) := by omega
      have b1 : (m : Int) ≤ 17592186044415 := h2
      have d0 : decide ((m : Int) < 0) = false := decide_eq_false (by omega)
      have s3 : IntKind.u64.wrap (m : Int) = (m : Int) := by
        simp only [IntKind.wrap, IntKind.bits, IntKind.signed]
        simp
        omega
      have s4 : IntKind.i64.wrap (m : Int) = (m : Int) := by
        rw [IntKind.wrap_i64]
        omega
      have s5 : decide (9223372036854775807 < (m : Int)) = false := decide_eq_false (by omega)
      have LB := Aside0.mk b0
      have LH := Aside0.mk b1
      clear hr0 hc0 hx0 h1 h2
      go_enter Try.func57, Try.ntmps57
      go_wp2_with (first
        | (go_at_call 60; refine (bits_Mul.calls _ _ _ _ _ HM.out).mono ?_; rintro e w' ⟨rfl, ⟨nd, rfl⟩⟩)
        | ((with_reducible refine gate_dst (N := 30) rfl ?_); refine Kd.R_make (Kd.int .i64) _ 3 rfl (N := 30) rfl 48 _ _ rfl (m : Int) rfl rfl Try.underlying48 (.int .i64 0) 8 info3 rfl (by decide) (by omega) 0 (ok := fun _ => True) (okp := fun _ => True) rfl (fun _ hk => hk) trivial LB.out (by have := LH.out; omega) (Below.refl _ _) (Nat.le_refl _) ?_; intro v1 w1 ho hb hg_ hnew_; clear hg_ hnew_; rw [Int.toNat_natCast] at ho; obtain ⟨g, cap, L, rfl, hbg, hg, hnc, hcm, hL⟩ := slices_Repeat_int_int.shape ho (by have := H1.out; omega); have n6_ := Aside0.mk (below_step (by repeat (first | (with_reducible first | exact HB.out | apply below_alloc | apply pw_below_drewN | apply below_drew1) | exact HB.out)) hb); have HBG := Aside0.mk (Nat.le_trans (below_size (by repeat (first | (with_reducible first | exact HB.out | apply below_alloc | apply pw_below_drewN | apply below_drew1) | exact HB.out))) hbg); have HG := Aside0.mk hg; have HNC := Aside0.mk hnc; have HCM := Aside0.mk hcm; have HL := Aside0.mk hL; clear HB; have HB := n6_; clear n6_; clear hb ho hbg hg hnc hcm hL)
        | ((with_reducible refine gate_builtin (b := .copy) (xs := #[.tmp 31, .tmp 32]) rfl ?_); refine wpList_copy_splice rfl (.tmp 31) (.tmp 32) 48 48 rfl 3 Try.underlying48 (by kernel_rfl) (some ⟨g, 0, none⟩) (some ad) m cap 1 c0 rfl rfl g 0 L 3 HG.out [.int .i64 x] (by have := H1.out; simp [Nat.min_def]; omega) (fun _ => ⟨rfl, ad, rfl, fun j v hj => ?_⟩) (by have := H1.out; have := HNC.out; have := HL.out; simp; omega) (by simp [Value.oneCell']) w.heap.size w HB.out HBG.out ?_; (exact (by cases j with | zero => (simp at hj; subst hj; exact (HB.out.cell (World.block_lt_of_cell? w _ HX.out)).trans HX.out) | succ j => (simp at hj))); intro w2 hg2 hb2; have n1_ := Aside0.mk hg2.out; have n2_ := Aside0.mk hb2; clear HG HB; have HG := n1_; have HB := n2_; clear n1_ n2_ hg2 hb2))
      have HM1 := Aside0.mk (show 1 ≤ m by have := H1.out; omega)
      clear HM HX
      go_loopg [8] m (fun gg s8 wr => ∃ (kk : Nat) (L' : List Value), s8 = .int .i64 kk ∧ 1 ≤ kk ∧ kk ≤ m ∧ m - kk ≤ gg ∧ Aside0 (wr.heap[g]? = some (.cells L'.toArray 3 (0, 0))) ∧ Aside0 (L'.length = cap) ∧ Aside0 (∀ j, j < kk → L'[j]? = some (.int .i64 x)) ∧ Aside0 (Below w.heap.size w wr))
      case atStart =>
        exact ⟨1, _, rfl, by omega, HM1.out, by omega, HG, ⟨by rw [length_splice _ _ _ (by have := HM1.out; have := HNC.out; have := HL.out; simp; omega)]; exact HL.out⟩, ⟨slices_Repeat_int_int.spl1 (by have := HM1.out; have := HNC.out; have := HL.out; omega)⟩, HB⟩
      case round =>
        clear HG HB HL
        obtain ⟨kk, L', rfl, hk1, hkm, hgg, HG, HL, HX, HB⟩ := hrel
        by_cases hlt : kk < m
        · have hltz : decide ((kk : Int) < (m : Int)) = true := decide_eq_true (by omega)
          obtain ⟨mm, hmm⟩ : ∃ mm, mm = Nat.min kk (m - kk) := ⟨_, rfl⟩
          have hm1 : 1 ≤ mm ∧ mm ≤ kk ∧ kk + mm ≤ m := slices_Repeat_int_int.mins hmm hk1 hlt
          obtain ⟨i0, hi0, hz0, hz1, hz2⟩ := info_parts info3
          have hc1 : ∀ W : World, (Instr.slice 48 (.slice (some ⟨g, 0, none⟩) m cap) (some (.int .i64 (kk : Int))) none none).run Try.prog W = .ok (.slice (some ⟨g, kk, none⟩) (m - kk) (cap - kk)) W := by
            intro W
            rw [cut_from 48 3 .i64 Try.underlying48 hi0 1 hz1 (some ⟨g, 0, none⟩) m cap (kk : Int) (by omega) (by omega) W]
            rw [Int.toNat_natCast, if_neg (by have := HNC.out; omega), Nat.mul_one]
            simp only [Option.map_some, add_plain]
          have hc2 : ∀ W : World, (Instr.slice 48 (.slice (some ⟨g, 0, none⟩) m cap) none (some (.int .i64 (kk : Int))) none).run Try.prog W = .ok (.slice (some ⟨g, 0, none⟩) kk cap) W := by
            intro W
            rw [cut_to 48 3 .i64 Try.underlying48 hi0 (some ⟨g, 0, none⟩) m cap (kk : Int) (by omega) (by omega) HNC.out W, Int.toNat_natCast]
          have hsum : IntKind.i64.wrap ((kk : Int) + (mm : Int)) = ((kk + mm : Nat) : Int) := by
            rw [IntKind.wrap_i64]
            have := LH.out
            omega
          have hrun : ∀ W : World, Aside0 (W.heap[g]? = some (.cells L'.toArray 3 (0, 0))) → True := fun _ _ => trivial
          have GG := Aside0.mk hgg
          have MM := Aside0.mk hm1
          have ME := Aside0.mk hmm
          clear hgg hm1 hmm hi0 hz0 hz1 hz2 hrun
          go_wp2
          go_region_law (refine step_copy_splice rfl (.tmp 41) (.tmp 44) 48 48 rfl 3 Try.underlying48 (by kernel_rfl) (some ⟨g, kk, none⟩) (some ⟨g, 0, none⟩) (m - kk) (cap - kk) kk cap (by simp [Act.eval, Act.put]) (by simp [Act.eval, Act.put]) g kk L' 3 HG.out (List.replicate mm (.int .i64 x)) (by rw [List.length_replicate]; exact ME.out) (fun _ => ⟨rfl, _, rfl, fun j v hj => slices_Repeat_int_int.cells HG.out j v (by rw [(slices_Repeat_int_int.rep hj).2]; exact HX.out j (by have := (slices_Repeat_int_int.rep hj).1; have := MM.out; omega))⟩) (by rw [List.length_replicate]; have := MM.out; have := HNC.out; have := HL.out; omega) (by intro v hv; rw [List.mem_replicate] at hv; rw [hv.2]; rfl) w.heap.size w (by repeat (first | exact HB.out | apply pw_below_drewN | apply below_drew)) HBG.out ?_; intro w4 hg4 hb4)
          all_goals
            go_wp2
            go_roundg (m - (kk + mm))
            case measure => have := GG.out; have := MM.out; omega
            case rel => exact ⟨kk + mm, _, by first | rfl | (simp; done), by omega, MM.out.2.2, Nat.le_refl _, ⟨hg4.out⟩, ⟨by rw [length_splice _ _ _ (by rw [List.length_replicate]; have := MM.out; have := HNC.out; have := HL.out; omega)]; exact HL.out⟩, ⟨slices_Repeat_int_int.spl HX.out (by have := MM.out; have := HNC.out; have := HL.out; omega)⟩, ⟨hb4⟩⟩
        · have hltz : decide ((kk : Int) < (m : Int)) = false := decide_eq_false (by omega)
          obtain rfl : kk = m := by omega
          go_wp2
          go_ret
          exact ⟨_, by first | rfl | (simp; done) | (simp [*]; done), by rw [Int.toNat_natCast]; exact slices_Repeat_int_int.fin x HBG.out HG.out HL.out HNC.out HCM.out HX.out, HB.out⟩
  · rw [if_neg c1] at h
    cases h


/-! ### slices_Clone_int_int: function 58 -/
def slices_Clone_int_int.f (l0 : List Int) : Option (List Int) := if l0.length < 17592186044416 then some l0 else none
set_option maxHeartbeats 8000000 in
set_option maxRecDepth 100000 in
theorem slices_Clone_int_int.calls (A0 : Option Addr) (c0 : Nat) (l0 : List Int) (r : List Int) (w : World) (hr0 : Kd.C (Kd.int .i64) w A0 l0.length l0) (hc0 : l0.length ≤ c0) (h : slices_Clone_int_int.f l0 = some r) :
    Calls Try.prog 58 #[.slice A0 l0.length c0] w fun e w' => ∃ v0_ : Value, e = .returned (v0_) ∧ Kd.R (Kd.int .i64) 3 w' w.heap.size (fun _ => True) v0_ r ∧ Below w.heap.size w w' := by
  unfold slices_Clone_int_int.f at h
  by_cases c1 : l0.length < 17592186044416
  · rw [if_pos c1] at h
    obtain rfl := Option.some.inj h
    clear h
    have HB := Aside0.mk (Below.refl w.heap.size w)
    have q0 : ∀ (W : World) (a : Option Addr) (n c n' c' : Nat), (binOp .eql 48 (.slice a n c) (.slice none n' c')).run Try.prog W = .ok (.bool a.isNone) W := fun W a n c n' c' => Lib.run_eql_slice_nil W _ _ a n c n' c' Try.underlying48
    rcases A0 with _ | ad
    · have hz : l0 = [] := by
        by_cases hp : 0 < l0.length
        · obtain ⟨_, e, _⟩ := hr0.2.2 hp
          cases e
        · exact List.eq_nil_of_length_eq_zero (by omega)
      subst hz
      clear hr0 hc0 c1
      go_enter Try.func58, Try.ntmps58
      go_wp2
      go_ret
      exact ⟨_, rfl, Kd.R_nil _ _ _ _ _, HB.out⟩
    · have HR0 := Aside0.mk hr0
      have LM := Aside0.mk c1
      clear hr0 hc0 c1
      go_enter Try.func58, Try.ntmps58
      go_wp2_with (first
        | ((with_reducible refine gate_dst (N := 5) rfl ?_); (try (refine gate_guard (by rfl) ?_; dsimp only)); refine Kd.R_lit (Kd.int .i64) _ 3 ?hg (N := 5) ?hd (xs := ([] : List Int)) (inner := []) (ok := fun _ => True) (okp := fun _ => True) ?hr ?hp (fun _ hk => hk) trivial (Below.refl _ _) (Nat.le_refl _) (by simp) ?_; (case hd => rfl); (case hg => rfl); (case hr => first | (go_simp; done) | (go_simp; rfl)); (case hp => exact (Reps.none _ _)); intro v1 w1 ho1 hb hg_ hnew_; clear hg_ hnew_; have HO1 := Aside0.mk (Kd.R_lower ho1 (below_size (by repeat (first | (with_reducible first | exact HB.out | apply below_alloc | apply pw_below_drewN | apply below_drew1) | exact HB.out)))); have n6_ := Aside0.mk (below_step (by repeat (first | (with_reducible first | exact HB.out | apply below_alloc | apply pw_below_drewN | apply below_drew1) | exact HB.out)) hb); clear HB; have HB := n6_; clear n6_; clear hb ho1)
        | ((with_reducible refine gate_builtin (b := .append) (xs := #[.tmp 5, .tmp 6]) rfl ?_); (try (refine gate_guard (by rfl) ?_; dsimp only)); at_builtin; refine Kd.R_append_rows (Kd.int .i64) (w0 := w) w.heap.size rfl (.tmp 5) (.tmp 6) 48 3 (.int .i64 0) 8 rfl Try.underlying48 info3 rfl (by decide) (by omega) v1 [] l0 _ _ _ (fun _ => True) (fun _ => False) rfl rfl ?aO ?aR (fun _ _ h => h) (fun _ h => h.elim) ?aF ?aB ?aS ?aL ?_; (case aR => exact Kd.C_below HR0.out (by repeat (first | (with_reducible first | exact HB.out | apply below_alloc | apply pw_below_drewN | apply below_drew1) | exact HB.out))); (case aB => exact (by repeat (first | (with_reducible first | exact HB.out | apply below_alloc | apply pw_below_drewN | apply below_drew1) | exact HB.out))); (case aF => exact fun _ _ => trivial); (case aO => exact (by (with_reducible repeat (first | apply Kd.R_alloc | apply Kd.R_drewN | apply Kd.R_drew)); exact HO1.out)); (case aS => exact (below_size (by repeat (first | (with_reducible first | exact HB.out | apply below_alloc | apply pw_below_drewN | apply below_drew1) | exact HB.out)))); (case aL => have := LM.out; simp only [List.length_nil]; omega); intro v2 w2 ho hb hg hat; rw [List.nil_append] at ho; have n5_ := Aside0.mk hb; have n6_ := Aside0.mk ho; clear HB; have HB := n5_; have HO2 := n6_; clear n5_ n6_; clear ho hb hg hat))
      go_ret
      exact ⟨_, by first | rfl | (simp; done) | (simp [*]; done), HO2.out, HB.out⟩
  · rw [if_neg c1] at h
    cases h


/-! ### impl_fewest: function 47 -/
/-- The fewest coins for amount a, out of the row ahead and at most n coins of value v. -/
def impl_fewest.up (row : List Int) (v : Int) (a : Nat) : Nat → Int
  | 0 => rd row (a : Int)
  | n + 1 => mn (impl_fewest.up row v a n) (((n + 1 : Nat) : Int) + rd row ((a : Int) - ((n + 1 : Nat) : Int) * v))
def impl_fewest.fin (row : List Int) (c : S60) (a : Nat) : Int := impl_fewest.up row c.f0 a (Nat.min c.f1.toNat (a / c.f0.toNat))
def impl_fewest.nxt (row : List Int) (c : S60) : List Int := (List.range row.length).map (impl_fewest.fin row c)
def impl_fewest.tab (row : List Int) : List S60 → List (List Int)
  | [] => [row]
  | c :: cs => row :: impl_fewest.tab (impl_fewest.nxt row c) cs
def impl_fewest.first (due : Int) : List Int := 0 :: List.replicate due.toNat 721
def impl_fewest.good (due : Int) (l : List S60) : Prop := 0 ≤ due ∧ due ≤ 10000 ∧ l.length ≤ 12 ∧ ∀ c ∈ l, 1 ≤ c.f0 ∧ c.f0 ≤ 100000 ∧ 0 ≤ c.f1 ∧ c.f1 ≤ 60
instance (due : Int) (l : List S60) : Decidable (impl_fewest.good due l) := by unfold impl_fewest.good; exact inferInstance
def impl_fewest.f (a0 : Int) (l1 : List S60) : Option (List (List Int)) := if impl_fewest.good a0 l1 then some (impl_fewest.tab (impl_fewest.first a0) l1) else none
def impl_fewest.cur (row : List Int) (l : List S60) : List Int := l.foldl impl_fewest.nxt row
theorem impl_fewest.tab_snoc : ∀ (l : List S60) (row : List Int) (c : S60), impl_fewest.tab row (l ++ [c]) = impl_fewest.tab row l ++ [impl_fewest.nxt (impl_fewest.cur row l) c] := by
  intro l
  induction l with
  | nil => intro row c; rfl
  | cons d l ih => intro row c; rw [List.cons_append, impl_fewest.tab, impl_fewest.tab, ih]; rfl
theorem impl_fewest.tab_len : ∀ (l : List S60) (row : List Int), (impl_fewest.tab row l).length = l.length + 1 := by
  intro l
  induction l with
  | nil => intro row; rfl
  | cons d l ih => intro row; rw [impl_fewest.tab, List.length_cons, ih, List.length_cons]
theorem impl_fewest.tab_last : ∀ (l : List S60) (row : List Int), (impl_fewest.tab row l).getD l.length [] = impl_fewest.cur row l := by
  intro l
  induction l with
  | nil => intro row; rfl
  | cons d l ih => intro row; rw [impl_fewest.tab, List.length_cons, List.getD_cons_succ, ih]; rfl
theorem impl_fewest.nxt_len (row : List Int) (c : S60) : (impl_fewest.nxt row c).length = row.length := by simp [impl_fewest.nxt]
theorem impl_fewest.cur_len : ∀ (l : List S60) (row : List Int), (impl_fewest.cur row l).length = row.length := by
  intro l
  induction l with
  | nil => intro row; rfl
  | cons d l ih => intro row; show (impl_fewest.cur (impl_fewest.nxt row d) l).length = _; rw [ih, impl_fewest.nxt_len]
def impl_fewest.bd (row : List Int) : Prop := ∀ i : Int, 0 ≤ rd row i ∧ rd row i ≤ 721
theorem impl_fewest.bd_of {row : List Int} (h : ∀ x ∈ row, 0 ≤ x ∧ x ≤ 721) : impl_fewest.bd row := by
  intro i
  unfold rd
  rw [List.getD_eq_getElem?_getD]
  cases e : row[i.toNat]? with
  | none => exact ⟨by decide, by decide⟩
  | some y => exact h y (List.mem_of_getElem? e)
theorem impl_fewest.up_bd {row : List Int} (h : impl_fewest.bd row) (v : Int) (a n : Nat) : 0 ≤ impl_fewest.up row v a n ∧ impl_fewest.up row v a n ≤ 721 := by
  induction n with
  | zero => exact h _
  | succ n ih =>
    have := h ((a : Int) - ((n + 1 : Nat) : Int) * v)
    rw [impl_fewest.up]
    generalize rd row ((a : Int) - ((n + 1 : Nat) : Int) * v) = z at this ⊢
    unfold mn
    split <;> omega
theorem impl_fewest.nxt_bd {row : List Int} (h : impl_fewest.bd row) (c : S60) : impl_fewest.bd (impl_fewest.nxt row c) := by
  refine impl_fewest.bd_of (fun x hx => ?_)
  obtain ⟨a, _, rfl⟩ := List.mem_map.1 hx
  exact impl_fewest.up_bd h _ _ _
theorem impl_fewest.cur_bd : ∀ (l : List S60) {row : List Int}, impl_fewest.bd row → impl_fewest.bd (impl_fewest.cur row l) := by
  intro l
  induction l with
  | nil => intro row h; exact h
  | cons d l ih => intro row h; exact ih (impl_fewest.nxt_bd h d)
theorem impl_fewest.first_bd (due : Int) : impl_fewest.bd (impl_fewest.first due) := by
  refine impl_fewest.bd_of (fun x hx => ?_)
  rcases List.mem_cons.1 hx with h | h
  · omega
  · have := List.eq_of_mem_replicate h; omega
/-- The row in the making, the amounts below a being done. -/
def impl_fewest.mid (row : List Int) (c : S60) (a : Nat) : List Int := (List.range a).map (impl_fewest.fin row c) ++ row.drop a
theorem impl_fewest.mid_zero (row : List Int) (c : S60) : impl_fewest.mid row c 0 = row := by simp [impl_fewest.mid]
theorem impl_fewest.mid_end (row : List Int) (c : S60) : impl_fewest.mid row c row.length = impl_fewest.nxt row c := by simp [impl_fewest.mid, impl_fewest.nxt]
theorem impl_fewest.mid_len {row : List Int} {c : S60} {a : Nat} (h : a ≤ row.length) : (impl_fewest.mid row c a).length = row.length := by simp [impl_fewest.mid]; omega
theorem impl_fewest.mid_set {row : List Int} {c : S60} {a : Nat} (h : a < row.length) : (impl_fewest.mid row c a).set a (impl_fewest.up row c.f0 a 0) = impl_fewest.mid row c a := by
  apply List.ext_getElem?
  intro j
  rw [List.getElem?_set]
  by_cases e : a = j
  · subst e
    rw [if_pos rfl, if_pos (by rw [impl_fewest.mid_len (by omega)]; exact h)]
    unfold impl_fewest.mid impl_fewest.up rd
    rw [List.getElem?_append_right (by simp), Int.toNat_natCast, List.getD_eq_getElem?_getD]
    simp [List.getElem?_eq_getElem h]
  · rw [if_neg e]
theorem impl_fewest.mid_step {row : List Int} {c : S60} {a : Nat} (h : a < row.length) : (impl_fewest.mid row c a).set a (impl_fewest.fin row c a) = impl_fewest.mid row c (a + 1) := by
  apply List.ext_getElem?
  intro j
  rw [List.getElem?_set]
  by_cases e : a = j
  · subst e
    rw [if_pos rfl, if_pos (by rw [impl_fewest.mid_len (by omega)]; exact h)]
    unfold impl_fewest.mid
    rw [List.getElem?_append_left (by simp)]
    simp
  · rw [if_neg e]
    unfold impl_fewest.mid
    by_cases hj : j < a
    · rw [List.getElem?_append_left (by simpa using hj), List.getElem?_append_left (by simp; omega)]
      simp [hj, show j < a + 1 by omega]
    · rw [List.getElem?_append_right (by simp; omega), List.getElem?_append_right (by simp; omega)]
      simp
      congr 1
      omega
theorem impl_fewest.cnt {c : S60} {a n : Nat} (h1 : 1 ≤ c.f0) (h2 : 0 ≤ c.f1) : n ≤ Nat.min c.f1.toNat (a / c.f0.toNat) ↔ (n : Int) ≤ c.f1 ∧ (n : Int) * c.f0 ≤ a := by
  obtain ⟨v, hv⟩ := Int.eq_ofNat_of_zero_le (show 0 ≤ c.f0 by omega)
  rw [hv, Int.toNat_natCast, show Nat.min c.f1.toNat (a / v) = min c.f1.toNat (a / v) from rfl, Nat.le_min, Nat.le_div_iff_mul_le (by omega)]
  constructor
  · rintro ⟨h3, h4⟩
    exact ⟨by omega, by exact_mod_cast h4⟩
  · rintro ⟨h3, h4⟩
    exact ⟨by omega, by exact_mod_cast h4⟩
theorem impl_fewest.look {W : World} {base : Nat} {ok : Nat → Prop} {A : Option Addr} {n c : Nat} {X : List (List Int)} (h : Kd.S (Kd.slice 3 (Kd.int .i64)) 48 W base ok (.slice A n c) X) (k : Nat) (hk : k < n) :
    ∃ ad A2 c2, A = some ad ∧ W.cell? (ad.add k) = some (.slice A2 (X.getD k []).length c2) ∧ (X.getD k []).length ≤ c2 ∧ Kd.C (Kd.int .i64) W A2 (X.getD k []).length (X.getD k []) := by
  obtain ⟨e1, e2, hC⟩ := Kd.S_reads' h
  obtain ⟨ad, cs, rfl, _, hK, hcc⟩ := Kd.C_get hC [] (k : Int) (by omega) (by omega)
  rw [Int.toNat_natCast] at hK hcc
  obtain ⟨A2, c2, rfl, hl, hr⟩ := hK
  refine ⟨ad, A2, c2, rfl, ?_, hl, hr⟩
  have := hcc 0 _ rfl
  rwa [show (Kd.slice 3 (Kd.int .i64)).sz = 1 from rfl, Nat.mul_one, Nat.add_zero] at this

theorem impl_fewest.lit1 {W : World} {base g n c : Nat} {row : List Int} (h : Kd.R (Kd.int .i64) 3 W base (fun k_ => some k_ = some g) (.slice (some ⟨g, 0, none⟩) n c) row) (hb : base ≤ W.heap.size) (hg : g < W.heap.size) :
    Kd.S (Kd.slice 3 (Kd.int .i64)) 48 (W.alloc (.cells #[.slice (some ⟨g, 0, none⟩) n c] 48)) base (fun _ => True) (.slice (some ⟨W.heap.size, 0, none⟩) 1 1) [row] := by
  refine ⟨fun _ => 0, fun _ _ => trivial, OwnRow.lit (ps := [(row, 0)]) W base (inner := [.slice (some ⟨g, 0, none⟩) n c]) (Reps.one ?_ (Reps.none _ _)) hb (by simp)⟩
  refine Kd.M_row (Kd.R_mono (Kd.R_alloc h _) (fun k_ hk => ⟨⟨trivial, ?_⟩, rfl⟩))
  intro e
  have e1 : k_ = g := Option.some.inj hk
  have e2 : k_ = W.heap.size := Option.some.inj e
  omega
def impl_fewest.T14 : Bool × List (List Nat × List Nat) := (true, [([], []), ([], []), ([], []), ([], []), ([2, 3], [2, 3]), ([4], [4]), ([], []), ([], []), ([], []), ([7, 8], [7, 8]), ([9], [9]), ([], []), ([], []), ([], []), ([13], [13]), ([12, 14], [12, 14]), ([11, 15], [11, 15]), ([10, 16], [10, 16]), ([17], [17]), ([6, 18], [6, 18]), ([5, 19], [5, 19]), ([0, 1, 0, 1, 2, 3, 4, 5, 6, 7, 8, 9, 10, 11, 12, 13, 14, 15, 16, 17, 18, 19, 20], [0, 1]), ([21, 20, 0, 1, 2, 3, 4, 5, 6, 7, 8, 9, 10, 11, 12, 13, 14, 15, 16, 17, 18, 19, 20], [20, 21])])
def impl_fewest.B14 : List Nat := [0, 0, 0, 0, 12, 28, 0, 0, 0, 384, 896, 0, 0, 0, 8192, 28672, 63488, 130944, 262016, 524224, 1048572, 2097151, 4194303]
theorem impl_fewest.tab14 : rtab .any (opsOf Try.f47 14) = impl_fewest.T14 := by kernel_rfl
theorem impl_fewest.bits14 : waitsOk impl_fewest.T14.2 impl_fewest.B14 = true := by kernel_rfl
set_option maxHeartbeats 8000000 in
set_option maxRecDepth 100000 in
theorem impl_fewest.calls (a0 : Int) (A1 : Option Addr) (c1 : Nat) (l1 : List (S60)) (r : List (List Int)) (w : World) (hr1 : Kd.C k60 w A1 l1.length l1) (hc1 : l1.length ≤ c1) (h : impl_fewest.f a0 l1 = some r) :
    Calls Try.prog 47 #[.int .i64 a0, .slice A1 l1.length c1] w fun e w' => ∃ v0_ : Value, e = .returned (v0_) ∧ Kd.S (Kd.slice 3 (Kd.int .i64)) 48 w' w.heap.size (fun _ => True) v0_ r ∧ Below w.heap.size w w' := by
  unfold impl_fewest.f at h
  by_cases hg : impl_fewest.good a0 l1
  case neg =>
    rw [if_neg hg] at h
    cases h
  rw [if_pos hg] at h
  obtain rfl := Option.some.inj h
  clear h
  obtain ⟨h0, h1, hl, hc⟩ := hg
  obtain ⟨n0, rfl⟩ := Int.eq_ofNat_of_zero_le h0
  have HR0 := Aside0.mk hr1
  have HC := Aside0.mk hc
  have HL := Aside0.mk hl
  have HN := Aside0.mk (show n0 ≤ 10000 by omega)
  have hn1 : (n0 : Int) ≤ 10000 := h1
  have HREP := Aside0.mk (show slices_Repeat_int_int.f [721] ((n0 : Int) + 1) = some (List.replicate (n0 + 1) 721) by unfold slices_Repeat_int_int.f; rw [if_pos ⟨rfl, by omega, by omega⟩]; rfl)
  have HB := Aside0.mk (Below.refl w.heap.size w)
  clear hr1 hc hl h0 h1 hc1
  go_enter Try.func47, Try.ntmps47
  go_wp2_with (first
    | ((with_reducible refine gate_dst (N := 12) rfl ?_); refine Kd.R_lit (Kd.int .i64) _ 3 ?hg (N := 12) ?hd (xs := ([721] : List Int)) (inner := [.int .i64 721]) (ok := fun _ => True) (okp := fun _ => True) ?hr ?hp (fun _ hk => hk) trivial (Below.refl _ _) (Nat.le_refl _) (by simp) ?_; (case hd => rfl); (case hg => rfl); (case hr => first | (go_simp; done) | (go_simp; rfl)); (case hp => exact (Reps.one (show Kd.M (Kd.int .i64) _ _ _ 721 [.int .i64 721] from rfl) (Reps.none _ _))); intro v1 w1 ho1 hb hg_ hnew_; clear hg_ hnew_; have HO1 := Aside0.mk ho1; have n6_ := Aside0.mk (below_step HB.out hb); clear HB; have HB := n6_; clear n6_; clear hb ho1; obtain ⟨A1_, c1_, hv1_⟩ := Kd.R_slice HO1.out; subst hv1_)
    | (go_at_call 57; refine (slices_Repeat_int_int.calls _ _ [721] ((n0 : Int) + 1) _ _ (Kd.R_reads' HO1.out).2.2 (Kd.R_reads' HO1.out).2.1 HREP.out).mono ?_; rintro e w2 ⟨v2, rfl, ho2, hb2⟩; obtain ⟨g2, cap2, hv2, hbg2, hlg2, cells2, hcl2⟩ := Kd.R_form ho2 (by simp); subst hv2; have HG2 := Aside0.mk (Nat.le_trans (below_size HB.out) hbg2); have HO2 := Aside0.mk (Kd.R_lower ho2 (below_size HB.out)); have n6_ := Aside0.mk (below_step HB.out hb2); clear HB; have HB := n6_; clear n6_ ho2 hb2 HO1 hbg2 hlg2 hcl2 cells2; obtain ⟨hx2, hf2⟩ := Kd.R_celln 0 HO2.out 0 (by omega) (by simp); rw [show ((0 : Int).toNat) = 0 from rfl] at hx2 hf2))
  have HO3 : Aside0 (Kd.R (Kd.int .i64) 3 (w2.setCell ⟨g2, 0, none⟩ (.int .i64 0)) w.heap.size (fun k_ => some k_ = some g2) (.slice (some ⟨g2, 0, none⟩) (n0 + 1) cap2) (impl_fewest.first (n0 : Int))) := by
    have h_ := Kd.R_putn (Kd.R_tight rfl HO2.out) 0 0
    rw [List.length_replicate] at h_
    exact ⟨h_⟩
  have HB3 : Aside0 (Below w.heap.size w (w2.setCell ⟨g2, 0, none⟩ (.int .i64 0))) := ⟨below_set HB.out HG2.out⟩
  clear HREP HO2 hx2 hf2 HB
  go_loopg [6, 22] l1.length (fun gg v6 v22 wr => ∃ k : Nat, k ≤ l1.length ∧ l1.length - k ≤ gg ∧ v22 = .int .i64 k ∧ Aside0 (Kd.S (Kd.slice 3 (Kd.int .i64)) 48 wr w.heap.size (fun _ => True) v6 (impl_fewest.tab (impl_fewest.first (n0 : Int)) (l1.take k))) ∧ Aside0 (Below w.heap.size w wr))
  case atStart => exact ⟨0, Nat.zero_le _, by omega, rfl, ⟨by have h_ := impl_fewest.lit1 HO3.out (below_size HB3.out) (Kd.R_lt HO3.out _ rfl); rwa [World.size_setCell] at h_⟩, ⟨below_alloc HB3.out _⟩⟩
  case round =>
    clear HO3 HB3
    obtain ⟨k, hk, hgg, rfl, HS, HB⟩ := hrel
    by_cases hlt : k < l1.length
    · have hltz : decide ((k : Int) < (l1.length : Int)) = true := decide_eq_true (by omega)
      obtain ⟨ad0, e0, hx0, hx1⟩ := at_T60 (Kd.C_below HR0.out HB.out) (k : Int) (by omega) (by omega)
      cases e0
      simp only [Int.toNat_natCast] at hx0 hx1
      have HT := Aside0.mk (show l1.take (k + 1) = l1.take k ++ [rd_T60 l1 (k : Int)] by
        rw [List.take_succ_eq_append_getElem hlt]
        unfold rd_T60
        rw [Int.toNat_natCast, List.getD_eq_getElem?_getD, List.getElem?_eq_getElem hlt]
        rfl)
      have hcb := HC.out (rd_T60 l1 (k : Int)) (by
        unfold rd_T60
        rw [Int.toNat_natCast, List.getD_eq_getElem?_getD, List.getElem?_eq_getElem hlt]
        exact List.getElem_mem hlt)
      generalize rd_T60 l1 (k : Int) = c at hx0 hx1 hcb HT
      obtain ⟨hc1, hc2, hc3, hc4⟩ := hcb
      have hXk := impl_fewest.tab_last (l1.take k) (impl_fewest.first (n0 : Int))
      have hXl := impl_fewest.tab_len (l1.take k) (impl_fewest.first (n0 : Int))
      have HCU := Aside0.mk (show (impl_fewest.cur (impl_fewest.first (n0 : Int)) (l1.take k)).length = n0 + 1 by rw [impl_fewest.cur_len]; simp [impl_fewest.first])
      have HBD := Aside0.mk (impl_fewest.cur_bd (l1.take k) (impl_fewest.first_bd (n0 : Int)))
      have HTS := Aside0.mk (impl_fewest.tab_snoc (l1.take k) (impl_fewest.first (n0 : Int)) c)
      rw [List.length_take, Nat.min_eq_left (by omega)] at hXk hXl
      generalize impl_fewest.tab (impl_fewest.first (n0 : Int)) (l1.take k) = X at HS hXk hXl HTS
      generalize impl_fewest.cur (impl_fewest.first (n0 : Int)) (l1.take k) = cur at hXk HCU HBD HTS
      obtain ⟨Av, cv, hv6⟩ := Kd.S_slice HS.out
      subst hv6
      obtain ⟨adx, A2, c2, e2, hy, hlc, hC2⟩ := impl_fewest.look HS.out k (by omega)
      cases e2
      rw [hXk] at hy hlc hC2
      have HXL := Aside0.mk hXl
      have HXK := Aside0.mk hXk
      have HLC := Aside0.mk hlc
      have HC2 := Aside0.mk hC2
      have hkx : (k : Int) < (X.length : Int) := by omega
      have HCL := Aside0.mk (show slices_Clone_int_int.f cur = some cur by unfold slices_Clone_int_int.f; rw [if_pos (by have := HCU.out; have := HN.out; omega)])
      have hy2 : ∀ o : Obj, (wr.alloc o).cell? (adx.add k) = some (.slice A2 cur.length c2) := fun o => (((Below.refl _ _).alloc (Nat.le_refl _) o).cell (World.block_lt_of_cell? wr _ hy)).trans hy
      clear hXl hXk hlc hC2 hy
      go_wp2_with (go_at_call 58; refine (slices_Clone_int_int.calls _ _ cur _ _ (by repeat (first | exact HC2.out | apply Kd.C_alloc)) HLC.out HCL.out).mono ?_; rintro e w6 ⟨v6, rfl, ho6, hb6⟩; obtain ⟨g6, cap6, hv6, hbg6, hlg6, cells6, hcl6⟩ := Kd.R_form ho6 (by have := HCU.out; omega); subst hv6; have HB6 := Aside0.mk hb6; have HO6 := Aside0.mk (Kd.R_lower ho6 (below_size (below_alloc HB.out _))); have HG6 := Aside0.mk hbg6; clear hb6 ho6 hbg6 hlg6 hcl6 cells6)
      have HS6 : Aside0 (Kd.S (Kd.slice 3 (Kd.int .i64)) 48 w6 w.heap.size (fun k_ => k_ ≠ g6) (.slice (some adx) X.length cv) X) := ⟨Kd.S_mono (Kd.S_old HS.out (below_step (below_alloc (Below.refl _ _) _) HB6.out)) (fun k_ hk_ e_ => by have h1_ := hk_.2; have h2_ := HG6.out; simp at h2_; omega)⟩
      have HK6 : Aside0 (w6.heap[wr.heap.size]? = some (.cells #[.int .i64 c.f0, .int .i64 c.f1] 60 (0, 0))) := ⟨blk_below (blk_new wr _) HB6.out⟩
      have HB7 : Aside0 (Below w.heap.size w w6) := ⟨below_step (below_alloc HB.out _) HB6.out⟩
      have HG7 : Aside0 (wr.heap.size < g6 ∧ w.heap.size ≤ wr.heap.size) := ⟨by have h2_ := HG6.out; simp at h2_; omega, below_size HB.out⟩
      have HO7 : Aside0 (Kd.R (Kd.int .i64) 3 w6 w.heap.size (fun k_ => k_ = g6) (.slice (some ⟨g6, 0, none⟩) cur.length cap6) (impl_fewest.mid cur c 0)) := ⟨by rw [impl_fewest.mid_zero]; exact Kd.R_mono (Kd.R_tight rfl HO6.out) (fun k_ hk_ => Option.some.inj hk_)⟩
      clear hx0 hx1 hy2 HS HC2 HLC HCL HO6 HB6 HG6 HR0
      obtain ⟨wo, rfl⟩ : ∃ wo : World, wo = wr := ⟨_, rfl⟩
      go_loopg [34] cur.length (fun gg2 v34 wa => ∃ a : Nat, a ≤ cur.length ∧ cur.length - a ≤ gg2 ∧ v34 = .int .i64 a ∧ Aside0 (Kd.R (Kd.int .i64) 3 wa w.heap.size (fun k_ => k_ = g6) (.slice (some ⟨g6, 0, none⟩) cur.length cap6) (impl_fewest.mid cur c a)) ∧ Aside0 (Kd.S (Kd.slice 3 (Kd.int .i64)) 48 wa w.heap.size (fun k_ => k_ ≠ g6) (.slice (some adx) X.length cv) X) ∧ Aside0 (wa.heap[wo.heap.size]? = some (.cells #[.int .i64 c.f0, .int .i64 c.f1] 60 (0, 0))) ∧ Aside0 (Below w.heap.size w wa))
      case atStart => exact ⟨0, Nat.zero_le _, by omega, rfl, HO7, HS6, HK6, HB7⟩
      case round =>
        clear HO7 HS6 HK6 HB7
        obtain ⟨a, ha, hgg2, rfl, HO, HS, HK, HBa⟩ := hrel
        by_cases hla : a < cur.length
        · have hlaz : decide ((a : Int) < (cur.length : Int)) = true := decide_eq_true (by omega)
          go_wp2
          obtain ⟨wm, rfl⟩ : ∃ wm : World, wm = wr := ⟨_, rfl⟩
          go_loopg [11] (Nat.min c.f1.toNat (a / c.f0.toNat)) (fun gg3 v11 wr => ∃ m : Nat, m ≤ Nat.min c.f1.toNat (a / c.f0.toNat) ∧ Nat.min c.f1.toNat (a / c.f0.toNat) - m ≤ gg3 ∧ v11 = .int .i64 ((m : Int) + 1) ∧ Aside0 (Kd.R (Kd.int .i64) 3 wr w.heap.size (fun k_ => k_ = g6) (.slice (some ⟨g6, 0, none⟩) cur.length cap6) ((impl_fewest.mid cur c a).set a (impl_fewest.up cur c.f0 a m))) ∧ Aside0 (Kd.S (Kd.slice 3 (Kd.int .i64)) 48 wr w.heap.size (fun k_ => k_ ≠ g6) (.slice (some adx) X.length cv) X) ∧ Aside0 (wr.heap[wo.heap.size]? = some (.cells #[.int .i64 c.f0, .int .i64 c.f1] 60 (0, 0))) ∧ Aside0 (Below w.heap.size w wr))
          case atStart => exact ⟨0, Nat.zero_le _, by omega, rfl, ⟨by rw [impl_fewest.mid_set hla]; exact HO.out⟩, HS, HK, HBa⟩
          case round =>
            clear HO HS HK HBa
            obtain ⟨m, hm, hgg3, rfl, HO, HS, HK, HBb⟩ := hrel
            have hk0 := blk_cell HK.out 0
            have hk1 := blk_cell HK.out 1
            simp only [List.getElem?_toArray, List.getElem?_cons_zero, List.getElem?_cons_succ] at hk0 hk1
            by_cases hn : m + 1 ≤ Nat.min c.f1.toNat (a / c.f0.toNat)
            · obtain ⟨hn1, hn2⟩ := (impl_fewest.cnt hc1 hc3).1 hn
              have hz1 : decide ((m : Int) + 1 ≤ c.f1) = true := decide_eq_true (by omega)
              obtain ⟨p, hp⟩ : ∃ p : Int, ((m : Int) + 1) * c.f0 = p := ⟨_, rfl⟩
              have hp2 : ((m + 1 : Nat) : Int) * c.f0 = p := by rw [← hp]; rfl
              rw [hp2] at hn2
              have hp0 : 0 ≤ p := by rw [← hp]; exact Int.mul_nonneg (by omega) (by omega)
              have hal := HCU.out
              have haN := HN.out
              have hw1 : wrap64 (((m : Int) + 1) * c.f0) = p := by rw [hp]; unfold wrap64; omega
              have hw1b : IntKind.i64.wrap (((m : Int) + 1) * c.f0) = p := (i64_w _).trans hw1
              have hz2 : decide (p ≤ (a : Int)) = true := decide_eq_true (by omega)
              obtain ⟨j, hj⟩ : ∃ j : Nat, (a : Int) - p = (j : Int) := ⟨((a : Int) - p).toNat, by omega⟩
              have hjl : j < cur.length := by omega
              have hw2 : wrap64 ((a : Int) - p) = (j : Int) := by rw [← hj]; unfold wrap64; omega
              have hw2b : IntKind.i64.wrap ((a : Int) - p) = (j : Int) := (i64_w _).trans hw2
              obtain ⟨adx_, A2, c3, e2, hq2, hlc, hC2⟩ := impl_fewest.look HS.out k (by have := HXL.out; omega)
              obtain rfl : adx = adx_ := (by injection e2)
              rw [HXK.out] at hq2 hC2
              obtain ⟨ad2, e3, hq3⟩ := Kd.at_int hC2 (j : Int) (by omega) (by omega)
              subst e3
              rw [Int.toNat_natCast] at hq3
              obtain ⟨hq1, hq5⟩ := Kd.R_celln 0 HO.out (a : Int) (by omega) (by omega)
              rw [Int.toNat_natCast] at hq1 hq5
              have hx_ : rdOf 0 ((impl_fewest.mid cur c a).set a (impl_fewest.up cur c.f0 a m)) (a : Int) = impl_fewest.up cur c.f0 a m := by
                unfold rdOf
                rw [Int.toNat_natCast, List.getD_eq_getElem?_getD, List.getElem?_set, if_pos rfl, if_pos (by rw [impl_fewest.mid_len (by omega)]; exact hla)]
                rfl
              rw [hx_] at hq1
              have HUP := Aside0.mk (show impl_fewest.up cur c.f0 a (m + 1) = mn (impl_fewest.up cur c.f0 a m) ((m : Int) + 1 + rd cur (j : Int)) by rw [impl_fewest.up, hp2, hj]; rfl)
              have hyb := HBD.out (j : Int)
              generalize impl_fewest.up cur c.f0 a m = x at hq1 HUP HO
              generalize rd cur (j : Int) = y at hq3 HUP hyb
              have hmb : (m : Int) + 1 ≤ 60 := by omega
              have hw3 : wrap64 ((m : Int) + 1 + y) = (m : Int) + 1 + y := by unfold wrap64; omega
              have hw3b : IntKind.i64.wrap ((m : Int) + 1 + y) = (m : Int) + 1 + y := (i64_w _).trans hw3
              have hq4 := hk0
              obtain ⟨z, hz⟩ : ∃ z : Int, mn x ((m : Int) + 1 + y) = z := ⟨_, rfl⟩
              have hmn : (if (m : Int) + 1 + y < x then (m : Int) + 1 + y else x) = z := hz
              rw [hz] at HUP
              clear hz
              have hjz : decide ((j : Int) < (cur.length : Int)) = true := decide_eq_true (by omega)
              have HMM := Aside0.mk hn
              have HG3 := Aside0.mk hgg3
              have HH := Aside0.mk hm
              clear hx_ hp hp2 hj hC2 hlc hgg3 hm hn hal haN hn1 hn2 hyb
              go_wp2
              refine start_ (n := 23) (S := fun w' => w'.cell? ⟨g6, a, none⟩ = some (.int .i64 x) ∧ w'.cell? (adx.add k) = some (.slice (some ad2) cur.length c3) ∧ w'.cell? (ad2.add j) = some (.int .i64 y) ∧ w'.cell? ⟨wo.heap.size, 0, none⟩ = some (.int .i64 c.f0) ∧ w'.frozen? ⟨g6, a, none⟩ = false) (ds := [22]) #[false, false, false, false, false, false, false, false, false, false, false, false, false, false, false, false, false, false, false, false, false, false, false] (by kernel_rfl) rfl rfl ⟨hq1, hq2, hq3, hq4, hq5⟩ (fun hHeld => ?_)
              refine with_tabW impl_fewest.tab14 impl_fewest.bits14 (fun HT_ HW_ => ?_)
              refine pure_ (i := 0) (N := some 51) (v := ?_) (a' := ?_) #[true, false, false, false, false, false, false, false, false, false, false, false, false, false, false, false, false, false, false, false, false, false, false] rfl rfl (any_of HT_.out (by kernel_rfl)) (fun _ _ _ h => h) (Or.inl ⟨by rfl, ?_⟩) ?_ ?_
              rotate_left
              · intro w'
                go_simp
                with_reducible rfl
              rotate_left
              · simp only [Act.put, List.setIfInBounds_toArray, List.set_cons_zero, List.set_cons_succ, i64_w, i32_w]
                rfl
              refine pure_ (i := 1) (N := some 52) (v := ?_) (a' := ?_) #[true, true, false, false, false, false, false, false, false, false, false, false, false, false, false, false, false, false, false, false, false, false, false] rfl rfl (any_of HT_.out (by kernel_rfl)) (fun _ _ _ h => h) (Or.inl ⟨by rfl, ?_⟩) ?_ ?_
              rotate_left
              · intro w'
                go_simp
                with_reducible rfl
              rotate_left
              · simp only [Act.put, List.setIfInBounds_toArray, List.set_cons_zero, List.set_cons_succ, i64_w, i32_w]
                rfl
              refine pure_ (i := 2) (N := some 53) (v := ?_) (a' := ?_) #[true, true, true, false, false, false, false, false, false, false, false, false, false, false, false, false, false, false, false, false, false, false, false] rfl rfl (any_of HT_.out (by kernel_rfl)) (fun _ _ _ h => h) (Or.inl ⟨by rfl, ?_⟩) ?_ ?_
              rotate_left
              · intro w'
                go_simp
                with_reducible rfl
              rotate_left
              · simp only [Act.put, List.setIfInBounds_toArray, List.set_cons_zero, List.set_cons_succ, i64_w, i32_w]
                rfl
              refine pure_ (i := 3) (N := some 54) (v := ?_) (a' := ?_) #[true, true, true, true, false, false, false, false, false, false, false, false, false, false, false, false, false, false, false, false, false, false, false] rfl rfl (any_of HT_.out (by kernel_rfl)) (fun _ _ _ h => h) (Or.inl ⟨by rfl, ?_⟩) ?_ ?_
              rotate_left
              · intro w'
                go_simp
                with_reducible rfl
              rotate_left
              · simp only [Act.put, List.setIfInBounds_toArray, List.set_cons_zero, List.set_cons_succ, i64_w, i32_w]
                rfl
              refine pure_ (i := 4) (N := some 55) (v := ?_) (a' := ?_) #[true, true, true, true, true, false, false, false, false, false, false, false, false, false, false, false, false, false, false, false, false, false, false] rfl rfl (any_of HT_.out (by kernel_rfl)) (fun _ _ _ h => h) (Or.inl ⟨by rfl, ?_⟩) ?_ ?_
              rotate_left
              · intro w'
                go_simp
                with_reducible rfl
              rotate_left
              · simp only [Act.put, List.setIfInBounds_toArray, List.set_cons_zero, List.set_cons_succ, i64_w, i32_w]
                rfl
              refine pure_ (i := 6) (N := some 57) (v := ?_) (a' := ?_) #[true, true, true, true, true, false, true, false, false, false, false, false, false, false, false, false, false, false, false, false, false, false, false] rfl rfl (any_of HT_.out (by kernel_rfl)) (fun _ _ _ h => h) (Or.inl ⟨by rfl, ?_⟩) ?_ ?_
              rotate_left
              · intro w'
                go_simp
                with_reducible rfl
              rotate_left
              · simp only [Act.put, List.setIfInBounds_toArray, List.set_cons_zero, List.set_cons_succ, i64_w, i32_w]
                rfl
              refine pure_ (i := 7) (N := some 58) (v := ?_) (a' := ?_) #[true, true, true, true, true, false, true, true, false, false, false, false, false, false, false, false, false, false, false, false, false, false, false] rfl rfl (any_of HT_.out (by kernel_rfl)) (fun _ _ _ h => h) (Or.inl ⟨by rfl, ?_⟩) ?_ ?_
              rotate_left
              · intro w'
                go_simp
                with_reducible rfl
              rotate_left
              · simp only [Act.put, List.setIfInBounds_toArray, List.set_cons_zero, List.set_cons_succ, i64_w, i32_w]
                rfl
              refine pure_ (i := 8) (N := some 59) (v := ?_) (a' := ?_) #[true, true, true, true, true, false, true, true, true, false, false, false, false, false, false, false, false, false, false, false, false, false, false] rfl rfl (any_of HT_.out (by kernel_rfl)) (fun _ _ _ h => h) (Or.inl ⟨by rfl, ?_⟩) ?_ ?_
              rotate_left
              · intro w'
                go_simp
                with_reducible rfl
              rotate_left
              · simp only [Act.put, List.setIfInBounds_toArray, List.set_cons_zero, List.set_cons_succ, i64_w, i32_w]
                rfl
              refine pure_ (i := 9) (N := some 60) (v := ?_) (a' := ?_) #[true, true, true, true, true, false, true, true, true, true, false, false, false, false, false, false, false, false, false, false, false, false, false] rfl rfl (any_of HT_.out (by kernel_rfl)) (fun _ _ _ h => h) (Or.inl ⟨by rfl, ?_⟩) ?_ ?_
              rotate_left
              · intro w'
                go_simp
                with_reducible rfl
              rotate_left
              · simp only [Act.put, List.setIfInBounds_toArray, List.set_cons_zero, List.set_cons_succ, i64_w, i32_w]
                rfl
              refine pure_ (i := 11) (N := some 62) (v := ?_) (a' := ?_) #[true, true, true, true, true, false, true, true, true, true, false, true, false, false, false, false, false, false, false, false, false, false, false] rfl rfl (any_of HT_.out (by kernel_rfl)) (fun _ _ _ h => h) (Or.inl ⟨by rfl, ?_⟩) ?_ ?_
              rotate_left
              · intro w'
                go_simp
                with_reducible rfl
              rotate_left
              · simp only [Act.put, List.setIfInBounds_toArray, List.set_cons_zero, List.set_cons_succ, i64_w, i32_w]
                rfl
              refine pure_ (i := 12) (N := some 63) (v := ?_) (a' := ?_) #[true, true, true, true, true, false, true, true, true, true, false, true, true, false, false, false, false, false, false, false, false, false, false] rfl rfl (any_of HT_.out (by kernel_rfl)) (fun _ _ _ h => h) (Or.inl ⟨by rfl, ?_⟩) ?_ ?_
              rotate_left
              · intro w'
                go_simp
                with_reducible rfl
              rotate_left
              · simp only [Act.put, List.setIfInBounds_toArray, List.set_cons_zero, List.set_cons_succ, i64_w, i32_w]
                rfl
              refine pure_ (i := 13) (N := some 64) (v := ?_) (a' := ?_) #[true, true, true, true, true, false, true, true, true, true, false, true, true, true, false, false, false, false, false, false, false, false, false] rfl rfl (any_of HT_.out (by kernel_rfl)) (fun _ _ _ h => h) (Or.inl ⟨by rfl, ?_⟩) ?_ ?_
              rotate_left
              · intro w'
                go_simp
                with_reducible rfl
              rotate_left
              · simp only [Act.put, List.setIfInBounds_toArray, List.set_cons_zero, List.set_cons_succ, i64_w, i32_w]
                rfl
              refine take_ (i := 5) (N := some 56) (v := ?_) (a' := ?_) #[true, true, true, true, true, true, true, true, true, true, false, true, true, true, false, false, false, false, false, false, false, false, false] rfl rfl (take_ofW HT_.out HW_.out (by kernel_rfl)) (fun _ _ _ h => h) (Or.inl ⟨by rfl, ?_⟩) hHeld ?_ ?_
              rotate_left
              · rintro w' ⟨s0, s1, s2, s3, s4⟩
                go_simp
                with_reducible rfl
              rotate_left
              · simp only [Act.put, List.setIfInBounds_toArray, List.set_cons_zero, List.set_cons_succ, i64_w, i32_w]
                rfl
              refine take_ (i := 10) (N := some 61) (v := ?_) (a' := ?_) #[true, true, true, true, true, true, true, true, true, true, true, true, true, true, false, false, false, false, false, false, false, false, false] rfl rfl (take_ofW HT_.out HW_.out (by kernel_rfl)) (fun _ _ _ h => h) (Or.inl ⟨by rfl, ?_⟩) hHeld ?_ ?_
              rotate_left
              · rintro w' ⟨s0, s1, s2, s3, s4⟩
                go_simp
                with_reducible rfl
              rotate_left
              · simp only [Act.put, List.setIfInBounds_toArray, List.set_cons_zero, List.set_cons_succ, i64_w, i32_w]
                rfl
              refine take_ (i := 14) (N := some 65) (v := ?_) (a' := ?_) #[true, true, true, true, true, true, true, true, true, true, true, true, true, true, true, false, false, false, false, false, false, false, false] rfl rfl (take_ofW HT_.out HW_.out (by kernel_rfl)) (fun _ _ _ h => h) (Or.inl ⟨by rfl, ?_⟩) hHeld ?_ ?_
              rotate_left
              · rintro w' ⟨s0, s1, s2, s3, s4⟩
                go_simp
                with_reducible rfl
              rotate_left
              · simp only [Act.put, List.setIfInBounds_toArray, List.set_cons_zero, List.set_cons_succ, i64_w, i32_w]
                rfl
              refine pure_ (i := 15) (N := some 66) (v := ?_) (a' := ?_) #[true, true, true, true, true, true, true, true, true, true, true, true, true, true, true, true, false, false, false, false, false, false, false] rfl rfl (any_of HT_.out (by kernel_rfl)) (fun _ _ _ h => h) (Or.inl ⟨by rfl, ?_⟩) ?_ ?_
              rotate_left
              · intro w'
                go_simp
                with_reducible rfl
              rotate_left
              · simp only [Act.put, List.setIfInBounds_toArray, List.set_cons_zero, List.set_cons_succ, i64_w, i32_w]
                rfl
              refine pure_ (i := 16) (N := some 67) (v := ?_) (a' := ?_) #[true, true, true, true, true, true, true, true, true, true, true, true, true, true, true, true, true, false, false, false, false, false, false] rfl rfl (any_of HT_.out (by kernel_rfl)) (fun _ _ _ h => h) (Or.inl ⟨by rfl, ?_⟩) ?_ ?_
              rotate_left
              · intro w'
                go_simp
                with_reducible rfl
              rotate_left
              · simp only [Act.put, List.setIfInBounds_toArray, List.set_cons_zero, List.set_cons_succ, i64_w, i32_w]
                rfl
              refine pure_ (i := 17) (N := some 68) (v := ?_) (a' := ?_) #[true, true, true, true, true, true, true, true, true, true, true, true, true, true, true, true, true, true, false, false, false, false, false] rfl rfl (any_of HT_.out (by kernel_rfl)) (fun _ _ _ h => h) (Or.inl ⟨by rfl, ?_⟩) ?_ ?_
              rotate_left
              · intro w'
                go_simp
                with_reducible rfl
              rotate_left
              · simp only [Act.put, List.setIfInBounds_toArray, List.set_cons_zero, List.set_cons_succ, i64_w, i32_w]
                rfl
              refine take_ (i := 18) (N := some 69) (v := ?_) (a' := ?_) #[true, true, true, true, true, true, true, true, true, true, true, true, true, true, true, true, true, true, true, false, false, false, false] rfl rfl (take_ofW HT_.out HW_.out (by kernel_rfl)) (fun _ _ _ h => h) (Or.inl ⟨by rfl, ?_⟩) hHeld ?_ ?_
              rotate_left
              · rintro w' ⟨s0, s1, s2, s3, s4⟩
                go_simp
                with_reducible rfl
              rotate_left
              · simp only [Act.put, List.setIfInBounds_toArray, List.set_cons_zero, List.set_cons_succ, i64_w, i32_w]
                rfl
              refine pure_ (i := 19) (N := some 70) (v := ?_) (a' := ?_) #[true, true, true, true, true, true, true, true, true, true, true, true, true, true, true, true, true, true, true, true, false, false, false] rfl rfl (any_of HT_.out (by kernel_rfl)) (fun _ _ _ h => h) (Or.inl ⟨by rfl, ?_⟩) ?_ ?_
              rotate_left
              · intro w'
                go_simp
                with_reducible rfl
              rotate_left
              · simp only [Act.put, List.setIfInBounds_toArray, List.set_cons_zero, List.set_cons_succ, i64_w, i32_w]
                rfl
              refine pure_ (i := 20) (N := some 71) (v := ?_) (a' := ?_) #[true, true, true, true, true, true, true, true, true, true, true, true, true, true, true, true, true, true, true, true, true, false, false] rfl rfl (any_of HT_.out (by kernel_rfl)) (fun _ _ _ h => h) (Or.inl ⟨by rfl, ?_⟩) ?_ ?_
              rotate_left
              · intro w'
                go_simp
                with_reducible rfl
              rotate_left
              · simp only [Act.put, List.setIfInBounds_toArray, List.set_cons_zero, List.set_cons_succ, i64_w, i32_w]
                rfl
              refine pure_ (i := 21) (N := some 72) (v := ?_) (a' := ?_) #[true, true, true, true, true, true, true, true, true, true, true, true, true, true, true, true, true, true, true, true, true, true, false] rfl rfl (any_of HT_.out (by kernel_rfl)) (fun _ _ _ h => h) (Or.inl ⟨by rfl, ?_⟩) ?_ ?_
              rotate_left
              · intro w'
                go_simp
                with_reducible rfl
              rotate_left
              · simp only [Act.put, List.setIfInBounds_toArray, List.set_cons_zero, List.set_cons_succ, i64_w, i32_w]
                rfl
              refine last_ (i := 22) (N := none) #[true, true, true, true, true, true, true, true, true, true, true, true, true, true, true, true, true, true, true, true, true, true, true] rfl rfl (one_of HT_.out (by kernel_rfl)) (by decide) (fun K hK => ?_)
              refine skip_ (w1 := ?_) (by rfl) rfl ?_ ?_
              rotate_left
              · go_simp
                rfl
              refine hK.out _ _ ?_
              clear hK K
              refine done_ (done_of HT_.out (by kernel_rfl)) ?_
              go_wp2
              go_roundg (Nat.min c.f1.toNat (a / c.f0.toNat) - (m + 1))
              case measure => have := HMM.out; have := HG3.out; omega
              case rel =>
                refine ⟨m + 1, HMM.out, Nat.le_refl _, by rw [show (((m + 1 : Nat) : Int) + 1) = (m : Int) + 1 + 1 by omega], ⟨?_⟩, ⟨Kd.S_drew (Kd.S_far (p := ⟨g6, a, none⟩) HS.out (fun k_ hk_ => hk_) _)⟩, ⟨blk_drew (blk_far (p := ⟨g6, a, none⟩) HK.out (by have h_ := HG7.out; show wo.heap.size ≠ g6; omega) _)⟩, ⟨below_drew1 (below_set HBb.out (by have h_ := HG7.out; exact Nat.le_trans h_.2 (Nat.le_of_lt h_.1)))⟩⟩
                rw [HUP.out]
                have h_ := Kd.R_putn HO.out (a : Int) z
                rw [Int.toNat_natCast, List.set_set] at h_
                exact Kd.R_drew h_
            · have hmM : m = Nat.min c.f1.toNat (a / c.f0.toNat) := by omega
              have hfin : impl_fewest.up cur c.f0 a m = impl_fewest.fin cur c a := by rw [hmM]; rfl
              have HO2 : Aside0 (Kd.R (Kd.int .i64) 3 wr w.heap.size (fun k_ => k_ = g6) (.slice (some ⟨g6, 0, none⟩) cur.length cap6) (impl_fewest.mid cur c (a + 1))) := ⟨by rw [← impl_fewest.mid_step hla, ← hfin]; exact HO.out⟩
              have hnn : ¬ (((m + 1 : Nat) : Int) ≤ c.f1 ∧ ((m + 1 : Nat) : Int) * c.f0 ≤ a) := fun h => hn ((impl_fewest.cnt hc1 hc3).2 h)
              have hal := HCU.out
              have haN := HN.out
              have HH := Aside0.mk hm
              clear hfin hmM hm HO hgg3
              by_cases hn1 : ((m + 1 : Nat) : Int) ≤ c.f1
              · have hz1 : decide ((m : Int) + 1 ≤ c.f1) = true := decide_eq_true (by omega)
                obtain ⟨p, hp⟩ : ∃ p : Int, ((m : Int) + 1) * c.f0 = p := ⟨_, rfl⟩
                have hp2 : ((m + 1 : Nat) : Int) * c.f0 = p := by rw [← hp]; rfl
                rw [hp2] at hnn
                have hpp : p ≤ 60 * 100000 := by rw [← hp]; exact Int.mul_le_mul (by omega) hc2 (by omega) (by omega)
                have hp0 : 0 ≤ p := by rw [← hp]; exact Int.mul_nonneg (by omega) (by omega)
                have hw1 : wrap64 (((m : Int) + 1) * c.f0) = p := by rw [hp]; unfold wrap64; omega
                have hw1b : IntKind.i64.wrap (((m : Int) + 1) * c.f0) = p := (i64_w _).trans hw1
                have hz2 : decide (p ≤ (a : Int)) = false := decide_eq_false (by omega)
                have HA := Aside0.mk (show a ≤ 10000 by omega)
                have haz : (a : Int) ≤ 10000 := by omega
                clear hp hp2 hnn hal haN hn hn1 hpp
                go_wp2
                go_roundg (cur.length - (a + 1))
                case measure => omega
                case rel => exact ⟨a + 1, by omega, Nat.le_refl _, by go_num, HO2, HS, HK, HBb⟩
              · have hz1 : decide ((m : Int) + 1 ≤ c.f1) = false := decide_eq_false (by omega)
                have haz : (a : Int) ≤ 10000 := by omega
                clear hnn hal haN hn hn1
                go_wp2
                go_roundg (cur.length - (a + 1))
                case measure => omega
                case rel => exact ⟨a + 1, by omega, Nat.le_refl _, by go_num, HO2, HS, HK, HBb⟩
        · have hlaz : decide ((a : Int) < (cur.length : Int)) = false := decide_eq_false (by omega)
          obtain rfl : a = cur.length := by omega
          rw [impl_fewest.mid_end] at HO
          have hkl := HL.out
          have hkz : (k : Int) ≤ 12 := by omega
          clear hkl
          go_wp2_with ((with_reducible refine gate_builtin (b := .append) (xs := #[.tmp 74, .tmp 76]) rfl ?_); at_builtin; refine Kd.S_append (Kd.slice 3 (Kd.int .i64)) (w0 := w) w.heap.size rfl (.tmp 74) (.tmp 76) 79 48 (.slice none 0 0) 24 rfl Try.underlying79 info48 rfl (by decide) (by omega) (.slice (some adx) X.length cv) X (impl_fewest.nxt cur c) [.slice (some ⟨g6, 0, none⟩) cur.length cap6] (fun _ => True) (fun k_ => k_ = g6) rfl rfl ?aP ?aK (fun _ _ => trivial) ?aO ?aB ?aS ?aL ?_; (case aP => exact Kd.M_row HO.out); (case aK => exact fun k_ hk_ => ⟨trivial, fun e_ => (Kd.S_R HS.out).1 k_ e_.symm hk_⟩); (case aO => exact Kd.S_mono HS.out (fun k_ hk_ => ⟨trivial, hk_⟩)); (case aB => exact HBa.out); (case aS => exact below_size HBa.out); (case aL => (have := HXL.out; omega)); intro v9 w9 ho9 hb9 hg9 hat9; have HO9 := Aside0.mk ho9; have HB9 := Aside0.mk hb9; clear ho9 hb9 hg9 hat9)
          go_roundg (l1.length - (k + 1))
          case measure => omega
          case rel => exact ⟨k + 1, by omega, Nat.le_refl _, by go_num, ⟨by rw [HT.out, HTS.out]; exact HO9.out⟩, HB9⟩
    · have hltz : decide ((k : Int) < (l1.length : Int)) = false := decide_eq_false (by omega)
      obtain rfl : k = l1.length := by omega
      rw [List.take_length] at HS
      go_wp2
      go_ret
      exact ⟨_, rfl, HS.out, HB.out⟩


end Go.Proofs.Ythlphmnplfnmnaa.XFnChange
