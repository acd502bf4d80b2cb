-- PRINTED by xprint.py (our own program, over the kit's print.py)
import Derived.Test.YtnpfeigdghecfaaSort
import Derived.Test.YtnpfeigdghecfaaXFnExactMergeEventsx0
import Derived.Test.YtnpfeigdghecfaaXFnExactMergeEventsx1
import Derived.Test.YtnpfeigdghecfaaXFnExactMergeEventsx8
import Derived.Test.YtnpfeigdghecfaaXFnExactMergeEventsx9
import Derived.Test.YtnpfeigdghecfaaXFnExactMergeEventsx10
import Derived.Test.YtnpfeigdghecfaaPu
namespace Go.Proofs.Ytnpfeigdghecfaa.XFnExactMergeEvents
open Go.RowKit Go.Proofs.YtnpfeigdghecfaaW.PrintWords Go.Proofs.YtnpfeigdghecfaaW.PrintLast Go.Proofs.YtnpfeigdghecfaaW.PrintMore Go.Proofs.YtnpfeigdghecfaaW.Idx
attribute [local go_sem] max2_int min2_int max_two min_two max_three min_three max_four min_four   -- for this text's walks alone
set_option linter.unusedVariables false
set_option linter.unusedSimpArgs false

attribute [local go_sem high] eqA40
/-! ### impl_Event_24: function 24 -/
def impl_Event_24.f (l0 : List (S40)) : Option (Bool) := some (decide ((l0.length : Int) ≤ 4096))
set_option maxHeartbeats 8000000 in
set_option maxRecDepth 100000 in
theorem impl_Event_24.calls (A0 : Option Addr) (c0 : Nat) (l0 : List (S40)) (r : Bool) (w : World) (hr0 : Kd.C k40 w A0 l0.length l0) (hc0 : l0.length ≤ c0) (h : impl_Event_24.f l0 = some r) :
  Calls Try.prog 24 #[.slice A0 l0.length c0] w fun e w' => e = .returned (.bool r) ∧ Drawn0 w w' := by
 have HR0 := Aside0.mk hr0
 have HC0 := Aside0.mk hc0
 clear hr0 hc0
 have H : (some (decide ((l0.length : Int) ≤ 4096))) = some r := h
 clear h
 obtain rfl := Option.some.inj H
 go_enter Try.func24, Try.ntmps24
 go_wp2
 go_ret
 exact ⟨by first | rfl | (simp; done) | (simp [*]; done), by repeat (first | exact Drawn0.refl _ | apply Drawn0.step)⟩

/-! ### impl_Event_25: function 25 -/
def impl_Event_25.f (l0 : List S40) : Option (List S40) := if l0.length < 1000000 then some l0 else none

set_option maxHeartbeats 8000000 in
set_option maxRecDepth 100000 in
theorem impl_Event_25.calls (A0 : Option Addr) (c0 : Nat) (l0 : List (S40)) (r : List (S40)) (w : World) (hr0 : Kd.C k40 w A0 l0.length l0) (hc0 : l0.length ≤ c0) (h : impl_Event_25.f l0 = some r) :
  Calls Try.prog 25 #[.slice A0 l0.length c0] w fun e w' => ∃ v0_ : Value, e = .returned (v0_) ∧ Kd.R k40 40 w' w.heap.size (fun _ => True) v0_ r ∧ Below w.heap.size w w' := by
 unfold impl_Event_25.f at h
 by_cases c1 : l0.length < 1000000
 rotate_left
 ·rw [if_neg c1] at h
  cases h


 rw [if_pos c1] at h
 obtain rfl := Option.some.inj h
 clear h
 have HB := Aside0.mk (Below.refl w.heap.size w)
 have q0 : ∀ (W : World) (a : Option Addr) (n c n' c' : Nat), (binOp .eql 25 (.slice a n c) (.slice none n' c')).run Try.prog W = .ok (.bool a.isNone) W := fun W a n c n' c' => Lib.run_eql_slice_nil W _ _ a n c n' c' Try.underlying25
 rcases A0 with _ | ad
 ·have hz : l0 = [] := by
   by_cases hp : 0 < l0.length
   ·obtain ⟨_, e, _⟩ := hr0.2.2 hp
    cases e
   exact List.eq_nil_of_length_eq_zero (by omega)
  subst hz
  clear hr0 hc0 c1
  go_enter Try.func25, Try.ntmps25
  go_wp2
  go_ret
  exact ⟨_, rfl, Kd.R_nil _ _ _ _ _, HB.out⟩
 ·have HR0 := Aside0.mk hr0
  have LM := Aside0.mk c1
  clear hr0 hc0 c1
  go_enter Try.func25, Try.ntmps25
  go_wp2_with (first
   | ((with_reducible refine gate_dst (N := 5) rfl ?_); (try (refine gate_guard (by rfl) ?_; dsimp only)); refine Kd.R_lit k40 _ 40 ?hg (N := 5) ?hd (xs := ([] : List S40)) (inner := []) (ok := fun _ => True) (okp := fun _ => True) ?hr ?hp (fun _ hk => hk) trivial (Below.refl _ _) (Nat.le_refl _) (by simp) ?_; (case hd => rfl); (case hg => rfl); (case hr => first | (go_simp; done) | (go_simp; rfl)); (case hp => exact (Reps.none _ _)); intro v1 w1 ho1 hb hg_ hnew_; clear hg_ hnew_; have HO1 := Aside0.mk (Kd.R_lower ho1 (below_size bl_)); have n6_ := Aside0.mk (below_step bl_ hb); clear HB; have HB := n6_; clear n6_; clear hb ho1)
   | ((with_reducible refine gate_builtin (b := .append) (xs := #[.tmp 5, .tmp 6]) rfl ?_); (try (refine gate_guard (by rfl) ?_; dsimp only)); at_builtin; refine Kd.R_append_rows k40 (w0 := w) w.heap.size rfl (.tmp 5) (.tmp 6) 25 40 (.agg #[(.int .i64 0), (.int .i64 0), (.int .i64 0), (.int .i64 0), (.string ⟨#[]⟩), (.int .i64 0)]) 56 rfl Try.underlying25 info40 rfl (by decide) (by omega) v1 [] l0 _ _ _ (fun _ => True) (fun _ => False) rfl rfl ?aO ?aR (fun _ _ h => h) (fun _ h => h.elim) ?aF ?aB ?aS ?aL ?_; (case aR => exact Kd.C_below HR0.out bl_); (case aB => exact bl_); (case aF => exact fun _ _ => trivial); (case aO => exact (by (with_reducible repeat (first | apply Kd.R_alloc | apply Kd.R_drewN | apply Kd.R_drew)); exact HO1.out)); (case aS => exact (below_size bl_)); (case aL => have := LM.out; simp only [List.length_nil]; omega); intro v2 w2 ho hb hg hat; rw [List.nil_append] at ho; have n5_ := Aside0.mk hb; have n6_ := Aside0.mk ho; clear HB; have HB := n5_; have HO2 := n6_; clear n5_ n6_; clear ho hb hg hat))
  go_ret
  exact ⟨_, by first | rfl | (simp; done) | (simp [*]; done), HO2.out, HB.out⟩
/-! ### impl_Event_26: function 26 -/
def impl_Event_26.p (e0 e1 : Int) (x : S40) : Bool := (x.f0 == e0) && (x.f1 == e1)
def impl_Event_26.f (l0 : List S40) (a1_0 : Int) (a1_1 : Int) (a1_2 : Int) (a1_3 : Int) (a1_4 : ByteArray) (a1_5 : Int) : Option Int := some (idxV (impl_Event_26.p a1_0 a1_1) l0)
theorem impl_Event_26.lit (e0 e1 e2 e3 : Int) (e4 : ByteArray) (e5 : Int) (x : S40) (B1 : Nat) (W : World) (hbx : W.heap[B1]? = some (.cells #[.int .i64 e0, .int .i64 e1, .int .i64 e2, .int .i64 e3, .string e4, .int .i64 e5] 40 (0, 0))) :
  Calls Try.prog 27 #[.agg #[.int .i64 x.f0, .int .i64 x.f1, .int .i64 x.f2, .int .i64 x.f3, .string x.f4, .int .i64 x.f5], .pointer (some ⟨B1, 0, none⟩)] W fun e w' => e = .returned (.bool (impl_Event_26.p e0 e1 x)) ∧ Below W.heap.size W w' := by
 have hu := Try.underlying40
 have HB := Aside0.mk (Below.refl W.heap.size W)
 have hlt := blk_lt hbx
 have h0 : W.cell? ⟨B1, 0, none⟩ = some (.int .i64 e0) := (blk_cell hbx 0).trans rfl
 have h1 : W.cell? ⟨B1, 1, none⟩ = some (.int .i64 e1) := (blk_cell hbx 1).trans rfl
 clear hbx
 unfold impl_Event_26.p
 cases c : (x.f0 == e0) with
 | true =>
  rw [Bool.true_and]
  go_enter Try.func27, Try.ntmps27
  go_wp2
  go_ret
  exact ⟨rfl, by repeat (first | exact HB.out | apply below_alloc | apply pw_below_drewN | apply below_drew1)⟩
 | false =>
  rw [Bool.false_and]
  go_enter Try.func27, Try.ntmps27
  go_wp2
  go_ret
  exact ⟨rfl, by repeat (first | exact HB.out | apply below_alloc | apply pw_below_drewN | apply below_drew1)⟩

theorem impl_Event_26.idx (p : S40 → Bool) (w : World) (B1 : Nat) (A0 : Option Addr) (c0 : Nat) (l0 : List S40) (hr0 : Kd.C k40 w A0 l0.length l0)
  (hg : ∀ (x : S40) (W : World), Below w.heap.size w W → Calls Try.prog 27 #[.agg #[.int .i64 x.f0, .int .i64 x.f1, .int .i64 x.f2, .int .i64 x.f3, .string x.f4, .int .i64 x.f5], .pointer (some ⟨B1, 0, none⟩)] W fun e w' => e = .returned (.bool (p x)) ∧ Below w.heap.size w w') :
  Calls Try.prog 26 #[.slice A0 l0.length c0, .func (.func 27) #[] #[.pointer (some ⟨B1, 0, none⟩)]] w fun e w' => e = .returned (.int .i64 (idxV p l0)) ∧ Below w.heap.size w w' := by
 have hlen : l0.length ≤ 9223372036854775807 := hr0.2.1
 have HR0 := Aside0.mk hr0
 have HG := Aside0.mk hg
 clear hr0 hg
 go_enter Try.func26, Try.ntmps26
 go_wp2
 go_loopg [5, 8] l0.length (fun gg _ s8 wr => ∃ kk : Nat, kk ≤ l0.length ∧ l0.length - kk ≤ gg ∧ s8 = .int .i64 kk ∧ Aside0 (Below w.heap.size w wr) ∧ Aside0 (∀ j, j < kk → p (l0.getD j z40) = false))
 case atStart => exact ⟨0, Nat.zero_le _, by omega, rfl, ⟨Below.refl _ w⟩, ⟨fun j hj => absurd hj (Nat.not_lt_zero _)⟩⟩
 case round =>
  obtain ⟨kk, hkk, hgg, rfl, BW, AN⟩ := hrel
  by_cases hlt : kk < l0.length
  rotate_left
  ·have hltz : ¬ (kk : Int) < (l0.length : Int) := by omega
   have hk : kk = l0.length := by omega
   subst hk
   go_wp2
   go_ret
   exact ⟨by rw [idxV_miss p l0 z40 AN.out]; rfl, BW.out⟩

  have hltz : (kk : Int) < (l0.length : Int) := by omega
  obtain ⟨ad, e0, hx0, hx1, hx2, hx3, hx4, hx5⟩ := at_T40 (Kd.C_below HR0.out BW.out) kk (by omega) (by omega)
  cases e0
  simp only [Int.toNat_natCast] at hx0 hx1 hx2 hx3 hx4 hx5
  have hcall := HG.out (rd_T40 l0 kk) wr BW.out
  have HY : Aside0 (rd_T40 l0 kk = l0.getD kk z40) := ⟨by simp [rd_T40]⟩
  generalize hy : rd_T40 l0 kk = y at hcall hx0 hx1 hx2 hx3 hx4 hx5 HY
  clear hy
  cases hq : p y with
  | true =>
   rw [hq] at hcall
   go_wp2_with (go_at_call 27; refine hcall.mono ?_; rintro e w' ⟨rfl, hb'⟩)
   go_ret
   exact ⟨by rw [idxV_hit p l0 z40 kk hlt (by rw [← HY.out]; exact hq) AN.out]; rfl, hb'⟩
  | false =>
   rw [hq] at hcall
   go_wp2_with (go_at_call 27; refine hcall.mono ?_; rintro e w' ⟨rfl, hb'⟩)
   go_roundg (l0.length - (kk + 1))
   case measure => omega
   case rel =>
    refine ⟨kk + 1, by omega, by omega, by go_num, ⟨hb'⟩, ⟨fun j hj => ?_⟩⟩
    by_cases e : j = kk
    rotate_left
    ·exact AN.out j (by omega)
    subst e
    rw [← HY.out]; exact hq
set_option maxHeartbeats 8000000 in
set_option maxRecDepth 100000 in
theorem impl_Event_26.calls (A0 : Option Addr) (c0 : Nat) (l0 : List (S40)) (a1_0 : Int) (a1_1 : Int) (a1_2 : Int) (a1_3 : Int) (a1_4 : ByteArray) (a1_5 : Int) (r : Int) (G_ : Nat) (w : World) (hr0 : Kd.C k40 w A0 l0.length l0) (hc0 : l0.length ≤ c0) (hbx : w.heap[G_]? = some (.cells #[.int .i64 a1_0, .int .i64 a1_1, .int .i64 a1_2, .int .i64 a1_3, .string a1_4, .int .i64 a1_5] 40 (0, 0))) (h : impl_Event_26.f l0 a1_0 a1_1 a1_2 a1_3 a1_4 a1_5 = some r) :
  Calls Try.prog 26 #[.slice A0 l0.length c0, .func (.func 27) #[] #[.pointer (some ⟨G_, 0, none⟩)]] w fun e w' => e = .returned (.int .i64 r) ∧ Below w.heap.size w w' := by
 obtain rfl := Option.some.inj h
 clear h
 have HB := Aside0.mk hbx
 clear hbx
 refine (impl_Event_26.idx (impl_Event_26.p a1_0 a1_1) w G_ A0 c0 l0 hr0 ?_).mono fun e w' ⟨he, hb⟩ => ⟨he, hb⟩
 intro x W hb
 exact (impl_Event_26.lit a1_0 a1_1 a1_2 a1_3 a1_4 a1_5 x G_ W ((hb.block G_ (blk_lt HB.out)).trans HB.out)).mono fun e w' ⟨he, hd⟩ => ⟨he, hb.trans (hd.mono hb.size)⟩


-- NOT PRINTED: function 27 (impl_MergeEvents_1)

/-! ### impl_Event_28: function 28 -/
def impl_Event_28.enc (x : S40) : List Value := [.int .i64 x.f0, .int .i64 x.f1, .int .i64 x.f2, .int .i64 x.f3, .string x.f4, .int .i64 x.f5]
def impl_Event_28.c3 (a b : Int) : Int := if a < b then -1 else if a > b then 1 else 0
def impl_Event_28.cf (x y : S40) : Int := if impl_Event_28.c3 x.f2 y.f2 = 0 then (if impl_Event_28.c3 x.f0 y.f0 = 0 then impl_Event_28.c3 x.f1 y.f1 else impl_Event_28.c3 x.f0 y.f0) else impl_Event_28.c3 x.f2 y.f2
instance impl_Event_28.inh : Inhabited S40 := ⟨z40⟩
def impl_Event_28.f (l0 : List S40) : Option (List S40) := if l0.length < 1000000 then (if l0.length = 0 then some [] else some (Sort.pdq (Go.Proofs.ltOf impl_Event_28.cf) l0.toArray 0 l0.toArray.size (Lib.bitLen l0.toArray.size) true true).toList) else none
theorem impl_Event_28.compare (a b : Int) : cmp_Compare_int.f a b = some (impl_Event_28.c3 a b) := by
 unfold cmp_Compare_int.f cmp_isNaN_int.f impl_Event_28.c3
 simp only [bne_self_eq_false, Option.bind_some, if_neg (show ¬ (false = true) by decide)]
 repeat' split
 all_goals rfl
theorem impl_Event_28.or (x y z : Int) : cmp_Or_int.f 5 [x, y, z] = some (if x = 0 then (if y = 0 then z else y) else x) := by
 have h0 : rd [x, y, z] 0 = x := rfl
 have h1 : rd [x, y, z] 1 = y := rfl
 have h2 : rd [x, y, z] 2 = z := rfl
 have e1 : wrap64 (0 + 1) = 1 := by decide +kernel
 have e2 : wrap64 (1 + 1) = 2 := by decide +kernel
 have e3 : wrap64 (2 + 1) = 3 := by decide +kernel
 unfold cmp_Or_int.f
 simp only [cmp_Or_int.l0, h0, h1, h2, e1, e2, e3, List.length_cons, List.length_nil]
 by_cases c0 : x = 0 <;> by_cases c1 : y = 0 <;> by_cases c2 : z = 0 <;> simp [c0, c1, c2]
theorem impl_Event_28.cfE (x y : S40) : (if impl_Event_28.c3 x.f2 y.f2 = 0 then (if impl_Event_28.c3 x.f0 y.f0 = 0 then impl_Event_28.c3 x.f1 y.f1 else impl_Event_28.c3 x.f0 y.f0) else impl_Event_28.c3 x.f2 y.f2) = impl_Event_28.cf x y := rfl
def impl_Event_28.Gr (W w : World) : Prop := ∃ q os, w = Sort.grow (W.drewN q) os
theorem impl_Event_28.Gr.drewN {W w : World} (h : impl_Event_28.Gr W w) (n : Nat) : impl_Event_28.Gr W (w.drewN n) := by
 obtain ⟨q, os, rfl⟩ := h
 exact ⟨q + n, os, by simp [Sort.grow, World.drewN, Nat.add_assoc]⟩
theorem impl_Event_28.Gr.alloc {W w : World} (h : impl_Event_28.Gr W w) (o : Obj) : impl_Event_28.Gr W (w.alloc o) := by
 obtain ⟨q, os, rfl⟩ := h
 exact ⟨q, _, by rw [Sort.alloc_eq_grow, Sort.grow_grow]⟩
theorem impl_Event_28.row3 {w : World} {g : Nat} {a b c : Int} (h : w.heap[g]? = some (.cells #[.int .i64 a, .int .i64 b, .int .i64 c] 3 (0, 0))) : Kd.C (Kd.int .i64) w (some ⟨g, 0, none⟩) 3 [a, b, c] := by
 refine ⟨rfl, by decide, fun _ => ⟨_, rfl, fun j p hp => ⟨[.int .i64 p], rfl, rfl, fun i u hu => ?_⟩⟩⟩
 have hz : i = 0 ∧ u = .int .i64 p := by
  rcases i with _ | i
  ·exact ⟨rfl, by simpa using hu.symm⟩
  ·simp at hu
 obtain ⟨rfl, rfl⟩ := hz
 rcases j with _ | _ | _ | j
 ·cases hp; exact (blk_cell h 0).trans rfl
 ·cases hp; exact (blk_cell h 1).trans rfl
 ·cases hp; exact (blk_cell h 2).trans rfl
 ·simp at hp
set_option maxHeartbeats 8000000 in
set_option maxRecDepth 100000 in
theorem impl_Event_28.cmp (x y : S40) (W : World) :
  Calls Try.prog 22 #[.agg #[.int .i64 x.f0, .int .i64 x.f1, .int .i64 x.f2, .int .i64 x.f3, .string x.f4, .int .i64 x.f5], .agg #[.int .i64 y.f0, .int .i64 y.f1, .int .i64 y.f2, .int .i64 y.f3, .string y.f4, .int .i64 y.f5]] W fun e w' => e = .returned (.int .i64 (impl_Event_28.cf x y)) ∧ impl_Event_28.Gr W w' := by
 have hu := Try.underlying40
 rw [← impl_Event_28.cfE]
 have A3 := Aside0.mk (impl_Event_28.compare x.f2 y.f2)
 have A4 := Aside0.mk (impl_Event_28.compare x.f0 y.f0)
 have A5 := Aside0.mk (impl_Event_28.compare x.f1 y.f1)
 generalize impl_Event_28.c3 x.f2 y.f2 = t2 at A3 ⊢
 generalize impl_Event_28.c3 x.f0 y.f0 = t0 at A4 ⊢
 generalize impl_Event_28.c3 x.f1 y.f1 = t1 at A5 ⊢
 have A6 := Aside0.mk (impl_Event_28.or t2 t0 t1)
 generalize (if t2 = 0 then (if t0 = 0 then t1 else t0) else t2) = tr at A6 ⊢
 go_enter Try.func22, Try.ntmps22
 go_wp2_with fail
 have G0 : Aside0 (impl_Event_28.Gr W ((W.alloc (.cells #[.int .i64 x.f0, .int .i64 x.f1, .int .i64 x.f2, .int .i64 x.f3, .string x.f4, .int .i64 x.f5] 40)).alloc (.cells #[.int .i64 y.f0, .int .i64 y.f1, .int .i64 y.f2, .int .i64 y.f3, .string y.f4, .int .i64 y.f5] 40)).drew) := ⟨(impl_Event_28.Gr.drewN ((impl_Event_28.Gr.alloc (impl_Event_28.Gr.alloc ⟨0, #[], by simp [World.drewN]⟩ _) _)) 1)⟩
 have BK1 : Aside0 (((W.alloc (.cells #[.int .i64 x.f0, .int .i64 x.f1, .int .i64 x.f2, .int .i64 x.f3, .string x.f4, .int .i64 x.f5] 40)).alloc (.cells #[.int .i64 y.f0, .int .i64 y.f1, .int .i64 y.f2, .int .i64 y.f3, .string y.f4, .int .i64 y.f5] 40)).drew.heap[W.heap.size]? = some (.cells #[.int .i64 x.f0, .int .i64 x.f1, .int .i64 x.f2, .int .i64 x.f3, .string x.f4, .int .i64 x.f5] 40 (0, 0))) := ⟨blk_drew (blk_alloc (heap_alloc_new W _) _)⟩
 have BK2 : Aside0 (((W.alloc (.cells #[.int .i64 x.f0, .int .i64 x.f1, .int .i64 x.f2, .int .i64 x.f3, .string x.f4, .int .i64 x.f5] 40)).alloc (.cells #[.int .i64 y.f0, .int .i64 y.f1, .int .i64 y.f2, .int .i64 y.f3, .string y.f4, .int .i64 y.f5] 40)).drew.heap[W.heap.size + 1]? = some (.cells #[.int .i64 y.f0, .int .i64 y.f1, .int .i64 y.f2, .int .i64 y.f3, .string y.f4, .int .i64 y.f5] 40 (0, 0))) := ⟨blk_drew (by have := heap_alloc_new (W.alloc (.cells #[.int .i64 x.f0, .int .i64 x.f1, .int .i64 x.f2, .int .i64 x.f3, .string x.f4, .int .i64 x.f5] 40)) (.cells #[.int .i64 y.f0, .int .i64 y.f1, .int .i64 y.f2, .int .i64 y.f3, .string y.f4, .int .i64 y.f5] 40); simpa using this)⟩
 refine start_ (n := 18) (S := fun w' => w'.cell? ⟨W.heap.size, 0, none⟩ = some (.int .i64 x.f0) ∧ w'.cell? ⟨W.heap.size, 1, none⟩ = some (.int .i64 x.f1) ∧ w'.cell? ⟨W.heap.size, 2, none⟩ = some (.int .i64 x.f2) ∧ w'.cell? ⟨W.heap.size + 1, 0, none⟩ = some (.int .i64 y.f0) ∧ w'.cell? ⟨W.heap.size + 1, 1, none⟩ = some (.int .i64 y.f1) ∧ w'.cell? ⟨W.heap.size + 1, 2, none⟩ = some (.int .i64 y.f2)) (ds := []) (msk 0 18) (by kernel_rfl) rfl rfl ⟨(blk_cell BK1.out 0).trans rfl, (blk_cell BK1.out 1).trans rfl, (blk_cell BK1.out 2).trans rfl, (blk_cell BK2.out 0).trans rfl, (blk_cell BK2.out 1).trans rfl, (blk_cell BK2.out 2).trans rfl⟩ (fun hHeld => ?_); refine with_tabW impl_compareEvents.tab1 impl_compareEvents.bits1 (fun HT_ HW_ => ?_)
 generalize ((W.alloc (.cells #[.int .i64 x.f0, .int .i64 x.f1, .int .i64 x.f2, .int .i64 x.f3, .string x.f4, .int .i64 x.f5] 40)).alloc (.cells #[.int .i64 y.f0, .int .i64 y.f1, .int .i64 y.f2, .int .i64 y.f3, .string y.f4, .int .i64 y.f5] 40)).drew = w9 at BK1 BK2 G0 hHeld ⊢
 refine pu_ 0 5 (msk 1 17) HT_.out ?_; refine pu_ 2 7 (mskl 18 1 [2]) HT_.out ?_; refine pu_ 5 10 (mskl 18 1 [2, 5]) HT_.out ?_; refine pu_ 7 12 (mskl 18 1 [2, 5, 7]) HT_.out ?_; refine pu_ 10 15 (mskl 18 1 [2, 5, 7, 10]) HT_.out ?_; refine pu_ 12 17 (mskl 18 1 [2, 5, 7, 10, 12]) HT_.out ?_
 refine tk_ 1 6 (mskl 18 3 [5, 7, 10, 12]) HT_.out HW_.out hHeld ?_ (hy := by rintro w' ⟨s0, s1, s2, s3, s4, s5⟩; go_simp; with_reducible rfl)
 refine tk_ 3 8 (mskl 18 4 [5, 7, 10, 12]) HT_.out HW_.out hHeld ?_ (hy := by rintro w' ⟨s0, s1, s2, s3, s4, s5⟩; go_simp; with_reducible rfl)
 refine tk_ 6 11 (mskl 18 4 [5, 6, 7, 10, 12]) HT_.out HW_.out hHeld ?_ (hy := by rintro w' ⟨s0, s1, s2, s3, s4, s5⟩; go_simp; with_reducible rfl)
 refine tk_ 8 13 (mskl 18 4 [5, 6, 7, 8, 10, 12]) HT_.out HW_.out hHeld ?_ (hy := by rintro w' ⟨s0, s1, s2, s3, s4, s5⟩; go_simp; with_reducible rfl)
 refine tk_ 11 16 (mskl 18 4 [5, 6, 7, 8, 10, 11, 12]) HT_.out HW_.out hHeld ?_ (hy := by rintro w' ⟨s0, s1, s2, s3, s4, s5⟩; go_simp; with_reducible rfl)
 refine tk_ 13 18 (mskl 18 4 [5, 6, 7, 8, 10, 11, 12, 13]) HT_.out HW_.out hHeld ?_ (hy := by rintro w' ⟨s0, s1, s2, s3, s4, s5⟩; go_simp; with_reducible rfl)
 refine one_ (i := 4) (N := some 9) (mskl 18 9 [10, 11, 12, 13]) rfl rfl (one_of HT_.out (by kernel_rfl)) (by decide) (fun K hK => ?_)
 refine goes_ Try.func35 (by kernel_rfl) rfl #[.int .i64 x.f2, .int .i64 y.f2] (by rfl) rfl rfl (by (try simp only [List.map_toArray, List.map_cons, List.map_nil]); first | done | rfl) ?_
 with_reducible refine (cmp_Compare_int.calls x.f2 y.f2 t2 _ A3.out).mono ?_
 rintro e w' ⟨rfl, ⟨nd, rfl⟩⟩
 refine ⟨_, rfl, ?_⟩
 have n0_ := Aside0.mk (impl_Event_28.Gr.drewN G0.out nd); clear G0; have G0 := n0_; clear n0_
 have n0_ := Aside0.mk (blk_drewN BK1.out nd); clear BK1; have BK1 := n0_; clear n0_
 have n0_ := Aside0.mk (blk_drewN BK2.out nd); clear BK2; have BK2 := n0_; clear n0_
 refine hK.out _ _ ⟨(blk_cell BK1.out 0).trans rfl, (blk_cell BK1.out 1).trans rfl, (blk_cell BK1.out 2).trans rfl, (blk_cell BK2.out 0).trans rfl, (blk_cell BK2.out 1).trans rfl, (blk_cell BK2.out 2).trans rfl⟩ (fun hHeld => ?_)
 clear hK K
 refine norm_ (a' := ?_) ?_ ?_
 rotate_left
 ·show Act.put _ (some 9) _ = _
  simp only [Act.put, List.setIfInBounds_toArray, List.set_cons_zero, List.set_cons_succ, i64_w, i32_w]
  rfl
 generalize w9.drewN nd = w10 at BK1 BK2 G0 hHeld ⊢
 refine one_ (i := 9) (N := some 14) (msk 14 4) rfl rfl (one_of HT_.out (by kernel_rfl)) (by decide) (fun K hK => ?_)
 refine goes_ Try.func35 (by kernel_rfl) rfl #[.int .i64 x.f0, .int .i64 y.f0] (by rfl) rfl rfl (by (try simp only [List.map_toArray, List.map_cons, List.map_nil]); first | done | rfl) ?_
 with_reducible refine (cmp_Compare_int.calls x.f0 y.f0 t0 _ A4.out).mono ?_
 rintro e w' ⟨rfl, ⟨nd, rfl⟩⟩
 refine ⟨_, rfl, ?_⟩
 have n0_ := Aside0.mk (impl_Event_28.Gr.drewN G0.out nd); clear G0; have G0 := n0_; clear n0_
 have n0_ := Aside0.mk (blk_drewN BK1.out nd); clear BK1; have BK1 := n0_; clear n0_
 have n0_ := Aside0.mk (blk_drewN BK2.out nd); clear BK2; have BK2 := n0_; clear n0_
 refine hK.out _ _ ⟨(blk_cell BK1.out 0).trans rfl, (blk_cell BK1.out 1).trans rfl, (blk_cell BK1.out 2).trans rfl, (blk_cell BK2.out 0).trans rfl, (blk_cell BK2.out 1).trans rfl, (blk_cell BK2.out 2).trans rfl⟩ (fun hHeld => ?_)
 clear hK K
 refine norm_ (a' := ?_) ?_ ?_
 rotate_left
 ·show Act.put _ (some 14) _ = _
  simp only [Act.put, List.setIfInBounds_toArray, List.set_cons_zero, List.set_cons_succ, i64_w, i32_w]
  rfl
 generalize w10.drewN nd = w11 at BK1 BK2 G0 hHeld ⊢
 refine one_ (i := 14) (N := some 19) (msk 15 3) rfl rfl (one_of HT_.out (by kernel_rfl)) (by decide) (fun K hK => ?_)
 refine goes_ Try.func35 (by kernel_rfl) rfl #[.int .i64 x.f1, .int .i64 y.f1] (by rfl) rfl rfl (by (try simp only [List.map_toArray, List.map_cons, List.map_nil]); first | done | rfl) ?_
 with_reducible refine (cmp_Compare_int.calls x.f1 y.f1 t1 _ A5.out).mono ?_
 rintro e w' ⟨rfl, ⟨nd, rfl⟩⟩
 refine ⟨_, rfl, ?_⟩
 have n0_ := Aside0.mk (impl_Event_28.Gr.drewN G0.out nd); clear G0; have G0 := n0_; clear n0_
 have n0_ := Aside0.mk (blk_drewN BK1.out nd); clear BK1; have BK1 := n0_; clear n0_
 have n0_ := Aside0.mk (blk_drewN BK2.out nd); clear BK2; have BK2 := n0_; clear n0_
 refine hK.out _ _ ⟨(blk_cell BK1.out 0).trans rfl, (blk_cell BK1.out 1).trans rfl, (blk_cell BK1.out 2).trans rfl, (blk_cell BK2.out 0).trans rfl, (blk_cell BK2.out 1).trans rfl, (blk_cell BK2.out 2).trans rfl⟩ (fun hHeld => ?_)
 clear hK K
 refine norm_ (a' := ?_) ?_ ?_
 rotate_left
 ·show Act.put _ (some 19) _ = _
  simp only [Act.put, List.setIfInBounds_toArray, List.set_cons_zero, List.set_cons_succ, i64_w, i32_w]
  rfl
 generalize w11.drewN nd = w12 at BK1 BK2 G0 hHeld ⊢
 refine one_ (i := 15) (N := some 20) (msk 16 2) rfl rfl (one_of HT_.out (by kernel_rfl)) (by decide) (fun K hK => ?_)
 refine value_ (v := .slice (some ⟨w12.heap.size, 0, none⟩) 3 3) (w1 := w12.alloc (.cells #[.int .i64 t2, .int .i64 t0, .int .i64 t1] 3)) (by rfl) rfl (by first | (go_simp; done) | (go_simp; rfl)) ?_
 have HO := Aside0.mk (impl_Event_28.row3 (heap_alloc_new w12 (.cells #[.int .i64 t2, .int .i64 t0, .int .i64 t1] 3)))
 have n0_ := Aside0.mk (impl_Event_28.Gr.alloc G0.out (.cells #[.int .i64 t2, .int .i64 t0, .int .i64 t1] 3)); clear G0; have G0 := n0_; clear n0_
 have n0_ := Aside0.mk (blk_alloc BK1.out (.cells #[.int .i64 t2, .int .i64 t0, .int .i64 t1] 3)); clear BK1; have BK1 := n0_; clear n0_
 have n0_ := Aside0.mk (blk_alloc BK2.out (.cells #[.int .i64 t2, .int .i64 t0, .int .i64 t1] 3)); clear BK2; have BK2 := n0_; clear n0_
 refine hK.out _ _ ⟨(blk_cell BK1.out 0).trans rfl, (blk_cell BK1.out 1).trans rfl, (blk_cell BK1.out 2).trans rfl, (blk_cell BK2.out 0).trans rfl, (blk_cell BK2.out 1).trans rfl, (blk_cell BK2.out 2).trans rfl⟩ (fun hHeld => ?_)
 clear hK K
 refine norm_ (a' := ?_) ?_ ?_
 rotate_left
 ·show Act.put _ (some 20) _ = _
  simp only [Act.put, List.setIfInBounds_toArray, List.set_cons_zero, List.set_cons_succ, i64_w, i32_w]
  rfl
 obtain ⟨g3, hg3⟩ : ∃ g, g = w12.heap.size := ⟨_, rfl⟩
 rw [← hg3] at HO ⊢
 clear hg3
 generalize w12.alloc (.cells #[.int .i64 t2, .int .i64 t0, .int .i64 t1] 3) = w13 at BK1 BK2 G0 hHeld HO ⊢
 refine one_ (i := 16) (N := some 21) (msk 17 1) rfl rfl (one_of HT_.out (by kernel_rfl)) (by decide) (fun K hK => ?_)
 refine goes_ Try.func34 (by kernel_rfl) rfl #[.slice (some ⟨g3, 0, none⟩) 3 3] (by rfl) rfl rfl (by (try simp only [List.map_toArray, List.map_cons, List.map_nil]); first | done | rfl) ?_
 refine (cmp_Or_int.calls 5 (some ⟨g3, 0, none⟩) 3 [t2, t0, t1] tr w13 HO.out (Nat.le_refl 3) A6.out).mono ?_
 rintro e w' ⟨rfl, ⟨nd, rfl⟩⟩
 refine ⟨_, rfl, ?_⟩
 have n0_ := Aside0.mk (impl_Event_28.Gr.drewN G0.out nd); clear G0; have G0 := n0_; clear n0_
 have n0_ := Aside0.mk (blk_drewN BK1.out nd); clear BK1; have BK1 := n0_; clear n0_
 have n0_ := Aside0.mk (blk_drewN BK2.out nd); clear BK2; have BK2 := n0_; clear n0_
 refine hK.out _ _ ⟨(blk_cell BK1.out 0).trans rfl, (blk_cell BK1.out 1).trans rfl, (blk_cell BK1.out 2).trans rfl, (blk_cell BK2.out 0).trans rfl, (blk_cell BK2.out 1).trans rfl, (blk_cell BK2.out 2).trans rfl⟩ (fun hHeld => ?_)
 clear hK K
 refine norm_ (a' := ?_) ?_ ?_
 rotate_left
 ·show Act.put _ (some 21) _ = _
  simp only [Act.put, List.setIfInBounds_toArray, List.set_cons_zero, List.set_cons_succ, i64_w, i32_w]
  rfl
 refine pu_ 17 4 (msk 18 0) HT_.out ?_
 refine done_ (done_of HT_.out (by kernel_rfl)) ?_
 try go_wp2
 go_ret
 exact ⟨rfl, G0.out⟩
theorem impl_Event_28.lt (x y : S40) : Go.Proofs.ltOf impl_Event_28.cf x y = decide (x.f2 < y.f2 ∨ (x.f2 = y.f2 ∧ (x.f0 < y.f0 ∨ (x.f0 = y.f0 ∧ x.f1 < y.f1)))) := by
 unfold Go.Proofs.ltOf
 rw [decide_eq_decide]
 unfold impl_Event_28.cf impl_Event_28.c3
 constructor
 ·intro h
  repeat' split at h
  all_goals omega
 ·intro h
  repeat' split
  all_goals omega
theorem impl_Event_28.swo : Go.Sort.SWO (Go.Proofs.ltOf impl_Event_28.cf) where
 irrefl x := by rw [impl_Event_28.lt, decide_eq_false_iff_not]; omega
 trans x y z h1 h2 := by
  rw [impl_Event_28.lt, decide_eq_true_eq] at *
  omega
 ntrans x y z h1 h2 := by
  rw [impl_Event_28.lt, decide_eq_false_iff_not] at *
  omega
theorem impl_Event_28.lays (blk off size : Nat) (w : World) : CmpLays Try.prog 22 #[] impl_Event_28.enc 6 impl_Event_28.cf blk off size w :=
 fun _ _ _ _ x y => impl_Event_28.cmp x y _
theorem impl_Event_28.flat_row (d : Array S40) (j : Nat) (hj : j < d.size) : ((Go.Sort.flatK impl_Event_28.enc 6 d).toList.drop (j * 6)).take 6 = impl_Event_28.enc d[j]! := by
 have hs : (Go.Sort.flatK impl_Event_28.enc 6 d).size = d.size * 6 := Go.Sort.size_flatK _ _ _
 apply List.ext_getElem?
 intro i
 rw [List.getElem?_take]
 by_cases hi : i < 6
 rotate_left
 ·rw [if_neg hi]
  symm
  exact List.getElem?_eq_none (show (impl_Event_28.enc d[j]!).length ≤ i from Nat.le_of_not_lt hi)
 rw [if_pos hi, List.getElem?_drop, Array.getElem?_toList, Array.getElem?_eq_getElem (by omega), ← getElem!_pos (Go.Sort.flatK impl_Event_28.enc 6 d) (j * 6 + i) (by omega), Go.Sort.get_flatK _ _ _ _ (by omega)]
 rw [show (j * 6 + i) / 6 = j by omega, show (j * 6 + i) % 6 = i by omega, List.getElem?_eq_getElem (show i < (impl_Event_28.enc d[j]!).length from hi), getElem!_pos _ i (show i < (impl_Event_28.enc d[j]!).length from hi)]
theorem impl_Event_28.put_block {w : World} {g e : Nat} {cur : Array Value} (h : w.heap[g]? = some (.cells cur e (0, 0))) (n : Nat) (d : Array S40) (os : Array Obj) :
  (Go.Proofs.sortWorldK impl_Event_28.enc 6 w g 0 n d os).heap[g]? = some (.cells (Go.Sort.putCells id 0 (Go.Sort.flatK impl_Event_28.enc 6 d) cur) e (0, 0)) := by
 have hg := blk_lt h
 show ((w.heap.modify g _) ++ os)[g]? = _
 rw [Array.getElem?_append_left (by simpa using hg), Array.getElem?_modify, if_pos rfl, h]
 rfl
theorem impl_Event_28.put_other {w : World} {g : Nat} (n : Nat) (d : Array S40) (os : Array Obj) (k : Nat) (hk : k < w.heap.size) (hne : k ≠ g) :
  (Go.Proofs.sortWorldK impl_Event_28.enc 6 w g 0 n d os).heap[k]? = w.heap[k]? := by
 show ((w.heap.modify g _) ++ os)[k]? = _
 rw [Array.getElem?_append_left (by simpa using hk), Array.getElem?_modify, if_neg (Ne.symm hne)]
theorem impl_Event_28.put_size (w : World) (g n : Nat) (d : Array S40) (os : Array Obj) : w.heap.size ≤ (Go.Proofs.sortWorldK impl_Event_28.enc 6 w g 0 n d os).heap.size := by
 show w.heap.size ≤ ((w.heap.modify g _) ++ os).size
 simp
theorem impl_Event_28.put_take (F cur : Array Value) (h : F.size ≤ cur.size) : (Go.Sort.putCells id 0 F cur).toList.take F.size = F.toList := by
 apply List.ext_getElem?
 intro i
 rw [List.getElem?_take]
 by_cases hi : i < F.size
 rotate_left
 ·rw [if_neg hi, Array.getElem?_toList, Array.getElem?_eq_none (by omega)]

 rw [if_pos hi, Array.getElem?_toList, Array.getElem?_toList]
 unfold Go.Sort.putCells
 rw [Array.getElem?_mapIdx, Array.getElem?_eq_getElem (show i < cur.size by omega), Option.map_some, if_pos ⟨Nat.zero_le _, by omega⟩, Nat.sub_zero, Array.getElem?_eq_getElem hi, getElem!_pos F i hi]
 rfl
set_option maxHeartbeats 8000000 in
set_option maxRecDepth 100000 in
theorem impl_Event_28.calls (P0_ : Nat → Prop) (u9000_ : Value) (l0 : List (S40))  (r : List (S40)) (w0 w : World) (hB : Below w0.heap.size w0 w) (ho0 : Kd.R k40 40 w w0.heap.size P0_ u9000_ l0) (h : impl_Event_28.f l0 = some r) :
  Calls Try.prog 28 #[u9000_, .func (.func 22) #[] #[]] w fun e w' => e = .returned (.tuple #[]) ∧ Kd.R k40 40 w' w0.heap.size (fun k_ => (P0_ k_ ∨ w.heap.size ≤ k_)) u9000_ r ∧ Below w0.heap.size w0 w' ∧ Kept w w' (fun k_ => P0_ k_) := by
 unfold impl_Event_28.f at h
 by_cases c1 : l0.length < 1000000
 rotate_left
 ·rw [if_neg c1] at h
  cases h
 rw [if_pos c1] at h
 by_cases c2 : l0.length = 0
 ·rw [if_pos c2] at h
  obtain rfl := Option.some.inj h
  obtain rfl : l0 = [] := List.eq_nil_of_length_eq_zero c2
  obtain ⟨A, c, rfl⟩ := Kd.R_slice ho0
  refine (Try.sortEv_none A c _ w).mono ?_
  rintro e w' ⟨rfl, rfl⟩
  exact ⟨rfl, Kd.R_mono ho0 (fun _ hk => .inl hk), hB, Kept.refl _ _⟩
 rw [if_neg c2] at h
 obtain rfl := Option.some.inj h
 clear h
 obtain ⟨h0, inner, ⟨hl, hcase⟩, hrp⟩ := ho0
 rcases hcase with ⟨rfl, hz⟩ | ⟨g, cap, cur, rfl, hbg, hg, hnc, hcm, hcs, htk⟩
 ·exact absurd hz c2
 have hPg : P0_ g := h0 g rfl
 change inner.length = l0.length * 6 at hl
 change cur.size = cap * 6 at hcs
 change cur.toList.take (l0.length * 6) = inner at htk
 have hgl := blk_lt hg
 have henc : ∀ j (hj : j < l0.length), (inner.drop (j * 6)).take 6 = impl_Event_28.enc l0[j] := fun j hj => k40_openM (hrp.2 j _ (List.getElem?_eq_getElem hj))
 have hH : Go.Sort.HoldsK impl_Event_28.enc 6 w g 0 l0.toArray := by
  intro t ht
  have ht2 : t < l0.length * 6 := by rw [Go.Sort.size_flatK] at ht; simpa using ht
  refine ⟨?_, blk_frozen hg _⟩
  rw [blk_cell hg, Go.Sort.get_flatK _ _ _ _ (by simpa using ht2), Nat.zero_add]
  have hj : t / 6 < l0.length := by omega
  have e1 : cur[t]? = inner[t]? := by rw [← htk, List.getElem?_take, if_pos ht2, Array.getElem?_toList]
  have e2 : inner[t]? = ((inner.drop (t / 6 * 6)).take 6)[t % 6]? := by
   rw [List.getElem?_take, if_pos (by omega), List.getElem?_drop]
   congr 1
   omega
  rw [e1, e2, henc _ hj, getElem!_pos l0.toArray (t / 6) (by simpa using hj)]
  have hi : t % 6 < (impl_Event_28.enc l0[t / 6]).length := show t % 6 < 6 by omega
  rw [List.getElem?_eq_getElem hi]
  show some ((impl_Event_28.enc l0[t / 6])[t % 6]) = some ((impl_Event_28.enc l0[t / 6])[t % 6]!)
  rw [getElem!_pos (impl_Event_28.enc l0[t / 6]) (t % 6) hi]
 have eg : ∀ args w, (callFunc 22 args).run Try.prog w = .ok (.enter 22 args) w := enters_of Try.func22 (by kernel_rfl) rfl
 have hcon := Try.sortEv_eq 6 Try.isAgg40 Try.sizeOf40 impl_Event_28.enc (fun _ => rfl) (fun x v hv => by simp [impl_Event_28.enc] at hv; rcases hv with rfl | rfl | rfl | rfl | rfl | rfl <;> rfl) impl_Event_28.cf impl_Event_28.swo 22 #[] g 0 cap l0.toArray w eg (impl_Event_28.lays g 0 _ w) hH hgl (by simp; omega)
 have hps := (Go.Sort.pdq_sorts (Go.Proofs.ltOf impl_Event_28.cf) impl_Event_28.swo l0.toArray 0 l0.toArray.size (Lib.bitLen l0.toArray.size) true true (Nat.zero_le _) (Nat.le_refl _) (.inl rfl)).1.1
 generalize Go.Sort.pdq (Go.Proofs.ltOf impl_Event_28.cf) l0.toArray 0 l0.toArray.size (Lib.bitLen l0.toArray.size) true true = d at hcon hps ⊢
 have hds : d.size = l0.length := hps.trans (by simp)
 have hfs : (Go.Sort.flatK impl_Event_28.enc 6 d).size = l0.length * 6 := by rw [Go.Sort.size_flatK, hds]
 refine hcon.mono ?_
 rintro e w' ⟨rfl, n, os, rfl⟩
 have hcap : l0.length * 6 ≤ cur.size := by rw [hcs]; exact Nat.mul_le_mul_right _ hnc
 have hrow : Kd.R k40 40 (Go.Proofs.sortWorldK impl_Event_28.enc 6 w g 0 n d os) w0.heap.size (fun k_ => (P0_ k_ ∨ w.heap.size ≤ k_)) (.slice (some ⟨g, 0, none⟩) l0.length cap) d.toList := by
  refine ⟨fun k hk => .inl (h0 k hk), (Go.Sort.flatK impl_Event_28.enc 6 d).toList, ⟨?_, .inr ⟨g, cap, _, ?_, hbg, impl_Event_28.put_block hg n d os, ?_, hcm, ?_, ?_⟩⟩, ?_, ?_⟩
  ·show (Go.Sort.flatK impl_Event_28.enc 6 d).toList.length = d.toList.length * 6
   rw [Array.length_toList, Array.length_toList, hfs, hds]
  ·exact congrArg (fun m : Nat => Value.slice (some ⟨g, 0, none⟩) m cap) (hds.symm.trans (Array.length_toList (xs := d)).symm)
  ·rw [Array.length_toList, hds]; exact hnc
  ·show (Go.Sort.putCells id 0 (Go.Sort.flatK impl_Event_28.enc 6 d) cur).size = cap * 6
   unfold Go.Sort.putCells
   rw [Array.size_mapIdx, hcs]
  ·show (Go.Sort.putCells id 0 (Go.Sort.flatK impl_Event_28.enc 6 d) cur).toList.take (d.toList.length * 6) = _
   rw [Array.length_toList, hds, ← hfs]
   exact impl_Event_28.put_take _ _ (by rw [hfs]; exact hcap)
  ·show (Go.Sort.flatK impl_Event_28.enc 6 d).toList.length = d.toList.length * 6
   rw [Array.length_toList, Array.length_toList, hfs, hds]
  ·intro j p hp
   show k40.M _ _ _ p (((Go.Sort.flatK impl_Event_28.enc 6 d).toList.drop (j * 6)).take 6)
   have hj : j < d.size := by
    have := (List.getElem?_eq_some_iff.1 hp).1
    simpa using this
   rw [impl_Event_28.flat_row d j hj]
   have e : d[j]! = p := by
    rw [getElem!_pos d j hj]
    rw [Array.getElem?_toList, Array.getElem?_eq_getElem hj] at hp
    exact Option.some.inj hp
   rw [e]
   exact k40_mkM _ _ _ p
 refine ⟨rfl, hrow, hB.trans ⟨rfl, rfl, rfl, impl_Event_28.put_size _ _ _ _ _, fun k hk => ?_⟩, impl_Event_28.put_size _ _ _ _ _, fun k hk hn => impl_Event_28.put_other n d os k hk (fun e => hn (e ▸ hPg))⟩
 exact impl_Event_28.put_other n d os k (Nat.lt_of_lt_of_le hk hB.size) (fun e => absurd hbg (Nat.not_le.2 (e ▸ hk)))


/-! ### impl_MergeEvents: function 14 -/
mutual
def impl_MergeEvents.j0 : Nat → List (S40) → List (S40) → Bool → Option ((List (S40)) × Int)
 | 0, _, _, _ => none
 | k + 1, x0, x1, x10 => if x10 = true then (some (([] : List (S40)), 2)) else ((impl_EventsOK.f k x0).bind fun t215 => (if t215 = true then ((impl_EventsOK.f k x1).bind fun t216 => (if t216 = true then ((impl_Event_25.f x0).bind fun t217 => (impl_MergeEvents.l0 k x0 t217 x1 (x1.length : Int) 0)) else (some (([] : List (S40)), 1)))) else (some (([] : List (S40)), 1))))
def impl_MergeEvents.l0 : Nat → List (S40) → List (S40) → List (S40) → Int → Int → Option ((List (S40)) × Int)
 | 0, _, _, _, _, _ => none
 | k + 1, x0, x6, x30, x31, x32 => if x32 < x31 then (if 0 ≤ x32 then (if x32 < (x30.length : Int) then ((impl_Event_26.f x0 ((rd_T40 x30 x32).f0) ((rd_T40 x30 x32).f1) ((rd_T40 x30 x32).f2) ((rd_T40 x30 x32).f3) ((rd_T40 x30 x32).f4) ((rd_T40 x30 x32).f5)).bind fun t222 => (if t222 < 0 then (if x6.length < 2513169434916 then (impl_MergeEvents.l0 k x0 (x6 ++ [(⟨(rd_T40 x30 x32).f0, (rd_T40 x30 x32).f1, (rd_T40 x30 x32).f2, (rd_T40 x30 x32).f3, (rd_T40 x30 x32).f4, (rd_T40 x30 x32).f5⟩ : S40)]) x30 x31 (wrap64 (x32 + 1))) else (none)) else (if 0 ≤ t222 then (if t222 < (x0.length : Int) then (if (!(((rd_T40 x0 t222).f0) == ((rd_T40 x30 x32).f0)) || (!(((rd_T40 x0 t222).f1) == ((rd_T40 x30 x32).f1)) || (!(((rd_T40 x0 t222).f2) == ((rd_T40 x30 x32).f2)) || (!(((rd_T40 x0 t222).f3) == ((rd_T40 x30 x32).f3)) || (!((((rd_T40 x0 t222).f4).toList) == (((rd_T40 x30 x32).f4).toList)) || (!(((rd_T40 x0 t222).f5) == ((rd_T40 x30 x32).f5)))))))) = true then (some (([] : List (S40)), 3)) else (impl_MergeEvents.l0 k x0 x6 x30 x31 (wrap64 (x32 + 1)))) else (none)) else (none)))) else (none)) else (none)) else ((impl_Event_28.f x6).bind fun t227 => (if (x6.length : Int) > 120 then (some (([] : List (S40)), 9)) else ((impl_EventsOK.f k t227).bind fun t228 => (if t228 = true then (some (t227, 0)) else (some (([] : List (S40)), 12))))))
end
def impl_MergeEvents.f (k : Nat) (l0 : List (S40)) (l1 : List (S40)) : Option ((List (S40)) × Int) := (impl_Event_24.f l0).bind fun t213 => (if t213 = true then ((impl_Event_24.f l1).bind fun t214 => (impl_MergeEvents.j0 k l0 l1 (!t214))) else (impl_MergeEvents.j0 k l0 l1 true))
theorem impl_MergeEvents.mono_l : ∀ k, (∀ y0 y1 y2, LeO (impl_MergeEvents.j0 k y0 y1 y2) (impl_MergeEvents.j0 (k + 1) y0 y1 y2)) ∧ (∀ y0 y1 y2 y3 y4, LeO (impl_MergeEvents.l0 k y0 y1 y2 y3 y4) (impl_MergeEvents.l0 (k + 1) y0 y1 y2 y3 y4))
 | 0 => ⟨fun _ _ _ r h => by simp [impl_MergeEvents.j0] at h, fun _ _ _ _ _ r h => by simp [impl_MergeEvents.l0] at h⟩
 | k + 1 => by
  obtain ⟨ih0, ih1⟩ := impl_MergeEvents.mono_l k
  refine ⟨?_, ?_⟩
  ·intro y0 y1 y2
   unfold impl_MergeEvents.j0
   repeat' first
   | (with_reducible exact ih0 _ _ _)
   | (with_reducible exact ih1 _ _ _ _ _)
   | (with_reducible exact impl_EventsOK.mono _ _)
   | (with_reducible exact LeO.refl _)
   | (with_reducible exact LeO.none _)
   | (with_reducible refine LeO.ite ?_ ?_)
   | (with_reducible refine LeO.bind ?_ (fun _ => ?_))
   | exact ih0 _ _ _
   | exact ih1 _ _ _ _ _
   | exact impl_EventsOK.mono _ _
   | exact LeO.none _
   | refine LeO.ite ?_ ?_
   | refine LeO.bind ?_ (fun _ => ?_)
  ·intro y0 y1 y2 y3 y4
   unfold impl_MergeEvents.l0
   repeat' first
   | (with_reducible exact ih0 _ _ _)
   | (with_reducible exact ih1 _ _ _ _ _)
   | (with_reducible exact impl_EventsOK.mono _ _)
   | (with_reducible exact LeO.refl _)
   | (with_reducible exact LeO.none _)
   | (with_reducible refine LeO.ite ?_ ?_)
   | (with_reducible refine LeO.bind ?_ (fun _ => ?_))
   | exact ih0 _ _ _
   | exact ih1 _ _ _ _ _
   | exact impl_EventsOK.mono _ _
   | exact LeO.none _
   | refine LeO.ite ?_ ?_
   | refine LeO.bind ?_ (fun _ => ?_)
theorem impl_MergeEvents.mono : ∀ a0 a1 k, LeO (impl_MergeEvents.f k a0 a1) (impl_MergeEvents.f (k + 1) a0 a1) := by
 intro a0 a1 k
 obtain ⟨ih0, ih1⟩ := impl_MergeEvents.mono_l k
 unfold impl_MergeEvents.f
 repeat' first
   | (with_reducible exact ih0 _ _ _)
   | (with_reducible exact ih1 _ _ _ _ _)
   | (with_reducible exact impl_EventsOK.mono _ _)
   | (with_reducible exact LeO.refl _)
   | (with_reducible exact LeO.none _)
   | (with_reducible refine LeO.ite ?_ ?_)
   | (with_reducible refine LeO.bind ?_ (fun _ => ?_))
   | exact ih0 _ _ _
   | exact ih1 _ _ _ _ _
   | exact impl_EventsOK.mono _ _
   | exact LeO.none _
   | refine LeO.ite ?_ ?_
   | refine LeO.bind ?_ (fun _ => ?_)
set_option maxHeartbeats 8000000 in
set_option maxRecDepth 100000 in
theorem impl_MergeEvents.calls (k : Nat) (A0 : Option Addr) (c0 : Nat) (l0 : List (S40)) (A1 : Option Addr) (c1 : Nat) (l1 : List (S40)) (r1 : List (S40)) (r2 : Int) (w : World) (hr0 : Kd.C k40 w A0 l0.length l0) (hc0 : l0.length ≤ c0) (hr1 : Kd.C k40 w A1 l1.length l1) (hc1 : l1.length ≤ c1) (h : impl_MergeEvents.f k l0 l1 = some (r1, r2)) :
  Calls Try.prog 14 #[.slice A0 l0.length c0, .slice A1 l1.length c1] w fun e w' => ∃ v0_ : Value, e = .returned (.tuple #[v0_, .int .i64 r2]) ∧ Kd.R k40 40 w' w.heap.size (fun _ => True) v0_ r1 ∧ Below w.heap.size w w' := by
 have hu40 := Try.underlying40
 have HR0 := Aside0.mk hr0
 have HC0 := Aside0.mk hc0
 clear hr0 hc0
 have HR1 := Aside0.mk hr1
 have HC1 := Aside0.mk hc1
 clear hr1 hc1
 have HB := Aside0.mk (Below.refl w.heap.size w)
 have H : ((impl_Event_24.f l0).bind fun t213 => (if t213 = true then ((impl_Event_24.f l1).bind fun t214 => (impl_MergeEvents.j0 k l0 l1 (!t214))) else (impl_MergeEvents.j0 k l0 l1 true))) = some (r1, r2) := h
 clear h
 have HC3 := Aside0.mk H
 clear H
 go_enter Try.func14, Try.ntmps14
 go_upto_region 1 with (fail)
 repeat (go_quiet (fail); go_upto_region 1 with (fail))
 go_cut [10] (fun v10 wc => ∃ (kq : Nat) (x10_2 : Bool), v10 = .bool x10_2 ∧ Aside0 (impl_MergeEvents.j0 kq l0 l1 x10_2 = some (r1, r2)) ∧ Aside0 (kq ≤ k) ∧ Aside0 (Below w.heap.size w wc))
 case first =>
  have H := HC3.out
  clear HC3
  replace H := Option.bind_eq_some_iff.mp H
  obtain ⟨t213, A40, H⟩ := H
  replace H : (if t213 = true then ((impl_Event_24.f l1).bind fun t214 => (impl_MergeEvents.j0 k l0 l1 (!t214))) else (impl_MergeEvents.j0 k l0 l1 true)) = some (r1, r2) := H
  have A4 := Aside0.mk A40
  clear A40
  by_cases c5 : t213 = true
  rotate_left
  ·replace c5 := Bool.eq_false_iff.mpr c5
   subst c5
   have H1 : (impl_MergeEvents.j0 k l0 l1 true) = some (r1, r2) := by rw [if_neg (show ¬ (false = true) by decide)] at H; exact H
   clear H
   have H := H1
   clear H1
   have H' := Aside0.mk H
   clear H
   go_wp2_with (first | (go_at_call 24; (with_reducible refine (impl_Event_24.calls _ _ l0 false _ ?side1 ?side2 A4.out).mono ?_); (case side1 => repeat (first | exact (Kd.C_below HR0.out HB.out) | (with_reducible refine Kd.C_alloc ?_ _) | (with_reducible refine Kd.C_drewN ?_ _) | (with_reducible refine Kd.C_drew ?_))); (case side2 => exact HC0.out); rintro e w' ⟨rfl, ⟨nd, rfl⟩⟩; (try exact dr_)))
   repeat (go_quiet (fail); try go_wp2_with (first | (go_at_call 24; (with_reducible refine (impl_Event_24.calls _ _ l0 false _ ?side1 ?side2 A4.out).mono ?_); (case side1 => repeat (first | exact (Kd.C_below HR0.out HB.out) | (with_reducible refine Kd.C_alloc ?_ _) | (with_reducible refine Kd.C_drewN ?_ _) | (with_reducible refine Kd.C_drew ?_))); (case side2 => exact HC0.out); rintro e w' ⟨rfl, ⟨nd, rfl⟩⟩; (try exact dr_))))
   go_meet
   case rel => exact ⟨_, (true), (by first | rfl | (simp; done) | (simp [*]; done)), H', ⟨by first | omega | exact Nat.le_refl _⟩, ⟨by repeat (first | (with_reducible first | exact HB.out | apply below_alloc | apply pw_below_drewN | apply below_drew1) | exact HB.out)⟩⟩
  subst c5
  have H1 : ((impl_Event_24.f l1).bind fun t214 => (impl_MergeEvents.j0 k l0 l1 (!t214))) = some (r1, r2) := by rw [if_pos rfl] at H; exact H
  clear H
  have H := H1
  clear H1
  replace H := Option.bind_eq_some_iff.mp H
  obtain ⟨t214, A60, H⟩ := H
  replace H : (impl_MergeEvents.j0 k l0 l1 (!t214)) = some (r1, r2) := H
  have A6 := Aside0.mk A60
  clear A60
  have H' := Aside0.mk H
  clear H
  go_wp2_with (first | (go_at_call 24; (with_reducible refine (impl_Event_24.calls _ _ l0 true _ ?side1 ?side2 A4.out).mono ?_); (case side1 => repeat (first | exact (Kd.C_below HR0.out HB.out) | (with_reducible refine Kd.C_alloc ?_ _) | (with_reducible refine Kd.C_drewN ?_ _) | (with_reducible refine Kd.C_drew ?_))); (case side2 => exact HC0.out); rintro e w' ⟨rfl, ⟨nd, rfl⟩⟩; (try exact dr_)) | (go_at_call 24; (with_reducible refine (impl_Event_24.calls _ _ l1 t214 _ ?side1 ?side2 A6.out).mono ?_); (case side1 => repeat (first | exact (Kd.C_below HR1.out bl_) | (with_reducible refine Kd.C_alloc ?_ _) | (with_reducible refine Kd.C_drewN ?_ _) | (with_reducible refine Kd.C_drew ?_))); (case side2 => exact HC1.out); rintro e w' ⟨rfl, ⟨nd, rfl⟩⟩; (try exact dr_)))
  repeat (go_quiet (fail); try go_wp2_with (first | (go_at_call 24; (with_reducible refine (impl_Event_24.calls _ _ l0 true _ ?side1 ?side2 A4.out).mono ?_); (case side1 => repeat (first | exact (Kd.C_below HR0.out HB.out) | (with_reducible refine Kd.C_alloc ?_ _) | (with_reducible refine Kd.C_drewN ?_ _) | (with_reducible refine Kd.C_drew ?_))); (case side2 => exact HC0.out); rintro e w' ⟨rfl, ⟨nd, rfl⟩⟩; (try exact dr_)) | (go_at_call 24; (with_reducible refine (impl_Event_24.calls _ _ l1 t214 _ ?side1 ?side2 A6.out).mono ?_); (case side1 => repeat (first | exact (Kd.C_below HR1.out bl_) | (with_reducible refine Kd.C_alloc ?_ _) | (with_reducible refine Kd.C_drewN ?_ _) | (with_reducible refine Kd.C_drew ?_))); (case side2 => exact HC1.out); rintro e w' ⟨rfl, ⟨nd, rfl⟩⟩; (try exact dr_))))
  go_meet
  case rel => exact ⟨_, (!t214), (by first | rfl | (simp; done) | (simp [*]; done)), H', ⟨by first | omega | exact Nat.le_refl _⟩, ⟨by repeat (first | (with_reducible first | exact HB.out | apply below_alloc | apply pw_below_drewN | apply below_drew1) | exact HB.out)⟩⟩
 case rest =>
  clear HC3
  (try clear c1); (try clear p2); (try clear c5)
  obtain ⟨kq, x10_2, rfl, HA, HJ2, HB⟩ := hcut
  cases kq with
  | zero => exact absurd HA.out (by simp [impl_MergeEvents.j0])
  | succ kj2 =>
   have H := HA.out
   clear HA
   simp only [impl_MergeEvents.j0] at H
   by_cases c7 : x10_2 = true
   ·subst c7
    have H1 : (some (([] : List (S40)), 2)) = some (r1, r2) := by rw [if_pos rfl] at H; exact H
    clear H
    have H := H1
    clear H1
    simp only [Option.some.injEq, Prod.mk.injEq] at H
    obtain ⟨rfl, rfl⟩ := H
    go_wp2
    repeat (go_quiet (fail); try go_wp2)
    go_ret2
    exact ⟨_, by first | rfl | (simp [errW_none, errW_some] <;> rfl) | (simp [*, errW_none, errW_some] <;> rfl), by first | exact Kd.R_nil _ _ _ _ _ | exact Kd.N_nil _ _ _ _ _ | exact Kd.V_nil _ _ _ _ _ | exact Kd.Q_nil _ _ _ _ _ | exact Kd.S_nil _ _ _ _ _, by repeat (first | (with_reducible first | exact HB.out | apply below_alloc | apply pw_below_drewN | apply below_drew1) | exact HB.out)⟩
   replace c7 := Bool.eq_false_iff.mpr c7
   subst c7
   have H1 : ((impl_EventsOK.f kj2 l0).bind fun t215 => (if t215 = true then ((impl_EventsOK.f kj2 l1).bind fun t216 => (if t216 = true then ((impl_Event_25.f l0).bind fun t217 => (impl_MergeEvents.l0 kj2 l0 t217 l1 (l1.length : Int) 0)) else (some (([] : List (S40)), 1)))) else (some (([] : List (S40)), 1)))) = some (r1, r2) := by rw [if_neg (show ¬ (false = true) by decide)] at H; exact H
   clear H
   have H := H1
   clear H1
   replace H := Option.bind_eq_some_iff.mp H
   obtain ⟨t215, A80, H⟩ := H
   replace H : (if t215 = true then ((impl_EventsOK.f kj2 l1).bind fun t216 => (if t216 = true then ((impl_Event_25.f l0).bind fun t217 => (impl_MergeEvents.l0 kj2 l0 t217 l1 (l1.length : Int) 0)) else (some (([] : List (S40)), 1)))) else (some (([] : List (S40)), 1))) = some (r1, r2) := H
   have A8 := Aside0.mk A80
   clear A80
   by_cases c9 : t215 = true
   rotate_left
   ·replace c9 := Bool.eq_false_iff.mpr c9
    subst c9
    have H1 : (some (([] : List (S40)), 1)) = some (r1, r2) := by rw [if_neg (show ¬ (false = true) by decide)] at H; exact H
    clear H
    have H := H1
    clear H1
    simp only [Option.some.injEq, Prod.mk.injEq] at H
    obtain ⟨rfl, rfl⟩ := H
    go_wp2_with (first | (go_at_call 9; (with_reducible refine (impl_EventsOK.calls kj2 _ _ l0 false _ ?side1 ?side2 A8.out).mono ?_); (case side1 => repeat (first | exact (Kd.C_below HR0.out HB.out) | (with_reducible refine Kd.C_alloc ?_ _) | (with_reducible refine Kd.C_drewN ?_ _) | (with_reducible refine Kd.C_drew ?_))); (case side2 => exact HC0.out); rintro e w52 ⟨rfl, hb⟩; have n0_ := Aside0.mk (below_step bl_ hb); clear HB; have HB := n0_; clear n0_; (try clear hb); (try clear hb2); (try clear hk); (try clear hi)))
    repeat (go_quiet (fail); try go_wp2_with (first | (go_at_call 9; (with_reducible refine (impl_EventsOK.calls kj2 _ _ l0 false _ ?side1 ?side2 A8.out).mono ?_); (case side1 => repeat (first | exact (Kd.C_below HR0.out HB.out) | (with_reducible refine Kd.C_alloc ?_ _) | (with_reducible refine Kd.C_drewN ?_ _) | (with_reducible refine Kd.C_drew ?_))); (case side2 => exact HC0.out); rintro e w52 ⟨rfl, hb⟩; have n0_ := Aside0.mk (below_step bl_ hb); clear HB; have HB := n0_; clear n0_; (try clear hb); (try clear hb2); (try clear hk); (try clear hi))))
    go_ret2
    exact ⟨_, by first | rfl | (simp [errW_none, errW_some] <;> rfl) | (simp [*, errW_none, errW_some] <;> rfl), by first | exact Kd.R_nil _ _ _ _ _ | exact Kd.N_nil _ _ _ _ _ | exact Kd.V_nil _ _ _ _ _ | exact Kd.Q_nil _ _ _ _ _ | exact Kd.S_nil _ _ _ _ _, by repeat (first | (with_reducible first | exact HB.out | apply below_alloc | apply pw_below_drewN | apply below_drew1) | exact HB.out)⟩

   subst c9
   have H1 : ((impl_EventsOK.f kj2 l1).bind fun t216 => (if t216 = true then ((impl_Event_25.f l0).bind fun t217 => (impl_MergeEvents.l0 kj2 l0 t217 l1 (l1.length : Int) 0)) else (some (([] : List (S40)), 1)))) = some (r1, r2) := by rw [if_pos rfl] at H; exact H
   clear H
   have H := H1
   clear H1
   replace H := Option.bind_eq_some_iff.mp H
   obtain ⟨t216, A100, H⟩ := H
   replace H : (if t216 = true then ((impl_Event_25.f l0).bind fun t217 => (impl_MergeEvents.l0 kj2 l0 t217 l1 (l1.length : Int) 0)) else (some (([] : List (S40)), 1))) = some (r1, r2) := H
   have A10 := Aside0.mk A100
   clear A100
   by_cases c11 : t216 = true
   rotate_left
   ·replace c11 := Bool.eq_false_iff.mpr c11
    subst c11
    have H1 : (some (([] : List (S40)), 1)) = some (r1, r2) := by rw [if_neg (show ¬ (false = true) by decide)] at H; exact H
    clear H
    have H := H1
    clear H1
    simp only [Option.some.injEq, Prod.mk.injEq] at H
    obtain ⟨rfl, rfl⟩ := H
    go_wp2_with (first | (go_at_call 9; (with_reducible refine (impl_EventsOK.calls kj2 _ _ l0 true _ ?side1 ?side2 A8.out).mono ?_); (case side1 => repeat (first | exact (Kd.C_below HR0.out HB.out) | (with_reducible refine Kd.C_alloc ?_ _) | (with_reducible refine Kd.C_drewN ?_ _) | (with_reducible refine Kd.C_drew ?_))); (case side2 => exact HC0.out); rintro e w50 ⟨rfl, hb⟩; have n0_ := Aside0.mk (below_step bl_ hb); clear HB; have HB := n0_; clear n0_; (try clear hb); (try clear hb2); (try clear hk); (try clear hi)) | (go_at_call 9; (with_reducible refine (impl_EventsOK.calls kj2 _ _ l1 false _ ?side1 ?side2 A10.out).mono ?_); (case side1 => repeat (first | exact (Kd.C_below HR1.out HB.out) | (with_reducible refine Kd.C_alloc ?_ _) | (with_reducible refine Kd.C_drewN ?_ _) | (with_reducible refine Kd.C_drew ?_))); (case side2 => exact HC1.out); rintro e w51 ⟨rfl, hb⟩; have n0_ := Aside0.mk (below_step bl_ hb); clear HB; have HB := n0_; clear n0_; (try clear hb); (try clear hb2); (try clear hk); (try clear hi)))
    repeat (go_quiet (fail); try go_wp2_with (first | (go_at_call 9; (with_reducible refine (impl_EventsOK.calls kj2 _ _ l0 true _ ?side1 ?side2 A8.out).mono ?_); (case side1 => repeat (first | exact (Kd.C_below HR0.out HB.out) | (with_reducible refine Kd.C_alloc ?_ _) | (with_reducible refine Kd.C_drewN ?_ _) | (with_reducible refine Kd.C_drew ?_))); (case side2 => exact HC0.out); rintro e w50 ⟨rfl, hb⟩; have n0_ := Aside0.mk (below_step bl_ hb); clear HB; have HB := n0_; clear n0_; (try clear hb); (try clear hb2); (try clear hk); (try clear hi)) | (go_at_call 9; (with_reducible refine (impl_EventsOK.calls kj2 _ _ l1 false _ ?side1 ?side2 A10.out).mono ?_); (case side1 => repeat (first | exact (Kd.C_below HR1.out HB.out) | (with_reducible refine Kd.C_alloc ?_ _) | (with_reducible refine Kd.C_drewN ?_ _) | (with_reducible refine Kd.C_drew ?_))); (case side2 => exact HC1.out); rintro e w51 ⟨rfl, hb⟩; have n0_ := Aside0.mk (below_step bl_ hb); clear HB; have HB := n0_; clear n0_; (try clear hb); (try clear hb2); (try clear hk); (try clear hi))))
    go_ret2
    exact ⟨_, by first | rfl | (simp [errW_none, errW_some] <;> rfl) | (simp [*, errW_none, errW_some] <;> rfl), by first | exact Kd.R_nil _ _ _ _ _ | exact Kd.N_nil _ _ _ _ _ | exact Kd.V_nil _ _ _ _ _ | exact Kd.Q_nil _ _ _ _ _ | exact Kd.S_nil _ _ _ _ _, by repeat (first | (with_reducible first | exact HB.out | apply below_alloc | apply pw_below_drewN | apply below_drew1) | exact HB.out)⟩
   subst c11
   have H1 : ((impl_Event_25.f l0).bind fun t217 => (impl_MergeEvents.l0 kj2 l0 t217 l1 (l1.length : Int) 0)) = some (r1, r2) := by rw [if_pos rfl] at H; exact H
   clear H
   have H := H1
   clear H1
   replace H := Option.bind_eq_some_iff.mp H
   obtain ⟨t217, A120, H⟩ := H
   replace H : (impl_MergeEvents.l0 kj2 l0 t217 l1 (l1.length : Int) 0) = some (r1, r2) := H
   have A12 := Aside0.mk A120
   clear A120
   have H' := Aside0.mk H
   clear H
   go_wp2_with (first | (go_at_call 9; (with_reducible refine (impl_EventsOK.calls kj2 _ _ l0 true _ ?side1 ?side2 A8.out).mono ?_); (case side1 => repeat (first | exact (Kd.C_below HR0.out HB.out) | (with_reducible refine Kd.C_alloc ?_ _) | (with_reducible refine Kd.C_drewN ?_ _) | (with_reducible refine Kd.C_drew ?_))); (case side2 => exact HC0.out); rintro e w13 ⟨rfl, hb⟩; have n0_ := Aside0.mk (below_step bl_ hb); clear HB; have HB := n0_; clear n0_; (try clear hb); (try clear hb2); (try clear hk); (try clear hi)) | (go_at_call 9; (with_reducible refine (impl_EventsOK.calls kj2 _ _ l1 true _ ?side1 ?side2 A10.out).mono ?_); (case side1 => repeat (first | exact (Kd.C_below HR1.out HB.out) | (with_reducible refine Kd.C_alloc ?_ _) | (with_reducible refine Kd.C_drewN ?_ _) | (with_reducible refine Kd.C_drew ?_))); (case side2 => exact HC1.out); rintro e w14 ⟨rfl, hb⟩; have n0_ := Aside0.mk (below_step bl_ hb); clear HB; have HB := n0_; clear n0_; (try clear hb); (try clear hb2); (try clear hk); (try clear hi)) | (go_at_call 25; (with_reducible refine (impl_Event_25.calls _ _ l0 t217 _ ?side1 ?side2 A12.out).mono ?_); (case side1 => repeat (first | exact (Kd.C_below HR0.out HB.out) | (with_reducible refine Kd.C_alloc ?_ _) | (with_reducible refine Kd.C_drewN ?_ _) | (with_reducible refine Kd.C_drew ?_))); (case side2 => exact HC0.out); rintro e w15 ⟨v218, rfl, ho0, hb⟩; have n0_ := Aside0.mk (Kd.R_lower ho0 (below_size bl_)); have n1_ := Aside0.mk (below_step bl_ hb); clear HB; have HO219 := n0_; have HB := n1_; clear n0_ n1_; (try clear hb); (try clear hb2); (try clear hk); (try clear hi); (try clear ho0)))
   repeat (go_quiet (fail); try go_wp2_with (first | (go_at_call 9; (with_reducible refine (impl_EventsOK.calls kj2 _ _ l0 true _ ?side1 ?side2 A8.out).mono ?_); (case side1 => repeat (first | exact (Kd.C_below HR0.out HB.out) | (with_reducible refine Kd.C_alloc ?_ _) | (with_reducible refine Kd.C_drewN ?_ _) | (with_reducible refine Kd.C_drew ?_))); (case side2 => exact HC0.out); rintro e w13 ⟨rfl, hb⟩; have n0_ := Aside0.mk (below_step bl_ hb); clear HB; have HB := n0_; clear n0_; (try clear hb); (try clear hb2); (try clear hk); (try clear hi)) | (go_at_call 9; (with_reducible refine (impl_EventsOK.calls kj2 _ _ l1 true _ ?side1 ?side2 A10.out).mono ?_); (case side1 => repeat (first | exact (Kd.C_below HR1.out HB.out) | (with_reducible refine Kd.C_alloc ?_ _) | (with_reducible refine Kd.C_drewN ?_ _) | (with_reducible refine Kd.C_drew ?_))); (case side2 => exact HC1.out); rintro e w14 ⟨rfl, hb⟩; have n0_ := Aside0.mk (below_step bl_ hb); clear HB; have HB := n0_; clear n0_; (try clear hb); (try clear hb2); (try clear hk); (try clear hi)) | (go_at_call 25; (with_reducible refine (impl_Event_25.calls _ _ l0 t217 _ ?side1 ?side2 A12.out).mono ?_); (case side1 => repeat (first | exact (Kd.C_below HR0.out HB.out) | (with_reducible refine Kd.C_alloc ?_ _) | (with_reducible refine Kd.C_drewN ?_ _) | (with_reducible refine Kd.C_drew ?_))); (case side2 => exact HC0.out); rintro e w15 ⟨v218, rfl, ho0, hb⟩; have n0_ := Aside0.mk (Kd.R_lower ho0 (below_size bl_)); have n1_ := Aside0.mk (below_step bl_ hb); clear HB; have HO219 := n0_; have HB := n1_; clear n0_ n1_; (try clear hb); (try clear hb2); (try clear hk); (try clear hi); (try clear ho0))))
   go_loopg [6, 32] kj2 (fun kq v6 v32 w' => ∃ (x6_2 : List (S40)) (x32_2 : Int), v32 = .int .i64 x32_2 ∧ Aside0 (impl_MergeEvents.l0 kq l0 x6_2 l1 (l1.length : Int) x32_2 = some (r1, r2)) ∧ Aside0 (kq ≤ kj2) ∧ Aside0 (Kd.R k40 40 w' w.heap.size (fun _ => True) v6 x6_2) ∧ Aside0 (Below w.heap.size w w'))
   case atStart => exact ⟨(t217), (0), (by first | rfl | (simp; done) | (simp [*]; done)), H', ⟨Nat.le_refl _⟩, ⟨by (with_reducible repeat (first | apply Kd.R_alloc | apply Kd.R_drewN | apply Kd.R_drew)); exact HO219.out⟩, ⟨by repeat (first | (with_reducible first | exact HB.out | apply below_alloc | apply pw_below_drewN | apply below_drew1) | exact HB.out)⟩⟩
   case round =>
    clear H'
    (try clear c7); (try clear c9); (try clear c11); (try clear c14)
    obtain ⟨x6_2, x32_2, rfl, HA, HK2, HO_6, HB⟩ := hrel
    cases gk with
    | zero => exact absurd HA.out (by simp [impl_MergeEvents.l0])
    | succ k2 =>
     have H := HA.out
     clear HA
     simp only [impl_MergeEvents.l0] at H
     by_cases c16 : x32_2 < (l1.length : Int)
     rotate_left
     ·rw [if_neg c16] at H
      have c16b0 : decide (x32_2 < (l1.length : Int)) = false := decide_eq_false c16
      clear c16
      replace H := Option.bind_eq_some_iff.mp H
      obtain ⟨t227, A380, H⟩ := H
      replace H : (if (x6_2.length : Int) > 120 then (some (([] : List (S40)), 9)) else ((impl_EventsOK.f k2 t227).bind fun t228 => (if t228 = true then (some (t227, 0)) else (some (([] : List (S40)), 12))))) = some (r1, r2) := H
      have A38 := Aside0.mk A380
      clear A380
      by_cases c39 : (x6_2.length : Int) > 120
      ·rw [if_pos c39] at H
       have c39b0 : decide (120 < (x6_2.length : Int)) = true := decide_eq_true c39
       have c39b1 : decide (120 < x6_2.length) = true := decide_eq_true (by omega)
       clear c39
       simp only [Option.some.injEq, Prod.mk.injEq] at H
       obtain ⟨rfl, rfl⟩ := H
       obtain ⟨Ao40, co40, eo40⟩ := Kd.R_slice HO_6.out
       subst eo40
       go_wp2_with (first | (go_at_call 28; (with_reducible refine (impl_Event_28.calls (fun k_ => some k_ = (.slice Ao40 x6_2.length co40 : Value).ownBlock) (.slice Ao40 x6_2.length co40) x6_2  t227 w _ ?side1 ?side2 A38.out).mono ?_); (case side1 => repeat (first | (with_reducible first | exact HB.out | apply below_alloc | apply pw_below_drewN | apply below_drew1) | exact HB.out)); (case side2 => exact Kd.R_tight rfl HO_6.out); rintro e w41 ⟨rfl, hy0, hb, hkp⟩; have n0_ := Aside0.mk (Kd.R_reok rfl hy0 (fun k_ e_ => HO_6.out.1 k_ e_)); have n1_ := Aside0.mk (hb); clear HO_6; clear HB; have HO_6 := n0_; have HB := n1_; clear n0_ n1_; (try clear hb); (try clear hkp); (try clear hy0)))
       repeat (go_quiet (fail); try go_wp2_with (first | (go_at_call 28; (with_reducible refine (impl_Event_28.calls (fun k_ => some k_ = (.slice Ao40 x6_2.length co40 : Value).ownBlock) (.slice Ao40 x6_2.length co40) x6_2  t227 w _ ?side1 ?side2 A38.out).mono ?_); (case side1 => repeat (first | (with_reducible first | exact HB.out | apply below_alloc | apply pw_below_drewN | apply below_drew1) | exact HB.out)); (case side2 => exact Kd.R_tight rfl HO_6.out); rintro e w41 ⟨rfl, hy0, hb, hkp⟩; have n0_ := Aside0.mk (Kd.R_reok rfl hy0 (fun k_ e_ => HO_6.out.1 k_ e_)); have n1_ := Aside0.mk (hb); clear HO_6; clear HB; have HO_6 := n0_; have HB := n1_; clear n0_ n1_; (try clear hb); (try clear hkp); (try clear hy0))))
       go_ret2
       exact ⟨_, by first | rfl | (simp [errW_none, errW_some] <;> rfl) | (simp [*, errW_none, errW_some] <;> rfl), by first | exact Kd.R_nil _ _ _ _ _ | exact Kd.N_nil _ _ _ _ _ | exact Kd.V_nil _ _ _ _ _ | exact Kd.Q_nil _ _ _ _ _ | exact Kd.S_nil _ _ _ _ _, by repeat (first | (with_reducible first | exact HB.out | apply below_alloc | apply pw_below_drewN | apply below_drew1) | exact HB.out)⟩
      rw [if_neg c39] at H
      have c39b0 : decide (120 < (x6_2.length : Int)) = false := decide_eq_false c39
      have c39b1 : decide (120 < x6_2.length) = false := decide_eq_false (by omega)
      clear c39
      replace H := Option.bind_eq_some_iff.mp H
      obtain ⟨t228, A420, H⟩ := H
      replace H : (if t228 = true then (some (t227, 0)) else (some (([] : List (S40)), 12))) = some (r1, r2) := H
      have A42 := Aside0.mk A420
      clear A420
      by_cases c43 : t228 = true
      ·subst c43
       have H1 : (some (t227, 0)) = some (r1, r2) := by rw [if_pos rfl] at H; exact H
       clear H
       have H := H1
       clear H1
       simp only [Option.some.injEq, Prod.mk.injEq] at H
       obtain ⟨rfl, rfl⟩ := H
       obtain ⟨Ao44, co44, eo44⟩ := Kd.R_slice HO_6.out
       subst eo44
       go_wp2_with (first | (go_at_call 28; (with_reducible refine (impl_Event_28.calls (fun k_ => some k_ = (.slice Ao44 x6_2.length co44 : Value).ownBlock) (.slice Ao44 x6_2.length co44) x6_2  t227 w _ ?side1 ?side2 A38.out).mono ?_); (case side1 => repeat (first | (with_reducible first | exact HB.out | apply below_alloc | apply pw_below_drewN | apply below_drew1) | exact HB.out)); (case side2 => exact Kd.R_tight rfl HO_6.out); rintro e w45 ⟨rfl, hy0, hb, hkp⟩; have n0_ := Aside0.mk (Kd.R_reok rfl hy0 (fun k_ e_ => HO_6.out.1 k_ e_)); have n1_ := Aside0.mk (hb); clear HO_6; clear HB; have HO_6 := n0_; have HB := n1_; clear n0_ n1_; (try clear hb); (try clear hkp); (try clear hy0)) | (go_at_call 9; refine calls_of_args (args' := #[.slice Ao44 t227.length co44]) (by first | (rw [show t227.length = x6_2.length from (Kd.R_reads' HO_6.out).1.symm] <;> rfl) | rfl) ?_; (with_reducible refine (impl_EventsOK.calls k2 _ _ t227 true _ ?side1 ?side2 A42.out).mono ?_); (case side1 => repeat (first | exact (Kd.R_reads' HO_6.out).2.2 | (with_reducible refine Kd.C_alloc ?_ _) | (with_reducible refine Kd.C_drewN ?_ _) | (with_reducible refine Kd.C_drew ?_))); (case side2 => rw [show t227.length = x6_2.length from (Kd.R_reads' HO_6.out).1.symm]; exact (Kd.R_reads' HO_6.out).2.1); rintro e w46 ⟨rfl, hb⟩; have n0_ := Aside0.mk (Kd.R_below (by (with_reducible repeat (first | apply Kd.R_alloc | apply Kd.R_drewN | apply Kd.R_drew)); exact HO_6.out) hb); have n1_ := Aside0.mk (below_step bl_ hb); clear HO_6; clear HB; have HO_6 := n0_; have HB := n1_; clear n0_ n1_; (try clear hb); (try clear hb2); (try clear hk); (try clear hi)))
       repeat (go_quiet (fail); try go_wp2_with (first | (go_at_call 28; (with_reducible refine (impl_Event_28.calls (fun k_ => some k_ = (.slice Ao44 x6_2.length co44 : Value).ownBlock) (.slice Ao44 x6_2.length co44) x6_2  t227 w _ ?side1 ?side2 A38.out).mono ?_); (case side1 => repeat (first | (with_reducible first | exact HB.out | apply below_alloc | apply pw_below_drewN | apply below_drew1) | exact HB.out)); (case side2 => exact Kd.R_tight rfl HO_6.out); rintro e w45 ⟨rfl, hy0, hb, hkp⟩; have n0_ := Aside0.mk (Kd.R_reok rfl hy0 (fun k_ e_ => HO_6.out.1 k_ e_)); have n1_ := Aside0.mk (hb); clear HO_6; clear HB; have HO_6 := n0_; have HB := n1_; clear n0_ n1_; (try clear hb); (try clear hkp); (try clear hy0)) | (go_at_call 9; refine calls_of_args (args' := #[.slice Ao44 t227.length co44]) (by first | (rw [show t227.length = x6_2.length from (Kd.R_reads' HO_6.out).1.symm] <;> rfl) | rfl) ?_; (with_reducible refine (impl_EventsOK.calls k2 _ _ t227 true _ ?side1 ?side2 A42.out).mono ?_); (case side1 => repeat (first | exact (Kd.R_reads' HO_6.out).2.2 | (with_reducible refine Kd.C_alloc ?_ _) | (with_reducible refine Kd.C_drewN ?_ _) | (with_reducible refine Kd.C_drew ?_))); (case side2 => rw [show t227.length = x6_2.length from (Kd.R_reads' HO_6.out).1.symm]; exact (Kd.R_reads' HO_6.out).2.1); rintro e w46 ⟨rfl, hb⟩; have n0_ := Aside0.mk (Kd.R_below (by (with_reducible repeat (first | apply Kd.R_alloc | apply Kd.R_drewN | apply Kd.R_drew)); exact HO_6.out) hb); have n1_ := Aside0.mk (below_step bl_ hb); clear HO_6; clear HB; have HO_6 := n0_; have HB := n1_; clear n0_ n1_; (try clear hb); (try clear hb2); (try clear hk); (try clear hi))))
       go_ret2
       exact ⟨_, by first | rfl | (simp [errW_none, errW_some] <;> rfl) | (simp [*, errW_none, errW_some] <;> rfl), by (with_reducible repeat (first | apply Kd.R_alloc | apply Kd.R_drewN | apply Kd.R_drew)); exact HO_6.out, by repeat (first | (with_reducible first | exact HB.out | apply below_alloc | apply pw_below_drewN | apply below_drew1) | exact HB.out)⟩
      replace c43 := Bool.eq_false_iff.mpr c43
      subst c43
      have H1 : (some (([] : List (S40)), 12)) = some (r1, r2) := by rw [if_neg (show ¬ (false = true) by decide)] at H; exact H
      clear H
      have H := H1
      clear H1
      simp only [Option.some.injEq, Prod.mk.injEq] at H
      obtain ⟨rfl, rfl⟩ := H
      obtain ⟨Ao47, co47, eo47⟩ := Kd.R_slice HO_6.out
      subst eo47
      go_wp2_with (first | (go_at_call 28; (with_reducible refine (impl_Event_28.calls (fun k_ => some k_ = (.slice Ao47 x6_2.length co47 : Value).ownBlock) (.slice Ao47 x6_2.length co47) x6_2  t227 w _ ?side1 ?side2 A38.out).mono ?_); (case side1 => repeat (first | (with_reducible first | exact HB.out | apply below_alloc | apply pw_below_drewN | apply below_drew1) | exact HB.out)); (case side2 => exact Kd.R_tight rfl HO_6.out); rintro e w48 ⟨rfl, hy0, hb, hkp⟩; have n0_ := Aside0.mk (Kd.R_reok rfl hy0 (fun k_ e_ => HO_6.out.1 k_ e_)); have n1_ := Aside0.mk (hb); clear HO_6; clear HB; have HO_6 := n0_; have HB := n1_; clear n0_ n1_; (try clear hb); (try clear hkp); (try clear hy0)) | (go_at_call 9; refine calls_of_args (args' := #[.slice Ao47 t227.length co47]) (by first | (rw [show t227.length = x6_2.length from (Kd.R_reads' HO_6.out).1.symm] <;> rfl) | rfl) ?_; (with_reducible refine (impl_EventsOK.calls k2 _ _ t227 false _ ?side1 ?side2 A42.out).mono ?_); (case side1 => repeat (first | exact (Kd.R_reads' HO_6.out).2.2 | (with_reducible refine Kd.C_alloc ?_ _) | (with_reducible refine Kd.C_drewN ?_ _) | (with_reducible refine Kd.C_drew ?_))); (case side2 => rw [show t227.length = x6_2.length from (Kd.R_reads' HO_6.out).1.symm]; exact (Kd.R_reads' HO_6.out).2.1); rintro e w49 ⟨rfl, hb⟩; have n0_ := Aside0.mk (Kd.R_below (by (with_reducible repeat (first | apply Kd.R_alloc | apply Kd.R_drewN | apply Kd.R_drew)); exact HO_6.out) hb); have n1_ := Aside0.mk (below_step bl_ hb); clear HO_6; clear HB; have HO_6 := n0_; have HB := n1_; clear n0_ n1_; (try clear hb); (try clear hb2); (try clear hk); (try clear hi)))
      repeat (go_quiet (fail); try go_wp2_with (first | (go_at_call 28; (with_reducible refine (impl_Event_28.calls (fun k_ => some k_ = (.slice Ao47 x6_2.length co47 : Value).ownBlock) (.slice Ao47 x6_2.length co47) x6_2  t227 w _ ?side1 ?side2 A38.out).mono ?_); (case side1 => repeat (first | (with_reducible first | exact HB.out | apply below_alloc | apply pw_below_drewN | apply below_drew1) | exact HB.out)); (case side2 => exact Kd.R_tight rfl HO_6.out); rintro e w48 ⟨rfl, hy0, hb, hkp⟩; have n0_ := Aside0.mk (Kd.R_reok rfl hy0 (fun k_ e_ => HO_6.out.1 k_ e_)); have n1_ := Aside0.mk (hb); clear HO_6; clear HB; have HO_6 := n0_; have HB := n1_; clear n0_ n1_; (try clear hb); (try clear hkp); (try clear hy0)) | (go_at_call 9; refine calls_of_args (args' := #[.slice Ao47 t227.length co47]) (by first | (rw [show t227.length = x6_2.length from (Kd.R_reads' HO_6.out).1.symm] <;> rfl) | rfl) ?_; (with_reducible refine (impl_EventsOK.calls k2 _ _ t227 false _ ?side1 ?side2 A42.out).mono ?_); (case side1 => repeat (first | exact (Kd.R_reads' HO_6.out).2.2 | (with_reducible refine Kd.C_alloc ?_ _) | (with_reducible refine Kd.C_drewN ?_ _) | (with_reducible refine Kd.C_drew ?_))); (case side2 => rw [show t227.length = x6_2.length from (Kd.R_reads' HO_6.out).1.symm]; exact (Kd.R_reads' HO_6.out).2.1); rintro e w49 ⟨rfl, hb⟩; have n0_ := Aside0.mk (Kd.R_below (by (with_reducible repeat (first | apply Kd.R_alloc | apply Kd.R_drewN | apply Kd.R_drew)); exact HO_6.out) hb); have n1_ := Aside0.mk (below_step bl_ hb); clear HO_6; clear HB; have HO_6 := n0_; have HB := n1_; clear n0_ n1_; (try clear hb); (try clear hb2); (try clear hk); (try clear hi))))
      go_ret2
      exact ⟨_, by first | rfl | (simp [errW_none, errW_some] <;> rfl) | (simp [*, errW_none, errW_some] <;> rfl), by first | exact Kd.R_nil _ _ _ _ _ | exact Kd.N_nil _ _ _ _ _ | exact Kd.V_nil _ _ _ _ _ | exact Kd.Q_nil _ _ _ _ _ | exact Kd.S_nil _ _ _ _ _, by repeat (first | (with_reducible first | exact HB.out | apply below_alloc | apply pw_below_drewN | apply below_drew1) | exact HB.out)⟩
     rw [if_pos c16] at H
     have c16b0 : decide (x32_2 < (l1.length : Int)) = true := decide_eq_true c16
     clear c16
     by_cases c17 : 0 ≤ x32_2
     rotate_left
     ·rw [if_neg c17] at H
      exact absurd H (by simp)
     rw [if_pos c17] at H
     have c17b0 : decide (0 ≤ x32_2) = true := decide_eq_true c17
     clear c17
     by_cases c18 : x32_2 < (l1.length : Int)
     rotate_left
     ·rw [if_neg c18] at H
      exact absurd H (by simp)
     rw [if_pos c18] at H
     have c18b0 : decide (x32_2 < (l1.length : Int)) = true := decide_eq_true c18
     clear c18
     replace H := Option.bind_eq_some_iff.mp H
     obtain ⟨t222, A190, H⟩ := H
     replace H : (if t222 < 0 then (if x6_2.length < 2513169434916 then (impl_MergeEvents.l0 k2 l0 (x6_2 ++ [(⟨(rd_T40 l1 x32_2).f0, (rd_T40 l1 x32_2).f1, (rd_T40 l1 x32_2).f2, (rd_T40 l1 x32_2).f3, (rd_T40 l1 x32_2).f4, (rd_T40 l1 x32_2).f5⟩ : S40)]) l1 (l1.length : Int) (wrap64 (x32_2 + 1))) else (none)) else (if 0 ≤ t222 then (if t222 < (l0.length : Int) then (if (!(((rd_T40 l0 t222).f0) == ((rd_T40 l1 x32_2).f0)) || (!(((rd_T40 l0 t222).f1) == ((rd_T40 l1 x32_2).f1)) || (!(((rd_T40 l0 t222).f2) == ((rd_T40 l1 x32_2).f2)) || (!(((rd_T40 l0 t222).f3) == ((rd_T40 l1 x32_2).f3)) || (!((((rd_T40 l0 t222).f4).toList) == (((rd_T40 l1 x32_2).f4).toList)) || (!(((rd_T40 l0 t222).f5) == ((rd_T40 l1 x32_2).f5)))))))) = true then (some (([] : List (S40)), 3)) else (impl_MergeEvents.l0 k2 l0 x6_2 l1 (l1.length : Int) (wrap64 (x32_2 + 1)))) else (none)) else (none))) = some (r1, r2) := H
     have A19 := Aside0.mk A190
     clear A190
     by_cases c20 : t222 < 0
     ·rw [if_pos c20] at H
      have c20b0 : decide (t222 < 0) = true := decide_eq_true c20
      clear c20
      by_cases c21 : x6_2.length < 2513169434916
      rotate_left
      ·rw [if_neg c21] at H
       exact absurd H (by simp)
      rw [if_pos c21] at H
      have LMc21 := Aside0.mk c21
      clear c21
      obtain ⟨y223, hy223⟩ : ∃ y_ : List (S40), y_ = (x6_2 ++ [(⟨(rd_T40 l1 x32_2).f0, (rd_T40 l1 x32_2).f1, (rd_T40 l1 x32_2).f2, (rd_T40 l1 x32_2).f3, (rd_T40 l1 x32_2).f4, (rd_T40 l1 x32_2).f5⟩ : S40)]) := ⟨_, rfl⟩
      replace H : (impl_MergeEvents.l0 k2 l0 y223 l1 (l1.length : Int) (wrap64 (x32_2 + 1))) = some (r1, r2) := by first | (rw [hy223]; with_reducible exact H) | (have H2_ := (Option.bind_some _ _).symm.trans H; rw [hy223]; with_reducible exact H2_) | (have H2_ := (Option.bind_some _ _).symm.trans H; with_reducible exact H2_) | with_reducible exact H | (rw [hy223]; exact H) | exact H
      have Ny223 := Aside0.mk hy223
      clear hy223
      have H' := Aside0.mk H
      clear H
      have p220 : 0 ≤ (x32_2 : Int) := od_
      have q220 : x32_2 < (l1.length : Int) := od_
      obtain ⟨ad220, e220, hx220_0, hx220_1, hx220_2, hx220_3, hx220_4, hx220_5⟩ := at_T40 HR1.out x32_2 p220 q220
      cases e220
      replace hx220_0 := (HB.out.cell (World.block_lt_of_cell? w _ hx220_0)).trans hx220_0
      replace hx220_1 := (HB.out.cell (World.block_lt_of_cell? w _ hx220_1)).trans hx220_1
      replace hx220_2 := (HB.out.cell (World.block_lt_of_cell? w _ hx220_2)).trans hx220_2
      replace hx220_3 := (HB.out.cell (World.block_lt_of_cell? w _ hx220_3)).trans hx220_3
      replace hx220_4 := (HB.out.cell (World.block_lt_of_cell? w _ hx220_4)).trans hx220_4
      replace hx220_5 := (HB.out.cell (World.block_lt_of_cell? w _ hx220_5)).trans hx220_5
      replace p220 := eq_true p220
      replace q220 := eq_true q220
      go_wp2_with (first | ((with_reducible refine gate_dst (N := 8) rfl ?_); refine box_event ?hg (N := 8) ?hd (cs := #[.int .i64 0, .int .i64 0, .int .i64 0, .int .i64 0, .string (⟨#[]⟩ : ByteArray), .int .i64 0]) (t := 40) ?hr ?_; (case hd => rfl); (case hg => rfl); (case hr => first | (go_simp; done) | (go_simp; rfl)); intro gb221 hg w22 hbox hb; have n0_ := Aside0.mk (Kd.R_below (Kd.R_elderB (by (with_reducible repeat (first | apply Kd.R_alloc | apply Kd.R_drewN | apply Kd.R_drew)); exact HO_6.out) gb221 (Nat.le_of_eq hg.symm)) hb); have n1_ := Aside0.mk (below_step bl_ hb); have n2_ := Aside0.mk (hbox); have n3_ := Aside0.mk ((by rw [hg]; exact (below_size bl_) : w.heap.size ≤ gb221)); have n4_ := Aside0.mk ((by rw [hg]; exact (below_size bl_) : w.heap.size ≤ gb221)); clear HO_6; clear HB; have HO_6 := n0_; have HB := n1_; have BK221 := n2_; have GW221 := n3_; have GE221 := n4_; clear n0_ n1_ n2_ n3_ n4_; clear hb hbox hg; have hcz23_0 : w22.cell? ⟨gb221, 0, none⟩ = some (.int .i64 0) := (blk_cell BK221.out 0).trans rfl; have hcz23_1 : w22.cell? ⟨gb221, 1, none⟩ = some (.int .i64 0) := (blk_cell BK221.out 1).trans rfl; have hcz23_2 : w22.cell? ⟨gb221, 2, none⟩ = some (.int .i64 0) := (blk_cell BK221.out 2).trans rfl; have hcz23_3 : w22.cell? ⟨gb221, 3, none⟩ = some (.int .i64 0) := (blk_cell BK221.out 3).trans rfl; have hcz23_4 : w22.cell? ⟨gb221, 4, none⟩ = some (.string (⟨#[]⟩ : ByteArray)) := (blk_cell BK221.out 4).trans rfl; have hcz23_5 : w22.cell? ⟨gb221, 5, none⟩ = some (.int .i64 0) := (blk_cell BK221.out 5).trans rfl; have hfz23_0 := blk_frozen BK221.out 0; have hfz23_1 := blk_frozen BK221.out 1; have hfz23_2 := blk_frozen BK221.out 2; have hfz23_3 := blk_frozen BK221.out 3; have hfz23_4 := blk_frozen BK221.out 4; have hfz23_5 := blk_frozen BK221.out 5) | (go_at_call 26; (with_reducible refine (impl_Event_26.calls _ _ l0 ((rd_T40 l1 x32_2).f0) ((rd_T40 l1 x32_2).f1) ((rd_T40 l1 x32_2).f2) ((rd_T40 l1 x32_2).f3) ((rd_T40 l1 x32_2).f4) ((rd_T40 l1 x32_2).f5) t222 gb221 _ ?side1 ?side2 ?side3 A19.out).mono ?_); (case side1 => exact Kd.C_below HR0.out bl_); (case side2 => exact HC0.out); (case side3 => ((with_reducible repeat (first | refine blk_drewN ?_ _ | refine blk_drew ?_ | refine blk_alloc ?_ _)); refine blk_put (cs := #[.int .i64 ((rd_T40 l1 x32_2).f0), .int .i64 ((rd_T40 l1 x32_2).f1), .int .i64 ((rd_T40 l1 x32_2).f2), .int .i64 ((rd_T40 l1 x32_2).f3), .string ((rd_T40 l1 x32_2).f4), .int .i64 0]) ?_ 5 _ rfl; (with_reducible repeat (first | refine blk_drewN ?_ _ | refine blk_drew ?_ | refine blk_alloc ?_ _)); refine blk_put (cs := #[.int .i64 ((rd_T40 l1 x32_2).f0), .int .i64 ((rd_T40 l1 x32_2).f1), .int .i64 ((rd_T40 l1 x32_2).f2), .int .i64 ((rd_T40 l1 x32_2).f3), .string (⟨#[]⟩ : ByteArray), .int .i64 0]) ?_ 4 _ rfl; (with_reducible repeat (first | refine blk_drewN ?_ _ | refine blk_drew ?_ | refine blk_alloc ?_ _)); refine blk_put (cs := #[.int .i64 ((rd_T40 l1 x32_2).f0), .int .i64 ((rd_T40 l1 x32_2).f1), .int .i64 ((rd_T40 l1 x32_2).f2), .int .i64 0, .string (⟨#[]⟩ : ByteArray), .int .i64 0]) ?_ 3 _ rfl; (with_reducible repeat (first | refine blk_drewN ?_ _ | refine blk_drew ?_ | refine blk_alloc ?_ _)); refine blk_put (cs := #[.int .i64 ((rd_T40 l1 x32_2).f0), .int .i64 ((rd_T40 l1 x32_2).f1), .int .i64 0, .int .i64 0, .string (⟨#[]⟩ : ByteArray), .int .i64 0]) ?_ 2 _ rfl; (with_reducible repeat (first | refine blk_drewN ?_ _ | refine blk_drew ?_ | refine blk_alloc ?_ _)); refine blk_put (cs := #[.int .i64 ((rd_T40 l1 x32_2).f0), .int .i64 0, .int .i64 0, .int .i64 0, .string (⟨#[]⟩ : ByteArray), .int .i64 0]) ?_ 1 _ rfl; (with_reducible repeat (first | refine blk_drewN ?_ _ | refine blk_drew ?_ | refine blk_alloc ?_ _)); refine blk_put (cs := #[.int .i64 0, .int .i64 0, .int .i64 0, .int .i64 0, .string (⟨#[]⟩ : ByteArray), .int .i64 0]) ?_ 0 _ rfl; (with_reducible repeat (first | refine blk_drewN ?_ _ | refine blk_drew ?_ | refine blk_alloc ?_ _)); exact BK221.out)); rintro e w24 ⟨rfl, hb⟩; have n0_ := Aside0.mk (Kd.R_below (by (with_reducible repeat (first | apply Kd.R_alloc | apply Kd.R_drewN | apply Kd.R_drew)); exact (Kd.R_mono (Kd.R_far (p := ⟨gb221, 5, none⟩) (Kd.R_far (p := ⟨gb221, 4, none⟩) (Kd.R_far (p := ⟨gb221, 3, none⟩) (Kd.R_far (p := ⟨gb221, 2, none⟩) (Kd.R_far (p := ⟨gb221, 1, none⟩) (Kd.R_far (p := ⟨gb221, 0, none⟩) (Kd.R_mono HO_6.out (fun k_ hk => (⟨hk, by first | exact hk.2 | exact hk⟩ : _ ∧ k_ ≠ gb221))) (fun _ hk => hk.2) (.int .i64 ((rd_T40 l1 x32_2).f0))) (fun _ hk => hk.2) (.int .i64 ((rd_T40 l1 x32_2).f1))) (fun _ hk => hk.2) (.int .i64 ((rd_T40 l1 x32_2).f2))) (fun _ hk => hk.2) (.int .i64 ((rd_T40 l1 x32_2).f3))) (fun _ hk => hk.2) (.string ((rd_T40 l1 x32_2).f4))) (fun _ hk => hk.2) (.int .i64 ((rd_T40 l1 x32_2).f5))) (fun _ h_ => h_.1))) hb); have n1_ := Aside0.mk (blk_below (g := gb221) (o := .cells #[.int .i64 ((rd_T40 l1 x32_2).f0), .int .i64 ((rd_T40 l1 x32_2).f1), .int .i64 ((rd_T40 l1 x32_2).f2), .int .i64 ((rd_T40 l1 x32_2).f3), .string ((rd_T40 l1 x32_2).f4), .int .i64 ((rd_T40 l1 x32_2).f5)] 40 (0, 0)) (by (with_reducible repeat (first | refine blk_drewN ?_ _ | refine blk_drew ?_ | refine blk_alloc ?_ _)); refine blk_put (cs := #[.int .i64 ((rd_T40 l1 x32_2).f0), .int .i64 ((rd_T40 l1 x32_2).f1), .int .i64 ((rd_T40 l1 x32_2).f2), .int .i64 ((rd_T40 l1 x32_2).f3), .string ((rd_T40 l1 x32_2).f4), .int .i64 0]) ?_ 5 _ rfl; (with_reducible repeat (first | refine blk_drewN ?_ _ | refine blk_drew ?_ | refine blk_alloc ?_ _)); refine blk_put (cs := #[.int .i64 ((rd_T40 l1 x32_2).f0), .int .i64 ((rd_T40 l1 x32_2).f1), .int .i64 ((rd_T40 l1 x32_2).f2), .int .i64 ((rd_T40 l1 x32_2).f3), .string (⟨#[]⟩ : ByteArray), .int .i64 0]) ?_ 4 _ rfl; (with_reducible repeat (first | refine blk_drewN ?_ _ | refine blk_drew ?_ | refine blk_alloc ?_ _)); refine blk_put (cs := #[.int .i64 ((rd_T40 l1 x32_2).f0), .int .i64 ((rd_T40 l1 x32_2).f1), .int .i64 ((rd_T40 l1 x32_2).f2), .int .i64 0, .string (⟨#[]⟩ : ByteArray), .int .i64 0]) ?_ 3 _ rfl; (with_reducible repeat (first | refine blk_drewN ?_ _ | refine blk_drew ?_ | refine blk_alloc ?_ _)); refine blk_put (cs := #[.int .i64 ((rd_T40 l1 x32_2).f0), .int .i64 ((rd_T40 l1 x32_2).f1), .int .i64 0, .int .i64 0, .string (⟨#[]⟩ : ByteArray), .int .i64 0]) ?_ 2 _ rfl; (with_reducible repeat (first | refine blk_drewN ?_ _ | refine blk_drew ?_ | refine blk_alloc ?_ _)); refine blk_put (cs := #[.int .i64 ((rd_T40 l1 x32_2).f0), .int .i64 0, .int .i64 0, .int .i64 0, .string (⟨#[]⟩ : ByteArray), .int .i64 0]) ?_ 1 _ rfl; (with_reducible repeat (first | refine blk_drewN ?_ _ | refine blk_drew ?_ | refine blk_alloc ?_ _)); refine blk_put (cs := #[.int .i64 0, .int .i64 0, .int .i64 0, .int .i64 0, .string (⟨#[]⟩ : ByteArray), .int .i64 0]) ?_ 0 _ rfl; (with_reducible repeat (first | refine blk_drewN ?_ _ | refine blk_drew ?_ | refine blk_alloc ?_ _)); exact BK221.out) hb); have n2_ := Aside0.mk (below_step bl_ hb); clear HO_6; clear BK221; clear HB; have HO_6 := n0_; have BK221 := n1_; have HB := n2_; clear n0_ n1_ n2_; (try clear hb); (try clear hb2); (try clear hk); (try clear hi); have hcz25_0 : w24.cell? ⟨gb221, 0, none⟩ = some (.int .i64 ((rd_T40 l1 x32_2).f0)) := (blk_cell BK221.out 0).trans rfl; have hcz25_1 : w24.cell? ⟨gb221, 1, none⟩ = some (.int .i64 ((rd_T40 l1 x32_2).f1)) := (blk_cell BK221.out 1).trans rfl; have hcz25_2 : w24.cell? ⟨gb221, 2, none⟩ = some (.int .i64 ((rd_T40 l1 x32_2).f2)) := (blk_cell BK221.out 2).trans rfl; have hcz25_3 : w24.cell? ⟨gb221, 3, none⟩ = some (.int .i64 ((rd_T40 l1 x32_2).f3)) := (blk_cell BK221.out 3).trans rfl; have hcz25_4 : w24.cell? ⟨gb221, 4, none⟩ = some (.string ((rd_T40 l1 x32_2).f4)) := (blk_cell BK221.out 4).trans rfl; have hcz25_5 : w24.cell? ⟨gb221, 5, none⟩ = some (.int .i64 ((rd_T40 l1 x32_2).f5)) := (blk_cell BK221.out 5).trans rfl; have hfz25_0 := blk_frozen BK221.out 0; have hfz25_1 := blk_frozen BK221.out 1; have hfz25_2 := blk_frozen BK221.out 2; have hfz25_3 := blk_frozen BK221.out 3; have hfz25_4 := blk_frozen BK221.out 4; have hfz25_5 := blk_frozen BK221.out 5) | ((with_reducible refine gate_builtin (b := .append) (xs := #[.tmp 42, .tmp 44]) rfl ?_); at_builtin; refine Kd.R_append k40 (w0 := w) w.heap.size rfl (.tmp 42) (.tmp 44) 25 40 (.agg #[(.int .i64 0), (.int .i64 0), (.int .i64 0), (.int .i64 0), (.string ⟨#[]⟩), (.int .i64 0)]) 56 rfl Try.underlying25 info40 rfl (by decide) (by omega) u6 x6_2 (⟨(rd_T40 l1 x32_2).f0, (rd_T40 l1 x32_2).f1, (rd_T40 l1 x32_2).f2, (rd_T40 l1 x32_2).f3, (rd_T40 l1 x32_2).f4, (rd_T40 l1 x32_2).f5⟩ : S40) [.int .i64 ((rd_T40 l1 x32_2).f0), .int .i64 ((rd_T40 l1 x32_2).f1), .int .i64 ((rd_T40 l1 x32_2).f2), .int .i64 ((rd_T40 l1 x32_2).f3), .string ((rd_T40 l1 x32_2).f4), .int .i64 ((rd_T40 l1 x32_2).f5)] (fun k_ => k_ ≠ gb221) (fun _ => False) rfl rfl ?aP (fun _ hk => hk.elim) ?aF ?aO ?aB ?aS ?aL ?_; (case aP => exact k40_mkM _ _ _ (⟨(rd_T40 l1 x32_2).f0, (rd_T40 l1 x32_2).f1, (rd_T40 l1 x32_2).f2, (rd_T40 l1 x32_2).f3, (rd_T40 l1 x32_2).f4, (rd_T40 l1 x32_2).f5⟩ : S40)); (case aB => exact bl_); (case aF => exact (fun k_ hk => Kd.freshB (g := gb221) (o := .cells #[.int .i64 ((rd_T40 l1 x32_2).f0), .int .i64 ((rd_T40 l1 x32_2).f1), .int .i64 ((rd_T40 l1 x32_2).f2), .int .i64 ((rd_T40 l1 x32_2).f3), .string ((rd_T40 l1 x32_2).f4), .int .i64 ((rd_T40 l1 x32_2).f5)] 40 (0, 0)) bk_ k_ hk)); (case aO => exact (by (with_reducible repeat (first | apply Kd.R_alloc | apply Kd.R_drewN | apply Kd.R_drew)); exact Kd.R_mono HO_6.out (fun _ hk => hk.2))); (case aS => exact (below_size bl_)); (case aL => have := LMc21.out; omega); intro v224 w26 ho hb hg hat; rw [← Ny223.out] at ho; have n0_ := Aside0.mk (blk_grown (g := gb221) (o := .cells #[.int .i64 ((rd_T40 l1 x32_2).f0), .int .i64 ((rd_T40 l1 x32_2).f1), .int .i64 ((rd_T40 l1 x32_2).f2), .int .i64 ((rd_T40 l1 x32_2).f3), .string ((rd_T40 l1 x32_2).f4), .int .i64 ((rd_T40 l1 x32_2).f5)] 40 (0, 0)) bk_ hg (Kd.R_away HO_6.out (fun _ hk => by first | exact hk.2 | exact hk))); have n1_ := Aside0.mk (hb); have n2_ := Aside0.mk (ho); clear BK221; clear HB; clear HO_6; have BK221 := n0_; have HB := n1_; have HO225 := n2_; clear n0_ n1_ n2_; clear ho hb hg hat))
      repeat (go_quiet (first | ((with_reducible refine gate_dst (N := 8) rfl ?_); refine box_event ?hg (N := 8) ?hd (cs := #[.int .i64 0, .int .i64 0, .int .i64 0, .int .i64 0, .string (⟨#[]⟩ : ByteArray), .int .i64 0]) (t := 40) ?hr ?_; (case hd => rfl); (case hg => rfl); (case hr => first | (go_simp; done) | (go_simp; rfl)); intro gb221 hg w22 hbox hb; have n0_ := Aside0.mk (Kd.R_below (Kd.R_elderB (by (with_reducible repeat (first | apply Kd.R_alloc | apply Kd.R_drewN | apply Kd.R_drew)); exact HO_6.out) gb221 (Nat.le_of_eq hg.symm)) hb); have n1_ := Aside0.mk (below_step bl_ hb); have n2_ := Aside0.mk (hbox); have n3_ := Aside0.mk ((by rw [hg]; exact (below_size bl_) : w.heap.size ≤ gb221)); have n4_ := Aside0.mk ((by rw [hg]; exact (below_size bl_) : w.heap.size ≤ gb221)); clear HO_6; clear HB; have HO_6 := n0_; have HB := n1_; have BK221 := n2_; have GW221 := n3_; have GE221 := n4_; clear n0_ n1_ n2_ n3_ n4_; clear hb hbox hg; have hcz23_0 : w22.cell? ⟨gb221, 0, none⟩ = some (.int .i64 0) := (blk_cell BK221.out 0).trans rfl; have hcz23_1 : w22.cell? ⟨gb221, 1, none⟩ = some (.int .i64 0) := (blk_cell BK221.out 1).trans rfl; have hcz23_2 : w22.cell? ⟨gb221, 2, none⟩ = some (.int .i64 0) := (blk_cell BK221.out 2).trans rfl; have hcz23_3 : w22.cell? ⟨gb221, 3, none⟩ = some (.int .i64 0) := (blk_cell BK221.out 3).trans rfl; have hcz23_4 : w22.cell? ⟨gb221, 4, none⟩ = some (.string (⟨#[]⟩ : ByteArray)) := (blk_cell BK221.out 4).trans rfl; have hcz23_5 : w22.cell? ⟨gb221, 5, none⟩ = some (.int .i64 0) := (blk_cell BK221.out 5).trans rfl; have hfz23_0 := blk_frozen BK221.out 0; have hfz23_1 := blk_frozen BK221.out 1; have hfz23_2 := blk_frozen BK221.out 2; have hfz23_3 := blk_frozen BK221.out 3; have hfz23_4 := blk_frozen BK221.out 4; have hfz23_5 := blk_frozen BK221.out 5) | (go_at_call 26; (with_reducible refine (impl_Event_26.calls _ _ l0 ((rd_T40 l1 x32_2).f0) ((rd_T40 l1 x32_2).f1) ((rd_T40 l1 x32_2).f2) ((rd_T40 l1 x32_2).f3) ((rd_T40 l1 x32_2).f4) ((rd_T40 l1 x32_2).f5) t222 gb221 _ ?side1 ?side2 ?side3 A19.out).mono ?_); (case side1 => exact Kd.C_below HR0.out bl_); (case side2 => exact HC0.out); (case side3 => ((with_reducible repeat (first | refine blk_drewN ?_ _ | refine blk_drew ?_ | refine blk_alloc ?_ _)); refine blk_put (cs := #[.int .i64 ((rd_T40 l1 x32_2).f0), .int .i64 ((rd_T40 l1 x32_2).f1), .int .i64 ((rd_T40 l1 x32_2).f2), .int .i64 ((rd_T40 l1 x32_2).f3), .string ((rd_T40 l1 x32_2).f4), .int .i64 0]) ?_ 5 _ rfl; (with_reducible repeat (first | refine blk_drewN ?_ _ | refine blk_drew ?_ | refine blk_alloc ?_ _)); refine blk_put (cs := #[.int .i64 ((rd_T40 l1 x32_2).f0), .int .i64 ((rd_T40 l1 x32_2).f1), .int .i64 ((rd_T40 l1 x32_2).f2), .int .i64 ((rd_T40 l1 x32_2).f3), .string (⟨#[]⟩ : ByteArray), .int .i64 0]) ?_ 4 _ rfl; (with_reducible repeat (first | refine blk_drewN ?_ _ | refine blk_drew ?_ | refine blk_alloc ?_ _)); refine blk_put (cs := #[.int .i64 ((rd_T40 l1 x32_2).f0), .int .i64 ((rd_T40 l1 x32_2).f1), .int .i64 ((rd_T40 l1 x32_2).f2), .int .i64 0, .string (⟨#[]⟩ : ByteArray), .int .i64 0]) ?_ 3 _ rfl; (with_reducible repeat (first | refine blk_drewN ?_ _ | refine blk_drew ?_ | refine blk_alloc ?_ _)); refine blk_put (cs := #[.int .i64 ((rd_T40 l1 x32_2).f0), .int .i64 ((rd_T40 l1 x32_2).f1), .int .i64 0, .int .i64 0, .string (⟨#[]⟩ : ByteArray), .int .i64 0]) ?_ 2 _ rfl; (with_reducible repeat (first | refine blk_drewN ?_ _ | refine blk_drew ?_ | refine blk_alloc ?_ _)); refine blk_put (cs := #[.int .i64 ((rd_T40 l1 x32_2).f0), .int .i64 0, .int .i64 0, .int .i64 0, .string (⟨#[]⟩ : ByteArray), .int .i64 0]) ?_ 1 _ rfl; (with_reducible repeat (first | refine blk_drewN ?_ _ | refine blk_drew ?_ | refine blk_alloc ?_ _)); refine blk_put (cs := #[.int .i64 0, .int .i64 0, .int .i64 0, .int .i64 0, .string (⟨#[]⟩ : ByteArray), .int .i64 0]) ?_ 0 _ rfl; (with_reducible repeat (first | refine blk_drewN ?_ _ | refine blk_drew ?_ | refine blk_alloc ?_ _)); exact BK221.out)); rintro e w24 ⟨rfl, hb⟩; have n0_ := Aside0.mk (Kd.R_below (by (with_reducible repeat (first | apply Kd.R_alloc | apply Kd.R_drewN | apply Kd.R_drew)); exact (Kd.R_mono (Kd.R_far (p := ⟨gb221, 5, none⟩) (Kd.R_far (p := ⟨gb221, 4, none⟩) (Kd.R_far (p := ⟨gb221, 3, none⟩) (Kd.R_far (p := ⟨gb221, 2, none⟩) (Kd.R_far (p := ⟨gb221, 1, none⟩) (Kd.R_far (p := ⟨gb221, 0, none⟩) (Kd.R_mono HO_6.out (fun k_ hk => (⟨hk, by first | exact hk.2 | exact hk⟩ : _ ∧ k_ ≠ gb221))) (fun _ hk => hk.2) (.int .i64 ((rd_T40 l1 x32_2).f0))) (fun _ hk => hk.2) (.int .i64 ((rd_T40 l1 x32_2).f1))) (fun _ hk => hk.2) (.int .i64 ((rd_T40 l1 x32_2).f2))) (fun _ hk => hk.2) (.int .i64 ((rd_T40 l1 x32_2).f3))) (fun _ hk => hk.2) (.string ((rd_T40 l1 x32_2).f4))) (fun _ hk => hk.2) (.int .i64 ((rd_T40 l1 x32_2).f5))) (fun _ h_ => h_.1))) hb); have n1_ := Aside0.mk (blk_below (g := gb221) (o := .cells #[.int .i64 ((rd_T40 l1 x32_2).f0), .int .i64 ((rd_T40 l1 x32_2).f1), .int .i64 ((rd_T40 l1 x32_2).f2), .int .i64 ((rd_T40 l1 x32_2).f3), .string ((rd_T40 l1 x32_2).f4), .int .i64 ((rd_T40 l1 x32_2).f5)] 40 (0, 0)) (by (with_reducible repeat (first | refine blk_drewN ?_ _ | refine blk_drew ?_ | refine blk_alloc ?_ _)); refine blk_put (cs := #[.int .i64 ((rd_T40 l1 x32_2).f0), .int .i64 ((rd_T40 l1 x32_2).f1), .int .i64 ((rd_T40 l1 x32_2).f2), .int .i64 ((rd_T40 l1 x32_2).f3), .string ((rd_T40 l1 x32_2).f4), .int .i64 0]) ?_ 5 _ rfl; (with_reducible repeat (first | refine blk_drewN ?_ _ | refine blk_drew ?_ | refine blk_alloc ?_ _)); refine blk_put (cs := #[.int .i64 ((rd_T40 l1 x32_2).f0), .int .i64 ((rd_T40 l1 x32_2).f1), .int .i64 ((rd_T40 l1 x32_2).f2), .int .i64 ((rd_T40 l1 x32_2).f3), .string (⟨#[]⟩ : ByteArray), .int .i64 0]) ?_ 4 _ rfl; (with_reducible repeat (first | refine blk_drewN ?_ _ | refine blk_drew ?_ | refine blk_alloc ?_ _)); refine blk_put (cs := #[.int .i64 ((rd_T40 l1 x32_2).f0), .int .i64 ((rd_T40 l1 x32_2).f1), .int .i64 ((rd_T40 l1 x32_2).f2), .int .i64 0, .string (⟨#[]⟩ : ByteArray), .int .i64 0]) ?_ 3 _ rfl; (with_reducible repeat (first | refine blk_drewN ?_ _ | refine blk_drew ?_ | refine blk_alloc ?_ _)); refine blk_put (cs := #[.int .i64 ((rd_T40 l1 x32_2).f0), .int .i64 ((rd_T40 l1 x32_2).f1), .int .i64 0, .int .i64 0, .string (⟨#[]⟩ : ByteArray), .int .i64 0]) ?_ 2 _ rfl; (with_reducible repeat (first | refine blk_drewN ?_ _ | refine blk_drew ?_ | refine blk_alloc ?_ _)); refine blk_put (cs := #[.int .i64 ((rd_T40 l1 x32_2).f0), .int .i64 0, .int .i64 0, .int .i64 0, .string (⟨#[]⟩ : ByteArray), .int .i64 0]) ?_ 1 _ rfl; (with_reducible repeat (first | refine blk_drewN ?_ _ | refine blk_drew ?_ | refine blk_alloc ?_ _)); refine blk_put (cs := #[.int .i64 0, .int .i64 0, .int .i64 0, .int .i64 0, .string (⟨#[]⟩ : ByteArray), .int .i64 0]) ?_ 0 _ rfl; (with_reducible repeat (first | refine blk_drewN ?_ _ | refine blk_drew ?_ | refine blk_alloc ?_ _)); exact BK221.out) hb); have n2_ := Aside0.mk (below_step bl_ hb); clear HO_6; clear BK221; clear HB; have HO_6 := n0_; have BK221 := n1_; have HB := n2_; clear n0_ n1_ n2_; (try clear hb); (try clear hb2); (try clear hk); (try clear hi); have hcz25_0 : w24.cell? ⟨gb221, 0, none⟩ = some (.int .i64 ((rd_T40 l1 x32_2).f0)) := (blk_cell BK221.out 0).trans rfl; have hcz25_1 : w24.cell? ⟨gb221, 1, none⟩ = some (.int .i64 ((rd_T40 l1 x32_2).f1)) := (blk_cell BK221.out 1).trans rfl; have hcz25_2 : w24.cell? ⟨gb221, 2, none⟩ = some (.int .i64 ((rd_T40 l1 x32_2).f2)) := (blk_cell BK221.out 2).trans rfl; have hcz25_3 : w24.cell? ⟨gb221, 3, none⟩ = some (.int .i64 ((rd_T40 l1 x32_2).f3)) := (blk_cell BK221.out 3).trans rfl; have hcz25_4 : w24.cell? ⟨gb221, 4, none⟩ = some (.string ((rd_T40 l1 x32_2).f4)) := (blk_cell BK221.out 4).trans rfl; have hcz25_5 : w24.cell? ⟨gb221, 5, none⟩ = some (.int .i64 ((rd_T40 l1 x32_2).f5)) := (blk_cell BK221.out 5).trans rfl; have hfz25_0 := blk_frozen BK221.out 0; have hfz25_1 := blk_frozen BK221.out 1; have hfz25_2 := blk_frozen BK221.out 2; have hfz25_3 := blk_frozen BK221.out 3; have hfz25_4 := blk_frozen BK221.out 4; have hfz25_5 := blk_frozen BK221.out 5) | ((with_reducible refine gate_builtin (b := .append) (xs := #[.tmp 42, .tmp 44]) rfl ?_); at_builtin; refine Kd.R_append k40 (w0 := w) w.heap.size rfl (.tmp 42) (.tmp 44) 25 40 (.agg #[(.int .i64 0), (.int .i64 0), (.int .i64 0), (.int .i64 0), (.string ⟨#[]⟩), (.int .i64 0)]) 56 rfl Try.underlying25 info40 rfl (by decide) (by omega) u6 x6_2 (⟨(rd_T40 l1 x32_2).f0, (rd_T40 l1 x32_2).f1, (rd_T40 l1 x32_2).f2, (rd_T40 l1 x32_2).f3, (rd_T40 l1 x32_2).f4, (rd_T40 l1 x32_2).f5⟩ : S40) [.int .i64 ((rd_T40 l1 x32_2).f0), .int .i64 ((rd_T40 l1 x32_2).f1), .int .i64 ((rd_T40 l1 x32_2).f2), .int .i64 ((rd_T40 l1 x32_2).f3), .string ((rd_T40 l1 x32_2).f4), .int .i64 ((rd_T40 l1 x32_2).f5)] (fun k_ => k_ ≠ gb221) (fun _ => False) rfl rfl ?aP (fun _ hk => hk.elim) ?aF ?aO ?aB ?aS ?aL ?_; (case aP => exact k40_mkM _ _ _ (⟨(rd_T40 l1 x32_2).f0, (rd_T40 l1 x32_2).f1, (rd_T40 l1 x32_2).f2, (rd_T40 l1 x32_2).f3, (rd_T40 l1 x32_2).f4, (rd_T40 l1 x32_2).f5⟩ : S40)); (case aB => exact bl_); (case aF => exact (fun k_ hk => Kd.freshB (g := gb221) (o := .cells #[.int .i64 ((rd_T40 l1 x32_2).f0), .int .i64 ((rd_T40 l1 x32_2).f1), .int .i64 ((rd_T40 l1 x32_2).f2), .int .i64 ((rd_T40 l1 x32_2).f3), .string ((rd_T40 l1 x32_2).f4), .int .i64 ((rd_T40 l1 x32_2).f5)] 40 (0, 0)) bk_ k_ hk)); (case aO => exact (by (with_reducible repeat (first | apply Kd.R_alloc | apply Kd.R_drewN | apply Kd.R_drew)); exact Kd.R_mono HO_6.out (fun _ hk => hk.2))); (case aS => exact (below_size bl_)); (case aL => have := LMc21.out; omega); intro v224 w26 ho hb hg hat; rw [← Ny223.out] at ho; have n0_ := Aside0.mk (blk_grown (g := gb221) (o := .cells #[.int .i64 ((rd_T40 l1 x32_2).f0), .int .i64 ((rd_T40 l1 x32_2).f1), .int .i64 ((rd_T40 l1 x32_2).f2), .int .i64 ((rd_T40 l1 x32_2).f3), .string ((rd_T40 l1 x32_2).f4), .int .i64 ((rd_T40 l1 x32_2).f5)] 40 (0, 0)) bk_ hg (Kd.R_away HO_6.out (fun _ hk => by first | exact hk.2 | exact hk))); have n1_ := Aside0.mk (hb); have n2_ := Aside0.mk (ho); clear BK221; clear HB; clear HO_6; have BK221 := n0_; have HB := n1_; have HO225 := n2_; clear n0_ n1_ n2_; clear ho hb hg hat)); try go_wp2_with (first | ((with_reducible refine gate_dst (N := 8) rfl ?_); refine box_event ?hg (N := 8) ?hd (cs := #[.int .i64 0, .int .i64 0, .int .i64 0, .int .i64 0, .string (⟨#[]⟩ : ByteArray), .int .i64 0]) (t := 40) ?hr ?_; (case hd => rfl); (case hg => rfl); (case hr => first | (go_simp; done) | (go_simp; rfl)); intro gb221 hg w22 hbox hb; have n0_ := Aside0.mk (Kd.R_below (Kd.R_elderB (by (with_reducible repeat (first | apply Kd.R_alloc | apply Kd.R_drewN | apply Kd.R_drew)); exact HO_6.out) gb221 (Nat.le_of_eq hg.symm)) hb); have n1_ := Aside0.mk (below_step bl_ hb); have n2_ := Aside0.mk (hbox); have n3_ := Aside0.mk ((by rw [hg]; exact (below_size bl_) : w.heap.size ≤ gb221)); have n4_ := Aside0.mk ((by rw [hg]; exact (below_size bl_) : w.heap.size ≤ gb221)); clear HO_6; clear HB; have HO_6 := n0_; have HB := n1_; have BK221 := n2_; have GW221 := n3_; have GE221 := n4_; clear n0_ n1_ n2_ n3_ n4_; clear hb hbox hg; have hcz23_0 : w22.cell? ⟨gb221, 0, none⟩ = some (.int .i64 0) := (blk_cell BK221.out 0).trans rfl; have hcz23_1 : w22.cell? ⟨gb221, 1, none⟩ = some (.int .i64 0) := (blk_cell BK221.out 1).trans rfl; have hcz23_2 : w22.cell? ⟨gb221, 2, none⟩ = some (.int .i64 0) := (blk_cell BK221.out 2).trans rfl; have hcz23_3 : w22.cell? ⟨gb221, 3, none⟩ = some (.int .i64 0) := (blk_cell BK221.out 3).trans rfl; have hcz23_4 : w22.cell? ⟨gb221, 4, none⟩ = some (.string (⟨#[]⟩ : ByteArray)) := (blk_cell BK221.out 4).trans rfl; have hcz23_5 : w22.cell? ⟨gb221, 5, none⟩ = some (.int .i64 0) := (blk_cell BK221.out 5).trans rfl; have hfz23_0 := blk_frozen BK221.out 0; have hfz23_1 := blk_frozen BK221.out 1; have hfz23_2 := blk_frozen BK221.out 2; have hfz23_3 := blk_frozen BK221.out 3; have hfz23_4 := blk_frozen BK221.out 4; have hfz23_5 := blk_frozen BK221.out 5) | (go_at_call 26; (with_reducible refine (impl_Event_26.calls _ _ l0 ((rd_T40 l1 x32_2).f0) ((rd_T40 l1 x32_2).f1) ((rd_T40 l1 x32_2).f2) ((rd_T40 l1 x32_2).f3) ((rd_T40 l1 x32_2).f4) ((rd_T40 l1 x32_2).f5) t222 gb221 _ ?side1 ?side2 ?side3 A19.out).mono ?_); (case side1 => exact Kd.C_below HR0.out bl_); (case side2 => exact HC0.out); (case side3 => ((with_reducible repeat (first | refine blk_drewN ?_ _ | refine blk_drew ?_ | refine blk_alloc ?_ _)); refine blk_put (cs := #[.int .i64 ((rd_T40 l1 x32_2).f0), .int .i64 ((rd_T40 l1 x32_2).f1), .int .i64 ((rd_T40 l1 x32_2).f2), .int .i64 ((rd_T40 l1 x32_2).f3), .string ((rd_T40 l1 x32_2).f4), .int .i64 0]) ?_ 5 _ rfl; (with_reducible repeat (first | refine blk_drewN ?_ _ | refine blk_drew ?_ | refine blk_alloc ?_ _)); refine blk_put (cs := #[.int .i64 ((rd_T40 l1 x32_2).f0), .int .i64 ((rd_T40 l1 x32_2).f1), .int .i64 ((rd_T40 l1 x32_2).f2), .int .i64 ((rd_T40 l1 x32_2).f3), .string (⟨#[]⟩ : ByteArray), .int .i64 0]) ?_ 4 _ rfl; (with_reducible repeat (first | refine blk_drewN ?_ _ | refine blk_drew ?_ | refine blk_alloc ?_ _)); refine blk_put (cs := #[.int .i64 ((rd_T40 l1 x32_2).f0), .int .i64 ((rd_T40 l1 x32_2).f1), .int .i64 ((rd_T40 l1 x32_2).f2), .int .i64 0, .string (⟨#[]⟩ : ByteArray), .int .i64 0]) ?_ 3 _ rfl; (with_reducible repeat (first | refine blk_drewN ?_ _ | refine blk_drew ?_ | refine blk_alloc ?_ _)); refine blk_put (cs := #[.int .i64 ((rd_T40 l1 x32_2).f0), .int .i64 ((rd_T40 l1 x32_2).f1), .int .i64 0, .int .i64 0, .string (⟨#[]⟩ : ByteArray), .int .i64 0]) ?_ 2 _ rfl; (with_reducible repeat (first | refine blk_drewN ?_ _ | refine blk_drew ?_ | refine blk_alloc ?_ _)); refine blk_put (cs := #[.int .i64 ((rd_T40 l1 x32_2).f0), .int .i64 0, .int .i64 0, .int .i64 0, .string (⟨#[]⟩ : ByteArray), .int .i64 0]) ?_ 1 _ rfl; (with_reducible repeat (first | refine blk_drewN ?_ _ | refine blk_drew ?_ | refine blk_alloc ?_ _)); refine blk_put (cs := #[.int .i64 0, .int .i64 0, .int .i64 0, .int .i64 0, .string (⟨#[]⟩ : ByteArray), .int .i64 0]) ?_ 0 _ rfl; (with_reducible repeat (first | refine blk_drewN ?_ _ | refine blk_drew ?_ | refine blk_alloc ?_ _)); exact BK221.out)); rintro e w24 ⟨rfl, hb⟩; have n0_ := Aside0.mk (Kd.R_below (by (with_reducible repeat (first | apply Kd.R_alloc | apply Kd.R_drewN | apply Kd.R_drew)); exact (Kd.R_mono (Kd.R_far (p := ⟨gb221, 5, none⟩) (Kd.R_far (p := ⟨gb221, 4, none⟩) (Kd.R_far (p := ⟨gb221, 3, none⟩) (Kd.R_far (p := ⟨gb221, 2, none⟩) (Kd.R_far (p := ⟨gb221, 1, none⟩) (Kd.R_far (p := ⟨gb221, 0, none⟩) (Kd.R_mono HO_6.out (fun k_ hk => (⟨hk, by first | exact hk.2 | exact hk⟩ : _ ∧ k_ ≠ gb221))) (fun _ hk => hk.2) (.int .i64 ((rd_T40 l1 x32_2).f0))) (fun _ hk => hk.2) (.int .i64 ((rd_T40 l1 x32_2).f1))) (fun _ hk => hk.2) (.int .i64 ((rd_T40 l1 x32_2).f2))) (fun _ hk => hk.2) (.int .i64 ((rd_T40 l1 x32_2).f3))) (fun _ hk => hk.2) (.string ((rd_T40 l1 x32_2).f4))) (fun _ hk => hk.2) (.int .i64 ((rd_T40 l1 x32_2).f5))) (fun _ h_ => h_.1))) hb); have n1_ := Aside0.mk (blk_below (g := gb221) (o := .cells #[.int .i64 ((rd_T40 l1 x32_2).f0), .int .i64 ((rd_T40 l1 x32_2).f1), .int .i64 ((rd_T40 l1 x32_2).f2), .int .i64 ((rd_T40 l1 x32_2).f3), .string ((rd_T40 l1 x32_2).f4), .int .i64 ((rd_T40 l1 x32_2).f5)] 40 (0, 0)) (by (with_reducible repeat (first | refine blk_drewN ?_ _ | refine blk_drew ?_ | refine blk_alloc ?_ _)); refine blk_put (cs := #[.int .i64 ((rd_T40 l1 x32_2).f0), .int .i64 ((rd_T40 l1 x32_2).f1), .int .i64 ((rd_T40 l1 x32_2).f2), .int .i64 ((rd_T40 l1 x32_2).f3), .string ((rd_T40 l1 x32_2).f4), .int .i64 0]) ?_ 5 _ rfl; (with_reducible repeat (first | refine blk_drewN ?_ _ | refine blk_drew ?_ | refine blk_alloc ?_ _)); refine blk_put (cs := #[.int .i64 ((rd_T40 l1 x32_2).f0), .int .i64 ((rd_T40 l1 x32_2).f1), .int .i64 ((rd_T40 l1 x32_2).f2), .int .i64 ((rd_T40 l1 x32_2).f3), .string (⟨#[]⟩ : ByteArray), .int .i64 0]) ?_ 4 _ rfl; (with_reducible repeat (first | refine blk_drewN ?_ _ | refine blk_drew ?_ | refine blk_alloc ?_ _)); refine blk_put (cs := #[.int .i64 ((rd_T40 l1 x32_2).f0), .int .i64 ((rd_T40 l1 x32_2).f1), .int .i64 ((rd_T40 l1 x32_2).f2), .int .i64 0, .string (⟨#[]⟩ : ByteArray), .int .i64 0]) ?_ 3 _ rfl; (with_reducible repeat (first | refine blk_drewN ?_ _ | refine blk_drew ?_ | refine blk_alloc ?_ _)); refine blk_put (cs := #[.int .i64 ((rd_T40 l1 x32_2).f0), .int .i64 ((rd_T40 l1 x32_2).f1), .int .i64 0, .int .i64 0, .string (⟨#[]⟩ : ByteArray), .int .i64 0]) ?_ 2 _ rfl; (with_reducible repeat (first | refine blk_drewN ?_ _ | refine blk_drew ?_ | refine blk_alloc ?_ _)); refine blk_put (cs := #[.int .i64 ((rd_T40 l1 x32_2).f0), .int .i64 0, .int .i64 0, .int .i64 0, .string (⟨#[]⟩ : ByteArray), .int .i64 0]) ?_ 1 _ rfl; (with_reducible repeat (first | refine blk_drewN ?_ _ | refine blk_drew ?_ | refine blk_alloc ?_ _)); refine blk_put (cs := #[.int .i64 0, .int .i64 0, .int .i64 0, .int .i64 0, .string (⟨#[]⟩ : ByteArray), .int .i64 0]) ?_ 0 _ rfl; (with_reducible repeat (first | refine blk_drewN ?_ _ | refine blk_drew ?_ | refine blk_alloc ?_ _)); exact BK221.out) hb); have n2_ := Aside0.mk (below_step bl_ hb); clear HO_6; clear BK221; clear HB; have HO_6 := n0_; have BK221 := n1_; have HB := n2_; clear n0_ n1_ n2_; (try clear hb); (try clear hb2); (try clear hk); (try clear hi); have hcz25_0 : w24.cell? ⟨gb221, 0, none⟩ = some (.int .i64 ((rd_T40 l1 x32_2).f0)) := (blk_cell BK221.out 0).trans rfl; have hcz25_1 : w24.cell? ⟨gb221, 1, none⟩ = some (.int .i64 ((rd_T40 l1 x32_2).f1)) := (blk_cell BK221.out 1).trans rfl; have hcz25_2 : w24.cell? ⟨gb221, 2, none⟩ = some (.int .i64 ((rd_T40 l1 x32_2).f2)) := (blk_cell BK221.out 2).trans rfl; have hcz25_3 : w24.cell? ⟨gb221, 3, none⟩ = some (.int .i64 ((rd_T40 l1 x32_2).f3)) := (blk_cell BK221.out 3).trans rfl; have hcz25_4 : w24.cell? ⟨gb221, 4, none⟩ = some (.string ((rd_T40 l1 x32_2).f4)) := (blk_cell BK221.out 4).trans rfl; have hcz25_5 : w24.cell? ⟨gb221, 5, none⟩ = some (.int .i64 ((rd_T40 l1 x32_2).f5)) := (blk_cell BK221.out 5).trans rfl; have hfz25_0 := blk_frozen BK221.out 0; have hfz25_1 := blk_frozen BK221.out 1; have hfz25_2 := blk_frozen BK221.out 2; have hfz25_3 := blk_frozen BK221.out 3; have hfz25_4 := blk_frozen BK221.out 4; have hfz25_5 := blk_frozen BK221.out 5) | ((with_reducible refine gate_builtin (b := .append) (xs := #[.tmp 42, .tmp 44]) rfl ?_); at_builtin; refine Kd.R_append k40 (w0 := w) w.heap.size rfl (.tmp 42) (.tmp 44) 25 40 (.agg #[(.int .i64 0), (.int .i64 0), (.int .i64 0), (.int .i64 0), (.string ⟨#[]⟩), (.int .i64 0)]) 56 rfl Try.underlying25 info40 rfl (by decide) (by omega) u6 x6_2 (⟨(rd_T40 l1 x32_2).f0, (rd_T40 l1 x32_2).f1, (rd_T40 l1 x32_2).f2, (rd_T40 l1 x32_2).f3, (rd_T40 l1 x32_2).f4, (rd_T40 l1 x32_2).f5⟩ : S40) [.int .i64 ((rd_T40 l1 x32_2).f0), .int .i64 ((rd_T40 l1 x32_2).f1), .int .i64 ((rd_T40 l1 x32_2).f2), .int .i64 ((rd_T40 l1 x32_2).f3), .string ((rd_T40 l1 x32_2).f4), .int .i64 ((rd_T40 l1 x32_2).f5)] (fun k_ => k_ ≠ gb221) (fun _ => False) rfl rfl ?aP (fun _ hk => hk.elim) ?aF ?aO ?aB ?aS ?aL ?_; (case aP => exact k40_mkM _ _ _ (⟨(rd_T40 l1 x32_2).f0, (rd_T40 l1 x32_2).f1, (rd_T40 l1 x32_2).f2, (rd_T40 l1 x32_2).f3, (rd_T40 l1 x32_2).f4, (rd_T40 l1 x32_2).f5⟩ : S40)); (case aB => exact bl_); (case aF => exact (fun k_ hk => Kd.freshB (g := gb221) (o := .cells #[.int .i64 ((rd_T40 l1 x32_2).f0), .int .i64 ((rd_T40 l1 x32_2).f1), .int .i64 ((rd_T40 l1 x32_2).f2), .int .i64 ((rd_T40 l1 x32_2).f3), .string ((rd_T40 l1 x32_2).f4), .int .i64 ((rd_T40 l1 x32_2).f5)] 40 (0, 0)) bk_ k_ hk)); (case aO => exact (by (with_reducible repeat (first | apply Kd.R_alloc | apply Kd.R_drewN | apply Kd.R_drew)); exact Kd.R_mono HO_6.out (fun _ hk => hk.2))); (case aS => exact (below_size bl_)); (case aL => have := LMc21.out; omega); intro v224 w26 ho hb hg hat; rw [← Ny223.out] at ho; have n0_ := Aside0.mk (blk_grown (g := gb221) (o := .cells #[.int .i64 ((rd_T40 l1 x32_2).f0), .int .i64 ((rd_T40 l1 x32_2).f1), .int .i64 ((rd_T40 l1 x32_2).f2), .int .i64 ((rd_T40 l1 x32_2).f3), .string ((rd_T40 l1 x32_2).f4), .int .i64 ((rd_T40 l1 x32_2).f5)] 40 (0, 0)) bk_ hg (Kd.R_away HO_6.out (fun _ hk => by first | exact hk.2 | exact hk))); have n1_ := Aside0.mk (hb); have n2_ := Aside0.mk (ho); clear BK221; clear HB; clear HO_6; have BK221 := n0_; have HB := n1_; have HO225 := n2_; clear n0_ n1_ n2_; clear ho hb hg hat)))
      go_roundg k2
      case measure => have := HJ2.out; have := HK2.out; omega
      case rel => exact ⟨(y223), (wrap64 (x32_2 + 1)), (by first | rfl | (simp; done) | (simp [*]; done)), H', ⟨by have := HJ2.out; have := HK2.out; omega⟩, ⟨by (with_reducible repeat (first | apply Kd.R_alloc | apply Kd.R_drewN | apply Kd.R_drew)); exact Kd.R_mono HO225.out (fun _ hk => trivial)⟩, ⟨by repeat (first | (with_reducible first | exact HB.out | apply below_alloc | apply pw_below_drewN | apply below_drew1 | refine below_set ?_ GE221.out) | exact HB.out)⟩⟩
     rw [if_neg c20] at H
     have c20b0 : decide (t222 < 0) = false := decide_eq_false c20
     clear c20
     by_cases c27 : 0 ≤ t222
     rotate_left
     ·rw [if_neg c27] at H
      exact absurd H (by simp)
     rw [if_pos c27] at H
     have c27b0 : decide (0 ≤ t222) = true := decide_eq_true c27
     clear c27
     by_cases c28 : t222 < (l0.length : Int)
     rotate_left
     ·rw [if_neg c28] at H
      exact absurd H (by simp)
     rw [if_pos c28] at H
     have c28b0 : decide (t222 < (l0.length : Int)) = true := decide_eq_true c28
     clear c28
     by_cases c29 : (!(((rd_T40 l0 t222).f0) == ((rd_T40 l1 x32_2).f0)) || (!(((rd_T40 l0 t222).f1) == ((rd_T40 l1 x32_2).f1)) || (!(((rd_T40 l0 t222).f2) == ((rd_T40 l1 x32_2).f2)) || (!(((rd_T40 l0 t222).f3) == ((rd_T40 l1 x32_2).f3)) || (!((((rd_T40 l0 t222).f4).toList) == (((rd_T40 l1 x32_2).f4).toList)) || (!(((rd_T40 l0 t222).f5) == ((rd_T40 l1 x32_2).f5)))))))) = true
     ·rw [if_pos c29] at H
      have c29b0 : (!(((rd_T40 l0 t222).f0) == ((rd_T40 l1 x32_2).f0)) || (!(((rd_T40 l0 t222).f1) == ((rd_T40 l1 x32_2).f1)) || (!(((rd_T40 l0 t222).f2) == ((rd_T40 l1 x32_2).f2)) || (!(((rd_T40 l0 t222).f3) == ((rd_T40 l1 x32_2).f3)) || (!((((rd_T40 l0 t222).f4).toList) == (((rd_T40 l1 x32_2).f4).toList)) || (!(((rd_T40 l0 t222).f5) == ((rd_T40 l1 x32_2).f5)))))))) = true := c29
      clear c29
      simp only [Option.some.injEq, Prod.mk.injEq] at H
      obtain ⟨rfl, rfl⟩ := H
      have p220 : 0 ≤ (x32_2 : Int) := od_
      have q220 : x32_2 < (l1.length : Int) := od_
      obtain ⟨ad220, e220, hx220_0, hx220_1, hx220_2, hx220_3, hx220_4, hx220_5⟩ := at_T40 HR1.out x32_2 p220 q220
      cases e220
      replace hx220_0 := (HB.out.cell (World.block_lt_of_cell? w _ hx220_0)).trans hx220_0
      replace hx220_1 := (HB.out.cell (World.block_lt_of_cell? w _ hx220_1)).trans hx220_1
      replace hx220_2 := (HB.out.cell (World.block_lt_of_cell? w _ hx220_2)).trans hx220_2
      replace hx220_3 := (HB.out.cell (World.block_lt_of_cell? w _ hx220_3)).trans hx220_3
      replace hx220_4 := (HB.out.cell (World.block_lt_of_cell? w _ hx220_4)).trans hx220_4
      replace hx220_5 := (HB.out.cell (World.block_lt_of_cell? w _ hx220_5)).trans hx220_5
      replace p220 := eq_true p220
      replace q220 := eq_true q220
      go_wp2_with (first | ((with_reducible refine gate_dst (N := 8) rfl ?_); refine box_event ?hg (N := 8) ?hd (cs := #[.int .i64 0, .int .i64 0, .int .i64 0, .int .i64 0, .string (⟨#[]⟩ : ByteArray), .int .i64 0]) (t := 40) ?hr ?_; (case hd => rfl); (case hg => rfl); (case hr => first | (go_simp; done) | (go_simp; rfl)); intro gb221 hg w30 hbox hb; have n0_ := Aside0.mk (Kd.R_below (Kd.R_elderB (by (with_reducible repeat (first | apply Kd.R_alloc | apply Kd.R_drewN | apply Kd.R_drew)); exact HO_6.out) gb221 (Nat.le_of_eq hg.symm)) hb); have n1_ := Aside0.mk (below_step bl_ hb); have n2_ := Aside0.mk (hbox); have n3_ := Aside0.mk ((by rw [hg]; exact (below_size bl_) : w.heap.size ≤ gb221)); have n4_ := Aside0.mk ((by rw [hg]; exact (below_size bl_) : w.heap.size ≤ gb221)); clear HO_6; clear HB; have HO_6 := n0_; have HB := n1_; have BK221 := n2_; have GW221 := n3_; have GE221 := n4_; clear n0_ n1_ n2_ n3_ n4_; clear hb hbox hg; have hcz31_0 : w30.cell? ⟨gb221, 0, none⟩ = some (.int .i64 0) := (blk_cell BK221.out 0).trans rfl; have hcz31_1 : w30.cell? ⟨gb221, 1, none⟩ = some (.int .i64 0) := (blk_cell BK221.out 1).trans rfl; have hcz31_2 : w30.cell? ⟨gb221, 2, none⟩ = some (.int .i64 0) := (blk_cell BK221.out 2).trans rfl; have hcz31_3 : w30.cell? ⟨gb221, 3, none⟩ = some (.int .i64 0) := (blk_cell BK221.out 3).trans rfl; have hcz31_4 : w30.cell? ⟨gb221, 4, none⟩ = some (.string (⟨#[]⟩ : ByteArray)) := (blk_cell BK221.out 4).trans rfl; have hcz31_5 : w30.cell? ⟨gb221, 5, none⟩ = some (.int .i64 0) := (blk_cell BK221.out 5).trans rfl; have hfz31_0 := blk_frozen BK221.out 0; have hfz31_1 := blk_frozen BK221.out 1; have hfz31_2 := blk_frozen BK221.out 2; have hfz31_3 := blk_frozen BK221.out 3; have hfz31_4 := blk_frozen BK221.out 4; have hfz31_5 := blk_frozen BK221.out 5) | (go_at_call 26; (with_reducible refine (impl_Event_26.calls _ _ l0 ((rd_T40 l1 x32_2).f0) ((rd_T40 l1 x32_2).f1) ((rd_T40 l1 x32_2).f2) ((rd_T40 l1 x32_2).f3) ((rd_T40 l1 x32_2).f4) ((rd_T40 l1 x32_2).f5) t222 gb221 _ ?side1 ?side2 ?side3 A19.out).mono ?_); (case side1 => exact Kd.C_below HR0.out bl_); (case side2 => exact HC0.out); (case side3 => ((with_reducible repeat (first | refine blk_drewN ?_ _ | refine blk_drew ?_ | refine blk_alloc ?_ _)); refine blk_put (cs := #[.int .i64 ((rd_T40 l1 x32_2).f0), .int .i64 ((rd_T40 l1 x32_2).f1), .int .i64 ((rd_T40 l1 x32_2).f2), .int .i64 ((rd_T40 l1 x32_2).f3), .string ((rd_T40 l1 x32_2).f4), .int .i64 0]) ?_ 5 _ rfl; (with_reducible repeat (first | refine blk_drewN ?_ _ | refine blk_drew ?_ | refine blk_alloc ?_ _)); refine blk_put (cs := #[.int .i64 ((rd_T40 l1 x32_2).f0), .int .i64 ((rd_T40 l1 x32_2).f1), .int .i64 ((rd_T40 l1 x32_2).f2), .int .i64 ((rd_T40 l1 x32_2).f3), .string (⟨#[]⟩ : ByteArray), .int .i64 0]) ?_ 4 _ rfl; (with_reducible repeat (first | refine blk_drewN ?_ _ | refine blk_drew ?_ | refine blk_alloc ?_ _)); refine blk_put (cs := #[.int .i64 ((rd_T40 l1 x32_2).f0), .int .i64 ((rd_T40 l1 x32_2).f1), .int .i64 ((rd_T40 l1 x32_2).f2), .int .i64 0, .string (⟨#[]⟩ : ByteArray), .int .i64 0]) ?_ 3 _ rfl; (with_reducible repeat (first | refine blk_drewN ?_ _ | refine blk_drew ?_ | refine blk_alloc ?_ _)); refine blk_put (cs := #[.int .i64 ((rd_T40 l1 x32_2).f0), .int .i64 ((rd_T40 l1 x32_2).f1), .int .i64 0, .int .i64 0, .string (⟨#[]⟩ : ByteArray), .int .i64 0]) ?_ 2 _ rfl; (with_reducible repeat (first | refine blk_drewN ?_ _ | refine blk_drew ?_ | refine blk_alloc ?_ _)); refine blk_put (cs := #[.int .i64 ((rd_T40 l1 x32_2).f0), .int .i64 0, .int .i64 0, .int .i64 0, .string (⟨#[]⟩ : ByteArray), .int .i64 0]) ?_ 1 _ rfl; (with_reducible repeat (first | refine blk_drewN ?_ _ | refine blk_drew ?_ | refine blk_alloc ?_ _)); refine blk_put (cs := #[.int .i64 0, .int .i64 0, .int .i64 0, .int .i64 0, .string (⟨#[]⟩ : ByteArray), .int .i64 0]) ?_ 0 _ rfl; (with_reducible repeat (first | refine blk_drewN ?_ _ | refine blk_drew ?_ | refine blk_alloc ?_ _)); exact BK221.out)); rintro e w32 ⟨rfl, hb⟩; have n0_ := Aside0.mk (Kd.R_below (by (with_reducible repeat (first | apply Kd.R_alloc | apply Kd.R_drewN | apply Kd.R_drew)); exact (Kd.R_mono (Kd.R_far (p := ⟨gb221, 5, none⟩) (Kd.R_far (p := ⟨gb221, 4, none⟩) (Kd.R_far (p := ⟨gb221, 3, none⟩) (Kd.R_far (p := ⟨gb221, 2, none⟩) (Kd.R_far (p := ⟨gb221, 1, none⟩) (Kd.R_far (p := ⟨gb221, 0, none⟩) (Kd.R_mono HO_6.out (fun k_ hk => (⟨hk, by first | exact hk.2 | exact hk⟩ : _ ∧ k_ ≠ gb221))) (fun _ hk => hk.2) (.int .i64 ((rd_T40 l1 x32_2).f0))) (fun _ hk => hk.2) (.int .i64 ((rd_T40 l1 x32_2).f1))) (fun _ hk => hk.2) (.int .i64 ((rd_T40 l1 x32_2).f2))) (fun _ hk => hk.2) (.int .i64 ((rd_T40 l1 x32_2).f3))) (fun _ hk => hk.2) (.string ((rd_T40 l1 x32_2).f4))) (fun _ hk => hk.2) (.int .i64 ((rd_T40 l1 x32_2).f5))) (fun _ h_ => h_.1))) hb); have n1_ := Aside0.mk (blk_below (g := gb221) (o := .cells #[.int .i64 ((rd_T40 l1 x32_2).f0), .int .i64 ((rd_T40 l1 x32_2).f1), .int .i64 ((rd_T40 l1 x32_2).f2), .int .i64 ((rd_T40 l1 x32_2).f3), .string ((rd_T40 l1 x32_2).f4), .int .i64 ((rd_T40 l1 x32_2).f5)] 40 (0, 0)) (by (with_reducible repeat (first | refine blk_drewN ?_ _ | refine blk_drew ?_ | refine blk_alloc ?_ _)); refine blk_put (cs := #[.int .i64 ((rd_T40 l1 x32_2).f0), .int .i64 ((rd_T40 l1 x32_2).f1), .int .i64 ((rd_T40 l1 x32_2).f2), .int .i64 ((rd_T40 l1 x32_2).f3), .string ((rd_T40 l1 x32_2).f4), .int .i64 0]) ?_ 5 _ rfl; (with_reducible repeat (first | refine blk_drewN ?_ _ | refine blk_drew ?_ | refine blk_alloc ?_ _)); refine blk_put (cs := #[.int .i64 ((rd_T40 l1 x32_2).f0), .int .i64 ((rd_T40 l1 x32_2).f1), .int .i64 ((rd_T40 l1 x32_2).f2), .int .i64 ((rd_T40 l1 x32_2).f3), .string (⟨#[]⟩ : ByteArray), .int .i64 0]) ?_ 4 _ rfl; (with_reducible repeat (first | refine blk_drewN ?_ _ | refine blk_drew ?_ | refine blk_alloc ?_ _)); refine blk_put (cs := #[.int .i64 ((rd_T40 l1 x32_2).f0), .int .i64 ((rd_T40 l1 x32_2).f1), .int .i64 ((rd_T40 l1 x32_2).f2), .int .i64 0, .string (⟨#[]⟩ : ByteArray), .int .i64 0]) ?_ 3 _ rfl; (with_reducible repeat (first | refine blk_drewN ?_ _ | refine blk_drew ?_ | refine blk_alloc ?_ _)); refine blk_put (cs := #[.int .i64 ((rd_T40 l1 x32_2).f0), .int .i64 ((rd_T40 l1 x32_2).f1), .int .i64 0, .int .i64 0, .string (⟨#[]⟩ : ByteArray), .int .i64 0]) ?_ 2 _ rfl; (with_reducible repeat (first | refine blk_drewN ?_ _ | refine blk_drew ?_ | refine blk_alloc ?_ _)); refine blk_put (cs := #[.int .i64 ((rd_T40 l1 x32_2).f0), .int .i64 0, .int .i64 0, .int .i64 0, .string (⟨#[]⟩ : ByteArray), .int .i64 0]) ?_ 1 _ rfl; (with_reducible repeat (first | refine blk_drewN ?_ _ | refine blk_drew ?_ | refine blk_alloc ?_ _)); refine blk_put (cs := #[.int .i64 0, .int .i64 0, .int .i64 0, .int .i64 0, .string (⟨#[]⟩ : ByteArray), .int .i64 0]) ?_ 0 _ rfl; (with_reducible repeat (first | refine blk_drewN ?_ _ | refine blk_drew ?_ | refine blk_alloc ?_ _)); exact BK221.out) hb); have n2_ := Aside0.mk (below_step bl_ hb); clear HO_6; clear BK221; clear HB; have HO_6 := n0_; have BK221 := n1_; have HB := n2_; clear n0_ n1_ n2_; (try clear hb); (try clear hb2); (try clear hk); (try clear hi); have p226 : 0 ≤ (t222 : Int) := od_; have q226 : t222 < (l0.length : Int) := od_; obtain ⟨ad226, e226, hx226_0, hx226_1, hx226_2, hx226_3, hx226_4, hx226_5⟩ := at_T40 HR0.out t222 p226 q226; cases e226; replace hx226_0 := (HB.out.cell (World.block_lt_of_cell? w _ hx226_0)).trans hx226_0; replace hx226_1 := (HB.out.cell (World.block_lt_of_cell? w _ hx226_1)).trans hx226_1; replace hx226_2 := (HB.out.cell (World.block_lt_of_cell? w _ hx226_2)).trans hx226_2; replace hx226_3 := (HB.out.cell (World.block_lt_of_cell? w _ hx226_3)).trans hx226_3; replace hx226_4 := (HB.out.cell (World.block_lt_of_cell? w _ hx226_4)).trans hx226_4; replace hx226_5 := (HB.out.cell (World.block_lt_of_cell? w _ hx226_5)).trans hx226_5; replace p226 := eq_true p226; replace q226 := eq_true q226; have hcz33_0 : w32.cell? ⟨gb221, 0, none⟩ = some (.int .i64 ((rd_T40 l1 x32_2).f0)) := (blk_cell BK221.out 0).trans rfl; have hcz33_1 : w32.cell? ⟨gb221, 1, none⟩ = some (.int .i64 ((rd_T40 l1 x32_2).f1)) := (blk_cell BK221.out 1).trans rfl; have hcz33_2 : w32.cell? ⟨gb221, 2, none⟩ = some (.int .i64 ((rd_T40 l1 x32_2).f2)) := (blk_cell BK221.out 2).trans rfl; have hcz33_3 : w32.cell? ⟨gb221, 3, none⟩ = some (.int .i64 ((rd_T40 l1 x32_2).f3)) := (blk_cell BK221.out 3).trans rfl; have hcz33_4 : w32.cell? ⟨gb221, 4, none⟩ = some (.string ((rd_T40 l1 x32_2).f4)) := (blk_cell BK221.out 4).trans rfl; have hcz33_5 : w32.cell? ⟨gb221, 5, none⟩ = some (.int .i64 ((rd_T40 l1 x32_2).f5)) := (blk_cell BK221.out 5).trans rfl; have hfz33_0 := blk_frozen BK221.out 0; have hfz33_1 := blk_frozen BK221.out 1; have hfz33_2 := blk_frozen BK221.out 2; have hfz33_3 := blk_frozen BK221.out 3; have hfz33_4 := blk_frozen BK221.out 4; have hfz33_5 := blk_frozen BK221.out 5))
      repeat (go_quiet (first | ((with_reducible refine gate_dst (N := 8) rfl ?_); refine box_event ?hg (N := 8) ?hd (cs := #[.int .i64 0, .int .i64 0, .int .i64 0, .int .i64 0, .string (⟨#[]⟩ : ByteArray), .int .i64 0]) (t := 40) ?hr ?_; (case hd => rfl); (case hg => rfl); (case hr => first | (go_simp; done) | (go_simp; rfl)); intro gb221 hg w30 hbox hb; have n0_ := Aside0.mk (Kd.R_below (Kd.R_elderB (by (with_reducible repeat (first | apply Kd.R_alloc | apply Kd.R_drewN | apply Kd.R_drew)); exact HO_6.out) gb221 (Nat.le_of_eq hg.symm)) hb); have n1_ := Aside0.mk (below_step bl_ hb); have n2_ := Aside0.mk (hbox); have n3_ := Aside0.mk ((by rw [hg]; exact (below_size bl_) : w.heap.size ≤ gb221)); have n4_ := Aside0.mk ((by rw [hg]; exact (below_size bl_) : w.heap.size ≤ gb221)); clear HO_6; clear HB; have HO_6 := n0_; have HB := n1_; have BK221 := n2_; have GW221 := n3_; have GE221 := n4_; clear n0_ n1_ n2_ n3_ n4_; clear hb hbox hg; have hcz31_0 : w30.cell? ⟨gb221, 0, none⟩ = some (.int .i64 0) := (blk_cell BK221.out 0).trans rfl; have hcz31_1 : w30.cell? ⟨gb221, 1, none⟩ = some (.int .i64 0) := (blk_cell BK221.out 1).trans rfl; have hcz31_2 : w30.cell? ⟨gb221, 2, none⟩ = some (.int .i64 0) := (blk_cell BK221.out 2).trans rfl; have hcz31_3 : w30.cell? ⟨gb221, 3, none⟩ = some (.int .i64 0) := (blk_cell BK221.out 3).trans rfl; have hcz31_4 : w30.cell? ⟨gb221, 4, none⟩ = some (.string (⟨#[]⟩ : ByteArray)) := (blk_cell BK221.out 4).trans rfl; have hcz31_5 : w30.cell? ⟨gb221, 5, none⟩ = some (.int .i64 0) := (blk_cell BK221.out 5).trans rfl; have hfz31_0 := blk_frozen BK221.out 0; have hfz31_1 := blk_frozen BK221.out 1; have hfz31_2 := blk_frozen BK221.out 2; have hfz31_3 := blk_frozen BK221.out 3; have hfz31_4 := blk_frozen BK221.out 4; have hfz31_5 := blk_frozen BK221.out 5) | (go_at_call 26; (with_reducible refine (impl_Event_26.calls _ _ l0 ((rd_T40 l1 x32_2).f0) ((rd_T40 l1 x32_2).f1) ((rd_T40 l1 x32_2).f2) ((rd_T40 l1 x32_2).f3) ((rd_T40 l1 x32_2).f4) ((rd_T40 l1 x32_2).f5) t222 gb221 _ ?side1 ?side2 ?side3 A19.out).mono ?_); (case side1 => exact Kd.C_below HR0.out bl_); (case side2 => exact HC0.out); (case side3 => ((with_reducible repeat (first | refine blk_drewN ?_ _ | refine blk_drew ?_ | refine blk_alloc ?_ _)); refine blk_put (cs := #[.int .i64 ((rd_T40 l1 x32_2).f0), .int .i64 ((rd_T40 l1 x32_2).f1), .int .i64 ((rd_T40 l1 x32_2).f2), .int .i64 ((rd_T40 l1 x32_2).f3), .string ((rd_T40 l1 x32_2).f4), .int .i64 0]) ?_ 5 _ rfl; (with_reducible repeat (first | refine blk_drewN ?_ _ | refine blk_drew ?_ | refine blk_alloc ?_ _)); refine blk_put (cs := #[.int .i64 ((rd_T40 l1 x32_2).f0), .int .i64 ((rd_T40 l1 x32_2).f1), .int .i64 ((rd_T40 l1 x32_2).f2), .int .i64 ((rd_T40 l1 x32_2).f3), .string (⟨#[]⟩ : ByteArray), .int .i64 0]) ?_ 4 _ rfl; (with_reducible repeat (first | refine blk_drewN ?_ _ | refine blk_drew ?_ | refine blk_alloc ?_ _)); refine blk_put (cs := #[.int .i64 ((rd_T40 l1 x32_2).f0), .int .i64 ((rd_T40 l1 x32_2).f1), .int .i64 ((rd_T40 l1 x32_2).f2), .int .i64 0, .string (⟨#[]⟩ : ByteArray), .int .i64 0]) ?_ 3 _ rfl; (with_reducible repeat (first | refine blk_drewN ?_ _ | refine blk_drew ?_ | refine blk_alloc ?_ _)); refine blk_put (cs := #[.int .i64 ((rd_T40 l1 x32_2).f0), .int .i64 ((rd_T40 l1 x32_2).f1), .int .i64 0, .int .i64 0, .string (⟨#[]⟩ : ByteArray), .int .i64 0]) ?_ 2 _ rfl; (with_reducible repeat (first | refine blk_drewN ?_ _ | refine blk_drew ?_ | refine blk_alloc ?_ _)); refine blk_put (cs := #[.int .i64 ((rd_T40 l1 x32_2).f0), .int .i64 0, .int .i64 0, .int .i64 0, .string (⟨#[]⟩ : ByteArray), .int .i64 0]) ?_ 1 _ rfl; (with_reducible repeat (first | refine blk_drewN ?_ _ | refine blk_drew ?_ | refine blk_alloc ?_ _)); refine blk_put (cs := #[.int .i64 0, .int .i64 0, .int .i64 0, .int .i64 0, .string (⟨#[]⟩ : ByteArray), .int .i64 0]) ?_ 0 _ rfl; (with_reducible repeat (first | refine blk_drewN ?_ _ | refine blk_drew ?_ | refine blk_alloc ?_ _)); exact BK221.out)); rintro e w32 ⟨rfl, hb⟩; have n0_ := Aside0.mk (Kd.R_below (by (with_reducible repeat (first | apply Kd.R_alloc | apply Kd.R_drewN | apply Kd.R_drew)); exact (Kd.R_mono (Kd.R_far (p := ⟨gb221, 5, none⟩) (Kd.R_far (p := ⟨gb221, 4, none⟩) (Kd.R_far (p := ⟨gb221, 3, none⟩) (Kd.R_far (p := ⟨gb221, 2, none⟩) (Kd.R_far (p := ⟨gb221, 1, none⟩) (Kd.R_far (p := ⟨gb221, 0, none⟩) (Kd.R_mono HO_6.out (fun k_ hk => (⟨hk, by first | exact hk.2 | exact hk⟩ : _ ∧ k_ ≠ gb221))) (fun _ hk => hk.2) (.int .i64 ((rd_T40 l1 x32_2).f0))) (fun _ hk => hk.2) (.int .i64 ((rd_T40 l1 x32_2).f1))) (fun _ hk => hk.2) (.int .i64 ((rd_T40 l1 x32_2).f2))) (fun _ hk => hk.2) (.int .i64 ((rd_T40 l1 x32_2).f3))) (fun _ hk => hk.2) (.string ((rd_T40 l1 x32_2).f4))) (fun _ hk => hk.2) (.int .i64 ((rd_T40 l1 x32_2).f5))) (fun _ h_ => h_.1))) hb); have n1_ := Aside0.mk (blk_below (g := gb221) (o := .cells #[.int .i64 ((rd_T40 l1 x32_2).f0), .int .i64 ((rd_T40 l1 x32_2).f1), .int .i64 ((rd_T40 l1 x32_2).f2), .int .i64 ((rd_T40 l1 x32_2).f3), .string ((rd_T40 l1 x32_2).f4), .int .i64 ((rd_T40 l1 x32_2).f5)] 40 (0, 0)) (by (with_reducible repeat (first | refine blk_drewN ?_ _ | refine blk_drew ?_ | refine blk_alloc ?_ _)); refine blk_put (cs := #[.int .i64 ((rd_T40 l1 x32_2).f0), .int .i64 ((rd_T40 l1 x32_2).f1), .int .i64 ((rd_T40 l1 x32_2).f2), .int .i64 ((rd_T40 l1 x32_2).f3), .string ((rd_T40 l1 x32_2).f4), .int .i64 0]) ?_ 5 _ rfl; (with_reducible repeat (first | refine blk_drewN ?_ _ | refine blk_drew ?_ | refine blk_alloc ?_ _)); refine blk_put (cs := #[.int .i64 ((rd_T40 l1 x32_2).f0), .int .i64 ((rd_T40 l1 x32_2).f1), .int .i64 ((rd_T40 l1 x32_2).f2), .int .i64 ((rd_T40 l1 x32_2).f3), .string (⟨#[]⟩ : ByteArray), .int .i64 0]) ?_ 4 _ rfl; (with_reducible repeat (first | refine blk_drewN ?_ _ | refine blk_drew ?_ | refine blk_alloc ?_ _)); refine blk_put (cs := #[.int .i64 ((rd_T40 l1 x32_2).f0), .int .i64 ((rd_T40 l1 x32_2).f1), .int .i64 ((rd_T40 l1 x32_2).f2), .int .i64 0, .string (⟨#[]⟩ : ByteArray), .int .i64 0]) ?_ 3 _ rfl; (with_reducible repeat (first | refine blk_drewN ?_ _ | refine blk_drew ?_ | refine blk_alloc ?_ _)); refine blk_put (cs := #[.int .i64 ((rd_T40 l1 x32_2).f0), .int .i64 ((rd_T40 l1 x32_2).f1), .int .i64 0, .int .i64 0, .string (⟨#[]⟩ : ByteArray), .int .i64 0]) ?_ 2 _ rfl; (with_reducible repeat (first | refine blk_drewN ?_ _ | refine blk_drew ?_ | refine blk_alloc ?_ _)); refine blk_put (cs := #[.int .i64 ((rd_T40 l1 x32_2).f0), .int .i64 0, .int .i64 0, .int .i64 0, .string (⟨#[]⟩ : ByteArray), .int .i64 0]) ?_ 1 _ rfl; (with_reducible repeat (first | refine blk_drewN ?_ _ | refine blk_drew ?_ | refine blk_alloc ?_ _)); refine blk_put (cs := #[.int .i64 0, .int .i64 0, .int .i64 0, .int .i64 0, .string (⟨#[]⟩ : ByteArray), .int .i64 0]) ?_ 0 _ rfl; (with_reducible repeat (first | refine blk_drewN ?_ _ | refine blk_drew ?_ | refine blk_alloc ?_ _)); exact BK221.out) hb); have n2_ := Aside0.mk (below_step bl_ hb); clear HO_6; clear BK221; clear HB; have HO_6 := n0_; have BK221 := n1_; have HB := n2_; clear n0_ n1_ n2_; (try clear hb); (try clear hb2); (try clear hk); (try clear hi); have p226 : 0 ≤ (t222 : Int) := od_; have q226 : t222 < (l0.length : Int) := od_; obtain ⟨ad226, e226, hx226_0, hx226_1, hx226_2, hx226_3, hx226_4, hx226_5⟩ := at_T40 HR0.out t222 p226 q226; cases e226; replace hx226_0 := (HB.out.cell (World.block_lt_of_cell? w _ hx226_0)).trans hx226_0; replace hx226_1 := (HB.out.cell (World.block_lt_of_cell? w _ hx226_1)).trans hx226_1; replace hx226_2 := (HB.out.cell (World.block_lt_of_cell? w _ hx226_2)).trans hx226_2; replace hx226_3 := (HB.out.cell (World.block_lt_of_cell? w _ hx226_3)).trans hx226_3; replace hx226_4 := (HB.out.cell (World.block_lt_of_cell? w _ hx226_4)).trans hx226_4; replace hx226_5 := (HB.out.cell (World.block_lt_of_cell? w _ hx226_5)).trans hx226_5; replace p226 := eq_true p226; replace q226 := eq_true q226; have hcz33_0 : w32.cell? ⟨gb221, 0, none⟩ = some (.int .i64 ((rd_T40 l1 x32_2).f0)) := (blk_cell BK221.out 0).trans rfl; have hcz33_1 : w32.cell? ⟨gb221, 1, none⟩ = some (.int .i64 ((rd_T40 l1 x32_2).f1)) := (blk_cell BK221.out 1).trans rfl; have hcz33_2 : w32.cell? ⟨gb221, 2, none⟩ = some (.int .i64 ((rd_T40 l1 x32_2).f2)) := (blk_cell BK221.out 2).trans rfl; have hcz33_3 : w32.cell? ⟨gb221, 3, none⟩ = some (.int .i64 ((rd_T40 l1 x32_2).f3)) := (blk_cell BK221.out 3).trans rfl; have hcz33_4 : w32.cell? ⟨gb221, 4, none⟩ = some (.string ((rd_T40 l1 x32_2).f4)) := (blk_cell BK221.out 4).trans rfl; have hcz33_5 : w32.cell? ⟨gb221, 5, none⟩ = some (.int .i64 ((rd_T40 l1 x32_2).f5)) := (blk_cell BK221.out 5).trans rfl; have hfz33_0 := blk_frozen BK221.out 0; have hfz33_1 := blk_frozen BK221.out 1; have hfz33_2 := blk_frozen BK221.out 2; have hfz33_3 := blk_frozen BK221.out 3; have hfz33_4 := blk_frozen BK221.out 4; have hfz33_5 := blk_frozen BK221.out 5)); try go_wp2_with (first | ((with_reducible refine gate_dst (N := 8) rfl ?_); refine box_event ?hg (N := 8) ?hd (cs := #[.int .i64 0, .int .i64 0, .int .i64 0, .int .i64 0, .string (⟨#[]⟩ : ByteArray), .int .i64 0]) (t := 40) ?hr ?_; (case hd => rfl); (case hg => rfl); (case hr => first | (go_simp; done) | (go_simp; rfl)); intro gb221 hg w30 hbox hb; have n0_ := Aside0.mk (Kd.R_below (Kd.R_elderB (by (with_reducible repeat (first | apply Kd.R_alloc | apply Kd.R_drewN | apply Kd.R_drew)); exact HO_6.out) gb221 (Nat.le_of_eq hg.symm)) hb); have n1_ := Aside0.mk (below_step bl_ hb); have n2_ := Aside0.mk (hbox); have n3_ := Aside0.mk ((by rw [hg]; exact (below_size bl_) : w.heap.size ≤ gb221)); have n4_ := Aside0.mk ((by rw [hg]; exact (below_size bl_) : w.heap.size ≤ gb221)); clear HO_6; clear HB; have HO_6 := n0_; have HB := n1_; have BK221 := n2_; have GW221 := n3_; have GE221 := n4_; clear n0_ n1_ n2_ n3_ n4_; clear hb hbox hg; have hcz31_0 : w30.cell? ⟨gb221, 0, none⟩ = some (.int .i64 0) := (blk_cell BK221.out 0).trans rfl; have hcz31_1 : w30.cell? ⟨gb221, 1, none⟩ = some (.int .i64 0) := (blk_cell BK221.out 1).trans rfl; have hcz31_2 : w30.cell? ⟨gb221, 2, none⟩ = some (.int .i64 0) := (blk_cell BK221.out 2).trans rfl; have hcz31_3 : w30.cell? ⟨gb221, 3, none⟩ = some (.int .i64 0) := (blk_cell BK221.out 3).trans rfl; have hcz31_4 : w30.cell? ⟨gb221, 4, none⟩ = some (.string (⟨#[]⟩ : ByteArray)) := (blk_cell BK221.out 4).trans rfl; have hcz31_5 : w30.cell? ⟨gb221, 5, none⟩ = some (.int .i64 0) := (blk_cell BK221.out 5).trans rfl; have hfz31_0 := blk_frozen BK221.out 0; have hfz31_1 := blk_frozen BK221.out 1; have hfz31_2 := blk_frozen BK221.out 2; have hfz31_3 := blk_frozen BK221.out 3; have hfz31_4 := blk_frozen BK221.out 4; have hfz31_5 := blk_frozen BK221.out 5) | (go_at_call 26; (with_reducible refine (impl_Event_26.calls _ _ l0 ((rd_T40 l1 x32_2).f0) ((rd_T40 l1 x32_2).f1) ((rd_T40 l1 x32_2).f2) ((rd_T40 l1 x32_2).f3) ((rd_T40 l1 x32_2).f4) ((rd_T40 l1 x32_2).f5) t222 gb221 _ ?side1 ?side2 ?side3 A19.out).mono ?_); (case side1 => exact Kd.C_below HR0.out bl_); (case side2 => exact HC0.out); (case side3 => ((with_reducible repeat (first | refine blk_drewN ?_ _ | refine blk_drew ?_ | refine blk_alloc ?_ _)); refine blk_put (cs := #[.int .i64 ((rd_T40 l1 x32_2).f0), .int .i64 ((rd_T40 l1 x32_2).f1), .int .i64 ((rd_T40 l1 x32_2).f2), .int .i64 ((rd_T40 l1 x32_2).f3), .string ((rd_T40 l1 x32_2).f4), .int .i64 0]) ?_ 5 _ rfl; (with_reducible repeat (first | refine blk_drewN ?_ _ | refine blk_drew ?_ | refine blk_alloc ?_ _)); refine blk_put (cs := #[.int .i64 ((rd_T40 l1 x32_2).f0), .int .i64 ((rd_T40 l1 x32_2).f1), .int .i64 ((rd_T40 l1 x32_2).f2), .int .i64 ((rd_T40 l1 x32_2).f3), .string (⟨#[]⟩ : ByteArray), .int .i64 0]) ?_ 4 _ rfl; (with_reducible repeat (first | refine blk_drewN ?_ _ | refine blk_drew ?_ | refine blk_alloc ?_ _)); refine blk_put (cs := #[.int .i64 ((rd_T40 l1 x32_2).f0), .int .i64 ((rd_T40 l1 x32_2).f1), .int .i64 ((rd_T40 l1 x32_2).f2), .int .i64 0, .string (⟨#[]⟩ : ByteArray), .int .i64 0]) ?_ 3 _ rfl; (with_reducible repeat (first | refine blk_drewN ?_ _ | refine blk_drew ?_ | refine blk_alloc ?_ _)); refine blk_put (cs := #[.int .i64 ((rd_T40 l1 x32_2).f0), .int .i64 ((rd_T40 l1 x32_2).f1), .int .i64 0, .int .i64 0, .string (⟨#[]⟩ : ByteArray), .int .i64 0]) ?_ 2 _ rfl; (with_reducible repeat (first | refine blk_drewN ?_ _ | refine blk_drew ?_ | refine blk_alloc ?_ _)); refine blk_put (cs := #[.int .i64 ((rd_T40 l1 x32_2).f0), .int .i64 0, .int .i64 0, .int .i64 0, .string (⟨#[]⟩ : ByteArray), .int .i64 0]) ?_ 1 _ rfl; (with_reducible repeat (first | refine blk_drewN ?_ _ | refine blk_drew ?_ | refine blk_alloc ?_ _)); refine blk_put (cs := #[.int .i64 0, .int .i64 0, .int .i64 0, .int .i64 0, .string (⟨#[]⟩ : ByteArray), .int .i64 0]) ?_ 0 _ rfl; (with_reducible repeat (first | refine blk_drewN ?_ _ | refine blk_drew ?_ | refine blk_alloc ?_ _)); exact BK221.out)); rintro e w32 ⟨rfl, hb⟩; have n0_ := Aside0.mk (Kd.R_below (by (with_reducible repeat (first | apply Kd.R_alloc | apply Kd.R_drewN | apply Kd.R_drew)); exact (Kd.R_mono (Kd.R_far (p := ⟨gb221, 5, none⟩) (Kd.R_far (p := ⟨gb221, 4, none⟩) (Kd.R_far (p := ⟨gb221, 3, none⟩) (Kd.R_far (p := ⟨gb221, 2, none⟩) (Kd.R_far (p := ⟨gb221, 1, none⟩) (Kd.R_far (p := ⟨gb221, 0, none⟩) (Kd.R_mono HO_6.out (fun k_ hk => (⟨hk, by first | exact hk.2 | exact hk⟩ : _ ∧ k_ ≠ gb221))) (fun _ hk => hk.2) (.int .i64 ((rd_T40 l1 x32_2).f0))) (fun _ hk => hk.2) (.int .i64 ((rd_T40 l1 x32_2).f1))) (fun _ hk => hk.2) (.int .i64 ((rd_T40 l1 x32_2).f2))) (fun _ hk => hk.2) (.int .i64 ((rd_T40 l1 x32_2).f3))) (fun _ hk => hk.2) (.string ((rd_T40 l1 x32_2).f4))) (fun _ hk => hk.2) (.int .i64 ((rd_T40 l1 x32_2).f5))) (fun _ h_ => h_.1))) hb); have n1_ := Aside0.mk (blk_below (g := gb221) (o := .cells #[.int .i64 ((rd_T40 l1 x32_2).f0), .int .i64 ((rd_T40 l1 x32_2).f1), .int .i64 ((rd_T40 l1 x32_2).f2), .int .i64 ((rd_T40 l1 x32_2).f3), .string ((rd_T40 l1 x32_2).f4), .int .i64 ((rd_T40 l1 x32_2).f5)] 40 (0, 0)) (by (with_reducible repeat (first | refine blk_drewN ?_ _ | refine blk_drew ?_ | refine blk_alloc ?_ _)); refine blk_put (cs := #[.int .i64 ((rd_T40 l1 x32_2).f0), .int .i64 ((rd_T40 l1 x32_2).f1), .int .i64 ((rd_T40 l1 x32_2).f2), .int .i64 ((rd_T40 l1 x32_2).f3), .string ((rd_T40 l1 x32_2).f4), .int .i64 0]) ?_ 5 _ rfl; (with_reducible repeat (first | refine blk_drewN ?_ _ | refine blk_drew ?_ | refine blk_alloc ?_ _)); refine blk_put (cs := #[.int .i64 ((rd_T40 l1 x32_2).f0), .int .i64 ((rd_T40 l1 x32_2).f1), .int .i64 ((rd_T40 l1 x32_2).f2), .int .i64 ((rd_T40 l1 x32_2).f3), .string (⟨#[]⟩ : ByteArray), .int .i64 0]) ?_ 4 _ rfl; (with_reducible repeat (first | refine blk_drewN ?_ _ | refine blk_drew ?_ | refine blk_alloc ?_ _)); refine blk_put (cs := #[.int .i64 ((rd_T40 l1 x32_2).f0), .int .i64 ((rd_T40 l1 x32_2).f1), .int .i64 ((rd_T40 l1 x32_2).f2), .int .i64 0, .string (⟨#[]⟩ : ByteArray), .int .i64 0]) ?_ 3 _ rfl; (with_reducible repeat (first | refine blk_drewN ?_ _ | refine blk_drew ?_ | refine blk_alloc ?_ _)); refine blk_put (cs := #[.int .i64 ((rd_T40 l1 x32_2).f0), .int .i64 ((rd_T40 l1 x32_2).f1), .int .i64 0, .int .i64 0, .string (⟨#[]⟩ : ByteArray), .int .i64 0]) ?_ 2 _ rfl; (with_reducible repeat (first | refine blk_drewN ?_ _ | refine blk_drew ?_ | refine blk_alloc ?_ _)); refine blk_put (cs := #[.int .i64 ((rd_T40 l1 x32_2).f0), .int .i64 0, .int .i64 0, .int .i64 0, .string (⟨#[]⟩ : ByteArray), .int .i64 0]) ?_ 1 _ rfl; (with_reducible repeat (first | refine blk_drewN ?_ _ | refine blk_drew ?_ | refine blk_alloc ?_ _)); refine blk_put (cs := #[.int .i64 0, .int .i64 0, .int .i64 0, .int .i64 0, .string (⟨#[]⟩ : ByteArray), .int .i64 0]) ?_ 0 _ rfl; (with_reducible repeat (first | refine blk_drewN ?_ _ | refine blk_drew ?_ | refine blk_alloc ?_ _)); exact BK221.out) hb); have n2_ := Aside0.mk (below_step bl_ hb); clear HO_6; clear BK221; clear HB; have HO_6 := n0_; have BK221 := n1_; have HB := n2_; clear n0_ n1_ n2_; (try clear hb); (try clear hb2); (try clear hk); (try clear hi); have p226 : 0 ≤ (t222 : Int) := od_; have q226 : t222 < (l0.length : Int) := od_; obtain ⟨ad226, e226, hx226_0, hx226_1, hx226_2, hx226_3, hx226_4, hx226_5⟩ := at_T40 HR0.out t222 p226 q226; cases e226; replace hx226_0 := (HB.out.cell (World.block_lt_of_cell? w _ hx226_0)).trans hx226_0; replace hx226_1 := (HB.out.cell (World.block_lt_of_cell? w _ hx226_1)).trans hx226_1; replace hx226_2 := (HB.out.cell (World.block_lt_of_cell? w _ hx226_2)).trans hx226_2; replace hx226_3 := (HB.out.cell (World.block_lt_of_cell? w _ hx226_3)).trans hx226_3; replace hx226_4 := (HB.out.cell (World.block_lt_of_cell? w _ hx226_4)).trans hx226_4; replace hx226_5 := (HB.out.cell (World.block_lt_of_cell? w _ hx226_5)).trans hx226_5; replace p226 := eq_true p226; replace q226 := eq_true q226; have hcz33_0 : w32.cell? ⟨gb221, 0, none⟩ = some (.int .i64 ((rd_T40 l1 x32_2).f0)) := (blk_cell BK221.out 0).trans rfl; have hcz33_1 : w32.cell? ⟨gb221, 1, none⟩ = some (.int .i64 ((rd_T40 l1 x32_2).f1)) := (blk_cell BK221.out 1).trans rfl; have hcz33_2 : w32.cell? ⟨gb221, 2, none⟩ = some (.int .i64 ((rd_T40 l1 x32_2).f2)) := (blk_cell BK221.out 2).trans rfl; have hcz33_3 : w32.cell? ⟨gb221, 3, none⟩ = some (.int .i64 ((rd_T40 l1 x32_2).f3)) := (blk_cell BK221.out 3).trans rfl; have hcz33_4 : w32.cell? ⟨gb221, 4, none⟩ = some (.string ((rd_T40 l1 x32_2).f4)) := (blk_cell BK221.out 4).trans rfl; have hcz33_5 : w32.cell? ⟨gb221, 5, none⟩ = some (.int .i64 ((rd_T40 l1 x32_2).f5)) := (blk_cell BK221.out 5).trans rfl; have hfz33_0 := blk_frozen BK221.out 0; have hfz33_1 := blk_frozen BK221.out 1; have hfz33_2 := blk_frozen BK221.out 2; have hfz33_3 := blk_frozen BK221.out 3; have hfz33_4 := blk_frozen BK221.out 4; have hfz33_5 := blk_frozen BK221.out 5)))
      go_ret2
      exact ⟨_, by first | rfl | (simp [errW_none, errW_some] <;> rfl) | (simp [*, errW_none, errW_some] <;> rfl), by first | exact Kd.R_nil _ _ _ _ _ | exact Kd.N_nil _ _ _ _ _ | exact Kd.V_nil _ _ _ _ _ | exact Kd.Q_nil _ _ _ _ _ | exact Kd.S_nil _ _ _ _ _, by repeat (first | (with_reducible first | exact HB.out | apply below_alloc | apply pw_below_drewN | apply below_drew1 | refine below_set ?_ GE221.out) | exact HB.out)⟩
     rw [if_neg c29] at H
     have c29b0 : (!(((rd_T40 l0 t222).f0) == ((rd_T40 l1 x32_2).f0)) || (!(((rd_T40 l0 t222).f1) == ((rd_T40 l1 x32_2).f1)) || (!(((rd_T40 l0 t222).f2) == ((rd_T40 l1 x32_2).f2)) || (!(((rd_T40 l0 t222).f3) == ((rd_T40 l1 x32_2).f3)) || (!((((rd_T40 l0 t222).f4).toList) == (((rd_T40 l1 x32_2).f4).toList)) || (!(((rd_T40 l0 t222).f5) == ((rd_T40 l1 x32_2).f5)))))))) = false := by simpa using c29
     clear c29
     have H' := Aside0.mk H
     clear H
     have p220 : 0 ≤ (x32_2 : Int) := od_
     have q220 : x32_2 < (l1.length : Int) := od_
     obtain ⟨ad220, e220, hx220_0, hx220_1, hx220_2, hx220_3, hx220_4, hx220_5⟩ := at_T40 HR1.out x32_2 p220 q220
     cases e220
     replace hx220_0 := (HB.out.cell (World.block_lt_of_cell? w _ hx220_0)).trans hx220_0
     replace hx220_1 := (HB.out.cell (World.block_lt_of_cell? w _ hx220_1)).trans hx220_1
     replace hx220_2 := (HB.out.cell (World.block_lt_of_cell? w _ hx220_2)).trans hx220_2
     replace hx220_3 := (HB.out.cell (World.block_lt_of_cell? w _ hx220_3)).trans hx220_3
     replace hx220_4 := (HB.out.cell (World.block_lt_of_cell? w _ hx220_4)).trans hx220_4
     replace hx220_5 := (HB.out.cell (World.block_lt_of_cell? w _ hx220_5)).trans hx220_5
     replace p220 := eq_true p220
     replace q220 := eq_true q220
     go_wp2_with (first | ((with_reducible refine gate_dst (N := 8) rfl ?_); refine box_event ?hg (N := 8) ?hd (cs := #[.int .i64 0, .int .i64 0, .int .i64 0, .int .i64 0, .string (⟨#[]⟩ : ByteArray), .int .i64 0]) (t := 40) ?hr ?_; (case hd => rfl); (case hg => rfl); (case hr => first | (go_simp; done) | (go_simp; rfl)); intro gb221 hg w34 hbox hb; have n0_ := Aside0.mk (Kd.R_below (Kd.R_elderB (by (with_reducible repeat (first | apply Kd.R_alloc | apply Kd.R_drewN | apply Kd.R_drew)); exact HO_6.out) gb221 (Nat.le_of_eq hg.symm)) hb); have n1_ := Aside0.mk (below_step bl_ hb); have n2_ := Aside0.mk (hbox); have n3_ := Aside0.mk ((by rw [hg]; exact (below_size bl_) : w.heap.size ≤ gb221)); have n4_ := Aside0.mk ((by rw [hg]; exact (below_size bl_) : w.heap.size ≤ gb221)); clear HO_6; clear HB; have HO_6 := n0_; have HB := n1_; have BK221 := n2_; have GW221 := n3_; have GE221 := n4_; clear n0_ n1_ n2_ n3_ n4_; clear hb hbox hg; have hcz35_0 : w34.cell? ⟨gb221, 0, none⟩ = some (.int .i64 0) := (blk_cell BK221.out 0).trans rfl; have hcz35_1 : w34.cell? ⟨gb221, 1, none⟩ = some (.int .i64 0) := (blk_cell BK221.out 1).trans rfl; have hcz35_2 : w34.cell? ⟨gb221, 2, none⟩ = some (.int .i64 0) := (blk_cell BK221.out 2).trans rfl; have hcz35_3 : w34.cell? ⟨gb221, 3, none⟩ = some (.int .i64 0) := (blk_cell BK221.out 3).trans rfl; have hcz35_4 : w34.cell? ⟨gb221, 4, none⟩ = some (.string (⟨#[]⟩ : ByteArray)) := (blk_cell BK221.out 4).trans rfl; have hcz35_5 : w34.cell? ⟨gb221, 5, none⟩ = some (.int .i64 0) := (blk_cell BK221.out 5).trans rfl; have hfz35_0 := blk_frozen BK221.out 0; have hfz35_1 := blk_frozen BK221.out 1; have hfz35_2 := blk_frozen BK221.out 2; have hfz35_3 := blk_frozen BK221.out 3; have hfz35_4 := blk_frozen BK221.out 4; have hfz35_5 := blk_frozen BK221.out 5) | (go_at_call 26; (with_reducible refine (impl_Event_26.calls _ _ l0 ((rd_T40 l1 x32_2).f0) ((rd_T40 l1 x32_2).f1) ((rd_T40 l1 x32_2).f2) ((rd_T40 l1 x32_2).f3) ((rd_T40 l1 x32_2).f4) ((rd_T40 l1 x32_2).f5) t222 gb221 _ ?side1 ?side2 ?side3 A19.out).mono ?_); (case side1 => exact Kd.C_below HR0.out bl_); (case side2 => exact HC0.out); (case side3 => ((with_reducible repeat (first | refine blk_drewN ?_ _ | refine blk_drew ?_ | refine blk_alloc ?_ _)); refine blk_put (cs := #[.int .i64 ((rd_T40 l1 x32_2).f0), .int .i64 ((rd_T40 l1 x32_2).f1), .int .i64 ((rd_T40 l1 x32_2).f2), .int .i64 ((rd_T40 l1 x32_2).f3), .string ((rd_T40 l1 x32_2).f4), .int .i64 0]) ?_ 5 _ rfl; (with_reducible repeat (first | refine blk_drewN ?_ _ | refine blk_drew ?_ | refine blk_alloc ?_ _)); refine blk_put (cs := #[.int .i64 ((rd_T40 l1 x32_2).f0), .int .i64 ((rd_T40 l1 x32_2).f1), .int .i64 ((rd_T40 l1 x32_2).f2), .int .i64 ((rd_T40 l1 x32_2).f3), .string (⟨#[]⟩ : ByteArray), .int .i64 0]) ?_ 4 _ rfl; (with_reducible repeat (first | refine blk_drewN ?_ _ | refine blk_drew ?_ | refine blk_alloc ?_ _)); refine blk_put (cs := #[.int .i64 ((rd_T40 l1 x32_2).f0), .int .i64 ((rd_T40 l1 x32_2).f1), .int .i64 ((rd_T40 l1 x32_2).f2), .int .i64 0, .string (⟨#[]⟩ : ByteArray), .int .i64 0]) ?_ 3 _ rfl; (with_reducible repeat (first | refine blk_drewN ?_ _ | refine blk_drew ?_ | refine blk_alloc ?_ _)); refine blk_put (cs := #[.int .i64 ((rd_T40 l1 x32_2).f0), .int .i64 ((rd_T40 l1 x32_2).f1), .int .i64 0, .int .i64 0, .string (⟨#[]⟩ : ByteArray), .int .i64 0]) ?_ 2 _ rfl; (with_reducible repeat (first | refine blk_drewN ?_ _ | refine blk_drew ?_ | refine blk_alloc ?_ _)); refine blk_put (cs := #[.int .i64 ((rd_T40 l1 x32_2).f0), .int .i64 0, .int .i64 0, .int .i64 0, .string (⟨#[]⟩ : ByteArray), .int .i64 0]) ?_ 1 _ rfl; (with_reducible repeat (first | refine blk_drewN ?_ _ | refine blk_drew ?_ | refine blk_alloc ?_ _)); refine blk_put (cs := #[.int .i64 0, .int .i64 0, .int .i64 0, .int .i64 0, .string (⟨#[]⟩ : ByteArray), .int .i64 0]) ?_ 0 _ rfl; (with_reducible repeat (first | refine blk_drewN ?_ _ | refine blk_drew ?_ | refine blk_alloc ?_ _)); exact BK221.out)); rintro e w36 ⟨rfl, hb⟩; have n0_ := Aside0.mk (Kd.R_below (by (with_reducible repeat (first | apply Kd.R_alloc | apply Kd.R_drewN | apply Kd.R_drew)); exact (Kd.R_mono (Kd.R_far (p := ⟨gb221, 5, none⟩) (Kd.R_far (p := ⟨gb221, 4, none⟩) (Kd.R_far (p := ⟨gb221, 3, none⟩) (Kd.R_far (p := ⟨gb221, 2, none⟩) (Kd.R_far (p := ⟨gb221, 1, none⟩) (Kd.R_far (p := ⟨gb221, 0, none⟩) (Kd.R_mono HO_6.out (fun k_ hk => (⟨hk, by first | exact hk.2 | exact hk⟩ : _ ∧ k_ ≠ gb221))) (fun _ hk => hk.2) (.int .i64 ((rd_T40 l1 x32_2).f0))) (fun _ hk => hk.2) (.int .i64 ((rd_T40 l1 x32_2).f1))) (fun _ hk => hk.2) (.int .i64 ((rd_T40 l1 x32_2).f2))) (fun _ hk => hk.2) (.int .i64 ((rd_T40 l1 x32_2).f3))) (fun _ hk => hk.2) (.string ((rd_T40 l1 x32_2).f4))) (fun _ hk => hk.2) (.int .i64 ((rd_T40 l1 x32_2).f5))) (fun _ h_ => h_.1))) hb); have n1_ := Aside0.mk (blk_below (g := gb221) (o := .cells #[.int .i64 ((rd_T40 l1 x32_2).f0), .int .i64 ((rd_T40 l1 x32_2).f1), .int .i64 ((rd_T40 l1 x32_2).f2), .int .i64 ((rd_T40 l1 x32_2).f3), .string ((rd_T40 l1 x32_2).f4), .int .i64 ((rd_T40 l1 x32_2).f5)] 40 (0, 0)) (by (with_reducible repeat (first | refine blk_drewN ?_ _ | refine blk_drew ?_ | refine blk_alloc ?_ _)); refine blk_put (cs := #[.int .i64 ((rd_T40 l1 x32_2).f0), .int .i64 ((rd_T40 l1 x32_2).f1), .int .i64 ((rd_T40 l1 x32_2).f2), .int .i64 ((rd_T40 l1 x32_2).f3), .string ((rd_T40 l1 x32_2).f4), .int .i64 0]) ?_ 5 _ rfl; (with_reducible repeat (first | refine blk_drewN ?_ _ | refine blk_drew ?_ | refine blk_alloc ?_ _)); refine blk_put (cs := #[.int .i64 ((rd_T40 l1 x32_2).f0), .int .i64 ((rd_T40 l1 x32_2).f1), .int .i64 ((rd_T40 l1 x32_2).f2), .int .i64 ((rd_T40 l1 x32_2).f3), .string (⟨#[]⟩ : ByteArray), .int .i64 0]) ?_ 4 _ rfl; (with_reducible repeat (first | refine blk_drewN ?_ _ | refine blk_drew ?_ | refine blk_alloc ?_ _)); refine blk_put (cs := #[.int .i64 ((rd_T40 l1 x32_2).f0), .int .i64 ((rd_T40 l1 x32_2).f1), .int .i64 ((rd_T40 l1 x32_2).f2), .int .i64 0, .string (⟨#[]⟩ : ByteArray), .int .i64 0]) ?_ 3 _ rfl; (with_reducible repeat (first | refine blk_drewN ?_ _ | refine blk_drew ?_ | refine blk_alloc ?_ _)); refine blk_put (cs := #[.int .i64 ((rd_T40 l1 x32_2).f0), .int .i64 ((rd_T40 l1 x32_2).f1), .int .i64 0, .int .i64 0, .string (⟨#[]⟩ : ByteArray), .int .i64 0]) ?_ 2 _ rfl; (with_reducible repeat (first | refine blk_drewN ?_ _ | refine blk_drew ?_ | refine blk_alloc ?_ _)); refine blk_put (cs := #[.int .i64 ((rd_T40 l1 x32_2).f0), .int .i64 0, .int .i64 0, .int .i64 0, .string (⟨#[]⟩ : ByteArray), .int .i64 0]) ?_ 1 _ rfl; (with_reducible repeat (first | refine blk_drewN ?_ _ | refine blk_drew ?_ | refine blk_alloc ?_ _)); refine blk_put (cs := #[.int .i64 0, .int .i64 0, .int .i64 0, .int .i64 0, .string (⟨#[]⟩ : ByteArray), .int .i64 0]) ?_ 0 _ rfl; (with_reducible repeat (first | refine blk_drewN ?_ _ | refine blk_drew ?_ | refine blk_alloc ?_ _)); exact BK221.out) hb); have n2_ := Aside0.mk (below_step bl_ hb); clear HO_6; clear BK221; clear HB; have HO_6 := n0_; have BK221 := n1_; have HB := n2_; clear n0_ n1_ n2_; (try clear hb); (try clear hb2); (try clear hk); (try clear hi); have p226 : 0 ≤ (t222 : Int) := od_; have q226 : t222 < (l0.length : Int) := od_; obtain ⟨ad226, e226, hx226_0, hx226_1, hx226_2, hx226_3, hx226_4, hx226_5⟩ := at_T40 HR0.out t222 p226 q226; cases e226; replace hx226_0 := (HB.out.cell (World.block_lt_of_cell? w _ hx226_0)).trans hx226_0; replace hx226_1 := (HB.out.cell (World.block_lt_of_cell? w _ hx226_1)).trans hx226_1; replace hx226_2 := (HB.out.cell (World.block_lt_of_cell? w _ hx226_2)).trans hx226_2; replace hx226_3 := (HB.out.cell (World.block_lt_of_cell? w _ hx226_3)).trans hx226_3; replace hx226_4 := (HB.out.cell (World.block_lt_of_cell? w _ hx226_4)).trans hx226_4; replace hx226_5 := (HB.out.cell (World.block_lt_of_cell? w _ hx226_5)).trans hx226_5; replace p226 := eq_true p226; replace q226 := eq_true q226; have hcz37_0 : w36.cell? ⟨gb221, 0, none⟩ = some (.int .i64 ((rd_T40 l1 x32_2).f0)) := (blk_cell BK221.out 0).trans rfl; have hcz37_1 : w36.cell? ⟨gb221, 1, none⟩ = some (.int .i64 ((rd_T40 l1 x32_2).f1)) := (blk_cell BK221.out 1).trans rfl; have hcz37_2 : w36.cell? ⟨gb221, 2, none⟩ = some (.int .i64 ((rd_T40 l1 x32_2).f2)) := (blk_cell BK221.out 2).trans rfl; have hcz37_3 : w36.cell? ⟨gb221, 3, none⟩ = some (.int .i64 ((rd_T40 l1 x32_2).f3)) := (blk_cell BK221.out 3).trans rfl; have hcz37_4 : w36.cell? ⟨gb221, 4, none⟩ = some (.string ((rd_T40 l1 x32_2).f4)) := (blk_cell BK221.out 4).trans rfl; have hcz37_5 : w36.cell? ⟨gb221, 5, none⟩ = some (.int .i64 ((rd_T40 l1 x32_2).f5)) := (blk_cell BK221.out 5).trans rfl; have hfz37_0 := blk_frozen BK221.out 0; have hfz37_1 := blk_frozen BK221.out 1; have hfz37_2 := blk_frozen BK221.out 2; have hfz37_3 := blk_frozen BK221.out 3; have hfz37_4 := blk_frozen BK221.out 4; have hfz37_5 := blk_frozen BK221.out 5))
     repeat (go_quiet (first | ((with_reducible refine gate_dst (N := 8) rfl ?_); refine box_event ?hg (N := 8) ?hd (cs := #[.int .i64 0, .int .i64 0, .int .i64 0, .int .i64 0, .string (⟨#[]⟩ : ByteArray), .int .i64 0]) (t := 40) ?hr ?_; (case hd => rfl); (case hg => rfl); (case hr => first | (go_simp; done) | (go_simp; rfl)); intro gb221 hg w34 hbox hb; have n0_ := Aside0.mk (Kd.R_below (Kd.R_elderB (by (with_reducible repeat (first | apply Kd.R_alloc | apply Kd.R_drewN | apply Kd.R_drew)); exact HO_6.out) gb221 (Nat.le_of_eq hg.symm)) hb); have n1_ := Aside0.mk (below_step bl_ hb); have n2_ := Aside0.mk (hbox); have n3_ := Aside0.mk ((by rw [hg]; exact (below_size bl_) : w.heap.size ≤ gb221)); have n4_ := Aside0.mk ((by rw [hg]; exact (below_size bl_) : w.heap.size ≤ gb221)); clear HO_6; clear HB; have HO_6 := n0_; have HB := n1_; have BK221 := n2_; have GW221 := n3_; have GE221 := n4_; clear n0_ n1_ n2_ n3_ n4_; clear hb hbox hg; have hcz35_0 : w34.cell? ⟨gb221, 0, none⟩ = some (.int .i64 0) := (blk_cell BK221.out 0).trans rfl; have hcz35_1 : w34.cell? ⟨gb221, 1, none⟩ = some (.int .i64 0) := (blk_cell BK221.out 1).trans rfl; have hcz35_2 : w34.cell? ⟨gb221, 2, none⟩ = some (.int .i64 0) := (blk_cell BK221.out 2).trans rfl; have hcz35_3 : w34.cell? ⟨gb221, 3, none⟩ = some (.int .i64 0) := (blk_cell BK221.out 3).trans rfl; have hcz35_4 : w34.cell? ⟨gb221, 4, none⟩ = some (.string (⟨#[]⟩ : ByteArray)) := (blk_cell BK221.out 4).trans rfl; have hcz35_5 : w34.cell? ⟨gb221, 5, none⟩ = some (.int .i64 0) := (blk_cell BK221.out 5).trans rfl; have hfz35_0 := blk_frozen BK221.out 0; have hfz35_1 := blk_frozen BK221.out 1; have hfz35_2 := blk_frozen BK221.out 2; have hfz35_3 := blk_frozen BK221.out 3; have hfz35_4 := blk_frozen BK221.out 4; have hfz35_5 := blk_frozen BK221.out 5) | (go_at_call 26; (with_reducible refine (impl_Event_26.calls _ _ l0 ((rd_T40 l1 x32_2).f0) ((rd_T40 l1 x32_2).f1) ((rd_T40 l1 x32_2).f2) ((rd_T40 l1 x32_2).f3) ((rd_T40 l1 x32_2).f4) ((rd_T40 l1 x32_2).f5) t222 gb221 _ ?side1 ?side2 ?side3 A19.out).mono ?_); (case side1 => exact Kd.C_below HR0.out bl_); (case side2 => exact HC0.out); (case side3 => ((with_reducible repeat (first | refine blk_drewN ?_ _ | refine blk_drew ?_ | refine blk_alloc ?_ _)); refine blk_put (cs := #[.int .i64 ((rd_T40 l1 x32_2).f0), .int .i64 ((rd_T40 l1 x32_2).f1), .int .i64 ((rd_T40 l1 x32_2).f2), .int .i64 ((rd_T40 l1 x32_2).f3), .string ((rd_T40 l1 x32_2).f4), .int .i64 0]) ?_ 5 _ rfl; (with_reducible repeat (first | refine blk_drewN ?_ _ | refine blk_drew ?_ | refine blk_alloc ?_ _)); refine blk_put (cs := #[.int .i64 ((rd_T40 l1 x32_2).f0), .int .i64 ((rd_T40 l1 x32_2).f1), .int .i64 ((rd_T40 l1 x32_2).f2), .int .i64 ((rd_T40 l1 x32_2).f3), .string (⟨#[]⟩ : ByteArray), .int .i64 0]) ?_ 4 _ rfl; (with_reducible repeat (first | refine blk_drewN ?_ _ | refine blk_drew ?_ | refine blk_alloc ?_ _)); refine blk_put (cs := #[.int .i64 ((rd_T40 l1 x32_2).f0), .int .i64 ((rd_T40 l1 x32_2).f1), .int .i64 ((rd_T40 l1 x32_2).f2), .int .i64 0, .string (⟨#[]⟩ : ByteArray), .int .i64 0]) ?_ 3 _ rfl; (with_reducible repeat (first | refine blk_drewN ?_ _ | refine blk_drew ?_ | refine blk_alloc ?_ _)); refine blk_put (cs := #[.int .i64 ((rd_T40 l1 x32_2).f0), .int .i64 ((rd_T40 l1 x32_2).f1), .int .i64 0, .int .i64 0, .string (⟨#[]⟩ : ByteArray), .int .i64 0]) ?_ 2 _ rfl; (with_reducible repeat (first | refine blk_drewN ?_ _ | refine blk_drew ?_ | refine blk_alloc ?_ _)); refine blk_put (cs := #[.int .i64 ((rd_T40 l1 x32_2).f0), .int .i64 0, .int .i64 0, .int .i64 0, .string (⟨#[]⟩ : ByteArray), .int .i64 0]) ?_ 1 _ rfl; (with_reducible repeat (first | refine blk_drewN ?_ _ | refine blk_drew ?_ | refine blk_alloc ?_ _)); refine blk_put (cs := #[.int .i64 0, .int .i64 0, .int .i64 0, .int .i64 0, .string (⟨#[]⟩ : ByteArray), .int .i64 0]) ?_ 0 _ rfl; (with_reducible repeat (first | refine blk_drewN ?_ _ | refine blk_drew ?_ | refine blk_alloc ?_ _)); exact BK221.out)); rintro e w36 ⟨rfl, hb⟩; have n0_ := Aside0.mk (Kd.R_below (by (with_reducible repeat (first | apply Kd.R_alloc | apply Kd.R_drewN | apply Kd.R_drew)); exact (Kd.R_mono (Kd.R_far (p := ⟨gb221, 5, none⟩) (Kd.R_far (p := ⟨gb221, 4, none⟩) (Kd.R_far (p := ⟨gb221, 3, none⟩) (Kd.R_far (p := ⟨gb221, 2, none⟩) (Kd.R_far (p := ⟨gb221, 1, none⟩) (Kd.R_far (p := ⟨gb221, 0, none⟩) (Kd.R_mono HO_6.out (fun k_ hk => (⟨hk, by first | exact hk.2 | exact hk⟩ : _ ∧ k_ ≠ gb221))) (fun _ hk => hk.2) (.int .i64 ((rd_T40 l1 x32_2).f0))) (fun _ hk => hk.2) (.int .i64 ((rd_T40 l1 x32_2).f1))) (fun _ hk => hk.2) (.int .i64 ((rd_T40 l1 x32_2).f2))) (fun _ hk => hk.2) (.int .i64 ((rd_T40 l1 x32_2).f3))) (fun _ hk => hk.2) (.string ((rd_T40 l1 x32_2).f4))) (fun _ hk => hk.2) (.int .i64 ((rd_T40 l1 x32_2).f5))) (fun _ h_ => h_.1))) hb); have n1_ := Aside0.mk (blk_below (g := gb221) (o := .cells #[.int .i64 ((rd_T40 l1 x32_2).f0), .int .i64 ((rd_T40 l1 x32_2).f1), .int .i64 ((rd_T40 l1 x32_2).f2), .int .i64 ((rd_T40 l1 x32_2).f3), .string ((rd_T40 l1 x32_2).f4), .int .i64 ((rd_T40 l1 x32_2).f5)] 40 (0, 0)) (by (with_reducible repeat (first | refine blk_drewN ?_ _ | refine blk_drew ?_ | refine blk_alloc ?_ _)); refine blk_put (cs := #[.int .i64 ((rd_T40 l1 x32_2).f0), .int .i64 ((rd_T40 l1 x32_2).f1), .int .i64 ((rd_T40 l1 x32_2).f2), .int .i64 ((rd_T40 l1 x32_2).f3), .string ((rd_T40 l1 x32_2).f4), .int .i64 0]) ?_ 5 _ rfl; (with_reducible repeat (first | refine blk_drewN ?_ _ | refine blk_drew ?_ | refine blk_alloc ?_ _)); refine blk_put (cs := #[.int .i64 ((rd_T40 l1 x32_2).f0), .int .i64 ((rd_T40 l1 x32_2).f1), .int .i64 ((rd_T40 l1 x32_2).f2), .int .i64 ((rd_T40 l1 x32_2).f3), .string (⟨#[]⟩ : ByteArray), .int .i64 0]) ?_ 4 _ rfl; (with_reducible repeat (first | refine blk_drewN ?_ _ | refine blk_drew ?_ | refine blk_alloc ?_ _)); refine blk_put (cs := #[.int .i64 ((rd_T40 l1 x32_2).f0), .int .i64 ((rd_T40 l1 x32_2).f1), .int .i64 ((rd_T40 l1 x32_2).f2), .int .i64 0, .string (⟨#[]⟩ : ByteArray), .int .i64 0]) ?_ 3 _ rfl; (with_reducible repeat (first | refine blk_drewN ?_ _ | refine blk_drew ?_ | refine blk_alloc ?_ _)); refine blk_put (cs := #[.int .i64 ((rd_T40 l1 x32_2).f0), .int .i64 ((rd_T40 l1 x32_2).f1), .int .i64 0, .int .i64 0, .string (⟨#[]⟩ : ByteArray), .int .i64 0]) ?_ 2 _ rfl; (with_reducible repeat (first | refine blk_drewN ?_ _ | refine blk_drew ?_ | refine blk_alloc ?_ _)); refine blk_put (cs := #[.int .i64 ((rd_T40 l1 x32_2).f0), .int .i64 0, .int .i64 0, .int .i64 0, .string (⟨#[]⟩ : ByteArray), .int .i64 0]) ?_ 1 _ rfl; (with_reducible repeat (first | refine blk_drewN ?_ _ | refine blk_drew ?_ | refine blk_alloc ?_ _)); refine blk_put (cs := #[.int .i64 0, .int .i64 0, .int .i64 0, .int .i64 0, .string (⟨#[]⟩ : ByteArray), .int .i64 0]) ?_ 0 _ rfl; (with_reducible repeat (first | refine blk_drewN ?_ _ | refine blk_drew ?_ | refine blk_alloc ?_ _)); exact BK221.out) hb); have n2_ := Aside0.mk (below_step bl_ hb); clear HO_6; clear BK221; clear HB; have HO_6 := n0_; have BK221 := n1_; have HB := n2_; clear n0_ n1_ n2_; (try clear hb); (try clear hb2); (try clear hk); (try clear hi); have p226 : 0 ≤ (t222 : Int) := od_; have q226 : t222 < (l0.length : Int) := od_; obtain ⟨ad226, e226, hx226_0, hx226_1, hx226_2, hx226_3, hx226_4, hx226_5⟩ := at_T40 HR0.out t222 p226 q226; cases e226; replace hx226_0 := (HB.out.cell (World.block_lt_of_cell? w _ hx226_0)).trans hx226_0; replace hx226_1 := (HB.out.cell (World.block_lt_of_cell? w _ hx226_1)).trans hx226_1; replace hx226_2 := (HB.out.cell (World.block_lt_of_cell? w _ hx226_2)).trans hx226_2; replace hx226_3 := (HB.out.cell (World.block_lt_of_cell? w _ hx226_3)).trans hx226_3; replace hx226_4 := (HB.out.cell (World.block_lt_of_cell? w _ hx226_4)).trans hx226_4; replace hx226_5 := (HB.out.cell (World.block_lt_of_cell? w _ hx226_5)).trans hx226_5; replace p226 := eq_true p226; replace q226 := eq_true q226; have hcz37_0 : w36.cell? ⟨gb221, 0, none⟩ = some (.int .i64 ((rd_T40 l1 x32_2).f0)) := (blk_cell BK221.out 0).trans rfl; have hcz37_1 : w36.cell? ⟨gb221, 1, none⟩ = some (.int .i64 ((rd_T40 l1 x32_2).f1)) := (blk_cell BK221.out 1).trans rfl; have hcz37_2 : w36.cell? ⟨gb221, 2, none⟩ = some (.int .i64 ((rd_T40 l1 x32_2).f2)) := (blk_cell BK221.out 2).trans rfl; have hcz37_3 : w36.cell? ⟨gb221, 3, none⟩ = some (.int .i64 ((rd_T40 l1 x32_2).f3)) := (blk_cell BK221.out 3).trans rfl; have hcz37_4 : w36.cell? ⟨gb221, 4, none⟩ = some (.string ((rd_T40 l1 x32_2).f4)) := (blk_cell BK221.out 4).trans rfl; have hcz37_5 : w36.cell? ⟨gb221, 5, none⟩ = some (.int .i64 ((rd_T40 l1 x32_2).f5)) := (blk_cell BK221.out 5).trans rfl; have hfz37_0 := blk_frozen BK221.out 0; have hfz37_1 := blk_frozen BK221.out 1; have hfz37_2 := blk_frozen BK221.out 2; have hfz37_3 := blk_frozen BK221.out 3; have hfz37_4 := blk_frozen BK221.out 4; have hfz37_5 := blk_frozen BK221.out 5)); try go_wp2_with (first | ((with_reducible refine gate_dst (N := 8) rfl ?_); refine box_event ?hg (N := 8) ?hd (cs := #[.int .i64 0, .int .i64 0, .int .i64 0, .int .i64 0, .string (⟨#[]⟩ : ByteArray), .int .i64 0]) (t := 40) ?hr ?_; (case hd => rfl); (case hg => rfl); (case hr => first | (go_simp; done) | (go_simp; rfl)); intro gb221 hg w34 hbox hb; have n0_ := Aside0.mk (Kd.R_below (Kd.R_elderB (by (with_reducible repeat (first | apply Kd.R_alloc | apply Kd.R_drewN | apply Kd.R_drew)); exact HO_6.out) gb221 (Nat.le_of_eq hg.symm)) hb); have n1_ := Aside0.mk (below_step bl_ hb); have n2_ := Aside0.mk (hbox); have n3_ := Aside0.mk ((by rw [hg]; exact (below_size bl_) : w.heap.size ≤ gb221)); have n4_ := Aside0.mk ((by rw [hg]; exact (below_size bl_) : w.heap.size ≤ gb221)); clear HO_6; clear HB; have HO_6 := n0_; have HB := n1_; have BK221 := n2_; have GW221 := n3_; have GE221 := n4_; clear n0_ n1_ n2_ n3_ n4_; clear hb hbox hg; have hcz35_0 : w34.cell? ⟨gb221, 0, none⟩ = some (.int .i64 0) := (blk_cell BK221.out 0).trans rfl; have hcz35_1 : w34.cell? ⟨gb221, 1, none⟩ = some (.int .i64 0) := (blk_cell BK221.out 1).trans rfl; have hcz35_2 : w34.cell? ⟨gb221, 2, none⟩ = some (.int .i64 0) := (blk_cell BK221.out 2).trans rfl; have hcz35_3 : w34.cell? ⟨gb221, 3, none⟩ = some (.int .i64 0) := (blk_cell BK221.out 3).trans rfl; have hcz35_4 : w34.cell? ⟨gb221, 4, none⟩ = some (.string (⟨#[]⟩ : ByteArray)) := (blk_cell BK221.out 4).trans rfl; have hcz35_5 : w34.cell? ⟨gb221, 5, none⟩ = some (.int .i64 0) := (blk_cell BK221.out 5).trans rfl; have hfz35_0 := blk_frozen BK221.out 0; have hfz35_1 := blk_frozen BK221.out 1; have hfz35_2 := blk_frozen BK221.out 2; have hfz35_3 := blk_frozen BK221.out 3; have hfz35_4 := blk_frozen BK221.out 4; have hfz35_5 := blk_frozen BK221.out 5) | (go_at_call 26; (with_reducible refine (impl_Event_26.calls _ _ l0 ((rd_T40 l1 x32_2).f0) ((rd_T40 l1 x32_2).f1) ((rd_T40 l1 x32_2).f2) ((rd_T40 l1 x32_2).f3) ((rd_T40 l1 x32_2).f4) ((rd_T40 l1 x32_2).f5) t222 gb221 _ ?side1 ?side2 ?side3 A19.out).mono ?_); (case side1 => exact Kd.C_below HR0.out bl_); (case side2 => exact HC0.out); (case side3 => ((with_reducible repeat (first | refine blk_drewN ?_ _ | refine blk_drew ?_ | refine blk_alloc ?_ _)); refine blk_put (cs := #[.int .i64 ((rd_T40 l1 x32_2).f0), .int .i64 ((rd_T40 l1 x32_2).f1), .int .i64 ((rd_T40 l1 x32_2).f2), .int .i64 ((rd_T40 l1 x32_2).f3), .string ((rd_T40 l1 x32_2).f4), .int .i64 0]) ?_ 5 _ rfl; (with_reducible repeat (first | refine blk_drewN ?_ _ | refine blk_drew ?_ | refine blk_alloc ?_ _)); refine blk_put (cs := #[.int .i64 ((rd_T40 l1 x32_2).f0), .int .i64 ((rd_T40 l1 x32_2).f1), .int .i64 ((rd_T40 l1 x32_2).f2), .int .i64 ((rd_T40 l1 x32_2).f3), .string (⟨#[]⟩ : ByteArray), .int .i64 0]) ?_ 4 _ rfl; (with_reducible repeat (first | refine blk_drewN ?_ _ | refine blk_drew ?_ | refine blk_alloc ?_ _)); refine blk_put (cs := #[.int .i64 ((rd_T40 l1 x32_2).f0), .int .i64 ((rd_T40 l1 x32_2).f1), .int .i64 ((rd_T40 l1 x32_2).f2), .int .i64 0, .string (⟨#[]⟩ : ByteArray), .int .i64 0]) ?_ 3 _ rfl; (with_reducible repeat (first | refine blk_drewN ?_ _ | refine blk_drew ?_ | refine blk_alloc ?_ _)); refine blk_put (cs := #[.int .i64 ((rd_T40 l1 x32_2).f0), .int .i64 ((rd_T40 l1 x32_2).f1), .int .i64 0, .int .i64 0, .string (⟨#[]⟩ : ByteArray), .int .i64 0]) ?_ 2 _ rfl; (with_reducible repeat (first | refine blk_drewN ?_ _ | refine blk_drew ?_ | refine blk_alloc ?_ _)); refine blk_put (cs := #[.int .i64 ((rd_T40 l1 x32_2).f0), .int .i64 0, .int .i64 0, .int .i64 0, .string (⟨#[]⟩ : ByteArray), .int .i64 0]) ?_ 1 _ rfl; (with_reducible repeat (first | refine blk_drewN ?_ _ | refine blk_drew ?_ | refine blk_alloc ?_ _)); refine blk_put (cs := #[.int .i64 0, .int .i64 0, .int .i64 0, .int .i64 0, .string (⟨#[]⟩ : ByteArray), .int .i64 0]) ?_ 0 _ rfl; (with_reducible repeat (first | refine blk_drewN ?_ _ | refine blk_drew ?_ | refine blk_alloc ?_ _)); exact BK221.out)); rintro e w36 ⟨rfl, hb⟩; have n0_ := Aside0.mk (Kd.R_below (by (with_reducible repeat (first | apply Kd.R_alloc | apply Kd.R_drewN | apply Kd.R_drew)); exact (Kd.R_mono (Kd.R_far (p := ⟨gb221, 5, none⟩) (Kd.R_far (p := ⟨gb221, 4, none⟩) (Kd.R_far (p := ⟨gb221, 3, none⟩) (Kd.R_far (p := ⟨gb221, 2, none⟩) (Kd.R_far (p := ⟨gb221, 1, none⟩) (Kd.R_far (p := ⟨gb221, 0, none⟩) (Kd.R_mono HO_6.out (fun k_ hk => (⟨hk, by first | exact hk.2 | exact hk⟩ : _ ∧ k_ ≠ gb221))) (fun _ hk => hk.2) (.int .i64 ((rd_T40 l1 x32_2).f0))) (fun _ hk => hk.2) (.int .i64 ((rd_T40 l1 x32_2).f1))) (fun _ hk => hk.2) (.int .i64 ((rd_T40 l1 x32_2).f2))) (fun _ hk => hk.2) (.int .i64 ((rd_T40 l1 x32_2).f3))) (fun _ hk => hk.2) (.string ((rd_T40 l1 x32_2).f4))) (fun _ hk => hk.2) (.int .i64 ((rd_T40 l1 x32_2).f5))) (fun _ h_ => h_.1))) hb); have n1_ := Aside0.mk (blk_below (g := gb221) (o := .cells #[.int .i64 ((rd_T40 l1 x32_2).f0), .int .i64 ((rd_T40 l1 x32_2).f1), .int .i64 ((rd_T40 l1 x32_2).f2), .int .i64 ((rd_T40 l1 x32_2).f3), .string ((rd_T40 l1 x32_2).f4), .int .i64 ((rd_T40 l1 x32_2).f5)] 40 (0, 0)) (by (with_reducible repeat (first | refine blk_drewN ?_ _ | refine blk_drew ?_ | refine blk_alloc ?_ _)); refine blk_put (cs := #[.int .i64 ((rd_T40 l1 x32_2).f0), .int .i64 ((rd_T40 l1 x32_2).f1), .int .i64 ((rd_T40 l1 x32_2).f2), .int .i64 ((rd_T40 l1 x32_2).f3), .string ((rd_T40 l1 x32_2).f4), .int .i64 0]) ?_ 5 _ rfl; (with_reducible repeat (first | refine blk_drewN ?_ _ | refine blk_drew ?_ | refine blk_alloc ?_ _)); refine blk_put (cs := #[.int .i64 ((rd_T40 l1 x32_2).f0), .int .i64 ((rd_T40 l1 x32_2).f1), .int .i64 ((rd_T40 l1 x32_2).f2), .int .i64 ((rd_T40 l1 x32_2).f3), .string (⟨#[]⟩ : ByteArray), .int .i64 0]) ?_ 4 _ rfl; (with_reducible repeat (first | refine blk_drewN ?_ _ | refine blk_drew ?_ | refine blk_alloc ?_ _)); refine blk_put (cs := #[.int .i64 ((rd_T40 l1 x32_2).f0), .int .i64 ((rd_T40 l1 x32_2).f1), .int .i64 ((rd_T40 l1 x32_2).f2), .int .i64 0, .string (⟨#[]⟩ : ByteArray), .int .i64 0]) ?_ 3 _ rfl; (with_reducible repeat (first | refine blk_drewN ?_ _ | refine blk_drew ?_ | refine blk_alloc ?_ _)); refine blk_put (cs := #[.int .i64 ((rd_T40 l1 x32_2).f0), .int .i64 ((rd_T40 l1 x32_2).f1), .int .i64 0, .int .i64 0, .string (⟨#[]⟩ : ByteArray), .int .i64 0]) ?_ 2 _ rfl; (with_reducible repeat (first | refine blk_drewN ?_ _ | refine blk_drew ?_ | refine blk_alloc ?_ _)); refine blk_put (cs := #[.int .i64 ((rd_T40 l1 x32_2).f0), .int .i64 0, .int .i64 0, .int .i64 0, .string (⟨#[]⟩ : ByteArray), .int .i64 0]) ?_ 1 _ rfl; (with_reducible repeat (first | refine blk_drewN ?_ _ | refine blk_drew ?_ | refine blk_alloc ?_ _)); refine blk_put (cs := #[.int .i64 0, .int .i64 0, .int .i64 0, .int .i64 0, .string (⟨#[]⟩ : ByteArray), .int .i64 0]) ?_ 0 _ rfl; (with_reducible repeat (first | refine blk_drewN ?_ _ | refine blk_drew ?_ | refine blk_alloc ?_ _)); exact BK221.out) hb); have n2_ := Aside0.mk (below_step bl_ hb); clear HO_6; clear BK221; clear HB; have HO_6 := n0_; have BK221 := n1_; have HB := n2_; clear n0_ n1_ n2_; (try clear hb); (try clear hb2); (try clear hk); (try clear hi); have p226 : 0 ≤ (t222 : Int) := od_; have q226 : t222 < (l0.length : Int) := od_; obtain ⟨ad226, e226, hx226_0, hx226_1, hx226_2, hx226_3, hx226_4, hx226_5⟩ := at_T40 HR0.out t222 p226 q226; cases e226; replace hx226_0 := (HB.out.cell (World.block_lt_of_cell? w _ hx226_0)).trans hx226_0; replace hx226_1 := (HB.out.cell (World.block_lt_of_cell? w _ hx226_1)).trans hx226_1; replace hx226_2 := (HB.out.cell (World.block_lt_of_cell? w _ hx226_2)).trans hx226_2; replace hx226_3 := (HB.out.cell (World.block_lt_of_cell? w _ hx226_3)).trans hx226_3; replace hx226_4 := (HB.out.cell (World.block_lt_of_cell? w _ hx226_4)).trans hx226_4; replace hx226_5 := (HB.out.cell (World.block_lt_of_cell? w _ hx226_5)).trans hx226_5; replace p226 := eq_true p226; replace q226 := eq_true q226; have hcz37_0 : w36.cell? ⟨gb221, 0, none⟩ = some (.int .i64 ((rd_T40 l1 x32_2).f0)) := (blk_cell BK221.out 0).trans rfl; have hcz37_1 : w36.cell? ⟨gb221, 1, none⟩ = some (.int .i64 ((rd_T40 l1 x32_2).f1)) := (blk_cell BK221.out 1).trans rfl; have hcz37_2 : w36.cell? ⟨gb221, 2, none⟩ = some (.int .i64 ((rd_T40 l1 x32_2).f2)) := (blk_cell BK221.out 2).trans rfl; have hcz37_3 : w36.cell? ⟨gb221, 3, none⟩ = some (.int .i64 ((rd_T40 l1 x32_2).f3)) := (blk_cell BK221.out 3).trans rfl; have hcz37_4 : w36.cell? ⟨gb221, 4, none⟩ = some (.string ((rd_T40 l1 x32_2).f4)) := (blk_cell BK221.out 4).trans rfl; have hcz37_5 : w36.cell? ⟨gb221, 5, none⟩ = some (.int .i64 ((rd_T40 l1 x32_2).f5)) := (blk_cell BK221.out 5).trans rfl; have hfz37_0 := blk_frozen BK221.out 0; have hfz37_1 := blk_frozen BK221.out 1; have hfz37_2 := blk_frozen BK221.out 2; have hfz37_3 := blk_frozen BK221.out 3; have hfz37_4 := blk_frozen BK221.out 4; have hfz37_5 := blk_frozen BK221.out 5)))
     go_roundg k2
     case measure => have := HJ2.out; have := HK2.out; omega
     case rel => exact ⟨(x6_2), (wrap64 (x32_2 + 1)), (by first | rfl | (simp; done) | (simp [*]; done)), H', ⟨by have := HJ2.out; have := HK2.out; omega⟩, ⟨by (with_reducible repeat (first | apply Kd.R_alloc | apply Kd.R_drewN | apply Kd.R_drew)); exact Kd.R_mono HO_6.out (fun _ hk => trivial)⟩, ⟨by repeat (first | (with_reducible first | exact HB.out | apply below_alloc | apply pw_below_drewN | apply below_drew1 | refine below_set ?_ GE221.out) | exact HB.out)⟩⟩
end Go.Proofs.Ytnpfeigdghecfaa.XFnExactMergeEvents
