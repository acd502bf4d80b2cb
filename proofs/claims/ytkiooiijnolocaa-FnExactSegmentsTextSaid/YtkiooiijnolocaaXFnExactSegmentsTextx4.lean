-- PRINTED by xprint.py (our own program, over the kit's print.py)
import Derived.Test.YtkiooiijnolocaaXFnExactSegmentsTextx0
import Derived.Test.YtkiooiijnolocaaXFnExactSegmentsTextx3
import Derived.Test.YtkiooiijnolocaaPu
namespace Go.Proofs.Ytkiooiijnolocaa.XFnExactSegmentsText
open Go.RowKit Go.Proofs.YtkiooiijnolocaaW.PrintWords Go.Proofs.YtkiooiijnolocaaW.PrintLast Go.Proofs.YtkiooiijnolocaaW.PrintMore Go.Proofs.YtkiooiijnolocaaW.Idx
attribute [local go_sem] max2_int min2_int max_two min_two max_three min_three max_four min_four   -- for this text's walks alone
set_option linter.unusedVariables false
set_option linter.unusedSimpArgs false

/-! ### slices_IndexFunc_string_string: function 85 -/
def slices_IndexFunc_string_string.l0 : Nat → List ByteArray → Int → Int → Option (Int)
 | 0, _, _, _ => none
 | k + 1, x0, x7, x8 => if x8 < x7 then (if 0 ≤ x8 then (if x8 < (x0.length : Int) then ((impl_isSegment_1.f (rdOf ByteArray.empty x0 x8)).bind fun t168 => (if t168 = true then (some x8) else (slices_IndexFunc_string_string.l0 k x0 x7 (wrap64 (x8 + 1))))) else (none)) else (none)) else (some (-1))
def slices_IndexFunc_string_string.f (k : Nat) (l0 : List ByteArray)  : Option (Int) := slices_IndexFunc_string_string.l0 k l0 (l0.length : Int) 0
theorem slices_IndexFunc_string_string.mono_l : ∀ k, (∀ y0 y1 y2, LeO (slices_IndexFunc_string_string.l0 k y0 y1 y2) (slices_IndexFunc_string_string.l0 (k + 1) y0 y1 y2))
 | 0 => fun _ _ _ r h => by simp [slices_IndexFunc_string_string.l0] at h
 | k + 1 => by
  have ih0 := slices_IndexFunc_string_string.mono_l k
  ·intro y0 y1 y2
   unfold slices_IndexFunc_string_string.l0
   repeat' first
   | (with_reducible exact ih0 _ _ _)
   | (with_reducible exact LeO.refl _)
   | (with_reducible exact LeO.none _)
   | (with_reducible refine LeO.ite ?_ ?_)
   | (with_reducible refine LeO.bind ?_ (fun _ => ?_))
   | exact ih0 _ _ _
   | exact LeO.none _
   | refine LeO.ite ?_ ?_
   | refine LeO.bind ?_ (fun _ => ?_)
theorem slices_IndexFunc_string_string.mono : ∀ a0 k, LeO (slices_IndexFunc_string_string.f k a0) (slices_IndexFunc_string_string.f (k + 1) a0) := by
 intro a0 k
 have ih0 := slices_IndexFunc_string_string.mono_l k
 unfold slices_IndexFunc_string_string.f
 repeat' first
   | (with_reducible exact ih0 _ _ _)
   | (with_reducible exact LeO.refl _)
   | (with_reducible exact LeO.none _)
   | (with_reducible refine LeO.ite ?_ ?_)
   | (with_reducible refine LeO.bind ?_ (fun _ => ?_))
   | exact ih0 _ _ _
   | exact LeO.none _
   | refine LeO.ite ?_ ?_
   | refine LeO.bind ?_ (fun _ => ?_)
set_option maxHeartbeats 8000000 in
set_option maxRecDepth 100000 in
theorem slices_IndexFunc_string_string.calls (k : Nat) (A0 : Option Addr) (c0 : Nat) (l0 : List ByteArray)  (r : Int) (w : World) (hr0 : Kd.C Kd.string w A0 l0.length l0) (hc0 : l0.length ≤ c0) (h : slices_IndexFunc_string_string.f k l0 = some r) :
  Calls Try.prog 85 #[.slice A0 l0.length c0, .func (.func 74) #[] #[]] w fun e w' => e = .returned (.int .i64 r) ∧ Drawn0 w w' := by
 have HR0 := Aside0.mk hr0
 have HC0 := Aside0.mk hc0
 clear hr0 hc0
 have H : (slices_IndexFunc_string_string.l0 k l0 (l0.length : Int) 0) = some r := h
 clear h
 have H' := Aside0.mk H
 clear H
 go_enter Try.func85, Try.ntmps85
 go_wp2
 go_loopg [8] k (fun kq v8 w' => ∃ (x8_1 : Int), v8 = .int .i64 x8_1 ∧ Aside0 (slices_IndexFunc_string_string.l0 kq l0 (l0.length : Int) x8_1 = some r) ∧ Aside0 (kq ≤ k) ∧ Drawn0 w w')
 case atStart => exact ⟨(0), (by first | rfl | (simp; done) | (simp [*]; done)), H', ⟨Nat.le_refl _⟩, by repeat (first | exact Drawn0.refl _ | apply Drawn0.step)⟩
 case round =>
  clear H'
  try clear p2
  obtain ⟨x8_1, rfl, HA, HK1, ⟨m1, rfl⟩⟩ := hrel
  cases gk with
  | zero => exact absurd HA.out (by simp [slices_IndexFunc_string_string.l0])
  | succ k1 =>
   have H := HA.out
   clear HA
   simp only [slices_IndexFunc_string_string.l0] at H
   by_cases c3 : x8_1 < (l0.length : Int)
   rotate_left
   ·rw [if_neg c3] at H
    have c3b0 : decide (x8_1 < (l0.length : Int)) = false := decide_eq_false c3
    clear c3
    obtain rfl := Option.some.inj H
    go_wp2
    go_ret
    exact ⟨by first | rfl | (simp; done) | (simp [*]; done), by repeat (first | exact Drawn0.refl _ | apply Drawn0.step)⟩

   rw [if_pos c3] at H
   have c3b0 : decide (x8_1 < (l0.length : Int)) = true := decide_eq_true c3
   clear c3
   by_cases c4 : 0 ≤ x8_1
   rotate_left
   ·rw [if_neg c4] at H
    exact absurd H (by simp)
   rw [if_pos c4] at H
   have c4b0 : decide (0 ≤ x8_1) = true := decide_eq_true c4
   clear c4
   by_cases c5 : x8_1 < (l0.length : Int)
   rotate_left
   ·rw [if_neg c5] at H
    exact absurd H (by simp)
   rw [if_pos c5] at H
   have c5b0 : decide (x8_1 < (l0.length : Int)) = true := decide_eq_true c5
   clear c5
   replace H := Option.bind_eq_some_iff.mp H
   obtain ⟨t168, A60, H⟩ := H
   replace H : (if t168 = true then (some x8_1) else (slices_IndexFunc_string_string.l0 k1 l0 (l0.length : Int) (wrap64 (x8_1 + 1)))) = some r := H
   have A6 := Aside0.mk A60
   clear A60
   by_cases c7 : t168 = true
   ·subst c7
    have H1 : (some x8_1) = some r := by rw [if_pos rfl] at H; exact H
    clear H
    have H := H1
    clear H1
    obtain rfl := Option.some.inj H
    have p167 : 0 ≤ (x8_1 : Int) := od_
    have q167 : x8_1 < (l0.length : Int) := od_
    obtain ⟨ad167, e167, hx167_0⟩ := Kd.at_string HR0.out x8_1 p167 q167
    cases e167
    replace p167 := eq_true p167
    replace q167 := eq_true q167
    go_wp2_with (first | (go_at_call 74; (with_reducible refine (impl_isSegment_1.calls (rdOf ByteArray.empty l0 x8_1) true _ A6.out).mono ?_); rintro e w' ⟨rfl, ⟨nd, rfl⟩⟩))
    go_ret
    exact ⟨by first | rfl | (simp; done) | (simp [*]; done), by repeat (first | exact Drawn0.refl _ | apply Drawn0.step)⟩
   replace c7 := Bool.eq_false_iff.mpr c7
   subst c7
   have H1 : (slices_IndexFunc_string_string.l0 k1 l0 (l0.length : Int) (wrap64 (x8_1 + 1))) = some r := by rw [if_neg (show ¬ (false = true) by decide)] at H; exact H
   clear H
   have H := H1
   clear H1
   have H' := Aside0.mk H
   clear H
   have p167 : 0 ≤ (x8_1 : Int) := od_
   have q167 : x8_1 < (l0.length : Int) := od_
   obtain ⟨ad167, e167, hx167_0⟩ := Kd.at_string HR0.out x8_1 p167 q167
   cases e167
   replace p167 := eq_true p167
   replace q167 := eq_true q167
   go_wp2_with (first | (go_at_call 74; (with_reducible refine (impl_isSegment_1.calls (rdOf ByteArray.empty l0 x8_1) false _ A6.out).mono ?_); rintro e w' ⟨rfl, ⟨nd, rfl⟩⟩))
   go_roundg k1
   case measure => have := HK1.out; omega
   case rel => exact ⟨(wrap64 (x8_1 + 1)), (by first | rfl | (simp; done) | (simp [*]; done)), H', ⟨by have := HK1.out; omega⟩, by repeat (first | exact Drawn0.refl _ | apply Drawn0.step)⟩
/-! ### slices_ContainsFunc_string_string: function 63 -/
def slices_ContainsFunc_string_string.f (k : Nat) (l0 : List ByteArray)  : Option (Bool) := (slices_IndexFunc_string_string.f k l0).bind fun t169 => (some (decide (t169 ≥ 0)))
theorem slices_ContainsFunc_string_string.mono : ∀ a0 k, LeO (slices_ContainsFunc_string_string.f k a0) (slices_ContainsFunc_string_string.f (k + 1) a0) := by
 intro a0 k
 unfold slices_ContainsFunc_string_string.f
 repeat' first
   | (with_reducible exact slices_IndexFunc_string_string.mono _ _)
   | (with_reducible exact LeO.refl _)
   | (with_reducible exact LeO.none _)
   | (with_reducible refine LeO.ite ?_ ?_)
   | (with_reducible refine LeO.bind ?_ (fun _ => ?_))
   | exact slices_IndexFunc_string_string.mono _ _
   | exact LeO.none _
   | refine LeO.ite ?_ ?_
   | refine LeO.bind ?_ (fun _ => ?_)
set_option maxHeartbeats 8000000 in
set_option maxRecDepth 100000 in
theorem slices_ContainsFunc_string_string.calls (k : Nat) (A0 : Option Addr) (c0 : Nat) (l0 : List ByteArray)  (r : Bool) (w : World) (hr0 : Kd.C Kd.string w A0 l0.length l0) (hc0 : l0.length ≤ c0) (h : slices_ContainsFunc_string_string.f k l0 = some r) :
  Calls Try.prog 63 #[.slice A0 l0.length c0, .func (.func 74) #[] #[]] w fun e w' => e = .returned (.bool r) ∧ Drawn0 w w' := by
 have HR0 := Aside0.mk hr0
 have HC0 := Aside0.mk hc0
 clear hr0 hc0
 have H : ((slices_IndexFunc_string_string.f k l0).bind fun t169 => (some (decide (t169 ≥ 0)))) = some r := h
 clear h
 replace H := Option.bind_eq_some_iff.mp H
 obtain ⟨t169, A30, H⟩ := H
 replace H : (some (decide (t169 ≥ 0))) = some r := H
 have A3 := Aside0.mk A30
 clear A30
 obtain rfl := Option.some.inj H
 go_enter Try.func63, Try.ntmps63
 go_wp2_with (first | ((with_reducible refine gate_callee (f := 85) rfl ?_); refine goesL_ (some 7) rfl rfl Try.func85 (by kernel_rfl) rfl #[.slice A0 l0.length c0, .func (.func 74) #[] #[]] rfl (by (try simp only [List.map_toArray, List.map_cons, List.map_nil]); first | done | rfl | (simp only [List.length_drop, List.length_take]; rfl)) ?_; (with_reducible refine (slices_IndexFunc_string_string.calls k _ _ l0  t169 _ ?side1 ?side2 A3.out).mono ?_); (case side1 => repeat (first | exact HR0.out | (with_reducible refine Kd.C_alloc ?_ _) | (with_reducible refine Kd.C_drewN ?_ _) | (with_reducible refine Kd.C_drew ?_))); (case side2 => exact HC0.out); rintro e w' ⟨rfl, ⟨nd, rfl⟩⟩; refine ⟨_, rfl, ?_⟩))
 go_ret
 exact ⟨by first | rfl | (simp; done) | (simp [*]; done), by repeat (first | exact Drawn0.refl _ | apply Drawn0.step)⟩

/-! ### impl_isTagByte: function 73 -/
def impl_isTagByte.f (a0 : Int) : Option (Bool) := if a0 ≥ 65 then (some (decide (a0 ≤ 90))) else (some false)
set_option maxHeartbeats 8000000 in
set_option maxRecDepth 100000 in
theorem impl_isTagByte.calls (a0 : Int) (r : Bool) (w : World) (h : impl_isTagByte.f a0 = some r) :
  Calls Try.prog 73 #[.int .u8 a0] w fun e w' => e = .returned (.bool r) ∧ Drawn0 w w' := by
 have H : (if a0 ≥ 65 then (some (decide (a0 ≤ 90))) else (some false)) = some r := h
 clear h
 by_cases c2 : a0 ≥ 65
 ·rw [if_pos c2] at H
  have c2b0 : decide (65 ≤ a0) = true := decide_eq_true c2
  clear c2
  obtain rfl := Option.some.inj H
  go_enter Try.func73, Try.ntmps73
  go_wp2
  go_ret
  exact ⟨by first | rfl | (simp; done) | (simp [*]; done), by repeat (first | exact Drawn0.refl _ | apply Drawn0.step)⟩
 rw [if_neg c2] at H
 have c2b0 : decide (65 ≤ a0) = false := decide_eq_false c2
 clear c2
 obtain rfl := Option.some.inj H
 go_enter Try.func73, Try.ntmps73
 go_wp2
 go_ret
 exact ⟨by first | rfl | (simp; done) | (simp [*]; done), by repeat (first | exact Drawn0.refl _ | apply Drawn0.step)⟩

/-! ### impl_isSegment: function 45 -/
def impl_isSegment.f (k : Nat) (a0_0 : ByteArray) (l0_1 : List ByteArray) : Option (Bool) := if (a0_0.size : Int) = 3 then (if 0 < (a0_0.size : Int) then ((impl_isTagByte.f (bt a0_0 0)).bind fun t171 => (if t171 = true then (if 1 < (a0_0.size : Int) then ((impl_isTagByte.f (bt a0_0 1)).bind fun t172 => (if t172 = true then (if 2 < (a0_0.size : Int) then ((impl_isTagByte.f (bt a0_0 2)).bind fun t173 => (if t173 = true then (if (l0_1.length : Int) ≤ 20 then ((slices_ContainsFunc_string_string.f k l0_1).bind fun t174 => (some (!t174))) else (some false)) else (some false))) else (none)) else (some false))) else (none)) else (some false))) else (none)) else (some false)
theorem impl_isSegment.mono : ∀ a0 a1 k, LeO (impl_isSegment.f k a0 a1) (impl_isSegment.f (k + 1) a0 a1) := by
 intro a0 a1 k
 unfold impl_isSegment.f
 repeat' first
   | (with_reducible exact slices_ContainsFunc_string_string.mono _ _)
   | (with_reducible exact LeO.refl _)
   | (with_reducible exact LeO.none _)
   | (with_reducible refine LeO.ite ?_ ?_)
   | (with_reducible refine LeO.bind ?_ (fun _ => ?_))
   | exact slices_ContainsFunc_string_string.mono _ _
   | exact LeO.none _
   | refine LeO.ite ?_ ?_
   | refine LeO.bind ?_ (fun _ => ?_)
set_option maxHeartbeats 8000000 in
set_option maxRecDepth 100000 in
theorem impl_isSegment.calls (k : Nat) (a0_0 : ByteArray) (A0_1 : Option Addr) (c0_1 : Nat) (l0_1 : List ByteArray) (r : Bool) (w : World) (hr0_1 : Kd.C Kd.string w A0_1 l0_1.length l0_1) (hc0_1 : l0_1.length ≤ c0_1) (h : impl_isSegment.f k a0_0 l0_1 = some r) :
  Calls Try.prog 45 #[.agg #[.string a0_0, .slice A0_1 l0_1.length c0_1]] w fun e w' => e = .returned (.bool r) ∧ Below w.heap.size w w' := by
 have hu68 := Try.underlying68
 have HR0_1 := Aside0.mk hr0_1
 have HC0_1 := Aside0.mk hc0_1
 clear hr0_1 hc0_1
 have HB := Aside0.mk (Below.refl w.heap.size w)
 have H : (if (a0_0.size : Int) = 3 then (if 0 < (a0_0.size : Int) then ((impl_isTagByte.f (bt a0_0 0)).bind fun t171 => (if t171 = true then (if 1 < (a0_0.size : Int) then ((impl_isTagByte.f (bt a0_0 1)).bind fun t172 => (if t172 = true then (if 2 < (a0_0.size : Int) then ((impl_isTagByte.f (bt a0_0 2)).bind fun t173 => (if t173 = true then (if (l0_1.length : Int) ≤ 20 then ((slices_ContainsFunc_string_string.f k l0_1).bind fun t174 => (some (!t174))) else (some false)) else (some false))) else (none)) else (some false))) else (none)) else (some false))) else (none)) else (some false)) = some r := h
 clear h
 by_cases c2 : (a0_0.size : Int) = 3
 rotate_left
 ·rw [if_neg c2] at H
  have c2b0 : ((a0_0.size : Int) == 3) = false := beq_eq_false_iff_ne.mpr c2
  have c2b1 : ((a0_0.size : Int) != 3) = true := bne_iff_ne.mpr c2
  obtain rfl := Option.some.inj H
  go_enter Try.func45, Try.ntmps45
  go_wp2_with (first | ((with_reducible refine gate_dst (N := 1) rfl ?_); refine box_event ?hg (N := 1) ?hd (cs := #[.string a0_0, .slice A0_1 l0_1.length c0_1]) (t := 68) ?hr ?_; (case hd => rfl); (case hg => rfl); (case hr => first | (go_simp; done) | (go_simp; rfl)); intro gb170 hg w27 hbox hb; have n0_ := Aside0.mk (below_step bl_ hb); have n1_ := Aside0.mk (hbox); have n2_ := Aside0.mk ((by rw [hg]; exact (below_size bl_) : w.heap.size ≤ gb170)); have n3_ := Aside0.mk ((by rw [hg]; exact (below_size bl_) : w.heap.size ≤ gb170)); clear HB; have HB := n0_; have BK170 := n1_; have GW170 := n2_; have GE170 := n3_; clear n0_ n1_ n2_ n3_; clear hb hbox hg; have hcz28_0 : w27.cell? ⟨gb170, 0, none⟩ = some (.string a0_0) := (blk_cell BK170.out 0).trans rfl; have hcz28_1 : w27.cell? ⟨gb170, 1, none⟩ = some (.slice A0_1 l0_1.length c0_1) := (blk_cell BK170.out 1).trans rfl; have hfz28_0 := blk_frozen BK170.out 0; have hfz28_1 := blk_frozen BK170.out 1))
  go_ret
  exact ⟨by first | rfl | (simp [errW_none, errW_some] <;> rfl) | (simp [*, errW_none, errW_some] <;> rfl), by repeat (first | (with_reducible first | exact HB.out | apply below_alloc | apply pw_below_drewN | apply below_drew1 | refine below_set ?_ GE170.out) | exact HB.out)⟩

 rw [if_pos c2] at H
 have c2b0 : ((a0_0.size : Int) == 3) = true := beq_iff_eq.mpr c2
 have c2b1 : ((a0_0.size : Int) != 3) = false := bne_eq_false_iff_eq.mpr c2
 clear c2
 by_cases c3 : 0 < (a0_0.size : Int)
 rotate_left
 ·rw [if_neg c3] at H
  exact absurd H (by simp)
 rw [if_pos c3] at H
 have c3b0 : decide (0 < (a0_0.size : Int)) = true := decide_eq_true c3
 have c3b1 : decide (0 < a0_0.size) = true := decide_eq_true (by omega)
 clear c3
 replace H := Option.bind_eq_some_iff.mp H
 obtain ⟨t171, A50, H⟩ := H
 replace H : (if t171 = true then (if 1 < (a0_0.size : Int) then ((impl_isTagByte.f (bt a0_0 1)).bind fun t172 => (if t172 = true then (if 2 < (a0_0.size : Int) then ((impl_isTagByte.f (bt a0_0 2)).bind fun t173 => (if t173 = true then (if (l0_1.length : Int) ≤ 20 then ((slices_ContainsFunc_string_string.f k l0_1).bind fun t174 => (some (!t174))) else (some false)) else (some false))) else (none)) else (some false))) else (none)) else (some false)) = some r := H
 have A5 := Aside0.mk A50
 clear A50
 by_cases c6 : t171 = true
 rotate_left
 ·replace c6 := Bool.eq_false_iff.mpr c6
  subst c6
  have H1 : (some false) = some r := by rw [if_neg (show ¬ (false = true) by decide)] at H; exact H
  clear H
  have H := H1
  clear H1
  obtain rfl := Option.some.inj H
  go_enter Try.func45, Try.ntmps45
  go_wp2_with (first | ((with_reducible refine gate_dst (N := 1) rfl ?_); refine box_event ?hg (N := 1) ?hd (cs := #[.string a0_0, .slice A0_1 l0_1.length c0_1]) (t := 68) ?hr ?_; (case hd => rfl); (case hg => rfl); (case hr => first | (go_simp; done) | (go_simp; rfl)); intro gb170 hg w25 hbox hb; have n0_ := Aside0.mk (below_step bl_ hb); have n1_ := Aside0.mk (hbox); have n2_ := Aside0.mk ((by rw [hg]; exact (below_size bl_) : w.heap.size ≤ gb170)); have n3_ := Aside0.mk ((by rw [hg]; exact (below_size bl_) : w.heap.size ≤ gb170)); clear HB; have HB := n0_; have BK170 := n1_; have GW170 := n2_; have GE170 := n3_; clear n0_ n1_ n2_ n3_; clear hb hbox hg; have hcz26_0 : w25.cell? ⟨gb170, 0, none⟩ = some (.string a0_0) := (blk_cell BK170.out 0).trans rfl; have hcz26_1 : w25.cell? ⟨gb170, 1, none⟩ = some (.slice A0_1 l0_1.length c0_1) := (blk_cell BK170.out 1).trans rfl; have hfz26_0 := blk_frozen BK170.out 0; have hfz26_1 := blk_frozen BK170.out 1; have p4 : 0 ≤ (0 : Int) := (by omega); have q4 : 0 < a0_0.size := (by have : (0 : Int) < (a0_0.size : Int) := od_; omega); have hx4 : ∀ h : 0 < a0_0.size, ((a0_0[0]'h).toNat : Int) = bt a0_0 0 := bt_at a0_0 0; clear p4; have qi4 : (0 < (a0_0.size : Int)) = True := eq_true od_; replace q4 := eq_true q4) | (go_at_call 73; (with_reducible refine (impl_isTagByte.calls (bt a0_0 0) false _ A5.out).mono ?_); rintro e w' ⟨rfl, ⟨nd, rfl⟩⟩))
  go_ret
  exact ⟨by first | rfl | (simp [errW_none, errW_some] <;> rfl) | (simp [*, errW_none, errW_some] <;> rfl), by repeat (first | (with_reducible first | exact HB.out | apply below_alloc | apply pw_below_drewN | apply below_drew1 | refine below_set ?_ GE170.out) | exact HB.out)⟩
 subst c6
 have H1 : (if 1 < (a0_0.size : Int) then ((impl_isTagByte.f (bt a0_0 1)).bind fun t172 => (if t172 = true then (if 2 < (a0_0.size : Int) then ((impl_isTagByte.f (bt a0_0 2)).bind fun t173 => (if t173 = true then (if (l0_1.length : Int) ≤ 20 then ((slices_ContainsFunc_string_string.f k l0_1).bind fun t174 => (some (!t174))) else (some false)) else (some false))) else (none)) else (some false))) else (none)) = some r := by rw [if_pos rfl] at H; exact H
 clear H
 have H := H1
 clear H1
 by_cases c7 : 1 < (a0_0.size : Int)
 rotate_left
 ·rw [if_neg c7] at H
  exact absurd H (by simp)
 rw [if_pos c7] at H
 have c7b0 : decide (1 < (a0_0.size : Int)) = true := decide_eq_true c7
 have c7b1 : decide (1 < a0_0.size) = true := decide_eq_true (by omega)
 clear c7
 replace H := Option.bind_eq_some_iff.mp H
 obtain ⟨t172, A90, H⟩ := H
 replace H : (if t172 = true then (if 2 < (a0_0.size : Int) then ((impl_isTagByte.f (bt a0_0 2)).bind fun t173 => (if t173 = true then (if (l0_1.length : Int) ≤ 20 then ((slices_ContainsFunc_string_string.f k l0_1).bind fun t174 => (some (!t174))) else (some false)) else (some false))) else (none)) else (some false)) = some r := H
 have A9 := Aside0.mk A90
 clear A90
 by_cases c10 : t172 = true
 rotate_left
 ·replace c10 := Bool.eq_false_iff.mpr c10
  subst c10
  have H1 : (some false) = some r := by rw [if_neg (show ¬ (false = true) by decide)] at H; exact H
  clear H
  have H := H1
  clear H1
  obtain rfl := Option.some.inj H
  go_enter Try.func45, Try.ntmps45
  go_wp2_with (first | ((with_reducible refine gate_dst (N := 1) rfl ?_); refine box_event ?hg (N := 1) ?hd (cs := #[.string a0_0, .slice A0_1 l0_1.length c0_1]) (t := 68) ?hr ?_; (case hd => rfl); (case hg => rfl); (case hr => first | (go_simp; done) | (go_simp; rfl)); intro gb170 hg w23 hbox hb; have n0_ := Aside0.mk (below_step bl_ hb); have n1_ := Aside0.mk (hbox); have n2_ := Aside0.mk ((by rw [hg]; exact (below_size bl_) : w.heap.size ≤ gb170)); have n3_ := Aside0.mk ((by rw [hg]; exact (below_size bl_) : w.heap.size ≤ gb170)); clear HB; have HB := n0_; have BK170 := n1_; have GW170 := n2_; have GE170 := n3_; clear n0_ n1_ n2_ n3_; clear hb hbox hg; have hcz24_0 : w23.cell? ⟨gb170, 0, none⟩ = some (.string a0_0) := (blk_cell BK170.out 0).trans rfl; have hcz24_1 : w23.cell? ⟨gb170, 1, none⟩ = some (.slice A0_1 l0_1.length c0_1) := (blk_cell BK170.out 1).trans rfl; have hfz24_0 := blk_frozen BK170.out 0; have hfz24_1 := blk_frozen BK170.out 1; have p4 : 0 ≤ (0 : Int) := (by omega); have q4 : 0 < a0_0.size := (by have : (0 : Int) < (a0_0.size : Int) := od_; omega); have hx4 : ∀ h : 0 < a0_0.size, ((a0_0[0]'h).toNat : Int) = bt a0_0 0 := bt_at a0_0 0; clear p4; have qi4 : (0 < (a0_0.size : Int)) = True := eq_true od_; replace q4 := eq_true q4) | (go_at_call 73; (with_reducible refine (impl_isTagByte.calls (bt a0_0 0) true _ A5.out).mono ?_); rintro e w' ⟨rfl, ⟨nd, rfl⟩⟩; have p8 : 0 ≤ (1 : Int) := (by omega); have q8 : 1 < a0_0.size := (by have : (1 : Int) < (a0_0.size : Int) := od_; omega); have hx8 : ∀ h : 1 < a0_0.size, ((a0_0[1]'h).toNat : Int) = bt a0_0 1 := bt_at a0_0 1; clear p8; have qi8 : (1 < (a0_0.size : Int)) = True := eq_true od_; replace q8 := eq_true q8) | (go_at_call 73; (with_reducible refine (impl_isTagByte.calls (bt a0_0 1) false _ A9.out).mono ?_); rintro e w' ⟨rfl, ⟨nd, rfl⟩⟩))
  go_ret
  exact ⟨by first | rfl | (simp [errW_none, errW_some] <;> rfl) | (simp [*, errW_none, errW_some] <;> rfl), by repeat (first | (with_reducible first | exact HB.out | apply below_alloc | apply pw_below_drewN | apply below_drew1 | refine below_set ?_ GE170.out) | exact HB.out)⟩
 subst c10
 have H1 : (if 2 < (a0_0.size : Int) then ((impl_isTagByte.f (bt a0_0 2)).bind fun t173 => (if t173 = true then (if (l0_1.length : Int) ≤ 20 then ((slices_ContainsFunc_string_string.f k l0_1).bind fun t174 => (some (!t174))) else (some false)) else (some false))) else (none)) = some r := by rw [if_pos rfl] at H; exact H
 clear H
 have H := H1
 clear H1
 by_cases c11 : 2 < (a0_0.size : Int)
 rotate_left
 ·rw [if_neg c11] at H
  exact absurd H (by simp)
 rw [if_pos c11] at H
 have c11b0 : decide (2 < (a0_0.size : Int)) = true := decide_eq_true c11
 have c11b1 : decide (2 < a0_0.size) = true := decide_eq_true (by omega)
 clear c11
 replace H := Option.bind_eq_some_iff.mp H
 obtain ⟨t173, A130, H⟩ := H
 replace H : (if t173 = true then (if (l0_1.length : Int) ≤ 20 then ((slices_ContainsFunc_string_string.f k l0_1).bind fun t174 => (some (!t174))) else (some false)) else (some false)) = some r := H
 have A13 := Aside0.mk A130
 clear A130
 by_cases c14 : t173 = true
 rotate_left
 ·replace c14 := Bool.eq_false_iff.mpr c14
  subst c14
  have H1 : (some false) = some r := by rw [if_neg (show ¬ (false = true) by decide)] at H; exact H
  clear H
  have H := H1
  clear H1
  obtain rfl := Option.some.inj H
  go_enter Try.func45, Try.ntmps45
  go_wp2_with (first | ((with_reducible refine gate_dst (N := 1) rfl ?_); refine box_event ?hg (N := 1) ?hd (cs := #[.string a0_0, .slice A0_1 l0_1.length c0_1]) (t := 68) ?hr ?_; (case hd => rfl); (case hg => rfl); (case hr => first | (go_simp; done) | (go_simp; rfl)); intro gb170 hg w21 hbox hb; have n0_ := Aside0.mk (below_step bl_ hb); have n1_ := Aside0.mk (hbox); have n2_ := Aside0.mk ((by rw [hg]; exact (below_size bl_) : w.heap.size ≤ gb170)); have n3_ := Aside0.mk ((by rw [hg]; exact (below_size bl_) : w.heap.size ≤ gb170)); clear HB; have HB := n0_; have BK170 := n1_; have GW170 := n2_; have GE170 := n3_; clear n0_ n1_ n2_ n3_; clear hb hbox hg; have hcz22_0 : w21.cell? ⟨gb170, 0, none⟩ = some (.string a0_0) := (blk_cell BK170.out 0).trans rfl; have hcz22_1 : w21.cell? ⟨gb170, 1, none⟩ = some (.slice A0_1 l0_1.length c0_1) := (blk_cell BK170.out 1).trans rfl; have hfz22_0 := blk_frozen BK170.out 0; have hfz22_1 := blk_frozen BK170.out 1; have p4 : 0 ≤ (0 : Int) := (by omega); have q4 : 0 < a0_0.size := (by have : (0 : Int) < (a0_0.size : Int) := od_; omega); have hx4 : ∀ h : 0 < a0_0.size, ((a0_0[0]'h).toNat : Int) = bt a0_0 0 := bt_at a0_0 0; clear p4; have qi4 : (0 < (a0_0.size : Int)) = True := eq_true od_; replace q4 := eq_true q4) | (go_at_call 73; (with_reducible refine (impl_isTagByte.calls (bt a0_0 0) true _ A5.out).mono ?_); rintro e w' ⟨rfl, ⟨nd, rfl⟩⟩; have p8 : 0 ≤ (1 : Int) := (by omega); have q8 : 1 < a0_0.size := (by have : (1 : Int) < (a0_0.size : Int) := od_; omega); have hx8 : ∀ h : 1 < a0_0.size, ((a0_0[1]'h).toNat : Int) = bt a0_0 1 := bt_at a0_0 1; clear p8; have qi8 : (1 < (a0_0.size : Int)) = True := eq_true od_; replace q8 := eq_true q8) | (go_at_call 73; (with_reducible refine (impl_isTagByte.calls (bt a0_0 1) true _ A9.out).mono ?_); rintro e w' ⟨rfl, ⟨nd, rfl⟩⟩; have p12 : 0 ≤ (2 : Int) := (by omega); have q12 : 2 < a0_0.size := (by have : (2 : Int) < (a0_0.size : Int) := od_; omega); have hx12 : ∀ h : 2 < a0_0.size, ((a0_0[2]'h).toNat : Int) = bt a0_0 2 := bt_at a0_0 2; clear p12; have qi12 : (2 < (a0_0.size : Int)) = True := eq_true od_; replace q12 := eq_true q12) | (go_at_call 73; (with_reducible refine (impl_isTagByte.calls (bt a0_0 2) false _ A13.out).mono ?_); rintro e w' ⟨rfl, ⟨nd, rfl⟩⟩))
  go_ret
  exact ⟨by first | rfl | (simp [errW_none, errW_some] <;> rfl) | (simp [*, errW_none, errW_some] <;> rfl), by repeat (first | (with_reducible first | exact HB.out | apply below_alloc | apply pw_below_drewN | apply below_drew1 | refine below_set ?_ GE170.out) | exact HB.out)⟩
 subst c14
 have H1 : (if (l0_1.length : Int) ≤ 20 then ((slices_ContainsFunc_string_string.f k l0_1).bind fun t174 => (some (!t174))) else (some false)) = some r := by rw [if_pos rfl] at H; exact H
 clear H
 have H := H1
 clear H1
 by_cases c15 : (l0_1.length : Int) ≤ 20
 rotate_left
 ·rw [if_neg c15] at H
  have c15b0 : decide ((l0_1.length : Int) ≤ 20) = false := decide_eq_false c15
  have c15b1 : decide (l0_1.length ≤ 20) = false := decide_eq_false (by omega)
  clear c15
  obtain rfl := Option.some.inj H
  go_enter Try.func45, Try.ntmps45
  go_wp2_with (first | ((with_reducible refine gate_dst (N := 1) rfl ?_); refine box_event ?hg (N := 1) ?hd (cs := #[.string a0_0, .slice A0_1 l0_1.length c0_1]) (t := 68) ?hr ?_; (case hd => rfl); (case hg => rfl); (case hr => first | (go_simp; done) | (go_simp; rfl)); intro gb170 hg w19 hbox hb; have n0_ := Aside0.mk (below_step bl_ hb); have n1_ := Aside0.mk (hbox); have n2_ := Aside0.mk ((by rw [hg]; exact (below_size bl_) : w.heap.size ≤ gb170)); have n3_ := Aside0.mk ((by rw [hg]; exact (below_size bl_) : w.heap.size ≤ gb170)); clear HB; have HB := n0_; have BK170 := n1_; have GW170 := n2_; have GE170 := n3_; clear n0_ n1_ n2_ n3_; clear hb hbox hg; have hcz20_0 : w19.cell? ⟨gb170, 0, none⟩ = some (.string a0_0) := (blk_cell BK170.out 0).trans rfl; have hcz20_1 : w19.cell? ⟨gb170, 1, none⟩ = some (.slice A0_1 l0_1.length c0_1) := (blk_cell BK170.out 1).trans rfl; have hfz20_0 := blk_frozen BK170.out 0; have hfz20_1 := blk_frozen BK170.out 1; have p4 : 0 ≤ (0 : Int) := (by omega); have q4 : 0 < a0_0.size := (by have : (0 : Int) < (a0_0.size : Int) := od_; omega); have hx4 : ∀ h : 0 < a0_0.size, ((a0_0[0]'h).toNat : Int) = bt a0_0 0 := bt_at a0_0 0; clear p4; have qi4 : (0 < (a0_0.size : Int)) = True := eq_true od_; replace q4 := eq_true q4) | (go_at_call 73; (with_reducible refine (impl_isTagByte.calls (bt a0_0 0) true _ A5.out).mono ?_); rintro e w' ⟨rfl, ⟨nd, rfl⟩⟩; have p8 : 0 ≤ (1 : Int) := (by omega); have q8 : 1 < a0_0.size := (by have : (1 : Int) < (a0_0.size : Int) := od_; omega); have hx8 : ∀ h : 1 < a0_0.size, ((a0_0[1]'h).toNat : Int) = bt a0_0 1 := bt_at a0_0 1; clear p8; have qi8 : (1 < (a0_0.size : Int)) = True := eq_true od_; replace q8 := eq_true q8) | (go_at_call 73; (with_reducible refine (impl_isTagByte.calls (bt a0_0 1) true _ A9.out).mono ?_); rintro e w' ⟨rfl, ⟨nd, rfl⟩⟩; have p12 : 0 ≤ (2 : Int) := (by omega); have q12 : 2 < a0_0.size := (by have : (2 : Int) < (a0_0.size : Int) := od_; omega); have hx12 : ∀ h : 2 < a0_0.size, ((a0_0[2]'h).toNat : Int) = bt a0_0 2 := bt_at a0_0 2; clear p12; have qi12 : (2 < (a0_0.size : Int)) = True := eq_true od_; replace q12 := eq_true q12) | (go_at_call 73; (with_reducible refine (impl_isTagByte.calls (bt a0_0 2) true _ A13.out).mono ?_); rintro e w' ⟨rfl, ⟨nd, rfl⟩⟩))
  go_ret
  exact ⟨by first | rfl | (simp [errW_none, errW_some] <;> rfl) | (simp [*, errW_none, errW_some] <;> rfl), by repeat (first | (with_reducible first | exact HB.out | apply below_alloc | apply pw_below_drewN | apply below_drew1 | refine below_set ?_ GE170.out) | exact HB.out)⟩
 rw [if_pos c15] at H
 have c15b0 : decide ((l0_1.length : Int) ≤ 20) = true := decide_eq_true c15
 have c15b1 : decide (l0_1.length ≤ 20) = true := decide_eq_true (by omega)
 clear c15
 replace H := Option.bind_eq_some_iff.mp H
 obtain ⟨t174, A160, H⟩ := H
 replace H : (some (!t174)) = some r := H
 have A16 := Aside0.mk A160
 clear A160
 obtain rfl := Option.some.inj H
 go_enter Try.func45, Try.ntmps45
 go_wp2_with (first | ((with_reducible refine gate_dst (N := 1) rfl ?_); refine box_event ?hg (N := 1) ?hd (cs := #[.string a0_0, .slice A0_1 l0_1.length c0_1]) (t := 68) ?hr ?_; (case hd => rfl); (case hg => rfl); (case hr => first | (go_simp; done) | (go_simp; rfl)); intro gb170 hg w17 hbox hb; have n0_ := Aside0.mk (below_step bl_ hb); have n1_ := Aside0.mk (hbox); have n2_ := Aside0.mk ((by rw [hg]; exact (below_size bl_) : w.heap.size ≤ gb170)); have n3_ := Aside0.mk ((by rw [hg]; exact (below_size bl_) : w.heap.size ≤ gb170)); clear HB; have HB := n0_; have BK170 := n1_; have GW170 := n2_; have GE170 := n3_; clear n0_ n1_ n2_ n3_; clear hb hbox hg; have hcz18_0 : w17.cell? ⟨gb170, 0, none⟩ = some (.string a0_0) := (blk_cell BK170.out 0).trans rfl; have hcz18_1 : w17.cell? ⟨gb170, 1, none⟩ = some (.slice A0_1 l0_1.length c0_1) := (blk_cell BK170.out 1).trans rfl; have hfz18_0 := blk_frozen BK170.out 0; have hfz18_1 := blk_frozen BK170.out 1; have p4 : 0 ≤ (0 : Int) := (by omega); have q4 : 0 < a0_0.size := (by have : (0 : Int) < (a0_0.size : Int) := od_; omega); have hx4 : ∀ h : 0 < a0_0.size, ((a0_0[0]'h).toNat : Int) = bt a0_0 0 := bt_at a0_0 0; clear p4; have qi4 : (0 < (a0_0.size : Int)) = True := eq_true od_; replace q4 := eq_true q4) | (go_at_call 73; (with_reducible refine (impl_isTagByte.calls (bt a0_0 0) true _ A5.out).mono ?_); rintro e w' ⟨rfl, ⟨nd, rfl⟩⟩; have p8 : 0 ≤ (1 : Int) := (by omega); have q8 : 1 < a0_0.size := (by have : (1 : Int) < (a0_0.size : Int) := od_; omega); have hx8 : ∀ h : 1 < a0_0.size, ((a0_0[1]'h).toNat : Int) = bt a0_0 1 := bt_at a0_0 1; clear p8; have qi8 : (1 < (a0_0.size : Int)) = True := eq_true od_; replace q8 := eq_true q8) | (go_at_call 73; (with_reducible refine (impl_isTagByte.calls (bt a0_0 1) true _ A9.out).mono ?_); rintro e w' ⟨rfl, ⟨nd, rfl⟩⟩; have p12 : 0 ≤ (2 : Int) := (by omega); have q12 : 2 < a0_0.size := (by have : (2 : Int) < (a0_0.size : Int) := od_; omega); have hx12 : ∀ h : 2 < a0_0.size, ((a0_0[2]'h).toNat : Int) = bt a0_0 2 := bt_at a0_0 2; clear p12; have qi12 : (2 < (a0_0.size : Int)) = True := eq_true od_; replace q12 := eq_true q12) | (go_at_call 73; (with_reducible refine (impl_isTagByte.calls (bt a0_0 2) true _ A13.out).mono ?_); rintro e w' ⟨rfl, ⟨nd, rfl⟩⟩) | (go_at_call 63; (with_reducible refine (slices_ContainsFunc_string_string.calls k _ _ l0_1  t174 _ ?side1 ?side2 A16.out).mono ?_); (case side1 => repeat (first | exact (Kd.C_below HR0_1.out bl_) | (with_reducible refine Kd.C_alloc ?_ _) | (with_reducible refine Kd.C_drewN ?_ _) | (with_reducible refine Kd.C_drew ?_))); (case side2 => exact HC0_1.out); rintro e w' ⟨rfl, ⟨nd, rfl⟩⟩))
 go_ret
 exact ⟨by first | rfl | (simp [errW_none, errW_some] <;> rfl) | (simp [*, errW_none, errW_some] <;> rfl), by repeat (first | (with_reducible first | exact HB.out | apply below_alloc | apply pw_below_drewN | apply below_drew1 | refine below_set ?_ GE170.out) | exact HB.out)⟩
/-! ### impl_SegmentsText_1: function 44 -/
def impl_SegmentsText_1.f (k : Nat) (a0_0 : ByteArray) (l0_1 : List ByteArray) : Option (Bool) := (impl_isSegment.f k a0_0 l0_1).bind fun t176 => (some (!t176))
theorem impl_SegmentsText_1.mono : ∀ a0 a1 k, LeO (impl_SegmentsText_1.f k a0 a1) (impl_SegmentsText_1.f (k + 1) a0 a1) := by
 intro a0 a1 k
 unfold impl_SegmentsText_1.f
 repeat' first
   | (with_reducible exact impl_isSegment.mono _ _ _)
   | (with_reducible exact LeO.refl _)
   | (with_reducible exact LeO.none _)
   | (with_reducible refine LeO.ite ?_ ?_)
   | (with_reducible refine LeO.bind ?_ (fun _ => ?_))
   | exact impl_isSegment.mono _ _ _
   | exact LeO.none _
   | refine LeO.ite ?_ ?_
   | refine LeO.bind ?_ (fun _ => ?_)
set_option maxHeartbeats 8000000 in
set_option maxRecDepth 100000 in
theorem impl_SegmentsText_1.calls (k : Nat) (a0_0 : ByteArray) (A0_1 : Option Addr) (c0_1 : Nat) (l0_1 : List ByteArray) (r : Bool) (w : World) (hr0_1 : Kd.C Kd.string w A0_1 l0_1.length l0_1) (hc0_1 : l0_1.length ≤ c0_1) (h : impl_SegmentsText_1.f k a0_0 l0_1 = some r) :
  Calls Try.prog 44 #[.agg #[.string a0_0, .slice A0_1 l0_1.length c0_1]] w fun e w' => e = .returned (.bool r) ∧ Below w.heap.size w w' := by
 have hu68 := Try.underlying68
 have HR0_1 := Aside0.mk hr0_1
 have HC0_1 := Aside0.mk hc0_1
 clear hr0_1 hc0_1
 have HB := Aside0.mk (Below.refl w.heap.size w)
 have H : ((impl_isSegment.f k a0_0 l0_1).bind fun t176 => (some (!t176))) = some r := h
 clear h
 replace H := Option.bind_eq_some_iff.mp H
 obtain ⟨t176, A20, H⟩ := H
 replace H : (some (!t176)) = some r := H
 have A2 := Aside0.mk A20
 clear A20
 obtain rfl := Option.some.inj H
 go_enter Try.func44, Try.ntmps44
 go_wp2_with (first | ((with_reducible refine gate_dst (N := 1) rfl ?_); refine box_event ?hg (N := 1) ?hd (cs := #[.string a0_0, .slice A0_1 l0_1.length c0_1]) (t := 68) ?hr ?_; (case hd => rfl); (case hg => rfl); (case hr => first | (go_simp; done) | (go_simp; rfl)); intro gb175 hg w3 hbox hb; have n0_ := Aside0.mk (below_step bl_ hb); have n1_ := Aside0.mk (hbox); have n2_ := Aside0.mk ((by rw [hg]; exact (below_size bl_) : w.heap.size ≤ gb175)); have n3_ := Aside0.mk ((by rw [hg]; exact (below_size bl_) : w.heap.size ≤ gb175)); clear HB; have HB := n0_; have BK175 := n1_; have GW175 := n2_; have GE175 := n3_; clear n0_ n1_ n2_ n3_; clear hb hbox hg; have hcz4_0 : w3.cell? ⟨gb175, 0, none⟩ = some (.string a0_0) := (blk_cell BK175.out 0).trans rfl; have hcz4_1 : w3.cell? ⟨gb175, 1, none⟩ = some (.slice A0_1 l0_1.length c0_1) := (blk_cell BK175.out 1).trans rfl; have hfz4_0 := blk_frozen BK175.out 0; have hfz4_1 := blk_frozen BK175.out 1) | ((with_reducible refine gate_callee (f := 45) rfl ?_); refine goesL_ (some 4) rfl rfl Try.func45 (by kernel_rfl) rfl #[.agg #[.string a0_0, .slice A0_1 l0_1.length c0_1]] rfl (by (try simp only [List.map_toArray, List.map_cons, List.map_nil]); first | done | rfl | (simp only [List.length_drop, List.length_take]; rfl)) ?_; (with_reducible refine (impl_isSegment.calls k a0_0 _ _ l0_1 t176 _ ?side1 ?side2 A2.out).mono ?_); (case side1 => repeat (first | exact (Kd.C_below HR0_1.out HB.out) | (with_reducible refine Kd.C_alloc ?_ _) | (with_reducible refine Kd.C_drewN ?_ _) | (with_reducible refine Kd.C_drew ?_))); (case side2 => exact HC0_1.out); rintro e w5 ⟨rfl, hb⟩; refine ⟨_, rfl, ?_⟩; have n0_ := Aside0.mk (blk_below (g := gb175) (o := .cells #[.string a0_0, .slice A0_1 l0_1.length c0_1] 68 (0, 0)) bk_ hb); have n1_ := Aside0.mk (below_step bl_ hb); clear BK175; clear HB; have BK175 := n0_; have HB := n1_; clear n0_ n1_; (try clear hb); (try clear hb2); (try clear hk); (try clear hi)))
 go_ret
 exact ⟨by first | rfl | (simp [errW_none, errW_some] <;> rfl) | (simp [*, errW_none, errW_some] <;> rfl), by repeat (first | (with_reducible first | exact HB.out | apply below_alloc | apply pw_below_drewN | apply below_drew1 | refine below_set ?_ GE175.out) | exact HB.out)⟩

/-! ### impl_Segment_72: function 72 -/
def impl_Segment_72.l0 : Nat → List (S68) → Int → Int → Option (Int)
 | 0, _, _, _ => none
 | k + 1, x0, x7, x8 => if x8 < x7 then (if 0 ≤ x8 then (if x8 < (x0.length : Int) then ((impl_SegmentsText_1.f k ((rd_T68 x0 x8).f0) ((rd_T68 x0 x8).f1)).bind fun t178 => (if t178 = true then (some x8) else (impl_Segment_72.l0 k x0 x7 (wrap64 (x8 + 1))))) else (none)) else (none)) else (some (-1))
def impl_Segment_72.f (k : Nat) (l0 : List (S68))  : Option (Int) := impl_Segment_72.l0 k l0 (l0.length : Int) 0
theorem impl_Segment_72.mono_l : ∀ k, (∀ y0 y1 y2, LeO (impl_Segment_72.l0 k y0 y1 y2) (impl_Segment_72.l0 (k + 1) y0 y1 y2))
 | 0 => fun _ _ _ r h => by simp [impl_Segment_72.l0] at h
 | k + 1 => by
  have ih0 := impl_Segment_72.mono_l k
  ·intro y0 y1 y2
   unfold impl_Segment_72.l0
   repeat' first
   | (with_reducible exact ih0 _ _ _)
   | (with_reducible exact impl_SegmentsText_1.mono _ _ _)
   | (with_reducible exact LeO.refl _)
   | (with_reducible exact LeO.none _)
   | (with_reducible refine LeO.ite ?_ ?_)
   | (with_reducible refine LeO.bind ?_ (fun _ => ?_))
   | exact ih0 _ _ _
   | exact impl_SegmentsText_1.mono _ _ _
   | exact LeO.none _
   | refine LeO.ite ?_ ?_
   | refine LeO.bind ?_ (fun _ => ?_)
theorem impl_Segment_72.mono : ∀ a0 k, LeO (impl_Segment_72.f k a0) (impl_Segment_72.f (k + 1) a0) := by
 intro a0 k
 have ih0 := impl_Segment_72.mono_l k
 unfold impl_Segment_72.f
 repeat' first
   | (with_reducible exact ih0 _ _ _)
   | (with_reducible exact impl_SegmentsText_1.mono _ _ _)
   | (with_reducible exact LeO.refl _)
   | (with_reducible exact LeO.none _)
   | (with_reducible refine LeO.ite ?_ ?_)
   | (with_reducible refine LeO.bind ?_ (fun _ => ?_))
   | exact ih0 _ _ _
   | exact impl_SegmentsText_1.mono _ _ _
   | exact LeO.none _
   | refine LeO.ite ?_ ?_
   | refine LeO.bind ?_ (fun _ => ?_)
set_option maxHeartbeats 8000000 in
set_option maxRecDepth 100000 in
theorem impl_Segment_72.calls (k : Nat) (A0 : Option Addr) (c0 : Nat) (l0 : List (S68))  (r : Int) (w : World) (hr0 : Kd.C k68 w A0 l0.length l0) (hc0 : l0.length ≤ c0) (h : impl_Segment_72.f k l0 = some r) :
  Calls Try.prog 72 #[.slice A0 l0.length c0, .func (.func 44) #[] #[]] w fun e w' => e = .returned (.int .i64 r) ∧ Below w.heap.size w w' := by
 have hu68 := Try.underlying68
 have HR0 := Aside0.mk hr0
 have HC0 := Aside0.mk hc0
 clear hr0 hc0
 have HB := Aside0.mk (Below.refl w.heap.size w)
 have H : (impl_Segment_72.l0 k l0 (l0.length : Int) 0) = some r := h
 clear h
 have H' := Aside0.mk H
 clear H
 go_enter Try.func72, Try.ntmps72
 go_wp2
 go_loopg [8] k (fun kq v8 w' => ∃ (x8_1 : Int), v8 = .int .i64 x8_1 ∧ Aside0 (impl_Segment_72.l0 kq l0 (l0.length : Int) x8_1 = some r) ∧ Aside0 (kq ≤ k) ∧ Aside0 (Below w.heap.size w w'))
 case atStart => exact ⟨(0), (by first | rfl | (simp; done) | (simp [*]; done)), H', ⟨Nat.le_refl _⟩, ⟨by repeat (first | (with_reducible first | exact HB.out | apply below_alloc | apply pw_below_drewN | apply below_drew1) | exact HB.out)⟩⟩
 case round =>
  clear H'
  try clear p2
  obtain ⟨x8_1, rfl, HA, HK1, HB⟩ := hrel
  cases gk with
  | zero => exact absurd HA.out (by simp [impl_Segment_72.l0])
  | succ k1 =>
   have H := HA.out
   clear HA
   simp only [impl_Segment_72.l0] at H
   by_cases c3 : x8_1 < (l0.length : Int)
   rotate_left
   ·rw [if_neg c3] at H
    have c3b0 : decide (x8_1 < (l0.length : Int)) = false := decide_eq_false c3
    clear c3
    obtain rfl := Option.some.inj H
    go_wp2
    go_ret
    exact ⟨by first | rfl | (simp [errW_none, errW_some] <;> rfl) | (simp [*, errW_none, errW_some] <;> rfl), by repeat (first | (with_reducible first | exact HB.out | apply below_alloc | apply pw_below_drewN | apply below_drew1) | exact HB.out)⟩

   rw [if_pos c3] at H
   have c3b0 : decide (x8_1 < (l0.length : Int)) = true := decide_eq_true c3
   clear c3
   by_cases c4 : 0 ≤ x8_1
   rotate_left
   ·rw [if_neg c4] at H
    exact absurd H (by simp)
   rw [if_pos c4] at H
   have c4b0 : decide (0 ≤ x8_1) = true := decide_eq_true c4
   clear c4
   by_cases c5 : x8_1 < (l0.length : Int)
   rotate_left
   ·rw [if_neg c5] at H
    exact absurd H (by simp)
   rw [if_pos c5] at H
   have c5b0 : decide (x8_1 < (l0.length : Int)) = true := decide_eq_true c5
   clear c5
   replace H := Option.bind_eq_some_iff.mp H
   obtain ⟨t178, A60, H⟩ := H
   replace H : (if t178 = true then (some x8_1) else (impl_Segment_72.l0 k1 l0 (l0.length : Int) (wrap64 (x8_1 + 1)))) = some r := H
   have A6 := Aside0.mk A60
   clear A60
   by_cases c7 : t178 = true
   ·subst c7
    have H1 : (some x8_1) = some r := by rw [if_pos rfl] at H; exact H
    clear H
    have H := H1
    clear H1
    obtain rfl := Option.some.inj H
    have p177 : 0 ≤ (x8_1 : Int) := od_
    have q177 : x8_1 < (l0.length : Int) := od_
    obtain ⟨ad177, A177_1, c177_1, e177, hx177_0, hx177_1, hl177_1, hi177_1⟩ := at_T68 HR0.out x8_1 p177 q177
    cases e177
    replace hx177_0 := (HB.out.cell (World.block_lt_of_cell? w _ hx177_0)).trans hx177_0
    replace hx177_1 := (HB.out.cell (World.block_lt_of_cell? w _ hx177_1)).trans hx177_1
    have HR177_1 := Aside0.mk hi177_1
    have HC177_1 := Aside0.mk hl177_1
    clear hi177_1 hl177_1
    replace p177 := eq_true p177
    replace q177 := eq_true q177
    go_wp2_with (first | (go_at_call 44; (with_reducible refine (impl_SegmentsText_1.calls k1 ((rd_T68 l0 x8_1).f0) _ _ ((rd_T68 l0 x8_1).f1) true _ ?side1 ?side2 A6.out).mono ?_); (case side1 => repeat (first | exact (Kd.C_below HR177_1.out HB.out) | (with_reducible refine Kd.C_alloc ?_ _) | (with_reducible refine Kd.C_drewN ?_ _) | (with_reducible refine Kd.C_drew ?_))); (case side2 => exact HC177_1.out); rintro e w8 ⟨rfl, hb⟩; have n0_ := Aside0.mk (below_step bl_ hb); clear HB; have HB := n0_; clear n0_; (try clear hb); (try clear hb2); (try clear hk); (try clear hi)))
    go_ret
    exact ⟨by first | rfl | (simp [errW_none, errW_some] <;> rfl) | (simp [*, errW_none, errW_some] <;> rfl), by repeat (first | (with_reducible first | exact HB.out | apply below_alloc | apply pw_below_drewN | apply below_drew1) | exact HB.out)⟩
   replace c7 := Bool.eq_false_iff.mpr c7
   subst c7
   have H1 : (impl_Segment_72.l0 k1 l0 (l0.length : Int) (wrap64 (x8_1 + 1))) = some r := by rw [if_neg (show ¬ (false = true) by decide)] at H; exact H
   clear H
   have H := H1
   clear H1
   have H' := Aside0.mk H
   clear H
   have p177 : 0 ≤ (x8_1 : Int) := od_
   have q177 : x8_1 < (l0.length : Int) := od_
   obtain ⟨ad177, A177_1, c177_1, e177, hx177_0, hx177_1, hl177_1, hi177_1⟩ := at_T68 HR0.out x8_1 p177 q177
   cases e177
   replace hx177_0 := (HB.out.cell (World.block_lt_of_cell? w _ hx177_0)).trans hx177_0
   replace hx177_1 := (HB.out.cell (World.block_lt_of_cell? w _ hx177_1)).trans hx177_1
   have HR177_1 := Aside0.mk hi177_1
   have HC177_1 := Aside0.mk hl177_1
   clear hi177_1 hl177_1
   replace p177 := eq_true p177
   replace q177 := eq_true q177
   go_wp2_with (first | (go_at_call 44; (with_reducible refine (impl_SegmentsText_1.calls k1 ((rd_T68 l0 x8_1).f0) _ _ ((rd_T68 l0 x8_1).f1) false _ ?side1 ?side2 A6.out).mono ?_); (case side1 => repeat (first | exact (Kd.C_below HR177_1.out HB.out) | (with_reducible refine Kd.C_alloc ?_ _) | (with_reducible refine Kd.C_drewN ?_ _) | (with_reducible refine Kd.C_drew ?_))); (case side2 => exact HC177_1.out); rintro e w9 ⟨rfl, hb⟩; have n0_ := Aside0.mk (below_step bl_ hb); clear HB; have HB := n0_; clear n0_; (try clear hb); (try clear hb2); (try clear hk); (try clear hi)))
   go_roundg k1
   case measure => have := HK1.out; omega
   case rel => exact ⟨(wrap64 (x8_1 + 1)), (by first | rfl | (simp; done) | (simp [*]; done)), H', ⟨by have := HK1.out; omega⟩, ⟨by repeat (first | (with_reducible first | exact HB.out | apply below_alloc | apply pw_below_drewN | apply below_drew1) | exact HB.out)⟩⟩
/-! ### impl_Segment_43: function 43 -/
def impl_Segment_43.f (k : Nat) (l0 : List (S68))  : Option (Bool) := (impl_Segment_72.f k l0).bind fun t179 => (some (decide (t179 ≥ 0)))
theorem impl_Segment_43.mono : ∀ a0 k, LeO (impl_Segment_43.f k a0) (impl_Segment_43.f (k + 1) a0) := by
 intro a0 k
 unfold impl_Segment_43.f
 repeat' first
   | (with_reducible exact impl_Segment_72.mono _ _)
   | (with_reducible exact LeO.refl _)
   | (with_reducible exact LeO.none _)
   | (with_reducible refine LeO.ite ?_ ?_)
   | (with_reducible refine LeO.bind ?_ (fun _ => ?_))
   | exact impl_Segment_72.mono _ _
   | exact LeO.none _
   | refine LeO.ite ?_ ?_
   | refine LeO.bind ?_ (fun _ => ?_)
set_option maxHeartbeats 8000000 in
set_option maxRecDepth 100000 in
theorem impl_Segment_43.calls (k : Nat) (A0 : Option Addr) (c0 : Nat) (l0 : List (S68))  (r : Bool) (w : World) (hr0 : Kd.C k68 w A0 l0.length l0) (hc0 : l0.length ≤ c0) (h : impl_Segment_43.f k l0 = some r) :
  Calls Try.prog 43 #[.slice A0 l0.length c0, .func (.func 44) #[] #[]] w fun e w' => e = .returned (.bool r) ∧ Below w.heap.size w w' := by
 have HR0 := Aside0.mk hr0
 have HC0 := Aside0.mk hc0
 clear hr0 hc0
 have HB := Aside0.mk (Below.refl w.heap.size w)
 have H : ((impl_Segment_72.f k l0).bind fun t179 => (some (decide (t179 ≥ 0)))) = some r := h
 clear h
 replace H := Option.bind_eq_some_iff.mp H
 obtain ⟨t179, A30, H⟩ := H
 replace H : (some (decide (t179 ≥ 0))) = some r := H
 have A3 := Aside0.mk A30
 clear A30
 obtain rfl := Option.some.inj H
 go_enter Try.func43, Try.ntmps43
 go_wp2_with (first | ((with_reducible refine gate_callee (f := 72) rfl ?_); refine goesL_ (some 7) rfl rfl Try.func72 (by kernel_rfl) rfl #[.slice A0 l0.length c0, .func (.func 44) #[] #[]] rfl (by (try simp only [List.map_toArray, List.map_cons, List.map_nil]); first | done | rfl | (simp only [List.length_drop, List.length_take]; rfl)) ?_; (with_reducible refine (impl_Segment_72.calls k _ _ l0  t179 _ ?side1 ?side2 A3.out).mono ?_); (case side1 => repeat (first | exact HR0.out | (with_reducible refine Kd.C_alloc ?_ _) | (with_reducible refine Kd.C_drewN ?_ _) | (with_reducible refine Kd.C_drew ?_))); (case side2 => exact HC0.out); rintro e w4 ⟨rfl, hb⟩; refine ⟨_, rfl, ?_⟩; have n0_ := Aside0.mk (below_step bl_ hb); clear HB; have HB := n0_; clear n0_; (try clear hb); (try clear hb2); (try clear hk); (try clear hi)))
 go_ret
 exact ⟨by first | rfl | (simp [errW_none, errW_some] <;> rfl) | (simp [*, errW_none, errW_some] <;> rfl), by repeat (first | (with_reducible first | exact HB.out | apply below_alloc | apply pw_below_drewN | apply below_drew1) | exact HB.out)⟩

/-! ### impl_SegmentsText: function 20 -/
open Go.Proofs.Ytkiooiijnolocaa.Once
def partBytes (p : ByteArray) : List UInt8 := 43 :: escL p.data.toList
def segBytes (s : S68) : List UInt8 := s.f0.data.toList ++ s.f1.flatMap partBytes ++ [39]
def textB (l : List S68) : List UInt8 := l.flatMap segBytes

def impl_SegmentsText.f (k : Nat) (l0 : List S68) : Option (ByteArray × Int) := (impl_Segment_42.f l0).bind fun b => if b = true then (if (l0.length : Int) > 200 then some ((⟨#[]⟩ : ByteArray), 1) else (impl_Segment_43.f k l0).bind fun t => if t = true then some ((⟨#[]⟩ : ByteArray), 1) else if (textB l0).length ≤ 70368744177664 then (if ((textB l0).length : Int) > 65536 then some ((⟨#[]⟩ : ByteArray), 11) else some (⟨(textB l0).toArray⟩, 0)) else none) else some ((⟨#[]⟩ : ByteArray), 2)
theorem newRep (A0 : Option Addr) (c0 : Nat) (l0 : List ByteArray) (w : World) (hr0 : Kd.C Kd.string w A0 l0.length l0) (hl : l0.length = 6) (hc0 : l0.length ≤ c0) :
  Calls Try.prog 46 #[.slice A0 l0.length c0] w fun e w' => ∃ (v : Value) (w1 : World), e = .returned (.pointer (some ⟨w1.heap.size, 0, none⟩)) ∧ Kd.R Kd.string 9 w1 w.heap.size (fun _ => True) v l0 ∧ Below w.heap.size w w1 ∧ w' = w1.alloc (.cells #[.int .u32 0, .int .i32 0, .int .u32 0, .nilIface, v] 130) := by
 have HB := Aside0.mk (Below.refl w.heap.size w)
 have HR0 := Aside0.mk hr0
 have hrem : (wrap64 (Int.tmod 6 2)) = 0 := by decide +kernel
 have LM := Aside0.mk hl
 have h6 : (l0.length : Int) = 6 := by omega
 go_enter Try.func46, Try.ntmps46
 go_wp2_with (((with_reducible refine gate_builtin (b := .append) rfl ?_); (try (refine gate_guard (by rfl) ?_; dsimp only)); at_builtin; refine Kd.R_append_rows Kd.string (w0 := w) w.heap.size rfl (.const (.slice none 0 0)) (.tmp 8) 66 9 (.string ⟨#[]⟩) 16 rfl Try.underlying66 info9 rfl (by decide) (by omega) (.slice none 0 0) [] l0 _ _ _ (fun _ => True) (fun _ => False) rfl rfl ?aO ?aR (fun _ _ h => h) (fun _ h => h.elim) ?aF ?aB ?aS ?aL ?_; (case aR => exact HR0.out); (case aB => exact HB.out); (case aF => exact fun _ _ => trivial); (case aO => exact Kd.R_nil _ _ _ _ _); (case aS => exact Nat.le_refl _); (case aL => have := LM.out; simp only [List.length_nil]; omega); intro v2 w2 ho hb hg hat; rw [List.nil_append] at ho; obtain ⟨Ao, co, eo⟩ := Kd.R_slice ho; subst eo; have n5_ := Aside0.mk hb; have n6_ := Aside0.mk ho; clear hb ho hg hat))
 go_ret
 exact ⟨_, w2, rfl, n6_.out, n5_.out, by rw [hl]⟩
def six : List ByteArray := [⟨#[43]⟩, ⟨#[63, 43]⟩, ⟨#[63]⟩, ⟨#[63, 63]⟩, ⟨#[39]⟩, ⟨#[63, 39]⟩]
theorem rep_new (W : World) : Calls Try.prog 46 #[.slice (some ⟨W.heap.size, 0, none⟩) 6 6] (W.alloc (.cells #[.string ⟨#[43]⟩, .string ⟨#[63, 43]⟩, .string ⟨#[63]⟩, .string ⟨#[63, 63]⟩, .string ⟨#[39]⟩, .string ⟨#[63, 39]⟩] 9)) fun e w' => ∃ b, e = .returned (.pointer (some ⟨b, 0, none⟩)) ∧ W.heap.size ≤ b ∧ RepS w' b ∧ Below W.heap.size W w' := by
 have hown : (W.alloc (.cells #[.string ⟨#[43]⟩, .string ⟨#[63, 43]⟩, .string ⟨#[63]⟩, .string ⟨#[63, 63]⟩, .string ⟨#[39]⟩, .string ⟨#[63, 39]⟩] 9)).ownsRow 0 9 1 (.slice (some ⟨W.heap.size, 0, none⟩) six.length 6) six.length (encs Value.string six) :=
  ⟨rfl, .inr ⟨W.heap.size, 6, _, rfl, Nat.zero_le _, heap_alloc_new W _, Nat.le_refl _, by decide, rfl, rfl⟩⟩
 have hR : Kd.string.R 9 (W.alloc (.cells #[.string ⟨#[43]⟩, .string ⟨#[63, 43]⟩, .string ⟨#[63]⟩, .string ⟨#[63, 63]⟩, .string ⟨#[39]⟩, .string ⟨#[63, 39]⟩] 9)) 0 (fun _ => True) (.slice (some ⟨W.heap.size, 0, none⟩) six.length 6) six := Kd.R_of_own hown (fun _ _ => trivial)
 obtain ⟨-, -, hC⟩ := Kd.R_reads' hR
 refine (newRep _ 6 six _ hC rfl (by decide)).mono ?_
 rintro e w' ⟨v, w1, rfl, hv, hb, rfl⟩
 have hn : ∀ o : Obj, (W.alloc o).heap.size = W.heap.size + 1 := fun o => World.size_alloc _ _
 have hle := hb.size
 rw [hn] at hle
 have ho := Kd.own_of_R hv
 obtain ⟨hl, hor⟩ := ho
 rcases hor with ⟨_, h0⟩ | ⟨g, cap, cur, rfl, hg0, hg, h1, h2, h3, h4⟩
 ·exact absurd h0 (by decide)
 have hgl := blk_lt hg
 have hcur : ∀ (j : Nat) (x : Value), (encs Value.string six)[j]? = some x → cur[j]? = some x := by
  intro j x hj
  rw [← h4, List.getElem?_take] at hj
  split at hj
  ·simpa using hj
  ·cases hj
 refine ⟨_, rfl, by omega, .inl ⟨g, cap, cur, heap_alloc_new w1 _, (Below.heap_alloc _ _ _ hgl).trans hg, hcur 0 _ rfl, hcur 1 _ rfl, hcur 2 _ rfl, hcur 3 _ rfl, hcur 4 _ rfl, hcur 5 _ rfl⟩, ?_⟩
 have hb1 : Below W.heap.size W (W.alloc (.cells #[.string ⟨#[43]⟩, .string ⟨#[63, 43]⟩, .string ⟨#[63]⟩, .string ⟨#[63, 63]⟩, .string ⟨#[39]⟩, .string ⟨#[63, 39]⟩] 9)) := (Below.refl _ _).alloc (Nat.le_refl _) _
 exact (below_step hb1 hb).alloc (by omega) _
theorem isB_blk {B g : Nat} {bs : List Value} {w : World} (h : Lib.IsBuilder 86 5 B g bs w) : ∃ c, w.heap[g]? = some (.cells c 86 (0, 0)) := by
 rcases h with ⟨_, v, hb, _⟩ | ⟨_, v, hb, _⟩
 ·exact ⟨_, hb⟩
 ·exact ⟨_, hb⟩
theorem rep_blk {b : Nat} {w : World} (h : RepS w b) : ∃ c, w.heap[b]? = some (.cells c 130 (0, 0)) := by
 rcases h with ⟨g, co, C, hb, _⟩ | ⟨B, H, d, hb, _⟩
 ·exact ⟨_, hb⟩
 ·exact ⟨_, hb⟩
theorem ne_blk {w : World} {g k : Nat} {c c' : Array Value} {e e' : TypeId} {fr fr' : Nat × Nat} (h : w.heap[g]? = some (.cells c e fr)) (h' : w.heap[k]? = some (.cells c' e' fr')) (hne : e ≠ e') : g ≠ k := by
 rintro rfl
 rw [h] at h'
 simp only [Option.some.injEq, Obj.cells.injEq] at h'
 exact hne h'.2.1
theorem rep_frame {B g b : Nat} {bs : List Value} {w w1 : World} (h : RepS w b) (hu : Lib.IsBuilder 86 5 B g bs w) (hf : Frame g w w1) : RepS w1 b := by
 obtain ⟨c0, hc⟩ := isB_blk hu
 exact h.same fun k c e fr hk ho h86 => hf k c e fr hk ho (ne_blk hk hc h86)
theorem isB_rep {B g b : Nat} {bs : List Value} {w w1 : World} (h : Lib.IsBuilder 86 5 B g bs w) (hr : RepS w b) (hg : w.grownBy w1 (some b)) : Lib.IsBuilder 86 5 B g bs w1 := by
 obtain ⟨c, hb⟩ := rep_blk hr
 have key : ∀ p, Lib.BuilderAt 86 5 B g p bs w → Lib.BuilderAt 86 5 B g p bs w1 := by
  rintro p ⟨hB, v, hv, hown, hne⟩
  exact ⟨hB, v, (hg.block g (blk_lt hv) (fun e => ne_blk hv hb (by decide) (Option.some.inj e))).trans hv, hown.kept hg (Or.inr (Lib.ownBlock_ne hown hb (by decide))), hne⟩
 exact h.elim (fun x => .inl (key _ x)) (fun x => .inr (key _ x))
theorem fm_len {α : Type} (f : α → List UInt8) (l : List α) (n : Nat) : ((l.take n).flatMap f).length ≤ (l.flatMap f).length := by
 conv => rhs; rw [← List.take_append_drop n l, List.flatMap_append, List.length_append]
 omega
theorem fm_take {α : Type} (f : α → List UInt8) (l : List α) (n : Nat) (h : n < l.length) : (l.take (n + 1)).flatMap f = (l.take n).flatMap f ++ f l[n] := by
 rw [List.take_succ_eq_append_getElem h, List.flatMap_append]
 simp
theorem isb {w : World} {g B : Nat} (hb : w.heap[g]? = some (.cells #[.pointer none, .slice none 0 0] 86 (0, 0))) (hB : B ≤ g) : Lib.IsBuilder 86 5 B g (Lib.byteCells ([] : List UInt8)) w :=
 .inl ⟨hB, _, hb, ⟨rfl, Or.inl ⟨rfl, rfl⟩⟩, by simp [Value.ownBlock]⟩

theorem impl_SegmentsText.mono : ∀ a0 k, LeO (impl_SegmentsText.f k a0) (impl_SegmentsText.f (k + 1) a0) := by
 intro a0 k
 unfold impl_SegmentsText.f
 exact LeO.bind (LeO.refl _) (fun _ => LeO.ite (LeO.ite (LeO.refl _) (LeO.bind (impl_Segment_43.mono _ _) (fun _ => LeO.refl _))) (LeO.refl _))

set_option maxHeartbeats 8000000 in
set_option maxRecDepth 100000 in
theorem impl_SegmentsText.calls (k : Nat) (A0 : Option Addr) (c0 : Nat) (l0 : List (S68)) (r1 : ByteArray) (r2 : Int) (w : World) (hr0 : Kd.C k68 w A0 l0.length l0) (hc0 : l0.length ≤ c0) (h : impl_SegmentsText.f k l0 = some (r1, r2)) :
  Calls Try.prog 20 #[.slice A0 l0.length c0] w fun e w' => e = .returned (.tuple #[.string r1, .int .i64 r2]) ∧ Below w.heap.size w w' := by
 have HR0 := Aside0.mk hr0
 have HC0 := Aside0.mk hc0
 have HM := Aside0.mk (Kd.C_max hr0)
 clear hr0 hc0
 have HB := Aside0.mk (Below.refl w.heap.size w)
 unfold impl_SegmentsText.f at h
 replace h := Option.bind_eq_some_iff.mp h
 obtain ⟨t1, A1, h⟩ := h
 replace A1 := Aside0.mk A1
 cases t1 with
 | false =>
  rw [if_neg (by simp)] at h
  obtain ⟨rfl, rfl⟩ := Prod.mk.inj (Option.some.inj h)
  clear h
  go_enter Try.func20, Try.ntmps20
  go_wp2_with (first
   | ((with_reducible refine gate_callee (f := 42) rfl ?_); refine goesL_ (some 12) rfl rfl Try.func42 (by kernel_rfl) rfl #[.slice A0 l0.length c0] rfl (by (try simp only [List.map_toArray, List.map_cons, List.map_nil]); first | done | rfl) ?_; (with_reducible refine (impl_Segment_42.calls _ _ l0 _ _ ?side1 ?side2 A1.out).mono ?_); (case side1 => exact HR0.out); (case side2 => exact HC0.out); rintro e w1 ⟨rfl, hb⟩; refine ⟨_, rfl, ?_⟩; have n0_ := Aside0.mk (below_step HB.out hb.below); clear HB hb; have HB := n0_; clear n0_))
  go_ret2
  exact ⟨by first | rfl | (simp; done) | (simp [*]; done), HB.out⟩
 | true =>
  rw [if_pos rfl] at h
  by_cases c2 : (l0.length : Int) > 200
  ·rw [if_pos c2] at h
   obtain ⟨rfl, rfl⟩ := Prod.mk.inj (Option.some.inj h)
   have c2b : decide ((200 : Int) < (l0.length : Int)) = true := decide_eq_true c2
   clear h c2
   go_enter Try.func20, Try.ntmps20
   go_wp2_with (first
    | ((with_reducible refine gate_callee (f := 42) rfl ?_); refine goesL_ (some 12) rfl rfl Try.func42 (by kernel_rfl) rfl #[.slice A0 l0.length c0] rfl (by (try simp only [List.map_toArray, List.map_cons, List.map_nil]); first | done | rfl) ?_; (with_reducible refine (impl_Segment_42.calls _ _ l0 _ _ ?side1 ?side2 A1.out).mono ?_); (case side1 => exact HR0.out); (case side2 => exact HC0.out); rintro e w1 ⟨rfl, hb⟩; refine ⟨_, rfl, ?_⟩; have n0_ := Aside0.mk (below_step HB.out hb.below); clear HB hb; have HB := n0_; clear n0_))
   go_ret2
   exact ⟨by first | rfl | (simp; done) | (simp [*]; done), HB.out⟩
  rw [if_neg c2] at h
  have c2b : decide ((200 : Int) < (l0.length : Int)) = false := decide_eq_false c2
  clear c2
  replace h := Option.bind_eq_some_iff.mp h
  obtain ⟨t2, A2, h⟩ := h
  replace A2 := Aside0.mk A2
  cases t2 with
  | true =>
   rw [if_pos rfl] at h
   obtain ⟨rfl, rfl⟩ := Prod.mk.inj (Option.some.inj h)
   clear h
   go_enter Try.func20, Try.ntmps20
   go_wp2_with (first
    | ((with_reducible refine gate_callee (f := 42) rfl ?_); refine goesL_ (some 12) rfl rfl Try.func42 (by kernel_rfl) rfl #[.slice A0 l0.length c0] rfl (by (try simp only [List.map_toArray, List.map_cons, List.map_nil]); first | done | rfl) ?_; (with_reducible refine (impl_Segment_42.calls _ _ l0 _ _ ?side1 ?side2 A1.out).mono ?_); (case side1 => exact HR0.out); (case side2 => exact HC0.out); rintro e w1 ⟨rfl, hb⟩; refine ⟨_, rfl, ?_⟩; have n0_ := Aside0.mk (below_step HB.out hb.below); clear HB hb; have HB := n0_; clear n0_)
    | ((with_reducible refine gate_callee (f := 43) rfl ?_); (try (refine gate_guard (by rfl) ?_; dsimp only)); refine goesL_ (some 20) rfl rfl Try.func43 (by kernel_rfl) rfl #[.slice A0 l0.length c0, .func (.func 44) #[] #[]] rfl (by (try simp only [List.map_toArray, List.map_cons, List.map_nil]); first | done | rfl) ?_; (with_reducible refine (impl_Segment_43.calls k _ _ l0 _ _ ?side1 ?side2 A2.out).mono ?_); (case side1 => exact Kd.C_below HR0.out HB.out); (case side2 => exact HC0.out); rintro e w2 ⟨rfl, hb⟩; refine ⟨_, rfl, ?_⟩; have n0_ := Aside0.mk (below_step HB.out hb); clear HB hb; have HB := n0_; clear n0_))
   go_ret2
   exact ⟨by first | rfl | (simp; done) | (simp [*]; done), HB.out⟩
  | false =>
   rw [if_neg (by simp)] at h
   by_cases c3 : (textB l0).length ≤ 70368744177664
   rotate_left
   ·rw [if_neg c3] at h
    cases h
   rw [if_pos c3] at h
   have TL := Aside0.mk c3
   have H := Aside0.mk h
   clear h c3
   go_enter Try.func20, Try.ntmps20
   go_wp2_with (first
    | ((with_reducible refine gate_callee (f := 42) rfl ?_); refine goesL_ (some 12) rfl rfl Try.func42 (by kernel_rfl) rfl #[.slice A0 l0.length c0] rfl (by (try simp only [List.map_toArray, List.map_cons, List.map_nil]); first | done | rfl) ?_; (with_reducible refine (impl_Segment_42.calls _ _ l0 _ _ ?side1 ?side2 A1.out).mono ?_); (case side1 => exact HR0.out); (case side2 => exact HC0.out); rintro e w1 ⟨rfl, hb⟩; refine ⟨_, rfl, ?_⟩; have n0_ := Aside0.mk (below_step HB.out hb.below); clear HB hb; have HB := n0_; clear n0_)
    | ((with_reducible refine gate_callee (f := 43) rfl ?_); (try (refine gate_guard (by rfl) ?_; dsimp only)); refine goesL_ (some 20) rfl rfl Try.func43 (by kernel_rfl) rfl #[.slice A0 l0.length c0, .func (.func 44) #[] #[]] rfl (by (try simp only [List.map_toArray, List.map_cons, List.map_nil]); first | done | rfl) ?_; (with_reducible refine (impl_Segment_43.calls k _ _ l0 _ _ ?side1 ?side2 A2.out).mono ?_); (case side1 => exact Kd.C_below HR0.out HB.out); (case side2 => exact HC0.out); rintro e w2 ⟨rfl, hb⟩; refine ⟨_, rfl, ?_⟩; have n0_ := Aside0.mk (below_step HB.out hb); clear HB hb; have HB := n0_; clear n0_)
    | ((with_reducible refine gate_dst (N := 4) rfl ?_); refine box_event ?hg (N := 4) ?hd (cs := #[.pointer none, .slice none 0 0]) (t := 86) ?hr ?_; (case hd => rfl); (case hg => rfl); (case hr => first | (go_simp; done) | (go_simp; rfl)); intro gb hg w3 hbox hb; have n0_ := Aside0.mk (below_step HB.out hb); have n1_ := Aside0.mk (by rw [hg]; exact HB.out.size : w.heap.size ≤ gb); clear HB; have HB := n0_; have GB := n1_; have BK0 := Aside0.mk hbox; have hc0_ : w3.cell? ⟨gb, 0, none⟩ = some (.pointer none) := (blk_cell hbox 0).trans rfl; have hc1_ : w3.cell? ⟨gb, 1, none⟩ = some (.slice none 0 0) := (blk_cell hbox 1).trans rfl; have hf0_ := blk_frozen hbox 0; have hf1_ := blk_frozen hbox 1; clear n0_ n1_ hb hg hbox)
    | ((with_reducible refine gate_store (t := 86) (p := 4) rfl ?_); refine store_event (t := 86) (p := 4) (v := ?vo_w3) (w1 := ((w3.setCell ⟨gb, 0, none⟩ (.pointer none)).setCell ⟨gb, 1, none⟩ (.slice none 0 0))) ?hg ?ho ?hn ?hr ?_; (case ho => rfl); (case hg => rfl); (case hn => rfl); (case hr => first | (go_simp; done) | (go_simp; rfl)); intro w4 hw; have hk : w4.heap[gb]? = some (.cells #[.pointer none, .slice none 0 0] 86 (0, 0)) := (by rw [hw]; exact blk_put (cs := #[.pointer none, .slice none 0 0]) (blk_put (cs := #[.pointer none, .slice none 0 0]) BK0.out 0 _ rfl) 1 _ rfl); have n0_ := Aside0.mk ((by rw [hw]; exact below_set (below_set HB.out GB.out) GB.out : Below w.heap.size w w4)); have n1_ := Aside0.mk (isb hk GB.out); clear HB BK0 hc0_ hc1_ hf0_ hf1_; have HB := n0_; have HBU := n1_; clear n0_ n1_ hk hw)
    | (go_at_call 46; refine (rep_new w4).mono ?_; rintro e w5 ⟨b, rfl, hlb, hrep, hb⟩; have HBU5 := Aside0.mk (isB_below HBU.out hb); have HREP := Aside0.mk hrep; have n0_ := Aside0.mk (below_step HB.out hb); have GR := Aside0.mk (Nat.le_trans HB.out.size hlb); clear HB HBU hb hrep hlb; have HB := n0_; have HBU := HBU5; clear n0_ HBU5))
   go_loopg [27] l0.length (fun kq v27 wr => ∃ i : Nat, v27 = .int .i64 i ∧ Aside0 (kq = l0.length - i ∧ i ≤ l0.length) ∧ Aside0 (Lib.IsBuilder 86 5 w.heap.size gb (Lib.byteCells (textB (l0.take i))) wr) ∧ Aside0 (RepS wr b) ∧ Aside0 (Below w.heap.size w wr))
   case atStart => exact ⟨0, rfl, ⟨⟨rfl, Nat.zero_le _⟩⟩, HBU, HREP, HB⟩
   case round =>
    clear HBU HREP HB
    obtain ⟨i, rfl, HJ, HBU, HREP, HB⟩ := hrel
    by_cases hi : (i : Int) < (l0.length : Int)
    rotate_left
    ·have HE := Aside0.mk (List.take_of_length_le (by have := HJ.out; omega) : l0.take i = l0)
     have hbe := HBU.out
     rw [HE.out] at hbe
     have HBE := Aside0.mk hbe
     have hH := H.out
     clear hbe HBU
     by_cases c5 : ((textB l0).length : Int) > 65536
     ·rw [if_pos c5] at hH
      obtain ⟨rfl, rfl⟩ := Prod.mk.inj (Option.some.inj hH)
      have c5b : decide ((65536 : Int) < ((textB l0).length : Int)) = true := decide_eq_true c5
      clear c5 hH H
      go_wp2_with (go_at_call 49; refine (Try.Builder_Len w.heap.size gb _ wr HBE.out).mono ?_; rintro e w' ⟨rfl, rfl⟩; rw [Lib.byteCells_length])
      go_ret2
      exact ⟨by first | rfl | (simp; done) | (simp [*]; done), HB.out⟩
     rw [if_neg c5] at hH
     obtain ⟨rfl, rfl⟩ := Prod.mk.inj (Option.some.inj hH)
     have c5b : decide ((65536 : Int) < ((textB l0).length : Int)) = false := decide_eq_false c5
     clear c5 hH H
     go_wp2_with (first
      | (go_at_call 49; refine (Try.Builder_Len w.heap.size gb _ wr HBE.out).mono ?_; rintro e w' ⟨rfl, rfl⟩; rw [Lib.byteCells_length])
      | (go_at_call 50; refine (Try.Builder_String_any w.heap.size gb (textB l0) _ HBE.out HB.out.size).mono ?_; rintro e w5 ⟨rfl, hb⟩; have n0_ := Aside0.mk (HB.out.trans hb); clear HB hb; have HB := n0_; clear n0_))
     go_ret2
     exact ⟨by first | rfl | (simp; done) | (simp [*]; done), HB.out⟩


    have hin : i < l0.length := by omega
    have hi0 : (0 : Int) ≤ (i : Int) := by omega
    obtain ⟨ad, A_1, c_1, e0, hx0, hx1, hl1, hr1⟩ := at_T68 HR0.out i hi0 hi
    cases e0
    replace hx0 := (HB.out.cell (World.block_lt_of_cell? w _ hx0)).trans hx0
    replace hx1 := (HB.out.cell (World.block_lt_of_cell? w _ hx1)).trans hx1
    have esg : rd_T68 l0 (i : Int) = l0[i] := by simp [rd_T68, List.getD_eq_getElem?_getD, List.getElem?_eq_getElem hin]
    rw [esg] at hx0 hx1 hl1 hr1
    rw [Int.toNat_natCast] at hx0 hx1
    have TK := Aside0.mk (fm_take segBytes l0 i hin)
    have TLL := Aside0.mk (fm_len segBytes l0 (i + 1))
    clear esg
    generalize l0[i] = sg at hx0 hx1 hl1 hr1 TK
    clear hin
    have HR1 := Aside0.mk hr1
    have HL1 := Aside0.mk hl1
    clear hr1 hl1
    have hib : decide ((i : Int) < (l0.length : Int)) = true := decide_eq_true hi
    have BND : Aside0 ((textB (l0.take i)).length + sg.f0.size + (sg.f1.flatMap partBytes).length + 1 ≤ 70368744177664) := by
     have h1 := TL.out
     have h2 := TLL.out
     have h3 := congrArg List.length TK.out
     simp only [textB, segBytes, List.length_append, List.length_singleton] at h1 h2 h3 ⊢
     have h4 : sg.f0.data.toList.length = sg.f0.size := by rw [Array.length_toList, ByteArray.size_data]
     exact ⟨by omega⟩
    go_upto_region 10 with (fail)
    have BK := Aside0.mk (heap_alloc_new wr (.cells #[.string sg.f0, .slice A_1 sg.f1.length c_1] 68))
    have HB1 := Aside0.mk ((Below.refl wr.heap.size wr).alloc (Nat.le_refl _) (.cells #[.string sg.f0, .slice A_1 sg.f1.length c_1] 68))
    generalize wr.alloc (.cells #[.string sg.f0, .slice A_1 sg.f1.length c_1] 68) = W1 at BK HB1 ⊢
    generalize wr.heap.size = g7 at BK ⊢
    have HBU1 := Aside0.mk (isB_below HBU.out HB1.out)
    have HREP1 := Aside0.mk (HREP.out.below HB1.out)
    have HBW1 := Aside0.mk (below_step HB.out HB1.out)
    have k0 : W1.cell? ⟨g7, 0, none⟩ = some (.string sg.f0) := cell_heap BK.out rfl
    clear HBU HREP HB HB1 hx0 hx1
    go_wp2_with (go_at_call 47; refine (write_calls w.heap.size gb (textB (l0.take i)) sg.f0 W1 HBU1.out (by have := BND.out; omega) HBW1.out.size).mono ?_; rintro e W2 ⟨rfl, hbu, hb, hfr⟩; have HBU2 := Aside0.mk hbu; have HREP2 := Aside0.mk (rep_frame HREP1.out HBU1.out hfr); have HBW2 := Aside0.mk (HBW1.out.trans hb); have k1 : W2.cell? ⟨g7, 1, none⟩ = some (.slice A_1 sg.f1.length c_1) := (by obtain ⟨c_, hc_⟩ := isB_blk HBU1.out; exact cell_heap ((hfr g7 _ _ _ BK.out (.inl (by decide)) (ne_blk BK.out hc_ (by decide))).trans BK.out) rfl); clear hbu hb hfr HBU1 HREP1 HBW1 BK k0)
    go_loopg [37] sg.f1.length (fun kq v37 wr => ∃ j : Nat, v37 = .int .i64 j ∧ Aside0 (kq = sg.f1.length - j ∧ j ≤ sg.f1.length) ∧ Aside0 (Lib.IsBuilder 86 5 w.heap.size gb (Lib.byteCells (textB (l0.take i) ++ sg.f0.data.toList ++ (sg.f1.take j).flatMap partBytes)) wr) ∧ Aside0 (RepS wr b) ∧ Aside0 (Below w.heap.size w wr))
    case atStart => exact ⟨0, rfl, ⟨⟨rfl, Nat.zero_le _⟩⟩, ⟨by simpa using HBU2.out⟩, HREP2, HBW2⟩
    case round =>
     clear HBU2 HREP2 HBW2 k1
     obtain ⟨j, rfl, HJ2, HBU, HREP, HB⟩ := hrel
     by_cases hj : (j : Int) < (sg.f1.length : Int)
     rotate_left
     ·have HJE := Aside0.mk (List.take_of_length_le (by have := HJ2.out; omega) : sg.f1.take j = sg.f1)
      go_wp2_with (go_at_call 47; refine (write_calls w.heap.size gb _ _ wr HBU.out (by have h_ := BND.out; rw [HJE.out]; simp only [List.length_append]; have h2_ : sg.f0.data.toList.length = sg.f0.size := (by rw [Array.length_toList, ByteArray.size_data]); have h3_ : (⟨#[39]⟩ : ByteArray).size = 1 := rfl; omega) HB.out.size).mono ?_; rintro e W4 ⟨rfl, hbu, hb, hfr⟩; have HBU4 := Aside0.mk hbu; have HREP4 := Aside0.mk (rep_frame HREP.out HBU.out hfr); have HB4 := Aside0.mk (HB.out.trans hb); clear hbu hb hfr HBU HREP HB)
      go_roundg (l0.length - (i + 1))
      case measure => have := HJ.out; omega
      case rel =>
       refine ⟨i + 1, by rw [wi1 i (by have := HM.out; have := HJ.out; omega)], ⟨⟨rfl, by have := HJ.out; omega⟩⟩, ⟨?_⟩, HREP4, HB4⟩
       have h1 := HBU4.out
       rw [HJE.out] at h1
       have h2 : textB (l0.take (i + 1)) = textB (l0.take i) ++ sg.f0.data.toList ++ sg.f1.flatMap partBytes ++ (⟨#[39]⟩ : ByteArray).data.toList := by
        unfold textB
        rw [TK.out, segBytes]
        simp
       rw [h2]
       exact h1
     have hjn : j < sg.f1.length := by omega
     have hj0 : (0 : Int) ≤ (j : Int) := by omega
     obtain ⟨adp, ep, hxp⟩ := Kd.at_string HR1.out j hj0 hj
     cases ep
     replace hxp := (HB.out.cell (World.block_lt_of_cell? w _ hxp)).trans hxp
     have ep : rdOf ByteArray.empty sg.f1 (j : Int) = sg.f1[j] := by simp [rdOf, List.getD_eq_getElem?_getD, List.getElem?_eq_getElem hjn]
     rw [ep, Int.toNat_natCast] at hxp
     have PK := Aside0.mk (fm_take partBytes sg.f1 j hjn)
     have PL := Aside0.mk (fm_len partBytes sg.f1 (j + 1))
     clear ep
     generalize sg.f1[j] = pt at hxp PK
     clear hjn
     have hjb : decide ((j : Int) < (sg.f1.length : Int)) = true := decide_eq_true hj
     obtain ⟨q, hq⟩ : ∃ q : ByteArray, q = ⟨(escL pt.data.toList).toArray⟩ := ⟨_, rfl⟩
     have HQ := Aside0.mk hq
     have PB : Aside0 ((textB (l0.take i)).length + sg.f0.size + ((sg.f1.take j).flatMap partBytes).length + 1 + q.size ≤ 70368744177664 ∧ pt.size ≤ q.size) := by
      have h1 := BND.out
      have h2 := PL.out
      have h3 := congrArg List.length PK.out
      have h4 : q.size = (escL pt.data.toList).length := by rw [hq]; simp [ByteArray.size]
      have h5 := length_escL pt.data.toList
      have h6 : pt.data.toList.length = pt.size := by rw [Array.length_toList, ByteArray.size_data]
      simp only [partBytes, List.length_append, List.length_cons] at h1 h2 h3 ⊢
      exact ⟨by omega, by omega⟩
     have hrc := Aside0.mk (rep_calls b pt wr HREP.out (by have := PB.out; omega))
     rw [← hq] at hrc
     clear hq
     have gq : (9223372036854775807 < 1 + q.size) = False := eq_false (by have := PB.out; omega)
     go_wp2_with (first
      | (go_at_call 48; refine hrc.out.mono ?_; rintro e W3 ⟨rfl, hrep, hgr⟩; have HBU3 := Aside0.mk (isB_rep HBU.out HREP.out hgr); have HREP3 := Aside0.mk hrep; have HB3 := Aside0.mk (HB.out.grown hgr HB.out.size (fun k_ hk_ => by rw [← Option.some.inj hk_]; exact GR.out)); clear hrep hgr HBU HREP HB hrc)
      | (go_at_call 47; refine (write_calls w.heap.size gb _ _ W3 HBU3.out (by have h_ := PB.out; simp only [List.length_append, ByteArray.size_append]; have h2_ : sg.f0.data.toList.length = sg.f0.size := (by rw [Array.length_toList, ByteArray.size_data]); have h3_ : (⟨#[43]⟩ : ByteArray).size = 1 := rfl; omega) HB3.out.size).mono ?_; rintro e W4 ⟨rfl, hbu, hb, hfr⟩; have HBU4 := Aside0.mk hbu; have HREP4 := Aside0.mk (rep_frame HREP3.out HBU3.out hfr); have HB4 := Aside0.mk (HB3.out.trans hb); clear hbu hb hfr HBU3 HREP3 HB3))
     go_roundg (sg.f1.length - (j + 1))
     case measure => have := HJ2.out; omega
     case rel =>
      refine ⟨j + 1, by rw [wi1 j (by have := HJ2.out; have := Kd.C_max HR1.out; omega)], ⟨⟨rfl, by have := HJ2.out; omega⟩⟩, ⟨?_⟩, HREP4, HB4⟩
      have h1 := HBU4.out
      have h2 : ((⟨#[43]⟩ : ByteArray) ++ q).data.toList = partBytes pt := by rw [HQ.out]; simp [partBytes]
      rw [h2, List.append_assoc, ← PK.out] at h1
      exact h1
end Go.Proofs.Ytkiooiijnolocaa.XFnExactSegmentsText
