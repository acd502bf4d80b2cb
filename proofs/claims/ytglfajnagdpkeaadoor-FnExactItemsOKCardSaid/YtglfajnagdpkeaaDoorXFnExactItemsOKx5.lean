-- PRINTED by xprint.py (our own program, over the kit's print.py)
import Derived.Test.YtglfajnagdpkeaaDoorXFnExactItemsOKx0
namespace Go.Proofs.YtglfajnagdpkeaaDoor.XFnExactItemsOK
open Go.RowKit Go.Proofs.YtglfajnagdpkeaaDoorW.PrintWords Go.Proofs.YtglfajnagdpkeaaDoorW.PrintLast Go.Proofs.YtglfajnagdpkeaaDoorW.PrintMore Go.Proofs.YtglfajnagdpkeaaDoorW.Idx
attribute [local go_sem] max2_int min2_int max_two min_two max_three min_three max_four min_four   -- for this text's walks alone
set_option linter.unusedVariables false
set_option linter.unusedSimpArgs false

/-! ### impl_itemAt: function 20 -/
def impl_itemAt.f (l0 : List S45) (a1 : ByteArray) : Option Int := some (idxV (fun x => x.f0.toList == a1.toList) l0)

theorem impl_itemAt.lit (c : ByteArray) (x : S45) (B1 : Nat) (W : World) (h1 : W.cell? ⟨B1, 0, none⟩ = some (.string c)) :
    Calls Tryd.prog 35 #[.agg #[.string x.f0, .int .i64 x.f1, .int .i64 x.f2, .int .i64 x.f3, .int .i64 x.f4], .pointer (some ⟨B1, 0, none⟩)] W fun e w' => e = .returned (.bool (x.f0.toList == c.toList)) ∧ Below W.heap.size W w' := by
  have hu := Tryd.underlying45
  have HB := Aside0.mk (Below.refl W.heap.size W)
  have hlt := World.block_lt_of_cell? W _ h1
  go_enter Tryd.func35, Tryd.ntmps35
  go_wp2
  go_ret
  exact ⟨rfl, by repeat (first | exact HB.out | apply below_alloc | apply pw_below_drewN | apply below_drew1)⟩

theorem impl_itemAt.idx (p : S45 → Bool) (w : World) (B1 : Nat) (A0 : Option Addr) (c0 : Nat) (l0 : List S45) (hr0 : Kd.C k45 w A0 l0.length l0)
    (hg : ∀ (x : S45) (W : World), Below w.heap.size w W → Calls Tryd.prog 35 #[.agg #[.string x.f0, .int .i64 x.f1, .int .i64 x.f2, .int .i64 x.f3, .int .i64 x.f4], .pointer (some ⟨B1, 0, none⟩)] W fun e w' => e = .returned (.bool (p x)) ∧ Below w.heap.size w w') :
    Calls Tryd.prog 34 #[.slice A0 l0.length c0, .func (.func 35) #[] #[.pointer (some ⟨B1, 0, none⟩)]] w fun e w' => e = .returned (.int .i64 (idxV p l0)) ∧ Below w.heap.size w w' := by
  have hlen : l0.length ≤ 9223372036854775807 := hr0.2.1
  have HR0 := Aside0.mk hr0
  have HG := Aside0.mk hg
  clear hr0 hg
  go_enter Tryd.func34, Tryd.ntmps34
  go_wp2
  go_loopg [5, 8] l0.length (fun gg _ s8 wr => ∃ kk : Nat, kk ≤ l0.length ∧ l0.length - kk ≤ gg ∧ s8 = .int .i64 kk ∧ Aside0 (Below w.heap.size w wr) ∧ Aside0 (∀ j, j < kk → p (l0.getD j z45) = false))
  case atStart => exact ⟨0, Nat.zero_le _, by omega, rfl, ⟨Below.refl _ w⟩, ⟨fun j hj => absurd hj (Nat.not_lt_zero _)⟩⟩
  case round =>
    obtain ⟨kk, hkk, hgg, rfl, BW, AN⟩ := hrel
    by_cases hlt : kk < l0.length
    · have hltz : (kk : Int) < (l0.length : Int) := by omega
      obtain ⟨ad, e0, hx0, hx1, hx2, hx3, hx4⟩ := at_T45 (Kd.C_below HR0.out BW.out) kk (by omega) (by omega)
      cases e0
      simp only [Int.toNat_natCast] at hx0 hx1 hx2 hx3 hx4
      have hcall := HG.out (rd_T45 l0 kk) wr BW.out
      have HY : Aside0 (rd_T45 l0 kk = l0.getD kk z45) := ⟨by simp [rd_T45]⟩
      generalize hy : rd_T45 l0 kk = y at hcall hx0 hx1 hx2 hx3 hx4 HY
      clear hy
      cases hq : p y with
      | true =>
        rw [hq] at hcall
        go_wp2_with (go_at_call 35; refine hcall.mono ?_; rintro e w' ⟨rfl, hb'⟩)
        go_ret
        exact ⟨by rw [idxV_hit p l0 z45 kk hlt (by rw [← HY.out]; exact hq) AN.out]; rfl, hb'⟩
      | false =>
        rw [hq] at hcall
        go_wp2_with (go_at_call 35; refine hcall.mono ?_; rintro e w' ⟨rfl, hb'⟩)
        go_roundg (l0.length - (kk + 1))
        case measure => omega
        case rel =>
          refine ⟨kk + 1, by omega, by omega, by go_num, ⟨hb'⟩, ⟨fun j hj => ?_⟩⟩
          by_cases e : j = kk
          · subst e
            rw [← HY.out]; exact hq
          · exact AN.out j (by omega)
    · have hltz : ¬ (kk : Int) < (l0.length : Int) := by omega
      have hk : kk = l0.length := by omega
      subst hk
      go_wp2
      go_ret
      exact ⟨by rw [idxV_miss p l0 z45 AN.out]; rfl, BW.out⟩

set_option maxHeartbeats 8000000 in
set_option maxRecDepth 100000 in
theorem impl_itemAt.calls (A0 : Option Addr) (c0 : Nat) (l0 : List (S45)) (a1 : ByteArray) (r : Int) (w : World) (hr0 : Kd.C k45 w A0 l0.length l0) (hc0 : l0.length ≤ c0) (h : impl_itemAt.f l0 a1 = some r) :
    Calls Tryd.prog 20 #[.slice A0 l0.length c0, .string a1] w fun e w' => e = .returned (.int .i64 r) ∧ Below w.heap.size w w' := by
  obtain rfl := Option.some.inj h
  clear h
  have HR0 := Aside0.mk hr0
  clear hr0
  go_enter Tryd.func20, Tryd.ntmps20
  go_wp2_with fail
  have HB : Aside0 (Below w.heap.size w (w.alloc (.cells #[.string a1] 9))) := ⟨(Below.refl _ _).alloc (Nat.le_refl _) _⟩
  have HG : Aside0 (∀ (x : S45) (W : World), Below (w.alloc (.cells #[.string a1] 9)).heap.size (w.alloc (.cells #[.string a1] 9)) W →
      Calls Tryd.prog 35 #[.agg #[.string x.f0, .int .i64 x.f1, .int .i64 x.f2, .int .i64 x.f3, .int .i64 x.f4], .pointer (some ⟨w.heap.size, 0, none⟩)] W fun e w' => e = .returned (.bool (x.f0.toList == a1.toList)) ∧ Below (w.alloc (.cells #[.string a1] 9)).heap.size (w.alloc (.cells #[.string a1] 9)) w') := ⟨fun x W hb =>
    (impl_itemAt.lit a1 x w.heap.size W ((hb.cell (p := ⟨w.heap.size, 0, none⟩) (by simp)).trans (by simp))).mono fun e w' ⟨he, hd⟩ => ⟨he, hb.trans (hd.mono hb.size)⟩⟩
  refine (impl_itemAt.idx (fun x => x.f0.toList == a1.toList) _ w.heap.size A0 c0 l0 (Kd.C_below HR0.out HB.out) HG.out).mono ?_
  rintro e w' ⟨he, hb⟩
  generalize hq : idxV (fun x : S45 => x.f0.toList == a1.toList) l0 = b0 at he
  have HQ := Aside0.mk hq
  clear hq
  subst he
  go_wp2
  go_ret
  exact ⟨by rw [HQ.out]; rfl, HB.out.trans (hb.mono (by simp))⟩


/-! ### impl_areDigits: function 30 -/
def impl_areDigits.f (a0 : ByteArray) : Option Bool := if a0.size < 4611686018427387904 then some (a0.data.toList.all fun c => decide (48 ≤ c.toNat ∧ c.toNat ≤ 57)) else none

theorem impl_areDigits.dig (c : UInt8) : ([48, 49, 50, 51, 52, 53, 54, 55, 56, 57] : List UInt8).contains c = decide (48 ≤ c.toNat ∧ c.toNat ≤ 57) := by
  rw [Bool.eq_iff_iff, decide_eq_true_eq, List.contains_iff_mem]
  simp only [List.mem_cons, List.not_mem_nil, or_false]
  constructor
  · rintro (rfl | rfl | rfl | rfl | rfl | rfl | rfl | rfl | rfl | rfl) <;> decide
  · intro h
    have : c.toNat = 48 ∨ c.toNat = 49 ∨ c.toNat = 50 ∨ c.toNat = 51 ∨ c.toNat = 52 ∨ c.toNat = 53 ∨ c.toNat = 54 ∨ c.toNat = 55 ∨ c.toNat = 56 ∨ c.toNat = 57 := by omega
    rcases this with h | h | h | h | h | h | h | h | h | h <;> simp [← UInt8.toNat_inj, h]
theorem impl_areDigits.trim (l cs : List UInt8) : (Lib.trimS l cs = []) ↔ l.all cs.contains = true := by
  unfold Lib.trimS Lib.trimLeftS Lib.trimRightS
  have key : ∀ (p : UInt8 → Bool) (m : List UInt8), m.dropWhile p = [] ↔ m.all p = true := by
    intro p m
    induction m with
    | nil => simp
    | cons x m ih =>
      by_cases hx : p x = true
      · rw [List.dropWhile_cons_of_pos hx, ih, List.all_cons, hx, Bool.true_and]
      · rw [List.dropWhile_cons_of_neg hx, List.all_cons]
        simp [hx]
  rw [key, List.all_reverse]
  constructor
  · intro h
    have h2 := List.takeWhile_append_dropWhile (p := cs.contains) (l := l.reverse)
    have h3 : l.reverse.all cs.contains = true := by
      rw [← h2, List.all_append, Bool.and_eq_true]
      exact ⟨List.all_takeWhile, h⟩
    rwa [List.all_reverse] at h3
  · intro h
    have h3 : l.reverse.all cs.contains = true := by rwa [List.all_reverse]
    rw [(key _ _).2 h3]
    rfl

set_option maxHeartbeats 8000000 in
set_option maxRecDepth 100000 in
theorem impl_areDigits.calls (a0 : ByteArray) (r : Bool) (w : World) (h : impl_areDigits.f a0 = some r) :
    Calls Tryd.prog 30 #[.string a0] w fun e w' => e = .returned (.bool r) ∧ Below w.heap.size w w' := by
  unfold impl_areDigits.f at h
  by_cases c1 : a0.size < 4611686018427387904
  · rw [if_pos c1] at h
    obtain rfl := Option.some.inj h
    clear h
    have hq : (⟨(Lib.trimS a0.data.toList [48, 49, 50, 51, 52, 53, 54, 55, 56, 57]).toArray⟩ : ByteArray).toList.isEmpty = a0.data.toList.all fun c => decide (48 ≤ c.toNat ∧ c.toNat ≤ 57) := by
      rw [Lib.toList_data]
      have := impl_areDigits.trim a0.data.toList [48, 49, 50, 51, 52, 53, 54, 55, 56, 57]
      rw [show (([48, 49, 50, 51, 52, 53, 54, 55, 56, 57] : List UInt8).contains) = (fun c : UInt8 => decide (48 ≤ c.toNat ∧ c.toNat ≤ 57)) from funext impl_areDigits.dig] at this
      show (Lib.trimS a0.data.toList [48, 49, 50, 51, 52, 53, 54, 55, 56, 57]).isEmpty = _
      rw [Bool.eq_iff_iff, List.isEmpty_iff]
      exact this
    have HQ := Aside0.mk hq
    have SZ := Aside0.mk (show a0.size ≤ 9223372036854775807 by omega)
    clear hq c1
    go_enter Tryd.func30, Tryd.ntmps30
    go_wp2_with (go_at_call 43; refine (Tryd.strings_Trim_ascii a0 ⟨#[48, 49, 50, 51, 52, 53, 54, 55, 56, 57]⟩ _ SZ.out (by decide) (ascii_of_all (by decide))).mono ?_; rintro e w1 ⟨rfl, hb⟩; have HB := Aside0.mk hb; clear hb)
    go_ret
    exact ⟨by first | rfl | (rw [← HQ.out]; rfl) | (rw [← HQ.out]; simp; done), HB.out⟩
  · rw [if_neg c1] at h
    cases h


/-! ### impl_checkOf: function 32 -/
def impl_checkOf.l0 : Nat → ByteArray → Int → Int → Int → Option (Int)
  | 0, _, _, _, _ => none
  | k + 1, x0, x3, x4, x5 => if x5 ≥ 0 then (if 0 ≤ x5 then (if x5 < (x0.size : Int) then (impl_checkOf.l0 k x0 (wrap64 (x3 + (wrap64 (x4 * (((bt x0 x5) - 48) % 256))))) (wrap64 (4 - x4)) (wrap64 (x5 - 1))) else (none)) else (none)) else (some (Int.tmod (wrap64 (10 - (Int.tmod x3 10))) 10))
def impl_checkOf.f (k : Nat) (a0 : ByteArray) : Option (Int) := impl_checkOf.l0 k a0 0 3 (wrap64 ((a0.size : Int) - 1))
theorem impl_checkOf.mono_l : ∀ k, (∀ y0 y1 y2 y3, LeO (impl_checkOf.l0 k y0 y1 y2 y3) (impl_checkOf.l0 (k + 1) y0 y1 y2 y3))
  | 0 => fun _ _ _ _ r h => by simp [impl_checkOf.l0] at h
  | k + 1 => by
    have ih0 := impl_checkOf.mono_l k
    · intro y0 y1 y2 y3
      unfold impl_checkOf.l0
      repeat' first
      | (with_reducible exact ih0 _ _ _ _)
      | (with_reducible exact LeO.refl _)
      | (with_reducible exact LeO.none _)
      | (with_reducible refine LeO.ite ?_ ?_)
      | (with_reducible refine LeO.bind ?_ (fun _ => ?_))
      | exact ih0 _ _ _ _
      | exact LeO.none _
      | refine LeO.ite ?_ ?_
      | refine LeO.bind ?_ (fun _ => ?_)
theorem impl_checkOf.mono : ∀ a0 k, LeO (impl_checkOf.f k a0) (impl_checkOf.f (k + 1) a0) := by
  intro a0 k
  have ih0 := impl_checkOf.mono_l k
  unfold impl_checkOf.f
  repeat' first
      | (with_reducible exact ih0 _ _ _ _)
      | (with_reducible exact LeO.refl _)
      | (with_reducible exact LeO.none _)
      | (with_reducible refine LeO.ite ?_ ?_)
      | (with_reducible refine LeO.bind ?_ (fun _ => ?_))
      | exact ih0 _ _ _ _
      | exact LeO.none _
      | refine LeO.ite ?_ ?_
      | refine LeO.bind ?_ (fun _ => ?_)
set_option maxHeartbeats 8000000 in
set_option maxRecDepth 100000 in
theorem impl_checkOf.calls (k : Nat) (a0 : ByteArray) (r : Int) (w : World) (h : impl_checkOf.f k a0 = some r) :
    Calls Tryd.prog 32 #[.string a0] w fun e w' => e = .returned (.int .i64 r) ∧ Drawn0 w w' := by
  have H : (impl_checkOf.l0 k a0 0 3 (wrap64 ((a0.size : Int) - 1))) = some r := h
  clear h
  have H' := Aside0.mk H
  clear H
  go_enter Tryd.func32, Tryd.ntmps32
  go_wp2
  go_loopg [3, 4, 5] k (fun kq v3 v4 v5 w' => ∃ (x3_1 : Int) (x4_1 : Int) (x5_1 : Int), v3 = .int .i64 x3_1 ∧ v4 = .int .i64 x4_1 ∧ v5 = .int .i64 x5_1 ∧ Aside0 (impl_checkOf.l0 kq a0 x3_1 x4_1 x5_1 = some r) ∧ Aside0 (kq ≤ k) ∧ Drawn0 w w')
  case atStart => exact ⟨(0), (3), (wrap64 ((a0.size : Int) - 1)), (by first | rfl | (simp; done) | (simp [*]; done)), (by first | rfl | (simp; done) | (simp [*]; done)), (by first | rfl | (simp; done) | (simp [*]; done)), H', ⟨Nat.le_refl _⟩, by repeat (first | exact Drawn0.refl _ | apply Drawn0.step)⟩
  case round =>
    clear H'
    obtain ⟨x3_1, x4_1, x5_1, rfl, rfl, rfl, HA, HK1, ⟨m1, rfl⟩⟩ := hrel
    cases gk with
    | zero => exact absurd HA.out (by simp [impl_checkOf.l0])
    | succ k1 =>
      have H := HA.out
      clear HA
      simp only [impl_checkOf.l0] at H
      by_cases c2 : x5_1 ≥ 0
      · rw [if_pos c2] at H
        have c2b0 : decide (0 ≤ x5_1) = true := decide_eq_true c2
        clear c2
        by_cases c3 : 0 ≤ x5_1
        · rw [if_pos c3] at H
          have c3b0 : decide (0 ≤ x5_1) = true := decide_eq_true c3
          clear c3
          by_cases c4 : x5_1 < (a0.size : Int)
          · rw [if_pos c4] at H
            have c4b0 : decide (x5_1 < (a0.size : Int)) = true := decide_eq_true c4
            clear c4
            have H' := Aside0.mk H
            clear H
            have p5 : 0 ≤ (x5_1 : Int) := of_decide_eq_true (by first | (with_reducible assumption) | assumption)
            have q5 : x5_1 < (a0.size : Int) := of_decide_eq_true (by first | (with_reducible assumption) | assumption)
            have hx5 := bt_at a0 x5_1
            replace p5 := eq_true p5
            replace q5 := eq_true q5
            go_wp2
            go_roundg k1
            case measure => have := HK1.out; omega
            case rel => exact ⟨(wrap64 (x3_1 + (wrap64 (x4_1 * (((bt a0 x5_1) - 48) % 256))))), (wrap64 (4 - x4_1)), (wrap64 (x5_1 - 1)), (by first | rfl | (simp; done) | (simp [*]; done)), (by first | rfl | (simp; done) | (simp [*]; done)), (by first | rfl | (simp; done) | (simp [*]; done)), H', ⟨by have := HK1.out; omega⟩, by repeat (first | exact Drawn0.refl _ | apply Drawn0.step)⟩
          · rw [if_neg c4] at H
            exact absurd H (by simp)
        · rw [if_neg c3] at H
          exact absurd H (by simp)
      · rw [if_neg c2] at H
        have c2b0 : decide (0 ≤ x5_1) = false := decide_eq_false c2
        clear c2
        obtain rfl := Option.some.inj H
        go_wp2
        go_ret
        exact ⟨by first | rfl | (simp; done) | (simp [*]; done), by repeat (first | exact Drawn0.refl _ | apply Drawn0.step)⟩

/-! ### impl_numberOf: function 42 -/
def impl_numberOf.g : Lib.NumEnd Int → Option Int
  | .ok v => some v
  | _ => none
def impl_numberOf.f (a0 : ByteArray) : Option Int := if a0.size ≤ 1000 then impl_numberOf.g (Lib.atoiAll a0.data.toList) else none

set_option maxHeartbeats 8000000 in
set_option maxRecDepth 100000 in
theorem impl_numberOf.calls (a0 : ByteArray) (r : Int) (w : World) (hTab : TabT w) (h : impl_numberOf.f a0 = some r) :
    Calls Tryd.prog 42 #[.string a0] w fun e w' => e = .returned (.int .i64 r) ∧ Below w.heap.size w w' := by
  unfold impl_numberOf.f at h
  by_cases c1 : a0.size ≤ 1000
  · rw [if_pos c1] at h
    rcases hq : Lib.atoiAll a0.data.toList with v | _ | _
    · rw [hq] at h
      obtain rfl := Option.some.inj h
      have HQ := Aside0.mk hq
      have SZ := Aside0.mk (show a0.size ≤ 9223372036854775806 by omega)
      clear hq h c1 hTab
      go_enter Tryd.func42, Tryd.ntmps42
      have hbw : ∀ w' : World, (w' = w ∨ ∃ t, w' = Lib.bytesWorld w 5 t) → Below w.heap.size w w' := by
        rintro w' (rfl | ⟨t, rfl⟩)
        · exact Below.refl _ _
        · exact Lib.bytesWorld_below w _ t
      have HBW := Aside0.mk hbw
      clear hbw
      go_wp2_with (go_at_call 47; refine (Tryd.strconv_Atoi_ok a0 SZ.out _ HQ.out _).mono ?_; rintro e w1 ⟨rfl, hw⟩; have HB := Aside0.mk (HBW.out _ hw); clear hw)
      go_ret
      exact ⟨by first | rfl | (simp; done), HB.out⟩
    · rw [hq] at h
      cases h
    · rw [hq] at h
      cases h
  · rw [if_neg c1] at h
    cases h


end Go.Proofs.YtglfajnagdpkeaaDoor.XFnExactItemsOK
