-- PRINTED by xprint.py (our own program, over the kit's print.py)
import Derived.Test.YthlphmnplfnmnaaXFnChangex0
import Derived.Test.YthlphmnplfnmnaaXFnChangex1
import Derived.Test.YthlphmnplfnmnaaXFnChangex4
import Derived.Test.YthlphmnplfnmnaaXFnChangex5
namespace Go.Proofs.Ythlphmnplfnmnaa.XFnChange
open Go.RowKit Go.Proofs.YthlphmnplfnmnaaW.PrintWords Go.Proofs.YthlphmnplfnmnaaW.PrintLast Go.Proofs.YthlphmnplfnmnaaW.PrintMore Go.Proofs.YthlphmnplfnmnaaW.Idx
attribute [local go_sem] max2_int min2_int max_two min_two max_three min_three max_four min_four   -- for this text's walks alone
set_option linter.unusedVariables false
set_option linter.unusedSimpArgs false

/-! ### impl_Change: function 21 -/
/-- How many coins of value v the program takes for due, from n on downwards. -/
def impl_Change.pick (row rowN : List Int) (v due : Int) : Nat → Option Nat
  | 0 => if rd row due = rd rowN due then some 0 else none
  | n + 1 => if ((n + 1 : Nat) : Int) + rd row (due - ((n + 1 : Nat) : Int) * v) = rd rowN due then some (n + 1) else impl_Change.pick row rowN v due n
def impl_Change.top (c : S60) (due : Int) : Nat := (if due / c.f0 < c.f1 then due / c.f0 else c.f1).toNat
def impl_Change.walk (t : List (List Int)) (l : List S60) : Nat → Int → List Int → Option (List Int)
  | 0, _, out => some out
  | k + 1, due, out => (impl_Change.pick (t.getD k []) (t.getD (k + 1) []) (rd_T60 l (k : Int)).f0 due (impl_Change.top (rd_T60 l (k : Int)) due)).bind fun n => impl_Change.walk t l k (due - (n : Int) * (rd_T60 l (k : Int)).f0) (out.set k (n : Int))
def impl_Change.f (k : Nat) (a0 : Int) (l1 : List S60) : Option (List Int × Int) := if (l1.length : Int) ≤ 4096 then ((impl_HeldOK.f k l1).bind fun b => if b = true then (if 0 ≤ a0 ∧ a0 ≤ 10000 then ((impl_fewest.f a0 l1).bind fun t => if rd (t.getD l1.length []) a0 ≥ 721 then some ([], 8) else (impl_Change.walk t l1 l1.length a0 (List.replicate l1.length 0)).bind fun o => some (o, 0)) else some ([], 5)) else some ([], 1)) else some ([], 2)
theorem impl_Change.w64 {x : Int} (h0 : -9223372036854775808 ≤ x) (h1 : x ≤ 9223372036854775807) : wrap64 x = x := by
  unfold wrap64
  omega
theorem impl_Change.pick_le {row rowN : List Int} {v due : Int} : ∀ {n m : Nat}, impl_Change.pick row rowN v due n = some m → m ≤ n := by
  intro n
  induction n with
  | zero =>
    intro m h
    unfold impl_Change.pick at h
    split at h
    · have := Option.some.inj h; omega
    · cases h
  | succ n ih =>
    intro m h
    unfold impl_Change.pick at h
    split at h
    · have := Option.some.inj h; omega
    · have := ih h; omega
theorem impl_Change.tab_row : ∀ (l : List S60) (row : List Int) (k : Nat), k ≤ l.length → ((impl_fewest.tab row l).getD k []).length = row.length ∧ (impl_fewest.bd row → impl_fewest.bd ((impl_fewest.tab row l).getD k [])) := by
  intro l
  induction l with
  | nil =>
    intro row k h
    obtain rfl : k = 0 := by simpa using h
    exact ⟨rfl, id⟩
  | cons c l ih =>
    intro row k h
    cases k with
    | zero => exact ⟨rfl, id⟩
    | succ k =>
      obtain ⟨h1, h2⟩ := ih (impl_fewest.nxt row c) k (by simpa using h)
      rw [impl_fewest.tab, List.getD_cons_succ]
      exact ⟨h1.trans (impl_fewest.nxt_len row c), fun hb => h2 (impl_fewest.nxt_bd hb c)⟩
theorem impl_Change.isok (a : Int) : impl_within.f a 0 10000 = some (decide (0 ≤ a ∧ a ≤ 10000)) := by
  unfold impl_within.f
  by_cases h : a ≥ 0
  · rw [if_pos h]
    congr 1
    rw [decide_eq_decide]
    omega
  · rw [if_neg h]
    congr 1
    symm
    rw [decide_eq_false_iff_not]
    omega
def impl_Change.T15 : Bool × List (List Nat × List Nat) := (true, [([], []), ([0], [0]), ([], []), ([], []), ([3], [3]), ([2, 4], [2, 4]), ([1, 5], [1, 5]), ([6, 0, 1, 2, 3, 4, 5, 6], [6])])
def impl_Change.B15 : List Nat := [0, 1, 0, 0, 8, 28, 63, 127]
theorem impl_Change.tab15 : rtab .any (opsOf Try.f21 15) = impl_Change.T15 := by kernel_rfl
theorem impl_Change.bits15 : waitsOk impl_Change.T15.2 impl_Change.B15 = true := by kernel_rfl
def impl_Change.T16 : Bool × List (List Nat × List Nat) := (true, [([], []), ([], []), ([], []), ([1, 2], [1, 2]), ([3], [3]), ([], []), ([], []), ([], []), ([7], [7]), ([6, 8], [6, 8]), ([5, 9], [5, 9]), ([4, 10], [4, 10]), ([11], [11]), ([0, 12], [0, 12]), ([], []), ([], []), ([15], [15]), ([14, 16], [14, 16]), ([17], [17]), ([], []), ([18, 19], [18, 19]), ([20], [20]), ([13, 21], [13, 21])])
def impl_Change.B16 : List Nat := [0, 0, 0, 6, 14, 0, 0, 0, 128, 448, 992, 2046, 4094, 8191, 0, 0, 32768, 114688, 245760, 0, 1032192, 2080768, 4194303]
theorem impl_Change.tab16 : rtab .any (opsOf Try.f21 16) = impl_Change.T16 := by kernel_rfl
theorem impl_Change.bits16 : waitsOk impl_Change.T16.2 impl_Change.B16 = true := by kernel_rfl
def impl_Change.T18 : Bool × List (List Nat × List Nat) := (true, [([], []), ([], []), ([], []), ([], []), ([], []), ([], []), ([5], [5]), ([4, 6], [4, 6]), ([3, 7], [3, 7]), ([0, 1, 0, 1, 2], [0, 1]), ([9, 2, 0, 1, 2], [2, 9]), ([8, 10, 0, 1, 2, 3, 4, 5, 6, 7, 8, 9, 10], [3, 8])])
def impl_Change.B18 : List Nat := [0, 0, 0, 0, 0, 0, 32, 112, 248, 7, 519, 2047]
theorem impl_Change.tab18 : rtab .any (opsOf Try.f21 18) = impl_Change.T18 := by kernel_rfl
theorem impl_Change.bits18 : waitsOk impl_Change.T18.2 impl_Change.B18 = true := by kernel_rfl
theorem impl_Change.mono : ∀ a0 l1 k, LeO (impl_Change.f k a0 l1) (impl_Change.f (k + 1) a0 l1) := by
  intro a0 l1 k
  unfold impl_Change.f
  exact LeO.ite (LeO.bind (impl_HeldOK.mono _ _) (fun _ => LeO.refl _)) (LeO.refl _)
set_option maxHeartbeats 8000000 in
set_option maxRecDepth 100000 in
theorem impl_Change.calls (k : Nat) (a0 : Int) (A1 : Option Addr) (c1 : Nat) (l1 : List (S60)) (r1 : List Int) (r2 : Int) (w : World) (hr1 : Kd.C k60 w A1 l1.length l1) (hc1 : l1.length ≤ c1) (h : impl_Change.f k a0 l1 = some (r1, r2)) :
    Calls Try.prog 21 #[.int .i64 a0, .slice A1 l1.length c1] w fun e w' => ∃ v0_ : Value, e = .returned (.tuple #[v0_, .int .i64 r2]) ∧ Kd.R (Kd.int .i64) 3 w' w.heap.size (fun _ => True) v0_ r1 ∧ Below w.heap.size w w' := by
  unfold impl_Change.f at h
  have HR0 := Aside0.mk hr1
  have HCC := Aside0.mk hc1
  have HB := Aside0.mk (Below.refl w.heap.size w)
  have HM := Aside0.mk (Kd.C_max hr1)
  clear hr1 hc1
  by_cases d1 : (l1.length : Int) ≤ 4096
  case neg =>
    rw [if_neg d1] at h
    obtain ⟨rfl, rfl⟩ := Prod.mk.inj (Option.some.inj h)
    have H1 := Aside0.mk (show impl_Coins.f l1 = some false by unfold impl_Coins.f; rw [decide_eq_false d1])
    clear h d1
    go_enter Try.func21, Try.ntmps21
    go_wp2_with (go_at_call 46; refine (impl_Coins.calls _ _ _ _ _ HR0.out HCC.out H1.out).mono ?_; rintro e w' ⟨rfl, ⟨nd, rfl⟩⟩)
    go_ret2
    exact ⟨_, rfl, Kd.R_nil _ _ _ _ _, pw_below_drewN HB.out _⟩
  rw [if_pos d1] at h
  replace h := Option.bind_eq_some_iff.mp h
  obtain ⟨b, hb, h⟩ := h
  have H1 := Aside0.mk (show impl_Coins.f l1 = some true by unfold impl_Coins.f; rw [decide_eq_true d1])
  have H2 := Aside0.mk hb
  clear hb
  cases b with
  | false =>
    rw [if_neg (by simp)] at h
    obtain ⟨rfl, rfl⟩ := Prod.mk.inj (Option.some.inj h)
    clear h d1
    go_enter Try.func21, Try.ntmps21
    go_wp2_with (first
      | (go_at_call 46; refine (impl_Coins.calls _ _ _ _ _ HR0.out HCC.out H1.out).mono ?_; rintro e w1 ⟨rfl, ⟨nd, rfl⟩⟩)
      | (go_at_call 11; refine (impl_HeldOK.calls k _ _ _ _ _ (Kd.C_drewN HR0.out _) HCC.out H2.out).mono ?_; rintro e w2 ⟨rfl, hb2⟩))
    go_ret2
    exact ⟨_, rfl, Kd.R_nil _ _ _ _ _, below_step (pw_below_drewN HB.out _) hb2⟩
  | true =>
  rw [if_pos rfl] at h
  by_cases d2 : 0 ≤ a0 ∧ a0 ≤ 10000
  case neg =>
    rw [if_neg d2] at h
    obtain ⟨rfl, rfl⟩ := Prod.mk.inj (Option.some.inj h)
    have H3 := Aside0.mk (show impl_within.f a0 0 10000 = some false by rw [impl_Change.isok, decide_eq_false d2])
    clear h d1 d2
    go_enter Try.func21, Try.ntmps21
    go_wp2_with (first
      | (go_at_call 46; refine (impl_Coins.calls _ _ _ _ _ HR0.out HCC.out H1.out).mono ?_; rintro e w1 ⟨rfl, ⟨nd, rfl⟩⟩)
      | (go_at_call 11; refine (impl_HeldOK.calls k _ _ _ _ _ (Kd.C_drewN HR0.out _) HCC.out H2.out).mono ?_; rintro e w2 ⟨rfl, hb2⟩)
      | (go_at_call 33; refine (impl_within.calls _ _ _ _ _ H3.out).mono ?_; rintro e w3 ⟨rfl, ⟨nd3, rfl⟩⟩))
    go_ret2
    exact ⟨_, rfl, Kd.R_nil _ _ _ _ _, pw_below_drewN (below_step (pw_below_drewN HB.out _) hb2) _⟩
  rw [if_pos d2] at h
  replace h := Option.bind_eq_some_iff.mp h
  obtain ⟨t, ht, h⟩ := h
  have H3 := Aside0.mk (show impl_within.f a0 0 10000 = some true by rw [impl_Change.isok, decide_eq_true d2])
  have H4 := Aside0.mk ht
  have hgood : impl_fewest.good a0 l1 ∧ t = impl_fewest.tab (impl_fewest.first a0) l1 := by
    unfold impl_fewest.f at ht
    by_cases hg : impl_fewest.good a0 l1
    · rw [if_pos hg] at ht
      exact ⟨hg, (Option.some.inj ht).symm⟩
    · rw [if_neg hg] at ht
      cases ht
  obtain ⟨⟨_, _, hl12, hco⟩, htt⟩ := hgood
  obtain ⟨n0, rfl⟩ := Int.eq_ofNat_of_zero_le d2.1
  have hfl : (impl_fewest.first (n0 : Int)).length = n0 + 1 := by simp [impl_fewest.first]
  have HTL := Aside0.mk (show t.length = l1.length + 1 by rw [htt, impl_fewest.tab_len])
  have HTR := Aside0.mk (show ∀ q, q ≤ l1.length → (t.getD q []).length = n0 + 1 ∧ impl_fewest.bd (t.getD q []) by
    intro q hq
    have h_ := impl_Change.tab_row l1 (impl_fewest.first (n0 : Int)) q hq
    rw [← htt, hfl] at h_
    exact ⟨h_.1, h_.2 (impl_fewest.first_bd _)⟩)
  have HCO := Aside0.mk hco
  have HL := Aside0.mk hl12
  have HN := Aside0.mk (show n0 ≤ 10000 by omega)
  have HTLEN := HTL
  clear htt hfl ht hco hl12 d1
  have hn1 : (n0 : Int) ≤ 10000 := d2.2
  clear d2
  have hrl := HTR.out l1.length (Nat.le_refl _)
  by_cases d3 : rd (t.getD l1.length []) (n0 : Int) ≥ 721
  · rw [if_pos d3] at h
    obtain ⟨rfl, rfl⟩ := Prod.mk.inj (Option.some.inj h)
    have d3b : decide (721 ≤ rd (t.getD l1.length []) (n0 : Int)) = true := decide_eq_true d3
    have HD := Aside0.mk d3b
    clear h d3 d3b hrl
    go_enter Try.func21, Try.ntmps21
    go_wp2_with (first
      | (go_at_call 46; refine (impl_Coins.calls _ _ _ _ _ HR0.out HCC.out H1.out).mono ?_; rintro e w1 ⟨rfl, ⟨nd, rfl⟩⟩)
      | (go_at_call 11; refine (impl_HeldOK.calls k _ _ _ _ _ (Kd.C_drewN HR0.out _) HCC.out H2.out).mono ?_; rintro e w2 ⟨rfl, hb2⟩; have HB2 := Aside0.mk (below_step (pw_below_drewN HB.out nd) hb2); clear hb2)
      | (go_at_call 33; refine (impl_within.calls _ _ _ _ _ H3.out).mono ?_; rintro e w3 ⟨rfl, ⟨nd3, rfl⟩⟩)
      | (go_at_call 47; refine (impl_fewest.calls _ _ _ _ _ _ (Kd.C_drewN (Kd.C_below HR0.out HB2.out) _) HCC.out H4.out).mono ?_; rintro e w4 ⟨v4, rfl, ho4, hb4⟩; obtain ⟨Av, cv, hv4⟩ := Kd.S_slice ho4; subst hv4; obtain ⟨adx, A2, c2, e2, hq2, hlc, hC2⟩ := impl_fewest.look ho4 l1.length (by rw [HTL.out]; omega); cases e2; obtain ⟨ad2, e3, hq3⟩ := Kd.at_int hC2 (n0 : Int) (by omega) (by rw [(HTR.out l1.length (Nat.le_refl _)).1]; omega); subst e3; rw [Int.toNat_natCast] at hq3; have hd3 := HD.out; have hlt1 : l1.length < t.length := (by rw [HTL.out]; omega); have hlt2 : n0 < (t.getD l1.length []).length := (by rw [(HTR.out l1.length (Nat.le_refl _)).1]; omega); have HB4 := Aside0.mk (below_step (pw_below_drewN HB2.out nd3) hb4); generalize rd (t.getD l1.length []) (n0 : Int) = y at hq3 hd3; generalize (t.getD l1.length []).length = n at hq2 hlt2; clear hb4 hC2 hlc ho4))
    go_ret2
    exact ⟨_, rfl, Kd.R_nil _ _ _ _ _, HB4.out⟩
  · rw [if_neg d3] at h
    replace h := Option.bind_eq_some_iff.mp h
    obtain ⟨o, ho, h⟩ := h
    obtain ⟨rfl, rfl⟩ := Prod.mk.inj (Option.some.inj h)
    have HO := Aside0.mk ho
    have d3b : decide (721 ≤ rd (t.getD l1.length []) (n0 : Int)) = false := decide_eq_false d3
    have HD := Aside0.mk d3b
    have hl12 := HL.out
    have hlz : (l1.length : Int) ≤ 12 := by omega
    clear h d3 d3b hrl ho
    go_enter Try.func21, Try.ntmps21
    go_wp2_with (first
      | (go_at_call 46; refine (impl_Coins.calls _ _ _ _ _ HR0.out HCC.out H1.out).mono ?_; rintro e w1 ⟨rfl, ⟨nd, rfl⟩⟩)
      | (go_at_call 11; refine (impl_HeldOK.calls k _ _ _ _ _ (Kd.C_drewN HR0.out _) HCC.out H2.out).mono ?_; rintro e w2 ⟨rfl, hb2⟩; have HB2 := Aside0.mk (below_step (pw_below_drewN HB.out nd) hb2); clear hb2)
      | (go_at_call 33; refine (impl_within.calls _ _ _ _ _ H3.out).mono ?_; rintro e w3 ⟨rfl, ⟨nd3, rfl⟩⟩)
      | (go_at_call 47; refine (impl_fewest.calls _ _ _ _ _ _ (Kd.C_drewN (Kd.C_below HR0.out HB2.out) _) HCC.out H4.out).mono ?_; rintro e w4 ⟨v4, rfl, ho4, hb4⟩; obtain ⟨Av, cv, hv4⟩ := Kd.S_slice ho4; subst hv4; obtain ⟨adx, A2, c2, e2, hq2, hlc, hC2⟩ := impl_fewest.look ho4 l1.length (by rw [HTL.out]; omega); cases e2; obtain ⟨ad2, e3, hq3⟩ := Kd.at_int hC2 (n0 : Int) (by omega) (by rw [(HTR.out l1.length (Nat.le_refl _)).1]; omega); subst e3; rw [Int.toNat_natCast] at hq3; have hd3 := HD.out; have hlt1 : l1.length < t.length := (by rw [HTL.out]; omega); have hlt2 : n0 < (t.getD l1.length []).length := (by rw [(HTR.out l1.length (Nat.le_refl _)).1]; omega); have HS4 := Aside0.mk (Kd.S_lower ho4 (below_size (pw_below_drewN HB2.out nd3))); have HB4 := Aside0.mk (below_step (pw_below_drewN HB2.out nd3) hb4); generalize rd (t.getD l1.length []) (n0 : Int) = y at hq3 hd3; generalize (t.getD l1.length []).length = n at hq2 hlt2; clear hb4 hC2 hlc ho4)
      | ((with_reducible refine gate_dst (N := 37) rfl ?_); refine Kd.R_make (Kd.int .i64) (w0 := w) w.heap.size 3 rfl (N := 37) rfl 48 _ _ rfl (l1.length : Int) rfl rfl Try.underlying48 (.int .i64 0) 8 info3 rfl (by decide) (by omega) 0 (ok := fun k_ => w4.heap.size ≤ k_) (okp := fun _ => False) rfl (fun _ hk => hk.elim) (Nat.le_refl _) (by omega) (by omega) HB4.out (below_size HB4.out) ?_; intro v7 w7 ho7 hb7 hg7 hnew7; rw [Int.toNat_natCast] at ho7; have HO7 := Aside0.mk (Kd.R_tight rfl ho7); have HB7 := Aside0.mk hb7; have HNW := Aside0.mk ho7.1; have HS7 := Aside0.mk (Kd.S_mono (ok' := fun k_ => some k_ ≠ v7.ownBlock) (Kd.S_grown (row := none) (Kd.S_bound HS4.out) hg7 (fun k_ _ e_ => by cases e_)) (fun k_ hk_ e_ => by have h1_ := hk_.2.2.1; have h2_ := HNW.out _ e_.symm; omega)); have HNB := Aside0.mk (fun k_ (e_ : v7.ownBlock = some k_) => Nat.le_trans (below_size HB4.out) (HNW.out k_ e_)); clear ho7 hb7 hg7 hnew7 hq2 hq3 hd3 hlt1 hlt2 HS4 HB4 HNW HD))
    clear H1 H2 H3 H4 HB2 HTL
    go_loopg [0, 8] l1.length (fun gg v0 v8 wr => ∃ (kk : Nat) (due : Nat) (out : List Int), kk ≤ l1.length ∧ kk ≤ gg ∧ v0 = .int .i64 due ∧ v8 = .int .i64 ((kk : Int) - 1) ∧ due ≤ n0 ∧ Aside0 (impl_Change.walk t l1 kk (due : Int) out = some o) ∧ Aside0 (Kd.R (Kd.int .i64) 3 wr w.heap.size (fun k_ => some k_ = v7.ownBlock) v7 out) ∧ Aside0 (out.length = l1.length) ∧ Aside0 (Kd.S (Kd.slice 3 (Kd.int .i64)) 48 wr w.heap.size (fun k_ => some k_ ≠ v7.ownBlock) (.slice (some adx) t.length cv) t) ∧ Aside0 (Below w.heap.size w wr))
    case atStart => exact ⟨l1.length, n0, _, Nat.le_refl _, Nat.le_refl _, rfl, rfl, Nat.le_refl _, HO, HO7, ⟨by simp⟩, HS7, HB7⟩
    case round =>
      clear HO HO7 HS7 HB7
      obtain ⟨kk, due, out, hkl, hgg, rfl, rfl, hdn, HWK, HO, HOL, HS, HB⟩ := hrel
      cases kk with
      | zero =>
        have hz : decide (0 ≤ ((0 : Nat) : Int) - 1) = false := by decide
        have HWK2 := HWK.out
        simp only [impl_Change.walk] at HWK2
        obtain rfl := Option.some.inj HWK2
        go_wp2
        go_ret2
        exact ⟨_, rfl, Kd.R_mono HO.out (fun _ _ => trivial), HB.out⟩
      | succ kk =>
        have e1 : (((kk + 1 : Nat) : Int) - 1) = (kk : Int) := by omega
        rw [e1]
        have HWK2 := HWK.out
        clear HWK
        simp only [impl_Change.walk] at HWK2
        replace HWK2 := Option.bind_eq_some_iff.mp HWK2
        obtain ⟨N, hpick, hwalk⟩ := HWK2
        obtain ⟨ad0, e0, hx0, hx1⟩ := at_T60 (Kd.C_below HR0.out HB.out) (kk : Int) (by omega) (by omega)
        cases e0
        simp only [Int.toNat_natCast] at hx0 hx1
        have hcb := HCO.out (rd_T60 l1 (kk : Int)) (by
          unfold rd_T60
          rw [Int.toNat_natCast, List.getD_eq_getElem?_getD, List.getElem?_eq_getElem (show kk < l1.length by omega)]
          exact List.getElem_mem _)
        generalize rd_T60 l1 (kk : Int) = c at hx0 hx1 hcb hpick hwalk
        obtain ⟨hc1, hc2, hc3, hc4⟩ := hcb
        have hr1 := HTR.out kk (by omega)
        have hr2 := HTR.out (kk + 1) (by omega)
        have HR1 := Aside0.mk hr1.1
        have HR2 := Aside0.mk hr2.1
        have HR3 := Aside0.mk hr1.2
        clear hr1 hr2
        obtain ⟨g7, cap7, hv7, _, _, _⟩ := Kd.R_form HO.out (by rw [HOL.out]; omega)
        rw [HOL.out] at hv7
        subst hv7
        have HW := Aside0.mk hwalk
        have HG7 := Aside0.mk (HNB.out g7 rfl)
        have hkz : (kk : Int) < (l1.length : Int) := by omega
        have hkn : kk < l1.length := by omega
        have hkt : kk < t.length := by have := (Kd.S_reads' HS.out).1; have h2_ := HTLEN.out; omega
        have hkt2 : kk + 1 < t.length := by have h2_ := HTLEN.out; omega
        have hd0 : 0 ≤ (due : Int) := by omega
        clear hwalk
        have hz8 : decide (0 ≤ (kk : Int)) = true := decide_eq_true (by omega)
        go_upto_region 15 with (fail)
        have HK : Aside0 ((wr.alloc (.cells #[.int .i64 c.f0, .int .i64 c.f1] 60)).heap[wr.heap.size]? = some (.cells #[.int .i64 c.f0, .int .i64 c.f1] 60 (0, 0))) := ⟨blk_new wr _⟩
        have HO5 : Aside0 (Kd.R (Kd.int .i64) 3 (wr.alloc (.cells #[.int .i64 c.f0, .int .i64 c.f1] 60)) w.heap.size (fun k_ => some k_ = some g7) (.slice (some ⟨g7, 0, none⟩) l1.length cap7) out) := ⟨Kd.R_alloc HO.out _⟩
        have HS5 : Aside0 (Kd.S (Kd.slice 3 (Kd.int .i64)) 48 (wr.alloc (.cells #[.int .i64 c.f0, .int .i64 c.f1] 60)) w.heap.size (fun k_ => some k_ ≠ some g7) (.slice (some adx) t.length cv) t) := ⟨Kd.S_alloc HS.out _⟩
        have HB5 : Aside0 (Below w.heap.size w (wr.alloc (.cells #[.int .i64 c.f0, .int .i64 c.f1] 60))) := ⟨below_alloc HB.out _⟩
        have HNG : Aside0 (wr.heap.size ≠ g7) := ⟨by have h_ := Kd.R_lt HO.out g7 rfl; omega⟩
        generalize wr.alloc (.cells #[.int .i64 c.f0, .int .i64 c.f1] 60) = w5 at HK HO5 HS5 HB5 ⊢
        generalize wr.heap.size = gb at HK HNG ⊢
        clear HO HS HB hx0 hx1
        have hk0 := blk_cell HK.out 0
        have hk1 := blk_cell HK.out 1
        simp only [List.getElem?_toArray, List.getElem?_cons_zero, List.getElem?_cons_succ] at hk0 hk1
        obtain ⟨q, hq⟩ : ∃ q : Int, (due : Int) / c.f0 = q := ⟨_, rfl⟩
        have hq0 : 0 ≤ q := by rw [← hq]; exact Int.ediv_nonneg hd0 (by omega)
        have hq1 : q ≤ due := by rw [← hq]; exact Int.ediv_le_self _ hd0
        have hqv : q * c.f0 ≤ due := by rw [← hq]; exact Int.ediv_mul_le _ (by omega)
        have HT1 : Aside0 (∀ n : Nat, n ≤ impl_Change.top c (due : Int) → (n : Int) ≤ q ∧ (n : Int) ≤ c.f1) := ⟨by
          intro n hn
          unfold impl_Change.top at hn
          rw [hq] at hn
          split at hn <;> omega⟩
        have hmn : (if q < c.f1 then q else c.f1) = ((impl_Change.top c (due : Int) : Nat) : Int) := by
          unfold impl_Change.top
          rw [hq]
          split <;> omega
        generalize impl_Change.top c (due : Int) = m at hmn HT1 hpick
        have HPK := Aside0.mk hpick
        have HQ := Aside0.mk hq
        have HQV := Aside0.mk hqv
        have haN := HN.out
        have hv0 : (c.f0 == 0) = false := beq_eq_false_iff_ne.mpr (by omega)
        have hv1 : decide (c.f0 = 0) = false := decide_eq_false (by omega)
        have hv2 : ¬ c.f0 = 0 := by omega
        have ht1 : Int.tdiv (due : Int) c.f0 = q := by rw [Int.tdiv_eq_ediv_of_nonneg hd0]; exact hq
        have ht2 : wrap64 q = q := by unfold wrap64; omega
        have ht3 : IntKind.i64.wrap q = q := (i64_w _).trans ht2
        clear hpick hqv haN
        refine start_ (n := 8) (S := fun w' => w'.cell? ⟨gb, 0, none⟩ = some (.int .i64 c.f0) ∧ w'.cell? ⟨gb, 1, none⟩ = some (.int .i64 c.f1)) (ds := []) #[false, false, false, false, false, false, false, false] (by kernel_rfl) rfl rfl ⟨hk0, hk1⟩ (fun hHeld => ?_)
        refine with_tabW impl_Change.tab15 impl_Change.bits15 (fun HT_ HW_ => ?_)
        refine pure_ (i := 0) (N := some 49) (v := ?_) (a' := ?_) #[true, false, false, false, false, false, false, false] rfl rfl (any_of HT_.out (by kernel_rfl)) (fun _ _ _ h => h) (Or.inl ⟨by rfl, ?_⟩) ?_ ?_
        rotate_left
        · intro w'
          go_simp
          with_reducible rfl
        rotate_left
        · simp only [Act.put, List.setIfInBounds_toArray, List.set_cons_zero, List.set_cons_succ, i64_w, i32_w]
          rfl
        refine pure_ (i := 2) (N := some 51) (v := ?_) (a' := ?_) #[true, false, true, false, false, false, false, false] rfl rfl (any_of HT_.out (by kernel_rfl)) (fun _ _ _ h => h) (Or.inl ⟨by rfl, ?_⟩) ?_ ?_
        rotate_left
        · intro w'
          go_simp
          with_reducible rfl
        rotate_left
        · simp only [Act.put, List.setIfInBounds_toArray, List.set_cons_zero, List.set_cons_succ, i64_w, i32_w]
          rfl
        refine pure_ (i := 3) (N := some 52) (v := ?_) (a' := ?_) #[true, false, true, true, false, false, false, false] rfl rfl (any_of HT_.out (by kernel_rfl)) (fun _ _ _ h => h) (Or.inl ⟨by rfl, ?_⟩) ?_ ?_
        rotate_left
        · intro w'
          go_simp
          with_reducible rfl
        rotate_left
        · simp only [Act.put, List.setIfInBounds_toArray, List.set_cons_zero, List.set_cons_succ, i64_w, i32_w]
          rfl
        refine take_ (i := 1) (N := some 50) (v := ?_) (a' := ?_) #[true, true, true, true, false, false, false, false] rfl rfl (take_ofW HT_.out HW_.out (by kernel_rfl)) (fun _ _ _ h => h) (Or.inl ⟨by rfl, ?_⟩) hHeld ?_ ?_
        rotate_left
        · rintro w' ⟨s0, s1⟩
          go_simp
          with_reducible rfl
        rotate_left
        · simp only [Act.put, List.setIfInBounds_toArray, List.set_cons_zero, List.set_cons_succ, i64_w, i32_w]
          rfl
        refine take_ (i := 4) (N := some 53) (v := ?_) (a' := ?_) #[true, true, true, true, true, false, false, false] rfl rfl (take_ofW HT_.out HW_.out (by kernel_rfl)) (fun _ _ _ h => h) (Or.inl ⟨by rfl, ?_⟩) hHeld ?_ ?_
        rotate_left
        · rintro w' ⟨s0, s1⟩
          go_simp
          with_reducible rfl
        rotate_left
        · simp only [Act.put, List.setIfInBounds_toArray, List.set_cons_zero, List.set_cons_succ, i64_w, i32_w]
          rfl
        refine pure_ (i := 5) (N := some 54) (v := ?_) (a' := ?_) #[true, true, true, true, true, true, false, false] rfl rfl (any_of HT_.out (by kernel_rfl)) (fun _ _ _ h => h) (Or.inl ⟨by rfl, ?_⟩) ?_ ?_
        rotate_left
        · intro w'
          go_simp
          with_reducible rfl
        rotate_left
        · simp only [Act.put, List.setIfInBounds_toArray, List.set_cons_zero, List.set_cons_succ, i64_w, i32_w]
          rfl
        refine pure_ (i := 6) (N := some 55) (v := ?_) (a' := ?_) #[true, true, true, true, true, true, true, false] rfl rfl (any_of HT_.out (by kernel_rfl)) (fun _ _ _ h => h) (Or.inl ⟨by rfl, ?_⟩) ?_ ?_
        rotate_left
        · intro w'
          go_simp
          with_reducible rfl
        rotate_left
        · simp only [Act.put, List.setIfInBounds_toArray, List.set_cons_zero, List.set_cons_succ, i64_w, i32_w]
          rfl
        refine pure_ (i := 7) (N := some 10) (v := ?_) (a' := ?_) #[true, true, true, true, true, true, true, true] rfl rfl (any_of HT_.out (by kernel_rfl)) (fun _ _ _ h => h) (Or.inl ⟨by rfl, ?_⟩) ?_ ?_
        rotate_left
        · intro w'
          go_simp
          with_reducible rfl
        rotate_left
        · simp only [Act.put, List.setIfInBounds_toArray, List.set_cons_zero, List.set_cons_succ, i64_w, i32_w]
          rfl
        refine done_ (done_of HT_.out (by kernel_rfl)) ?_
        clear hk0 hk1 hmn ht1 ht2 ht3 hv0 hv1 hv2 hq
        go_wp2
        obtain ⟨wo, rfl⟩ : ∃ wo : World, wo = wr := ⟨_, rfl⟩
        go_loopg [10] m (fun gg2 v10 wr => ∃ n : Nat, n ≤ m ∧ n ≤ gg2 ∧ v10 = .int .i64 n ∧ Aside0 (impl_Change.pick (t.getD kk []) (t.getD (kk + 1) []) c.f0 (due : Int) n = some N) ∧ Aside0 (Kd.R (Kd.int .i64) 3 wr w.heap.size (fun k_ => some k_ = some g7) (.slice (some ⟨g7, 0, none⟩) l1.length cap7) out) ∧ Aside0 (Kd.S (Kd.slice 3 (Kd.int .i64)) 48 wr w.heap.size (fun k_ => some k_ ≠ some g7) (.slice (some adx) t.length cv) t) ∧ Aside0 (wr.heap[gb]? = some (.cells #[.int .i64 c.f0, .int .i64 c.f1] 60 (0, 0))) ∧ Aside0 (Below w.heap.size w wr))
        case atStart => exact ⟨m, Nat.le_refl _, Nat.le_refl _, rfl, HPK, ⟨Kd.R_drew HO5.out⟩, ⟨Kd.S_drew HS5.out⟩, ⟨blk_drew HK.out⟩, ⟨below_drew1 HB5.out⟩⟩
        case round =>
          clear HPK HO5 HS5 HK HB5
          obtain ⟨n, hnm, hng, rfl, HPK, HO, HS, HK, HB⟩ := hrel
          have hk0 := blk_cell HK.out 0
          simp only [List.getElem?_toArray, List.getElem?_cons_zero] at hk0
          obtain ⟨hnq, hnc⟩ := HT1.out n hnm
          obtain ⟨p, hp⟩ : ∃ p : Int, (n : Int) * c.f0 = p := ⟨_, rfl⟩
          have hp0 : 0 ≤ p := by rw [← hp]; exact Int.mul_nonneg (by omega) (by omega)
          have hpd : p ≤ due := by rw [← hp]; exact Int.le_trans (Int.mul_le_mul_of_nonneg_right hnq (by omega)) HQV.out
          obtain ⟨j, hj⟩ : ∃ j : Nat, (due : Int) - p = (j : Int) := ⟨((due : Int) - p).toNat, by omega⟩
          have haN := HN.out
          have hjl : j < n0 + 1 := by omega
          have hdl : due < n0 + 1 := by omega
          obtain ⟨adx_, A2, c2, e2, hq2, hlc, hC2⟩ := impl_fewest.look HS.out kk hkt
          obtain rfl : adx = adx_ := (by injection e2)
          obtain ⟨adx_, A3, c3, e3, hq3, hlc3, hC3⟩ := impl_fewest.look HS.out (kk + 1) hkt2
          obtain rfl : adx = adx_ := (by injection e3)
          obtain ⟨ad2, e4, hq4⟩ := Kd.at_int hC2 (j : Int) (by omega) (by rw [HR1.out]; omega)
          subst e4
          obtain ⟨ad3, e5, hq5⟩ := Kd.at_int hC3 (due : Int) (by omega) (by rw [HR2.out]; omega)
          subst e5
          rw [HR1.out] at hq2
          rw [HR2.out] at hq3
          rw [Int.toNat_natCast] at hq4 hq5
          obtain ⟨k2, hk2⟩ : ∃ k2 : Nat, kk + 1 = k2 := ⟨_, rfl⟩
          rw [hk2] at hq3 hq5
          have hyb := HR3.out (j : Int)
          have hpe : ((n : Int) + rd (t.getD kk []) (j : Int) = rd (t.getD k2 []) (due : Int) → n = N) ∧ (¬ ((n : Int) + rd (t.getD kk []) (j : Int) = rd (t.getD k2 []) (due : Int)) → ∃ n', n = n' + 1 ∧ impl_Change.pick (t.getD kk []) (t.getD (kk + 1) []) c.f0 (due : Int) n' = some N) := by
            have h_ := HPK.out
            rw [hk2] at h_ ⊢
            cases n with
            | zero =>
              have hj0 : (j : Int) = due := by rw [← hj, ← hp]; simp
              simp only [impl_Change.pick] at h_
              rw [hj0]
              refine ⟨fun he => ?_, fun he => ?_⟩
              · rw [if_pos (by omega)] at h_
                exact Option.some.inj h_
              · rw [if_neg (by omega)] at h_
                cases h_
            | succ n' =>
              simp only [impl_Change.pick] at h_
              rw [hp, hj] at h_
              refine ⟨fun he => ?_, fun he => ⟨n', rfl, ?_⟩⟩
              · rw [if_pos he] at h_
                exact Option.some.inj h_
              · rw [if_neg he] at h_
                exact h_
          generalize rd (t.getD kk []) (j : Int) = y at hq4 hyb hpe
          generalize rd (t.getD k2 []) (due : Int) = z at hq5 hpe
          have HPE := Aside0.mk hpe
          have HP2 := Aside0.mk hp
          have HJ := Aside0.mk hj
          obtain ⟨hyb1, hyb2⟩ := hyb
          have hjz : (j : Int) < (n0 : Int) + 1 := by omega
          have hdz : (due : Int) < (n0 : Int) + 1 := by omega
          have hk2t : k2 < t.length := by omega
          have hk2z : (k2 : Int) < (t.length : Int) := by omega
          have hktz : (kk : Int) < (t.length : Int) := by omega
          have HW1 := Aside0.mk (show wrap64 ((n : Int) * c.f0) = p from (impl_Change.w64 (by omega) (by omega)).trans hp)
          have HW2 := Aside0.mk (show wrap64 ((due : Int) - p) = (j : Int) from (impl_Change.w64 (by omega) (by omega)).trans hj)
          have HW3 := Aside0.mk (show wrap64 ((n : Int) + y) = (n : Int) + y from impl_Change.w64 (by omega) (by omega))
          have HW4 := Aside0.mk (show wrap64 ((kk : Int) + 1) = (k2 : Int) from (impl_Change.w64 (by omega) (by omega)).trans (by omega))
          have HK2 := Aside0.mk hk2
          have HNQ := Aside0.mk hnq
          have HNC := Aside0.mk hnc
          have HMN := Aside0.mk hnm
          have HNG2 := Aside0.mk hng
          have HNP := Aside0.mk (show (n : Int) ≤ 60 by omega)
          clear hpe hp hj hC2 hC3 hlc hlc3 haN hpd hk2 hnq hnm hng e2 e3 hq0 hq1
          by_cases hs : (n : Int) + y = z
          · have hs1 : ((n : Int) + y != z) = false := bne_eq_false_iff_eq.mpr hs
            have HSS := Aside0.mk hs
            clear hs
            have hw1 := HW1.out
            have hw1b : IntKind.i64.wrap ((n : Int) * c.f0) = p := (i64_w _).trans hw1
            have hw2 := HW2.out
            have hw2b : IntKind.i64.wrap ((due : Int) - p) = (j : Int) := (i64_w _).trans hw2
            have hw3 := HW3.out
            have hw3b : IntKind.i64.wrap ((n : Int) + y) = (n : Int) + y := (i64_w _).trans hw3
            have hw4 := HW4.out
            have hw4b : IntKind.i64.wrap ((kk : Int) + 1) = (k2 : Int) := (i64_w _).trans hw4
            go_wp2
            refine start_ (n := 23) (S := fun w' => w'.cell? ⟨gb, 0, none⟩ = some (.int .i64 c.f0) ∧ w'.cell? (adx.add kk) = some (.slice (some ad2) (n0 + 1) c2) ∧ w'.cell? (adx.add k2) = some (.slice (some ad3) (n0 + 1) c3) ∧ w'.cell? (ad2.add j) = some (.int .i64 y) ∧ w'.cell? (ad3.add due) = some (.int .i64 z)) (ds := []) #[false, false, false, false, false, false, false, false, false, false, false, false, false, false, false, false, false, false, false, false, false, false, false] (by kernel_rfl) rfl rfl ⟨hk0, hq2, hq3, hq4, hq5⟩ (fun hHeld => ?_)
            refine with_tabW impl_Change.tab16 impl_Change.bits16 (fun HT_ HW_ => ?_)
            refine pure_ (i := 0) (N := some 56) (v := ?_) (a' := ?_) #[true, false, false, false, false, false, false, false, false, false, false, false, false, false, false, false, false, false, false, false, false, false, false] rfl rfl (any_of HT_.out (by kernel_rfl)) (fun _ _ _ h => h) (Or.inl ⟨by rfl, ?_⟩) ?_ ?_
            rotate_left
            · intro w'
              go_simp
              with_reducible rfl
            rotate_left
            · simp only [Act.put, List.setIfInBounds_toArray, List.set_cons_zero, List.set_cons_succ, i64_w, i32_w]
              rfl
            refine pure_ (i := 1) (N := some 57) (v := ?_) (a' := ?_) #[true, true, false, false, false, false, false, false, false, false, false, false, false, false, false, false, false, false, false, false, false, false, false] rfl rfl (any_of HT_.out (by kernel_rfl)) (fun _ _ _ h => h) (Or.inl ⟨by rfl, ?_⟩) ?_ ?_
            rotate_left
            · intro w'
              go_simp
              with_reducible rfl
            rotate_left
            · simp only [Act.put, List.setIfInBounds_toArray, List.set_cons_zero, List.set_cons_succ, i64_w, i32_w]
              rfl
            refine pure_ (i := 2) (N := some 58) (v := ?_) (a' := ?_) #[true, true, true, false, false, false, false, false, false, false, false, false, false, false, false, false, false, false, false, false, false, false, false] rfl rfl (any_of HT_.out (by kernel_rfl)) (fun _ _ _ h => h) (Or.inl ⟨by rfl, ?_⟩) ?_ ?_
            rotate_left
            · intro w'
              go_simp
              with_reducible rfl
            rotate_left
            · simp only [Act.put, List.setIfInBounds_toArray, List.set_cons_zero, List.set_cons_succ, i64_w, i32_w]
              rfl
            refine pure_ (i := 3) (N := some 59) (v := ?_) (a' := ?_) #[true, true, true, true, false, false, false, false, false, false, false, false, false, false, false, false, false, false, false, false, false, false, false] rfl rfl (any_of HT_.out (by kernel_rfl)) (fun _ _ _ h => h) (Or.inl ⟨by rfl, ?_⟩) ?_ ?_
            rotate_left
            · intro w'
              go_simp
              with_reducible rfl
            rotate_left
            · simp only [Act.put, List.setIfInBounds_toArray, List.set_cons_zero, List.set_cons_succ, i64_w, i32_w]
              rfl
            refine pure_ (i := 5) (N := some 61) (v := ?_) (a' := ?_) #[true, true, true, true, false, true, false, false, false, false, false, false, false, false, false, false, false, false, false, false, false, false, false] rfl rfl (any_of HT_.out (by kernel_rfl)) (fun _ _ _ h => h) (Or.inl ⟨by rfl, ?_⟩) ?_ ?_
            rotate_left
            · intro w'
              go_simp
              with_reducible rfl
            rotate_left
            · simp only [Act.put, List.setIfInBounds_toArray, List.set_cons_zero, List.set_cons_succ, i64_w, i32_w]
              rfl
            refine pure_ (i := 6) (N := some 62) (v := ?_) (a' := ?_) #[true, true, true, true, false, true, true, false, false, false, false, false, false, false, false, false, false, false, false, false, false, false, false] rfl rfl (any_of HT_.out (by kernel_rfl)) (fun _ _ _ h => h) (Or.inl ⟨by rfl, ?_⟩) ?_ ?_
            rotate_left
            · intro w'
              go_simp
              with_reducible rfl
            rotate_left
            · simp only [Act.put, List.setIfInBounds_toArray, List.set_cons_zero, List.set_cons_succ, i64_w, i32_w]
              rfl
            refine pure_ (i := 7) (N := some 63) (v := ?_) (a' := ?_) #[true, true, true, true, false, true, true, true, false, false, false, false, false, false, false, false, false, false, false, false, false, false, false] rfl rfl (any_of HT_.out (by kernel_rfl)) (fun _ _ _ h => h) (Or.inl ⟨by rfl, ?_⟩) ?_ ?_
            rotate_left
            · intro w'
              go_simp
              with_reducible rfl
            rotate_left
            · simp only [Act.put, List.setIfInBounds_toArray, List.set_cons_zero, List.set_cons_succ, i64_w, i32_w]
              rfl
            refine pure_ (i := 14) (N := some 70) (v := ?_) (a' := ?_) #[true, true, true, true, false, true, true, true, false, false, false, false, false, false, true, false, false, false, false, false, false, false, false] rfl rfl (any_of HT_.out (by kernel_rfl)) (fun _ _ _ h => h) (Or.inl ⟨by rfl, ?_⟩) ?_ ?_
            rotate_left
            · intro w'
              go_simp
              with_reducible rfl
            rotate_left
            · simp only [Act.put, List.setIfInBounds_toArray, List.set_cons_zero, List.set_cons_succ, i64_w, i32_w]
              rfl
            refine pure_ (i := 15) (N := some 71) (v := ?_) (a' := ?_) #[true, true, true, true, false, true, true, true, false, false, false, false, false, false, true, true, false, false, false, false, false, false, false] rfl rfl (any_of HT_.out (by kernel_rfl)) (fun _ _ _ h => h) (Or.inl ⟨by rfl, ?_⟩) ?_ ?_
            rotate_left
            · intro w'
              go_simp
              with_reducible rfl
            rotate_left
            · simp only [Act.put, List.setIfInBounds_toArray, List.set_cons_zero, List.set_cons_succ, i64_w, i32_w]
              rfl
            refine pure_ (i := 16) (N := some 72) (v := ?_) (a' := ?_) #[true, true, true, true, false, true, true, true, false, false, false, false, false, false, true, true, true, false, false, false, false, false, false] rfl rfl (any_of HT_.out (by kernel_rfl)) (fun _ _ _ h => h) (Or.inl ⟨by rfl, ?_⟩) ?_ ?_
            rotate_left
            · intro w'
              go_simp
              with_reducible rfl
            rotate_left
            · simp only [Act.put, List.setIfInBounds_toArray, List.set_cons_zero, List.set_cons_succ, i64_w, i32_w]
              rfl
            refine pure_ (i := 17) (N := some 73) (v := ?_) (a' := ?_) #[true, true, true, true, false, true, true, true, false, false, false, false, false, false, true, true, true, true, false, false, false, false, false] rfl rfl (any_of HT_.out (by kernel_rfl)) (fun _ _ _ h => h) (Or.inl ⟨by rfl, ?_⟩) ?_ ?_
            rotate_left
            · intro w'
              go_simp
              with_reducible rfl
            rotate_left
            · simp only [Act.put, List.setIfInBounds_toArray, List.set_cons_zero, List.set_cons_succ, i64_w, i32_w]
              rfl
            refine pure_ (i := 19) (N := some 75) (v := ?_) (a' := ?_) #[true, true, true, true, false, true, true, true, false, false, false, false, false, false, true, true, true, true, false, true, false, false, false] rfl rfl (any_of HT_.out (by kernel_rfl)) (fun _ _ _ h => h) (Or.inl ⟨by rfl, ?_⟩) ?_ ?_
            rotate_left
            · intro w'
              go_simp
              with_reducible rfl
            rotate_left
            · simp only [Act.put, List.setIfInBounds_toArray, List.set_cons_zero, List.set_cons_succ, i64_w, i32_w]
              rfl
            refine take_ (i := 4) (N := some 60) (v := ?_) (a' := ?_) #[true, true, true, true, true, true, true, true, false, false, false, false, false, false, true, true, true, true, false, true, false, false, false] rfl rfl (take_ofW HT_.out HW_.out (by kernel_rfl)) (fun _ _ _ h => h) (Or.inl ⟨by rfl, ?_⟩) hHeld ?_ ?_
            rotate_left
            · rintro w' ⟨s0, s1, s2, s3, s4⟩
              go_simp
              with_reducible rfl
            rotate_left
            · simp only [Act.put, List.setIfInBounds_toArray, List.set_cons_zero, List.set_cons_succ, i64_w, i32_w]
              rfl
            refine take_ (i := 8) (N := some 64) (v := ?_) (a' := ?_) #[true, true, true, true, true, true, true, true, true, false, false, false, false, false, true, true, true, true, false, true, false, false, false] rfl rfl (take_ofW HT_.out HW_.out (by kernel_rfl)) (fun _ _ _ h => h) (Or.inl ⟨by rfl, ?_⟩) hHeld ?_ ?_
            rotate_left
            · rintro w' ⟨s0, s1, s2, s3, s4⟩
              go_simp
              with_reducible rfl
            rotate_left
            · simp only [Act.put, List.setIfInBounds_toArray, List.set_cons_zero, List.set_cons_succ, i64_w, i32_w]
              rfl
            refine pure_ (i := 9) (N := some 65) (v := ?_) (a' := ?_) #[true, true, true, true, true, true, true, true, true, true, false, false, false, false, true, true, true, true, false, true, false, false, false] rfl rfl (any_of HT_.out (by kernel_rfl)) (fun _ _ _ h => h) (Or.inl ⟨by rfl, ?_⟩) ?_ ?_
            rotate_left
            · intro w'
              go_simp
              with_reducible rfl
            rotate_left
            · simp only [Act.put, List.setIfInBounds_toArray, List.set_cons_zero, List.set_cons_succ, i64_w, i32_w]
              rfl
            refine pure_ (i := 10) (N := some 66) (v := ?_) (a' := ?_) #[true, true, true, true, true, true, true, true, true, true, true, false, false, false, true, true, true, true, false, true, false, false, false] rfl rfl (any_of HT_.out (by kernel_rfl)) (fun _ _ _ h => h) (Or.inl ⟨by rfl, ?_⟩) ?_ ?_
            rotate_left
            · intro w'
              go_simp
              with_reducible rfl
            rotate_left
            · simp only [Act.put, List.setIfInBounds_toArray, List.set_cons_zero, List.set_cons_succ, i64_w, i32_w]
              rfl
            refine pure_ (i := 11) (N := some 67) (v := ?_) (a' := ?_) #[true, true, true, true, true, true, true, true, true, true, true, true, false, false, true, true, true, true, false, true, false, false, false] rfl rfl (any_of HT_.out (by kernel_rfl)) (fun _ _ _ h => h) (Or.inl ⟨by rfl, ?_⟩) ?_ ?_
            rotate_left
            · intro w'
              go_simp
              with_reducible rfl
            rotate_left
            · simp only [Act.put, List.setIfInBounds_toArray, List.set_cons_zero, List.set_cons_succ, i64_w, i32_w]
              rfl
            refine take_ (i := 12) (N := some 68) (v := ?_) (a' := ?_) #[true, true, true, true, true, true, true, true, true, true, true, true, true, false, true, true, true, true, false, true, false, false, false] rfl rfl (take_ofW HT_.out HW_.out (by kernel_rfl)) (fun _ _ _ h => h) (Or.inl ⟨by rfl, ?_⟩) hHeld ?_ ?_
            rotate_left
            · rintro w' ⟨s0, s1, s2, s3, s4⟩
              go_simp
              with_reducible rfl
            rotate_left
            · simp only [Act.put, List.setIfInBounds_toArray, List.set_cons_zero, List.set_cons_succ, i64_w, i32_w]
              rfl
            refine pure_ (i := 13) (N := some 69) (v := ?_) (a' := ?_) #[true, true, true, true, true, true, true, true, true, true, true, true, true, true, true, true, true, true, false, true, false, false, false] rfl rfl (any_of HT_.out (by kernel_rfl)) (fun _ _ _ h => h) (Or.inl ⟨by rfl, ?_⟩) ?_ ?_
            rotate_left
            · intro w'
              go_simp
              with_reducible rfl
            rotate_left
            · simp only [Act.put, List.setIfInBounds_toArray, List.set_cons_zero, List.set_cons_succ, i64_w, i32_w]
              rfl
            refine take_ (i := 18) (N := some 74) (v := ?_) (a' := ?_) #[true, true, true, true, true, true, true, true, true, true, true, true, true, true, true, true, true, true, true, true, false, false, false] rfl rfl (take_ofW HT_.out HW_.out (by kernel_rfl)) (fun _ _ _ h => h) (Or.inl ⟨by rfl, ?_⟩) hHeld ?_ ?_
            rotate_left
            · rintro w' ⟨s0, s1, s2, s3, s4⟩
              go_simp
              with_reducible rfl
            rotate_left
            · simp only [Act.put, List.setIfInBounds_toArray, List.set_cons_zero, List.set_cons_succ, i64_w, i32_w]
              rfl
            refine pure_ (i := 20) (N := some 76) (v := ?_) (a' := ?_) #[true, true, true, true, true, true, true, true, true, true, true, true, true, true, true, true, true, true, true, true, true, false, false] rfl rfl (any_of HT_.out (by kernel_rfl)) (fun _ _ _ h => h) (Or.inl ⟨by rfl, ?_⟩) ?_ ?_
            rotate_left
            · intro w'
              go_simp
              with_reducible rfl
            rotate_left
            · simp only [Act.put, List.setIfInBounds_toArray, List.set_cons_zero, List.set_cons_succ, i64_w, i32_w]
              rfl
            refine take_ (i := 21) (N := some 77) (v := ?_) (a' := ?_) #[true, true, true, true, true, true, true, true, true, true, true, true, true, true, true, true, true, true, true, true, true, true, false] rfl rfl (take_ofW HT_.out HW_.out (by kernel_rfl)) (fun _ _ _ h => h) (Or.inl ⟨by rfl, ?_⟩) hHeld ?_ ?_
            rotate_left
            · rintro w' ⟨s0, s1, s2, s3, s4⟩
              go_simp
              with_reducible rfl
            rotate_left
            · simp only [Act.put, List.setIfInBounds_toArray, List.set_cons_zero, List.set_cons_succ, i64_w, i32_w]
              rfl
            refine pure_ (i := 22) (N := some 78) (v := ?_) (a' := ?_) #[true, true, true, true, true, true, true, true, true, true, true, true, true, true, true, true, true, true, true, true, true, true, true] rfl rfl (any_of HT_.out (by kernel_rfl)) (fun _ _ _ h => h) (Or.inl ⟨by rfl, ?_⟩) ?_ ?_
            rotate_left
            · intro w'
              go_simp
              with_reducible rfl
            rotate_left
            · simp only [Act.put, List.setIfInBounds_toArray, List.set_cons_zero, List.set_cons_succ, i64_w, i32_w]
              rfl
            refine done_ (done_of HT_.out (by kernel_rfl)) ?_
            clear hq2 hq3 hq4 hq5 hs1 hw3 hw3b hw4 hw4b
            go_wp2
            refine start_ (n := 12) (S := fun w' => w'.cell? ⟨gb, 0, none⟩ = some (.int .i64 c.f0) ∧ ∃ L_ : List Int, Kd.R (Kd.int .i64) 3 w' w.heap.size (fun k_ => some k_ = some g7) (.slice (some ⟨g7, 0, none⟩) l1.length cap7) L_ ∧ L_.length = l1.length) (ds := []) #[false, false, false, false, false, false, false, false, false, false, false, false] (by kernel_rfl) rfl rfl ⟨hk0, ⟨_, Kd.R_drew (Kd.R_drew HO.out), HOL.out⟩⟩ (fun hHeld => ?_)
            refine with_tabW impl_Change.tab18 impl_Change.bits18 (fun HT_ HW_ => ?_)
            refine pure_ (i := 0) (N := some 81) (v := ?_) (a' := ?_) #[true, false, false, false, false, false, false, false, false, false, false, false] rfl rfl (any_of HT_.out (by kernel_rfl)) (fun _ _ _ h => h) (Or.inl ⟨by rfl, ?_⟩) ?_ ?_
            rotate_left
            · intro w'
              go_simp
              with_reducible rfl
            rotate_left
            · simp only [Act.put, List.setIfInBounds_toArray, List.set_cons_zero, List.set_cons_succ, i64_w, i32_w]
              rfl
            refine pure_ (i := 1) (N := some 82) (v := ?_) (a' := ?_) #[true, true, false, false, false, false, false, false, false, false, false, false] rfl rfl (any_of HT_.out (by kernel_rfl)) (fun _ _ _ h => h) (Or.inl ⟨by rfl, ?_⟩) ?_ ?_
            rotate_left
            · intro w'
              go_simp
              with_reducible rfl
            rotate_left
            · simp only [Act.put, List.setIfInBounds_toArray, List.set_cons_zero, List.set_cons_succ, i64_w, i32_w]
              rfl
            refine pure_ (i := 2) (N := some 83) (v := ?_) (a' := ?_) #[true, true, true, false, false, false, false, false, false, false, false, false] rfl rfl (any_of HT_.out (by kernel_rfl)) (fun _ _ _ h => h) (Or.inl ⟨by rfl, ?_⟩) ?_ ?_
            rotate_left
            · intro w'
              go_simp
              with_reducible rfl
            rotate_left
            · simp only [Act.put, List.setIfInBounds_toArray, List.set_cons_zero, List.set_cons_succ, i64_w, i32_w]
              rfl
            refine pure_ (i := 3) (N := some 84) (v := ?_) (a' := ?_) #[true, true, true, true, false, false, false, false, false, false, false, false] rfl rfl (any_of HT_.out (by kernel_rfl)) (fun _ _ _ h => h) (Or.inl ⟨by rfl, ?_⟩) ?_ ?_
            rotate_left
            · intro w'
              go_simp
              with_reducible rfl
            rotate_left
            · simp only [Act.put, List.setIfInBounds_toArray, List.set_cons_zero, List.set_cons_succ, i64_w, i32_w]
              rfl
            refine pure_ (i := 4) (N := some 85) (v := ?_) (a' := ?_) #[true, true, true, true, true, false, false, false, false, false, false, false] rfl rfl (any_of HT_.out (by kernel_rfl)) (fun _ _ _ h => h) (Or.inl ⟨by rfl, ?_⟩) ?_ ?_
            rotate_left
            · intro w'
              go_simp
              with_reducible rfl
            rotate_left
            · simp only [Act.put, List.setIfInBounds_toArray, List.set_cons_zero, List.set_cons_succ, i64_w, i32_w]
              rfl
            refine pure_ (i := 5) (N := some 86) (v := ?_) (a' := ?_) #[true, true, true, true, true, true, false, false, false, false, false, false] rfl rfl (any_of HT_.out (by kernel_rfl)) (fun _ _ _ h => h) (Or.inl ⟨by rfl, ?_⟩) ?_ ?_
            rotate_left
            · intro w'
              go_simp
              with_reducible rfl
            rotate_left
            · simp only [Act.put, List.setIfInBounds_toArray, List.set_cons_zero, List.set_cons_succ, i64_w, i32_w]
              rfl
            refine pure_ (i := 9) (N := some 90) (v := ?_) (a' := ?_) #[true, true, true, true, true, true, false, false, false, true, false, false] rfl rfl (any_of HT_.out (by kernel_rfl)) (fun _ _ _ h => h) (Or.inl ⟨by rfl, ?_⟩) ?_ ?_
            rotate_left
            · intro w'
              go_simp
              with_reducible rfl
            rotate_left
            · simp only [Act.put, List.setIfInBounds_toArray, List.set_cons_zero, List.set_cons_succ, i64_w, i32_w]
              rfl
            refine take_ (i := 6) (N := some 87) (v := ?_) (a' := ?_) #[true, true, true, true, true, true, true, false, false, true, false, false] rfl rfl (take_ofW HT_.out HW_.out (by kernel_rfl)) (fun _ _ _ h => h) (Or.inl ⟨by rfl, ?_⟩) hHeld ?_ ?_
            rotate_left
            · rintro w' ⟨s0, s1⟩
              go_simp
              with_reducible rfl
            rotate_left
            · simp only [Act.put, List.setIfInBounds_toArray, List.set_cons_zero, List.set_cons_succ, i64_w, i32_w]
              rfl
            refine pure_ (i := 7) (N := some 88) (v := ?_) (a' := ?_) #[true, true, true, true, true, true, true, true, false, true, false, false] rfl rfl (any_of HT_.out (by kernel_rfl)) (fun _ _ _ h => h) (Or.inl ⟨by rfl, ?_⟩) ?_ ?_
            rotate_left
            · intro w'
              go_simp
              with_reducible rfl
            rotate_left
            · simp only [Act.put, List.setIfInBounds_toArray, List.set_cons_zero, List.set_cons_succ, i64_w, i32_w]
              rfl
            refine pure_ (i := 8) (N := some 89) (v := ?_) (a' := ?_) #[true, true, true, true, true, true, true, true, true, true, false, false] rfl rfl (any_of HT_.out (by kernel_rfl)) (fun _ _ _ h => h) (Or.inl ⟨by rfl, ?_⟩) ?_ ?_
            rotate_left
            · intro w'
              go_simp
              with_reducible rfl
            rotate_left
            · simp only [Act.put, List.setIfInBounds_toArray, List.set_cons_zero, List.set_cons_succ, i64_w, i32_w]
              rfl
            refine one_ (i := 10) (N := none) #[true, true, true, true, true, true, true, true, true, true, true, false] rfl rfl (one_of HT_.out (by kernel_rfl)) (by decide) (fun K hK => ?_)
            obtain ⟨s0, L_, s1, s2⟩ := hHeld
            obtain ⟨hx7, hf7⟩ := Kd.R_celln 0 s1 (kk : Int) (by omega) (by omega)
            rw [Int.toNat_natCast] at hx7 hf7
            refine skip_ (w1 := ?_) (by rfl) rfl ?_ ?_
            rotate_left
            · go_simp
              rfl
            refine hK.out _ _ ⟨(cell_far (p := ⟨g7, kk, none⟩) (by show gb ≠ g7; exact HNG.out) _).trans s0, ⟨_, by have h_ := Kd.R_putn s1 (kk : Int) (n : Int); rw [Int.toNat_natCast] at h_; exact h_, by rw [List.length_set]; exact s2⟩⟩ (fun hHeld => ?_)
            clear hK K
            refine pure_ (i := 11) (N := some 0) (v := ?_) (a' := ?_) #[true, true, true, true, true, true, true, true, true, true, true, true] rfl rfl (any_of HT_.out (by kernel_rfl)) (fun _ _ _ h => h) (Or.inl ⟨by rfl, ?_⟩) ?_ ?_
            rotate_left
            · intro w'
              go_simp
              with_reducible rfl
            rotate_left
            · simp only [Act.put, List.setIfInBounds_toArray, List.set_cons_zero, List.set_cons_succ, i64_w, i32_w]
              rfl
            refine done_ (done_of HT_.out (by kernel_rfl)) ?_
            have hNn := HPE.out.1 HSS.out
            have HJN := Aside0.mk (show j ≤ n0 by have h1_ := HJ.out; omega)
            have HWN := HW.out
            rw [← hNn, HP2.out, HJ.out] at HWN
            have HWN2 := Aside0.mk HWN
            have HKK := Aside0.mk (show kk ≤ l1.length by omega)
            have HGG := Aside0.mk hgg
            clear hNn HWN hw1 hw1b hw2 hw2b
            go_wp2
            go_roundg kk
            case measure => have h_ := HGG.out; omega
            case rel =>
              refine ⟨kk, j, _, HKK.out, Nat.le_refl _, rfl, rfl, HJN.out, HWN2, ⟨?_⟩, ⟨by rw [List.length_set]; exact HOL.out⟩, ⟨?_⟩, ⟨?_⟩⟩
              · have h_ := Kd.R_putn HO.out (kk : Int) (n : Int)
                rw [Int.toNat_natCast] at h_
                first | exact Kd.R_drew (Kd.R_drew h_) | exact Kd.R_drewN h_ _
              · have h_ := Kd.S_far (p := ⟨g7, kk, none⟩) HS.out (fun k_ hk_ e_ => hk_ (by rw [e_])) (.int .i64 (n : Int))
                first | exact Kd.S_drew (Kd.S_drew h_) | exact Kd.S_drewN h_ _
              · have h_ := below_set (j := kk) (v := .int .i64 (n : Int)) HB.out HG7.out
                first | exact below_drew1 (below_drew1 h_) | exact pw_below_drewN h_ _
          · have hs1 : ((n : Int) + y != z) = true := bne_iff_ne.mpr hs
            have HSS := Aside0.mk hs
            clear hs
            have hw1 := HW1.out
            have hw1b : IntKind.i64.wrap ((n : Int) * c.f0) = p := (i64_w _).trans hw1
            have hw2 := HW2.out
            have hw2b : IntKind.i64.wrap ((due : Int) - p) = (j : Int) := (i64_w _).trans hw2
            have hw3 := HW3.out
            have hw3b : IntKind.i64.wrap ((n : Int) + y) = (n : Int) + y := (i64_w _).trans hw3
            have hw4 := HW4.out
            have hw4b : IntKind.i64.wrap ((kk : Int) + 1) = (k2 : Int) := (i64_w _).trans hw4
            go_wp2
            refine start_ (n := 23) (S := fun w' => w'.cell? ⟨gb, 0, none⟩ = some (.int .i64 c.f0) ∧ w'.cell? (adx.add kk) = some (.slice (some ad2) (n0 + 1) c2) ∧ w'.cell? (adx.add k2) = some (.slice (some ad3) (n0 + 1) c3) ∧ w'.cell? (ad2.add j) = some (.int .i64 y) ∧ w'.cell? (ad3.add due) = some (.int .i64 z)) (ds := []) #[false, false, false, false, false, false, false, false, false, false, false, false, false, false, false, false, false, false, false, false, false, false, false] (by kernel_rfl) rfl rfl ⟨hk0, hq2, hq3, hq4, hq5⟩ (fun hHeld => ?_)
            refine with_tabW impl_Change.tab16 impl_Change.bits16 (fun HT_ HW_ => ?_)
            refine pure_ (i := 0) (N := some 56) (v := ?_) (a' := ?_) #[true, false, false, false, false, false, false, false, false, false, false, false, false, false, false, false, false, false, false, false, false, false, false] rfl rfl (any_of HT_.out (by kernel_rfl)) (fun _ _ _ h => h) (Or.inl ⟨by rfl, ?_⟩) ?_ ?_
            rotate_left
            · intro w'
              go_simp
              with_reducible rfl
            rotate_left
            · simp only [Act.put, List.setIfInBounds_toArray, List.set_cons_zero, List.set_cons_succ, i64_w, i32_w]
              rfl
            refine pure_ (i := 1) (N := some 57) (v := ?_) (a' := ?_) #[true, true, false, false, false, false, false, false, false, false, false, false, false, false, false, false, false, false, false, false, false, false, false] rfl rfl (any_of HT_.out (by kernel_rfl)) (fun _ _ _ h => h) (Or.inl ⟨by rfl, ?_⟩) ?_ ?_
            rotate_left
            · intro w'
              go_simp
              with_reducible rfl
            rotate_left
            · simp only [Act.put, List.setIfInBounds_toArray, List.set_cons_zero, List.set_cons_succ, i64_w, i32_w]
              rfl
            refine pure_ (i := 2) (N := some 58) (v := ?_) (a' := ?_) #[true, true, true, false, false, false, false, false, false, false, false, false, false, false, false, false, false, false, false, false, false, false, false] rfl rfl (any_of HT_.out (by kernel_rfl)) (fun _ _ _ h => h) (Or.inl ⟨by rfl, ?_⟩) ?_ ?_
            rotate_left
            · intro w'
              go_simp
              with_reducible rfl
            rotate_left
            · simp only [Act.put, List.setIfInBounds_toArray, List.set_cons_zero, List.set_cons_succ, i64_w, i32_w]
              rfl
            refine pure_ (i := 3) (N := some 59) (v := ?_) (a' := ?_) #[true, true, true, true, false, false, false, false, false, false, false, false, false, false, false, false, false, false, false, false, false, false, false] rfl rfl (any_of HT_.out (by kernel_rfl)) (fun _ _ _ h => h) (Or.inl ⟨by rfl, ?_⟩) ?_ ?_
            rotate_left
            · intro w'
              go_simp
              with_reducible rfl
            rotate_left
            · simp only [Act.put, List.setIfInBounds_toArray, List.set_cons_zero, List.set_cons_succ, i64_w, i32_w]
              rfl
            refine pure_ (i := 5) (N := some 61) (v := ?_) (a' := ?_) #[true, true, true, true, false, true, false, false, false, false, false, false, false, false, false, false, false, false, false, false, false, false, false] rfl rfl (any_of HT_.out (by kernel_rfl)) (fun _ _ _ h => h) (Or.inl ⟨by rfl, ?_⟩) ?_ ?_
            rotate_left
            · intro w'
              go_simp
              with_reducible rfl
            rotate_left
            · simp only [Act.put, List.setIfInBounds_toArray, List.set_cons_zero, List.set_cons_succ, i64_w, i32_w]
              rfl
            refine pure_ (i := 6) (N := some 62) (v := ?_) (a' := ?_) #[true, true, true, true, false, true, true, false, false, false, false, false, false, false, false, false, false, false, false, false, false, false, false] rfl rfl (any_of HT_.out (by kernel_rfl)) (fun _ _ _ h => h) (Or.inl ⟨by rfl, ?_⟩) ?_ ?_
            rotate_left
            · intro w'
              go_simp
              with_reducible rfl
            rotate_left
            · simp only [Act.put, List.setIfInBounds_toArray, List.set_cons_zero, List.set_cons_succ, i64_w, i32_w]
              rfl
            refine pure_ (i := 7) (N := some 63) (v := ?_) (a' := ?_) #[true, true, true, true, false, true, true, true, false, false, false, false, false, false, false, false, false, false, false, false, false, false, false] rfl rfl (any_of HT_.out (by kernel_rfl)) (fun _ _ _ h => h) (Or.inl ⟨by rfl, ?_⟩) ?_ ?_
            rotate_left
            · intro w'
              go_simp
              with_reducible rfl
            rotate_left
            · simp only [Act.put, List.setIfInBounds_toArray, List.set_cons_zero, List.set_cons_succ, i64_w, i32_w]
              rfl
            refine pure_ (i := 14) (N := some 70) (v := ?_) (a' := ?_) #[true, true, true, true, false, true, true, true, false, false, false, false, false, false, true, false, false, false, false, false, false, false, false] rfl rfl (any_of HT_.out (by kernel_rfl)) (fun _ _ _ h => h) (Or.inl ⟨by rfl, ?_⟩) ?_ ?_
            rotate_left
            · intro w'
              go_simp
              with_reducible rfl
            rotate_left
            · simp only [Act.put, List.setIfInBounds_toArray, List.set_cons_zero, List.set_cons_succ, i64_w, i32_w]
              rfl
            refine pure_ (i := 15) (N := some 71) (v := ?_) (a' := ?_) #[true, true, true, true, false, true, true, true, false, false, false, false, false, false, true, true, false, false, false, false, false, false, false] rfl rfl (any_of HT_.out (by kernel_rfl)) (fun _ _ _ h => h) (Or.inl ⟨by rfl, ?_⟩) ?_ ?_
            rotate_left
            · intro w'
              go_simp
              with_reducible rfl
            rotate_left
            · simp only [Act.put, List.setIfInBounds_toArray, List.set_cons_zero, List.set_cons_succ, i64_w, i32_w]
              rfl
            refine pure_ (i := 16) (N := some 72) (v := ?_) (a' := ?_) #[true, true, true, true, false, true, true, true, false, false, false, false, false, false, true, true, true, false, false, false, false, false, false] rfl rfl (any_of HT_.out (by kernel_rfl)) (fun _ _ _ h => h) (Or.inl ⟨by rfl, ?_⟩) ?_ ?_
            rotate_left
            · intro w'
              go_simp
              with_reducible rfl
            rotate_left
            · simp only [Act.put, List.setIfInBounds_toArray, List.set_cons_zero, List.set_cons_succ, i64_w, i32_w]
              rfl
            refine pure_ (i := 17) (N := some 73) (v := ?_) (a' := ?_) #[true, true, true, true, false, true, true, true, false, false, false, false, false, false, true, true, true, true, false, false, false, false, false] rfl rfl (any_of HT_.out (by kernel_rfl)) (fun _ _ _ h => h) (Or.inl ⟨by rfl, ?_⟩) ?_ ?_
            rotate_left
            · intro w'
              go_simp
              with_reducible rfl
            rotate_left
            · simp only [Act.put, List.setIfInBounds_toArray, List.set_cons_zero, List.set_cons_succ, i64_w, i32_w]
              rfl
            refine pure_ (i := 19) (N := some 75) (v := ?_) (a' := ?_) #[true, true, true, true, false, true, true, true, false, false, false, false, false, false, true, true, true, true, false, true, false, false, false] rfl rfl (any_of HT_.out (by kernel_rfl)) (fun _ _ _ h => h) (Or.inl ⟨by rfl, ?_⟩) ?_ ?_
            rotate_left
            · intro w'
              go_simp
              with_reducible rfl
            rotate_left
            · simp only [Act.put, List.setIfInBounds_toArray, List.set_cons_zero, List.set_cons_succ, i64_w, i32_w]
              rfl
            refine take_ (i := 4) (N := some 60) (v := ?_) (a' := ?_) #[true, true, true, true, true, true, true, true, false, false, false, false, false, false, true, true, true, true, false, true, false, false, false] rfl rfl (take_ofW HT_.out HW_.out (by kernel_rfl)) (fun _ _ _ h => h) (Or.inl ⟨by rfl, ?_⟩) hHeld ?_ ?_
            rotate_left
            · rintro w' ⟨s0, s1, s2, s3, s4⟩
              go_simp
              with_reducible rfl
            rotate_left
            · simp only [Act.put, List.setIfInBounds_toArray, List.set_cons_zero, List.set_cons_succ, i64_w, i32_w]
              rfl
            refine take_ (i := 8) (N := some 64) (v := ?_) (a' := ?_) #[true, true, true, true, true, true, true, true, true, false, false, false, false, false, true, true, true, true, false, true, false, false, false] rfl rfl (take_ofW HT_.out HW_.out (by kernel_rfl)) (fun _ _ _ h => h) (Or.inl ⟨by rfl, ?_⟩) hHeld ?_ ?_
            rotate_left
            · rintro w' ⟨s0, s1, s2, s3, s4⟩
              go_simp
              with_reducible rfl
            rotate_left
            · simp only [Act.put, List.setIfInBounds_toArray, List.set_cons_zero, List.set_cons_succ, i64_w, i32_w]
              rfl
            refine pure_ (i := 9) (N := some 65) (v := ?_) (a' := ?_) #[true, true, true, true, true, true, true, true, true, true, false, false, false, false, true, true, true, true, false, true, false, false, false] rfl rfl (any_of HT_.out (by kernel_rfl)) (fun _ _ _ h => h) (Or.inl ⟨by rfl, ?_⟩) ?_ ?_
            rotate_left
            · intro w'
              go_simp
              with_reducible rfl
            rotate_left
            · simp only [Act.put, List.setIfInBounds_toArray, List.set_cons_zero, List.set_cons_succ, i64_w, i32_w]
              rfl
            refine pure_ (i := 10) (N := some 66) (v := ?_) (a' := ?_) #[true, true, true, true, true, true, true, true, true, true, true, false, false, false, true, true, true, true, false, true, false, false, false] rfl rfl (any_of HT_.out (by kernel_rfl)) (fun _ _ _ h => h) (Or.inl ⟨by rfl, ?_⟩) ?_ ?_
            rotate_left
            · intro w'
              go_simp
              with_reducible rfl
            rotate_left
            · simp only [Act.put, List.setIfInBounds_toArray, List.set_cons_zero, List.set_cons_succ, i64_w, i32_w]
              rfl
            refine pure_ (i := 11) (N := some 67) (v := ?_) (a' := ?_) #[true, true, true, true, true, true, true, true, true, true, true, true, false, false, true, true, true, true, false, true, false, false, false] rfl rfl (any_of HT_.out (by kernel_rfl)) (fun _ _ _ h => h) (Or.inl ⟨by rfl, ?_⟩) ?_ ?_
            rotate_left
            · intro w'
              go_simp
              with_reducible rfl
            rotate_left
            · simp only [Act.put, List.setIfInBounds_toArray, List.set_cons_zero, List.set_cons_succ, i64_w, i32_w]
              rfl
            refine take_ (i := 12) (N := some 68) (v := ?_) (a' := ?_) #[true, true, true, true, true, true, true, true, true, true, true, true, true, false, true, true, true, true, false, true, false, false, false] rfl rfl (take_ofW HT_.out HW_.out (by kernel_rfl)) (fun _ _ _ h => h) (Or.inl ⟨by rfl, ?_⟩) hHeld ?_ ?_
            rotate_left
            · rintro w' ⟨s0, s1, s2, s3, s4⟩
              go_simp
              with_reducible rfl
            rotate_left
            · simp only [Act.put, List.setIfInBounds_toArray, List.set_cons_zero, List.set_cons_succ, i64_w, i32_w]
              rfl
            refine pure_ (i := 13) (N := some 69) (v := ?_) (a' := ?_) #[true, true, true, true, true, true, true, true, true, true, true, true, true, true, true, true, true, true, false, true, false, false, false] rfl rfl (any_of HT_.out (by kernel_rfl)) (fun _ _ _ h => h) (Or.inl ⟨by rfl, ?_⟩) ?_ ?_
            rotate_left
            · intro w'
              go_simp
              with_reducible rfl
            rotate_left
            · simp only [Act.put, List.setIfInBounds_toArray, List.set_cons_zero, List.set_cons_succ, i64_w, i32_w]
              rfl
            refine take_ (i := 18) (N := some 74) (v := ?_) (a' := ?_) #[true, true, true, true, true, true, true, true, true, true, true, true, true, true, true, true, true, true, true, true, false, false, false] rfl rfl (take_ofW HT_.out HW_.out (by kernel_rfl)) (fun _ _ _ h => h) (Or.inl ⟨by rfl, ?_⟩) hHeld ?_ ?_
            rotate_left
            · rintro w' ⟨s0, s1, s2, s3, s4⟩
              go_simp
              with_reducible rfl
            rotate_left
            · simp only [Act.put, List.setIfInBounds_toArray, List.set_cons_zero, List.set_cons_succ, i64_w, i32_w]
              rfl
            refine pure_ (i := 20) (N := some 76) (v := ?_) (a' := ?_) #[true, true, true, true, true, true, true, true, true, true, true, true, true, true, true, true, true, true, true, true, true, false, false] rfl rfl (any_of HT_.out (by kernel_rfl)) (fun _ _ _ h => h) (Or.inl ⟨by rfl, ?_⟩) ?_ ?_
            rotate_left
            · intro w'
              go_simp
              with_reducible rfl
            rotate_left
            · simp only [Act.put, List.setIfInBounds_toArray, List.set_cons_zero, List.set_cons_succ, i64_w, i32_w]
              rfl
            refine take_ (i := 21) (N := some 77) (v := ?_) (a' := ?_) #[true, true, true, true, true, true, true, true, true, true, true, true, true, true, true, true, true, true, true, true, true, true, false] rfl rfl (take_ofW HT_.out HW_.out (by kernel_rfl)) (fun _ _ _ h => h) (Or.inl ⟨by rfl, ?_⟩) hHeld ?_ ?_
            rotate_left
            · rintro w' ⟨s0, s1, s2, s3, s4⟩
              go_simp
              with_reducible rfl
            rotate_left
            · simp only [Act.put, List.setIfInBounds_toArray, List.set_cons_zero, List.set_cons_succ, i64_w, i32_w]
              rfl
            refine pure_ (i := 22) (N := some 78) (v := ?_) (a' := ?_) #[true, true, true, true, true, true, true, true, true, true, true, true, true, true, true, true, true, true, true, true, true, true, true] rfl rfl (any_of HT_.out (by kernel_rfl)) (fun _ _ _ h => h) (Or.inl ⟨by rfl, ?_⟩) ?_ ?_
            rotate_left
            · intro w'
              go_simp
              with_reducible rfl
            rotate_left
            · simp only [Act.put, List.setIfInBounds_toArray, List.set_cons_zero, List.set_cons_succ, i64_w, i32_w]
              rfl
            refine done_ (done_of HT_.out (by kernel_rfl)) ?_
            clear hq2 hq3 hq4 hq5 hs1 hw3 hw3b hw4 hw4b
            obtain ⟨n', hn', hpk⟩ := HPE.out.2 HSS.out
            have HPN := Aside0.mk hpk
            have HNN := Aside0.mk hn'
            clear hn' hpk hw1 hw1b hw2 hw2b
            go_wp2
            go_roundg n'
            case measure => have h_ := HNN.out; have h2_ := HNG2.out; omega
            case rel => exact ⟨n', by have h_ := HNN.out; have h2_ := HMN.out; omega, Nat.le_refl _, by rw [HNN.out]; congr 1; omega, HPN, ⟨Kd.R_drew HO.out⟩, ⟨Kd.S_drew HS.out⟩, ⟨blk_drew HK.out⟩, ⟨below_drew1 HB.out⟩⟩


end Go.Proofs.Ythlphmnplfnmnaa.XFnChange
