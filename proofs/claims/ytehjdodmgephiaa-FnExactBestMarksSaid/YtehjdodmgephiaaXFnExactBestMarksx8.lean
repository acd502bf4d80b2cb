-- PRINTED by xprint.py (our own program, over the kit's print.py)
import Derived.Test.YtehjdodmgephiaaXFnExactBestMarksx0
import Derived.Test.YtehjdodmgephiaaXFnExactBestMarksx5
import Derived.Test.YtehjdodmgephiaaXFnExactBestMarksx6
import Derived.Test.YtehjdodmgephiaaXFnExactBestMarksx7
namespace Go.Proofs.Ytehjdodmgephiaa.XFnExactBestMarks
open Go.RowKit Go.Proofs.YtehjdodmgephiaaW.PrintWords Go.Proofs.YtehjdodmgephiaaW.PrintLast Go.Proofs.YtehjdodmgephiaaW.PrintMore Go.Proofs.YtehjdodmgephiaaW.Idx
attribute [local go_sem] max2_int min2_int max_two min_two max_three min_three max_four min_four   -- for this text's walks alone
set_option linter.unusedVariables false
set_option linter.unusedSimpArgs false

/-! ### spec_BestMarks: function 24 -/
def spec_BestMarks.pr (a b : Int) : Int := a - a * b / 100
/-- The most that the days bring, with steps from i on. -/
def spec_BestMarks.most (a0 : Int) (P : List Int) : List (List Int) → Nat → Int → Int
  | [], _, _ => 0
  | d :: D, i, l => (List.range' i (P.length - i)).foldl (fun b k => mx b (mn l (rd d ((k : Nat) : Int)) * spec_BestMarks.pr a0 (rd P ((k : Nat) : Int)) + spec_BestMarks.most a0 P D k (l - mn l (rd d ((k : Nat) : Int))))) 0
def spec_BestMarks.worth (a0 : Int) (P : List Int) (d : List Int) (D : List (List Int)) (k : Nat) (l : Int) : Int := mn l (rd d ((k : Nat) : Int)) * spec_BestMarks.pr a0 (rd P ((k : Nat) : Int)) + spec_BestMarks.most a0 P D k (l - mn l (rd d ((k : Nat) : Int)))
/-- The first number from i on (of m) at which p holds. -/
def spec_BestMarks.first (p : Nat → Bool) : Nat → Nat → Nat
  | i, 0 => i
  | i, m + 1 => if p i = true then i else spec_BestMarks.first p (i + 1) m
def spec_BestMarks.steps (a0 : Int) (P : List Int) : List (List Int) → Nat → Int → List Int
  | [], _, _ => []
  | d :: D, i, l => ((spec_BestMarks.first (fun k => spec_BestMarks.worth a0 P d D k l == spec_BestMarks.most a0 P (d :: D) i l) i (P.length - i) : Nat) : Int) :: spec_BestMarks.steps a0 P D (spec_BestMarks.first (fun k => spec_BestMarks.worth a0 P d D k l == spec_BestMarks.most a0 P (d :: D) i l) i (P.length - i)) (l - mn l (rd d ((spec_BestMarks.first (fun k => spec_BestMarks.worth a0 P d D k l == spec_BestMarks.most a0 P (d :: D) i l) i (P.length - i) : Nat) : Int)))
def spec_BestMarks.good (a0 a1 : Int) (P : List Int) (D : List (List Int)) : Prop := (0 ≤ a0 ∧ a0 ≤ 1000000) ∧ (0 ≤ a1 ∧ a1 ≤ 200) ∧ (1 ≤ P.length ∧ P.length ≤ 5) ∧ (1 ≤ D.length ∧ D.length ≤ 7) ∧ (∀ x ∈ P, 0 ≤ x ∧ x ≤ 100) ∧ (∀ d ∈ D, d.length = P.length) ∧ (∀ d ∈ D, ∀ x ∈ d, 0 ≤ x ∧ x ≤ 200)
instance (a0 a1 : Int) (P : List Int) (D : List (List Int)) : Decidable (spec_BestMarks.good a0 a1 P D) := by unfold spec_BestMarks.good; exact inferInstance
def spec_BestMarks.f (k : Nat) (a0 : Int) (a1 : Int) (l2 : List Int) (l3 : List (List Int)) : Option (List Int × List Int × Int × Int × Int) := (spec_l15Long.f l2 l3).bind fun t => (if t = true then (some ([], [], 0, 0, 2)) else ((spec_l15Right.f k a0 a1 l2 l3).bind fun u => (if u = true then (if spec_BestMarks.good a0 a1 l2 l3 then (spec_MarkOf.f k a0 a1 l2 l3 (spec_BestMarks.steps a0 l2 l3 0 a1)) else none) else (some ([], [], 0, 0, 1)))))
theorem spec_BestMarks.rd_bd {d : List Int} {lo hi : Int} (h0 : lo ≤ 0) (h1 : 0 ≤ hi) (h : ∀ x ∈ d, lo ≤ x ∧ x ≤ hi) (i : Int) : lo ≤ rd d i ∧ rd d i ≤ hi := by
  unfold rd
  rw [List.getD_eq_getElem?_getD]
  cases e : d[i.toNat]? with
  | none => exact ⟨h0, h1⟩
  | some y => exact h y (List.mem_of_getElem? e)
theorem spec_BestMarks.mn_bd {a b : Int} (ha : 0 ≤ a) (hb : 0 ≤ b) : 0 ≤ mn a b ∧ mn a b ≤ a ∧ mn a b ≤ b := by unfold mn; split <;> omega
theorem spec_BestMarks.price {a b : Int} (ha : 0 ≤ a ∧ a ≤ 1000000) (hb : 0 ≤ b ∧ b ≤ 100) : spec_l15Price.f a b = some (spec_BestMarks.pr a b) ∧ 0 ≤ spec_BestMarks.pr a b ∧ spec_BestMarks.pr a b ≤ 1000000 := by
  have h0 : 0 ≤ a * b := Int.mul_nonneg ha.1 hb.1
  have h1 : a * b ≤ a * 100 := Int.mul_le_mul_of_nonneg_left hb.2 ha.1
  unfold spec_l15Price.f spec_BestMarks.pr
  generalize a * b = p at h0 h1 ⊢
  rw [show wrap64 p = p by unfold wrap64; omega, Int.tdiv_eq_ediv_of_nonneg h0, show wrap64 (p / 100) = p / 100 by unfold wrap64; omega, show wrap64 (a - p / 100) = a - p / 100 by unfold wrap64; omega]
  exact ⟨rfl, by omega, by omega⟩
theorem spec_BestMarks.sale {a0 : Int} {P d : List Int} {s l : Int} (ha : 0 ≤ a0 ∧ a0 ≤ 1000000) (hP : ∀ x ∈ P, 0 ≤ x ∧ x ≤ 100) (hd : ∀ x ∈ d, 0 ≤ x ∧ x ≤ 200) (h0 : 0 ≤ l) :
    0 ≤ mn l (rd d s) ∧ mn l (rd d s) ≤ l ∧ 0 ≤ mn l (rd d s) * spec_BestMarks.pr a0 (rd P s) ∧ mn l (rd d s) * spec_BestMarks.pr a0 (rd P s) ≤ 200000000 := by
  obtain ⟨p1, p2, p3⟩ := spec_BestMarks.price ha (spec_BestMarks.rd_bd (by omega) (by omega) hP s)
  obtain ⟨m1, m2, m3⟩ := spec_BestMarks.mn_bd h0 (spec_BestMarks.rd_bd (by omega) (by omega) hd s).1
  have m4 := (spec_BestMarks.rd_bd (lo := 0) (by omega) (by omega) hd s).2
  refine ⟨m1, m2, Int.mul_nonneg m1 p2, ?_⟩
  have := Int.mul_le_mul (show mn l (rd d s) ≤ 200 by omega) p3 p2 (by omega)
  omega
theorem spec_BestMarks.fold_bd {f : Nat → Int} {B : Int} (hB : 0 ≤ B) : ∀ (ks : List Nat) (b : Int), 0 ≤ b → b ≤ B → (∀ k ∈ ks, f k ≤ B) → 0 ≤ ks.foldl (fun b k => mx b (f k)) b ∧ ks.foldl (fun b k => mx b (f k)) b ≤ B := by
  intro ks
  induction ks with
  | nil => intro b h0 h1 _; exact ⟨h0, h1⟩
  | cons k ks ih =>
    intro b h0 h1 h
    have hk := h k (by simp)
    exact ih (mx b (f k)) (by unfold mx; split <;> omega) (by unfold mx; split <;> omega) (fun j hj => h j (by simp [hj]))
theorem spec_BestMarks.most_bd {a0 : Int} {P : List Int} (ha : 0 ≤ a0 ∧ a0 ≤ 1000000) (hP : ∀ x ∈ P, 0 ≤ x ∧ x ≤ 100) : ∀ (D : List (List Int)) (i : Nat) (l : Int), (∀ d ∈ D, ∀ x ∈ d, 0 ≤ x ∧ x ≤ 200) → 0 ≤ l → 0 ≤ spec_BestMarks.most a0 P D i l ∧ spec_BestMarks.most a0 P D i l ≤ 200000000 * (D.length : Int) := by
  intro D
  induction D with
  | nil => intro i l _ _; exact ⟨Int.le_refl _, by simp [spec_BestMarks.most]⟩
  | cons d D ih =>
    intro i l hd h0
    rw [spec_BestMarks.most]
    refine spec_BestMarks.fold_bd (by omega) _ _ (Int.le_refl _) (by omega) (fun k _ => ?_)
    obtain ⟨m1, m2, x1, x2⟩ := spec_BestMarks.sale (s := ((k : Nat) : Int)) ha hP (hd d (by simp)) h0
    have := (ih k (l - mn l (rd d ((k : Nat) : Int))) (fun z hz => hd z (by simp [hz])) (by omega)).2
    rw [List.length_cons]
    omega
def spec_BestMarks.acc (a0 : Int) (P : List Int) (d : List Int) (D : List (List Int)) (i k : Nat) (l : Int) : Int := (List.range' i (k - i)).foldl (fun b k => mx b (spec_BestMarks.worth a0 P d D k l)) 0
theorem spec_BestMarks.acc_start (a0 : Int) (P : List Int) (d : List Int) (D : List (List Int)) (i : Nat) (l : Int) : spec_BestMarks.acc a0 P d D i i l = 0 := by
  unfold spec_BestMarks.acc
  rw [Nat.sub_self]
  rfl
theorem spec_BestMarks.acc_step (a0 : Int) (P : List Int) (d : List Int) (D : List (List Int)) (i k : Nat) (l : Int) (h : i ≤ k) : spec_BestMarks.acc a0 P d D i (k + 1) l = mx (spec_BestMarks.acc a0 P d D i k l) (spec_BestMarks.worth a0 P d D k l) := by
  unfold spec_BestMarks.acc
  rw [show k + 1 - i = (k - i) + 1 by omega, List.range'_concat, List.foldl_append]
  simp only [List.foldl_cons, List.foldl_nil, Nat.one_mul]
  rw [show i + (k - i) = k by omega]
theorem spec_BestMarks.acc_end (a0 : Int) (P : List Int) (d : List Int) (D : List (List Int)) (i : Nat) (l : Int) : spec_BestMarks.acc a0 P d D i P.length l = spec_BestMarks.most a0 P (d :: D) i l := rfl
/-- A place in the memo. -/
def spec_BestMarks.idx (day i : Nat) (l : Int) : Int := ((day : Int) * 5 + (i : Int)) * 201 + l
/-- What stands in the memo is true. -/
def spec_BestMarks.Inv (a0 : Int) (P : List Int) (D : List (List Int)) (M : List Int) : Prop := ∀ (day i : Nat) (l : Int), day < D.length → i < 5 → 0 ≤ l → l ≤ 200 → ∀ v, M.getD (spec_BestMarks.idx day i l).toNat 0 = v → 0 ≤ v → v = spec_BestMarks.most a0 P (D.drop day) i l
theorem spec_BestMarks.Inv.put {a0 : Int} {P : List Int} {D : List (List Int)} {M : List Int} (h : spec_BestMarks.Inv a0 P D M) {day i : Nat} {l : Int} (hi : i < 5) (h0 : 0 ≤ l) (h1 : l ≤ 200) : spec_BestMarks.Inv a0 P D (M.set (spec_BestMarks.idx day i l).toNat (spec_BestMarks.most a0 P (D.drop day) i l)) := by
  intro day' i' l' hd' hi' h0' h1' v hv v0
  by_cases e : (spec_BestMarks.idx day i l).toNat = (spec_BestMarks.idx day' i' l').toNat
  · have e2 : day = day' ∧ i = i' ∧ l = l' := by unfold spec_BestMarks.idx at e; omega
    obtain ⟨rfl, rfl, rfl⟩ := e2
    by_cases hlt : (spec_BestMarks.idx day i l).toNat < M.length
    · rw [List.getD_eq_getElem?_getD, List.getElem?_set_self hlt] at hv
      exact hv.symm
    · exact h day i l hd' hi' h0' h1' v (by rw [List.set_eq_of_length_le (by omega)] at hv; exact hv) v0
  · refine h day' i' l' hd' hi' h0' h1' v ?_ v0
    rw [List.getD_eq_getElem?_getD, List.getElem?_set_ne e, ← List.getD_eq_getElem?_getD] at hv
    exact hv
/-- The search's own memory. -/
structure spec_BestMarks.SE (a0 : Int) (A2 : Option Addr) (c2 : Nat) (P : List Int) (A3 : Option Addr) (c3 : Nat) (D : List (List Int)) (w0 : World) (gx gm cm : Nat) (W : World) (M : List Int) : Prop where
  bel : Below w0.heap.size w0 W
  le : w0.heap.size ≤ gm
  ne : gx ≠ gm
  blk : W.heap[gx]? = some (.cells #[.int .i64 a0, .slice A2 P.length c2, .slice A3 D.length c3, .slice (some ⟨gm, 0, none⟩) 7035 cm] 63 (0, 0))
  row : Kd.R (Kd.int .i64) 3 W w0.heap.size (fun k_ => some k_ = some gm) (.slice (some ⟨gm, 0, none⟩) 7035 cm) M
  inv : spec_BestMarks.Inv a0 P D M
section
variable {a0 : Int} {A2 : Option Addr} {c2 : Nat} {P : List Int} {A3 : Option Addr} {c3 : Nat} {D : List (List Int)} {w0 : World} {gx gm cm : Nat} {W W1 : World} {M : List Int}
theorem spec_BestMarks.SE.below (h : spec_BestMarks.SE a0 A2 c2 P A3 c3 D w0 gx gm cm W M) (hb : Below W.heap.size W W1) : spec_BestMarks.SE a0 A2 c2 P A3 c3 D w0 gx gm cm W1 M := by
  obtain ⟨h1, h2, h3, h4, h5, h6⟩ := h
  exact ⟨below_step h1 hb, h2, h3, blk_below h4 hb, Kd.R_below h5 hb, h6⟩
theorem spec_BestMarks.SE.len (h : spec_BestMarks.SE a0 A2 c2 P A3 c3 D w0 gx gm cm W M) : M.length = 7035 := (Kd.R_reads' h.row).1.symm
theorem spec_BestMarks.SE.put (h : spec_BestMarks.SE a0 A2 c2 P A3 c3 D w0 gx gm cm W M) {z x : Int} (hi : spec_BestMarks.Inv a0 P D (M.set z.toNat x)) : spec_BestMarks.SE a0 A2 c2 P A3 c3 D w0 gx gm cm (W.setCell ⟨gm, z.toNat, none⟩ (.int .i64 x)) (M.set z.toNat x) := by
  obtain ⟨h1, h2, h3, h4, h5, h6⟩ := h
  have e : 7035 = M.length := (Kd.R_reads' h5).1
  refine ⟨below_set h1 h2, h2, h3, blk_far h4 h3 _, ?_, hi⟩
  have h_ := Kd.R_putn (Kd.R_tight rfl h5) z x
  rw [e] at h5 ⊢
  try rw [e] at h_
  exact h_
end
section
variable {a0 : Int} {A2 : Option Addr} {c2 : Nat} {P : List Int} {A3 : Option Addr} {c3 : Nat} {D : List (List Int)} {w0 : World} {gx gm cm : Nat}
/-- What is sold on a day. -/
theorem spec_BestMarks.sold (hr3 : Kd.C (Kd.slice 3 (Kd.int .i64)) w0 A3 D.length D) (hD : D.length ≤ 7) (day k : Nat) (l : Int) (M : List Int) (W : World) (hd : day < D.length) (hk : k < (D.getD day []).length) (E : spec_BestMarks.SE a0 A2 c2 P A3 c3 D w0 gx gm cm W M) :
    Calls Try.prog 47 #[.pointer (some ⟨gx, 0, none⟩), .int .i64 (day : Int), .int .i64 (k : Int), .int .i64 l] W fun e w' => e = .returned (.int .i64 (mn l (rd (D.getD day []) (k : Int)))) ∧ Drawn0 W w' := by
  have c2_ : W.cell? ⟨gx, 2, none⟩ = some (.slice A3 D.length c3) := (blk_cell E.blk 2).trans rfl
  obtain ⟨ad, cs, e0, _, hK, hcc⟩ := Kd.C_get (Kd.C_below hr3 E.bel) ([] : List Int) (day : Int) (by omega) (by omega)
  rw [Int.toNat_natCast] at hK hcc
  obtain ⟨A4, c4, rfl, hl, hr⟩ := hK
  have hx := hcc 0 _ rfl
  rw [show (Kd.slice 3 (Kd.int .i64)).sz = 1 from rfl, Nat.mul_one, Nat.add_zero] at hx
  subst e0
  obtain ⟨ad2, e1, hy⟩ := Kd.at_int hr (k : Int) (by omega) (by omega)
  rw [Int.toNat_natCast] at hy
  subst e1
  have hdz : (day : Int) < (D.length : Int) := by omega
  have hkz : (k : Int) < ((D.getD day []).length : Int) := by omega
  generalize D.getD day [] = d at hx hy hr hl hkz hk ⊢
  obtain ⟨m, hm⟩ : ∃ m, mn l (rd d (k : Int)) = m := ⟨_, rfl⟩
  have hm2 : (if rd d (k : Int) < l then rd d (k : Int) else l) = m := hm
  rw [hm]
  have HM := Aside0.mk hm
  clear hm hcc hr hl E hr3 hk hd
  go_enter Try.func47, Try.ntmps47
  go_wp2
  go_ret
  exact ⟨by first | rfl | (simp; done) | (simp [*]; done), Drawn0.refl _⟩
def spec_BestMarks.w.T2 : Bool × List (List Nat × List Nat) := (true, [([], []), ([], []), ([1], [1]), ([2], [2]), ([3], [3]), ([], []), ([5], [5]), ([6], [6]), ([7], [7]), ([], []), ([8, 9], [8, 9]), ([10], [10]), ([4, 11], [4, 11]), ([0, 12], [0, 12]), ([], []), ([], []), ([15], [15]), ([], []), ([], []), ([], []), ([18, 19], [18, 19]), ([14, 16, 17, 20, 12], [14, 16, 17, 20]), ([13, 21], [13, 21]), ([22, 21, 0, 1, 2, 3, 4, 5, 6, 7, 8, 9, 10, 11, 12, 13, 14, 15, 16, 17, 18, 19, 20, 21, 22], [22])])
def spec_BestMarks.w.B2 : List Nat := [0, 0, 2, 6, 14, 0, 32, 96, 224, 0, 992, 2016, 4094, 8191, 0, 0, 32768, 0, 0, 0, 786432, 2088958, 4194303, 8388607]
theorem spec_BestMarks.w.tab2 : rtab .any (opsOf Try.f46 2) = spec_BestMarks.w.T2 := by kernel_rfl
theorem spec_BestMarks.w.bits2 : waitsOk spec_BestMarks.w.T2.2 spec_BestMarks.w.B2 = true := by kernel_rfl
theorem spec_BestMarks.worth_ {a1 : Int} (hg : spec_BestMarks.good a0 a1 P D) (hr2 : Kd.C (Kd.int .i64) w0 A2 P.length P) (hr3 : Kd.C (Kd.slice 3 (Kd.int .i64)) w0 A3 D.length D) (day k : Nat) (l : Int) (M : List Int) (W : World) (hd : day < D.length) (hk : k < P.length) (l0 : 0 ≤ l) (l1 : l ≤ 200)
    (hm : ∀ (i : Nat) (l : Int) (M : List Int) (W : World), i < P.length → 0 ≤ l → l ≤ 200 → spec_BestMarks.SE a0 A2 c2 P A3 c3 D w0 gx gm cm W M → Calls Try.prog 45 #[.pointer (some ⟨gx, 0, none⟩), .int .i64 ((day : Int) + 1), .int .i64 (i : Int), .int .i64 l] W fun e w' => e = .returned (.int .i64 (spec_BestMarks.most a0 P (D.drop (day + 1)) i l)) ∧ ∃ M', spec_BestMarks.SE a0 A2 c2 P A3 c3 D w0 gx gm cm w' M' ∧ Kept W w' (fun k_ => k_ = gm))
    (E : spec_BestMarks.SE a0 A2 c2 P A3 c3 D w0 gx gm cm W M) :
    Calls Try.prog 46 #[.pointer (some ⟨gx, 0, none⟩), .int .i64 (day : Int), .int .i64 (k : Int), .int .i64 l] W fun e w' => e = .returned (.int .i64 (spec_BestMarks.worth a0 P (D.getD day []) (D.drop (day + 1)) k l)) ∧ ∃ M', spec_BestMarks.SE a0 A2 c2 P A3 c3 D w0 gx gm cm w' M' ∧ Kept W w' (fun k_ => k_ = gm) := by
  obtain ⟨g1, g2, g3, g4, g5, g6, g7⟩ := hg
  have hmem : D.getD day [] ∈ D := by
    rw [List.getD_eq_getElem?_getD, List.getElem?_eq_getElem hd]
    exact List.getElem_mem hd
  have hdl := g6 _ hmem
  have hdb := g7 _ hmem
  have HSOLD := Aside0.mk (spec_BestMarks.sold hr3 g4.2 day k l M W hd (by omega) E)
  have hbd := spec_BestMarks.sale (s := (k : Int)) (l := l) g1 g5 hdb l0
  have hpr := spec_BestMarks.price g1 (spec_BestMarks.rd_bd (lo := 0) (hi := 100) (by omega) (by omega) g5 (k : Int))
  have hmo := spec_BestMarks.most_bd g1 g5 (D.drop (day + 1)) k (l - mn l (rd (D.getD day []) (k : Int))) (fun d hd_ => g7 d (List.mem_of_mem_drop hd_)) (by have := hbd.2.1; omega)
  have hml : ((D.drop (day + 1)).length : Int) ≤ 7 := by rw [List.length_drop]; omega
  obtain ⟨ad, e1, hy0⟩ := Kd.at_int hr2 (k : Int) (by omega) (by omega)
  rw [Int.toNat_natCast] at hy0
  subst e1
  have hcall := hm k (l - mn l (rd (D.getD day []) (k : Int)))
  have hout : spec_BestMarks.worth a0 P (D.getD day []) (D.drop (day + 1)) k l = mn l (rd (D.getD day []) (k : Int)) * spec_BestMarks.pr a0 (rd P (k : Int)) + spec_BestMarks.most a0 P (D.drop (day + 1)) k (l - mn l (rd (D.getD day []) (k : Int))) := rfl
  rw [hout]
  generalize mn l (rd (D.getD day []) (k : Int)) = m at HSOLD hbd hmo hcall ⊢
  generalize rd P (k : Int) = q at hpr hy0 hbd ⊢
  generalize spec_BestMarks.pr a0 q = p at hpr hbd ⊢
  generalize hl2 : l - m = l2 at hmo hcall ⊢
  generalize spec_BestMarks.most a0 P (D.drop (day + 1)) k l2 = y at hmo hcall ⊢
  obtain ⟨x, hx⟩ : ∃ x, m * p = x := ⟨_, rfl⟩
  rw [hx] at hbd ⊢
  have HCALL : Aside0 (∀ W1 : World, Below W.heap.size W W1 → Calls Try.prog 45 #[.pointer (some ⟨gx, 0, none⟩), .int .i64 ((day : Int) + 1), .int .i64 (k : Int), .int .i64 l2] W1 fun e w' => e = .returned (.int .i64 y) ∧ ∃ M', spec_BestMarks.SE a0 (some ad) c2 P A3 c3 D w0 gx gm cm w' M' ∧ Kept W w' (fun k_ => k_ = gm)) := ⟨fun W1 hb => (hcall M W1 hk (by omega) (by omega) (E.below hb)).mono fun e w' ⟨he, M', hE, hK⟩ => ⟨he, M', hE, (Kept.of_below hb _).then_ hK (fun _ h => .inl h)⟩⟩
  have HPR := Aside0.mk hpr.1
  have q0 : W.cell? ⟨gx, 0, none⟩ = some (.int .i64 a0) := (blk_cell E.blk 0).trans rfl
  have q1 : W.cell? ⟨gx, 1, none⟩ = some (.slice (some ad) P.length c2) := (blk_cell E.blk 1).trans rfl
  have q2 : W.cell? (ad.add k) = some (.int .i64 q) := pw_cell_below E.bel hy0
  have hkz : (k : Int) < (P.length : Int) := by omega
  have hw1 : wrap64 ((day : Int) + 1) = (day : Int) + 1 := by unfold wrap64; omega
  have hw1b : IntKind.i64.wrap ((day : Int) + 1) = (day : Int) + 1 := (i64_w _).trans hw1
  have hw2 : wrap64 (l - m) = l2 := by rw [← hl2]; unfold wrap64; omega
  have hw2b : IntKind.i64.wrap (l - m) = l2 := (i64_w _).trans hw2
  have hw3 : wrap64 (m * p) = x := by rw [hx]; unfold wrap64; omega
  have hw3b : IntKind.i64.wrap (m * p) = x := (i64_w _).trans hw3
  have hw4 : wrap64 (x + y) = x + y := by unfold wrap64; omega
  have hw4b : IntKind.i64.wrap (x + y) = x + y := (i64_w _).trans hw4
  clear hcall hpr hbd hmo hml hx hl2 hy0 E hr2 hr3 hmem hdl hdb g1 g2 g3 g4 g5 g6 g7 hd hk l0 l1 hm hout
  go_enter Try.func46, Try.ntmps46
  go_wp2_with (go_at_call 47; refine HSOLD.out.mono ?_; rintro e w1 ⟨rfl, ⟨nd, rfl⟩⟩)
  refine start_ (n := 24) (S := fun w' => w'.cell? ⟨gx, 0, none⟩ = some (.int .i64 a0) ∧ w'.cell? ⟨gx, 1, none⟩ = some (.slice (some ad) P.length c2) ∧ w'.cell? (ad.add k) = some (.int .i64 q)) (ds := [21]) #[false, false, false, false, false, false, false, false, false, false, false, false, false, false, false, false, false, false, false, false, false, false, false, false] (by kernel_rfl) rfl rfl ⟨q0, q1, q2⟩ (fun hHeld => ?_)
  refine with_tabW spec_BestMarks.w.tab2 spec_BestMarks.w.bits2 (fun HT_ HW_ => ?_)
  refine pure_ (i := 0) (N := some 15) (v := ?_) (a' := ?_) #[true, false, false, false, false, false, false, false, false, false, false, false, false, false, false, false, false, false, false, false, false, false, false, false] rfl rfl (any_of HT_.out (by kernel_rfl)) (fun _ _ _ h => h) (Or.inl ⟨by rfl, ?_⟩) ?_ ?_
  rotate_left
  · intro w'
    go_simp
    with_reducible rfl
  rotate_left
  · simp only [Act.put, List.setIfInBounds_toArray, List.set_cons_zero, List.set_cons_succ, i64_w, i32_w]
    rfl
  refine pure_ (i := 1) (N := some 16) (v := ?_) (a' := ?_) #[true, true, false, false, false, false, false, false, false, false, false, false, false, false, false, false, false, false, false, false, false, false, false, false] rfl rfl (any_of HT_.out (by kernel_rfl)) (fun _ _ _ h => h) (Or.inl ⟨by rfl, ?_⟩) ?_ ?_
  rotate_left
  · intro w'
    go_simp
    with_reducible rfl
  rotate_left
  · simp only [Act.put, List.setIfInBounds_toArray, List.set_cons_zero, List.set_cons_succ, i64_w, i32_w]
    rfl
  refine pure_ (i := 2) (N := some 17) (v := ?_) (a' := ?_) #[true, true, true, false, false, false, false, false, false, false, false, false, false, false, false, false, false, false, false, false, false, false, false, false] rfl rfl (any_of HT_.out (by kernel_rfl)) (fun _ _ _ h => h) (Or.inl ⟨by rfl, ?_⟩) ?_ ?_
  rotate_left
  · intro w'
    go_simp
    with_reducible rfl
  rotate_left
  · simp only [Act.put, List.setIfInBounds_toArray, List.set_cons_zero, List.set_cons_succ, i64_w, i32_w]
    rfl
  refine pure_ (i := 3) (N := some 18) (v := ?_) (a' := ?_) #[true, true, true, true, false, false, false, false, false, false, false, false, false, false, false, false, false, false, false, false, false, false, false, false] rfl rfl (any_of HT_.out (by kernel_rfl)) (fun _ _ _ h => h) (Or.inl ⟨by rfl, ?_⟩) ?_ ?_
  rotate_left
  · intro w'
    go_simp
    with_reducible rfl
  rotate_left
  · simp only [Act.put, List.setIfInBounds_toArray, List.set_cons_zero, List.set_cons_succ, i64_w, i32_w]
    rfl
  refine pure_ (i := 5) (N := some 20) (v := ?_) (a' := ?_) #[true, true, true, true, false, true, false, false, false, false, false, false, false, false, false, false, false, false, false, false, false, false, false, false] rfl rfl (any_of HT_.out (by kernel_rfl)) (fun _ _ _ h => h) (Or.inl ⟨by rfl, ?_⟩) ?_ ?_
  rotate_left
  · intro w'
    go_simp
    with_reducible rfl
  rotate_left
  · simp only [Act.put, List.setIfInBounds_toArray, List.set_cons_zero, List.set_cons_succ, i64_w, i32_w]
    rfl
  refine pure_ (i := 6) (N := some 21) (v := ?_) (a' := ?_) #[true, true, true, true, false, true, true, false, false, false, false, false, false, false, false, false, false, false, false, false, false, false, false, false] rfl rfl (any_of HT_.out (by kernel_rfl)) (fun _ _ _ h => h) (Or.inl ⟨by rfl, ?_⟩) ?_ ?_
  rotate_left
  · intro w'
    go_simp
    with_reducible rfl
  rotate_left
  · simp only [Act.put, List.setIfInBounds_toArray, List.set_cons_zero, List.set_cons_succ, i64_w, i32_w]
    rfl
  refine pure_ (i := 7) (N := some 22) (v := ?_) (a' := ?_) #[true, true, true, true, false, true, true, true, false, false, false, false, false, false, false, false, false, false, false, false, false, false, false, false] rfl rfl (any_of HT_.out (by kernel_rfl)) (fun _ _ _ h => h) (Or.inl ⟨by rfl, ?_⟩) ?_ ?_
  rotate_left
  · intro w'
    go_simp
    with_reducible rfl
  rotate_left
  · simp only [Act.put, List.setIfInBounds_toArray, List.set_cons_zero, List.set_cons_succ, i64_w, i32_w]
    rfl
  refine pure_ (i := 9) (N := some 24) (v := ?_) (a' := ?_) #[true, true, true, true, false, true, true, true, false, true, false, false, false, false, false, false, false, false, false, false, false, false, false, false] rfl rfl (any_of HT_.out (by kernel_rfl)) (fun _ _ _ h => h) (Or.inl ⟨by rfl, ?_⟩) ?_ ?_
  rotate_left
  · intro w'
    go_simp
    with_reducible rfl
  rotate_left
  · simp only [Act.put, List.setIfInBounds_toArray, List.set_cons_zero, List.set_cons_succ, i64_w, i32_w]
    rfl
  refine pure_ (i := 14) (N := some 29) (v := ?_) (a' := ?_) #[true, true, true, true, false, true, true, true, false, true, false, false, false, false, true, false, false, false, false, false, false, false, false, false] rfl rfl (any_of HT_.out (by kernel_rfl)) (fun _ _ _ h => h) (Or.inl ⟨by rfl, ?_⟩) ?_ ?_
  rotate_left
  · intro w'
    go_simp
    with_reducible rfl
  rotate_left
  · simp only [Act.put, List.setIfInBounds_toArray, List.set_cons_zero, List.set_cons_succ, i64_w, i32_w]
    rfl
  refine pure_ (i := 15) (N := some 30) (v := ?_) (a' := ?_) #[true, true, true, true, false, true, true, true, false, true, false, false, false, false, true, true, false, false, false, false, false, false, false, false] rfl rfl (any_of HT_.out (by kernel_rfl)) (fun _ _ _ h => h) (Or.inl ⟨by rfl, ?_⟩) ?_ ?_
  rotate_left
  · intro w'
    go_simp
    with_reducible rfl
  rotate_left
  · simp only [Act.put, List.setIfInBounds_toArray, List.set_cons_zero, List.set_cons_succ, i64_w, i32_w]
    rfl
  refine pure_ (i := 16) (N := some 31) (v := ?_) (a' := ?_) #[true, true, true, true, false, true, true, true, false, true, false, false, false, false, true, true, true, false, false, false, false, false, false, false] rfl rfl (any_of HT_.out (by kernel_rfl)) (fun _ _ _ h => h) (Or.inl ⟨by rfl, ?_⟩) ?_ ?_
  rotate_left
  · intro w'
    go_simp
    with_reducible rfl
  rotate_left
  · simp only [Act.put, List.setIfInBounds_toArray, List.set_cons_zero, List.set_cons_succ, i64_w, i32_w]
    rfl
  refine pure_ (i := 17) (N := some 32) (v := ?_) (a' := ?_) #[true, true, true, true, false, true, true, true, false, true, false, false, false, false, true, true, true, true, false, false, false, false, false, false] rfl rfl (any_of HT_.out (by kernel_rfl)) (fun _ _ _ h => h) (Or.inl ⟨by rfl, ?_⟩) ?_ ?_
  rotate_left
  · intro w'
    go_simp
    with_reducible rfl
  rotate_left
  · simp only [Act.put, List.setIfInBounds_toArray, List.set_cons_zero, List.set_cons_succ, i64_w, i32_w]
    rfl
  refine pure_ (i := 18) (N := some 33) (v := ?_) (a' := ?_) #[true, true, true, true, false, true, true, true, false, true, false, false, false, false, true, true, true, true, true, false, false, false, false, false] rfl rfl (any_of HT_.out (by kernel_rfl)) (fun _ _ _ h => h) (Or.inl ⟨by rfl, ?_⟩) ?_ ?_
  rotate_left
  · intro w'
    go_simp
    with_reducible rfl
  rotate_left
  · simp only [Act.put, List.setIfInBounds_toArray, List.set_cons_zero, List.set_cons_succ, i64_w, i32_w]
    rfl
  refine pure_ (i := 19) (N := some 34) (v := ?_) (a' := ?_) #[true, true, true, true, false, true, true, true, false, true, false, false, false, false, true, true, true, true, true, true, false, false, false, false] rfl rfl (any_of HT_.out (by kernel_rfl)) (fun _ _ _ h => h) (Or.inl ⟨by rfl, ?_⟩) ?_ ?_
  rotate_left
  · intro w'
    go_simp
    with_reducible rfl
  rotate_left
  · simp only [Act.put, List.setIfInBounds_toArray, List.set_cons_zero, List.set_cons_succ, i64_w, i32_w]
    rfl
  refine pure_ (i := 20) (N := some 35) (v := ?_) (a' := ?_) #[true, true, true, true, false, true, true, true, false, true, false, false, false, false, true, true, true, true, true, true, true, false, false, false] rfl rfl (any_of HT_.out (by kernel_rfl)) (fun _ _ _ h => h) (Or.inl ⟨by rfl, ?_⟩) ?_ ?_
  rotate_left
  · intro w'
    go_simp
    with_reducible rfl
  rotate_left
  · simp only [Act.put, List.setIfInBounds_toArray, List.set_cons_zero, List.set_cons_succ, i64_w, i32_w]
    rfl
  refine take_ (i := 4) (N := some 19) (v := ?_) (a' := ?_) #[true, true, true, true, true, true, true, true, false, true, false, false, false, false, true, true, true, true, true, true, true, false, false, false] rfl rfl (take_ofW HT_.out HW_.out (by kernel_rfl)) (fun _ _ _ h => h) (Or.inl ⟨by rfl, ?_⟩) hHeld ?_ ?_
  rotate_left
  · rintro w' ⟨s0, s1, s2⟩
    go_simp
    with_reducible rfl
  rotate_left
  · simp only [Act.put, List.setIfInBounds_toArray, List.set_cons_zero, List.set_cons_succ, i64_w, i32_w]
    rfl
  refine take_ (i := 8) (N := some 23) (v := ?_) (a' := ?_) #[true, true, true, true, true, true, true, true, true, true, false, false, false, false, true, true, true, true, true, true, true, false, false, false] rfl rfl (take_ofW HT_.out HW_.out (by kernel_rfl)) (fun _ _ _ h => h) (Or.inl ⟨by rfl, ?_⟩) hHeld ?_ ?_
  rotate_left
  · rintro w' ⟨s0, s1, s2⟩
    go_simp
    with_reducible rfl
  rotate_left
  · simp only [Act.put, List.setIfInBounds_toArray, List.set_cons_zero, List.set_cons_succ, i64_w, i32_w]
    rfl
  refine pure_ (i := 10) (N := some 25) (v := ?_) (a' := ?_) #[true, true, true, true, true, true, true, true, true, true, true, false, false, false, true, true, true, true, true, true, true, false, false, false] rfl rfl (any_of HT_.out (by kernel_rfl)) (fun _ _ _ h => h) (Or.inl ⟨by rfl, ?_⟩) ?_ ?_
  rotate_left
  · intro w'
    go_simp
    with_reducible rfl
  rotate_left
  · simp only [Act.put, List.setIfInBounds_toArray, List.set_cons_zero, List.set_cons_succ, i64_w, i32_w]
    rfl
  refine take_ (i := 11) (N := some 26) (v := ?_) (a' := ?_) #[true, true, true, true, true, true, true, true, true, true, true, true, false, false, true, true, true, true, true, true, true, false, false, false] rfl rfl (take_ofW HT_.out HW_.out (by kernel_rfl)) (fun _ _ _ h => h) (Or.inl ⟨by rfl, ?_⟩) hHeld ?_ ?_
  rotate_left
  · rintro w' ⟨s0, s1, s2⟩
    go_simp
    with_reducible rfl
  rotate_left
  · simp only [Act.put, List.setIfInBounds_toArray, List.set_cons_zero, List.set_cons_succ, i64_w, i32_w]
    rfl
  refine one_ (i := 12) (N := some 27) #[true, true, true, true, true, true, true, true, true, true, true, true, true, false, true, true, true, true, true, true, true, false, false, false] rfl rfl (one_of HT_.out (by kernel_rfl)) (by decide) (fun K hK => ?_)
  refine goes_ Try.func26 (by kernel_rfl) rfl #[.int .i64 a0, .int .i64 q] (by rfl) rfl rfl (by simp only [List.map_toArray, List.map_cons, List.map_nil]; rfl) ?_
  refine (spec_l15Price.calls a0 q p _ HPR.out).mono ?_
  rintro e w1 ⟨rfl, ⟨nd, rfl⟩⟩
  refine ⟨_, rfl, ?_⟩
  refine hK.out _ _ ⟨q0, q1, q2⟩ (fun hHeld => ?_)
  clear hK K
  refine norm_ (a' := ?_) ?_ ?_
  rotate_left
  · show Act.put _ (some 27) _ = _
    simp only [Act.put, List.setIfInBounds_toArray, List.set_cons_zero, List.set_cons_succ, i64_w, i32_w]
    rfl
  refine pure_ (i := 13) (N := some 28) (v := ?_) (a' := ?_) #[true, true, true, true, true, true, true, true, true, true, true, true, true, true, true, true, true, true, true, true, true, false, false, false] rfl rfl (any_of HT_.out (by kernel_rfl)) (fun _ _ _ h => h) (Or.inl ⟨by rfl, ?_⟩) ?_ ?_
  rotate_left
  · intro w'
    go_simp
    with_reducible rfl
  rotate_left
  · simp only [Act.put, List.setIfInBounds_toArray, List.set_cons_zero, List.set_cons_succ, i64_w, i32_w]
    rfl
  refine last_ (i := 21) (N := some 36) #[true, true, true, true, true, true, true, true, true, true, true, true, true, true, true, true, true, true, true, true, true, true, false, false] rfl rfl (one_of HT_.out (by kernel_rfl)) (by decide) (fun K hK => ?_)
  refine goes_ Try.func45 (by kernel_rfl) rfl #[.pointer (some ⟨gx, 0, none⟩), .int .i64 ((day : Int) + 1), .int .i64 (k : Int), .int .i64 l2] (by rfl) rfl rfl (by simp only [List.map_toArray, List.map_cons, List.map_nil]; rfl) ?_
  refine (HCALL.out _ (by repeat (first | exact Below.refl _ _ | apply below_drew | apply pw_below_drewN))).mono ?_
  rintro e w2 ⟨rfl, M2, E2, K2⟩
  have HE2 := Aside0.mk E2
  have HK2 := Aside0.mk K2
  clear E2 K2
  refine ⟨_, rfl, ?_⟩
  refine hK.out _ _ ?_
  clear hK K
  refine norm_ (a' := ?_) ?_ ?_
  rotate_left
  · show Act.put _ (some 36) _ = _
    simp only [Act.put, List.setIfInBounds_toArray, List.set_cons_zero, List.set_cons_succ, i64_w, i32_w]
    rfl
  refine pure_ (i := 22) (N := some 37) (v := ?_) (a' := ?_) #[true, true, true, true, true, true, true, true, true, true, true, true, true, true, true, true, true, true, true, true, true, true, true, false] rfl rfl (any_of HT_.out (by kernel_rfl)) (fun _ _ _ h => h) (Or.inl ⟨by rfl, ?_⟩) ?_ ?_
  rotate_left
  · intro w'
    go_simp
    with_reducible rfl
  rotate_left
  · simp only [Act.put, List.setIfInBounds_toArray, List.set_cons_zero, List.set_cons_succ, i64_w, i32_w]
    rfl
  refine pure_ (i := 23) (N := some 8) (v := ?_) (a' := ?_) #[true, true, true, true, true, true, true, true, true, true, true, true, true, true, true, true, true, true, true, true, true, true, true, true] rfl rfl (any_of HT_.out (by kernel_rfl)) (fun _ _ _ h => h) (Or.inl ⟨by rfl, ?_⟩) ?_ ?_
  rotate_left
  · intro w'
    go_simp
    with_reducible rfl
  rotate_left
  · simp only [Act.put, List.setIfInBounds_toArray, List.set_cons_zero, List.set_cons_succ, i64_w, i32_w]
    rfl
  refine done_ (done_of HT_.out (by kernel_rfl)) ?_
  clear HT_ HW_
  go_wp2
  go_ret
  exact ⟨by first | rfl | (simp; done), _, HE2.out, HK2.out⟩
set_option maxHeartbeats 8000000 in
set_option maxRecDepth 100000 in
theorem spec_BestMarks.most_ {a1 : Int} (hg : spec_BestMarks.good a0 a1 P D) (hr2 : Kd.C (Kd.int .i64) w0 A2 P.length P) (hr3 : Kd.C (Kd.slice 3 (Kd.int .i64)) w0 A3 D.length D) : ∀ (r day i : Nat) (l : Int) (M : List Int) (W : World), day + r = D.length → i < P.length → 0 ≤ l → l ≤ 200 → spec_BestMarks.SE a0 A2 c2 P A3 c3 D w0 gx gm cm W M → Calls Try.prog 45 #[.pointer (some ⟨gx, 0, none⟩), .int .i64 (day : Int), .int .i64 (i : Int), .int .i64 l] W fun e w' => e = .returned (.int .i64 (spec_BestMarks.most a0 P (D.drop day) i l)) ∧ ∃ M', spec_BestMarks.SE a0 A2 c2 P A3 c3 D w0 gx gm cm w' M' ∧ Kept W w' (fun k_ => k_ = gm) := by
  intro r
  induction r with
  | zero =>
    intro day i l M W hd hi l0 l1 E
    obtain rfl : day = D.length := by omega
    have hz : spec_BestMarks.most a0 P (D.drop D.length) i l = 0 := by rw [List.drop_length]; rfl
    rw [hz]
    have q2 : W.cell? ⟨gx, 2, none⟩ = some (.slice A3 D.length c3) := (blk_cell E.blk 2).trans rfl
    have hd : ((D.length : Int) == (D.length : Int)) = true := by simp
    have HE := Aside0.mk E
    clear E hz hr2 hr3
    go_enter Try.func45, Try.ntmps45
    go_wp2
    go_ret
    exact ⟨by first | rfl | (simp; done), M, HE.out, Kept.refl _ _⟩
  | succ r ih =>
    intro day i l M W hd hi l0 l1 E
    have hday : day < D.length := by omega
    have hg4 := hg.2.2.2.1
    have hg3 := hg.2.2.1
    have hne : ((day : Int) == (D.length : Int)) = false := by simp; omega
    have hmem : D.getD day [] ∈ D := by
      rw [List.getD_eq_getElem?_getD, List.getElem?_eq_getElem hday]
      exact List.getElem_mem hday
    have hdrop : D.drop day = D.getD day [] :: D.drop (day + 1) := by
      rw [List.getD_eq_getElem?_getD, List.getElem?_eq_getElem hday]
      exact List.drop_eq_getElem_cons hday
    have HWORTH : Aside0 (∀ (k : Nat) (M : List Int) (W1 : World), k < P.length → spec_BestMarks.SE a0 A2 c2 P A3 c3 D w0 gx gm cm W1 M → Calls Try.prog 46 #[.pointer (some ⟨gx, 0, none⟩), .int .i64 (day : Int), .int .i64 (k : Int), .int .i64 l] W1 fun e w' => e = .returned (.int .i64 (spec_BestMarks.worth a0 P (D.getD day []) (D.drop (day + 1)) k l)) ∧ ∃ M', spec_BestMarks.SE a0 A2 c2 P A3 c3 D w0 gx gm cm w' M' ∧ Kept W1 w' (fun k_ => k_ = gm)) :=
      ⟨fun k M W1 hk E => spec_BestMarks.worth_ hg hr2 hr3 day k l M W1 hday hk l0 l1 (fun i l M W hi l0 l1 E => by have h_ := ih (day + 1) i l M W (by omega) hi l0 l1 E; rwa [show ((day + 1 : Nat) : Int) = (day : Int) + 1 by omega] at h_) E⟩
    have hz0 : 0 ≤ spec_BestMarks.idx day i l ∧ spec_BestMarks.idx day i l < 7035 := by unfold spec_BestMarks.idx; omega
    have hlen := E.len
    obtain ⟨hx, hf⟩ := Kd.R_celln 0 E.row (spec_BestMarks.idx day i l) hz0.1 hz0.2
    have hinv := E.inv day i l hday (by omega) l0 l1
    have HW1 : Aside0 (wrap64 ((day : Int) * 5) = (day : Int) * 5) := ⟨by unfold wrap64; omega⟩
    have HW2 : Aside0 (wrap64 ((day : Int) * 5 + (i : Int)) = (day : Int) * 5 + (i : Int)) := ⟨by unfold wrap64; omega⟩
    obtain ⟨z1, hz1⟩ : ∃ z1, ((day : Int) * 5 + (i : Int)) * 201 = z1 := ⟨_, rfl⟩
    have HW3 : Aside0 (wrap64 (((day : Int) * 5 + (i : Int)) * 201) = z1) := ⟨by rw [← hz1]; unfold wrap64; omega⟩
    have hzz : z1 + l = spec_BestMarks.idx day i l := by rw [← hz1]; rfl
    have HPUT : Aside0 (∀ M' : List Int, spec_BestMarks.Inv a0 P D M' → spec_BestMarks.Inv a0 P D (M'.set (spec_BestMarks.idx day i l).toNat (spec_BestMarks.most a0 P (D.drop day) i l))) := ⟨fun M' h => h.put (by omega) l0 l1⟩
    generalize spec_BestMarks.idx day i l = z at hz0 hx hf hinv hzz HPUT
    have HW4 : Aside0 (wrap64 (z1 + l) = z) := ⟨by rw [hzz]; unfold wrap64; omega⟩
    have p : (0 ≤ z) = True := eq_true hz0.1
    have q : (z < 7035) = True := eq_true hz0.2
    have hrd : rdOf 0 M z = M.getD z.toNat 0 := rfl
    rw [hrd] at hx
    generalize hv : M.getD z.toNat 0 = v at hx hinv
    have q1 : W.cell? ⟨gx, 1, none⟩ = some (.slice A2 P.length c2) := (blk_cell E.blk 1).trans rfl
    have q2 : W.cell? ⟨gx, 2, none⟩ = some (.slice A3 D.length c3) := (blk_cell E.blk 2).trans rfl
    have q3 : W.cell? ⟨gx, 3, none⟩ = some (.slice (some ⟨gm, 0, none⟩) 7035 cm) := (blk_cell E.blk 3).trans rfl
    have HE := Aside0.mk E
    clear E hlen hv hz1 hzz hrd hmem ih hr2 hr3 hd l0 l1
    have hv01 : 0 ≤ v ∨ ¬ 0 ≤ v := by omega
    have hw1 := HW1.out
    have hw2 := HW2.out
    have hw3 := HW3.out
    have hw4 := HW4.out
    have hw1b := (i64_w _).trans hw1
    have hw2b := (i64_w _).trans hw2
    have hw3b := (i64_w _).trans hw3
    have hw4b := (i64_w _).trans hw4
    clear HW1 HW2 HW3 HW4
    clear hv01
    by_cases hv0 : 0 ≤ v
    · have hvb : decide (0 ≤ v) = true := decide_eq_true hv0
      have hr := hinv v rfl hv0
      rw [← hr]
      clear hinv hr hdrop HPUT
      go_enter Try.func45, Try.ntmps45
      go_wp2
      go_ret
      exact ⟨by first | rfl | (simp; done), M, HE.out, Kept.refl _ _⟩
    · have hvb : decide (0 ≤ v) = false := decide_eq_false hv0
      rw [hdrop] at HPUT ⊢
      generalize hy : spec_BestMarks.most a0 P (D.getD day [] :: D.drop (day + 1)) i l = y at HPUT ⊢
      have HY := Aside0.mk hy
      clear hy
      have hz2 := hz0
      clear hinv hdrop hf hz0
      go_enter Try.func45, Try.ntmps45
      go_wp2
      go_loopg [10, 11] (P.length - i) (fun gg v10 v11 wr => ∃ (k : Nat) (M1 : List Int), i ≤ k ∧ k ≤ P.length ∧ P.length - k ≤ gg ∧ v10 = .int .i64 (spec_BestMarks.acc a0 P (D.getD day []) (D.drop (day + 1)) i k l) ∧ v11 = .int .i64 (k : Int) ∧ Aside0 (spec_BestMarks.SE a0 A2 c2 P A3 c3 D w0 gx gm cm wr M1) ∧ Aside0 (Kept W wr (fun k_ => k_ = gm)))
      case atStart => exact ⟨i, M, Nat.le_refl _, Nat.le_of_lt hi, Nat.le_refl _, by rw [spec_BestMarks.acc_start], rfl, HE, ⟨Kept.refl _ _⟩⟩
      case round =>
        clear HE q1 q2 q3 hx hw1 hw2 hw3 hw4 hw1b hw2b hw3b hw4b
        obtain ⟨k, M1, hik, hkP, hgg, rfl, rfl, HE, HKP⟩ := hrel
        have q1 : wr.cell? ⟨gx, 1, none⟩ = some (.slice A2 P.length c2) := (blk_cell HE.out.blk 1).trans rfl
        by_cases hk : k < P.length
        · have hkz : (k : Int) < (P.length : Int) := by omega
          have HCALL := Aside0.mk (HWORTH.out k M1 wr hk HE.out)
          have HST := Aside0.mk (spec_BestMarks.acc_step a0 P (D.getD day []) (D.drop (day + 1)) i k l hik)
          generalize spec_BestMarks.worth a0 P (D.getD day []) (D.drop (day + 1)) k l = x at HCALL HST
          generalize spec_BestMarks.acc a0 P (D.getD day []) (D.drop (day + 1)) i k l = b at HST ⊢
          obtain ⟨m, hm⟩ : ∃ m, mx b x = m := ⟨_, rfl⟩
          have hmx : (if b < x then x else b) = m := by rw [← hm]; unfold mx; first | rfl | (split <;> split <;> omega)
          have hmx2 : (if x < b then b else x) = m := by rw [← hm]; unfold mx; first | rfl | (split <;> split <;> omega)
          rw [hm] at HST
          have HK := Aside0.mk hk
          have HIK := Aside0.mk hik
          have HGG := Aside0.mk hgg
          have hkz3 : (P.length : Int) ≤ 5 := by omega
          clear hm hk hik hgg hkP
          go_wp2_with (go_at_call 46; refine HCALL.out.mono ?_; rintro e w2 ⟨rfl, M2, E2, K2⟩; have HE2 := Aside0.mk E2; have HK2 := Aside0.mk (HKP.out.then_ K2 (fun _ h => .inl h)); clear E2 K2)
          go_roundg (P.length - (k + 1))
          case measure => have := HK.out; have := HGG.out; omega
          case rel =>
            have := HK.out
            have := HIK.out
            exact ⟨k + 1, M2, by omega, by omega, Nat.le_refl _, by rw [HST.out], by go_num, HE2, HK2⟩
        · have hkz : ¬ (k : Int) < (P.length : Int) := by omega
          obtain rfl : k = P.length := by omega
          rw [spec_BestMarks.acc_end, HY.out]
          have E3 := HE.out.put (HPUT.out M1 HE.out.inv)
          have HE3 := Aside0.mk E3
          obtain ⟨hx, hf⟩ := Kd.R_celln 0 HE.out.row z hz2.1 hz2.2
          have q3 : wr.cell? ⟨gx, 3, none⟩ = some (.slice (some ⟨gm, 0, none⟩) 7035 cm) := (blk_cell HE.out.blk 3).trans rfl
          clear E3
          go_wp2
          go_ret
          have HK3 := HKP.out.setCell (p := ⟨gm, z.toNat, none⟩) (Or.inl rfl) (.int .i64 y)
          refine ⟨by first | rfl | (simp; done), ?_⟩
          first | exact ⟨_, HE3.out, HK3⟩ | exact ⟨⟨_, HE3.out⟩, HK3⟩
end
/-! ### the first place, and that there is one -/
theorem spec_BestMarks.first_spec (p : Nat → Bool) : ∀ (m i : Nat), (∃ k, i ≤ k ∧ k < i + m ∧ p k = true) → p (spec_BestMarks.first p i m) = true ∧ i ≤ spec_BestMarks.first p i m ∧ spec_BestMarks.first p i m < i + m ∧ ∀ j, i ≤ j → j < spec_BestMarks.first p i m → p j = false := by
  intro m
  induction m with
  | zero =>
    rintro i ⟨k, h1, h2, _⟩
    omega
  | succ m ih =>
    rintro i ⟨k, h1, h2, h3⟩
    rw [spec_BestMarks.first]
    by_cases hp : p i = true
    · rw [if_pos hp]
      exact ⟨hp, Nat.le_refl _, by omega, fun j h4 h5 => by omega⟩
    · rw [if_neg hp]
      have hki : k ≠ i := fun e => hp (by rw [← e]; exact h3)
      obtain ⟨q1, q2, q3, q4⟩ := ih (i + 1) ⟨k, by omega, by omega, h3⟩
      refine ⟨q1, by omega, by omega, fun j h4 h5 => ?_⟩
      by_cases e : j = i
      · rw [e]; exact Bool.eq_false_iff.mpr hp
      · exact q4 j (by omega) h5
theorem spec_BestMarks.acc_in (a0 : Int) (P : List Int) (d : List Int) (D : List (List Int)) (i : Nat) (l : Int) : ∀ n : Nat, spec_BestMarks.acc a0 P d D i (i + n) l = 0 ∨ ∃ k, i ≤ k ∧ k < i + n ∧ spec_BestMarks.worth a0 P d D k l = spec_BestMarks.acc a0 P d D i (i + n) l := by
  intro n
  induction n with
  | zero => exact Or.inl (by rw [Nat.add_zero, spec_BestMarks.acc_start])
  | succ n ih =>
    rw [← Nat.add_assoc, spec_BestMarks.acc_step _ _ _ _ _ _ _ (Nat.le_add_right i n)]
    rcases (show mx (spec_BestMarks.acc a0 P d D i (i + n) l) (spec_BestMarks.worth a0 P d D (i + n) l) = spec_BestMarks.acc a0 P d D i (i + n) l ∨ mx (spec_BestMarks.acc a0 P d D i (i + n) l) (spec_BestMarks.worth a0 P d D (i + n) l) = spec_BestMarks.worth a0 P d D (i + n) l by unfold mx; split <;> simp) with h | h
    · rw [h]
      rcases ih with h0 | ⟨k, h1, h2, h3⟩
      · exact Or.inl h0
      · exact Or.inr ⟨k, h1, by omega, h3⟩
    · rw [h]
      exact Or.inr ⟨i + n, by omega, by omega, rfl⟩
theorem spec_BestMarks.acc_ge (a0 : Int) (P : List Int) (d : List Int) (D : List (List Int)) (i : Nat) (l : Int) : ∀ n : Nat, 0 ≤ spec_BestMarks.acc a0 P d D i (i + n) l ∧ ∀ k, i ≤ k → k < i + n → spec_BestMarks.worth a0 P d D k l ≤ spec_BestMarks.acc a0 P d D i (i + n) l := by
  intro n
  induction n with
  | zero => exact ⟨by rw [Nat.add_zero, spec_BestMarks.acc_start]; exact Int.le_refl _, fun k h1 h2 => by omega⟩
  | succ n ih =>
    rw [← Nat.add_assoc, spec_BestMarks.acc_step _ _ _ _ _ _ _ (Nat.le_add_right i n)]
    have hm : spec_BestMarks.acc a0 P d D i (i + n) l ≤ mx (spec_BestMarks.acc a0 P d D i (i + n) l) (spec_BestMarks.worth a0 P d D (i + n) l) ∧ spec_BestMarks.worth a0 P d D (i + n) l ≤ mx (spec_BestMarks.acc a0 P d D i (i + n) l) (spec_BestMarks.worth a0 P d D (i + n) l) := by unfold mx; split <;> omega
    refine ⟨by omega, fun k h1 h2 => ?_⟩
    by_cases e : k = i + n
    · rw [e]; exact hm.2
    · have := ih.2 k h1 (by omega); omega
/-- There is a step that brings the most. -/
theorem spec_BestMarks.attained {a0 a1 : Int} {P : List Int} {D : List (List Int)} (hg : spec_BestMarks.good a0 a1 P D) (d : List Int) (D' : List (List Int)) (hd : ∀ x ∈ d, 0 ≤ x ∧ x ≤ 200) (hD : ∀ d ∈ D', ∀ x ∈ d, 0 ≤ x ∧ x ≤ 200) (i : Nat) (l : Int) (hi : i < P.length) (h0 : 0 ≤ l) :
    ∃ k, i ≤ k ∧ k < i + (P.length - i) ∧ (spec_BestMarks.worth a0 P d D' k l == spec_BestMarks.most a0 P (d :: D') i l) = true := by
  obtain ⟨g1, g2, g3, g4, g5, g6, g7⟩ := hg
  have e : i + (P.length - i) = P.length := by omega
  rw [← spec_BestMarks.acc_end]
  have hz := spec_BestMarks.acc_ge a0 P d D' i l (P.length - i)
  rcases spec_BestMarks.acc_in a0 P d D' i l (P.length - i) with h | ⟨k, h1, h2, h3⟩
  · have hw := hz.2 i (Nat.le_refl _) (by omega)
    obtain ⟨m1, m2, x1, x2⟩ := spec_BestMarks.sale (s := ((i : Nat) : Int)) (l := l) g1 g5 hd h0
    have hmo := (spec_BestMarks.most_bd g1 g5 D' i (l - mn l (rd d ((i : Nat) : Int))) hD (by omega)).1
    refine ⟨i, Nat.le_refl _, by omega, ?_⟩
    rw [e] at h hw
    rw [h] at hw ⊢
    rw [beq_iff_eq]
    have : 0 ≤ spec_BestMarks.worth a0 P d D' i l := by unfold spec_BestMarks.worth; omega
    omega
  · refine ⟨k, h1, h2, ?_⟩
    rw [e] at h3
    rw [h3, beq_iff_eq]
/-- The memo in the making. -/
structure spec_BestMarks.L1 (a0 : Int) (A2 : Option Addr) (c2 : Nat) (P : List Int) (A3 : Option Addr) (c3 : Nat) (D : List (List Int)) (w0 : World) (gx gm cm g8 : Nat) (W : World) (M : List Int) : Prop where
  bel : Below w0.heap.size w0 W
  le : w0.heap.size ≤ gm
  ne : gx ≠ gm
  n8 : g8 ≠ gm
  l8 : w0.heap.size ≤ g8
  blk : W.heap[gx]? = some (.cells #[.int .i64 a0, .slice A2 P.length c2, .slice A3 D.length c3, .slice (some ⟨gm, 0, none⟩) 7035 cm] 63 (0, 0))
  k8 : W.heap[g8]? = some (.cells #[.slice none 0 0, .slice none 0 0, .int .i64 0, .int .i64 0] 31 (0, 0))
  row : Kd.R (Kd.int .i64) 3 W w0.heap.size (fun k_ => some k_ = some gm) (.slice (some ⟨gm, 0, none⟩) 7035 cm) M
/-- .. and beside it the steps. -/
structure spec_BestMarks.Main (a0 : Int) (A2 : Option Addr) (c2 : Nat) (P : List Int) (A3 : Option Addr) (c3 : Nat) (D : List (List Int)) (w0 : World) (gx gm cm g8 : Nat) (W : World) (M : List Int) (v : Value) (T : List Int) : Prop where
  se : spec_BestMarks.SE a0 A2 c2 P A3 c3 D w0 gx gm cm W M
  n8 : g8 ≠ gm
  l8 : w0.heap.size ≤ g8
  k8 : W.heap[g8]? = some (.cells #[.slice none 0 0, .slice none 0 0, .int .i64 0, .int .i64 0] 31 (0, 0))
  row : Kd.R (Kd.int .i64) 3 W w0.heap.size (fun k_ => k_ ≠ gm ∧ k_ ≠ gx ∧ k_ ≠ g8) v T
section
variable {a0 : Int} {A2 : Option Addr} {c2 : Nat} {P : List Int} {A3 : Option Addr} {c3 : Nat} {D : List (List Int)} {w0 : World} {gx gm cm g8 : Nat} {W W1 : World} {M M1 : List Int} {v : Value} {T : List Int}
theorem spec_BestMarks.L1.put (h : spec_BestMarks.L1 a0 A2 c2 P A3 c3 D w0 gx gm cm g8 W M) (z x : Int) : spec_BestMarks.L1 a0 A2 c2 P A3 c3 D w0 gx gm cm g8 (W.setCell ⟨gm, z.toNat, none⟩ (.int .i64 x)) (M.set z.toNat x) := by
  obtain ⟨h1, h2, h3, h4, h5, h6, h7, h8⟩ := h
  have e : 7035 = M.length := (Kd.R_reads' h8).1
  refine ⟨below_set h1 h2, h2, h3, h4, h5, blk_far h6 h3 _, blk_far h7 h4 _, ?_⟩
  have h_ := Kd.R_putn (Kd.R_tight rfl h8) z x
  rw [e] at h8 ⊢
  try rw [e] at h_
  exact h_
theorem spec_BestMarks.Main.kept (h : spec_BestMarks.Main a0 A2 c2 P A3 c3 D w0 gx gm cm g8 W M v T) (E : spec_BestMarks.SE a0 A2 c2 P A3 c3 D w0 gx gm cm W1 M1) (hk : Kept W W1 (fun k_ => k_ = gm)) : spec_BestMarks.Main a0 A2 c2 P A3 c3 D w0 gx gm cm g8 W1 M1 v T :=
  ⟨E, h.n8, h.l8, blk_kept h.k8 hk h.n8, Kd.R_kept h.row hk (fun k hk_ e => hk_.1 e)⟩
theorem spec_BestMarks.Main.below (h : spec_BestMarks.Main a0 A2 c2 P A3 c3 D w0 gx gm cm g8 W M v T) (hb : Below W.heap.size W W1) : spec_BestMarks.Main a0 A2 c2 P A3 c3 D w0 gx gm cm g8 W1 M v T :=
  h.kept (h.se.below hb) (Kept.of_below hb _)
theorem spec_BestMarks.Main.append (h : spec_BestMarks.Main a0 A2 c2 P A3 c3 D w0 gx gm cm g8 W M v T) {v1 : Value} {x : Int} (hr : Kd.R (Kd.int .i64) 3 W1 w0.heap.size (fun k_ => k_ ≠ gm ∧ k_ ≠ gx ∧ k_ ≠ g8) v1 (T ++ [x])) (hb : Below w0.heap.size w0 W1) (hg : W.grownBy W1 v.ownBlock) : spec_BestMarks.Main a0 A2 c2 P A3 c3 D w0 gx gm cm g8 W1 M v1 (T ++ [x]) := by
  obtain ⟨⟨e1, e2, e3, e4, e5, e6⟩, h2, h3, h4, h5⟩ := h
  have hn : ∀ k, v.ownBlock = some k → k ≠ gm ∧ k ≠ gx ∧ k ≠ g8 := fun k hk => h5.1 k hk
  refine ⟨⟨hb, e2, e3, blk_grown e4 hg (fun e => (hn gx e.symm).2.1 rfl), Kd.R_grown e5 hg (fun k hk e => (hn gm (by rw [← e]; exact hk)).1 rfl), e6⟩, h2, h3, blk_grown h4 hg (fun e => (hn g8 e.symm).2.2 rfl), hr⟩
theorem spec_BestMarks.L1.main (h : spec_BestMarks.L1 a0 A2 c2 P A3 c3 D w0 gx gm cm g8 W (List.replicate 7035 (-1))) (hD : D.length ≤ 7) (hb : Below W.heap.size W W1) (hr : Kd.R (Kd.int .i64) 3 W1 W.heap.size (fun _ => True) v []) : spec_BestMarks.Main a0 A2 c2 P A3 c3 D w0 gx gm cm g8 W1 (List.replicate 7035 (-1)) v [] := by
  obtain ⟨h1, h2, h3, h4, h5, h6, h7, h8⟩ := h
  have l1 := Kd.R_lt h8 gm rfl
  have l2 := blk_lt h6
  have l3 := blk_lt h7
  refine ⟨⟨below_step h1 hb, h2, h3, blk_below h6 hb, Kd.R_below h8 hb, ?_⟩, h4, h5, blk_below h7 hb, Kd.R_lower (Kd.R_mono (Kd.R_bound hr) (fun k hk => ⟨by have := hk.2.1; omega, by have := hk.2.1; omega, by have := hk.2.1; omega⟩)) (below_size h1)⟩
  intro day i l hd hi l0 l1 v hv v0
  exfalso
  have hlt : (spec_BestMarks.idx day i l).toNat < 7035 := by unfold spec_BestMarks.idx; omega
  rw [List.getD_eq_getElem?_getD, List.getElem?_replicate, if_pos hlt] at hv
  simp at hv
  omega
end
theorem spec_BestMarks.drop_cons {D : List (List Int)} {day : Nat} (h : day < D.length) : D.drop day = D.getD day [] :: D.drop (day + 1) := by
  rw [List.getD_eq_getElem?_getD, List.getElem?_eq_getElem h]
  exact List.drop_eq_getElem_cons h
theorem spec_BestMarks.long_ok {P : List Int} {D : List (List Int)} (h : spec_l15Long.f P D = some false) : P.length ≤ 4096 ∧ D.length ≤ 4096 := by
  unfold spec_l15Long.f at h
  split at h
  · cases h
  · have := Option.some.inj h
    rw [decide_eq_false_iff_not] at this
    omega
theorem spec_BestMarks.memo_set (j : Nat) (h : j < 7035) : (List.replicate j (-1 : Int) ++ List.replicate (7035 - j) 0).set j (-1) = List.replicate (j + 1) (-1) ++ List.replicate (7035 - (j + 1)) 0 := by
  rw [show 7035 - j = (7035 - (j + 1)) + 1 by omega, List.replicate_succ, List.set_append_right _ _ (by simp), List.length_replicate, Nat.sub_self, List.replicate_succ', List.append_assoc]
  rfl
theorem spec_BestMarks.mono : ∀ a0 a1 a2 a3 k, LeO (spec_BestMarks.f k a0 a1 a2 a3) (spec_BestMarks.f (k + 1) a0 a1 a2 a3) := by
  intro a0 a1 a2 a3 k
  unfold spec_BestMarks.f
  repeat' first
      | (with_reducible exact spec_l15Right.mono _ _ _ _ _)
      | (with_reducible exact spec_MarkOf.mono _ _ _ _ _ _)
      | (with_reducible exact LeO.refl _)
      | (with_reducible exact LeO.none _)
      | (with_reducible refine LeO.ite ?_ ?_)
      | (with_reducible refine LeO.bind ?_ (fun _ => ?_))

set_option maxHeartbeats 8000000 in
set_option maxRecDepth 100000 in
theorem spec_BestMarks.calls (k : Nat) (a0 : Int) (a1 : Int) (A2 : Option Addr) (c2 : Nat) (l2 : List Int) (A3 : Option Addr) (c3 : Nat) (l3 : List (List Int)) (r1 : List Int) (r2 : List Int) (r3 : Int) (r4 : Int) (r5 : Int) (w : World) (hr2 : Kd.C (Kd.int .i64) w A2 l2.length l2) (hc2 : l2.length ≤ c2) (hr3 : Kd.C (Kd.slice 3 (Kd.int .i64)) w A3 l3.length l3) (hc3 : l3.length ≤ c3) (h : spec_BestMarks.f k a0 a1 l2 l3 = some (r1, r2, r3, r4, r5)) :
    Calls Try.prog 24 #[.int .i64 a0, .int .i64 a1, .slice A2 l2.length c2, .slice A3 l3.length c3] w fun e w' => ∃ v0_ v1_ : Value, e = .returned (.tuple #[.agg #[v0_, v1_, .int .i64 r3, .int .i64 r4], .int .i64 r5]) ∧ Kd.R (Kd.int .i64) 3 w' w.heap.size (fun k_ => some k_ ≠ (v1_ : Value).ownBlock) v0_ r1 ∧ Kd.R (Kd.int .i64) 3 w' w.heap.size (fun k_ => some k_ ≠ (v0_ : Value).ownBlock) v1_ r2 ∧ Below w.heap.size w w' := by
  unfold spec_BestMarks.f at h
  have HR2 := Aside0.mk hr2
  have HR3 := Aside0.mk hr3
  have HC2 := Aside0.mk hc2
  have HC3 := Aside0.mk hc3
  clear hr2 hr3 hc2 hc3
  replace h := Option.bind_eq_some_iff.mp h
  obtain ⟨t9, A9, h⟩ := h
  have A9 := Aside0.mk A9
  have H := Aside0.mk h
  clear h
  go_enter Try.func24, Try.ntmps24
  go_upto_region 1 with (first | ((with_reducible refine gate_dst (N := 8) rfl ?_); refine box_event ?hg (N := 8) ?hd (cs := #[.slice none 0 0, .slice none 0 0, .int .i64 0, .int .i64 0]) (t := 31) ?hr ?_; (case hd => rfl); (case hg => rfl); (case hr => first | (go_simp; done) | (go_simp; rfl)); intro g8 e_ w8 k_ b_; have HB := Aside0.mk b_; have K8 := Aside0.mk k_; have HG8 := Aside0.mk (Nat.le_of_eq e_.symm); clear e_ k_ b_))
  (try simp only [Act.put, List.setIfInBounds_toArray, List.set_cons_zero, List.set_cons_succ])
  have h := H.out
  clear H
  cases t9 with
  | true =>
    rw [if_pos rfl] at h
    obtain ⟨rfl, rfl, rfl, rfl, rfl⟩ : ([] : List Int) = r1 ∧ ([] : List Int) = r2 ∧ (0 : Int) = r3 ∧ (0 : Int) = r4 ∧ (2 : Int) = r5 := by simpa using h
    clear h
    have z0 : w8.cell? ⟨g8, 0, none⟩ = some (.slice none 0 0) := (blk_cell K8.out 0).trans rfl
    have f0 := blk_frozen K8.out 0
    have z1 : w8.cell? ⟨g8, 1, none⟩ = some (.slice none 0 0) := (blk_cell K8.out 1).trans rfl
    have f1 := blk_frozen K8.out 1
    have z2 : w8.cell? ⟨g8, 2, none⟩ = some (.int .i64 0) := (blk_cell K8.out 2).trans rfl
    have f2 := blk_frozen K8.out 2
    have z3 : w8.cell? ⟨g8, 3, none⟩ = some (.int .i64 0) := (blk_cell K8.out 3).trans rfl
    have f3 := blk_frozen K8.out 3
    go_wp2_with (first | (go_at_call 42; (with_reducible refine (spec_l15Long.calls _ _ l2 _ _ l3 true _ ?side1 ?side2 ?side3 ?side4 A9.out).mono ?_); (case side1 => repeat (first | exact Kd.C_below HR2.out HB.out | (with_reducible refine Kd.C_drewN ?_ _))); (case side2 => exact HC2.out); (case side3 => repeat (first | exact Kd.C_below HR3.out HB.out | (with_reducible refine Kd.C_drewN ?_ _))); (case side4 => exact HC3.out); rintro e w_ ⟨rfl, ⟨n1_, rfl⟩⟩))
    refine bodyPost_ret (results_ct rfl _ _ g8 31 #[.slice none 0 0, .slice none 0 0, .int .i64 0, .int .i64 0] (0, 0) _ rfl (by (with_reducible repeat (first | refine blk_drewN ?_ _ | refine blk_drew ?_ | refine blk_alloc ?_ _)); refine blk_put (cs := #[.slice none 0 0, .slice none 0 0, .int .i64 0, .int .i64 0]) ?_ 3 _ rfl; (with_reducible repeat (first | refine blk_drewN ?_ _ | refine blk_drew ?_ | refine blk_alloc ?_ _)); refine blk_put (cs := #[.slice none 0 0, .slice none 0 0, .int .i64 0, .int .i64 0]) ?_ 2 _ rfl; (with_reducible repeat (first | refine blk_drewN ?_ _ | refine blk_drew ?_ | refine blk_alloc ?_ _)); refine blk_put (cs := #[.slice none 0 0, .slice none 0 0, .int .i64 0, .int .i64 0]) ?_ 1 _ rfl; (with_reducible repeat (first | refine blk_drewN ?_ _ | refine blk_drew ?_ | refine blk_alloc ?_ _)); refine blk_put (cs := #[.slice none 0 0, .slice none 0 0, .int .i64 0, .int .i64 0]) ?_ 0 _ rfl; (with_reducible repeat (first | refine blk_drewN ?_ _ | refine blk_drew ?_ | refine blk_alloc ?_ _)); exact K8.out) Try.underlying31 rfl (by kernel_rfl)) rfl ?_
    exact ⟨_, _, by first | rfl | (simp; done), Kd.R_nil _ _ _ _ _, Kd.R_nil _ _ _ _ _, by repeat (first | exact HB.out | (with_reducible first | apply pw_below_drewN | apply below_drew | refine below_set ?_ HG8.out))⟩
  | false =>
    rw [if_neg (by decide)] at h
    replace h := Option.bind_eq_some_iff.mp h
    obtain ⟨t10, A10, h⟩ := h
    have A10 := Aside0.mk A10
    cases t10 with
    | false =>
      rw [if_neg (by decide)] at h
      obtain ⟨rfl, rfl, rfl, rfl, rfl⟩ : ([] : List Int) = r1 ∧ ([] : List Int) = r2 ∧ (0 : Int) = r3 ∧ (0 : Int) = r4 ∧ (1 : Int) = r5 := by simpa using h
      clear h
      have z0 : w8.cell? ⟨g8, 0, none⟩ = some (.slice none 0 0) := (blk_cell K8.out 0).trans rfl
      have f0 := blk_frozen K8.out 0
      have z1 : w8.cell? ⟨g8, 1, none⟩ = some (.slice none 0 0) := (blk_cell K8.out 1).trans rfl
      have f1 := blk_frozen K8.out 1
      have z2 : w8.cell? ⟨g8, 2, none⟩ = some (.int .i64 0) := (blk_cell K8.out 2).trans rfl
      have f2 := blk_frozen K8.out 2
      have z3 : w8.cell? ⟨g8, 3, none⟩ = some (.int .i64 0) := (blk_cell K8.out 3).trans rfl
      have f3 := blk_frozen K8.out 3
      go_wp2_with (first | (go_at_call 42; (with_reducible refine (spec_l15Long.calls _ _ l2 _ _ l3 false _ ?side1 ?side2 ?side3 ?side4 A9.out).mono ?_); (case side1 => repeat (first | exact Kd.C_below HR2.out HB.out | (with_reducible refine Kd.C_drewN ?_ _))); (case side2 => exact HC2.out); (case side3 => repeat (first | exact Kd.C_below HR3.out HB.out | (with_reducible refine Kd.C_drewN ?_ _))); (case side4 => exact HC3.out); rintro e w_ ⟨rfl, ⟨n1_, rfl⟩⟩) | (go_at_call 43; (with_reducible refine (spec_l15Right.calls k a0 a1 _ _ l2 _ _ l3 false _ ?side1 ?side2 ?side3 ?side4 A10.out).mono ?_); (case side1 => repeat (first | exact Kd.C_below HR2.out HB.out | (with_reducible refine Kd.C_drewN ?_ _))); (case side2 => exact HC2.out); (case side3 => repeat (first | exact Kd.C_below HR3.out HB.out | (with_reducible refine Kd.C_drewN ?_ _))); (case side4 => exact HC3.out); rintro e w_ ⟨rfl, ⟨n2_, rfl⟩⟩))
      refine bodyPost_ret (results_ct rfl _ _ g8 31 #[.slice none 0 0, .slice none 0 0, .int .i64 0, .int .i64 0] (0, 0) _ rfl (by (with_reducible repeat (first | refine blk_drewN ?_ _ | refine blk_drew ?_ | refine blk_alloc ?_ _)); refine blk_put (cs := #[.slice none 0 0, .slice none 0 0, .int .i64 0, .int .i64 0]) ?_ 3 _ rfl; (with_reducible repeat (first | refine blk_drewN ?_ _ | refine blk_drew ?_ | refine blk_alloc ?_ _)); refine blk_put (cs := #[.slice none 0 0, .slice none 0 0, .int .i64 0, .int .i64 0]) ?_ 2 _ rfl; (with_reducible repeat (first | refine blk_drewN ?_ _ | refine blk_drew ?_ | refine blk_alloc ?_ _)); refine blk_put (cs := #[.slice none 0 0, .slice none 0 0, .int .i64 0, .int .i64 0]) ?_ 1 _ rfl; (with_reducible repeat (first | refine blk_drewN ?_ _ | refine blk_drew ?_ | refine blk_alloc ?_ _)); refine blk_put (cs := #[.slice none 0 0, .slice none 0 0, .int .i64 0, .int .i64 0]) ?_ 0 _ rfl; (with_reducible repeat (first | refine blk_drewN ?_ _ | refine blk_drew ?_ | refine blk_alloc ?_ _)); exact K8.out) Try.underlying31 rfl (by kernel_rfl)) rfl ?_
      exact ⟨_, _, by first | rfl | (simp; done), Kd.R_nil _ _ _ _ _, Kd.R_nil _ _ _ _ _, by repeat (first | exact HB.out | (with_reducible first | apply pw_below_drewN | apply below_drew | refine below_set ?_ HG8.out))⟩
    | true =>
      rw [if_pos rfl] at h
      by_cases hg : spec_BestMarks.good a0 a1 l2 l3
      rotate_left
      · rw [if_neg hg] at h
        cases h
      rw [if_pos hg] at h
      have H := Aside0.mk h
      have HGD := Aside0.mk hg
      clear h
      have hp5 : (l2.length : Int) ≤ 5 := by have := hg.2.2.1; omega
      have hd7 : (l3.length : Int) ≤ 7 := by have := hg.2.2.2.1; omega
      clear hg
      go_wp2_with (first | (go_at_call 42; (with_reducible refine (spec_l15Long.calls _ _ l2 _ _ l3 false _ ?side1 ?side2 ?side3 ?side4 A9.out).mono ?_); (case side1 => repeat (first | exact Kd.C_below HR2.out HB.out | (with_reducible refine Kd.C_drewN ?_ _))); (case side2 => exact HC2.out); (case side3 => repeat (first | exact Kd.C_below HR3.out HB.out | (with_reducible refine Kd.C_drewN ?_ _))); (case side4 => exact HC3.out); rintro e w_ ⟨rfl, ⟨n1_, rfl⟩⟩) | (go_at_call 43; (with_reducible refine (spec_l15Right.calls k a0 a1 _ _ l2 _ _ l3 true _ ?side1 ?side2 ?side3 ?side4 A10.out).mono ?_); (case side1 => repeat (first | exact Kd.C_below HR2.out HB.out | (with_reducible refine Kd.C_drewN ?_ _))); (case side2 => exact HC2.out); (case side3 => repeat (first | exact Kd.C_below HR3.out HB.out | (with_reducible refine Kd.C_drewN ?_ _))); (case side4 => exact HC3.out); rintro e w_ ⟨rfl, ⟨n2_, rfl⟩⟩) | ((with_reducible refine gate_dst (N := 31) rfl ?_); refine Kd.R_make (Kd.int .i64) _ 3 rfl (N := 31) rfl 26 _ _ rfl 7035 rfl rfl Try.underlying26 (.int .i64 0) 8 info3 rfl (by decide) (by omega) 0 (ok := fun _ => True) (okp := fun _ => True) rfl (fun _ hk => hk) trivial (by decide) (by decide) (Below.refl _ _) (Nat.le_refl _) ?_; intro vr w31 hr_ hb_ hg_ hn_; rw [show (7035 : Int).toNat = 7035 from rfl] at hr_; obtain ⟨gm, cm, hv_, gb_, _, _⟩ := Kd.R_form hr_ (by rw [List.length_replicate]; decide); rw [List.length_replicate] at hv_; subst hv_; have hbb := below_step (pw_below_drewN (Below.refl _ w8) (n1_ + n2_)) hb_; have K31 := Aside0.mk (blk_below K8.out hbb); have HB31 := Aside0.mk (below_step HB.out hbb); have HM31 := Aside0.mk (Kd.R_tight rfl (Kd.R_lower hr_ (below_size (below_step HB.out (pw_below_drewN (Below.refl _ w8) (n1_ + n2_)))))); have G31 := Aside0.mk (Nat.lt_of_lt_of_le (blk_lt K8.out) (show w8.heap.size ≤ gm from gb_)); clear hr_ hb_ hg_ hn_ gb_ hbb) | ((with_reducible refine gate_dst (N := 33) rfl ?_); refine box_event ?hg (N := 33) ?hd (cs := #[.int .i64 a0, .slice A2 l2.length c2, .slice A3 l3.length c3, .slice (some ⟨gm, 0, none⟩) 7035 cm]) (t := 63) ?hr ?_; (case hd => rfl); (case hg => rfl); (case hr => first | (go_simp; done) | (go_simp; rfl)); intro gx e_ w33 k_ b_; have HL : Aside0 (spec_BestMarks.L1 a0 A2 c2 l2 A3 c3 l3 w gx gm cm g8 w33 (List.replicate 7035 0)) := ⟨⟨below_step HB31.out b_, by have := HG8.out; have := G31.out; omega, by (have := Kd.R_lt HM31.out gm rfl; omega), by have := G31.out; omega, HG8.out, k_, blk_below K31.out b_, Kd.R_below HM31.out b_⟩⟩; clear e_ k_ b_))
      go_loopg [11] 7035 (fun gg v11 wr => ∃ (j : Nat), j ≤ 7035 ∧ 7035 - j ≤ gg ∧ v11 = .int .i64 (j : Int) ∧ Aside0 (spec_BestMarks.L1 a0 A2 c2 l2 A3 c3 l3 w gx gm cm g8 wr (List.replicate j (-1) ++ List.replicate (7035 - j) 0)))
      case atStart => exact ⟨0, Nat.zero_le _, Nat.le_refl _, rfl, ⟨by simpa using HL.out⟩⟩
      case round =>
        clear HL HM31 K31 HB31 G31
        obtain ⟨j, hj, hgg, rfl, HL⟩ := hrel
        have q3 : wr.cell? ⟨gx, 3, none⟩ = some (.slice (some ⟨gm, 0, none⟩) 7035 cm) := (blk_cell HL.out.blk 3).trans rfl
        by_cases hj1 : j < 7035
        · have hjz : (j : Int) < 7035 := by omega
          obtain ⟨hx, hf⟩ := Kd.R_celln 0 HL.out.row (j : Int) (by omega) (by omega)
          rw [Int.toNat_natCast] at hx hf
          have E := HL.out.put (j : Int) (-1)
          rw [Int.toNat_natCast, spec_BestMarks.memo_set j hj1] at E
          have HE := Aside0.mk E
          have HJ := Aside0.mk hj1
          have HGG := Aside0.mk hgg
          clear E hj hgg hj1
          go_wp2
          go_roundg (7035 - (j + 1))
          case measure => have := HJ.out; have := HGG.out; omega
          case rel => exact ⟨j + 1, by have := HJ.out; omega, Nat.le_refl _, by go_num, HE⟩
        · have hjz : ¬ (j : Int) < 7035 := by omega
          obtain rfl : j = 7035 := by omega
          rw [Nat.sub_self, List.replicate_zero, List.append_nil] at HL
          clear hj hgg hj1
          go_wp2_with (first | ((with_reducible refine gate_dst (N := 49) rfl ?_); refine Kd.R_lit (Kd.int .i64) _ 3 ?hg (N := 49) ?hd (xs := ([] : List Int)) (inner := []) (ok := fun _ => True) (okp := fun _ => True) ?hr ?hp (fun _ hk => hk) trivial (Below.refl _ _) (Nat.le_refl _) (by simp) ?_; (case hd => rfl); (case hg => rfl); (case hr => first | (go_simp; done) | (go_simp; rfl)); (case hp => exact (Reps.none _ _)); intro v49 w49 ho_ hb_ hg_ hn_; have HMN := Aside0.mk (HL.out.main (by omega) hb_ ho_); clear ho_ hb_ hg_ hn_ HL))
          clear q3
          go_loopg [12, 13, 14, 15] l3.length (fun gg v12 v13 v14 v15 wr => ∃ (day st : Nat) (lf : Int) (T M : List Int), day ≤ l3.length ∧ l3.length - day ≤ gg ∧ v13 = .int .i64 (st : Int) ∧ v14 = .int .i64 lf ∧ v15 = .int .i64 (day : Int) ∧ st < l2.length ∧ 0 ≤ lf ∧ lf ≤ 200 ∧ Aside0 (spec_BestMarks.steps a0 l2 l3 0 a1 = T ++ spec_BestMarks.steps a0 l2 (l3.drop day) st lf) ∧ Aside0 (T.length = day) ∧ Aside0 (spec_BestMarks.Main a0 A2 c2 l2 A3 c3 l3 w gx gm cm g8 wr M v12 T))
          case atStart => exact ⟨0, 0, a1, [], List.replicate 7035 (-1), Nat.zero_le _, Nat.le_refl _, rfl, rfl, rfl, by have := HGD.out.2.2.1; omega, HGD.out.2.1.1, HGD.out.2.1.2, ⟨rfl⟩, ⟨rfl⟩, HMN⟩
          case round =>
            clear HMN
            obtain ⟨day, st, lf, T, M, hday, hgg, rfl, rfl, rfl, hst, hl0, hl1, HST, HTL, HMN⟩ := hrel
            by_cases hd : day < l3.length
            · have hdz : (day : Int) < (l3.length : Int) := by omega
              have HMOST := Aside0.mk (spec_BestMarks.most_ HGD.out HR2.out HR3.out (l3.length - day) day st lf M wr (by omega) hst hl0 hl1 HMN.out.se)
              have HDROP := Aside0.mk (spec_BestMarks.drop_cons hd)
              have HMEM : Aside0 (l3.getD day [] ∈ l3) := ⟨by rw [List.getD_eq_getElem?_getD, List.getElem?_eq_getElem hd]; exact List.getElem_mem hd⟩
              have HAT := Aside0.mk (spec_BestMarks.attained HGD.out (l3.getD day []) (l3.drop (day + 1)) (HGD.out.2.2.2.2.2.2 _ HMEM.out) (fun d hd_ => HGD.out.2.2.2.2.2.2 d (List.mem_of_mem_drop hd_)) st lf hst hl0)
              have HF := Aside0.mk (spec_BestMarks.first_spec _ _ _ HAT.out)
              have HWORTH : Aside0 (∀ (kk : Nat) (M : List Int) (W1 : World), kk < l2.length → spec_BestMarks.SE a0 A2 c2 l2 A3 c3 l3 w gx gm cm W1 M → Calls Try.prog 46 #[.pointer (some ⟨gx, 0, none⟩), .int .i64 (day : Int), .int .i64 (kk : Int), .int .i64 lf] W1 fun e w' => e = .returned (.int .i64 (spec_BestMarks.worth a0 l2 (l3.getD day []) (l3.drop (day + 1)) kk lf)) ∧ ∃ M', spec_BestMarks.SE a0 A2 c2 l2 A3 c3 l3 w gx gm cm w' M' ∧ Kept W1 w' (fun k_ => k_ = gm)) :=
                ⟨fun kk M W1 hk E => spec_BestMarks.worth_ HGD.out HR2.out HR3.out day kk lf M W1 hd hk hl0 hl1 (fun i l M W hi l0 l1 E => by have h_ := spec_BestMarks.most_ HGD.out HR2.out HR3.out (l3.length - (day + 1)) (day + 1) i l M W (by omega) hi l0 l1 E; rwa [show ((day + 1 : Nat) : Int) = (day : Int) + 1 by omega] at h_) E⟩
              have HSTEP : Aside0 (∀ K, spec_BestMarks.first (fun k => spec_BestMarks.worth a0 l2 (l3.getD day []) (l3.drop (day + 1)) k lf == spec_BestMarks.most a0 l2 (l3.getD day [] :: l3.drop (day + 1)) st lf) st (l2.length - st) = K → spec_BestMarks.steps a0 l2 (l3.getD day [] :: l3.drop (day + 1)) st lf = (K : Int) :: spec_BestMarks.steps a0 l2 (l3.drop (day + 1)) K (lf - mn lf (rd (l3.getD day []) (K : Int)))) := ⟨fun K hK => by rw [spec_BestMarks.steps, hK]⟩
              have HSOLD : Aside0 (∀ (kk : Nat) (M : List Int) (W1 : World), kk < l2.length → spec_BestMarks.SE a0 A2 c2 l2 A3 c3 l3 w gx gm cm W1 M → Calls Try.prog 47 #[.pointer (some ⟨gx, 0, none⟩), .int .i64 (day : Int), .int .i64 (kk : Int), .int .i64 lf] W1 fun e w' => e = .returned (.int .i64 (mn lf (rd (l3.getD day []) (kk : Int)))) ∧ Drawn0 W1 w') :=
                ⟨fun kk M W1 hk E => spec_BestMarks.sold HR3.out (by omega) day kk lf M W1 hd (by rw [HGD.out.2.2.2.2.2.1 _ HMEM.out]; exact hk) E⟩
              have HDB := Aside0.mk (HGD.out.2.2.2.2.2.2 _ HMEM.out)
              rw [HDROP.out] at HMOST HST
              generalize spec_BestMarks.most a0 l2 (l3.getD day [] :: l3.drop (day + 1)) st lf = mo at HMOST HF HSTEP
              generalize hKK : spec_BestMarks.first (fun k => spec_BestMarks.worth a0 l2 (l3.getD day []) (l3.drop (day + 1)) k lf == mo) st (l2.length - st) = K at HF HSTEP
              have HSTEP := Aside0.mk (HSTEP.out K rfl)
              have HST2 : Aside0 (spec_BestMarks.steps a0 l2 l3 0 a1 = (T ++ [(K : Int)]) ++ spec_BestMarks.steps a0 l2 (l3.drop (day + 1)) K (lf - mn lf (rd (l3.getD day []) (K : Int)))) := ⟨by rw [HST.out, HSTEP.out]; simp⟩
              have HSTL := Aside0.mk hst
              have HGG := Aside0.mk hgg
              clear hKK HAT HMEM HDROP HST HSTEP hday hgg hst
              go_wp2_with (go_at_call 45; refine HMOST.out.mono ?_; rintro e w61 ⟨rfl, M1, E1, K1⟩; have HM1 := Aside0.mk (HMN.out.kept E1 K1); clear E1 K1)
              clear HMN HMOST
              have HMO := Aside0.mk (Nat.lt_of_lt_of_le HSTL.out (Nat.le_refl l2.length))
              obtain ⟨wo, rfl⟩ : ∃ wo : World, wo = w61 := ⟨_, rfl⟩
              go_loopg [13] (K - st) (fun gg v13 wr => ∃ (kk : Nat) (M : List Int), st ≤ kk ∧ kk ≤ K ∧ K - kk ≤ gg ∧ v13 = .int .i64 (kk : Int) ∧ Aside0 (spec_BestMarks.Main a0 A2 c2 l2 A3 c3 l3 w gx gm cm g8 wr M u12 T))
              case atStart => exact ⟨st, M1, Nat.le_refl _, HF.out.2.1, Nat.le_refl _, rfl, HM1⟩
              case round =>
                clear HM1
                obtain ⟨kk, M2, hsk, hkK, hgg2, rfl, HM2⟩ := hrel
                have hKl : K < l2.length := by have := HF.out.2.2.1; have := HSTL.out; omega
                have HW := Aside0.mk (HWORTH.out kk M2 wr (by omega) HM2.out.se)
                by_cases hk : kk < K
                · have hne := HF.out.2.2.2 kk hsk hk
                  generalize spec_BestMarks.worth a0 l2 (l3.getD day []) (l3.drop (day + 1)) kk lf = x at HW hne
                  have hnb : (x != mo) = true := by rw [bne_iff_ne]; intro e_; rw [e_] at hne; simp at hne
                  have HK := Aside0.mk hk
                  have HSK := Aside0.mk hsk
                  have HG2 := Aside0.mk hgg2
                  have hkz : (kk : Int) ≤ 5 := by omega
                  clear hne hk hsk hkK hgg2 hKl
                  go_wp2_with (go_at_call 46; refine HW.out.mono ?_; rintro e w66 ⟨rfl, M3, E3, K3⟩; have HM3 := Aside0.mk (HM2.out.kept E3 K3); clear E3 K3)
                  go_roundg (K - (kk + 1))
                  case measure => have := HK.out; have := HG2.out; omega
                  case rel =>
                    have := HK.out
                    have := HSK.out
                    exact ⟨kk + 1, M3, by omega, by omega, Nat.le_refl _, by go_num, HM3⟩
                · obtain rfl : kk = K := by omega
                  have heq := HF.out.1
                  have HKL := Aside0.mk hKl
                  have HSO := HSOLD.out kk
                  have hlf : 0 ≤ mn lf (rd (l3.getD day []) (kk : Int)) ∧ mn lf (rd (l3.getD day []) (kk : Int)) ≤ lf := by
                    have h_ := spec_BestMarks.mn_bd hl0 (spec_BestMarks.rd_bd (lo := 0) (hi := 200) (by omega) (by omega) HDB.out (kk : Int)).1
                    exact ⟨h_.1, h_.2.1⟩
                  generalize spec_BestMarks.worth a0 l2 (l3.getD day []) (l3.drop (day + 1)) kk lf = x at HW heq
                  have hnb : (x != mo) = false := by rw [beq_iff_eq] at heq; rw [heq]; simp
                  generalize mn lf (rd (l3.getD day []) (kk : Int)) = m at HSO hlf HST2
                  have HS0 := Aside0.mk HSO
                  have HW1 : Aside0 (wrap64 (lf - m) = lf - m) := ⟨by unfold wrap64; omega⟩
                  have HW2 : Aside0 (wrap64 ((day : Int) + 1) = (day : Int) + 1) := ⟨by unfold wrap64; omega⟩
                  have HLF := Aside0.mk hlf
                  have hw1 := HW1.out
                  have hw2 := HW2.out
                  have hw1b := (i64_w _).trans hw1
                  have hw2b := (i64_w _).trans hw2
                  clear heq hsk hkK hgg2 hKl HSO hlf HW1 HW2 hk
                  obtain ⟨Au, cu, hu12⟩ := Kd.R_slice HM2.out.row
                  subst hu12
                  go_wp2_with (first | (go_at_call 46; refine HW.out.mono ?_; rintro e w66 ⟨rfl, M3, E3, K3⟩; have HM3 := Aside0.mk (HM2.out.kept E3 K3); clear E3 K3) | ((with_reducible refine gate_builtin (b := .append) (xs := #[.tmp 71, .tmp 73]) rfl ?_); at_builtin; refine Kd.R_append (Kd.int .i64) (w0 := w) w.heap.size rfl (.tmp 71) (.tmp 73) 26 3 (.int .i64 0) 8 rfl Try.underlying26 info3 rfl (by decide) (by omega) (.slice Au T.length cu) T (kk : Int) [.int .i64 (kk : Int)] (fun k_ => k_ ≠ gm ∧ k_ ≠ gx ∧ k_ ≠ g8) (fun _ => False) rfl rfl ?aP (fun _ hk => hk.elim) ?aF ?aO ?aB ?aS ?aL ?_; (case aP => exact rfl); (case aF => exact (fun k_ hk => ⟨by have := Kd.R_lt HM3.out.se.row gm rfl; omega, by have := blk_lt HM3.out.se.blk; omega, by have := blk_lt HM3.out.k8; omega⟩)); (case aO => exact HM3.out.row); (case aB => exact HM3.out.se.bel); (case aS => exact below_size HM3.out.se.bel); (case aL => (have := HTL.out; omega)); intro v74 w74 ho_ hb_ hg_ hn_; have HM4 := Aside0.mk (HM3.out.append ho_ hb_ hg_); clear ho_ hb_ hg_ hn_) | (go_at_call 47; refine (HS0.out _ w74 HKL.out HM4.out.se).mono ?_; rintro e w80 ⟨rfl, ⟨n80, rfl⟩⟩))
                  go_roundg (l3.length - (day + 1))
                  case measure => have := HGG.out; omega
                  case rel =>
                    have := HLF.out
                    exact ⟨day + 1, kk, lf - m, T ++ [(kk : Int)], _, by omega, Nat.le_refl _, rfl, rfl, by go_num, HKL.out, by omega, by omega, HST2, ⟨by rw [List.length_append, HTL.out]; rfl⟩, ⟨HM4.out.below (pw_below_drewN (Below.refl _ _) _)⟩⟩
            · have hdz : ¬ (day : Int) < (l3.length : Int) := by omega
              obtain rfl : day = l3.length := by omega
              have HT : Aside0 (spec_BestMarks.steps a0 l2 l3 0 a1 = T) := ⟨by rw [HST.out, List.drop_length]; simp [spec_BestMarks.steps]⟩
              have hm := H.out
              rw [HT.out] at hm
              have HMK := Aside0.mk hm
              obtain ⟨Au, cu, hu12⟩ := Kd.R_slice HMN.out.row
              subst hu12
              have HRR := Kd.R_reads' HMN.out.row
              have HR4 := Aside0.mk HRR.2.2
              have HC4 := Aside0.mk HRR.2.1
              clear HRR hm HST hday hgg hd hst hl0 hl1
              go_wp2_with (go_at_call 14; refine (spec_MarkOf.calls k a0 a1 _ _ l2 _ _ l3 _ _ T r1 r2 r3 r4 r5 _ (Kd.C_below HR2.out HMN.out.se.bel) HC2.out (Kd.C_below HR3.out HMN.out.se.bel) HC3.out HR4.out HC4.out HMK.out).mono ?_; rintro e w87 ⟨u1, u2, rfl, hr1, hr2, hb⟩; obtain ⟨A5, c5, e5⟩ := Kd.R_slice hr1; obtain ⟨A6, c6, e6⟩ := Kd.R_slice hr2; subst e5; subst e6; have HU1 := Aside0.mk (Kd.R_mono (Kd.R_bound hr1) (fun k_ hk_ => And.intro hk_.1 hk_.2.1)); have HU2 := Aside0.mk (Kd.R_mono (Kd.R_bound hr2) (fun k_ hk_ => And.intro hk_.1 hk_.2.1)); have HLE := Aside0.mk (below_size HMN.out.se.bel); have H8L := Aside0.mk (blk_lt HMN.out.k8); have HMZ := Aside0.mk (HMN.out.below hb); clear hr1 hr2 hb HMN; have z0 : w87.cell? ⟨g8, 0, none⟩ = some (.slice none 0 0) := (blk_cell HMZ.out.k8 0).trans rfl; have f0 := blk_frozen HMZ.out.k8 0; have z1 : w87.cell? ⟨g8, 1, none⟩ = some (.slice none 0 0) := (blk_cell HMZ.out.k8 1).trans rfl; have f1 := blk_frozen HMZ.out.k8 1; have z2 : w87.cell? ⟨g8, 2, none⟩ = some (.int .i64 0) := (blk_cell HMZ.out.k8 2).trans rfl; have f2 := blk_frozen HMZ.out.k8 2; have z3 : w87.cell? ⟨g8, 3, none⟩ = some (.int .i64 0) := (blk_cell HMZ.out.k8 3).trans rfl; have f3 := blk_frozen HMZ.out.k8 3)
              refine bodyPost_ret (results_ct rfl _ _ g8 31 #[.slice A5 r1.length c5, .slice A6 r2.length c6, .int .i64 r3, .int .i64 r4] (0, 0) _ rfl (by (with_reducible repeat (first | refine blk_drewN ?_ _ | refine blk_drew ?_ | refine blk_alloc ?_ _)); refine blk_put (cs := #[.slice A5 r1.length c5, .slice A6 r2.length c6, .int .i64 r3, .int .i64 0]) ?_ 3 _ rfl; (with_reducible repeat (first | refine blk_drewN ?_ _ | refine blk_drew ?_ | refine blk_alloc ?_ _)); refine blk_put (cs := #[.slice A5 r1.length c5, .slice A6 r2.length c6, .int .i64 0, .int .i64 0]) ?_ 2 _ rfl; (with_reducible repeat (first | refine blk_drewN ?_ _ | refine blk_drew ?_ | refine blk_alloc ?_ _)); refine blk_put (cs := #[.slice A5 r1.length c5, .slice none 0 0, .int .i64 0, .int .i64 0]) ?_ 1 _ rfl; (with_reducible repeat (first | refine blk_drewN ?_ _ | refine blk_drew ?_ | refine blk_alloc ?_ _)); refine blk_put (cs := #[.slice none 0 0, .slice none 0 0, .int .i64 0, .int .i64 0]) ?_ 0 _ rfl; (with_reducible repeat (first | refine blk_drewN ?_ _ | refine blk_drew ?_ | refine blk_alloc ?_ _)); exact HMZ.out.k8) Try.underlying31 rfl (by kernel_rfl)) rfl ?_
              have h8 := H8L.out
              have hn8 : ∀ {q : Nat → Prop} (k_ : Nat), (q k_ ∧ wr.heap.size ≤ k_) → k_ ≠ g8 := fun k_ hk e_ => by have := hk.2; omega
              exact ⟨_, _, by first | rfl | (simp; done), Kd.R_lower (Kd.R_mono (Kd.R_far (p := ⟨g8, 3, none⟩) (Kd.R_far (p := ⟨g8, 2, none⟩) (Kd.R_far (p := ⟨g8, 1, none⟩) (Kd.R_far (p := ⟨g8, 0, none⟩) HU1.out hn8 _) hn8 _) hn8 _) hn8 _) (fun _ hk => hk.1)) HLE.out, Kd.R_lower (Kd.R_mono (Kd.R_far (p := ⟨g8, 3, none⟩) (Kd.R_far (p := ⟨g8, 2, none⟩) (Kd.R_far (p := ⟨g8, 1, none⟩) (Kd.R_far (p := ⟨g8, 0, none⟩) HU2.out hn8 _) hn8 _) hn8 _) hn8 _) (fun _ hk => hk.1)) HLE.out, below_set (below_set (below_set (below_set HMZ.out.se.bel HG8.out) HG8.out) HG8.out) HG8.out⟩


end Go.Proofs.Ytehjdodmgephiaa.XFnExactBestMarks
