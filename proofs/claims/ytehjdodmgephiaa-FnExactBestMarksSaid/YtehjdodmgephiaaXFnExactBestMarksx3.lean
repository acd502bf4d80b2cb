-- PRINTED by xprint.py (our own program, over the kit's print.py)
import Derived.Test.YtehjdodmgephiaaXFnExactBestMarksx0
import Derived.Test.YtehjdodmgephiaaXFnExactBestMarksx1
import Derived.Test.YtehjdodmgephiaaXFnExactBestMarksx2
namespace Go.Proofs.Ytehjdodmgephiaa.XFnExactBestMarks
open Go.RowKit Go.Proofs.YtehjdodmgephiaaW.PrintWords Go.Proofs.YtehjdodmgephiaaW.PrintLast Go.Proofs.YtehjdodmgephiaaW.PrintMore Go.Proofs.YtehjdodmgephiaaW.Idx
attribute [local go_sem] max2_int min2_int max_two min_two max_three min_three max_four min_four   -- for this text's walks alone
set_option linter.unusedVariables false
set_option linter.unusedSimpArgs false

/-! ### impl_BestMarks: function 11 -/
abbrev impl_BestMarks.Pl := List Int × List Int × Int × Int
/-- All steps that do not fall, of r days, from the percent i on. -/
def impl_BestMarks.cands (n : Nat) : Nat → Nat → List (List Int)
  | 0, _ => [[]]
  | r + 1, i => (List.range' i (n - i)).flatMap fun j => (impl_BestMarks.cands n r j).map (((j : Nat) : Int) :: ·)
def impl_BestMarks.try_ (k : Nat) (a0 a1 : Int) (P : List Int) (D : List (List Int)) : List (List Int) → impl_BestMarks.Pl → Option impl_BestMarks.Pl
  | [], b => some b
  | S :: cs, b => (impl_markOf.f k a0 a1 P D S).bind fun t => impl_BestMarks.try_ k a0 a1 P D cs (if b.2.2.1 < t.2.2.1 then t else b)
def impl_BestMarks.f (k : Nat) (a0 : Int) (a1 : Int) (l2 : List Int) (l3 : List (List Int)) : Option (List Int × List Int × Int × Int × Int) := if l2.length ≤ 4096 ∧ l3.length ≤ 4096 then ((impl_areMarks.f k a0 a1 l2 l3).bind fun t => (if t = true then ((impl_BestMarks.try_ k a0 a1 l2 l3 (impl_BestMarks.cands l2.length l3.length 0) ([], [], -1, 0)).bind fun b => some (b.1, b.2.1, b.2.2.1, b.2.2.2, 0)) else some ([], [], 0, 0, 1))) else some ([], [], 0, 0, 2)
theorem impl_BestMarks.cands_step (n r i : Nat) (h : i < n) : impl_BestMarks.cands n (r + 1) i = (impl_BestMarks.cands n r i).map (((i : Nat) : Int) :: ·) ++ impl_BestMarks.cands n (r + 1) (i + 1) := by
  show (List.range' i (n - i)).flatMap _ = _ ++ (List.range' (i + 1) (n - (i + 1))).flatMap _
  rw [show n - i = (n - (i + 1)) + 1 by omega, List.range'_succ, List.flatMap_cons]
theorem impl_BestMarks.cands_end (n r i : Nat) (h : n ≤ i) : impl_BestMarks.cands n (r + 1) i = [] := by
  show (List.range' i (n - i)).flatMap _ = _
  rw [show n - i = 0 by omega]
  rfl
theorem impl_BestMarks.try_append (k : Nat) (a0 a1 : Int) (P : List Int) (D : List (List Int)) : ∀ (xs ys : List (List Int)) (b : impl_BestMarks.Pl), impl_BestMarks.try_ k a0 a1 P D (xs ++ ys) b = (impl_BestMarks.try_ k a0 a1 P D xs b).bind (impl_BestMarks.try_ k a0 a1 P D ys) := by
  intro xs
  induction xs with
  | nil => intro ys b; rfl
  | cons x xs ih =>
    intro ys b
    rw [List.cons_append, impl_BestMarks.try_, impl_BestMarks.try_]
    cases impl_markOf.f k a0 a1 P D x with
    | none => rfl
    | some t => exact ih ys _
theorem impl_BestMarks.try_mono (k : Nat) (a0 a1 : Int) (P : List Int) (D : List (List Int)) : ∀ (xs : List (List Int)) (b : impl_BestMarks.Pl), LeO (impl_BestMarks.try_ k a0 a1 P D xs b) (impl_BestMarks.try_ (k + 1) a0 a1 P D xs b) := by
  intro xs
  induction xs with
  | nil => intro b; exact LeO.refl _
  | cons x xs ih => intro b; exact LeO.bind (impl_markOf.mono _ _ _ _ _ _) (fun t => ih _)
/-- The variables of the search lie apart. -/
structure impl_BestMarks.Fix (B N0 gD gp gt gP gS gB gT gr g8 : Nat) : Prop where
  sz : B ≤ N0
  nD : gD ≠ gr ∧ gD ≠ gB
  np : gp ≠ gr ∧ gp ≠ gB
  nt : gt ≠ gr ∧ gt ≠ gB
  nP : gP ≠ gr ∧ gP ≠ gB
  nS : gS ≠ gr ∧ gS ≠ gB
  nT : gT ≠ gr ∧ gT ≠ gB
  nB : gB ≠ gr
  n8 : g8 ≠ gr ∧ g8 ≠ gB
  lr : gr < N0
  lB : gB < N0
  br : B ≤ gr
  bB : B ≤ gB
/-- What the variables hold, ahead of a call of the search and behind it. -/
structure impl_BestMarks.Env (a0 a1 : Int) (A2 : Option Addr) (c2 : Nat) (P : List Int) (A3 : Option Addr) (c3 : Nat) (D : List (List Int)) (w0 : World) (N0 gD gp gt gP gS gB gT gr cr g8 : Nat) (W : World) (S : List Int) (b : impl_BestMarks.Pl) : Prop where
  bel : Below w0.heap.size w0 W
  siz : N0 ≤ W.heap.size
  cD : W.cell? ⟨gD, 0, none⟩ = some (.slice A3 D.length c3)
  cp : W.cell? ⟨gp, 0, none⟩ = some (.int .i64 a0)
  ct : W.cell? ⟨gt, 0, none⟩ = some (.int .i64 a1)
  cP : W.cell? ⟨gP, 0, none⟩ = some (.slice A2 P.length c2)
  cS : W.cell? ⟨gS, 0, none⟩ = some (.slice (some ⟨gr, 0, none⟩) D.length cr)
  cT : W.cell? ⟨gT, 0, none⟩ = some (.func (.func 40) #[] #[.pointer (some ⟨gD, 0, none⟩), .pointer (some ⟨gp, 0, none⟩), .pointer (some ⟨gt, 0, none⟩), .pointer (some ⟨gP, 0, none⟩), .pointer (some ⟨gS, 0, none⟩), .pointer (some ⟨gB, 0, none⟩), .pointer (some ⟨gT, 0, none⟩)])
  c8 : W.heap[g8]? = some (.cells #[.slice none 0 0, .slice none 0 0, .int .i64 0, .int .i64 0] 31 (0, 0))
  row : Kd.R (Kd.int .i64) 3 W w0.heap.size (fun k_ => some k_ = some gr) (.slice (some ⟨gr, 0, none⟩) D.length cr) S
  best : ∃ u1 u2 : Value, W.heap[gB]? = some (.cells #[u1, u2, .int .i64 b.2.2.1, .int .i64 b.2.2.2] 31 (0, 0)) ∧ Kd.R (Kd.int .i64) 3 W w0.heap.size (fun k_ => N0 ≤ k_ ∧ some k_ ≠ u2.ownBlock) u1 b.1 ∧ Kd.R (Kd.int .i64) 3 W w0.heap.size (fun k_ => N0 ≤ k_ ∧ some k_ ≠ u1.ownBlock) u2 b.2.1
section
variable {a0 a1 : Int} {A2 : Option Addr} {c2 : Nat} {P : List Int} {A3 : Option Addr} {c3 : Nat} {D : List (List Int)} {w0 : World} {N0 gD gp gt gP gS gB gT gr cr g8 : Nat} {W W1 : World} {S : List Int} {b : impl_BestMarks.Pl}
theorem impl_BestMarks.Env.below (h : impl_BestMarks.Env a0 a1 A2 c2 P A3 c3 D w0 N0 gD gp gt gP gS gB gT gr cr g8 W S b) (hb : Below W.heap.size W W1) : impl_BestMarks.Env a0 a1 A2 c2 P A3 c3 D w0 N0 gD gp gt gP gS gB gT gr cr g8 W1 S b := by
  obtain ⟨h1, h2, h3, h4, h5, h6, h7, h8, h80, h9, u1, u2, h10, h11, h12⟩ := h
  exact ⟨below_step h1 hb, Nat.le_trans h2 hb.size, pw_cell_below hb h3, pw_cell_below hb h4, pw_cell_below hb h5, pw_cell_below hb h6, pw_cell_below hb h7, pw_cell_below hb h8, blk_below h80 hb, Kd.R_below h9 hb, u1, u2, blk_below h10 hb, Kd.R_below h11 hb, Kd.R_below h12 hb⟩
theorem impl_BestMarks.Env.drewN (h : impl_BestMarks.Env a0 a1 A2 c2 P A3 c3 D w0 N0 gD gp gt gP gS gB gT gr cr g8 W S b) (m : Nat) : impl_BestMarks.Env a0 a1 A2 c2 P A3 c3 D w0 N0 gD gp gt gP gS gB gT gr cr g8 (W.drewN m) S b := h.below (pw_below_drewN (Below.refl _ _) m)
theorem impl_BestMarks.Env.drew (h : impl_BestMarks.Env a0 a1 A2 c2 P A3 c3 D w0 N0 gD gp gt gP gS gB gT gr cr g8 W S b) : impl_BestMarks.Env a0 a1 A2 c2 P A3 c3 D w0 N0 gD gp gt gP gS gB gT gr cr g8 W.drew S b := h.below (below_drew (Below.refl _ _))
theorem impl_BestMarks.cell_far {W : World} {p q : Addr} {v : Value} (h : W.cell? p = some v) (hn : p.block ≠ q.block) (u : Value) : (W.setCell q u).cell? p = some v := by
  rw [World.cell?_setCell_other]
  · exact h
  · rintro rfl
    exact hn rfl
theorem impl_BestMarks.Env.put (h : impl_BestMarks.Env a0 a1 A2 c2 P A3 c3 D w0 N0 gD gp gt gP gS gB gT gr cr g8 W S b) (F : impl_BestMarks.Fix w0.heap.size N0 gD gp gt gP gS gB gT gr g8) (i x : Int) : impl_BestMarks.Env a0 a1 A2 c2 P A3 c3 D w0 N0 gD gp gt gP gS gB gT gr cr g8 (W.setCell ⟨gr, i.toNat, none⟩ (.int .i64 x)) (S.set i.toNat x) b := by
  obtain ⟨h1, h2, h3, h4, h5, h6, h7, h8, h80, h9, u1, u2, h10, h11, h12⟩ := h
  have e : D.length = S.length := (Kd.R_reads' h9).1
  refine ⟨below_set h1 F.br, by rw [World.size_setCell]; exact h2, impl_BestMarks.cell_far h3 F.nD.1 _, impl_BestMarks.cell_far h4 F.np.1 _, impl_BestMarks.cell_far h5 F.nt.1 _, impl_BestMarks.cell_far h6 F.nP.1 _, impl_BestMarks.cell_far h7 F.nS.1 _, impl_BestMarks.cell_far h8 F.nT.1 _, blk_far h80 F.n8.1 _, ?_, u1, u2, blk_far h10 F.nB _, Kd.R_far h11 (fun k hk e_ => ?_) _, Kd.R_far h12 (fun k hk e_ => ?_) _⟩
  · have h_ := Kd.R_putn (Kd.R_tight rfl h9) i x
    rw [e] at h9 ⊢
    try rw [e] at h_
    exact h_
  · have := F.lr; have := hk.1; simp only at e_; omega
  · have := F.lr; have := hk.1; simp only at e_; omega
/-- The better plan is laid into the variable. -/
theorem impl_BestMarks.Env.better (h : impl_BestMarks.Env a0 a1 A2 c2 P A3 c3 D w0 N0 gD gp gt gP gS gB gT gr cr g8 W S b) (F : impl_BestMarks.Fix w0.heap.size N0 gD gp gt gP gS gB gT gr g8) {v1 v2 : Value} {t : impl_BestMarks.Pl} (r1 : Kd.R (Kd.int .i64) 3 W N0 (fun k_ => some k_ ≠ v2.ownBlock) v1 t.1) (r2 : Kd.R (Kd.int .i64) 3 W N0 (fun k_ => some k_ ≠ v1.ownBlock) v2 t.2.1) :
    impl_BestMarks.Env a0 a1 A2 c2 P A3 c3 D w0 N0 gD gp gt gP gS gB gT gr cr g8 ((((W.setCell ⟨gB, 0, none⟩ v1).setCell ⟨gB, 1, none⟩ v2).setCell ⟨gB, 2, none⟩ (.int .i64 t.2.2.1)).setCell ⟨gB, 3, none⟩ (.int .i64 t.2.2.2)) S t := by
  obtain ⟨h1, h2, h3, h4, h5, h6, h7, h8, h80, h9, u1, u2, h10, h11, h12⟩ := h
  have far : ∀ {p : Addr} {v : Value}, W.cell? p = some v → p.block ≠ gB → ((((W.setCell ⟨gB, 0, none⟩ v1).setCell ⟨gB, 1, none⟩ v2).setCell ⟨gB, 2, none⟩ (.int .i64 t.2.2.1)).setCell ⟨gB, 3, none⟩ (.int .i64 t.2.2.2)).cell? p = some v :=
    fun h hn => impl_BestMarks.cell_far (impl_BestMarks.cell_far (impl_BestMarks.cell_far (impl_BestMarks.cell_far h hn _) hn _) hn _) hn _
  have rfar : ∀ {ok : Nat → Prop} {v : Value} {xs : List Int} {B : Nat}, Kd.R (Kd.int .i64) 3 W B ok v xs → (∀ k, ok k → k ≠ gB) → Kd.R (Kd.int .i64) 3 ((((W.setCell ⟨gB, 0, none⟩ v1).setCell ⟨gB, 1, none⟩ v2).setCell ⟨gB, 2, none⟩ (.int .i64 t.2.2.1)).setCell ⟨gB, 3, none⟩ (.int .i64 t.2.2.2)) B ok v xs :=
    fun h hn => Kd.R_far (Kd.R_far (Kd.R_far (Kd.R_far h hn _) hn _) hn _) hn _
  have hlB := F.lB
  have r1' := Kd.R_mono (Kd.R_bound r1) (ok' := fun k_ => N0 ≤ k_ ∧ some k_ ≠ v2.ownBlock) (fun k hk => ⟨hk.2.1, hk.1⟩)
  have r2' := Kd.R_mono (Kd.R_bound r2) (ok' := fun k_ => N0 ≤ k_ ∧ some k_ ≠ v1.ownBlock) (fun k hk => ⟨hk.2.1, hk.1⟩)
  refine ⟨below_set (below_set (below_set (below_set h1 F.bB) F.bB) F.bB) F.bB, by simp only [World.size_setCell]; exact h2, far h3 F.nD.2, far h4 F.np.2, far h5 F.nt.2, far h6 F.nP.2, far h7 F.nS.2, far h8 F.nT.2, blk_far (blk_far (blk_far (blk_far h80 F.n8.2 _) F.n8.2 _) F.n8.2 _) F.n8.2 _, rfar h9 (fun k hk e_ => F.nB (by rw [← e_]; exact Option.some.inj hk)), v1, v2, ?_, ?_, ?_⟩
  · exact blk_put (cs := #[v1, v2, .int .i64 t.2.2.1, .int .i64 b.2.2.2]) (blk_put (cs := #[v1, v2, .int .i64 b.2.2.1, .int .i64 b.2.2.2]) (blk_put (cs := #[v1, u2, .int .i64 b.2.2.1, .int .i64 b.2.2.2]) (blk_put h10 0 _ rfl) 1 _ rfl) 2 _ rfl) 3 _ rfl
  · exact Kd.R_lower (rfar r1' (fun k hk e_ => by have := hk.1; omega)) F.sz
  · exact Kd.R_lower (rfar r2' (fun k hk e_ => by have := hk.1; omega)) F.sz
end
/-- The search's last day: the steps are weighed. -/
theorem impl_BestMarks.leaf (k : Nat) {a0 a1 : Int} {A2 : Option Addr} {c2 : Nat} {P : List Int} {A3 : Option Addr} {c3 : Nat} {D : List (List Int)} {w0 : World} {N0 gD gp gt gP gS gB gT gr cr g8 : Nat} (F : impl_BestMarks.Fix w0.heap.size N0 gD gp gt gP gS gB gT gr g8)
    (hr2 : Kd.C (Kd.int .i64) w0 A2 P.length P) (hc2 : P.length ≤ c2) (hr3 : Kd.C (Kd.slice 3 (Kd.int .i64)) w0 A3 D.length D) (hc3 : D.length ≤ c3) (i : Int) (W : World) (S : List Int) (b t : impl_BestMarks.Pl)
    (E : impl_BestMarks.Env a0 a1 A2 c2 P A3 c3 D w0 N0 gD gp gt gP gS gB gT gr cr g8 W S b) (h : impl_markOf.f k a0 a1 P D S = some t) :
    Calls Try.prog 40 #[.int .i64 (D.length : Int), .int .i64 i, .pointer (some ⟨gD, 0, none⟩), .pointer (some ⟨gp, 0, none⟩), .pointer (some ⟨gt, 0, none⟩), .pointer (some ⟨gP, 0, none⟩), .pointer (some ⟨gS, 0, none⟩), .pointer (some ⟨gB, 0, none⟩), .pointer (some ⟨gT, 0, none⟩)] W fun e w' => e = .returned (.tuple #[]) ∧ impl_BestMarks.Env a0 a1 A2 c2 P A3 c3 D w0 N0 gD gp gt gP gS gB gT gr cr g8 w' S (if b.2.2.1 < t.2.2.1 then t else b) := by
  obtain ⟨t1, t2, t3, t4⟩ := t
  obtain ⟨b1, b2, b3, b4⟩ := b
  have hS := Kd.R_reads' E.row
  have hcall := impl_markOf.calls k a0 a1 A2 c2 P A3 c3 D (some ⟨gr, 0, none⟩) cr S t1 t2 t3 t4 W (Kd.C_below hr2 E.bel) hc2 (Kd.C_below hr3 E.bel) hc3 hS.2.2 (by have := hS.1; have := hS.2.1; omega) h
  rw [show S.length = D.length from hS.1.symm] at hcall
  have HCALL := Aside0.mk hcall
  have HE := Aside0.mk E
  have HF := Aside0.mk F
  clear hcall hr2 hr3 hS h
  have h3 := E.cD
  have h4 := E.cp
  have h5 := E.ct
  have h6 := E.cP
  have h7 := E.cS
  have hd : ((D.length : Int) == (D.length : Int)) = true := by simp
  clear E F
  by_cases c : b3 < t3
  · have cb : decide (b3 < t3) = true := decide_eq_true c
    rw [show (if (b1, b2, b3, b4).2.2.1 < (t1, t2, t3, t4).2.2.1 then (t1, t2, t3, t4) else (b1, b2, b3, b4) : impl_BestMarks.Pl) = (t1, t2, t3, t4) from if_pos c]
    clear c
    go_enter Try.func40, Try.ntmps40
    go_wp2_with (first
      | (go_at_call 39; refine HCALL.out.mono ?_; rintro e w1 ⟨v1, v2, rfl, r1, r2, hb⟩; obtain ⟨A4, c4, e4⟩ := Kd.R_slice r1; obtain ⟨A5, c5, e5⟩ := Kd.R_slice r2; subst e4; subst e5; have HE1 := Aside0.mk (HE.out.below hb); have HR1 := Aside0.mk (Kd.R_lower r1 HE.out.siz); have HR2 := Aside0.mk (Kd.R_lower r2 HE.out.siz); clear HE HCALL h3 h4 h5 h6 h7 r1 r2 hb)
      | ((with_reducible refine gate_dst (N := 11) rfl ?_); refine box_event ?hg (N := 11) ?hd (cs := #[.slice none 0 0, .slice none 0 0, .int .i64 0, .int .i64 0]) (t := 31) ?hr ?_; (case hd => rfl); (case hg => rfl); (case hr => first | (go_simp; done) | (go_simp; rfl)); intro g hg w2 hbox hb; have HBL := Aside0.mk hb; have HBX := Aside0.mk hbox; have HG := Aside0.mk (Nat.le_of_eq hg.symm); clear hb hbox hg; have z0 : w2.cell? ⟨g, 0, none⟩ = some (.slice none 0 0) := (blk_cell HBX.out 0).trans rfl; have z1 : w2.cell? ⟨g, 1, none⟩ = some (.slice none 0 0) := (blk_cell HBX.out 1).trans rfl; have z2 : w2.cell? ⟨g, 2, none⟩ = some (.int .i64 0) := (blk_cell HBX.out 2).trans rfl; have z3 : w2.cell? ⟨g, 3, none⟩ = some (.int .i64 0) := (blk_cell HBX.out 3).trans rfl; have f0 := blk_frozen HBX.out 0; have f1 := blk_frozen HBX.out 1; have f2 := blk_frozen HBX.out 2; have f3 := blk_frozen HBX.out 3)
      | ((with_reducible refine gate_store (t := 31) (p := 11) rfl ?_); refine store_event (t := 31) (p := 11) (v := ?vo_w2) (w1 := ((((w2.setCell ⟨g, 0, none⟩ (.slice A4 t1.length c4)).setCell ⟨g, 1, none⟩ (.slice A5 t2.length c5)).setCell ⟨g, 2, none⟩ (.int .i64 t3)).setCell ⟨g, 3, none⟩ (.int .i64 t4))) ?hg ?ho ?hn ?hr ?_; (case ho => rfl); (case hg => rfl); (case hn => rfl); (case hr => first | (go_simp; done) | (go_simp; rfl)); intro w3 hw; have hb3 : Below w1.heap.size w1 w3 := (by rw [hw]; exact below_set (below_set (below_set (below_set HBL.out HG.out) HG.out) HG.out) HG.out); have hx3 : w3.heap[g]? = some (.cells #[.slice A4 t1.length c4, .slice A5 t2.length c5, .int .i64 t3, .int .i64 t4] 31 (0, 0)) := (by rw [hw]; exact blk_put (cs := #[.slice A4 t1.length c4, .slice A5 t2.length c5, .int .i64 t3, .int .i64 0]) (blk_put (cs := #[.slice A4 t1.length c4, .slice A5 t2.length c5, .int .i64 0, .int .i64 0]) (blk_put (cs := #[.slice A4 t1.length c4, .slice none 0 0, .int .i64 0, .int .i64 0]) (blk_put HBX.out 0 _ rfl) 1 _ rfl) 2 _ rfl) 3 _ rfl); have HE3 := Aside0.mk (HE1.out.below hb3); have HR3 := Aside0.mk (Kd.R_below HR1.out hb3); have HR4 := Aside0.mk (Kd.R_below HR2.out hb3); have HX3 := Aside0.mk hx3; clear hw hb3 hx3 z0 z1 z2 z3 f0 f1 f2 f3 HE1 HR1 HR2 HBX HBL; have z0 : w3.cell? ⟨g, 0, none⟩ = some (.slice A4 t1.length c4) := (blk_cell HX3.out 0).trans rfl; have z1 : w3.cell? ⟨g, 1, none⟩ = some (.slice A5 t2.length c5) := (blk_cell HX3.out 1).trans rfl; have z2 : w3.cell? ⟨g, 2, none⟩ = some (.int .i64 t3) := (blk_cell HX3.out 2).trans rfl; have z3 : w3.cell? ⟨g, 3, none⟩ = some (.int .i64 t4) := (blk_cell HX3.out 3).trans rfl; obtain ⟨u1, u2, hB, _, _⟩ := HE3.out.best; have HB3 := Aside0.mk hB; clear hB; have y0 : w3.cell? ⟨gB, 0, none⟩ = some u1 := (blk_cell HB3.out 0).trans rfl; have y1 : w3.cell? ⟨gB, 1, none⟩ = some u2 := (blk_cell HB3.out 1).trans rfl; have y2 : w3.cell? ⟨gB, 2, none⟩ = some (.int .i64 b3) := (blk_cell HB3.out 2).trans rfl; have y3 : w3.cell? ⟨gB, 3, none⟩ = some (.int .i64 b4) := (blk_cell HB3.out 3).trans rfl; have g0 := blk_frozen HB3.out 0; have g1 := blk_frozen HB3.out 1; have g2 := blk_frozen HB3.out 2; have g3 := blk_frozen HB3.out 3))
    first | go_end0 | ((try simp only [Exit.inBlock, Exit.then]); refine bodyPost_ret (results_none rfl _ _ _) rfl ?_)
    exact ⟨rfl, HE3.out.better (t := (t1, t2, t3, t4)) HF.out HR3.out HR4.out⟩
  · have cb : decide (b3 < t3) = false := decide_eq_false c
    rw [show (if (b1, b2, b3, b4).2.2.1 < (t1, t2, t3, t4).2.2.1 then (t1, t2, t3, t4) else (b1, b2, b3, b4) : impl_BestMarks.Pl) = (b1, b2, b3, b4) from if_neg c]
    clear c
    go_enter Try.func40, Try.ntmps40
    go_wp2_with (first
      | (go_at_call 39; refine HCALL.out.mono ?_; rintro e w1 ⟨v1, v2, rfl, r1, r2, hb⟩; obtain ⟨A4, c4, e4⟩ := Kd.R_slice r1; obtain ⟨A5, c5, e5⟩ := Kd.R_slice r2; subst e4; subst e5; have HE1 := Aside0.mk (HE.out.below hb); have HR1 := Aside0.mk (Kd.R_lower r1 HE.out.siz); have HR2 := Aside0.mk (Kd.R_lower r2 HE.out.siz); clear HE HCALL h3 h4 h5 h6 h7 r1 r2 hb)
      | ((with_reducible refine gate_dst (N := 11) rfl ?_); refine box_event ?hg (N := 11) ?hd (cs := #[.slice none 0 0, .slice none 0 0, .int .i64 0, .int .i64 0]) (t := 31) ?hr ?_; (case hd => rfl); (case hg => rfl); (case hr => first | (go_simp; done) | (go_simp; rfl)); intro g hg w2 hbox hb; have HBL := Aside0.mk hb; have HBX := Aside0.mk hbox; have HG := Aside0.mk (Nat.le_of_eq hg.symm); clear hb hbox hg; have z0 : w2.cell? ⟨g, 0, none⟩ = some (.slice none 0 0) := (blk_cell HBX.out 0).trans rfl; have z1 : w2.cell? ⟨g, 1, none⟩ = some (.slice none 0 0) := (blk_cell HBX.out 1).trans rfl; have z2 : w2.cell? ⟨g, 2, none⟩ = some (.int .i64 0) := (blk_cell HBX.out 2).trans rfl; have z3 : w2.cell? ⟨g, 3, none⟩ = some (.int .i64 0) := (blk_cell HBX.out 3).trans rfl; have f0 := blk_frozen HBX.out 0; have f1 := blk_frozen HBX.out 1; have f2 := blk_frozen HBX.out 2; have f3 := blk_frozen HBX.out 3)
      | ((with_reducible refine gate_store (t := 31) (p := 11) rfl ?_); refine store_event (t := 31) (p := 11) (v := ?vo_w2) (w1 := ((((w2.setCell ⟨g, 0, none⟩ (.slice A4 t1.length c4)).setCell ⟨g, 1, none⟩ (.slice A5 t2.length c5)).setCell ⟨g, 2, none⟩ (.int .i64 t3)).setCell ⟨g, 3, none⟩ (.int .i64 t4))) ?hg ?ho ?hn ?hr ?_; (case ho => rfl); (case hg => rfl); (case hn => rfl); (case hr => first | (go_simp; done) | (go_simp; rfl)); intro w3 hw; have hb3 : Below w1.heap.size w1 w3 := (by rw [hw]; exact below_set (below_set (below_set (below_set HBL.out HG.out) HG.out) HG.out) HG.out); have hx3 : w3.heap[g]? = some (.cells #[.slice A4 t1.length c4, .slice A5 t2.length c5, .int .i64 t3, .int .i64 t4] 31 (0, 0)) := (by rw [hw]; exact blk_put (cs := #[.slice A4 t1.length c4, .slice A5 t2.length c5, .int .i64 t3, .int .i64 0]) (blk_put (cs := #[.slice A4 t1.length c4, .slice A5 t2.length c5, .int .i64 0, .int .i64 0]) (blk_put (cs := #[.slice A4 t1.length c4, .slice none 0 0, .int .i64 0, .int .i64 0]) (blk_put HBX.out 0 _ rfl) 1 _ rfl) 2 _ rfl) 3 _ rfl); have HE3 := Aside0.mk (HE1.out.below hb3); have HR3 := Aside0.mk (Kd.R_below HR1.out hb3); have HR4 := Aside0.mk (Kd.R_below HR2.out hb3); have HX3 := Aside0.mk hx3; clear hw hb3 hx3 z0 z1 z2 z3 f0 f1 f2 f3 HE1 HR1 HR2 HBX HBL; have z0 : w3.cell? ⟨g, 0, none⟩ = some (.slice A4 t1.length c4) := (blk_cell HX3.out 0).trans rfl; have z1 : w3.cell? ⟨g, 1, none⟩ = some (.slice A5 t2.length c5) := (blk_cell HX3.out 1).trans rfl; have z2 : w3.cell? ⟨g, 2, none⟩ = some (.int .i64 t3) := (blk_cell HX3.out 2).trans rfl; have z3 : w3.cell? ⟨g, 3, none⟩ = some (.int .i64 t4) := (blk_cell HX3.out 3).trans rfl; obtain ⟨u1, u2, hB, _, _⟩ := HE3.out.best; have HB3 := Aside0.mk hB; clear hB; have y0 : w3.cell? ⟨gB, 0, none⟩ = some u1 := (blk_cell HB3.out 0).trans rfl; have y1 : w3.cell? ⟨gB, 1, none⟩ = some u2 := (blk_cell HB3.out 1).trans rfl; have y2 : w3.cell? ⟨gB, 2, none⟩ = some (.int .i64 b3) := (blk_cell HB3.out 2).trans rfl; have y3 : w3.cell? ⟨gB, 3, none⟩ = some (.int .i64 b4) := (blk_cell HB3.out 3).trans rfl; have g0 := blk_frozen HB3.out 0; have g1 := blk_frozen HB3.out 1; have g2 := blk_frozen HB3.out 2; have g3 := blk_frozen HB3.out 3))
    first | go_end0 | ((try simp only [Exit.inBlock, Exit.then]); refine bodyPost_ret (results_none rfl _ _ _) rfl ?_)
    exact ⟨rfl, HE3.out⟩
--@@SEARCH
section
variable {P : Program} {md : Mode} {ops : Array Oper} {Q : Exit → Act → World → Prop}
/-- A call of a function value that holds variables. -/
theorem goesV_ {oi : Oper} {N : Option Tmp} {a : Act} {w : World} {K : Act → World → Prop} {f : FuncId} {fn : Func} {p : Tmp} {xs : Array Operand} {ts : Array TypeId} {cs : Array Value} (hf : P.funcs[f]? = some fn) (hname : (fn.name == "runtime.NumGoroutine") = false) (hb : fn.body.isSome = true) (args : Array Value)
    (hw : Region.wanted oi (yielded ops a.tmps) = true) (hN : oi.dst = N) (hop : oi.op = .call { callee := .value (.tmp p), args := xs, argTypes := ts }) (hv : a.eval (.tmp p) = .func (.func f) #[] cs) (hargs : xs.map a.eval ++ cs = args)
    (h : Calls P f args w fun e w' => ∃ v, e = .returned v ∧ K (a.put N v) w') : if Region.wanted oi (yielded ops a.tmps) = true then Oper.wp P oi a w K Q else K (a.put N undef) w := by
  refine call_ f args hw hN ?_ h
  have he := enters_ hf hname hb args w
  unfold execOp
  simp [hop, resolve, Deferred.ofValue, invoke, hv, hargs, he]
end
def impl_BestMarks.s.T5 : Bool × List (List Nat × List Nat) := (true, [([], []), ([], []), ([0, 1], [0, 1]), ([2], [2]), ([], []), ([4], [4]), ([3, 5], [3, 5])])
def impl_BestMarks.s.B5 : List Nat := [0, 0, 3, 7, 0, 16, 63]
theorem impl_BestMarks.s.tab5 : rtab .any (opsOf Try.f40 5) = impl_BestMarks.s.T5 := by kernel_rfl
theorem impl_BestMarks.s.bits5 : waitsOk impl_BestMarks.s.T5.2 impl_BestMarks.s.B5 = true := by kernel_rfl
def impl_BestMarks.s.T7 : Bool × List (List Nat × List Nat) := (true, [([], []), ([], []), ([1], [1]), ([], []), ([], []), ([3, 4], [3, 4]), ([5], [5]), ([0, 2, 6], [0, 2, 6])])
def impl_BestMarks.s.B7 : List Nat := [0, 0, 2, 0, 0, 24, 56, 127]
theorem impl_BestMarks.s.tab7 : rtab .any (opsOf Try.f40 7) = impl_BestMarks.s.T7 := by kernel_rfl
theorem impl_BestMarks.s.bits7 : waitsOk impl_BestMarks.s.T7.2 impl_BestMarks.s.B7 = true := by kernel_rfl
theorem impl_BestMarks.search (k : Nat) {a0 a1 : Int} {A2 : Option Addr} {c2 : Nat} {P : List Int} {A3 : Option Addr} {c3 : Nat} {D : List (List Int)} {w0 : World} {N0 gD gp gt gP gS gB gT gr cr g8 : Nat} (F : impl_BestMarks.Fix w0.heap.size N0 gD gp gt gP gS gB gT gr g8)
    (hr2 : Kd.C (Kd.int .i64) w0 A2 P.length P) (hc2 : P.length ≤ c2) (hr3 : Kd.C (Kd.slice 3 (Kd.int .i64)) w0 A3 D.length D) (hc3 : D.length ≤ c3) (hPl : P.length ≤ 4096) (hDl : D.length ≤ 4096) : ∀ (r day i : Nat) (pre S : List Int) (b b' : impl_BestMarks.Pl) (W : World), day + r = D.length → S.take day = pre →
    impl_BestMarks.Env a0 a1 A2 c2 P A3 c3 D w0 N0 gD gp gt gP gS gB gT gr cr g8 W S b → impl_BestMarks.try_ k a0 a1 P D ((impl_BestMarks.cands P.length r i).map (pre ++ ·)) b = some b' →
    Calls Try.prog 40 #[.int .i64 (day : Int), .int .i64 (i : Int), .pointer (some ⟨gD, 0, none⟩), .pointer (some ⟨gp, 0, none⟩), .pointer (some ⟨gt, 0, none⟩), .pointer (some ⟨gP, 0, none⟩), .pointer (some ⟨gS, 0, none⟩), .pointer (some ⟨gB, 0, none⟩), .pointer (some ⟨gT, 0, none⟩)] W fun e w' => e = .returned (.tuple #[]) ∧ ∃ S' : List Int, S'.take day = pre ∧ impl_BestMarks.Env a0 a1 A2 c2 P A3 c3 D w0 N0 gD gp gt gP gS gB gT gr cr g8 w' S' b' := by
  intro r
  induction r with
  | zero =>
    intro day i pre S b b' W hd hp E h
    have hlen : D.length = S.length := (Kd.R_reads' E.row).1
    have hS : pre = S := by rw [← hp, List.take_of_length_le (by omega)]
    simp only [impl_BestMarks.cands, List.map_cons, List.map_nil, List.append_nil, impl_BestMarks.try_] at h
    obtain ⟨t, ht, h⟩ := Option.bind_eq_some_iff.mp h
    obtain rfl := Option.some.inj h
    rw [hS] at ht
    obtain rfl : day = D.length := by omega
    exact (impl_BestMarks.leaf k F hr2 hc2 hr3 hc3 i W S b t E ht).mono fun e w' ⟨he, hE⟩ => ⟨he, S, hp, hE⟩
  | succ r ih =>
    intro day i pre S b b' W hd hp E h
    have IH := Aside0.mk ih
    have HF := Aside0.mk F
    have HD := Aside0.mk hd
    have HP := Aside0.mk hp
    have hlen : D.length = S.length := (Kd.R_reads' E.row).1
    have hday : day < D.length := by omega
    have hdz : (day : Int) < (D.length : Int) := by omega
    have hPz : (P.length : Int) ≤ 4096 := by omega
    have hdz2 : (day : Int) ≤ 4096 := by omega
    have hne : ((day : Int) == (D.length : Int)) = false := by simp; omega
    have E1 := E.put F (day : Int) (i : Int)
    obtain ⟨hx, hf⟩ := Kd.R_celln 0 E.row (day : Int) (by omega) (by omega)
    rw [Int.toNat_natCast] at E1 hx hf
    have HE := Aside0.mk E
    have HE1 := Aside0.mk E1
    have HPRE := Aside0.mk (show (S.set day (i : Int)).take day = pre by rw [List.take_set_of_le (Nat.le_refl _)]; exact hp)
    have HAT := Aside0.mk (show (S.set day (i : Int)).getD day 0 = (i : Int) by rw [List.getD_eq_getElem?_getD, List.getElem?_set_self (by omega)]; rfl)
    have H := Aside0.mk h
    have h3 := E.cD
    have h7 := E.cS
    clear E E1 h ih hp hr2 hr3 hlen F hd
    go_enter Try.func40, Try.ntmps40
    go_wp2
    go_loopg [] (P.length - i) (fun gg wr => ∃ (j : Nat) (S1 : List Int) (b1 : impl_BestMarks.Pl), P.length - j ≤ gg ∧ Aside0 (S1.take day = pre) ∧ Aside0 (S1.getD day 0 = (j : Int)) ∧ Aside0 (impl_BestMarks.Env a0 a1 A2 c2 P A3 c3 D w0 N0 gD gp gt gP gS gB gT gr cr g8 wr S1 b1) ∧ Aside0 (impl_BestMarks.try_ k a0 a1 P D ((impl_BestMarks.cands P.length (r + 1) j).map (pre ++ ·)) b1 = some b'))
    case atStart => exact ⟨i, S.set day (i : Int), b, Nat.le_refl _, HPRE, HAT, HE1, H⟩
    case round =>
      clear HE HE1 HPRE HAT H h3 h7 hx hf HP
      obtain ⟨j, S1, b1, hgg, HPRE, HAT, HE, H⟩ := hrel
      have hlen : D.length = S1.length := (Kd.R_reads' HE.out.row).1
      obtain ⟨q2, hf⟩ := Kd.R_celln 0 HE.out.row (day : Int) (by omega) (by omega)
      rw [Int.toNat_natCast] at q2 hf
      have hrd : rdOf 0 S1 (day : Int) = (j : Int) := HAT.out
      rw [hrd] at q2
      have q1 := HE.out.cS
      have q3 := HE.out.cP
      have q4 := HE.out.cT
      by_cases hj : j < P.length
      · have hjz : (j : Int) < (P.length : Int) := by omega
        have hjb : decide ((j : Int) < (P.length : Int)) = true := decide_eq_true hjz
        obtain ⟨b2, hb2, h2⟩ : ∃ b2, impl_BestMarks.try_ k a0 a1 P D ((impl_BestMarks.cands P.length r j).map ((pre ++ [(j : Int)]) ++ ·)) b1 = some b2 ∧ impl_BestMarks.try_ k a0 a1 P D ((impl_BestMarks.cands P.length (r + 1) (j + 1)).map (pre ++ ·)) b2 = some b' := by
          have h_ := H.out
          rw [impl_BestMarks.cands_step _ _ _ hj, List.map_append, impl_BestMarks.try_append] at h_
          obtain ⟨b2, hb2, h2⟩ := Option.bind_eq_some_iff.mp h_
          refine ⟨b2, ?_, h2⟩
          rw [List.map_map] at hb2
          rw [← hb2]
          congr 2
          funext x
          simp
        have hp1 : S1.take (day + 1) = pre ++ [(j : Int)] := by
          have h_ := HAT.out
          rw [List.getD_eq_getElem?_getD, List.getElem?_eq_getElem (show day < S1.length by omega)] at h_
          rw [List.take_succ_eq_append_getElem (show day < S1.length by omega), HPRE.out]
          congr 2
        have HCALL : Aside0 (∀ W1 : World, Below wr.heap.size wr W1 → Calls Try.prog 40 #[.int .i64 ((day : Int) + 1), .int .i64 (j : Int), .pointer (some ⟨gD, 0, none⟩), .pointer (some ⟨gp, 0, none⟩), .pointer (some ⟨gt, 0, none⟩), .pointer (some ⟨gP, 0, none⟩), .pointer (some ⟨gS, 0, none⟩), .pointer (some ⟨gB, 0, none⟩), .pointer (some ⟨gT, 0, none⟩)] W1 fun e w' => e = .returned (.tuple #[]) ∧ ∃ S' : List Int, S'.take (day + 1) = pre ++ [(j : Int)] ∧ impl_BestMarks.Env a0 a1 A2 c2 P A3 c3 D w0 N0 gD gp gt gP gS gB gT gr cr g8 w' S' b2) := ⟨fun W1 hb => IH.out (day + 1) j (pre ++ [(j : Int)]) S1 b1 b2 W1 (by have := HD.out; omega) hp1 (HE.out.below hb) hb2⟩
        have H2 := Aside0.mk h2
        have HLP : Aside0 (pre.length = day) := ⟨by rw [← HPRE.out, List.length_take]; omega⟩
        have HJ := Aside0.mk hj
        have HL := Aside0.mk hlen
        have HGG := Aside0.mk hgg
        have hw1 : wrap64 ((day : Int) + 1) = (day : Int) + 1 := by unfold wrap64; omega
        have hw1b : IntKind.i64.wrap ((day : Int) + 1) = (day : Int) + 1 := (i64_w _).trans hw1
        have hw2 : wrap64 ((j : Int) + 1) = (j : Int) + 1 := by unfold wrap64; omega
        have hw2b : IntKind.i64.wrap ((j : Int) + 1) = (j : Int) + 1 := (i64_w _).trans hw2
        clear hrd hb2 h2 hp1 hf hlen hgg hj H
        go_wp2
        refine start_ (n := 7) (S := fun w' => w'.cell? ⟨gS, 0, none⟩ = some (.slice (some ⟨gr, 0, none⟩) D.length cr) ∧ w'.cell? ⟨gr, day, none⟩ = some (.int .i64 (j : Int)) ∧ w'.cell? ⟨gP, 0, none⟩ = some (.slice A2 P.length c2)) (ds := []) #[false, false, false, false, false, false, false] (by kernel_rfl) rfl rfl ⟨q1, q2, q3⟩ (fun hHeld => ?_)
        refine with_tabW impl_BestMarks.s.tab5 impl_BestMarks.s.bits5 (fun HT_ HW_ => ?_)
        refine pure_ (i := 1) (N := some 33) (v := ?_) (a' := ?_) #[false, true, false, false, false, false, false] rfl rfl (any_of HT_.out (by kernel_rfl)) (fun _ _ _ h => h) (Or.inl ⟨by rfl, ?_⟩) ?_ ?_
        rotate_left
        · intro w'
          go_simp
          with_reducible rfl
        rotate_left
        · simp only [Act.put, List.setIfInBounds_toArray, List.set_cons_zero, List.set_cons_succ, i64_w, i32_w]
          rfl
        refine take_ (i := 0) (N := some 32) (v := ?_) (a' := ?_) #[true, true, false, false, false, false, false] rfl rfl (take_ofW HT_.out HW_.out (by kernel_rfl)) (fun _ _ _ h => h) (Or.inl ⟨by rfl, ?_⟩) hHeld ?_ ?_
        rotate_left
        · rintro w' ⟨s0, s1, s2⟩
          go_simp
          with_reducible rfl
        rotate_left
        · simp only [Act.put, List.setIfInBounds_toArray, List.set_cons_zero, List.set_cons_succ, i64_w, i32_w]
          rfl
        refine pure_ (i := 2) (N := some 34) (v := ?_) (a' := ?_) #[true, true, true, false, false, false, false] rfl rfl (any_of HT_.out (by kernel_rfl)) (fun _ _ _ h => h) (Or.inl ⟨by rfl, ?_⟩) ?_ ?_
        rotate_left
        · intro w'
          go_simp
          with_reducible rfl
        rotate_left
        · simp only [Act.put, List.setIfInBounds_toArray, List.set_cons_zero, List.set_cons_succ, i64_w, i32_w]
          rfl
        refine take_ (i := 3) (N := some 35) (v := ?_) (a' := ?_) #[true, true, true, true, false, false, false] rfl rfl (take_ofW HT_.out HW_.out (by kernel_rfl)) (fun _ _ _ h => h) (Or.inl ⟨by rfl, ?_⟩) hHeld ?_ ?_
        rotate_left
        · rintro w' ⟨s0, s1, s2⟩
          go_simp
          with_reducible rfl
        rotate_left
        · simp only [Act.put, List.setIfInBounds_toArray, List.set_cons_zero, List.set_cons_succ, i64_w, i32_w]
          rfl
        refine take_ (i := 4) (N := some 36) (v := ?_) (a' := ?_) #[true, true, true, true, true, false, false] rfl rfl (take_ofW HT_.out HW_.out (by kernel_rfl)) (fun _ _ _ h => h) (Or.inl ⟨by rfl, ?_⟩) hHeld ?_ ?_
        rotate_left
        · rintro w' ⟨s0, s1, s2⟩
          go_simp
          with_reducible rfl
        rotate_left
        · simp only [Act.put, List.setIfInBounds_toArray, List.set_cons_zero, List.set_cons_succ, i64_w, i32_w]
          rfl
        refine pure_ (i := 5) (N := some 37) (v := ?_) (a' := ?_) #[true, true, true, true, true, true, false] rfl rfl (any_of HT_.out (by kernel_rfl)) (fun _ _ _ h => h) (Or.inl ⟨by rfl, ?_⟩) ?_ ?_
        rotate_left
        · intro w'
          go_simp
          with_reducible rfl
        rotate_left
        · simp only [Act.put, List.setIfInBounds_toArray, List.set_cons_zero, List.set_cons_succ, i64_w, i32_w]
          rfl
        refine pure_ (i := 6) (N := some 38) (v := ?_) (a' := ?_) #[true, true, true, true, true, true, true] rfl rfl (any_of HT_.out (by kernel_rfl)) (fun _ _ _ h => h) (Or.inl ⟨by rfl, ?_⟩) ?_ ?_
        rotate_left
        · intro w'
          go_simp
          with_reducible rfl
        rotate_left
        · simp only [Act.put, List.setIfInBounds_toArray, List.set_cons_zero, List.set_cons_succ, i64_w, i32_w]
          rfl
        refine done_ (done_of HT_.out (by kernel_rfl)) ?_
        clear hHeld HT_ HW_
        go_wp2
        refine start_ (n := 8) (S := fun w' => w'.cell? ⟨gT, 0, none⟩ = some (.func (.func 40) #[] #[.pointer (some ⟨gD, 0, none⟩), .pointer (some ⟨gp, 0, none⟩), .pointer (some ⟨gt, 0, none⟩), .pointer (some ⟨gP, 0, none⟩), .pointer (some ⟨gS, 0, none⟩), .pointer (some ⟨gB, 0, none⟩), .pointer (some ⟨gT, 0, none⟩)]) ∧ w'.cell? ⟨gS, 0, none⟩ = some (.slice (some ⟨gr, 0, none⟩) D.length cr) ∧ w'.cell? ⟨gr, day, none⟩ = some (.int .i64 (j : Int))) (ds := [7]) #[false, false, false, false, false, false, false, false] (by kernel_rfl) rfl rfl ⟨q4, q1, q2⟩ (fun hHeld => ?_)
        refine with_tabW impl_BestMarks.s.tab7 impl_BestMarks.s.bits7 (fun HT_ HW_ => ?_)
        refine pure_ (i := 1) (N := some 46) (v := ?_) (a' := ?_) #[false, true, false, false, false, false, false, false] rfl rfl (any_of HT_.out (by kernel_rfl)) (fun _ _ _ h => h) (Or.inl ⟨by rfl, ?_⟩) ?_ ?_
        rotate_left
        · intro w'
          go_simp
          with_reducible rfl
        rotate_left
        · simp only [Act.put, List.setIfInBounds_toArray, List.set_cons_zero, List.set_cons_succ, i64_w, i32_w]
          rfl
        refine pure_ (i := 2) (N := some 47) (v := ?_) (a' := ?_) #[false, true, true, false, false, false, false, false] rfl rfl (any_of HT_.out (by kernel_rfl)) (fun _ _ _ h => h) (Or.inl ⟨by rfl, ?_⟩) ?_ ?_
        rotate_left
        · intro w'
          go_simp
          with_reducible rfl
        rotate_left
        · simp only [Act.put, List.setIfInBounds_toArray, List.set_cons_zero, List.set_cons_succ, i64_w, i32_w]
          rfl
        refine pure_ (i := 4) (N := some 49) (v := ?_) (a' := ?_) #[false, true, true, false, true, false, false, false] rfl rfl (any_of HT_.out (by kernel_rfl)) (fun _ _ _ h => h) (Or.inl ⟨by rfl, ?_⟩) ?_ ?_
        rotate_left
        · intro w'
          go_simp
          with_reducible rfl
        rotate_left
        · simp only [Act.put, List.setIfInBounds_toArray, List.set_cons_zero, List.set_cons_succ, i64_w, i32_w]
          rfl
        refine take_ (i := 0) (N := some 45) (v := ?_) (a' := ?_) #[true, true, true, false, true, false, false, false] rfl rfl (take_ofW HT_.out HW_.out (by kernel_rfl)) (fun _ _ _ h => h) (Or.inl ⟨by rfl, ?_⟩) hHeld ?_ ?_
        rotate_left
        · rintro w' ⟨s0, s1, s2⟩
          go_simp
          with_reducible rfl
        rotate_left
        · simp only [Act.put, List.setIfInBounds_toArray, List.set_cons_zero, List.set_cons_succ, i64_w, i32_w]
          rfl
        refine take_ (i := 3) (N := some 48) (v := ?_) (a' := ?_) #[true, true, true, true, true, false, false, false] rfl rfl (take_ofW HT_.out HW_.out (by kernel_rfl)) (fun _ _ _ h => h) (Or.inl ⟨by rfl, ?_⟩) hHeld ?_ ?_
        rotate_left
        · rintro w' ⟨s0, s1, s2⟩
          go_simp
          with_reducible rfl
        rotate_left
        · simp only [Act.put, List.setIfInBounds_toArray, List.set_cons_zero, List.set_cons_succ, i64_w, i32_w]
          rfl
        refine pure_ (i := 5) (N := some 50) (v := ?_) (a' := ?_) #[true, true, true, true, true, true, false, false] rfl rfl (any_of HT_.out (by kernel_rfl)) (fun _ _ _ h => h) (Or.inl ⟨by rfl, ?_⟩) ?_ ?_
        rotate_left
        · intro w'
          go_simp
          with_reducible rfl
        rotate_left
        · simp only [Act.put, List.setIfInBounds_toArray, List.set_cons_zero, List.set_cons_succ, i64_w, i32_w]
          rfl
        refine take_ (i := 6) (N := some 51) (v := ?_) (a' := ?_) #[true, true, true, true, true, true, true, false] rfl rfl (take_ofW HT_.out HW_.out (by kernel_rfl)) (fun _ _ _ h => h) (Or.inl ⟨by rfl, ?_⟩) hHeld ?_ ?_
        rotate_left
        · rintro w' ⟨s0, s1, s2⟩
          go_simp
          with_reducible rfl
        rotate_left
        · simp only [Act.put, List.setIfInBounds_toArray, List.set_cons_zero, List.set_cons_succ, i64_w, i32_w]
          rfl
        refine last_ (i := 7) (N := some 52) #[true, true, true, true, true, true, true, true] rfl rfl (one_of HT_.out (by kernel_rfl)) (by decide) (fun K hK => ?_)
        refine goesV_ (p := 45) (f := 40) Try.func40 (by kernel_rfl) rfl #[.int .i64 ((day : Int) + 1), .int .i64 (j : Int), .pointer (some ⟨gD, 0, none⟩), .pointer (some ⟨gp, 0, none⟩), .pointer (some ⟨gt, 0, none⟩), .pointer (some ⟨gP, 0, none⟩), .pointer (some ⟨gS, 0, none⟩), .pointer (some ⟨gB, 0, none⟩), .pointer (some ⟨gT, 0, none⟩)] (by rfl) rfl rfl rfl (by (try simp only [List.map_toArray, List.map_cons, List.map_nil]); first | done | rfl) ?_
        refine (HCALL.out _ (by repeat (first | exact Below.refl _ _ | apply below_drew | apply pw_below_drewN))).mono ?_
        rintro e w1 ⟨rfl, S2, hp2, E2⟩
        clear q1 q2 q3 q4 hHeld
        have hl2 : D.length = S2.length := (Kd.R_reads' E2.row).1
        have hat : S2.getD day 0 = (j : Int) := by rw [List.getD_eq_getElem?_getD, ← List.getElem?_take_of_lt (Nat.lt_succ_self day), hp2, List.getElem?_append_right (by have := HLP.out; omega), HLP.out]; simp
        obtain ⟨q2, hf⟩ := Kd.R_celln 0 E2.row (day : Int) (by omega) (by omega)
        rw [Int.toNat_natCast] at q2 hf
        rw [show rdOf 0 S2 (day : Int) = (j : Int) from hat] at q2
        have q1 := E2.cS
        have HE2 := Aside0.mk E2
        have HP2 := Aside0.mk hp2
        have HL2 := Aside0.mk hl2
        clear E2 hp2 hl2 hat
        refine ⟨_, rfl, ?_⟩
        refine hK.out _ _ ?_
        clear hK K
        refine norm_ (a' := ?_) ?_ ?_
        rotate_left
        · show Act.put _ (some 52) _ = _
          simp only [Act.put, List.setIfInBounds_toArray, List.set_cons_zero, List.set_cons_succ, i64_w, i32_w]
          rfl
        refine done_ (done_of HT_.out (by kernel_rfl)) ?_
        clear HT_ HW_
        go_wp2
        go_roundg (P.length - (j + 1))
        case measure => have := HJ.out; have := HGG.out; omega
        case rel =>
          have E3 := HE2.out.put HF.out (day : Int) ((j : Int) + 1)
          rw [Int.toNat_natCast] at E3
          have hl2 := HL2.out
          refine ⟨j + 1, S2.set day ((j : Int) + 1), b2, Nat.le_refl _, ⟨?_⟩, ⟨?_⟩, ⟨E3⟩, H2⟩
          · rw [List.take_set_of_le (Nat.le_refl _)]
            have h_ := congrArg (List.take day) HP2.out
            rw [List.take_take, Nat.min_eq_left (Nat.le_succ day), List.take_append_of_le_length (Nat.le_of_eq HLP.out.symm), List.take_of_length_le (Nat.le_of_eq HLP.out)] at h_
            exact h_
          · rw [List.getD_eq_getElem?_getD, List.getElem?_set_self (by omega)]
            rfl
      · have hjz : ¬ ((j : Int) < (P.length : Int)) := by omega
        have h_ := H.out
        rw [impl_BestMarks.cands_end _ _ _ (by omega)] at h_
        obtain rfl : b1 = b' := Option.some.inj h_
        clear hrd hf hlen hgg hj H h_
        go_wp2
        refine start_ (n := 7) (S := fun w' => w'.cell? ⟨gS, 0, none⟩ = some (.slice (some ⟨gr, 0, none⟩) D.length cr) ∧ w'.cell? ⟨gr, day, none⟩ = some (.int .i64 (j : Int)) ∧ w'.cell? ⟨gP, 0, none⟩ = some (.slice A2 P.length c2)) (ds := []) #[false, false, false, false, false, false, false] (by kernel_rfl) rfl rfl ⟨q1, q2, q3⟩ (fun hHeld => ?_)
        refine with_tabW impl_BestMarks.s.tab5 impl_BestMarks.s.bits5 (fun HT_ HW_ => ?_)
        refine pure_ (i := 1) (N := some 33) (v := ?_) (a' := ?_) #[false, true, false, false, false, false, false] rfl rfl (any_of HT_.out (by kernel_rfl)) (fun _ _ _ h => h) (Or.inl ⟨by rfl, ?_⟩) ?_ ?_
        rotate_left
        · intro w'
          go_simp
          with_reducible rfl
        rotate_left
        · simp only [Act.put, List.setIfInBounds_toArray, List.set_cons_zero, List.set_cons_succ, i64_w, i32_w]
          rfl
        refine take_ (i := 0) (N := some 32) (v := ?_) (a' := ?_) #[true, true, false, false, false, false, false] rfl rfl (take_ofW HT_.out HW_.out (by kernel_rfl)) (fun _ _ _ h => h) (Or.inl ⟨by rfl, ?_⟩) hHeld ?_ ?_
        rotate_left
        · rintro w' ⟨s0, s1, s2⟩
          go_simp
          with_reducible rfl
        rotate_left
        · simp only [Act.put, List.setIfInBounds_toArray, List.set_cons_zero, List.set_cons_succ, i64_w, i32_w]
          rfl
        refine pure_ (i := 2) (N := some 34) (v := ?_) (a' := ?_) #[true, true, true, false, false, false, false] rfl rfl (any_of HT_.out (by kernel_rfl)) (fun _ _ _ h => h) (Or.inl ⟨by rfl, ?_⟩) ?_ ?_
        rotate_left
        · intro w'
          go_simp
          with_reducible rfl
        rotate_left
        · simp only [Act.put, List.setIfInBounds_toArray, List.set_cons_zero, List.set_cons_succ, i64_w, i32_w]
          rfl
        refine take_ (i := 3) (N := some 35) (v := ?_) (a' := ?_) #[true, true, true, true, false, false, false] rfl rfl (take_ofW HT_.out HW_.out (by kernel_rfl)) (fun _ _ _ h => h) (Or.inl ⟨by rfl, ?_⟩) hHeld ?_ ?_
        rotate_left
        · rintro w' ⟨s0, s1, s2⟩
          go_simp
          with_reducible rfl
        rotate_left
        · simp only [Act.put, List.setIfInBounds_toArray, List.set_cons_zero, List.set_cons_succ, i64_w, i32_w]
          rfl
        refine take_ (i := 4) (N := some 36) (v := ?_) (a' := ?_) #[true, true, true, true, true, false, false] rfl rfl (take_ofW HT_.out HW_.out (by kernel_rfl)) (fun _ _ _ h => h) (Or.inl ⟨by rfl, ?_⟩) hHeld ?_ ?_
        rotate_left
        · rintro w' ⟨s0, s1, s2⟩
          go_simp
          with_reducible rfl
        rotate_left
        · simp only [Act.put, List.setIfInBounds_toArray, List.set_cons_zero, List.set_cons_succ, i64_w, i32_w]
          rfl
        refine pure_ (i := 5) (N := some 37) (v := ?_) (a' := ?_) #[true, true, true, true, true, true, false] rfl rfl (any_of HT_.out (by kernel_rfl)) (fun _ _ _ h => h) (Or.inl ⟨by rfl, ?_⟩) ?_ ?_
        rotate_left
        · intro w'
          go_simp
          with_reducible rfl
        rotate_left
        · simp only [Act.put, List.setIfInBounds_toArray, List.set_cons_zero, List.set_cons_succ, i64_w, i32_w]
          rfl
        refine pure_ (i := 6) (N := some 38) (v := ?_) (a' := ?_) #[true, true, true, true, true, true, true] rfl rfl (any_of HT_.out (by kernel_rfl)) (fun _ _ _ h => h) (Or.inl ⟨by rfl, ?_⟩) ?_ ?_
        rotate_left
        · intro w'
          go_simp
          with_reducible rfl
        rotate_left
        · simp only [Act.put, List.setIfInBounds_toArray, List.set_cons_zero, List.set_cons_succ, i64_w, i32_w]
          rfl
        refine done_ (done_of HT_.out (by kernel_rfl)) ?_
        clear hHeld HT_ HW_
        go_wp2
        first | go_end0 | ((try simp only [Exit.inBlock, Exit.then]); refine bodyPost_ret (results_none rfl _ _ _) rfl ?_)
        exact ⟨rfl, S1, HPRE.out, HE.out.drew⟩
/-- The arguments' variables and the answer's, ahead of the search. -/
structure impl_BestMarks.Base (a0 a1 : Int) (A2 : Option Addr) (c2 : Nat) (P : List Int) (A3 : Option Addr) (c3 : Nat) (D : List (List Int)) (w0 : World) (g4 g5 g6 g7 g8 : Nat) (W : World) : Prop where
  bel : Below w0.heap.size w0 W
  k4 : W.heap[g4]? = some (.cells #[.int .i64 a0] 3 (0, 0))
  k5 : W.heap[g5]? = some (.cells #[.int .i64 a1] 3 (0, 0))
  k6 : W.heap[g6]? = some (.cells #[.slice A2 P.length c2] 26 (0, 0))
  k7 : W.heap[g7]? = some (.cells #[.slice A3 D.length c3] 27 (0, 0))
  k8 : W.heap[g8]? = some (.cells #[.slice none 0 0, .slice none 0 0, .int .i64 0, .int .i64 0] 31 (0, 0))
  o : w0.heap.size ≤ g4 ∧ g4 < g5 ∧ g5 < g6 ∧ g6 < g7 ∧ g7 < g8
theorem impl_BestMarks.Base.below {a0 a1 : Int} {A2 : Option Addr} {c2 : Nat} {P : List Int} {A3 : Option Addr} {c3 : Nat} {D : List (List Int)} {w0 : World} {g4 g5 g6 g7 g8 : Nat} {W W1 : World} (h : impl_BestMarks.Base a0 a1 A2 c2 P A3 c3 D w0 g4 g5 g6 g7 g8 W) (hb : Below W.heap.size W W1) : impl_BestMarks.Base a0 a1 A2 c2 P A3 c3 D w0 g4 g5 g6 g7 g8 W1 := by
  obtain ⟨h1, h2, h3, h4, h5, h6, h7⟩ := h
  exact ⟨below_step h1 hb, blk_below h2 hb, blk_below h3 hb, blk_below h4 hb, blk_below h5 hb, blk_below h6 hb, h7⟩
/-- .. and what is made of the search's own variables: the steps' row (x), the best plan (y), the steps' variable (z). -/
structure impl_BestMarks.MK (a0 a1 : Int) (A2 : Option Addr) (c2 : Nat) (P : List Int) (A3 : Option Addr) (c3 : Nat) (D : List (List Int)) (w0 : World) (g4 g5 g6 g7 g8 : Nat) (x : Option (Nat × Nat)) (y : Option (Nat × Bool)) (z : Option Nat) (W : World) : Prop where
  base : impl_BestMarks.Base a0 a1 A2 c2 P A3 c3 D w0 g4 g5 g6 g7 g8 W
  row : ∀ a c, x = some (a, c) → g8 < a ∧ Kd.R (Kd.int .i64) 3 W w0.heap.size (fun k_ => some k_ = some a) (.slice (some ⟨a, 0, none⟩) D.length c) (List.replicate D.length 0)
  best : ∀ b f, y = some (b, f) → g8 < b ∧ W.heap[b]? = some (.cells #[.slice none 0 0, .slice none 0 0, .int .i64 (if f = true then -1 else 0), .int .i64 0] 31 (0, 0))
  var : ∀ c, z = some c → g8 < c ∧ W.heap[c]? = some (.cells #[.slice none 0 0] 26 (0, 0))
  xy : ∀ a c b f, x = some (a, c) → y = some (b, f) → a ≠ b
  xz : ∀ a c d, x = some (a, c) → z = some d → a ≠ d
  yz : ∀ b f d, y = some (b, f) → z = some d → b ≠ d
section
variable {a0 a1 : Int} {A2 : Option Addr} {c2 : Nat} {P : List Int} {A3 : Option Addr} {c3 : Nat} {D : List (List Int)} {w0 : World} {g4 g5 g6 g7 g8 : Nat} {x : Option (Nat × Nat)} {y : Option (Nat × Bool)} {z : Option Nat} {W W1 : World}
theorem impl_BestMarks.MK.below (h : impl_BestMarks.MK a0 a1 A2 c2 P A3 c3 D w0 g4 g5 g6 g7 g8 x y z W) (hb : Below W.heap.size W W1) : impl_BestMarks.MK a0 a1 A2 c2 P A3 c3 D w0 g4 g5 g6 g7 g8 x y z W1 :=
  ⟨h.base.below hb, fun a c e => ⟨(h.row a c e).1, Kd.R_below (h.row a c e).2 hb⟩, fun b f e => ⟨(h.best b f e).1, blk_below (h.best b f e).2 hb⟩, fun c e => ⟨(h.var c e).1, blk_below (h.var c e).2 hb⟩, h.xy, h.xz, h.yz⟩
theorem impl_BestMarks.MK.lt8 (h : impl_BestMarks.MK a0 a1 A2 c2 P A3 c3 D w0 g4 g5 g6 g7 g8 x y z W) : g8 < W.heap.size := blk_lt h.base.k8
theorem impl_BestMarks.MK.addRow (h : impl_BestMarks.MK a0 a1 A2 c2 P A3 c3 D w0 g4 g5 g6 g7 g8 none y z W) (hb : Below W.heap.size W W1) {a c : Nat} (ha : W.heap.size ≤ a) (hr : Kd.R (Kd.int .i64) 3 W1 w0.heap.size (fun _ => True) (.slice (some ⟨a, 0, none⟩) D.length c) (List.replicate D.length 0)) : impl_BestMarks.MK a0 a1 A2 c2 P A3 c3 D w0 g4 g5 g6 g7 g8 (some (a, c)) y z W1 := by
  obtain ⟨h1, h2, h3, h4, h5, h6, h7⟩ := h.below hb
  refine ⟨h1, fun a' c' e => ?_, h3, h4, fun a' c' b f e1 e2 => ?_, fun a' c' d e1 e2 => ?_, h7⟩
  · cases e
    exact ⟨Nat.lt_of_lt_of_le h.lt8 ha, Kd.R_tight rfl hr⟩
  · cases e1
    have := blk_lt (h.best b f e2).2
    omega
  · cases e1
    have := blk_lt (h.var d e2).2
    omega
theorem impl_BestMarks.MK.addBest (h : impl_BestMarks.MK a0 a1 A2 c2 P A3 c3 D w0 g4 g5 g6 g7 g8 x none z W) : impl_BestMarks.MK a0 a1 A2 c2 P A3 c3 D w0 g4 g5 g6 g7 g8 x (some (W.heap.size, false)) z (W.alloc (.cells #[.slice none 0 0, .slice none 0 0, .int .i64 0, .int .i64 0] 31 (0, 0))) := by
  obtain ⟨h1, h2, h3, h4, h5, h6, h7⟩ := h.below (below_alloc (Below.refl _ _) (.cells #[.slice none 0 0, .slice none 0 0, .int .i64 0, .int .i64 0] 31 (0, 0)))
  refine ⟨h1, h2, fun b f e => ?_, h4, fun a c b f e1 e2 => ?_, h6, fun b f d e1 e2 => ?_⟩
  · cases e
    exact ⟨h.lt8, blk_new W _⟩
  · cases e2
    have := Kd.R_lt (h.row a c e1).2 a rfl
    omega
  · cases e1
    have := blk_lt (h.var d e2).2
    omega
theorem impl_BestMarks.MK.addVar (h : impl_BestMarks.MK a0 a1 A2 c2 P A3 c3 D w0 g4 g5 g6 g7 g8 x y none W) : impl_BestMarks.MK a0 a1 A2 c2 P A3 c3 D w0 g4 g5 g6 g7 g8 x y (some W.heap.size) (W.alloc (.cells #[.slice none 0 0] 26 (0, 0))) := by
  obtain ⟨h1, h2, h3, h4, h5, h6, h7⟩ := h.below (below_alloc (Below.refl _ _) (.cells #[.slice none 0 0] 26 (0, 0)))
  refine ⟨h1, h2, h3, fun c e => ?_, h5, fun a c d e1 e2 => ?_, fun b f d e1 e2 => ?_⟩
  · cases e
    exact ⟨h.lt8, blk_new W _⟩
  · cases e2
    have := Kd.R_lt (h.row a c e1).2 a rfl
    omega
  · cases e2
    have := blk_lt (h.best b f e1).2
    omega
theorem impl_BestMarks.MK.putBest {b : Nat} (h : impl_BestMarks.MK a0 a1 A2 c2 P A3 c3 D w0 g4 g5 g6 g7 g8 x (some (b, false)) z W) : impl_BestMarks.MK a0 a1 A2 c2 P A3 c3 D w0 g4 g5 g6 g7 g8 x (some (b, true)) z ((((W.setCell ⟨b, 0, none⟩ (.slice none 0 0)).setCell ⟨b, 1, none⟩ (.slice none 0 0)).setCell ⟨b, 2, none⟩ (.int .i64 (-1))).setCell ⟨b, 3, none⟩ (.int .i64 0)) := by
  obtain ⟨h1, h2, h3, h4, h5, h6, h7⟩ := h
  obtain ⟨q1, q2, q3, q4, q5, q6, q7⟩ := h1
  obtain ⟨hb, hx⟩ := h3 b false rfl
  have far : ∀ {g : Nat} {o : Obj} {t : TypeId} {cs : Array Value}, W.heap[g]? = some (.cells cs t (0, 0)) → g ≠ b → ((((W.setCell ⟨b, 0, none⟩ (.slice none 0 0)).setCell ⟨b, 1, none⟩ (.slice none 0 0)).setCell ⟨b, 2, none⟩ (.int .i64 (-1))).setCell ⟨b, 3, none⟩ (.int .i64 0)).heap[g]? = some (.cells cs t (0, 0)) :=
    fun h hn => blk_far (blk_far (blk_far (blk_far h hn _) hn _) hn _) hn _
  have hw : w0.heap.size ≤ b := by omega
  refine ⟨⟨below_set (below_set (below_set (below_set q1 hw) hw) hw) hw, far (o := .cells #[] 0 (0, 0)) q2 (by omega), far (o := .cells #[] 0 (0, 0)) q3 (by omega), far (o := .cells #[] 0 (0, 0)) q4 (by omega), far (o := .cells #[] 0 (0, 0)) q5 (by omega), far (o := .cells #[] 0 (0, 0)) q6 (by omega), q7⟩, fun a c e => ⟨(h2 a c e).1, ?_⟩, fun b' f e => ?_, fun c e => ⟨(h4 c e).1, far (o := .cells #[] 0 (0, 0)) (h4 c e).2 (fun e' => h7 b false c rfl e e'.symm)⟩, fun a c b' f e1 e2 => ?_, h6, fun b' f d e1 e2 => ?_⟩
  · have hn : ∀ k, some k = some a → k ≠ b := fun k hk e' => h5 a c b false e rfl (by rw [← e']; exact (Option.some.inj hk).symm)
    exact Kd.R_far (Kd.R_far (Kd.R_far (Kd.R_far (h2 a c e).2 hn _) hn _) hn _) hn _
  · cases e
    refine ⟨hb, ?_⟩
    exact blk_put (cs := #[.slice none 0 0, .slice none 0 0, .int .i64 (-1), .int .i64 0]) (blk_put (cs := #[.slice none 0 0, .slice none 0 0, .int .i64 0, .int .i64 0]) (blk_put (cs := #[.slice none 0 0, .slice none 0 0, .int .i64 0, .int .i64 0]) (blk_put hx 0 _ rfl) 1 _ rfl) 2 _ rfl) 3 _ rfl
  · cases e2
    exact h5 a c b false e1 rfl
  · cases e1
    exact h7 b false d rfl e2
end
section
variable {P : Program} {ops : Array Oper} {o : Oper} {a : Act} {Q : Exit → Act → World → Prop} {Kc : Act → World → Prop}
/-- A variable made, a variable written, as a step of a region that draws its order. -/
theorem boxed_step {W : World} {N : Option Tmp} {cs : Array Value} {t : TypeId} (hw : Region.wanted o (yielded ops a.tmps) = true) (hN : o.dst = N)
    (hrun : (execOp a.eval o).run P W = .ok (.value (.pointer (some ⟨W.heap.size, 0, none⟩))) (W.alloc (.cells cs t (0, 0))))
    (h : ∀ g, g = W.heap.size → ∀ w1, w1 = W.alloc (.cells cs t (0, 0)) → Kc (a.put N (.pointer (some ⟨g, 0, none⟩))) w1) : if Region.wanted o (yielded ops a.tmps) = true then Oper.wp P o a W Kc Q else Kc (a.put N undef) W :=
  value_ hw hN hrun (h _ rfl _ rfl)
theorem stored_step {W w1 : World} (hw : Region.wanted o (yielded ops a.tmps) = true) (hN : o.dst = none) (hrun : (execOp a.eval o).run P W = .ok .skip w1)
    (h : ∀ w', w' = w1 → Kc a w') : if Region.wanted o (yielded ops a.tmps) = true then Oper.wp P o a W Kc Q else Kc (a.put none undef) W :=
  skip_ hw hN hrun (h _ rfl)
end
theorem impl_BestMarks.marks_pos {k : Nat} {a0 a1 : Int} {P : List Int} {D : List (List Int)} (h : impl_areMarks.f k a0 a1 P D = some true) : 0 < D.length := by
  unfold impl_areMarks.f at h
  split at h
  · split at h
    · split at h
      · obtain ⟨t, _, h⟩ := Option.bind_eq_some_iff.mp h
        split at h
        · split at h
          · omega
          · cases h
        · cases h
      · cases h
    · cases h
  · cases h
theorem impl_BestMarks.below_of_grown {w0 W W1 : World} (hg : W.grownBy W1 none) (h0 : Below w0.heap.size w0 W) (h1 : Below w0.heap.size w0 W1) : Below W.heap.size W W1 :=
  ⟨hg.os, hg.tape, hg.output, hg.size, fun i hi => hg.block i hi (by simp)⟩
/-- The search's variables, ahead of the function value's own. -/
structure impl_BestMarks.MZ (a0 a1 : Int) (A2 : Option Addr) (c2 : Nat) (P : List Int) (A3 : Option Addr) (c3 : Nat) (D : List (List Int)) (w0 : World) (g4 g5 g6 g7 g8 gr cr gB gS : Nat) (W : World) : Prop where
  base : impl_BestMarks.Base a0 a1 A2 c2 P A3 c3 D w0 g4 g5 g6 g7 g8 W
  row : g8 < gr ∧ Kd.R (Kd.int .i64) 3 W w0.heap.size (fun k_ => some k_ = some gr) (.slice (some ⟨gr, 0, none⟩) D.length cr) (List.replicate D.length 0)
  best : g8 < gB ∧ W.heap[gB]? = some (.cells #[.slice none 0 0, .slice none 0 0, .int .i64 (-1), .int .i64 0] 31 (0, 0))
  var : g8 < gS ∧ W.heap[gS]? = some (.cells #[.slice (some ⟨gr, 0, none⟩) D.length cr] 26 (0, 0))
  ne : gr ≠ gB ∧ gr ≠ gS ∧ gB ≠ gS
section
variable {a0 a1 : Int} {A2 : Option Addr} {c2 : Nat} {P : List Int} {A3 : Option Addr} {c3 : Nat} {D : List (List Int)} {w0 : World} {g4 g5 g6 g7 g8 gr cr gB gS : Nat} {W W1 : World}
theorem impl_BestMarks.MK.putVar (h : impl_BestMarks.MK a0 a1 A2 c2 P A3 c3 D w0 g4 g5 g6 g7 g8 (some (gr, cr)) (some (gB, true)) (some gS) W) : impl_BestMarks.MZ a0 a1 A2 c2 P A3 c3 D w0 g4 g5 g6 g7 g8 gr cr gB gS (W.setCell ⟨gS, 0, none⟩ (.slice (some ⟨gr, 0, none⟩) D.length cr)) := by
  obtain ⟨h1, h2, h3, h4, h5, h6, h7⟩ := h
  obtain ⟨q1, q2, q3, q4, q5, q6, q7⟩ := h1
  obtain ⟨hS, hx⟩ := h4 gS rfl
  obtain ⟨hr, hrow⟩ := h2 gr cr rfl
  obtain ⟨hB, hbest⟩ := h3 gB true rfl
  have e1 := h5 gr cr gB true rfl rfl
  have e2 := h6 gr cr gS rfl rfl
  have e3 := h7 gB true gS rfl rfl
  refine ⟨⟨below_set q1 (by show _ ≤ gS; omega), blk_far q2 (by show g4 ≠ gS; omega) _, blk_far q3 (by show g5 ≠ gS; omega) _, blk_far q4 (by show g6 ≠ gS; omega) _, blk_far q5 (by show g7 ≠ gS; omega) _, blk_far q6 (by show g8 ≠ gS; omega) _, q7⟩, ⟨hr, Kd.R_far hrow (fun k hk e' => e2 (by rw [show gS = k from e'.symm]; exact (Option.some.inj hk).symm)) _⟩, ⟨hB, blk_far hbest e3 _⟩, ⟨hS, blk_put hx 0 _ rfl⟩, e1, e2, e3⟩
theorem impl_BestMarks.MZ.env (h : impl_BestMarks.MZ a0 a1 A2 c2 P A3 c3 D w0 g4 g5 g6 g7 g8 gr cr gB gS W) {gT : Nat} (hT : W.heap.size ≤ gT) (hb : Below W.heap.size W W1)
    (hx : W1.heap[gT]? = some (.cells #[.func (.func 40) #[] #[.pointer (some ⟨g7, 0, none⟩), .pointer (some ⟨g4, 0, none⟩), .pointer (some ⟨g5, 0, none⟩), .pointer (some ⟨g6, 0, none⟩), .pointer (some ⟨gS, 0, none⟩), .pointer (some ⟨gB, 0, none⟩), .pointer (some ⟨gT, 0, none⟩)]] 59 (0, 0))) :
    impl_BestMarks.Env a0 a1 A2 c2 P A3 c3 D w0 W.heap.size g7 g4 g5 g6 gS gB gT gr cr g8 W1 (List.replicate D.length 0) ([], [], -1, 0) ∧ impl_BestMarks.Fix w0.heap.size W.heap.size g7 g4 g5 g6 gS gB gT gr g8 := by
  have l1 := Kd.R_lt h.row.2 gr rfl
  have l2 := blk_lt h.best.2
  have l3 := blk_lt h.base.k8
  have o := h.base.o
  have r1 := h.row.1
  have r2 := h.best.1
  have r3 := h.var.1
  obtain ⟨n1, n2, n3⟩ := h.ne
  have B := h.base.below hb
  refine ⟨⟨B.bel, hb.size, (blk_cell B.k7 0).trans rfl, (blk_cell B.k4 0).trans rfl, (blk_cell B.k5 0).trans rfl, (blk_cell B.k6 0).trans rfl, (blk_cell (blk_below h.var.2 hb) 0).trans rfl, (blk_cell hx 0).trans rfl, B.k8, Kd.R_below h.row.2 hb, .slice none 0 0, .slice none 0 0, blk_below h.best.2 hb, Kd.R_nil _ _ _ _ _, Kd.R_nil _ _ _ _ _⟩, ⟨below_size h.base.bel, by omega, by omega, by omega, by omega, by omega, by omega, by omega, by omega, by omega, by omega, by omega, by omega⟩⟩
end
def impl_BestMarks.T5 : Bool × List (List Nat × List Nat) := (true, [([], []), ([], []), ([1], [1]), ([2, 2], [2]), ([], []), ([], []), ([4, 0, 0, 4, 5], [0, 4]), ([5, 3, 6, 0, 1, 2, 3, 4, 5, 6], [3, 5])])
def impl_BestMarks.B5 : List Nat := [0, 0, 2, 6, 0, 0, 49, 127]
theorem impl_BestMarks.tab5 : rtab .any (opsOf Try.f11 5) = impl_BestMarks.T5 := by kernel_rfl
theorem impl_BestMarks.bits5 : waitsOk impl_BestMarks.T5.2 impl_BestMarks.B5 = true := by kernel_rfl
theorem impl_BestMarks.mono : ∀ a0 a1 a2 a3 k, LeO (impl_BestMarks.f k a0 a1 a2 a3) (impl_BestMarks.f (k + 1) a0 a1 a2 a3) := by
  intro a0 a1 a2 a3 k
  unfold impl_BestMarks.f
  repeat' first
      | (with_reducible exact impl_areMarks.mono _ _ _ _ _)
      | (with_reducible exact impl_BestMarks.try_mono _ _ _ _ _ _ _)
      | (with_reducible exact LeO.refl _)
      | (with_reducible exact LeO.none _)
      | (with_reducible refine LeO.ite ?_ ?_)
      | (with_reducible refine LeO.bind ?_ (fun _ => ?_))

set_option maxHeartbeats 8000000 in
set_option maxRecDepth 100000 in
theorem impl_BestMarks.calls (k : Nat) (a0 : Int) (a1 : Int) (A2 : Option Addr) (c2 : Nat) (l2 : List Int) (A3 : Option Addr) (c3 : Nat) (l3 : List (List Int)) (r1 : List Int) (r2 : List Int) (r3 : Int) (r4 : Int) (r5 : Int) (w : World) (hr2 : Kd.C (Kd.int .i64) w A2 l2.length l2) (hc2 : l2.length ≤ c2) (hr3 : Kd.C (Kd.slice 3 (Kd.int .i64)) w A3 l3.length l3) (hc3 : l3.length ≤ c3) (h : impl_BestMarks.f k a0 a1 l2 l3 = some (r1, r2, r3, r4, r5)) :
    Calls Try.prog 11 #[.int .i64 a0, .int .i64 a1, .slice A2 l2.length c2, .slice A3 l3.length c3] w fun e w' => ∃ v0_ v1_ : Value, e = .returned (.tuple #[.agg #[v0_, v1_, .int .i64 r3, .int .i64 r4], .int .i64 r5]) ∧ Kd.R (Kd.int .i64) 3 w' w.heap.size (fun k_ => some k_ ≠ (v1_ : Value).ownBlock) v0_ r1 ∧ Kd.R (Kd.int .i64) 3 w' w.heap.size (fun k_ => some k_ ≠ (v0_ : Value).ownBlock) v1_ r2 ∧ Below w.heap.size w w' := by
  unfold impl_BestMarks.f at h
  have HR2 := Aside0.mk hr2
  have HR3 := Aside0.mk hr3
  have HC2 := Aside0.mk hc2
  have HC3 := Aside0.mk hc3
  have H := Aside0.mk h
  clear hr2 hr3 hc2 hc3 h
  go_enter Try.func11, Try.ntmps11
  go_upto_region 1 with (first | ((with_reducible refine gate_dst (N := 4) rfl ?_); refine box_event ?hg (N := 4) ?hd (cs := #[.int .i64 a0]) (t := 3) ?hr ?_; (case hd => rfl); (case hg => rfl); (case hr => first | (go_simp; done) | (go_simp; rfl)); intro g4 e_ w4 k_ b_; have K4 := Aside0.mk k_; have HB4 := Aside0.mk b_; have O4 := Aside0.mk (Nat.le_of_eq e_.symm); clear e_ k_ b_) | ((with_reducible refine gate_dst (N := 5) rfl ?_); refine box_event ?hg (N := 5) ?hd (cs := #[.int .i64 a1]) (t := 3) ?hr ?_; (case hd => rfl); (case hg => rfl); (case hr => first | (go_simp; done) | (go_simp; rfl)); intro g5 e_ w5 k_ b_; have O5 : Aside0 (g4 < g5) := ⟨by rw [e_]; exact blk_lt K4.out⟩; have K4' := Aside0.mk (blk_below K4.out b_); have K5 := Aside0.mk k_; have HB5 := Aside0.mk (below_step HB4.out b_); clear K4 HB4; clear e_ k_ b_) | ((with_reducible refine gate_dst (N := 6) rfl ?_); refine box_event ?hg (N := 6) ?hd (cs := #[.slice A2 l2.length c2]) (t := 26) ?hr ?_; (case hd => rfl); (case hg => rfl); (case hr => first | (go_simp; done) | (go_simp; rfl)); intro g6 e_ w6 k_ b_; have O6 : Aside0 (g5 < g6) := ⟨by rw [e_]; exact blk_lt K5.out⟩; have K4 := Aside0.mk (blk_below K4'.out b_); have K5' := Aside0.mk (blk_below K5.out b_); have K6 := Aside0.mk k_; have HB6 := Aside0.mk (below_step HB5.out b_); clear K4' K5 HB5; clear e_ k_ b_) | ((with_reducible refine gate_dst (N := 7) rfl ?_); refine box_event ?hg (N := 7) ?hd (cs := #[.slice A3 l3.length c3]) (t := 27) ?hr ?_; (case hd => rfl); (case hg => rfl); (case hr => first | (go_simp; done) | (go_simp; rfl)); intro g7 e_ w7 k_ b_; have O7 : Aside0 (g6 < g7) := ⟨by rw [e_]; exact blk_lt K6.out⟩; have K4' := Aside0.mk (blk_below K4.out b_); have K5 := Aside0.mk (blk_below K5'.out b_); have K6' := Aside0.mk (blk_below K6.out b_); have K7 := Aside0.mk k_; have HB7 := Aside0.mk (below_step HB6.out b_); clear K4 K5' K6 HB6; clear e_ k_ b_) | ((with_reducible refine gate_dst (N := 8) rfl ?_); refine box_event ?hg (N := 8) ?hd (cs := #[.slice none 0 0, .slice none 0 0, .int .i64 0, .int .i64 0]) (t := 31) ?hr ?_; (case hd => rfl); (case hg => rfl); (case hr => first | (go_simp; done) | (go_simp; rfl)); intro g8 e_ w8 k_ b_; have HBS : Aside0 (impl_BestMarks.Base a0 a1 A2 c2 l2 A3 c3 l3 w g4 g5 g6 g7 g8 w8) := ⟨⟨below_step HB7.out b_, blk_below K4'.out b_, blk_below K5.out b_, blk_below K6'.out b_, blk_below K7.out b_, k_, O4.out, O5.out, O6.out, O7.out, by rw [e_]; exact blk_lt K7.out⟩⟩; clear K4' K5 K6' K7 HB7 O4 O5 O6 O7; clear e_ k_ b_))
  (try simp only [Act.put, List.setIfInBounds_toArray, List.set_cons_zero, List.set_cons_succ])
  have h := H.out
  clear H
  have c4 : w8.cell? ⟨g4, 0, none⟩ = some (.int .i64 a0) := (blk_cell HBS.out.k4 0).trans rfl
  have c5 : w8.cell? ⟨g5, 0, none⟩ = some (.int .i64 a1) := (blk_cell HBS.out.k5 0).trans rfl
  have c6 : w8.cell? ⟨g6, 0, none⟩ = some (.slice A2 l2.length c2) := (blk_cell HBS.out.k6 0).trans rfl
  have c7 : w8.cell? ⟨g7, 0, none⟩ = some (.slice A3 l3.length c3) := (blk_cell HBS.out.k7 0).trans rfl
  by_cases d1 : l2.length ≤ 4096
  rotate_left
  · have I1 : Aside0 (impl_isList_int_34.f l2 = some false) := ⟨by unfold impl_isList_int_34.f; rw [decide_eq_false (by omega)]⟩
    rw [if_neg (fun e => d1 e.1)] at h
    obtain ⟨rfl, rfl, rfl, rfl, rfl⟩ : ([] : List Int) = r1 ∧ ([] : List Int) = r2 ∧ (0 : Int) = r3 ∧ (0 : Int) = r4 ∧ (2 : Int) = r5 := by simpa using h
    clear h d1
    have z0 : w8.cell? ⟨g8, 0, none⟩ = some (.slice none 0 0) := (blk_cell HBS.out.k8 0).trans rfl
    have f0 := blk_frozen HBS.out.k8 0
    have z1 : w8.cell? ⟨g8, 1, none⟩ = some (.slice none 0 0) := (blk_cell HBS.out.k8 1).trans rfl
    have f1 := blk_frozen HBS.out.k8 1
    have z2 : w8.cell? ⟨g8, 2, none⟩ = some (.int .i64 0) := (blk_cell HBS.out.k8 2).trans rfl
    have f2 := blk_frozen HBS.out.k8 2
    have z3 : w8.cell? ⟨g8, 3, none⟩ = some (.int .i64 0) := (blk_cell HBS.out.k8 3).trans rfl
    have f3 := blk_frozen HBS.out.k8 3
    go_wp2_with (first | (go_at_call 34; (with_reducible refine (impl_isList_int_34.calls _ _ l2 false _ ?side1 ?side2 I1.out).mono ?_); (case side1 => repeat (first | exact Kd.C_below HR2.out HBS.out.bel | (with_reducible refine Kd.C_drewN ?_ _))); (case side2 => exact HC2.out); rintro e w_ ⟨rfl, ⟨nI1_, rfl⟩⟩))
    refine bodyPost_ret (results_ct rfl _ _ g8 31 #[.slice none 0 0, .slice none 0 0, .int .i64 0, .int .i64 0] (0, 0) _ rfl (by (with_reducible repeat (first | refine blk_drewN ?_ _ | refine blk_drew ?_ | refine blk_alloc ?_ _)); refine blk_put (cs := #[.slice none 0 0, .slice none 0 0, .int .i64 0, .int .i64 0]) ?_ 3 _ rfl; (with_reducible repeat (first | refine blk_drewN ?_ _ | refine blk_drew ?_ | refine blk_alloc ?_ _)); refine blk_put (cs := #[.slice none 0 0, .slice none 0 0, .int .i64 0, .int .i64 0]) ?_ 2 _ rfl; (with_reducible repeat (first | refine blk_drewN ?_ _ | refine blk_drew ?_ | refine blk_alloc ?_ _)); refine blk_put (cs := #[.slice none 0 0, .slice none 0 0, .int .i64 0, .int .i64 0]) ?_ 1 _ rfl; (with_reducible repeat (first | refine blk_drewN ?_ _ | refine blk_drew ?_ | refine blk_alloc ?_ _)); refine blk_put (cs := #[.slice none 0 0, .slice none 0 0, .int .i64 0, .int .i64 0]) ?_ 0 _ rfl; (with_reducible repeat (first | refine blk_drewN ?_ _ | refine blk_drew ?_ | refine blk_alloc ?_ _)); exact HBS.out.k8) Try.underlying31 rfl (by kernel_rfl)) rfl ?_
    exact ⟨_, _, by first | rfl | (simp; done), Kd.R_nil _ _ _ _ _, Kd.R_nil _ _ _ _ _, by repeat (first | exact HBS.out.bel | (with_reducible first | apply pw_below_drewN | apply below_drew | refine below_set ?_ (Nat.le_trans HBS.out.o.1 (by have := HBS.out.o; omega))))⟩
  have I1 : Aside0 (impl_isList_int_34.f l2 = some true) := ⟨by unfold impl_isList_int_34.f; rw [decide_eq_true (by omega)]⟩
  by_cases d2 : l3.length ≤ 4096
  rotate_left
  · have I2 : Aside0 (impl_isList_int_35.f l3 = some false) := ⟨by unfold impl_isList_int_35.f; rw [decide_eq_false (by omega)]⟩
    rw [if_neg (fun e => d2 e.2)] at h
    obtain ⟨rfl, rfl, rfl, rfl, rfl⟩ : ([] : List Int) = r1 ∧ ([] : List Int) = r2 ∧ (0 : Int) = r3 ∧ (0 : Int) = r4 ∧ (2 : Int) = r5 := by simpa using h
    clear h d1 d2
    have z0 : w8.cell? ⟨g8, 0, none⟩ = some (.slice none 0 0) := (blk_cell HBS.out.k8 0).trans rfl
    have f0 := blk_frozen HBS.out.k8 0
    have z1 : w8.cell? ⟨g8, 1, none⟩ = some (.slice none 0 0) := (blk_cell HBS.out.k8 1).trans rfl
    have f1 := blk_frozen HBS.out.k8 1
    have z2 : w8.cell? ⟨g8, 2, none⟩ = some (.int .i64 0) := (blk_cell HBS.out.k8 2).trans rfl
    have f2 := blk_frozen HBS.out.k8 2
    have z3 : w8.cell? ⟨g8, 3, none⟩ = some (.int .i64 0) := (blk_cell HBS.out.k8 3).trans rfl
    have f3 := blk_frozen HBS.out.k8 3
    go_wp2_with (first | (go_at_call 34; (with_reducible refine (impl_isList_int_34.calls _ _ l2 true _ ?side1 ?side2 I1.out).mono ?_); (case side1 => repeat (first | exact Kd.C_below HR2.out HBS.out.bel | (with_reducible refine Kd.C_drewN ?_ _))); (case side2 => exact HC2.out); rintro e w_ ⟨rfl, ⟨nI1_, rfl⟩⟩) | (go_at_call 35; (with_reducible refine (impl_isList_int_35.calls _ _ l3 false _ ?side1 ?side2 I2.out).mono ?_); (case side1 => repeat (first | exact Kd.C_below HR3.out HBS.out.bel | (with_reducible refine Kd.C_drewN ?_ _))); (case side2 => exact HC3.out); rintro e w_ ⟨rfl, ⟨nI2_, rfl⟩⟩))
    refine bodyPost_ret (results_ct rfl _ _ g8 31 #[.slice none 0 0, .slice none 0 0, .int .i64 0, .int .i64 0] (0, 0) _ rfl (by (with_reducible repeat (first | refine blk_drewN ?_ _ | refine blk_drew ?_ | refine blk_alloc ?_ _)); refine blk_put (cs := #[.slice none 0 0, .slice none 0 0, .int .i64 0, .int .i64 0]) ?_ 3 _ rfl; (with_reducible repeat (first | refine blk_drewN ?_ _ | refine blk_drew ?_ | refine blk_alloc ?_ _)); refine blk_put (cs := #[.slice none 0 0, .slice none 0 0, .int .i64 0, .int .i64 0]) ?_ 2 _ rfl; (with_reducible repeat (first | refine blk_drewN ?_ _ | refine blk_drew ?_ | refine blk_alloc ?_ _)); refine blk_put (cs := #[.slice none 0 0, .slice none 0 0, .int .i64 0, .int .i64 0]) ?_ 1 _ rfl; (with_reducible repeat (first | refine blk_drewN ?_ _ | refine blk_drew ?_ | refine blk_alloc ?_ _)); refine blk_put (cs := #[.slice none 0 0, .slice none 0 0, .int .i64 0, .int .i64 0]) ?_ 0 _ rfl; (with_reducible repeat (first | refine blk_drewN ?_ _ | refine blk_drew ?_ | refine blk_alloc ?_ _)); exact HBS.out.k8) Try.underlying31 rfl (by kernel_rfl)) rfl ?_
    exact ⟨_, _, by first | rfl | (simp; done), Kd.R_nil _ _ _ _ _, Kd.R_nil _ _ _ _ _, by repeat (first | exact HBS.out.bel | (with_reducible first | apply pw_below_drewN | apply below_drew | refine below_set ?_ (Nat.le_trans HBS.out.o.1 (by have := HBS.out.o; omega))))⟩
  have I2 : Aside0 (impl_isList_int_35.f l3 = some true) := ⟨by unfold impl_isList_int_35.f; rw [decide_eq_true (by omega)]⟩
  rw [if_pos ⟨d1, d2⟩] at h
  have D1 := Aside0.mk d1
  have D2 := Aside0.mk d2
  clear d1 d2
  replace h := Option.bind_eq_some_iff.mp h
  obtain ⟨t9, A9, h⟩ := h
  have A9 := Aside0.mk A9
  cases t9 with
  | false =>
    rw [if_neg (by decide)] at h
    obtain ⟨rfl, rfl, rfl, rfl, rfl⟩ : ([] : List Int) = r1 ∧ ([] : List Int) = r2 ∧ (0 : Int) = r3 ∧ (0 : Int) = r4 ∧ (1 : Int) = r5 := by simpa using h
    clear h
    go_wp2_with (first | (go_at_call 34; (with_reducible refine (impl_isList_int_34.calls _ _ l2 true _ ?side1 ?side2 I1.out).mono ?_); (case side1 => repeat (first | exact Kd.C_below HR2.out HBS.out.bel | (with_reducible refine Kd.C_drewN ?_ _))); (case side2 => exact HC2.out); rintro e w_ ⟨rfl, ⟨nI1_, rfl⟩⟩) | (go_at_call 35; (with_reducible refine (impl_isList_int_35.calls _ _ l3 true _ ?side1 ?side2 I2.out).mono ?_); (case side1 => repeat (first | exact Kd.C_below HR3.out HBS.out.bel | (with_reducible refine Kd.C_drewN ?_ _))); (case side2 => exact HC3.out); rintro e w_ ⟨rfl, ⟨nI2_, rfl⟩⟩) | (go_at_call 36; (with_reducible refine (impl_areMarks.calls k a0 a1 _ _ l2 _ _ l3 false _ ?side1 ?side2 ?side3 ?side4 A9.out).mono ?_); (case side1 => repeat (first | exact Kd.C_below HR2.out HBS.out.bel | (with_reducible refine Kd.C_drewN ?_ _))); (case side2 => exact HC2.out); (case side3 => repeat (first | exact Kd.C_below HR3.out HBS.out.bel | (with_reducible refine Kd.C_drewN ?_ _))); (case side4 => exact HC3.out); rintro e w12 ⟨rfl, hb⟩; have n0_ := Aside0.mk (HBS.out.below (below_step (pw_below_drewN (Below.refl _ _) _) hb)); clear HBS hb c4 c5 c6 c7; have HBS := n0_; clear n0_; have z0 : w12.cell? ⟨g8, 0, none⟩ = some (.slice none 0 0) := (blk_cell HBS.out.k8 0).trans rfl; have f0 := blk_frozen HBS.out.k8 0; have z1 : w12.cell? ⟨g8, 1, none⟩ = some (.slice none 0 0) := (blk_cell HBS.out.k8 1).trans rfl; have f1 := blk_frozen HBS.out.k8 1; have z2 : w12.cell? ⟨g8, 2, none⟩ = some (.int .i64 0) := (blk_cell HBS.out.k8 2).trans rfl; have f2 := blk_frozen HBS.out.k8 2; have z3 : w12.cell? ⟨g8, 3, none⟩ = some (.int .i64 0) := (blk_cell HBS.out.k8 3).trans rfl; have f3 := blk_frozen HBS.out.k8 3))
    refine bodyPost_ret (results_ct rfl _ _ g8 31 #[.slice none 0 0, .slice none 0 0, .int .i64 0, .int .i64 0] (0, 0) _ rfl (by (with_reducible repeat (first | refine blk_drewN ?_ _ | refine blk_drew ?_ | refine blk_alloc ?_ _)); refine blk_put (cs := #[.slice none 0 0, .slice none 0 0, .int .i64 0, .int .i64 0]) ?_ 3 _ rfl; (with_reducible repeat (first | refine blk_drewN ?_ _ | refine blk_drew ?_ | refine blk_alloc ?_ _)); refine blk_put (cs := #[.slice none 0 0, .slice none 0 0, .int .i64 0, .int .i64 0]) ?_ 2 _ rfl; (with_reducible repeat (first | refine blk_drewN ?_ _ | refine blk_drew ?_ | refine blk_alloc ?_ _)); refine blk_put (cs := #[.slice none 0 0, .slice none 0 0, .int .i64 0, .int .i64 0]) ?_ 1 _ rfl; (with_reducible repeat (first | refine blk_drewN ?_ _ | refine blk_drew ?_ | refine blk_alloc ?_ _)); refine blk_put (cs := #[.slice none 0 0, .slice none 0 0, .int .i64 0, .int .i64 0]) ?_ 0 _ rfl; (with_reducible repeat (first | refine blk_drewN ?_ _ | refine blk_drew ?_ | refine blk_alloc ?_ _)); exact HBS.out.k8) Try.underlying31 rfl (by kernel_rfl)) rfl ?_
    exact ⟨_, _, by first | rfl | (simp; done), Kd.R_nil _ _ _ _ _, Kd.R_nil _ _ _ _ _, by repeat (first | exact HBS.out.bel | (with_reducible first | apply pw_below_drewN | apply below_drew | refine below_set ?_ (Nat.le_trans HBS.out.o.1 (by have := HBS.out.o; omega))))⟩
  | true =>
    rw [if_pos rfl] at h
    have H := Aside0.mk h
    clear h
    go_wp2_with (first | (go_at_call 34; (with_reducible refine (impl_isList_int_34.calls _ _ l2 true _ ?side1 ?side2 I1.out).mono ?_); (case side1 => repeat (first | exact Kd.C_below HR2.out HBS.out.bel | (with_reducible refine Kd.C_drewN ?_ _))); (case side2 => exact HC2.out); rintro e w_ ⟨rfl, ⟨nI1_, rfl⟩⟩) | (go_at_call 35; (with_reducible refine (impl_isList_int_35.calls _ _ l3 true _ ?side1 ?side2 I2.out).mono ?_); (case side1 => repeat (first | exact Kd.C_below HR3.out HBS.out.bel | (with_reducible refine Kd.C_drewN ?_ _))); (case side2 => exact HC3.out); rintro e w_ ⟨rfl, ⟨nI2_, rfl⟩⟩) | (go_at_call 36; (with_reducible refine (impl_areMarks.calls k a0 a1 _ _ l2 _ _ l3 true _ ?side1 ?side2 ?side3 ?side4 A9.out).mono ?_); (case side1 => repeat (first | exact Kd.C_below HR2.out HBS.out.bel | (with_reducible refine Kd.C_drewN ?_ _))); (case side2 => exact HC2.out); (case side3 => repeat (first | exact Kd.C_below HR3.out HBS.out.bel | (with_reducible refine Kd.C_drewN ?_ _))); (case side4 => exact HC3.out); rintro e w12 ⟨rfl, hb⟩; have n0_ := Aside0.mk (HBS.out.below (below_step (pw_below_drewN (Below.refl _ _) _) hb)); clear HBS hb c4 c5 c6 c7; have HBS := n0_; clear n0_; have c4 : w12.cell? ⟨g4, 0, none⟩ = some (.int .i64 a0) := (blk_cell HBS.out.k4 0).trans rfl; have c5 : w12.cell? ⟨g5, 0, none⟩ = some (.int .i64 a1) := (blk_cell HBS.out.k5 0).trans rfl; have c6 : w12.cell? ⟨g6, 0, none⟩ = some (.slice A2 l2.length c2) := (blk_cell HBS.out.k6 0).trans rfl; have c7 : w12.cell? ⟨g7, 0, none⟩ = some (.slice A3 l3.length c3) := (blk_cell HBS.out.k7 0).trans rfl))
    have M0 : Aside0 (impl_BestMarks.MK a0 a1 A2 c2 l2 A3 c3 l3 w g4 g5 g6 g7 g8 none none none w12.drew) := ⟨⟨HBS.out.below (below_drew (Below.refl _ _)), fun _ _ e => by (cases e), fun _ _ e => by (cases e), fun _ e => by (cases e), fun _ _ _ _ e => by (cases e), fun _ _ _ e => by (cases e), fun _ _ _ e => by (cases e)⟩⟩
    have hlz : 0 ≤ (l3.length : Int) := by omega
    have hl35 : (l3.length : Int).toNat ≤ 35184372088832 := by have := D2.out; omega
    have HL0 : Aside0 (0 < l3.length) := ⟨impl_BestMarks.marks_pos A9.out⟩
    clear c4 c5 c6 HBS
    refine start_ (n := 8) (S := fun w' => w'.cell? ⟨g7, 0, none⟩ = some (.slice A3 l3.length c3)) (ds := [7]) #[false, false, false, false, false, false, false, false] (by kernel_rfl) rfl rfl c7 (fun hHeld => ?_)
    refine with_tabW impl_BestMarks.tab5 impl_BestMarks.bits5 (fun HT_ HW_ => ?_)
    refine pure_ (i := 0) (N := some 31) (v := ?_) (a' := ?_) #[true, false, false, false, false, false, false, false] rfl rfl (any_of HT_.out (by kernel_rfl)) (fun _ _ _ h => h) (Or.inl ⟨by rfl, ?_⟩) ?_ ?_
    rotate_left
    · intro w'
      go_simp
      with_reducible rfl
    rotate_left
    · simp only [Act.put, List.setIfInBounds_toArray, List.set_cons_zero, List.set_cons_succ, i64_w, i32_w]
      rfl
    refine take_ (i := 1) (N := some 32) (v := ?_) (a' := ?_) #[true, true, false, false, false, false, false, false] rfl rfl (take_ofW HT_.out HW_.out (by kernel_rfl)) (fun _ _ _ h => h) (Or.inl ⟨by rfl, ?_⟩) hHeld ?_ ?_
    rotate_left
    · intro w' s0
      go_simp
      with_reducible rfl
    rotate_left
    · simp only [Act.put, List.setIfInBounds_toArray, List.set_cons_zero, List.set_cons_succ, i64_w, i32_w]
      rfl
    refine pure_ (i := 2) (N := some 33) (v := ?_) (a' := ?_) #[true, true, true, false, false, false, false, false] rfl rfl (any_of HT_.out (by kernel_rfl)) (fun _ _ _ h => h) (Or.inl ⟨by rfl, ?_⟩) ?_ ?_
    rotate_left
    · intro w'
      go_simp
      with_reducible rfl
    rotate_left
    · simp only [Act.put, List.setIfInBounds_toArray, List.set_cons_zero, List.set_cons_succ, i64_w, i32_w]
      rfl
    refine join_ (σ := Nat × Nat × Nat × Nat) 1 #[true, true, true, true, true, true, true, false] (fun s => [(34, .slice (some ⟨s.1, 0, none⟩) l3.length s.2.1), (10, .pointer (some ⟨s.2.2.1, 0, none⟩)), (11, .pointer (some ⟨s.2.2.2, 0, none⟩))]) (fun s w' => impl_BestMarks.MK a0 a1 A2 c2 l2 A3 c3 l3 w g4 g5 g6 g7 g8 (some (s.1, s.2.1)) (some (s.2.2.1, true)) (some s.2.2.2) w') ?_ ?_
    rotate_left
    · intro hCont
      refine three_ (i := 3) (j := 4) (k := 5) (Ni := some 34) (Nj := some 10) (Nk := some 11) #[true, true, true, true, false, false, false, false] #[true, true, true, false, true, false, false, false] #[true, true, true, false, false, true, false, false] rfl rfl rfl rfl rfl rfl (three_of HT_.out (by kernel_rfl)) (by decide) (by decide) (by decide) (fun K hK => ?_) (fun K hK => ?_) (fun K hK => ?_)
      · skip
        refine Kd.R_make_step (Kd.int .i64) (w0 := w) w.heap.size 3 (by rfl) (N := 34) rfl 26 _ _ rfl (l3.length : Int) rfl rfl Try.underlying26 (.int .i64 0) 8 info3 rfl (by decide) (by omega) 0 (ok := fun _ => True) (okp := fun _ => True) rfl (fun _ hk => hk) trivial hlz (Nat.le_trans (Nat.mul_le_mul_right _ hl35) (by omega)) M0.out.base.bel (below_size M0.out.base.bel) ?_
        intro vr wm1 hr_ hb_ hg_ hn_
        rw [Int.toNat_natCast] at hr_
        obtain ⟨ga1, cr1, hv_, _, _, _⟩ := Kd.R_form hr_ (by rw [List.length_replicate]; exact HL0.out)
        rw [List.length_replicate] at hv_
        subst hv_
        have hge_ : w12.drew.heap.size ≤ ga1 := by obtain ⟨b_, e_, h_⟩ := hn_; cases e_; exact h_
        have M1 := Aside0.mk (M0.out.addRow (impl_BestMarks.below_of_grown hg_ M0.out.base.bel hb_) hge_ hr_)
        clear hr_ hb_ hg_ hn_ hge_
        refine hK.out _ _ ((blk_cell M1.out.base.k7 0).trans rfl) (fun hHeld => ?_)
        clear hK K
        refine norm_ (a' := ?_) ?_ ?_
        rotate_left
        · show Act.put _ (some 34) _ = _
          simp only [Act.put, List.setIfInBounds_toArray, List.set_cons_zero, List.set_cons_succ, i64_w, i32_w]
          rfl
        refine two_ (i := 4) (j := 5) (Ni := some 10) (Nj := some 11) #[true, true, true, true, true, false, false, false] #[true, true, true, true, false, true, false, false] rfl rfl rfl rfl (two_of HT_.out (by kernel_rfl)) (by decide) (by decide) (fun K hK => ?_) (fun K hK => ?_)
        · skip
          refine boxed_step (cs := #[.slice none 0 0, .slice none 0 0, .int .i64 0, .int .i64 0]) (t := 31) (by rfl) rfl ?_ ?_
          · first | (go_simp; done) | (go_simp; rfl)
          intro gb2 hg_ wm2 hw_
          have M2 : Aside0 (impl_BestMarks.MK a0 a1 A2 c2 l2 A3 c3 l3 w g4 g5 g6 g7 g8 (some (ga1, cr1)) (some (gb2, false)) none wm2) := ⟨by rw [hg_, hw_]; exact M1.out.addBest⟩
          clear hg_ hw_
          refine hK.out _ _ ((blk_cell M2.out.base.k7 0).trans rfl) (fun hHeld => ?_)
          clear hK K
          refine norm_ (a' := ?_) ?_ ?_
          rotate_left
          · show Act.put _ (some 10) _ = _
            simp only [Act.put, List.setIfInBounds_toArray, List.set_cons_zero, List.set_cons_succ, i64_w, i32_w]
            rfl
          refine one_ (i := 5) (N := some 11) #[true, true, true, true, true, true, false, false] rfl rfl (one_of HT_.out (by kernel_rfl)) (by decide) (fun K hK => ?_)
          refine boxed_step (cs := #[.slice none 0 0]) (t := 26) (by rfl) rfl ?_ ?_
          · first | (go_simp; done) | (go_simp; rfl)
          intro gd3 hg_ wm3 hw_
          have M3 : Aside0 (impl_BestMarks.MK a0 a1 A2 c2 l2 A3 c3 l3 w g4 g5 g6 g7 g8 (some (ga1, cr1)) (some (gb2, false)) (some gd3) wm3) := ⟨by rw [hg_, hw_]; exact M2.out.addVar⟩
          clear hg_ hw_
          refine hK.out _ _ ((blk_cell M3.out.base.k7 0).trans rfl) (fun hHeld => ?_)
          clear hK K
          refine norm_ (a' := ?_) ?_ ?_
          rotate_left
          · show Act.put _ (some 11) _ = _
            simp only [Act.put, List.setIfInBounds_toArray, List.set_cons_zero, List.set_cons_succ, i64_w, i32_w]
            rfl
          refine one_ (i := 6) (N := none) #[true, true, true, true, true, true, true, false] rfl rfl (one_of HT_.out (by kernel_rfl)) (by decide) (fun K hK => ?_)
          have z0 : wm3.cell? ⟨gb2, 0, none⟩ = some (.slice none 0 0) := (blk_cell (M3.out.best _ _ rfl).2 0).trans rfl
          have f0 := blk_frozen (M3.out.best _ _ rfl).2 0
          have z1 : wm3.cell? ⟨gb2, 1, none⟩ = some (.slice none 0 0) := (blk_cell (M3.out.best _ _ rfl).2 1).trans rfl
          have f1 := blk_frozen (M3.out.best _ _ rfl).2 1
          have z2 : wm3.cell? ⟨gb2, 2, none⟩ = some (.int .i64 0) := (blk_cell (M3.out.best _ _ rfl).2 2).trans rfl
          have f2 := blk_frozen (M3.out.best _ _ rfl).2 2
          have z3 : wm3.cell? ⟨gb2, 3, none⟩ = some (.int .i64 0) := (blk_cell (M3.out.best _ _ rfl).2 3).trans rfl
          have f3 := blk_frozen (M3.out.best _ _ rfl).2 3
          refine stored_step (w1 := ((((wm3.setCell ⟨gb2, 0, none⟩ (.slice none 0 0)).setCell ⟨gb2, 1, none⟩ (.slice none 0 0)).setCell ⟨gb2, 2, none⟩ (.int .i64 (-1))).setCell ⟨gb2, 3, none⟩ (.int .i64 0))) (by rfl) rfl ?_ ?_
          · first | (go_simp; done) | (go_simp; rfl)
          intro wm4 hw_
          have M4 : Aside0 (impl_BestMarks.MK a0 a1 A2 c2 l2 A3 c3 l3 w g4 g5 g6 g7 g8 (some (ga1, cr1)) (some (gb2, true)) (some gd3) wm4) := ⟨by rw [hw_]; exact M3.out.putBest⟩
          clear hw_ z0 z1 z2 z3 f0 f1 f2 f3
          refine hK.out _ _ ((blk_cell M4.out.base.k7 0).trans rfl) (fun hHeld => ?_)
          clear hK K
          exact norm_ (by first | (simp only [putAll, Act.put, List.setIfInBounds_toArray, List.set_cons_zero, List.set_cons_succ]; done) | (simp only [putAll, Act.put, List.setIfInBounds_toArray, List.set_cons_zero, List.set_cons_succ]; rfl)) (hCont (ga1, cr1, gb2, gd3) _ M4.out)
        · skip
          refine boxed_step (cs := #[.slice none 0 0]) (t := 26) (by rfl) rfl ?_ ?_
          · first | (go_simp; done) | (go_simp; rfl)
          intro gd5 hg_ wm5 hw_
          have M5 : Aside0 (impl_BestMarks.MK a0 a1 A2 c2 l2 A3 c3 l3 w g4 g5 g6 g7 g8 (some (ga1, cr1)) none (some gd5) wm5) := ⟨by rw [hg_, hw_]; exact M1.out.addVar⟩
          clear hg_ hw_
          refine hK.out _ _ ((blk_cell M5.out.base.k7 0).trans rfl) (fun hHeld => ?_)
          clear hK K
          refine norm_ (a' := ?_) ?_ ?_
          rotate_left
          · show Act.put _ (some 11) _ = _
            simp only [Act.put, List.setIfInBounds_toArray, List.set_cons_zero, List.set_cons_succ, i64_w, i32_w]
            rfl
          refine one_ (i := 4) (N := some 10) #[true, true, true, true, true, true, false, false] rfl rfl (one_of HT_.out (by kernel_rfl)) (by decide) (fun K hK => ?_)
          refine boxed_step (cs := #[.slice none 0 0, .slice none 0 0, .int .i64 0, .int .i64 0]) (t := 31) (by rfl) rfl ?_ ?_
          · first | (go_simp; done) | (go_simp; rfl)
          intro gb6 hg_ wm6 hw_
          have M6 : Aside0 (impl_BestMarks.MK a0 a1 A2 c2 l2 A3 c3 l3 w g4 g5 g6 g7 g8 (some (ga1, cr1)) (some (gb6, false)) (some gd5) wm6) := ⟨by rw [hg_, hw_]; exact M5.out.addBest⟩
          clear hg_ hw_
          refine hK.out _ _ ((blk_cell M6.out.base.k7 0).trans rfl) (fun hHeld => ?_)
          clear hK K
          refine norm_ (a' := ?_) ?_ ?_
          rotate_left
          · show Act.put _ (some 10) _ = _
            simp only [Act.put, List.setIfInBounds_toArray, List.set_cons_zero, List.set_cons_succ, i64_w, i32_w]
            rfl
          refine one_ (i := 6) (N := none) #[true, true, true, true, true, true, true, false] rfl rfl (one_of HT_.out (by kernel_rfl)) (by decide) (fun K hK => ?_)
          have z0 : wm6.cell? ⟨gb6, 0, none⟩ = some (.slice none 0 0) := (blk_cell (M6.out.best _ _ rfl).2 0).trans rfl
          have f0 := blk_frozen (M6.out.best _ _ rfl).2 0
          have z1 : wm6.cell? ⟨gb6, 1, none⟩ = some (.slice none 0 0) := (blk_cell (M6.out.best _ _ rfl).2 1).trans rfl
          have f1 := blk_frozen (M6.out.best _ _ rfl).2 1
          have z2 : wm6.cell? ⟨gb6, 2, none⟩ = some (.int .i64 0) := (blk_cell (M6.out.best _ _ rfl).2 2).trans rfl
          have f2 := blk_frozen (M6.out.best _ _ rfl).2 2
          have z3 : wm6.cell? ⟨gb6, 3, none⟩ = some (.int .i64 0) := (blk_cell (M6.out.best _ _ rfl).2 3).trans rfl
          have f3 := blk_frozen (M6.out.best _ _ rfl).2 3
          refine stored_step (w1 := ((((wm6.setCell ⟨gb6, 0, none⟩ (.slice none 0 0)).setCell ⟨gb6, 1, none⟩ (.slice none 0 0)).setCell ⟨gb6, 2, none⟩ (.int .i64 (-1))).setCell ⟨gb6, 3, none⟩ (.int .i64 0))) (by rfl) rfl ?_ ?_
          · first | (go_simp; done) | (go_simp; rfl)
          intro wm7 hw_
          have M7 : Aside0 (impl_BestMarks.MK a0 a1 A2 c2 l2 A3 c3 l3 w g4 g5 g6 g7 g8 (some (ga1, cr1)) (some (gb6, true)) (some gd5) wm7) := ⟨by rw [hw_]; exact M6.out.putBest⟩
          clear hw_ z0 z1 z2 z3 f0 f1 f2 f3
          refine hK.out _ _ ((blk_cell M7.out.base.k7 0).trans rfl) (fun hHeld => ?_)
          clear hK K
          exact norm_ (by first | (simp only [putAll, Act.put, List.setIfInBounds_toArray, List.set_cons_zero, List.set_cons_succ]; done) | (simp only [putAll, Act.put, List.setIfInBounds_toArray, List.set_cons_zero, List.set_cons_succ]; rfl)) (hCont (ga1, cr1, gb6, gd5) _ M7.out)
      · skip
        refine boxed_step (cs := #[.slice none 0 0, .slice none 0 0, .int .i64 0, .int .i64 0]) (t := 31) (by rfl) rfl ?_ ?_
        · first | (go_simp; done) | (go_simp; rfl)
        intro gb8 hg_ wm8 hw_
        have M8 : Aside0 (impl_BestMarks.MK a0 a1 A2 c2 l2 A3 c3 l3 w g4 g5 g6 g7 g8 none (some (gb8, false)) none wm8) := ⟨by rw [hg_, hw_]; exact M0.out.addBest⟩
        clear hg_ hw_
        refine hK.out _ _ ((blk_cell M8.out.base.k7 0).trans rfl) (fun hHeld => ?_)
        clear hK K
        refine norm_ (a' := ?_) ?_ ?_
        rotate_left
        · show Act.put _ (some 10) _ = _
          simp only [Act.put, List.setIfInBounds_toArray, List.set_cons_zero, List.set_cons_succ, i64_w, i32_w]
          rfl
        refine two_ (i := 3) (j := 5) (Ni := some 34) (Nj := some 11) #[true, true, true, true, true, false, false, false] #[true, true, true, false, true, true, false, false] rfl rfl rfl rfl (two_of HT_.out (by kernel_rfl)) (by decide) (by decide) (fun K hK => ?_) (fun K hK => ?_)
        · skip
          refine Kd.R_make_step (Kd.int .i64) (w0 := w) w.heap.size 3 (by rfl) (N := 34) rfl 26 _ _ rfl (l3.length : Int) rfl rfl Try.underlying26 (.int .i64 0) 8 info3 rfl (by decide) (by omega) 0 (ok := fun _ => True) (okp := fun _ => True) rfl (fun _ hk => hk) trivial hlz (Nat.le_trans (Nat.mul_le_mul_right _ hl35) (by omega)) M8.out.base.bel (below_size M8.out.base.bel) ?_
          intro vr wm9 hr_ hb_ hg_ hn_
          rw [Int.toNat_natCast] at hr_
          obtain ⟨ga9, cr9, hv_, _, _, _⟩ := Kd.R_form hr_ (by rw [List.length_replicate]; exact HL0.out)
          rw [List.length_replicate] at hv_
          subst hv_
          have hge_ : wm8.heap.size ≤ ga9 := by obtain ⟨b_, e_, h_⟩ := hn_; cases e_; exact h_
          have M9 := Aside0.mk (M8.out.addRow (impl_BestMarks.below_of_grown hg_ M8.out.base.bel hb_) hge_ hr_)
          clear hr_ hb_ hg_ hn_ hge_
          refine hK.out _ _ ((blk_cell M9.out.base.k7 0).trans rfl) (fun hHeld => ?_)
          clear hK K
          refine norm_ (a' := ?_) ?_ ?_
          rotate_left
          · show Act.put _ (some 34) _ = _
            simp only [Act.put, List.setIfInBounds_toArray, List.set_cons_zero, List.set_cons_succ, i64_w, i32_w]
            rfl
          refine one_ (i := 5) (N := some 11) #[true, true, true, true, true, true, false, false] rfl rfl (one_of HT_.out (by kernel_rfl)) (by decide) (fun K hK => ?_)
          refine boxed_step (cs := #[.slice none 0 0]) (t := 26) (by rfl) rfl ?_ ?_
          · first | (go_simp; done) | (go_simp; rfl)
          intro gd10 hg_ wm10 hw_
          have M10 : Aside0 (impl_BestMarks.MK a0 a1 A2 c2 l2 A3 c3 l3 w g4 g5 g6 g7 g8 (some (ga9, cr9)) (some (gb8, false)) (some gd10) wm10) := ⟨by rw [hg_, hw_]; exact M9.out.addVar⟩
          clear hg_ hw_
          refine hK.out _ _ ((blk_cell M10.out.base.k7 0).trans rfl) (fun hHeld => ?_)
          clear hK K
          refine norm_ (a' := ?_) ?_ ?_
          rotate_left
          · show Act.put _ (some 11) _ = _
            simp only [Act.put, List.setIfInBounds_toArray, List.set_cons_zero, List.set_cons_succ, i64_w, i32_w]
            rfl
          refine one_ (i := 6) (N := none) #[true, true, true, true, true, true, true, false] rfl rfl (one_of HT_.out (by kernel_rfl)) (by decide) (fun K hK => ?_)
          have z0 : wm10.cell? ⟨gb8, 0, none⟩ = some (.slice none 0 0) := (blk_cell (M10.out.best _ _ rfl).2 0).trans rfl
          have f0 := blk_frozen (M10.out.best _ _ rfl).2 0
          have z1 : wm10.cell? ⟨gb8, 1, none⟩ = some (.slice none 0 0) := (blk_cell (M10.out.best _ _ rfl).2 1).trans rfl
          have f1 := blk_frozen (M10.out.best _ _ rfl).2 1
          have z2 : wm10.cell? ⟨gb8, 2, none⟩ = some (.int .i64 0) := (blk_cell (M10.out.best _ _ rfl).2 2).trans rfl
          have f2 := blk_frozen (M10.out.best _ _ rfl).2 2
          have z3 : wm10.cell? ⟨gb8, 3, none⟩ = some (.int .i64 0) := (blk_cell (M10.out.best _ _ rfl).2 3).trans rfl
          have f3 := blk_frozen (M10.out.best _ _ rfl).2 3
          refine stored_step (w1 := ((((wm10.setCell ⟨gb8, 0, none⟩ (.slice none 0 0)).setCell ⟨gb8, 1, none⟩ (.slice none 0 0)).setCell ⟨gb8, 2, none⟩ (.int .i64 (-1))).setCell ⟨gb8, 3, none⟩ (.int .i64 0))) (by rfl) rfl ?_ ?_
          · first | (go_simp; done) | (go_simp; rfl)
          intro wm11 hw_
          have M11 : Aside0 (impl_BestMarks.MK a0 a1 A2 c2 l2 A3 c3 l3 w g4 g5 g6 g7 g8 (some (ga9, cr9)) (some (gb8, true)) (some gd10) wm11) := ⟨by rw [hw_]; exact M10.out.putBest⟩
          clear hw_ z0 z1 z2 z3 f0 f1 f2 f3
          refine hK.out _ _ ((blk_cell M11.out.base.k7 0).trans rfl) (fun hHeld => ?_)
          clear hK K
          exact norm_ (by first | (simp only [putAll, Act.put, List.setIfInBounds_toArray, List.set_cons_zero, List.set_cons_succ]; done) | (simp only [putAll, Act.put, List.setIfInBounds_toArray, List.set_cons_zero, List.set_cons_succ]; rfl)) (hCont (ga9, cr9, gb8, gd10) _ M11.out)
        · skip
          refine boxed_step (cs := #[.slice none 0 0]) (t := 26) (by rfl) rfl ?_ ?_
          · first | (go_simp; done) | (go_simp; rfl)
          intro gd12 hg_ wm12 hw_
          have M12 : Aside0 (impl_BestMarks.MK a0 a1 A2 c2 l2 A3 c3 l3 w g4 g5 g6 g7 g8 none (some (gb8, false)) (some gd12) wm12) := ⟨by rw [hg_, hw_]; exact M8.out.addVar⟩
          clear hg_ hw_
          refine hK.out _ _ ((blk_cell M12.out.base.k7 0).trans rfl) (fun hHeld => ?_)
          clear hK K
          refine norm_ (a' := ?_) ?_ ?_
          rotate_left
          · show Act.put _ (some 11) _ = _
            simp only [Act.put, List.setIfInBounds_toArray, List.set_cons_zero, List.set_cons_succ, i64_w, i32_w]
            rfl
          refine two_ (i := 3) (j := 6) (Ni := some 34) (Nj := none) #[true, true, true, true, true, true, false, false] #[true, true, true, false, true, true, true, false] rfl rfl rfl rfl (two_of HT_.out (by kernel_rfl)) (by decide) (by decide) (fun K hK => ?_) (fun K hK => ?_)
          · skip
            refine Kd.R_make_step (Kd.int .i64) (w0 := w) w.heap.size 3 (by rfl) (N := 34) rfl 26 _ _ rfl (l3.length : Int) rfl rfl Try.underlying26 (.int .i64 0) 8 info3 rfl (by decide) (by omega) 0 (ok := fun _ => True) (okp := fun _ => True) rfl (fun _ hk => hk) trivial hlz (Nat.le_trans (Nat.mul_le_mul_right _ hl35) (by omega)) M12.out.base.bel (below_size M12.out.base.bel) ?_
            intro vr wm13 hr_ hb_ hg_ hn_
            rw [Int.toNat_natCast] at hr_
            obtain ⟨ga13, cr13, hv_, _, _, _⟩ := Kd.R_form hr_ (by rw [List.length_replicate]; exact HL0.out)
            rw [List.length_replicate] at hv_
            subst hv_
            have hge_ : wm12.heap.size ≤ ga13 := by obtain ⟨b_, e_, h_⟩ := hn_; cases e_; exact h_
            have M13 := Aside0.mk (M12.out.addRow (impl_BestMarks.below_of_grown hg_ M12.out.base.bel hb_) hge_ hr_)
            clear hr_ hb_ hg_ hn_ hge_
            refine hK.out _ _ ((blk_cell M13.out.base.k7 0).trans rfl) (fun hHeld => ?_)
            clear hK K
            refine norm_ (a' := ?_) ?_ ?_
            rotate_left
            · show Act.put _ (some 34) _ = _
              simp only [Act.put, List.setIfInBounds_toArray, List.set_cons_zero, List.set_cons_succ, i64_w, i32_w]
              rfl
            refine one_ (i := 6) (N := none) #[true, true, true, true, true, true, true, false] rfl rfl (one_of HT_.out (by kernel_rfl)) (by decide) (fun K hK => ?_)
            have z0 : wm13.cell? ⟨gb8, 0, none⟩ = some (.slice none 0 0) := (blk_cell (M13.out.best _ _ rfl).2 0).trans rfl
            have f0 := blk_frozen (M13.out.best _ _ rfl).2 0
            have z1 : wm13.cell? ⟨gb8, 1, none⟩ = some (.slice none 0 0) := (blk_cell (M13.out.best _ _ rfl).2 1).trans rfl
            have f1 := blk_frozen (M13.out.best _ _ rfl).2 1
            have z2 : wm13.cell? ⟨gb8, 2, none⟩ = some (.int .i64 0) := (blk_cell (M13.out.best _ _ rfl).2 2).trans rfl
            have f2 := blk_frozen (M13.out.best _ _ rfl).2 2
            have z3 : wm13.cell? ⟨gb8, 3, none⟩ = some (.int .i64 0) := (blk_cell (M13.out.best _ _ rfl).2 3).trans rfl
            have f3 := blk_frozen (M13.out.best _ _ rfl).2 3
            refine stored_step (w1 := ((((wm13.setCell ⟨gb8, 0, none⟩ (.slice none 0 0)).setCell ⟨gb8, 1, none⟩ (.slice none 0 0)).setCell ⟨gb8, 2, none⟩ (.int .i64 (-1))).setCell ⟨gb8, 3, none⟩ (.int .i64 0))) (by rfl) rfl ?_ ?_
            · first | (go_simp; done) | (go_simp; rfl)
            intro wm14 hw_
            have M14 : Aside0 (impl_BestMarks.MK a0 a1 A2 c2 l2 A3 c3 l3 w g4 g5 g6 g7 g8 (some (ga13, cr13)) (some (gb8, true)) (some gd12) wm14) := ⟨by rw [hw_]; exact M13.out.putBest⟩
            clear hw_ z0 z1 z2 z3 f0 f1 f2 f3
            refine hK.out _ _ ((blk_cell M14.out.base.k7 0).trans rfl) (fun hHeld => ?_)
            clear hK K
            exact norm_ (by first | (simp only [putAll, Act.put, List.setIfInBounds_toArray, List.set_cons_zero, List.set_cons_succ]; done) | (simp only [putAll, Act.put, List.setIfInBounds_toArray, List.set_cons_zero, List.set_cons_succ]; rfl)) (hCont (ga13, cr13, gb8, gd12) _ M14.out)
          · skip
            have z0 : wm12.cell? ⟨gb8, 0, none⟩ = some (.slice none 0 0) := (blk_cell (M12.out.best _ _ rfl).2 0).trans rfl
            have f0 := blk_frozen (M12.out.best _ _ rfl).2 0
            have z1 : wm12.cell? ⟨gb8, 1, none⟩ = some (.slice none 0 0) := (blk_cell (M12.out.best _ _ rfl).2 1).trans rfl
            have f1 := blk_frozen (M12.out.best _ _ rfl).2 1
            have z2 : wm12.cell? ⟨gb8, 2, none⟩ = some (.int .i64 0) := (blk_cell (M12.out.best _ _ rfl).2 2).trans rfl
            have f2 := blk_frozen (M12.out.best _ _ rfl).2 2
            have z3 : wm12.cell? ⟨gb8, 3, none⟩ = some (.int .i64 0) := (blk_cell (M12.out.best _ _ rfl).2 3).trans rfl
            have f3 := blk_frozen (M12.out.best _ _ rfl).2 3
            refine stored_step (w1 := ((((wm12.setCell ⟨gb8, 0, none⟩ (.slice none 0 0)).setCell ⟨gb8, 1, none⟩ (.slice none 0 0)).setCell ⟨gb8, 2, none⟩ (.int .i64 (-1))).setCell ⟨gb8, 3, none⟩ (.int .i64 0))) (by rfl) rfl ?_ ?_
            · first | (go_simp; done) | (go_simp; rfl)
            intro wm15 hw_
            have M15 : Aside0 (impl_BestMarks.MK a0 a1 A2 c2 l2 A3 c3 l3 w g4 g5 g6 g7 g8 none (some (gb8, true)) (some gd12) wm15) := ⟨by rw [hw_]; exact M12.out.putBest⟩
            clear hw_ z0 z1 z2 z3 f0 f1 f2 f3
            refine hK.out _ _ ((blk_cell M15.out.base.k7 0).trans rfl) (fun hHeld => ?_)
            clear hK K
            refine one_ (i := 3) (N := some 34) #[true, true, true, true, true, true, true, false] rfl rfl (one_of HT_.out (by kernel_rfl)) (by decide) (fun K hK => ?_)
            refine Kd.R_make_step (Kd.int .i64) (w0 := w) w.heap.size 3 (by rfl) (N := 34) rfl 26 _ _ rfl (l3.length : Int) rfl rfl Try.underlying26 (.int .i64 0) 8 info3 rfl (by decide) (by omega) 0 (ok := fun _ => True) (okp := fun _ => True) rfl (fun _ hk => hk) trivial hlz (Nat.le_trans (Nat.mul_le_mul_right _ hl35) (by omega)) M15.out.base.bel (below_size M15.out.base.bel) ?_
            intro vr wm16 hr_ hb_ hg_ hn_
            rw [Int.toNat_natCast] at hr_
            obtain ⟨ga16, cr16, hv_, _, _, _⟩ := Kd.R_form hr_ (by rw [List.length_replicate]; exact HL0.out)
            rw [List.length_replicate] at hv_
            subst hv_
            have hge_ : wm15.heap.size ≤ ga16 := by obtain ⟨b_, e_, h_⟩ := hn_; cases e_; exact h_
            have M16 := Aside0.mk (M15.out.addRow (impl_BestMarks.below_of_grown hg_ M15.out.base.bel hb_) hge_ hr_)
            clear hr_ hb_ hg_ hn_ hge_
            refine hK.out _ _ ((blk_cell M16.out.base.k7 0).trans rfl) (fun hHeld => ?_)
            clear hK K
            refine norm_ (a' := ?_) ?_ ?_
            rotate_left
            · show Act.put _ (some 34) _ = _
              simp only [Act.put, List.setIfInBounds_toArray, List.set_cons_zero, List.set_cons_succ, i64_w, i32_w]
              rfl
            exact norm_ (by first | (simp only [putAll, Act.put, List.setIfInBounds_toArray, List.set_cons_zero, List.set_cons_succ]; done) | (simp only [putAll, Act.put, List.setIfInBounds_toArray, List.set_cons_zero, List.set_cons_succ]; rfl)) (hCont (ga16, cr16, gb8, gd12) _ M16.out)
      · skip
        refine boxed_step (cs := #[.slice none 0 0]) (t := 26) (by rfl) rfl ?_ ?_
        · first | (go_simp; done) | (go_simp; rfl)
        intro gd17 hg_ wm17 hw_
        have M17 : Aside0 (impl_BestMarks.MK a0 a1 A2 c2 l2 A3 c3 l3 w g4 g5 g6 g7 g8 none none (some gd17) wm17) := ⟨by rw [hg_, hw_]; exact M0.out.addVar⟩
        clear hg_ hw_
        refine hK.out _ _ ((blk_cell M17.out.base.k7 0).trans rfl) (fun hHeld => ?_)
        clear hK K
        refine norm_ (a' := ?_) ?_ ?_
        rotate_left
        · show Act.put _ (some 11) _ = _
          simp only [Act.put, List.setIfInBounds_toArray, List.set_cons_zero, List.set_cons_succ, i64_w, i32_w]
          rfl
        refine two_ (i := 3) (j := 4) (Ni := some 34) (Nj := some 10) #[true, true, true, true, false, true, false, false] #[true, true, true, false, true, true, false, false] rfl rfl rfl rfl (two_of HT_.out (by kernel_rfl)) (by decide) (by decide) (fun K hK => ?_) (fun K hK => ?_)
        · skip
          refine Kd.R_make_step (Kd.int .i64) (w0 := w) w.heap.size 3 (by rfl) (N := 34) rfl 26 _ _ rfl (l3.length : Int) rfl rfl Try.underlying26 (.int .i64 0) 8 info3 rfl (by decide) (by omega) 0 (ok := fun _ => True) (okp := fun _ => True) rfl (fun _ hk => hk) trivial hlz (Nat.le_trans (Nat.mul_le_mul_right _ hl35) (by omega)) M17.out.base.bel (below_size M17.out.base.bel) ?_
          intro vr wm18 hr_ hb_ hg_ hn_
          rw [Int.toNat_natCast] at hr_
          obtain ⟨ga18, cr18, hv_, _, _, _⟩ := Kd.R_form hr_ (by rw [List.length_replicate]; exact HL0.out)
          rw [List.length_replicate] at hv_
          subst hv_
          have hge_ : wm17.heap.size ≤ ga18 := by obtain ⟨b_, e_, h_⟩ := hn_; cases e_; exact h_
          have M18 := Aside0.mk (M17.out.addRow (impl_BestMarks.below_of_grown hg_ M17.out.base.bel hb_) hge_ hr_)
          clear hr_ hb_ hg_ hn_ hge_
          refine hK.out _ _ ((blk_cell M18.out.base.k7 0).trans rfl) (fun hHeld => ?_)
          clear hK K
          refine norm_ (a' := ?_) ?_ ?_
          rotate_left
          · show Act.put _ (some 34) _ = _
            simp only [Act.put, List.setIfInBounds_toArray, List.set_cons_zero, List.set_cons_succ, i64_w, i32_w]
            rfl
          refine one_ (i := 4) (N := some 10) #[true, true, true, true, true, true, false, false] rfl rfl (one_of HT_.out (by kernel_rfl)) (by decide) (fun K hK => ?_)
          refine boxed_step (cs := #[.slice none 0 0, .slice none 0 0, .int .i64 0, .int .i64 0]) (t := 31) (by rfl) rfl ?_ ?_
          · first | (go_simp; done) | (go_simp; rfl)
          intro gb19 hg_ wm19 hw_
          have M19 : Aside0 (impl_BestMarks.MK a0 a1 A2 c2 l2 A3 c3 l3 w g4 g5 g6 g7 g8 (some (ga18, cr18)) (some (gb19, false)) (some gd17) wm19) := ⟨by rw [hg_, hw_]; exact M18.out.addBest⟩
          clear hg_ hw_
          refine hK.out _ _ ((blk_cell M19.out.base.k7 0).trans rfl) (fun hHeld => ?_)
          clear hK K
          refine norm_ (a' := ?_) ?_ ?_
          rotate_left
          · show Act.put _ (some 10) _ = _
            simp only [Act.put, List.setIfInBounds_toArray, List.set_cons_zero, List.set_cons_succ, i64_w, i32_w]
            rfl
          refine one_ (i := 6) (N := none) #[true, true, true, true, true, true, true, false] rfl rfl (one_of HT_.out (by kernel_rfl)) (by decide) (fun K hK => ?_)
          have z0 : wm19.cell? ⟨gb19, 0, none⟩ = some (.slice none 0 0) := (blk_cell (M19.out.best _ _ rfl).2 0).trans rfl
          have f0 := blk_frozen (M19.out.best _ _ rfl).2 0
          have z1 : wm19.cell? ⟨gb19, 1, none⟩ = some (.slice none 0 0) := (blk_cell (M19.out.best _ _ rfl).2 1).trans rfl
          have f1 := blk_frozen (M19.out.best _ _ rfl).2 1
          have z2 : wm19.cell? ⟨gb19, 2, none⟩ = some (.int .i64 0) := (blk_cell (M19.out.best _ _ rfl).2 2).trans rfl
          have f2 := blk_frozen (M19.out.best _ _ rfl).2 2
          have z3 : wm19.cell? ⟨gb19, 3, none⟩ = some (.int .i64 0) := (blk_cell (M19.out.best _ _ rfl).2 3).trans rfl
          have f3 := blk_frozen (M19.out.best _ _ rfl).2 3
          refine stored_step (w1 := ((((wm19.setCell ⟨gb19, 0, none⟩ (.slice none 0 0)).setCell ⟨gb19, 1, none⟩ (.slice none 0 0)).setCell ⟨gb19, 2, none⟩ (.int .i64 (-1))).setCell ⟨gb19, 3, none⟩ (.int .i64 0))) (by rfl) rfl ?_ ?_
          · first | (go_simp; done) | (go_simp; rfl)
          intro wm20 hw_
          have M20 : Aside0 (impl_BestMarks.MK a0 a1 A2 c2 l2 A3 c3 l3 w g4 g5 g6 g7 g8 (some (ga18, cr18)) (some (gb19, true)) (some gd17) wm20) := ⟨by rw [hw_]; exact M19.out.putBest⟩
          clear hw_ z0 z1 z2 z3 f0 f1 f2 f3
          refine hK.out _ _ ((blk_cell M20.out.base.k7 0).trans rfl) (fun hHeld => ?_)
          clear hK K
          exact norm_ (by first | (simp only [putAll, Act.put, List.setIfInBounds_toArray, List.set_cons_zero, List.set_cons_succ]; done) | (simp only [putAll, Act.put, List.setIfInBounds_toArray, List.set_cons_zero, List.set_cons_succ]; rfl)) (hCont (ga18, cr18, gb19, gd17) _ M20.out)
        · skip
          refine boxed_step (cs := #[.slice none 0 0, .slice none 0 0, .int .i64 0, .int .i64 0]) (t := 31) (by rfl) rfl ?_ ?_
          · first | (go_simp; done) | (go_simp; rfl)
          intro gb21 hg_ wm21 hw_
          have M21 : Aside0 (impl_BestMarks.MK a0 a1 A2 c2 l2 A3 c3 l3 w g4 g5 g6 g7 g8 none (some (gb21, false)) (some gd17) wm21) := ⟨by rw [hg_, hw_]; exact M17.out.addBest⟩
          clear hg_ hw_
          refine hK.out _ _ ((blk_cell M21.out.base.k7 0).trans rfl) (fun hHeld => ?_)
          clear hK K
          refine norm_ (a' := ?_) ?_ ?_
          rotate_left
          · show Act.put _ (some 10) _ = _
            simp only [Act.put, List.setIfInBounds_toArray, List.set_cons_zero, List.set_cons_succ, i64_w, i32_w]
            rfl
          refine two_ (i := 3) (j := 6) (Ni := some 34) (Nj := none) #[true, true, true, true, true, true, false, false] #[true, true, true, false, true, true, true, false] rfl rfl rfl rfl (two_of HT_.out (by kernel_rfl)) (by decide) (by decide) (fun K hK => ?_) (fun K hK => ?_)
          · skip
            refine Kd.R_make_step (Kd.int .i64) (w0 := w) w.heap.size 3 (by rfl) (N := 34) rfl 26 _ _ rfl (l3.length : Int) rfl rfl Try.underlying26 (.int .i64 0) 8 info3 rfl (by decide) (by omega) 0 (ok := fun _ => True) (okp := fun _ => True) rfl (fun _ hk => hk) trivial hlz (Nat.le_trans (Nat.mul_le_mul_right _ hl35) (by omega)) M21.out.base.bel (below_size M21.out.base.bel) ?_
            intro vr wm22 hr_ hb_ hg_ hn_
            rw [Int.toNat_natCast] at hr_
            obtain ⟨ga22, cr22, hv_, _, _, _⟩ := Kd.R_form hr_ (by rw [List.length_replicate]; exact HL0.out)
            rw [List.length_replicate] at hv_
            subst hv_
            have hge_ : wm21.heap.size ≤ ga22 := by obtain ⟨b_, e_, h_⟩ := hn_; cases e_; exact h_
            have M22 := Aside0.mk (M21.out.addRow (impl_BestMarks.below_of_grown hg_ M21.out.base.bel hb_) hge_ hr_)
            clear hr_ hb_ hg_ hn_ hge_
            refine hK.out _ _ ((blk_cell M22.out.base.k7 0).trans rfl) (fun hHeld => ?_)
            clear hK K
            refine norm_ (a' := ?_) ?_ ?_
            rotate_left
            · show Act.put _ (some 34) _ = _
              simp only [Act.put, List.setIfInBounds_toArray, List.set_cons_zero, List.set_cons_succ, i64_w, i32_w]
              rfl
            refine one_ (i := 6) (N := none) #[true, true, true, true, true, true, true, false] rfl rfl (one_of HT_.out (by kernel_rfl)) (by decide) (fun K hK => ?_)
            have z0 : wm22.cell? ⟨gb21, 0, none⟩ = some (.slice none 0 0) := (blk_cell (M22.out.best _ _ rfl).2 0).trans rfl
            have f0 := blk_frozen (M22.out.best _ _ rfl).2 0
            have z1 : wm22.cell? ⟨gb21, 1, none⟩ = some (.slice none 0 0) := (blk_cell (M22.out.best _ _ rfl).2 1).trans rfl
            have f1 := blk_frozen (M22.out.best _ _ rfl).2 1
            have z2 : wm22.cell? ⟨gb21, 2, none⟩ = some (.int .i64 0) := (blk_cell (M22.out.best _ _ rfl).2 2).trans rfl
            have f2 := blk_frozen (M22.out.best _ _ rfl).2 2
            have z3 : wm22.cell? ⟨gb21, 3, none⟩ = some (.int .i64 0) := (blk_cell (M22.out.best _ _ rfl).2 3).trans rfl
            have f3 := blk_frozen (M22.out.best _ _ rfl).2 3
            refine stored_step (w1 := ((((wm22.setCell ⟨gb21, 0, none⟩ (.slice none 0 0)).setCell ⟨gb21, 1, none⟩ (.slice none 0 0)).setCell ⟨gb21, 2, none⟩ (.int .i64 (-1))).setCell ⟨gb21, 3, none⟩ (.int .i64 0))) (by rfl) rfl ?_ ?_
            · first | (go_simp; done) | (go_simp; rfl)
            intro wm23 hw_
            have M23 : Aside0 (impl_BestMarks.MK a0 a1 A2 c2 l2 A3 c3 l3 w g4 g5 g6 g7 g8 (some (ga22, cr22)) (some (gb21, true)) (some gd17) wm23) := ⟨by rw [hw_]; exact M22.out.putBest⟩
            clear hw_ z0 z1 z2 z3 f0 f1 f2 f3
            refine hK.out _ _ ((blk_cell M23.out.base.k7 0).trans rfl) (fun hHeld => ?_)
            clear hK K
            exact norm_ (by first | (simp only [putAll, Act.put, List.setIfInBounds_toArray, List.set_cons_zero, List.set_cons_succ]; done) | (simp only [putAll, Act.put, List.setIfInBounds_toArray, List.set_cons_zero, List.set_cons_succ]; rfl)) (hCont (ga22, cr22, gb21, gd17) _ M23.out)
          · skip
            have z0 : wm21.cell? ⟨gb21, 0, none⟩ = some (.slice none 0 0) := (blk_cell (M21.out.best _ _ rfl).2 0).trans rfl
            have f0 := blk_frozen (M21.out.best _ _ rfl).2 0
            have z1 : wm21.cell? ⟨gb21, 1, none⟩ = some (.slice none 0 0) := (blk_cell (M21.out.best _ _ rfl).2 1).trans rfl
            have f1 := blk_frozen (M21.out.best _ _ rfl).2 1
            have z2 : wm21.cell? ⟨gb21, 2, none⟩ = some (.int .i64 0) := (blk_cell (M21.out.best _ _ rfl).2 2).trans rfl
            have f2 := blk_frozen (M21.out.best _ _ rfl).2 2
            have z3 : wm21.cell? ⟨gb21, 3, none⟩ = some (.int .i64 0) := (blk_cell (M21.out.best _ _ rfl).2 3).trans rfl
            have f3 := blk_frozen (M21.out.best _ _ rfl).2 3
            refine stored_step (w1 := ((((wm21.setCell ⟨gb21, 0, none⟩ (.slice none 0 0)).setCell ⟨gb21, 1, none⟩ (.slice none 0 0)).setCell ⟨gb21, 2, none⟩ (.int .i64 (-1))).setCell ⟨gb21, 3, none⟩ (.int .i64 0))) (by rfl) rfl ?_ ?_
            · first | (go_simp; done) | (go_simp; rfl)
            intro wm24 hw_
            have M24 : Aside0 (impl_BestMarks.MK a0 a1 A2 c2 l2 A3 c3 l3 w g4 g5 g6 g7 g8 none (some (gb21, true)) (some gd17) wm24) := ⟨by rw [hw_]; exact M21.out.putBest⟩
            clear hw_ z0 z1 z2 z3 f0 f1 f2 f3
            refine hK.out _ _ ((blk_cell M24.out.base.k7 0).trans rfl) (fun hHeld => ?_)
            clear hK K
            refine one_ (i := 3) (N := some 34) #[true, true, true, true, true, true, true, false] rfl rfl (one_of HT_.out (by kernel_rfl)) (by decide) (fun K hK => ?_)
            refine Kd.R_make_step (Kd.int .i64) (w0 := w) w.heap.size 3 (by rfl) (N := 34) rfl 26 _ _ rfl (l3.length : Int) rfl rfl Try.underlying26 (.int .i64 0) 8 info3 rfl (by decide) (by omega) 0 (ok := fun _ => True) (okp := fun _ => True) rfl (fun _ hk => hk) trivial hlz (Nat.le_trans (Nat.mul_le_mul_right _ hl35) (by omega)) M24.out.base.bel (below_size M24.out.base.bel) ?_
            intro vr wm25 hr_ hb_ hg_ hn_
            rw [Int.toNat_natCast] at hr_
            obtain ⟨ga25, cr25, hv_, _, _, _⟩ := Kd.R_form hr_ (by rw [List.length_replicate]; exact HL0.out)
            rw [List.length_replicate] at hv_
            subst hv_
            have hge_ : wm24.heap.size ≤ ga25 := by obtain ⟨b_, e_, h_⟩ := hn_; cases e_; exact h_
            have M25 := Aside0.mk (M24.out.addRow (impl_BestMarks.below_of_grown hg_ M24.out.base.bel hb_) hge_ hr_)
            clear hr_ hb_ hg_ hn_ hge_
            refine hK.out _ _ ((blk_cell M25.out.base.k7 0).trans rfl) (fun hHeld => ?_)
            clear hK K
            refine norm_ (a' := ?_) ?_ ?_
            rotate_left
            · show Act.put _ (some 34) _ = _
              simp only [Act.put, List.setIfInBounds_toArray, List.set_cons_zero, List.set_cons_succ, i64_w, i32_w]
              rfl
            exact norm_ (by first | (simp only [putAll, Act.put, List.setIfInBounds_toArray, List.set_cons_zero, List.set_cons_succ]; done) | (simp only [putAll, Act.put, List.setIfInBounds_toArray, List.set_cons_zero, List.set_cons_succ]; rfl)) (hCont (ga25, cr25, gb21, gd17) _ M25.out)
    rintro ⟨gr, cr, gB, gS⟩ w13 M13
    have hHeld := hHeld
    refine norm_ (a' := ?_) ?_ ?_
    rotate_left
    · simp only [putAll, Act.put, List.setIfInBounds_toArray, List.set_cons_zero, List.set_cons_succ]
      rfl
    have HM := Aside0.mk (show impl_BestMarks.MK a0 a1 A2 c2 l2 A3 c3 l3 w g4 g5 g6 g7 g8 (some (gr, cr)) (some (gB, true)) (some gS) w13 from M13)
    clear M13 M0
    have z0 : w13.cell? ⟨gS, 0, none⟩ = some (.slice none 0 0) := (blk_cell (HM.out.var _ rfl).2 0).trans rfl
    have f0 := blk_frozen (HM.out.var _ rfl).2 0
    refine last_ (i := 7) (N := none) #[true, true, true, true, true, true, true, true] rfl rfl (one_of HT_.out (by kernel_rfl)) (by decide) (fun K hK => ?_)
    refine stored_step (w1 := (w13.setCell ⟨gS, 0, none⟩ (.slice (some ⟨gr, 0, none⟩) l3.length cr))) (by rfl) rfl ?_ ?_
    · first | (go_simp; done) | (go_simp; rfl)
    intro w14 hw_
    have HZ : Aside0 (impl_BestMarks.MZ a0 a1 A2 c2 l2 A3 c3 l3 w g4 g5 g6 g7 g8 gr cr gB gS w14) := ⟨by rw [hw_]; exact HM.out.putVar⟩
    clear hw_ HM z0 f0
    refine hK.out _ _ ?_
    clear hK K
    refine done_ (done_of HT_.out (by kernel_rfl)) ?_
    clear hHeld HT_ HW_
    have HSR := Aside0.mk H.out
    obtain ⟨b, hb0, hb1⟩ := Option.bind_eq_some_iff.mp HSR.out
    obtain ⟨rfl, rfl, rfl, rfl, rfl⟩ : b.1 = r1 ∧ b.2.1 = r2 ∧ b.2.2.1 = r3 ∧ b.2.2.2 = r4 ∧ (0 : Int) = r5 := by simpa using hb1
    obtain ⟨b1, b2, b3, b4⟩ := b
    have HT := Aside0.mk (show impl_BestMarks.try_ k a0 a1 l2 l3 ((impl_BestMarks.cands l2.length l3.length 0).map (([] : List Int) ++ ·)) ([], [], -1, 0) = some (b1, b2, b3, b4) by rw [show (fun x : List Int => ([] : List Int) ++ x) = id by funext x; rfl, List.map_id]; exact hb0)
    clear hb0 hb1 HSR H
    have HEF8 := Aside0.mk (blk_lt HZ.out.base.k8)
    have HW8 : Aside0 (w.heap.size ≤ g8) := ⟨by have := HZ.out.base.o; omega⟩
    go_wp2_with (first
      | ((with_reducible refine gate_dst (N := 12) rfl ?_); refine box_event ?hg (N := 12) ?hd (cs := #[.nilFunc]) (t := 59) ?hr ?_; (case hd => rfl); (case hg => rfl); (case hr => first | (go_simp; done) | (go_simp; rfl)); intro gT hg w15 hbox hb; have HBX := Aside0.mk hbox; have HG := Aside0.mk (Nat.le_of_eq hg.symm); have HB5 := Aside0.mk hb; clear hg hbox hb; have hst : (store ⟨gT, 0, none⟩ (.func (.func 40) #[] #[.pointer (some ⟨g7, 0, none⟩), .pointer (some ⟨g4, 0, none⟩), .pointer (some ⟨g5, 0, none⟩), .pointer (some ⟨g6, 0, none⟩), .pointer (some ⟨gS, 0, none⟩), .pointer (some ⟨gB, 0, none⟩), .pointer (some ⟨gT, 0, none⟩)])).run Try.prog w15 = .ok () (w15.setCell ⟨gT, 0, none⟩ (.func (.func 40) #[] #[.pointer (some ⟨g7, 0, none⟩), .pointer (some ⟨g4, 0, none⟩), .pointer (some ⟨g5, 0, none⟩), .pointer (some ⟨g6, 0, none⟩), .pointer (some ⟨gS, 0, none⟩), .pointer (some ⟨gB, 0, none⟩), .pointer (some ⟨gT, 0, none⟩)])) := (by have z_ := (blk_cell HBX.out 0).trans rfl; have f_ := blk_frozen HBX.out 0; rw [run_store _ _ _ _ _ rfl]; simp [stored, z_, f_]))
      | ((with_reducible refine gate_store (t := 59) (p := 12) rfl ?_); refine store_event (t := 59) (p := 12) (v := ?vo_w2) (w1 := (w15.setCell ⟨gT, 0, none⟩ (.func (.func 40) #[] #[.pointer (some ⟨g7, 0, none⟩), .pointer (some ⟨g4, 0, none⟩), .pointer (some ⟨g5, 0, none⟩), .pointer (some ⟨g6, 0, none⟩), .pointer (some ⟨gS, 0, none⟩), .pointer (some ⟨gB, 0, none⟩), .pointer (some ⟨gT, 0, none⟩)]))) ?hg ?ho ?hn ?hr ?_; (case ho => rfl); (case hg => rfl); (case hn => rfl); (case hr => first | (go_simp; done) | (go_simp; rfl)); intro w16 hw; have hx16 := (show w16.heap[gT]? = some (.cells #[.func (.func 40) #[] #[.pointer (some ⟨g7, 0, none⟩), .pointer (some ⟨g4, 0, none⟩), .pointer (some ⟨g5, 0, none⟩), .pointer (some ⟨g6, 0, none⟩), .pointer (some ⟨gS, 0, none⟩), .pointer (some ⟨gB, 0, none⟩), .pointer (some ⟨gT, 0, none⟩)]] 59 (0, 0)) by rw [hw]; exact blk_put HBX.out 0 _ rfl); have hb16 : Below w14.heap.size w14 w16 := (by rw [hw]; exact below_set HB5.out HG.out); have HEF := Aside0.mk (HZ.out.env HG.out hb16 hx16); clear hw hx16 hb16 hst HBX HB5 HG HZ; have c12 := HEF.out.1.cT)
      | (go_at_call 40; refine (impl_BestMarks.search k HEF.out.2 HR2.out HC2.out HR3.out HC3.out D1.out D2.out l3.length 0 0 [] (List.replicate l3.length 0) ([], [], -1, 0) (b1, b2, b3, b4) _ (by omega) rfl HEF.out.1 HT.out).mono ?_; rintro e w20 ⟨rfl, S2, _, hE⟩; obtain ⟨u1, u2, hB, ru1, ru2⟩ := hE.best; obtain ⟨A4, c4, e4⟩ := Kd.R_slice ru1; obtain ⟨A5, c5, e5⟩ := Kd.R_slice ru2; subst e4; subst e5; have HF := Aside0.mk HEF.out.2; have HE := Aside0.mk hE; have HBB := Aside0.mk hB; have HU1 := Aside0.mk ru1; have HU2 := Aside0.mk ru2; clear hE hB ru1 ru2 HEF c12; have y0 : w20.cell? ⟨gB, 0, none⟩ = some (.slice A4 b1.length c4) := (blk_cell HBB.out 0).trans rfl; have y1 : w20.cell? ⟨gB, 1, none⟩ = some (.slice A5 b2.length c5) := (blk_cell HBB.out 1).trans rfl; have y2 : w20.cell? ⟨gB, 2, none⟩ = some (.int .i64 b3) := (blk_cell HBB.out 2).trans rfl; have y3 : w20.cell? ⟨gB, 3, none⟩ = some (.int .i64 b4) := (blk_cell HBB.out 3).trans rfl; have z0 : w20.cell? ⟨g8, 0, none⟩ = some (.slice none 0 0) := (blk_cell HE.out.c8 0).trans rfl; have z1 : w20.cell? ⟨g8, 1, none⟩ = some (.slice none 0 0) := (blk_cell HE.out.c8 1).trans rfl; have z2 : w20.cell? ⟨g8, 2, none⟩ = some (.int .i64 0) := (blk_cell HE.out.c8 2).trans rfl; have z3 : w20.cell? ⟨g8, 3, none⟩ = some (.int .i64 0) := (blk_cell HE.out.c8 3).trans rfl; have f0 := blk_frozen HE.out.c8 0; have f1 := blk_frozen HE.out.c8 1; have f2 := blk_frozen HE.out.c8 2; have f3 := blk_frozen HE.out.c8 3))
    refine bodyPost_ret (results_ct rfl _ _ g8 31 #[.slice A4 b1.length c4, .slice A5 b2.length c5, .int .i64 b3, .int .i64 b4] (0, 0) _ rfl (by (with_reducible repeat (first | refine blk_drewN ?_ _ | refine blk_drew ?_ | refine blk_alloc ?_ _)); refine blk_put (cs := #[.slice A4 b1.length c4, .slice A5 b2.length c5, .int .i64 b3, .int .i64 0]) ?_ 3 _ rfl; (with_reducible repeat (first | refine blk_drewN ?_ _ | refine blk_drew ?_ | refine blk_alloc ?_ _)); refine blk_put (cs := #[.slice A4 b1.length c4, .slice A5 b2.length c5, .int .i64 0, .int .i64 0]) ?_ 2 _ rfl; (with_reducible repeat (first | refine blk_drewN ?_ _ | refine blk_drew ?_ | refine blk_alloc ?_ _)); refine blk_put (cs := #[.slice A4 b1.length c4, .slice none 0 0, .int .i64 0, .int .i64 0]) ?_ 1 _ rfl; (with_reducible repeat (first | refine blk_drewN ?_ _ | refine blk_drew ?_ | refine blk_alloc ?_ _)); refine blk_put (cs := #[.slice none 0 0, .slice none 0 0, .int .i64 0, .int .i64 0]) ?_ 0 _ rfl; (with_reducible repeat (first | refine blk_drewN ?_ _ | refine blk_drew ?_ | refine blk_alloc ?_ _)); exact HE.out.c8) Try.underlying31 rfl (by kernel_rfl)) rfl ?_
    have h8 : g8 < w14.heap.size := HEF8.out
    have hn8 : ∀ {q : Nat → Prop} (k_ : Nat), (w14.heap.size ≤ k_ ∧ q k_) → k_ ≠ g8 := fun k_ hk e_ => by have := hk.1; omega
    exact ⟨_, _, by first | rfl | (simp; done), Kd.R_mono (Kd.R_far (p := ⟨g8, 3, none⟩) (Kd.R_far (p := ⟨g8, 2, none⟩) (Kd.R_far (p := ⟨g8, 1, none⟩) (Kd.R_far (p := ⟨g8, 0, none⟩) HU1.out hn8 _) hn8 _) hn8 _) hn8 _) (fun _ hk => hk.2), Kd.R_mono (Kd.R_far (p := ⟨g8, 3, none⟩) (Kd.R_far (p := ⟨g8, 2, none⟩) (Kd.R_far (p := ⟨g8, 1, none⟩) (Kd.R_far (p := ⟨g8, 0, none⟩) HU2.out hn8 _) hn8 _) hn8 _) hn8 _) (fun _ hk => hk.2), below_set (below_set (below_set (below_set HE.out.bel HW8.out) HW8.out) HW8.out) HW8.out⟩


end Go.Proofs.Ytehjdodmgephiaa.XFnExactBestMarks
