-- PRINTED by xprint.py (our own program, over the kit's print.py)
import Derived.Test.YtnpfeigdghecfaaXFnExactMergeEventsx0
import Derived.Test.YtnpfeigdghecfaaXFnExactMergeEventsx8
import Derived.Test.YtnpfeigdghecfaaXFnExactMergeEventsx9
import Derived.Test.YtnpfeigdghecfaaPu
namespace Go.Proofs.Ytnpfeigdghecfaa.XFnExactMergeEvents
open Go.RowKit Go.Proofs.YtnpfeigdghecfaaW.PrintWords Go.Proofs.YtnpfeigdghecfaaW.PrintLast Go.Proofs.YtnpfeigdghecfaaW.PrintMore Go.Proofs.YtnpfeigdghecfaaW.Idx
attribute [local go_sem] max2_int min2_int max_two min_two max_three min_three max_four min_four   -- for this text's walks alone
set_option linter.unusedVariables false
set_option linter.unusedSimpArgs false

/-! ### impl_EventsOK: function 9 -/
def impl_EventsOK.l0 : Nat → List S40 → (Int → Int) → Int → Option Bool
 | 0, _, _, _ => none
 | k + 1, x0, m, i => if i < (x0.length : Int) then ((impl_isEvent.f k (rd_T40 x0 i).f0 (rd_T40 x0 i).f1 (rd_T40 x0 i).f2 (rd_T40 x0 i).f3 (rd_T40 x0 i).f4 (rd_T40 x0 i).f5).bind fun b => (if b = true then ((if 0 < i then (impl_compareEvents.f k (rd_T40 x0 (i - 1)).f0 (rd_T40 x0 (i - 1)).f1 (rd_T40 x0 (i - 1)).f2 (rd_T40 x0 (i - 1)).f3 (rd_T40 x0 (i - 1)).f4 (rd_T40 x0 (i - 1)).f5 (rd_T40 x0 i).f0 (rd_T40 x0 i).f1 (rd_T40 x0 i).f2 (rd_T40 x0 i).f3 (rd_T40 x0 i).f4 (rd_T40 x0 i).f5) else (some (-1))).bind fun c => (if c ≥ 0 then (some false) else (if (1 ≤ (rd_T40 x0 i).f0 ∧ (rd_T40 x0 i).f0 ≤ 9) ∧ (1 ≤ (rd_T40 x0 i).f1 ∧ (rd_T40 x0 i).f1 ≤ 120) then (if m (rd_T40 x0 i).f0 ≥ (rd_T40 x0 i).f1 then (some false) else (impl_EventsOK.l0 k x0 (fun s => if s = (rd_T40 x0 i).f0 then (rd_T40 x0 i).f1 else m s) (i + 1))) else (none)))) else (some false))) else (some true)
def impl_EventsOK.f (k : Nat) (l0 : List S40) : Option Bool := if (l0.length : Int) > 120 then (some false) else (impl_EventsOK.l0 k l0 (fun _ => 0) 0)
theorem cell_kept {w1 w2 : World} {a : Addr} {v : Value} (h : Below w1.heap.size w1 w2) (hc : w1.cell? a = some v) : w2.cell? a = some v := (h.cell (World.block_lt_of_cell? w1 a hc)).trans hc
theorem below_grown {w1 w2 : World} (h : Below w1.heap.size w1 w2) : w1.grownBy w2 none := ⟨h.os, h.tape, h.output, h.size, fun k hk _ => h.block k hk⟩
theorem cell_kept_ {w0 w1 w2 : World} {a : Addr} {v : Value} (h : Below w1.heap.size w1 w2) (k : Below w0.heap.size w0 w1) (hc : w0.cell? a = some v) : w2.cell? a = some v := cell_kept h (cell_kept k hc)
theorem impl_EventsOK.wf1 {s : Int} (hs : -9223372036854775808 ≤ s ∧ s ≤ 9223372036854775807) : (Lit.int .i64 s).wf = true := by have h := wrap64_wf s; rwa [show wrap64 s = s by unfold wrap64; omega] at h
theorem impl_EventsOK.putD {D : DataW Unit} {m : Int → Int} (hI : Maps.IsMap D) (hD : ∀ s, D.atKey (.int .i64 s) (.lit (.int .i64 0)) = .lit (.int .i64 (m s))) (a v : Int) : ∀ s, (D.put (.int .i64 a) (.lit (.int .i64 v))).atKey (.int .i64 s) (.lit (.int .i64 0)) = .lit (.int .i64 (if s = a then v else m s)) := by
 intro s
 by_cases e : s = a
 rotate_left
 ·rw [Maps.atKey_put_other (by intro h; injection h with _ h; exact e h), if_neg e]
  exact hD s
 subst e
 rw [Maps.atKey_put_same hI (show WideAt.IsKeyLit (.int .i64 s) from trivial), if_pos rfl]
theorem impl_EventsOK.below9 {w W w9 : World} (h : Below w.heap.size w W) (hg : W.grownBy w9 (some w.heap.size)) : Below w.heap.size w w9 :=
 ⟨hg.os.trans h.os, hg.tape.trans h.tape, hg.output.trans h.output, Nat.le_trans h.size hg.size, fun k hk => (hg.block k (Nat.lt_of_lt_of_le hk h.size) (by intro e; injection e with e; omega)).trans (h.block k hk)⟩
theorem impl_EventsOK.yl {P : Program} {o : Oper} {a : Act} {t : TypeId} {m x : Operand} {w' : World} {v M K : Value} (hop : o.op = Op.lookup t m x false) (hm : a.eval m = M) (hx : a.eval x = K) (hrun : (Instr.lookup t M K false).run P w' = .ok v w') : (execOp a.eval o).run P w' = .ok (.value v) w' := by
 simp [execOp, hop, hm, hx, hrun, Result.andThen]
def impl_EventsOK.T7 : Bool × List (List Nat × List Nat) := (true, [([], []), ([0], [0]), ([1], [1]), ([2, 1], [2]), ([3], [3]), ([4, 3], [3, 4]), ([5, 3, 3], [3, 5]), ([6], [6]), ([6], [6]), ([8, 6], [6, 8]), ([7, 9, 6], [6, 7, 9]), ([10, 6], [6, 10]), ([6], [6]), ([11, 12, 6, 6], [6, 11, 12]), ([13, 6], [6, 13]), ([6, 14, 3], [3, 6, 14]), ([3, 15], [3, 15]), ([16, 13], [16]), ([17], [17]), ([17], [17]), ([19, 17], [17, 19]), ([18, 20, 17], [17, 18, 20]), ([17], [17]), ([22, 17], [17, 22]), ([21, 23, 17], [17, 21, 23]), ([17, 24], [17, 24])])
def impl_EventsOK.B7 : List Nat := [0, 1, 3, 7, 15, 31, 63, 127, 127, 383, 1023, 2047, 127, 8191, 16383, 32767, 65535, 131071, 262143, 262143, 786431, 2097151, 262143, 4456447, 16777215, 33554431]
theorem impl_EventsOK.tab7 : rtab .any (opsOf Try.f9 7) = impl_EventsOK.T7 := by kernel_rfl
theorem impl_EventsOK.bits7 : waitsOk impl_EventsOK.T7.2 impl_EventsOK.B7 = true := by kernel_rfl
theorem impl_EventsOK.look {W : World} {B n : Nat} {D : DataW Unit} {m : Int → Int} (hM : W.ownsMap Try.prog 3 (plainElem Try.prog 3) B n D) (hD : ∀ s, D.atKey (.int .i64 s) (.lit (.int .i64 0)) = .lit (.int .i64 (m s))) (s : Int) (hs : -9223372036854775808 ≤ s ∧ s ≤ 9223372036854775807) : (Instr.lookup 43 (.map (some B)) (.int .i64 s) false).run Try.prog W = .ok (.int .i64 (m s)) W := by
 obtain ⟨c, hr, hc, _⟩ := hM.lookup_int (t := 43) (e := 3) (Maps.int_keyed Try.underlying3) Try.underlying43 Try.underlying3 (by kernel_rfl) (Maps.keyOf_int_mk Try.underlying3 (a := s) (by have h := wrap64_wf s; rwa [show wrap64 s = s by unfold wrap64; omega] at h))
 rw [hD s] at hc
 injection hc with hc
 injection hc with _ hc
 rw [hc]
 exact hr
theorem impl_EventsOK.mono_l : ∀ k, (∀ y0 y1 y2, LeO (impl_EventsOK.l0 k y0 y1 y2) (impl_EventsOK.l0 (k + 1) y0 y1 y2))
 | 0 => fun _ _ _ r h => by simp [impl_EventsOK.l0] at h
 | k + 1 => by
  have ih0 := impl_EventsOK.mono_l k
  ·intro y0 y1 y2
   unfold impl_EventsOK.l0
   repeat' first
   | (with_reducible exact ih0 _ _ _)
   | (with_reducible exact impl_isEvent.mono _ _ _ _ _ _ _)
   | (with_reducible exact impl_compareEvents.mono _ _ _ _ _ _ _ _ _ _ _ _ _)
   | (with_reducible exact LeO.refl _)
   | (with_reducible exact LeO.none _)
   | (with_reducible refine LeO.ite ?_ ?_)
   | (with_reducible refine LeO.bind ?_ (fun _ => ?_))
theorem impl_EventsOK.mono : ∀ a0 k, LeO (impl_EventsOK.f k a0) (impl_EventsOK.f (k + 1) a0) := by
 intro a0 k
 unfold impl_EventsOK.f
 exact LeO.ite (LeO.refl _) (impl_EventsOK.mono_l k _ _ _)
set_option maxHeartbeats 8000000 in
set_option maxRecDepth 100000 in
theorem impl_EventsOK.calls (k : Nat) (A0 : Option Addr) (c0 : Nat) (l0 : List (S40)) (r : Bool) (w : World) (hr0 : Kd.C k40 w A0 l0.length l0) (hc0 : l0.length ≤ c0) (h : impl_EventsOK.f k l0 = some r) :
  Calls Try.prog 9 #[.slice A0 l0.length c0] w fun e w' => e = .returned (.bool r) ∧ Below w.heap.size w w' := by
 have hmm := @run_makeMap Try.prog
 have HR0 := Aside0.mk hr0
 have hm := Kd.C_max hr0
 unfold impl_EventsOK.f at h
 by_cases c1 : (l0.length : Int) > 120
 ·rw [if_pos c1] at h
  obtain rfl := Option.some.inj h
  have c1b : decide (120 < (l0.length : Int)) = true := decide_eq_true c1
  clear h hr0 hc0 c1 hm
  go_enter Try.func9, Try.ntmps9
  go_wp2
  go_ret
  exact ⟨rfl, Below.refl _ _⟩
 rw [if_neg c1] at h
 have c1b : decide (120 < (l0.length : Int)) = false := decide_eq_false c1
 have H0 := Aside0.mk h
 have HL := Aside0.mk (show l0.length ≤ 120 by omega)
 clear h hr0 hc0 c1 hm
 go_enter Try.func9, Try.ntmps9
 go_wp2
 go_loopg [12] k (fun kq v12 wr => ∃ (i : Nat) (m : Int → Int) (D : DataW Unit), v12 = .int .i64 i ∧ i ≤ l0.length ∧ Aside0 (impl_EventsOK.l0 kq l0 m i = some r) ∧ Aside0 (wr.ownsMap Try.prog 3 (plainElem Try.prog 3) w.heap.size i D) ∧ Aside0 (Maps.IsMap D) ∧ Aside0 (∀ s, D.atKey (.int .i64 s) (.lit (.int .i64 0)) = .lit (.int .i64 (m s))) ∧ Aside0 (Below w.heap.size w wr))
 case atStart => exact ⟨0, fun _ => 0, .map [], rfl, Nat.zero_le _, H0, ⟨World.ownsMap_made _ _ _ _⟩, ⟨Maps.isMap_empty⟩, ⟨fun _ => rfl⟩, ⟨(Below.refl _ _).alloc (Nat.le_refl _) _⟩⟩
 case round =>
  clear H0
  obtain ⟨i, m, D, rfl, hi, HA, HM, HI, HD, HB⟩ := hrel
  cases gk with
  | zero => exact absurd HA.out (by simp [impl_EventsOK.l0])
  | succ k1 =>
   have H := HA.out
   clear HA
   simp only [impl_EventsOK.l0] at H
   by_cases hlt : (i : Int) < (l0.length : Int)
   rotate_left
   ·rw [if_neg hlt] at H
    obtain rfl := Option.some.inj H
    have hltb : decide ((i : Int) < (l0.length : Int)) = false := decide_eq_false hlt
    go_wp2
    go_ret
    exact ⟨rfl, HB.out⟩


   rw [if_pos hlt] at H
   replace H := Option.bind_eq_some_iff.mp H
   obtain ⟨b, A1, H⟩ := H
   replace A1 := Aside0.mk A1
   have H1 := Aside0.mk H
   clear H
   have hi0 : 0 ≤ (i : Int) := by omega
   obtain ⟨ad, e0, hx0, hx1, hx2, hx3, hx4, hx5⟩ := at_T40 HR0.out (i : Int) hi0 hlt
   cases e0
   simp only [Int.toNat_natCast] at hx0 hx1 hx2 hx3 hx4 hx5
   have hltb : decide ((i : Int) < (l0.length : Int)) = true := decide_eq_true hlt
   replace hx0 := (HB.out.cell (World.block_lt_of_cell? w _ hx0)).trans hx0
   replace hx1 := (HB.out.cell (World.block_lt_of_cell? w _ hx1)).trans hx1
   replace hx2 := (HB.out.cell (World.block_lt_of_cell? w _ hx2)).trans hx2
   replace hx3 := (HB.out.cell (World.block_lt_of_cell? w _ hx3)).trans hx3
   replace hx4 := (HB.out.cell (World.block_lt_of_cell? w _ hx4)).trans hx4
   replace hx5 := (HB.out.cell (World.block_lt_of_cell? w _ hx5)).trans hx5
   go_upto_region 7 with (fail)
   have BK : Aside0 ((wr.alloc (.cells #[.int .i64 (rd_T40 l0 (i : Int)).f0, .int .i64 (rd_T40 l0 (i : Int)).f1, .int .i64 (rd_T40 l0 (i : Int)).f2, .int .i64 (rd_T40 l0 (i : Int)).f3, .string (rd_T40 l0 (i : Int)).f4, .int .i64 (rd_T40 l0 (i : Int)).f5] 40)).heap[wr.heap.size]? = some (.cells #[.int .i64 (rd_T40 l0 (i : Int)).f0, .int .i64 (rd_T40 l0 (i : Int)).f1, .int .i64 (rd_T40 l0 (i : Int)).f2, .int .i64 (rd_T40 l0 (i : Int)).f3, .string (rd_T40 l0 (i : Int)).f4, .int .i64 (rd_T40 l0 (i : Int)).f5] 40 (0, 0))) := ⟨heap_alloc_new wr _⟩
   have HB1 : Aside0 (Below wr.heap.size wr (wr.alloc (.cells #[.int .i64 (rd_T40 l0 (i : Int)).f0, .int .i64 (rd_T40 l0 (i : Int)).f1, .int .i64 (rd_T40 l0 (i : Int)).f2, .int .i64 (rd_T40 l0 (i : Int)).f3, .string (rd_T40 l0 (i : Int)).f4, .int .i64 (rd_T40 l0 (i : Int)).f5] 40))) := ⟨(Below.refl _ _).alloc (Nat.le_refl _) _⟩
   have HZ1 : Aside0 (wr.heap.size < (wr.alloc (.cells #[.int .i64 (rd_T40 l0 (i : Int)).f0, .int .i64 (rd_T40 l0 (i : Int)).f1, .int .i64 (rd_T40 l0 (i : Int)).f2, .int .i64 (rd_T40 l0 (i : Int)).f3, .string (rd_T40 l0 (i : Int)).f4, .int .i64 (rd_T40 l0 (i : Int)).f5] 40)).heap.size) := ⟨by simp⟩
   have HM1 : Aside0 ((wr.alloc (.cells #[.int .i64 (rd_T40 l0 (i : Int)).f0, .int .i64 (rd_T40 l0 (i : Int)).f1, .int .i64 (rd_T40 l0 (i : Int)).f2, .int .i64 (rd_T40 l0 (i : Int)).f3, .string (rd_T40 l0 (i : Int)).f4, .int .i64 (rd_T40 l0 (i : Int)).f5] 40)).ownsMap Try.prog 3 (plainElem Try.prog 3) w.heap.size i D) := ⟨HM.out.alloc _⟩
   generalize wr.alloc (.cells #[.int .i64 (rd_T40 l0 (i : Int)).f0, .int .i64 (rd_T40 l0 (i : Int)).f1, .int .i64 (rd_T40 l0 (i : Int)).f2, .int .i64 (rd_T40 l0 (i : Int)).f3, .string (rd_T40 l0 (i : Int)).f4, .int .i64 (rd_T40 l0 (i : Int)).f5] 40) = W1 at BK HB1 HZ1 HM1 ⊢
   clear hx0 hx1 hx2 hx3 hx4 hx5
   have BW0 : Aside0 (Below W1.heap.size W1 W1.drew) := ⟨below_drew1 (Below.refl _ _)⟩
   cases b with
   | false =>
    have H := H1.out
    obtain rfl := Option.some.inj H
    clear H1 H
    refine start_ (n := 26) (S := fun w' => w'.cell? ⟨wr.heap.size, 0, none⟩ = some (.int .i64 (rd_T40 l0 (i : Int)).f0) ∧ w'.cell? ⟨wr.heap.size, 1, none⟩ = some (.int .i64 (rd_T40 l0 (i : Int)).f1) ∧ w'.cell? ⟨wr.heap.size, 2, none⟩ = some (.int .i64 (rd_T40 l0 (i : Int)).f2) ∧ w'.cell? ⟨wr.heap.size, 3, none⟩ = some (.int .i64 (rd_T40 l0 (i : Int)).f3) ∧ w'.cell? ⟨wr.heap.size, 4, none⟩ = some (.string (rd_T40 l0 (i : Int)).f4) ∧ w'.cell? ⟨wr.heap.size, 5, none⟩ = some (.int .i64 (rd_T40 l0 (i : Int)).f5)) (ds := []) (msk 0 26) (by kernel_rfl) rfl rfl ⟨(cell_kept BW0.out ((blk_cell BK.out 0).trans rfl)), (cell_kept BW0.out ((blk_cell BK.out 1).trans rfl)), (cell_kept BW0.out ((blk_cell BK.out 2).trans rfl)), (cell_kept BW0.out ((blk_cell BK.out 3).trans rfl)), (cell_kept BW0.out ((blk_cell BK.out 4).trans rfl)), (cell_kept BW0.out ((blk_cell BK.out 5).trans rfl))⟩ (fun hHeld => ?_)
    refine with_tabW impl_EventsOK.tab7 impl_EventsOK.bits7 (fun HT_ HW_ => ?_)
    refine tk_ 0 17 (msk 1 25) HT_.out HW_.out hHeld ?_ (hy := by rintro w' ⟨s0, s1, s2, s3, s4, s5⟩; go_simp; with_reducible rfl)
    refine one_ (i := 1) (N := some 18) (msk 2 24) rfl rfl (one_of HT_.out (by kernel_rfl)) (by decide) (fun K hK => ?_)
    refine goes_ Try.func21 (by kernel_rfl) rfl #[.agg #[.int .i64 (rd_T40 l0 (i : Int)).f0, .int .i64 (rd_T40 l0 (i : Int)).f1, .int .i64 (rd_T40 l0 (i : Int)).f2, .int .i64 (rd_T40 l0 (i : Int)).f3, .string (rd_T40 l0 (i : Int)).f4, .int .i64 (rd_T40 l0 (i : Int)).f5]] (by rfl) rfl rfl (by (try simp only [List.map_toArray, List.map_cons, List.map_nil]); first | done | (simp only [hji]; rfl) | rfl) ?_
    with_reducible refine (impl_isEvent.calls k1 ((rd_T40 l0 (i : Int)).f0) ((rd_T40 l0 (i : Int)).f1) ((rd_T40 l0 (i : Int)).f2) ((rd_T40 l0 (i : Int)).f3) ((rd_T40 l0 (i : Int)).f4) ((rd_T40 l0 (i : Int)).f5) _ _ A1.out).mono ?_
    rintro e w1 ⟨rfl, hb⟩
    refine ⟨_, rfl, ?_⟩
    have BW1 := Aside0.mk (below_step BW0.out hb)
    clear hb
    refine hK.out _ _ ⟨(cell_kept BW1.out ((blk_cell BK.out 0).trans rfl)), (cell_kept BW1.out ((blk_cell BK.out 1).trans rfl)), (cell_kept BW1.out ((blk_cell BK.out 2).trans rfl)), (cell_kept BW1.out ((blk_cell BK.out 3).trans rfl)), (cell_kept BW1.out ((blk_cell BK.out 4).trans rfl)), (cell_kept BW1.out ((blk_cell BK.out 5).trans rfl))⟩ (fun hHeld => ?_)
    clear hK K
    refine norm_ (a' := ?_) ?_ ?_
    rotate_left
    ·show Act.put _ (some 18) _ = _
     simp only [Act.put, List.setIfInBounds_toArray, List.set_cons_zero, List.set_cons_succ, i64_w, i32_w]
     rfl
    refine pu_ 2 19 (msk 3 23) HT_.out ?_; refine pu_ 3 20 (msk 4 22) HT_.out ?_; refine pn_ 4 21 (msk 5 21) HT_.out ?_; refine pn_ 5 22 (msk 6 20) HT_.out ?_; refine pn_ 6 23 (msk 7 19) HT_.out ?_; refine pn_ 7 24 (msk 8 18) HT_.out ?_; refine pn_ 8 25 (msk 9 17) HT_.out ?_; refine pn_ 9 26 (msk 10 16) HT_.out ?_; refine pn_ 10 27 (msk 11 15) HT_.out ?_; refine pn_ 11 28 (msk 12 14) HT_.out ?_; refine pn_ 12 29 (msk 13 13) HT_.out ?_; refine pn_ 13 30 (msk 14 12) HT_.out ?_; refine pn_ 14 31 (msk 15 11) HT_.out ?_; refine pn_ 15 32 (msk 16 10) HT_.out ?_; refine pu_ 16 33 (msk 17 9) HT_.out ?_; refine pu_ 17 34 (msk 18 8) HT_.out ?_; refine pn_ 18 35 (msk 19 7) HT_.out ?_; refine pn_ 19 36 (msk 20 6) HT_.out ?_; refine pn_ 20 37 (msk 21 5) HT_.out ?_; refine pn_ 21 38 (msk 22 4) HT_.out ?_; refine pn_ 22 39 (msk 23 3) HT_.out ?_; refine pn_ 23 40 (msk 24 2) HT_.out ?_; refine pn_ 24 41 (msk 25 1) HT_.out ?_; refine pu_ 25 42 (msk 26 0) HT_.out ?_
    refine done_ (done_of HT_.out (by kernel_rfl)) ?_
    go_wp2
    go_ret
    exact ⟨rfl, below_step (below_step HB.out HB1.out) BW1.out⟩
   | true =>
    have H := H1.out
    clear H1
    rw [if_pos rfl] at H
    replace H := Option.bind_eq_some_iff.mp H
    obtain ⟨c, A2, H⟩ := H
    by_cases hi1 : 0 < (i : Int)
    rotate_left
    ·rw [if_neg hi1] at A2
     obtain rfl := Option.some.inj A2
     clear A2
     rw [if_neg (by omega)] at H
     have hposb : decide (0 < (i : Int)) = false := decide_eq_false hi1
     have hposn : decide (0 < i) = false := decide_eq_false (by omega)
     by_cases hr : (1 ≤ (rd_T40 l0 (i : Int)).f0 ∧ (rd_T40 l0 (i : Int)).f0 ≤ 9) ∧ (1 ≤ (rd_T40 l0 (i : Int)).f1 ∧ (rd_T40 l0 (i : Int)).f1 ≤ 120)
     rotate_left
     ·rw [if_neg hr] at H
      cases H
     rw [if_pos hr] at H
     have hs : -9223372036854775808 ≤ (rd_T40 l0 (i : Int)).f0 ∧ (rd_T40 l0 (i : Int)).f0 ≤ 9223372036854775807 := by omega
     have hq : -9223372036854775808 ≤ (rd_T40 l0 (i : Int)).f1 ∧ (rd_T40 l0 (i : Int)).f1 ≤ 9223372036854775807 := by omega
     by_cases hm : m (rd_T40 l0 (i : Int)).f0 ≥ (rd_T40 l0 (i : Int)).f1
     ·rw [if_pos hm] at H
      obtain rfl := Option.some.inj H
      clear H
      have hmb : decide ((rd_T40 l0 (i : Int)).f1 ≤ m (rd_T40 l0 (i : Int)).f0) = true := decide_eq_true hm
      refine start_ (n := 26) (S := fun w' => w'.cell? ⟨wr.heap.size, 0, none⟩ = some (.int .i64 (rd_T40 l0 (i : Int)).f0) ∧ w'.cell? ⟨wr.heap.size, 1, none⟩ = some (.int .i64 (rd_T40 l0 (i : Int)).f1) ∧ w'.cell? ⟨wr.heap.size, 2, none⟩ = some (.int .i64 (rd_T40 l0 (i : Int)).f2) ∧ w'.cell? ⟨wr.heap.size, 3, none⟩ = some (.int .i64 (rd_T40 l0 (i : Int)).f3) ∧ w'.cell? ⟨wr.heap.size, 4, none⟩ = some (.string (rd_T40 l0 (i : Int)).f4) ∧ w'.cell? ⟨wr.heap.size, 5, none⟩ = some (.int .i64 (rd_T40 l0 (i : Int)).f5) ∧ (Instr.lookup 43 (.map (some w.heap.size)) (.int .i64 (rd_T40 l0 (i : Int)).f0) false).run Try.prog w' = .ok (.int .i64 (m (rd_T40 l0 (i : Int)).f0)) w') (ds := []) (msk 0 26) (by kernel_rfl) rfl rfl ⟨(cell_kept BW0.out ((blk_cell BK.out 0).trans rfl)), (cell_kept BW0.out ((blk_cell BK.out 1).trans rfl)), (cell_kept BW0.out ((blk_cell BK.out 2).trans rfl)), (cell_kept BW0.out ((blk_cell BK.out 3).trans rfl)), (cell_kept BW0.out ((blk_cell BK.out 4).trans rfl)), (cell_kept BW0.out ((blk_cell BK.out 5).trans rfl)), (impl_EventsOK.look (HM1.out.kept (below_grown BW0.out) (by simp)) HD.out _ hs)⟩ (fun hHeld => ?_)
      refine with_tabW impl_EventsOK.tab7 impl_EventsOK.bits7 (fun HT_ HW_ => ?_)
      refine tk_ 0 17 (msk 1 25) HT_.out HW_.out hHeld ?_ (hy := by rintro w' ⟨s0, s1, s2, s3, s4, s5, s6⟩; go_simp; with_reducible rfl)
      refine one_ (i := 1) (N := some 18) (msk 2 24) rfl rfl (one_of HT_.out (by kernel_rfl)) (by decide) (fun K hK => ?_)
      refine goes_ Try.func21 (by kernel_rfl) rfl #[.agg #[.int .i64 (rd_T40 l0 (i : Int)).f0, .int .i64 (rd_T40 l0 (i : Int)).f1, .int .i64 (rd_T40 l0 (i : Int)).f2, .int .i64 (rd_T40 l0 (i : Int)).f3, .string (rd_T40 l0 (i : Int)).f4, .int .i64 (rd_T40 l0 (i : Int)).f5]] (by rfl) rfl rfl (by (try simp only [List.map_toArray, List.map_cons, List.map_nil]); first | done | (simp only [hji]; rfl) | rfl) ?_
      with_reducible refine (impl_isEvent.calls k1 ((rd_T40 l0 (i : Int)).f0) ((rd_T40 l0 (i : Int)).f1) ((rd_T40 l0 (i : Int)).f2) ((rd_T40 l0 (i : Int)).f3) ((rd_T40 l0 (i : Int)).f4) ((rd_T40 l0 (i : Int)).f5) _ _ A1.out).mono ?_
      rintro e w1 ⟨rfl, hb⟩
      refine ⟨_, rfl, ?_⟩
      have BW1 := Aside0.mk (below_step BW0.out hb)
      clear hb
      refine hK.out _ _ ⟨(cell_kept BW1.out ((blk_cell BK.out 0).trans rfl)), (cell_kept BW1.out ((blk_cell BK.out 1).trans rfl)), (cell_kept BW1.out ((blk_cell BK.out 2).trans rfl)), (cell_kept BW1.out ((blk_cell BK.out 3).trans rfl)), (cell_kept BW1.out ((blk_cell BK.out 4).trans rfl)), (cell_kept BW1.out ((blk_cell BK.out 5).trans rfl)), (impl_EventsOK.look (HM1.out.kept (below_grown BW1.out) (by simp)) HD.out _ hs)⟩ (fun hHeld => ?_)
      clear hK K
      refine norm_ (a' := ?_) ?_ ?_
      rotate_left
      ·show Act.put _ (some 18) _ = _
       simp only [Act.put, List.setIfInBounds_toArray, List.set_cons_zero, List.set_cons_succ, i64_w, i32_w]
       rfl
      refine pu_ 2 19 (msk 3 23) HT_.out ?_; refine pu_ 3 20 (msk 4 22) HT_.out ?_; refine pu_ 4 21 (msk 5 21) HT_.out ?_; refine pu_ 5 22 (msk 6 20) HT_.out ?_; refine pu_ 6 23 (msk 7 19) HT_.out ?_; refine pn_ 7 24 (msk 8 18) HT_.out ?_; refine pn_ 8 25 (msk 9 17) HT_.out ?_; refine pn_ 9 26 (msk 10 16) HT_.out ?_; refine pn_ 10 27 (msk 11 15) HT_.out ?_; refine pn_ 11 28 (msk 12 14) HT_.out ?_; refine pn_ 12 29 (msk 13 13) HT_.out ?_; refine pn_ 13 30 (msk 14 12) HT_.out ?_; refine pn_ 14 31 (msk 15 11) HT_.out ?_; refine pu_ 15 32 (msk 16 10) HT_.out ?_; refine pu_ 16 33 (msk 17 9) HT_.out ?_; refine pu_ 17 34 (msk 18 8) HT_.out ?_; refine pu_ 18 35 (msk 19 7) HT_.out ?_; refine pu_ 19 36 (msk 20 6) HT_.out ?_; refine pu_ 22 39 (mskl 26 20 [22]) HT_.out ?_
      refine tk_ 20 37 (mskl 26 21 [22]) HT_.out HW_.out hHeld ?_ (hy := by rintro w' ⟨s0, s1, s2, s3, s4, s5, s6⟩; go_simp; with_reducible rfl)
      refine take_ (i := 21) (N := some 38) (v := (.int .i64 (m (rd_T40 l0 (i : Int)).f0))) (a' := ?_) (msk 23 3) rfl rfl (take_ofW HT_.out HW_.out (by kernel_rfl)) (fun _ _ _ h => h) (Or.inl ⟨by rfl, ?_⟩) hHeld ?_ ?_
      ·rintro w' ⟨s0, s1, s2, s3, s4, s5, s6⟩
       exact impl_EventsOK.yl rfl rfl rfl s6
      rotate_left
      ·simp only [Act.put, List.setIfInBounds_toArray, List.set_cons_zero, List.set_cons_succ, i64_w, i32_w]
       rfl
      refine tk_ 23 40 (msk 24 2) HT_.out HW_.out hHeld ?_ (hy := by rintro w' ⟨s0, s1, s2, s3, s4, s5, s6⟩; go_simp; with_reducible rfl)
      refine pu_ 24 41 (msk 25 1) HT_.out ?_; refine pu_ 25 42 (msk 26 0) HT_.out ?_
      refine done_ (done_of HT_.out (by kernel_rfl)) ?_
      go_wp2
      go_ret
      exact ⟨rfl, below_step (below_step HB.out HB1.out) BW1.out⟩
     rw [if_neg hm] at H
     have H2 := Aside0.mk H
     clear H
     have hmb : decide ((rd_T40 l0 (i : Int)).f1 ≤ m (rd_T40 l0 (i : Int)).f0) = false := decide_eq_false hm
     refine start_ (n := 26) (S := fun w' => w'.cell? ⟨wr.heap.size, 0, none⟩ = some (.int .i64 (rd_T40 l0 (i : Int)).f0) ∧ w'.cell? ⟨wr.heap.size, 1, none⟩ = some (.int .i64 (rd_T40 l0 (i : Int)).f1) ∧ w'.cell? ⟨wr.heap.size, 2, none⟩ = some (.int .i64 (rd_T40 l0 (i : Int)).f2) ∧ w'.cell? ⟨wr.heap.size, 3, none⟩ = some (.int .i64 (rd_T40 l0 (i : Int)).f3) ∧ w'.cell? ⟨wr.heap.size, 4, none⟩ = some (.string (rd_T40 l0 (i : Int)).f4) ∧ w'.cell? ⟨wr.heap.size, 5, none⟩ = some (.int .i64 (rd_T40 l0 (i : Int)).f5) ∧ (Instr.lookup 43 (.map (some w.heap.size)) (.int .i64 (rd_T40 l0 (i : Int)).f0) false).run Try.prog w' = .ok (.int .i64 (m (rd_T40 l0 (i : Int)).f0)) w') (ds := []) (msk 0 26) (by kernel_rfl) rfl rfl ⟨(cell_kept BW0.out ((blk_cell BK.out 0).trans rfl)), (cell_kept BW0.out ((blk_cell BK.out 1).trans rfl)), (cell_kept BW0.out ((blk_cell BK.out 2).trans rfl)), (cell_kept BW0.out ((blk_cell BK.out 3).trans rfl)), (cell_kept BW0.out ((blk_cell BK.out 4).trans rfl)), (cell_kept BW0.out ((blk_cell BK.out 5).trans rfl)), (impl_EventsOK.look (HM1.out.kept (below_grown BW0.out) (by simp)) HD.out _ hs)⟩ (fun hHeld => ?_)
     refine with_tabW impl_EventsOK.tab7 impl_EventsOK.bits7 (fun HT_ HW_ => ?_)
     refine tk_ 0 17 (msk 1 25) HT_.out HW_.out hHeld ?_ (hy := by rintro w' ⟨s0, s1, s2, s3, s4, s5, s6⟩; go_simp; with_reducible rfl)
     refine one_ (i := 1) (N := some 18) (msk 2 24) rfl rfl (one_of HT_.out (by kernel_rfl)) (by decide) (fun K hK => ?_)
     refine goes_ Try.func21 (by kernel_rfl) rfl #[.agg #[.int .i64 (rd_T40 l0 (i : Int)).f0, .int .i64 (rd_T40 l0 (i : Int)).f1, .int .i64 (rd_T40 l0 (i : Int)).f2, .int .i64 (rd_T40 l0 (i : Int)).f3, .string (rd_T40 l0 (i : Int)).f4, .int .i64 (rd_T40 l0 (i : Int)).f5]] (by rfl) rfl rfl (by (try simp only [List.map_toArray, List.map_cons, List.map_nil]); first | done | (simp only [hji]; rfl) | rfl) ?_
     with_reducible refine (impl_isEvent.calls k1 ((rd_T40 l0 (i : Int)).f0) ((rd_T40 l0 (i : Int)).f1) ((rd_T40 l0 (i : Int)).f2) ((rd_T40 l0 (i : Int)).f3) ((rd_T40 l0 (i : Int)).f4) ((rd_T40 l0 (i : Int)).f5) _ _ A1.out).mono ?_
     rintro e w1 ⟨rfl, hb⟩
     refine ⟨_, rfl, ?_⟩
     have BW1 := Aside0.mk (below_step BW0.out hb)
     clear hb
     refine hK.out _ _ ⟨(cell_kept BW1.out ((blk_cell BK.out 0).trans rfl)), (cell_kept BW1.out ((blk_cell BK.out 1).trans rfl)), (cell_kept BW1.out ((blk_cell BK.out 2).trans rfl)), (cell_kept BW1.out ((blk_cell BK.out 3).trans rfl)), (cell_kept BW1.out ((blk_cell BK.out 4).trans rfl)), (cell_kept BW1.out ((blk_cell BK.out 5).trans rfl)), (impl_EventsOK.look (HM1.out.kept (below_grown BW1.out) (by simp)) HD.out _ hs)⟩ (fun hHeld => ?_)
     clear hK K
     refine norm_ (a' := ?_) ?_ ?_
     rotate_left
     ·show Act.put _ (some 18) _ = _
      simp only [Act.put, List.setIfInBounds_toArray, List.set_cons_zero, List.set_cons_succ, i64_w, i32_w]
      rfl
     refine pu_ 2 19 (msk 3 23) HT_.out ?_; refine pu_ 3 20 (msk 4 22) HT_.out ?_; refine pu_ 4 21 (msk 5 21) HT_.out ?_; refine pu_ 5 22 (msk 6 20) HT_.out ?_; refine pu_ 6 23 (msk 7 19) HT_.out ?_; refine pn_ 7 24 (msk 8 18) HT_.out ?_; refine pn_ 8 25 (msk 9 17) HT_.out ?_; refine pn_ 9 26 (msk 10 16) HT_.out ?_; refine pn_ 10 27 (msk 11 15) HT_.out ?_; refine pn_ 11 28 (msk 12 14) HT_.out ?_; refine pn_ 12 29 (msk 13 13) HT_.out ?_; refine pn_ 13 30 (msk 14 12) HT_.out ?_; refine pn_ 14 31 (msk 15 11) HT_.out ?_; refine pu_ 15 32 (msk 16 10) HT_.out ?_; refine pu_ 16 33 (msk 17 9) HT_.out ?_; refine pu_ 17 34 (msk 18 8) HT_.out ?_; refine pu_ 18 35 (msk 19 7) HT_.out ?_; refine pu_ 19 36 (msk 20 6) HT_.out ?_; refine pu_ 22 39 (mskl 26 20 [22]) HT_.out ?_
     refine tk_ 20 37 (mskl 26 21 [22]) HT_.out HW_.out hHeld ?_ (hy := by rintro w' ⟨s0, s1, s2, s3, s4, s5, s6⟩; go_simp; with_reducible rfl)
     refine take_ (i := 21) (N := some 38) (v := (.int .i64 (m (rd_T40 l0 (i : Int)).f0))) (a' := ?_) (msk 23 3) rfl rfl (take_ofW HT_.out HW_.out (by kernel_rfl)) (fun _ _ _ h => h) (Or.inl ⟨by rfl, ?_⟩) hHeld ?_ ?_
     ·rintro w' ⟨s0, s1, s2, s3, s4, s5, s6⟩
      exact impl_EventsOK.yl rfl rfl rfl s6
     rotate_left
     ·simp only [Act.put, List.setIfInBounds_toArray, List.set_cons_zero, List.set_cons_succ, i64_w, i32_w]
      rfl
     refine tk_ 23 40 (msk 24 2) HT_.out HW_.out hHeld ?_ (hy := by rintro w' ⟨s0, s1, s2, s3, s4, s5, s6⟩; go_simp; with_reducible rfl)
     refine pu_ 24 41 (msk 25 1) HT_.out ?_; refine pu_ 25 42 (msk 26 0) HT_.out ?_
     refine done_ (done_of HT_.out (by kernel_rfl)) ?_
     have e9 : wrap64 ((i : Int) + 1) = ((i + 1 : Nat) : Int) := by have := HL.out; unfold wrap64; omega
     go_wp2_with (first | (at_mapUpdate; refine wpList_mapUpdate_own _ rfl _ _ _ 43 rfl 3 3 (Maps.int_keyed Try.underlying3) Try.underlying43 _ w.heap.size i D rfl (HM1.out.kept (below_grown BW1.out) (by simp)) (by have := HL.out; unfold maxLen; omega) _ _ (.int .i64 (rd_T40 l0 (i : Int)).f0) rfl rfl (Maps.keyOf_int_mk Try.underlying3 (impl_EventsOK.wf1 hs)) (.lit (.int .i64 (rd_T40 l0 (i : Int)).f1)) [] (plainElem_int Try.underlying3 (impl_EventsOK.wf1 hq)) ?_; intro w9 hown9 hgrow9))
     go_roundg k1
     case measure => omega
     case rel => exact ⟨i + 1, _, _, by first | rw [e9] | rw [i64_w, e9] | (rw [Int.natCast_add]; rfl), by omega, H2, ⟨hown9⟩, ⟨HI.out.put _ _⟩, ⟨impl_EventsOK.putD HI.out HD.out _ _⟩, ⟨impl_EventsOK.below9 (below_step (below_step HB.out HB1.out) BW1.out) hgrow9⟩⟩
    rw [if_pos hi1] at A2
    replace A2 := Aside0.mk A2
    have hposb : decide (0 < (i : Int)) = true := decide_eq_true hi1
    have hposn : decide (0 < i) = true := decide_eq_true (by omega)
    obtain ⟨ji, hji⟩ : ∃ j_ : Int, wrap64 ((i : Int) - 1) = j_ := ⟨_, rfl⟩
    have hji_ : (i : Int) - 1 = ji := by have := HL.out; unfold wrap64 at hji; omega
    have hjiw : IntKind.i64.wrap ((i : Int) - 1) = ji := (i64_w _).trans hji
    rw [hji_] at A2
    have hj0 : 0 ≤ ji := by omega
    have hj1 : ji < (l0.length : Int) := by omega
    clear hji_
    obtain ⟨ad_, e0, hy0, hy1, hy2, hy3, hy4, hy5⟩ := at_T40 HR0.out ji hj0 hj1
    obtain rfl : ad = ad_ := (by injection e0)
    clear e0
    have hj0t := eq_true hj0
    have hj1t := eq_true hj1
    by_cases hc : c ≥ 0
    ·rw [if_pos hc] at H
     obtain rfl := Option.some.inj H
     clear H
     have hcb : decide (0 ≤ c) = true := decide_eq_true hc
     refine start_ (n := 26) (S := fun w' => w'.cell? ⟨wr.heap.size, 0, none⟩ = some (.int .i64 (rd_T40 l0 (i : Int)).f0) ∧ w'.cell? ⟨wr.heap.size, 1, none⟩ = some (.int .i64 (rd_T40 l0 (i : Int)).f1) ∧ w'.cell? ⟨wr.heap.size, 2, none⟩ = some (.int .i64 (rd_T40 l0 (i : Int)).f2) ∧ w'.cell? ⟨wr.heap.size, 3, none⟩ = some (.int .i64 (rd_T40 l0 (i : Int)).f3) ∧ w'.cell? ⟨wr.heap.size, 4, none⟩ = some (.string (rd_T40 l0 (i : Int)).f4) ∧ w'.cell? ⟨wr.heap.size, 5, none⟩ = some (.int .i64 (rd_T40 l0 (i : Int)).f5) ∧ w'.cell? (ad.add (ji.toNat * 6)) = some (.int .i64 (rd_T40 l0 ji).f0) ∧ w'.cell? ⟨(ad.add (ji.toNat * 6)).block, (ad.add (ji.toNat * 6)).off + 1, none⟩ = some (.int .i64 (rd_T40 l0 ji).f1) ∧ w'.cell? ⟨(ad.add (ji.toNat * 6)).block, (ad.add (ji.toNat * 6)).off + 2, none⟩ = some (.int .i64 (rd_T40 l0 ji).f2) ∧ w'.cell? ⟨(ad.add (ji.toNat * 6)).block, (ad.add (ji.toNat * 6)).off + 3, none⟩ = some (.int .i64 (rd_T40 l0 ji).f3) ∧ w'.cell? ⟨(ad.add (ji.toNat * 6)).block, (ad.add (ji.toNat * 6)).off + 4, none⟩ = some (.string (rd_T40 l0 ji).f4) ∧ w'.cell? ⟨(ad.add (ji.toNat * 6)).block, (ad.add (ji.toNat * 6)).off + 5, none⟩ = some (.int .i64 (rd_T40 l0 ji).f5)) (ds := []) (msk 0 26) (by kernel_rfl) rfl rfl ⟨(cell_kept BW0.out ((blk_cell BK.out 0).trans rfl)), (cell_kept BW0.out ((blk_cell BK.out 1).trans rfl)), (cell_kept BW0.out ((blk_cell BK.out 2).trans rfl)), (cell_kept BW0.out ((blk_cell BK.out 3).trans rfl)), (cell_kept BW0.out ((blk_cell BK.out 4).trans rfl)), (cell_kept BW0.out ((blk_cell BK.out 5).trans rfl)), (cell_kept BW0.out (cell_kept_ HB1.out HB.out hy0)), (cell_kept BW0.out (cell_kept_ HB1.out HB.out hy1)), (cell_kept BW0.out (cell_kept_ HB1.out HB.out hy2)), (cell_kept BW0.out (cell_kept_ HB1.out HB.out hy3)), (cell_kept BW0.out (cell_kept_ HB1.out HB.out hy4)), (cell_kept BW0.out (cell_kept_ HB1.out HB.out hy5))⟩ (fun hHeld => ?_)
     refine with_tabW impl_EventsOK.tab7 impl_EventsOK.bits7 (fun HT_ HW_ => ?_)
     refine tk_ 0 17 (msk 1 25) HT_.out HW_.out hHeld ?_ (hy := by rintro w' ⟨s0, s1, s2, s3, s4, s5, s6, s7, s8, s9, s10, s11⟩; go_simp; with_reducible rfl)
     refine one_ (i := 1) (N := some 18) (msk 2 24) rfl rfl (one_of HT_.out (by kernel_rfl)) (by decide) (fun K hK => ?_)
     refine goes_ Try.func21 (by kernel_rfl) rfl #[.agg #[.int .i64 (rd_T40 l0 (i : Int)).f0, .int .i64 (rd_T40 l0 (i : Int)).f1, .int .i64 (rd_T40 l0 (i : Int)).f2, .int .i64 (rd_T40 l0 (i : Int)).f3, .string (rd_T40 l0 (i : Int)).f4, .int .i64 (rd_T40 l0 (i : Int)).f5]] (by rfl) rfl rfl (by (try simp only [List.map_toArray, List.map_cons, List.map_nil]); first | done | (simp only [hji]; rfl) | rfl) ?_
     with_reducible refine (impl_isEvent.calls k1 ((rd_T40 l0 (i : Int)).f0) ((rd_T40 l0 (i : Int)).f1) ((rd_T40 l0 (i : Int)).f2) ((rd_T40 l0 (i : Int)).f3) ((rd_T40 l0 (i : Int)).f4) ((rd_T40 l0 (i : Int)).f5) _ _ A1.out).mono ?_
     rintro e w1 ⟨rfl, hb⟩
     refine ⟨_, rfl, ?_⟩
     have BW1 := Aside0.mk (below_step BW0.out hb)
     clear hb
     refine hK.out _ _ ⟨(cell_kept BW1.out ((blk_cell BK.out 0).trans rfl)), (cell_kept BW1.out ((blk_cell BK.out 1).trans rfl)), (cell_kept BW1.out ((blk_cell BK.out 2).trans rfl)), (cell_kept BW1.out ((blk_cell BK.out 3).trans rfl)), (cell_kept BW1.out ((blk_cell BK.out 4).trans rfl)), (cell_kept BW1.out ((blk_cell BK.out 5).trans rfl)), (cell_kept BW1.out (cell_kept_ HB1.out HB.out hy0)), (cell_kept BW1.out (cell_kept_ HB1.out HB.out hy1)), (cell_kept BW1.out (cell_kept_ HB1.out HB.out hy2)), (cell_kept BW1.out (cell_kept_ HB1.out HB.out hy3)), (cell_kept BW1.out (cell_kept_ HB1.out HB.out hy4)), (cell_kept BW1.out (cell_kept_ HB1.out HB.out hy5))⟩ (fun hHeld => ?_)
     clear hK K
     refine norm_ (a' := ?_) ?_ ?_
     rotate_left
     ·show Act.put _ (some 18) _ = _
      simp only [Act.put, List.setIfInBounds_toArray, List.set_cons_zero, List.set_cons_succ, i64_w, i32_w]
      rfl
     refine pu_ 2 19 (msk 3 23) HT_.out ?_; refine pu_ 3 20 (msk 4 22) HT_.out ?_; refine pu_ 4 21 (msk 5 21) HT_.out ?_; refine pu_ 5 22 (msk 6 20) HT_.out ?_; refine pu_ 6 23 (msk 7 19) HT_.out ?_; refine pu_ 7 24 (msk 8 18) HT_.out ?_; refine pu_ 8 25 (msk 9 17) HT_.out ?_; refine pu_ 9 26 (msk 10 16) HT_.out ?_; refine pu_ 10 27 (msk 11 15) HT_.out ?_
     refine tk_ 11 28 (msk 12 14) HT_.out HW_.out hHeld ?_ (hy := by rintro w' ⟨s0, s1, s2, s3, s4, s5, s6, s7, s8, s9, s10, s11⟩; go_simp; with_reducible rfl)
     refine tk_ 12 29 (msk 13 13) HT_.out HW_.out hHeld ?_ (hy := by rintro w' ⟨s0, s1, s2, s3, s4, s5, s6, s7, s8, s9, s10, s11⟩; go_simp; with_reducible rfl)
     refine one_ (i := 13) (N := some 30) (msk 14 12) rfl rfl (one_of HT_.out (by kernel_rfl)) (by decide) (fun K hK => ?_)
     refine goes_ Try.func22 (by kernel_rfl) rfl #[.agg #[.int .i64 (rd_T40 l0 ji).f0, .int .i64 (rd_T40 l0 ji).f1, .int .i64 (rd_T40 l0 ji).f2, .int .i64 (rd_T40 l0 ji).f3, .string (rd_T40 l0 ji).f4, .int .i64 (rd_T40 l0 ji).f5], .agg #[.int .i64 (rd_T40 l0 (i : Int)).f0, .int .i64 (rd_T40 l0 (i : Int)).f1, .int .i64 (rd_T40 l0 (i : Int)).f2, .int .i64 (rd_T40 l0 (i : Int)).f3, .string (rd_T40 l0 (i : Int)).f4, .int .i64 (rd_T40 l0 (i : Int)).f5]] (by rfl) rfl rfl (by (try simp only [List.map_toArray, List.map_cons, List.map_nil]); first | done | (simp only [hji]; rfl) | rfl) ?_
     with_reducible refine (impl_compareEvents.calls k1 ((rd_T40 l0 ji).f0) ((rd_T40 l0 ji).f1) ((rd_T40 l0 ji).f2) ((rd_T40 l0 ji).f3) ((rd_T40 l0 ji).f4) ((rd_T40 l0 ji).f5) ((rd_T40 l0 (i : Int)).f0) ((rd_T40 l0 (i : Int)).f1) ((rd_T40 l0 (i : Int)).f2) ((rd_T40 l0 (i : Int)).f3) ((rd_T40 l0 (i : Int)).f4) ((rd_T40 l0 (i : Int)).f5) _ _ A2.out).mono ?_
     rintro e w2 ⟨rfl, hb⟩
     refine ⟨_, rfl, ?_⟩
     have BW2 := Aside0.mk (below_step BW1.out hb)
     clear hb
     refine hK.out _ _ ⟨(cell_kept BW2.out ((blk_cell BK.out 0).trans rfl)), (cell_kept BW2.out ((blk_cell BK.out 1).trans rfl)), (cell_kept BW2.out ((blk_cell BK.out 2).trans rfl)), (cell_kept BW2.out ((blk_cell BK.out 3).trans rfl)), (cell_kept BW2.out ((blk_cell BK.out 4).trans rfl)), (cell_kept BW2.out ((blk_cell BK.out 5).trans rfl)), (cell_kept BW2.out (cell_kept_ HB1.out HB.out hy0)), (cell_kept BW2.out (cell_kept_ HB1.out HB.out hy1)), (cell_kept BW2.out (cell_kept_ HB1.out HB.out hy2)), (cell_kept BW2.out (cell_kept_ HB1.out HB.out hy3)), (cell_kept BW2.out (cell_kept_ HB1.out HB.out hy4)), (cell_kept BW2.out (cell_kept_ HB1.out HB.out hy5))⟩ (fun hHeld => ?_)
     clear hK K
     refine norm_ (a' := ?_) ?_ ?_
     rotate_left
     ·show Act.put _ (some 30) _ = _
      simp only [Act.put, List.setIfInBounds_toArray, List.set_cons_zero, List.set_cons_succ, i64_w, i32_w]
      rfl
     refine pu_ 14 31 (msk 15 11) HT_.out ?_; refine pu_ 15 32 (msk 16 10) HT_.out ?_; refine pu_ 16 33 (msk 17 9) HT_.out ?_; refine pu_ 17 34 (msk 18 8) HT_.out ?_; refine pn_ 18 35 (msk 19 7) HT_.out ?_; refine pn_ 19 36 (msk 20 6) HT_.out ?_; refine pn_ 20 37 (msk 21 5) HT_.out ?_; refine pn_ 21 38 (msk 22 4) HT_.out ?_; refine pn_ 22 39 (msk 23 3) HT_.out ?_; refine pn_ 23 40 (msk 24 2) HT_.out ?_; refine pn_ 24 41 (msk 25 1) HT_.out ?_; refine pu_ 25 42 (msk 26 0) HT_.out ?_
     refine done_ (done_of HT_.out (by kernel_rfl)) ?_
     go_wp2
     go_ret
     exact ⟨rfl, below_step (below_step HB.out HB1.out) BW2.out⟩
    rw [if_neg hc] at H
    have hcb : decide (0 ≤ c) = false := decide_eq_false hc
    by_cases hr : (1 ≤ (rd_T40 l0 (i : Int)).f0 ∧ (rd_T40 l0 (i : Int)).f0 ≤ 9) ∧ (1 ≤ (rd_T40 l0 (i : Int)).f1 ∧ (rd_T40 l0 (i : Int)).f1 ≤ 120)
    rotate_left
    ·rw [if_neg hr] at H
     cases H
    rw [if_pos hr] at H
    have hs : -9223372036854775808 ≤ (rd_T40 l0 (i : Int)).f0 ∧ (rd_T40 l0 (i : Int)).f0 ≤ 9223372036854775807 := by omega
    have hq : -9223372036854775808 ≤ (rd_T40 l0 (i : Int)).f1 ∧ (rd_T40 l0 (i : Int)).f1 ≤ 9223372036854775807 := by omega
    by_cases hm : m (rd_T40 l0 (i : Int)).f0 ≥ (rd_T40 l0 (i : Int)).f1
    ·rw [if_pos hm] at H
     obtain rfl := Option.some.inj H
     clear H
     have hmb : decide ((rd_T40 l0 (i : Int)).f1 ≤ m (rd_T40 l0 (i : Int)).f0) = true := decide_eq_true hm
     refine start_ (n := 26) (S := fun w' => w'.cell? ⟨wr.heap.size, 0, none⟩ = some (.int .i64 (rd_T40 l0 (i : Int)).f0) ∧ w'.cell? ⟨wr.heap.size, 1, none⟩ = some (.int .i64 (rd_T40 l0 (i : Int)).f1) ∧ w'.cell? ⟨wr.heap.size, 2, none⟩ = some (.int .i64 (rd_T40 l0 (i : Int)).f2) ∧ w'.cell? ⟨wr.heap.size, 3, none⟩ = some (.int .i64 (rd_T40 l0 (i : Int)).f3) ∧ w'.cell? ⟨wr.heap.size, 4, none⟩ = some (.string (rd_T40 l0 (i : Int)).f4) ∧ w'.cell? ⟨wr.heap.size, 5, none⟩ = some (.int .i64 (rd_T40 l0 (i : Int)).f5) ∧ w'.cell? (ad.add (ji.toNat * 6)) = some (.int .i64 (rd_T40 l0 ji).f0) ∧ w'.cell? ⟨(ad.add (ji.toNat * 6)).block, (ad.add (ji.toNat * 6)).off + 1, none⟩ = some (.int .i64 (rd_T40 l0 ji).f1) ∧ w'.cell? ⟨(ad.add (ji.toNat * 6)).block, (ad.add (ji.toNat * 6)).off + 2, none⟩ = some (.int .i64 (rd_T40 l0 ji).f2) ∧ w'.cell? ⟨(ad.add (ji.toNat * 6)).block, (ad.add (ji.toNat * 6)).off + 3, none⟩ = some (.int .i64 (rd_T40 l0 ji).f3) ∧ w'.cell? ⟨(ad.add (ji.toNat * 6)).block, (ad.add (ji.toNat * 6)).off + 4, none⟩ = some (.string (rd_T40 l0 ji).f4) ∧ w'.cell? ⟨(ad.add (ji.toNat * 6)).block, (ad.add (ji.toNat * 6)).off + 5, none⟩ = some (.int .i64 (rd_T40 l0 ji).f5) ∧ (Instr.lookup 43 (.map (some w.heap.size)) (.int .i64 (rd_T40 l0 (i : Int)).f0) false).run Try.prog w' = .ok (.int .i64 (m (rd_T40 l0 (i : Int)).f0)) w') (ds := []) (msk 0 26) (by kernel_rfl) rfl rfl ⟨(cell_kept BW0.out ((blk_cell BK.out 0).trans rfl)), (cell_kept BW0.out ((blk_cell BK.out 1).trans rfl)), (cell_kept BW0.out ((blk_cell BK.out 2).trans rfl)), (cell_kept BW0.out ((blk_cell BK.out 3).trans rfl)), (cell_kept BW0.out ((blk_cell BK.out 4).trans rfl)), (cell_kept BW0.out ((blk_cell BK.out 5).trans rfl)), (cell_kept BW0.out (cell_kept_ HB1.out HB.out hy0)), (cell_kept BW0.out (cell_kept_ HB1.out HB.out hy1)), (cell_kept BW0.out (cell_kept_ HB1.out HB.out hy2)), (cell_kept BW0.out (cell_kept_ HB1.out HB.out hy3)), (cell_kept BW0.out (cell_kept_ HB1.out HB.out hy4)), (cell_kept BW0.out (cell_kept_ HB1.out HB.out hy5)), (impl_EventsOK.look (HM1.out.kept (below_grown BW0.out) (by simp)) HD.out _ hs)⟩ (fun hHeld => ?_)
     refine with_tabW impl_EventsOK.tab7 impl_EventsOK.bits7 (fun HT_ HW_ => ?_)
     refine tk_ 0 17 (msk 1 25) HT_.out HW_.out hHeld ?_ (hy := by rintro w' ⟨s0, s1, s2, s3, s4, s5, s6, s7, s8, s9, s10, s11, s12⟩; go_simp; with_reducible rfl)
     refine one_ (i := 1) (N := some 18) (msk 2 24) rfl rfl (one_of HT_.out (by kernel_rfl)) (by decide) (fun K hK => ?_)
     refine goes_ Try.func21 (by kernel_rfl) rfl #[.agg #[.int .i64 (rd_T40 l0 (i : Int)).f0, .int .i64 (rd_T40 l0 (i : Int)).f1, .int .i64 (rd_T40 l0 (i : Int)).f2, .int .i64 (rd_T40 l0 (i : Int)).f3, .string (rd_T40 l0 (i : Int)).f4, .int .i64 (rd_T40 l0 (i : Int)).f5]] (by rfl) rfl rfl (by (try simp only [List.map_toArray, List.map_cons, List.map_nil]); first | done | (simp only [hji]; rfl) | rfl) ?_
     with_reducible refine (impl_isEvent.calls k1 ((rd_T40 l0 (i : Int)).f0) ((rd_T40 l0 (i : Int)).f1) ((rd_T40 l0 (i : Int)).f2) ((rd_T40 l0 (i : Int)).f3) ((rd_T40 l0 (i : Int)).f4) ((rd_T40 l0 (i : Int)).f5) _ _ A1.out).mono ?_
     rintro e w1 ⟨rfl, hb⟩
     refine ⟨_, rfl, ?_⟩
     have BW1 := Aside0.mk (below_step BW0.out hb)
     clear hb
     refine hK.out _ _ ⟨(cell_kept BW1.out ((blk_cell BK.out 0).trans rfl)), (cell_kept BW1.out ((blk_cell BK.out 1).trans rfl)), (cell_kept BW1.out ((blk_cell BK.out 2).trans rfl)), (cell_kept BW1.out ((blk_cell BK.out 3).trans rfl)), (cell_kept BW1.out ((blk_cell BK.out 4).trans rfl)), (cell_kept BW1.out ((blk_cell BK.out 5).trans rfl)), (cell_kept BW1.out (cell_kept_ HB1.out HB.out hy0)), (cell_kept BW1.out (cell_kept_ HB1.out HB.out hy1)), (cell_kept BW1.out (cell_kept_ HB1.out HB.out hy2)), (cell_kept BW1.out (cell_kept_ HB1.out HB.out hy3)), (cell_kept BW1.out (cell_kept_ HB1.out HB.out hy4)), (cell_kept BW1.out (cell_kept_ HB1.out HB.out hy5)), (impl_EventsOK.look (HM1.out.kept (below_grown BW1.out) (by simp)) HD.out _ hs)⟩ (fun hHeld => ?_)
     clear hK K
     refine norm_ (a' := ?_) ?_ ?_
     rotate_left
     ·show Act.put _ (some 18) _ = _
      simp only [Act.put, List.setIfInBounds_toArray, List.set_cons_zero, List.set_cons_succ, i64_w, i32_w]
      rfl
     refine pu_ 2 19 (msk 3 23) HT_.out ?_; refine pu_ 3 20 (msk 4 22) HT_.out ?_; refine pu_ 4 21 (msk 5 21) HT_.out ?_; refine pu_ 5 22 (msk 6 20) HT_.out ?_; refine pu_ 6 23 (msk 7 19) HT_.out ?_; refine pu_ 7 24 (msk 8 18) HT_.out ?_; refine pu_ 8 25 (msk 9 17) HT_.out ?_; refine pu_ 9 26 (msk 10 16) HT_.out ?_; refine pu_ 10 27 (msk 11 15) HT_.out ?_
     refine tk_ 11 28 (msk 12 14) HT_.out HW_.out hHeld ?_ (hy := by rintro w' ⟨s0, s1, s2, s3, s4, s5, s6, s7, s8, s9, s10, s11, s12⟩; go_simp; with_reducible rfl)
     refine tk_ 12 29 (msk 13 13) HT_.out HW_.out hHeld ?_ (hy := by rintro w' ⟨s0, s1, s2, s3, s4, s5, s6, s7, s8, s9, s10, s11, s12⟩; go_simp; with_reducible rfl)
     refine one_ (i := 13) (N := some 30) (msk 14 12) rfl rfl (one_of HT_.out (by kernel_rfl)) (by decide) (fun K hK => ?_)
     refine goes_ Try.func22 (by kernel_rfl) rfl #[.agg #[.int .i64 (rd_T40 l0 ji).f0, .int .i64 (rd_T40 l0 ji).f1, .int .i64 (rd_T40 l0 ji).f2, .int .i64 (rd_T40 l0 ji).f3, .string (rd_T40 l0 ji).f4, .int .i64 (rd_T40 l0 ji).f5], .agg #[.int .i64 (rd_T40 l0 (i : Int)).f0, .int .i64 (rd_T40 l0 (i : Int)).f1, .int .i64 (rd_T40 l0 (i : Int)).f2, .int .i64 (rd_T40 l0 (i : Int)).f3, .string (rd_T40 l0 (i : Int)).f4, .int .i64 (rd_T40 l0 (i : Int)).f5]] (by rfl) rfl rfl (by (try simp only [List.map_toArray, List.map_cons, List.map_nil]); first | done | (simp only [hji]; rfl) | rfl) ?_
     with_reducible refine (impl_compareEvents.calls k1 ((rd_T40 l0 ji).f0) ((rd_T40 l0 ji).f1) ((rd_T40 l0 ji).f2) ((rd_T40 l0 ji).f3) ((rd_T40 l0 ji).f4) ((rd_T40 l0 ji).f5) ((rd_T40 l0 (i : Int)).f0) ((rd_T40 l0 (i : Int)).f1) ((rd_T40 l0 (i : Int)).f2) ((rd_T40 l0 (i : Int)).f3) ((rd_T40 l0 (i : Int)).f4) ((rd_T40 l0 (i : Int)).f5) _ _ A2.out).mono ?_
     rintro e w2 ⟨rfl, hb⟩
     refine ⟨_, rfl, ?_⟩
     have BW2 := Aside0.mk (below_step BW1.out hb)
     clear hb
     refine hK.out _ _ ⟨(cell_kept BW2.out ((blk_cell BK.out 0).trans rfl)), (cell_kept BW2.out ((blk_cell BK.out 1).trans rfl)), (cell_kept BW2.out ((blk_cell BK.out 2).trans rfl)), (cell_kept BW2.out ((blk_cell BK.out 3).trans rfl)), (cell_kept BW2.out ((blk_cell BK.out 4).trans rfl)), (cell_kept BW2.out ((blk_cell BK.out 5).trans rfl)), (cell_kept BW2.out (cell_kept_ HB1.out HB.out hy0)), (cell_kept BW2.out (cell_kept_ HB1.out HB.out hy1)), (cell_kept BW2.out (cell_kept_ HB1.out HB.out hy2)), (cell_kept BW2.out (cell_kept_ HB1.out HB.out hy3)), (cell_kept BW2.out (cell_kept_ HB1.out HB.out hy4)), (cell_kept BW2.out (cell_kept_ HB1.out HB.out hy5)), (impl_EventsOK.look (HM1.out.kept (below_grown BW2.out) (by simp)) HD.out _ hs)⟩ (fun hHeld => ?_)
     clear hK K
     refine norm_ (a' := ?_) ?_ ?_
     rotate_left
     ·show Act.put _ (some 30) _ = _
      simp only [Act.put, List.setIfInBounds_toArray, List.set_cons_zero, List.set_cons_succ, i64_w, i32_w]
      rfl
     refine pu_ 14 31 (msk 15 11) HT_.out ?_; refine pu_ 15 32 (msk 16 10) HT_.out ?_; refine pu_ 16 33 (msk 17 9) HT_.out ?_; refine pu_ 17 34 (msk 18 8) HT_.out ?_; refine pu_ 18 35 (msk 19 7) HT_.out ?_; refine pu_ 19 36 (msk 20 6) HT_.out ?_; refine pu_ 22 39 (mskl 26 20 [22]) HT_.out ?_
     refine tk_ 20 37 (mskl 26 21 [22]) HT_.out HW_.out hHeld ?_ (hy := by rintro w' ⟨s0, s1, s2, s3, s4, s5, s6, s7, s8, s9, s10, s11, s12⟩; go_simp; with_reducible rfl)
     refine take_ (i := 21) (N := some 38) (v := (.int .i64 (m (rd_T40 l0 (i : Int)).f0))) (a' := ?_) (msk 23 3) rfl rfl (take_ofW HT_.out HW_.out (by kernel_rfl)) (fun _ _ _ h => h) (Or.inl ⟨by rfl, ?_⟩) hHeld ?_ ?_
     ·rintro w' ⟨s0, s1, s2, s3, s4, s5, s6, s7, s8, s9, s10, s11, s12⟩
      exact impl_EventsOK.yl rfl rfl rfl s12
     rotate_left
     ·simp only [Act.put, List.setIfInBounds_toArray, List.set_cons_zero, List.set_cons_succ, i64_w, i32_w]
      rfl
     refine tk_ 23 40 (msk 24 2) HT_.out HW_.out hHeld ?_ (hy := by rintro w' ⟨s0, s1, s2, s3, s4, s5, s6, s7, s8, s9, s10, s11, s12⟩; go_simp; with_reducible rfl)
     refine pu_ 24 41 (msk 25 1) HT_.out ?_; refine pu_ 25 42 (msk 26 0) HT_.out ?_
     refine done_ (done_of HT_.out (by kernel_rfl)) ?_
     go_wp2
     go_ret
     exact ⟨rfl, below_step (below_step HB.out HB1.out) BW2.out⟩
    rw [if_neg hm] at H
    have H2 := Aside0.mk H
    clear H
    have hmb : decide ((rd_T40 l0 (i : Int)).f1 ≤ m (rd_T40 l0 (i : Int)).f0) = false := decide_eq_false hm
    refine start_ (n := 26) (S := fun w' => w'.cell? ⟨wr.heap.size, 0, none⟩ = some (.int .i64 (rd_T40 l0 (i : Int)).f0) ∧ w'.cell? ⟨wr.heap.size, 1, none⟩ = some (.int .i64 (rd_T40 l0 (i : Int)).f1) ∧ w'.cell? ⟨wr.heap.size, 2, none⟩ = some (.int .i64 (rd_T40 l0 (i : Int)).f2) ∧ w'.cell? ⟨wr.heap.size, 3, none⟩ = some (.int .i64 (rd_T40 l0 (i : Int)).f3) ∧ w'.cell? ⟨wr.heap.size, 4, none⟩ = some (.string (rd_T40 l0 (i : Int)).f4) ∧ w'.cell? ⟨wr.heap.size, 5, none⟩ = some (.int .i64 (rd_T40 l0 (i : Int)).f5) ∧ w'.cell? (ad.add (ji.toNat * 6)) = some (.int .i64 (rd_T40 l0 ji).f0) ∧ w'.cell? ⟨(ad.add (ji.toNat * 6)).block, (ad.add (ji.toNat * 6)).off + 1, none⟩ = some (.int .i64 (rd_T40 l0 ji).f1) ∧ w'.cell? ⟨(ad.add (ji.toNat * 6)).block, (ad.add (ji.toNat * 6)).off + 2, none⟩ = some (.int .i64 (rd_T40 l0 ji).f2) ∧ w'.cell? ⟨(ad.add (ji.toNat * 6)).block, (ad.add (ji.toNat * 6)).off + 3, none⟩ = some (.int .i64 (rd_T40 l0 ji).f3) ∧ w'.cell? ⟨(ad.add (ji.toNat * 6)).block, (ad.add (ji.toNat * 6)).off + 4, none⟩ = some (.string (rd_T40 l0 ji).f4) ∧ w'.cell? ⟨(ad.add (ji.toNat * 6)).block, (ad.add (ji.toNat * 6)).off + 5, none⟩ = some (.int .i64 (rd_T40 l0 ji).f5) ∧ (Instr.lookup 43 (.map (some w.heap.size)) (.int .i64 (rd_T40 l0 (i : Int)).f0) false).run Try.prog w' = .ok (.int .i64 (m (rd_T40 l0 (i : Int)).f0)) w') (ds := []) (msk 0 26) (by kernel_rfl) rfl rfl ⟨(cell_kept BW0.out ((blk_cell BK.out 0).trans rfl)), (cell_kept BW0.out ((blk_cell BK.out 1).trans rfl)), (cell_kept BW0.out ((blk_cell BK.out 2).trans rfl)), (cell_kept BW0.out ((blk_cell BK.out 3).trans rfl)), (cell_kept BW0.out ((blk_cell BK.out 4).trans rfl)), (cell_kept BW0.out ((blk_cell BK.out 5).trans rfl)), (cell_kept BW0.out (cell_kept_ HB1.out HB.out hy0)), (cell_kept BW0.out (cell_kept_ HB1.out HB.out hy1)), (cell_kept BW0.out (cell_kept_ HB1.out HB.out hy2)), (cell_kept BW0.out (cell_kept_ HB1.out HB.out hy3)), (cell_kept BW0.out (cell_kept_ HB1.out HB.out hy4)), (cell_kept BW0.out (cell_kept_ HB1.out HB.out hy5)), (impl_EventsOK.look (HM1.out.kept (below_grown BW0.out) (by simp)) HD.out _ hs)⟩ (fun hHeld => ?_)
    refine with_tabW impl_EventsOK.tab7 impl_EventsOK.bits7 (fun HT_ HW_ => ?_)
    refine tk_ 0 17 (msk 1 25) HT_.out HW_.out hHeld ?_ (hy := by rintro w' ⟨s0, s1, s2, s3, s4, s5, s6, s7, s8, s9, s10, s11, s12⟩; go_simp; with_reducible rfl)
    refine one_ (i := 1) (N := some 18) (msk 2 24) rfl rfl (one_of HT_.out (by kernel_rfl)) (by decide) (fun K hK => ?_)
    refine goes_ Try.func21 (by kernel_rfl) rfl #[.agg #[.int .i64 (rd_T40 l0 (i : Int)).f0, .int .i64 (rd_T40 l0 (i : Int)).f1, .int .i64 (rd_T40 l0 (i : Int)).f2, .int .i64 (rd_T40 l0 (i : Int)).f3, .string (rd_T40 l0 (i : Int)).f4, .int .i64 (rd_T40 l0 (i : Int)).f5]] (by rfl) rfl rfl (by (try simp only [List.map_toArray, List.map_cons, List.map_nil]); first | done | (simp only [hji]; rfl) | rfl) ?_
    with_reducible refine (impl_isEvent.calls k1 ((rd_T40 l0 (i : Int)).f0) ((rd_T40 l0 (i : Int)).f1) ((rd_T40 l0 (i : Int)).f2) ((rd_T40 l0 (i : Int)).f3) ((rd_T40 l0 (i : Int)).f4) ((rd_T40 l0 (i : Int)).f5) _ _ A1.out).mono ?_
    rintro e w1 ⟨rfl, hb⟩
    refine ⟨_, rfl, ?_⟩
    have BW1 := Aside0.mk (below_step BW0.out hb)
    clear hb
    refine hK.out _ _ ⟨(cell_kept BW1.out ((blk_cell BK.out 0).trans rfl)), (cell_kept BW1.out ((blk_cell BK.out 1).trans rfl)), (cell_kept BW1.out ((blk_cell BK.out 2).trans rfl)), (cell_kept BW1.out ((blk_cell BK.out 3).trans rfl)), (cell_kept BW1.out ((blk_cell BK.out 4).trans rfl)), (cell_kept BW1.out ((blk_cell BK.out 5).trans rfl)), (cell_kept BW1.out (cell_kept_ HB1.out HB.out hy0)), (cell_kept BW1.out (cell_kept_ HB1.out HB.out hy1)), (cell_kept BW1.out (cell_kept_ HB1.out HB.out hy2)), (cell_kept BW1.out (cell_kept_ HB1.out HB.out hy3)), (cell_kept BW1.out (cell_kept_ HB1.out HB.out hy4)), (cell_kept BW1.out (cell_kept_ HB1.out HB.out hy5)), (impl_EventsOK.look (HM1.out.kept (below_grown BW1.out) (by simp)) HD.out _ hs)⟩ (fun hHeld => ?_)
    clear hK K
    refine norm_ (a' := ?_) ?_ ?_
    rotate_left
    ·show Act.put _ (some 18) _ = _
     simp only [Act.put, List.setIfInBounds_toArray, List.set_cons_zero, List.set_cons_succ, i64_w, i32_w]
     rfl
    refine pu_ 2 19 (msk 3 23) HT_.out ?_; refine pu_ 3 20 (msk 4 22) HT_.out ?_; refine pu_ 4 21 (msk 5 21) HT_.out ?_; refine pu_ 5 22 (msk 6 20) HT_.out ?_; refine pu_ 6 23 (msk 7 19) HT_.out ?_; refine pu_ 7 24 (msk 8 18) HT_.out ?_; refine pu_ 8 25 (msk 9 17) HT_.out ?_; refine pu_ 9 26 (msk 10 16) HT_.out ?_; refine pu_ 10 27 (msk 11 15) HT_.out ?_
    refine tk_ 11 28 (msk 12 14) HT_.out HW_.out hHeld ?_ (hy := by rintro w' ⟨s0, s1, s2, s3, s4, s5, s6, s7, s8, s9, s10, s11, s12⟩; go_simp; with_reducible rfl)
    refine tk_ 12 29 (msk 13 13) HT_.out HW_.out hHeld ?_ (hy := by rintro w' ⟨s0, s1, s2, s3, s4, s5, s6, s7, s8, s9, s10, s11, s12⟩; go_simp; with_reducible rfl)
    refine one_ (i := 13) (N := some 30) (msk 14 12) rfl rfl (one_of HT_.out (by kernel_rfl)) (by decide) (fun K hK => ?_)
    refine goes_ Try.func22 (by kernel_rfl) rfl #[.agg #[.int .i64 (rd_T40 l0 ji).f0, .int .i64 (rd_T40 l0 ji).f1, .int .i64 (rd_T40 l0 ji).f2, .int .i64 (rd_T40 l0 ji).f3, .string (rd_T40 l0 ji).f4, .int .i64 (rd_T40 l0 ji).f5], .agg #[.int .i64 (rd_T40 l0 (i : Int)).f0, .int .i64 (rd_T40 l0 (i : Int)).f1, .int .i64 (rd_T40 l0 (i : Int)).f2, .int .i64 (rd_T40 l0 (i : Int)).f3, .string (rd_T40 l0 (i : Int)).f4, .int .i64 (rd_T40 l0 (i : Int)).f5]] (by rfl) rfl rfl (by (try simp only [List.map_toArray, List.map_cons, List.map_nil]); first | done | (simp only [hji]; rfl) | rfl) ?_
    with_reducible refine (impl_compareEvents.calls k1 ((rd_T40 l0 ji).f0) ((rd_T40 l0 ji).f1) ((rd_T40 l0 ji).f2) ((rd_T40 l0 ji).f3) ((rd_T40 l0 ji).f4) ((rd_T40 l0 ji).f5) ((rd_T40 l0 (i : Int)).f0) ((rd_T40 l0 (i : Int)).f1) ((rd_T40 l0 (i : Int)).f2) ((rd_T40 l0 (i : Int)).f3) ((rd_T40 l0 (i : Int)).f4) ((rd_T40 l0 (i : Int)).f5) _ _ A2.out).mono ?_
    rintro e w2 ⟨rfl, hb⟩
    refine ⟨_, rfl, ?_⟩
    have BW2 := Aside0.mk (below_step BW1.out hb)
    clear hb
    refine hK.out _ _ ⟨(cell_kept BW2.out ((blk_cell BK.out 0).trans rfl)), (cell_kept BW2.out ((blk_cell BK.out 1).trans rfl)), (cell_kept BW2.out ((blk_cell BK.out 2).trans rfl)), (cell_kept BW2.out ((blk_cell BK.out 3).trans rfl)), (cell_kept BW2.out ((blk_cell BK.out 4).trans rfl)), (cell_kept BW2.out ((blk_cell BK.out 5).trans rfl)), (cell_kept BW2.out (cell_kept_ HB1.out HB.out hy0)), (cell_kept BW2.out (cell_kept_ HB1.out HB.out hy1)), (cell_kept BW2.out (cell_kept_ HB1.out HB.out hy2)), (cell_kept BW2.out (cell_kept_ HB1.out HB.out hy3)), (cell_kept BW2.out (cell_kept_ HB1.out HB.out hy4)), (cell_kept BW2.out (cell_kept_ HB1.out HB.out hy5)), (impl_EventsOK.look (HM1.out.kept (below_grown BW2.out) (by simp)) HD.out _ hs)⟩ (fun hHeld => ?_)
    clear hK K
    refine norm_ (a' := ?_) ?_ ?_
    rotate_left
    ·show Act.put _ (some 30) _ = _
     simp only [Act.put, List.setIfInBounds_toArray, List.set_cons_zero, List.set_cons_succ, i64_w, i32_w]
     rfl
    refine pu_ 14 31 (msk 15 11) HT_.out ?_; refine pu_ 15 32 (msk 16 10) HT_.out ?_; refine pu_ 16 33 (msk 17 9) HT_.out ?_; refine pu_ 17 34 (msk 18 8) HT_.out ?_; refine pu_ 18 35 (msk 19 7) HT_.out ?_; refine pu_ 19 36 (msk 20 6) HT_.out ?_; refine pu_ 22 39 (mskl 26 20 [22]) HT_.out ?_
    refine tk_ 20 37 (mskl 26 21 [22]) HT_.out HW_.out hHeld ?_ (hy := by rintro w' ⟨s0, s1, s2, s3, s4, s5, s6, s7, s8, s9, s10, s11, s12⟩; go_simp; with_reducible rfl)
    refine take_ (i := 21) (N := some 38) (v := (.int .i64 (m (rd_T40 l0 (i : Int)).f0))) (a' := ?_) (msk 23 3) rfl rfl (take_ofW HT_.out HW_.out (by kernel_rfl)) (fun _ _ _ h => h) (Or.inl ⟨by rfl, ?_⟩) hHeld ?_ ?_
    ·rintro w' ⟨s0, s1, s2, s3, s4, s5, s6, s7, s8, s9, s10, s11, s12⟩
     exact impl_EventsOK.yl rfl rfl rfl s12
    rotate_left
    ·simp only [Act.put, List.setIfInBounds_toArray, List.set_cons_zero, List.set_cons_succ, i64_w, i32_w]
     rfl
    refine tk_ 23 40 (msk 24 2) HT_.out HW_.out hHeld ?_ (hy := by rintro w' ⟨s0, s1, s2, s3, s4, s5, s6, s7, s8, s9, s10, s11, s12⟩; go_simp; with_reducible rfl)
    refine pu_ 24 41 (msk 25 1) HT_.out ?_; refine pu_ 25 42 (msk 26 0) HT_.out ?_
    refine done_ (done_of HT_.out (by kernel_rfl)) ?_
    have e9 : wrap64 ((i : Int) + 1) = ((i + 1 : Nat) : Int) := by have := HL.out; unfold wrap64; omega
    go_wp2_with (first | (at_mapUpdate; refine wpList_mapUpdate_own _ rfl _ _ _ 43 rfl 3 3 (Maps.int_keyed Try.underlying3) Try.underlying43 _ w.heap.size i D rfl (HM1.out.kept (below_grown BW2.out) (by simp)) (by have := HL.out; unfold maxLen; omega) _ _ (.int .i64 (rd_T40 l0 (i : Int)).f0) rfl rfl (Maps.keyOf_int_mk Try.underlying3 (impl_EventsOK.wf1 hs)) (.lit (.int .i64 (rd_T40 l0 (i : Int)).f1)) [] (plainElem_int Try.underlying3 (impl_EventsOK.wf1 hq)) ?_; intro w9 hown9 hgrow9))
    go_roundg k1
    case measure => omega
    case rel => exact ⟨i + 1, _, _, by first | rw [e9] | rw [i64_w, e9] | (rw [Int.natCast_add]; rfl), by omega, H2, ⟨hown9⟩, ⟨HI.out.put _ _⟩, ⟨impl_EventsOK.putD HI.out HD.out _ _⟩, ⟨impl_EventsOK.below9 (below_step (below_step HB.out HB1.out) BW2.out) hgrow9⟩⟩
end Go.Proofs.Ytnpfeigdghecfaa.XFnExactMergeEvents
