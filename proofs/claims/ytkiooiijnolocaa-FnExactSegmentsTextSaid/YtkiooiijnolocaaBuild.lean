/- (*strings.Replacer).build on the six texts of the escape. -/
import Derived.Test.YtkiooiijnolocaaTable
import Derived.WalkKit
import Derived.Lib.SliceRun
import Derived.Deep.WholeRow
set_option maxRecDepth 100000
set_option maxHeartbeats 1600000
set_option linter.unusedVariables false
set_option linter.unusedSimpArgs false
namespace Go.Proofs.Ytkiooiijnolocaa.Once
open Go.RowKit
/-- What is left inside a loop, at a round's head. -/
def LoopIn (P : Program) (c : Code) (Q : Exit → Act → World → Prop) (a : Act) (w : World) : Prop :=
  ∀ b k cs, ∃ e a' w', Q e a' w' ∧ Arrives P (lone (b.at a (.code c :: .inLoop c :: k)) cs w) b k cs e a' w'
theorem loopIn_wp {P : Program} {c : Code} {Q : Exit → Act → World → Prop} {a : Act} {w : World} (h : LoopIn P c Q a w) : (Code.loop c).wp P Q a w := by
  intro b k cs
  obtain ⟨e, a', w', hq, harr⟩ := h b k cs
  exact ⟨e, a', w', hq, .of_steps (.one step_loop) harr⟩
/-- One round of a loop walked in place. -/
theorem loopIn_more {P : Program} {c : Code} {Q : Exit → Act → World → Prop} {a : Act} {w : World} (h : c.wp P (Exit.then (fun a' w' => LoopIn P c Q a' w') Q) a w) : LoopIn P c Q a w := by
  intro b k cs
  obtain ⟨e, a₁, w₁, hq, harr⟩ := h b (.inLoop c :: k) cs
  cases e with
  | normal =>
    obtain ⟨e₂, a₂, w₂, hq₂, harr₂⟩ := hq b k cs
    exact ⟨e₂, a₂, w₂, hq₂, .of_steps (Steps.trans harr (.one step_inLoop)) harr₂⟩
  | exit id => exact ⟨_, a₁, w₁, hq, .pass (x := .inLoop c) rfl (fun _ _ => .inl (by simp)) harr⟩
  | goto l => exact ⟨_, a₁, w₁, hq, .pass (x := .inLoop c) rfl (fun _ _ => .inl (by simp)) harr⟩
  | ret => exact ⟨_, a₁, w₁, hq, .pass (x := .inLoop c) rfl (fun _ _ => .inl (by simp)) harr⟩
  | panic ch => exact ⟨_, a₁, w₁, hq, .pass (x := .inLoop c) rfl (fun _ _ => .inl (by simp)) harr⟩
  | outgrown => exact ⟨_, a₁, w₁, hq, .pass (x := .inLoop c) rfl (fun _ _ => .inl (by simp)) harr⟩
/-- append where its run is known. -/
theorem app_at {P : Program} {ops : Array Oper} {rest : List Oper} {o : Oper} {a : Act} {w w' : World} {Q : Exit → Act → World → Prop} (hgd : o.guard = none) (s x : Operand) (t : TypeId) (v u v' : Value) (ho : o.op = .call { callee := .builtin .append, args := #[s, x], argTypes := #[t, t] }) (hs : a.eval s = v) (hx : a.eval x = u) (hr : (Builtin.append_ #[t, t] o.type #[v, u]).run P w = .ok v' w') (h : wpList P ops Q rest (a.put o.dst v') w') : wpList P ops Q (o :: rest) a w := by
  refine wpList_plain hgd fun _ hK => ?_
  unfold Oper.wp execOp
  simp only [ho, resolve, invoke, builtin, Sem.run_bind, Sem.run_pure, Result.andThen_ok, List.map_toArray, List.map_cons, List.map_nil, hs, hx, hr]
  exact hK _ _ h
theorem make3 (w : World) : (Instr.makeSlice 66 (.int .i64 0) (.int .i64 3)).run Try.prog w = .ok (.slice (some ⟨w.heap.size, 0, none⟩) 0 3) (w.alloc (.cells #[.string ⟨#[]⟩, .string ⟨#[]⟩, .string ⟨#[]⟩] 9)) := by
  obtain ⟨i9, hi9, hj9⟩ := Option.map_eq_some_iff.1 (show (Try.prog.info? 9).map (fun i => (i.zero, i.size, i.bytes)) = some (some (.string ⟨#[]⟩), 1, 16) by kernel_rfl)
  simp only [Prod.mk.injEq] at hj9
  obtain ⟨hz9, hs9, hb9⟩ := hj9
  have h := run_makeSlice (P := Try.prog) (w := w) 66 9 i9 _ Try.underlying66 hi9 hz9 .i64 .i64 0 3 (by decide) (by decide) (by rw [hs9]; decide) (by rw [hb9]; decide) (by decide)
  rw [hs9] at h
  rw [show madeCells (Value.string ⟨#[]⟩).cells (Int.toNat 3 * 1) = #[.string ⟨#[]⟩, .string ⟨#[]⟩, .string ⟨#[]⟩] by kernel_rfl] at h
  exact h
theorem size175 : (Try.prog.info? 175).map (·.size) = some 257 := by kernel_rfl
theorem cells175 : Try.zeroCells175.size = 257 := by kernel_rfl
theorem one175 (v : Nat) : ((Try.zeroCells175.toList.set 256 (.slice (some ⟨v, 0, none⟩) 0 3)).toArray).all (·.oneCell') = true := by kernel_rfl
theorem conv2 (W : World) (u : UInt8) : (convert 9 42 (.string ⟨#[63, u]⟩)).run Try.prog W = .ok (.slice (some ⟨W.heap.size, 0, none⟩) 2 (grownCap W 2 0 5)) (W.drew.alloc (.cells (bytesRow ⟨#[63, u]⟩ (grownCap W 2 0 5)) 5 (2 + (grownCap W 2 0 5 - 2), 2 + (grownCap W 2 0 5 - 2) + 1))) := by
  have h := run_bytes_of_string (P := Try.prog) W 9 42 5 ⟨#[63, u]⟩ Try.underlying9 Try.underlying42 Try.underlying5
  have h2 : (⟨#[63, u]⟩ : ByteArray).size = 2 := rfl
  have hs : (bytesRow ⟨#[63, u]⟩ (grownCap W 2 0 5)).size = 2 + (grownCap W 2 0 5 - 2) := by simp [bytesRow, h2]
  rw [h2, hs] at h
  exact h
theorem one_str (W : World) (u : UInt8) : (convert 42 9 (.slice (some ⟨W.heap.size, 0, none⟩) 1 1)).run Try.prog (W.alloc (.cells #[.int .u8 u.toNat] 5)) = .ok (.string ⟨#[u]⟩) (W.alloc (.cells #[.int .u8 u.toNat] 5)) :=
  run_convert_bytes_back (P := Try.prog) (W.alloc (.cells #[.int .u8 u.toNat] 5)) 42 9 5 ⟨W.heap.size, 0, none⟩ 1 [u] Try.underlying42 Try.underlying5 Try.underlying9 (fun j hj => by
    obtain rfl : j = 0 := by simpa using hj
    rw [Addr.add_lit]
    simp)
theorem build1 (b g co : Nat) (w : World) (h4 : w.cell? ⟨b, 4, none⟩ = some (.slice (some ⟨g, 0, none⟩) 6 co))
    (s0 : w.cell? ⟨g, 0, none⟩ = some (.string ⟨#[43]⟩)) (s1 : w.cell? ⟨g, 1, none⟩ = some (.string ⟨#[63, 43]⟩))
    (s2 : w.cell? ⟨g, 2, none⟩ = some (.string ⟨#[63]⟩)) (s3 : w.cell? ⟨g, 3, none⟩ = some (.string ⟨#[63, 63]⟩))
    (s4 : w.cell? ⟨g, 4, none⟩ = some (.string ⟨#[39]⟩)) (s5 : w.cell? ⟨g, 5, none⟩ = some (.string ⟨#[63, 39]⟩))
    (hg : g < w.heap.size) :
    Calls Try.prog 90 #[.pointer (some ⟨b, 0, none⟩)] w fun e w' => ∃ B, e = .returned (.iface 176 (.pointer (some ⟨B, 0, none⟩))) ∧ Tbl w B w' := by
  have z39 : ∀ h, ((⟨#[39]⟩ : ByteArray)[0]'h).toNat = 39 := fun _ => rfl
  have z63 : ∀ h, ((⟨#[63]⟩ : ByteArray)[0]'h).toNat = 63 := fun _ => rfl
  have z43 : ∀ h, ((⟨#[43]⟩ : ByteArray)[0]'h).toNat = 43 := fun _ => rfl
  have c39 : ∀ W : World, (convert 42 9 (.slice (some ⟨W.heap.size, 0, none⟩) 1 1)).run Try.prog (W.alloc (.cells #[.int .u8 39] 5)) = .ok (.string ⟨#[39]⟩) (W.alloc (.cells #[.int .u8 39] 5)) := fun W => one_str W 39
  have c63 : ∀ W : World, (convert 42 9 (.slice (some ⟨W.heap.size, 0, none⟩) 1 1)).run Try.prog (W.alloc (.cells #[.int .u8 63] 5)) = .ok (.string ⟨#[63]⟩) (W.alloc (.cells #[.int .u8 63] 5)) := fun W => one_str W 63
  have c43 : ∀ W : World, (convert 42 9 (.slice (some ⟨W.heap.size, 0, none⟩) 1 1)).run Try.prog (W.alloc (.cells #[.int .u8 43] 5)) = .ok (.string ⟨#[43]⟩) (W.alloc (.cells #[.int .u8 43] 5)) := fun W => one_str W 43
  obtain ⟨cf, ff, hff, q43, q63, q39⟩ : ∃ (cf : World → Nat) (ff : World → Nat × Nat), (∀ W, ff W ≠ (0, 0)) ∧ (∀ W, (convert 9 42 (.string ⟨#[63, 43]⟩)).run Try.prog W = .ok (.slice (some ⟨W.heap.size, 0, none⟩) 2 (cf W)) (W.drew.alloc (.cells (bytesRow ⟨#[63, 43]⟩ (cf W)) 5 (ff W)))) ∧ (∀ W, (convert 9 42 (.string ⟨#[63, 63]⟩)).run Try.prog W = .ok (.slice (some ⟨W.heap.size, 0, none⟩) 2 (cf W)) (W.drew.alloc (.cells (bytesRow ⟨#[63, 63]⟩ (cf W)) 5 (ff W)))) ∧ (∀ W, (convert 9 42 (.string ⟨#[63, 39]⟩)).run Try.prog W = .ok (.slice (some ⟨W.heap.size, 0, none⟩) 2 (cf W)) (W.drew.alloc (.cells (bytesRow ⟨#[63, 39]⟩ (cf W)) 5 (ff W)))) :=
    ⟨fun W => grownCap W 2 0 5, fun W => (2 + (grownCap W 2 0 5 - 2), 2 + (grownCap W 2 0 5 - 2) + 1), fun W => (fun e => by injection e; omega), fun W => conv2 W 43, fun W => conv2 W 63, fun W => conv2 W 39⟩
  replace hff : Hid (∀ W, ff W ≠ (0, 0)) := hff
  have hmk := make3
  have q42 : ∀ (W : World) (a : Option Addr) (n c n' c' : Nat), (binOp .eql 42 (.slice a n c) (.slice none n' c')).run Try.prog W = .ok (.bool a.isNone) W := fun W a n c n' c' => Lib.run_eql_slice_nil W _ _ a n c n' c' Try.underlying42
  have hst : (storeCells ⟨w.heap.size + 1, 0, none⟩ (Try.zeroCells175.toList.set 256 (.slice (some ⟨w.heap.size, 0, none⟩) 0 3))).run Try.prog ((w.alloc (.cells #[.string ⟨#[]⟩, .string ⟨#[]⟩, .string ⟨#[]⟩] 9)).alloc (.cells Try.zeroCells175 175)) = .ok () ((w.alloc (.cells #[.string ⟨#[]⟩, .string ⟨#[]⟩, .string ⟨#[]⟩] 9)).alloc (.cells ((Try.zeroCells175.toList.set 256 (.slice (some ⟨w.heap.size, 0, none⟩) 0 3)).toArray) 175)) := by
    have h := run_storeCells_new (P := Try.prog) (w.alloc (.cells #[.string ⟨#[]⟩, .string ⟨#[]⟩, .string ⟨#[]⟩] 9)) 175 Try.zeroCells175 ((Try.zeroCells175.toList.set 256 (.slice (some ⟨w.heap.size, 0, none⟩) 0 3)).toArray) (by rw [size175]; simp) (by simp) (one175 _)
    simpa using h
  go_enter Try.func90, Try.ntmps90
  go_wp2
  refine loopIn_wp (loopIn_more ?_)
  go_wp2
  refine loopIn_more ?_
  go_wp2
  refine loopIn_more ?_
  go_wp2
  refine loopIn_more ?_
  go_wp2
  have hT0 := tb_new w
  generalize ((w.alloc (.cells #[.string ⟨#[]⟩, .string ⟨#[]⟩, .string ⟨#[]⟩] 9)).alloc (.cells ((Try.zeroCells175.toList.set 256 (.slice (some ⟨w.heap.size, 0, none⟩) 0 3)).toArray) 175)) = W0 at hT0 ⊢
  generalize w.heap.size + 1 = B at hT0 ⊢
  generalize w.heap.size = H at hT0 ⊢
  have r4 : W0.cell? ⟨g, 4, none⟩ = some (.string ⟨#[39]⟩) := (hT0.bel.cell hg).trans s4
  have r5 : W0.cell? ⟨g, 5, none⟩ = some (.string ⟨#[63, 39]⟩) := (hT0.bel.cell hg).trans s5
  have t0 : W0.cell? ⟨B, 39, none⟩ = some (.slice none 0 0) := hT0.tab 39 (by decide)
  have t1 := hT0.top
  have t2 : W0.frozen? ⟨B, 39, none⟩ = false := hT0.fr _
  have t3 : W0.frozen? ⟨B, 256, none⟩ = false := hT0.fr _
  refine loopIn_wp (loopIn_more ?_)
  go_wp2_with (at_builtin; obtain ⟨V0, hr, hV0⟩ := Tb.app hT0 (by decide) 39; refine app_at rfl (.tmp 119) (.tmp 123) 66 _ _ _ rfl rfl rfl hr ?_; clear hr r4 r5 t0 t1 t2 t3; have t0 : V0.cell? ⟨B, 39, none⟩ = some (.slice none 0 0) := hV0.tab 39 (by decide); have t1 := hV0.top; have t2 : V0.frozen? ⟨B, 39, none⟩ = false := hV0.fr _; have t3 : V0.frozen? ⟨B, 256, none⟩ = false := hV0.fr _; have hiB := hV0.hiB)
  have hT1 := hV0.put2 39 (ff (V0.setCell ⟨B, 256, none⟩ (.slice (some ⟨H, 0, none⟩) 1 3))) (cf (V0.setCell ⟨B, 256, none⟩ (.slice (some ⟨H, 0, none⟩) 1 3))) (hff.out _)
  rw [show UInt8.toNat 39 = 39 from rfl] at hT1
  generalize (((V0.setCell ⟨B, 256, none⟩ (.slice (some ⟨H, 0, none⟩) 1 3)).setCell ⟨B, 39, none⟩ (.slice (some ⟨V0.heap.size, 0, none⟩) 2 (cf (V0.setCell ⟨B, 256, none⟩ (.slice (some ⟨H, 0, none⟩) 1 3))))).alloc (.cells (bytesRow ⟨#[63, 39]⟩ (cf (V0.setCell ⟨B, 256, none⟩ (.slice (some ⟨H, 0, none⟩) 1 3)))) 5 (ff (V0.setCell ⟨B, 256, none⟩ (.slice (some ⟨H, 0, none⟩) 1 3))))).drew = W1 at hT1 ⊢
  generalize (V0.heap.size, (cf (V0.setCell ⟨B, 256, none⟩ (.slice (some ⟨H, 0, none⟩) 1 3)))) = y0 at hT1
  clear t0 t1 t2 t3 hiB hV0
  revert hT1
  simp only [Nat.reduceAdd]
  intro hT1
  have r4 : W1.cell? ⟨g, 2, none⟩ = some (.string ⟨#[63]⟩) := (hT1.bel.cell hg).trans s2
  have r5 : W1.cell? ⟨g, 3, none⟩ = some (.string ⟨#[63, 63]⟩) := (hT1.bel.cell hg).trans s3
  have t0 : W1.cell? ⟨B, 63, none⟩ = some (.slice none 0 0) := hT1.tab 63 (by decide)
  have t1 := hT1.top
  have t2 : W1.frozen? ⟨B, 63, none⟩ = false := hT1.fr _
  have t3 : W1.frozen? ⟨B, 256, none⟩ = false := hT1.fr _
  refine loopIn_more ?_
  go_wp2_with (at_builtin; obtain ⟨V1, hr, hV1⟩ := Tb.app hT1 (by decide) 63; refine app_at rfl (.tmp 119) (.tmp 123) 66 _ _ _ rfl rfl rfl hr ?_; clear hr r4 r5 t0 t1 t2 t3; have t0 : V1.cell? ⟨B, 63, none⟩ = some (.slice none 0 0) := hV1.tab 63 (by decide); have t1 := hV1.top; have t2 : V1.frozen? ⟨B, 63, none⟩ = false := hV1.fr _; have t3 : V1.frozen? ⟨B, 256, none⟩ = false := hV1.fr _; have hiB := hV1.hiB)
  have hT2 := hV1.put2 63 (ff (V1.setCell ⟨B, 256, none⟩ (.slice (some ⟨H, 0, none⟩) 2 3))) (cf (V1.setCell ⟨B, 256, none⟩ (.slice (some ⟨H, 0, none⟩) 2 3))) (hff.out _)
  rw [show UInt8.toNat 63 = 63 from rfl] at hT2
  generalize (((V1.setCell ⟨B, 256, none⟩ (.slice (some ⟨H, 0, none⟩) 2 3)).setCell ⟨B, 63, none⟩ (.slice (some ⟨V1.heap.size, 0, none⟩) 2 (cf (V1.setCell ⟨B, 256, none⟩ (.slice (some ⟨H, 0, none⟩) 2 3))))).alloc (.cells (bytesRow ⟨#[63, 63]⟩ (cf (V1.setCell ⟨B, 256, none⟩ (.slice (some ⟨H, 0, none⟩) 2 3)))) 5 (ff (V1.setCell ⟨B, 256, none⟩ (.slice (some ⟨H, 0, none⟩) 2 3))))).drew = W2 at hT2 ⊢
  generalize (V1.heap.size, (cf (V1.setCell ⟨B, 256, none⟩ (.slice (some ⟨H, 0, none⟩) 2 3)))) = y1 at hT2
  clear t0 t1 t2 t3 hiB hV1
  revert hT2
  simp only [Nat.reduceAdd]
  intro hT2
  have r4 : W2.cell? ⟨g, 0, none⟩ = some (.string ⟨#[43]⟩) := (hT2.bel.cell hg).trans s0
  have r5 : W2.cell? ⟨g, 1, none⟩ = some (.string ⟨#[63, 43]⟩) := (hT2.bel.cell hg).trans s1
  have t0 : W2.cell? ⟨B, 43, none⟩ = some (.slice none 0 0) := hT2.tab 43 (by decide)
  have t1 := hT2.top
  have t2 : W2.frozen? ⟨B, 43, none⟩ = false := hT2.fr _
  have t3 : W2.frozen? ⟨B, 256, none⟩ = false := hT2.fr _
  refine loopIn_more ?_
  go_wp2_with (at_builtin; obtain ⟨V2, hr, hV2⟩ := Tb.app hT2 (by decide) 43; refine app_at rfl (.tmp 119) (.tmp 123) 66 _ _ _ rfl rfl rfl hr ?_; clear hr r4 r5 t0 t1 t2 t3; have t0 : V2.cell? ⟨B, 43, none⟩ = some (.slice none 0 0) := hV2.tab 43 (by decide); have t1 := hV2.top; have t2 : V2.frozen? ⟨B, 43, none⟩ = false := hV2.fr _; have t3 : V2.frozen? ⟨B, 256, none⟩ = false := hV2.fr _; have hiB := hV2.hiB)
  have hT3 := hV2.put2 43 (ff (V2.setCell ⟨B, 256, none⟩ (.slice (some ⟨H, 0, none⟩) 3 3))) (cf (V2.setCell ⟨B, 256, none⟩ (.slice (some ⟨H, 0, none⟩) 3 3))) (hff.out _)
  rw [show UInt8.toNat 43 = 43 from rfl] at hT3
  generalize (((V2.setCell ⟨B, 256, none⟩ (.slice (some ⟨H, 0, none⟩) 3 3)).setCell ⟨B, 43, none⟩ (.slice (some ⟨V2.heap.size, 0, none⟩) 2 (cf (V2.setCell ⟨B, 256, none⟩ (.slice (some ⟨H, 0, none⟩) 3 3))))).alloc (.cells (bytesRow ⟨#[63, 43]⟩ (cf (V2.setCell ⟨B, 256, none⟩ (.slice (some ⟨H, 0, none⟩) 3 3)))) 5 (ff (V2.setCell ⟨B, 256, none⟩ (.slice (some ⟨H, 0, none⟩) 3 3))))).drew = W3 at hT3 ⊢
  generalize (V2.heap.size, (cf (V2.setCell ⟨B, 256, none⟩ (.slice (some ⟨H, 0, none⟩) 3 3)))) = y2 at hT3
  clear t0 t1 t2 t3 hiB hV2
  revert hT3
  simp only [Nat.reduceAdd]
  intro hT3
  refine loopIn_more ?_
  go_wp2
  go_ret
  exact ⟨B, rfl, Tbl.mk3 hT3⟩
end Go.Proofs.Ytkiooiijnolocaa.Once
