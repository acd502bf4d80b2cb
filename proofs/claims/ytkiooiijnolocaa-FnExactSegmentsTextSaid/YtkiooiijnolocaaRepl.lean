/- strings.Replacer: (*Replacer).Replace over the contracts of build (90) and of the table's own Replace (175). -/
import Derived.Test.YtkiooiijnolocaaOnce
import Derived.WalkKit
set_option maxRecDepth 100000
set_option maxHeartbeats 1600000
set_option linter.unusedVariables false
namespace Go.Proofs.Ytkiooiijnolocaa.Once
/-- (*Replacer).Replace, built already. -/
theorem replace_done (b B : Nat) (s r : ByteArray) (R : World → Prop) (w : World) (h0 : w.cell? ⟨b, 0, none⟩ = some (.int .u32 1)) (hr : w.cell? ⟨b, 3, none⟩ = some (.iface 176 (.pointer (some ⟨B, 0, none⟩))))
    (hR : Calls Try.prog 175 #[.pointer (some ⟨B, 0, none⟩), .string s] w fun e w' => e = .returned (.string r) ∧ R w') :
    Calls Try.prog 48 #[.pointer (some ⟨b, 0, none⟩), .string s] w fun e w' => e = .returned (.string r) ∧ R w' := by
  have hmf : ∀ (fn : Fn) (first cap : Array Value) (w : World), (Instr.makeFunc fn first cap).run Try.prog w = .ok (.func fn first cap) w := fun _ _ _ _ => rfl
  have hm : ∀ w : World, (method 346 176 (.pointer (some ⟨B, 0, none⟩)) "Replace").run Try.prog w = .ok (175, .pointer (some ⟨B, 0, none⟩)) w := fun _ => by kernel_rfl
  go_enter Try.func48, Try.ntmps48
  go_wp2_with (first | (go_at_call 76; refine (do_done ⟨b, 0, none⟩ 1 (by decide) _ _ h0).mono ?_; rintro e w' ⟨rfl, rfl⟩) | (go_at_call 175; refine hR.mono ?_; rintro e w' ⟨rfl, hw⟩))
  go_ret
  exact ⟨rfl, hw⟩
/-- buildOnce: what build gives is stored, the texts are let go. -/
theorem build_once (b : Nat) (T : Nat → World → Prop) (w : World)
    (hB : Calls Try.prog 90 #[.pointer (some ⟨b, 0, none⟩)] w fun e w1 => ∃ B, e = .returned (.iface 176 (.pointer (some ⟨B, 0, none⟩))) ∧ T B w1)
    (hT : ∀ B w1, T B w1 → (∃ x, w1.cell? ⟨b, 3, none⟩ = some x) ∧ w1.frozen? ⟨b, 3, none⟩ = false ∧ (∃ x, w1.cell? ⟨b, 4, none⟩ = some x) ∧ w1.frozen? ⟨b, 4, none⟩ = false) :
    Calls Try.prog 77 #[.pointer (some ⟨b, 0, none⟩)] w fun e w' => e = .returned (.tuple #[]) ∧ ∃ B w1, T B w1 ∧ w' = (w1.setCell ⟨b, 3, none⟩ (.iface 176 (.pointer (some ⟨B, 0, none⟩)))).setCell ⟨b, 4, none⟩ (.slice none 0 0) := by
  go_enter Try.func77, Try.ntmps77
  go_wp2_with (go_at_call 90; refine hB.mono ?_; rintro e w1 ⟨B, rfl, hw1⟩; obtain ⟨⟨x, c3⟩, f3, ⟨y, c4⟩, f4⟩ := hT _ _ hw1)
  go_end0
  exact ⟨rfl, _, _, hw1, rfl⟩
/-- (*Replacer).Replace, the first time. -/
theorem replace_first (b : Nat) (s r : ByteArray) (T : Nat → World → Prop) (R : World → Prop) (w : World)
    (h0 : w.cell? ⟨b, 0, none⟩ = some (.int .u32 0)) (h1 : w.cell? ⟨b, 1, none⟩ = some (.int .i32 0)) (f1 : w.frozen? ⟨b, 1, none⟩ = false)
    (hB : Calls Try.prog 90 #[.pointer (some ⟨b, 0, none⟩)] (w.setCell ⟨b, 1, none⟩ (.int .i32 1)) fun e w1 => ∃ B, e = .returned (.iface 176 (.pointer (some ⟨B, 0, none⟩))) ∧ T B w1)
    (hT : ∀ B w1, T B w1 → (w1.cell? ⟨b, 0, none⟩ = some (.int .u32 0) ∧ w1.frozen? ⟨b, 0, none⟩ = false ∧ w1.cell? ⟨b, 1, none⟩ = some (.int .i32 1) ∧ w1.frozen? ⟨b, 1, none⟩ = false) ∧ (∃ x, w1.cell? ⟨b, 3, none⟩ = some x) ∧ w1.frozen? ⟨b, 3, none⟩ = false ∧ (∃ x, w1.cell? ⟨b, 4, none⟩ = some x) ∧ w1.frozen? ⟨b, 4, none⟩ = false)
    (hR : ∀ B w1, T B w1 → Calls Try.prog 175 #[.pointer (some ⟨B, 0, none⟩), .string s] ((((w1.setCell ⟨b, 3, none⟩ (.iface 176 (.pointer (some ⟨B, 0, none⟩)))).setCell ⟨b, 4, none⟩ (.slice none 0 0)).drew.setCell ⟨b, 0, none⟩ (.int .u32 1)).setCell ⟨b, 1, none⟩ (.int .i32 0)) fun e w' => e = .returned (.string r) ∧ R w') :
    Calls Try.prog 48 #[.pointer (some ⟨b, 0, none⟩), .string s] w fun e w' => e = .returned (.string r) ∧ R w' := by
  have hmf : ∀ (fn : Fn) (first cap : Array Value) (w : World), (Instr.makeFunc fn first cap).run Try.prog w = .ok (.func fn first cap) w := fun _ _ _ _ => rfl
  have hm : ∀ (B : Nat) (w : World), (method 346 176 (.pointer (some ⟨B, 0, none⟩)) "Replace").run Try.prog w = .ok (175, .pointer (some ⟨B, 0, none⟩)) w := fun _ _ => by kernel_rfl
  have hne : ∀ i j : Nat, i ≠ j → (⟨b, i, none⟩ : Addr) ≠ ⟨b, j, none⟩ := fun i j h e => h (by injection e)
  have hD := do_first b 0 ⟨b, 0, none⟩ (fun w' => ∃ B w1, T B w1 ∧ w' = (w1.setCell ⟨b, 3, none⟩ (.iface 176 (.pointer (some ⟨B, 0, none⟩)))).setCell ⟨b, 4, none⟩ (.slice none 0 0)) w h0 h1 f1 (build_once b T _ hB (fun B w1 h => (hT B w1 h).2)) (by
    rintro w2 ⟨B, w1, h, rfl⟩
    obtain ⟨⟨a0, a1, a2, a3⟩, -⟩ := hT B w1 h
    refine ⟨?_, ?_, ?_, ?_⟩
    · rw [World.cell?_setCell_other _ _ _ _ (hne 4 0 (by decide)), World.cell?_setCell_other _ _ _ _ (hne 3 0 (by decide))]; exact a0
    · rw [World.cell?_setCell_other _ _ _ _ (hne 4 1 (by decide)), World.cell?_setCell_other _ _ _ _ (hne 3 1 (by decide))]; exact a2
    · simpa using a1
    · simpa using a3)
  go_enter Try.func48, Try.ntmps48
  go_wp2_with (first | (go_at_call 76; refine hD.mono ?_; rintro e w2 ⟨rfl, w3, ⟨B, w1, hw1, rfl⟩, rfl⟩; obtain ⟨-, ⟨x, c3⟩, -⟩ := hT B w1 hw1; have g3 : ((((w1.setCell ⟨b, 3, none⟩ (.iface 176 (.pointer (some ⟨B, 0, none⟩)))).setCell ⟨b, 4, none⟩ (.slice none 0 0)).drew.setCell ⟨b, 0, none⟩ (.int .u32 1)).setCell ⟨b, 0 + 1, none⟩ (.int .i32 0)).cell? ⟨b, 3, none⟩ = some (.iface 176 (.pointer (some ⟨B, 0, none⟩))) := (by rw [World.cell?_setCell_other _ _ _ _ (hne 1 3 (by decide)), World.cell?_setCell_other _ _ _ _ (hne 0 3 (by decide)), World.cell?_drew, World.cell?_setCell_other _ _ _ _ (hne 4 3 (by decide))]; exact World.cell?_setCell_same _ _ _ c3); have hRR := hR B w1 hw1; generalize ((((w1.setCell ⟨b, 3, none⟩ (.iface 176 (.pointer (some ⟨B, 0, none⟩)))).setCell ⟨b, 4, none⟩ (.slice none 0 0)).drew.setCell ⟨b, 0, none⟩ (.int .u32 1)).setCell ⟨b, 0 + 1, none⟩ (.int .i32 0)) = w5 at g3 hRR ⊢) | (go_at_call 175; refine hRR.mono ?_; rintro e w' ⟨rfl, hw⟩))
  go_ret
  exact ⟨rfl, hw⟩
end Go.Proofs.Ytkiooiijnolocaa.Once
