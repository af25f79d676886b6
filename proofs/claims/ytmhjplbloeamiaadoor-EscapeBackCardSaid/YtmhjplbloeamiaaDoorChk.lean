/- The pieces of a text in a name, and where they end. Plain Lean over the printed functions. -/
import Derived.Test.YtmhjplbloeamiaaDoorEnd
namespace Go.Proofs.YtmhjplbloeamiaaDoor.H
open Go.RowKit Go.Proofs.YtmhjplbloeamiaaDoor.M Go.Proofs.YtmhjplbloeamiaaDoor.PEsc Go.Proofs.YtmhjplbloeamiaaDoorW.PrintWords Go.Proofs.YtmhjplbloeamiaaDoorW.PrintLast Go.Proofs.YtmhjplbloeamiaaDoorW.PrintMore
set_option linter.unusedVariables false
set_option linter.unusedSimpArgs false
/-- The forms of a byte's piece: with a backslash ahead, as digits, itself. -/
def Piece (i : Nat) (last : Int) (c : UInt8) (ch : Bs) : Prop :=
  (ch = [92, c] ∧ amg [34, 43, 44, 59, 60, 62, 61, 35, 32, 92] c = true) ∨ (ch = 92 :: two2 c) ∨ (ch = [c] ∧ calm c = true ∧ (c.toNat = 32 → i ≠ 0 ∧ (i : Int) ≠ last) ∧ (c.toNat = 35 → i ≠ 0))
theorem plain_all : ∀ n : Fin 256, (amg [34, 43, 44, 59, 60, 62, 61, 92] (UInt8.ofNat n.val) || decide (n.val = 32) || decide (n.val = 35)) = amg [34, 43, 44, 59, 60, 62, 61, 35, 32, 92] (UInt8.ofNat n.val) := by decide +kernel
theorem plain_eq (c : UInt8) : (amg [34, 43, 44, 59, 60, 62, 61, 92] c || decide (c.toNat = 32) || decide (c.toNat = 35)) = amg [34, 43, 44, 59, 60, 62, 61, 35, 32, 92] c := by
  have := plain_all ⟨c.toNat, c.toNat_lt⟩
  simpa using this
theorem put_piece (r : Bool) (last : Int) (i : Nat) (c : UInt8) : Piece i last c (gput r last i c) := by
  unfold gput
  split
  · exact .inr (.inl rfl)
  · split
    · rename_i h1 h2
      refine .inl ⟨rfl, ?_⟩
      rw [← plain_eq]
      unfold p15 at h2
      cases ha : amg [34, 43, 44, 59, 60, 62, 61, 92] c
      · rw [ha] at h2
        simp only [Bool.false_or, Bool.or_eq_true, Bool.and_eq_true, decide_eq_true_eq] at h2 ⊢
        rcases h2 with h | h
        · exact .inl h.1
        · exact .inr h.1
      · rfl
    · rename_i h1 h2
      unfold p15 at h2
      simp only [Bool.or_eq_true, Bool.and_eq_true, decide_eq_true_eq, not_or, not_and, Bool.not_eq_true] at h2
      obtain ⟨⟨ha, hb⟩, hc⟩ := h2
      refine .inr (.inr ⟨rfl, ?_, ?_, ?_⟩)
      · unfold calm; rw [ha]; rfl
      · intro h
        have := hb h
        exact ⟨fun e => this.1 (by omega), this.2⟩
      · intro h e
        exact hc h (by omega)
end Go.Proofs.YtmhjplbloeamiaaDoor.H
