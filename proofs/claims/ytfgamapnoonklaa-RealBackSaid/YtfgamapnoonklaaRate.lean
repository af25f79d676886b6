/- What Rate answers, where the division is valid and where it is not: contracts. -/
import Derived.Test.YtfgamapnoonklaaOrd
import Derived.Laws.FloatArith
namespace Go.Proofs.Ytfgamapnoonklaa.H
open Go.RowKit Key
set_option linter.unusedVariables false
set_option linter.unusedSimpArgs false

theorem ofInt_eq (n : Int) : floatOfInt .f64 n = ofInt n := ofInt_write n

set_option maxHeartbeats 1000000 in
theorem rate_some (n k : Int) (r : Nat) (w : World) (h : Ieee.double.div (ofInt n) (ofInt k) = some r) : Calls Try.prog 9 #[.int .i64 n, .int .i64 k] w fun e w' => e = .returned (.float .f64 r) ∧ w = w' := by
  have hq : ∀ w, (binOp .quo 22 (.float .f64 (floatOfInt .f64 n)) (.float .f64 (floatOfInt .f64 k))).run Try.prog w = .ok (.float .f64 r) w := fun w => run_float_arith w .quo 22 .f64 _ _ _ (by rw [ofInt_eq, ofInt_eq]; exact h)
  clear h
  go_enter Try.func9, Try.ntmps9
  go_wp2
  go_ret
  exact ⟨rfl, rfl⟩

/-- The bits of a NaN that the machine takes. -/
def nanOf (x y : Nat) (w : World) : Nat := (Question.nanBits .f64 x y).cut (w.tape w.drawn (.nanBits .f64 x y))

theorem nan_bits (t : Nat) : isNaN (t % 2 * 2 ^ 63 + 0x7ff0000000000000 + 1 + t / 2 % (2 ^ 52 - 1)) = true ∧ t % 2 * 2 ^ 63 + 0x7ff0000000000000 + 1 + t / 2 % (2 ^ 52 - 1) < 2 ^ 64 := by
  have e : INF = 0x7ff0000000000000 := by decide
  have eW : W = 2 ^ 63 := rfl
  have h1 : t / 2 % (2 ^ 52 - 1) < 2 ^ 52 - 1 := Nat.mod_lt _ (by decide)
  generalize t / 2 % (2 ^ 52 - 1) = s at *
  unfold isNaN rg
  rw [e, eW]
  simp only [decide_eq_true_eq]
  rcases (by omega : t % 2 = 0 ∨ t % 2 = 1) with h | h <;> rw [h] <;> omega
theorem nanOf_nan (x y : Nat) (w : World) : isNaN (nanOf x y w) = true := (nan_bits _).1
theorem nanOf_lt (x y : Nat) (w : World) : nanOf x y w < 2 ^ 64 := (nan_bits _).2

set_option maxHeartbeats 1000000 in
theorem rate_none (n k : Int) (w : World) (h : Ieee.double.div (ofInt n) (ofInt k) = none) : Calls Try.prog 9 #[.int .i64 n, .int .i64 k] w fun e w' => ∃ x, e = .returned (.float .f64 x) ∧ isNaN x = true ∧ w' = w.drew := by
  have hq : ∀ w, (binOp .quo 22 (.float .f64 (floatOfInt .f64 n)) (.float .f64 (floatOfInt .f64 k))).run Try.prog w = .ok (.float .f64 (nanOf (ofInt n) (ofInt k) w)) w.drew := fun w => by
    rw [ofInt_eq, ofInt_eq]
    have : Ieee.Format.div FloatKind.f64.format (ofInt n) (ofInt k) = none := h
    simp [binOp, Op.floatArith, this]
    rw [if_neg (by simp [Question.forced])]
    rfl
  clear h
  go_enter Try.func9, Try.ntmps9
  go_wp2
  go_ret
  exact ⟨_, rfl, nanOf_nan _ _ _, rfl⟩
end Go.Proofs.Ytfgamapnoonklaa.H
