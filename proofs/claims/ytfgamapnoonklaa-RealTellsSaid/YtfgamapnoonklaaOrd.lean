/- What IsNaN and Order answer, whatever two numbers by their bits: contracts. No condition. -/
import Derived.Test.YtfgamapnoonklaaProg
import Derived.Test.YtfgamapnoonklaaKey
import Derived.WalkKit
import Derived.WalkLawsBesides
import Derived.WalkSpells
import Derived.Lib.Hide
import Derived.BigQuiet
import Derived.Deep.QuietTactic
namespace Go.Proofs.Ytfgamapnoonklaa.H
open Go.RowKit Key
set_option linter.unusedVariables false
set_option linter.unusedSimpArgs false

theorem isnan_calls (x : Nat) (w : World) : Calls Try.prog 23 #[.float .f64 x] w fun e w' => e = .returned (.bool (isNaN x)) ∧ w = w' := by
  have hx : (FloatKind.f64.format.order x x != some .eq) = isNaN x := order_self x
  go_enter Try.func23, Try.ntmps23
  go_wp2
  go_ret
  exact ⟨rfl, rfl⟩

/-- The order of two numbers: what is none is above all. -/
def ord (a b : Nat) : Int := if isNaN a then (if isNaN b then 0 else 1) else if isNaN b then -1 else if key b < key a then 1 else if key a < key b then -1 else 0

def Ans (n : Int) (w : World) (e : Ending) (w' : World) : Prop := e = .returned (.int .i64 n) ∧ w = w'

set_option maxHeartbeats 1000000 in
theorem order_any (a b : Nat) (w : World) : Calls Try.prog 10 #[.float .f64 a, .float .f64 b] w (Ans (ord a b) w) := by
  cases ha : isNaN a
  · cases hb : isNaN b
    · have hg : (FloatKind.f64.format.order a b == some .gt) = decide (key b < key a) := order_gt ha hb
      have hl : (FloatKind.f64.format.order a b == some .lt) = decide (key a < key b) := order_lt ha hb
      by_cases h1 : key b < key a
      · have ho : ord a b = 1 := by simp [ord, ha, hb, h1]
        rw [ho]
        replace hg : (FloatKind.f64.format.order a b == some .gt) = true := by rw [hg]; simpa using h1
        replace hl : (FloatKind.f64.format.order a b == some .lt) = false := by rw [hl]; simp; omega
        clear h1 ho
        go_enter Try.func10, Try.ntmps10
        go_wp2_with (go_at_call 23; refine (isnan_calls _ _).mono ?_; rintro e w' ⟨rfl, rfl⟩)
        go_ret
        exact ⟨rfl, rfl⟩
      · by_cases h2 : key a < key b
        · have ho : ord a b = -1 := by simp [ord, ha, hb, h1, h2]
          rw [ho]
          replace hg : (FloatKind.f64.format.order a b == some .gt) = false := by rw [hg]; simpa using h1
          replace hl : (FloatKind.f64.format.order a b == some .lt) = true := by rw [hl]; simpa using h2
          clear h1 h2 ho
          go_enter Try.func10, Try.ntmps10
          go_wp2_with (go_at_call 23; refine (isnan_calls _ _).mono ?_; rintro e w' ⟨rfl, rfl⟩)
          go_ret
          exact ⟨rfl, rfl⟩
        · have ho : ord a b = 0 := by simp [ord, ha, hb, h1, h2]
          rw [ho]
          replace hg : (FloatKind.f64.format.order a b == some .gt) = false := by rw [hg]; simpa using h1
          replace hl : (FloatKind.f64.format.order a b == some .lt) = false := by rw [hl]; simpa using h2
          clear h1 h2 ho
          go_enter Try.func10, Try.ntmps10
          go_wp2_with (go_at_call 23; refine (isnan_calls _ _).mono ?_; rintro e w' ⟨rfl, rfl⟩)
          go_ret
          exact ⟨rfl, rfl⟩
    · have ho : ord a b = -1 := by simp [ord, ha, hb]
      rw [ho]
      clear ho
      go_enter Try.func10, Try.ntmps10
      go_wp2_with (go_at_call 23; refine (isnan_calls _ _).mono ?_; rintro e w' ⟨rfl, rfl⟩)
      go_ret
      exact ⟨rfl, rfl⟩
  · cases hb : isNaN b
    · have ho : ord a b = 1 := by simp [ord, ha, hb]
      rw [ho]
      clear ho
      go_enter Try.func10, Try.ntmps10
      go_wp2_with (go_at_call 23; refine (isnan_calls _ _).mono ?_; rintro e w' ⟨rfl, rfl⟩)
      go_ret
      exact ⟨rfl, rfl⟩
    · have ho : ord a b = 0 := by simp [ord, ha, hb]
      rw [ho]
      clear ho
      go_enter Try.func10, Try.ntmps10
      go_wp2_with (go_at_call 23; refine (isnan_calls _ _).mono ?_; rintro e w' ⟨rfl, rfl⟩)
      go_ret
      exact ⟨rfl, rfl⟩
theorem order_calls (a b : Nat) (w : World) : Calls Try.prog 10 #[.float .f64 a, .float .f64 b] w fun e w' => e = .returned (.int .i64 (ord a b)) ∧ w = w' := order_any a b w
end Go.Proofs.Ytfgamapnoonklaa.H
