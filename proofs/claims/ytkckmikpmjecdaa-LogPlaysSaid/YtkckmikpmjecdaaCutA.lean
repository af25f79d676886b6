/- The question of Cut: a contract. -/
import Derived.Test.YtkckmikpmjecdaaDkY
namespace Go.Proofs.Ytkckmikpmjecdaa.H
open Go.RowKit Go.Proofs.YtkckmikpmjecdaaW.PrintWords Go.Proofs.YtkckmikpmjecdaaW.PrintLast Go.Proofs.YtkckmikpmjecdaaW.PrintMore
set_option linter.unusedVariables false
set_option linter.unusedSimpArgs false
theorem cut_bad (p g : Nat) (v : Value) (s x : Int) (w : World) (h : Dk w p v s) (hg : w.cell? ⟨g, 0, none⟩ = some (.int .i64 x)) (hx : x < 0) : Calls Try.prog 41 #[.pointer (some ⟨p, 0, none⟩), .pointer (some ⟨g, 0, none⟩)] w fun e w' => e = .returned (.int .i64 2) ∧ ∃ q, w' = w.drewN q := by
  have h1 := h.c1
  have ht : decide (x < (0 : Int)) = true := decide_eq_true hx
  clear h
  go_enter Try.func41, Try.ntmps41
  go_wp2
  go_region
  go_wp2
  go_ret
  exact ⟨rfl, 1, rfl⟩
theorem cut_ok (p g : Nat) (A : Option Addr) (n c : Nat) (s x : Int) (w : World) (h : Dk w p (.slice A n c) s) (hg : w.cell? ⟨g, 0, none⟩ = some (.int .i64 x)) (h0 : 0 ≤ x) (hx : x ≤ n) : Calls Try.prog 41 #[.pointer (some ⟨p, 0, none⟩), .pointer (some ⟨g, 0, none⟩)] w fun e w' => e = .returned (.int .i64 0) ∧ ∃ q, w' = w.drewN q := by
  have h1 := h.c1
  have ht : decide (x < (0 : Int)) = false := decide_eq_false (by omega)
  have ht2 : decide ((n : Int) < x) = false := decide_eq_false (by omega)
  clear h
  go_enter Try.func41, Try.ntmps41
  go_wp2
  go_region
  go_wp2
  go_ret
  exact ⟨rfl, 1, rfl⟩
end Go.Proofs.Ytkckmikpmjecdaa.H
