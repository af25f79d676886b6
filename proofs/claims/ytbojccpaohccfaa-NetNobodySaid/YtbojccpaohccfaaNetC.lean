/- What place, New and Len answer: contracts. -/
import Derived.Test.YtbojccpaohccfaaNetB
namespace Go.Proofs.Ytbojccpaohccfaa.H
open Go.RowKit Go.Proofs.YtbojccpaohccfaaW.PrintWords Go.Proofs.YtbojccpaohccfaaW.PrintLast Go.Proofs.YtbojccpaohccfaaW.PrintMore
set_option linter.unusedVariables false
set_option linter.unusedSimpArgs false
theorem new_calls (w : World) : Calls Try.prog 6 #[] w fun e w' => ∃ q, e = .returned (.pointer (some ⟨q, 0, none⟩)) ∧ w.heap.size ≤ q ∧ Nt w' q nil_ ∧ Below w.heap.size w w' := by
  go_enter Try.func6, Try.ntmps6
  go_wp2
  go_ret
  exact ⟨_, rfl, Nat.le_refl _, blk_new w _, below_alloc (Below.refl _ _) _⟩
theorem len_calls (p : Nat) (A : Option Addr) (n c : Nat) (w : World) (h : Nt w p (.slice A n c)) : Calls Try.prog 14 #[.pointer (some ⟨p, 0, none⟩)] w fun e w' => e = .returned (.int .i64 n) ∧ w = w' := by
  have h1 := h.c1
  have H := Lib.hid h
  clear h
  go_enter Try.func14, Try.ntmps14
  go_wp2_with (go_at_call 18; refine (is_calls _ _ _ H.out).mono ?_; rintro e w1 ⟨rfl, rfl⟩)
  go_ret
  exact ⟨rfl, rfl⟩
set_option maxHeartbeats 4000000 in
theorem place_calls (p : Nat) (A : Option Addr) (c : Nat) (w : World) (h : Nt w p (.slice A 2 c)) : Calls Try.prog 20 #[.pointer (some ⟨p, 0, none⟩), .int .i64 3] w fun e w' => e = .returned (.tuple #[.int .i64 1, .bool true]) ∧ ∃ q, w' = w.drewN q := by
  have h1 := h.c1
  have H := Lib.hid h
  clear h
  go_enter Try.func20, Try.ntmps20
  go_wp2_with (go_at_call 18; refine (is_calls _ _ _ H.out).mono ?_; rintro e w1 ⟨rfl, rfl⟩)
  go_region
  go_wp2
  exact bodyPost_ret (v := .tuple #[.int .i64 1, .bool true]) (by simp [results, Try.results20, go_sem]) rfl ⟨rfl, 1, rfl⟩
end Go.Proofs.Ytbojccpaohccfaa.H
