/- Records in consecutive frames are scanned back: both walks in one. -/
import Derived.Test.YtojdkfhjhheeaaaBackL
import Derived.Test.YtojdkfhjhheeaaaRowsA
namespace Go.Proofs.Ytojdkfhjhheeaaa.H
open Go.RowKit Go.Proofs.YtojdkfhjhheeaaaW.PrintWords Go.Proofs.YtojdkfhjhheeaaaW.PrintLast Go.Proofs.YtojdkfhjhheeaaaW.PrintMore
set_option linter.unusedVariables false
theorem back_walk (x : Int) (A : Option Addr) (c : Nat) (rows : List (List Int)) (w : World) (hr : Kd.C (Kd.slice 5 (Kd.int .u8)) w A rows.length rows) (hc : rows.length ≤ c) (hb : ∀ r ∈ rows, okb r = true) :
    Calls Try.prog 7 #[.slice A rows.length c, .int .i64 x] w fun e w' => e = .returned (.bool true) ∧ Below w.heap.size w w' := by
  rcases Nat.lt_or_ge 20 rows.length with h | h
  · exact back_long x A c rows w (by have h2 := Kd.C_take (m := 20) hr (by omega); rw [show (rows.take 20).length = 20 by rw [List.length_take]; omega] at h2; exact h2) hc hb h
  · exact back_short x A c rows w hr hc hb h
end Go.Proofs.Ytojdkfhjhheeaaa.H
