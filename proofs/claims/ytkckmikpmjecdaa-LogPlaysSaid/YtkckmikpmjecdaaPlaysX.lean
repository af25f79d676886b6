/- After any sequence of calls and crashes a log has the documented records and bytes: the law for all arguments. No condition beyond the reading of the arguments. -/
import Derived.Test.YtkckmikpmjecdaaPlaysW
namespace Go.Proofs.Ytkckmikpmjecdaa.HF
open Go.RowKit Go.Proofs.Ytkckmikpmjecdaa.H Go.Proofs.YtkckmikpmjecdaaW.PrintWords Go.Proofs.YtkckmikpmjecdaaW.PrintLast Go.Proofs.YtkckmikpmjecdaaW.PrintMore
set_option linter.unusedVariables false
set_option linter.unusedSimpArgs false
set_option maxRecDepth 100000 in
theorem plays_long (A0 : Option Addr) (c0 n0 : Nat) (w : World) (hl : 80 < n0) :
    Calls Try.prog 7 #[.slice A0 n0 c0] w fun e w' => e = .returned (.bool true) ∧ Below w.heap.size w w' := by
  have d1 : decide ((80 : Int) < (n0 : Int)) = true := decide_eq_true (by omega)
  clear hl
  go_enter Try.func7, Try.ntmps7
  go_wp2_with (first
    | (go_at_call 8; refine (new_calls _).mono ?_; rintro e w1 ⟨p, rfl, hp, hd, hb⟩; have HP := Lib.hid hp; have HD1 := Lib.hid (show Dq w1 w.heap.size p [] 0 from ⟨none, 0, hd, .inl (Kd.R_nil _ _ _ _ _)⟩); have HB1 := Lib.hid hb; clear hp hd hb)
    | (go_at_call 19; refine (open_good w p [] _ HD1.out HP.out HB1.out rfl (by simp) scan_nil (.inl rfl)).mono ?_; rintro e w2 ⟨q, A2, n2, c2, rfl, hq, hlg, hf, hn2, _, _, hb, _⟩; obtain rfl : n2 = 0 := hn2; have HB2 := Lib.hid hb; clear hq hlg hf hb))
  exact bodyPost_ret (v := .bool true) (by simp [results, Try.results7, go_sem]) rfl ⟨rfl, HB2.out⟩
theorem plays_all (A0 : Option Addr) (c0 : Nat) (l : List Ac) (w : World) (h0 : Acts w A0 l) :
    Calls Try.prog 7 #[.slice A0 l.length c0] w fun e w' => e = .returned (.bool true) ∧ Below w.heap.size w w' := by
  by_cases hl : l.length ≤ 80
  · exact plays_walk A0 c0 l w h0 hl
  · exact plays_long A0 c0 _ w (by omega)
end Go.Proofs.Ytkckmikpmjecdaa.HF
