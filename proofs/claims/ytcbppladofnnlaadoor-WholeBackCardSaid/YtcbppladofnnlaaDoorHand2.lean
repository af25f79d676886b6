/- Put and Read: contracts in the printer's form. Condition: bytes. -/
import Derived.Test.YtcbppladofnnlaaDoorPutW
namespace Go.Proofs.YtcbppladofnnlaaDoor.H
open Go.RowKit Go.Proofs.YtcbppladofnnlaaDoorW.PrintWords Go.Proofs.YtcbppladofnnlaaDoorW.PrintLast Go.Proofs.YtcbppladofnnlaaDoorW.PrintMore
set_option linter.unusedVariables false
set_option linter.unusedSimpArgs false
def whole_Put.f (a0 : Int) : Option (List Int) := some (norm (full a0))
theorem whole_Put.calls (a0 : Int) (r : List Int) (w : World) (h : whole_Put.f a0 = some r) :
    Calls Tryd.prog 17 #[.int .i64 a0] w fun e w' => ∃ v0_ : Value, e = .returned (v0_) ∧ Kd.R (Kd.int .u8) 5 w' w.heap.size (fun _ => True) v0_ r ∧ Below w.heap.size w w' := by
  obtain rfl := Option.some.inj h
  exact put_calls a0 w
def whole_Read.f (l0 : List Int) : Option (Int × Int) := if okb l0 = true ∧ l0.length ≤ 1000000 then some (rdw l0) else none
theorem whole_Read.calls (A0 : Option Addr) (c0 : Nat) (l0 : List Int) (r1 : Int) (r2 : Int) (w : World) (hr0 : Kd.C (Kd.int .u8) w A0 l0.length l0) (hc0 : l0.length ≤ c0) (h : whole_Read.f l0 = some (r1, r2)) :
    Calls Tryd.prog 18 #[.slice A0 l0.length c0] w fun e w' => e = .returned (.tuple #[.int .i64 r1, .int .i64 r2]) ∧ Drawn0 w w' := by
  unfold whole_Read.f at h
  split at h
  case isFalse => cases h
  rename_i hh
  have h := Option.some.inj h
  refine (read_calls A0 c0 l0 w hr0 hc0 hh.1 hh.2).mono ?_
  rintro e w' ⟨rfl, rfl⟩
  rw [h]
  exact ⟨rfl, Drawn0.refl _⟩
end Go.Proofs.YtcbppladofnnlaaDoor.H
