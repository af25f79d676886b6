/- Seal and Open in the printer's contract form. Condition: bytes. -/
import Derived.Test.YtkckmikpmjecdaaOpenW
namespace Go.Proofs.Ytkckmikpmjecdaa.H
open Go.RowKit Go.Proofs.YtkckmikpmjecdaaW.PrintWords Go.Proofs.YtkckmikpmjecdaaW.PrintLast Go.Proofs.YtkckmikpmjecdaaW.PrintMore
set_option linter.unusedVariables false
def frame_Seal.f (l0 : List Int) : Option (List Int × Int) := if okb l0 = true ∧ l0.length ≤ 65536 then some (sealed l0, 0) else none
theorem frame_Seal.calls (A0 : Option Addr) (c0 : Nat) (l0 : List Int) (r1 : List Int) (r2 : Int) (w : World) (hr0 : Kd.C (Kd.int .u8) w A0 l0.length l0) (hc0 : l0.length ≤ c0) (h : frame_Seal.f l0 = some (r1, r2)) :
    Calls Try.prog 35 #[.slice A0 l0.length c0] w fun e w' => ∃ v0_ : Value, e = .returned (.tuple #[v0_, .int .i64 r2]) ∧ Kd.R (Kd.int .u8) 5 w' w.heap.size (fun _ => True) v0_ r1 ∧ Below w.heap.size w w' := by
  unfold frame_Seal.f at h
  split at h
  · rename_i hh
    obtain ⟨rfl, rfl⟩ := Prod.mk.inj (Option.some.inj h)
    exact seal_calls A0 c0 l0 w hr0 hc0 hh.1 hh.2
  · exact absurd h (by simp)
def frame_Open.f (l0 : List Int) : Option (List Int × Int × Int) := if okb l0 = true ∧ l0.length ≤ 1000000000 then some (opened l0) else none
theorem frame_Open.calls (A0 : Option Addr) (c0 : Nat) (l0 : List Int) (r1 : List Int) (r2 r3 : Int) (w : World) (hr0 : Kd.C (Kd.int .u8) w A0 l0.length l0) (hc0 : l0.length ≤ c0) (h : frame_Open.f l0 = some (r1, r2, r3)) :
    Calls Try.prog 44 #[.slice A0 l0.length c0] w fun e w' => ∃ v0_ : Value, e = .returned (.tuple #[v0_, .int .i64 r2, .int .i64 r3]) ∧ Kd.R (Kd.int .u8) 5 w' w.heap.size (fun _ => True) v0_ r1 ∧ Below w.heap.size w w' := by
  unfold frame_Open.f at h
  split at h
  · rename_i hh
    have hp := open_calls A0 c0 l0 w hr0 hc0 hh.1 hh.2
    unfold OpenPost at hp
    rw [Option.some.inj h] at hp
    exact hp
  · exact absurd h (by simp)
end Go.Proofs.Ytkckmikpmjecdaa.H
