/- The reference's two: its contract in the printer's form. -/
import Derived.Test.YtmhjplbloeamiaaPut
namespace Go.Proofs.Ytmhjplbloeamiaa.H
open Go.RowKit Go.Proofs.Ytmhjplbloeamiaa.M Go.Proofs.YtmhjplbloeamiaaW.PrintWords Go.Proofs.YtmhjplbloeamiaaW.PrintLast Go.Proofs.YtmhjplbloeamiaaW.PrintMore
set_option linter.unusedVariables false
set_option linter.unusedSimpArgs false
def D16 : ByteArray := ⟨#[48, 49, 50, 51, 52, 53, 54, 55, 56, 57, 97, 98, 99, 100, 101, 102]⟩
theorem D16_all : ∀ n : Fin 256, D16.extract (n.val / 16) (n.val / 16 + 1) ++ D16.extract (n.val % 16) (n.val % 16 + 1) = mk (two2 (UInt8.ofNat n.val)) := by decide +kernel
theorem D16_two (c : UInt8) : D16.extract (c.toNat / 16) (c.toNat / 16 + 1) ++ D16.extract (c.toNat % 16) (c.toNat % 16 + 1) = mk (two2 c) := by
  have := D16_all ⟨c.toNat, c.toNat_lt⟩
  simpa using this
set_option maxHeartbeats 1000000 in
theorem ref_two (c : UInt8) (w : World) : Calls Try.prog 26 #[.int .u8 (c.toNat : Int)] w fun e w' => e = .returned (.string (mk (two2 c))) ∧ Drawn0 w w' := by
  have hn := c.toNat_lt
  rw [← D16_two]
  generalize c.toNat = n at *
  have q1 : n / 16 < 16 := by omega
  have q2 : n % 16 < 16 := by omega
  go_enter Try.func26, Try.ntmps26
  go_wp2
  go_region
  go_wp2
  go_ret
  exact ⟨rfl, ⟨1, rfl⟩⟩
def peerageref10_two.f (a0 : Int) : Option ByteArray := if 0 ≤ a0 ∧ a0 < 256 then some (mk (two2 (UInt8.ofNat a0.toNat))) else none
theorem peerageref10_two.calls (a0 : Int) (r : ByteArray) (w : World) (h : peerageref10_two.f a0 = some r) :
    Calls Try.prog 26 #[.int .u8 a0] w fun e w' => e = .returned (.string r) ∧ Drawn0 w w' := by
  unfold peerageref10_two.f at h
  split at h
  case isFalse => cases h
  rename_i hs
  obtain rfl := Option.some.inj h
  have := ref_two (UInt8.ofNat a0.toNat) w
  rw [UInt8.toNat_ofNat', show ((a0.toNat % 2 ^ 8 : Nat) : Int) = a0 by omega] at this
  exact this
end Go.Proofs.Ytmhjplbloeamiaa.H
