/- strings.IndexByte: its contract in the printer's form. -/
import Derived.Test.YtmhjplbloeamiaaDoorShelf
import Derived.Test.YtmhjplbloeamiaaDoorWWords
import Derived.Test.YtmhjplbloeamiaaDoorWLast
import Derived.Test.YtmhjplbloeamiaaDoorWMore
namespace Go.Proofs.YtmhjplbloeamiaaDoor.H
open Go.RowKit Go.Proofs.YtmhjplbloeamiaaDoorW.PrintWords Go.Proofs.YtmhjplbloeamiaaDoorW.PrintLast Go.Proofs.YtmhjplbloeamiaaDoorW.PrintMore
set_option linter.unusedVariables false
def strings_IndexByte.f (s : ByteArray) (c : Int) : Option Int := some (Lib.indexByte s.data.toList c.toNat.toUInt8)
theorem strings_IndexByte.calls (a0 : ByteArray) (a1 : Int) (r : Int) (w : World) (h : strings_IndexByte.f a0 a1 = some r) :
    Calls Tryd.prog 28 #[.string a0, .int .u8 a1] w fun e w' => e = .returned (.int .i64 r) ∧ Drawn0 w w' := by
  obtain rfl := Option.some.inj h
  refine (Tryd.strings_IndexByte a0 a1 w).mono ?_
  rintro e w' ⟨rfl, rfl⟩
  exact ⟨rfl, Drawn0.refl _⟩
def strings_TrimLeft.f (s cut : ByteArray) : Option ByteArray := if cut = ⟨#[32]⟩ then some ⟨(Lib.trimLeftB s.data.toList 32).toArray⟩ else none
theorem strings_TrimLeft.calls (a0 a1 r : ByteArray) (w : World) (h : strings_TrimLeft.f a0 a1 = some r) :
    Calls Tryd.prog 16 #[.string a0, .string a1] w fun e w' => e = .returned (.string r) ∧ Drawn0 w w' := by
  unfold strings_TrimLeft.f at h
  split at h
  case isFalse => cases h
  rename_i hc
  subst hc
  obtain rfl := Option.some.inj h
  refine (Tryd.strings_TrimLeft_one a0 32 (by decide) w).mono ?_
  rintro e w' ⟨rfl, rfl⟩
  exact ⟨rfl, Drawn0.refl _⟩
def strings_TrimRight.f (s cut : ByteArray) : Option ByteArray := if cut = ⟨#[32]⟩ ∧ s.size ≤ 1000000000 then some ⟨(Lib.trimRightB s.data.toList 32).toArray⟩ else none
theorem strings_TrimRight.calls (a0 a1 r : ByteArray) (w : World) (h : strings_TrimRight.f a0 a1 = some r) :
    Calls Tryd.prog 18 #[.string a0, .string a1] w fun e w' => e = .returned (.string r) ∧ Drawn0 w w' := by
  unfold strings_TrimRight.f at h
  split at h
  case isFalse => cases h
  rename_i hc
  obtain ⟨hc, hs⟩ := hc
  subst hc
  obtain rfl := Option.some.inj h
  refine (Tryd.strings_TrimRight_one a0 32 (by decide) w (by omega)).mono ?_
  rintro e w' ⟨rfl, rfl⟩
  exact ⟨rfl, Drawn0.refl _⟩
end Go.Proofs.YtmhjplbloeamiaaDoor.H
