/- strings.IndexByte: its contract in the printer's form. -/
import Derived.Test.YtmhjplbloeamiaaShelf
import Derived.Test.YtmhjplbloeamiaaWWords
import Derived.Test.YtmhjplbloeamiaaWLast
import Derived.Test.YtmhjplbloeamiaaWMore
namespace Go.Proofs.Ytmhjplbloeamiaa.H
open Go.RowKit Go.Proofs.YtmhjplbloeamiaaW.PrintWords Go.Proofs.YtmhjplbloeamiaaW.PrintLast Go.Proofs.YtmhjplbloeamiaaW.PrintMore
set_option linter.unusedVariables false
def strings_IndexByte.f (s : ByteArray) (c : Int) : Option Int := some (Lib.indexByte s.data.toList c.toNat.toUInt8)
theorem strings_IndexByte.calls (a0 : ByteArray) (a1 : Int) (r : Int) (w : World) (h : strings_IndexByte.f a0 a1 = some r) :
    Calls Try.prog 29 #[.string a0, .int .u8 a1] w fun e w' => e = .returned (.int .i64 r) ∧ Drawn0 w w' := by
  obtain rfl := Option.some.inj h
  refine (Try.strings_IndexByte a0 a1 w).mono ?_
  rintro e w' ⟨rfl, rfl⟩
  exact ⟨rfl, Drawn0.refl _⟩
end Go.Proofs.Ytmhjplbloeamiaa.H
